/- Graphs: the walks of the searches, of has, hasNode, parts, connected. Conditions: those of each contract. -/
import Derived.Test.YthlgbeakcobeoaaGra1
namespace Go.Proofs.Ythlgbeakcobeoaa
open Go
theorem RL.nilG {α : Type} [Enc α] {w : World} {v : Value} {xs : List α} (h : RL w v xs) (hv : vfp v = []) : xs = [] := by
  rcases h.2 with ⟨_, h0⟩ | ⟨b, off, cap, rfl, _⟩
  · exact List.eq_nil_of_length_eq_zero h0
  · simp [vfp] at hv
set_option linter.unusedVariables false set_option linter.unusedSimpArgs false attribute [local irreducible] Tok.own Tok.blk RL Rd eptr WP WPL PE WPD WPO Op1 OpE Tri Again Mid Exit.then Exit.inBlock bodyPost RP Code.wp wpList isOwn OneM One
set_option maxHeartbeats 8000000

theorem c_CloneE (w : World) (v : Value) (es : List E) (h : RL w v es) (hl : es.length ≤ 1099511627776) :
    Tri Try.prog 129 [v] w [] fun r T => T = [Tok.own r es] := by
  refine Tri.intro (hf := Try.func129) (hb := rfl) (hn := Try.ntmps129) (Nat.le_of_ble_eq_true rfl) ?_
  try refine go ⟨?_⟩
  refine WP.cond rfl (fun hn => ?_) (fun hn => ?_)
  · have hx : es = [] := RL.nilG h (by simpa using hn)
    subst hx
    try refine go ⟨?_⟩
    refine PE.nilTok E ?_
    refine PE.ret1 (T := []) (T' := [Tok.own _ ([] : List E)]) rfl rV ?_ sT
    rfl
  · try refine go ⟨?_⟩
    refine WPL.eff (OpE.buildSlice ([] : List E) pA rfl (by decide)) rfl rfl ?_; rintro s _ rfl
    try refine go ⟨?_⟩
    refine WPL.eff (OpE.append rfl rfl pM rD lN) rfl rfl ?_; rintro r _ rfl
    try refine go ⟨?_⟩
    refine PE.ret1 (T := []) (T' := [Tok.own r es]) rfl rV ?_ sT
    rfl

/-- x is a node of a valid graph. -/
def GN (n : Int) (es : List E) (x : Int) : Prop := GV n es ∧ Nd n x
instance (n : Int) (es : List E) (x : Int) : Decidable (GN n es x) := by unfold GN; infer_instance

theorem c_hasNodeG (w : World) (n : Int) (vE : Value) (es : List E) (x : Int) (hE : RL w vE es) (hl : es.length ≤ 1099511627776) :
    Tri Try.prog 71 [.agg #[.int .i64 n, vE], .int .i64 x] w [] fun r T => r = .bool (decide (GN n es x)) ∧ T = [] := by
  refine Tri.intro (hf := Try.func71) (hb := rfl) (hn := Try.ntmps71) (Nat.le_of_ble_eq_true rfl) ?_
  try refine go ⟨?_⟩
  refine WPL.eff (OpE.box rfl) rfl rfl ?_; rintro _ _ ⟨b, rfl, rfl⟩
  try refine go ⟨?_⟩
  refine WPL.eff (OpE.call lO (fun w hw => c_GraphValid _ n vE es (Rd.at rD hw) hl)) rfl rfl ?_
  rintro r _ ⟨T, ⟨rfl, rfl⟩, rfl⟩
  repeat' (first | refine go ⟨?_⟩ | (refine isCond ?_; refine WP.condD rfl (fun hc => ?_) (fun hc => ?_)) | (refine isGuard ?_; refine WPL.splitD rfl rfl (fun hc => ?_) (fun hc => ?_)))
  all_goals (refine PE.ret1 (T := []) (T' := []) rfl rV ?_ sT)
  · refine ⟨?_, rfl⟩
    congr 1; rw [decide_eq_decide]; unfold GN Nd; constructor
    · intro h; exact ⟨by assumption, by assumption, h⟩
    · intro h; exact h.2.2
  · refine ⟨?_, rfl⟩
    rw [decide_eq_false]; unfold GN Nd; omega
  · refine ⟨?_, rfl⟩
    rw [decide_eq_false]; unfold GN; intro h; exact absurd h.1 ‹_›

theorem GV.okE {n : Int} {es : List E} (h : GV n es) : okE n es := by
  intro e he
  obtain ⟨i, hi, rfl⟩ := mem_getD (d := eD) he
  have := h.2.2.2 i hi
  unfold okG at this
  unfold Nd; omega

/-- What is asked of the edges where only their nodes matter. -/
structure NE (n : Int) (es : List E) : Prop where
  n1 : 0 ≤ n
  n2 : n ≤ 16
  ok : okE n es
  le : es.length ≤ 1000
theorem GV.ne {n : Int} {es : List E} (h : GV n es) : NE n es := ⟨by have := h.1; omega, h.2.1, h.okE, by have := h.2.2.1; omega⟩

theorem c_parts (w : World) (n : Int) (vE : Value) (es : List E) (hE : RL w vE es) (hg : NE n es) :
    Tri Try.prog 72 [.agg #[.int .i64 n, vE]] w [] fun r T => T = [Tok.own r (labs n es)] := by
  have hl := hg.le
  have hn1 := hg.n1
  have hn2 := hg.n2
  refine Tri.intro (hf := Try.func72) (hb := rfl) (hn := Try.ntmps72) (Nat.le_of_ble_eq_true rfl) ?_
  try refine go ⟨?_⟩
  refine WPL.eff (OpE.box rfl) rfl rfl ?_; rintro _ _ ⟨b, rfl, rfl⟩
  try refine go ⟨?_⟩
  refine WPL.eff (OpE.buildSlice ([] : List Int) pA rfl (by decide)) rfl rfl ?_; rintro s _ rfl
  try refine go ⟨?_⟩
  refine WP.loop (σ := Nat × Value) (fun k => [(1, .pointer (some ⟨b, 0, none⟩)), (3, k.2), (10, .int .i64 n), (11, .int .i64 k.1)]) (fun k => [Tok.own k.2 (iota k.1), Tok.blk b [.int .i64 n, vE]]) (fun k => k.1 ≤ n.toNat) (fun k => n.toNat - k.1) (0, s) (Nat.zero_le _) sE sT ?_
  rintro ⟨k, v⟩ hk
  dsimp only at hk ⊢
  try refine go ⟨?_⟩
  refine WP.condD rfl (fun hc => ?_) (fun hc => ?_)
  · try refine go ⟨?_⟩
    refine WPL.eff (OpE.buildSlice [(k : Int)] pA rfl (by decide)) rfl rfl ?_; rintro s1 _ rfl
    try refine go ⟨?_⟩
    have hil := iota_length k
    refine WPL.eff (OpE.append rfl rfl pM rD lN) rfl rfl ?_; rintro v1 _ rfl
    try refine go ⟨?_⟩
    rw [← iota_succ]
    refine PE.again (k + 1, v1) ?_ ?_ sE sT
    · dsimp only; omega
    · dsimp only; omega
  have hkn : k = n.toNat := by omega
  subst hkn
  try refine go ⟨?_⟩
  refine WP.loop (σ := Nat) (fun k => [(1, .pointer (some ⟨b, 0, none⟩)), (3, v), (20, .int .i64 n), (21, .int .i64 k)]) (fun k => [Tok.own v (rnd es (iota n.toNat) k), Tok.blk b [.int .i64 n, vE]]) (fun k => k ≤ n.toNat) (fun k => n.toNat - k) 0 (Nat.zero_le _) sE sT ?_
  intro k hk
  try refine go ⟨?_⟩
  refine WP.condD rfl (fun hc2 => ?_) (fun hc2 => ?_)
  · try refine go ⟨?_⟩
    refine WP.loop (σ := Nat) (fun j => [(1, .pointer (some ⟨b, 0, none⟩)), (3, v), (20, .int .i64 n), (21, .int .i64 k), (24, vE), (25, .int .i64 es.length), (26, .int .i64 j)]) (fun j => [Tok.own v ((es.take j).foldl relx (rnd es (iota n.toNat) k)), Tok.blk b [.int .i64 n, vE]]) (fun j => j ≤ es.length) (fun j => es.length - j) 0 (Nat.zero_le _) sE sT ?_
    intro j hj
    try refine go ⟨?_⟩
    refine WP.condD rfl (fun hc3 => ?_) (fun hc3 => ?_)
    · obtain ⟨out, ho⟩ : ∃ out, out = (es.take j).foldl relx (rnd es (iota n.toNat) k) := ⟨_, rfl⟩
      have hol : out.length = n.toNat := by rw [ho, fold_length, rnd_length, iota_length]
      rw [← ho]
      have hj' : j < es.length := by omega
      obtain ⟨hA, hB⟩ := hg.ok (es.getD j eD) (getD_memI hj')
      have hA1 := hA.1
      have hA2 := hA.2
      have hB1 := hB.1
      have hB2 := hB.2
      try refine go ⟨?_⟩
      refine WPL.eff OpE.alloc rfl rfl ?_; rintro _ _ ⟨be, rfl, rfl⟩
      try refine go ⟨?_⟩
      refine WP.draw [Tok.own v out, Tok.blk be [.int .i64 (es.getD j eD).A, .int .i64 (es.getD j eD).B]] mixed ?_
      refine WPD.take 0 rfl (Op1.move rfl) rfl rfl sT kR kR kR xQP ?_
      refine WPD.take 1 rfl (by first | exact (Op1.fieldAddr rfl) | exact (Op1.fieldAddrE rfl rD lT)) rfl rfl sT kR kR kR xQP ?_
      refine WPD.take 5 rfl (Op1.move rfl) rfl rfl sT kR kR kR xQP ?_
      refine WPD.take 6 rfl (by first | exact (Op1.fieldAddr rfl) | exact (Op1.fieldAddrE rfl rD lT)) rfl rfl sT kR kR kR xQP ?_
      refine WPD.take 2 rfl (by first | exact (Op1.load rfl mM (by rfl)) | exact (Op1.loadI rfl rD lT) | exact (Op1.loadAll rfl mM (by rfl)) | exact (Op1.loadE rfl rD lT (by rfl)) | exact (Op1.loadEAgg rfl rD lT (by rfl))) rfl rfl sT kR kR kR xQP ?_
      refine WPD.take 7 rfl (by first | exact (Op1.load rfl mM (by rfl)) | exact (Op1.loadI rfl rD lT) | exact (Op1.loadAll rfl mM (by rfl)) | exact (Op1.loadE rfl rD lT (by rfl)) | exact (Op1.loadEAgg rfl rD lT (by rfl))) rfl rfl sT kR kR kR xQP ?_
      refine WPD.take 3 rfl (by first | exact (Op1.indexAddr rfl rfl rD lT) | exact (Op1.indexAddrZ rfl rfl rD lT)) rfl rfl sT kR kR kR xQP ?_
      refine WPD.take 8 rfl (by first | exact (Op1.indexAddr rfl rfl rD lT) | exact (Op1.indexAddrZ rfl rfl rD lT)) rfl rfl sT kR kR kR xQP ?_
      refine WPD.take 4 rfl (by first | exact (Op1.load rfl mM (by rfl)) | exact (Op1.loadI rfl rD lT) | exact (Op1.loadAll rfl mM (by rfl)) | exact (Op1.loadE rfl rD lT (by rfl)) | exact (Op1.loadEAgg rfl rD lT (by rfl))) rfl rfl sT kR kR kR xQP ?_
      refine WPD.take 9 rfl (by first | exact (Op1.load rfl mM (by rfl)) | exact (Op1.loadI rfl rD lT) | exact (Op1.loadAll rfl mM (by rfl)) | exact (Op1.loadE rfl rD lT (by rfl)) | exact (Op1.loadEAgg rfl rD lT (by rfl))) rfl rfl sT kR kR kR xQP ?_
      refine WPD.take 10 rfl (Op1.bmin rfl rfl) rfl rfl sT kR kR kR xQP ?_
      refine WPD.eff 11 kR rfl (OpE.ofPure (Op1.assign rfl)) rfl rfl ?_
      rintro _ _ ⟨rfl, rfl⟩
      refine ⟨sT, ?_⟩
      refine WPD.done kR ?_
      try refine go ⟨?_⟩
      refine WP.draw [Tok.blk be [.int .i64 (es.getD j eD).A, .int .i64 (es.getD j eD).B]] mixed ?_
      refine WPD.take 0 rfl (Op1.move rfl) rfl rfl sT kR kR kR xQP ?_
      refine WPD.take 1 rfl (by first | exact (Op1.fieldAddr rfl) | exact (Op1.fieldAddrE rfl rD lT)) rfl rfl sT kR kR kR xQP ?_
      refine WPD.take 3 rfl (Op1.move rfl) rfl rfl sT kR kR kR xQP ?_
      refine WPD.take 4 rfl (by first | exact (Op1.fieldAddr rfl) | exact (Op1.fieldAddrE rfl rD lT)) rfl rfl sT kR kR kR xQP ?_
      refine WPD.take 6 rfl (Op1.move rfl) rfl rfl sT kR kR kR xQP ?_
      refine WPD.take 7 rfl (Op1.move rfl) rfl rfl sT kR kR kR xQP ?_
      refine WPD.take 2 rfl (by first | exact (Op1.load rfl mM (by rfl)) | exact (Op1.loadI rfl rD lT) | exact (Op1.loadAll rfl mM (by rfl)) | exact (Op1.loadE rfl rD lT (by rfl)) | exact (Op1.loadEAgg rfl rD lT (by rfl))) rfl rfl sT kR kR kR xQP ?_
      refine WPD.take 5 rfl (by first | exact (Op1.load rfl mM (by rfl)) | exact (Op1.loadI rfl rD lT) | exact (Op1.loadAll rfl mM (by rfl)) | exact (Op1.loadE rfl rD lT (by rfl)) | exact (Op1.loadEAgg rfl rD lT (by rfl))) rfl rfl sT kR kR kR xQP ?_
      refine WPD.eff 8 kR rfl (OpE.ofPure (by first | exact (Op1.indexAddr rfl rfl rD lT) | exact (Op1.indexAddrZ rfl rfl rD lT))) rfl rfl ?_
      rintro _ _ ⟨rfl, rfl⟩
      refine ⟨sT, ?_⟩
      refine WPD.eff0 9 kR rfl (OpE.store1 (_) rfl rfl pM lT rfl) rfl ?_
      rintro _ _ rfl
      refine ⟨sT, ?_⟩
      refine WPD.eff 10 kR rfl (OpE.ofPure (by first | exact (Op1.indexAddr rfl rfl rD lT) | exact (Op1.indexAddrZ rfl rfl rD lT))) rfl rfl ?_
      rintro _ _ ⟨rfl, rfl⟩
      refine ⟨sT, ?_⟩
      refine WPD.eff0 11 kR rfl (OpE.store1 (_) rfl rfl pM lT rfl) rfl ?_
      rintro _ _ rfl
      refine ⟨sT, ?_⟩
      refine WPD.done kR ?_
      try refine go ⟨?_⟩
      have hs := foldl_takeS eD relx (rnd es (iota n.toNat) k) hj'
      rw [← ho] at hs
      have hr : (out.set (es.getD j eD).A.toNat (min (out.getD (es.getD j eD).A.toNat 0) (out.getD (es.getD j eD).B.toNat 0))).set (es.getD j eD).B.toNat (min (out.getD (es.getD j eD).A.toNat 0) (out.getD (es.getD j eD).B.toNat 0)) = relx out (es.getD j eD) := rfl
      rw [hr, ← hs]
      refine PE.again (j + 1) ?_ ?_ sE sT
      · omega
      · omega
    · have hjn : j = es.length := by omega
      subst hjn
      rw [List.take_length]
      try refine go ⟨?_⟩
      refine PE.again (k + 1) ?_ ?_ sE sT
      · omega
      · omega
  · have hkn : k = n.toNat := by omega
    subst hkn
    try refine go ⟨?_⟩
    refine PE.ret1 (T := []) (T' := [Tok.own v (labs n es)]) rfl rV ?_ sT
    rfl
end Go.Proofs.Ythlgbeakcobeoaa
