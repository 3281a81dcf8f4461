/- Texts put together: SpG1, SpG2, SpG3, HlpG, HlpH, Dy, HlpM, HlpN, HlpO, GraA, Rnd, DrwG, DrwH, DrwI, Uni, LPartsOf, LPartNodes, LPartCount, LBridgePut, LExactSafeTogether, LExactCutNode, Fin. Conditions: those of each theorem. -/
import Derived.Test.YthlgbeakcobeoaaRows
import Derived.WalkKit
import Derived.ProofKit
import Derived.OpenShut
import Derived.ShutString
import Derived.ChangeOld
import Derived.Below
import Derived.Lib.SmallJoins
import Derived.Test.YthlgbeakcobeoaaV2
set_option linter.unusedVariables false
set_option linter.unusedSimpArgs false
/- Graphs: the walks of the second program's labels, parts, forests, PutEdge, CutNode. Conditions: those of each contract. -/
namespace Go.Proofs.Ythlgbeakcobeoaa
open Go
set_option linter.unusedVariables false set_option linter.unusedSimpArgs false attribute [local irreducible] Tok.own Tok.blk RL Rd eptr WP WPL PE WPD WPO Op1 OpE Tri Again Mid Exit.then Exit.inBlock bodyPost RP Code.wp wpList isOwn OneM One
set_option maxHeartbeats 8000000

theorem s_Labels (w : World) (n : Int) (vE : Value) (es : List E) (hE : RL w vE es) (hg : NE n es) :
    Tri Try.prog 69 [.agg #[.int .i64 n, vE]] w [] fun r T => T = [Tok.own r (labs n es)] := by
  have hl := hg.le
  have hn1 := hg.n1
  have hn2 := hg.n2
  refine Tri.intro (hf := Try.func69) (hb := rfl) (hn := Try.ntmps69) (Nat.le_of_ble_eq_true rfl) ?_
  try refine go ⟨?_⟩
  refine WPL.eff (OpE.box rfl) rfl rfl ?_; rintro _ _ ⟨b, rfl, rfl⟩
  try refine go ⟨?_⟩
  refine WPL.eff (OpE.buildSlice ([] : List Int) pA rfl (by decide)) rfl rfl ?_; rintro s _ rfl
  try refine go ⟨?_⟩
  refine WP.loop (σ := Nat × Value) (fun k => [(1, .pointer (some ⟨b, 0, none⟩)), (3, k.2), (4, .int .i64 k.1)]) (fun k => [Tok.own k.2 (iota k.1), Tok.blk b [.int .i64 n, vE]]) (fun k => k.1 ≤ n.toNat) (fun k => n.toNat - k.1) (0, s) (Nat.zero_le _) sE sT ?_
  rintro ⟨k, v⟩ hk
  dsimp only at hk ⊢
  try refine go ⟨?_⟩
  refine WP.condD rfl (fun hc => ?_) (fun hc => ?_)
  · try refine go ⟨?_⟩
    refine WPL.eff (OpE.buildSlice [(k : Int)] pA rfl (by decide)) rfl rfl ?_; rintro s1 _ rfl
    try refine go ⟨?_⟩
    have hil := iota_length k
    refine WPL.eff (OpE.append rfl rfl pM rD lN) rfl rfl ?_; rintro v1 _ rfl
    try refine go ⟨?_⟩
    rw [← iota_succ]
    refine PE.again (k + 1, v1) ?_ ?_ sE sT
    · dsimp only; omega
    · dsimp only; omega
  have hkn : k = n.toNat := by omega
  subst hkn
  try refine go ⟨?_⟩
  refine WP.loop (σ := Nat × Bool) (fun k => [(1, .pointer (some ⟨b, 0, none⟩)), (3, v), (5, .bool k.2)]) (fun k => [Tok.own v (rnd es (iota n.toNat) k.1), Tok.blk b [.int .i64 n, vE]]) (fun k => (k.2 = true → k.1 ≤ n.toNat) ∧ (k.2 = false → Stab es (rnd es (iota n.toNat) k.1))) (fun k => if k.2 = true then n.toNat - k.1 + 1 else 0) (0, true) ⟨fun _ => Nat.zero_le _, fun h => by cases h⟩ sE sT ?_
  rintro ⟨k, again⟩ ⟨hk1, hk2⟩
  dsimp only at hk1 hk2 ⊢
  try refine go ⟨?_⟩
  refine WP.cond rfl (fun hag => ?_) (fun hag => ?_)
  · subst hag
    have hk := hk1 rfl
    obtain ⟨O, hO⟩ : ∃ O, O = rnd es (iota n.toNat) k := ⟨_, rfl⟩
    have hOl : O.length = n.toNat := by rw [hO, rnd_length, iota_length]
    rw [← hO]
    try refine go ⟨?_⟩
    refine WP.loop (σ := Nat × Bool) (fun j => [(1, .pointer (some ⟨b, 0, none⟩)), (3, v), (5, .bool j.2), (6, .int .i64 j.1)]) (fun j => [Tok.own v ((es.take j.1).foldl relx O), Tok.blk b [.int .i64 n, vE]])
      (fun j => j.1 ≤ es.length ∧ (j.2 = false → (es.take j.1).foldl relx O = O ∧ ∀ i, i < j.1 → O.getD (es.getD i eD).A.toNat 0 = O.getD (es.getD i eD).B.toNat 0) ∧ (j.2 = true → ¬ Stab es O)) (fun j => es.length - j.1) (0, false) ⟨Nat.zero_le _, fun _ => ⟨rfl, fun i hi => absurd hi (Nat.not_lt_zero _)⟩, fun h => by cases h⟩ sE sT ?_
    rintro ⟨j, ch⟩ ⟨hj, hj1, hj2⟩
    dsimp only at hj hj1 hj2 ⊢
    try refine go ⟨?_⟩
    refine WP.condD rfl (fun hc3 => ?_) (fun hc3 => ?_)
    · have hj' : j < es.length := by omega
      have hs := foldl_takeS eD relx O hj'
      obtain ⟨out, ho⟩ : ∃ out, out = (es.take j).foldl relx O := ⟨_, rfl⟩
      have hol : out.length = n.toNat := by rw [ho, fold_length, hOl]
      rw [← ho] at hs hj1 ⊢
      obtain ⟨hA, hB⟩ := hg.ok (es.getD j eD) (getD_memI hj')
      have hA1 : 0 ≤ (es.getD j (Enc.d : E)).A := hA.1
      have hA2 : (es.getD j (Enc.d : E)).A < n := hA.2
      have hB1 : 0 ≤ (es.getD j (Enc.d : E)).B := hB.1
      have hB2 : (es.getD j (Enc.d : E)).B < n := hB.2
      have hns : out.getD (es.getD j eD).A.toNat 0 ≠ out.getD (es.getD j eD).B.toNat 0 → ¬ Stab es O := by
        intro hne hst
        cases ch
        · rw [(hj1 rfl).1] at hne
          exact hne (hst _ (getD_memI hj'))
        · exact hj2 rfl hst
      repeat' (first | exact absurd rfl hc | refine go ⟨?_⟩ | (refine isCond ?_; refine WP.condD rfl (fun hc => ?_) (fun hc => ?_)) | (refine isGuard ?_; refine WPL.splitD rfl rfl (fun hc => ?_) (fun hc => ?_)))
      · have h1 : out.getD (es.getD j eD).A.toNat 0 < out.getD (es.getD j eD).B.toNat 0 := hc
        refine WPL.eff0 (OpE.store1 (out.getD (es.getD j eD).A.toNat 0) rfl rfl pM (by omega) rfl) rfl ?_; rintro _ _ rfl
        repeat' (first | exact absurd rfl hc | refine go ⟨?_⟩ | (refine isCond ?_; refine WP.condD rfl (fun hc => ?_) (fun hc => ?_)) | (refine isGuard ?_; refine WPL.splitD rfl rfl (fun hc => ?_) (fun hc => ?_)))
        · omega
        · have e1 := relx_lt h1
          rw [← hs] at e1
          rw [show out.set (es.getD j (Enc.d : E)).B.toNat (out.getD (es.getD j eD).A.toNat 0) = _ from e1]
          refine PE.again (j + 1, true) ?_ ?_ sE sT
          · exact ⟨hj', fun h => (by cases h), fun _ => hns (by omega)⟩
          · dsimp only; omega
      · have h1 : out.getD (es.getD j eD).B.toNat 0 < out.getD (es.getD j eD).A.toNat 0 := hc
        refine WPL.eff0 (OpE.store1 (out.getD (es.getD j eD).B.toNat 0) rfl rfl pM (by omega) rfl) rfl ?_; rintro _ _ rfl
        repeat' (first | exact absurd rfl hc | refine go ⟨?_⟩ | (refine isCond ?_; refine WP.condD rfl (fun hc => ?_) (fun hc => ?_)) | (refine isGuard ?_; refine WPL.splitD rfl rfl (fun hc => ?_) (fun hc => ?_)))
        have e1 := relx_gt h1
        rw [← hs] at e1
        rw [show out.set (es.getD j (Enc.d : E)).A.toNat (out.getD (es.getD j eD).B.toNat 0) = _ from e1]
        refine PE.again (j + 1, true) ?_ ?_ sE sT
        · exact ⟨hj', fun h => (by cases h), fun _ => hns (by omega)⟩
        · dsimp only; omega
      · have h2 : ¬ (out.getD (es.getD j eD).A.toNat 0 < out.getD (es.getD j eD).B.toNat 0) := by assumption
        have h3 : ¬ (out.getD (es.getD j eD).B.toNat 0 < out.getD (es.getD j eD).A.toNat 0) := hc
        have h1 : out.getD (es.getD j eD).A.toNat 0 = out.getD (es.getD j eD).B.toNat 0 := by omega
        have hsame := relx_same hol hA hB h1
        rw [hsame] at hs
        rw [← hs]
        refine PE.again (j + 1, ch) ?_ ?_ sE sT
        · refine ⟨hj', fun h => ?_, hj2⟩
          obtain ⟨g3, g4⟩ := hj1 h
          refine ⟨by rw [hs]; exact g3, fun i hi => ?_⟩
          dsimp only at hi
          rcases Nat.lt_succ_iff_lt_or_eq.1 hi with h' | rfl
          · exact g4 i h'
          · rw [← g3]; exact h1
        · dsimp only; omega
    · have hjn : j = es.length := by omega
      subst hjn
      rw [List.take_length] at hj1 ⊢
      have hrs : es.foldl relx O = rnd es (iota n.toNat) (k + 1) := by rw [hO]; rfl
      rw [hrs] at hj1 ⊢
      try refine go ⟨?_⟩
      refine PE.again (k + 1, ch) ?_ ?_ sE sT
      · refine ⟨fun h => ?_, fun h => ?_⟩
        · have := hj2 h
          rw [hO] at this
          have h5 : ¬ n.toNat ≤ k := fun h6 => this (rnd_stab hg.ok h6)
          dsimp only; omega
        · obtain ⟨h3, h4⟩ := hj1 h
          dsimp only
          rw [h3]
          intro e he
          obtain ⟨i, hi, rfl⟩ := mem_getD (d := eD) he
          exact h4 i hi
      · dsimp only
        rw [if_pos rfl]
        split
        · rename_i h
          have := hj2 h
          rw [hO] at this
          have h5 : ¬ n.toNat ≤ k := fun h6 => this (rnd_stab hg.ok h6)
          omega
        · omega
  · subst hag
    try refine go ⟨?_⟩
    refine PE.ret1 (T := []) (T' := [Tok.own v (rnd es (iota n.toNat) k)]) rfl rV ?_ sT
    rw [← labs_unique hg.ok (Lab.rnd hg.ok k) (hk2 rfl)]

theorem s_Node2 (w : World) (n : Int) (vE : Value) (es : List E) (x : Int) (hE : RL w vE es) (hl : es.length ≤ 1099511627776) :
    Tri Try.prog 68 [.agg #[.int .i64 n, vE], .int .i64 x] w [] fun r T => r = .bool (decide (GN n es x)) ∧ T = [] := by
  refine Tri.intro (hf := Try.func68) (hb := rfl) (hn := Try.ntmps68) (Nat.le_of_ble_eq_true rfl) ?_
  try refine go ⟨?_⟩
  refine WPL.eff (OpE.box rfl) rfl rfl ?_; rintro _ _ ⟨b, rfl, rfl⟩
  try refine go ⟨?_⟩
  refine WPL.eff (OpE.call lO (fun w hw => s_GraphValid _ n vE es (Rd.at rD hw) hl)) rfl rfl ?_
  rintro r _ ⟨T, ⟨rfl, rfl⟩, rfl⟩
  repeat' (first | refine go ⟨?_⟩ | (refine isCond ?_; refine WP.condD rfl (fun hc => ?_) (fun hc => ?_)) | (refine isGuard ?_; refine WPL.splitD rfl rfl (fun hc => ?_) (fun hc => ?_)))
  all_goals (refine PE.ret1 (T := []) (T' := []) rfl rV ?_ sT)
  · refine ⟨?_, rfl⟩
    congr 1; rw [decide_eq_decide]; unfold GN Nd; constructor
    · intro h; exact ⟨by assumption, by assumption, h⟩
    · intro h; exact h.2.2
  · refine ⟨?_, rfl⟩
    rw [decide_eq_false]; unfold GN Nd; omega
  · refine ⟨?_, rfl⟩
    rw [decide_eq_false]; unfold GN; intro h; exact absurd h.1 ‹_›

theorem s_Joined (w : World) (n : Int) (vE : Value) (es : List E) (x y : Int) (hE : RL w vE es) (hg : NE n es) (hx : Nd n x) (hy : Nd n y) :
    Tri Try.prog 74 [.agg #[.int .i64 n, vE], .int .i64 x, .int .i64 y] w [] fun r T => r = .bool (decide (cn n es x y)) ∧ T = [] := by
  have hx1 := hx.1
  have hx2 := hx.2
  have hy1 := hy.1
  have hy2 := hy.2
  have hll := labs_length n es
  refine Tri.intro (hf := Try.func74) (hb := rfl) (hn := Try.ntmps74) (Nat.le_of_ble_eq_true rfl) ?_
  try refine go ⟨?_⟩
  refine WPL.eff (OpE.box rfl) rfl rfl ?_; rintro _ _ ⟨b, rfl, rfl⟩
  try refine go ⟨?_⟩
  refine WPL.eff (OpE.call lO (fun w hw => s_Labels _ n vE es (Rd.at rD hw) hg)) rfl rfl ?_
  rintro r _ ⟨T, rfl, rfl⟩
  try refine go ⟨?_⟩
  refine WP.draw [Tok.own r (labs n es)] mixed ?_
  refine WPD.take 0 rfl (Op1.move rfl) rfl rfl sT kR kR kR xQP ?_
  refine WPD.take 1 rfl (Op1.move rfl) rfl rfl sT kR kR kR xQP ?_
  refine WPD.take 4 rfl (Op1.move rfl) rfl rfl sT kR kR kR xQP ?_
  refine WPD.take 5 rfl (Op1.move rfl) rfl rfl sT kR kR kR xQP ?_
  refine WPD.take 2 rfl (by first | exact (Op1.indexAddr rfl rfl rD lT) | exact (Op1.indexAddrZ rfl rfl rD lT)) rfl rfl sT kR kR kR xQP ?_
  refine WPD.take 6 rfl (by first | exact (Op1.indexAddr rfl rfl rD lT) | exact (Op1.indexAddrZ rfl rfl rD lT)) rfl rfl sT kR kR kR xQP ?_
  refine WPD.take 3 rfl (by first | exact (Op1.load rfl mM (by rfl)) | exact (Op1.loadI rfl rD lT) | exact (Op1.loadAll rfl mM (by rfl)) | exact (Op1.loadE rfl rD lT (by rfl)) | exact (Op1.loadEAgg rfl rD lT (by rfl))) rfl rfl sT kR kR kR xQP ?_
  refine WPD.take 7 rfl (by first | exact (Op1.load rfl mM (by rfl)) | exact (Op1.loadI rfl rD lT) | exact (Op1.loadAll rfl mM (by rfl)) | exact (Op1.loadE rfl rD lT (by rfl)) | exact (Op1.loadEAgg rfl rD lT (by rfl))) rfl rfl sT kR kR kR xQP ?_
  refine WPD.take 8 rfl (by first | exact (Op1.eqI rfl rfl) | exact (Op1.eqB rfl rfl) | exact (Op1.eqE rfl rfl) | exact (Op1.eqNil rfl rD)) rfl rfl sT kR kR kR xQP ?_
  refine WPD.eff 9 kR rfl (OpE.ofPure (Op1.assign rfl)) rfl rfl ?_
  rintro _ _ ⟨rfl, rfl⟩
  refine ⟨sT, ?_⟩
  refine WPD.done kR ?_
  try refine go ⟨?_⟩
  refine PE.ret1 (T := []) (T' := []) rfl rV ?_ sT
  exact ⟨rfl, rfl⟩

theorem s_Connected (w : World) (n : Int) (vE : Value) (es : List E) (x y : Int) (hE : RL w vE es) (hl : es.length ≤ 1099511627776) :
    Tri Try.prog 73 [.agg #[.int .i64 n, vE], .int .i64 x, .int .i64 y] w [] fun r T => r = .bool (decide (CN n es x y)) ∧ T = [] := by
  have bad : ¬ CN n es x y → Value.bool false = .bool (decide (CN n es x y)) := fun h => by rw [decide_eq_false h]
  refine Tri.intro (hf := Try.func73) (hb := rfl) (hn := Try.ntmps73) (Nat.le_of_ble_eq_true rfl) ?_
  try refine go ⟨?_⟩
  refine WPL.eff (OpE.box rfl) rfl rfl ?_; rintro _ _ ⟨b, rfl, rfl⟩
  try refine go ⟨?_⟩
  refine WPL.eff (OpE.call lO (fun w hw => s_Node2 _ n vE es x (Rd.at rD hw) hl)) rfl rfl ?_
  rintro r _ ⟨T, ⟨rfl, rfl⟩, rfl⟩
  repeat' (first | exact absurd rfl hc | refine go ⟨?_⟩ | (refine isCond ?_; refine WP.condD rfl (fun hc => ?_) (fun hc => ?_)) | (refine isGuard ?_; refine WPL.splitD rfl rfl (fun hc => ?_) (fun hc => ?_)))
  · have hx : GN n es x := hc
    refine WPL.eff (OpE.call lO (fun w hw => s_Node2 _ n vE es y (Rd.at rD hw) hl)) rfl rfl ?_
    rintro r _ ⟨T, ⟨rfl, rfl⟩, rfl⟩
    repeat' (first | exact absurd rfl hc | refine go ⟨?_⟩ | (refine isCond ?_; refine WP.condD rfl (fun hc => ?_) (fun hc => ?_)) | (refine isGuard ?_; refine WPL.splitD rfl rfl (fun hc => ?_) (fun hc => ?_)))
    · have hy : GN n es y := hc
      refine WPL.eff (OpE.call lO (fun w hw => s_Joined _ n vE es x y (Rd.at rD hw) hx.1.ne hx.2 hy.2)) rfl rfl ?_
      rintro r _ ⟨T, ⟨rfl, rfl⟩, rfl⟩
      repeat' (first | exact absurd rfl hc | refine go ⟨?_⟩ | (refine isCond ?_; refine WP.condD rfl (fun hc => ?_) (fun hc => ?_)) | (refine isGuard ?_; refine WPL.splitD rfl rfl (fun hc => ?_) (fun hc => ?_)))
      refine PE.ret1 (T := []) (T' := []) rfl rV ?_ sT
      refine ⟨?_, rfl⟩
      congr 1; rw [decide_eq_decide]
      exact ⟨fun h => ⟨hx.1, hx.2, hy.2, h⟩, fun h => h.2.2.2⟩
    · refine PE.ret1 (T := []) (T' := []) rfl rV ?_ sT
      exact ⟨bad fun h => hc ⟨h.1, h.2.2.1⟩, rfl⟩
  · refine PE.ret1 (T := []) (T' := []) rfl rV ?_ sT
    exact ⟨bad fun h => hc ⟨h.1, h.2.1⟩, rfl⟩

theorem alone_pred (es : List E) (k : Int) : (es.filter fun e => decide (e.A ≠ k ∧ e.B ≠ k)) = alone es k := by
  unfold alone; congr 1; funext e
  rw [← decide_not, decide_eq_decide, not_or]
theorem s_Alone (w : World) (n : Int) (vE : Value) (es : List E) (k : Int) (hE : RL w vE es) (hl : es.length ≤ 1000000) :
    Tri Try.prog 75 [.agg #[.int .i64 n, vE], .int .i64 k] w [] fun r T => ∃ v, r = .agg #[.int .i64 n, v] ∧ T = [Tok.own v (alone es k)] := by
  refine Tri.intro (hf := Try.func75) (hb := rfl) (hn := Try.ntmps75) (Nat.le_of_ble_eq_true rfl) ?_
  try refine go ⟨?_⟩
  refine WPL.eff (OpE.box rfl) rfl rfl ?_; rintro _ _ ⟨b, rfl, rfl⟩
  refine WPL.eff OpE.alloc rfl rfl ?_; rintro _ _ ⟨b4, rfl, rfl⟩
  try refine go ⟨?_⟩
  refine WPL.eff (OpE.buildSlice ([] : List E) pA rfl (by decide)) rfl rfl ?_; rintro s _ rfl
  try refine go ⟨?_⟩
  refine WPL.eff OpE.alloc rfl rfl ?_; rintro _ _ ⟨b5, rfl, rfl⟩
  try refine go ⟨?_⟩
  refine WP.loop (σ := Nat × Value) (fun j => [(1, .int .i64 k), (2, ptrV b), (4, ptrV b4), (5, ptrV b5), (6, .int .i64 j.1)]) (fun j => [Tok.blk b5 [.int .i64 n, j.2], Tok.own j.2 ((es.take j.1).filter fun e => decide (e.A ≠ k ∧ e.B ≠ k)), Tok.blk b4 [.int .i64 0, .slice none 0 0], Tok.blk b [.int .i64 n, vE]]) (fun j => j.1 ≤ es.length) (fun j => es.length - j.1) (0, s) (Nat.zero_le _) sE sT ?_
  rintro ⟨j, u⟩ hj
  dsimp only at hj ⊢
  have hfl := filt_le es j fun e => decide (e.A ≠ k ∧ e.B ≠ k)
  repeat' (first | exact absurd rfl hc | refine go ⟨?_⟩ | (refine isCond ?_; refine WP.condD rfl (fun hc => ?_) (fun hc => ?_)) | (refine isGuard ?_; refine WPL.splitD rfl rfl (fun hc => ?_) (fun hc => ?_)))
  · have hj' : j < es.length := by omega
    have hA : (es.getD j eD).A ≠ k := ‹_›
    have hB : (es.getD j eD).B ≠ k := hc
    refine WP.draw [Tok.blk b [.int .i64 n, vE]] mixed ?_
    refine WPD.take 0 rfl (by first | exact (Op1.fieldAddr rfl) | exact (Op1.fieldAddrE rfl rD lT)) rfl rfl sT kR kR kR xQP ?_
    refine WPD.take 2 rfl (by first | exact (Op1.fieldAddr rfl) | exact (Op1.fieldAddrE rfl rD lT)) rfl rfl sT kR kR kR xQP ?_
    refine WPD.take 4 rfl (Op1.move rfl) rfl rfl sT kR kR kR xQP ?_
    refine WPD.take 3 rfl (by first | exact (Op1.load rfl mM (by rfl)) | exact (Op1.loadI rfl rD lT) | exact (Op1.loadAll rfl mM (by rfl)) | exact (Op1.loadE rfl rD lT (by rfl)) | exact (Op1.loadEAgg rfl rD lT (by rfl))) rfl rfl sT kR kR kR xQP ?_
    refine WPD.take 5 rfl (by first | exact (Op1.indexAddr rfl rfl rD lT) | exact (Op1.indexAddrZ rfl rfl rD lT)) rfl rfl sT kR kR kR xQP ?_
    refine WPD.take 6 rfl (by first | exact (Op1.load rfl mM (by rfl)) | exact (Op1.loadI rfl rD lT) | exact (Op1.loadAll rfl mM (by rfl)) | exact (Op1.loadE rfl rD lT (by rfl)) | exact (Op1.loadEAgg rfl rD lT (by rfl))) rfl rfl sT kR kR kR xQP ?_
    refine WPD.two 1 7 kR ?e8_1 ?e8_7
    case' e8_1 =>
      refine WPO.eff rfl (OpE.ofPure (by first | exact (Op1.load rfl mM (by rfl)) | exact (Op1.loadI rfl rD lT) | exact (Op1.loadAll rfl mM (by rfl)) | exact (Op1.loadE rfl rD lT (by rfl)) | exact (Op1.loadEAgg rfl rD lT (by rfl)))) rfl rfl ?_
      rintro _ _ ⟨rfl, rfl⟩
      refine ⟨sT, ?_⟩
      refine WPD.eff 7 kR rfl (OpE.buildSlice ([es.getD j eD]) pA rfl (by decide)) rfl rfl ?_
      rintro s1 _ rfl
      refine ⟨sT, ?_⟩
      refine WPD.eff 8 kR rfl (OpE.append rfl rfl pM rD lN) rfl rfl ?_
      rintro u1 _ rfl
      refine ⟨sT, ?_⟩
      refine WPD.take 9 rfl (by first | exact (Op1.fieldAddr rfl) | exact (Op1.fieldAddrE rfl rD lT)) rfl rfl sT kR kR kR xQP ?_
      refine WPD.eff0 10 kR rfl (OpE.store rfl rfl pM (by rfl) oN) rfl ?_
      rintro _ _ rfl
      refine ⟨sT, ?_⟩
      refine WPD.done kR ?_
    case' e8_7 =>
      refine WPO.eff rfl (OpE.buildSlice ([es.getD j eD]) pA rfl (by decide)) rfl rfl ?_
      rintro s1 _ rfl
      refine ⟨sT, ?_⟩
      refine WPD.eff 1 kR rfl (OpE.ofPure (by first | exact (Op1.load rfl mM (by rfl)) | exact (Op1.loadI rfl rD lT) | exact (Op1.loadAll rfl mM (by rfl)) | exact (Op1.loadE rfl rD lT (by rfl)) | exact (Op1.loadEAgg rfl rD lT (by rfl)))) rfl rfl ?_
      rintro _ _ ⟨rfl, rfl⟩
      refine ⟨sT, ?_⟩
      refine WPD.eff 8 kR rfl (OpE.append rfl rfl pM rD lN) rfl rfl ?_
      rintro u1 _ rfl
      refine ⟨sT, ?_⟩
      refine WPD.take 9 rfl (by first | exact (Op1.fieldAddr rfl) | exact (Op1.fieldAddrE rfl rD lT)) rfl rfl sT kR kR kR xQP ?_
      refine WPD.eff0 10 kR rfl (OpE.store rfl rfl pM (by rfl) oN) rfl ?_
      rintro _ _ rfl
      refine ⟨sT, ?_⟩
      refine WPD.done kR ?_
    all_goals (
      try refine go ⟨?_⟩
      rw [← filt_yes (d := eD) (p := fun e => decide (e.A ≠ k ∧ e.B ≠ k)) hj' (decide_eq_true ⟨hA, hB⟩)]
      refine PE.again (j + 1, u1) ?_ ?_ sE sT
      · dsimp only; omega
      · dsimp only; omega)
  · have hj' : j < es.length := by omega
    rw [← filt_no (d := eD) (p := fun e => decide (e.A ≠ k ∧ e.B ≠ k)) hj' (decide_eq_false fun h => hc h.2)]
    refine PE.again (j + 1, u) ?_ ?_ sE sT
    · dsimp only; omega
    · dsimp only; omega
  · have hj' : j < es.length := by omega
    rw [← filt_no (d := eD) (p := fun e => decide (e.A ≠ k ∧ e.B ≠ k)) hj' (decide_eq_false fun h => hc h.1)]
    refine PE.again (j + 1, u) ?_ ?_ sE sT
    · dsimp only; omega
    · dsimp only; omega
  · have hkn : j = es.length := by omega
    subst hkn
    rw [List.take_length, alone_pred]
    refine PE.ret1 (T := []) (T' := [Tok.own u (alone es k)]) rfl rV ?_ sT
    exact ⟨u, rfl, rfl⟩
end Go.Proofs.Ythlgbeakcobeoaa
/- Graphs: the walks of the second program's PutEdge, CutNode, parts, forests, bridges, safe parts. Conditions: those of each contract. -/
namespace Go.Proofs.Ythlgbeakcobeoaa
open Go
theorem mem_brs' {n : Int} {es : List E} {e : E} (he : e ∈ es) : e ∈ brs n es ↔ brB n es e = true := by unfold brs; rw [List.mem_filter]; exact ⟨fun h => h.2, fun h => ⟨he, h⟩⟩
set_option linter.unusedVariables false set_option linter.unusedSimpArgs false attribute [local irreducible] Tok.own Tok.blk RL Rd eptr WP WPL PE WPD WPO Op1 OpE Tri Again Mid Exit.then Exit.inBlock bodyPost RP Code.wp wpList isOwn OneM One
set_option maxHeartbeats 8000000

theorem s_CutNode (w : World) (n : Int) (vE : Value) (es : List E) (k : Int) (hE : RL w vE es) (hl : es.length ≤ 1099511627776) :
    Tri Try.prog 36 [.agg #[.int .i64 n, vE], .int .i64 k] w [] fun r T => (GN n es k ∧ yesG n (alone es k) r T) ∨ (¬ GN n es k ∧ noG r T) := by
  refine Tri.intro (hf := Try.func36) (hb := rfl) (hn := Try.ntmps36) (Nat.le_of_ble_eq_true rfl) ?_
  try refine go ⟨?_⟩
  refine WPL.eff (OpE.box rfl) rfl rfl ?_; rintro _ _ ⟨b, rfl, rfl⟩
  refine WPL.eff OpE.alloc rfl rfl ?_; rintro _ _ ⟨b4, rfl, rfl⟩
  try refine go ⟨?_⟩
  refine WPL.eff (OpE.call lO (fun w hw => s_GraphValid _ n vE es (Rd.at rD hw) hl)) rfl rfl ?_
  rintro r _ ⟨T, ⟨rfl, rfl⟩, rfl⟩
  repeat' (first | exact absurd rfl hc | refine go ⟨?_⟩ | (refine isCond ?_; refine WP.condD rfl (fun hc => ?_) (fun hc => ?_)) | (refine isGuard ?_; refine WPL.splitD rfl rfl (fun hc => ?_) (fun hc => ?_)))
  · refine PE.ret2 (T := []) (T' := []) rfl rV ?_ sT
    exact .inr ⟨fun h => hc h.1, rfl, rfl⟩
  · refine PE.ret2 (T := []) (T' := []) rfl rV ?_ sT
    exact .inr ⟨fun h => by have := h.2.1; omega, rfl, rfl⟩
  · refine PE.ret2 (T := []) (T' := []) rfl rV ?_ sT
    exact .inr ⟨fun h => by have := h.2.2; omega, rfl, rfl⟩
  · have hg : GV n es := Decidable.not_not.1 ‹¬¬GV n es›
    refine WPL.eff (OpE.call lO (fun w hw => s_Alone _ n vE es k (Rd.at rD hw) (by have := hg.ne.le; omega))) rfl rfl ?_
    rintro r _ ⟨T, ⟨v, rfl, rfl⟩, rfl⟩
    repeat' (first | exact absurd rfl hc | refine go ⟨?_⟩ | (refine isCond ?_; refine WP.condD rfl (fun hc => ?_) (fun hc => ?_)) | (refine isGuard ?_; refine WPL.splitD rfl rfl (fun hc => ?_) (fun hc => ?_)))
    refine PE.ret2 (T := []) (T' := [Tok.own v (alone es k)]) rfl rV ?_ sT
    exact .inl ⟨⟨hg, by omega, by omega⟩, v, rfl, rfl⟩

theorem s_PartNodes (w : World) (n : Int) (vE : Value) (es : List E) (x : Int) (hE : RL w vE es) (hl : es.length ≤ 1099511627776) :
    Tri Try.prog 21 [.agg #[.int .i64 n, vE], .int .i64 x] w [] fun r T => (GN n es x ∧ T = [Tok.own r (pns n es x)]) ∨ (¬ GN n es x ∧ T = [Tok.own r ([] : List Int)]) := by
  refine Tri.intro (hf := Try.func21) (hb := rfl) (hn := Try.ntmps21) (Nat.le_of_ble_eq_true rfl) ?_
  try refine go ⟨?_⟩
  refine WPL.eff (OpE.box rfl) rfl rfl ?_; rintro _ _ ⟨b, rfl, rfl⟩
  try refine go ⟨?_⟩
  refine WPL.eff (OpE.buildSlice ([] : List Int) pA rfl (by decide)) rfl rfl ?_; rintro s _ rfl
  try refine go ⟨?_⟩
  refine WPL.eff (OpE.call lO (fun w hw => s_Node2 _ n vE es x (Rd.at rD hw) hl)) rfl rfl ?_
  rintro r _ ⟨T, ⟨rfl, rfl⟩, rfl⟩
  repeat' (first | exact absurd rfl hc | refine go ⟨?_⟩ | (refine isCond ?_; refine WP.condD rfl (fun hc => ?_) (fun hc => ?_)) | (refine isGuard ?_; refine WPL.splitD rfl rfl (fun hc => ?_) (fun hc => ?_)))
  · refine PE.ret1 (T := []) (T' := [Tok.own s ([] : List Int)]) rfl rV ?_ sT
    exact .inr ⟨hc, rfl⟩
  have hg : GN n es x := Decidable.not_not.1 hc
  have hx1 := hg.2.1
  have hx2 := hg.2.2
  have hn1 := hg.1.ne.n1
  have hn2 := hg.1.ne.n2
  have hll := labs_length n es
  refine WPL.eff (OpE.call lO (fun w hw => s_Labels _ n vE es (Rd.at rD hw) hg.1.ne)) rfl rfl ?_
  rintro r _ ⟨T, rfl, rfl⟩
  try refine go ⟨?_⟩
  refine WP.loop (σ := Nat × Value) (fun k => [(1, .int .i64 x), (2, ptrV b), (5, k.2), (6, r), (7, .int .i64 k.1)]) (fun k => [Tok.own k.2 ((iota k.1).filter fun j => decide (lab n es j = lab n es x)), Tok.own r (labs n es), Tok.blk b [.int .i64 n, vE]]) (fun k => k.1 ≤ n.toNat) (fun k => n.toNat - k.1) (0, s) (Nat.zero_le _) sE sT ?_
  rintro ⟨k, v⟩ hk
  dsimp only at hk ⊢
  try refine go ⟨?_⟩
  refine WP.condD rfl (fun hc => ?_) (fun hc => ?_)
  · have hil : ((iota k).filter fun j => decide (lab n es j = lab n es x)).length ≤ k := by have := List.length_filter_le (fun j => decide (lab n es j = lab n es x)) (iota k); rw [iota_length] at this; exact this
    try refine go ⟨?_⟩
    refine WP.draw [Tok.own r (labs n es)] mixed ?_
    refine WPD.take 0 rfl (Op1.move rfl) rfl rfl sT kR kR kR xQP ?_
    refine WPD.take 1 rfl (Op1.move rfl) rfl rfl sT kR kR kR xQP ?_
    refine WPD.take 4 rfl (Op1.move rfl) rfl rfl sT kR kR kR xQP ?_
    refine WPD.take 5 rfl (Op1.move rfl) rfl rfl sT kR kR kR xQP ?_
    refine WPD.take 2 rfl (by first | exact (Op1.indexAddr rfl rfl rD lT) | exact (Op1.indexAddrZ rfl rfl rD lT)) rfl rfl sT kR kR kR xQP ?_
    refine WPD.take 6 rfl (by first | exact (Op1.indexAddr rfl rfl rD lT) | exact (Op1.indexAddrZ rfl rfl rD lT)) rfl rfl sT kR kR kR xQP ?_
    refine WPD.take 3 rfl (by first | exact (Op1.load rfl mM (by rfl)) | exact (Op1.loadI rfl rD lT) | exact (Op1.loadAll rfl mM (by rfl)) | exact (Op1.loadE rfl rD lT (by rfl)) | exact (Op1.loadEAgg rfl rD lT (by rfl))) rfl rfl sT kR kR kR xQP ?_
    refine WPD.take 7 rfl (by first | exact (Op1.load rfl mM (by rfl)) | exact (Op1.loadI rfl rD lT) | exact (Op1.loadAll rfl mM (by rfl)) | exact (Op1.loadE rfl rD lT (by rfl)) | exact (Op1.loadEAgg rfl rD lT (by rfl))) rfl rfl sT kR kR kR xQP ?_
    refine WPD.take 8 rfl (by first | exact (Op1.eqI rfl rfl) | exact (Op1.eqB rfl rfl) | exact (Op1.eqE rfl rfl) | exact (Op1.eqNil rfl rD)) rfl rfl sT kR kR kR xQP ?_
    refine WPD.done kR ?_
    try refine go ⟨?_⟩
    refine WP.condD rfl (fun heq => ?_) (fun heq => ?_)
    · try refine go ⟨?_⟩
      refine WPL.eff (OpE.buildSlice [(k : Int)] pA rfl (by decide)) rfl rfl ?_; rintro s1 _ rfl
      try refine go ⟨?_⟩
      refine WPL.eff (OpE.append rfl rfl pM rD lN) rfl rfl ?_; rintro v1 _ rfl
      try refine go ⟨?_⟩
      have e1 : (iota (k + 1)).filter (fun j => decide (lab n es j = lab n es x)) = (iota k).filter (fun j => decide (lab n es j = lab n es x)) ++ [(k : Int)] := by
        rw [iota_succ, List.filter_append]
        have : decide (lab n es (k : Int) = lab n es x) = true := decide_eq_true heq
        simp only [List.filter_cons, this, if_true, List.filter_nil]
      rw [← e1]
      refine PE.again (k + 1, v1) ?_ ?_ sE sT
      · dsimp only; omega
      · dsimp only; omega
    · try refine go ⟨?_⟩
      have e1 : (iota (k + 1)).filter (fun j => decide (lab n es j = lab n es x)) = (iota k).filter (fun j => decide (lab n es j = lab n es x)) := by
        rw [iota_succ, List.filter_append]
        have : decide (lab n es (k : Int) = lab n es x) = false := decide_eq_false heq
        simp only [List.filter_cons, this, Bool.false_eq_true, if_false, List.filter_nil, List.append_nil]
      rw [← e1]
      refine PE.again (k + 1, v) ?_ ?_ sE sT
      · dsimp only; omega
      · dsimp only; omega
  · have hkn : k = n.toNat := by omega
    subst hkn
    try refine go ⟨?_⟩
    refine PE.ret1 (T := []) (T' := [Tok.own v (pns n es x)]) rfl rV ?_ sT
    exact .inl ⟨hg, rfl⟩

end Go.Proofs.Ythlgbeakcobeoaa
/- Graphs: the walks of the second program's bridges and safe parts. Conditions: those of each contract. -/
namespace Go.Proofs.Ythlgbeakcobeoaa
open Go
set_option linter.unusedVariables false set_option linter.unusedSimpArgs false attribute [local irreducible] Tok.own Tok.blk RL Rd eptr WP WPL PE WPD WPO Op1 OpE Tri Again Mid Exit.then Exit.inBlock bodyPost RP Code.wp wpList isOwn OneM One
set_option maxHeartbeats 8000000

/-- A slice of new memory (empty), and false. -/
def noO {α : Type} [Enc α] (α' : List α) (r : Value) (T : List Tok) : Prop := ∃ v, r = .tuple #[v, .bool false] ∧ T = [Tok.own v (α'.take 0)]

theorem s_BridgesBetween (w : World) (n : Int) (vE : Value) (es : List E) (x y : Int) (hE : RL w vE es) (hl : es.length ≤ 1099511627776) :
    Tri Try.prog 31 [.agg #[.int .i64 n, vE], .int .i64 x, .int .i64 y] w [] fun r T => (CN n es x y ∧ yesS (btw n es x y) r T) ∨ (¬ CN n es x y ∧ ∃ v, r = .tuple #[v, .bool false] ∧ T = [Tok.own v ([] : List E)]) := by
  refine Tri.intro (hf := Try.func31) (hb := rfl) (hn := Try.ntmps31) (Nat.le_of_ble_eq_true rfl) ?_
  try refine go ⟨?_⟩
  refine WPL.eff (OpE.box rfl) rfl rfl ?_; rintro _ _ ⟨b, rfl, rfl⟩
  try refine go ⟨?_⟩
  refine WPL.eff (OpE.buildSlice ([] : List E) pA rfl (by decide)) rfl rfl ?_; rintro s _ rfl
  try refine go ⟨?_⟩
  refine WPL.eff (OpE.call lO (fun w hw => s_Connected _ n vE es x y (Rd.at rD hw) hl)) rfl rfl ?_
  rintro r _ ⟨T, ⟨rfl, rfl⟩, rfl⟩
  repeat' (first | exact absurd rfl hc | refine go ⟨?_⟩ | (refine isCond ?_; refine WP.condD rfl (fun hc => ?_) (fun hc => ?_)) | (refine isGuard ?_; refine WPL.splitD rfl rfl (fun hc => ?_) (fun hc => ?_)))
  · refine PE.ret2 (T := []) (T' := [Tok.own s ([] : List E)]) rfl rV ?_ sT
    exact .inr ⟨hc, s, rfl, rfl⟩
  have hg : CN n es x y := Decidable.not_not.1 hc
  have hle := hg.1.ne.le
  refine WP.loop (σ := Nat × Value) (fun k => [(1, .int .i64 x), (2, .int .i64 y), (3, ptrV b), (8, k.2), (9, .int .i64 k.1)]) (fun k => [Tok.own k.2 ((es.take k.1).filter fun e => !decide (cn n (rem es e) x y)), Tok.blk b [.int .i64 n, vE]]) (fun k => k.1 ≤ es.length) (fun k => es.length - k.1) (0, s) (Nat.zero_le _) sE sT ?_
  rintro ⟨k, v⟩ hk
  dsimp only at hk ⊢
  have hfl := filt_le es k fun e => !decide (cn n (rem es e) x y)
  try refine go ⟨?_⟩
  refine WP.condD rfl (fun hc => ?_) (fun hc => ?_)
  · have hk' : k < es.length := by omega
    try refine go ⟨?_⟩
    refine WP.draw [Tok.blk b [.int .i64 n, vE]] mixed ?_
    refine WPD.take 0 rfl (by first | exact (Op1.fieldAddr rfl) | exact (Op1.fieldAddrE rfl rD lT)) rfl rfl sT kR kR kR xQP ?_
    refine WPD.take 2 rfl (by first | exact (Op1.fieldAddr rfl) | exact (Op1.fieldAddrE rfl rD lT)) rfl rfl sT kR kR kR xQP ?_
    refine WPD.take 4 rfl (by first | exact (Op1.fieldAddr rfl) | exact (Op1.fieldAddrE rfl rD lT)) rfl rfl sT kR kR kR xQP ?_
    refine WPD.take 6 rfl (Op1.move rfl) rfl rfl sT kR kR kR xQP ?_
    refine WPD.take 11 rfl (Op1.move rfl) rfl rfl sT kR kR kR xQP ?_
    refine WPD.take 12 rfl (Op1.move rfl) rfl rfl sT kR kR kR xQP ?_
    refine WPD.take 1 rfl (by first | exact (Op1.load rfl mM (by rfl)) | exact (Op1.loadI rfl rD lT) | exact (Op1.loadAll rfl mM (by rfl)) | exact (Op1.loadE rfl rD lT (by rfl)) | exact (Op1.loadEAgg rfl rD lT (by rfl))) rfl rfl sT kR kR kR xQP ?_
    refine WPD.take 3 rfl (by first | exact (Op1.load rfl mM (by rfl)) | exact (Op1.loadI rfl rD lT) | exact (Op1.loadAll rfl mM (by rfl)) | exact (Op1.loadE rfl rD lT (by rfl)) | exact (Op1.loadEAgg rfl rD lT (by rfl))) rfl rfl sT kR kR kR xQP ?_
    refine WPD.take 5 rfl (by first | exact (Op1.load rfl mM (by rfl)) | exact (Op1.loadI rfl rD lT) | exact (Op1.loadAll rfl mM (by rfl)) | exact (Op1.loadE rfl rD lT (by rfl)) | exact (Op1.loadEAgg rfl rD lT (by rfl))) rfl rfl sT kR kR kR xQP ?_
    refine WPD.take 7 rfl (by first | exact (Op1.indexAddr rfl rfl rD lT) | exact (Op1.indexAddrZ rfl rfl rD lT)) rfl rfl sT kR kR kR xQP ?_
    refine WPD.take 8 rfl (by first | exact (Op1.load rfl mM (by rfl)) | exact (Op1.loadI rfl rD lT) | exact (Op1.loadAll rfl mM (by rfl)) | exact (Op1.loadE rfl rD lT (by rfl)) | exact (Op1.loadEAgg rfl rD lT (by rfl))) rfl rfl sT kR kR kR xQP ?_
    refine WPD.eff 9 kR rfl (OpE.call lO (fun w hw => s_Without _ vE (es.getD k eD) es (Rd.at rD hw) (by omega))) rfl rfl ?_
    rintro q _ ⟨T, rfl, rfl⟩
    refine ⟨sT, ?_⟩
    refine WPD.eff 10 kR rfl (OpE.ofPure (Op1.build xBP (by rfl))) rfl rfl ?_
    rintro _ _ ⟨rfl, rfl⟩
    refine ⟨sT, ?_⟩
    refine WPD.eff 13 kR rfl (OpE.call lO (fun w hw => s_Joined _ n q (rem es (es.getD k eD)) x y (Rd.at rD hw) (hg.1.ne.rem (es.getD k eD)) hg.2.1 hg.2.2.1)) rfl rfl ?_
    rintro r _ ⟨T, ⟨rfl, rfl⟩, rfl⟩
    refine ⟨sT, ?_⟩
    refine WPD.take 14 rfl (by first | exact (Op1.notD rfl) | exact (Op1.not rfl)) rfl rfl sT kR kR kR xQP ?_
    refine WPD.done kR ?_
    repeat' (first | exact absurd rfl hc | refine go ⟨?_⟩ | (refine isCond ?_; refine WP.condD rfl (fun hc => ?_) (fun hc => ?_)) | (refine isGuard ?_; refine WPL.splitD rfl rfl (fun hc => ?_) (fun hc => ?_)))
    · have hb : (!decide (cn n (rem es (es.getD k eD)) x y)) = true := by rw [decide_eq_false hc]; rfl
      refine WPL.eff (OpE.buildSlice [es.getD k eD] pA rfl (by decide)) rfl rfl ?_; rintro s1 _ rfl
      try refine go ⟨?_⟩
      refine WPL.eff (OpE.append rfl rfl pM rD lN) rfl rfl ?_; rintro v1 _ rfl
      try refine go ⟨?_⟩
      rw [← filt_yes (d := eD) (p := fun e => !decide (cn n (rem es e) x y)) hk' hb]
      refine PE.again (k + 1, v1) ?_ ?_ sE sT
      · dsimp only; omega
      · dsimp only; omega
    · have hb : (!decide (cn n (rem es (es.getD k eD)) x y)) = false := by rw [decide_eq_true (Decidable.not_not.1 hc)]; rfl
      rw [← filt_no (d := eD) (p := fun e => !decide (cn n (rem es e) x y)) hk' hb]
      refine PE.again (k + 1, v) ?_ ?_ sE sT
      · dsimp only; omega
      · dsimp only; omega
  · have hkn : k = es.length := by omega
    subst hkn
    rw [List.take_length]
    try refine go ⟨?_⟩
    refine PE.ret2 (T := []) (T' := [Tok.own v (btw n es x y)]) rfl rV ?_ sT
    exact .inl ⟨hg, v, rfl, rfl⟩

theorem s_CutNodesBetween (w : World) (n : Int) (vE : Value) (es : List E) (x y : Int) (hE : RL w vE es) (hl : es.length ≤ 1099511627776) :
    Tri Try.prog 29 [.agg #[.int .i64 n, vE], .int .i64 x, .int .i64 y] w [] fun r T => (CN n es x y ∧ yesS (cutb n es x y) r T) ∨ (¬ CN n es x y ∧ ∃ v, r = .tuple #[v, .bool false] ∧ T = [Tok.own v ([] : List Int)]) := by
  refine Tri.intro (hf := Try.func29) (hb := rfl) (hn := Try.ntmps29) (Nat.le_of_ble_eq_true rfl) ?_
  try refine go ⟨?_⟩
  refine WPL.eff (OpE.box rfl) rfl rfl ?_; rintro _ _ ⟨b, rfl, rfl⟩
  try refine go ⟨?_⟩
  refine WPL.eff (OpE.buildSlice ([] : List Int) pA rfl (by decide)) rfl rfl ?_; rintro s _ rfl
  try refine go ⟨?_⟩
  refine WPL.eff (OpE.call lO (fun w hw => s_Connected _ n vE es x y (Rd.at rD hw) hl)) rfl rfl ?_
  rintro r _ ⟨T, ⟨rfl, rfl⟩, rfl⟩
  repeat' (first | exact absurd rfl hc | refine go ⟨?_⟩ | (refine isCond ?_; refine WP.condD rfl (fun hc => ?_) (fun hc => ?_)) | (refine isGuard ?_; refine WPL.splitD rfl rfl (fun hc => ?_) (fun hc => ?_)))
  · refine PE.ret2 (T := []) (T' := [Tok.own s ([] : List Int)]) rfl rV ?_ sT
    exact .inr ⟨hc, s, rfl, rfl⟩
  have hg : CN n es x y := Decidable.not_not.1 hc
  have hle := hg.1.ne.le
  have hn1 := hg.1.ne.n1
  have hn2 := hg.1.ne.n2
  refine WP.loop (σ := Nat × Value) (fun k => [(1, .int .i64 x), (2, .int .i64 y), (3, ptrV b), (8, k.2), (9, .int .i64 k.1)]) (fun k => [Tok.own k.2 ((iota k.1).filter fun k => decide (k ≠ x ∧ k ≠ y ∧ ¬ cn n (alone es k) x y)), Tok.blk b [.int .i64 n, vE]]) (fun k => k.1 ≤ n.toNat) (fun k => n.toNat - k.1) (0, s) (Nat.zero_le _) sE sT ?_
  rintro ⟨k, v⟩ hk
  dsimp only at hk ⊢
  have hil : ((iota k).filter fun k => decide (k ≠ x ∧ k ≠ y ∧ ¬ cn n (alone es k) x y)).length ≤ k := by have := List.length_filter_le (fun k => decide (k ≠ x ∧ k ≠ y ∧ ¬ cn n (alone es k) x y)) (iota k); rw [iota_length] at this; exact this
  have fy : ((k : Int) ≠ x ∧ (k : Int) ≠ y ∧ ¬ cn n (alone es k) x y) → (iota (k + 1)).filter (fun k => decide (k ≠ x ∧ k ≠ y ∧ ¬ cn n (alone es k) x y)) = (iota k).filter (fun k => decide (k ≠ x ∧ k ≠ y ∧ ¬ cn n (alone es k) x y)) ++ [(k : Int)] := fun h => by
    rw [iota_succ, List.filter_append]
    have : decide ((k : Int) ≠ x ∧ (k : Int) ≠ y ∧ ¬ cn n (alone es k) x y) = true := decide_eq_true h
    simp only [List.filter_cons, this, if_true, List.filter_nil]
  have fn : ¬ ((k : Int) ≠ x ∧ (k : Int) ≠ y ∧ ¬ cn n (alone es k) x y) → (iota (k + 1)).filter (fun k => decide (k ≠ x ∧ k ≠ y ∧ ¬ cn n (alone es k) x y)) = (iota k).filter (fun k => decide (k ≠ x ∧ k ≠ y ∧ ¬ cn n (alone es k) x y)) := fun h => by
    rw [iota_succ, List.filter_append]
    have : decide ((k : Int) ≠ x ∧ (k : Int) ≠ y ∧ ¬ cn n (alone es k) x y) = false := decide_eq_false h
    simp only [List.filter_cons, this, Bool.false_eq_true, if_false, List.filter_nil, List.append_nil]
  repeat' (first | exact absurd rfl hc | refine go ⟨?_⟩ | (refine isCond ?_; refine WP.condD rfl (fun hc => ?_) (fun hc => ?_)) | (refine isGuard ?_; refine WPL.splitD rfl rfl (fun hc => ?_) (fun hc => ?_)))
  · have h1 : (k : Int) ≠ x := ‹_›
    have h2 : (k : Int) ≠ y := hc
    refine WPL.eff (OpE.call lO (fun w hw => s_Alone _ n vE es k (Rd.at rD hw) (by omega))) rfl rfl ?_
    rintro r _ ⟨T, ⟨q, rfl, rfl⟩, rfl⟩
    try refine go ⟨?_⟩
    refine WPL.eff (OpE.call lO (fun w hw => s_Joined _ n q (alone es k) x y (Rd.at rD hw) (hg.1.ne.alone k) hg.2.1 hg.2.2.1)) rfl rfl ?_
    rintro r _ ⟨T, ⟨rfl, rfl⟩, rfl⟩
    repeat' (first | exact absurd rfl hc | refine go ⟨?_⟩ | (refine isCond ?_; refine WP.condD rfl (fun hc => ?_) (fun hc => ?_)) | (refine isGuard ?_; refine WPL.splitD rfl rfl (fun hc => ?_) (fun hc => ?_)))
    · refine WPL.eff (OpE.buildSlice [(k : Int)] pA rfl (by decide)) rfl rfl ?_; rintro s1 _ rfl
      try refine go ⟨?_⟩
      refine WPL.eff (OpE.append rfl rfl pM rD lN) rfl rfl ?_; rintro v1 _ rfl
      try refine go ⟨?_⟩
      rw [← fy ⟨h1, h2, hc⟩]
      refine PE.again (k + 1, v1) ?_ ?_ sE sT
      · dsimp only; omega
      · dsimp only; omega
    · rw [← fn fun h => hc h.2.2]
      refine PE.again (k + 1, v) ?_ ?_ sE sT
      · dsimp only; omega
      · dsimp only; omega
  · rw [← fn fun h => hc h.2.1]
    refine PE.again (k + 1, v) ?_ ?_ sE sT
    · dsimp only; omega
    · dsimp only; omega
  · rw [← fn fun h => hc h.1]
    refine PE.again (k + 1, v) ?_ ?_ sE sT
    · dsimp only; omega
    · dsimp only; omega
  · have hkn : k = n.toNat := by omega
    subst hkn
    try refine go ⟨?_⟩
    refine PE.ret2 (T := []) (T' := [Tok.own v (cutb n es x y)]) rfl rV ?_ sT
    exact .inl ⟨hg, v, rfl, rfl⟩
end Go.Proofs.Ythlgbeakcobeoaa
/- The helpers of the exact laws over graphs: sizes, copies, comparisons. Conditions: those of each contract. -/
namespace Go.Proofs.Ythlgbeakcobeoaa
open Go
set_option linter.unusedVariables false set_option linter.unusedSimpArgs false attribute [local irreducible] Tok.own Tok.blk RL Rd eptr WP WPL PE WPD WPO Op1 OpE Tri Again Mid Exit.then Exit.inBlock bodyPost RP Code.wp wpList isOwn OneM One
set_option maxHeartbeats 8000000

theorem h_szE (w : World) (v : Value) (xs : List E) (left : Int) (h : RL w v xs) (hl : xs.length ≤ 9223372036854775807) (h0 : 0 ≤ left) (h1 : left ≤ 1048576) :
    Tri Try.prog 67 [v, .int .i64 left] w [] fun r T => T = [] ∧ ((xs.length ≤ left ∧ r = .int .i64 (left - xs.length)) ∨ (left < xs.length ∧ r = .int .i64 (-1))) := by
  refine Tri.intro (hf := Try.func67) (hb := rfl) (hn := Try.ntmps67) (Nat.le_of_ble_eq_true rfl) ?_
  repeat' (first | refine go ⟨?_⟩ | (refine isCond ?_; refine WP.condD rfl (fun hc => ?_) (fun hc => ?_)) | (refine isGuard ?_; refine WPL.splitD rfl rfl (fun hc => ?_) (fun hc => ?_)))
  · refine PE.ret1 (T := []) (T' := []) rfl rV ?_ sT
    exact ⟨rfl, .inr ⟨by omega, rfl⟩⟩
  · refine PE.ret1 (T := []) (T' := []) rfl rV ?_ sT
    exact ⟨rfl, .inl ⟨by omega, rfl⟩⟩

theorem h_szG (w : World) (n : Int) (v : Value) (xs : List E) (left : Int) (h : RL w v xs) (hl : xs.length ≤ 9223372036854775807) (h0 : 0 ≤ left) (h1 : left ≤ 1048576) :
    Tri Try.prog 20 [.agg #[.int .i64 n, v], .int .i64 left] w [] fun r T => T = [] ∧ ((xs.length ≤ left ∧ r = .int .i64 (left - xs.length)) ∨ (left < xs.length ∧ r = .int .i64 (-1))) := by
  refine Tri.intro (hf := Try.func20) (hb := rfl) (hn := Try.ntmps20) (Nat.le_of_ble_eq_true rfl) ?_
  try refine go ⟨?_⟩
  refine WPL.eff (OpE.box rfl) rfl rfl ?_; rintro _ _ ⟨b, rfl, rfl⟩
  try refine go ⟨?_⟩
  refine WPL.eff (OpE.call lO (fun w hw => h_szE _ v xs left (Rd.at rD hw) hl h0 h1)) rfl rfl ?_
  rintro r _ ⟨T, ⟨rfl, hr⟩, rfl⟩
  rcases hr with ⟨h2, rfl⟩ | ⟨h2, rfl⟩
  · repeat' (first | refine go ⟨?_⟩ | (refine isCond ?_; refine WP.condD rfl (fun hc => ?_) (fun hc => ?_)) | (refine isGuard ?_; refine WPL.splitD rfl rfl (fun hc => ?_) (fun hc => ?_)))
    · omega
    · refine PE.ret1 (T := []) (T' := []) rfl rV ?_ sT
      exact ⟨rfl, .inl ⟨by omega, rfl⟩⟩
  · repeat' (first | refine go ⟨?_⟩ | (refine isCond ?_; refine WP.condD rfl (fun hc => ?_) (fun hc => ?_)) | (refine isGuard ?_; refine WPL.splitD rfl rfl (fun hc => ?_) (fun hc => ?_)))
    refine PE.ret1 (T := []) (T' := []) rfl rV ?_ sT
    exact ⟨rfl, .inr ⟨h2, rfl⟩⟩

theorem h_toE (w : World) (e : E) : Tri Try.prog 112 [ep e] w [] fun r T => T = [] ∧ r = ep e := by
  refine Tri.intro (hf := Try.func112) (hb := rfl) (hn := Try.ntmps112) (Nat.le_of_ble_eq_true rfl) ?_
  try refine go ⟨?_⟩
  refine WPL.eff (OpE.box rfl) rfl rfl ?_; rintro _ _ ⟨b, rfl, rfl⟩
  refine WPL.eff OpE.alloc rfl rfl ?_; rintro _ _ ⟨b2, rfl, rfl⟩
  try refine go ⟨?_⟩
  refine WPL.eff OpE.alloc rfl rfl ?_; rintro _ _ ⟨b3, rfl, rfl⟩
  try refine go ⟨?_⟩
  refine PE.ret1 (T := []) (T' := []) rfl rV ?_ sT
  exact ⟨rfl, rfl⟩

theorem h_eqE (w : World) (a b : E) : Tri Try.prog 85 [ep a, ep b] w [] fun r T => T = [] ∧ r = .bool (decide (a = b)) := by
  have ext : a = b ↔ a.A = b.A ∧ a.B = b.B := by cases a; cases b; simp
  refine Tri.intro (hf := Try.func85) (hb := rfl) (hn := Try.ntmps85) (Nat.le_of_ble_eq_true rfl) ?_
  try refine go ⟨?_⟩
  refine WPL.eff (OpE.box rfl) rfl rfl ?_; rintro _ _ ⟨b1, rfl, rfl⟩
  try refine go ⟨?_⟩
  refine WPL.eff (OpE.box rfl) rfl rfl ?_; rintro _ _ ⟨b2, rfl, rfl⟩
  repeat' (first | exact absurd rfl hc | refine go ⟨?_⟩ | (refine isCond ?_; refine WP.condD rfl (fun hc => ?_) (fun hc => ?_)) | (refine isGuard ?_; refine WPL.splitD rfl rfl (fun hc => ?_) (fun hc => ?_)))
  all_goals (refine PE.ret1 (T := []) (T' := []) rfl rV ?_ sT; refine ⟨rfl, ?_⟩)
  · rw [decide_eq_false]; rw [ext]; exact fun h => absurd h.1 ‹_›
  · rw [decide_eq_false]; rw [ext]; exact fun h => absurd h.2 ‹_›
  · rw [decide_eq_true]; rw [ext]; exact ⟨Decidable.not_not.1 ‹_›, Decidable.not_not.1 ‹_›⟩
end Go.Proofs.Ythlgbeakcobeoaa
/- The helpers of the exact laws over graphs: whole graphs. Conditions: those of each contract. -/
namespace Go.Proofs.Ythlgbeakcobeoaa
open Go
theorem fill_len {xs : List E} {k : Nat} : (xs.take k ++ List.replicate (xs.length - k) (Enc.d : E)).length = max xs.length (min k xs.length) := by simp; omega
theorem fill_set {xs : List E} {k : Nat} (hk : k < xs.length) : (xs.take k ++ List.replicate (xs.length - k) (Enc.d : E)).set k (xs.getD k (Enc.d : E)) = xs.take (k + 1) ++ List.replicate (xs.length - (k + 1)) (Enc.d : E) := by
  have h1 : xs.length - k = (xs.length - (k + 1)) + 1 := by omega
  rw [h1, List.replicate_succ, List.set_append_right _ _ (by simp; omega)]
  have h2 : k - (xs.take k).length = 0 := by rw [List.length_take]; omega
  rw [h2, List.set_cons_zero, take_succD (Enc.d : E) hk, List.append_assoc]; rfl
set_option linter.unusedVariables false set_option linter.unusedSimpArgs false attribute [local irreducible] Tok.own Tok.blk RL Rd eptr WP WPL PE WPD WPO Op1 OpE Tri Again Mid Exit.then Exit.inBlock bodyPost RP Code.wp wpList isOwn OneM One
set_option maxHeartbeats 8000000

theorem h_toES (w : World) (v : Value) (xs : List E) (h : RL w v xs) (hl : xs.length ≤ 1048576) :
    Tri Try.prog 70 [v] w [] fun r T => T = [Tok.own r xs] := by
  refine Tri.intro (hf := Try.func70) (hb := rfl) (hn := Try.ntmps70) (Nat.le_of_ble_eq_true rfl) ?_
  try refine go ⟨?_⟩
  refine WPL.eff (OpE.make (α := E) rfl rfl (by omega)) rfl rfl ?_; rintro u _ rfl
  try refine go ⟨?_⟩
  refine WP.loop (σ := Nat) (fun k => [(0, v), (3, u), (4, .int .i64 k)]) (fun k => [Tok.own u (xs.take k ++ List.replicate (xs.length - k) (Enc.d : E))]) (fun k => k ≤ xs.length) (fun k => xs.length - k) 0 (Nat.zero_le _) sE ?_ ?_
  · exact sT
  rintro k hk
  have hlen : (xs.take k ++ List.replicate (xs.length - k) (Enc.d : E)).length = xs.length := by simp; omega
  try refine go ⟨?_⟩
  refine WP.condD rfl (fun hc => ?_) (fun hc => ?_)
  · have hk' : k < xs.length := by omega
    try refine go ⟨?_⟩
    refine WPL.eff (OpE.call lO (fun w hw => h_toE _ (xs.getD k (Enc.d : E)))) rfl rfl ?_
    rintro r _ ⟨T, ⟨rfl, rfl⟩, rfl⟩
    try refine go ⟨?_⟩
    refine WPL.eff0 (OpE.storeS (xs.getD k (Enc.d : E)) rfl rfl pM2 lT rfl) rfl ?_
    rintro _ _ rfl
    rw [fill_set hk']
    try refine go ⟨?_⟩
    refine PE.again (k + 1) ?_ ?_ sE sT2
    · (try dsimp only); omega
    · (try dsimp only); omega
  · have hk1 : k = xs.length := by omega
    subst hk1
    try refine go ⟨?_⟩
    refine PE.ret1 (T := []) (T' := [Tok.own u (xs.take xs.length ++ List.replicate (xs.length - xs.length) (Enc.d : E))]) rfl rV ?_ sT
    simp

theorem h_toG (w : World) (n : Int) (v : Value) (xs : List E) (h : RL w v xs) (hl : xs.length ≤ 1048576) :
    Tri Try.prog 22 [.agg #[.int .i64 n, v]] w [] fun r T => ∃ u, r = .agg #[.int .i64 n, u] ∧ T = [Tok.own u xs] := by
  refine Tri.intro (hf := Try.func22) (hb := rfl) (hn := Try.ntmps22) (Nat.le_of_ble_eq_true rfl) ?_
  try refine go ⟨?_⟩
  refine WPL.eff (OpE.box rfl) rfl rfl ?_; rintro _ _ ⟨b, rfl, rfl⟩
  refine WPL.eff OpE.alloc rfl rfl ?_; rintro _ _ ⟨br, rfl, rfl⟩
  try refine go ⟨?_⟩
  refine WPL.eff OpE.alloc rfl rfl ?_; rintro _ _ ⟨bo, rfl, rfl⟩
  try refine go ⟨?_⟩
  refine WPL.eff (OpE.call lO (fun w hw => h_toES _ v xs (Rd.at rD hw) hl)) rfl rfl ?_
  rintro u _ ⟨T, rfl, rfl⟩
  try refine go ⟨?_⟩
  refine PE.ret1 (T := []) (T' := [Tok.own u xs]) rfl rV ?_ sT
  exact ⟨u, rfl, rfl⟩

theorem h_eqES (w : World) (v u : Value) (xs ys : List E) (h : RL w v xs) (h' : RL w u ys) (hl : xs.length ≤ 1048576) (hl' : ys.length ≤ 1048576) :
    Tri Try.prog 33 [v, u] w [] fun r T => T = [] ∧ r = .bool (decide (xs = ys)) := by
  refine Tri.intro (hf := Try.func33) (hb := rfl) (hn := Try.ntmps33) (Nat.le_of_ble_eq_true rfl) ?_
  repeat' (first | refine go ⟨?_⟩ | (refine isCond ?_; refine WP.condD rfl (fun hc => ?_) (fun hc => ?_)) | (refine isGuard ?_; refine WPL.splitD rfl rfl (fun hc => ?_) (fun hc => ?_)))
  · refine PE.ret1 (T := []) (T' := []) rfl rV ?_ sT
    refine ⟨rfl, ?_⟩
    rw [decide_eq_false]
    rintro rfl
    exact absurd rfl ‹_›
  have hll : xs.length = ys.length := by omega
  refine WP.loop (σ := Nat) (fun k => [(0, v), (1, u), (5, .int .i64 k)]) (fun _ => []) (fun k => k ≤ xs.length ∧ ∀ m, m < k → xs.getD m (Enc.d : E) = ys.getD m (Enc.d : E)) (fun k => xs.length - k) 0 ⟨Nat.zero_le _, by omega⟩ sE sT ?_
  rintro k ⟨hk, hm⟩
  try refine go ⟨?_⟩
  refine WP.condD rfl (fun hc => ?_) (fun hc => ?_)
  · have hk' : k < xs.length := by omega
    try refine go ⟨?_⟩
    refine WP.draw [] mixed ?_
    refine WPD.take 0 rfl (Op1.move rfl) rfl rfl sT kR kR kR xQP ?_
    refine WPD.take 1 rfl (Op1.move rfl) rfl rfl sT kR kR kR xQP ?_
    refine WPD.take 4 rfl (Op1.move rfl) rfl rfl sT kR kR kR xQP ?_
    refine WPD.take 5 rfl (Op1.move rfl) rfl rfl sT kR kR kR xQP ?_
    refine WPD.take 2 rfl (by first | exact (Op1.indexAddr rfl rfl rD lT) | exact (Op1.indexAddrZ rfl rfl rD lT)) rfl rfl sT kR kR kR xQP ?_
    refine WPD.take 6 rfl (by first | exact (Op1.indexAddr rfl rfl rD lT) | exact (Op1.indexAddrZ rfl rfl rD lT)) rfl rfl sT kR kR kR xQP ?_
    refine WPD.take 3 rfl (by first | exact (Op1.load rfl mM (by rfl)) | exact (Op1.loadI rfl rD lT) | exact (Op1.loadAll rfl mM (by rfl)) | exact (Op1.loadE rfl rD lT (by rfl)) | exact (Op1.loadEAgg rfl rD lT (by rfl))) rfl rfl sT kR kR kR xQP ?_
    refine WPD.take 7 rfl (by first | exact (Op1.load rfl mM (by rfl)) | exact (Op1.loadI rfl rD lT) | exact (Op1.loadAll rfl mM (by rfl)) | exact (Op1.loadE rfl rD lT (by rfl)) | exact (Op1.loadEAgg rfl rD lT (by rfl))) rfl rfl sT kR kR kR xQP ?_
    refine WPD.eff 8 kR rfl (OpE.call lO (fun w hw => h_eqE _ (xs.getD k (Enc.d : E)) (ys.getD k (Enc.d : E)))) rfl rfl ?_
    rintro r _ ⟨T, ⟨rfl, rfl⟩, rfl⟩
    refine ⟨sT, ?_⟩
    refine WPD.eff 9 kR rfl (OpE.ofPure (by first | exact (Op1.notD rfl) | exact (Op1.not rfl))) rfl rfl ?_
    rintro _ _ ⟨rfl, rfl⟩
    refine ⟨sT, ?_⟩
    refine WPD.done kR ?_
    try refine go ⟨?_⟩
    refine WP.condD rfl (fun he => ?_) (fun he => ?_)
    · try refine go ⟨?_⟩
      refine PE.ret1 (T := []) (T' := []) rfl rV ?_ sT
      refine ⟨rfl, ?_⟩
      rw [decide_eq_false]
      rintro rfl
      exact absurd rfl he
    · try refine go ⟨?_⟩
      refine PE.again (k + 1) ?_ ?_ sE sT2
      · exact ⟨by omega, fun m hm' => by
          rcases Nat.lt_succ_iff_lt_or_eq.1 hm' with h' | rfl
          · exact hm m h'
          · exact Decidable.not_not.1 he⟩
      · omega
  · try refine go ⟨?_⟩
    refine PE.ret1 (T := []) (T' := []) rfl rV ?_ sT
    refine ⟨rfl, ?_⟩
    rw [decide_eq_true]
    exact List.ext_getElem hll (fun i h1 h2 => by
      have := hm i (by omega)
      rwa [List.getD_eq_getElem?_getD, List.getD_eq_getElem?_getD, List.getElem?_eq_getElem h1, List.getElem?_eq_getElem h2] at this)

theorem h_eqG (w : World) (n m : Int) (v u : Value) (xs ys : List E) (h : RL w v xs) (h' : RL w u ys) (hl : xs.length ≤ 1048576) (hl' : ys.length ≤ 1048576) :
    Tri Try.prog 25 [.agg #[.int .i64 n, v], .agg #[.int .i64 m, u]] w [] fun r T => T = [] ∧ r = .bool (decide (n = m ∧ xs = ys)) := by
  refine Tri.intro (hf := Try.func25) (hb := rfl) (hn := Try.ntmps25) (Nat.le_of_ble_eq_true rfl) ?_
  try refine go ⟨?_⟩
  refine WPL.eff (OpE.box rfl) rfl rfl ?_; rintro _ _ ⟨b, rfl, rfl⟩
  refine WPL.eff (OpE.box rfl) rfl rfl ?_; rintro _ _ ⟨b2, rfl, rfl⟩
  try refine go ⟨?_⟩
  refine WP.condD rfl (fun hc => ?_) (fun hc => ?_)
  · try refine go ⟨?_⟩
    refine PE.ret1 (T := []) (T' := []) rfl rV ?_ sT
    refine ⟨rfl, ?_⟩
    rw [decide_eq_false]
    exact fun h => absurd h.1 hc
  · try refine go ⟨?_⟩
    refine WPL.eff (OpE.call lO (fun w hw => h_eqES _ v u xs ys (Rd.at rD hw) (Rd.at rD hw) hl hl')) rfl rfl ?_
    rintro r _ ⟨T, ⟨rfl, rfl⟩, rfl⟩
    try refine go ⟨?_⟩
    refine WP.condD rfl (fun hc2 => ?_) (fun hc2 => ?_)
    · try refine go ⟨?_⟩
      refine PE.ret1 (T := []) (T' := []) rfl rV ?_ sT
      refine ⟨rfl, ?_⟩
      rw [decide_eq_false]
      exact fun h => absurd h.2 hc2
    · try refine go ⟨?_⟩
      refine PE.ret1 (T := []) (T' := []) rfl rV ?_ sT
      refine ⟨rfl, ?_⟩
      rw [decide_eq_true]
      exact ⟨Decidable.not_not.1 hc, Decidable.not_not.1 hc2⟩
end Go.Proofs.Ythlgbeakcobeoaa
/- The helpers of the laws: comparisons. Conditions: those of each contract. -/
namespace Go.Proofs.Ythlgbeakcobeoaa
open Go
set_option linter.unusedVariables false set_option linter.unusedSimpArgs false attribute [local irreducible] Tok.own Tok.blk RL Rd eptr WP WPL PE WPD WPO Op1 OpE Tri Again Mid Exit.then Exit.inBlock bodyPost RP Code.wp wpList isOwn OneM One
set_option maxHeartbeats 8000000

theorem y_In (w : World) (v : Value) (x : Int) (xs : List Int) (h : RL w v xs) (hl : xs.length ≤ 1099511627776) :
    Tri Try.prog 54 [v, .int .i64 x] w [] fun r T => T = [] ∧ r = .bool (decide (x ∈ xs)) := by
  refine Tri.intro (hf := Try.func54) (hb := rfl) (hn := Try.ntmps54) (Nat.le_of_ble_eq_true rfl) ?_
  try refine go ⟨?_⟩
  refine WP.loop (σ := Nat) (fun k => [(0, v), (1, .int .i64 x), (5, .int .i64 k)]) (fun _ => []) (fun k => k ≤ xs.length ∧ ∀ m, m < k → x ≠ xs.getD m 0) (fun k => xs.length - k) 0 ⟨Nat.zero_le _, by omega⟩ sE sT ?_
  rintro k ⟨hk, hm⟩
  try refine go ⟨?_⟩
  refine WP.condD rfl (fun hc => ?_) (fun hc => ?_)
  · try refine go ⟨?_⟩
    refine WP.condD rfl (fun he => ?_) (fun he => ?_)
    · try refine go ⟨?_⟩
      refine PE.ret1 (T := []) (T' := []) rfl rV ?_ sT
      have hk' : k < xs.length := by omega
      refine ⟨rfl, ?_⟩
      have he' : xs.getD k 0 = x := he
      rw [decide_eq_true (he' ▸ getD_memI hk')]
    · try refine go ⟨?_⟩
      refine PE.again (k + 1) ?_ ?_ sE sT
      · exact ⟨by omega, fun m hm' => by
          rcases Nat.lt_succ_iff_lt_or_eq.1 hm' with h' | rfl
          · exact hm m h'
          · exact fun e => he e.symm⟩
      · omega
  · try refine go ⟨?_⟩
    refine PE.ret1 (T := []) (T' := []) rfl rV ?_ sT
    refine ⟨rfl, ?_⟩
    rw [decide_eq_false]
    intro hx
    obtain ⟨n, hn, h2⟩ := mem_getD (d := 0) hx
    exact hm n (by omega) h2.symm

theorem y_Ints (w : World) (v u : Value) (xs ys : List Int) (h : RL w v xs) (h' : RL w u ys) (hl : xs.length ≤ 1099511627776) (hl' : ys.length ≤ 1099511627776) :
    Tri Try.prog 60 [v, u] w [] fun r T => T = [] ∧ r = .bool (decide (xs = ys)) := by
  refine Tri.intro (hf := Try.func60) (hb := rfl) (hn := Try.ntmps60) (Nat.le_of_ble_eq_true rfl) ?_
  repeat' (first | refine go ⟨?_⟩ | (refine isCond ?_; refine WP.condD rfl (fun hc => ?_) (fun hc => ?_)) | (refine isGuard ?_; refine WPL.splitD rfl rfl (fun hc => ?_) (fun hc => ?_)))
  · refine PE.ret1 (T := []) (T' := []) rfl rV ?_ sT
    refine ⟨rfl, ?_⟩
    rw [decide_eq_false]
    rintro rfl
    exact absurd rfl ‹_›
  have hll : xs.length = ys.length := by omega
  refine WP.loop (σ := Nat) (fun k => [(0, v), (1, u), (5, .int .i64 k)]) (fun _ => []) (fun k => k ≤ xs.length ∧ ∀ m, m < k → xs.getD m 0 = ys.getD m 0) (fun k => xs.length - k) 0 ⟨Nat.zero_le _, by omega⟩ sE sT ?_
  rintro k ⟨hk, hm⟩
  repeat' (first | refine go ⟨?_⟩ | (refine isCond ?_; refine WP.condD rfl (fun hc => ?_) (fun hc => ?_)) | (refine isGuard ?_; refine WPL.splitD rfl rfl (fun hc => ?_) (fun hc => ?_)))
  · have hk' : k < xs.length := by omega
    refine WP.draw [] mixed ?_
    refine WPD.take 0 rfl (Op1.move rfl) rfl rfl sT kR kR kR xQP ?_
    refine WPD.take 1 rfl (Op1.move rfl) rfl rfl sT kR kR kR xQP ?_
    refine WPD.take 4 rfl (Op1.move rfl) rfl rfl sT kR kR kR xQP ?_
    refine WPD.take 5 rfl (Op1.move rfl) rfl rfl sT kR kR kR xQP ?_
    refine WPD.take 2 rfl (by first | exact (Op1.indexAddr rfl rfl rD lT) | exact (Op1.indexAddrZ rfl rfl rD lT)) rfl rfl sT kR kR kR xQP ?_
    refine WPD.take 6 rfl (by first | exact (Op1.indexAddr rfl rfl rD lT) | exact (Op1.indexAddrZ rfl rfl rD lT)) rfl rfl sT kR kR kR xQP ?_
    refine WPD.take 3 rfl (by first | exact (Op1.load rfl mM (by rfl)) | exact (Op1.loadI rfl rD lT) | exact (Op1.loadAll rfl mM (by rfl)) | exact (Op1.loadE rfl rD lT (by rfl)) | exact (Op1.loadEAgg rfl rD lT (by rfl))) rfl rfl sT kR kR kR xQP ?_
    refine WPD.take 7 rfl (by first | exact (Op1.load rfl mM (by rfl)) | exact (Op1.loadI rfl rD lT) | exact (Op1.loadAll rfl mM (by rfl)) | exact (Op1.loadE rfl rD lT (by rfl)) | exact (Op1.loadEAgg rfl rD lT (by rfl))) rfl rfl sT kR kR kR xQP ?_
    refine WPD.take 8 rfl (by first | exact (Op1.neI rfl rfl) | exact (Op1.neB rfl rfl) | exact (Op1.neE rfl rfl)) rfl rfl sT kR kR kR xQP ?_
    refine WPD.done kR ?_
    repeat' (first | refine go ⟨?_⟩ | (refine isCond ?_; refine WP.condD rfl (fun hc => ?_) (fun hc => ?_)) | (refine isGuard ?_; refine WPL.splitD rfl rfl (fun hc => ?_) (fun hc => ?_)))
    · refine PE.ret1 (T := []) (T' := []) rfl rV ?_ sT
      refine ⟨rfl, ?_⟩
      rw [decide_eq_false]
      rintro rfl
      exact absurd rfl ‹_›
    · refine PE.again (k + 1) ?_ ?_ sE sT
      · exact ⟨by omega, fun m hm' => by
          rcases Nat.lt_succ_iff_lt_or_eq.1 hm' with h' | rfl
          · exact hm m h'
          · exact Decidable.not_not.1 ‹_›⟩
      · omega
  · refine PE.ret1 (T := []) (T' := []) rfl rV ?_ sT
    refine ⟨rfl, ?_⟩
    rw [decide_eq_true]
    exact List.ext_getElem hll (fun i h1 h2 => by
      have := hm i (by omega)
      rwa [List.getD_eq_getElem?_getD, List.getD_eq_getElem?_getD, List.getElem?_eq_getElem h1, List.getElem?_eq_getElem h2] at this)

end Go.Proofs.Ythlgbeakcobeoaa
/- The helpers of the exact laws: marks. Conditions: those of each contract. -/
namespace Go.Proofs.Ythlgbeakcobeoaa
open Go
set_option linter.unusedVariables false set_option linter.unusedSimpArgs false attribute [local irreducible] Tok.own Tok.blk RL Rd eptr WP WPL PE WPD WPO Op1 OpE Tri Again Mid Exit.then Exit.inBlock bodyPost RP Code.wp wpList isOwn OneM One
set_option maxHeartbeats 8000000

theorem h_eqI (w : World) (v u : Value) (xs ys : List Int) (h : RL w v xs) (h' : RL w u ys) (hl : xs.length ≤ 1099511627776) (hl' : ys.length ≤ 1099511627776) :
    Tri Try.prog 24 [v, u] w [] fun r T => T = [] ∧ r = .bool (decide (xs = ys)) := by
  refine Tri.intro (hf := Try.func24) (hb := rfl) (hn := Try.ntmps24) (Nat.le_of_ble_eq_true rfl) ?_
  repeat' (first | refine go ⟨?_⟩ | (refine isCond ?_; refine WP.condD rfl (fun hc => ?_) (fun hc => ?_)) | (refine isGuard ?_; refine WPL.splitD rfl rfl (fun hc => ?_) (fun hc => ?_)))
  · refine PE.ret1 (T := []) (T' := []) rfl rV ?_ sT
    refine ⟨rfl, ?_⟩
    rw [decide_eq_false]
    rintro rfl
    exact absurd rfl ‹_›
  have hll : xs.length = ys.length := by omega
  refine WP.loop (σ := Nat) (fun k => [(0, v), (1, u), (5, .int .i64 k)]) (fun _ => []) (fun k => k ≤ xs.length ∧ ∀ m, m < k → xs.getD m 0 = ys.getD m 0) (fun k => xs.length - k) 0 ⟨Nat.zero_le _, by omega⟩ sE sT ?_
  rintro k ⟨hk, hm⟩
  repeat' (first | refine go ⟨?_⟩ | (refine isCond ?_; refine WP.condD rfl (fun hc => ?_) (fun hc => ?_)) | (refine isGuard ?_; refine WPL.splitD rfl rfl (fun hc => ?_) (fun hc => ?_)))
  · have hk' : k < xs.length := by omega
    refine WP.draw [] mixed ?_
    refine WPD.take 0 rfl (Op1.move rfl) rfl rfl sT kR kR kR xQP ?_
    refine WPD.take 1 rfl (Op1.move rfl) rfl rfl sT kR kR kR xQP ?_
    refine WPD.take 4 rfl (Op1.move rfl) rfl rfl sT kR kR kR xQP ?_
    refine WPD.take 5 rfl (Op1.move rfl) rfl rfl sT kR kR kR xQP ?_
    refine WPD.take 2 rfl (by first | exact (Op1.indexAddr rfl rfl rD lT) | exact (Op1.indexAddrZ rfl rfl rD lT)) rfl rfl sT kR kR kR xQP ?_
    refine WPD.take 6 rfl (by first | exact (Op1.indexAddr rfl rfl rD lT) | exact (Op1.indexAddrZ rfl rfl rD lT)) rfl rfl sT kR kR kR xQP ?_
    refine WPD.take 3 rfl (by first | exact (Op1.load rfl mM (by rfl)) | exact (Op1.loadI rfl rD lT) | exact (Op1.loadAll rfl mM (by rfl)) | exact (Op1.loadE rfl rD lT (by rfl)) | exact (Op1.loadEAgg rfl rD lT (by rfl))) rfl rfl sT kR kR kR xQP ?_
    refine WPD.take 7 rfl (by first | exact (Op1.load rfl mM (by rfl)) | exact (Op1.loadI rfl rD lT) | exact (Op1.loadAll rfl mM (by rfl)) | exact (Op1.loadE rfl rD lT (by rfl)) | exact (Op1.loadEAgg rfl rD lT (by rfl))) rfl rfl sT kR kR kR xQP ?_
    refine WPD.take 8 rfl (by first | exact (Op1.neI rfl rfl) | exact (Op1.neB rfl rfl) | exact (Op1.neE rfl rfl)) rfl rfl sT kR kR kR xQP ?_
    refine WPD.done kR ?_
    repeat' (first | refine go ⟨?_⟩ | (refine isCond ?_; refine WP.condD rfl (fun hc => ?_) (fun hc => ?_)) | (refine isGuard ?_; refine WPL.splitD rfl rfl (fun hc => ?_) (fun hc => ?_)))
    · refine PE.ret1 (T := []) (T' := []) rfl rV ?_ sT
      refine ⟨rfl, ?_⟩
      rw [decide_eq_false]
      rintro rfl
      exact absurd rfl ‹_›
    · refine PE.again (k + 1) ?_ ?_ sE sT
      · exact ⟨by omega, fun m hm' => by
          rcases Nat.lt_succ_iff_lt_or_eq.1 hm' with h' | rfl
          · exact hm m h'
          · exact Decidable.not_not.1 ‹_›⟩
      · omega
  · refine PE.ret1 (T := []) (T' := []) rfl rV ?_ sT
    refine ⟨rfl, ?_⟩
    rw [decide_eq_true]
    exact List.ext_getElem hll (fun i h1 h2 => by
      have := hm i (by omega)
      rwa [List.getD_eq_getElem?_getD, List.getD_eq_getElem?_getD, List.getElem?_eq_getElem h1, List.getElem?_eq_getElem h2] at this)

def marks (k : Int) : Nat → List Int
  | 0 => []
  | n + 1 => marks k n ++ [k + n]
theorem marks_length (k : Int) : ∀ n, (marks k n).length = n
  | 0 => rfl
  | n + 1 => by simp [marks, marks_length k n]
theorem marks_get (k : Int) : ∀ (n i : Nat), i < n → (marks k n).getD i 0 = k + i
  | 0, i, h => by omega
  | n + 1, i, h => by
    have hl := marks_length k n
    rw [marks, List.getD_eq_getElem?_getD]
    by_cases hi : i < n
    · rw [List.getElem?_append_left (by omega), ← List.getD_eq_getElem?_getD]; exact marks_get k n i hi
    · have : i = n := by omega
      subst this
      rw [List.getElem?_append_right (by omega), hl, Nat.sub_self]; rfl
theorem marks_set {k : Int} {n : Nat} {xs : List Int} (h : n < xs.length) : (marks k n ++ xs.drop n).set n (k + n) = marks k (n + 1) ++ xs.drop (n + 1) := by
  rw [List.drop_eq_getElem_cons h, List.set_append_right _ _ (by rw [marks_length]; exact Nat.le_refl _), marks_length, Nat.sub_self, List.set_cons_zero, marks, List.append_assoc]; rfl

theorem h_markI (w : World) (v : Value) (xs : List Int) (k : Int) (hl : xs.length ≤ 1048576) (h0 : 0 ≤ k) (h1 : k ≤ 1099511627776) :
    Tri Try.prog 27 [v, .int .i64 k] w [Tok.own v xs] fun r T => r = .int .i64 (k + xs.length) ∧ T = [Tok.own v (marks k xs.length)] := by
  refine Tri.intro (hf := Try.func27) (hb := rfl) (hn := Try.ntmps27) (Nat.le_of_ble_eq_true rfl) ?_
  try refine go ⟨?_⟩
  refine WP.loop (σ := Nat) (fun n => [(0, v), (1, .int .i64 (k + n)), (5, .int .i64 n)]) (fun n => [Tok.own v (marks k n ++ xs.drop n)]) (fun n => n ≤ xs.length) (fun n => xs.length - n) 0 (Nat.zero_le _) ?_ sT ?_
  · simp only [Int.natCast_zero, Int.add_zero]; exact sE
  intro n hn
  have hlen : (marks k n ++ xs.drop n).length = xs.length := by rw [List.length_append, marks_length, List.length_drop]; omega
  repeat' (first | refine go ⟨?_⟩ | (refine isCond ?_; refine WP.condD rfl (fun hc => ?_) (fun hc => ?_)) | (refine isGuard ?_; refine WPL.splitD rfl rfl (fun hc => ?_) (fun hc => ?_)))
  · have hn' : n < xs.length := by omega
    refine WPL.eff0 (OpE.store1 (k + n) rfl rfl pM (by omega) rfl) rfl ?_; rintro _ _ rfl
    rw [marks_set hn']
    repeat' (first | refine go ⟨?_⟩ | (refine isCond ?_; refine WP.condD rfl (fun hc => ?_) (fun hc => ?_)) | (refine isGuard ?_; refine WPL.splitD rfl rfl (fun hc => ?_) (fun hc => ?_)))
    have e : k + (n : Int) + 1 = k + ((n + 1 : Nat) : Int) := by omega
    rw [e]
    refine PE.again (n + 1) ?_ ?_ sE sT
    · omega
    · omega
  · have hn1 : n = xs.length := by omega
    subst hn1
    have e : marks k xs.length ++ xs.drop xs.length = marks k xs.length := by rw [List.drop_length, List.append_nil]
    rw [e]
    refine PE.ret1 (T := [Tok.own v xs]) (T' := [Tok.own v (marks k xs.length)]) rfl rV ?_ sT
    exact ⟨rfl, rfl⟩

theorem h_heldI (w : World) (v : Value) (k : Int) (n : Nat) (h : RL w v (marks k n)) (hl : n ≤ 1048576) (h0 : 0 ≤ k) (h1 : k ≤ 1099511627776) :
    Tri Try.prog 28 [v, .int .i64 k] w [] fun r T => r = .int .i64 (k + n) ∧ T = [] := by
  have hlen := marks_length k n
  have hget := marks_get k n
  generalize marks k n = xs at *
  subst hlen
  refine Tri.intro (hf := Try.func28) (hb := rfl) (hn := Try.ntmps28) (Nat.le_of_ble_eq_true rfl) ?_
  try refine go ⟨?_⟩
  refine WP.loop (σ := Nat) (fun n => [(0, v), (1, .int .i64 (k + n)), (5, .int .i64 n)]) (fun n => []) (fun n => n ≤ xs.length) (fun n => xs.length - n) 0 (Nat.zero_le _) ?_ sT ?_
  · simp only [Int.natCast_zero, Int.add_zero]; exact sE
  intro n hn
  repeat' (first | refine go ⟨?_⟩ | (refine isCond ?_; refine WP.condD rfl (fun hc => ?_) (fun hc => ?_)) | (refine isGuard ?_; refine WPL.splitD rfl rfl (fun hc => ?_) (fun hc => ?_)))
  · exact absurd (hget n (by omega)) hc
  · have e : k + (n : Int) + 1 = k + ((n + 1 : Nat) : Int) := by omega
    rw [e]
    refine PE.again (n + 1) ?_ ?_ sE sT
    · omega
    · omega
  · have hn1 : n = xs.length := by omega
    subst hn1
    refine PE.ret1 (T := []) (T' := []) rfl rV ?_ sT
    exact ⟨rfl, rfl⟩

theorem h_markE (w : World) (v : Value) (xs : List E) (k : Int) (hl : xs.length ≤ 1048576) (h0 : 0 ≤ k) (h1 : k ≤ 1048576) :
    Tri Try.prog 34 [v, .int .i64 k] w [Tok.own v xs] fun r T => ∃ ys : List E, r = .int .i64 (k + 2 * xs.length) ∧ T = [Tok.own v ys] := by
  refine Tri.intro (hf := Try.func34) (hb := rfl) (hn := Try.ntmps34) (Nat.le_of_ble_eq_true rfl) ?_
  try refine go ⟨?_⟩
  refine WP.loop (σ := Nat × List E) (fun s => [(0, v), (1, .int .i64 (k + 2 * s.1)), (5, .int .i64 s.1)]) (fun s => [Tok.own v s.2]) (fun s => s.1 ≤ xs.length ∧ s.2.length = xs.length) (fun s => xs.length - s.1) (0, xs) ⟨Nat.zero_le _, rfl⟩ ?_ sT ?_
  · dsimp only; simp only [Int.natCast_zero, Int.mul_zero, Int.add_zero]; exact sE
  rintro ⟨n, ys⟩ ⟨hn, hlen⟩
  dsimp only at hn hlen ⊢
  try refine go ⟨?_⟩
  refine WP.condD rfl (fun hc => ?_) (fun hc => ?_)
  · have hn' : n < ys.length := by omega
    try refine go ⟨?_⟩
    refine WPL.eff0 (OpE.storeF (r := 0) (⟨k + 2 * n, (ys.getD n (Enc.d : E)).B⟩ : E) rfl rfl pM2 lT (by decide) oN rfl (by rfl)) rfl ?_
    rintro _ _ rfl
    have hl3 : (ys.set n ⟨k + 2 * n, (ys.getD n (Enc.d : E)).B⟩).length = ys.length := List.length_set
    generalize ys.set n ⟨k + 2 * n, (ys.getD n (Enc.d : E)).B⟩ = zs at *
    try refine go ⟨?_⟩
    refine WPL.eff0 (OpE.storeF (r := 1) (⟨(zs.getD n (Enc.d : E)).A, k + 2 * n + 1⟩ : E) rfl rfl pM2 lT (by decide) oN rfl (by rfl)) rfl ?_
    rintro _ _ rfl
    have hl4 : (zs.set n ⟨(zs.getD n (Enc.d : E)).A, k + 2 * n + 1⟩).length = zs.length := List.length_set
    generalize zs.set n ⟨(zs.getD n (Enc.d : E)).A, k + 2 * n + 1⟩ = us at *
    try refine go ⟨?_⟩
    have e : k + 2 * (n : Int) + 1 + 1 = k + 2 * ((n + 1 : Nat) : Int) := by omega
    rw [e]
    refine PE.again (n + 1, us) ?_ ?_ sE sT2
    · dsimp only; omega
    · dsimp only; omega
  · have hn1 : n = xs.length := by omega
    subst hn1
    try refine go ⟨?_⟩
    refine PE.ret1 (T := [Tok.own v xs]) (T' := [Tok.own v ys]) rfl rV ?_ sT
    exact ⟨ys, rfl, rfl⟩

theorem h_markG (w : World) (n : Int) (v : Value) (xs : List E) (k : Int) (hl : xs.length ≤ 1048576) (h0 : 0 ≤ k) (h1 : k ≤ 1048576) :
    Tri Try.prog 26 [.agg #[.int .i64 n, v], .int .i64 k] w [Tok.own v xs] fun r T => ∃ ys : List E, r = .int .i64 (k + 2 * xs.length) ∧ T = [Tok.own v ys] := by
  refine Tri.intro (hf := Try.func26) (hb := rfl) (hn := Try.ntmps26) (Nat.le_of_ble_eq_true rfl) ?_
  try refine go ⟨?_⟩
  refine WPL.eff (OpE.box rfl) rfl rfl ?_; rintro _ _ ⟨b, rfl, rfl⟩
  try refine go ⟨?_⟩
  refine WPL.eff (OpE.callT (T := [Tok.own v xs]) lO pM (fun w hw => h_markE _ v xs k hl h0 h1)) rfl rfl ?_
  rintro r _ ⟨T, ⟨ys, rfl, rfl⟩, rfl⟩
  try refine go ⟨?_⟩
  refine PE.ret1 (T := [Tok.own v xs]) (T' := [Tok.own v ys]) rfl rV ?_ sT
  exact ⟨ys, rfl, rfl⟩
end Go.Proofs.Ythlgbeakcobeoaa
/- The helpers of the exact laws: marks on lists of edges. Conditions: those of each contract. -/
namespace Go.Proofs.Ythlgbeakcobeoaa
open Go
def emarks (k : Int) : Nat → List E
  | 0 => []
  | n + 1 => emarks k n ++ [⟨k + 2 * n, k + 2 * n + 1⟩]
theorem emarks_length (k : Int) : ∀ n, (emarks k n).length = n
  | 0 => rfl
  | n + 1 => by simp [emarks, emarks_length k n]
theorem emarks_get (k : Int) : ∀ (n i : Nat), i < n → (emarks k n).getD i (Enc.d : E) = ⟨k + 2 * i, k + 2 * i + 1⟩
  | 0, i, h => by omega
  | n + 1, i, h => by
    have hl := emarks_length k n
    rw [emarks, List.getD_eq_getElem?_getD]
    by_cases hi : i < n
    · rw [List.getElem?_append_left (by omega), ← List.getD_eq_getElem?_getD]; exact emarks_get k n i hi
    · have : i = n := by omega
      subst this
      rw [List.getElem?_append_right (by omega), hl, Nat.sub_self]; rfl
theorem emarks_set {k : Int} {n : Nat} {xs : List E} (h : n < xs.length) : (emarks k n ++ xs.drop n).set n ⟨k + 2 * n, k + 2 * n + 1⟩ = emarks k (n + 1) ++ xs.drop (n + 1) := by
  rw [List.drop_eq_getElem_cons h, List.set_append_right _ _ (by rw [emarks_length]; exact Nat.le_refl _), emarks_length, Nat.sub_self, List.set_cons_zero, emarks, List.append_assoc]; rfl
theorem set_getD {l : List E} {n : Nat} {a : E} (h : n < l.length) : (l.set n a).getD n (Enc.d : E) = a := by
  rw [List.getD_eq_getElem?_getD, List.getElem?_set_self h]; rfl
set_option linter.unusedVariables false set_option linter.unusedSimpArgs false attribute [local irreducible] Tok.own Tok.blk RL Rd eptr WP WPL PE WPD WPO Op1 OpE Tri Again Mid Exit.then Exit.inBlock bodyPost RP Code.wp wpList isOwn OneM One
set_option maxHeartbeats 8000000

theorem h_mrkE (w : World) (v : Value) (xs : List E) (k : Int) (hl : xs.length ≤ 1048576) (h0 : 0 ≤ k) (h1 : k ≤ 1048576) :
    Tri Try.prog 34 [v, .int .i64 k] w [Tok.own v xs] fun r T => r = .int .i64 (k + 2 * xs.length) ∧ T = [Tok.own v (emarks k xs.length)] := by
  refine Tri.intro (hf := Try.func34) (hb := rfl) (hn := Try.ntmps34) (Nat.le_of_ble_eq_true rfl) ?_
  try refine go ⟨?_⟩
  refine WP.loop (σ := Nat) (fun n => [(0, v), (1, .int .i64 (k + 2 * n)), (5, .int .i64 n)]) (fun n => [Tok.own v (emarks k n ++ xs.drop n)]) (fun n => n ≤ xs.length) (fun n => xs.length - n) 0 (Nat.zero_le _) ?_ sT ?_
  · simp only [Int.natCast_zero, Int.mul_zero, Int.add_zero]; exact sE
  intro n hn
  have hlen : (emarks k n ++ xs.drop n).length = xs.length := by rw [List.length_append, emarks_length, List.length_drop]; omega
  try refine go ⟨?_⟩
  refine WP.condD rfl (fun hc => ?_) (fun hc => ?_)
  · have hn' : n < xs.length := by omega
    try refine go ⟨?_⟩
    refine WPL.eff0 (OpE.storeF (r := 0) (⟨k + 2 * n, ((emarks k n ++ xs.drop n).getD n (Enc.d : E)).B⟩ : E) rfl rfl pM2 lT (by decide) oN rfl (by rfl)) rfl ?_
    rintro _ _ rfl
    have hes := emarks_set (k := k) hn'
    have hgt := set_getD (l := emarks k n ++ xs.drop n) (a := ⟨k + 2 * n, ((emarks k n ++ xs.drop n).getD n (Enc.d : E)).B⟩) (n := n) (by omega)
    have hss : ((emarks k n ++ xs.drop n).set n ⟨k + 2 * n, ((emarks k n ++ xs.drop n).getD n (Enc.d : E)).B⟩).set n ⟨k + 2 * n, k + 2 * n + 1⟩ = emarks k (n + 1) ++ xs.drop (n + 1) := by rw [List.set_set]; exact hes
    have hl3 : ((emarks k n ++ xs.drop n).set n ⟨k + 2 * n, ((emarks k n ++ xs.drop n).getD n (Enc.d : E)).B⟩).length = xs.length := by rw [List.length_set]; exact hlen
    generalize (emarks k n ++ xs.drop n).set n ⟨k + 2 * n, ((emarks k n ++ xs.drop n).getD n (Enc.d : E)).B⟩ = zs at *
    try refine go ⟨?_⟩
    refine WPL.eff0 (OpE.storeF (r := 1) (⟨(zs.getD n (Enc.d : E)).A, k + 2 * n + 1⟩ : E) rfl rfl pM2 lT (by decide) oN rfl (by rfl)) rfl ?_
    rintro _ _ rfl
    rw [hgt, hss]
    try refine go ⟨?_⟩
    have e : k + 2 * (n : Int) + 1 + 1 = k + 2 * ((n + 1 : Nat) : Int) := by omega
    rw [e]
    refine PE.again (n + 1) ?_ ?_ sE sT2
    · (try dsimp only); omega
    · (try dsimp only); omega
  · have hn1 : n = xs.length := by omega
    subst hn1
    have e : emarks k xs.length ++ xs.drop xs.length = emarks k xs.length := by rw [List.drop_length, List.append_nil]
    rw [e]
    try refine go ⟨?_⟩
    refine PE.ret1 (T := [Tok.own v xs]) (T' := [Tok.own v (emarks k xs.length)]) rfl rV ?_ sT
    exact ⟨rfl, rfl⟩

theorem h_heldE (w : World) (v : Value) (k : Int) (n : Nat) (h : RL w v (emarks k n)) (hl : n ≤ 1048576) (h0 : 0 ≤ k) (h1 : k ≤ 1048576) :
    Tri Try.prog 35 [v, .int .i64 k] w [] fun r T => r = .int .i64 (k + 2 * n) ∧ T = [] := by
  have hlen := emarks_length k n
  have hget := emarks_get k n
  generalize emarks k n = xs at *
  subst hlen
  refine Tri.intro (hf := Try.func35) (hb := rfl) (hn := Try.ntmps35) (Nat.le_of_ble_eq_true rfl) ?_
  try refine go ⟨?_⟩
  refine WP.loop (σ := Nat) (fun n => [(0, v), (1, .int .i64 (k + 2 * n)), (5, .int .i64 n)]) (fun n => []) (fun n => n ≤ xs.length) (fun n => xs.length - n) 0 (Nat.zero_le _) ?_ sT ?_
  · simp only [Int.natCast_zero, Int.mul_zero, Int.add_zero]; exact sE
  intro n hn
  try refine go ⟨?_⟩
  refine WP.condD rfl (fun hc => ?_) (fun hc => ?_)
  · have hg := hget n (by omega)
    have hgA : (xs.getD n (Enc.d : E)).A = k + 2 * n := by rw [hg]
    have hgB : (xs.getD n (Enc.d : E)).B = k + 2 * n + 1 := by rw [hg]
    try refine go ⟨?_⟩
    refine WP.condD rfl (fun h2 => ?_) (fun h2 => ?_)
    · exact absurd hgA h2
    try refine go ⟨?_⟩
    refine WP.condD rfl (fun h3 => ?_) (fun h3 => ?_)
    · exact absurd hgB h3
    try refine go ⟨?_⟩
    have e : k + 2 * (n : Int) + 1 + 1 = k + 2 * ((n + 1 : Nat) : Int) := by omega
    rw [e]
    refine PE.again (n + 1) ?_ ?_ sE sT2
    · (try dsimp only); omega
    · (try dsimp only); omega
  · have hn1 : n = xs.length := by omega
    subst hn1
    try refine go ⟨?_⟩
    refine PE.ret1 (T := []) (T' := []) rfl rV ?_ sT
    exact ⟨rfl, rfl⟩
end Go.Proofs.Ythlgbeakcobeoaa
/- The helpers of the exact laws: marks on graphs. Conditions: those of each contract. -/
namespace Go.Proofs.Ythlgbeakcobeoaa
open Go
set_option linter.unusedVariables false set_option linter.unusedSimpArgs false attribute [local irreducible] Tok.own Tok.blk RL Rd eptr WP WPL PE WPD WPO Op1 OpE Tri Again Mid Exit.then Exit.inBlock bodyPost RP Code.wp wpList isOwn OneM One
set_option maxHeartbeats 8000000

theorem h_mrkG (w : World) (n : Int) (v : Value) (xs : List E) (k : Int) (hl : xs.length ≤ 1048576) (h0 : 0 ≤ k) (h1 : k ≤ 1048576) :
    Tri Try.prog 26 [.agg #[.int .i64 n, v], .int .i64 k] w [Tok.own v xs] fun r T => r = .int .i64 (k + 2 * xs.length) ∧ T = [Tok.own v (emarks k xs.length)] := by
  refine Tri.intro (hf := Try.func26) (hb := rfl) (hn := Try.ntmps26) (Nat.le_of_ble_eq_true rfl) ?_
  try refine go ⟨?_⟩
  refine WPL.eff (OpE.box rfl) rfl rfl ?_; rintro _ _ ⟨b, rfl, rfl⟩
  try refine go ⟨?_⟩
  refine WPL.eff (OpE.callT (T := [Tok.own v xs]) lO pM (fun w hw => h_mrkE _ v xs k hl h0 h1)) rfl rfl ?_
  rintro r _ ⟨T, ⟨rfl, rfl⟩, rfl⟩
  try refine go ⟨?_⟩
  refine PE.ret1 (T := [Tok.own v xs]) (T' := [Tok.own v (emarks k xs.length)]) rfl rV ?_ sT
  exact ⟨rfl, rfl⟩

theorem h_heldG (w : World) (m : Int) (v : Value) (k : Int) (n : Nat) (h : RL w v (emarks k n)) (hl : n ≤ 1048576) (h0 : 0 ≤ k) (h1 : k ≤ 1048576) :
    Tri Try.prog 38 [.agg #[.int .i64 m, v], .int .i64 k] w [] fun r T => r = .int .i64 (k + 2 * n) ∧ T = [] := by
  refine Tri.intro (hf := Try.func38) (hb := rfl) (hn := Try.ntmps38) (Nat.le_of_ble_eq_true rfl) ?_
  try refine go ⟨?_⟩
  refine WPL.eff (OpE.box rfl) rfl rfl ?_; rintro _ _ ⟨b, rfl, rfl⟩
  try refine go ⟨?_⟩
  refine WPL.eff (OpE.call lO (fun w hw => h_heldE _ v k n (Rd.at rD hw) hl h0 h1)) rfl rfl ?_
  rintro r _ ⟨T, ⟨rfl, rfl⟩, rfl⟩
  try refine go ⟨?_⟩
  rw [decide_eq_false (show ¬ (k + 2 * (n : Int) < 0) by omega)]
  try refine go ⟨?_⟩
  refine PE.ret1 (T := []) (T' := []) rfl rV ?_ sT
  exact ⟨rfl, rfl⟩
end Go.Proofs.Ythlgbeakcobeoaa
/- Graphs: the walks of GraphSame, bridgesOnly and LostBy. Conditions: those of each contract. -/
namespace Go.Proofs.Ythlgbeakcobeoaa
open Go
set_option linter.unusedVariables false set_option linter.unusedSimpArgs false attribute [local irreducible] Tok.own Tok.blk RL Rd eptr WP WPL PE WPD WPO Op1 OpE Tri Again Mid Exit.then Exit.inBlock bodyPost RP Code.wp wpList isOwn OneM One
attribute [local irreducible] Pred
set_option maxHeartbeats 8000000

end Go.Proofs.Ythlgbeakcobeoaa
/- The second program's source of drawn numbers. Conditions: those of each contract. -/
namespace Go.Proofs.Ythlgbeakcobeoaa
open Go
theorem fps_blk (b : Nat) (cs : List Value) : fps [Tok.blk b cs] = [b] := rfl
theorem rl_inb {α : Type} [Enc α] {w : World} {v : Value} {xs : List α} (h : RL w v xs) : ∀ b ∈ vfp v, b < w.heap.size := rdAt_inb h
theorem mem_fps {b : Nat} {cs : List Value} {F : List Tok} (h : Tok.blk b cs ∈ F) : b ∈ fps F := List.mem_flatMap.2 ⟨_, h, by show b ∈ [b]; simp⟩
theorem own_mem_fps {α : Type} [Enc α] {F : List Tok} {v : Value} {xs : List α} (h : Tok.own v xs ∈ F) {b : Nat} (hb : b ∈ vfp v) : b ∈ fps F := List.mem_flatMap.2 ⟨_, h, hb⟩
theorem blk_mem_fp {b : Nat} {cs : List Value} : b ∈ (Tok.blk b cs).fp := by show b ∈ [b]; simp
set_option linter.unusedVariables false set_option linter.unusedSimpArgs false attribute [local irreducible] Tok.own Tok.blk RL Rd eptr WP WPL PE WPD WPO Op1 OpE Tri Again Mid Exit.then Exit.inBlock bodyPost RP Code.wp wpList isOwn OneM One
set_option maxHeartbeats 8000000

def ptr (b : Nat) : Value := .pointer (some ⟨b, 0, none⟩)

/-- What a source keeps of a code. -/
def cvOf (v : Value) (bs : List UInt8) : Value := if 2000 < bs.length then slcV v (2000 : Int).toNat else v
def bsOf (bs : List UInt8) : List UInt8 := if 2000 < bs.length then bs.take (2000 : Int).toNat else bs
theorem RL.cvOf {w : World} {v : Value} {bs : List UInt8} (h : RL w v bs) : RL w (cvOf v bs) (bsOf bs) := by
  unfold Proofs.Ythlgbeakcobeoaa.cvOf bsOf
  split
  · exact h.take (by omega)
  · exact h
theorem bsOf_le (bs : List UInt8) : (bsOf bs).length ≤ 2000 := by
  unfold bsOf
  split
  · rw [List.length_take]; omega
  · omega

theorem d_Open (w : World) (v : Value) (bs : List UInt8) (h : RL w v bs) (hl : bs.length ≤ 9223372036854775807) :
    Tri Try.prog 87 [v] w [] fun r T => ∃ rb, r = .pointer (some ⟨rb, 0, none⟩) ∧ T = [Tok.blk rb [cvOf v bs, .int .i64 0]] := by
  by_cases hb : 2000 < (bs.length : Int)
  · have hq : RL w (slcV v (2000 : Int).toNat) (bs.take (2000 : Int).toNat) := h.take (by omega)
    have o1 := hq.oneG
    have e1 : cvOf v bs = slcV v (2000 : Int).toNat := if_pos (by omega)
    refine Tri.intro (hf := Try.func87) (hb := rfl) (hn := Try.ntmps87) (Nat.le_of_ble_eq_true rfl) ?_
    repeat' (first | refine go ⟨?_⟩ | (refine isCond ?_; refine WP.condD rfl (fun hc => ?_) (fun hc => ?_)) | (refine isGuard ?_; refine WPL.splitD rfl rfl (fun hc => ?_) (fun hc => ?_)))
    · refine WPL.eff (OpE.box rfl) rfl rfl ?_; rintro _ _ ⟨rb, rfl, rfl⟩
      repeat' (first | refine go ⟨?_⟩ | (refine isCond ?_; refine WP.condD rfl (fun hc => ?_) (fun hc => ?_)) | (refine isGuard ?_; refine WPL.splitD rfl rfl (fun hc => ?_) (fun hc => ?_)))
      refine PE.ret1 (T := []) (T' := [Tok.blk rb [slcV v (2000 : Int).toNat, .int .i64 0]]) rfl rV ?_ sT
      exact ⟨rb, rfl, by rw [e1]⟩
    · omega
  · have e1 : cvOf v bs = v := if_neg (by omega)
    refine Tri.intro (hf := Try.func87) (hb := rfl) (hn := Try.ntmps87) (Nat.le_of_ble_eq_true rfl) ?_
    try refine go ⟨?_⟩
    rw [decide_eq_false hb]
    try refine go ⟨?_⟩
    refine WPL.eff (OpE.box rfl) rfl rfl ?_; rintro _ _ ⟨rb, rfl, rfl⟩
    try refine go ⟨?_⟩
    refine PE.ret1 (T := []) (T' := [Tok.blk rb [v, .int .i64 0]]) rfl rV ?_ sT
    exact ⟨rb, rfl, by rw [e1]⟩

theorem d_pick (w : World) (rb : Nat) (cv : Value) (bs : List UInt8) (p n : Int) (h : RL w cv bs) (hd : ∀ b ∈ vfp cv, b ≠ rb) (hl : bs.length ≤ 2000) (hp : 0 ≤ p ∧ p ≤ 1000000) (hn : n ≤ 1000000) :
    Tri Try.prog 118 [.pointer (some ⟨rb, 0, none⟩), .int .i64 n] w [Tok.blk rb [cv, .int .i64 p]] fun r T =>
      T = [Tok.blk rb [cv, .int .i64 (p + 1)]] ∧ ∃ k : Int, r = .int .i64 k ∧ 0 ≤ k ∧ (1 ≤ n → k < n) := by
  have hA : RdA ⟨99, w, fps [Tok.blk rb [cv, .int .i64 p]]⟩ cv bs := RdA.mk h (fun b hb => by
    have := hd b hb
    rw [fps_blk]; simpa using this)
  refine Tri.intro (hf := Try.func118) (hb := rfl) (hn := Try.ntmps118) (Nat.le_of_ble_eq_true rfl) ?_
  have ek : p + 1 - 1 = p := by omega
  have b1 := UInt8.toNat_lt (bs.getD (p + 1 - 1).toNat Enc.d)
  have m1 := Int.emod_nonneg (((bs.getD (p + 1 - 1).toNat Enc.d).toNat : Nat) : Int) (b := n)
  have m2 := Int.emod_lt_of_pos (((bs.getD (p + 1 - 1).toNat Enc.d).toNat : Nat) : Int) (b := n)
  repeat' (first | exact absurd rfl hc | refine goA ⟨?_⟩ | (refine isCond ?_; refine WP.condD rfl (fun hc => ?_) (fun hc => ?_)) | (refine isGuard ?_; refine WPL.splitD rfl rfl (fun hc => ?_) (fun hc => ?_)))
  · refine PE.ret1 (T := [Tok.blk rb [cv, .int .i64 p]]) (T' := [Tok.blk rb [cv, .int .i64 (p + 1)]]) rfl rV ?_ sT
    exact ⟨rfl, 0, rfl, by omega, by omega⟩
  · refine PE.ret1 (T := [Tok.blk rb [cv, .int .i64 p]]) (T' := [Tok.blk rb [cv, .int .i64 (p + 1)]]) rfl rV ?_ sT
    exact ⟨rfl, 0, rfl, by omega, by omega⟩
  · refine PE.ret1 (T := [Tok.blk rb [cv, .int .i64 p]]) (T' := [Tok.blk rb [cv, .int .i64 (p + 1)]]) rfl rV ?_ sT
    exact ⟨rfl, _, rfl, m1 (by omega), fun _ => m2 (by omega)⟩
  rw [ek]
  have hlen : 0 < (bs.length : Int) := by omega
  have i1 := Int.emod_nonneg p (b := bs.length) (by omega)
  have i2 := Int.emod_lt_of_pos p hlen
  have i3 := Int.emod_nonneg (p * 7 + 3) (b := bs.length) (by omega)
  have i4 := Int.emod_lt_of_pos (p * 7 + 3) hlen
  have c1 := UInt8.toNat_lt (bs.getD (p % bs.length).toNat Enc.d)
  have c2 := UInt8.toNat_lt (bs.getD ((p * 7 + 3) % bs.length).toNat Enc.d)
  have q1 := Int.ediv_nonneg (a := p) (b := bs.length) (by omega) (by omega)
  have q2 := Int.ediv_le_self (a := p) bs.length (by omega)
  refine WP.draw [Tok.blk rb [cv, .int .i64 (p + 1)]] mixed ?_
  refine WPD.take 0 rfl (Op1.move rfl) rfl rfl sT kR kR kR xQP ?_
  refine WPD.take 4 rfl (Op1.move rfl) rfl rfl sT kR kR kR xQP ?_
  refine WPD.take 5 rfl (Op1.move rfl) rfl rfl sT kR kR kR xQP ?_
  refine WPD.take 15 rfl (Op1.move rfl) rfl rfl sT kR kR kR xQP ?_
  refine WPD.take 19 rfl (Op1.move rfl) rfl rfl sT kR kR kR xQP ?_
  refine WPD.take 22 rfl (Op1.move rfl) rfl rfl sT kR kR kR xQP ?_
  refine WPD.take 33 rfl (Op1.move rfl) rfl rfl sT kR kR kR xQP ?_
  refine WPD.take 36 rfl (Op1.move rfl) rfl rfl sT kR kR kR xQP ?_
  refine WPD.take 37 rfl (Op1.move rfl) rfl rfl sT kR kR kR xQP ?_
  refine WPD.take 1 rfl (Op1.nilCheck rfl) rfl rfl sT kR kR kR xQP ?_
  refine WPD.take 6 rfl (Op1.nilCheck rfl) rfl rfl sT kR kR kR xQP ?_
  refine WPD.take 16 rfl (Op1.nilCheck rfl) rfl rfl sT kR kR kR xQP ?_
  refine WPD.take 20 rfl (Op1.mul rfl rfl (by omega)) rfl rfl sT kR kR kR xQP ?_
  refine WPD.take 23 rfl (Op1.nilCheck rfl) rfl rfl sT kR kR kR xQP ?_
  refine WPD.take 34 rfl (Op1.mul rfl rfl (by omega)) rfl rfl sT kR kR kR xQP ?_
  refine WPD.take 38 rfl (Op1.nilCheck rfl) rfl rfl sT kR kR kR xQP ?_
  refine WPD.take 2 rfl (by first | exact (Op1.fieldAddr rfl) | exact (Op1.fieldAddrE rfl rDA lT)) rfl rfl sT kR kR kR xQP ?_
  refine WPD.take 7 rfl (by first | exact (Op1.fieldAddr rfl) | exact (Op1.fieldAddrE rfl rDA lT)) rfl rfl sT kR kR kR xQP ?_
  refine WPD.take 17 rfl (by first | exact (Op1.fieldAddr rfl) | exact (Op1.fieldAddrE rfl rDA lT)) rfl rfl sT kR kR kR xQP ?_
  refine WPD.take 21 rfl (Op1.add rfl rfl (by omega)) rfl rfl sT kR kR kR xQP ?_
  refine WPD.take 24 rfl (by first | exact (Op1.fieldAddr rfl) | exact (Op1.fieldAddrE rfl rDA lT)) rfl rfl sT kR kR kR xQP ?_
  refine WPD.take 39 rfl (by first | exact (Op1.fieldAddr rfl) | exact (Op1.fieldAddrE rfl rDA lT)) rfl rfl sT kR kR kR xQP ?_
  refine WPD.take 3 rfl (by first | exact (Op1.load rfl mM (by rfl)) | exact (Op1.loadI rfl rDA lT) | exact (Op1.loadAll rfl mM (by rfl)) | exact (Op1.loadE rfl rDA lT (by rfl)) | exact (Op1.loadEAgg rfl rDA lT (by rfl))) rfl rfl sT kR kR kR xQP ?_
  refine WPD.take 8 rfl (by first | exact (Op1.load rfl mM (by rfl)) | exact (Op1.loadI rfl rDA lT) | exact (Op1.loadAll rfl mM (by rfl)) | exact (Op1.loadE rfl rDA lT (by rfl)) | exact (Op1.loadEAgg rfl rDA lT (by rfl))) rfl rfl sT kR kR kR xQP ?_
  refine WPD.take 18 rfl (by first | exact (Op1.load rfl mM (by rfl)) | exact (Op1.loadI rfl rDA lT) | exact (Op1.loadAll rfl mM (by rfl)) | exact (Op1.loadE rfl rDA lT (by rfl)) | exact (Op1.loadEAgg rfl rDA lT (by rfl))) rfl rfl sT kR kR kR xQP ?_
  refine WPD.take 25 rfl (by first | exact (Op1.load rfl mM (by rfl)) | exact (Op1.loadI rfl rDA lT) | exact (Op1.loadAll rfl mM (by rfl)) | exact (Op1.loadE rfl rDA lT (by rfl)) | exact (Op1.loadEAgg rfl rDA lT (by rfl))) rfl rfl sT kR kR kR xQP ?_
  refine WPD.take 40 rfl (by first | exact (Op1.load rfl mM (by rfl)) | exact (Op1.loadI rfl rDA lT) | exact (Op1.loadAll rfl mM (by rfl)) | exact (Op1.loadE rfl rDA lT (by rfl)) | exact (Op1.loadEAgg rfl rDA lT (by rfl))) rfl rfl sT kR kR kR xQP ?_
  refine WPD.take 9 rfl (Op1.len rfl rDA) rfl rfl sT kR kR kR xQP ?_
  refine WPD.take 26 rfl (Op1.len rfl rDA) rfl rfl sT kR kR kR xQP ?_
  refine WPD.take 41 rfl (Op1.len rfl rDA) rfl rfl sT kR kR kR xQP ?_
  refine WPD.take 10 rfl (Op1.rem rfl rfl (by omega)) rfl rfl sT kR kR kR xQP ?_
  refine WPD.take 27 rfl (Op1.rem rfl rfl (by omega)) rfl rfl sT kR kR kR xQP ?_
  refine WPD.take 42 rfl (Op1.quo rfl rfl (by omega)) rfl rfl sT kR kR kR xQP ?_
  refine WPD.take 11 rfl (by first | exact (Op1.indexAddr rfl rfl rDA lT) | exact (Op1.indexAddrZ rfl rfl rDA lT)) rfl rfl sT kR kR kR xQP ?_
  refine WPD.take 28 rfl (by first | exact (Op1.indexAddr rfl rfl rDA lT) | exact (Op1.indexAddrZ rfl rfl rDA lT)) rfl rfl sT kR kR kR xQP ?_
  refine WPD.take 43 rfl (Op1.mul rfl rfl (by omega)) rfl rfl sT kR kR kR xQP ?_
  refine WPD.take 12 rfl (by first | exact (Op1.load rfl mM (by rfl)) | exact (Op1.loadI rfl rDA lT) | exact (Op1.loadAll rfl mM (by rfl)) | exact (Op1.loadE rfl rDA lT (by rfl)) | exact (Op1.loadEAgg rfl rDA lT (by rfl))) rfl rfl sT kR kR kR xQP ?_
  refine WPD.take 29 rfl (by first | exact (Op1.load rfl mM (by rfl)) | exact (Op1.loadI rfl rDA lT) | exact (Op1.loadAll rfl mM (by rfl)) | exact (Op1.loadE rfl rDA lT (by rfl)) | exact (Op1.loadEAgg rfl rDA lT (by rfl))) rfl rfl sT kR kR kR xQP ?_
  refine WPD.take 13 rfl oPA rfl rfl sT kR kR kR xQP ?_
  refine WPD.take 30 rfl oPA rfl rfl sT kR kR kR xQP ?_
  refine WPD.take 14 rfl (Op1.mul rfl rfl (by omega)) rfl rfl sT kR kR kR xQP ?_
  refine WPD.take 31 rfl (Op1.mul rfl rfl (by omega)) rfl rfl sT kR kR kR xQP ?_
  refine WPD.take 32 rfl (Op1.add rfl rfl (by omega)) rfl rfl sT kR kR kR xQP ?_
  refine WPD.take 35 rfl (Op1.add rfl rfl (by omega)) rfl rfl sT kR kR kR xQP ?_
  refine WPD.take 44 rfl (Op1.add rfl rfl (by omega)) rfl rfl sT kR kR kR xQP ?_
  refine WPD.take 45 rfl (Op1.assign rfl) rfl rfl sT kR kR kR xQP ?_
  refine WPD.done kR ?_
  obtain ⟨X, hX⟩ : ∃ X : Int, X = (((bs.getD (p % bs.length).toNat Enc.d).toNat : Nat) : Int) * 131 + (((bs.getD ((p * 7 + 3) % bs.length).toNat Enc.d).toNat : Nat) : Int) * 1117 + p * 29 + p / bs.length * 53 := ⟨_, rfl⟩
  have hX0 : 0 ≤ X ∧ X ≤ 1000000000000 := by omega
  rw [← hX]
  try refine goA ⟨?_⟩
  have m3 := Int.emod_nonneg (((X.toNat ^^^ (X / 64).toNat : Nat)) : Int) (b := n) (by omega)
  have m4 := Int.emod_lt_of_pos (((X.toNat ^^^ (X / 64).toNat : Nat)) : Int) (b := n) (by omega)
  refine PE.ret1 (T := [Tok.blk rb [cv, .int .i64 p]]) (T' := [Tok.blk rb [cv, .int .i64 (p + 1)]]) rfl rV ?_ sT
  exact ⟨rfl, _, rfl, m3, fun _ => m4⟩

theorem St.ne {W w : World} {F : List Tok} {rb : Nat} {cs : List Value} {α : Type} [Enc α] {v : Value} {xs : List α} (hw : St W [] F w) (hm : Tok.blk rb cs ∈ F) (h : RL W v xs) : ∀ b ∈ vfp v, b ≠ rb := by
  intro b hb e
  subst e
  have h1 : b < W.heap.size := rl_inb h b hb
  rcases hw.base b (mem_fps hm) with h2 | h2
  · cases h2
  · omega

theorem St.own_ne {W w : World} {M : List Nat} {F F0 : List Tok} {rb : Nat} {cs : List Value} {α : Type} [Enc α] {v : Value} {xs : List α} (hw : St W M F w) (hp : F.Perm (Tok.blk rb cs :: F0)) (h : Tok.own v xs ∈ F0) : ∀ b ∈ vfp v, b ≠ rb := by
  intro b hb e
  subst e
  have h1 := (hw.sub ⟨[], by simpa using hp⟩).nodup
  rw [fps_cons] at h1
  have h2 : b ∈ fps F0 := own_mem_fps h hb
  exact (List.nodup_append.1 h1).2.2 b blk_mem_fp b h2 rfl

theorem d_num (w : World) (rb : Nat) (cv s : Value) (bs : List UInt8) (xs : List Int) (p : Int) (h : RL w cv bs) (hd : ∀ b ∈ vfp cv, b ≠ rb) (hs : RL w s xs) (hds : ∀ b ∈ vfp s, b ≠ rb) (hl : bs.length ≤ 2000) (hp : 0 ≤ p ∧ p ≤ 1000000) (hn : 1 ≤ xs.length ∧ xs.length ≤ 1000000) :
    Tri Try.prog 88 [.pointer (some ⟨rb, 0, none⟩), s] w [Tok.blk rb [cv, .int .i64 p]] fun r T =>
      T = [Tok.blk rb [cv, .int .i64 (p + 1)]] ∧ ∃ k : Int, r = .int .i64 k ∧ k ∈ xs := by
  have hA : RdA ⟨12, w, fps [Tok.blk rb [cv, .int .i64 p]]⟩ s xs := RdA.mk hs (fun b hb => by
    have := hds b hb
    rw [fps_blk]; simpa using this)
  have hB : RdA ⟨12, w, fps [Tok.blk rb [cv, .int .i64 p]]⟩ cv bs := RdA.mk h (fun b hb => by
    have := hd b hb
    rw [fps_blk]; simpa using this)
  refine Tri.intro (hf := Try.func88) (hb := rfl) (hn := Try.ntmps88) (Nat.le_of_ble_eq_true rfl) ?_
  try refine goA ⟨?_⟩
  refine WPL.eff (OpE.callT (T := [Tok.blk rb [cv, .int .i64 p]]) lO pM (fun w hw => d_pick _ rb cv bs p xs.length (Rd.at (Rd.ofA hB) hw) hd hl hp (by omega))) rfl rfl ?_
  rintro r _ ⟨T, ⟨rfl, k, rfl, k0, k1⟩, rfl⟩
  have k2 := k1 (by omega)
  try refine goA ⟨?_⟩
  refine PE.ret1 (T := [Tok.blk rb [cv, .int .i64 p]]) (T' := [Tok.blk rb [cv, .int .i64 (p + 1)]]) rfl rV ?_ sT
  exact ⟨rfl, _, rfl, getD_memI (by omega)⟩
end Go.Proofs.Ythlgbeakcobeoaa
/- The second program's drawn graphs. Conditions: those of each contract. -/
namespace Go.Proofs.Ythlgbeakcobeoaa
open Go
theorem insP_len (es : List E) (e : E) : (insP es e).length = es.length + 1 := by
  have h := congrArg List.length (List.takeWhile_append_dropWhile (p := fun f => !decide (ltE e f)) (l := es))
  rw [List.length_append] at h
  unfold insP
  rw [List.length_append, List.length_cons]; omega
/-- Drawn values: new memory, and short. -/
def dG (r : Value) (T : List Tok) : Prop := ∃ v n, ∃ es : List E, r = .agg #[.int .i64 n, v] ∧ T = [Tok.own v es] ∧ es.length ≤ 60
def dGx (r : Value) (T : List Tok) : Prop := ∃ v n, ∃ es : List E, ∃ x : Int, r = .tuple #[.agg #[.int .i64 n, v], .int .i64 x] ∧ T = [Tok.own v es] ∧ es.length ≤ 60 ∧ n ≤ 17
def dGxy (r : Value) (T : List Tok) : Prop := ∃ v n, ∃ es : List E, ∃ x y : Int, r = .tuple #[.agg #[.int .i64 n, v], .int .i64 x, .int .i64 y] ∧ T = [Tok.own v es] ∧ es.length ≤ 60
def dGe (r : Value) (T : List Tok) : Prop := ∃ v n, ∃ es : List E, ∃ e : E, r = .tuple #[.agg #[.int .i64 n, v], ep e] ∧ T = [Tok.own v es] ∧ es.length ≤ 60
theorem s_FindI (w : World) (v : Value) (e : E) (es : List E) (h : RL w v es) (hl : es.length ≤ 1099511627776) :
    Tri Try.prog 135 [v, ep e] w [] fun r T => T = [] ∧ ∃ k : Int, r = .int .i64 k :=
  fun hn hh => (s_Find w v e es h hl hn hh).mono fun _ w' ⟨r, T, h1, h2, h3⟩ => ⟨r, T, h1, ⟨h2.1, by
    rcases h2.2 with ⟨_, n, _, rfl, _⟩ | ⟨_, rfl⟩
    · exact ⟨_, rfl⟩
    · exact ⟨_, rfl⟩⟩, h3⟩

set_option linter.unusedVariables false set_option linter.unusedSimpArgs false attribute [local irreducible] Tok.own Tok.blk RL Rd eptr WP WPL PE WPD WPO Op1 OpE Tri Again Mid Exit.then Exit.inBlock bodyPost RP Code.wp wpList isOwn OneM One
set_option maxHeartbeats 8000000

theorem g_Edge (w : World) (x y : Int) : Tri Try.prog 134 [.int .i64 x, .int .i64 y] w [] fun r T => T = [] ∧ ∃ e : E, r = ep e := by
  refine Tri.intro (hf := Try.func134) (hb := rfl) (hn := Try.ntmps134) (Nat.le_of_ble_eq_true rfl) ?_
  try refine go ⟨?_⟩
  refine WPL.eff OpE.alloc rfl rfl ?_; rintro _ _ ⟨b, rfl, rfl⟩
  repeat' (first | exact absurd rfl hc | refine go ⟨?_⟩ | (refine isCond ?_; refine WP.condD rfl (fun hc => ?_) (fun hc => ?_)) | (refine isGuard ?_; refine WPL.splitD rfl rfl (fun hc => ?_) (fun hc => ?_)))
  all_goals (refine PE.ret1 (T := []) (T' := []) rfl rV ?_ sT)
  · exact ⟨rfl, ⟨x, y⟩, rfl⟩
  · exact ⟨rfl, ⟨y, x⟩, rfl⟩

theorem g_Copy (w : World) (n : Int) (vE : Value) (es : List E) (hE : RL w vE es) (hl : es.length ≤ 1000000) :
    Tri Try.prog 136 [.agg #[.int .i64 n, vE]] w [] fun r T => ∃ v, r = .agg #[.int .i64 n, v] ∧ T = [Tok.own v es] := by
  refine Tri.intro (hf := Try.func136) (hb := rfl) (hn := Try.ntmps136) (Nat.le_of_ble_eq_true rfl) ?_
  try refine go ⟨?_⟩
  refine WPL.eff (OpE.box rfl) rfl rfl ?_; rintro _ _ ⟨b, rfl, rfl⟩
  refine WPL.eff OpE.alloc rfl rfl ?_; rintro _ _ ⟨b2, rfl, rfl⟩
  try refine go ⟨?_⟩
  refine WP.draw [Tok.blk b [.int .i64 n, vE]] mixed ?_
  refine WPD.take 0 rfl (by first | exact (Op1.fieldAddr rfl) | exact (Op1.fieldAddrE rfl rD lT)) rfl rfl sT kR kR kR xQP ?_
  refine WPD.take 3 rfl (by first | exact (Op1.fieldAddr rfl) | exact (Op1.fieldAddrE rfl rD lT)) rfl rfl sT kR kR kR xQP ?_
  refine WPD.take 1 rfl (by first | exact (Op1.load rfl mM (by rfl)) | exact (Op1.loadI rfl rD lT) | exact (Op1.loadAll rfl mM (by rfl)) | exact (Op1.loadE rfl rD lT (by rfl)) | exact (Op1.loadEAgg rfl rD lT (by rfl))) rfl rfl sT kR kR kR xQP ?_
  refine WPD.take 4 rfl (by first | exact (Op1.load rfl mM (by rfl)) | exact (Op1.loadI rfl rD lT) | exact (Op1.loadAll rfl mM (by rfl)) | exact (Op1.loadE rfl rD lT (by rfl)) | exact (Op1.loadEAgg rfl rD lT (by rfl))) rfl rfl sT kR kR kR xQP ?_
  refine WPD.eff 2 kR rfl (OpE.buildSlice (([] : List E)) pA rfl (by decide)) rfl rfl ?_
  rintro s _ rfl
  refine ⟨sT, ?_⟩
  refine WPD.eff 5 kR rfl (OpE.append rfl rfl pM rD lN) rfl rfl ?_
  rintro v _ rfl
  refine ⟨sT, ?_⟩
  refine WPD.eff 6 kR rfl (OpE.ofPure (Op1.build xBP (by rfl))) rfl rfl ?_
  rintro _ _ ⟨rfl, rfl⟩
  refine ⟨sT, ?_⟩
  refine WPD.eff0 7 kR rfl (OpE.storeAll rfl rfl pM (by rfl) (by rfl) oN) rfl ?_
  rintro _ _ rfl
  refine ⟨sT, ?_⟩
  refine WPD.done kR ?_
  all_goals (
    try refine go ⟨?_⟩
    refine PE.ret1 (T := []) (T' := [Tok.own v es]) rfl rV ?_ sT
    exact ⟨v, rfl, rfl⟩)

theorem g_Draw (w : World) (rb : Nat) (cv : Value) (bs : List UInt8) (h : RL w cv bs) (hd : ∀ b ∈ vfp cv, b ≠ rb) (hl : bs.length ≤ 2000) :
    Tri Try.prog 123 [ptrV rb] w [Tok.blk rb [cv, .int .i64 0]] fun r T => ∃ v n p, ∃ es : List E, r = .agg #[.int .i64 n, v] ∧ T = [Tok.own v es, Tok.blk rb [cv, .int .i64 p]] ∧ es.length ≤ 30 ∧ 1 ≤ n ∧ n ≤ 16 ∧ 0 ≤ p ∧ p ≤ 100 := by
  have hA : RdA ⟨65, w, fps [Tok.blk rb [cv, .int .i64 0]]⟩ cv bs := RdA.mk h (fun b hb => by
    have := hd b hb
    rw [fps_blk]; simpa using this)
  refine Tri.intro (hf := Try.func123) (hb := rfl) (hn := Try.ntmps123) (Nat.le_of_ble_eq_true rfl) ?_
  try refine goA ⟨?_⟩
  refine WPL.eff OpE.alloc rfl rfl ?_; rintro _ _ ⟨br, rfl, rfl⟩
  try refine goA ⟨?_⟩
  refine WPL.eff (OpE.buildSlice [6, 5, 7, 4, 8, 10, 3, 1, 16] pA rfl (by decide)) rfl rfl ?_; rintro s0 _ rfl
  try refine goA ⟨?_⟩
  refine WPL.eff (OpE.callT (T := [Tok.blk rb [cv, .int .i64 0]]) lO pM2 (fun w hw => d_num _ rb cv s0 bs [6, 5, 7, 4, 8, 10, 3, 1, 16] 0 (Rd.at rDA hw) hd (Rd.at rDA hw) (hw.own_ne pM mM) hl (by omega) (by decide))) rfl rfl ?_
  rintro r _ ⟨T, ⟨rfl, n, rfl, hn⟩, rfl⟩
  have hn1 : 1 ≤ n ∧ n ≤ 16 := by
    simp only [List.mem_cons, List.mem_nil_iff, or_false] at hn
    omega
  try refine goA ⟨?_⟩
  refine WPL.eff OpE.alloc rfl rfl ?_; rintro _ _ ⟨bo, rfl, rfl⟩
  try refine goA ⟨?_⟩
  refine WP.nilTok E ?_
  refine WP.loop (σ := Nat × Nat × Value × List E) (fun s => [(0, ptrV rb), (2, ptrV br), (3, ptrV bo), (4, .int .i64 s.1)])
    (fun s => [Tok.blk bo [.int .i64 n, s.2.2.1], Tok.own s.2.2.1 s.2.2.2, Tok.blk rb [cv, .int .i64 s.2.1], Tok.blk br [.int .i64 0, .slice none 0 0]])
    (fun s => 1 ≤ s.1 ∧ s.1 ≤ n ∧ s.2.1 ≤ 1 + 2 * s.1 ∧ s.2.2.2.length ≤ s.1) (fun s => n.toNat - s.1) (1, 1, .slice none 0 0, []) ⟨by decide, by dsimp only; omega, by decide, by decide⟩ sE sT2 ?_
  rintro ⟨i, q, v, es⟩ ⟨h1, h2, h3, h4⟩
  dsimp only at h1 h2 h3 h4 ⊢
  try refine goA ⟨?_⟩
  refine WP.condD rfl (fun hc => ?_) (fun hc => ?_)
  · have hi' : (i : Int) < n := hc
    try refine goA ⟨?_⟩
    refine WPL.eff (OpE.callT (T := [Tok.blk rb [cv, .int .i64 q]]) lO pM2 (fun w hw => d_pick _ rb cv bs q 4 (Rd.at rDA hw) hd hl (by omega) (by omega))) rfl rfl ?_
    rintro r _ ⟨T, ⟨rfl, k, rfl, k0, k1⟩, rfl⟩
    repeat' (first | exact absurd rfl hc | refine goA ⟨?_⟩ | (refine isCond ?_; refine WP.condD rfl (fun hc => ?_) (fun hc => ?_)) | (refine isGuard ?_; refine WPL.splitD rfl rfl (fun hc => ?_) (fun hc => ?_)))
    · refine WP.draw [Tok.own v es] mixed ?_
      refine WPD.take 0 rfl (by first | exact (Op1.fieldAddr rfl) | exact (Op1.fieldAddrE rfl rDA lT)) rfl rfl sT kR kR kR xQP ?_
      refine WPD.take 2 rfl (Op1.move rfl) rfl rfl sT kR kR kR xQP ?_
      refine WPD.take 3 rfl (Op1.move rfl) rfl rfl sT kR kR kR xQP ?_
      refine WPD.take 5 rfl (Op1.move rfl) rfl rfl sT kR kR kR xQP ?_
      refine WPD.two 1 4 kR ?e9_1 ?e9_4
      case' e9_1 =>
        refine WPO.eff rfl (OpE.ofPure (by first | exact (Op1.load rfl mM (by rfl)) | exact (Op1.loadI rfl rDA lT) | exact (Op1.loadAll rfl mM (by rfl)) | exact (Op1.loadE rfl rDA lT (by rfl)) | exact (Op1.loadEAgg rfl rDA lT (by rfl)))) rfl rfl ?_
        rintro _ _ ⟨eP, rfl⟩; have eP := eP.symm; subst eP
        refine ⟨sT, ?_⟩
        refine WPD.eff 4 kR rfl (OpE.callT (T := [Tok.blk rb [cv, .int .i64 ((q : Int) + 1)]]) lO pM2 (fun w hw => d_pick _ rb cv bs ((q : Int) + 1) i (Rd.at rDA hw) hd hl (by omega) (by omega))) rfl rfl ?_
        rintro r _ ⟨T, ⟨rfl, k2, rfl, _, _⟩, rfl⟩
        refine ⟨sT, ?_⟩
        refine WPD.eff 6 kR rfl (OpE.call lO (fun w hw => g_Edge _ k2 i)) rfl rfl ?_
        rintro r _ ⟨T, ⟨rfl, e, rfl⟩, rfl⟩
        refine ⟨sT, ?_⟩
        refine WPD.eff 7 kR rfl (OpE.call lO (fun w hw => s_Put _ v e es (Rd.at rDA hw) (by omega))) rfl rfl ?_
        rintro v1 _ ⟨T, rfl, rfl⟩
        refine ⟨sT, ?_⟩
        refine WPD.take 8 rfl (by first | exact (Op1.fieldAddr rfl) | exact (Op1.fieldAddrE rfl rDA lT)) rfl rfl sT kR kR kR xQP ?_
        refine WPD.eff0 9 kR rfl (OpE.store rfl rfl pM (by rfl) oN) rfl ?_
        rintro _ _ rfl
        refine ⟨sT, ?_⟩
        refine WPD.done kR ?_
      case' e9_4 =>
        refine WPO.eff rfl (OpE.callT (T := [Tok.blk rb [cv, .int .i64 ((q : Int) + 1)]]) lO pM2 (fun w hw => d_pick _ rb cv bs ((q : Int) + 1) i (Rd.at rDA hw) hd hl (by omega) (by omega))) rfl rfl ?_
        rintro r _ ⟨T, ⟨rfl, k2, rfl, _, _⟩, rfl⟩
        refine ⟨sT, ?_⟩
        refine WPD.two 1 6 kR ?e10_1 ?e10_6
        case' e10_1 =>
          refine WPO.eff rfl (OpE.ofPure (by first | exact (Op1.load rfl mM (by rfl)) | exact (Op1.loadI rfl rDA lT) | exact (Op1.loadAll rfl mM (by rfl)) | exact (Op1.loadE rfl rDA lT (by rfl)) | exact (Op1.loadEAgg rfl rDA lT (by rfl)))) rfl rfl ?_
          rintro _ _ ⟨eP, rfl⟩; have eP := eP.symm; subst eP
          refine ⟨sT, ?_⟩
          refine WPD.eff 6 kR rfl (OpE.call lO (fun w hw => g_Edge _ k2 i)) rfl rfl ?_
          rintro r _ ⟨T, ⟨rfl, e, rfl⟩, rfl⟩
          refine ⟨sT, ?_⟩
          refine WPD.eff 7 kR rfl (OpE.call lO (fun w hw => s_Put _ v e es (Rd.at rDA hw) (by omega))) rfl rfl ?_
          rintro v1 _ ⟨T, rfl, rfl⟩
          refine ⟨sT, ?_⟩
          refine WPD.take 8 rfl (by first | exact (Op1.fieldAddr rfl) | exact (Op1.fieldAddrE rfl rDA lT)) rfl rfl sT kR kR kR xQP ?_
          refine WPD.eff0 9 kR rfl (OpE.store rfl rfl pM (by rfl) oN) rfl ?_
          rintro _ _ rfl
          refine ⟨sT, ?_⟩
          refine WPD.done kR ?_
        case' e10_6 =>
          refine WPO.eff rfl (OpE.call lO (fun w hw => g_Edge _ k2 i)) rfl rfl ?_
          rintro r _ ⟨T, ⟨rfl, e, rfl⟩, rfl⟩
          refine ⟨sT, ?_⟩
          refine WPD.eff 1 kR rfl (OpE.ofPure (by first | exact (Op1.load rfl mM (by rfl)) | exact (Op1.loadI rfl rDA lT) | exact (Op1.loadAll rfl mM (by rfl)) | exact (Op1.loadE rfl rDA lT (by rfl)) | exact (Op1.loadEAgg rfl rDA lT (by rfl)))) rfl rfl ?_
          rintro _ _ ⟨eP, rfl⟩; have eP := eP.symm; subst eP
          refine ⟨sT, ?_⟩
          refine WPD.eff 7 kR rfl (OpE.call lO (fun w hw => s_Put _ v e es (Rd.at rDA hw) (by omega))) rfl rfl ?_
          rintro v1 _ ⟨T, rfl, rfl⟩
          refine ⟨sT, ?_⟩
          refine WPD.take 8 rfl (by first | exact (Op1.fieldAddr rfl) | exact (Op1.fieldAddrE rfl rDA lT)) rfl rfl sT kR kR kR xQP ?_
          refine WPD.eff0 9 kR rfl (OpE.store rfl rfl pM (by rfl) oN) rfl ?_
          rintro _ _ rfl
          refine ⟨sT, ?_⟩
          refine WPD.done kR ?_
      all_goals (
        try refine goA ⟨?_⟩
        have hil := insP_len es e
        refine PE.again (i + 1, q + 2, v1, insP es e) ?_ ?_ sE sT2
        · dsimp only; omega
        · dsimp only; omega)
    · refine PE.again (i + 1, q + 1, v, es) ?_ ?_ sE sT2
      · dsimp only; omega
      · dsimp only; omega
  have hin : (i : Int) = n := by omega
  try refine goA ⟨?_⟩
  refine WPL.eff (OpE.buildSlice [2, 1, 3, 0, 5, 8] pA rfl (by decide)) rfl rfl ?_; rintro s1 _ rfl
  try refine goA ⟨?_⟩
  refine WPL.eff (OpE.callT (T := [Tok.blk rb [cv, .int .i64 q]]) lO pM2 (fun w hw => d_num _ rb cv s1 bs [2, 1, 3, 0, 5, 8] q (Rd.at rDA hw) hd (Rd.at rDA hw) (hw.own_ne pM mM) hl (by omega) (by decide))) rfl rfl ?_
  rintro r _ ⟨T, ⟨rfl, m, rfl, hm⟩, rfl⟩
  have hm1 : 0 ≤ m ∧ m ≤ 8 := by
    simp only [List.mem_cons, List.mem_nil_iff, or_false] at hm
    omega
  obtain ⟨j, rfl⟩ := Int.eq_ofNat_of_zero_le hm1.1
  try refine goA ⟨?_⟩
  refine WP.loop (σ := Nat × Nat × Value × List E) (fun s => [(0, ptrV rb), (2, ptrV br), (3, ptrV bo), (5, .int .i64 s.1)])
    (fun s => [Tok.blk bo [.int .i64 n, s.2.2.1], Tok.own s.2.2.1 s.2.2.2, Tok.blk rb [cv, .int .i64 s.2.1], Tok.blk br [.int .i64 0, .slice none 0 0]])
    (fun s => s.1 ≤ 8 ∧ s.2.1 + 2 * s.1 ≤ 60 ∧ s.2.2.2.length + s.1 ≤ 30) (fun s => s.1) (j, q + 1, v, es) ⟨by dsimp only; omega, by dsimp only; omega, by dsimp only; omega⟩ sE sT2 ?_
  rintro ⟨j, q, v, es⟩ ⟨h1, h2, h3⟩
  dsimp only at h1 h2 h3 ⊢
  try refine goA ⟨?_⟩
  refine WP.condD rfl (fun hc => ?_) (fun hc => ?_)
  · have hj' : 0 < (j : Int) := hc
    have ej : (j : Int) - 1 = ((j - 1 : Nat) : Int) := by omega
    try refine goA ⟨?_⟩
    refine WPL.eff (OpE.callT (T := [Tok.blk rb [cv, .int .i64 q]]) lO pM2 (fun w hw => d_pick _ rb cv bs q n (Rd.at rDA hw) hd hl (by omega) (by omega))) rfl rfl ?_
    rintro r _ ⟨T, ⟨rfl, x, rfl, _, _⟩, rfl⟩
    try refine goA ⟨?_⟩
    refine WPL.eff (OpE.callT (T := [Tok.blk rb [cv, .int .i64 ((q : Int) + 1)]]) lO pM2 (fun w hw => d_pick _ rb cv bs ((q : Int) + 1) n (Rd.at rDA hw) hd hl (by omega) (by omega))) rfl rfl ?_
    rintro r _ ⟨T, ⟨rfl, y, rfl, _, _⟩, rfl⟩
    try refine goA ⟨?_⟩
    refine WP.draw [Tok.own v es, Tok.blk bo [.int .i64 n, v]] mixed ?_
    refine WPD.take 0 rfl (Op1.move rfl) rfl rfl sT kR kR kR xQP ?_
    refine WPD.take 1 rfl (Op1.move rfl) rfl rfl sT kR kR kR xQP ?_
    refine WPD.take 2 rfl (by first | exact (Op1.neI rfl rfl) | exact (Op1.neB rfl rfl) | exact (Op1.neE rfl rfl)) rfl rfl sT kR kR kR xQP ?_
    refine WPD.take 3 rfl (Op1.move rfl) rfl rfl sT kR kR kR xQP ?_
    first | refine WPD.splitD 48 rfl (fun h48 => ?t11) (fun h48 => ?f11) | refine WPD.split 48 rfl (fun h48 => ?t11) (fun h48 => ?f11)
    case' t11 =>
      refine WPD.take 4 rfl (by first | exact (Op1.fieldAddr rfl) | exact (Op1.fieldAddrE rfl rDA lT)) rfl rfl sT kR kR kR xQP ?_
      refine WPD.take 6 rfl (Op1.move rfl) rfl rfl sT kR kR kR xQP ?_
      refine WPD.take 7 rfl (Op1.move rfl) rfl rfl sT kR kR kR xQP ?_
      refine WPD.take 5 rfl (by first | exact (Op1.load rfl mM (by rfl)) | exact (Op1.loadI rfl rDA lT) | exact (Op1.loadAll rfl mM (by rfl)) | exact (Op1.loadE rfl rDA lT (by rfl)) | exact (Op1.loadEAgg rfl rDA lT (by rfl))) rfl rfl sT kR kR kR xQP ?_
      refine WPD.eff 8 kR rfl (OpE.call lO (fun w hw => g_Edge _ x y)) rfl rfl ?_
      rintro r _ ⟨T, ⟨rfl, e, rfl⟩, rfl⟩
      refine ⟨sT, ?_⟩
      refine WPD.eff 9 kR rfl (OpE.call lO (fun w hw => s_FindI _ v e es (Rd.at rDA hw) (by omega))) rfl rfl ?_
      rintro r _ ⟨T, ⟨rfl, k, rfl⟩, rfl⟩
      refine ⟨sT, ?_⟩
      refine WPD.take 10 rfl (Op1.ltI rfl rfl) rfl rfl sT kR kR kR xQP ?_
      refine WPD.take 11 rfl (by first | exact (Op1.pickT rfl rfl) | exact (Op1.pickF rfl rfl)) rfl rfl sT kR kR kR xQP ?_
      refine WPD.done kR ?_
    case' f11 =>
      refine WPD.skip 4 rfl rfl rfl sT kR kR kR xQP ?_
      refine WPD.skip 6 rfl rfl rfl sT kR kR kR xQP ?_
      refine WPD.skip 7 rfl rfl rfl sT kR kR kR xQP ?_
      refine WPD.skip 5 rfl rfl rfl sT kR kR kR xQP ?_
      refine WPD.skip 8 rfl rfl rfl sT kR kR kR xQP ?_
      refine WPD.skip 9 rfl rfl rfl sT kR kR kR xQP ?_
      refine WPD.skip 10 rfl rfl rfl sT kR kR kR xQP ?_
      refine WPD.take 11 rfl (by first | exact (Op1.pickT rfl rfl) | exact (Op1.pickF rfl rfl)) rfl rfl sT kR kR kR xQP ?_
      refine WPD.done kR ?_
    · try refine goA ⟨?_⟩
      rw [ej]
      refine PE.again (j - 1, q + 2, v, es) ?_ ?_ sE sT2
      · dsimp only; omega
      · dsimp only; omega
    · repeat' (first | exact absurd rfl hc | refine goA ⟨?_⟩ | (refine isCond ?_; refine WP.condD rfl (fun hc => ?_) (fun hc => ?_)) | (refine isGuard ?_; refine WPL.splitD rfl rfl (fun hc => ?_) (fun hc => ?_)))
      · refine WP.draw [Tok.own v es] mixed ?_
        refine WPD.take 0 rfl (by first | exact (Op1.fieldAddr rfl) | exact (Op1.fieldAddrE rfl rDA lT)) rfl rfl sT kR kR kR xQP ?_
        refine WPD.take 2 rfl (Op1.move rfl) rfl rfl sT kR kR kR xQP ?_
        refine WPD.take 3 rfl (Op1.move rfl) rfl rfl sT kR kR kR xQP ?_
        refine WPD.two 1 4 kR ?e12_1 ?e12_4
        case' e12_1 =>
          refine WPO.eff rfl (OpE.ofPure (by first | exact (Op1.load rfl mM (by rfl)) | exact (Op1.loadI rfl rDA lT) | exact (Op1.loadAll rfl mM (by rfl)) | exact (Op1.loadE rfl rDA lT (by rfl)) | exact (Op1.loadEAgg rfl rDA lT (by rfl)))) rfl rfl ?_
          rintro _ _ ⟨eP, rfl⟩; have eP := eP.symm; subst eP
          refine ⟨sT, ?_⟩
          refine WPD.eff 4 kR rfl (OpE.call lO (fun w hw => g_Edge _ x y)) rfl rfl ?_
          rintro r _ ⟨T, ⟨rfl, e2, rfl⟩, rfl⟩
          refine ⟨sT, ?_⟩
          refine WPD.eff 5 kR rfl (OpE.call lO (fun w hw => s_Put _ v e2 es (Rd.at rDA hw) (by omega))) rfl rfl ?_
          rintro v1 _ ⟨T, rfl, rfl⟩
          refine ⟨sT, ?_⟩
          refine WPD.take 6 rfl (by first | exact (Op1.fieldAddr rfl) | exact (Op1.fieldAddrE rfl rDA lT)) rfl rfl sT kR kR kR xQP ?_
          refine WPD.eff0 7 kR rfl (OpE.store rfl rfl pM (by rfl) oN) rfl ?_
          rintro _ _ rfl
          refine ⟨sT, ?_⟩
          refine WPD.done kR ?_
        case' e12_4 =>
          refine WPO.eff rfl (OpE.call lO (fun w hw => g_Edge _ x y)) rfl rfl ?_
          rintro r _ ⟨T, ⟨rfl, e2, rfl⟩, rfl⟩
          refine ⟨sT, ?_⟩
          refine WPD.eff 1 kR rfl (OpE.ofPure (by first | exact (Op1.load rfl mM (by rfl)) | exact (Op1.loadI rfl rDA lT) | exact (Op1.loadAll rfl mM (by rfl)) | exact (Op1.loadE rfl rDA lT (by rfl)) | exact (Op1.loadEAgg rfl rDA lT (by rfl)))) rfl rfl ?_
          rintro _ _ ⟨eP, rfl⟩; have eP := eP.symm; subst eP
          refine ⟨sT, ?_⟩
          refine WPD.eff 5 kR rfl (OpE.call lO (fun w hw => s_Put _ v e2 es (Rd.at rDA hw) (by omega))) rfl rfl ?_
          rintro v1 _ ⟨T, rfl, rfl⟩
          refine ⟨sT, ?_⟩
          refine WPD.take 6 rfl (by first | exact (Op1.fieldAddr rfl) | exact (Op1.fieldAddrE rfl rDA lT)) rfl rfl sT kR kR kR xQP ?_
          refine WPD.eff0 7 kR rfl (OpE.store rfl rfl pM (by rfl) oN) rfl ?_
          rintro _ _ rfl
          refine ⟨sT, ?_⟩
          refine WPD.done kR ?_
        all_goals (
          try refine goA ⟨?_⟩
          have hil := insP_len es e2
          rw [ej]
          refine PE.again (j - 1, q + 2, v1, insP es e2) ?_ ?_ sE sT2
          · dsimp only; omega
          · dsimp only; omega)
      · rw [ej]
        refine PE.again (j - 1, q + 2, v, es) ?_ ?_ sE sT2
        · dsimp only; omega
        · dsimp only; omega
  try refine goA ⟨?_⟩
  refine PE.ret1 (T := [Tok.blk rb [cv, .int .i64 0]]) (T' := [Tok.own v es, Tok.blk rb [cv, .int .i64 q]]) rfl rV ?_ sT2
  exact ⟨v, n, q, es, rfl, rfl, by omega, by omega, by omega, by omega, by omega⟩
end Go.Proofs.Ythlgbeakcobeoaa
/- The second program's drawn graphs, once more. Conditions: those of each contract. -/
namespace Go.Proofs.Ythlgbeakcobeoaa
open Go
set_option linter.unusedVariables false set_option linter.unusedSimpArgs false attribute [local irreducible] Tok.own Tok.blk RL Rd eptr WP WPL PE WPD WPO Op1 OpE Tri Again Mid Exit.then Exit.inBlock bodyPost RP Code.wp wpList isOwn OneM One
set_option maxHeartbeats 8000000

theorem g_Wrong (w : World) (rb : Nat) (cv : Value) (bs : List UInt8) (p n : Int) (vE : Value) (es : List E) (h : RL w cv bs) (hd : ∀ b ∈ vfp cv, b ≠ rb) (hE : RL w vE es) (hdE : ∀ b ∈ vfp vE, b ≠ rb) (hl : bs.length ≤ 2000) (hp : 0 ≤ p ∧ p ≤ 900000) (hle : es.length ≤ 1000) :
    Tri Try.prog 126 [ptrV rb, .agg #[.int .i64 n, vE]] w [Tok.blk rb [cv, .int .i64 p]] fun r T => ∃ v n' p', ∃ es' : List E, r = .agg #[.int .i64 n', v] ∧ T = [Tok.own v es', Tok.blk rb [cv, .int .i64 p']] ∧ es'.length ≤ es.length + 1 ∧ 0 ≤ p' ∧ p' ≤ p + 5 ∧ (n ≤ 17 → n' ≤ 17) := by
  have hA : RdA ⟨55, w, fps [Tok.blk rb [cv, .int .i64 p]]⟩ cv bs := RdA.mk h (fun b hb => by
    have := hd b hb
    rw [fps_blk]; simpa using this)
  have hA2 : RdA ⟨55, w, fps [Tok.blk rb [cv, .int .i64 p]]⟩ vE es := RdA.mk hE (fun b hb => by
    have := hdE b hb
    rw [fps_blk]; simpa using this)
  refine Tri.intro (hf := Try.func126) (hb := rfl) (hn := Try.ntmps126) (Nat.le_of_ble_eq_true rfl) ?_
  try refine goA ⟨?_⟩
  refine WPL.eff (OpE.box rfl) rfl rfl ?_; rintro _ _ ⟨b, rfl, rfl⟩
  refine WPL.eff OpE.alloc rfl rfl ?_; rintro _ _ ⟨br, rfl, rfl⟩
  try refine goA ⟨?_⟩
  refine WPL.eff (OpE.callT (T := []) lO pM2 (fun w hw => g_Copy _ n vE es (Rd.at rDA hw) (by omega))) rfl rfl ?_
  rintro r _ ⟨T, ⟨v, rfl, rfl⟩, rfl⟩
  try refine goA ⟨?_⟩
  refine WPL.eff OpE.alloc rfl rfl ?_; rintro _ _ ⟨bo, rfl, rfl⟩
  try refine goA ⟨?_⟩
  refine WPL.eff (OpE.callT (T := [Tok.blk rb [cv, .int .i64 p]]) lO pM2 (fun w hw => d_pick _ rb cv bs p 16 (Rd.at rDA hw) hd hl (by omega) (by omega))) rfl rfl ?_
  rintro r _ ⟨T, ⟨rfl, k, rfl, _, _⟩, rfl⟩
  repeat' (first | exact absurd rfl hc | refine goA ⟨?_⟩ | (refine isCond ?_; refine WP.condD rfl (fun hc => ?_) (fun hc => ?_)) | (refine isGuard ?_; refine WPL.splitD rfl rfl (fun hc => ?_) (fun hc => ?_)))
  · refine PE.ret1 (T := [Tok.blk rb [cv, .int .i64 p]]) (T' := [Tok.own v es, Tok.blk rb [cv, .int .i64 (p + 1)]]) rfl rV ?_ sT2
    exact ⟨v, n, _, es, rfl, rfl, by omega, by omega, by omega, by omega⟩
  · refine PE.ret1 (T := [Tok.blk rb [cv, .int .i64 p]]) (T' := [Tok.own v es, Tok.blk rb [cv, .int .i64 (p + 1)]]) rfl rV ?_ sT2
    exact ⟨v, n, _, es, rfl, rfl, by omega, by omega, by omega, by omega⟩
  refine WPL.eff (OpE.callT (T := [Tok.blk rb [cv, .int .i64 (p + 1)]]) lO pM2 (fun w hw => d_pick _ rb cv bs (p + 1) es.length (Rd.at rDA hw) hd hl (by omega) (by omega))) rfl rfl ?_
  rintro r _ ⟨T, ⟨rfl, i, rfl, i0, i1⟩, rfl⟩
  have i2 := i1 (by omega)
  try refine goA ⟨?_⟩
  refine WPL.eff (OpE.callT (T := [Tok.blk rb [cv, .int .i64 (p + 1 + 1)]]) lO pM2 (fun w hw => d_pick _ rb cv bs (p + 1 + 1) 5 (Rd.at rDA hw) hd hl (by omega) (by omega))) rfl rfl ?_
  rintro r _ ⟨T, ⟨rfl, j, rfl, _, _⟩, rfl⟩
  repeat' (first | exact absurd rfl hc | refine goA ⟨?_⟩ | (refine isCond ?_; refine WP.condD rfl (fun hc => ?_) (fun hc => ?_)) | (refine isGuard ?_; refine WPL.splitD rfl rfl (fun hc => ?_) (fun hc => ?_)))
  · refine WP.draw [Tok.blk bo [.int .i64 n, v]] mixed ?_
    refine WPD.take 0 rfl (by first | exact (Op1.fieldAddr rfl) | exact (Op1.fieldAddrE rfl rDA lT)) rfl rfl sT kR kR kR xQP ?_
    refine WPD.take 2 rfl (Op1.move rfl) rfl rfl sT kR kR kR xQP ?_
    refine WPD.take 3 rfl (Op1.move rfl) rfl rfl sT kR kR kR xQP ?_
    refine WPD.take 1 rfl (by first | exact (Op1.load rfl mM (by rfl)) | exact (Op1.loadI rfl rDA lT) | exact (Op1.loadAll rfl mM (by rfl)) | exact (Op1.loadE rfl rDA lT (by rfl)) | exact (Op1.loadEAgg rfl rDA lT (by rfl))) rfl rfl sT kR kR kR xQP ?_
    refine WPD.eff 4 kR rfl (OpE.buildSlice (([16, -1, 0] : List Int)) pA rfl (by decide)) rfl rfl ?_
    rintro s _ rfl
    refine ⟨sT, ?_⟩
    refine WPD.eff 5 kR rfl (OpE.callT (T := [Tok.blk rb [cv, .int .i64 (p + 1 + 1 + 1)]]) lO pM2 (fun w hw => d_num _ rb cv s bs [16, -1, 0] (p + 1 + 1 + 1) (Rd.at rDA hw) hd (Rd.at rDA hw) (hw.own_ne pM mM) hl (by omega) (by decide))) rfl rfl ?_
    rintro r _ ⟨T, ⟨rfl, z, rfl, _⟩, rfl⟩
    refine ⟨sT, ?_⟩
    refine WPD.eff 6 kR rfl (OpE.ofPure (by first | exact (Op1.indexAddr rfl rfl rDA lT) | exact (Op1.indexAddrZ rfl rfl rDA lT))) rfl rfl ?_
    rintro _ _ ⟨eP, rfl⟩; have eP := eP.symm; subst eP
    refine ⟨sT, ?_⟩
    refine WPD.eff 7 kR rfl (OpE.ofPure (by first | exact (Op1.fieldAddr rfl) | exact (Op1.fieldAddrE rfl rDA lT))) rfl rfl ?_
    rintro _ _ ⟨eP, rfl⟩; have eP := eP.symm; subst eP
    refine ⟨sT, ?_⟩
    refine WPD.eff0 8 kR rfl (OpE.storeF (r := 1) (⟨(es.getD i.toNat eD).A, z⟩ : E) rfl rfl pM2 lT (by decide) oN rfl (by rfl)) rfl ?_
    rintro _ _ rfl
    refine ⟨sT, ?_⟩
    refine WPD.done kR ?_
    all_goals (
      try refine goA ⟨?_⟩
      refine PE.ret1 (T := [Tok.blk rb [cv, .int .i64 p]]) (T' := [Tok.own v (es.set i.toNat ⟨(es.getD i.toNat eD).A, z⟩), Tok.blk rb [cv, .int .i64 (p + 1 + 1 + 1 + 1)]]) rfl rV ?_ sT2
      exact ⟨v, n, _, _, rfl, rfl, by rw [List.length_set]; omega, by omega, by omega, by omega⟩)
  · refine WPL.eff (OpE.buildSlice [0, 17, 1] pA rfl (by decide)) rfl rfl ?_; rintro s _ rfl
    try refine goA ⟨?_⟩
    refine WPL.eff (OpE.callT (T := [Tok.blk rb [cv, .int .i64 (p + 1 + 1 + 1)]]) lO pM2 (fun w hw => d_num _ rb cv s bs [0, 17, 1] (p + 1 + 1 + 1) (Rd.at rDA hw) hd (Rd.at rDA hw) (hw.own_ne pM mM) hl (by omega) (by decide))) rfl rfl ?_
    rintro r _ ⟨T, ⟨rfl, z, rfl, hz⟩, rfl⟩
    have hz1 : z ≤ 17 := by
      simp only [List.mem_cons, List.mem_nil_iff, or_false] at hz
      omega
    try refine goA ⟨?_⟩
    refine PE.ret1 (T := [Tok.blk rb [cv, .int .i64 p]]) (T' := [Tok.own v es, Tok.blk rb [cv, .int .i64 (p + 1 + 1 + 1 + 1)]]) rfl rV ?_ sT2
    exact ⟨v, z, _, _, rfl, rfl, by omega, by omega, by omega, by omega⟩
  · refine WP.draw [Tok.blk rb [cv, .int .i64 (p + 1 + 1 + 1)]] mixed ?_
    refine WPD.take 0 rfl (by first | exact (Op1.fieldAddr rfl) | exact (Op1.fieldAddrE rfl rDA lT)) rfl rfl sT kR kR kR xQP ?_
    refine WPD.take 2 rfl (by first | exact (Op1.fieldAddr rfl) | exact (Op1.fieldAddrE rfl rDA lT)) rfl rfl sT kR kR kR xQP ?_
    refine WPD.take 4 rfl (Op1.move rfl) rfl rfl sT kR kR kR xQP ?_
    refine WPD.two 1 3 kR ?e13_1 ?e13_3
    case' e13_1 =>
      refine WPO.eff rfl (OpE.ofPure (by first | exact (Op1.load rfl mM (by rfl)) | exact (Op1.loadI rfl rDA lT) | exact (Op1.loadAll rfl mM (by rfl)) | exact (Op1.loadE rfl rDA lT (by rfl)) | exact (Op1.loadEAgg rfl rDA lT (by rfl)))) rfl rfl ?_
      rintro _ _ ⟨eP, rfl⟩; have eP := eP.symm; subst eP
      refine ⟨sT, ?_⟩
      refine WPD.eff 3 kR rfl (OpE.ofPure (by first | exact (Op1.load rfl mM (by rfl)) | exact (Op1.loadI rfl rDA lT) | exact (Op1.loadAll rfl mM (by rfl)) | exact (Op1.loadE rfl rDA lT (by rfl)) | exact (Op1.loadEAgg rfl rDA lT (by rfl)))) rfl rfl ?_
      rintro _ _ ⟨eP, rfl⟩; have eP := eP.symm; subst eP
      refine ⟨sT, ?_⟩
      refine WPD.eff 5 kR rfl (OpE.ofPure (by first | exact (Op1.indexAddr rfl rfl rDA lT) | exact (Op1.indexAddrZ rfl rfl rDA lT))) rfl rfl ?_
      rintro _ _ ⟨eP, rfl⟩; have eP := eP.symm; subst eP
      refine ⟨sT, ?_⟩
      refine WPD.eff 6 kR rfl (OpE.ofPure (by first | exact (Op1.load rfl mM (by rfl)) | exact (Op1.loadI rfl rDA lT) | exact (Op1.loadAll rfl mM (by rfl)) | exact (Op1.loadE rfl rDA lT (by rfl)) | exact (Op1.loadEAgg rfl rDA lT (by rfl)))) rfl rfl ?_
      rintro _ _ ⟨eP, rfl⟩; have eP := eP.symm; subst eP
      refine ⟨sT, ?_⟩
      refine WPD.eff 7 kR rfl (OpE.buildSlice ([es.getD i.toNat eD]) pA rfl (by decide)) rfl rfl ?_
      rintro s _ rfl
      refine ⟨sT, ?_⟩
      refine WPD.eff 8 kR rfl (OpE.append rfl rfl pM rDA lN) rfl rfl ?_
      rintro v2 _ rfl
      refine ⟨sT, ?_⟩
      refine WPD.take 9 rfl (by first | exact (Op1.fieldAddr rfl) | exact (Op1.fieldAddrE rfl rDA lT)) rfl rfl sT kR kR kR xQP ?_
      refine WPD.eff0 10 kR rfl (OpE.store rfl rfl pM (by rfl) oN) rfl ?_
      rintro _ _ rfl
      refine ⟨sT, ?_⟩
      refine WPD.done kR ?_
    case' e13_3 =>
      refine WPO.eff rfl (OpE.ofPure (by first | exact (Op1.load rfl mM (by rfl)) | exact (Op1.loadI rfl rDA lT) | exact (Op1.loadAll rfl mM (by rfl)) | exact (Op1.loadE rfl rDA lT (by rfl)) | exact (Op1.loadEAgg rfl rDA lT (by rfl)))) rfl rfl ?_
      rintro _ _ ⟨eP, rfl⟩; have eP := eP.symm; subst eP
      refine ⟨sT, ?_⟩
      refine WPD.two 1 5 kR ?e14_1 ?e14_5
      case' e14_1 =>
        refine WPO.eff rfl (OpE.ofPure (by first | exact (Op1.load rfl mM (by rfl)) | exact (Op1.loadI rfl rDA lT) | exact (Op1.loadAll rfl mM (by rfl)) | exact (Op1.loadE rfl rDA lT (by rfl)) | exact (Op1.loadEAgg rfl rDA lT (by rfl)))) rfl rfl ?_
        rintro _ _ ⟨eP, rfl⟩; have eP := eP.symm; subst eP
        refine ⟨sT, ?_⟩
        refine WPD.eff 5 kR rfl (OpE.ofPure (by first | exact (Op1.indexAddr rfl rfl rDA lT) | exact (Op1.indexAddrZ rfl rfl rDA lT))) rfl rfl ?_
        rintro _ _ ⟨eP, rfl⟩; have eP := eP.symm; subst eP
        refine ⟨sT, ?_⟩
        refine WPD.eff 6 kR rfl (OpE.ofPure (by first | exact (Op1.load rfl mM (by rfl)) | exact (Op1.loadI rfl rDA lT) | exact (Op1.loadAll rfl mM (by rfl)) | exact (Op1.loadE rfl rDA lT (by rfl)) | exact (Op1.loadEAgg rfl rDA lT (by rfl)))) rfl rfl ?_
        rintro _ _ ⟨eP, rfl⟩; have eP := eP.symm; subst eP
        refine ⟨sT, ?_⟩
        refine WPD.eff 7 kR rfl (OpE.buildSlice ([es.getD i.toNat eD]) pA rfl (by decide)) rfl rfl ?_
        rintro s _ rfl
        refine ⟨sT, ?_⟩
        refine WPD.eff 8 kR rfl (OpE.append rfl rfl pM rDA lN) rfl rfl ?_
        rintro v2 _ rfl
        refine ⟨sT, ?_⟩
        refine WPD.take 9 rfl (by first | exact (Op1.fieldAddr rfl) | exact (Op1.fieldAddrE rfl rDA lT)) rfl rfl sT kR kR kR xQP ?_
        refine WPD.eff0 10 kR rfl (OpE.store rfl rfl pM (by rfl) oN) rfl ?_
        rintro _ _ rfl
        refine ⟨sT, ?_⟩
        refine WPD.done kR ?_
      case' e14_5 =>
        refine WPO.eff rfl (OpE.ofPure (by first | exact (Op1.indexAddr rfl rfl rDA lT) | exact (Op1.indexAddrZ rfl rfl rDA lT))) rfl rfl ?_
        rintro _ _ ⟨eP, rfl⟩; have eP := eP.symm; subst eP
        refine ⟨sT, ?_⟩
        refine WPD.two 1 6 kR ?e15_1 ?e15_6
        case' e15_1 =>
          refine WPO.eff rfl (OpE.ofPure (by first | exact (Op1.load rfl mM (by rfl)) | exact (Op1.loadI rfl rDA lT) | exact (Op1.loadAll rfl mM (by rfl)) | exact (Op1.loadE rfl rDA lT (by rfl)) | exact (Op1.loadEAgg rfl rDA lT (by rfl)))) rfl rfl ?_
          rintro _ _ ⟨eP, rfl⟩; have eP := eP.symm; subst eP
          refine ⟨sT, ?_⟩
          refine WPD.eff 6 kR rfl (OpE.ofPure (by first | exact (Op1.load rfl mM (by rfl)) | exact (Op1.loadI rfl rDA lT) | exact (Op1.loadAll rfl mM (by rfl)) | exact (Op1.loadE rfl rDA lT (by rfl)) | exact (Op1.loadEAgg rfl rDA lT (by rfl)))) rfl rfl ?_
          rintro _ _ ⟨eP, rfl⟩; have eP := eP.symm; subst eP
          refine ⟨sT, ?_⟩
          refine WPD.eff 7 kR rfl (OpE.buildSlice ([es.getD i.toNat eD]) pA rfl (by decide)) rfl rfl ?_
          rintro s _ rfl
          refine ⟨sT, ?_⟩
          refine WPD.eff 8 kR rfl (OpE.append rfl rfl pM rDA lN) rfl rfl ?_
          rintro v2 _ rfl
          refine ⟨sT, ?_⟩
          refine WPD.take 9 rfl (by first | exact (Op1.fieldAddr rfl) | exact (Op1.fieldAddrE rfl rDA lT)) rfl rfl sT kR kR kR xQP ?_
          refine WPD.eff0 10 kR rfl (OpE.store rfl rfl pM (by rfl) oN) rfl ?_
          rintro _ _ rfl
          refine ⟨sT, ?_⟩
          refine WPD.done kR ?_
        case' e15_6 =>
          refine WPO.eff rfl (OpE.ofPure (by first | exact (Op1.load rfl mM (by rfl)) | exact (Op1.loadI rfl rDA lT) | exact (Op1.loadAll rfl mM (by rfl)) | exact (Op1.loadE rfl rDA lT (by rfl)) | exact (Op1.loadEAgg rfl rDA lT (by rfl)))) rfl rfl ?_
          rintro _ _ ⟨eP, rfl⟩; have eP := eP.symm; subst eP
          refine ⟨sT, ?_⟩
          refine WPD.two 1 7 kR ?e16_1 ?e16_7
          case' e16_1 =>
            refine WPO.eff rfl (OpE.ofPure (by first | exact (Op1.load rfl mM (by rfl)) | exact (Op1.loadI rfl rDA lT) | exact (Op1.loadAll rfl mM (by rfl)) | exact (Op1.loadE rfl rDA lT (by rfl)) | exact (Op1.loadEAgg rfl rDA lT (by rfl)))) rfl rfl ?_
            rintro _ _ ⟨eP, rfl⟩; have eP := eP.symm; subst eP
            refine ⟨sT, ?_⟩
            refine WPD.eff 7 kR rfl (OpE.buildSlice ([es.getD i.toNat eD]) pA rfl (by decide)) rfl rfl ?_
            rintro s _ rfl
            refine ⟨sT, ?_⟩
            refine WPD.eff 8 kR rfl (OpE.append rfl rfl pM rDA lN) rfl rfl ?_
            rintro v2 _ rfl
            refine ⟨sT, ?_⟩
            refine WPD.take 9 rfl (by first | exact (Op1.fieldAddr rfl) | exact (Op1.fieldAddrE rfl rDA lT)) rfl rfl sT kR kR kR xQP ?_
            refine WPD.eff0 10 kR rfl (OpE.store rfl rfl pM (by rfl) oN) rfl ?_
            rintro _ _ rfl
            refine ⟨sT, ?_⟩
            refine WPD.done kR ?_
          case' e16_7 =>
            refine WPO.eff rfl (OpE.buildSlice ([es.getD i.toNat eD]) pA rfl (by decide)) rfl rfl ?_
            rintro s _ rfl
            refine ⟨sT, ?_⟩
            refine WPD.eff 1 kR rfl (OpE.ofPure (by first | exact (Op1.load rfl mM (by rfl)) | exact (Op1.loadI rfl rDA lT) | exact (Op1.loadAll rfl mM (by rfl)) | exact (Op1.loadE rfl rDA lT (by rfl)) | exact (Op1.loadEAgg rfl rDA lT (by rfl)))) rfl rfl ?_
            rintro _ _ ⟨eP, rfl⟩; have eP := eP.symm; subst eP
            refine ⟨sT, ?_⟩
            refine WPD.eff 8 kR rfl (OpE.append rfl rfl pM rDA lN) rfl rfl ?_
            rintro v2 _ rfl
            refine ⟨sT, ?_⟩
            refine WPD.take 9 rfl (by first | exact (Op1.fieldAddr rfl) | exact (Op1.fieldAddrE rfl rDA lT)) rfl rfl sT kR kR kR xQP ?_
            refine WPD.eff0 10 kR rfl (OpE.store rfl rfl pM (by rfl) oN) rfl ?_
            rintro _ _ rfl
            refine ⟨sT, ?_⟩
            refine WPD.done kR ?_
    all_goals (
      try refine goA ⟨?_⟩
      refine PE.ret1 (T := [Tok.blk rb [cv, .int .i64 p]]) (T' := [Tok.own v2 (es ++ [es.getD i.toNat eD]), Tok.blk rb [cv, .int .i64 (p + 1 + 1 + 1)]]) rfl rV ?_ sT2
      exact ⟨v2, n, _, _, rfl, rfl, by rw [List.length_append, List.length_singleton]; omega, by omega, by omega, by omega⟩)
  · refine PE.ret1 (T := [Tok.blk rb [cv, .int .i64 p]]) (T' := [Tok.own v es, Tok.blk rb [cv, .int .i64 (p + 1 + 1 + 1)]]) rfl rV ?_ sT2
    exact ⟨v, n, _, es, rfl, rfl, by omega, by omega, by omega, by omega⟩
end Go.Proofs.Ythlgbeakcobeoaa
/- The second program's drawn cases of graphs. Conditions: those of each contract. -/
namespace Go.Proofs.Ythlgbeakcobeoaa
open Go
set_option linter.unusedVariables false set_option linter.unusedSimpArgs false attribute [local irreducible] Tok.own Tok.blk RL Rd eptr WP WPL PE WPD WPO Op1 OpE Tri Again Mid Exit.then Exit.inBlock bodyPost RP Code.wp wpList isOwn OneM One
set_option maxHeartbeats 8000000

theorem g_GraphValid (w : World) (v : Value) (bs : List UInt8) (h : RL w v bs) (hl : bs.length ≤ 9223372036854775807) :
    Tri Try.prog 107 [v] w [] dG := by
  refine Tri.intro (hf := Try.func107) (hb := rfl) (hn := Try.ntmps107) (Nat.le_of_ble_eq_true rfl) ?_
  try refine go ⟨?_⟩
  refine WPL.eff OpE.alloc rfl rfl ?_; rintro _ _ ⟨br, rfl, rfl⟩
  try refine go ⟨?_⟩
  refine WPL.eff (OpE.call lO (fun w hw => d_Open _ v bs (Rd.at rD hw) hl)) rfl rfl ?_
  rintro r _ ⟨T, ⟨rb, rfl, rfl⟩, rfl⟩
  have hcv := h.cvOf
  have hl2 := bsOf_le bs
  generalize cvOf v bs = cv at *
  generalize bsOf bs = bs' at *
  try refine go ⟨?_⟩
  refine WPL.eff (OpE.callT (T := [Tok.blk rb [cv, .int .i64 0]]) lO pM2 (fun w hw => g_Draw _ rb cv bs' (Rd.at rD hw) (hw.ne mM hcv) hl2)) rfl rfl ?_
  rintro r _ ⟨T, ⟨v1, n1, p1, es1, rfl, rfl, q1, q2, q3, q4, q5⟩, rfl⟩
  try refine go ⟨?_⟩
  refine WPL.eff (OpE.callT (T := [Tok.blk rb [cv, .int .i64 p1]]) lO pM2 (fun w hw => g_Wrong _ rb cv bs' p1 n1 v1 es1 (Rd.at rD hw) (hw.ne mM hcv) (Rd.at rD hw) (hw.own_ne pM mM) hl2 (by omega) (by omega))) rfl rfl ?_
  rintro r _ ⟨T, ⟨v2, n2, p2, es2, rfl, rfl, r1, r2, r3, r4⟩, rfl⟩
  try refine go ⟨?_⟩
  refine WPL.eff (OpE.callT (T := [Tok.blk rb [cv, .int .i64 p2]]) lO pM2 (fun w hw => g_Wrong _ rb cv bs' p2 n2 v2 es2 (Rd.at rD hw) (hw.ne mM hcv) (Rd.at rD hw) (hw.own_ne pM mM) hl2 (by omega) (by omega))) rfl rfl ?_
  rintro r _ ⟨T, ⟨v3, n3, p3, es3, rfl, rfl, s1, s2, s3, s4⟩, rfl⟩
  try refine go ⟨?_⟩
  refine WPL.eff (OpE.callT (T := [Tok.blk rb [cv, .int .i64 p3]]) lO pM2 (fun w hw => g_Wrong _ rb cv bs' p3 n3 v3 es3 (Rd.at rD hw) (hw.ne mM hcv) (Rd.at rD hw) (hw.own_ne pM mM) hl2 (by omega) (by omega))) rfl rfl ?_
  rintro r _ ⟨T, ⟨v4, n4, p4, es4, rfl, rfl, t1, t2, t3, t4⟩, rfl⟩
  try refine go ⟨?_⟩
  refine PE.ret1 (T := []) (T' := [Tok.own v4 es4]) rfl rV ?_ sT2
  exact ⟨v4, n4, es4, rfl, rfl, by omega⟩

end Go.Proofs.Ythlgbeakcobeoaa
/- Contracts of graphs in one form for both programs. Conditions: those of each contract. -/
namespace Go.Proofs.Ythlgbeakcobeoaa
open Go
section
variable {P : Program} {f : FuncId} {args : List Value} {w : World} {A : Prop} [Decidable A] {α : Type} [Enc α] {xs : List α}
theorem own_nilG (w : World) : (Tok.own (.slice none 0 0) ([] : List α)).holds w := ⟨by show _ = 0 * _; rw [Nat.zero_mul]; rfl, .inl ⟨rfl, rfl⟩⟩
theorem Upd.addN {w w' : World} {T : List Tok} (h : Upd w w' T []) : Upd w w' T [Tok.own (.slice none 0 0) ([] : List α)] :=
  ⟨by show (fps _).Nodup; exact h.nodup, fun t ht => by
    simp only [List.mem_cons, List.mem_nil_iff, or_false] at ht
    rcases ht with rfl; exact own_nilG _, h.base, h.keep, h.size, h.os, h.tape, h.output⟩
theorem Tri.unif (h : Tri P f args w [] fun r T => (A ∧ T = [Tok.own r xs]) ∨ (¬ A ∧ r = .slice none 0 0 ∧ T = [])) : Tri P f args w [] fun r T => T = [Tok.own r (if A then xs else [])] :=
  fun hn hh => (h hn hh).mono fun e w' ⟨v, T', he, hv, hu⟩ => by
    rcases hv with ⟨ha, rfl⟩ | ⟨ha, rfl, rfl⟩
    · exact ⟨v, _, he, by rw [if_pos ha], hu⟩
    · exact ⟨_, _, he, by rw [if_neg ha], hu.addN (α := α)⟩
theorem Tri.unifS (h : Tri P f args w [] fun r T => (A ∧ T = [Tok.own r xs]) ∨ (¬ A ∧ T = [Tok.own r ([] : List α)])) : Tri P f args w [] fun r T => T = [Tok.own r (if A then xs else [])] :=
  fun hn hh => (h hn hh).mono fun e w' ⟨v, T', he, hv, hu⟩ => by
    rcases hv with ⟨ha, rfl⟩ | ⟨ha, rfl⟩
    · exact ⟨v, _, he, by rw [if_pos ha], hu⟩
    · exact ⟨v, _, he, by rw [if_neg ha], hu⟩
theorem Tri.unif2 (h : Tri P f args w [] fun r T => (A ∧ yesS xs r T) ∨ (¬ A ∧ noS r T)) : Tri P f args w [] fun r T => ∃ v, r = .tuple #[v, .bool (decide A)] ∧ T = [Tok.own v (if A then xs else [])] :=
  fun hn hh => (h hn hh).mono fun e w' ⟨v, T', he, hv, hu⟩ => by
    rcases hv with ⟨ha, u, rfl, rfl⟩ | ⟨ha, rfl, rfl⟩
    · exact ⟨_, _, he, ⟨u, by rw [decide_eq_true ha], by rw [if_pos ha]⟩, hu⟩
    · exact ⟨_, _, he, ⟨_, by rw [decide_eq_false ha], by rw [if_neg ha]⟩, hu.addN (α := α)⟩
theorem Tri.unif2S (h : Tri P f args w [] fun r T => (A ∧ yesS xs r T) ∨ (¬ A ∧ ∃ v, r = .tuple #[v, .bool false] ∧ T = [Tok.own v ([] : List α)])) : Tri P f args w [] fun r T => ∃ v, r = .tuple #[v, .bool (decide A)] ∧ T = [Tok.own v (if A then xs else [])] :=
  fun hn hh => (h hn hh).mono fun e w' ⟨v, T', he, hv, hu⟩ => by
    rcases hv with ⟨ha, u, rfl, rfl⟩ | ⟨ha, u, rfl, rfl⟩
    · exact ⟨_, _, he, ⟨u, by rw [decide_eq_true ha], by rw [if_pos ha]⟩, hu⟩
    · exact ⟨_, _, he, ⟨u, by rw [decide_eq_false ha], by rw [if_neg ha]⟩, hu⟩
end
theorem Tri.unifG {P : Program} {f : FuncId} {args : List Value} {w : World} {A : Prop} [Decidable A] {n : Int} {xs : List E} (h : Tri P f args w [] fun r T => (A ∧ yesG n xs r T) ∨ (¬ A ∧ noG r T)) : Tri P f args w [] fun r T => ∃ v, r = .tuple #[.agg #[.int .i64 (if A then n else 0), v], .bool (decide A)] ∧ T = [Tok.own v (if A then xs else [])] :=
  fun hn hh => (h hn hh).mono fun e w' ⟨v, T', he, hv, hu⟩ => by
    rcases hv with ⟨ha, u, rfl, rfl⟩ | ⟨ha, rfl, rfl⟩
    · exact ⟨_, _, he, ⟨u, by rw [decide_eq_true ha, if_pos ha], by rw [if_pos ha]⟩, hu⟩
    · exact ⟨_, _, he, ⟨_, by rw [decide_eq_false ha, if_neg ha]; rfl, by rw [if_neg ha]⟩, hu.addN (α := E)⟩

section
variable (w : World) (n : Int) (vE : Value) (es : List E) (x y : Int) (e : E) (hE : RL w vE es) (hl : es.length ≤ 1099511627776)
include hE hl
theorem u_ForestOf : Tri Try.prog 65 [.agg #[.int .i64 n, vE]] w [] fun r T => T = [Tok.own r (if GV n es then forestL n es else [])] := (c_ForestOf w n vE es hE hl).unif
theorem u_PartNodes : Tri Try.prog 23 [.agg #[.int .i64 n, vE], .int .i64 x] w [] fun r T => T = [Tok.own r (if GN n es x then pns n es x else [])] := (c_PartNodes w n vE es x hE hl).unif
theorem v_PartNodes : Tri Try.prog 21 [.agg #[.int .i64 n, vE], .int .i64 x] w [] fun r T => T = [Tok.own r (if GN n es x then pns n es x else [])] := (s_PartNodes w n vE es x hE hl).unifS
theorem u_BridgesBetween : Tri Try.prog 32 [.agg #[.int .i64 n, vE], .int .i64 x, .int .i64 y] w [] fun r T => ∃ v, r = .tuple #[v, .bool (decide (CN n es x y))] ∧ T = [Tok.own v (if CN n es x y then btw n es x y else [])] := (c_BridgesBetween w n vE es x y hE hl).unif2
theorem v_BridgesBetween : Tri Try.prog 31 [.agg #[.int .i64 n, vE], .int .i64 x, .int .i64 y] w [] fun r T => ∃ v, r = .tuple #[v, .bool (decide (CN n es x y))] ∧ T = [Tok.own v (if CN n es x y then btw n es x y else [])] := (s_BridgesBetween w n vE es x y hE hl).unif2S
theorem u_CutNodesBetween : Tri Try.prog 30 [.agg #[.int .i64 n, vE], .int .i64 x, .int .i64 y] w [] fun r T => ∃ v, r = .tuple #[v, .bool (decide (CN n es x y))] ∧ T = [Tok.own v (if CN n es x y then cutb n es x y else [])] := (c_CutNodesBetween w n vE es x y hE hl).unif2
theorem v_CutNodesBetween : Tri Try.prog 29 [.agg #[.int .i64 n, vE], .int .i64 x, .int .i64 y] w [] fun r T => ∃ v, r = .tuple #[v, .bool (decide (CN n es x y))] ∧ T = [Tok.own v (if CN n es x y then cutb n es x y else [])] := (s_CutNodesBetween w n vE es x y hE hl).unif2S
theorem u_CutNode : Tri Try.prog 37 [.agg #[.int .i64 n, vE], .int .i64 x] w [] fun r T => ∃ v, r = .tuple #[.agg #[.int .i64 (if GN n es x then n else 0), v], .bool (decide (GN n es x))] ∧ T = [Tok.own v (if GN n es x then alone es x else [])] := (c_CutNode w n vE es x hE hl).unifG
theorem v_CutNode : Tri Try.prog 36 [.agg #[.int .i64 n, vE], .int .i64 x] w [] fun r T => ∃ v, r = .tuple #[.agg #[.int .i64 (if GN n es x then n else 0), v], .bool (decide (GN n es x))] ∧ T = [Tok.own v (if GN n es x then alone es x else [])] := (s_CutNode w n vE es x hE hl).unifG
end
end Go.Proofs.Ythlgbeakcobeoaa
/- The law FnPartsOf: its walk. Conditions: those of the theorem. -/
namespace Go.Proofs.Ythlgbeakcobeoaa
open Go
theorem deq_int (l : List Int) : decide (l = l) = true := decide_eq_true rfl
theorem deq_E (l : List E) : decide (l = l) = true := decide_eq_true rfl
set_option linter.unusedVariables false set_option linter.unusedSimpArgs false attribute [local irreducible] Tok.own Tok.blk RL Rd eptr WP WPL PE WPD WPO Op1 OpE Tri Again Mid Exit.then Exit.inBlock bodyPost RP Code.wp wpList isOwn OneM One
set_option maxHeartbeats 8000000

end Go.Proofs.Ythlgbeakcobeoaa
/- The law FnPartNodes: its walk. Conditions: those of the theorem. -/
namespace Go.Proofs.Ythlgbeakcobeoaa
open Go
theorem pns_len (n : Int) (es : List E) (x : Int) : (pns n es x).length ≤ n.toNat := by
  have := List.length_filter_le (fun k => decide (lab n es k = lab n es x)) (iota n.toNat)
  rw [iota_length] at this; exact this
set_option linter.unusedVariables false set_option linter.unusedSimpArgs false attribute [local irreducible] Tok.own Tok.blk RL Rd eptr WP WPL PE WPD WPO Op1 OpE Tri Again Mid Exit.then Exit.inBlock bodyPost RP Code.wp wpList isOwn OneM One
attribute [local irreducible] CN
set_option maxHeartbeats 8000000

end Go.Proofs.Ythlgbeakcobeoaa
/- The law FnPartCount: its walk. Conditions: those of the theorem. -/
namespace Go.Proofs.Ythlgbeakcobeoaa
open Go
theorem pcnt_le (n : Int) (es : List E) : pcnt n es ≤ n.toNat := by
  have := List.length_filter_le (fun k => decide (lab n es k = k)) (iota n.toNat)
  rw [iota_length] at this; exact this
theorem CN_iff {n : Int} {es : List E} (hg : GV n es) {x y : Int} (hx : Nd n x) (hy : Nd n y) : CN n es x y ↔ Conn es x y :=
  ⟨fun h => (cn_iff hg.okE hx hy).1 h.2.2.2, fun h => ⟨hg, hx, hy, (cn_iff hg.okE hx hy).2 h⟩⟩
theorem putOk.gv {n : Int} {es : List E} {e : E} (h : putOk n es e) : GV n (insE es e) := by
  obtain ⟨h1, h2, h3, h4⟩ := putOk_iff.1 h
  exact h1.ins h2 h3 h4
theorem putOk.nd {n : Int} {es : List E} {e : E} (h : putOk n es e) : Nd n e.A ∧ Nd n e.B := (putOk_iff.1 h).2.2.1.nd
theorem pc_same {n : Int} {es : List E} {e : E} (h : putOk n es e) (hc : Conn es e.A e.B) : pcnt n (insE es e) = pcnt n es :=
  pcnt_congr h.gv.okE h.1.okE fun x y => conn_ins.trans (conn_cons_same hc)
theorem pc_less {n : Int} {es : List E} {e : E} (h : putOk n es e) (hc : ¬ Conn es e.A e.B) : pcnt n (insE es e) + 1 = pcnt n es := by
  have ho : okE n (e :: es) := fun f hf => by
    rcases List.mem_cons.1 hf with rfl | hf
    · exact h.nd
    · exact h.1.okE f hf
  rw [pcnt_congr h.gv.okE ho fun x y => conn_ins]
  exact pcnt_cons h.1.okE h.nd hc
set_option linter.unusedVariables false set_option linter.unusedSimpArgs false attribute [local irreducible] Tok.own Tok.blk RL Rd eptr WP WPL PE WPD WPO Op1 OpE Tri Again Mid Exit.then Exit.inBlock bodyPost RP Code.wp wpList isOwn OneM One
attribute [local irreducible] CN putOk pcV
set_option maxHeartbeats 8000000

end Go.Proofs.Ythlgbeakcobeoaa
/- The law FnBridgePut: its walk. Conditions: those of the theorem. -/
namespace Go.Proofs.Ythlgbeakcobeoaa
open Go
theorem same_self (n : Int) (l : List E) : decide (n = n ∧ l = l) = true := decide_eq_true ⟨rfl, rfl⟩
theorem beq_nn (d : Bool) : (d == !(!d)) = true := by cases d <;> rfl
theorem brs_ins {n : Int} {es : List E} {e f : E} (hk : putOk n es e) (hf : f ∈ brs n (insE es e)) (hne : f ≠ e) : f ∈ brs n es := by
  have h1 := (mem_brs hk.gv.okE).1 hf
  have hfe : f ∈ es := (mem_insE.1 h1.1).resolve_left hne
  exact (mem_brs hk.1.okE).2 ⟨hfe, fun hc => h1.2 (hc.mono fun g hg => mem_rem.2 ⟨mem_insE.2 (.inr (mem_rem.1 hg).1), (mem_rem.1 hg).2⟩)⟩
theorem brs_self {n : Int} {es : List E} {e : E} (hk : putOk n es e) : decide (CN n es e.A e.B) = !decide (e ∈ brs n (insE es e)) := by
  have h1 := CN_iff hk.1 hk.nd.1 hk.nd.2
  have h2 : e ∈ brs n (insE es e) ↔ ¬ Conn es e.A e.B := by
    rw [mem_brs hk.gv.okE, conn_rem_ins hk.2.1]
    exact ⟨fun h => h.2, fun h => ⟨mem_insE.2 (.inl rfl), h⟩⟩
  by_cases hc : Conn es e.A e.B
  · rw [decide_eq_true (h1.2 hc), decide_eq_false fun h => h2.1 h hc]; rfl
  · rw [decide_eq_false fun h => hc (h1.1 h), decide_eq_true (h2.2 hc)]; rfl
theorem brs_len (n : Int) (es : List E) : (brs n es).length ≤ es.length := List.length_filter_le _ _
set_option linter.unusedVariables false set_option linter.unusedSimpArgs false attribute [local irreducible] Tok.own Tok.blk RL Rd eptr WP WPL PE WPD WPO Op1 OpE Tri Again Mid Exit.then Exit.inBlock bodyPost RP Code.wp wpList isOwn OneM One
attribute [local irreducible] CN putOk
set_option maxHeartbeats 8000000

end Go.Proofs.Ythlgbeakcobeoaa
/- The law FnExactSafeTogether: its walk. Conditions: those of the theorem. -/
namespace Go.Proofs.Ythlgbeakcobeoaa
open Go
theorem gself (n : Int) (l : List E) : decide (n = n ∧ l = l) = true := decide_eq_true ⟨rfl, rfl⟩
theorem bself (d : Bool) : (d != d) = false := by cases d <;> rfl
set_option linter.unusedVariables false set_option linter.unusedSimpArgs false attribute [local irreducible] Tok.own Tok.blk RL Rd eptr WP WPL PE WPD WPO Op1 OpE Tri Again Mid Exit.then Exit.inBlock bodyPost RP Code.wp wpList isOwn OneM One
attribute [local irreducible] CN STg
set_option maxHeartbeats 8000000

end Go.Proofs.Ythlgbeakcobeoaa
/- The law FnExactCutNode: its walk. Conditions: those of the theorem. -/
namespace Go.Proofs.Ythlgbeakcobeoaa
open Go
set_option linter.unusedVariables false set_option linter.unusedSimpArgs false attribute [local irreducible] Tok.own Tok.blk RL Rd eptr WP WPL PE WPD WPO Op1 OpE Tri Again Mid Exit.then Exit.inBlock bodyPost RP Code.wp wpList isOwn OneM One
attribute [local irreducible] CN GN
set_option maxHeartbeats 8000000

theorem l_ExactCutNode (w : World) (n : Int) (v : Value) (xs : List E) (x : Int) (h : RL w v xs) (hl : xs.length ≤ 9223372036854775807) :
    Tri Try.prog 6 [.agg #[.int .i64 n, v], .int .i64 x] w [] fun r T => r = .bool true := by
  obtain ⟨L, hLe⟩ : ∃ L, L = (if GN n xs x then alone xs x else []) := ⟨_, rfl⟩
  have hLx : L.length ≤ xs.length := by
    rw [hLe]; split
    · exact List.length_filter_le _ _
    · exact Nat.zero_le _
  obtain ⟨N0, hNe⟩ : ∃ N0, N0 = (if GN n xs x then n else 0) := ⟨_, rfl⟩
  obtain ⟨d, hde⟩ : ∃ d, d = decide (GN n xs x) := ⟨_, rfl⟩
  refine Tri.intro (hf := Try.func6) (hb := rfl) (hn := Try.ntmps6) (Nat.le_of_ble_eq_true rfl) ?_
  try refine go ⟨?_⟩
  refine WPL.eff (OpE.box rfl) rfl rfl ?_; rintro _ _ ⟨b, rfl, rfl⟩
  try refine go ⟨?_⟩
  refine WPL.eff (OpE.call lO (fun w hw => h_szG _ n v xs 1048576 (Rd.at rD hw) hl (by omega) (by omega))) rfl rfl ?_
  rintro r _ ⟨T, ⟨rfl, hr⟩, rfl⟩
  rcases hr with ⟨hsz, rfl⟩ | ⟨hsz, rfl⟩
  case inr =>
    repeat' (first | refine go ⟨?_⟩ | (refine isCond ?_; refine WP.condD rfl (fun hc => ?_) (fun hc => ?_)) | (refine isGuard ?_; refine WPL.splitD rfl rfl (fun hc => ?_) (fun hc => ?_)))
    refine PE.ret1 (T := []) (T' := []) rfl rV ?_ sT
    rfl
  have hl2 : xs.length ≤ 1048576 := by omega
  have hLl : L.length ≤ 1048576 := by omega
  try refine go ⟨?_⟩
  refine WP.condD rfl (fun hc => ?_) (fun hc => ?_)
  · exfalso; omega
  try refine go ⟨?_⟩
  refine WPL.eff (OpE.call lO (fun w hw => h_toG _ n v xs (Rd.at rD hw) hl2)) rfl rfl ?_
  rintro _ _ ⟨T, ⟨u, rfl, rfl⟩, rfl⟩
  try refine go ⟨?_⟩
  refine WPL.eff (OpE.call lO (fun w hw => v_CutNode _ n u xs x (Rd.at rD hw) (by omega))) rfl rfl ?_
  rintro _ _ ⟨T, ⟨w0, rfl, rfl⟩, rfl⟩
  rw [← hLe, ← hNe, ← hde]
  try refine go ⟨?_⟩
  refine WPL.eff OpE.alloc rfl rfl ?_; rintro _ _ ⟨ba0, rfl, rfl⟩
  try refine go ⟨?_⟩
  refine WPL.eff (OpE.call lO (fun w hw => h_toG _ n v xs (Rd.at rD hw) hl2)) rfl rfl ?_
  rintro _ _ ⟨T, ⟨u2, rfl, rfl⟩, rfl⟩
  try refine go ⟨?_⟩
  refine WPL.eff OpE.alloc rfl rfl ?_; rintro _ _ ⟨b7, rfl, rfl⟩
  try refine go ⟨?_⟩
  refine WPL.eff (OpE.call lO (fun w hw => u_CutNode _ n u2 xs x (Rd.at rD hw) (by omega))) rfl rfl ?_
  rintro _ _ ⟨T, ⟨g0, rfl, rfl⟩, rfl⟩
  rw [← hLe, ← hNe, ← hde]
  try refine go ⟨?_⟩
  refine WPL.eff OpE.alloc rfl rfl ?_; rintro _ _ ⟨ba1, rfl, rfl⟩
  try refine go ⟨?_⟩
  refine WPL.eff (OpE.call lO (fun w hw => h_eqG _ N0 N0 g0 w0 L L (Rd.at rD hw) (Rd.at rD hw) (by omega) (by omega))) rfl rfl ?_
  rintro _ _ ⟨T, ⟨rfl, rfl⟩, rfl⟩
  rw [gself]
  try refine go ⟨?_⟩
  rw [bself]
  try refine go ⟨?_⟩
  refine WP.draw [Tok.blk b7 [.int .i64 n, u2], Tok.own u2 xs, Tok.blk b [.int .i64 n, v]] mixed ?_
  refine WPD.take 0 rfl (by first | exact (Op1.load rfl mM (by rfl)) | exact (Op1.loadI rfl rD lT) | exact (Op1.loadAll rfl mM (by rfl)) | exact (Op1.loadE rfl rD lT (by rfl)) | exact (Op1.loadEAgg rfl rD lT (by rfl))) rfl rfl sT kR kR kR xQP ?_
  refine WPD.take 1 rfl (by first | exact (Op1.load rfl mM (by rfl)) | exact (Op1.loadI rfl rD lT) | exact (Op1.loadAll rfl mM (by rfl)) | exact (Op1.loadE rfl rD lT (by rfl)) | exact (Op1.loadEAgg rfl rD lT (by rfl))) rfl rfl sT kR kR kR xQP ?_
  refine WPD.eff 2 kR rfl (OpE.call lO (fun w hw => h_toG _ n v xs (Rd.at rD hw) hl2)) rfl rfl ?_
  rintro r _ ⟨T, ⟨u3, rfl, rfl⟩, rfl⟩
  refine ⟨sT, ?_⟩
  refine WPD.eff 3 kR rfl (OpE.call lO (fun w hw => h_eqG _ n n u2 u3 xs xs (Rd.at rD hw) (Rd.at rD hw) hl2 hl2)) rfl rfl ?_
  rintro r _ ⟨T, ⟨rfl, rfl⟩, rfl⟩
  rw [gself]
  refine ⟨sT, ?_⟩
  refine WPD.eff 4 kR rfl (OpE.ofPure (by first | exact (Op1.notD rfl) | exact (Op1.not rfl))) rfl rfl ?_
  rintro _ _ ⟨rfl, rfl⟩
  refine ⟨sT, ?_⟩
  refine WPD.done kR ?_
  try refine go ⟨?_⟩
  refine WPL.eff (OpE.callT (T := [Tok.own u2 xs]) lO pM2 (fun w hw => h_markG _ n u2 xs 1 hl2 (by omega) (by omega))) rfl rfl ?_
  rintro _ _ ⟨T, ⟨ys, rfl, rfl⟩, rfl⟩
  try refine go ⟨?_⟩
  rw [decide_eq_false (show ¬ (1 + 2 * (xs.length : Int) < 0) by omega)]
  try refine go ⟨?_⟩
  refine WPL.eff (OpE.call lO (fun w hw => h_eqG _ N0 N0 g0 w0 L L (Rd.at rD hw) (Rd.at rD hw) (by omega) (by omega))) rfl rfl ?_
  rintro _ _ ⟨T, ⟨rfl, rfl⟩, rfl⟩
  rw [gself]
  try refine go ⟨?_⟩
  rw [bself]
  try refine go ⟨?_⟩
  refine WPL.eff (OpE.callT (T := [Tok.own g0 L]) lO pM2 (fun w hw => h_mrkG _ N0 g0 L 1 hLl (by omega) (by omega))) rfl rfl ?_
  rintro _ _ ⟨T, ⟨rfl, rfl⟩, rfl⟩
  have hH := fun w' (h1 : RL w' g0 (emarks 1 L.length)) => h_heldG w' N0 g0 1 _ h1 hLl (by omega) (by omega)
  try refine go ⟨?_⟩
  refine WPL.eff (OpE.call lO (fun w hw => hH _ (Rd.at rD hw))) rfl rfl ?_
  rintro _ _ ⟨T, ⟨rfl, rfl⟩, rfl⟩
  try refine go ⟨?_⟩
  rw [decide_eq_false (show ¬ (1 + 2 * (L.length : Int) < 0) by omega)]
  try refine go ⟨?_⟩
  rw [decide_eq_false (show ¬ (1 + 2 * (L.length : Int) ≠ 1 + 2 * (L.length : Int)) from fun h => h rfl)]
  try refine go ⟨?_⟩
  refine WPL.eff (OpE.call lO (fun w hw => h_toG _ n v xs (Rd.at rD hw) hl2)) rfl rfl ?_
  rintro _ _ ⟨T, ⟨u5, rfl, rfl⟩, rfl⟩
  try refine go ⟨?_⟩
  refine WPL.eff (OpE.call lO (fun w hw => u_CutNode _ n u5 xs x (Rd.at rD hw) (by omega))) rfl rfl ?_
  rintro _ _ ⟨T, ⟨k0, rfl, rfl⟩, rfl⟩
  rw [← hLe, ← hNe, ← hde]
  try refine go ⟨?_⟩
  refine WPL.eff OpE.alloc rfl rfl ?_; rintro _ _ ⟨ba2, rfl, rfl⟩
  try refine go ⟨?_⟩
  refine WPL.eff (OpE.call lO (fun w hw => h_eqG _ N0 N0 k0 w0 L L (Rd.at rD hw) (Rd.at rD hw) (by omega) (by omega))) rfl rfl ?_
  rintro _ _ ⟨T, ⟨rfl, rfl⟩, rfl⟩
  rw [gself]
  try refine go ⟨?_⟩
  rw [bself]
  try refine go ⟨?_⟩
  refine WPL.eff (OpE.call lO (fun w hw => hH _ (Rd.at rD hw))) rfl rfl ?_
  rintro _ _ ⟨T, ⟨rfl, rfl⟩, rfl⟩
  try refine go ⟨?_⟩
  rw [decide_eq_false (show ¬ (1 + 2 * (L.length : Int) < 0) by omega)]
  try refine go ⟨?_⟩
  rw [decide_eq_false (show ¬ (1 + 2 * (L.length : Int) ≠ 1 + 2 * (L.length : Int)) from fun h => h rfl)]
  try refine go ⟨?_⟩
  refine PE.ret1 (T := []) (T' := []) rfl rV ?_ sT
  rfl
end Go.Proofs.Ythlgbeakcobeoaa
/- From a walk in this layer to the form's own terms: what is read of the arguments, and that nothing that was there has turned. Conditions: those of each theorem. -/
namespace Go.Proofs.Ythlgbeakcobeoaa
open Go Go.ChangeShapes Go.WideShapes Go.ChangeAt Go.RowKit Go.Joins

theorem Upd.below {w w' : World} {T : List Tok} (h : Upd w w' [] T) : Below w.heap.size w w' :=
  ⟨h.os, h.tape, h.output, h.size, fun k hk => h.keep k hk (by simp)⟩

theorem Tri.holds0 {P : Program} {f : FuncId} {args : List Value} {w : World} {post : Value → List Tok → Prop} {v : Value} (h : Tri P f args w [] post) (hv : ∀ r T, post r T → r = v) :
    Calls P f args.toArray w fun e w' => e = .returned v ∧ Below w.heap.size w w' :=
  (h (by simp) (by simp)).mono fun _ _ ⟨_, _, he, hp, hu⟩ => ⟨he.trans (by rw [hv _ _ hp]), hu.below⟩

/-- A cell of a slice of ints, read. -/
theorem rl_ints {H : Type} {enc : TypeId × Value → H} {P : Program} {w : World} {t e : TypeId} {b0 b1 n : Nat} {v : Value} {x : DataW H × List MemPlace} (ht : P.underlying t = some (.slice e)) (he : P.underlying e = some (.int .i64)) (hc : P.cellsOf e = 1)
    (hv : Cell.okWide P w .any b0 t v) (h : DataW.trod enc P w b1 (fun _ => true) true n t [v] = some x) :
    ∃ xs : List Int, RL w v xs ∧ xs.length ≤ 9223372036854775807 := by
  rcases open_ints ht he hc h with ⟨hcs, _⟩ | ⟨a, l, c, zs, hcs, _, hl, hm, hz, _, hcell, _⟩
  · simp only [List.cons.injEq, and_true] at hcs
    subst hcs
    exact ⟨[], ⟨rfl, .inl ⟨rfl, rfl⟩⟩, by simp⟩
  · simp only [List.cons.injEq, and_true] at hcs
    subst hcs
    simp only [Cell.okWide, ht, Cell.ok] at hv
    obtain ⟨_, _, _, hs, row, cells, hsh, _⟩ := hv
    obtain ⟨b, off, spot⟩ := a
    simp only at hs
    subst hs
    have hz' : zs.length = c := by simpa using hz
    have hlen : (zs.take l).length = l := by rw [List.length_take]; omega
    have hb : b < w.heap.size := by
      rcases Nat.lt_or_ge b w.heap.size with h' | h'
      · exact h'
      · simp only [World.shape?] at hsh
        rw [Array.getElem?_eq_none h'] at hsh
        cases hsh
    refine ⟨zs.take l, ⟨by rw [encs_length], .inr ⟨b, off, c, by rw [hlen], by omega, hb, fun i hi => ?_⟩⟩, by rw [hlen]; unfold maxLen at hm; omega⟩
    have hi' : i < l := by rw [encs_length, hlen] at hi; simpa [Enc.sz] using hi
    have h1 := hcell i (by omega)
    have h2 := encs_get (zs.take l) i 0 (by omega) (by decide)
    have h3 : i * Enc.sz Int + 0 = i := by show i * 1 + 0 = i; omega
    rw [h3] at h2
    rw [h2]
    have h4 : w.cell? ⟨b, off + i, none⟩ = some (.int .i64 (zs.getD i 0)) := by
      have e : (⟨b, off, none⟩ : Addr).add i = ⟨b, off + i, none⟩ := by
        unfold Addr.add; split
        · subst_vars; rfl
        · rfl
      rw [← e]; exact h1
    rw [h4]
    show some _ = some (Value.int .i64 ((zs.take l).getD i 0))
    congr 2
    rw [List.getD_eq_getElem?_getD, List.getD_eq_getElem?_getD, List.getElem?_take_of_lt hi']
end Go.Proofs.Ythlgbeakcobeoaa
