/- Graphs: the walks of the second program's labels, parts, forests, PutEdge, CutNode. Conditions: those of each contract. -/
import Derived.Test.YthlgbeakcobeoaaSpG0
import Derived.Test.YthlgbeakcobeoaaGra9
namespace Go.Proofs.Ythlgbeakcobeoaa
open Go
set_option linter.unusedVariables false set_option linter.unusedSimpArgs false attribute [local irreducible] Tok.own Tok.blk RL Rd eptr WP WPL PE WPD WPO Op1 OpE Tri Again Mid Exit.then Exit.inBlock bodyPost RP Code.wp wpList isOwn OneM One
set_option maxHeartbeats 8000000

theorem s_Labels (w : World) (n : Int) (vE : Value) (es : List E) (hE : RL w vE es) (hg : NE n es) :
    Tri Try.prog 69 [.agg #[.int .i64 n, vE]] w [] fun r T => T = [Tok.own r (labs n es)] := by
  have hl := hg.le
  have hn1 := hg.n1
  have hn2 := hg.n2
  refine Tri.intro (hf := Try.func69) (hb := rfl) (hn := Try.ntmps69) (Nat.le_of_ble_eq_true rfl) ?_
  try refine go ⟨?_⟩
  refine WPL.eff (OpE.box rfl) rfl rfl ?_; rintro _ _ ⟨b, rfl, rfl⟩
  try refine go ⟨?_⟩
  refine WPL.eff (OpE.buildSlice ([] : List Int) pA rfl (by decide)) rfl rfl ?_; rintro s _ rfl
  try refine go ⟨?_⟩
  refine WP.loop (σ := Nat × Value) (fun k => [(1, .pointer (some ⟨b, 0, none⟩)), (3, k.2), (4, .int .i64 k.1)]) (fun k => [Tok.own k.2 (iota k.1), Tok.blk b [.int .i64 n, vE]]) (fun k => k.1 ≤ n.toNat) (fun k => n.toNat - k.1) (0, s) (Nat.zero_le _) sE sT ?_
  rintro ⟨k, v⟩ hk
  dsimp only at hk ⊢
  try refine go ⟨?_⟩
  refine WP.condD rfl (fun hc => ?_) (fun hc => ?_)
  · try refine go ⟨?_⟩
    refine WPL.eff (OpE.buildSlice [(k : Int)] pA rfl (by decide)) rfl rfl ?_; rintro s1 _ rfl
    try refine go ⟨?_⟩
    have hil := iota_length k
    refine WPL.eff (OpE.append rfl rfl pM rD lN) rfl rfl ?_; rintro v1 _ rfl
    try refine go ⟨?_⟩
    rw [← iota_succ]
    refine PE.again (k + 1, v1) ?_ ?_ sE sT
    · dsimp only; omega
    · dsimp only; omega
  have hkn : k = n.toNat := by omega
  subst hkn
  try refine go ⟨?_⟩
  refine WP.loop (σ := Nat × Bool) (fun k => [(1, .pointer (some ⟨b, 0, none⟩)), (3, v), (5, .bool k.2)]) (fun k => [Tok.own v (rnd es (iota n.toNat) k.1), Tok.blk b [.int .i64 n, vE]]) (fun k => (k.2 = true → k.1 ≤ n.toNat) ∧ (k.2 = false → Stab es (rnd es (iota n.toNat) k.1))) (fun k => if k.2 = true then n.toNat - k.1 + 1 else 0) (0, true) ⟨fun _ => Nat.zero_le _, fun h => by cases h⟩ sE sT ?_
  rintro ⟨k, again⟩ ⟨hk1, hk2⟩
  dsimp only at hk1 hk2 ⊢
  try refine go ⟨?_⟩
  refine WP.cond rfl (fun hag => ?_) (fun hag => ?_)
  · subst hag
    have hk := hk1 rfl
    obtain ⟨O, hO⟩ : ∃ O, O = rnd es (iota n.toNat) k := ⟨_, rfl⟩
    have hOl : O.length = n.toNat := by rw [hO, rnd_length, iota_length]
    rw [← hO]
    try refine go ⟨?_⟩
    refine WP.loop (σ := Nat × Bool) (fun j => [(1, .pointer (some ⟨b, 0, none⟩)), (3, v), (5, .bool j.2), (6, .int .i64 j.1)]) (fun j => [Tok.own v ((es.take j.1).foldl relx O), Tok.blk b [.int .i64 n, vE]])
      (fun j => j.1 ≤ es.length ∧ (j.2 = false → (es.take j.1).foldl relx O = O ∧ ∀ i, i < j.1 → O.getD (es.getD i eD).A.toNat 0 = O.getD (es.getD i eD).B.toNat 0) ∧ (j.2 = true → ¬ Stab es O)) (fun j => es.length - j.1) (0, false) ⟨Nat.zero_le _, fun _ => ⟨rfl, fun i hi => absurd hi (Nat.not_lt_zero _)⟩, fun h => by cases h⟩ sE sT ?_
    rintro ⟨j, ch⟩ ⟨hj, hj1, hj2⟩
    dsimp only at hj hj1 hj2 ⊢
    try refine go ⟨?_⟩
    refine WP.condD rfl (fun hc3 => ?_) (fun hc3 => ?_)
    · have hj' : j < es.length := by omega
      have hs := foldl_takeS eD relx O hj'
      obtain ⟨out, ho⟩ : ∃ out, out = (es.take j).foldl relx O := ⟨_, rfl⟩
      have hol : out.length = n.toNat := by rw [ho, fold_length, hOl]
      rw [← ho] at hs hj1 ⊢
      obtain ⟨hA, hB⟩ := hg.ok (es.getD j eD) (getD_memI hj')
      have hA1 : 0 ≤ (es.getD j (Enc.d : E)).A := hA.1
      have hA2 : (es.getD j (Enc.d : E)).A < n := hA.2
      have hB1 : 0 ≤ (es.getD j (Enc.d : E)).B := hB.1
      have hB2 : (es.getD j (Enc.d : E)).B < n := hB.2
      have hns : out.getD (es.getD j eD).A.toNat 0 ≠ out.getD (es.getD j eD).B.toNat 0 → ¬ Stab es O := by
        intro hne hst
        cases ch
        · rw [(hj1 rfl).1] at hne
          exact hne (hst _ (getD_memI hj'))
        · exact hj2 rfl hst
      repeat' (first | exact absurd rfl hc | refine go ⟨?_⟩ | (refine isCond ?_; refine WP.condD rfl (fun hc => ?_) (fun hc => ?_)) | (refine isGuard ?_; refine WPL.splitD rfl rfl (fun hc => ?_) (fun hc => ?_)))
      · have h1 : out.getD (es.getD j eD).A.toNat 0 < out.getD (es.getD j eD).B.toNat 0 := hc
        refine WPL.eff0 (OpE.store1 (out.getD (es.getD j eD).A.toNat 0) rfl rfl pM (by omega) rfl) rfl ?_; rintro _ _ rfl
        repeat' (first | exact absurd rfl hc | refine go ⟨?_⟩ | (refine isCond ?_; refine WP.condD rfl (fun hc => ?_) (fun hc => ?_)) | (refine isGuard ?_; refine WPL.splitD rfl rfl (fun hc => ?_) (fun hc => ?_)))
        · omega
        · have e1 := relx_lt h1
          rw [← hs] at e1
          rw [show out.set (es.getD j (Enc.d : E)).B.toNat (out.getD (es.getD j eD).A.toNat 0) = _ from e1]
          refine PE.again (j + 1, true) ?_ ?_ sE sT
          · exact ⟨hj', fun h => (by cases h), fun _ => hns (by omega)⟩
          · dsimp only; omega
      · have h1 : out.getD (es.getD j eD).B.toNat 0 < out.getD (es.getD j eD).A.toNat 0 := hc
        refine WPL.eff0 (OpE.store1 (out.getD (es.getD j eD).B.toNat 0) rfl rfl pM (by omega) rfl) rfl ?_; rintro _ _ rfl
        repeat' (first | exact absurd rfl hc | refine go ⟨?_⟩ | (refine isCond ?_; refine WP.condD rfl (fun hc => ?_) (fun hc => ?_)) | (refine isGuard ?_; refine WPL.splitD rfl rfl (fun hc => ?_) (fun hc => ?_)))
        have e1 := relx_gt h1
        rw [← hs] at e1
        rw [show out.set (es.getD j (Enc.d : E)).A.toNat (out.getD (es.getD j eD).B.toNat 0) = _ from e1]
        refine PE.again (j + 1, true) ?_ ?_ sE sT
        · exact ⟨hj', fun h => (by cases h), fun _ => hns (by omega)⟩
        · dsimp only; omega
      · have h2 : ¬ (out.getD (es.getD j eD).A.toNat 0 < out.getD (es.getD j eD).B.toNat 0) := by assumption
        have h3 : ¬ (out.getD (es.getD j eD).B.toNat 0 < out.getD (es.getD j eD).A.toNat 0) := hc
        have h1 : out.getD (es.getD j eD).A.toNat 0 = out.getD (es.getD j eD).B.toNat 0 := by omega
        have hsame := relx_same hol hA hB h1
        rw [hsame] at hs
        rw [← hs]
        refine PE.again (j + 1, ch) ?_ ?_ sE sT
        · refine ⟨hj', fun h => ?_, hj2⟩
          obtain ⟨g3, g4⟩ := hj1 h
          refine ⟨by rw [hs]; exact g3, fun i hi => ?_⟩
          dsimp only at hi
          rcases Nat.lt_succ_iff_lt_or_eq.1 hi with h' | rfl
          · exact g4 i h'
          · rw [← g3]; exact h1
        · dsimp only; omega
    · have hjn : j = es.length := by omega
      subst hjn
      rw [List.take_length] at hj1 ⊢
      have hrs : es.foldl relx O = rnd es (iota n.toNat) (k + 1) := by rw [hO]; rfl
      rw [hrs] at hj1 ⊢
      try refine go ⟨?_⟩
      refine PE.again (k + 1, ch) ?_ ?_ sE sT
      · refine ⟨fun h => ?_, fun h => ?_⟩
        · have := hj2 h
          rw [hO] at this
          have h5 : ¬ n.toNat ≤ k := fun h6 => this (rnd_stab hg.ok h6)
          dsimp only; omega
        · obtain ⟨h3, h4⟩ := hj1 h
          dsimp only
          rw [h3]
          intro e he
          obtain ⟨i, hi, rfl⟩ := mem_getD (d := eD) he
          exact h4 i hi
      · dsimp only
        rw [if_pos rfl]
        split
        · rename_i h
          have := hj2 h
          rw [hO] at this
          have h5 : ¬ n.toNat ≤ k := fun h6 => this (rnd_stab hg.ok h6)
          omega
        · omega
  · subst hag
    try refine go ⟨?_⟩
    refine PE.ret1 (T := []) (T' := [Tok.own v (rnd es (iota n.toNat) k)]) rfl rV ?_ sT
    rw [← labs_unique hg.ok (Lab.rnd hg.ok k) (hk2 rfl)]

theorem s_Node2 (w : World) (n : Int) (vE : Value) (es : List E) (x : Int) (hE : RL w vE es) (hl : es.length ≤ 1099511627776) :
    Tri Try.prog 68 [.agg #[.int .i64 n, vE], .int .i64 x] w [] fun r T => r = .bool (decide (GN n es x)) ∧ T = [] := by
  refine Tri.intro (hf := Try.func68) (hb := rfl) (hn := Try.ntmps68) (Nat.le_of_ble_eq_true rfl) ?_
  try refine go ⟨?_⟩
  refine WPL.eff (OpE.box rfl) rfl rfl ?_; rintro _ _ ⟨b, rfl, rfl⟩
  try refine go ⟨?_⟩
  refine WPL.eff (OpE.call lO (fun w hw => s_GraphValid _ n vE es (Rd.at rD hw) hl)) rfl rfl ?_
  rintro r _ ⟨T, ⟨rfl, rfl⟩, rfl⟩
  repeat' (first | refine go ⟨?_⟩ | (refine isCond ?_; refine WP.condD rfl (fun hc => ?_) (fun hc => ?_)) | (refine isGuard ?_; refine WPL.splitD rfl rfl (fun hc => ?_) (fun hc => ?_)))
  all_goals (refine PE.ret1 (T := []) (T' := []) rfl rV ?_ sT)
  · refine ⟨?_, rfl⟩
    congr 1; rw [decide_eq_decide]; unfold GN Nd; constructor
    · intro h; exact ⟨by assumption, by assumption, h⟩
    · intro h; exact h.2.2
  · refine ⟨?_, rfl⟩
    rw [decide_eq_false]; unfold GN Nd; omega
  · refine ⟨?_, rfl⟩
    rw [decide_eq_false]; unfold GN; intro h; exact absurd h.1 ‹_›

theorem s_Joined (w : World) (n : Int) (vE : Value) (es : List E) (x y : Int) (hE : RL w vE es) (hg : NE n es) (hx : Nd n x) (hy : Nd n y) :
    Tri Try.prog 74 [.agg #[.int .i64 n, vE], .int .i64 x, .int .i64 y] w [] fun r T => r = .bool (decide (cn n es x y)) ∧ T = [] := by
  have hx1 := hx.1
  have hx2 := hx.2
  have hy1 := hy.1
  have hy2 := hy.2
  have hll := labs_length n es
  refine Tri.intro (hf := Try.func74) (hb := rfl) (hn := Try.ntmps74) (Nat.le_of_ble_eq_true rfl) ?_
  try refine go ⟨?_⟩
  refine WPL.eff (OpE.box rfl) rfl rfl ?_; rintro _ _ ⟨b, rfl, rfl⟩
  try refine go ⟨?_⟩
  refine WPL.eff (OpE.call lO (fun w hw => s_Labels _ n vE es (Rd.at rD hw) hg)) rfl rfl ?_
  rintro r _ ⟨T, rfl, rfl⟩
  try refine go ⟨?_⟩
  refine WP.draw [Tok.own r (labs n es)] mixed ?_
  refine WPD.take 0 rfl (Op1.move rfl) rfl rfl sT kR kR kR xQP ?_
  refine WPD.take 1 rfl (Op1.move rfl) rfl rfl sT kR kR kR xQP ?_
  refine WPD.take 4 rfl (Op1.move rfl) rfl rfl sT kR kR kR xQP ?_
  refine WPD.take 5 rfl (Op1.move rfl) rfl rfl sT kR kR kR xQP ?_
  refine WPD.take 2 rfl (by first | exact (Op1.indexAddr rfl rfl rD lT) | exact (Op1.indexAddrZ rfl rfl rD lT)) rfl rfl sT kR kR kR xQP ?_
  refine WPD.take 6 rfl (by first | exact (Op1.indexAddr rfl rfl rD lT) | exact (Op1.indexAddrZ rfl rfl rD lT)) rfl rfl sT kR kR kR xQP ?_
  refine WPD.take 3 rfl (by first | exact (Op1.load rfl mM (by rfl)) | exact (Op1.loadI rfl rD lT) | exact (Op1.loadAll rfl mM (by rfl)) | exact (Op1.loadE rfl rD lT (by rfl)) | exact (Op1.loadEAgg rfl rD lT (by rfl))) rfl rfl sT kR kR kR xQP ?_
  refine WPD.take 7 rfl (by first | exact (Op1.load rfl mM (by rfl)) | exact (Op1.loadI rfl rD lT) | exact (Op1.loadAll rfl mM (by rfl)) | exact (Op1.loadE rfl rD lT (by rfl)) | exact (Op1.loadEAgg rfl rD lT (by rfl))) rfl rfl sT kR kR kR xQP ?_
  refine WPD.take 8 rfl (by first | exact (Op1.eqI rfl rfl) | exact (Op1.eqB rfl rfl) | exact (Op1.eqE rfl rfl) | exact (Op1.eqNil rfl rD)) rfl rfl sT kR kR kR xQP ?_
  refine WPD.eff 9 kR rfl (OpE.ofPure (Op1.assign rfl)) rfl rfl ?_
  rintro _ _ ⟨rfl, rfl⟩
  refine ⟨sT, ?_⟩
  refine WPD.done kR ?_
  try refine go ⟨?_⟩
  refine PE.ret1 (T := []) (T' := []) rfl rV ?_ sT
  exact ⟨rfl, rfl⟩

theorem s_Connected (w : World) (n : Int) (vE : Value) (es : List E) (x y : Int) (hE : RL w vE es) (hl : es.length ≤ 1099511627776) :
    Tri Try.prog 73 [.agg #[.int .i64 n, vE], .int .i64 x, .int .i64 y] w [] fun r T => r = .bool (decide (CN n es x y)) ∧ T = [] := by
  have bad : ¬ CN n es x y → Value.bool false = .bool (decide (CN n es x y)) := fun h => by rw [decide_eq_false h]
  refine Tri.intro (hf := Try.func73) (hb := rfl) (hn := Try.ntmps73) (Nat.le_of_ble_eq_true rfl) ?_
  try refine go ⟨?_⟩
  refine WPL.eff (OpE.box rfl) rfl rfl ?_; rintro _ _ ⟨b, rfl, rfl⟩
  try refine go ⟨?_⟩
  refine WPL.eff (OpE.call lO (fun w hw => s_Node2 _ n vE es x (Rd.at rD hw) hl)) rfl rfl ?_
  rintro r _ ⟨T, ⟨rfl, rfl⟩, rfl⟩
  repeat' (first | exact absurd rfl hc | refine go ⟨?_⟩ | (refine isCond ?_; refine WP.condD rfl (fun hc => ?_) (fun hc => ?_)) | (refine isGuard ?_; refine WPL.splitD rfl rfl (fun hc => ?_) (fun hc => ?_)))
  · have hx : GN n es x := hc
    refine WPL.eff (OpE.call lO (fun w hw => s_Node2 _ n vE es y (Rd.at rD hw) hl)) rfl rfl ?_
    rintro r _ ⟨T, ⟨rfl, rfl⟩, rfl⟩
    repeat' (first | exact absurd rfl hc | refine go ⟨?_⟩ | (refine isCond ?_; refine WP.condD rfl (fun hc => ?_) (fun hc => ?_)) | (refine isGuard ?_; refine WPL.splitD rfl rfl (fun hc => ?_) (fun hc => ?_)))
    · have hy : GN n es y := hc
      refine WPL.eff (OpE.call lO (fun w hw => s_Joined _ n vE es x y (Rd.at rD hw) hx.1.ne hx.2 hy.2)) rfl rfl ?_
      rintro r _ ⟨T, ⟨rfl, rfl⟩, rfl⟩
      repeat' (first | exact absurd rfl hc | refine go ⟨?_⟩ | (refine isCond ?_; refine WP.condD rfl (fun hc => ?_) (fun hc => ?_)) | (refine isGuard ?_; refine WPL.splitD rfl rfl (fun hc => ?_) (fun hc => ?_)))
      refine PE.ret1 (T := []) (T' := []) rfl rV ?_ sT
      refine ⟨?_, rfl⟩
      congr 1; rw [decide_eq_decide]
      exact ⟨fun h => ⟨hx.1, hx.2, hy.2, h⟩, fun h => h.2.2.2⟩
    · refine PE.ret1 (T := []) (T' := []) rfl rV ?_ sT
      exact ⟨bad fun h => hc ⟨h.1, h.2.2.1⟩, rfl⟩
  · refine PE.ret1 (T := []) (T' := []) rfl rV ?_ sT
    exact ⟨bad fun h => hc ⟨h.1, h.2.1⟩, rfl⟩

theorem alone_pred (es : List E) (k : Int) : (es.filter fun e => decide (e.A ≠ k ∧ e.B ≠ k)) = alone es k := by
  unfold alone; congr 1; funext e
  rw [← decide_not, decide_eq_decide, not_or]
theorem s_Alone (w : World) (n : Int) (vE : Value) (es : List E) (k : Int) (hE : RL w vE es) (hl : es.length ≤ 1000000) :
    Tri Try.prog 75 [.agg #[.int .i64 n, vE], .int .i64 k] w [] fun r T => ∃ v, r = .agg #[.int .i64 n, v] ∧ T = [Tok.own v (alone es k)] := by
  refine Tri.intro (hf := Try.func75) (hb := rfl) (hn := Try.ntmps75) (Nat.le_of_ble_eq_true rfl) ?_
  try refine go ⟨?_⟩
  refine WPL.eff (OpE.box rfl) rfl rfl ?_; rintro _ _ ⟨b, rfl, rfl⟩
  refine WPL.eff OpE.alloc rfl rfl ?_; rintro _ _ ⟨b4, rfl, rfl⟩
  try refine go ⟨?_⟩
  refine WPL.eff (OpE.buildSlice ([] : List E) pA rfl (by decide)) rfl rfl ?_; rintro s _ rfl
  try refine go ⟨?_⟩
  refine WPL.eff OpE.alloc rfl rfl ?_; rintro _ _ ⟨b5, rfl, rfl⟩
  try refine go ⟨?_⟩
  refine WP.loop (σ := Nat × Value) (fun j => [(1, .int .i64 k), (2, ptrV b), (4, ptrV b4), (5, ptrV b5), (6, .int .i64 j.1)]) (fun j => [Tok.blk b5 [.int .i64 n, j.2], Tok.own j.2 ((es.take j.1).filter fun e => decide (e.A ≠ k ∧ e.B ≠ k)), Tok.blk b4 [.int .i64 0, .slice none 0 0], Tok.blk b [.int .i64 n, vE]]) (fun j => j.1 ≤ es.length) (fun j => es.length - j.1) (0, s) (Nat.zero_le _) sE sT ?_
  rintro ⟨j, u⟩ hj
  dsimp only at hj ⊢
  have hfl := filt_le es j fun e => decide (e.A ≠ k ∧ e.B ≠ k)
  repeat' (first | exact absurd rfl hc | refine go ⟨?_⟩ | (refine isCond ?_; refine WP.condD rfl (fun hc => ?_) (fun hc => ?_)) | (refine isGuard ?_; refine WPL.splitD rfl rfl (fun hc => ?_) (fun hc => ?_)))
  · have hj' : j < es.length := by omega
    have hA : (es.getD j eD).A ≠ k := ‹_›
    have hB : (es.getD j eD).B ≠ k := hc
    refine WP.draw [Tok.blk b [.int .i64 n, vE]] mixed ?_
    refine WPD.take 0 rfl (by first | exact (Op1.fieldAddr rfl) | exact (Op1.fieldAddrE rfl rD lT)) rfl rfl sT kR kR kR xQP ?_
    refine WPD.take 2 rfl (by first | exact (Op1.fieldAddr rfl) | exact (Op1.fieldAddrE rfl rD lT)) rfl rfl sT kR kR kR xQP ?_
    refine WPD.take 4 rfl (Op1.move rfl) rfl rfl sT kR kR kR xQP ?_
    refine WPD.take 3 rfl (by first | exact (Op1.load rfl mM (by rfl)) | exact (Op1.loadI rfl rD lT) | exact (Op1.loadAll rfl mM (by rfl)) | exact (Op1.loadE rfl rD lT (by rfl)) | exact (Op1.loadEAgg rfl rD lT (by rfl))) rfl rfl sT kR kR kR xQP ?_
    refine WPD.take 5 rfl (by first | exact (Op1.indexAddr rfl rfl rD lT) | exact (Op1.indexAddrZ rfl rfl rD lT)) rfl rfl sT kR kR kR xQP ?_
    refine WPD.take 6 rfl (by first | exact (Op1.load rfl mM (by rfl)) | exact (Op1.loadI rfl rD lT) | exact (Op1.loadAll rfl mM (by rfl)) | exact (Op1.loadE rfl rD lT (by rfl)) | exact (Op1.loadEAgg rfl rD lT (by rfl))) rfl rfl sT kR kR kR xQP ?_
    refine WPD.two 1 7 kR ?e8_1 ?e8_7
    case' e8_1 =>
      refine WPO.eff rfl (OpE.ofPure (by first | exact (Op1.load rfl mM (by rfl)) | exact (Op1.loadI rfl rD lT) | exact (Op1.loadAll rfl mM (by rfl)) | exact (Op1.loadE rfl rD lT (by rfl)) | exact (Op1.loadEAgg rfl rD lT (by rfl)))) rfl rfl ?_
      rintro _ _ ⟨rfl, rfl⟩
      refine ⟨sT, ?_⟩
      refine WPD.eff 7 kR rfl (OpE.buildSlice ([es.getD j eD]) pA rfl (by decide)) rfl rfl ?_
      rintro s1 _ rfl
      refine ⟨sT, ?_⟩
      refine WPD.eff 8 kR rfl (OpE.append rfl rfl pM rD lN) rfl rfl ?_
      rintro u1 _ rfl
      refine ⟨sT, ?_⟩
      refine WPD.take 9 rfl (by first | exact (Op1.fieldAddr rfl) | exact (Op1.fieldAddrE rfl rD lT)) rfl rfl sT kR kR kR xQP ?_
      refine WPD.eff0 10 kR rfl (OpE.store rfl rfl pM (by rfl) oN) rfl ?_
      rintro _ _ rfl
      refine ⟨sT, ?_⟩
      refine WPD.done kR ?_
    case' e8_7 =>
      refine WPO.eff rfl (OpE.buildSlice ([es.getD j eD]) pA rfl (by decide)) rfl rfl ?_
      rintro s1 _ rfl
      refine ⟨sT, ?_⟩
      refine WPD.eff 1 kR rfl (OpE.ofPure (by first | exact (Op1.load rfl mM (by rfl)) | exact (Op1.loadI rfl rD lT) | exact (Op1.loadAll rfl mM (by rfl)) | exact (Op1.loadE rfl rD lT (by rfl)) | exact (Op1.loadEAgg rfl rD lT (by rfl)))) rfl rfl ?_
      rintro _ _ ⟨rfl, rfl⟩
      refine ⟨sT, ?_⟩
      refine WPD.eff 8 kR rfl (OpE.append rfl rfl pM rD lN) rfl rfl ?_
      rintro u1 _ rfl
      refine ⟨sT, ?_⟩
      refine WPD.take 9 rfl (by first | exact (Op1.fieldAddr rfl) | exact (Op1.fieldAddrE rfl rD lT)) rfl rfl sT kR kR kR xQP ?_
      refine WPD.eff0 10 kR rfl (OpE.store rfl rfl pM (by rfl) oN) rfl ?_
      rintro _ _ rfl
      refine ⟨sT, ?_⟩
      refine WPD.done kR ?_
    all_goals (
      try refine go ⟨?_⟩
      rw [← filt_yes (d := eD) (p := fun e => decide (e.A ≠ k ∧ e.B ≠ k)) hj' (decide_eq_true ⟨hA, hB⟩)]
      refine PE.again (j + 1, u1) ?_ ?_ sE sT
      · dsimp only; omega
      · dsimp only; omega)
  · have hj' : j < es.length := by omega
    rw [← filt_no (d := eD) (p := fun e => decide (e.A ≠ k ∧ e.B ≠ k)) hj' (decide_eq_false fun h => hc h.2)]
    refine PE.again (j + 1, u) ?_ ?_ sE sT
    · dsimp only; omega
    · dsimp only; omega
  · have hj' : j < es.length := by omega
    rw [← filt_no (d := eD) (p := fun e => decide (e.A ≠ k ∧ e.B ≠ k)) hj' (decide_eq_false fun h => hc h.1)]
    refine PE.again (j + 1, u) ?_ ?_ sE sT
    · dsimp only; omega
    · dsimp only; omega
  · have hkn : j = es.length := by omega
    subst hkn
    rw [List.take_length, alone_pred]
    refine PE.ret1 (T := []) (T' := [Tok.own u (alone es k)]) rfl rV ?_ sT
    exact ⟨u, rfl, rfl⟩
end Go.Proofs.Ythlgbeakcobeoaa
