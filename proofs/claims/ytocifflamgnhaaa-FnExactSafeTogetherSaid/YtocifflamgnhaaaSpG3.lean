/- Graphs: the walks of the second program's bridges and safe parts. Conditions: those of each contract. -/
import Derived.Test.YtocifflamgnhaaaSpG2
namespace Go.Proofs.Ytocifflamgnhaaa
open Go
set_option linter.unusedVariables false set_option linter.unusedSimpArgs false attribute [local irreducible] Tok.own Tok.blk RL Rd eptr WP WPL PE WPD WPO Op1 OpE Tri Again Mid Exit.then Exit.inBlock bodyPost RP Code.wp wpList isOwn OneM One
set_option maxHeartbeats 8000000

theorem s_Bridge (w : World) (n : Int) (vE : Value) (es : List E) (e : E) (hE : RL w vE es) (hg : NE n es) (hA : Nd n e.A) (hB : Nd n e.B) :
    Tri Try.prog 134 [.agg #[.int .i64 n, vE], ep e] w [] fun r T => r = .bool (brB n es e) ∧ T = [] := by
  have hle := hg.le
  refine Tri.intro (hf := Try.func134) (hb := rfl) (hn := Try.ntmps134) (Nat.le_of_ble_eq_true rfl) ?_
  try refine go ⟨?_⟩
  refine WPL.eff (OpE.box rfl) rfl rfl ?_; rintro _ _ ⟨b, rfl, rfl⟩
  try refine go ⟨?_⟩
  refine WPL.eff (OpE.box rfl) rfl rfl ?_; rintro _ _ ⟨b2, rfl, rfl⟩
  try refine go ⟨?_⟩
  refine WP.draw [Tok.blk b2 [.int .i64 e.A, .int .i64 e.B], Tok.blk b [.int .i64 n, vE]] mixed ?_
  refine WPD.take 0 rfl (by first | exact (Op1.fieldAddr rfl) | exact (Op1.fieldAddrE rfl rD lT)) rfl rfl sT kR kR kR xQP ?_
  refine WPD.take 2 rfl (by first | exact (Op1.fieldAddr rfl) | exact (Op1.fieldAddrE rfl rD lT)) rfl rfl sT kR kR kR xQP ?_
  refine WPD.take 4 rfl (by first | exact (Op1.load rfl mM (by rfl)) | exact (Op1.loadI rfl rD lT) | exact (Op1.loadAll rfl mM (by rfl)) | exact (Op1.loadE rfl rD lT (by rfl)) | exact (Op1.loadEAgg rfl rD lT (by rfl))) rfl rfl sT kR kR kR xQP ?_
  refine WPD.take 7 rfl (by first | exact (Op1.fieldAddr rfl) | exact (Op1.fieldAddrE rfl rD lT)) rfl rfl sT kR kR kR xQP ?_
  refine WPD.take 9 rfl (by first | exact (Op1.fieldAddr rfl) | exact (Op1.fieldAddrE rfl rD lT)) rfl rfl sT kR kR kR xQP ?_
  refine WPD.take 1 rfl (by first | exact (Op1.load rfl mM (by rfl)) | exact (Op1.loadI rfl rD lT) | exact (Op1.loadAll rfl mM (by rfl)) | exact (Op1.loadE rfl rD lT (by rfl)) | exact (Op1.loadEAgg rfl rD lT (by rfl))) rfl rfl sT kR kR kR xQP ?_
  refine WPD.take 3 rfl (by first | exact (Op1.load rfl mM (by rfl)) | exact (Op1.loadI rfl rD lT) | exact (Op1.loadAll rfl mM (by rfl)) | exact (Op1.loadE rfl rD lT (by rfl)) | exact (Op1.loadEAgg rfl rD lT (by rfl))) rfl rfl sT kR kR kR xQP ?_
  refine WPD.take 8 rfl (by first | exact (Op1.load rfl mM (by rfl)) | exact (Op1.loadI rfl rD lT) | exact (Op1.loadAll rfl mM (by rfl)) | exact (Op1.loadE rfl rD lT (by rfl)) | exact (Op1.loadEAgg rfl rD lT (by rfl))) rfl rfl sT kR kR kR xQP ?_
  refine WPD.take 10 rfl (by first | exact (Op1.load rfl mM (by rfl)) | exact (Op1.loadI rfl rD lT) | exact (Op1.loadAll rfl mM (by rfl)) | exact (Op1.loadE rfl rD lT (by rfl)) | exact (Op1.loadEAgg rfl rD lT (by rfl))) rfl rfl sT kR kR kR xQP ?_
  refine WPD.eff 5 kR rfl (OpE.call lO (fun w hw => s_Without _ vE e es (Rd.at rD hw) (by omega))) rfl rfl ?_
  rintro v _ ⟨T, rfl, rfl⟩
  refine ⟨sT, ?_⟩
  refine WPD.eff 6 kR rfl (OpE.ofPure (Op1.build xBP (by rfl))) rfl rfl ?_
  rintro _ _ ⟨rfl, rfl⟩
  refine ⟨sT, ?_⟩
  refine WPD.eff 11 kR rfl (OpE.call lO (fun w hw => s_Joined _ n v (rem es e) e.A e.B (Rd.at rD hw) (hg.rem e) hA hB)) rfl rfl ?_
  rintro r _ ⟨T, ⟨rfl, rfl⟩, rfl⟩
  refine ⟨sT, ?_⟩
  refine WPD.take 12 rfl (by first | exact (Op1.notD rfl) | exact (Op1.not rfl)) rfl rfl sT kR kR kR xQP ?_
  refine WPD.eff 13 kR rfl (OpE.ofPure (Op1.assign rfl)) rfl rfl ?_
  rintro _ _ ⟨rfl, rfl⟩
  refine ⟨sT, ?_⟩
  refine WPD.done kR ?_
  try refine go ⟨?_⟩
  refine PE.ret1 (T := []) (T' := []) rfl rV ?_ sT
  refine ⟨?_, rfl⟩
  unfold brB
  rw [decide_not]

theorem s_Bridges (w : World) (n : Int) (vE : Value) (es : List E) (hE : RL w vE es) (hg : NE n es) :
    Tri Try.prog 123 [.agg #[.int .i64 n, vE]] w [] fun r T => T = [Tok.own r (brs n es)] := by
  have hle := hg.le
  refine Tri.intro (hf := Try.func123) (hb := rfl) (hn := Try.ntmps123) (Nat.le_of_ble_eq_true rfl) ?_
  try refine go ⟨?_⟩
  refine WPL.eff (OpE.box rfl) rfl rfl ?_; rintro _ _ ⟨b, rfl, rfl⟩
  try refine go ⟨?_⟩
  refine WPL.eff (OpE.buildSlice ([] : List E) pA rfl (by decide)) rfl rfl ?_; rintro s _ rfl
  try refine go ⟨?_⟩
  refine WP.loop (σ := Nat × Value) (fun k => [(1, ptrV b), (3, k.2), (4, .int .i64 k.1)]) (fun k => [Tok.own k.2 ((es.take k.1).filter (brB n es)), Tok.blk b [.int .i64 n, vE]]) (fun k => k.1 ≤ es.length) (fun k => es.length - k.1) (0, s) (Nat.zero_le _) sE sT ?_
  rintro ⟨k, v⟩ hk
  dsimp only at hk ⊢
  have hfl := filt_le es k (brB n es)
  try refine go ⟨?_⟩
  refine WP.condD rfl (fun hc => ?_) (fun hc => ?_)
  · have hk' : k < es.length := by omega
    obtain ⟨hA, hB⟩ := hg.ok (es.getD k eD) (getD_memI hk')
    try refine go ⟨?_⟩
    refine WP.draw [Tok.blk b [.int .i64 n, vE]] mixed ?_
    refine WPD.take 0 rfl (by first | exact (Op1.load rfl mM (by rfl)) | exact (Op1.loadI rfl rD lT) | exact (Op1.loadAll rfl mM (by rfl)) | exact (Op1.loadE rfl rD lT (by rfl)) | exact (Op1.loadEAgg rfl rD lT (by rfl))) rfl rfl sT kR kR kR xQP ?_
    refine WPD.take 1 rfl (by first | exact (Op1.fieldAddr rfl) | exact (Op1.fieldAddrE rfl rD lT)) rfl rfl sT kR kR kR xQP ?_
    refine WPD.take 3 rfl (Op1.move rfl) rfl rfl sT kR kR kR xQP ?_
    refine WPD.take 2 rfl (by first | exact (Op1.load rfl mM (by rfl)) | exact (Op1.loadI rfl rD lT) | exact (Op1.loadAll rfl mM (by rfl)) | exact (Op1.loadE rfl rD lT (by rfl)) | exact (Op1.loadEAgg rfl rD lT (by rfl))) rfl rfl sT kR kR kR xQP ?_
    refine WPD.take 4 rfl (by first | exact (Op1.indexAddr rfl rfl rD lT) | exact (Op1.indexAddrZ rfl rfl rD lT)) rfl rfl sT kR kR kR xQP ?_
    refine WPD.take 5 rfl (by first | exact (Op1.load rfl mM (by rfl)) | exact (Op1.loadI rfl rD lT) | exact (Op1.loadAll rfl mM (by rfl)) | exact (Op1.loadE rfl rD lT (by rfl)) | exact (Op1.loadEAgg rfl rD lT (by rfl))) rfl rfl sT kR kR kR xQP ?_
    refine WPD.eff 6 kR rfl (OpE.call lO (fun w hw => s_Bridge _ n vE es (es.getD k eD) (Rd.at rD hw) hg hA hB)) rfl rfl ?_
    rintro r _ ⟨T, ⟨rfl, rfl⟩, rfl⟩
    refine ⟨sT, ?_⟩
    refine WPD.done kR ?_
    try refine go ⟨?_⟩
    refine WP.cond rfl (fun hb => ?_) (fun hb => ?_)
    · try refine go ⟨?_⟩
      refine WPL.eff (OpE.buildSlice [es.getD k eD] pA rfl (by decide)) rfl rfl ?_; rintro s1 _ rfl
      try refine go ⟨?_⟩
      refine WPL.eff (OpE.append rfl rfl pM rD lN) rfl rfl ?_; rintro v1 _ rfl
      try refine go ⟨?_⟩
      rw [← filt_yes (d := eD) (p := brB n es) hk' hb]
      refine PE.again (k + 1, v1) ?_ ?_ sE sT
      · dsimp only; omega
      · dsimp only; omega
    · try refine go ⟨?_⟩
      rw [← filt_no (d := eD) (p := brB n es) hk' hb]
      refine PE.again (k + 1, v) ?_ ?_ sE sT
      · dsimp only; omega
      · dsimp only; omega
  · have hkn : k = es.length := by omega
    subst hkn
    rw [List.take_length]
    try refine go ⟨?_⟩
    refine PE.ret1 (T := []) (T' := [Tok.own v (brs n es)]) rfl rV ?_ sT
    rfl

theorem s_Bare (w : World) (n : Int) (vE : Value) (es : List E) (hE : RL w vE es) (hg : NE n es) :
    Tri Try.prog 90 [.agg #[.int .i64 n, vE]] w [] fun r T => ∃ v, r = .agg #[.int .i64 n, v] ∧ T = [Tok.own v (bare n es)] := by
  have hle := hg.le
  have hbl : (brs n es).length ≤ es.length := List.length_filter_le _ _
  refine Tri.intro (hf := Try.func90) (hb := rfl) (hn := Try.ntmps90) (Nat.le_of_ble_eq_true rfl) ?_
  try refine go ⟨?_⟩
  refine WPL.eff (OpE.box rfl) rfl rfl ?_; rintro _ _ ⟨b, rfl, rfl⟩
  refine WPL.eff OpE.alloc rfl rfl ?_; rintro _ _ ⟨b2, rfl, rfl⟩
  try refine go ⟨?_⟩
  refine WPL.eff (OpE.buildSlice ([] : List E) pA rfl (by decide)) rfl rfl ?_; rintro s _ rfl
  try refine go ⟨?_⟩
  refine WPL.eff OpE.alloc rfl rfl ?_; rintro _ _ ⟨b3, rfl, rfl⟩
  try refine go ⟨?_⟩
  refine WPL.eff (OpE.call lO (fun w hw => s_Bridges _ n vE es (Rd.at rD hw) hg)) rfl rfl ?_
  rintro r _ ⟨T, rfl, rfl⟩
  try refine go ⟨?_⟩
  refine WP.loop (σ := Nat × Value) (fun j => [(1, ptrV b), (2, ptrV b2), (3, ptrV b3), (4, r), (5, .int .i64 j.1)]) (fun j => [Tok.blk b3 [.int .i64 n, j.2], Tok.own j.2 ((es.take j.1).filter fun e => !brB n es e), Tok.own r (brs n es), Tok.blk b2 [.int .i64 0, .slice none 0 0], Tok.blk b [.int .i64 n, vE]]) (fun j => j.1 ≤ es.length) (fun j => es.length - j.1) (0, s) (Nat.zero_le _) sE sT ?_
  rintro ⟨j, u⟩ hj
  dsimp only at hj ⊢
  have hfl := filt_le es j fun e => !brB n es e
  try refine go ⟨?_⟩
  refine WP.condD rfl (fun hc => ?_) (fun hc => ?_)
  · have hj' : j < es.length := by omega
    have hmem := getD_memI (d := eD) hj'
    try refine go ⟨?_⟩
    refine WPL.eff (OpE.call lO (fun w hw => s_Find _ r (es.getD j eD) (brs n es) (Rd.at rD hw) (by omega))) rfl rfl ?_
    rintro q _ ⟨T, ⟨rfl, hr⟩, rfl⟩
    rcases hr with ⟨hx, k, hk, rfl, _⟩ | ⟨hx, rfl⟩
    · have hb : (!brB n es (es.getD j eD)) = false := by rw [(mem_brs' hmem).1 hx]; rfl
      repeat' (first | exact absurd rfl hc | refine go ⟨?_⟩ | (refine isCond ?_; refine WP.condD rfl (fun hc => ?_) (fun hc => ?_)) | (refine isGuard ?_; refine WPL.splitD rfl rfl (fun hc => ?_) (fun hc => ?_)))
      rw [← filt_no (d := eD) (p := fun e => !brB n es e) hj' hb]
      refine PE.again (j + 1, u) ?_ ?_ sE sT
      · dsimp only; omega
      · dsimp only; omega
    · have hb : (!brB n es (es.getD j eD)) = true := by
        cases h : brB n es (es.getD j eD)
        · rfl
        · exact absurd ((mem_brs' hmem).2 h) hx
      try refine go ⟨?_⟩
      refine WP.draw [Tok.blk b [.int .i64 n, vE]] mixed ?_
      refine WPD.take 0 rfl (by first | exact (Op1.fieldAddr rfl) | exact (Op1.fieldAddrE rfl rD lT)) rfl rfl sT kR kR kR xQP ?_
      refine WPD.take 2 rfl (by first | exact (Op1.fieldAddr rfl) | exact (Op1.fieldAddrE rfl rD lT)) rfl rfl sT kR kR kR xQP ?_
      refine WPD.take 4 rfl (Op1.move rfl) rfl rfl sT kR kR kR xQP ?_
      refine WPD.take 3 rfl (by first | exact (Op1.load rfl mM (by rfl)) | exact (Op1.loadI rfl rD lT) | exact (Op1.loadAll rfl mM (by rfl)) | exact (Op1.loadE rfl rD lT (by rfl)) | exact (Op1.loadEAgg rfl rD lT (by rfl))) rfl rfl sT kR kR kR xQP ?_
      refine WPD.take 5 rfl (by first | exact (Op1.indexAddr rfl rfl rD lT) | exact (Op1.indexAddrZ rfl rfl rD lT)) rfl rfl sT kR kR kR xQP ?_
      refine WPD.take 6 rfl (by first | exact (Op1.load rfl mM (by rfl)) | exact (Op1.loadI rfl rD lT) | exact (Op1.loadAll rfl mM (by rfl)) | exact (Op1.loadE rfl rD lT (by rfl)) | exact (Op1.loadEAgg rfl rD lT (by rfl))) rfl rfl sT kR kR kR xQP ?_
      refine WPD.two 1 7 kR ?e1_1 ?e1_7
      case' e1_1 =>
        refine WPO.eff rfl (OpE.ofPure (by first | exact (Op1.load rfl mM (by rfl)) | exact (Op1.loadI rfl rD lT) | exact (Op1.loadAll rfl mM (by rfl)) | exact (Op1.loadE rfl rD lT (by rfl)) | exact (Op1.loadEAgg rfl rD lT (by rfl)))) rfl rfl ?_
        rintro _ _ ⟨rfl, rfl⟩
        refine ⟨sT, ?_⟩
        refine WPD.eff 7 kR rfl (OpE.buildSlice ([es.getD j eD]) pA rfl (by decide)) rfl rfl ?_
        rintro s1 _ rfl
        refine ⟨sT, ?_⟩
        refine WPD.eff 8 kR rfl (OpE.append rfl rfl pM rD lN) rfl rfl ?_
        rintro u1 _ rfl
        refine ⟨sT, ?_⟩
        refine WPD.take 9 rfl (by first | exact (Op1.fieldAddr rfl) | exact (Op1.fieldAddrE rfl rD lT)) rfl rfl sT kR kR kR xQP ?_
        refine WPD.eff0 10 kR rfl (OpE.store rfl rfl pM (by rfl) oN) rfl ?_
        rintro _ _ rfl
        refine ⟨sT, ?_⟩
        refine WPD.done kR ?_
      case' e1_7 =>
        refine WPO.eff rfl (OpE.buildSlice ([es.getD j eD]) pA rfl (by decide)) rfl rfl ?_
        rintro s1 _ rfl
        refine ⟨sT, ?_⟩
        refine WPD.eff 1 kR rfl (OpE.ofPure (by first | exact (Op1.load rfl mM (by rfl)) | exact (Op1.loadI rfl rD lT) | exact (Op1.loadAll rfl mM (by rfl)) | exact (Op1.loadE rfl rD lT (by rfl)) | exact (Op1.loadEAgg rfl rD lT (by rfl)))) rfl rfl ?_
        rintro _ _ ⟨rfl, rfl⟩
        refine ⟨sT, ?_⟩
        refine WPD.eff 8 kR rfl (OpE.append rfl rfl pM rD lN) rfl rfl ?_
        rintro u1 _ rfl
        refine ⟨sT, ?_⟩
        refine WPD.take 9 rfl (by first | exact (Op1.fieldAddr rfl) | exact (Op1.fieldAddrE rfl rD lT)) rfl rfl sT kR kR kR xQP ?_
        refine WPD.eff0 10 kR rfl (OpE.store rfl rfl pM (by rfl) oN) rfl ?_
        rintro _ _ rfl
        refine ⟨sT, ?_⟩
        refine WPD.done kR ?_
      all_goals (
        try refine go ⟨?_⟩
        rw [← filt_yes (d := eD) (p := fun e => !brB n es e) hj' hb]
        refine PE.again (j + 1, u1) ?_ ?_ sE sT
        · dsimp only; omega
        · dsimp only; omega)
  · have hkn : j = es.length := by omega
    subst hkn
    rw [List.take_length]
    try refine go ⟨?_⟩
    refine PE.ret1 (T := []) (T' := [Tok.own u (bare n es)]) rfl rV ?_ sT
    exact ⟨u, rfl, rfl⟩

theorem s_SafeParts (w : World) (n : Int) (vE : Value) (es : List E) (hE : RL w vE es) (hl : es.length ≤ 1099511627776) :
    Tri Try.prog 58 [.agg #[.int .i64 n, vE]] w [] fun r T => (GV n es ∧ T = [Tok.own r (labs n (bare n es))]) ∨ (¬ GV n es ∧ T = [Tok.own r ([] : List Int)]) := by
  refine Tri.intro (hf := Try.func58) (hb := rfl) (hn := Try.ntmps58) (Nat.le_of_ble_eq_true rfl) ?_
  try refine go ⟨?_⟩
  refine WPL.eff (OpE.box rfl) rfl rfl ?_; rintro _ _ ⟨b, rfl, rfl⟩
  try refine go ⟨?_⟩
  refine WPL.eff (OpE.call lO (fun w hw => s_GraphValid _ n vE es (Rd.at rD hw) hl)) rfl rfl ?_
  rintro r _ ⟨T, ⟨rfl, rfl⟩, rfl⟩
  repeat' (first | exact absurd rfl hc | refine go ⟨?_⟩ | (refine isCond ?_; refine WP.condD rfl (fun hc => ?_) (fun hc => ?_)) | (refine isGuard ?_; refine WPL.splitD rfl rfl (fun hc => ?_) (fun hc => ?_)))
  · refine WPL.eff (OpE.buildSlice ([] : List Int) pA rfl (by decide)) rfl rfl ?_; rintro s _ rfl
    try refine go ⟨?_⟩
    refine PE.ret1 (T := []) (T' := [Tok.own s ([] : List Int)]) rfl rV ?_ sT
    exact .inr ⟨hc, rfl⟩
  · have hg : GV n es := Decidable.not_not.1 hc
    refine WPL.eff (OpE.call lO (fun w hw => s_Bare _ n vE es (Rd.at rD hw) hg.ne)) rfl rfl ?_
    rintro r _ ⟨T, ⟨v, rfl, rfl⟩, rfl⟩
    refine WPL.eff (OpE.call lO (fun w hw => s_Labels _ n v (bare n es) (Rd.at rD hw) hg.ne.bare)) rfl rfl ?_
    rintro r _ ⟨T, rfl, rfl⟩
    repeat' (first | exact absurd rfl hc | refine go ⟨?_⟩ | (refine isCond ?_; refine WP.condD rfl (fun hc => ?_) (fun hc => ?_)) | (refine isGuard ?_; refine WPL.splitD rfl rfl (fun hc => ?_) (fun hc => ?_)))
    refine PE.ret1 (T := []) (T' := [Tok.own r (labs n (bare n es))]) rfl rV ?_ sT
    exact .inl ⟨hg, rfl⟩

theorem s_SafeTogether (w : World) (n : Int) (vE : Value) (es : List E) (x y : Int) (hE : RL w vE es) (hl : es.length ≤ 1099511627776) :
    Tri Try.prog 42 [.agg #[.int .i64 n, vE], .int .i64 x, .int .i64 y] w [] fun r T => r = .bool (decide (STg n es x y)) ∧ T = [] := by
  have bad : ¬ STg n es x y → Value.bool false = .bool (decide (STg n es x y)) := fun h => by rw [decide_eq_false h]
  refine Tri.intro (hf := Try.func42) (hb := rfl) (hn := Try.ntmps42) (Nat.le_of_ble_eq_true rfl) ?_
  try refine go ⟨?_⟩
  refine WPL.eff (OpE.box rfl) rfl rfl ?_; rintro _ _ ⟨b, rfl, rfl⟩
  try refine go ⟨?_⟩
  refine WPL.eff (OpE.call lO (fun w hw => s_Node2 _ n vE es x (Rd.at rD hw) hl)) rfl rfl ?_
  rintro r _ ⟨T, ⟨rfl, rfl⟩, rfl⟩
  repeat' (first | exact absurd rfl hc | refine go ⟨?_⟩ | (refine isCond ?_; refine WP.condD rfl (fun hc => ?_) (fun hc => ?_)) | (refine isGuard ?_; refine WPL.splitD rfl rfl (fun hc => ?_) (fun hc => ?_)))
  · have hx : GN n es x := hc
    refine WPL.eff (OpE.call lO (fun w hw => s_Node2 _ n vE es y (Rd.at rD hw) hl)) rfl rfl ?_
    rintro r _ ⟨T, ⟨rfl, rfl⟩, rfl⟩
    repeat' (first | exact absurd rfl hc | refine go ⟨?_⟩ | (refine isCond ?_; refine WP.condD rfl (fun hc => ?_) (fun hc => ?_)) | (refine isGuard ?_; refine WPL.splitD rfl rfl (fun hc => ?_) (fun hc => ?_)))
    · have hy : GN n es y := hc
      refine WPL.eff (OpE.call lO (fun w hw => s_Bare _ n vE es (Rd.at rD hw) hx.1.ne)) rfl rfl ?_
      rintro r _ ⟨T, ⟨v, rfl, rfl⟩, rfl⟩
      try refine go ⟨?_⟩
      refine WPL.eff (OpE.call lO (fun w hw => s_Joined _ n v (bare n es) x y (Rd.at rD hw) hx.1.ne.bare hx.2 hy.2)) rfl rfl ?_
      rintro r _ ⟨T, ⟨rfl, rfl⟩, rfl⟩
      repeat' (first | exact absurd rfl hc | refine go ⟨?_⟩ | (refine isCond ?_; refine WP.condD rfl (fun hc => ?_) (fun hc => ?_)) | (refine isGuard ?_; refine WPL.splitD rfl rfl (fun hc => ?_) (fun hc => ?_)))
      refine PE.ret1 (T := []) (T' := []) rfl rV ?_ sT
      refine ⟨?_, rfl⟩
      congr 1; rw [decide_eq_decide]
      exact ⟨fun h => ⟨hx.1, hx.2, hy.2, h⟩, fun h => h.2.2.2⟩
    · refine PE.ret1 (T := []) (T' := []) rfl rV ?_ sT
      exact ⟨bad fun h => hc ⟨h.1, h.2.2.1⟩, rfl⟩
  · refine PE.ret1 (T := []) (T' := []) rfl rV ?_ sT
    exact ⟨bad fun h => hc ⟨h.1, h.2.1⟩, rfl⟩

/-- A slice of new memory (empty), and false. -/
def noO {α : Type} [Enc α] (α' : List α) (r : Value) (T : List Tok) : Prop := ∃ v, r = .tuple #[v, .bool false] ∧ T = [Tok.own v (α'.take 0)]

theorem s_BridgesBetween (w : World) (n : Int) (vE : Value) (es : List E) (x y : Int) (hE : RL w vE es) (hl : es.length ≤ 1099511627776) :
    Tri Try.prog 44 [.agg #[.int .i64 n, vE], .int .i64 x, .int .i64 y] w [] fun r T => (CN n es x y ∧ yesS (btw n es x y) r T) ∨ (¬ CN n es x y ∧ ∃ v, r = .tuple #[v, .bool false] ∧ T = [Tok.own v ([] : List E)]) := by
  refine Tri.intro (hf := Try.func44) (hb := rfl) (hn := Try.ntmps44) (Nat.le_of_ble_eq_true rfl) ?_
  try refine go ⟨?_⟩
  refine WPL.eff (OpE.box rfl) rfl rfl ?_; rintro _ _ ⟨b, rfl, rfl⟩
  try refine go ⟨?_⟩
  refine WPL.eff (OpE.buildSlice ([] : List E) pA rfl (by decide)) rfl rfl ?_; rintro s _ rfl
  try refine go ⟨?_⟩
  refine WPL.eff (OpE.call lO (fun w hw => s_Connected _ n vE es x y (Rd.at rD hw) hl)) rfl rfl ?_
  rintro r _ ⟨T, ⟨rfl, rfl⟩, rfl⟩
  repeat' (first | exact absurd rfl hc | refine go ⟨?_⟩ | (refine isCond ?_; refine WP.condD rfl (fun hc => ?_) (fun hc => ?_)) | (refine isGuard ?_; refine WPL.splitD rfl rfl (fun hc => ?_) (fun hc => ?_)))
  · refine PE.ret2 (T := []) (T' := [Tok.own s ([] : List E)]) rfl rV ?_ sT
    exact .inr ⟨hc, s, rfl, rfl⟩
  have hg : CN n es x y := Decidable.not_not.1 hc
  have hle := hg.1.ne.le
  refine WP.loop (σ := Nat × Value) (fun k => [(1, .int .i64 x), (2, .int .i64 y), (3, ptrV b), (8, k.2), (9, .int .i64 k.1)]) (fun k => [Tok.own k.2 ((es.take k.1).filter fun e => !decide (cn n (rem es e) x y)), Tok.blk b [.int .i64 n, vE]]) (fun k => k.1 ≤ es.length) (fun k => es.length - k.1) (0, s) (Nat.zero_le _) sE sT ?_
  rintro ⟨k, v⟩ hk
  dsimp only at hk ⊢
  have hfl := filt_le es k fun e => !decide (cn n (rem es e) x y)
  try refine go ⟨?_⟩
  refine WP.condD rfl (fun hc => ?_) (fun hc => ?_)
  · have hk' : k < es.length := by omega
    try refine go ⟨?_⟩
    refine WP.draw [Tok.blk b [.int .i64 n, vE]] mixed ?_
    refine WPD.take 0 rfl (by first | exact (Op1.fieldAddr rfl) | exact (Op1.fieldAddrE rfl rD lT)) rfl rfl sT kR kR kR xQP ?_
    refine WPD.take 2 rfl (by first | exact (Op1.fieldAddr rfl) | exact (Op1.fieldAddrE rfl rD lT)) rfl rfl sT kR kR kR xQP ?_
    refine WPD.take 4 rfl (by first | exact (Op1.fieldAddr rfl) | exact (Op1.fieldAddrE rfl rD lT)) rfl rfl sT kR kR kR xQP ?_
    refine WPD.take 6 rfl (Op1.move rfl) rfl rfl sT kR kR kR xQP ?_
    refine WPD.take 11 rfl (Op1.move rfl) rfl rfl sT kR kR kR xQP ?_
    refine WPD.take 12 rfl (Op1.move rfl) rfl rfl sT kR kR kR xQP ?_
    refine WPD.take 1 rfl (by first | exact (Op1.load rfl mM (by rfl)) | exact (Op1.loadI rfl rD lT) | exact (Op1.loadAll rfl mM (by rfl)) | exact (Op1.loadE rfl rD lT (by rfl)) | exact (Op1.loadEAgg rfl rD lT (by rfl))) rfl rfl sT kR kR kR xQP ?_
    refine WPD.take 3 rfl (by first | exact (Op1.load rfl mM (by rfl)) | exact (Op1.loadI rfl rD lT) | exact (Op1.loadAll rfl mM (by rfl)) | exact (Op1.loadE rfl rD lT (by rfl)) | exact (Op1.loadEAgg rfl rD lT (by rfl))) rfl rfl sT kR kR kR xQP ?_
    refine WPD.take 5 rfl (by first | exact (Op1.load rfl mM (by rfl)) | exact (Op1.loadI rfl rD lT) | exact (Op1.loadAll rfl mM (by rfl)) | exact (Op1.loadE rfl rD lT (by rfl)) | exact (Op1.loadEAgg rfl rD lT (by rfl))) rfl rfl sT kR kR kR xQP ?_
    refine WPD.take 7 rfl (by first | exact (Op1.indexAddr rfl rfl rD lT) | exact (Op1.indexAddrZ rfl rfl rD lT)) rfl rfl sT kR kR kR xQP ?_
    refine WPD.take 8 rfl (by first | exact (Op1.load rfl mM (by rfl)) | exact (Op1.loadI rfl rD lT) | exact (Op1.loadAll rfl mM (by rfl)) | exact (Op1.loadE rfl rD lT (by rfl)) | exact (Op1.loadEAgg rfl rD lT (by rfl))) rfl rfl sT kR kR kR xQP ?_
    refine WPD.eff 9 kR rfl (OpE.call lO (fun w hw => s_Without _ vE (es.getD k eD) es (Rd.at rD hw) (by omega))) rfl rfl ?_
    rintro q _ ⟨T, rfl, rfl⟩
    refine ⟨sT, ?_⟩
    refine WPD.eff 10 kR rfl (OpE.ofPure (Op1.build xBP (by rfl))) rfl rfl ?_
    rintro _ _ ⟨rfl, rfl⟩
    refine ⟨sT, ?_⟩
    refine WPD.eff 13 kR rfl (OpE.call lO (fun w hw => s_Joined _ n q (rem es (es.getD k eD)) x y (Rd.at rD hw) (hg.1.ne.rem (es.getD k eD)) hg.2.1 hg.2.2.1)) rfl rfl ?_
    rintro r _ ⟨T, ⟨rfl, rfl⟩, rfl⟩
    refine ⟨sT, ?_⟩
    refine WPD.take 14 rfl (by first | exact (Op1.notD rfl) | exact (Op1.not rfl)) rfl rfl sT kR kR kR xQP ?_
    refine WPD.done kR ?_
    repeat' (first | exact absurd rfl hc | refine go ⟨?_⟩ | (refine isCond ?_; refine WP.condD rfl (fun hc => ?_) (fun hc => ?_)) | (refine isGuard ?_; refine WPL.splitD rfl rfl (fun hc => ?_) (fun hc => ?_)))
    · have hb : (!decide (cn n (rem es (es.getD k eD)) x y)) = true := by rw [decide_eq_false hc]; rfl
      refine WPL.eff (OpE.buildSlice [es.getD k eD] pA rfl (by decide)) rfl rfl ?_; rintro s1 _ rfl
      try refine go ⟨?_⟩
      refine WPL.eff (OpE.append rfl rfl pM rD lN) rfl rfl ?_; rintro v1 _ rfl
      try refine go ⟨?_⟩
      rw [← filt_yes (d := eD) (p := fun e => !decide (cn n (rem es e) x y)) hk' hb]
      refine PE.again (k + 1, v1) ?_ ?_ sE sT
      · dsimp only; omega
      · dsimp only; omega
    · have hb : (!decide (cn n (rem es (es.getD k eD)) x y)) = false := by rw [decide_eq_true (Decidable.not_not.1 hc)]; rfl
      rw [← filt_no (d := eD) (p := fun e => !decide (cn n (rem es e) x y)) hk' hb]
      refine PE.again (k + 1, v) ?_ ?_ sE sT
      · dsimp only; omega
      · dsimp only; omega
  · have hkn : k = es.length := by omega
    subst hkn
    rw [List.take_length]
    try refine go ⟨?_⟩
    refine PE.ret2 (T := []) (T' := [Tok.own v (btw n es x y)]) rfl rV ?_ sT
    exact .inl ⟨hg, v, rfl, rfl⟩

theorem s_CutNodesBetween (w : World) (n : Int) (vE : Value) (es : List E) (x y : Int) (hE : RL w vE es) (hl : es.length ≤ 1099511627776) :
    Tri Try.prog 49 [.agg #[.int .i64 n, vE], .int .i64 x, .int .i64 y] w [] fun r T => (CN n es x y ∧ yesS (cutb n es x y) r T) ∨ (¬ CN n es x y ∧ ∃ v, r = .tuple #[v, .bool false] ∧ T = [Tok.own v ([] : List Int)]) := by
  refine Tri.intro (hf := Try.func49) (hb := rfl) (hn := Try.ntmps49) (Nat.le_of_ble_eq_true rfl) ?_
  try refine go ⟨?_⟩
  refine WPL.eff (OpE.box rfl) rfl rfl ?_; rintro _ _ ⟨b, rfl, rfl⟩
  try refine go ⟨?_⟩
  refine WPL.eff (OpE.buildSlice ([] : List Int) pA rfl (by decide)) rfl rfl ?_; rintro s _ rfl
  try refine go ⟨?_⟩
  refine WPL.eff (OpE.call lO (fun w hw => s_Connected _ n vE es x y (Rd.at rD hw) hl)) rfl rfl ?_
  rintro r _ ⟨T, ⟨rfl, rfl⟩, rfl⟩
  repeat' (first | exact absurd rfl hc | refine go ⟨?_⟩ | (refine isCond ?_; refine WP.condD rfl (fun hc => ?_) (fun hc => ?_)) | (refine isGuard ?_; refine WPL.splitD rfl rfl (fun hc => ?_) (fun hc => ?_)))
  · refine PE.ret2 (T := []) (T' := [Tok.own s ([] : List Int)]) rfl rV ?_ sT
    exact .inr ⟨hc, s, rfl, rfl⟩
  have hg : CN n es x y := Decidable.not_not.1 hc
  have hle := hg.1.ne.le
  have hn1 := hg.1.ne.n1
  have hn2 := hg.1.ne.n2
  refine WP.loop (σ := Nat × Value) (fun k => [(1, .int .i64 x), (2, .int .i64 y), (3, ptrV b), (8, k.2), (9, .int .i64 k.1)]) (fun k => [Tok.own k.2 ((iota k.1).filter fun k => decide (k ≠ x ∧ k ≠ y ∧ ¬ cn n (alone es k) x y)), Tok.blk b [.int .i64 n, vE]]) (fun k => k.1 ≤ n.toNat) (fun k => n.toNat - k.1) (0, s) (Nat.zero_le _) sE sT ?_
  rintro ⟨k, v⟩ hk
  dsimp only at hk ⊢
  have hil : ((iota k).filter fun k => decide (k ≠ x ∧ k ≠ y ∧ ¬ cn n (alone es k) x y)).length ≤ k := by have := List.length_filter_le (fun k => decide (k ≠ x ∧ k ≠ y ∧ ¬ cn n (alone es k) x y)) (iota k); rw [iota_length] at this; exact this
  have fy : ((k : Int) ≠ x ∧ (k : Int) ≠ y ∧ ¬ cn n (alone es k) x y) → (iota (k + 1)).filter (fun k => decide (k ≠ x ∧ k ≠ y ∧ ¬ cn n (alone es k) x y)) = (iota k).filter (fun k => decide (k ≠ x ∧ k ≠ y ∧ ¬ cn n (alone es k) x y)) ++ [(k : Int)] := fun h => by
    rw [iota_succ, List.filter_append]
    have : decide ((k : Int) ≠ x ∧ (k : Int) ≠ y ∧ ¬ cn n (alone es k) x y) = true := decide_eq_true h
    simp only [List.filter_cons, this, if_true, List.filter_nil]
  have fn : ¬ ((k : Int) ≠ x ∧ (k : Int) ≠ y ∧ ¬ cn n (alone es k) x y) → (iota (k + 1)).filter (fun k => decide (k ≠ x ∧ k ≠ y ∧ ¬ cn n (alone es k) x y)) = (iota k).filter (fun k => decide (k ≠ x ∧ k ≠ y ∧ ¬ cn n (alone es k) x y)) := fun h => by
    rw [iota_succ, List.filter_append]
    have : decide ((k : Int) ≠ x ∧ (k : Int) ≠ y ∧ ¬ cn n (alone es k) x y) = false := decide_eq_false h
    simp only [List.filter_cons, this, Bool.false_eq_true, if_false, List.filter_nil, List.append_nil]
  repeat' (first | exact absurd rfl hc | refine go ⟨?_⟩ | (refine isCond ?_; refine WP.condD rfl (fun hc => ?_) (fun hc => ?_)) | (refine isGuard ?_; refine WPL.splitD rfl rfl (fun hc => ?_) (fun hc => ?_)))
  · have h1 : (k : Int) ≠ x := ‹_›
    have h2 : (k : Int) ≠ y := hc
    refine WPL.eff (OpE.call lO (fun w hw => s_Alone _ n vE es k (Rd.at rD hw) (by omega))) rfl rfl ?_
    rintro r _ ⟨T, ⟨q, rfl, rfl⟩, rfl⟩
    try refine go ⟨?_⟩
    refine WPL.eff (OpE.call lO (fun w hw => s_Joined _ n q (alone es k) x y (Rd.at rD hw) (hg.1.ne.alone k) hg.2.1 hg.2.2.1)) rfl rfl ?_
    rintro r _ ⟨T, ⟨rfl, rfl⟩, rfl⟩
    repeat' (first | exact absurd rfl hc | refine go ⟨?_⟩ | (refine isCond ?_; refine WP.condD rfl (fun hc => ?_) (fun hc => ?_)) | (refine isGuard ?_; refine WPL.splitD rfl rfl (fun hc => ?_) (fun hc => ?_)))
    · refine WPL.eff (OpE.buildSlice [(k : Int)] pA rfl (by decide)) rfl rfl ?_; rintro s1 _ rfl
      try refine go ⟨?_⟩
      refine WPL.eff (OpE.append rfl rfl pM rD lN) rfl rfl ?_; rintro v1 _ rfl
      try refine go ⟨?_⟩
      rw [← fy ⟨h1, h2, hc⟩]
      refine PE.again (k + 1, v1) ?_ ?_ sE sT
      · dsimp only; omega
      · dsimp only; omega
    · rw [← fn fun h => hc h.2.2]
      refine PE.again (k + 1, v) ?_ ?_ sE sT
      · dsimp only; omega
      · dsimp only; omega
  · rw [← fn fun h => hc h.2.1]
    refine PE.again (k + 1, v) ?_ ?_ sE sT
    · dsimp only; omega
    · dsimp only; omega
  · rw [← fn fun h => hc h.1]
    refine PE.again (k + 1, v) ?_ ?_ sE sT
    · dsimp only; omega
    · dsimp only; omega
  · have hkn : k = n.toNat := by omega
    subst hkn
    try refine go ⟨?_⟩
    refine PE.ret2 (T := []) (T' := [Tok.own v (cutb n es x y)]) rfl rV ?_ sT
    exact .inl ⟨hg, v, rfl, rfl⟩
end Go.Proofs.Ytocifflamgnhaaa
