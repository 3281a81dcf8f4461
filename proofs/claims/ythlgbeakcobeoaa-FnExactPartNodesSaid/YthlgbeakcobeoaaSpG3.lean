/- Graphs: the walks of the second program's bridges and safe parts. Conditions: those of each contract. -/
import Derived.Test.YthlgbeakcobeoaaSpG2
namespace Go.Proofs.Ythlgbeakcobeoaa
open Go
set_option linter.unusedVariables false set_option linter.unusedSimpArgs false attribute [local irreducible] Tok.own Tok.blk RL Rd eptr WP WPL PE WPD WPO Op1 OpE Tri Again Mid Exit.then Exit.inBlock bodyPost RP Code.wp wpList isOwn OneM One
set_option maxHeartbeats 8000000

/-- A slice of new memory (empty), and false. -/
def noO {α : Type} [Enc α] (α' : List α) (r : Value) (T : List Tok) : Prop := ∃ v, r = .tuple #[v, .bool false] ∧ T = [Tok.own v (α'.take 0)]

theorem s_BridgesBetween (w : World) (n : Int) (vE : Value) (es : List E) (x y : Int) (hE : RL w vE es) (hl : es.length ≤ 1099511627776) :
    Tri Try.prog 31 [.agg #[.int .i64 n, vE], .int .i64 x, .int .i64 y] w [] fun r T => (CN n es x y ∧ yesS (btw n es x y) r T) ∨ (¬ CN n es x y ∧ ∃ v, r = .tuple #[v, .bool false] ∧ T = [Tok.own v ([] : List E)]) := by
  refine Tri.intro (hf := Try.func31) (hb := rfl) (hn := Try.ntmps31) (Nat.le_of_ble_eq_true rfl) ?_
  try refine go ⟨?_⟩
  refine WPL.eff (OpE.box rfl) rfl rfl ?_; rintro _ _ ⟨b, rfl, rfl⟩
  try refine go ⟨?_⟩
  refine WPL.eff (OpE.buildSlice ([] : List E) pA rfl (by decide)) rfl rfl ?_; rintro s _ rfl
  try refine go ⟨?_⟩
  refine WPL.eff (OpE.call lO (fun w hw => s_Connected _ n vE es x y (Rd.at rD hw) hl)) rfl rfl ?_
  rintro r _ ⟨T, ⟨rfl, rfl⟩, rfl⟩
  repeat' (first | exact absurd rfl hc | refine go ⟨?_⟩ | (refine isCond ?_; refine WP.condD rfl (fun hc => ?_) (fun hc => ?_)) | (refine isGuard ?_; refine WPL.splitD rfl rfl (fun hc => ?_) (fun hc => ?_)))
  · refine PE.ret2 (T := []) (T' := [Tok.own s ([] : List E)]) rfl rV ?_ sT
    exact .inr ⟨hc, s, rfl, rfl⟩
  have hg : CN n es x y := Decidable.not_not.1 hc
  have hle := hg.1.ne.le
  refine WP.loop (σ := Nat × Value) (fun k => [(1, .int .i64 x), (2, .int .i64 y), (3, ptrV b), (8, k.2), (9, .int .i64 k.1)]) (fun k => [Tok.own k.2 ((es.take k.1).filter fun e => !decide (cn n (rem es e) x y)), Tok.blk b [.int .i64 n, vE]]) (fun k => k.1 ≤ es.length) (fun k => es.length - k.1) (0, s) (Nat.zero_le _) sE sT ?_
  rintro ⟨k, v⟩ hk
  dsimp only at hk ⊢
  have hfl := filt_le es k fun e => !decide (cn n (rem es e) x y)
  try refine go ⟨?_⟩
  refine WP.condD rfl (fun hc => ?_) (fun hc => ?_)
  · have hk' : k < es.length := by omega
    try refine go ⟨?_⟩
    refine WP.draw [Tok.blk b [.int .i64 n, vE]] mixed ?_
    refine WPD.take 0 rfl (by first | exact (Op1.fieldAddr rfl) | exact (Op1.fieldAddrE rfl rD lT)) rfl rfl sT kR kR kR xQP ?_
    refine WPD.take 2 rfl (by first | exact (Op1.fieldAddr rfl) | exact (Op1.fieldAddrE rfl rD lT)) rfl rfl sT kR kR kR xQP ?_
    refine WPD.take 4 rfl (by first | exact (Op1.fieldAddr rfl) | exact (Op1.fieldAddrE rfl rD lT)) rfl rfl sT kR kR kR xQP ?_
    refine WPD.take 6 rfl (Op1.move rfl) rfl rfl sT kR kR kR xQP ?_
    refine WPD.take 11 rfl (Op1.move rfl) rfl rfl sT kR kR kR xQP ?_
    refine WPD.take 12 rfl (Op1.move rfl) rfl rfl sT kR kR kR xQP ?_
    refine WPD.take 1 rfl (by first | exact (Op1.load rfl mM (by rfl)) | exact (Op1.loadI rfl rD lT) | exact (Op1.loadAll rfl mM (by rfl)) | exact (Op1.loadE rfl rD lT (by rfl)) | exact (Op1.loadEAgg rfl rD lT (by rfl))) rfl rfl sT kR kR kR xQP ?_
    refine WPD.take 3 rfl (by first | exact (Op1.load rfl mM (by rfl)) | exact (Op1.loadI rfl rD lT) | exact (Op1.loadAll rfl mM (by rfl)) | exact (Op1.loadE rfl rD lT (by rfl)) | exact (Op1.loadEAgg rfl rD lT (by rfl))) rfl rfl sT kR kR kR xQP ?_
    refine WPD.take 5 rfl (by first | exact (Op1.load rfl mM (by rfl)) | exact (Op1.loadI rfl rD lT) | exact (Op1.loadAll rfl mM (by rfl)) | exact (Op1.loadE rfl rD lT (by rfl)) | exact (Op1.loadEAgg rfl rD lT (by rfl))) rfl rfl sT kR kR kR xQP ?_
    refine WPD.take 7 rfl (by first | exact (Op1.indexAddr rfl rfl rD lT) | exact (Op1.indexAddrZ rfl rfl rD lT)) rfl rfl sT kR kR kR xQP ?_
    refine WPD.take 8 rfl (by first | exact (Op1.load rfl mM (by rfl)) | exact (Op1.loadI rfl rD lT) | exact (Op1.loadAll rfl mM (by rfl)) | exact (Op1.loadE rfl rD lT (by rfl)) | exact (Op1.loadEAgg rfl rD lT (by rfl))) rfl rfl sT kR kR kR xQP ?_
    refine WPD.eff 9 kR rfl (OpE.call lO (fun w hw => s_Without _ vE (es.getD k eD) es (Rd.at rD hw) (by omega))) rfl rfl ?_
    rintro q _ ⟨T, rfl, rfl⟩
    refine ⟨sT, ?_⟩
    refine WPD.eff 10 kR rfl (OpE.ofPure (Op1.build xBP (by rfl))) rfl rfl ?_
    rintro _ _ ⟨rfl, rfl⟩
    refine ⟨sT, ?_⟩
    refine WPD.eff 13 kR rfl (OpE.call lO (fun w hw => s_Joined _ n q (rem es (es.getD k eD)) x y (Rd.at rD hw) (hg.1.ne.rem (es.getD k eD)) hg.2.1 hg.2.2.1)) rfl rfl ?_
    rintro r _ ⟨T, ⟨rfl, rfl⟩, rfl⟩
    refine ⟨sT, ?_⟩
    refine WPD.take 14 rfl (by first | exact (Op1.notD rfl) | exact (Op1.not rfl)) rfl rfl sT kR kR kR xQP ?_
    refine WPD.done kR ?_
    repeat' (first | exact absurd rfl hc | refine go ⟨?_⟩ | (refine isCond ?_; refine WP.condD rfl (fun hc => ?_) (fun hc => ?_)) | (refine isGuard ?_; refine WPL.splitD rfl rfl (fun hc => ?_) (fun hc => ?_)))
    · have hb : (!decide (cn n (rem es (es.getD k eD)) x y)) = true := by rw [decide_eq_false hc]; rfl
      refine WPL.eff (OpE.buildSlice [es.getD k eD] pA rfl (by decide)) rfl rfl ?_; rintro s1 _ rfl
      try refine go ⟨?_⟩
      refine WPL.eff (OpE.append rfl rfl pM rD lN) rfl rfl ?_; rintro v1 _ rfl
      try refine go ⟨?_⟩
      rw [← filt_yes (d := eD) (p := fun e => !decide (cn n (rem es e) x y)) hk' hb]
      refine PE.again (k + 1, v1) ?_ ?_ sE sT
      · dsimp only; omega
      · dsimp only; omega
    · have hb : (!decide (cn n (rem es (es.getD k eD)) x y)) = false := by rw [decide_eq_true (Decidable.not_not.1 hc)]; rfl
      rw [← filt_no (d := eD) (p := fun e => !decide (cn n (rem es e) x y)) hk' hb]
      refine PE.again (k + 1, v) ?_ ?_ sE sT
      · dsimp only; omega
      · dsimp only; omega
  · have hkn : k = es.length := by omega
    subst hkn
    rw [List.take_length]
    try refine go ⟨?_⟩
    refine PE.ret2 (T := []) (T' := [Tok.own v (btw n es x y)]) rfl rV ?_ sT
    exact .inl ⟨hg, v, rfl, rfl⟩

theorem s_CutNodesBetween (w : World) (n : Int) (vE : Value) (es : List E) (x y : Int) (hE : RL w vE es) (hl : es.length ≤ 1099511627776) :
    Tri Try.prog 29 [.agg #[.int .i64 n, vE], .int .i64 x, .int .i64 y] w [] fun r T => (CN n es x y ∧ yesS (cutb n es x y) r T) ∨ (¬ CN n es x y ∧ ∃ v, r = .tuple #[v, .bool false] ∧ T = [Tok.own v ([] : List Int)]) := by
  refine Tri.intro (hf := Try.func29) (hb := rfl) (hn := Try.ntmps29) (Nat.le_of_ble_eq_true rfl) ?_
  try refine go ⟨?_⟩
  refine WPL.eff (OpE.box rfl) rfl rfl ?_; rintro _ _ ⟨b, rfl, rfl⟩
  try refine go ⟨?_⟩
  refine WPL.eff (OpE.buildSlice ([] : List Int) pA rfl (by decide)) rfl rfl ?_; rintro s _ rfl
  try refine go ⟨?_⟩
  refine WPL.eff (OpE.call lO (fun w hw => s_Connected _ n vE es x y (Rd.at rD hw) hl)) rfl rfl ?_
  rintro r _ ⟨T, ⟨rfl, rfl⟩, rfl⟩
  repeat' (first | exact absurd rfl hc | refine go ⟨?_⟩ | (refine isCond ?_; refine WP.condD rfl (fun hc => ?_) (fun hc => ?_)) | (refine isGuard ?_; refine WPL.splitD rfl rfl (fun hc => ?_) (fun hc => ?_)))
  · refine PE.ret2 (T := []) (T' := [Tok.own s ([] : List Int)]) rfl rV ?_ sT
    exact .inr ⟨hc, s, rfl, rfl⟩
  have hg : CN n es x y := Decidable.not_not.1 hc
  have hle := hg.1.ne.le
  have hn1 := hg.1.ne.n1
  have hn2 := hg.1.ne.n2
  refine WP.loop (σ := Nat × Value) (fun k => [(1, .int .i64 x), (2, .int .i64 y), (3, ptrV b), (8, k.2), (9, .int .i64 k.1)]) (fun k => [Tok.own k.2 ((iota k.1).filter fun k => decide (k ≠ x ∧ k ≠ y ∧ ¬ cn n (alone es k) x y)), Tok.blk b [.int .i64 n, vE]]) (fun k => k.1 ≤ n.toNat) (fun k => n.toNat - k.1) (0, s) (Nat.zero_le _) sE sT ?_
  rintro ⟨k, v⟩ hk
  dsimp only at hk ⊢
  have hil : ((iota k).filter fun k => decide (k ≠ x ∧ k ≠ y ∧ ¬ cn n (alone es k) x y)).length ≤ k := by have := List.length_filter_le (fun k => decide (k ≠ x ∧ k ≠ y ∧ ¬ cn n (alone es k) x y)) (iota k); rw [iota_length] at this; exact this
  have fy : ((k : Int) ≠ x ∧ (k : Int) ≠ y ∧ ¬ cn n (alone es k) x y) → (iota (k + 1)).filter (fun k => decide (k ≠ x ∧ k ≠ y ∧ ¬ cn n (alone es k) x y)) = (iota k).filter (fun k => decide (k ≠ x ∧ k ≠ y ∧ ¬ cn n (alone es k) x y)) ++ [(k : Int)] := fun h => by
    rw [iota_succ, List.filter_append]
    have : decide ((k : Int) ≠ x ∧ (k : Int) ≠ y ∧ ¬ cn n (alone es k) x y) = true := decide_eq_true h
    simp only [List.filter_cons, this, if_true, List.filter_nil]
  have fn : ¬ ((k : Int) ≠ x ∧ (k : Int) ≠ y ∧ ¬ cn n (alone es k) x y) → (iota (k + 1)).filter (fun k => decide (k ≠ x ∧ k ≠ y ∧ ¬ cn n (alone es k) x y)) = (iota k).filter (fun k => decide (k ≠ x ∧ k ≠ y ∧ ¬ cn n (alone es k) x y)) := fun h => by
    rw [iota_succ, List.filter_append]
    have : decide ((k : Int) ≠ x ∧ (k : Int) ≠ y ∧ ¬ cn n (alone es k) x y) = false := decide_eq_false h
    simp only [List.filter_cons, this, Bool.false_eq_true, if_false, List.filter_nil, List.append_nil]
  repeat' (first | exact absurd rfl hc | refine go ⟨?_⟩ | (refine isCond ?_; refine WP.condD rfl (fun hc => ?_) (fun hc => ?_)) | (refine isGuard ?_; refine WPL.splitD rfl rfl (fun hc => ?_) (fun hc => ?_)))
  · have h1 : (k : Int) ≠ x := ‹_›
    have h2 : (k : Int) ≠ y := hc
    refine WPL.eff (OpE.call lO (fun w hw => s_Alone _ n vE es k (Rd.at rD hw) (by omega))) rfl rfl ?_
    rintro r _ ⟨T, ⟨q, rfl, rfl⟩, rfl⟩
    try refine go ⟨?_⟩
    refine WPL.eff (OpE.call lO (fun w hw => s_Joined _ n q (alone es k) x y (Rd.at rD hw) (hg.1.ne.alone k) hg.2.1 hg.2.2.1)) rfl rfl ?_
    rintro r _ ⟨T, ⟨rfl, rfl⟩, rfl⟩
    repeat' (first | exact absurd rfl hc | refine go ⟨?_⟩ | (refine isCond ?_; refine WP.condD rfl (fun hc => ?_) (fun hc => ?_)) | (refine isGuard ?_; refine WPL.splitD rfl rfl (fun hc => ?_) (fun hc => ?_)))
    · refine WPL.eff (OpE.buildSlice [(k : Int)] pA rfl (by decide)) rfl rfl ?_; rintro s1 _ rfl
      try refine go ⟨?_⟩
      refine WPL.eff (OpE.append rfl rfl pM rD lN) rfl rfl ?_; rintro v1 _ rfl
      try refine go ⟨?_⟩
      rw [← fy ⟨h1, h2, hc⟩]
      refine PE.again (k + 1, v1) ?_ ?_ sE sT
      · dsimp only; omega
      · dsimp only; omega
    · rw [← fn fun h => hc h.2.2]
      refine PE.again (k + 1, v) ?_ ?_ sE sT
      · dsimp only; omega
      · dsimp only; omega
  · rw [← fn fun h => hc h.2.1]
    refine PE.again (k + 1, v) ?_ ?_ sE sT
    · dsimp only; omega
    · dsimp only; omega
  · rw [← fn fun h => hc h.1]
    refine PE.again (k + 1, v) ?_ ?_ sE sT
    · dsimp only; omega
    · dsimp only; omega
  · have hkn : k = n.toNat := by omega
    subst hkn
    try refine go ⟨?_⟩
    refine PE.ret2 (T := []) (T' := [Tok.own v (cutb n es x y)]) rfl rV ?_ sT
    exact .inl ⟨hg, v, rfl, rfl⟩
end Go.Proofs.Ythlgbeakcobeoaa
