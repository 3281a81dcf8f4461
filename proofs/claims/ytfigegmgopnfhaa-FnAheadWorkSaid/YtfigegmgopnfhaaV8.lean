/- Texts put together: SpO0, SpO1, SpO2. Conditions: those of each theorem. -/
import Derived.Test.YtfigegmgopnfhaaV2
import Derived.Test.YtfigegmgopnfhaaV3
import Derived.Test.YtfigegmgopnfhaaV7
set_option linter.unusedVariables false
set_option linter.unusedSimpArgs false
/- Operations: the walk of the second program's CutEdge, l8Graph, OpsValid, GraphAt. Conditions: those of each contract. -/
namespace Go.Proofs.Ytfigegmgopnfhaa
open Go
theorem putOk_no {n : Int} {es : List E} {e : E} {r : Value} {T : List Tok} (h : (putOk n es e ∧ yesG n (insE es e) r T) ∨ (¬ putOk n es e ∧ noG r T)) (hp : putOk n es e) : ∃ v, r = .tuple #[.agg #[.int .i64 n, v], .bool true] ∧ T = [Tok.own v (insE es e)] := (h.resolve_right fun q => q.1 hp).2
theorem putOk_bad {n : Int} {es : List E} {e : E} {r : Value} {T : List Tok} (h : (putOk n es e ∧ yesG n (insE es e) r T) ∨ (¬ putOk n es e ∧ noG r T)) (hp : ¬ putOk n es e) : r = .tuple #[nilG, .bool false] ∧ T = [] := (h.resolve_left fun q => hp q.1).2
theorem cutOk_no {n : Int} {es : List E} {e : E} {r : Value} {T : List Tok} (h : (HE n es e ∧ yesG n (rem es e) r T) ∨ (¬ HE n es e ∧ noG r T)) (hp : HE n es e) : ∃ v, r = .tuple #[.agg #[.int .i64 n, v], .bool true] ∧ T = [Tok.own v (rem es e)] := (h.resolve_right fun q => q.1 hp).2
theorem cutOk_bad {n : Int} {es : List E} {e : E} {r : Value} {T : List Tok} (h : (HE n es e ∧ yesG n (rem es e) r T) ∨ (¬ HE n es e ∧ noG r T)) (hp : ¬ HE n es e) : r = .tuple #[nilG, .bool false] ∧ T = [] := (h.resolve_left fun q => hp q.1).2
theorem OV_take {n : Int} {ops : List Oper1} (h : OV n ops) (k : Nat) : OV n (ops.take k) := h.take k
theorem OV_take_le {n : Int} {ops : List Oper1} {i k : Nat} (h : OV n (ops.take k)) (hi : i ≤ k) : OV n (ops.take i) := by
  have := h.take i
  rwa [List.take_take, Nat.min_eq_left hi] at this
theorem ask_iff {n : Int} {es : List E} (hg : GV n es) {a b : Int} : (a < b ∧ GN n es a ∧ GN n es b) ↔ (0 ≤ a ∧ a < b ∧ b < n) := by
  unfold GN Nd
  exact ⟨fun h => ⟨h.2.1.2.1, h.1, h.2.2.2.2⟩, fun h => ⟨h.2.1, ⟨hg, h.1, by omega⟩, hg, by omega, h.2.2⟩⟩
set_option linter.unusedVariables false set_option linter.unusedSimpArgs false attribute [local irreducible] Tok.own Tok.blk RL Rd eptr WP WPL PE WPD WPO Op1 OpE Tri Again Mid Exit.then Exit.inBlock bodyPost RP Code.wp wpList isOwn OneM One
attribute [local irreducible] GV GN OV opOk gAt ans cn putOk HE
set_option maxHeartbeats 8000000

theorem s_CutEdge (w : World) (n : Int) (vE : Value) (es : List E) (e : E) (hE : RL w vE es) (hl : es.length ≤ 1099511627776) :
    Tri Try.prog 130 [.agg #[.int .i64 n, vE], ep e] w [] fun r T => (HE n es e ∧ yesG n (rem es e) r T) ∨ (¬ HE n es e ∧ noG r T) := by
  have hHE : HE n es e ↔ GV n es ∧ e ∈ es := by unfold HE; exact Iff.rfl
  have hgl : GV n es → es.length ≤ 40 := fun h => by unfold GV at h; exact h.2.2.1
  refine Tri.intro (hf := Try.func130) (hb := rfl) (hn := Try.ntmps130) (Nat.le_of_ble_eq_true rfl) ?_
  try refine go ⟨?_⟩
  refine WPL.eff (OpE.box rfl) rfl rfl ?_; rintro _ _ ⟨b, rfl, rfl⟩
  try refine go ⟨?_⟩
  refine WPL.eff (OpE.box rfl) rfl rfl ?_; rintro _ _ ⟨b2, rfl, rfl⟩
  refine WPL.eff OpE.alloc rfl rfl ?_; rintro _ _ ⟨b4, rfl, rfl⟩
  try refine go ⟨?_⟩
  refine WPL.eff (OpE.call lO (fun w hw => s_GraphValid _ n vE es (Rd.at rD hw) hl)) rfl rfl ?_
  rintro r _ ⟨T, ⟨rfl, rfl⟩, rfl⟩
  repeat' (first | exact absurd rfl hc | refine go ⟨?_⟩ | (refine isCond ?_; refine WP.condD rfl (fun hc => ?_) (fun hc => ?_)) | (refine isGuard ?_; refine WPL.splitD rfl rfl (fun hc => ?_) (fun hc => ?_)))
  · refine PE.ret2 (T := []) (T' := []) rfl rV ?_ sT
    exact .inr ⟨fun h => hc (hHE.1 h).1, rfl, rfl⟩
  have hg : GV n es := Decidable.not_not.1 hc
  have hle := hgl hg
  refine WPL.eff (OpE.call lO (fun w hw => s_Find _ vE e es (Rd.at rD hw) hl)) rfl rfl ?_
  rintro r _ ⟨T, ⟨rfl, hr⟩, rfl⟩
  rcases hr with ⟨hx, k, hk, rfl, _⟩ | ⟨hx, rfl⟩
  case inr =>
    repeat' (first | exact absurd rfl hc | refine go ⟨?_⟩ | (refine isCond ?_; refine WP.condD rfl (fun hc => ?_) (fun hc => ?_)) | (refine isGuard ?_; refine WPL.splitD rfl rfl (fun hc => ?_) (fun hc => ?_)))
    refine PE.ret2 (T := []) (T' := []) rfl rV ?_ sT
    exact .inr ⟨fun h => hx (hHE.1 h).2, rfl, rfl⟩
  try refine go ⟨?_⟩
  rw [decide_eq_false (show ¬ (k : Int) < 0 by omega)]
  try refine go ⟨?_⟩
  refine WP.draw [Tok.blk b2 [.int .i64 e.A, .int .i64 e.B], Tok.blk b [.int .i64 n, vE]] mixed ?_
  refine WPD.take 0 rfl (by first | exact (Op1.fieldAddr rfl) | exact (Op1.fieldAddrE rfl rD lT)) rfl rfl sT kR kR kR xQP ?_
  refine WPD.take 2 rfl (by first | exact (Op1.fieldAddr rfl) | exact (Op1.fieldAddrE rfl rD lT)) rfl rfl sT kR kR kR xQP ?_
  refine WPD.take 4 rfl (by first | exact (Op1.load rfl mM (by rfl)) | exact (Op1.loadI rfl rD lT) | exact (Op1.loadAll rfl mM (by rfl)) | exact (Op1.loadE rfl rD lT (by rfl)) | exact (Op1.loadEAgg rfl rD lT (by rfl))) rfl rfl sT kR kR kR xQP ?_
  refine WPD.take 1 rfl (by first | exact (Op1.load rfl mM (by rfl)) | exact (Op1.loadI rfl rD lT) | exact (Op1.loadAll rfl mM (by rfl)) | exact (Op1.loadE rfl rD lT (by rfl)) | exact (Op1.loadEAgg rfl rD lT (by rfl))) rfl rfl sT kR kR kR xQP ?_
  refine WPD.take 3 rfl (by first | exact (Op1.load rfl mM (by rfl)) | exact (Op1.loadI rfl rD lT) | exact (Op1.loadAll rfl mM (by rfl)) | exact (Op1.loadE rfl rD lT (by rfl)) | exact (Op1.loadEAgg rfl rD lT (by rfl))) rfl rfl sT kR kR kR xQP ?_
  refine WPD.eff 5 kR rfl (OpE.call lO (fun w hw => s_Without _ vE e es (Rd.at rD hw) (by omega))) rfl rfl ?_
  rintro v _ ⟨T, rfl, rfl⟩
  refine ⟨sT, ?_⟩
  refine WPD.eff 6 kR rfl (OpE.ofPure (Op1.build xBP (by rfl))) rfl rfl ?_
  rintro _ _ ⟨rfl, rfl⟩
  refine ⟨sT, ?_⟩
  refine WPD.eff0 7 kR rfl (OpE.storeAll rfl rfl pM (by rfl) (by rfl) oN) rfl ?_
  rintro _ _ rfl
  refine ⟨sT, ?_⟩
  refine WPD.take 8 rfl (Op1.assign rfl) rfl rfl sT kR kR kR xQP ?_
  refine WPD.done kR ?_
  all_goals (
    try refine go ⟨?_⟩
    refine PE.ret2 (T := []) (T' := [Tok.own v (rem es e)]) rfl rV ?_ sT
    exact .inl ⟨hHE.2 ⟨hg, hx⟩, v, rfl, rfl⟩)

theorem s_Graph8 (w : World) (n : Int) (vL : Value) (ops : List Oper1) (k : Nat) (h : RL w vL ops) (hl : ops.length ≤ 64) (hn : 1 ≤ n ∧ n ≤ 16) (hk : k ≤ ops.length) :
    Tri Try.prog 76 [.int .i64 n, vL, .int .i64 k] w [] fun r T => (OV n (ops.take k) ∧ yesG n (gAt n (ops.take k)) r T) ∨ (¬ OV n (ops.take k) ∧ noG r T) := by
  have hOV0 : OV n (ops.take 0) := OV_nil hn.1 hn.2
  have hok : ∀ (es : List E) (o : Oper1), opOk n es o ↔ (o.K = 1 ∧ putOk n es (oE o)) ∨ (o.K = 2 ∧ HE n es (oE o)) ∨ (o.K = 3 ∧ o.A < o.B ∧ GN n es o.A ∧ GN n es o.B) := fun es o => by unfold opOk; exact Iff.rfl
  have hgv0 : ∀ k, OV n (ops.take k) → GV n (gAt n (ops.take k)) := fun k h => h.gv
  have hle : ∀ es : List E, GV n es → es.length ≤ 40 := fun es h => by unfold GV at h; exact h.2.2.1
  have hg0 : gAt n (ops.take 0) = [] := gAt_nil n
  have hst : ∀ i, i < ops.length → OV n (ops.take i) → (opOk n (gAt n (ops.take i)) (ops.getD i oD) → OV n (ops.take (i + 1)) ∧ gAt n (ops.take (i + 1)) = opDo (gAt n (ops.take i)) (ops.getD i oD)) ∧ (¬ opOk n (gAt n (ops.take i)) (ops.getD i oD) → ¬ OV n (ops.take (i + 1))) := fun i hi hv => by
    refine ⟨(OV_take_step hi hv hl).1, fun hb hq => ?_⟩
    have hh := OV_take_step (n := n) (ops := ops.take (i + 1)) (k := i) (by rw [List.length_take]; omega) (by rwa [List.take_take, Nat.min_eq_left (by omega)]) (by rw [List.length_take]; omega)
    rw [List.take_take, Nat.min_eq_left (by omega), show (ops.take (i + 1)).getD i oD = ops.getD i oD by
      rw [List.getD_eq_getElem?_getD, List.getD_eq_getElem?_getD, List.getElem?_take_of_lt (by omega)]] at hh
    exact hh.2 hb hq
  refine Tri.intro (hf := Try.func76) (hb := rfl) (hn := Try.ntmps76) (Nat.le_of_ble_eq_true rfl) ?_
  try refine go ⟨?_⟩
  refine WPL.eff OpE.alloc rfl rfl ?_; rintro _ _ ⟨b6, rfl, rfl⟩
  try refine go ⟨?_⟩
  refine WPL.eff OpE.alloc rfl rfl ?_; rintro _ _ ⟨b8, rfl, rfl⟩
  try refine go ⟨?_⟩
  refine WP.nilTok E ?_
  refine WP.loop (σ := Nat × Value) (fun q => [(0, .int .i64 n), (1, vL), (2, .int .i64 k), (6, ptrV b6), (8, ptrV b8), (9, .int .i64 q.1)])
    (fun q => [Tok.own q.2 (gAt n (ops.take q.1)), Tok.blk b8 [.int .i64 n, q.2], Tok.blk b6 [.int .i64 0, .slice none 0 0]]) (fun q => q.1 ≤ k ∧ OV n (ops.take q.1)) (fun q => k - q.1) (0, .slice none 0 0) ⟨Nat.zero_le _, hOV0⟩ sE (by rw [hg0]; exact sT2) ?_
  rintro ⟨i, vg⟩ ⟨hi, hv⟩
  dsimp only at hi hv ⊢
  have hgv := hgv0 i hv
  have hgl := hle _ hgv
  try refine go ⟨?_⟩
  refine WP.condD rfl (fun hc => ?_) (fun hc => ?_)
  · have hi' : i < ops.length := by omega
    obtain ⟨hS1, hS2⟩ := hst i hi' hv
    have hok' := hok (gAt n (ops.take i)) (ops.getD i oD)
    have hbad : ¬ OV n (ops.take (i + 1)) → ¬ OV n (ops.take k) := fun h q => h (OV_take_le q (by omega))
    have hask := ask_iff (a := (ops.getD i oD).A) (b := (ops.getD i oD).B) hgv
    try refine go ⟨?_⟩
    refine WP.condD rfl (fun h1 => ?_) (fun h1 => ?_)
    · have hK : (ops.getD i oD).K = 1 := h1
      try refine go ⟨?_⟩
      by_cases hp : putOk n (gAt n (ops.take i)) (oE (ops.getD i oD))
      · have hso := hok'.2 (.inl ⟨hK, hp⟩)
        have e1 : gAt n (ops.take (i + 1)) = insE (gAt n (ops.take i)) (oE (ops.getD i oD)) := by
          rw [(hS1 hso).2]; unfold opDo; rw [if_pos hK]
        refine WP.draw [Tok.own vg (gAt n (ops.take i)), Tok.blk b6 [.int .i64 0, .slice none 0 0]] mixed ?_
        refine WPD.take 1 rfl (Op1.move rfl) rfl rfl sT kR kR kR xQP ?_
        refine WPD.take 2 rfl (Op1.move rfl) rfl rfl sT kR kR kR xQP ?_
        refine WPD.take 3 rfl (by first | exact (Op1.indexAddr rfl rfl rD lT) | exact (Op1.indexAddrZ rfl rfl rD lT)) rfl rfl sT kR kR kR xQP ?_
        refine WPD.take 4 rfl (by first | exact (Op1.fieldAddr rfl) | exact (Op1.fieldAddrE rfl rD lT)) rfl rfl sT kR kR kR xQP ?_
        refine WPD.take 5 rfl (Op1.loadOE rfl rD lT) rfl rfl sT kR kR kR xQP ?_
        refine WPD.eff 0 kR rfl (OpE.ofPure (by first | exact (Op1.load rfl mM (by rfl)) | exact (Op1.loadI rfl rD lT) | exact (Op1.loadAll rfl mM (by rfl)) | exact (Op1.loadE rfl rD lT (by rfl)) | exact (Op1.loadEAgg rfl rD lT (by rfl)))) rfl rfl ?_
        rintro _ _ ⟨rfl, rfl⟩
        refine ⟨sT, ?_⟩
        refine WPD.eff 6 kR rfl (OpE.call lO (fun w hw => (s_PutEdge _ n vg (gAt n (ops.take i)) (oE (ops.getD i oD)) (Rd.at rD hw) (by omega)).weaken (fun _ _ h => putOk_no h hp))) rfl rfl ?_
        rintro r _ ⟨T, ⟨v, rfl, rfl⟩, rfl⟩
        refine ⟨sT, ?_⟩
        refine WPD.take 7 rfl (Op1.move rfl) rfl rfl sT kR kR kR xQP ?_
        refine WPD.take 8 rfl (Op1.extract rfl (by rfl)) rfl rfl sT kR kR kR xQP ?_
        refine WPD.take 9 rfl (Op1.extract rfl (by rfl)) rfl rfl sT kR kR kR xQP ?_
        refine WPD.eff0 10 kR rfl (OpE.storeAll rfl rfl pM (by rfl) (by rfl) oN) rfl ?_
        rintro _ _ rfl
        refine ⟨sT, ?_⟩
        refine WPD.take 11 rfl (Op1.assign rfl) rfl rfl sT kR kR kR xQP ?_
        refine WPD.done kR ?_
        all_goals (
          rw [← e1]
          try refine go ⟨?_⟩
          refine PE.again (i + 1, v) ?_ ?_ sE sT2
          · exact ⟨by (try dsimp only); omega, (hS1 hso).1⟩
          · (try dsimp only); omega)
      · have hno : ¬ opOk n (gAt n (ops.take i)) (ops.getD i oD) := fun h => by
          rcases hok'.1 h with ⟨q, r⟩ | ⟨q, r⟩ | ⟨q, r⟩
          · exact hp r
          · omega
          · omega
        refine WP.draw [Tok.own vg (gAt n (ops.take i)), Tok.blk b6 [.int .i64 0, .slice none 0 0]] mixed ?_
        refine WPD.take 1 rfl (Op1.move rfl) rfl rfl sT kR kR kR xQP ?_
        refine WPD.take 2 rfl (Op1.move rfl) rfl rfl sT kR kR kR xQP ?_
        refine WPD.take 3 rfl (by first | exact (Op1.indexAddr rfl rfl rD lT) | exact (Op1.indexAddrZ rfl rfl rD lT)) rfl rfl sT kR kR kR xQP ?_
        refine WPD.take 4 rfl (by first | exact (Op1.fieldAddr rfl) | exact (Op1.fieldAddrE rfl rD lT)) rfl rfl sT kR kR kR xQP ?_
        refine WPD.take 5 rfl (Op1.loadOE rfl rD lT) rfl rfl sT kR kR kR xQP ?_
        refine WPD.eff 0 kR rfl (OpE.ofPure (by first | exact (Op1.load rfl mM (by rfl)) | exact (Op1.loadI rfl rD lT) | exact (Op1.loadAll rfl mM (by rfl)) | exact (Op1.loadE rfl rD lT (by rfl)) | exact (Op1.loadEAgg rfl rD lT (by rfl)))) rfl rfl ?_
        rintro _ _ ⟨rfl, rfl⟩
        refine ⟨sT, ?_⟩
        refine WPD.eff 6 kR rfl (OpE.call lO (fun w hw => (s_PutEdge _ n vg (gAt n (ops.take i)) (oE (ops.getD i oD)) (Rd.at rD hw) (by omega)).weaken (fun _ _ h => putOk_bad h hp))) rfl rfl ?_
        rintro r _ ⟨T, ⟨rfl, rfl⟩, rfl⟩
        refine ⟨sT, ?_⟩
        refine WPD.take 7 rfl (Op1.move rfl) rfl rfl sT kR kR kR xQP ?_
        refine WPD.take 8 rfl (Op1.extract rfl (by rfl)) rfl rfl sT kR kR kR xQP ?_
        refine WPD.take 9 rfl (Op1.extract rfl (by rfl)) rfl rfl sT kR kR kR xQP ?_
        refine WPD.eff0 10 kR rfl (OpE.storeAll rfl rfl pM (by rfl) (by rfl) oN) rfl ?_
        rintro _ _ rfl
        refine ⟨sT, ?_⟩
        refine WPD.take 11 rfl (Op1.assign rfl) rfl rfl sT kR kR kR xQP ?_
        refine WPD.done kR ?_
        all_goals (
          try refine go ⟨?_⟩
          refine PE.ret2 (T := []) (T' := []) rfl rV ?_ sT
          exact .inr ⟨hbad (hS2 hno), rfl, rfl⟩)
    have h1 : (ops.getD i oD).K ≠ 1 := h1
    try refine go ⟨?_⟩
    refine WP.condD rfl (fun h2 => ?_) (fun h2 => ?_)
    · have hK : (ops.getD i oD).K = 2 := h2
      try refine go ⟨?_⟩
      by_cases hp : HE n (gAt n (ops.take i)) (oE (ops.getD i oD))
      · have hso := hok'.2 (.inr (.inl ⟨hK, hp⟩))
        have e1 : gAt n (ops.take (i + 1)) = rem (gAt n (ops.take i)) (oE (ops.getD i oD)) := by
          rw [(hS1 hso).2]; unfold opDo; rw [if_neg (by omega), if_pos hK]
        refine WP.draw [Tok.own vg (gAt n (ops.take i)), Tok.blk b6 [.int .i64 0, .slice none 0 0]] mixed ?_
        refine WPD.take 1 rfl (Op1.move rfl) rfl rfl sT kR kR kR xQP ?_
        refine WPD.take 2 rfl (Op1.move rfl) rfl rfl sT kR kR kR xQP ?_
        refine WPD.take 3 rfl (by first | exact (Op1.indexAddr rfl rfl rD lT) | exact (Op1.indexAddrZ rfl rfl rD lT)) rfl rfl sT kR kR kR xQP ?_
        refine WPD.take 4 rfl (by first | exact (Op1.fieldAddr rfl) | exact (Op1.fieldAddrE rfl rD lT)) rfl rfl sT kR kR kR xQP ?_
        refine WPD.take 5 rfl (Op1.loadOE rfl rD lT) rfl rfl sT kR kR kR xQP ?_
        refine WPD.eff 0 kR rfl (OpE.ofPure (by first | exact (Op1.load rfl mM (by rfl)) | exact (Op1.loadI rfl rD lT) | exact (Op1.loadAll rfl mM (by rfl)) | exact (Op1.loadE rfl rD lT (by rfl)) | exact (Op1.loadEAgg rfl rD lT (by rfl)))) rfl rfl ?_
        rintro _ _ ⟨rfl, rfl⟩
        refine ⟨sT, ?_⟩
        refine WPD.eff 6 kR rfl (OpE.call lO (fun w hw => (s_CutEdge _ n vg (gAt n (ops.take i)) (oE (ops.getD i oD)) (Rd.at rD hw) (by omega)).weaken (fun _ _ h => cutOk_no h hp))) rfl rfl ?_
        rintro r _ ⟨T, ⟨v, rfl, rfl⟩, rfl⟩
        refine ⟨sT, ?_⟩
        refine WPD.take 7 rfl (Op1.move rfl) rfl rfl sT kR kR kR xQP ?_
        refine WPD.take 8 rfl (Op1.extract rfl (by rfl)) rfl rfl sT kR kR kR xQP ?_
        refine WPD.take 9 rfl (Op1.extract rfl (by rfl)) rfl rfl sT kR kR kR xQP ?_
        refine WPD.eff0 10 kR rfl (OpE.storeAll rfl rfl pM (by rfl) (by rfl) oN) rfl ?_
        rintro _ _ rfl
        refine ⟨sT, ?_⟩
        refine WPD.take 11 rfl (Op1.assign rfl) rfl rfl sT kR kR kR xQP ?_
        refine WPD.done kR ?_
        all_goals (
          rw [← e1]
          try refine go ⟨?_⟩
          refine PE.again (i + 1, v) ?_ ?_ sE sT2
          · exact ⟨by (try dsimp only); omega, (hS1 hso).1⟩
          · (try dsimp only); omega)
      · have hno : ¬ opOk n (gAt n (ops.take i)) (ops.getD i oD) := fun h => by
          rcases hok'.1 h with ⟨q, r⟩ | ⟨q, r⟩ | ⟨q, r⟩
          · omega
          · exact hp r
          · omega
        refine WP.draw [Tok.own vg (gAt n (ops.take i)), Tok.blk b6 [.int .i64 0, .slice none 0 0]] mixed ?_
        refine WPD.take 1 rfl (Op1.move rfl) rfl rfl sT kR kR kR xQP ?_
        refine WPD.take 2 rfl (Op1.move rfl) rfl rfl sT kR kR kR xQP ?_
        refine WPD.take 3 rfl (by first | exact (Op1.indexAddr rfl rfl rD lT) | exact (Op1.indexAddrZ rfl rfl rD lT)) rfl rfl sT kR kR kR xQP ?_
        refine WPD.take 4 rfl (by first | exact (Op1.fieldAddr rfl) | exact (Op1.fieldAddrE rfl rD lT)) rfl rfl sT kR kR kR xQP ?_
        refine WPD.take 5 rfl (Op1.loadOE rfl rD lT) rfl rfl sT kR kR kR xQP ?_
        refine WPD.eff 0 kR rfl (OpE.ofPure (by first | exact (Op1.load rfl mM (by rfl)) | exact (Op1.loadI rfl rD lT) | exact (Op1.loadAll rfl mM (by rfl)) | exact (Op1.loadE rfl rD lT (by rfl)) | exact (Op1.loadEAgg rfl rD lT (by rfl)))) rfl rfl ?_
        rintro _ _ ⟨rfl, rfl⟩
        refine ⟨sT, ?_⟩
        refine WPD.eff 6 kR rfl (OpE.call lO (fun w hw => (s_CutEdge _ n vg (gAt n (ops.take i)) (oE (ops.getD i oD)) (Rd.at rD hw) (by omega)).weaken (fun _ _ h => cutOk_bad h hp))) rfl rfl ?_
        rintro r _ ⟨T, ⟨rfl, rfl⟩, rfl⟩
        refine ⟨sT, ?_⟩
        refine WPD.take 7 rfl (Op1.move rfl) rfl rfl sT kR kR kR xQP ?_
        refine WPD.take 8 rfl (Op1.extract rfl (by rfl)) rfl rfl sT kR kR kR xQP ?_
        refine WPD.take 9 rfl (Op1.extract rfl (by rfl)) rfl rfl sT kR kR kR xQP ?_
        refine WPD.eff0 10 kR rfl (OpE.storeAll rfl rfl pM (by rfl) (by rfl) oN) rfl ?_
        rintro _ _ rfl
        refine ⟨sT, ?_⟩
        refine WPD.take 11 rfl (Op1.assign rfl) rfl rfl sT kR kR kR xQP ?_
        refine WPD.done kR ?_
        all_goals (
          try refine go ⟨?_⟩
          refine PE.ret2 (T := []) (T' := []) rfl rV ?_ sT
          exact .inr ⟨hbad (hS2 hno), rfl, rfl⟩)
    have h2 : (ops.getD i oD).K ≠ 2 := h2
    try refine go ⟨?_⟩
    refine WPL.pure (Op1.loadOE rfl rD lT) rfl rfl ?_
    try refine go ⟨?_⟩
    refine WPL.eff OpE.alloc rfl rfl ?_; rintro _ _ ⟨b11, rfl, rfl⟩
    try refine go ⟨?_⟩
    refine WPL.splitD rfl rfl (fun h3 => ?_) (fun h3 => ?_)
    case' refine_2 =>
      have h3 : ¬ (ops.getD i oD).K = 3 := h3
      have hno : ¬ opOk n (gAt n (ops.take i)) (ops.getD i oD) := fun h => by
        rcases hok'.1 h with ⟨q, r⟩ | ⟨q, r⟩ | ⟨q, r⟩
        · omega
        · omega
        · have := hask.1 r; omega
      try refine go ⟨?_⟩
      refine PE.ret2 (T := []) (T' := []) rfl rV ?_ sT
      exact .inr ⟨hbad (hS2 hno), rfl, rfl⟩
    have hK : (ops.getD i oD).K = 3 := h3
    try refine go ⟨?_⟩
    refine WPL.splitD rfl rfl (fun a0 => ?_) (fun a0 => ?_)
    case' refine_2 =>
      have a0 : ¬ (ops.getD i oD).A ≥ 0 := a0
      have hno : ¬ opOk n (gAt n (ops.take i)) (ops.getD i oD) := fun h => by
        rcases hok'.1 h with ⟨q, r⟩ | ⟨q, r⟩ | ⟨q, r⟩
        · omega
        · omega
        · have := hask.1 r; omega
      try refine go ⟨?_⟩
      refine PE.ret2 (T := []) (T' := []) rfl rV ?_ sT
      exact .inr ⟨hbad (hS2 hno), rfl, rfl⟩
    have a0 : (ops.getD i oD).A ≥ 0 := a0
    try refine go ⟨?_⟩
    refine WPL.splitD rfl rfl (fun a1 => ?_) (fun a1 => ?_)
    case' refine_2 =>
      have a1 : ¬ (ops.getD i oD).A < (ops.getD i oD).B := a1
      have hno : ¬ opOk n (gAt n (ops.take i)) (ops.getD i oD) := fun h => by
        rcases hok'.1 h with ⟨q, r⟩ | ⟨q, r⟩ | ⟨q, r⟩
        · omega
        · omega
        · have := hask.1 r; omega
      try refine go ⟨?_⟩
      refine PE.ret2 (T := []) (T' := []) rfl rV ?_ sT
      exact .inr ⟨hbad (hS2 hno), rfl, rfl⟩
    have a1 : (ops.getD i oD).A < (ops.getD i oD).B := a1
    try refine go ⟨?_⟩
    refine WP.condD rfl (fun a2 => ?_) (fun a2 => ?_)
    case' refine_1 =>
      have a2 : ¬ (ops.getD i oD).B < n := a2
      have hno : ¬ opOk n (gAt n (ops.take i)) (ops.getD i oD) := fun h => by
        rcases hok'.1 h with ⟨q, r⟩ | ⟨q, r⟩ | ⟨q, r⟩
        · omega
        · omega
        · have := hask.1 r; omega
      try refine go ⟨?_⟩
      refine PE.ret2 (T := []) (T' := []) rfl rV ?_ sT
      exact .inr ⟨hbad (hS2 hno), rfl, rfl⟩
    have a2 : (ops.getD i oD).B < n := Decidable.not_not.1 a2
    have hso := hok'.2 (.inr (.inr ⟨hK, hask.2 ⟨a0, a1, a2⟩⟩))
    have e1 : gAt n (ops.take (i + 1)) = gAt n (ops.take i) := by
      rw [(hS1 hso).2]; unfold opDo; rw [if_neg (by omega), if_neg (by omega)]
    rw [← e1]
    try refine go ⟨?_⟩
    refine PE.again (i + 1, vg) ?_ ?_ sE sT2
    · exact ⟨by (try dsimp only); omega, (hS1 hso).1⟩
    · (try dsimp only); omega
  · have hik : i = k := by omega
    subst hik
    try refine go ⟨?_⟩
    refine PE.ret2 (T := []) (T' := [Tok.own vg (gAt n (ops.take i))]) rfl rV ?_ sT
    exact .inl ⟨hv, vg, rfl, rfl⟩
end Go.Proofs.Ytfigegmgopnfhaa
/- Operations: the walk of the second program's OpsValid, GraphAt, AnswersOf. Conditions: those of each contract. -/
namespace Go.Proofs.Ytfigegmgopnfhaa
open Go
theorem yesG_of {n : Int} {es : List E} {r : Value} {T : List Tok} {P : Prop} (h : (P ∧ yesG n es r T) ∨ (¬ P ∧ noG r T)) (hp : P) : ∃ v, r = .tuple #[.agg #[.int .i64 n, v], .bool true] ∧ T = [Tok.own v es] := (h.resolve_right fun q => q.1 hp).2
set_option linter.unusedVariables false set_option linter.unusedSimpArgs false attribute [local irreducible] Tok.own Tok.blk RL Rd eptr WP WPL PE WPD WPO Op1 OpE Tri Again Mid Exit.then Exit.inBlock bodyPost RP Code.wp wpList isOwn OneM One
attribute [local irreducible] GV GN OV opOk gAt ans cn putOk HE
set_option maxHeartbeats 8000000

theorem s_OpsValid (w : World) (n : Int) (vL : Value) (ops : List Oper1) (h : RL w vL ops) (hl : ops.length ≤ 1099511627776) :
    Tri Try.prog 26 [.int .i64 n, vL] w [] fun r T => T = [] ∧ r = .bool (decide (OV n ops)) := by
  have hOV1 : OV n ops → 1 ≤ n ∧ n ≤ 16 ∧ ops.length ≤ 64 := fun h => ⟨h.n1, h.n2, h.le⟩
  refine Tri.intro (hf := Try.func26) (hb := rfl) (hn := Try.ntmps26) (Nat.le_of_ble_eq_true rfl) ?_
  try refine go ⟨?_⟩
  by_cases c1 : n < 1
  · rw [decide_eq_true c1, decide_eq_false fun h => by have := (hOV1 h).1; omega]
    try refine go ⟨?_⟩
    refine PE.ret1 (T := []) (T' := []) rfl rV ?_ sT
    exact ⟨rfl, rfl⟩
  rw [decide_eq_false c1]
  try refine go ⟨?_⟩
  by_cases c2 : n > 16
  · rw [decide_eq_true c2, decide_eq_false fun h => by have := (hOV1 h).2.1; omega]
    try refine go ⟨?_⟩
    refine PE.ret1 (T := []) (T' := []) rfl rV ?_ sT
    exact ⟨rfl, rfl⟩
  rw [decide_eq_false c2]
  try refine go ⟨?_⟩
  by_cases c3 : (ops.length : Int) > 64
  · rw [decide_eq_true c3, decide_eq_false fun h => by have := (hOV1 h).2.2; omega]
    try refine go ⟨?_⟩
    refine PE.ret1 (T := []) (T' := []) rfl rV ?_ sT
    exact ⟨rfl, rfl⟩
  rw [decide_eq_false c3]
  try refine go ⟨?_⟩
  refine WPL.eff (OpE.call lO (fun w hw => s_Graph8 _ n vL ops ops.length (Rd.at rD hw) (by omega) (by omega) (Nat.le_refl _))) rfl rfl ?_
  rintro r _ ⟨T, hr, rfl⟩
  rw [List.take_length] at hr
  rcases hr with ⟨hv, v, rfl, rfl⟩ | ⟨hv, rfl, rfl⟩
  · rw [decide_eq_true hv]
    try refine go ⟨?_⟩
    refine WPL.eff OpE.alloc rfl rfl ?_; rintro _ _ ⟨b5, rfl, rfl⟩
    try refine go ⟨?_⟩
    refine PE.ret1 (T := []) (T' := []) rfl rV ?_ sT
    exact ⟨rfl, rfl⟩
  · rw [decide_eq_false hv]
    try refine go ⟨?_⟩
    refine WPL.eff OpE.alloc rfl rfl ?_; rintro _ _ ⟨b5, rfl, rfl⟩
    try refine go ⟨?_⟩
    refine PE.ret1 (T := []) (T' := []) rfl rV ?_ sT
    exact ⟨rfl, rfl⟩

theorem s_GraphAt (w : World) (n : Int) (vL : Value) (ops : List Oper1) (k : Int) (h : RL w vL ops) (hl : ops.length ≤ 1099511627776) :
    Tri Try.prog 35 [.int .i64 n, vL, .int .i64 k] w [] fun r T => ∃ vg, r = .tuple #[.agg #[.int .i64 (atN n ops k), vg], .bool (decide (atOk n ops k))] ∧ T = [Tok.own vg (atG n ops k)] := by
  have hat : atOk n ops k ↔ OV n ops ∧ 0 ≤ k ∧ k ≤ ops.length := by unfold atOk; exact Iff.rfl
  have bad : ¬ atOk n ops k → atN n ops k = 0 ∧ atG n ops k = [] := fun h => ⟨if_neg h, if_neg h⟩
  have good : atOk n ops k → atN n ops k = n ∧ atG n ops k = gAt n (ops.take k.toNat) := fun h => ⟨if_pos h, if_pos h⟩
  have htk : OV n ops → OV n (ops.take k.toNat) := fun h => h.take _
  have hOV1 : OV n ops → 1 ≤ n ∧ n ≤ 16 ∧ ops.length ≤ 64 := fun h => ⟨h.n1, h.n2, h.le⟩
  have hgl : OV n ops → (gAt n (ops.take k.toNat)).length ≤ 40 := fun h => by have := (h.take k.toNat).gv; unfold GV at this; exact this.2.2.1
  refine Tri.intro (hf := Try.func35) (hb := rfl) (hn := Try.ntmps35) (Nat.le_of_ble_eq_true rfl) ?_
  try refine go ⟨?_⟩
  refine WPL.eff OpE.alloc rfl rfl ?_; rintro _ _ ⟨b6, rfl, rfl⟩
  try refine go ⟨?_⟩
  refine WPL.eff (OpE.call lO (fun w hw => s_OpsValid _ n vL ops (Rd.at rD hw) hl)) rfl rfl ?_
  rintro _ _ ⟨T, ⟨rfl, rfl⟩, rfl⟩
  by_cases hv : OV n ops
  case neg =>
    have hno : ¬ atOk n ops k := fun h => hv (hat.1 h).1
    obtain ⟨e1, e2⟩ := bad hno
    rw [decide_eq_false hv, decide_eq_false hno, e1, e2]
    try refine go ⟨?_⟩
    refine PE.nilTok E ?_
    refine PE.ret2 (T := []) (T' := [Tok.own (.slice none 0 0) ([] : List E)]) rfl rV ?_ sT2
    exact ⟨_, rfl, rfl⟩
  rw [decide_eq_true hv]
  try refine go ⟨?_⟩
  by_cases c1 : k < 0
  · have hno : ¬ atOk n ops k := fun h => by have := (hat.1 h).2.1; omega
    obtain ⟨e1, e2⟩ := bad hno
    rw [decide_eq_true c1, decide_eq_false hno, e1, e2]
    try refine go ⟨?_⟩
    refine PE.nilTok E ?_
    refine PE.ret2 (T := []) (T' := [Tok.own (.slice none 0 0) ([] : List E)]) rfl rV ?_ sT2
    exact ⟨_, rfl, rfl⟩
  rw [decide_eq_false c1]
  try refine go ⟨?_⟩
  by_cases c2 : k > ops.length
  · have hno : ¬ atOk n ops k := fun h => by have := (hat.1 h).2.2; omega
    obtain ⟨e1, e2⟩ := bad hno
    rw [decide_eq_true c2, decide_eq_false hno, e1, e2]
    try refine go ⟨?_⟩
    refine PE.nilTok E ?_
    refine PE.ret2 (T := []) (T' := [Tok.own (.slice none 0 0) ([] : List E)]) rfl rV ?_ sT2
    exact ⟨_, rfl, rfl⟩
  rw [decide_eq_false c2]
  have hyes : atOk n ops k := hat.2 ⟨hv, by omega, by omega⟩
  obtain ⟨e1, e2⟩ := good hyes
  have hvt := htk hv
  have hgl' := hgl hv
  obtain ⟨q1, q2, q3⟩ := hOV1 hv
  obtain ⟨m, rfl⟩ : ∃ m : Nat, k = m := ⟨k.toNat, by omega⟩
  rw [decide_eq_true hyes, e1, e2]
  rw [Int.toNat_natCast] at hvt hgl' ⊢
  try refine go ⟨?_⟩
  refine WPL.eff (OpE.call lO (fun w hw => (s_Graph8 _ n vL ops m (Rd.at rD hw) q3 ⟨q1, q2⟩ (by omega)).weaken (fun _ _ h => yesG_of h hvt))) rfl rfl ?_
  rintro r _ ⟨T, ⟨v, rfl, rfl⟩, rfl⟩
  try refine go ⟨?_⟩
  refine WPL.eff OpE.alloc rfl rfl ?_; rintro _ _ ⟨b8, rfl, rfl⟩
  try refine go ⟨?_⟩
  refine WPL.eff (OpE.call lO (fun w hw => g_Copy _ n v (gAt n (ops.take m)) (Rd.at rD hw) (by omega))) rfl rfl ?_
  rintro _ _ ⟨T, ⟨u, rfl, rfl⟩, rfl⟩
  try refine go ⟨?_⟩
  refine PE.ret2 (T := []) (T' := [Tok.own u (gAt n (ops.take m))]) rfl rV ?_ sT2
  exact ⟨_, rfl, rfl⟩

theorem s_AnswersOf (w : World) (n : Int) (vL : Value) (ops : List Oper1) (h : RL w vL ops) (hl : ops.length ≤ 1099511627776) :
    Tri Try.prog 43 [.int .i64 n, vL] w [] fun r T => ∃ va, r = .tuple #[va, .bool (decide (OV n ops))] ∧ T = [Tok.own va (runA n ops)] := by
  have bad : ¬ OV n ops → runA n ops = [] := fun h => if_neg h
  have good : OV n ops → runA n ops = ans n ops ops.length := fun h => if_pos h
  have hOV1 : OV n ops → 1 ≤ n ∧ n ≤ 16 ∧ ops.length ≤ 64 := fun h => ⟨h.n1, h.n2, h.le⟩
  have htk : ∀ k, OV n ops → OV n (ops.take k) := fun k h => h.take _
  have hans : ∀ k, ans n ops (k + 1) = if (ops.getD k oD).K = 3 then ans n ops k ++ [decide (cn n (gAt n (ops.take k)) (ops.getD k oD).A (ops.getD k oD).B)] else ans n ops k := fun k => ans_succ n ops k
  have hanl : ∀ k, (ans n ops k).length ≤ k := fun k => ans_len n ops k
  have hans0 : ans n ops 0 = [] := ans_zero n ops
  have hne : ∀ k, OV n ops → NE n (gAt n (ops.take k)) := fun k h => (h.take k).gv.ne
  have hnd : ∀ k, OV n ops → k < ops.length → (ops.getD k oD).K = 3 → Nd n (ops.getD k oD).A ∧ Nd n (ops.getD k oD).B := fun k h hk hK => by
    have := (h.step hk).1
    unfold opOk at this
    rcases this with ⟨q, _⟩ | ⟨q, _⟩ | ⟨_, _, r1, r2⟩
    · omega
    · omega
    · unfold GN at r1 r2; exact ⟨r1.2, r2.2⟩
  refine Tri.intro (hf := Try.func43) (hb := rfl) (hn := Try.ntmps43) (Nat.le_of_ble_eq_true rfl) ?_
  try refine go ⟨?_⟩
  refine WPL.eff (OpE.buildSlice ([] : List Bool) pA rfl (by decide)) rfl rfl ?_; rintro s0 _ rfl
  try refine go ⟨?_⟩
  refine WPL.eff (OpE.call lO (fun w hw => s_OpsValid _ n vL ops (Rd.at rD hw) hl)) rfl rfl ?_
  rintro _ _ ⟨T, ⟨rfl, rfl⟩, rfl⟩
  by_cases hv : OV n ops
  case neg =>
    rw [decide_eq_false hv, bad hv]
    try refine go ⟨?_⟩
    refine PE.ret2 (T := []) (T' := [Tok.own s0 ([] : List Bool)]) rfl rV ?_ sT2
    exact ⟨_, rfl, rfl⟩
  rw [decide_eq_true hv, good hv]
  obtain ⟨q1, q2, q3⟩ := hOV1 hv
  try refine go ⟨?_⟩
  refine WP.loop (σ := Nat × Value) (fun q => [(0, .int .i64 n), (1, vL), (6, q.2), (7, .int .i64 q.1)]) (fun q => [Tok.own q.2 (ans n ops q.1)]) (fun q => q.1 ≤ ops.length) (fun q => ops.length - q.1) (0, s0) (Nat.zero_le _) sE (by rw [hans0]; exact sT2) ?_
  rintro ⟨k, va⟩ hk
  dsimp only at hk ⊢
  have hal := hanl k
  have hak := hans k
  try refine go ⟨?_⟩
  refine WP.condD rfl (fun hc => ?_) (fun hc => ?_)
  · have hk' : k < ops.length := by omega
    try refine go ⟨?_⟩
    refine WP.condD rfl (fun h3 => ?_) (fun h3 => ?_)
    · have hK : (ops.getD k oD).K = 3 := h3
      obtain ⟨hA, hB⟩ := hnd k hv hk' hK
      have hnek := hne k hv
      rw [if_pos hK] at hak
      try refine go ⟨?_⟩
      refine WPL.eff (OpE.call lO (fun w hw => (s_Graph8 _ n vL ops k (Rd.at rD hw) q3 ⟨q1, q2⟩ (by omega)).weaken (fun _ _ h => yesG_of h (htk k hv)))) rfl rfl ?_
      rintro r _ ⟨T, ⟨v, rfl, rfl⟩, rfl⟩
      try refine go ⟨?_⟩
      refine WPL.eff OpE.alloc rfl rfl ?_; rintro _ _ ⟨b8, rfl, rfl⟩
      try refine go ⟨?_⟩
      refine WP.draw [Tok.blk b8 [.int .i64 n, v], Tok.own v (gAt n (ops.take k))] mixed ?_
      refine WPD.take 0 rfl (Op1.move rfl) rfl rfl sT kR kR kR xQP ?_
      refine WPD.take 1 rfl (by first | exact (Op1.load rfl mM (by rfl)) | exact (Op1.loadI rfl rD lT) | exact (Op1.loadAll rfl mM (by rfl)) | exact (Op1.loadE rfl rD lT (by rfl)) | exact (Op1.loadEAgg rfl rD lT (by rfl))) rfl rfl sT kR kR kR xQP ?_
      refine WPD.take 2 rfl (Op1.move rfl) rfl rfl sT kR kR kR xQP ?_
      refine WPD.take 3 rfl (Op1.move rfl) rfl rfl sT kR kR kR xQP ?_
      refine WPD.take 8 rfl (Op1.move rfl) rfl rfl sT kR kR kR xQP ?_
      refine WPD.take 9 rfl (Op1.move rfl) rfl rfl sT kR kR kR xQP ?_
      refine WPD.take 4 rfl (by first | exact (Op1.indexAddr rfl rfl rD lT) | exact (Op1.indexAddrZ rfl rfl rD lT)) rfl rfl sT kR kR kR xQP ?_
      refine WPD.take 10 rfl (by first | exact (Op1.indexAddr rfl rfl rD lT) | exact (Op1.indexAddrZ rfl rfl rD lT)) rfl rfl sT kR kR kR xQP ?_
      refine WPD.take 5 rfl (by first | exact (Op1.fieldAddr rfl) | exact (Op1.fieldAddrE rfl rD lT)) rfl rfl sT kR kR kR xQP ?_
      refine WPD.take 11 rfl (by first | exact (Op1.fieldAddr rfl) | exact (Op1.fieldAddrE rfl rD lT)) rfl rfl sT kR kR kR xQP ?_
      refine WPD.take 6 rfl (by first | exact (Op1.fieldAddr rfl) | exact (Op1.fieldAddrE rfl rD lT)) rfl rfl sT kR kR kR xQP ?_
      refine WPD.take 12 rfl (by first | exact (Op1.fieldAddr rfl) | exact (Op1.fieldAddrE rfl rD lT)) rfl rfl sT kR kR kR xQP ?_
      refine WPD.take 7 rfl (by first | exact (Op1.load rfl mM (by rfl)) | exact (Op1.loadI rfl rD lT) | exact (Op1.loadAll rfl mM (by rfl)) | exact (Op1.loadE rfl rD lT (by rfl)) | exact (Op1.loadEAgg rfl rD lT (by rfl))) rfl rfl sT kR kR kR xQP ?_
      refine WPD.take 13 rfl (by first | exact (Op1.load rfl mM (by rfl)) | exact (Op1.loadI rfl rD lT) | exact (Op1.loadAll rfl mM (by rfl)) | exact (Op1.loadE rfl rD lT (by rfl)) | exact (Op1.loadEAgg rfl rD lT (by rfl))) rfl rfl sT kR kR kR xQP ?_
      refine WPD.eff 14 kR rfl (OpE.call lO (fun w hw => s_Joined _ n v (gAt n (ops.take k)) (ops.getD k oD).A (ops.getD k oD).B (Rd.at rD hw) hnek hA hB)) rfl rfl ?_
      rintro r _ ⟨T, ⟨rfl, rfl⟩, rfl⟩
      refine ⟨sT, ?_⟩
      refine WPD.eff 15 kR rfl (OpE.buildSlice ([decide (cn n (gAt n (ops.take k)) (ops.getD k oD).A (ops.getD k oD).B)]) pA rfl (by decide)) rfl rfl ?_
      rintro s1 _ rfl
      refine ⟨sT, ?_⟩
      refine WPD.eff 16 kR rfl (OpE.append rfl rfl pM rD lN) rfl rfl ?_
      rintro v1 _ rfl
      refine ⟨sT, ?_⟩
      refine WPD.take 17 rfl (Op1.assign rfl) rfl rfl sT kR kR kR xQP ?_
      refine WPD.done kR ?_
      all_goals (
        rw [← hak]
        try refine go ⟨?_⟩
        refine PE.again (k + 1, v1) ?_ ?_ sE sT2
        · (try dsimp only); omega
        · (try dsimp only); omega)
    · have hK : (ops.getD k oD).K ≠ 3 := h3
      rw [if_neg hK] at hak
      rw [← hak]
      try refine go ⟨?_⟩
      refine PE.again (k + 1, va) ?_ ?_ sE sT2
      · (try dsimp only); omega
      · (try dsimp only); omega
  · have hkn : k = ops.length := by omega
    subst hkn
    try refine go ⟨?_⟩
    refine PE.ret2 (T := []) (T' := [Tok.own va (ans n ops ops.length)]) rfl rV ?_ sT2
    exact ⟨_, rfl, rfl⟩
end Go.Proofs.Ytfigegmgopnfhaa
/- Operations: the walk of the second program's l8Lives, LivesOf. Conditions: those of each contract. -/
namespace Go.Proofs.Ytfigegmgopnfhaa
open Go
set_option linter.unusedVariables false set_option linter.unusedSimpArgs false attribute [local irreducible] Tok.own Tok.blk RL Rd eptr WP WPL PE WPD WPO Op1 OpE Tri Again Mid Exit.then Exit.inBlock bodyPost RP Code.wp wpList isOwn OneM One
attribute [local irreducible] GV GN OV livs livK cutsB toOf lifeAt
set_option maxHeartbeats 8000000

theorem s_Lives8 (w : World) (vL : Value) (ops : List Oper1) (h : RL w vL ops) (hl : ops.length ≤ 64) :
    Tri Try.prog 74 [vL] w [] fun r T => T = [Tok.own r (livs ops)] := by
  have hlk := livK_le ops
  have hlall : livK ops ops.length = livs ops := livK_all ops
  have hl0 : livK ops 0 = [] := by have := hlk 0; exact List.eq_nil_of_length_eq_zero (by omega)
  have hcB : ∀ j i : Nat, cutsB ops (oE (ops.getD i oD)) j = true ↔ (ops.getD j oD).K = 2 ∧ oE (ops.getD j oD) = oE (ops.getD i oD) := fun j i => cutsB_iff
  refine Tri.intro (hf := Try.func74) (hb := rfl) (hn := Try.ntmps74) (Nat.le_of_ble_eq_true rfl) ?_
  try refine go ⟨?_⟩
  refine WPL.eff (OpE.buildSlice ([] : List Lif) pA rfl (by decide)) rfl rfl ?_; rintro s0 _ rfl
  try refine go ⟨?_⟩
  refine WP.loop (σ := Nat × Value) (fun q => [(0, vL), (3, q.2), (4, .int .i64 q.1)]) (fun q => [Tok.own q.2 (livK ops q.1)]) (fun q => q.1 ≤ ops.length) (fun q => ops.length - q.1) (0, s0) (Nat.zero_le _) sE (by rw [hl0]; exact sT2) ?_
  rintro ⟨i, v⟩ hi
  dsimp only at hi ⊢
  have hil := hlk i
  try refine go ⟨?_⟩
  refine WP.condD rfl (fun hc => ?_) (fun hc => ?_)
  · have hi' : i < ops.length := by omega
    try refine go ⟨?_⟩
    refine WP.condD rfl (fun h1 => ?_) (fun h1 => ?_)
    · have h1 : (ops.getD i oD).K ≠ 1 := h1
      rw [← livK_no h1]
      try refine go ⟨?_⟩
      refine PE.again (i + 1, v) ?_ ?_ sE sT2
      · (try dsimp only); omega
      · (try dsimp only); omega
    have hK : (ops.getD i oD).K = 1 := Decidable.not_not.1 h1
    try refine go ⟨?_⟩
    refine WP.loop (σ := Nat × Nat) (fun q => [(0, vL), (3, v), (4, .int .i64 i), (5, .int .i64 q.2), (6, .int .i64 ((q.1 : Int) - 1))]) (fun _ => [Tok.own v (livK ops i)])
      (fun q => i + 1 ≤ q.1 ∧ q.1 ≤ q.2 ∧ q.2 ≤ ops.length ∧ (∀ j, q.1 ≤ j → j < q.2 → cutsB ops (oE (ops.getD i oD)) j = false) ∧ (q.2 < ops.length → cutsB ops (oE (ops.getD i oD)) q.2 = true)) (fun q => q.1) (ops.length, ops.length) ⟨hi', Nat.le_refl _, Nat.le_refl _, fun j h1 h2 => by (try dsimp only at h1 h2); omega, fun h => absurd h (Nat.lt_irrefl _)⟩ sE sT2 ?_
    rintro ⟨p, t⟩ ⟨hp1, hp2, hp3, hp4, hp5⟩
    dsimp only at hp1 hp2 hp3 hp4 hp5 ⊢
    try refine go ⟨?_⟩
    refine WP.condD rfl (fun hq => ?_) (fun hq => ?_)
    · obtain ⟨m, rfl⟩ : ∃ m, p = m + 1 := ⟨p - 1, by omega⟩
      have em : ((m + 1 : Nat) : Int) - 1 = (m : Int) := by omega
      rw [em] at hq ⊢
      have hm' : m < ops.length := by omega
      try refine go ⟨?_⟩
      refine WP.cutK (σ := Unit) (fun _ => [(0, vL), (3, v), (4, .int .i64 i), (5, .int .i64 t), (6, .int .i64 m), (48, .bool (decide (cutsB ops (oE (ops.getD i oD)) m = true)))]) (fun _ => [Tok.own v (livK ops i)]) (fun _ => True) ?_ ?_
      · refine WP.draw [Tok.own v (livK ops i)] mixed ?_
        refine WPD.take 0 rfl (Op1.move rfl) rfl rfl sT kR kR kR xQP ?_
        refine WPD.take 1 rfl (Op1.move rfl) rfl rfl sT kR kR kR xQP ?_
        refine WPD.take 2 rfl (by first | exact (Op1.indexAddr rfl rfl rD lT) | exact (Op1.indexAddrZ rfl rfl rD lT)) rfl rfl sT kR kR kR xQP ?_
        refine WPD.take 3 rfl (by first | exact (Op1.fieldAddr rfl) | exact (Op1.fieldAddrE rfl rD lT)) rfl rfl sT kR kR kR xQP ?_
        refine WPD.take 4 rfl (by first | exact (Op1.load rfl mM (by rfl)) | exact (Op1.loadI rfl rD lT) | exact (Op1.loadAll rfl mM (by rfl)) | exact (Op1.loadE rfl rD lT (by rfl)) | exact (Op1.loadEAgg rfl rD lT (by rfl))) rfl rfl sT kR kR kR xQP ?_
        refine WPD.take 5 rfl (by first | exact (Op1.eqI rfl rfl) | exact (Op1.eqB rfl rfl) | exact (Op1.eqE rfl rfl) | exact (Op1.eqNil rfl rD)) rfl rfl sT kR kR kR xQP ?_
        refine WPD.take 6 rfl (Op1.move rfl) rfl rfl sT kR kR kR xQP ?_
        first | refine WPD.splitD 36 rfl (fun h36 => ?t7) (fun h36 => ?f7) | refine WPD.split 36 rfl (fun h36 => ?t7) (fun h36 => ?f7)
        case' t7 =>
          refine WPD.take 7 rfl (Op1.move rfl) rfl rfl sT kR kR kR xQP ?_
          refine WPD.take 8 rfl (Op1.move rfl) rfl rfl sT kR kR kR xQP ?_
          refine WPD.take 12 rfl (Op1.move rfl) rfl rfl sT kR kR kR xQP ?_
          refine WPD.take 13 rfl (Op1.move rfl) rfl rfl sT kR kR kR xQP ?_
          refine WPD.take 9 rfl (by first | exact (Op1.indexAddr rfl rfl rD lT) | exact (Op1.indexAddrZ rfl rfl rD lT)) rfl rfl sT kR kR kR xQP ?_
          refine WPD.take 14 rfl (by first | exact (Op1.indexAddr rfl rfl rD lT) | exact (Op1.indexAddrZ rfl rfl rD lT)) rfl rfl sT kR kR kR xQP ?_
          refine WPD.take 10 rfl (by first | exact (Op1.fieldAddr rfl) | exact (Op1.fieldAddrE rfl rD lT)) rfl rfl sT kR kR kR xQP ?_
          refine WPD.take 15 rfl (by first | exact (Op1.fieldAddr rfl) | exact (Op1.fieldAddrE rfl rD lT)) rfl rfl sT kR kR kR xQP ?_
          refine WPD.take 11 rfl (Op1.loadOE rfl rD lT) rfl rfl sT kR kR kR xQP ?_
          refine WPD.take 16 rfl (Op1.loadOE rfl rD lT) rfl rfl sT kR kR kR xQP ?_
          refine WPD.take 17 rfl (by first | exact (Op1.eqI rfl rfl) | exact (Op1.eqB rfl rfl) | exact (Op1.eqE rfl rfl) | exact (Op1.eqNil rfl rD)) rfl rfl sT kR kR kR xQP ?_
          refine WPD.take 18 rfl (by first | exact (Op1.pickT rfl rfl) | exact (Op1.pickF rfl rfl)) rfl rfl sT kR kR kR xQP ?_
          refine WPD.done kR ?_
        case' f7 =>
          refine WPD.skip 7 rfl rfl rfl sT kR kR kR xQP ?_
          refine WPD.skip 8 rfl rfl rfl sT kR kR kR xQP ?_
          refine WPD.skip 12 rfl rfl rfl sT kR kR kR xQP ?_
          refine WPD.skip 13 rfl rfl rfl sT kR kR kR xQP ?_
          refine WPD.skip 9 rfl rfl rfl sT kR kR kR xQP ?_
          refine WPD.skip 14 rfl rfl rfl sT kR kR kR xQP ?_
          refine WPD.skip 10 rfl rfl rfl sT kR kR kR xQP ?_
          refine WPD.skip 15 rfl rfl rfl sT kR kR kR xQP ?_
          refine WPD.skip 11 rfl rfl rfl sT kR kR kR xQP ?_
          refine WPD.skip 16 rfl rfl rfl sT kR kR kR xQP ?_
          refine WPD.skip 17 rfl rfl rfl sT kR kR kR xQP ?_
          refine WPD.take 18 rfl (by first | exact (Op1.pickT rfl rfl) | exact (Op1.pickF rfl rfl)) rfl rfl sT kR kR kR xQP ?_
          refine WPD.done kR ?_
        · rw [decide_eq_false (show ¬ cutsB ops (oE (ops.getD i oD)) m = true from fun h => h36 ((hcB m i).1 h).1)]
          refine PE.mid () trivial sE sT2
        · have e : decide (cutsB ops (oE (ops.getD i oD)) m = true) = decide (oE (ops.getD m oD) = oE (ops.getD i oD)) := by
            rw [decide_eq_decide, hcB]
            exact ⟨fun h => h.2, fun h => ⟨h36, h⟩⟩
          rw [e]
          refine PE.mid () trivial sE sT2
      rintro _ _
      refine WP.condD rfl (fun he => ?_) (fun he => ?_)
      · try refine go ⟨?_⟩
        refine PE.again (m, m) ?_ ?_ sE sT2
        · exact ⟨by (try dsimp only); omega, Nat.le_refl _, by (try dsimp only); omega, fun j h1 h2 => by (try dsimp only at h1 h2); omega, fun _ => he⟩
        · (try dsimp only); omega
      · try refine go ⟨?_⟩
        refine PE.again (m, t) ?_ ?_ sE sT2
        · refine ⟨by (try dsimp only); omega, by (try dsimp only); omega, hp3, fun j h1 h2 => ?_, hp5⟩
          rcases Nat.lt_or_ge m j with h3 | h3
          · exact hp4 j h3 h2
          · have : j = m := by (try dsimp only at h1); omega
            subst this
            cases hb : cutsB ops (oE (ops.getD i oD)) j
            · rfl
            · exact absurd hb he
        · (try dsimp only); omega
    · have hpi : p = i + 1 := by omega
      have hto : toOf ops i = t := toOf_unique hi' (by omega) hp3 (fun j h1 h2 => hp4 j (by omega) h2) hp5
      have hlf := hlf0 i t hto
      have hput := livK_put hK
      try refine go ⟨?_⟩
      refine WPL.pure (Op1.loadOE rfl rD lT) rfl rfl ?_
      try refine go ⟨?_⟩
      refine WPL.eff (OpE.buildSlice [(⟨(ops.getD i oD).A, (ops.getD i oD).B, i, t⟩ : Lif)] pA rfl (by decide)) rfl rfl ?_; rintro s1 _ rfl
      try refine go ⟨?_⟩
      refine WPL.eff (OpE.append rfl rfl pM rD lN) rfl rfl ?_; rintro v1 _ rfl
      rw [← hlf, ← hput]
      try refine go ⟨?_⟩
      refine PE.again (i + 1, v1) ?_ ?_ sE sT2
      · (try dsimp only); omega
      · (try dsimp only); omega
  · have hin : i = ops.length := by omega
    subst hin
    rw [hlall]
    try refine go ⟨?_⟩
    refine PE.ret1 (T := []) (T' := [Tok.own v (livs ops)]) rfl rV ?_ sT2
    rfl

theorem s_LivesOf (w : World) (n : Int) (vL : Value) (ops : List Oper1) (h : RL w vL ops) (hl : ops.length ≤ 1099511627776) :
    Tri Try.prog 39 [.int .i64 n, vL] w [] fun r T => ∃ v, r = .tuple #[v, .bool (decide (OV n ops))] ∧ T = [Tok.own v (livR n ops)] := by
  have bad : ¬ OV n ops → livR n ops = [] := fun h => if_neg h
  have good : OV n ops → livR n ops = livs ops := fun h => if_pos h
  have hle : OV n ops → ops.length ≤ 64 := fun h => h.le
  refine Tri.intro (hf := Try.func39) (hb := rfl) (hn := Try.ntmps39) (Nat.le_of_ble_eq_true rfl) ?_
  try refine go ⟨?_⟩
  refine WPL.eff (OpE.call lO (fun w hw => s_OpsValid _ n vL ops (Rd.at rD hw) hl)) rfl rfl ?_
  rintro _ _ ⟨T, ⟨rfl, rfl⟩, rfl⟩
  by_cases hv : OV n ops
  case neg =>
    rw [decide_eq_false hv, bad hv]
    try refine go ⟨?_⟩
    refine WPL.eff (OpE.buildSlice ([] : List Lif) pA rfl (by decide)) rfl rfl ?_; rintro s0 _ rfl
    try refine go ⟨?_⟩
    refine PE.ret2 (T := []) (T' := [Tok.own s0 ([] : List Lif)]) rfl rV ?_ sT2
    exact ⟨_, rfl, rfl⟩
  rw [decide_eq_true hv, good hv]
  try refine go ⟨?_⟩
  refine WPL.eff (OpE.call lO (fun w hw => s_Lives8 _ vL ops (Rd.at rD hw) (hle hv))) rfl rfl ?_
  rintro r _ ⟨T, rfl, rfl⟩
  try refine go ⟨?_⟩
  refine PE.ret2 (T := []) (T' := [Tok.own r (livs ops)]) rfl rV ?_ sT2
  exact ⟨_, rfl, rfl⟩
end Go.Proofs.Ytfigegmgopnfhaa
