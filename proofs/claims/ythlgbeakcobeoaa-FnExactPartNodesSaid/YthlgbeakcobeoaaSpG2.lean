/- Graphs: the walks of the second program's PutEdge, CutNode, parts, forests, bridges, safe parts. Conditions: those of each contract. -/
import Derived.Test.YthlgbeakcobeoaaSpG1
namespace Go.Proofs.Ythlgbeakcobeoaa
open Go
theorem mem_brs' {n : Int} {es : List E} {e : E} (he : e ∈ es) : e ∈ brs n es ↔ brB n es e = true := by unfold brs; rw [List.mem_filter]; exact ⟨fun h => h.2, fun h => ⟨he, h⟩⟩
set_option linter.unusedVariables false set_option linter.unusedSimpArgs false attribute [local irreducible] Tok.own Tok.blk RL Rd eptr WP WPL PE WPD WPO Op1 OpE Tri Again Mid Exit.then Exit.inBlock bodyPost RP Code.wp wpList isOwn OneM One
set_option maxHeartbeats 8000000

theorem s_CutNode (w : World) (n : Int) (vE : Value) (es : List E) (k : Int) (hE : RL w vE es) (hl : es.length ≤ 1099511627776) :
    Tri Try.prog 36 [.agg #[.int .i64 n, vE], .int .i64 k] w [] fun r T => (GN n es k ∧ yesG n (alone es k) r T) ∨ (¬ GN n es k ∧ noG r T) := by
  refine Tri.intro (hf := Try.func36) (hb := rfl) (hn := Try.ntmps36) (Nat.le_of_ble_eq_true rfl) ?_
  try refine go ⟨?_⟩
  refine WPL.eff (OpE.box rfl) rfl rfl ?_; rintro _ _ ⟨b, rfl, rfl⟩
  refine WPL.eff OpE.alloc rfl rfl ?_; rintro _ _ ⟨b4, rfl, rfl⟩
  try refine go ⟨?_⟩
  refine WPL.eff (OpE.call lO (fun w hw => s_GraphValid _ n vE es (Rd.at rD hw) hl)) rfl rfl ?_
  rintro r _ ⟨T, ⟨rfl, rfl⟩, rfl⟩
  repeat' (first | exact absurd rfl hc | refine go ⟨?_⟩ | (refine isCond ?_; refine WP.condD rfl (fun hc => ?_) (fun hc => ?_)) | (refine isGuard ?_; refine WPL.splitD rfl rfl (fun hc => ?_) (fun hc => ?_)))
  · refine PE.ret2 (T := []) (T' := []) rfl rV ?_ sT
    exact .inr ⟨fun h => hc h.1, rfl, rfl⟩
  · refine PE.ret2 (T := []) (T' := []) rfl rV ?_ sT
    exact .inr ⟨fun h => by have := h.2.1; omega, rfl, rfl⟩
  · refine PE.ret2 (T := []) (T' := []) rfl rV ?_ sT
    exact .inr ⟨fun h => by have := h.2.2; omega, rfl, rfl⟩
  · have hg : GV n es := Decidable.not_not.1 ‹¬¬GV n es›
    refine WPL.eff (OpE.call lO (fun w hw => s_Alone _ n vE es k (Rd.at rD hw) (by have := hg.ne.le; omega))) rfl rfl ?_
    rintro r _ ⟨T, ⟨v, rfl, rfl⟩, rfl⟩
    repeat' (first | exact absurd rfl hc | refine go ⟨?_⟩ | (refine isCond ?_; refine WP.condD rfl (fun hc => ?_) (fun hc => ?_)) | (refine isGuard ?_; refine WPL.splitD rfl rfl (fun hc => ?_) (fun hc => ?_)))
    refine PE.ret2 (T := []) (T' := [Tok.own v (alone es k)]) rfl rV ?_ sT
    exact .inl ⟨⟨hg, by omega, by omega⟩, v, rfl, rfl⟩

theorem s_PartNodes (w : World) (n : Int) (vE : Value) (es : List E) (x : Int) (hE : RL w vE es) (hl : es.length ≤ 1099511627776) :
    Tri Try.prog 21 [.agg #[.int .i64 n, vE], .int .i64 x] w [] fun r T => (GN n es x ∧ T = [Tok.own r (pns n es x)]) ∨ (¬ GN n es x ∧ T = [Tok.own r ([] : List Int)]) := by
  refine Tri.intro (hf := Try.func21) (hb := rfl) (hn := Try.ntmps21) (Nat.le_of_ble_eq_true rfl) ?_
  try refine go ⟨?_⟩
  refine WPL.eff (OpE.box rfl) rfl rfl ?_; rintro _ _ ⟨b, rfl, rfl⟩
  try refine go ⟨?_⟩
  refine WPL.eff (OpE.buildSlice ([] : List Int) pA rfl (by decide)) rfl rfl ?_; rintro s _ rfl
  try refine go ⟨?_⟩
  refine WPL.eff (OpE.call lO (fun w hw => s_Node2 _ n vE es x (Rd.at rD hw) hl)) rfl rfl ?_
  rintro r _ ⟨T, ⟨rfl, rfl⟩, rfl⟩
  repeat' (first | exact absurd rfl hc | refine go ⟨?_⟩ | (refine isCond ?_; refine WP.condD rfl (fun hc => ?_) (fun hc => ?_)) | (refine isGuard ?_; refine WPL.splitD rfl rfl (fun hc => ?_) (fun hc => ?_)))
  · refine PE.ret1 (T := []) (T' := [Tok.own s ([] : List Int)]) rfl rV ?_ sT
    exact .inr ⟨hc, rfl⟩
  have hg : GN n es x := Decidable.not_not.1 hc
  have hx1 := hg.2.1
  have hx2 := hg.2.2
  have hn1 := hg.1.ne.n1
  have hn2 := hg.1.ne.n2
  have hll := labs_length n es
  refine WPL.eff (OpE.call lO (fun w hw => s_Labels _ n vE es (Rd.at rD hw) hg.1.ne)) rfl rfl ?_
  rintro r _ ⟨T, rfl, rfl⟩
  try refine go ⟨?_⟩
  refine WP.loop (σ := Nat × Value) (fun k => [(1, .int .i64 x), (2, ptrV b), (5, k.2), (6, r), (7, .int .i64 k.1)]) (fun k => [Tok.own k.2 ((iota k.1).filter fun j => decide (lab n es j = lab n es x)), Tok.own r (labs n es), Tok.blk b [.int .i64 n, vE]]) (fun k => k.1 ≤ n.toNat) (fun k => n.toNat - k.1) (0, s) (Nat.zero_le _) sE sT ?_
  rintro ⟨k, v⟩ hk
  dsimp only at hk ⊢
  try refine go ⟨?_⟩
  refine WP.condD rfl (fun hc => ?_) (fun hc => ?_)
  · have hil : ((iota k).filter fun j => decide (lab n es j = lab n es x)).length ≤ k := by have := List.length_filter_le (fun j => decide (lab n es j = lab n es x)) (iota k); rw [iota_length] at this; exact this
    try refine go ⟨?_⟩
    refine WP.draw [Tok.own r (labs n es)] mixed ?_
    refine WPD.take 0 rfl (Op1.move rfl) rfl rfl sT kR kR kR xQP ?_
    refine WPD.take 1 rfl (Op1.move rfl) rfl rfl sT kR kR kR xQP ?_
    refine WPD.take 4 rfl (Op1.move rfl) rfl rfl sT kR kR kR xQP ?_
    refine WPD.take 5 rfl (Op1.move rfl) rfl rfl sT kR kR kR xQP ?_
    refine WPD.take 2 rfl (by first | exact (Op1.indexAddr rfl rfl rD lT) | exact (Op1.indexAddrZ rfl rfl rD lT)) rfl rfl sT kR kR kR xQP ?_
    refine WPD.take 6 rfl (by first | exact (Op1.indexAddr rfl rfl rD lT) | exact (Op1.indexAddrZ rfl rfl rD lT)) rfl rfl sT kR kR kR xQP ?_
    refine WPD.take 3 rfl (by first | exact (Op1.load rfl mM (by rfl)) | exact (Op1.loadI rfl rD lT) | exact (Op1.loadAll rfl mM (by rfl)) | exact (Op1.loadE rfl rD lT (by rfl)) | exact (Op1.loadEAgg rfl rD lT (by rfl))) rfl rfl sT kR kR kR xQP ?_
    refine WPD.take 7 rfl (by first | exact (Op1.load rfl mM (by rfl)) | exact (Op1.loadI rfl rD lT) | exact (Op1.loadAll rfl mM (by rfl)) | exact (Op1.loadE rfl rD lT (by rfl)) | exact (Op1.loadEAgg rfl rD lT (by rfl))) rfl rfl sT kR kR kR xQP ?_
    refine WPD.take 8 rfl (by first | exact (Op1.eqI rfl rfl) | exact (Op1.eqB rfl rfl) | exact (Op1.eqE rfl rfl) | exact (Op1.eqNil rfl rD)) rfl rfl sT kR kR kR xQP ?_
    refine WPD.done kR ?_
    try refine go ⟨?_⟩
    refine WP.condD rfl (fun heq => ?_) (fun heq => ?_)
    · try refine go ⟨?_⟩
      refine WPL.eff (OpE.buildSlice [(k : Int)] pA rfl (by decide)) rfl rfl ?_; rintro s1 _ rfl
      try refine go ⟨?_⟩
      refine WPL.eff (OpE.append rfl rfl pM rD lN) rfl rfl ?_; rintro v1 _ rfl
      try refine go ⟨?_⟩
      have e1 : (iota (k + 1)).filter (fun j => decide (lab n es j = lab n es x)) = (iota k).filter (fun j => decide (lab n es j = lab n es x)) ++ [(k : Int)] := by
        rw [iota_succ, List.filter_append]
        have : decide (lab n es (k : Int) = lab n es x) = true := decide_eq_true heq
        simp only [List.filter_cons, this, if_true, List.filter_nil]
      rw [← e1]
      refine PE.again (k + 1, v1) ?_ ?_ sE sT
      · dsimp only; omega
      · dsimp only; omega
    · try refine go ⟨?_⟩
      have e1 : (iota (k + 1)).filter (fun j => decide (lab n es j = lab n es x)) = (iota k).filter (fun j => decide (lab n es j = lab n es x)) := by
        rw [iota_succ, List.filter_append]
        have : decide (lab n es (k : Int) = lab n es x) = false := decide_eq_false heq
        simp only [List.filter_cons, this, Bool.false_eq_true, if_false, List.filter_nil, List.append_nil]
      rw [← e1]
      refine PE.again (k + 1, v) ?_ ?_ sE sT
      · dsimp only; omega
      · dsimp only; omega
  · have hkn : k = n.toNat := by omega
    subst hkn
    try refine go ⟨?_⟩
    refine PE.ret1 (T := []) (T' := [Tok.own v (pns n es x)]) rfl rV ?_ sT
    exact .inl ⟨hg, rfl⟩

end Go.Proofs.Ythlgbeakcobeoaa
