/- Graphs: the walks of the second program's PutEdge, CutNode, parts, forests, bridges, safe parts. Conditions: those of each contract. -/
import Derived.Test.YtocifflamgnhaaaSpG1
namespace Go.Proofs.Ytocifflamgnhaaa
open Go
theorem mem_brs' {n : Int} {es : List E} {e : E} (he : e ∈ es) : e ∈ brs n es ↔ brB n es e = true := by unfold brs; rw [List.mem_filter]; exact ⟨fun h => h.2, fun h => ⟨he, h⟩⟩
set_option linter.unusedVariables false set_option linter.unusedSimpArgs false attribute [local irreducible] Tok.own Tok.blk RL Rd eptr WP WPL PE WPD WPO Op1 OpE Tri Again Mid Exit.then Exit.inBlock bodyPost RP Code.wp wpList isOwn OneM One
set_option maxHeartbeats 8000000

theorem s_PutEdge (w : World) (n : Int) (vE : Value) (es : List E) (e : E) (hE : RL w vE es) (hl : es.length ≤ 1099511627776) :
    Tri Try.prog 68 [.agg #[.int .i64 n, vE], ep e] w [] fun r T => (putOk n es e ∧ yesG n (insE es e) r T) ∨ (¬ putOk n es e ∧ noG r T) := by
  refine Tri.intro (hf := Try.func68) (hb := rfl) (hn := Try.ntmps68) (Nat.le_of_ble_eq_true rfl) ?_
  try refine go ⟨?_⟩
  refine WPL.eff (OpE.box rfl) rfl rfl ?_; rintro _ _ ⟨b, rfl, rfl⟩
  try refine go ⟨?_⟩
  refine WPL.eff (OpE.box rfl) rfl rfl ?_; rintro _ _ ⟨b2, rfl, rfl⟩
  refine WPL.eff OpE.alloc rfl rfl ?_; rintro _ _ ⟨b4, rfl, rfl⟩
  try refine go ⟨?_⟩
  refine WPL.eff (OpE.call lO (fun w hw => s_GraphValid _ n vE es (Rd.at rD hw) hl)) rfl rfl ?_
  rintro r _ ⟨T, ⟨rfl, rfl⟩, rfl⟩
  repeat' (first | exact absurd rfl hc | refine go ⟨?_⟩ | (refine isCond ?_; refine WP.condD rfl (fun hc => ?_) (fun hc => ?_)) | (refine isGuard ?_; refine WPL.splitD rfl rfl (fun hc => ?_) (fun hc => ?_)))
  · refine PE.ret2 (T := []) (T' := []) rfl rV ?_ sT
    exact .inr ⟨fun h => hc h.1, rfl, rfl⟩
  have hg : GV n es := Decidable.not_not.1 hc
  have hle : es.length ≤ 1000 := hg.ne.le
  refine WPL.eff (OpE.call lO (fun w hw => s_Find _ vE e es (Rd.at rD hw) hl)) rfl rfl ?_
  rintro r _ ⟨T, ⟨rfl, hr⟩, rfl⟩
  rcases hr with ⟨hx, k, hk, rfl, _⟩ | ⟨hx, rfl⟩
  · repeat' (first | exact absurd rfl hc | refine go ⟨?_⟩ | (refine isCond ?_; refine WP.condD rfl (fun hc => ?_) (fun hc => ?_)) | (refine isGuard ?_; refine WPL.splitD rfl rfl (fun hc => ?_) (fun hc => ?_)))
    refine PE.ret2 (T := []) (T' := []) rfl rV ?_ sT
    exact .inr ⟨fun h => h.2.1 hx, rfl, rfl⟩
  try refine go ⟨?_⟩
  have hil : (insE es e).length ≤ 1099511627776 := by rw [insE_length]; omega
  refine WP.cutK (σ := Value × Nat) (fun s => [(4, .pointer (some ⟨b4, 0, none⟩)), (6, .pointer (some ⟨s.2, 0, none⟩))]) (fun s => [Tok.own s.1 (insE es e), Tok.blk s.2 [.int .i64 n, s.1], Tok.blk b4 [.int .i64 0, .slice none 0 0]]) (fun _ => True) ?_ ?_
  · refine WP.draw [Tok.blk b4 [.int .i64 0, .slice none 0 0], Tok.blk b2 [.int .i64 e.A, .int .i64 e.B], Tok.blk b [.int .i64 n, vE]] mixed ?_
    refine WPD.take 0 rfl (by first | exact (Op1.fieldAddr rfl) | exact (Op1.fieldAddrE rfl rD lT)) rfl rfl sT kR kR kR xQP ?_
    refine WPD.take 2 rfl (by first | exact (Op1.fieldAddr rfl) | exact (Op1.fieldAddrE rfl rD lT)) rfl rfl sT kR kR kR xQP ?_
    refine WPD.take 4 rfl (by first | exact (Op1.load rfl mM (by rfl)) | exact (Op1.loadI rfl rD lT) | exact (Op1.loadAll rfl mM (by rfl)) | exact (Op1.loadE rfl rD lT (by rfl)) | exact (Op1.loadEAgg rfl rD lT (by rfl))) rfl rfl sT kR kR kR xQP ?_
    refine WPD.take 1 rfl (by first | exact (Op1.load rfl mM (by rfl)) | exact (Op1.loadI rfl rD lT) | exact (Op1.loadAll rfl mM (by rfl)) | exact (Op1.loadE rfl rD lT (by rfl)) | exact (Op1.loadEAgg rfl rD lT (by rfl))) rfl rfl sT kR kR kR xQP ?_
    refine WPD.take 3 rfl (by first | exact (Op1.load rfl mM (by rfl)) | exact (Op1.loadI rfl rD lT) | exact (Op1.loadAll rfl mM (by rfl)) | exact (Op1.loadE rfl rD lT (by rfl)) | exact (Op1.loadEAgg rfl rD lT (by rfl))) rfl rfl sT kR kR kR xQP ?_
    refine WPD.two 5 7 kR ?e1_5 ?e1_7
    case' e1_5 =>
      refine WPO.eff rfl (OpE.call lO (fun w hw => s_Put _ vE e es (Rd.at rD hw) (by omega))) rfl rfl ?_
      rintro v _ ⟨T, rfl, rfl⟩
      refine ⟨sT, ?_⟩
      refine WPD.two 6 7 kR ?e2_6 ?e2_7
      case' e2_6 =>
        refine WPO.eff rfl (OpE.ofPure (Op1.build xBP (by rfl))) rfl rfl ?_
        rintro _ _ ⟨rfl, rfl⟩
        refine ⟨sT, ?_⟩
        refine WPD.eff 7 kR rfl OpE.alloc rfl rfl ?_
        rintro _ _ ⟨bo, rfl, rfl⟩
        refine ⟨sT, ?_⟩
        refine WPD.eff0 8 kR rfl (OpE.storeAll rfl rfl pM (by rfl) (by rfl) oN) rfl ?_
        rintro _ _ rfl
        refine ⟨sT, ?_⟩
        refine WPD.done kR ?_
      case' e2_7 =>
        refine WPO.eff rfl OpE.alloc rfl rfl ?_
        rintro _ _ ⟨bo, rfl, rfl⟩
        refine ⟨sT, ?_⟩
        refine WPD.eff 6 kR rfl (OpE.ofPure (Op1.build xBP (by rfl))) rfl rfl ?_
        rintro _ _ ⟨rfl, rfl⟩
        refine ⟨sT, ?_⟩
        refine WPD.eff0 8 kR rfl (OpE.storeAll rfl rfl pM (by rfl) (by rfl) oN) rfl ?_
        rintro _ _ rfl
        refine ⟨sT, ?_⟩
        refine WPD.done kR ?_
    case' e1_7 =>
      refine WPO.eff rfl OpE.alloc rfl rfl ?_
      rintro _ _ ⟨bo, rfl, rfl⟩
      refine ⟨sT, ?_⟩
      refine WPD.eff 5 kR rfl (OpE.call lO (fun w hw => s_Put _ vE e es (Rd.at rD hw) (by omega))) rfl rfl ?_
      rintro v _ ⟨T, rfl, rfl⟩
      refine ⟨sT, ?_⟩
      refine WPD.eff 6 kR rfl (OpE.ofPure (Op1.build xBP (by rfl))) rfl rfl ?_
      rintro _ _ ⟨rfl, rfl⟩
      refine ⟨sT, ?_⟩
      refine WPD.eff0 8 kR rfl (OpE.storeAll rfl rfl pM (by rfl) (by rfl) oN) rfl ?_
      rintro _ _ rfl
      refine ⟨sT, ?_⟩
      refine WPD.done kR ?_
    all_goals (rw [insP_eq hx]; refine PE.mid (v, bo) trivial sE sT)
  rintro ⟨v, bo⟩ _
  dsimp only
  try refine go ⟨?_⟩
  refine WPL.eff (OpE.call lO (fun w hw => s_GraphValid _ n v (insE es e) (Rd.at rD hw) hil)) rfl rfl ?_
  rintro r _ ⟨T, ⟨rfl, rfl⟩, rfl⟩
  repeat' (first | exact absurd rfl hc | refine go ⟨?_⟩ | (refine isCond ?_; refine WP.condD rfl (fun hc => ?_) (fun hc => ?_)) | (refine isGuard ?_; refine WPL.splitD rfl rfl (fun hc => ?_) (fun hc => ?_)))
  · refine PE.ret2 (T := []) (T' := []) rfl rV ?_ sT
    exact .inr ⟨fun h => absurd h.2.2 ‹_›, rfl, rfl⟩
  · refine PE.ret2 (T := []) (T' := [Tok.own v (insE es e)]) rfl rV ?_ sT
    exact .inl ⟨⟨hg, hx, Decidable.not_not.1 ‹¬¬GV n (insE es e)›⟩, v, rfl, rfl⟩

theorem s_CutNode (w : World) (n : Int) (vE : Value) (es : List E) (k : Int) (hE : RL w vE es) (hl : es.length ≤ 1099511627776) :
    Tri Try.prog 24 [.agg #[.int .i64 n, vE], .int .i64 k] w [] fun r T => (GN n es k ∧ yesG n (alone es k) r T) ∨ (¬ GN n es k ∧ noG r T) := by
  refine Tri.intro (hf := Try.func24) (hb := rfl) (hn := Try.ntmps24) (Nat.le_of_ble_eq_true rfl) ?_
  try refine go ⟨?_⟩
  refine WPL.eff (OpE.box rfl) rfl rfl ?_; rintro _ _ ⟨b, rfl, rfl⟩
  refine WPL.eff OpE.alloc rfl rfl ?_; rintro _ _ ⟨b4, rfl, rfl⟩
  try refine go ⟨?_⟩
  refine WPL.eff (OpE.call lO (fun w hw => s_GraphValid _ n vE es (Rd.at rD hw) hl)) rfl rfl ?_
  rintro r _ ⟨T, ⟨rfl, rfl⟩, rfl⟩
  repeat' (first | exact absurd rfl hc | refine go ⟨?_⟩ | (refine isCond ?_; refine WP.condD rfl (fun hc => ?_) (fun hc => ?_)) | (refine isGuard ?_; refine WPL.splitD rfl rfl (fun hc => ?_) (fun hc => ?_)))
  · refine PE.ret2 (T := []) (T' := []) rfl rV ?_ sT
    exact .inr ⟨fun h => hc h.1, rfl, rfl⟩
  · refine PE.ret2 (T := []) (T' := []) rfl rV ?_ sT
    exact .inr ⟨fun h => by have := h.2.1; omega, rfl, rfl⟩
  · refine PE.ret2 (T := []) (T' := []) rfl rV ?_ sT
    exact .inr ⟨fun h => by have := h.2.2; omega, rfl, rfl⟩
  · have hg : GV n es := Decidable.not_not.1 ‹¬¬GV n es›
    refine WPL.eff (OpE.call lO (fun w hw => s_Alone _ n vE es k (Rd.at rD hw) (by have := hg.ne.le; omega))) rfl rfl ?_
    rintro r _ ⟨T, ⟨v, rfl, rfl⟩, rfl⟩
    repeat' (first | exact absurd rfl hc | refine go ⟨?_⟩ | (refine isCond ?_; refine WP.condD rfl (fun hc => ?_) (fun hc => ?_)) | (refine isGuard ?_; refine WPL.splitD rfl rfl (fun hc => ?_) (fun hc => ?_)))
    refine PE.ret2 (T := []) (T' := [Tok.own v (alone es k)]) rfl rV ?_ sT
    exact .inl ⟨⟨hg, by omega, by omega⟩, v, rfl, rfl⟩

theorem s_PartsOf (w : World) (n : Int) (vE : Value) (es : List E) (hE : RL w vE es) (hl : es.length ≤ 1099511627776) :
    Tri Try.prog 38 [.agg #[.int .i64 n, vE]] w [] fun r T => (GV n es ∧ T = [Tok.own r (labs n es)]) ∨ (¬ GV n es ∧ T = [Tok.own r ([] : List Int)]) := by
  refine Tri.intro (hf := Try.func38) (hb := rfl) (hn := Try.ntmps38) (Nat.le_of_ble_eq_true rfl) ?_
  try refine go ⟨?_⟩
  refine WPL.eff (OpE.box rfl) rfl rfl ?_; rintro _ _ ⟨b, rfl, rfl⟩
  try refine go ⟨?_⟩
  refine WPL.eff (OpE.call lO (fun w hw => s_GraphValid _ n vE es (Rd.at rD hw) hl)) rfl rfl ?_
  rintro r _ ⟨T, ⟨rfl, rfl⟩, rfl⟩
  repeat' (first | exact absurd rfl hc | refine go ⟨?_⟩ | (refine isCond ?_; refine WP.condD rfl (fun hc => ?_) (fun hc => ?_)) | (refine isGuard ?_; refine WPL.splitD rfl rfl (fun hc => ?_) (fun hc => ?_)))
  · refine WPL.eff (OpE.buildSlice ([] : List Int) pA rfl (by decide)) rfl rfl ?_; rintro s _ rfl
    try refine go ⟨?_⟩
    refine PE.ret1 (T := []) (T' := [Tok.own s ([] : List Int)]) rfl rV ?_ sT
    exact .inr ⟨hc, rfl⟩
  · have hg : GV n es := Decidable.not_not.1 hc
    refine WPL.eff (OpE.call lO (fun w hw => s_Labels _ n vE es (Rd.at rD hw) hg.ne)) rfl rfl ?_
    rintro r _ ⟨T, rfl, rfl⟩
    repeat' (first | exact absurd rfl hc | refine go ⟨?_⟩ | (refine isCond ?_; refine WP.condD rfl (fun hc => ?_) (fun hc => ?_)) | (refine isGuard ?_; refine WPL.splitD rfl rfl (fun hc => ?_) (fun hc => ?_)))
    refine PE.ret1 (T := []) (T' := [Tok.own r (labs n es)]) rfl rV ?_ sT
    exact .inl ⟨hg, rfl⟩

theorem s_PartCount (w : World) (n : Int) (vE : Value) (es : List E) (hE : RL w vE es) (hl : es.length ≤ 1099511627776) :
    Tri Try.prog 65 [.agg #[.int .i64 n, vE]] w [] fun r T => r = .int .i64 (pcV n es) ∧ T = [] := by
  refine Tri.intro (hf := Try.func65) (hb := rfl) (hn := Try.ntmps65) (Nat.le_of_ble_eq_true rfl) ?_
  try refine go ⟨?_⟩
  refine WPL.eff (OpE.box rfl) rfl rfl ?_; rintro _ _ ⟨b, rfl, rfl⟩
  try refine go ⟨?_⟩
  refine WPL.eff (OpE.call lO (fun w hw => s_PartsOf _ n vE es (Rd.at rD hw) hl)) rfl rfl ?_
  rintro r _ ⟨T, hr, rfl⟩
  rcases hr with ⟨hg, rfl⟩ | ⟨hg, rfl⟩
  · have hn1 := hg.ne.n1
    have hn2 := hg.ne.n2
    have hll := labs_length n es
    try refine go ⟨?_⟩
    refine WP.loop (σ := Nat) (fun k => [(3, .int .i64 (((iota k).filter fun j => decide (lab n es j = j)).length : Nat)), (4, r), (5, .int .i64 k)]) (fun _ => [Tok.own r (labs n es)]) (fun k => k ≤ n.toNat) (fun k => n.toNat - k) 0 (Nat.zero_le _) sE sT ?_
    intro k hk
    try refine go ⟨?_⟩
    refine WP.condD rfl (fun hc => ?_) (fun hc => ?_)
    · have hil : ((iota k).filter fun j => decide (lab n es j = j)).length ≤ k := by have := List.length_filter_le (fun j => decide (lab n es j = j)) (iota k); rw [iota_length] at this; exact this
      repeat' (first | exact absurd rfl hc | refine go ⟨?_⟩ | (refine isCond ?_; refine WP.condD rfl (fun hc => ?_) (fun hc => ?_)) | (refine isGuard ?_; refine WPL.splitD rfl rfl (fun hc => ?_) (fun hc => ?_)))
      · have e1 : ((((iota k).filter fun j => decide (lab n es j = j)).length : Nat) : Int) + 1 = ((((iota (k + 1)).filter fun j => decide (lab n es j = j)).length : Nat) : Int) := by
          rw [iota_succ, List.filter_append]
          have : decide (lab n es (k : Int) = (k : Int)) = true := decide_eq_true hc
          simp only [List.filter_cons, this, if_true, List.filter_nil, List.length_append, List.length_singleton]; omega
        rw [e1]
        refine PE.again (k + 1) ?_ ?_ sE sT
        · omega
        · omega
      · have e1 : ((((iota k).filter fun j => decide (lab n es j = j)).length : Nat) : Int) = ((((iota (k + 1)).filter fun j => decide (lab n es j = j)).length : Nat) : Int) := by
          rw [iota_succ, List.filter_append]
          have : decide (lab n es (k : Int) = (k : Int)) = false := decide_eq_false hc
          simp only [List.filter_cons, this, Bool.false_eq_true, if_false, List.filter_nil, List.append_nil]
        rw [e1]
        refine PE.again (k + 1) ?_ ?_ sE sT
        · omega
        · omega
    · have hkn : k = n.toNat := by omega
      subst hkn
      try refine go ⟨?_⟩
      refine PE.ret1 (T := []) (T' := []) rfl rV ?_ sT
      exact ⟨by unfold pcV; rw [if_pos hg]; rfl, rfl⟩
  · try refine go ⟨?_⟩
    refine WP.loop (σ := Unit) (fun _ => [(3, .int .i64 0), (4, r), (5, .int .i64 0)]) (fun _ => [Tok.own r ([] : List Int)]) (fun _ => True) (fun _ => 0) () trivial sE sT ?_
    rintro ⟨⟩ _
    try refine go ⟨?_⟩
    refine PE.ret1 (T := []) (T' := []) rfl rV ?_ sT
    exact ⟨by unfold pcV; rw [if_neg hg], rfl⟩

theorem s_PartNodes (w : World) (n : Int) (vE : Value) (es : List E) (x : Int) (hE : RL w vE es) (hl : es.length ≤ 1099511627776) :
    Tri Try.prog 30 [.agg #[.int .i64 n, vE], .int .i64 x] w [] fun r T => (GN n es x ∧ T = [Tok.own r (pns n es x)]) ∨ (¬ GN n es x ∧ T = [Tok.own r ([] : List Int)]) := by
  refine Tri.intro (hf := Try.func30) (hb := rfl) (hn := Try.ntmps30) (Nat.le_of_ble_eq_true rfl) ?_
  try refine go ⟨?_⟩
  refine WPL.eff (OpE.box rfl) rfl rfl ?_; rintro _ _ ⟨b, rfl, rfl⟩
  try refine go ⟨?_⟩
  refine WPL.eff (OpE.buildSlice ([] : List Int) pA rfl (by decide)) rfl rfl ?_; rintro s _ rfl
  try refine go ⟨?_⟩
  refine WPL.eff (OpE.call lO (fun w hw => s_Node2 _ n vE es x (Rd.at rD hw) hl)) rfl rfl ?_
  rintro r _ ⟨T, ⟨rfl, rfl⟩, rfl⟩
  repeat' (first | exact absurd rfl hc | refine go ⟨?_⟩ | (refine isCond ?_; refine WP.condD rfl (fun hc => ?_) (fun hc => ?_)) | (refine isGuard ?_; refine WPL.splitD rfl rfl (fun hc => ?_) (fun hc => ?_)))
  · refine PE.ret1 (T := []) (T' := [Tok.own s ([] : List Int)]) rfl rV ?_ sT
    exact .inr ⟨hc, rfl⟩
  have hg : GN n es x := Decidable.not_not.1 hc
  have hx1 := hg.2.1
  have hx2 := hg.2.2
  have hn1 := hg.1.ne.n1
  have hn2 := hg.1.ne.n2
  have hll := labs_length n es
  refine WPL.eff (OpE.call lO (fun w hw => s_Labels _ n vE es (Rd.at rD hw) hg.1.ne)) rfl rfl ?_
  rintro r _ ⟨T, rfl, rfl⟩
  try refine go ⟨?_⟩
  refine WP.loop (σ := Nat × Value) (fun k => [(1, .int .i64 x), (2, ptrV b), (5, k.2), (6, r), (7, .int .i64 k.1)]) (fun k => [Tok.own k.2 ((iota k.1).filter fun j => decide (lab n es j = lab n es x)), Tok.own r (labs n es), Tok.blk b [.int .i64 n, vE]]) (fun k => k.1 ≤ n.toNat) (fun k => n.toNat - k.1) (0, s) (Nat.zero_le _) sE sT ?_
  rintro ⟨k, v⟩ hk
  dsimp only at hk ⊢
  try refine go ⟨?_⟩
  refine WP.condD rfl (fun hc => ?_) (fun hc => ?_)
  · have hil : ((iota k).filter fun j => decide (lab n es j = lab n es x)).length ≤ k := by have := List.length_filter_le (fun j => decide (lab n es j = lab n es x)) (iota k); rw [iota_length] at this; exact this
    try refine go ⟨?_⟩
    refine WP.draw [Tok.own r (labs n es)] mixed ?_
    refine WPD.take 0 rfl (Op1.move rfl) rfl rfl sT kR kR kR xQP ?_
    refine WPD.take 1 rfl (Op1.move rfl) rfl rfl sT kR kR kR xQP ?_
    refine WPD.take 4 rfl (Op1.move rfl) rfl rfl sT kR kR kR xQP ?_
    refine WPD.take 5 rfl (Op1.move rfl) rfl rfl sT kR kR kR xQP ?_
    refine WPD.take 2 rfl (by first | exact (Op1.indexAddr rfl rfl rD lT) | exact (Op1.indexAddrZ rfl rfl rD lT)) rfl rfl sT kR kR kR xQP ?_
    refine WPD.take 6 rfl (by first | exact (Op1.indexAddr rfl rfl rD lT) | exact (Op1.indexAddrZ rfl rfl rD lT)) rfl rfl sT kR kR kR xQP ?_
    refine WPD.take 3 rfl (by first | exact (Op1.load rfl mM (by rfl)) | exact (Op1.loadI rfl rD lT) | exact (Op1.loadAll rfl mM (by rfl)) | exact (Op1.loadE rfl rD lT (by rfl)) | exact (Op1.loadEAgg rfl rD lT (by rfl))) rfl rfl sT kR kR kR xQP ?_
    refine WPD.take 7 rfl (by first | exact (Op1.load rfl mM (by rfl)) | exact (Op1.loadI rfl rD lT) | exact (Op1.loadAll rfl mM (by rfl)) | exact (Op1.loadE rfl rD lT (by rfl)) | exact (Op1.loadEAgg rfl rD lT (by rfl))) rfl rfl sT kR kR kR xQP ?_
    refine WPD.take 8 rfl (by first | exact (Op1.eqI rfl rfl) | exact (Op1.eqB rfl rfl) | exact (Op1.eqE rfl rfl) | exact (Op1.eqNil rfl rD)) rfl rfl sT kR kR kR xQP ?_
    refine WPD.done kR ?_
    try refine go ⟨?_⟩
    refine WP.condD rfl (fun heq => ?_) (fun heq => ?_)
    · try refine go ⟨?_⟩
      refine WPL.eff (OpE.buildSlice [(k : Int)] pA rfl (by decide)) rfl rfl ?_; rintro s1 _ rfl
      try refine go ⟨?_⟩
      refine WPL.eff (OpE.append rfl rfl pM rD lN) rfl rfl ?_; rintro v1 _ rfl
      try refine go ⟨?_⟩
      have e1 : (iota (k + 1)).filter (fun j => decide (lab n es j = lab n es x)) = (iota k).filter (fun j => decide (lab n es j = lab n es x)) ++ [(k : Int)] := by
        rw [iota_succ, List.filter_append]
        have : decide (lab n es (k : Int) = lab n es x) = true := decide_eq_true heq
        simp only [List.filter_cons, this, if_true, List.filter_nil]
      rw [← e1]
      refine PE.again (k + 1, v1) ?_ ?_ sE sT
      · dsimp only; omega
      · dsimp only; omega
    · try refine go ⟨?_⟩
      have e1 : (iota (k + 1)).filter (fun j => decide (lab n es j = lab n es x)) = (iota k).filter (fun j => decide (lab n es j = lab n es x)) := by
        rw [iota_succ, List.filter_append]
        have : decide (lab n es (k : Int) = lab n es x) = false := decide_eq_false heq
        simp only [List.filter_cons, this, Bool.false_eq_true, if_false, List.filter_nil, List.append_nil]
      rw [← e1]
      refine PE.again (k + 1, v) ?_ ?_ sE sT
      · dsimp only; omega
      · dsimp only; omega
  · have hkn : k = n.toNat := by omega
    subst hkn
    try refine go ⟨?_⟩
    refine PE.ret1 (T := []) (T' := [Tok.own v (pns n es x)]) rfl rV ?_ sT
    exact .inl ⟨hg, rfl⟩

theorem s_Forest (w : World) (n : Int) (vE : Value) (es : List E) (hE : RL w vE es) (hg : NE n es) :
    Tri Try.prog 100 [.int .i64 n, vE] w [] fun r T => T = [Tok.own r (forestL n es)] := by
  have hl := hg.le
  refine Tri.intro (hf := Try.func100) (hb := rfl) (hn := Try.ntmps100) (Nat.le_of_ble_eq_true rfl) ?_
  try refine go ⟨?_⟩
  refine WPL.eff (OpE.buildSlice ([] : List E) pA rfl (by decide)) rfl rfl ?_; rintro s _ rfl
  try refine go ⟨?_⟩
  refine WP.loop (σ := Nat × Value) (fun k => [(0, .int .i64 n), (1, vE), (5, k.2), (6, .int .i64 k.1)]) (fun k => [Tok.own k.2 ((es.take k.1).foldl (fstep n) [])]) (fun k => k.1 ≤ es.length) (fun k => es.length - k.1) (0, s) (Nat.zero_le _) sE sT ?_
  rintro ⟨k, v⟩ hk
  dsimp only at hk ⊢
  try refine go ⟨?_⟩
  refine WP.condD rfl (fun hc => ?_) (fun hc => ?_)
  · have hk' : k < es.length := by omega
    have hs := foldl_takeS eD (fstep n) [] hk'
    have hF := hg.fold k
    have hF2 := hF.le
    obtain ⟨out, ho⟩ : ∃ out, out = (es.take k).foldl (fstep n) [] := ⟨_, rfl⟩
    rw [← ho] at hs hF hF2 ⊢
    obtain ⟨hA, hB⟩ := hg.ok (es.getD k eD) (getD_memI hk')
    try refine go ⟨?_⟩
    refine WP.draw [Tok.own v out] mixed ?_
    refine WPD.take 0 rfl (Op1.move rfl) rfl rfl sT kR kR kR xQP ?_
    refine WPD.take 1 rfl (Op1.move rfl) rfl rfl sT kR kR kR xQP ?_
    refine WPD.take 3 rfl (Op1.move rfl) rfl rfl sT kR kR kR xQP ?_
    refine WPD.take 4 rfl (Op1.move rfl) rfl rfl sT kR kR kR xQP ?_
    refine WPD.take 8 rfl (Op1.move rfl) rfl rfl sT kR kR kR xQP ?_
    refine WPD.take 9 rfl (Op1.move rfl) rfl rfl sT kR kR kR xQP ?_
    refine WPD.take 2 rfl (Op1.build xBP (by rfl)) rfl rfl sT kR kR kR xQP ?_
    refine WPD.take 5 rfl (by first | exact (Op1.indexAddr rfl rfl rD lT) | exact (Op1.indexAddrZ rfl rfl rD lT)) rfl rfl sT kR kR kR xQP ?_
    refine WPD.take 10 rfl (by first | exact (Op1.indexAddr rfl rfl rD lT) | exact (Op1.indexAddrZ rfl rfl rD lT)) rfl rfl sT kR kR kR xQP ?_
    refine WPD.take 6 rfl (by first | exact (Op1.fieldAddr rfl) | exact (Op1.fieldAddrE rfl rD lT)) rfl rfl sT kR kR kR xQP ?_
    refine WPD.take 11 rfl (by first | exact (Op1.fieldAddr rfl) | exact (Op1.fieldAddrE rfl rD lT)) rfl rfl sT kR kR kR xQP ?_
    refine WPD.take 7 rfl (by first | exact (Op1.load rfl mM (by rfl)) | exact (Op1.loadI rfl rD lT) | exact (Op1.loadAll rfl mM (by rfl)) | exact (Op1.loadE rfl rD lT (by rfl)) | exact (Op1.loadEAgg rfl rD lT (by rfl))) rfl rfl sT kR kR kR xQP ?_
    refine WPD.take 12 rfl (by first | exact (Op1.load rfl mM (by rfl)) | exact (Op1.loadI rfl rD lT) | exact (Op1.loadAll rfl mM (by rfl)) | exact (Op1.loadE rfl rD lT (by rfl)) | exact (Op1.loadEAgg rfl rD lT (by rfl))) rfl rfl sT kR kR kR xQP ?_
    refine WPD.eff 13 kR rfl (OpE.call lO (fun w hw => s_Joined _ n v out (es.getD k eD).A (es.getD k eD).B (Rd.at rD hw) hF hA hB)) rfl rfl ?_
    rintro r _ ⟨T, ⟨rfl, rfl⟩, rfl⟩
    refine ⟨sT, ?_⟩
    refine WPD.take 14 rfl (by first | exact (Op1.notD rfl) | exact (Op1.not rfl)) rfl rfl sT kR kR kR xQP ?_
    refine WPD.done kR ?_
    repeat' (first | exact absurd rfl hc | refine go ⟨?_⟩ | (refine isCond ?_; refine WP.condD rfl (fun hc => ?_) (fun hc => ?_)) | (refine isGuard ?_; refine WPL.splitD rfl rfl (fun hc => ?_) (fun hc => ?_)))
    · refine WPL.eff (OpE.buildSlice [es.getD k eD] pA rfl (by decide)) rfl rfl ?_; rintro s1 _ rfl
      try refine go ⟨?_⟩
      refine WPL.eff (OpE.append rfl rfl pM rD lN) rfl rfl ?_; rintro v1 _ rfl
      try refine go ⟨?_⟩
      have e1 : out ++ [es.getD k eD] = (es.take (k + 1)).foldl (fstep n) [] := by rw [hs, fstep, if_neg hc]
      rw [e1]
      refine PE.again (k + 1, v1) ?_ ?_ sE sT
      · dsimp only; omega
      · dsimp only; omega
    · have e1 : out = (es.take (k + 1)).foldl (fstep n) [] := by rw [hs, fstep, if_pos (Decidable.not_not.1 hc)]
      rw [e1]
      refine PE.again (k + 1, v) ?_ ?_ sE sT
      · dsimp only; omega
      · dsimp only; omega
  · have hkn : k = es.length := by omega
    subst hkn
    rw [List.take_length]
    try refine go ⟨?_⟩
    refine PE.ret1 (T := []) (T' := [Tok.own v (forestL n es)]) rfl rV ?_ sT
    rfl

theorem s_ForestOf (w : World) (n : Int) (vE : Value) (es : List E) (hE : RL w vE es) (hl : es.length ≤ 1099511627776) :
    Tri Try.prog 54 [.agg #[.int .i64 n, vE]] w [] fun r T => (GV n es ∧ T = [Tok.own r (forestL n es)]) ∨ (¬ GV n es ∧ T = [Tok.own r ([] : List E)]) := by
  refine Tri.intro (hf := Try.func54) (hb := rfl) (hn := Try.ntmps54) (Nat.le_of_ble_eq_true rfl) ?_
  try refine go ⟨?_⟩
  refine WPL.eff (OpE.box rfl) rfl rfl ?_; rintro _ _ ⟨b, rfl, rfl⟩
  try refine go ⟨?_⟩
  refine WPL.eff (OpE.call lO (fun w hw => s_GraphValid _ n vE es (Rd.at rD hw) hl)) rfl rfl ?_
  rintro r _ ⟨T, ⟨rfl, rfl⟩, rfl⟩
  repeat' (first | exact absurd rfl hc | refine go ⟨?_⟩ | (refine isCond ?_; refine WP.condD rfl (fun hc => ?_) (fun hc => ?_)) | (refine isGuard ?_; refine WPL.splitD rfl rfl (fun hc => ?_) (fun hc => ?_)))
  · refine WPL.eff (OpE.buildSlice ([] : List E) pA rfl (by decide)) rfl rfl ?_; rintro s _ rfl
    try refine go ⟨?_⟩
    refine PE.ret1 (T := []) (T' := [Tok.own s ([] : List E)]) rfl rV ?_ sT
    exact .inr ⟨hc, rfl⟩
  · have hg : GV n es := Decidable.not_not.1 hc
    refine WPL.eff (OpE.call lO (fun w hw => s_Forest _ n vE es (Rd.at rD hw) hg.ne)) rfl rfl ?_
    rintro r _ ⟨T, rfl, rfl⟩
    repeat' (first | exact absurd rfl hc | refine go ⟨?_⟩ | (refine isCond ?_; refine WP.condD rfl (fun hc => ?_) (fun hc => ?_)) | (refine isGuard ?_; refine WPL.splitD rfl rfl (fun hc => ?_) (fun hc => ?_)))
    refine PE.ret1 (T := []) (T' := [Tok.own r (forestL n es)]) rfl rV ?_ sT
    exact .inl ⟨hg, rfl⟩
end Go.Proofs.Ytocifflamgnhaaa
