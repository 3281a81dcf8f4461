/- The law FnBridgePut: its walk. Conditions: those of the theorem. -/
import Derived.Test.YtocifflamgnhaaaLPartCount
import Derived.Test.YtocifflamgnhaaaLPartsOf
namespace Go.Proofs.Ytocifflamgnhaaa
open Go
theorem same_self (n : Int) (l : List E) : decide (n = n ∧ l = l) = true := decide_eq_true ⟨rfl, rfl⟩
theorem beq_nn (d : Bool) : (d == !(!d)) = true := by cases d <;> rfl
theorem brs_ins {n : Int} {es : List E} {e f : E} (hk : putOk n es e) (hf : f ∈ brs n (insE es e)) (hne : f ≠ e) : f ∈ brs n es := by
  have h1 := (mem_brs hk.gv.okE).1 hf
  have hfe : f ∈ es := (mem_insE.1 h1.1).resolve_left hne
  exact (mem_brs hk.1.okE).2 ⟨hfe, fun hc => h1.2 (hc.mono fun g hg => mem_rem.2 ⟨mem_insE.2 (.inr (mem_rem.1 hg).1), (mem_rem.1 hg).2⟩)⟩
theorem brs_self {n : Int} {es : List E} {e : E} (hk : putOk n es e) : decide (CN n es e.A e.B) = !decide (e ∈ brs n (insE es e)) := by
  have h1 := CN_iff hk.1 hk.nd.1 hk.nd.2
  have h2 : e ∈ brs n (insE es e) ↔ ¬ Conn es e.A e.B := by
    rw [mem_brs hk.gv.okE, conn_rem_ins hk.2.1]
    exact ⟨fun h => h.2, fun h => ⟨mem_insE.2 (.inl rfl), h⟩⟩
  by_cases hc : Conn es e.A e.B
  · rw [decide_eq_true (h1.2 hc), decide_eq_false fun h => h2.1 h hc]; rfl
  · rw [decide_eq_false fun h => hc (h1.1 h), decide_eq_true (h2.2 hc)]; rfl
theorem brs_len (n : Int) (es : List E) : (brs n es).length ≤ es.length := List.length_filter_le _ _
set_option linter.unusedVariables false set_option linter.unusedSimpArgs false attribute [local irreducible] Tok.own Tok.blk RL Rd eptr WP WPL PE WPD WPO Op1 OpE Tri Again Mid Exit.then Exit.inBlock bodyPost RP Code.wp wpList isOwn OneM One
attribute [local irreducible] CN putOk
set_option maxHeartbeats 8000000

theorem l_BridgePut (w : World) (v : Value) (bs : List UInt8) (h : RL w v bs) (hl : bs.length ≤ 9223372036854775807) :
    Tri Try.prog 17 [v] w [] fun r T => r = .bool true := by
  have gvOf : ∀ {n : Int} {es : List E} {e : E}, putOk n es e → GV n es := fun h => by unfold putOk at h; exact h.1
  refine Tri.intro (hf := Try.func17) (hb := rfl) (hn := Try.ntmps17) (Nat.le_of_ble_eq_true rfl) ?_
  repeat' (first | exact absurd rfl hc | refine go ⟨?_⟩ | (refine isCond ?_; refine WP.condD rfl (fun hc => ?_) (fun hc => ?_)) | (refine isGuard ?_; refine WPL.splitD rfl rfl (fun hc => ?_) (fun hc => ?_)))
  · refine PE.ret1 (T := []) (T' := []) rfl rV ?_ sT
    rfl
  refine WPL.eff (OpE.call lO (fun w hw => g_PutEdge _ v bs (Rd.at rD hw) hl)) rfl rfl ?_
  rintro r _ ⟨T, ⟨u, n, es, e, rfl, rfl, hle⟩, rfl⟩
  try refine go ⟨?_⟩
  refine WPL.eff OpE.alloc rfl rfl ?_; rintro _ _ ⟨b3, rfl, rfl⟩
  try refine go ⟨?_⟩
  refine WPL.eff OpE.alloc rfl rfl ?_; rintro _ _ ⟨b4, rfl, rfl⟩
  try refine go ⟨?_⟩
  refine WPL.eff (OpE.call lO (fun w hw => u_PutEdge _ n u es e (Rd.at rD hw) (by omega))) rfl rfl ?_
  rintro _ _ ⟨T, ⟨q, rfl, rfl⟩, rfl⟩
  try refine go ⟨?_⟩
  refine WPL.eff OpE.alloc rfl rfl ?_; rintro _ _ ⟨b5, rfl, rfl⟩
  try refine go ⟨?_⟩
  refine WPL.eff (OpE.call lO (fun w hw => v_PutEdge _ n u es e (Rd.at rD hw) (by omega))) rfl rfl ?_
  rintro _ _ ⟨T, ⟨q2, rfl, rfl⟩, rfl⟩
  try refine go ⟨?_⟩
  refine WPL.eff OpE.alloc rfl rfl ?_; rintro _ _ ⟨b7, rfl, rfl⟩
  by_cases hk : putOk n es e
  case neg =>
    rw [if_neg hk, if_neg hk, decide_eq_false hk]
    try refine go ⟨?_⟩
    refine WPL.eff (OpE.call lO (fun w hw => c_GraphSame _ 0 0 q q2 [] [] (Rd.at rD hw) (Rd.at rD hw) (by decide) (by decide))) rfl rfl ?_
    rintro _ _ ⟨T, ⟨rfl, rfl⟩, rfl⟩
    rw [same_self]
    try refine go ⟨?_⟩
    refine WPL.eff (OpE.call lO (fun w hw => c_GraphSame _ 0 0 q q2 [] [] (Rd.at rD hw) (Rd.at rD hw) (by decide) (by decide))) rfl rfl ?_
    rintro _ _ ⟨T, ⟨rfl, rfl⟩, rfl⟩
    rw [same_self]
    try refine go ⟨?_⟩
    refine PE.ret1 (T := []) (T' := []) rfl rV ?_ sT
    rfl
  have hg := gvOf hk
  have hil := insE_length es e
  have l1 := brs_len n es
  have l2 := brs_len n (insE es e)
  rw [if_pos hk, if_pos hk, decide_eq_true hk]
  try refine go ⟨?_⟩
  refine WPL.eff (OpE.call lO (fun w hw => c_GraphSame _ n n q q2 (insE es e) (insE es e) (Rd.at rD hw) (Rd.at rD hw) (by omega) (by omega))) rfl rfl ?_
  rintro _ _ ⟨T, ⟨rfl, rfl⟩, rfl⟩
  rw [same_self]
  try refine go ⟨?_⟩
  refine WPL.eff (OpE.call lO (fun w hw => u_BridgesOf _ n u es (Rd.at rD hw) (by omega))) rfl rfl ?_
  rintro r9 _ ⟨T, rfl, rfl⟩
  rw [if_pos hg]
  try refine go ⟨?_⟩
  refine WPL.eff (OpE.call lO (fun w hw => u_BridgesOf _ n q (insE es e) (Rd.at rD hw) (by omega))) rfl rfl ?_
  rintro r10 _ ⟨T, rfl, rfl⟩
  rw [if_pos hk.gv]
  try refine go ⟨?_⟩
  refine WP.loop (σ := Nat) (fun k => [(3, ptrV b3), (4, ptrV b4), (9, r9), (10, r10), (11, .int .i64 k)]) (fun _ => [Tok.own r10 (brs n (insE es e)), Tok.own r9 (brs n es), Tok.blk b4 [.int .i64 e.A, .int .i64 e.B], Tok.blk b3 [.int .i64 n, u], Tok.own u es]) (fun k => k ≤ (brs n (insE es e)).length) (fun k => (brs n (insE es e)).length - k) 0 (Nat.zero_le _) sE sT2 ?_
  rintro k hkk
  try refine go ⟨?_⟩
  refine WP.condD rfl (fun hc => ?_) (fun hc => ?_)
  · have hk' : k < (brs n (insE es e)).length := by omega
    have hm := getD_memI (d := (Enc.d : E)) hk'
    have hsub := fun h => brs_ins hk hm h
    try refine go ⟨?_⟩
    refine WP.draw [Tok.own r10 (brs n (insE es e)), Tok.own r9 (brs n es), Tok.blk b4 [.int .i64 e.A, .int .i64 e.B]] mixed ?_
    refine WPD.take 0 rfl (Op1.move rfl) rfl rfl sT kR kR kR xQP ?_
    refine WPD.take 1 rfl (Op1.move rfl) rfl rfl sT kR kR kR xQP ?_
    refine WPD.take 4 rfl (by first | exact (Op1.load rfl mM (by rfl)) | exact (Op1.loadI rfl rD lT) | exact (Op1.loadAll rfl mM (by rfl)) | exact (Op1.loadE rfl rD lT (by rfl)) | exact (Op1.loadEAgg rfl rD lT (by rfl))) rfl rfl sT kR kR kR xQP ?_
    refine WPD.take 2 rfl (by first | exact (Op1.indexAddr rfl rfl rD lT) | exact (Op1.indexAddrZ rfl rfl rD lT)) rfl rfl sT kR kR kR xQP ?_
    refine WPD.take 3 rfl (by first | exact (Op1.load rfl mM (by rfl)) | exact (Op1.loadI rfl rD lT) | exact (Op1.loadAll rfl mM (by rfl)) | exact (Op1.loadE rfl rD lT (by rfl)) | exact (Op1.loadEAgg rfl rD lT (by rfl))) rfl rfl sT kR kR kR xQP ?_
    refine WPD.take 5 rfl (by first | exact (Op1.neI rfl rfl) | exact (Op1.neB rfl rfl) | exact (Op1.neE rfl rfl)) rfl rfl sT kR kR kR xQP ?_
    refine WPD.take 6 rfl (Op1.move rfl) rfl rfl sT kR kR kR xQP ?_
    first | refine WPD.splitD 69 rfl (fun h69 => ?t1) (fun h69 => ?f1) | refine WPD.split 69 rfl (fun h69 => ?t1) (fun h69 => ?f1)
    case' t1 =>
      refine WPD.take 7 rfl (Op1.move rfl) rfl rfl sT kR kR kR xQP ?_
      refine WPD.take 8 rfl (Op1.move rfl) rfl rfl sT kR kR kR xQP ?_
      refine WPD.take 9 rfl (Op1.move rfl) rfl rfl sT kR kR kR xQP ?_
      refine WPD.take 10 rfl (by first | exact (Op1.indexAddr rfl rfl rD lT) | exact (Op1.indexAddrZ rfl rfl rD lT)) rfl rfl sT kR kR kR xQP ?_
      refine WPD.take 11 rfl (by first | exact (Op1.load rfl mM (by rfl)) | exact (Op1.loadI rfl rD lT) | exact (Op1.loadAll rfl mM (by rfl)) | exact (Op1.loadE rfl rD lT (by rfl)) | exact (Op1.loadEAgg rfl rD lT (by rfl))) rfl rfl sT kR kR kR xQP ?_
      refine WPD.eff 12 kR rfl (OpE.call lO (fun w hw => y_Has _ r9 ((brs n (insE es e)).getD k (Enc.d : E)) (brs n es) (Rd.at rD hw) (by omega))) rfl rfl ?_
      rintro r _ ⟨T, ⟨rfl, rfl⟩, rfl⟩
      rw [decide_eq_true (hsub h69)]
      refine ⟨sT, ?_⟩
      refine WPD.eff 13 kR rfl (OpE.ofPure (by first | exact (Op1.notD rfl) | exact (Op1.not rfl))) rfl rfl ?_
      rintro _ _ ⟨rfl, rfl⟩
      refine ⟨sT, ?_⟩
      refine WPD.eff 14 kR rfl (OpE.ofPure (by first | exact (Op1.pickT rfl rfl) | exact (Op1.pickF rfl rfl))) rfl rfl ?_
      rintro _ _ ⟨rfl, rfl⟩
      refine ⟨sT, ?_⟩
      refine WPD.done kR ?_
    case' f1 =>
      refine WPD.skip 7 rfl rfl rfl sT kR kR kR xQP ?_
      refine WPD.skip 8 rfl rfl rfl sT kR kR kR xQP ?_
      refine WPD.skip 9 rfl rfl rfl sT kR kR kR xQP ?_
      refine WPD.skip 10 rfl rfl rfl sT kR kR kR xQP ?_
      refine WPD.skip 11 rfl rfl rfl sT kR kR kR xQP ?_
      refine WPD.skip 12 rfl rfl rfl sT kR kR kR xQP ?_
      refine WPD.skip 13 rfl rfl rfl sT kR kR kR xQP ?_
      refine WPD.eff 14 kR rfl (OpE.ofPure (by first | exact (Op1.pickT rfl rfl) | exact (Op1.pickF rfl rfl))) rfl rfl ?_
      rintro _ _ ⟨rfl, rfl⟩
      refine ⟨sT, ?_⟩
      refine WPD.done kR ?_
    all_goals (
      try refine go ⟨?_⟩
      refine PE.again (k + 1) ?_ ?_ sE sT2
      · (try dsimp only); omega
      · (try dsimp only); omega)
  try refine go ⟨?_⟩
  refine WP.draw [Tok.own r10 (brs n (insE es e)), Tok.blk b4 [.int .i64 e.A, .int .i64 e.B], Tok.blk b3 [.int .i64 n, u]] mixed ?_
  refine WPD.take 0 rfl (Op1.move rfl) rfl rfl sT kR kR kR xQP ?_
  refine WPD.take 1 rfl (by first | exact (Op1.load rfl mM (by rfl)) | exact (Op1.loadI rfl rD lT) | exact (Op1.loadAll rfl mM (by rfl)) | exact (Op1.loadE rfl rD lT (by rfl)) | exact (Op1.loadEAgg rfl rD lT (by rfl))) rfl rfl sT kR kR kR xQP ?_
  refine WPD.take 3 rfl (by first | exact (Op1.load rfl mM (by rfl)) | exact (Op1.loadI rfl rD lT) | exact (Op1.loadAll rfl mM (by rfl)) | exact (Op1.loadE rfl rD lT (by rfl)) | exact (Op1.loadEAgg rfl rD lT (by rfl))) rfl rfl sT kR kR kR xQP ?_
  refine WPD.take 4 rfl (by first | exact (Op1.fieldAddr rfl) | exact (Op1.fieldAddrE rfl rD lT)) rfl rfl sT kR kR kR xQP ?_
  refine WPD.take 6 rfl (by first | exact (Op1.fieldAddr rfl) | exact (Op1.fieldAddrE rfl rD lT)) rfl rfl sT kR kR kR xQP ?_
  refine WPD.take 5 rfl (by first | exact (Op1.load rfl mM (by rfl)) | exact (Op1.loadI rfl rD lT) | exact (Op1.loadAll rfl mM (by rfl)) | exact (Op1.loadE rfl rD lT (by rfl)) | exact (Op1.loadEAgg rfl rD lT (by rfl))) rfl rfl sT kR kR kR xQP ?_
  refine WPD.take 7 rfl (by first | exact (Op1.load rfl mM (by rfl)) | exact (Op1.loadI rfl rD lT) | exact (Op1.loadAll rfl mM (by rfl)) | exact (Op1.loadE rfl rD lT (by rfl)) | exact (Op1.loadEAgg rfl rD lT (by rfl))) rfl rfl sT kR kR kR xQP ?_
  refine WPD.eff 2 kR rfl (OpE.call lO (fun w hw => y_Has _ r10 e (brs n (insE es e)) (Rd.at rD hw) (by omega))) rfl rfl ?_
  rintro r _ ⟨T, ⟨rfl, rfl⟩, rfl⟩
  refine ⟨sT, ?_⟩
  refine WPD.eff 8 kR rfl (OpE.call lO (fun w hw => c_Connected _ n u es e.A e.B (Rd.at rD hw) (by omega))) rfl rfl ?_
  rintro r _ ⟨T, ⟨rfl, rfl⟩, rfl⟩
  rw [brs_self hk]
  refine ⟨sT, ?_⟩
  refine WPD.eff 9 kR rfl (OpE.ofPure (by first | exact (Op1.notD rfl) | exact (Op1.not rfl))) rfl rfl ?_
  rintro _ _ ⟨rfl, rfl⟩
  refine ⟨sT, ?_⟩
  refine WPD.eff 10 kR rfl (OpE.ofPure (by first | exact (Op1.eqI rfl rfl) | exact (Op1.eqB rfl rfl) | exact (Op1.eqE rfl rfl) | exact (Op1.eqNil rfl rD))) rfl rfl ?_
  rintro _ _ ⟨rfl, rfl⟩
  refine ⟨sT, ?_⟩
  refine WPD.eff 11 kR rfl (OpE.ofPure (Op1.assign rfl)) rfl rfl ?_
  rintro _ _ ⟨rfl, rfl⟩
  refine ⟨sT, ?_⟩
  refine WPD.done kR ?_
  rw [beq_nn]
  try refine go ⟨?_⟩
  refine PE.ret1 (T := []) (T' := []) rfl rV ?_ sT
  rfl
end Go.Proofs.Ytocifflamgnhaaa
