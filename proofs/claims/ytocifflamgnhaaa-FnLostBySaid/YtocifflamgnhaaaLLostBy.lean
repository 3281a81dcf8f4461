/- The law FnLostBy: its walk. Conditions: those of the theorem. -/
import Derived.Test.YtocifflamgnhaaaGraB
import Derived.Test.YtocifflamgnhaaaLBridgePut
import Derived.Test.YtocifflamgnhaaaLCutBetween
namespace Go.Proofs.Ytocifflamgnhaaa
open Go
theorem lost_dec {n : Int} {es : List E} {e f : E} (hk : putOk n es e) (hf : f ∈ brs n es) : (decide (HE n (insE es e) f) && brB n (insE es e) f) = !decide (f ∈ lostL n es e) := by
  obtain ⟨hfe, hb⟩ := List.mem_filter.1 hf
  have h3 : f ∈ insE es e := mem_insE.2 (.inr hfe)
  have h1 : decide (HE n (insE es e) f) = true := decide_eq_true ⟨hk.gv, h3⟩
  have h2 : f ∈ lostL n es e ↔ brB n (insE es e) f = false := by
    unfold lostL bonly
    rw [List.mem_filter, hb, decide_eq_true h3]
    cases brB n (insE es e) f <;> simp [hfe]
  rw [h1, Bool.true_and]
  cases hx : brB n (insE es e) f
  · rw [decide_eq_true (h2.2 hx)]; rfl
  · rw [decide_eq_false fun h => by rw [h2.1 h] at hx; cases hx]; rfl
theorem put_dec {n : Int} {es : List E} {e : E} (hk : putOk n es e) : (decide (HE n (insE es e) e) && brB n (insE es e) e) = !decide (CN n es e.A e.B) := by
  have h1 : decide (HE n (insE es e) e) = true := decide_eq_true ⟨hk.gv, mem_insE.2 (.inl rfl)⟩
  rw [h1, Bool.true_and]
  unfold brB
  congr 1
  rw [decide_eq_decide, CN_iff hk.1 hk.nd.1 hk.nd.2, cn_iff (hk.gv.okE.rem e) hk.nd.1 hk.nd.2, conn_rem_ins hk.2.1]
set_option linter.unusedVariables false set_option linter.unusedSimpArgs false attribute [local irreducible] Tok.own Tok.blk RL Rd eptr WP WPL PE WPD WPO Op1 OpE Tri Again Mid Exit.then Exit.inBlock bodyPost RP Code.wp wpList isOwn OneM One
attribute [local irreducible] CN putOk HE
set_option maxHeartbeats 8000000

theorem l_LostBy (w : World) (v : Value) (bs : List UInt8) (h : RL w v bs) (hl : bs.length ≤ 9223372036854775807) :
    Tri Try.prog 19 [v] w [] fun r T => r = .bool true := by
  have gvOf : ∀ {n : Int} {es : List E} {e : E}, putOk n es e → GV n es := fun h => by unfold putOk at h; exact h.1
  refine Tri.intro (hf := Try.func19) (hb := rfl) (hn := Try.ntmps19) (Nat.le_of_ble_eq_true rfl) ?_
  repeat' (first | exact absurd rfl hc | refine go ⟨?_⟩ | (refine isCond ?_; refine WP.condD rfl (fun hc => ?_) (fun hc => ?_)) | (refine isGuard ?_; refine WPL.splitD rfl rfl (fun hc => ?_) (fun hc => ?_)))
  · refine PE.ret1 (T := []) (T' := []) rfl rV ?_ sT
    rfl
  refine WPL.eff (OpE.call lO (fun w hw => g_LostBy _ v bs (Rd.at rD hw) hl)) rfl rfl ?_
  rintro r _ ⟨T, ⟨u, n, es, e, rfl, rfl, hle⟩, rfl⟩
  try refine go ⟨?_⟩
  refine WPL.eff OpE.alloc rfl rfl ?_; rintro _ _ ⟨b3, rfl, rfl⟩
  try refine go ⟨?_⟩
  refine WPL.eff OpE.alloc rfl rfl ?_; rintro _ _ ⟨b4, rfl, rfl⟩
  try refine go ⟨?_⟩
  refine WPL.eff (OpE.call lO (fun w hw => u_LostBy _ n u es e (Rd.at rD hw) (by omega))) rfl rfl ?_
  rintro _ _ ⟨T, ⟨q, rfl, rfl⟩, rfl⟩
  try refine go ⟨?_⟩
  refine WPL.eff (OpE.call lO (fun w hw => v_LostBy _ n u es e (Rd.at rD hw) (by omega))) rfl rfl ?_
  rintro _ _ ⟨T, ⟨q2, rfl, rfl⟩, rfl⟩
  by_cases hk : putOk n es e
  case neg =>
    rw [if_neg hk, decide_eq_false hk]
    try refine go ⟨?_⟩
    refine WPL.eff (OpE.call lO (fun w hw => y_Edges _ q q2 [] [] (Rd.at rD hw) (Rd.at rD hw) (by decide) (by decide))) rfl rfl ?_
    rintro _ _ ⟨T, ⟨rfl, rfl⟩, rfl⟩
    rw [deq_E]
    try refine go ⟨?_⟩
    refine WPL.eff (OpE.call lO (fun w hw => y_Edges _ q q2 [] [] (Rd.at rD hw) (Rd.at rD hw) (by decide) (by decide))) rfl rfl ?_
    rintro _ _ ⟨T, ⟨rfl, rfl⟩, rfl⟩
    rw [deq_E]
    try refine go ⟨?_⟩
    refine PE.ret1 (T := []) (T' := []) rfl rV ?_ sT
    rfl
  have hg := gvOf hk
  have hil := insE_length es e
  have l1 : (lostL n es e).length ≤ es.length := List.length_filter_le _ _
  rw [if_pos hk, decide_eq_true hk]
  try refine go ⟨?_⟩
  refine WPL.eff (OpE.call lO (fun w hw => y_Edges _ q q2 (lostL n es e) (lostL n es e) (Rd.at rD hw) (Rd.at rD hw) (by omega) (by omega))) rfl rfl ?_
  rintro _ _ ⟨T, ⟨rfl, rfl⟩, rfl⟩
  rw [deq_E]
  try refine go ⟨?_⟩
  have l2 := brs_len n es
  refine WPL.eff (OpE.call lO (fun w hw => u_PutEdge _ n u es e (Rd.at rD hw) (by omega))) rfl rfl ?_
  rintro _ _ ⟨T, ⟨q6, rfl, rfl⟩, rfl⟩
  rw [if_pos hk, if_pos hk, decide_eq_true hk]
  try refine go ⟨?_⟩
  refine WPL.eff OpE.alloc rfl rfl ?_; rintro _ _ ⟨b9, rfl, rfl⟩
  try refine go ⟨?_⟩
  refine WPL.eff (OpE.call lO (fun w hw => u_BridgesOf _ n u es (Rd.at rD hw) (by omega))) rfl rfl ?_
  rintro r11 _ ⟨T, rfl, rfl⟩
  rw [if_pos hg]
  try refine go ⟨?_⟩
  refine WP.loop (σ := Nat) (fun k => [(3, ptrV b3), (4, ptrV b4), (5, q), (9, ptrV b9), (10, .bool true), (11, r11), (12, .int .i64 k)]) (fun _ => [Tok.own q (lostL n es e), Tok.own r11 (brs n es), Tok.blk b9 [.int .i64 n, q6], Tok.own q6 (insE es e), Tok.blk b4 [.int .i64 e.A, .int .i64 e.B], Tok.blk b3 [.int .i64 n, u], Tok.own u es]) (fun k => k ≤ (brs n es).length) (fun k => (brs n es).length - k) 0 (Nat.zero_le _) sE sT2 ?_
  rintro k hkk
  try refine go ⟨?_⟩
  refine WP.condD rfl (fun hc => ?_) (fun hc => ?_)
  · have hk' : k < (brs n es).length := by omega
    have hm := getD_memI (d := (Enc.d : E)) hk'
    try refine go ⟨?_⟩
    refine WP.draw [Tok.own q (lostL n es e), Tok.own r11 (brs n es), Tok.blk b9 [.int .i64 n, q6], Tok.own q6 (insE es e)] mixed ?_
    refine WPD.take 0 rfl (Op1.move rfl) rfl rfl sT kR kR kR xQP ?_
    refine WPD.take 1 rfl (Op1.move rfl) rfl rfl sT kR kR kR xQP ?_
    refine WPD.take 2 rfl (Op1.move rfl) rfl rfl sT kR kR kR xQP ?_
    refine WPD.take 6 rfl (by first | exact (Op1.load rfl mM (by rfl)) | exact (Op1.loadI rfl rD lT) | exact (Op1.loadAll rfl mM (by rfl)) | exact (Op1.loadE rfl rD lT (by rfl)) | exact (Op1.loadEAgg rfl rD lT (by rfl))) rfl rfl sT kR kR kR xQP ?_
    refine WPD.take 7 rfl (Op1.move rfl) rfl rfl sT kR kR kR xQP ?_
    refine WPD.take 8 rfl (Op1.move rfl) rfl rfl sT kR kR kR xQP ?_
    refine WPD.take 3 rfl (by first | exact (Op1.indexAddr rfl rfl rD lT) | exact (Op1.indexAddrZ rfl rfl rD lT)) rfl rfl sT kR kR kR xQP ?_
    refine WPD.take 9 rfl (by first | exact (Op1.indexAddr rfl rfl rD lT) | exact (Op1.indexAddrZ rfl rfl rD lT)) rfl rfl sT kR kR kR xQP ?_
    refine WPD.take 4 rfl (by first | exact (Op1.load rfl mM (by rfl)) | exact (Op1.loadI rfl rD lT) | exact (Op1.loadAll rfl mM (by rfl)) | exact (Op1.loadE rfl rD lT (by rfl)) | exact (Op1.loadEAgg rfl rD lT (by rfl))) rfl rfl sT kR kR kR xQP ?_
    refine WPD.take 10 rfl (by first | exact (Op1.load rfl mM (by rfl)) | exact (Op1.loadI rfl rD lT) | exact (Op1.loadAll rfl mM (by rfl)) | exact (Op1.loadE rfl rD lT (by rfl)) | exact (Op1.loadEAgg rfl rD lT (by rfl))) rfl rfl sT kR kR kR xQP ?_
    refine WPD.eff 5 kR rfl (OpE.call lO (fun w hw => y_Has _ q ((brs n es).getD k (Enc.d : E)) (lostL n es e) (Rd.at rD hw) (by omega))) rfl rfl ?_
    rintro r _ ⟨T, ⟨rfl, rfl⟩, rfl⟩
    refine ⟨sT, ?_⟩
    refine WPD.eff 11 kR rfl (OpE.call lO (fun w hw => c_IsBridge _ n q6 (insE es e) ((brs n es).getD k (Enc.d : E)) (Rd.at rD hw) (by omega))) rfl rfl ?_
    rintro r _ ⟨T, ⟨rfl, rfl⟩, rfl⟩
    rw [lost_dec hk hm]
    refine ⟨sT, ?_⟩
    refine WPD.eff 12 kR rfl (OpE.ofPure (by first | exact (Op1.eqI rfl rfl) | exact (Op1.eqB rfl rfl) | exact (Op1.eqE rfl rfl) | exact (Op1.eqNil rfl rD))) rfl rfl ?_
    rintro _ _ ⟨rfl, rfl⟩
    refine ⟨sT, ?_⟩
    refine WPD.done kR ?_
    rw [beq_not]
    try refine go ⟨?_⟩
    refine PE.again (k + 1) ?_ ?_ sE sT2
    · (try dsimp only); omega
    · (try dsimp only); omega
  try refine go ⟨?_⟩
  refine WP.draw [Tok.blk b9 [.int .i64 n, q6], Tok.own q6 (insE es e), Tok.blk b4 [.int .i64 e.A, .int .i64 e.B], Tok.blk b3 [.int .i64 n, u]] mixed ?_
  refine WPD.take 0 rfl (Op1.move rfl) rfl rfl sT kR kR kR xQP ?_
  refine WPD.take 1 rfl (Op1.move rfl) rfl rfl sT kR kR kR xQP ?_
  first | refine WPD.splitD 82 rfl (fun h82 => ?t1) (fun h82 => ?f1) | refine WPD.split 82 rfl (fun h82 => ?t1) (fun h82 => ?f1)
  case' t1 =>
    refine WPD.take 2 rfl (by first | exact (Op1.load rfl mM (by rfl)) | exact (Op1.loadI rfl rD lT) | exact (Op1.loadAll rfl mM (by rfl)) | exact (Op1.loadE rfl rD lT (by rfl)) | exact (Op1.loadEAgg rfl rD lT (by rfl))) rfl rfl sT kR kR kR xQP ?_
    refine WPD.take 3 rfl (by first | exact (Op1.load rfl mM (by rfl)) | exact (Op1.loadI rfl rD lT) | exact (Op1.loadAll rfl mM (by rfl)) | exact (Op1.loadE rfl rD lT (by rfl)) | exact (Op1.loadEAgg rfl rD lT (by rfl))) rfl rfl sT kR kR kR xQP ?_
    refine WPD.take 5 rfl (by first | exact (Op1.load rfl mM (by rfl)) | exact (Op1.loadI rfl rD lT) | exact (Op1.loadAll rfl mM (by rfl)) | exact (Op1.loadE rfl rD lT (by rfl)) | exact (Op1.loadEAgg rfl rD lT (by rfl))) rfl rfl sT kR kR kR xQP ?_
    refine WPD.take 6 rfl (by first | exact (Op1.fieldAddr rfl) | exact (Op1.fieldAddrE rfl rD lT)) rfl rfl sT kR kR kR xQP ?_
    refine WPD.take 8 rfl (by first | exact (Op1.fieldAddr rfl) | exact (Op1.fieldAddrE rfl rD lT)) rfl rfl sT kR kR kR xQP ?_
    refine WPD.take 7 rfl (by first | exact (Op1.load rfl mM (by rfl)) | exact (Op1.loadI rfl rD lT) | exact (Op1.loadAll rfl mM (by rfl)) | exact (Op1.loadE rfl rD lT (by rfl)) | exact (Op1.loadEAgg rfl rD lT (by rfl))) rfl rfl sT kR kR kR xQP ?_
    refine WPD.take 9 rfl (by first | exact (Op1.load rfl mM (by rfl)) | exact (Op1.loadI rfl rD lT) | exact (Op1.loadAll rfl mM (by rfl)) | exact (Op1.loadE rfl rD lT (by rfl)) | exact (Op1.loadEAgg rfl rD lT (by rfl))) rfl rfl sT kR kR kR xQP ?_
    refine WPD.eff 4 kR rfl (OpE.call lO (fun w hw => c_IsBridge _ n q6 (insE es e) e (Rd.at rD hw) (by omega))) rfl rfl ?_
    rintro r _ ⟨T, ⟨rfl, rfl⟩, rfl⟩
    rw [put_dec hk]
    refine ⟨sT, ?_⟩
    refine WPD.eff 10 kR rfl (OpE.call lO (fun w hw => c_Connected _ n u es e.A e.B (Rd.at rD hw) (by omega))) rfl rfl ?_
    rintro r _ ⟨T, ⟨rfl, rfl⟩, rfl⟩
    refine ⟨sT, ?_⟩
    refine WPD.eff 11 kR rfl (OpE.ofPure (by first | exact (Op1.notD rfl) | exact (Op1.not rfl))) rfl rfl ?_
    rintro _ _ ⟨rfl, rfl⟩
    refine ⟨sT, ?_⟩
    refine WPD.eff 12 kR rfl (OpE.ofPure (by first | exact (Op1.eqI rfl rfl) | exact (Op1.eqB rfl rfl) | exact (Op1.eqE rfl rfl) | exact (Op1.eqNil rfl rD))) rfl rfl ?_
    rintro _ _ ⟨rfl, rfl⟩
    refine ⟨sT, ?_⟩
    refine WPD.eff 13 kR rfl (OpE.ofPure (by first | exact (Op1.pickT rfl rfl) | exact (Op1.pickF rfl rfl))) rfl rfl ?_
    rintro _ _ ⟨rfl, rfl⟩
    refine ⟨sT, ?_⟩
    refine WPD.eff 14 kR rfl (OpE.ofPure (Op1.assign rfl)) rfl rfl ?_
    rintro _ _ ⟨rfl, rfl⟩
    refine ⟨sT, ?_⟩
    refine WPD.done kR ?_
  case' f1 =>
    refine WPD.skip 2 rfl rfl rfl sT kR kR kR xQP ?_
    refine WPD.skip 3 rfl rfl rfl sT kR kR kR xQP ?_
    refine WPD.skip 5 rfl rfl rfl sT kR kR kR xQP ?_
    refine WPD.skip 6 rfl rfl rfl sT kR kR kR xQP ?_
    refine WPD.skip 8 rfl rfl rfl sT kR kR kR xQP ?_
    refine WPD.skip 4 rfl rfl rfl sT kR kR kR xQP ?_
    refine WPD.skip 7 rfl rfl rfl sT kR kR kR xQP ?_
    refine WPD.skip 9 rfl rfl rfl sT kR kR kR xQP ?_
    refine WPD.skip 10 rfl rfl rfl sT kR kR kR xQP ?_
    refine WPD.skip 11 rfl rfl rfl sT kR kR kR xQP ?_
    refine WPD.skip 12 rfl rfl rfl sT kR kR kR xQP ?_
    refine WPD.eff 13 kR rfl (OpE.ofPure (by first | exact (Op1.pickT rfl rfl) | exact (Op1.pickF rfl rfl))) rfl rfl ?_
    rintro _ _ ⟨rfl, rfl⟩
    refine ⟨sT, ?_⟩
    refine WPD.eff 14 kR rfl (OpE.ofPure (Op1.assign rfl)) rfl rfl ?_
    rintro _ _ ⟨rfl, rfl⟩
    refine ⟨sT, ?_⟩
    refine WPD.done kR ?_
  all_goals first
    | exact absurd ‹true = false› (by decide)
    | (rw [decide_not, beq_self_eq_true]
       try refine go ⟨?_⟩
       refine PE.ret1 (T := []) (T' := []) rfl rV ?_ sT
       rfl)
end Go.Proofs.Ytocifflamgnhaaa
