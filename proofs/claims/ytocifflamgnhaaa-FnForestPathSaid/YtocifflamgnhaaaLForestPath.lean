/- The law FnForestPath: its walk. Conditions: those of the theorem. -/
import Derived.Test.YtocifflamgnhaaaLPartsOf
namespace Go.Proofs.Ytocifflamgnhaaa
open Go
set_option linter.unusedVariables false set_option linter.unusedSimpArgs false attribute [local irreducible] Tok.own Tok.blk RL Rd eptr WP WPL PE WPD WPO Op1 OpE Tri Again Mid Exit.then Exit.inBlock bodyPost RP Code.wp wpList isOwn OneM One
attribute [local irreducible] CN HE
set_option maxHeartbeats 8000000

theorem l_ForestPath (w : World) (v : Value) (bs : List UInt8) (h : RL w v bs) (hl : bs.length ≤ 9223372036854775807) :
    Tri Try.prog 11 [v] w [] fun r T => r = .bool true := by
  refine Tri.intro (hf := Try.func11) (hb := rfl) (hn := Try.ntmps11) (Nat.le_of_ble_eq_true rfl) ?_
  repeat' (first | exact absurd rfl hc | refine go ⟨?_⟩ | (refine isCond ?_; refine WP.condD rfl (fun hc => ?_) (fun hc => ?_)) | (refine isGuard ?_; refine WPL.splitD rfl rfl (fun hc => ?_) (fun hc => ?_)))
  · refine PE.ret1 (T := []) (T' := []) rfl rV ?_ sT
    rfl
  refine WPL.eff (OpE.call lO (fun w hw => g_ForestOf _ v bs (Rd.at rD hw) hl)) rfl rfl ?_
  rintro r _ ⟨T, ⟨u, n, es, rfl, rfl, hle⟩, rfl⟩
  try refine go ⟨?_⟩
  refine WPL.eff OpE.alloc rfl rfl ?_; rintro _ _ ⟨bt, rfl, rfl⟩
  try refine go ⟨?_⟩
  refine WPL.eff (OpE.call lO (fun w hw => u_ForestOf _ n u es (Rd.at rD hw) (by omega))) rfl rfl ?_
  rintro r _ ⟨T, rfl, rfl⟩
  try refine go ⟨?_⟩
  refine WPL.eff (OpE.call lO (fun w hw => v_ForestOf _ n u es (Rd.at rD hw) (by omega))) rfl rfl ?_
  rintro r2 _ ⟨T, rfl, rfl⟩
  by_cases hg : GV n es
  case neg =>
    rw [if_neg hg]
    try refine go ⟨?_⟩
    refine WPL.eff (OpE.call lO (fun w hw => y_Edges _ r r2 [] [] (Rd.at rD hw) (Rd.at rD hw) (by decide) (by decide))) rfl rfl ?_
    rintro _ _ ⟨T, ⟨rfl, rfl⟩, rfl⟩
    rw [deq_E]
    repeat' (first | exact absurd rfl hc | refine go ⟨?_⟩ | (refine isCond ?_; refine WP.condD rfl (fun hc => ?_) (fun hc => ?_)) | (refine isGuard ?_; refine WPL.splitD rfl rfl (fun hc => ?_) (fun hc => ?_)))
    refine WPL.eff (OpE.call lO (fun w hw => c_GraphValid _ n u es (Rd.at rD hw) (by omega))) rfl rfl ?_
    rintro _ _ ⟨T, ⟨rfl, rfl⟩, rfl⟩
    rw [decide_eq_false hg]
    repeat' (first | exact absurd rfl hc | refine go ⟨?_⟩ | (refine isCond ?_; refine WP.condD rfl (fun hc => ?_) (fun hc => ?_)) | (refine isGuard ?_; refine WPL.splitD rfl rfl (fun hc => ?_) (fun hc => ?_)))
    refine WPL.eff (OpE.call lO (fun w hw => v_ForestOf _ n u es (Rd.at rD hw) (by omega))) rfl rfl ?_
    rintro r3 _ ⟨T, rfl, rfl⟩
    rw [if_neg hg]
    try refine go ⟨?_⟩
    refine WPL.eff (OpE.call lO (fun w hw => y_Edges _ r r3 [] [] (Rd.at rD hw) (Rd.at rD hw) (by decide) (by decide))) rfl rfl ?_
    rintro _ _ ⟨T, ⟨rfl, rfl⟩, rfl⟩
    rw [deq_E]
    repeat' (first | exact absurd rfl hc | refine go ⟨?_⟩ | (refine isCond ?_; refine WP.condD rfl (fun hc => ?_) (fun hc => ?_)) | (refine isGuard ?_; refine WPL.splitD rfl rfl (fun hc => ?_) (fun hc => ?_)))
    refine PE.ret1 (T := []) (T' := []) rfl rV ?_ sT
    rfl
  have hll := (forest_sub hg.okE).length_le
  have hn1 := hg.ne.n1
  have hn2 := hg.ne.n2
  rw [if_pos hg]
  try refine go ⟨?_⟩
  refine WPL.eff (OpE.call lO (fun w hw => y_Edges _ r r2 (forestL n es) (forestL n es) (Rd.at rD hw) (Rd.at rD hw) (by omega) (by omega))) rfl rfl ?_
  rintro _ _ ⟨T, ⟨rfl, rfl⟩, rfl⟩
  rw [deq_E]
  repeat' (first | exact absurd rfl hc | refine go ⟨?_⟩ | (refine isCond ?_; refine WP.condD rfl (fun hc => ?_) (fun hc => ?_)) | (refine isGuard ?_; refine WPL.splitD rfl rfl (fun hc => ?_) (fun hc => ?_)))
  refine WPL.eff (OpE.call lO (fun w hw => c_GraphValid _ n u es (Rd.at rD hw) (by omega))) rfl rfl ?_
  rintro _ _ ⟨T, ⟨rfl, rfl⟩, rfl⟩
  rw [decide_eq_true hg]
  repeat' (first | exact absurd rfl hc | refine go ⟨?_⟩ | (refine isCond ?_; refine WP.condD rfl (fun hc => ?_) (fun hc => ?_)) | (refine isGuard ?_; refine WPL.splitD rfl rfl (fun hc => ?_) (fun hc => ?_)))
  have hgF : GV n (forestL n es) := hg.sublist (forest_sub hg.okE)
  have hind := forest_indep hg.okE
  refine WPL.eff OpE.alloc rfl rfl ?_; rintro _ _ ⟨b5, rfl, rfl⟩
  try refine go ⟨?_⟩
  refine WP.loop (σ := Nat) (fun k => [(4, r), (5, ptrV b5), (6, .int .i64 k)]) (fun _ => [Tok.own r (forestL n es), Tok.blk b5 [.int .i64 n, r]]) (fun k => k ≤ (forestL n es).length) (fun k => (forestL n es).length - k) 0 (Nat.zero_le _) sE sT2 ?_
  rintro k hk
  try refine go ⟨?_⟩
  refine WP.condD rfl (fun hc => ?_) (fun hc => ?_)
  · have hk' : k < (forestL n es).length := by omega
    have hm := getD_memI (d := (Enc.d : E)) hk'
    have hH : HE n (forestL n es) ((forestL n es).getD k (Enc.d : E)) := by unfold HE; exact ⟨hgF, hm⟩
    have hnd := hgF.okE _ hm
    have hrl : (rem (forestL n es) ((forestL n es).getD k (Enc.d : E))).length ≤ (forestL n es).length := List.length_filter_le _ _
    have hnc : ¬ CN n (rem (forestL n es) ((forestL n es).getD k (Enc.d : E))) ((forestL n es).getD k (Enc.d : E)).A ((forestL n es).getD k (Enc.d : E)).B := fun h => by
      unfold CN at h
      exact hind _ hm ((cn_iff (hgF.okE.rem _) hnd.1 hnd.2).1 h.2.2.2)
    try refine go ⟨?_⟩
    refine WP.cutK (σ := Value × Nat) (fun s => [(4, r), (5, ptrV b5), (6, .int .i64 k), (7, ptrV s.2), (8, .bool true)]) (fun s => [Tok.blk s.2 [.int .i64 n, s.1], Tok.own s.1 (rem (forestL n es) ((forestL n es).getD k (Enc.d : E))), Tok.own r (forestL n es), Tok.blk b5 [.int .i64 n, r]]) (fun _ => True) ?_ ?_
    · refine WP.draw [Tok.own r (forestL n es), Tok.blk b5 [.int .i64 n, r]] mixed ?_
      refine WPD.take 0 rfl (by first | exact (Op1.load rfl mM (by rfl)) | exact (Op1.loadI rfl rD lT) | exact (Op1.loadAll rfl mM (by rfl)) | exact (Op1.loadE rfl rD lT (by rfl)) | exact (Op1.loadEAgg rfl rD lT (by rfl))) rfl rfl sT kR kR kR xQP ?_
      refine WPD.take 1 rfl (Op1.move rfl) rfl rfl sT kR kR kR xQP ?_
      refine WPD.take 2 rfl (Op1.move rfl) rfl rfl sT kR kR kR xQP ?_
      refine WPD.take 3 rfl (by first | exact (Op1.indexAddr rfl rfl rD lT) | exact (Op1.indexAddrZ rfl rfl rD lT)) rfl rfl sT kR kR kR xQP ?_
      refine WPD.take 4 rfl (by first | exact (Op1.load rfl mM (by rfl)) | exact (Op1.loadI rfl rD lT) | exact (Op1.loadAll rfl mM (by rfl)) | exact (Op1.loadE rfl rD lT (by rfl)) | exact (Op1.loadEAgg rfl rD lT (by rfl))) rfl rfl sT kR kR kR xQP ?_
      refine WPD.two 5 9 kR ?e1_5 ?e1_9
      case' e1_5 =>
        refine WPO.eff rfl (OpE.call lO (fun w hw => u_CutEdge _ n r (forestL n es) ((forestL n es).getD k (Enc.d : E)) (Rd.at rD hw) (by omega))) rfl rfl ?_
        rintro r _ ⟨T, ⟨q, rfl, rfl⟩, rfl⟩
        rw [if_pos hH, if_pos hH, decide_eq_true hH]
        refine ⟨sT, ?_⟩
        refine WPD.take 6 rfl (Op1.move rfl) rfl rfl sT kR kR kR xQP ?_
        refine WPD.take 7 rfl (Op1.extract rfl (by rfl)) rfl rfl sT kR kR kR xQP ?_
        refine WPD.take 8 rfl (Op1.extract rfl (by rfl)) rfl rfl sT kR kR kR xQP ?_
        refine WPD.eff 9 kR rfl OpE.alloc rfl rfl ?_
        rintro _ _ ⟨b7, rfl, rfl⟩
        refine ⟨sT, ?_⟩
        refine WPD.eff0 10 kR rfl (OpE.storeAll rfl rfl pM (by rfl) (by rfl) oN) rfl ?_
        rintro _ _ rfl
        refine ⟨sT, ?_⟩
        refine WPD.take 11 rfl (Op1.assign rfl) rfl rfl sT kR kR kR xQP ?_
        refine WPD.done kR ?_
      case' e1_9 =>
        refine WPO.eff rfl OpE.alloc rfl rfl ?_
        rintro _ _ ⟨b7, rfl, rfl⟩
        refine ⟨sT, ?_⟩
        refine WPD.eff 5 kR rfl (OpE.call lO (fun w hw => u_CutEdge _ n r (forestL n es) ((forestL n es).getD k (Enc.d : E)) (Rd.at rD hw) (by omega))) rfl rfl ?_
        rintro r _ ⟨T, ⟨q, rfl, rfl⟩, rfl⟩
        rw [if_pos hH, if_pos hH, decide_eq_true hH]
        refine ⟨sT, ?_⟩
        refine WPD.take 6 rfl (Op1.move rfl) rfl rfl sT kR kR kR xQP ?_
        refine WPD.take 7 rfl (Op1.extract rfl (by rfl)) rfl rfl sT kR kR kR xQP ?_
        refine WPD.take 8 rfl (Op1.extract rfl (by rfl)) rfl rfl sT kR kR kR xQP ?_
        refine WPD.eff0 10 kR rfl (OpE.storeAll rfl rfl pM (by rfl) (by rfl) oN) rfl ?_
        rintro _ _ rfl
        refine ⟨sT, ?_⟩
        refine WPD.take 11 rfl (Op1.assign rfl) rfl rfl sT kR kR kR xQP ?_
        refine WPD.done kR ?_
      all_goals (refine PE.mid (q, b7) trivial sE sT)
    rintro ⟨q, b7⟩ _
    dsimp only
    try refine go ⟨?_⟩
    refine WP.draw [Tok.own r (forestL n es), Tok.blk b7 [.int .i64 n, q], Tok.own q (rem (forestL n es) ((forestL n es).getD k (Enc.d : E)))] mixed ?_
    refine WPD.take 0 rfl (Op1.move rfl) rfl rfl sT kR kR kR xQP ?_
    refine WPD.take 1 rfl (by first | exact (Op1.notD rfl) | exact (Op1.not rfl)) rfl rfl sT kR kR kR xQP ?_
    refine WPD.take 2 rfl (Op1.move rfl) rfl rfl sT kR kR kR xQP ?_
    first | refine WPD.splitD 52 rfl (fun h52 => ?t2) (fun h52 => ?f2) | refine WPD.split 52 rfl (fun h52 => ?t2) (fun h52 => ?f2)
    case' t2 =>
      refine WPD.skip 3 rfl rfl rfl sT kR kR kR xQP ?_
      refine WPD.skip 4 rfl rfl rfl sT kR kR kR xQP ?_
      refine WPD.skip 5 rfl rfl rfl sT kR kR kR xQP ?_
      refine WPD.skip 9 rfl rfl rfl sT kR kR kR xQP ?_
      refine WPD.skip 10 rfl rfl rfl sT kR kR kR xQP ?_
      refine WPD.skip 6 rfl rfl rfl sT kR kR kR xQP ?_
      refine WPD.skip 11 rfl rfl rfl sT kR kR kR xQP ?_
      refine WPD.skip 7 rfl rfl rfl sT kR kR kR xQP ?_
      refine WPD.skip 12 rfl rfl rfl sT kR kR kR xQP ?_
      refine WPD.skip 8 rfl rfl rfl sT kR kR kR xQP ?_
      refine WPD.skip 13 rfl rfl rfl sT kR kR kR xQP ?_
      refine WPD.skip 14 rfl rfl rfl sT kR kR kR xQP ?_
      refine WPD.eff 15 kR rfl (OpE.ofPure (by first | exact (Op1.pickT rfl rfl) | exact (Op1.pickF rfl rfl))) rfl rfl ?_
      rintro _ _ ⟨rfl, rfl⟩
      refine ⟨sT, ?_⟩
      refine WPD.done kR ?_
    case' f2 =>
      refine WPD.take 3 rfl (by first | exact (Op1.load rfl mM (by rfl)) | exact (Op1.loadI rfl rD lT) | exact (Op1.loadAll rfl mM (by rfl)) | exact (Op1.loadE rfl rD lT (by rfl)) | exact (Op1.loadEAgg rfl rD lT (by rfl))) rfl rfl sT kR kR kR xQP ?_
      refine WPD.take 4 rfl (Op1.move rfl) rfl rfl sT kR kR kR xQP ?_
      refine WPD.take 5 rfl (Op1.move rfl) rfl rfl sT kR kR kR xQP ?_
      refine WPD.take 9 rfl (Op1.move rfl) rfl rfl sT kR kR kR xQP ?_
      refine WPD.take 10 rfl (Op1.move rfl) rfl rfl sT kR kR kR xQP ?_
      refine WPD.take 6 rfl (by first | exact (Op1.indexAddr rfl rfl rD lT) | exact (Op1.indexAddrZ rfl rfl rD lT)) rfl rfl sT kR kR kR xQP ?_
      refine WPD.take 11 rfl (by first | exact (Op1.indexAddr rfl rfl rD lT) | exact (Op1.indexAddrZ rfl rfl rD lT)) rfl rfl sT kR kR kR xQP ?_
      refine WPD.take 7 rfl (by first | exact (Op1.fieldAddr rfl) | exact (Op1.fieldAddrE rfl rD lT)) rfl rfl sT kR kR kR xQP ?_
      refine WPD.take 12 rfl (by first | exact (Op1.fieldAddr rfl) | exact (Op1.fieldAddrE rfl rD lT)) rfl rfl sT kR kR kR xQP ?_
      refine WPD.take 8 rfl (by first | exact (Op1.load rfl mM (by rfl)) | exact (Op1.loadI rfl rD lT) | exact (Op1.loadAll rfl mM (by rfl)) | exact (Op1.loadE rfl rD lT (by rfl)) | exact (Op1.loadEAgg rfl rD lT (by rfl))) rfl rfl sT kR kR kR xQP ?_
      refine WPD.take 13 rfl (by first | exact (Op1.load rfl mM (by rfl)) | exact (Op1.loadI rfl rD lT) | exact (Op1.loadAll rfl mM (by rfl)) | exact (Op1.loadE rfl rD lT (by rfl)) | exact (Op1.loadEAgg rfl rD lT (by rfl))) rfl rfl sT kR kR kR xQP ?_
      refine WPD.eff 14 kR rfl (OpE.call lO (fun w hw => c_Connected _ n q (rem (forestL n es) ((forestL n es).getD k (Enc.d : E))) ((forestL n es).getD k (Enc.d : E)).A ((forestL n es).getD k (Enc.d : E)).B (Rd.at rD hw) (by omega))) rfl rfl ?_
      rintro r _ ⟨T, ⟨rfl, rfl⟩, rfl⟩
      rw [decide_eq_false hnc]
      refine ⟨sT, ?_⟩
      refine WPD.eff 15 kR rfl (OpE.ofPure (by first | exact (Op1.pickT rfl rfl) | exact (Op1.pickF rfl rfl))) rfl rfl ?_
      rintro _ _ ⟨rfl, rfl⟩
      refine ⟨sT, ?_⟩
      refine WPD.done kR ?_
    all_goals first
      | exact absurd ‹(!true) = true› (by decide)
      | (try refine go ⟨?_⟩
         refine PE.again (k + 1) ?_ ?_ sE sT2
         · (try dsimp only); omega
         · (try dsimp only); omega)
  try refine go ⟨?_⟩
  refine WPL.eff (OpE.call lO (fun w hw => u_ForestOf _ n r (forestL n es) (Rd.at rD hw) (by omega))) rfl rfl ?_
  rintro r5 _ ⟨T, rfl, rfl⟩
  rw [if_pos hgF, forest_self hgF.okE hind hgF.nodup]
  try refine go ⟨?_⟩
  refine WPL.eff (OpE.call lO (fun w hw => y_Edges _ r5 r (forestL n es) (forestL n es) (Rd.at rD hw) (Rd.at rD hw) (by omega) (by omega))) rfl rfl ?_
  rintro _ _ ⟨T, ⟨rfl, rfl⟩, rfl⟩
  rw [deq_E]
  try refine go ⟨?_⟩
  refine PE.ret1 (T := []) (T' := []) rfl rV ?_ sT
  rfl
end Go.Proofs.Ytocifflamgnhaaa
