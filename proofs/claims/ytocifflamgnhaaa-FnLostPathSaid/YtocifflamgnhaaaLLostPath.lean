/- The law FnLostPath: its walk. Conditions: those of the theorem. -/
import Derived.Test.YtocifflamgnhaaaGraB
import Derived.Test.YtocifflamgnhaaaLPartsOf
import Derived.Test.YtocifflamgnhaaaLSafeTogether
namespace Go.Proofs.Ytocifflamgnhaaa
open Go
theorem lost_yes {n : Int} {es : List E} {e : E} (hk : putOk n es e) (hc : CN n es e.A e.B) : lostL n es e = btw n es e.A e.B := by
  rw [lostL_eq hk, if_pos hc.2.2.2]
theorem lost_no {n : Int} {es : List E} {e : E} (hk : putOk n es e) (hc : ¬ CN n es e.A e.B) : lostL n es e = [] := by
  rw [lostL_eq hk, if_neg fun h => hc ⟨hk.1, hk.nd.1, hk.nd.2, h⟩]
theorem ins_safe {n : Int} {es : List E} {e : E} (hk : putOk n es e) (hc : CN n es e.A e.B) : STg n (insE es e) e.A e.B := by
  have hcc := (cn_iff hk.1.okE hk.nd.1 hk.nd.2).1 hc.2.2.2
  refine ⟨hk.gv, hk.nd.1, hk.nd.2, (cn_iff (hk.gv.okE.sub bare_sub) hk.nd.1 hk.nd.2).2 ((safe_iff hk.gv.okE).2 ⟨.edge (mem_insE.2 (.inl rfl)), fun f hf => ?_⟩)⟩
  by_cases hfe : f = e
  · subst hfe; exact (conn_rem_ins hk.2.1).2 hcc
  · exact .edge (mem_rem.2 ⟨mem_insE.2 (.inl rfl), fun h => hfe h.symm⟩)
set_option linter.unusedVariables false set_option linter.unusedSimpArgs false attribute [local irreducible] Tok.own Tok.blk RL Rd eptr WP WPL PE WPD WPO Op1 OpE Tri Again Mid Exit.then Exit.inBlock bodyPost RP Code.wp wpList isOwn OneM One
attribute [local irreducible] CN putOk STg
set_option maxHeartbeats 8000000

theorem l_LostPath (w : World) (v : Value) (bs : List UInt8) (h : RL w v bs) (hl : bs.length ≤ 9223372036854775807) :
    Tri Try.prog 18 [v] w [] fun r T => r = .bool true := by
  have gvOf : ∀ {n : Int} {es : List E} {e : E}, putOk n es e → GV n es := fun h => by unfold putOk at h; exact h.1
  refine Tri.intro (hf := Try.func18) (hb := rfl) (hn := Try.ntmps18) (Nat.le_of_ble_eq_true rfl) ?_
  repeat' (first | exact absurd rfl hc | refine go ⟨?_⟩ | (refine isCond ?_; refine WP.condD rfl (fun hc => ?_) (fun hc => ?_)) | (refine isGuard ?_; refine WPL.splitD rfl rfl (fun hc => ?_) (fun hc => ?_)))
  · refine PE.ret1 (T := []) (T' := []) rfl rV ?_ sT
    rfl
  refine WPL.eff (OpE.call lO (fun w hw => g_LostBy _ v bs (Rd.at rD hw) hl)) rfl rfl ?_
  rintro r _ ⟨T, ⟨u, n, es, e, rfl, rfl, hle⟩, rfl⟩
  try refine go ⟨?_⟩
  refine WPL.eff OpE.alloc rfl rfl ?_; rintro _ _ ⟨b3, rfl, rfl⟩
  try refine go ⟨?_⟩
  refine WPL.eff OpE.alloc rfl rfl ?_; rintro _ _ ⟨b4, rfl, rfl⟩
  try refine go ⟨?_⟩
  refine WPL.eff (OpE.call lO (fun w hw => u_LostBy _ n u es e (Rd.at rD hw) (by omega))) rfl rfl ?_
  rintro _ _ ⟨T, ⟨q, rfl, rfl⟩, rfl⟩
  try refine go ⟨?_⟩
  refine WPL.eff (OpE.call lO (fun w hw => v_LostBy _ n u es e (Rd.at rD hw) (by omega))) rfl rfl ?_
  rintro _ _ ⟨T, ⟨q2, rfl, rfl⟩, rfl⟩
  by_cases hk : putOk n es e
  case neg =>
    rw [if_neg hk, decide_eq_false hk]
    try refine go ⟨?_⟩
    refine WPL.eff (OpE.call lO (fun w hw => y_Edges _ q q2 [] [] (Rd.at rD hw) (Rd.at rD hw) (by decide) (by decide))) rfl rfl ?_
    rintro _ _ ⟨T, ⟨rfl, rfl⟩, rfl⟩
    rw [deq_E]
    try refine go ⟨?_⟩
    refine WPL.eff (OpE.call lO (fun w hw => y_Edges _ q q2 [] [] (Rd.at rD hw) (Rd.at rD hw) (by decide) (by decide))) rfl rfl ?_
    rintro _ _ ⟨T, ⟨rfl, rfl⟩, rfl⟩
    rw [deq_E]
    try refine go ⟨?_⟩
    refine PE.ret1 (T := []) (T' := []) rfl rV ?_ sT
    rfl
  have hg := gvOf hk
  have hil := insE_length es e
  have l1 : (lostL n es e).length ≤ es.length := List.length_filter_le _ _
  rw [if_pos hk, decide_eq_true hk]
  try refine go ⟨?_⟩
  refine WPL.eff (OpE.call lO (fun w hw => y_Edges _ q q2 (lostL n es e) (lostL n es e) (Rd.at rD hw) (Rd.at rD hw) (by omega) (by omega))) rfl rfl ?_
  rintro _ _ ⟨T, ⟨rfl, rfl⟩, rfl⟩
  rw [deq_E]
  try refine go ⟨?_⟩
  have lb : (btw n es e.A e.B).length ≤ es.length := List.length_filter_le _ _
  refine WPL.eff (OpE.call lO (fun w hw => u_BridgesBetween _ n u es e.A e.B (Rd.at rD hw) (by omega))) rfl rfl ?_
  rintro _ _ ⟨T, ⟨q5, rfl, rfl⟩, rfl⟩
  by_cases hb : CN n es e.A e.B
  case neg =>
    rw [if_neg hb, decide_eq_false hb, lost_no hk hb]
    try refine go ⟨?_⟩
    refine PE.ret1 (T := []) (T' := []) rfl rV ?_ sT
    rfl
  rw [if_pos hb, decide_eq_true hb, lost_yes hk hb]
  try refine go ⟨?_⟩
  refine WPL.eff (OpE.call lO (fun w hw => u_PutEdge _ n u es e (Rd.at rD hw) (by omega))) rfl rfl ?_
  rintro _ _ ⟨T, ⟨q6, rfl, rfl⟩, rfl⟩
  rw [if_pos hk, if_pos hk, decide_eq_true hk]
  try refine go ⟨?_⟩
  refine WPL.eff OpE.alloc rfl rfl ?_; rintro _ _ ⟨b11, rfl, rfl⟩
  try refine go ⟨?_⟩
  refine WPL.eff (OpE.call lO (fun w hw => y_Edges _ q q5 (btw n es e.A e.B) (btw n es e.A e.B) (Rd.at rD hw) (Rd.at rD hw) (by omega) (by omega))) rfl rfl ?_
  rintro _ _ ⟨T, ⟨rfl, rfl⟩, rfl⟩
  rw [deq_E]
  try refine go ⟨?_⟩
  refine WPL.eff (OpE.call lO (fun w hw => c_SafeTogether _ n q6 (insE es e) e.A e.B (Rd.at rD hw) (by omega))) rfl rfl ?_
  rintro _ _ ⟨T, ⟨rfl, rfl⟩, rfl⟩
  rw [decide_eq_true (ins_safe hk hb)]
  try refine go ⟨?_⟩
  refine PE.ret1 (T := []) (T' := []) rfl rV ?_ sT
  rfl
end Go.Proofs.Ytocifflamgnhaaa
