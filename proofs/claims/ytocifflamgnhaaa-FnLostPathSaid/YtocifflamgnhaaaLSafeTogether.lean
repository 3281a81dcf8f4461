/- The law FnSafeTogether: its walk. Conditions: those of the theorem. -/
import Derived.Test.YtocifflamgnhaaaUni
namespace Go.Proofs.Ytocifflamgnhaaa
open Go
theorem STg_iff {n : Int} {es : List E} {x y : Int} : STg n es x y ↔ CN n es x y ∧ btw n es x y = [] := by
  unfold STg CN
  constructor
  · rintro ⟨hg, hx, hy, h⟩
    have h1 := (safe_iff hg.okE).1 ((cn_iff (hg.okE.sub bare_sub) hx hy).1 h)
    refine ⟨⟨hg, hx, hy, (cn_iff hg.okE hx hy).2 h1.1⟩, List.eq_nil_iff_forall_not_mem.2 fun e he => ?_⟩
    have h2 := (mem_btw hg.okE hx hy).1 he
    exact h2.2 (h1.2 e h2.1)
  · rintro ⟨⟨hg, hx, hy, h⟩, hb⟩
    refine ⟨hg, hx, hy, (cn_iff (hg.okE.sub bare_sub) hx hy).2 ((safe_iff hg.okE).2 ⟨(cn_iff hg.okE hx hy).1 h, fun e he => ?_⟩)⟩
    by_cases hc : Conn (rem es e) x y
    · exact hc
    · have := (mem_btw hg.okE hx hy).2 ⟨he, hc⟩
      rw [hb] at this; cases this
theorem STg_symm {n : Int} {es : List E} {x y : Int} : STg n es y x ↔ STg n es x y := by
  unfold STg; rw [cn_symm]
  exact ⟨fun ⟨a, b, c, d⟩ => ⟨a, c, b, d⟩, fun ⟨a, b, c, d⟩ => ⟨a, c, b, d⟩⟩
set_option linter.unusedVariables false set_option linter.unusedSimpArgs false attribute [local irreducible] Tok.own Tok.blk RL Rd eptr WP WPL PE WPD WPO Op1 OpE Tri Again Mid Exit.then Exit.inBlock bodyPost RP Code.wp wpList isOwn OneM One
attribute [local irreducible] CN STg
set_option maxHeartbeats 8000000

theorem l_SafeTogether (w : World) (v : Value) (bs : List UInt8) (h : RL w v bs) (hl : bs.length ≤ 9223372036854775807) :
    Tri Try.prog 14 [v] w [] fun r T => r = .bool true := by
  refine Tri.intro (hf := Try.func14) (hb := rfl) (hn := Try.ntmps14) (Nat.le_of_ble_eq_true rfl) ?_
  repeat' (first | exact absurd rfl hc | refine go ⟨?_⟩ | (refine isCond ?_; refine WP.condD rfl (fun hc => ?_) (fun hc => ?_)) | (refine isGuard ?_; refine WPL.splitD rfl rfl (fun hc => ?_) (fun hc => ?_)))
  · refine PE.ret1 (T := []) (T' := []) rfl rV ?_ sT
    rfl
  refine WPL.eff (OpE.call lO (fun w hw => g_SafeTogether _ v bs (Rd.at rD hw) hl)) rfl rfl ?_
  rintro r _ ⟨T, ⟨u, n, es, x, y, rfl, rfl, hle⟩, rfl⟩
  try refine go ⟨?_⟩
  refine WPL.eff OpE.alloc rfl rfl ?_; rintro _ _ ⟨bt, rfl, rfl⟩
  try refine go ⟨?_⟩
  refine WPL.eff (OpE.call lO (fun w hw => c_SafeTogether _ n u es x y (Rd.at rD hw) (by omega))) rfl rfl ?_
  rintro r _ ⟨T, ⟨rfl, rfl⟩, rfl⟩
  try refine go ⟨?_⟩
  refine WPL.eff (OpE.call lO (fun w hw => s_SafeTogether _ n u es x y (Rd.at rD hw) (by omega))) rfl rfl ?_
  rintro r _ ⟨T, ⟨rfl, rfl⟩, rfl⟩
  by_cases ha : STg n es x y
  · rw [decide_eq_true ha]
    repeat' (first | exact absurd rfl hc | refine go ⟨?_⟩ | (refine isCond ?_; refine WP.condD rfl (fun hc => ?_) (fun hc => ?_)) | (refine isGuard ?_; refine WPL.splitD rfl rfl (fun hc => ?_) (fun hc => ?_)))
    refine WPL.eff (OpE.call lO (fun w hw => c_SafeTogether _ n u es y x (Rd.at rD hw) (by omega))) rfl rfl ?_
    rintro r _ ⟨T, ⟨rfl, rfl⟩, rfl⟩
    rw [decide_eq_true (STg_symm.2 ha)]
    repeat' (first | exact absurd rfl hc | refine go ⟨?_⟩ | (refine isCond ?_; refine WP.condD rfl (fun hc => ?_) (fun hc => ?_)) | (refine isGuard ?_; refine WPL.splitD rfl rfl (fun hc => ?_) (fun hc => ?_)))
    obtain ⟨hb, hc⟩ := STg_iff.1 ha
    refine WPL.eff (OpE.call lO (fun w hw => u_BridgesBetween _ n u es x y (Rd.at rD hw) (by omega))) rfl rfl ?_
    rintro r _ ⟨T, ⟨q, rfl, rfl⟩, rfl⟩
    rw [if_pos hb, decide_eq_true hb, hc]
    repeat' (first | exact absurd rfl hc | refine go ⟨?_⟩ | (refine isCond ?_; refine WP.condD rfl (fun hc => ?_) (fun hc => ?_)) | (refine isGuard ?_; refine WPL.splitD rfl rfl (fun hc => ?_) (fun hc => ?_)))
    refine WPL.eff (OpE.call lO (fun w hw => c_Connected _ n u es x y (Rd.at rD hw) (by omega))) rfl rfl ?_
    rintro r _ ⟨T, ⟨rfl, rfl⟩, rfl⟩
    rw [decide_eq_true hb]
    repeat' (first | exact absurd rfl hc | refine go ⟨?_⟩ | (refine isCond ?_; refine WP.condD rfl (fun hc => ?_) (fun hc => ?_)) | (refine isGuard ?_; refine WPL.splitD rfl rfl (fun hc => ?_) (fun hc => ?_)))
    refine PE.ret1 (T := []) (T' := []) rfl rV ?_ sT
    rfl
  · rw [decide_eq_false ha]
    repeat' (first | exact absurd rfl hc | refine go ⟨?_⟩ | (refine isCond ?_; refine WP.condD rfl (fun hc => ?_) (fun hc => ?_)) | (refine isGuard ?_; refine WPL.splitD rfl rfl (fun hc => ?_) (fun hc => ?_)))
    refine WPL.eff (OpE.call lO (fun w hw => c_SafeTogether _ n u es y x (Rd.at rD hw) (by omega))) rfl rfl ?_
    rintro r _ ⟨T, ⟨rfl, rfl⟩, rfl⟩
    rw [decide_eq_false fun h => ha (STg_symm.1 h)]
    repeat' (first | exact absurd rfl hc | refine go ⟨?_⟩ | (refine isCond ?_; refine WP.condD rfl (fun hc => ?_) (fun hc => ?_)) | (refine isGuard ?_; refine WPL.splitD rfl rfl (fun hc => ?_) (fun hc => ?_)))
    refine WPL.eff (OpE.call lO (fun w hw => u_BridgesBetween _ n u es x y (Rd.at rD hw) (by omega))) rfl rfl ?_
    rintro r _ ⟨T, ⟨q, rfl, rfl⟩, rfl⟩
    by_cases hb : CN n es x y
    · rw [if_pos hb, decide_eq_true hb]
      have hne : ¬ ((btw n es x y).length : Int) = 0 := fun h => ha (STg_iff.2 ⟨hb, List.eq_nil_of_length_eq_zero (by omega)⟩)
      try refine go ⟨?_⟩
      rw [decide_eq_false hne]
      repeat' (first | exact absurd rfl hc | refine go ⟨?_⟩ | (refine isCond ?_; refine WP.condD rfl (fun hc => ?_) (fun hc => ?_)) | (refine isGuard ?_; refine WPL.splitD rfl rfl (fun hc => ?_) (fun hc => ?_)))
      refine PE.ret1 (T := []) (T' := []) rfl rV ?_ sT
      rfl
    · rw [if_neg hb, decide_eq_false hb]
      repeat' (first | exact absurd rfl hc | refine go ⟨?_⟩ | (refine isCond ?_; refine WP.condD rfl (fun hc => ?_) (fun hc => ?_)) | (refine isGuard ?_; refine WPL.splitD rfl rfl (fun hc => ?_) (fun hc => ?_)))
      refine PE.ret1 (T := []) (T' := []) rfl rV ?_ sT
      rfl
end Go.Proofs.Ytocifflamgnhaaa
