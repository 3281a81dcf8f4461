/- The law FnLinkWeight: its walk. Conditions: those of the theorem. -/
import Derived.Test.YtjmbnhohfhpopaaDrw3
import Derived.Test.YtjmbnhohfhpopaaSpc2
import Derived.Test.YtjmbnhohfhpopaaSpc3
import Derived.Test.YtjmbnhohfhpopaaHlp2
import Derived.Test.YtjmbnhohfhpopaaMath5
namespace Go.Proofs.Ytjmbnhohfhpopaa
open Go
set_option linter.unusedVariables false set_option linter.unusedSimpArgs false attribute [local irreducible] Tok.own Tok.blk RL Rd eptr WP WPL PE WPD WPO Op1 OpE Tri Again Mid Exit.then Exit.inBlock bodyPost RP Code.wp wpList isOwn OneM One
attribute [local irreducible] rootV meetF wbG
set_option maxHeartbeats 8000000

theorem l_LinkWeight (w : World) (v : Value) (bs : List UInt8) (h : RL w v bs) (hl : bs.length ≤ 9223372036854775807) :
    Tri Try.prog 12 [v] w [] fun r T => r = .bool true := by
  refine Tri.intro (hf := Try.func12) (hb := rfl) (hn := Try.ntmps12) (Nat.le_of_ble_eq_true rfl) ?_
  repeat' (first | exact absurd rfl hc | refine go ⟨?_⟩ | (refine isCond ?_; refine WP.condD rfl (fun hc => ?_) (fun hc => ?_)) | (refine isGuard ?_; refine WPL.splitD rfl rfl (fun hc => ?_) (fun hc => ?_)))
  · refine PE.ret1 (T := []) (T' := []) rfl rV ?_ sT
    rfl
  refine WPL.eff (OpE.call lO (fun w hw => d_LinkRoot _ v bs (Rd.at rD hw) hl)) rfl rfl ?_
  rintro r _ ⟨T, hd, rfl⟩
  obtain ⟨uP, uW, ps, ws, x, y, q, rfl, rfl, h1, h2⟩ := hd.three
  try refine go ⟨?_⟩
  refine WPL.eff OpE.alloc rfl rfl ?_; rintro _ _ ⟨bt, rfl, rfl⟩
  try refine go ⟨?_⟩
  refine WPL.eff (OpE.call lO (fun w hw => c_LinkRoot _ uP uW ps ws x y q (Rd.at rD hw) (Rd.at rD hw) (by omega) (by omega))) rfl rfl ?_
  rintro r _ ⟨T, hr, rfl⟩
  rcases hr with ⟨hk, xP, xW, rfl, rfl⟩ | ⟨hk, rfl, rfl⟩
  case inr =>
    unfold nilR
    try refine go ⟨?_⟩
    refine WPL.eff OpE.alloc rfl rfl ?_; rintro _ _ ⟨bx, rfl, rfl⟩
    try refine go ⟨?_⟩
    refine WPL.eff (OpE.call lO (fun w hw => s_LinkRoot _ uP uW ps ws x y q (Rd.at rD hw) (Rd.at rD hw) (by omega) (by omega))) rfl rfl ?_
    rintro r _ ⟨T, hr, rfl⟩
    rcases hr with ⟨hk', _⟩ | ⟨_, rfl, rfl⟩
    · exact absurd hk' hk
    unfold nilR
    try refine go ⟨?_⟩
    refine WPL.eff OpE.alloc rfl rfl ?_; rintro _ _ ⟨bz, rfl, rfl⟩
    try refine go ⟨?_⟩
    refine WPL.eff (OpE.call lO (fun w hw => y_Rooted _ _ _ _ _ ([] : List Int) [] [] [] (RL.nilI _) (RL.nilI _) (RL.nilI _) (RL.nilI _) (by decide) (by decide) (by decide) (by decide))) rfl rfl ?_
    rintro r _ ⟨T, ⟨rfl, rfl⟩, rfl⟩
    repeat' (first | exact absurd rfl hc | refine go ⟨?_⟩ | (refine isCond ?_; refine WP.condD rfl (fun hc => ?_) (fun hc => ?_)) | (refine isGuard ?_; refine WPL.splitD rfl rfl (fun hc => ?_) (fun hc => ?_)))
    refine WPL.eff (OpE.call lO (fun w hw => y_Rooted _ _ _ _ _ ([] : List Int) [] [] [] (RL.nilI _) (RL.nilI _) (RL.nilI _) (RL.nilI _) (by decide) (by decide) (by decide) (by decide))) rfl rfl ?_
    rintro r _ ⟨T, ⟨rfl, rfl⟩, rfl⟩
    repeat' (first | exact absurd rfl hc | refine go ⟨?_⟩ | (refine isCond ?_; refine WP.condD rfl (fun hc => ?_) (fun hc => ?_)) | (refine isGuard ?_; refine WPL.splitD rfl rfl (fun hc => ?_) (fun hc => ?_)))
    refine PE.ret1 (T := []) (T' := []) rfl rV ?_ sT
    rfl
  try refine go ⟨?_⟩
  refine WPL.eff OpE.alloc rfl rfl ?_; rintro _ _ ⟨bx, rfl, rfl⟩
  try refine go ⟨?_⟩
  refine WPL.eff (OpE.call lO (fun w hw => s_LinkRoot _ uP uW ps ws x y q (Rd.at rD hw) (Rd.at rD hw) (by omega) (by omega))) rfl rfl ?_
  rintro r _ ⟨T, hr, rfl⟩
  rcases hr with ⟨_, zP, zW, rfl, rfl⟩ | ⟨hk', _⟩
  case inr => exact absurd hk hk'
  have L := linked hk
  have hy := hk.2.1
  have q0 := hk.2.2.2.2.1
  have e1 := L.len
  have e2 := L.lenw
  generalize ps.set x.toNat y = ps' at *
  generalize ws.set x.toNat q = ws' at *
  try refine go ⟨?_⟩
  refine WPL.eff OpE.alloc rfl rfl ?_; rintro _ _ ⟨bz, rfl, rfl⟩
  try refine go ⟨?_⟩
  refine WPL.eff (OpE.call lO (fun w hw => y_Rooted _ xP xW zP zW ps' ws' ps' ws' (Rd.at rD hw) (Rd.at rD hw) (Rd.at rD hw) (Rd.at rD hw) (by omega) (by omega) (by omega) (by omega))) rfl rfl ?_
  rintro r _ ⟨T, ⟨rfl, rfl⟩, rfl⟩
  rw [decide_eq_true (⟨rfl, rfl⟩ : ps' = ps' ∧ ws' = ws')]
  repeat' (first | exact absurd rfl hc | refine go ⟨?_⟩ | (refine isCond ?_; refine WP.condD rfl (fun hc => ?_) (fun hc => ?_)) | (refine isGuard ?_; refine WPL.splitD rfl rfl (fun hc => ?_) (fun hc => ?_)))
  refine WPL.eff (OpE.call lO (fun w hw => c_WeightBetween _ xP xW ps' ws' x y (Rd.at rD hw) (Rd.at rD hw) (by omega) (by omega))) rfl rfl ?_
  rintro r _ ⟨T, ⟨hr, rfl⟩, rfl⟩
  cases hr.val
  rw [L.meet hy q0]
  repeat' (first | exact absurd rfl hc | refine go ⟨?_⟩ | (refine isCond ?_; refine WP.condD rfl (fun hc => ?_) (fun hc => ?_)) | (refine isGuard ?_; refine WPL.splitD rfl rfl (fun hc => ?_) (fun hc => ?_)))
  refine WPL.eff (OpE.call lO (fun w hw => c_WayUp _ xP xW ps' ws' x (Rd.at rD hw) (Rd.at rD hw) (by omega) (by omega))) rfl rfl ?_
  rintro r _ ⟨T, hr, rfl⟩
  rcases hr with ⟨_, aV, rfl, rfl⟩ | ⟨hq, _⟩
  case inr => exact absurd L.nx hq
  rw [L.upx]
  repeat' (first | exact absurd rfl hc | refine go ⟨?_⟩ | (refine isCond ?_; refine WP.condD rfl (fun hc => ?_) (fun hc => ?_)) | (refine isGuard ?_; refine WPL.splitD rfl rfl (fun hc => ?_) (fun hc => ?_)))
  refine WPL.eff (OpE.call lO (fun w hw => c_WayUp _ uP uW ps ws y (Rd.at rD hw) (Rd.at rD hw) (by omega) (by omega))) rfl rfl ?_
  rintro r _ ⟨T, hr, rfl⟩
  rcases hr with ⟨_, bV, rfl, rfl⟩ | ⟨hq, _⟩
  case inr => exact absurd hy hq
  have hul := up_length ps ps.length y
  generalize up ps ps.length y = ul at *
  repeat' (first | exact absurd rfl hc | refine go ⟨?_⟩ | (refine isCond ?_; refine WP.condD rfl (fun hc => ?_) (fun hc => ?_)) | (refine isGuard ?_; refine WPL.splitD rfl rfl (fun hc => ?_) (fun hc => ?_)))
  refine WPL.eff (OpE.call lO (fun w hw => y_Ints _ (drpV aV (Enc.sz Int) 1) bV ul ul (RL.drop (n := 1) (Rd.at (rD : Rd _ _ aV (x :: ul)) hw) (by simp)) (Rd.at rD hw) (by omega) (by omega))) rfl rfl ?_
  rintro r _ ⟨T, ⟨rfl, rfl⟩, rfl⟩
  rw [decide_eq_true (rfl : ul = ul)]
  repeat' (first | exact absurd rfl hc | refine go ⟨?_⟩ | (refine isCond ?_; refine WP.condD rfl (fun hc => ?_) (fun hc => ?_)) | (refine isGuard ?_; refine WPL.splitD rfl rfl (fun hc => ?_) (fun hc => ?_)))
  refine PE.ret1 (T := []) (T' := []) rfl rV ?_ sT
  rfl
end Go.Proofs.Ytjmbnhohfhpopaa
