/- The law FnCutParent: its walk. Conditions: those of the theorem. -/
import Derived.Test.YtjmbnhohfhpopaaDrw2
import Derived.Test.YtjmbnhohfhpopaaHlp2
import Derived.Test.YtjmbnhohfhpopaaMath3
namespace Go.Proofs.Ytjmbnhohfhpopaa
open Go
set_option linter.unusedVariables false set_option linter.unusedSimpArgs false attribute [local irreducible] Tok.own Tok.blk RL Rd eptr WP WPL PE WPD WPO Op1 OpE Tri Again Mid Exit.then Exit.inBlock bodyPost RP Code.wp wpList isOwn OneM One
attribute [local irreducible] rootV
set_option maxHeartbeats 8000000

theorem l_CutParent (w : World) (v : Value) (bs : List UInt8) (h : RL w v bs) (hl : bs.length ≤ 9223372036854775807) :
    Tri Try.prog 4 [v] w [] fun r T => r = .bool true := by
  refine Tri.intro (hf := Try.func4) (hb := rfl) (hn := Try.ntmps4) (Nat.le_of_ble_eq_true rfl) ?_
  repeat' (first | exact absurd rfl hc | refine go ⟨?_⟩ | (refine isCond ?_; refine WP.condD rfl (fun hc => ?_) (fun hc => ?_)) | (refine isGuard ?_; refine WPL.splitD rfl rfl (fun hc => ?_) (fun hc => ?_)))
  · refine PE.ret1 (T := []) (T' := []) rfl rV ?_ sT
    rfl
  refine WPL.eff (OpE.call lO (fun w hw => d_CutParent _ v bs (Rd.at rD hw) hl)) rfl rfl ?_
  rintro r _ ⟨T, hd, rfl⟩
  obtain ⟨uP, uW, ps, ws, x, rfl, rfl, h1, h2⟩ := hd.one
  try refine go ⟨?_⟩
  refine WPL.eff OpE.alloc rfl rfl ?_; rintro _ _ ⟨bt, rfl, rfl⟩
  try refine go ⟨?_⟩
  refine WPL.eff (OpE.call lO (fun w hw => c_CutParent _ uP uW ps ws x (Rd.at rD hw) (Rd.at rD hw) (by omega) (by omega))) rfl rfl ?_
  rintro r _ ⟨T, hr, rfl⟩
  rcases hr with ⟨hk, xP, xW, rfl, rfl⟩ | ⟨hk, rfl, rfl⟩
  case inr =>
    unfold nilR
    try refine go ⟨?_⟩
    refine WPL.eff OpE.alloc rfl rfl ?_; rintro _ _ ⟨bx, rfl, rfl⟩
    try refine go ⟨?_⟩
    refine WPL.eff (OpE.call lO (fun w hw => s_CutParent _ uP uW ps ws x (Rd.at rD hw) (Rd.at rD hw) (by omega) (by omega))) rfl rfl ?_
    rintro r _ ⟨T, hr, rfl⟩
    rcases hr with ⟨hk', _⟩ | ⟨_, rfl, rfl⟩
    · exact absurd hk' hk
    unfold nilR
    try refine go ⟨?_⟩
    refine WPL.eff OpE.alloc rfl rfl ?_; rintro _ _ ⟨bz, rfl, rfl⟩
    try refine go ⟨?_⟩
    refine WPL.eff (OpE.call lO (fun w hw => y_Rooted _ _ _ _ _ ([] : List Int) [] [] [] (RL.nilI _) (RL.nilI _) (RL.nilI _) (RL.nilI _) (by decide) (by decide) (by decide) (by decide))) rfl rfl ?_
    rintro r _ ⟨T, ⟨rfl, rfl⟩, rfl⟩
    repeat' (first | exact absurd rfl hc | refine go ⟨?_⟩ | (refine isCond ?_; refine WP.condD rfl (fun hc => ?_) (fun hc => ?_)) | (refine isGuard ?_; refine WPL.splitD rfl rfl (fun hc => ?_) (fun hc => ?_)))
    refine WPL.eff (OpE.call lO (fun w hw => y_Rooted _ _ _ _ _ ([] : List Int) [] [] [] (RL.nilI _) (RL.nilI _) (RL.nilI _) (RL.nilI _) (by decide) (by decide) (by decide) (by decide))) rfl rfl ?_
    rintro r _ ⟨T, ⟨rfl, rfl⟩, rfl⟩
    repeat' (first | exact absurd rfl hc | refine go ⟨?_⟩ | (refine isCond ?_; refine WP.condD rfl (fun hc => ?_) (fun hc => ?_)) | (refine isGuard ?_; refine WPL.splitD rfl rfl (fun hc => ?_) (fun hc => ?_)))
    refine PE.ret1 (T := []) (T' := []) rfl rV ?_ sT
    rfl
  try refine go ⟨?_⟩
  refine WPL.eff OpE.alloc rfl rfl ?_; rintro _ _ ⟨bx, rfl, rfl⟩
  try refine go ⟨?_⟩
  refine WPL.eff (OpE.call lO (fun w hw => s_CutParent _ uP uW ps ws x (Rd.at rD hw) (Rd.at rD hw) (by omega) (by omega))) rfl rfl ?_
  rintro r _ ⟨T, hr, rfl⟩
  rcases hr with ⟨_, zP, zW, rfl, rfl⟩ | ⟨hk', _⟩
  case inr => exact absurd hk hk'
  have hx := hk.1
  have e1 : (ps.set x.toNat (-1)).length = ps.length := List.length_set
  have e2 : (ws.set x.toNat 0).length = ws.length := List.length_set
  have hRV := cut_RV hx
  have hroot := fun i => cut_root (x := i) hx
  generalize ps.set x.toNat (-1) = ps' at *
  generalize ws.set x.toNat 0 = ws' at *
  try refine go ⟨?_⟩
  refine WPL.eff OpE.alloc rfl rfl ?_; rintro _ _ ⟨bz, rfl, rfl⟩
  try refine go ⟨?_⟩
  refine WPL.eff (OpE.call lO (fun w hw => y_Rooted _ xP xW zP zW ps' ws' ps' ws' (Rd.at rD hw) (Rd.at rD hw) (Rd.at rD hw) (Rd.at rD hw) (by omega) (by omega) (by omega) (by omega))) rfl rfl ?_
  rintro r _ ⟨T, ⟨rfl, rfl⟩, rfl⟩
  rw [decide_eq_true (⟨rfl, rfl⟩ : ps' = ps' ∧ ws' = ws')]
  repeat' (first | exact absurd rfl hc | refine go ⟨?_⟩ | (refine isCond ?_; refine WP.condD rfl (fun hc => ?_) (fun hc => ?_)) | (refine isGuard ?_; refine WPL.splitD rfl rfl (fun hc => ?_) (fun hc => ?_)))
  refine WP.loop (σ := Nat) (fun i => [(3, .pointer (some ⟨bt, 0, none⟩)), (4, .int .i64 x), (5, .pointer (some ⟨bx, 0, none⟩)), (9, .int .i64 i)])
    (fun i => [Tok.blk bt [uP, uW], Tok.own uP ps, Tok.own uW ws, Tok.blk bx [xP, xW], Tok.own xP ps', Tok.own xW ws']) (fun i => i ≤ ps.length) (fun i => ps.length - i) 0 (Nat.zero_le _) sE sT ?_
  intro i hi
  try refine go ⟨?_⟩
  refine WP.condD rfl (fun hc => ?_) (fun hc => ?_)
  · have hn : NV ps ws i := ⟨hx.1, by omega, by omega⟩
    have hn' : NV ps' ws' i := ⟨hRV, by omega, by omega⟩
    have hri := hroot i hn
    try refine go ⟨?_⟩
    refine WPL.eff (OpE.call lO (fun w hw => c_WayUp _ uP uW ps ws i (Rd.at rD hw) (Rd.at rD hw) (by omega) (by omega))) rfl rfl ?_
    rintro r _ ⟨T, hr, rfl⟩
    rcases hr with ⟨_, u, rfl, rfl⟩ | ⟨hq, _⟩
    case inr => exact absurd hn hq
    have hul := up_length ps ps.length i
    generalize up ps ps.length i = ul at *
    try refine go ⟨?_⟩
    refine WPL.eff (OpE.call lO (fun w hw => c_RootOf _ uP uW ps ws i (Rd.at rD hw) (Rd.at rD hw) (by omega) (by omega))) rfl rfl ?_
    rintro r _ ⟨T, ⟨rfl, hr⟩, rfl⟩
    rcases hr with ⟨_, rfl⟩ | ⟨hq, _⟩
    case inr => exact absurd hn hq
    try refine go ⟨?_⟩
    refine WPL.eff (OpE.call lO (fun w hw => c_RootOf _ xP xW ps' ws' i (Rd.at rD hw) (Rd.at rD hw) (by omega) (by omega))) rfl rfl ?_
    rintro r _ ⟨T, ⟨rfl, hr⟩, rfl⟩
    rcases hr with ⟨_, rfl⟩ | ⟨hq, _⟩
    case inr => exact absurd hn' hq
    rw [hri]
    by_cases hm : x ∈ ul
    · rw [if_pos hm]
      repeat' (first | exact absurd rfl hc | refine go ⟨?_⟩ | (refine isCond ?_; refine WP.condD rfl (fun hc => ?_) (fun hc => ?_)) | (refine isGuard ?_; refine WPL.splitD rfl rfl (fun hc => ?_) (fun hc => ?_)))
      refine WPL.eff (OpE.call lO (fun w hw => y_In _ u x ul (Rd.at rD hw) (by omega))) rfl rfl ?_
      rintro r _ ⟨T, ⟨rfl, rfl⟩, rfl⟩
      rw [decide_eq_true hm]
      repeat' (first | exact absurd rfl hc | refine go ⟨?_⟩ | (refine isCond ?_; refine WP.condD rfl (fun hc => ?_) (fun hc => ?_)) | (refine isGuard ?_; refine WPL.splitD rfl rfl (fun hc => ?_) (fun hc => ?_)))
      refine WPL.eff (OpE.call lO (fun w hw => y_In _ u x ul (Rd.at rD hw) (by omega))) rfl rfl ?_
      rintro r _ ⟨T, ⟨rfl, rfl⟩, rfl⟩
      rw [decide_eq_true hm]
      repeat' (first | exact absurd rfl hc | refine go ⟨?_⟩ | (refine isCond ?_; refine WP.condD rfl (fun hc => ?_) (fun hc => ?_)) | (refine isGuard ?_; refine WPL.splitD rfl rfl (fun hc => ?_) (fun hc => ?_)))
      refine PE.again (i + 1) ?_ ?_ sE sT
      · omega
      · omega
    · rw [if_neg hm]
      repeat' (first | exact absurd rfl hc | refine go ⟨?_⟩ | (refine isCond ?_; refine WP.condD rfl (fun hc => ?_) (fun hc => ?_)) | (refine isGuard ?_; refine WPL.splitD rfl rfl (fun hc => ?_) (fun hc => ?_)))
      refine WPL.eff (OpE.call lO (fun w hw => y_In _ u x ul (Rd.at rD hw) (by omega))) rfl rfl ?_
      rintro r _ ⟨T, ⟨rfl, rfl⟩, rfl⟩
      rw [decide_eq_false hm]
      repeat' (first | exact absurd rfl hc | refine go ⟨?_⟩ | (refine isCond ?_; refine WP.condD rfl (fun hc => ?_) (fun hc => ?_)) | (refine isGuard ?_; refine WPL.splitD rfl rfl (fun hc => ?_) (fun hc => ?_)))
      refine WPL.eff (OpE.call lO (fun w hw => y_In _ u x ul (Rd.at rD hw) (by omega))) rfl rfl ?_
      rintro r _ ⟨T, ⟨rfl, rfl⟩, rfl⟩
      rw [decide_eq_false hm]
      repeat' (first | exact absurd rfl hc | refine go ⟨?_⟩ | (refine isCond ?_; refine WP.condD rfl (fun hc => ?_) (fun hc => ?_)) | (refine isGuard ?_; refine WPL.splitD rfl rfl (fun hc => ?_) (fun hc => ?_)))
      refine PE.again (i + 1) ?_ ?_ sE sT
      · omega
      · omega
  · try refine go ⟨?_⟩
    refine WPL.eff (OpE.call lO (fun w hw => c_RootedValid _ xP xW ps' ws' (Rd.at rD hw) (Rd.at rD hw) (by omega) (by omega))) rfl rfl ?_
    rintro r _ ⟨T, ⟨rfl, rfl⟩, rfl⟩
    rw [decide_eq_true hRV]
    repeat' (first | exact absurd rfl hc | refine go ⟨?_⟩ | (refine isCond ?_; refine WP.condD rfl (fun hc => ?_) (fun hc => ?_)) | (refine isGuard ?_; refine WPL.splitD rfl rfl (fun hc => ?_) (fun hc => ?_)))
    refine PE.ret1 (T := []) (T' := []) rfl rV ?_ sT
    rfl
end Go.Proofs.Ytjmbnhohfhpopaa
