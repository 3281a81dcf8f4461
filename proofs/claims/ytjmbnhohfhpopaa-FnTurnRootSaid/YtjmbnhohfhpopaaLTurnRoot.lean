/- The law FnTurnRoot: its walk. Conditions: those of the theorem. -/
import Derived.Test.YtjmbnhohfhpopaaDrw3
import Derived.Test.YtjmbnhohfhpopaaSpc3
import Derived.Test.YtjmbnhohfhpopaaHlp2
import Derived.Test.YtjmbnhohfhpopaaMath11
import Derived.Test.YtjmbnhohfhpopaaSpc2
namespace Go.Proofs.Ytjmbnhohfhpopaa
open Go
set_option linter.unusedVariables false set_option linter.unusedSimpArgs false attribute [local irreducible] Tok.own Tok.blk RL Rd eptr WP WPL PE WPD WPO Op1 OpE Tri Again Mid Exit.then Exit.inBlock bodyPost RP Code.wp wpList isOwn OneM One
attribute [local irreducible] meetF meetG turnP turnW rootV wbG
set_option maxHeartbeats 8000000

theorem l_TurnRoot (w : World) (v : Value) (bs : List UInt8) (h : RL w v bs) (hl : bs.length ≤ 9223372036854775807) :
    Tri Try.prog 13 [v] w [] fun r T => r = .bool true := by
  refine Tri.intro (hf := Try.func13) (hb := rfl) (hn := Try.ntmps13) (Nat.le_of_ble_eq_true rfl) ?_
  repeat' (first | exact absurd rfl hc | refine go ⟨?_⟩ | (refine isCond ?_; refine WP.condD rfl (fun hc => ?_) (fun hc => ?_)) | (refine isGuard ?_; refine WPL.splitD rfl rfl (fun hc => ?_) (fun hc => ?_)))
  · refine PE.ret1 (T := []) (T' := []) rfl rV ?_ sT
    rfl
  refine WPL.eff (OpE.call lO (fun w hw => d_TurnRoot _ v bs (Rd.at rD hw) hl)) rfl rfl ?_
  rintro r _ ⟨T, hd, rfl⟩
  obtain ⟨uP, uW, ps, ws, x, rfl, rfl, h1, h2⟩ := hd.one
  try refine go ⟨?_⟩
  refine WPL.eff OpE.alloc rfl rfl ?_; rintro _ _ ⟨bt, rfl, rfl⟩
  try refine go ⟨?_⟩
  refine WPL.eff (OpE.call lO (fun w hw => c_TurnRoot _ uP uW ps ws x (Rd.at rD hw) (Rd.at rD hw) (by omega) (by omega))) rfl rfl ?_
  rintro r _ ⟨T, hr, rfl⟩
  rcases hr with ⟨hx, xP, xW, rfl, rfl⟩ | ⟨hk, rfl, rfl⟩
  case inr =>
    unfold nilR
    try refine go ⟨?_⟩
    refine WPL.eff OpE.alloc rfl rfl ?_; rintro _ _ ⟨bx, rfl, rfl⟩
    try refine go ⟨?_⟩
    refine WPL.eff (OpE.call lO (fun w hw => s_TurnRoot _ uP uW ps ws x (Rd.at rD hw) (Rd.at rD hw) (by omega) (by omega))) rfl rfl ?_
    rintro r _ ⟨T, hr, rfl⟩
    rcases hr with ⟨hk', _⟩ | ⟨_, rfl, rfl⟩
    · exact absurd hk' hk
    unfold nilR
    try refine go ⟨?_⟩
    refine WPL.eff OpE.alloc rfl rfl ?_; rintro _ _ ⟨bz, rfl, rfl⟩
    try refine go ⟨?_⟩
    refine WPL.eff (OpE.call lO (fun w hw => y_Rooted _ _ _ _ _ ([] : List Int) [] [] [] (RL.nilI _) (RL.nilI _) (RL.nilI _) (RL.nilI _) (by decide) (by decide) (by decide) (by decide))) rfl rfl ?_
    rintro r _ ⟨T, ⟨rfl, rfl⟩, rfl⟩
    repeat' (first | exact absurd rfl hc | refine go ⟨?_⟩ | (refine isCond ?_; refine WP.condD rfl (fun hc => ?_) (fun hc => ?_)) | (refine isGuard ?_; refine WPL.splitD rfl rfl (fun hc => ?_) (fun hc => ?_)))
    refine WPL.eff (OpE.call lO (fun w hw => y_Rooted _ _ _ _ _ ([] : List Int) [] [] [] (RL.nilI _) (RL.nilI _) (RL.nilI _) (RL.nilI _) (by decide) (by decide) (by decide) (by decide))) rfl rfl ?_
    rintro r _ ⟨T, ⟨rfl, rfl⟩, rfl⟩
    repeat' (first | exact absurd rfl hc | refine go ⟨?_⟩ | (refine isCond ?_; refine WP.condD rfl (fun hc => ?_) (fun hc => ?_)) | (refine isGuard ?_; refine WPL.splitD rfl rfl (fun hc => ?_) (fun hc => ?_)))
    refine PE.ret1 (T := []) (T' := []) rfl rV ?_ sT
    rfl
  try refine go ⟨?_⟩
  refine WPL.eff OpE.alloc rfl rfl ?_; rintro _ _ ⟨bx, rfl, rfl⟩
  try refine go ⟨?_⟩
  refine WPL.eff (OpE.call lO (fun w hw => s_TurnRoot _ uP uW ps ws x (Rd.at rD hw) (Rd.at rD hw) (by omega) (by omega))) rfl rfl ?_
  rintro r _ ⟨T, hr, rfl⟩
  rcases hr with ⟨_, zP, zW, rfl, rfl⟩ | ⟨hk', _⟩
  case inr => exact absurd hx hk'
  have T1 := turned hx
  have e1 := T1.len
  have e2 := T1.lenw
  generalize turnP ps (up ps ps.length x) ((up ps ps.length x).length - 1) = ps' at *
  generalize turnW ws (up ps ps.length x) ((up ps ps.length x).length - 1) = ws' at *
  try refine go ⟨?_⟩
  refine WPL.eff OpE.alloc rfl rfl ?_; rintro _ _ ⟨bz, rfl, rfl⟩
  try refine go ⟨?_⟩
  refine WPL.eff (OpE.call lO (fun w hw => y_Rooted _ xP xW zP zW ps' ws' ps' ws' (Rd.at rD hw) (Rd.at rD hw) (Rd.at rD hw) (Rd.at rD hw) (by omega) (by omega) (by omega) (by omega))) rfl rfl ?_
  rintro r _ ⟨T, ⟨rfl, rfl⟩, rfl⟩
  rw [decide_eq_true (⟨rfl, rfl⟩ : ps' = ps' ∧ ws' = ws')]
  repeat' (first | exact absurd rfl hc | refine go ⟨?_⟩ | (refine isCond ?_; refine WP.condD rfl (fun hc => ?_) (fun hc => ?_)) | (refine isGuard ?_; refine WPL.splitD rfl rfl (fun hc => ?_) (fun hc => ?_)))
  refine WP.loop (σ := Nat) (fun i => [(3, .pointer (some ⟨bt, 0, none⟩)), (4, .int .i64 x), (5, .pointer (some ⟨bx, 0, none⟩)), (9, .int .i64 i)])
    (fun i => [Tok.blk bt [uP, uW], Tok.own uP ps, Tok.own uW ws, Tok.blk bx [xP, xW], Tok.own xP ps', Tok.own xW ws']) (fun i => i ≤ ps.length) (fun i => ps.length - i) 0 (Nat.zero_le _) sE sT ?_
  intro i hi
  try refine go ⟨?_⟩
  refine WP.condD rfl (fun hc => ?_) (fun hc => ?_)
  · have hn : NV ps ws i := ⟨hx.1, by omega, by omega⟩
    have hn' : NV ps' ws' i := T1.nv hx hn
    have hwb := T1.wb hx hn
    try refine go ⟨?_⟩
    refine WPL.eff (OpE.call lO (fun w hw => c_WeightBetween _ uP uW ps ws x i (Rd.at rD hw) (Rd.at rD hw) (by omega) (by omega))) rfl rfl ?_
    rintro r _ ⟨T, ⟨hr, rfl⟩, rfl⟩
    cases hr.val
    try refine go ⟨?_⟩
    refine WPL.eff (OpE.call lO (fun w hw => c_WeightBetween _ xP xW ps' ws' x i (Rd.at rD hw) (Rd.at rD hw) (by omega) (by omega))) rfl rfl ?_
    rintro r _ ⟨T, ⟨hr, rfl⟩, rfl⟩
    cases hr.val
    rw [hwb]
    generalize wbG ps ws x i = g at *
    have eg : (g.2.2 != g.2.2) = false := by simp
    try refine go ⟨?_⟩
    rw [eg]
    repeat' (first | exact absurd rfl hc | refine go ⟨?_⟩ | (refine isCond ?_; refine WP.condD rfl (fun hc => ?_) (fun hc => ?_)) | (refine isGuard ?_; refine WPL.splitD rfl rfl (fun hc => ?_) (fun hc => ?_)))
    refine PE.again (i + 1) ?_ ?_ sE sT
    · omega
    · omega
  · have hr := hx.root
    have hrt := root_top hx
    try refine go ⟨?_⟩
    refine WPL.eff (OpE.call lO (fun w hw => c_RootOf _ uP uW ps ws x (Rd.at rD hw) (Rd.at rD hw) (by omega) (by omega))) rfl rfl ?_
    rintro r _ ⟨T, ⟨rfl, hr2⟩, rfl⟩
    rcases hr2 with ⟨_, rfl⟩ | ⟨hq, _⟩
    case inr => exact absurd hx hq
    have hn' : NV ps' ws' (rootV ps x) := T1.nv hx hr
    have T2 := turned hn'
    have T3 := turned hr
    obtain ⟨q1, q2⟩ := turn_twice hx hr T1 T2 T3 (rootV_top hr hrt)
    obtain ⟨q3, q4⟩ := turned_root hr hrt T3
    rw [q3] at q1
    rw [q4] at q2
    try refine go ⟨?_⟩
    refine WPL.eff (OpE.call lO (fun w hw => c_TurnRoot _ xP xW ps' ws' (rootV ps x) (Rd.at rD hw) (Rd.at rD hw) (by omega) (by omega))) rfl rfl ?_
    rintro r _ ⟨T, hrr, rfl⟩
    rcases hrr with ⟨_, kP, kW, rfl, rfl⟩ | ⟨hq, _⟩
    case inr => exact absurd hn' hq
    rw [q1, q2]
    repeat' (first | exact absurd rfl hc | refine go ⟨?_⟩ | (refine isCond ?_; refine WP.condD rfl (fun hc => ?_) (fun hc => ?_)) | (refine isGuard ?_; refine WPL.splitD rfl rfl (fun hc => ?_) (fun hc => ?_)))
    refine WPL.eff OpE.alloc rfl rfl ?_; rintro _ _ ⟨bk, rfl, rfl⟩
    repeat' (first | exact absurd rfl hc | refine go ⟨?_⟩ | (refine isCond ?_; refine WP.condD rfl (fun hc => ?_) (fun hc => ?_)) | (refine isGuard ?_; refine WPL.splitD rfl rfl (fun hc => ?_) (fun hc => ?_)))
    refine WPL.eff (OpE.call lO (fun w hw => c_RootedValid _ xP xW ps' ws' (Rd.at rD hw) (Rd.at rD hw) (by omega) (by omega))) rfl rfl ?_
    rintro r _ ⟨T, ⟨rfl, rfl⟩, rfl⟩
    have hrv := T1.rv hx
    rw [decide_eq_true hrv]
    have hx0 := hx.2.1
    have hx1 := hx.2.2
    have htop := T1.top
    repeat' (first | exact absurd rfl hc | refine go ⟨?_⟩ | (refine isCond ?_; refine WP.condD rfl (fun hc => ?_) (fun hc => ?_)) | (refine isGuard ?_; refine WPL.splitD rfl rfl (fun hc => ?_) (fun hc => ?_)))
    · refine WPL.eff (OpE.call lO (fun w hw => y_Rooted _ kP kW uP uW ps ws ps ws (Rd.at rD hw) (Rd.at rD hw) (Rd.at rD hw) (Rd.at rD hw) (by omega) (by omega) (by omega) (by omega))) rfl rfl ?_
      rintro r _ ⟨T, ⟨rfl, rfl⟩, rfl⟩
      rw [decide_eq_true (⟨rfl, rfl⟩ : ps = ps ∧ ws = ws)]
      repeat' (first | exact absurd rfl hc | refine go ⟨?_⟩ | (refine isCond ?_; refine WP.condD rfl (fun hc => ?_) (fun hc => ?_)) | (refine isGuard ?_; refine WPL.splitD rfl rfl (fun hc => ?_) (fun hc => ?_)))
      refine PE.ret1 (T := []) (T' := []) rfl rV ?_ sT
      rfl
    · exact absurd htop hc
end Go.Proofs.Ytjmbnhohfhpopaa
