/- The law FnMeetRoot: its walk. Conditions: those of the theorem. -/
import Derived.Test.YtjmbnhohfhpopaaDrw2
import Derived.Test.YtjmbnhohfhpopaaSpc1
import Derived.Test.YtjmbnhohfhpopaaMath2
namespace Go.Proofs.Ytjmbnhohfhpopaa
open Go
set_option linter.unusedVariables false set_option linter.unusedSimpArgs false attribute [local irreducible] Tok.own Tok.blk RL Rd eptr WP WPL PE WPD WPO Op1 OpE Tri Again Mid Exit.then Exit.inBlock bodyPost RP Code.wp wpList isOwn OneM One
attribute [local irreducible] meetF meetG rootV
set_option maxHeartbeats 8000000

theorem l_MeetRoot (w : World) (v : Value) (bs : List UInt8) (h : RL w v bs) (hl : bs.length ≤ 9223372036854775807) :
    Tri Try.prog 3 [v] w [] fun r T => r = .bool true := by
  refine Tri.intro (hf := Try.func3) (hb := rfl) (hn := Try.ntmps3) (Nat.le_of_ble_eq_true rfl) ?_
  repeat' (first | exact absurd rfl hc | refine go ⟨?_⟩ | (refine isCond ?_; refine WP.condD rfl (fun hc => ?_) (fun hc => ?_)) | (refine isGuard ?_; refine WPL.splitD rfl rfl (fun hc => ?_) (fun hc => ?_)))
  · refine PE.ret1 (T := []) (T' := []) rfl rV ?_ sT
    rfl
  refine WPL.eff (OpE.call lO (fun w hw => d_MeetOf _ v bs (Rd.at rD hw) hl)) rfl rfl ?_
  rintro r _ ⟨T, hd, rfl⟩
  obtain ⟨uP, uW, ps, ws, x, y, rfl, rfl, h1, h2⟩ := hd.two
  try refine go ⟨?_⟩
  refine WPL.eff OpE.alloc rfl rfl ?_; rintro _ _ ⟨bt, rfl, rfl⟩
  try refine go ⟨?_⟩
  refine WPL.eff (OpE.call lO (fun w hw => c_MeetOf _ uP uW ps ws x y (Rd.at rD hw) (Rd.at rD hw) (by omega) (by omega))) rfl rfl ?_
  rintro r _ ⟨T, ⟨hr, rfl⟩, rfl⟩
  cases hr.val
  try refine go ⟨?_⟩
  refine WPL.eff (OpE.call lO (fun w hw => s_MeetOf _ uP uW ps ws x y (Rd.at rD hw) (Rd.at rD hw) (by omega) (by omega))) rfl rfl ?_
  rintro r _ ⟨T, ⟨hr', rfl⟩, rfl⟩
  cases hr'.val
  clear hr hr'
  try refine go ⟨?_⟩
  refine WPL.eff (OpE.call lO (fun w hw => c_RootOf _ uP uW ps ws x (Rd.at rD hw) (Rd.at rD hw) (by omega) (by omega))) rfl rfl ?_
  rintro r _ ⟨T, ⟨rfl, hra⟩, rfl⟩
  rcases hra with ⟨hx, rfl⟩ | ⟨hx, rfl⟩
  case inr =>
    have e : meetG ps ws x y = none := by unfold meetG; rw [if_neg (fun h => hx h.1)]
    rw [e]
    try refine go ⟨?_⟩
    refine WPL.eff (OpE.call lO (fun w hw => c_RootOf _ uP uW ps ws y (Rd.at rD hw) (Rd.at rD hw) (by omega) (by omega))) rfl rfl ?_
    rintro r _ ⟨T, ⟨rfl, hrb⟩, rfl⟩
    rcases hrb with ⟨hy, rfl⟩ | ⟨hy, rfl⟩
    · repeat' (first | exact absurd rfl hc | refine go ⟨?_⟩ | (refine isCond ?_; refine WP.condD rfl (fun hc => ?_) (fun hc => ?_)) | (refine isGuard ?_; refine WPL.splitD rfl rfl (fun hc => ?_) (fun hc => ?_)))
      refine PE.ret1 (T := []) (T' := []) rfl rV ?_ sT
      rfl
    · repeat' (first | exact absurd rfl hc | refine go ⟨?_⟩ | (refine isCond ?_; refine WP.condD rfl (fun hc => ?_) (fun hc => ?_)) | (refine isGuard ?_; refine WPL.splitD rfl rfl (fun hc => ?_) (fun hc => ?_)))
      refine PE.ret1 (T := []) (T' := []) rfl rV ?_ sT
      rfl
  try refine go ⟨?_⟩
  refine WPL.eff (OpE.call lO (fun w hw => c_RootOf _ uP uW ps ws y (Rd.at rD hw) (Rd.at rD hw) (by omega) (by omega))) rfl rfl ?_
  rintro r _ ⟨T, ⟨rfl, hrb⟩, rfl⟩
  rcases hrb with ⟨hy, rfl⟩ | ⟨hy, rfl⟩
  case inr =>
    have e : meetG ps ws x y = none := by unfold meetG; rw [if_neg (fun h => hy h.2)]
    rw [e]
    repeat' (first | exact absurd rfl hc | refine go ⟨?_⟩ | (refine isCond ?_; refine WP.condD rfl (fun hc => ?_) (fun hc => ?_)) | (refine isGuard ?_; refine WPL.splitD rfl rfl (fun hc => ?_) (fun hc => ?_)))
    refine PE.ret1 (T := []) (T' := []) rfl rV ?_ sT
    rfl
  have e : meetG ps ws x y = meetF ps x y := by unfold meetG; rw [if_pos ⟨hx, hy⟩]
  have e1 : meetG ps ws x x = some x := by unfold meetG; rw [if_pos ⟨hx, hx⟩, meet_self hx]
  have e2 : meetG ps ws x (rootV ps x) = some (rootV ps x) := by unfold meetG; rw [if_pos ⟨hx, hx.root⟩, meet_root hx]
  have hi := meet_iff hx hy
  rw [e]
  cases hm : meetF ps x y with
  | none =>
    rw [hm] at hi
    have hne : rootV ps x ≠ rootV ps y := fun h => by have := hi.2 h; cases this
    have hq : ((none : Option Int).isSome == decide (rootV ps x = rootV ps y)) = true := by rw [decide_eq_false hne]; rfl
    repeat' (first | exact absurd rfl hc | refine go ⟨?_⟩ | (refine isCond ?_; refine WP.condD rfl (fun hc => ?_) (fun hc => ?_)) | (refine isGuard ?_; refine WPL.splitD rfl rfl (fun hc => ?_) (fun hc => ?_)))
    refine WPL.eff (OpE.call lO (fun w hw => c_MeetOf _ uP uW ps ws x x (Rd.at rD hw) (Rd.at rD hw) (by omega) (by omega))) rfl rfl ?_
    rintro r _ ⟨T, ⟨hr, rfl⟩, rfl⟩
    cases hr.val
    rw [e1]
    repeat' (first | exact absurd rfl hc | refine go ⟨?_⟩ | (refine isCond ?_; refine WP.condD rfl (fun hc => ?_) (fun hc => ?_)) | (refine isGuard ?_; refine WPL.splitD rfl rfl (fun hc => ?_) (fun hc => ?_)))
    refine WPL.eff (OpE.call lO (fun w hw => c_MeetOf _ uP uW ps ws x (rootV ps x) (Rd.at rD hw) (Rd.at rD hw) (by omega) (by omega))) rfl rfl ?_
    rintro r _ ⟨T, ⟨hr, rfl⟩, rfl⟩
    cases hr.val
    rw [e2]
    try refine go ⟨?_⟩
    rw [hq]
    repeat' (first | exact absurd rfl hc | refine go ⟨?_⟩ | (refine isCond ?_; refine WP.condD rfl (fun hc => ?_) (fun hc => ?_)) | (refine isGuard ?_; refine WPL.splitD rfl rfl (fun hc => ?_) (fun hc => ?_)))
    refine PE.ret1 (T := []) (T' := []) rfl rV ?_ sT
    exact congrArg Value.bool (decide_eq_true rfl)
  | some m =>
    rw [hm] at hi
    have hne : rootV ps x = rootV ps y := hi.1 rfl
    have hq : ((some m : Option Int).isSome == decide (rootV ps x = rootV ps y)) = true := by rw [decide_eq_true hne]; rfl
    repeat' (first | exact absurd rfl hc | refine go ⟨?_⟩ | (refine isCond ?_; refine WP.condD rfl (fun hc => ?_) (fun hc => ?_)) | (refine isGuard ?_; refine WPL.splitD rfl rfl (fun hc => ?_) (fun hc => ?_)))
    refine WPL.eff (OpE.call lO (fun w hw => c_MeetOf _ uP uW ps ws x x (Rd.at rD hw) (Rd.at rD hw) (by omega) (by omega))) rfl rfl ?_
    rintro r _ ⟨T, ⟨hr, rfl⟩, rfl⟩
    cases hr.val
    rw [e1]
    repeat' (first | exact absurd rfl hc | refine go ⟨?_⟩ | (refine isCond ?_; refine WP.condD rfl (fun hc => ?_) (fun hc => ?_)) | (refine isGuard ?_; refine WPL.splitD rfl rfl (fun hc => ?_) (fun hc => ?_)))
    refine WPL.eff (OpE.call lO (fun w hw => c_MeetOf _ uP uW ps ws x (rootV ps x) (Rd.at rD hw) (Rd.at rD hw) (by omega) (by omega))) rfl rfl ?_
    rintro r _ ⟨T, ⟨hr, rfl⟩, rfl⟩
    cases hr.val
    rw [e2]
    try refine go ⟨?_⟩
    rw [hq]
    repeat' (first | exact absurd rfl hc | refine go ⟨?_⟩ | (refine isCond ?_; refine WP.condD rfl (fun hc => ?_) (fun hc => ?_)) | (refine isGuard ?_; refine WPL.splitD rfl rfl (fun hc => ?_) (fun hc => ?_)))
    refine PE.ret1 (T := []) (T' := []) rfl rV ?_ sT
    exact congrArg Value.bool (decide_eq_true rfl)
end Go.Proofs.Ytjmbnhohfhpopaa
