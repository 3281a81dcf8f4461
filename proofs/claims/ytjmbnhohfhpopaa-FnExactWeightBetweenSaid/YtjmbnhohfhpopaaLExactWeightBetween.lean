/- The law FnExactWeightBetween: its walk. Conditions: those of the theorem. -/
import Derived.Test.YtjmbnhohfhpopaaSpc2
import Derived.Test.YtjmbnhohfhpopaaHlp0
namespace Go.Proofs.Ytjmbnhohfhpopaa
open Go
attribute [local irreducible] Tok.own Tok.blk RL Rd eptr WP WPL PE WPD WPO Op1 OpE Tri Again Mid Exit.then Exit.inBlock bodyPost RP Code.wp wpList isOwn OneM One
set_option maxHeartbeats 8000000

theorem wbV_one {ps ws : List Int} {x y : Int} {r r' : Value} (h : wbV ps ws x y r) (h' : wbV ps ws x y r') : r = r' := by
  rcases h with ⟨m, h1, h2, rfl⟩ | ⟨h1, rfl⟩ <;> rcases h' with ⟨m', h1', h2', rfl⟩ | ⟨h1', rfl⟩
  · rw [h2] at h2'; cases h2'; rfl
  · exact absurd ⟨h1, by rw [h2]; rfl⟩ h1'
  · exact absurd ⟨h1', by rw [h2']; rfl⟩ h1
  · rfl
theorem wbV_form {ps ws : List Int} {x y : Int} {r : Value} (h : wbV ps ws x y r) : ∃ (a b : Int) (c : Bool), r = .tuple #[.int .i64 a, .int .i64 b, .bool c] := by
  rcases h with ⟨m, h1, h2, rfl⟩ | ⟨h1, rfl⟩ <;> exact ⟨_, _, _, rfl⟩

theorem l_ExactWeightBetween (w : World) (vP vW : Value) (ps ws : List Int) (x y : Int) (hP : RL w vP ps) (hW : RL w vW ws) (hlp : ps.length ≤ 9223372036854775807) (hlw : ws.length ≤ 9223372036854775807) :
    Tri Try.prog 7 [.agg #[vP, vW], .int .i64 x, .int .i64 y] w [] fun r T => r = .bool true := by
  refine Tri.intro (hf := Try.func7) (hb := rfl) (hn := Try.ntmps7) (Nat.le_of_ble_eq_true rfl) ?_
  try refine go ⟨?_⟩
  refine WPL.eff (OpE.box rfl) rfl rfl ?_; rintro _ _ ⟨b, rfl, rfl⟩
  try refine go ⟨?_⟩
  refine WPL.eff (OpE.call lO (fun w hw => h_szR _ vP vW ps ws 1048576 (Rd.at rD hw) (Rd.at rD hw) hlp hlw (by omega) (by omega))) rfl rfl ?_
  rintro r _ ⟨T, ⟨rfl, hr⟩, rfl⟩
  rcases hr with ⟨hsz, rfl⟩ | rfl
  case inr =>
    repeat' (first | refine go ⟨?_⟩ | (refine isCond ?_; refine WP.condD rfl (fun hc => ?_) (fun hc => ?_)) | (refine isGuard ?_; refine WPL.splitD rfl rfl (fun hc => ?_) (fun hc => ?_)))
    refine PE.ret1 (T := []) (T' := []) rfl rV ?_ sT
    rfl
  have hlp2 : ps.length ≤ 1048576 := by omega
  have hlw2 : ws.length ≤ 1048576 := by omega
  repeat' (first | refine go ⟨?_⟩ | (refine isCond ?_; refine WP.condD rfl (fun hc => ?_) (fun hc => ?_)) | (refine isGuard ?_; refine WPL.splitD rfl rfl (fun hc => ?_) (fun hc => ?_)))
  · omega
  refine WPL.eff (OpE.call lO (fun w hw => h_toR _ vP vW ps ws (Rd.at rD hw) (Rd.at rD hw) hlp2 hlw2)) rfl rfl ?_
  rintro r _ ⟨T, ⟨u1, u2, rfl, rfl⟩, rfl⟩
  repeat' (first | refine go ⟨?_⟩ | (refine isCond ?_; refine WP.condD rfl (fun hc => ?_) (fun hc => ?_)) | (refine isGuard ?_; refine WPL.splitD rfl rfl (fun hc => ?_) (fun hc => ?_)))
  refine WPL.eff (OpE.call lO (fun w hw => s_WeightBetween _ u1 u2 ps ws x y (Rd.at rD hw) (Rd.at rD hw) (by omega) (by omega))) rfl rfl ?_
  rintro r _ ⟨T, ⟨hr, rfl⟩, rfl⟩
  obtain ⟨g0, g1, g2, rfl⟩ := wbV_form hr
  repeat' (first | refine go ⟨?_⟩ | (refine isCond ?_; refine WP.condD rfl (fun hc => ?_) (fun hc => ?_)) | (refine isGuard ?_; refine WPL.splitD rfl rfl (fun hc => ?_) (fun hc => ?_)))
  refine WPL.eff (OpE.call lO (fun w hw => h_toR _ vP vW ps ws (Rd.at rD hw) (Rd.at rD hw) hlp2 hlw2)) rfl rfl ?_
  rintro r _ ⟨T, ⟨x1, x2, rfl, rfl⟩, rfl⟩
  repeat' (first | refine go ⟨?_⟩ | (refine isCond ?_; refine WP.condD rfl (fun hc => ?_) (fun hc => ?_)) | (refine isGuard ?_; refine WPL.splitD rfl rfl (fun hc => ?_) (fun hc => ?_)))
  refine WPL.eff OpE.alloc rfl rfl ?_; rintro _ _ ⟨bx, rfl, rfl⟩
  repeat' (first | refine go ⟨?_⟩ | (refine isCond ?_; refine WP.condD rfl (fun hc => ?_) (fun hc => ?_)) | (refine isGuard ?_; refine WPL.splitD rfl rfl (fun hc => ?_) (fun hc => ?_)))
  refine WPL.eff (OpE.call lO (fun w hw => c_WeightBetween _ x1 x2 ps ws x y (Rd.at rD hw) (Rd.at rD hw) (by omega) (by omega))) rfl rfl ?_
  rintro r _ ⟨T, ⟨hr', rfl⟩, rfl⟩
  cases wbV_one hr hr'
  repeat' (first | exact absurd rfl hc | refine go ⟨?_⟩ | (refine isCond ?_; refine WP.condD rfl (fun hc => ?_) (fun hc => ?_)) | (refine isGuard ?_; refine WPL.splitD rfl rfl (fun hc => ?_) (fun hc => ?_)))
  have e : (g2 != g2) = false := by cases g2 <;> rfl
  rw [e]
  repeat' (first | exact absurd rfl hc | refine go ⟨?_⟩ | (refine isCond ?_; refine WP.condD rfl (fun hc => ?_) (fun hc => ?_)) | (refine isGuard ?_; refine WPL.splitD rfl rfl (fun hc => ?_) (fun hc => ?_)))
  refine WP.draw [Tok.blk bx [x1, x2], Tok.blk b [vP, vW]] mixed ?_
  refine WPD.take 0 rfl oP rfl rfl sT kR kR kR xQP ?_
  refine WPD.take 1 rfl oP rfl rfl sT kR kR kR xQP ?_
  refine WPD.eff 2 kR rfl (OpE.call lO (fun w hw => h_toR _ vP vW ps ws (Rd.at rD hw) (Rd.at rD hw) hlp2 hlw2)) rfl rfl ?_
  rintro r _ ⟨T, ⟨y1, y2, rfl, rfl⟩, rfl⟩
  refine ⟨sT, ?_⟩
  refine WPD.eff 3 kR rfl (OpE.call lO (fun w hw => h_eqR _ x1 x2 y1 y2 ps ws ps ws (Rd.at rD hw) (Rd.at rD hw) (Rd.at rD hw) (Rd.at rD hw) hlp2 hlw2 hlp2 hlw2)) rfl rfl ?_
  rintro r _ ⟨T, ⟨rfl, rfl⟩, rfl⟩
  refine ⟨sT, ?_⟩
  rw [decide_eq_true (⟨rfl, rfl⟩ : ps = ps ∧ ws = ws)]
  refine WPD.take 4 rfl oP rfl rfl sT kR kR kR xQP ?_
  refine WPD.done kR ?_
  repeat' (first | exact absurd rfl hc | refine go ⟨?_⟩ | (refine isCond ?_; refine WP.condD rfl (fun hc => ?_) (fun hc => ?_)) | (refine isGuard ?_; refine WPL.splitD rfl rfl (fun hc => ?_) (fun hc => ?_)))
  refine PE.ret1 (T := []) (T' := []) rfl rV ?_ sT
  rfl
end Go.Proofs.Ytjmbnhohfhpopaa
