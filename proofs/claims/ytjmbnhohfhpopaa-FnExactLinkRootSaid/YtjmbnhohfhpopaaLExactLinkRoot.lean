/- The law FnExactLinkRoot: its walk. Conditions: those of the theorem. -/
import Derived.Test.YtjmbnhohfhpopaaFrm
namespace Go.Proofs.Ytjmbnhohfhpopaa
open Go
set_option linter.unusedVariables false set_option linter.unusedSimpArgs false attribute [local irreducible] Tok.own Tok.blk RL Rd eptr WP WPL PE WPD WPO Op1 OpE Tri Again Mid Exit.then Exit.inBlock bodyPost RP Code.wp wpList isOwn OneM One
attribute [local irreducible] turnF linkF cutF
set_option maxHeartbeats 8000000

theorem l_ExactLinkRoot (w : World) (vP vW : Value) (ps ws : List Int) (x y q : Int) (hP : RL w vP ps) (hW : RL w vW ws) (hlp : ps.length ≤ 9223372036854775807) (hlw : ws.length ≤ 9223372036854775807) :
    Tri Try.prog 6 [.agg #[vP, vW], .int .i64 x, .int .i64 y, .int .i64 q] w [] fun r T => r = .bool true := by
  have hsm := linkF_small ps ws x y q
  unfold smallR at hsm
  have eS : ((linkF ps ws x y q).isSome != (linkF ps ws x y q).isSome) = false := by simp
  refine Tri.intro (hf := Try.func6) (hb := rfl) (hn := Try.ntmps6) (Nat.le_of_ble_eq_true rfl) ?_
  try refine go ⟨?_⟩
  refine WPL.eff (OpE.box rfl) rfl rfl ?_; rintro _ _ ⟨b, rfl, rfl⟩
  try refine go ⟨?_⟩
  refine WPL.eff (OpE.call lO (fun w hw => h_szR _ vP vW ps ws 1048576 (Rd.at rD hw) (Rd.at rD hw) hlp hlw (by omega) (by omega))) rfl rfl ?_
  rintro r _ ⟨T, ⟨rfl, hr⟩, rfl⟩
  rcases hr with ⟨hsz, rfl⟩ | rfl
  case inr =>
    repeat' (first | refine go ⟨?_⟩ | (refine isCond ?_; refine WP.condD rfl (fun hc => ?_) (fun hc => ?_)) | (refine isGuard ?_; refine WPL.splitD rfl rfl (fun hc => ?_) (fun hc => ?_)))
    refine PE.ret1 (T := []) (T' := []) rfl rV ?_ sT
    rfl
  have hlp2 : ps.length ≤ 1048576 := by omega
  have hlw2 : ws.length ≤ 1048576 := by omega
  have hA : ((linkF ps ws x y q).getD ([], [])).1.length ≤ 1048576 := by omega
  have hB : ((linkF ps ws x y q).getD ([], [])).2.length ≤ 1048576 := by omega
  repeat' (first | refine go ⟨?_⟩ | (refine isCond ?_; refine WP.condD rfl (fun hc => ?_) (fun hc => ?_)) | (refine isGuard ?_; refine WPL.splitD rfl rfl (fun hc => ?_) (fun hc => ?_)))
  · omega
  refine WPL.eff (OpE.call lO (fun w hw => h_toR _ vP vW ps ws (Rd.at rD hw) (Rd.at rD hw) hlp2 hlw2)) rfl rfl ?_
  rintro r _ ⟨T, ⟨u1, u2, rfl, rfl⟩, rfl⟩
  repeat' (first | refine go ⟨?_⟩ | (refine isCond ?_; refine WP.condD rfl (fun hc => ?_) (fun hc => ?_)) | (refine isGuard ?_; refine WPL.splitD rfl rfl (fun hc => ?_) (fun hc => ?_)))
  refine WPL.eff (OpE.call lO (fun w hw => sf_LinkRoot _ u1 u2 ps ws x y q (Rd.at rD hw) (Rd.at rD hw) (by omega) (by omega))) rfl rfl ?_
  rintro r _ ⟨T, ⟨w1, w2, rfl, rfl⟩, rfl⟩
  refine WPL.tok (F' := [Tok.own w1 ((linkF ps ws x y q).getD ([], [])).1, Tok.own w2 ((linkF ps ws x y q).getD ([], [])).2, Tok.blk b [vP, vW]]) sT ?_
  repeat' (first | refine go ⟨?_⟩ | (refine isCond ?_; refine WP.condD rfl (fun hc => ?_) (fun hc => ?_)) | (refine isGuard ?_; refine WPL.splitD rfl rfl (fun hc => ?_) (fun hc => ?_)))
  refine WPL.eff OpE.alloc rfl rfl ?_; rintro _ _ ⟨bw, rfl, rfl⟩
  repeat' (first | refine go ⟨?_⟩ | (refine isCond ?_; refine WP.condD rfl (fun hc => ?_) (fun hc => ?_)) | (refine isGuard ?_; refine WPL.splitD rfl rfl (fun hc => ?_) (fun hc => ?_)))
  refine WPL.eff (OpE.call lO (fun w hw => h_toR _ vP vW ps ws (Rd.at rD hw) (Rd.at rD hw) hlp2 hlw2)) rfl rfl ?_
  rintro r _ ⟨T, ⟨x1, x2, rfl, rfl⟩, rfl⟩
  repeat' (first | refine go ⟨?_⟩ | (refine isCond ?_; refine WP.condD rfl (fun hc => ?_) (fun hc => ?_)) | (refine isGuard ?_; refine WPL.splitD rfl rfl (fun hc => ?_) (fun hc => ?_)))
  refine WPL.eff OpE.alloc rfl rfl ?_; rintro _ _ ⟨bx, rfl, rfl⟩
  repeat' (first | refine go ⟨?_⟩ | (refine isCond ?_; refine WP.condD rfl (fun hc => ?_) (fun hc => ?_)) | (refine isGuard ?_; refine WPL.splitD rfl rfl (fun hc => ?_) (fun hc => ?_)))
  refine WPL.eff (OpE.call lO (fun w hw => cf_LinkRoot _ x1 x2 ps ws x y q (Rd.at rD hw) (Rd.at rD hw) (by omega) (by omega))) rfl rfl ?_
  rintro r _ ⟨T, ⟨g1, g2, rfl, rfl⟩, rfl⟩
  repeat' (first | refine go ⟨?_⟩ | (refine isCond ?_; refine WP.condD rfl (fun hc => ?_) (fun hc => ?_)) | (refine isGuard ?_; refine WPL.splitD rfl rfl (fun hc => ?_) (fun hc => ?_)))
  refine WPL.eff OpE.alloc rfl rfl ?_; rintro _ _ ⟨bg, rfl, rfl⟩
  repeat' (first | refine go ⟨?_⟩ | (refine isCond ?_; refine WP.condD rfl (fun hc => ?_) (fun hc => ?_)) | (refine isGuard ?_; refine WPL.splitD rfl rfl (fun hc => ?_) (fun hc => ?_)))
  refine WPL.eff (OpE.call lO (fun w hw => h_eqR _ g1 g2 w1 w2 ((linkF ps ws x y q).getD ([], [])).1 ((linkF ps ws x y q).getD ([], [])).2 ((linkF ps ws x y q).getD ([], [])).1 ((linkF ps ws x y q).getD ([], [])).2 (Rd.at rD hw) (Rd.at rD hw) (Rd.at rD hw) (Rd.at rD hw) hA hB hA hB)) rfl rfl ?_
  rintro r _ ⟨T, ⟨rfl, rfl⟩, rfl⟩
  rw [decide_eq_true (⟨rfl, rfl⟩ : ((linkF ps ws x y q).getD ([], [])).1 = ((linkF ps ws x y q).getD ([], [])).1 ∧ ((linkF ps ws x y q).getD ([], [])).2 = ((linkF ps ws x y q).getD ([], [])).2)]
  repeat' (first | exact absurd rfl hc | refine go ⟨?_⟩ | (refine isCond ?_; refine WP.condD rfl (fun hc => ?_) (fun hc => ?_)) | (refine isGuard ?_; refine WPL.splitD rfl rfl (fun hc => ?_) (fun hc => ?_)))
  rw [eS]
  repeat' (first | exact absurd rfl hc | refine go ⟨?_⟩ | (refine isCond ?_; refine WP.condD rfl (fun hc => ?_) (fun hc => ?_)) | (refine isGuard ?_; refine WPL.splitD rfl rfl (fun hc => ?_) (fun hc => ?_)))
  refine WP.tok (F' := [Tok.own x1 ps, Tok.own x2 ws, Tok.blk bx [x1, x2], Tok.own g1 ((linkF ps ws x y q).getD ([], [])).1, Tok.own g2 ((linkF ps ws x y q).getD ([], [])).2, Tok.blk bg [g1, g2], Tok.own w1 ((linkF ps ws x y q).getD ([], [])).1, Tok.own w2 ((linkF ps ws x y q).getD ([], [])).2, Tok.blk bw [w1, w2], Tok.blk b [vP, vW]]) sT ?_
  refine WP.draw [Tok.blk bx [x1, x2], Tok.blk b [vP, vW]] mixed ?_
  refine WPD.take 0 rfl oP rfl rfl sT kR kR kR xQP ?_
  refine WPD.take 1 rfl oP rfl rfl sT kR kR kR xQP ?_
  refine WPD.eff 2 kR rfl (OpE.call lO (fun w hw => h_toR _ vP vW ps ws (Rd.at rD hw) (Rd.at rD hw) hlp2 hlw2)) rfl rfl ?_
  rintro r _ ⟨T, ⟨y1, y2, rfl, rfl⟩, rfl⟩
  refine ⟨sT, ?_⟩
  refine WPD.eff 3 kR rfl (OpE.call lO (fun w hw => h_eqR _ x1 x2 y1 y2 ps ws ps ws (Rd.at rD hw) (Rd.at rD hw) (Rd.at rD hw) (Rd.at rD hw) hlp2 hlw2 hlp2 hlw2)) rfl rfl ?_
  rintro r _ ⟨T, ⟨rfl, rfl⟩, rfl⟩
  refine ⟨sT, ?_⟩
  rw [decide_eq_true (⟨rfl, rfl⟩ : ps = ps ∧ ws = ws)]
  refine WPD.take 4 rfl oP rfl rfl sT kR kR kR xQP ?_
  refine WPD.done kR ?_
  repeat' (first | exact absurd rfl hc | refine go ⟨?_⟩ | (refine isCond ?_; refine WP.condD rfl (fun hc => ?_) (fun hc => ?_)) | (refine isGuard ?_; refine WPL.splitD rfl rfl (fun hc => ?_) (fun hc => ?_)))
  refine WPL.eff (OpE.callT (T := [Tok.own x1 ps, Tok.own x2 ws]) lO pM (fun w hw => h_markR _ x1 x2 ps ws 1 hlp2 hlw2 (by omega) (by omega))) rfl rfl ?_
  rintro r _ ⟨T, ⟨rfl, rfl⟩, rfl⟩
  refine WPL.tok (F' := [Tok.own g1 ((linkF ps ws x y q).getD ([], [])).1, Tok.own g2 ((linkF ps ws x y q).getD ([], [])).2, Tok.blk bg [g1, g2], Tok.own w1 ((linkF ps ws x y q).getD ([], [])).1, Tok.own w2 ((linkF ps ws x y q).getD ([], [])).2, Tok.blk bw [w1, w2], Tok.blk b [vP, vW]]) sT ?_
  have c1 : ¬ (1 + (ps.length : Int) + ws.length < 0) := by omega
  try refine go ⟨?_⟩
  rw [decide_eq_false c1]
  repeat' (first | exact absurd rfl hc | refine go ⟨?_⟩ | (refine isCond ?_; refine WP.condD rfl (fun hc => ?_) (fun hc => ?_)) | (refine isGuard ?_; refine WPL.splitD rfl rfl (fun hc => ?_) (fun hc => ?_)))
  refine WPL.eff (OpE.call lO (fun w hw => h_eqR _ g1 g2 w1 w2 ((linkF ps ws x y q).getD ([], [])).1 ((linkF ps ws x y q).getD ([], [])).2 ((linkF ps ws x y q).getD ([], [])).1 ((linkF ps ws x y q).getD ([], [])).2 (Rd.at rD hw) (Rd.at rD hw) (Rd.at rD hw) (Rd.at rD hw) hA hB hA hB)) rfl rfl ?_
  rintro r _ ⟨T, ⟨rfl, rfl⟩, rfl⟩
  rw [decide_eq_true (⟨rfl, rfl⟩ : ((linkF ps ws x y q).getD ([], [])).1 = ((linkF ps ws x y q).getD ([], [])).1 ∧ ((linkF ps ws x y q).getD ([], [])).2 = ((linkF ps ws x y q).getD ([], [])).2)]
  repeat' (first | exact absurd rfl hc | refine go ⟨?_⟩ | (refine isCond ?_; refine WP.condD rfl (fun hc => ?_) (fun hc => ?_)) | (refine isGuard ?_; refine WPL.splitD rfl rfl (fun hc => ?_) (fun hc => ?_)))
  rw [eS]
  repeat' (first | exact absurd rfl hc | refine go ⟨?_⟩ | (refine isCond ?_; refine WP.condD rfl (fun hc => ?_) (fun hc => ?_)) | (refine isGuard ?_; refine WPL.splitD rfl rfl (fun hc => ?_) (fun hc => ?_)))
  refine WPL.eff (OpE.callT (T := [Tok.own g1 ((linkF ps ws x y q).getD ([], [])).1, Tok.own g2 ((linkF ps ws x y q).getD ([], [])).2]) lO pM (fun w hw => h_markR _ g1 g2 ((linkF ps ws x y q).getD ([], [])).1 ((linkF ps ws x y q).getD ([], [])).2 1 hA hB (by omega) (by omega))) rfl rfl ?_
  rintro r _ ⟨T, ⟨rfl, rfl⟩, rfl⟩
  repeat' (first | exact absurd rfl hc | refine go ⟨?_⟩ | (refine isCond ?_; refine WP.condD rfl (fun hc => ?_) (fun hc => ?_)) | (refine isGuard ?_; refine WPL.splitD rfl rfl (fun hc => ?_) (fun hc => ?_)))
  have hH := fun w' (h1 : RL w' g1 (marks 1 ((linkF ps ws x y q).getD ([], [])).1.length)) (h2 : RL w' g2 (marks (1 + ((linkF ps ws x y q).getD ([], [])).1.length) ((linkF ps ws x y q).getD ([], [])).2.length)) => h_heldR w' g1 g2 1 _ _ h1 h2 hA hB (by omega) (by omega)
  refine WPL.eff (OpE.call lO (fun w hw => hH _ (Rd.at rD hw) (Rd.at rD hw))) rfl rfl ?_
  rintro r _ ⟨T, ⟨rfl, rfl⟩, rfl⟩
  have c2 : ¬ (1 + (((linkF ps ws x y q).getD ([], [])).1.length : Int) + ((linkF ps ws x y q).getD ([], [])).2.length < 0) := by omega
  try refine go ⟨?_⟩
  rw [decide_eq_false c2]
  repeat' (first | exact absurd rfl hc | refine go ⟨?_⟩ | (refine isCond ?_; refine WP.condD rfl (fun hc => ?_) (fun hc => ?_)) | (refine isGuard ?_; refine WPL.splitD rfl rfl (fun hc => ?_) (fun hc => ?_)))
  refine WPL.eff (OpE.call lO (fun w hw => h_toR _ vP vW ps ws (Rd.at rD hw) (Rd.at rD hw) hlp2 hlw2)) rfl rfl ?_
  rintro r _ ⟨T, ⟨z1, z2, rfl, rfl⟩, rfl⟩
  repeat' (first | exact absurd rfl hc | refine go ⟨?_⟩ | (refine isCond ?_; refine WP.condD rfl (fun hc => ?_) (fun hc => ?_)) | (refine isGuard ?_; refine WPL.splitD rfl rfl (fun hc => ?_) (fun hc => ?_)))
  refine WPL.eff (OpE.call lO (fun w hw => cf_LinkRoot _ z1 z2 ps ws x y q (Rd.at rD hw) (Rd.at rD hw) (by omega) (by omega))) rfl rfl ?_
  rintro r _ ⟨T, ⟨h1, h2, rfl, rfl⟩, rfl⟩
  repeat' (first | exact absurd rfl hc | refine go ⟨?_⟩ | (refine isCond ?_; refine WP.condD rfl (fun hc => ?_) (fun hc => ?_)) | (refine isGuard ?_; refine WPL.splitD rfl rfl (fun hc => ?_) (fun hc => ?_)))
  refine WPL.eff OpE.alloc rfl rfl ?_; rintro _ _ ⟨bh, rfl, rfl⟩
  repeat' (first | exact absurd rfl hc | refine go ⟨?_⟩ | (refine isCond ?_; refine WP.condD rfl (fun hc => ?_) (fun hc => ?_)) | (refine isGuard ?_; refine WPL.splitD rfl rfl (fun hc => ?_) (fun hc => ?_)))
  refine WPL.eff (OpE.call lO (fun w hw => h_eqR _ h1 h2 w1 w2 ((linkF ps ws x y q).getD ([], [])).1 ((linkF ps ws x y q).getD ([], [])).2 ((linkF ps ws x y q).getD ([], [])).1 ((linkF ps ws x y q).getD ([], [])).2 (Rd.at rD hw) (Rd.at rD hw) (Rd.at rD hw) (Rd.at rD hw) hA hB hA hB)) rfl rfl ?_
  rintro r _ ⟨T, ⟨rfl, rfl⟩, rfl⟩
  rw [decide_eq_true (⟨rfl, rfl⟩ : ((linkF ps ws x y q).getD ([], [])).1 = ((linkF ps ws x y q).getD ([], [])).1 ∧ ((linkF ps ws x y q).getD ([], [])).2 = ((linkF ps ws x y q).getD ([], [])).2)]
  repeat' (first | exact absurd rfl hc | refine go ⟨?_⟩ | (refine isCond ?_; refine WP.condD rfl (fun hc => ?_) (fun hc => ?_)) | (refine isGuard ?_; refine WPL.splitD rfl rfl (fun hc => ?_) (fun hc => ?_)))
  rw [eS]
  repeat' (first | exact absurd rfl hc | refine go ⟨?_⟩ | (refine isCond ?_; refine WP.condD rfl (fun hc => ?_) (fun hc => ?_)) | (refine isGuard ?_; refine WPL.splitD rfl rfl (fun hc => ?_) (fun hc => ?_)))
  refine WPL.eff (OpE.call lO (fun w hw => hH _ (Rd.at rD hw) (Rd.at rD hw))) rfl rfl ?_
  rintro r _ ⟨T, ⟨rfl, rfl⟩, rfl⟩
  try refine go ⟨?_⟩
  rw [decide_eq_false c2]
  repeat' (first | exact absurd rfl hc | refine go ⟨?_⟩ | (refine isCond ?_; refine WP.condD rfl (fun hc => ?_) (fun hc => ?_)) | (refine isGuard ?_; refine WPL.splitD rfl rfl (fun hc => ?_) (fun hc => ?_)))
  refine PE.ret1 (T := []) (T' := []) rfl rV ?_ sT
  rfl
end Go.Proofs.Ytjmbnhohfhpopaa
