/- Rooted trees: the walks of the second program's MeetOf and WeightBetween. Conditions: those of each contract. -/
import Derived.Test.YtjmbnhohfhpopaaSpc0
import Derived.Test.YtjmbnhohfhpopaaRoot6
namespace Go.Proofs.Ytjmbnhohfhpopaa
open Go
set_option linter.unusedVariables false set_option linter.unusedSimpArgs false attribute [local irreducible] Tok.own Tok.blk RL Rd eptr WP WPL PE WPD WPO Op1 OpE Tri Again Mid Exit.then Exit.inBlock bodyPost RP Code.wp wpList isOwn OneM One
set_option maxHeartbeats 8000000

theorem s_MeetOf (w : World) (vP vW : Value) (ps ws : List Int) (x y : Int) (hP : RL w vP ps) (hW : RL w vW ws) (hlp : ps.length ≤ 1099511627776) (hlw : ws.length ≤ 1099511627776) :
    Tri Try.prog 17 [.agg #[vP, vW], .int .i64 x, .int .i64 y] w [] fun r T => meetV ps ws x y r ∧ T = [] := by
  have bad : ¬ meetOk ps ws x y → meetV ps ws x y (.tuple #[.int .i64 0, .bool false]) := fun h => .inr ⟨fun h' => h h'.1, rfl⟩
  refine Tri.intro (hf := Try.func17) (hb := rfl) (hn := Try.ntmps17) (Nat.le_of_ble_eq_true rfl) ?_
  try refine go ⟨?_⟩
  refine WPL.eff (OpE.box rfl) rfl rfl ?_; rintro _ _ ⟨b, rfl, rfl⟩
  try refine go ⟨?_⟩
  refine WPL.eff (OpE.call lO (fun w hw => s_Node _ vP vW ps ws x (Rd.at rD hw) (Rd.at rD hw) hlp hlw)) rfl rfl ?_
  rintro r _ ⟨T, ⟨rfl, rfl⟩, rfl⟩
  by_cases hx : NV ps ws x
  case neg =>
    repeat' (first | refine go ⟨?_⟩ | (refine isCond ?_; refine WP.condD rfl (fun hc => ?_) (fun hc => ?_)) | (refine isGuard ?_; refine WPL.splitD rfl rfl (fun hc => ?_) (fun hc => ?_)))
    · refine PE.ret2 (T := []) (T' := []) rfl rV ?_ sT
      exact ⟨bad fun h => hx h.1, rfl⟩
    all_goals exact absurd (Decidable.not_not.1 ‹_›) hx
  repeat' (first | refine go ⟨?_⟩ | (refine isCond ?_; refine WP.condD rfl (fun hc => ?_) (fun hc => ?_)) | (refine isGuard ?_; refine WPL.splitD rfl rfl (fun hc => ?_) (fun hc => ?_)))
  · exact absurd hx hc
  refine WPL.eff (OpE.call lO (fun w hw => s_Node _ vP vW ps ws y (Rd.at rD hw) (Rd.at rD hw) hlp hlw)) rfl rfl ?_
  rintro r _ ⟨T, ⟨rfl, rfl⟩, rfl⟩
  repeat' (first | refine go ⟨?_⟩ | (refine isCond ?_; refine WP.condD rfl (fun hc => ?_) (fun hc => ?_)) | (refine isGuard ?_; refine WPL.splitD rfl rfl (fun hc => ?_) (fun hc => ?_)))
  · refine PE.ret2 (T := []) (T' := []) rfl rV ?_ sT
    exact ⟨bad fun h => hc h.2, rfl⟩
  have hy : NV ps ws y := Decidable.not_not.1 hc
  have hn16 := hx.1.2.1
  refine WPL.eff (OpE.call lO (fun w hw => s_Up _ vP vW ps x (Rd.at rD hw) hW.one (by omega) hx.1.allN hx.inN hx.ends)) rfl rfl ?_
  rintro u _ ⟨T, rfl, rfl⟩
  try refine go ⟨?_⟩
  refine WPL.eff (OpE.call lO (fun w hw => s_Up _ vP vW ps y (Rd.at rD hw) hW.one (by omega) hx.1.allN hy.inN hy.ends)) rfl rfl ?_
  rintro v _ ⟨T, rfl, rfl⟩
  have hux := up_length ps ps.length x
  have huy := up_length ps ps.length y
  unfold meetV meetF meetOk
  generalize up ps ps.length x = l1 at *
  generalize up ps ps.length y = l2 at *
  try refine go ⟨?_⟩
  refine WP.loop (σ := Nat) (fun k => [(8, u), (9, v), (10, .int .i64 k)]) (fun _ => [Tok.own v l2, Tok.own u l1]) (fun k => k ≤ l1.length ∧ ∀ i, i < k → l1.getD i 0 ∉ l2) (fun k => l1.length - k) 0 ⟨Nat.zero_le _, by omega⟩ sE sT ?_
  rintro k ⟨hk, hm⟩
  repeat' (first | refine go ⟨?_⟩ | (refine isCond ?_; refine WP.condD rfl (fun hc => ?_) (fun hc => ?_)) | (refine isGuard ?_; refine WPL.splitD rfl rfl (fun hc => ?_) (fun hc => ?_)))
  · have hk' : k < l1.length := by omega
    refine WPL.eff (OpE.call lO (fun w hw => s_In _ v (l1.getD k 0) l2 (Rd.at rD hw) (by omega))) rfl rfl ?_
    rintro r _ ⟨T, ⟨rfl, rfl⟩, rfl⟩
    repeat' (first | refine go ⟨?_⟩ | (refine isCond ?_; refine WP.condD rfl (fun hc => ?_) (fun hc => ?_)) | (refine isGuard ?_; refine WPL.splitD rfl rfl (fun hc => ?_) (fun hc => ?_)))
    · refine PE.ret2 (T := []) (T' := []) rfl rV ?_ sT
      refine ⟨.inl ⟨l1.getD k 0, ⟨hx, hy⟩, ?_, rfl⟩, rfl⟩
      refine find_at hk' (fun i hi => ?_) ?_
      · exact decide_eq_false (hm i hi)
      · exact decide_eq_true ‹_›
    · refine PE.again (k + 1) ?_ ?_ sE sT
      · refine ⟨by omega, fun i hi => ?_⟩
        rcases Nat.lt_succ_iff_lt_or_eq.1 hi with h' | rfl
        · exact hm i h'
        · assumption
      · omega
  · refine PE.ret2 (T := []) (T' := []) rfl rV ?_ sT
    refine ⟨.inr ⟨fun h => ?_, rfl⟩, rfl⟩
    rw [find_none (fun i hi => decide_eq_false (hm i (by omega)))] at h
    exact absurd h.2 (by simp)
end Go.Proofs.Ytjmbnhohfhpopaa
