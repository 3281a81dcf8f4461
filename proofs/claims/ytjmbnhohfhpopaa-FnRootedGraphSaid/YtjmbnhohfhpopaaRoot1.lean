/- Rooted trees: RootedValid. Conditions: those of the contract. -/
import Derived.Test.YtjmbnhohfhpopaaRoot0
namespace Go.Proofs.Ytjmbnhohfhpopaa
open Go
set_option linter.unusedVariables false set_option linter.unusedSimpArgs false attribute [local irreducible] Tok.own Tok.blk RL Rd eptr WP WPL PE WPD WPO Op1 OpE Tri Again Mid Exit.then Exit.inBlock bodyPost RP Code.wp wpList isOwn OneM One
set_option maxHeartbeats 8000000

theorem c_RootedValid (w : World) (vP vW : Value) (ps ws : List Int) (hP : RL w vP ps) (hW : RL w vW ws) (hlp : ps.length ≤ 1099511627776) (hlw : ws.length ≤ 1099511627776) :
    Tri Try.prog 25 [.agg #[vP, vW]] w [] fun r T => r = .bool (decide (RV ps ws)) ∧ T = [] := by
  have bad : ¬ RV ps ws → Value.bool false = .bool (decide (RV ps ws)) := fun h => by rw [decide_eq_false h]
  refine Tri.intro (hf := Try.func25) (hb := rfl) (hn := Try.ntmps25) (Nat.le_of_ble_eq_true rfl) ?_
  try refine go ⟨?_⟩
  refine WPL.eff (OpE.box rfl) rfl rfl ?_; rintro _ _ ⟨b, rfl, rfl⟩
  have W1 : One ⟨84, w, fps []⟩ [Tok.blk b [vP, vW]] [vP, vW] := One.rd (Rd.arg0 hP) (One.rd (Rd.arg0 hW) One.nil)
  repeat' (first | refine go ⟨?_⟩ | (refine isCond ?_; refine WP.condD rfl (fun hc => ?_) (fun hc => ?_)) | (refine isGuard ?_; refine WPL.splitD rfl rfl (fun hc => ?_) (fun hc => ?_)))
  · refine PE.ret1 (T := []) (T' := []) rfl rV ?_ sT
    exact ⟨bad fun h => by have := h.1; omega, rfl⟩
  · refine PE.ret1 (T := []) (T' := []) rfl rV ?_ sT
    exact ⟨bad fun h => by have := h.2.1; omega, rfl⟩
  · refine PE.ret1 (T := []) (T' := []) rfl rV ?_ sT
    exact ⟨bad fun h => by have := h.2.2.1; omega, rfl⟩
  rename_i n2 n3
  refine WP.loop (σ := Nat) (fun k => [(1, .pointer (some ⟨b, 0, none⟩)), (3, .int .i64 ps.length), (26, vP), (27, .int .i64 ps.length), (28, .int .i64 k)]) (fun _ => [Tok.blk b [vP, vW]]) (fun k => k ≤ ps.length ∧ ∀ i, i < k → okAt ps ws i) (fun k => ps.length - k) 0 ⟨Nat.zero_le _, by omega⟩ sE sT ?_
  rintro k ⟨hk, hm⟩
  repeat' (first | refine go ⟨?_⟩ | (refine isCond ?_; refine WP.condD rfl (fun hc => ?_) (fun hc => ?_)) | (refine isGuard ?_; refine WPL.splitD rfl rfl (fun hc => ?_) (fun hc => ?_)))
  iterate 5 (refine PE.ret1 (T := []) (T' := []) rfl rV ?_ sT; exact ⟨bad fun h => by have h4 := h.2.2.2.1 k (by omega); unfold okAt at h4; omega, rfl⟩)
  iterate 2 (
    refine PE.again (k + 1) ?_ ?_ sE sT
    · refine ⟨by omega, fun i hi => ?_⟩
      rcases Nat.lt_succ_iff_lt_or_eq.1 hi with h' | rfl
      · exact hm i h'
      · unfold okAt; omega
    · omega)
  have hkn : k = ps.length := by omega
  subst hkn
  have hN : allN ps := fun i hi => ⟨(hm i hi).1, (hm i hi).2.1⟩
  refine WP.loop (σ := Nat) (fun k => [(1, .pointer (some ⟨b, 0, none⟩)), (3, .int .i64 ps.length), (71, .int .i64 ps.length), (72, .int .i64 k)]) (fun _ => [Tok.blk b [vP, vW]]) (fun k => k ≤ ps.length ∧ ∀ i, i < k → ends ps ps.length (i : Int) = true) (fun k => ps.length - k) 0 ⟨Nat.zero_le _, by omega⟩ sE sT ?_
  rintro k ⟨hk, he⟩
  repeat' (first | refine go ⟨?_⟩ | (refine isCond ?_; refine WP.condD rfl (fun hc => ?_) (fun hc => ?_)) | (refine isGuard ?_; refine WPL.splitD rfl rfl (fun hc => ?_) (fun hc => ?_)))
  · refine WPL.eff (OpE.call lO (fun w hw => c_wayUp _ vP vW ps k (Rd.at rD hw) hW.one (by omega) hN ⟨by omega, by omega⟩)) rfl rfl ?_
    rintro r _ ⟨T, hr, rfl⟩
    rcases hr with ⟨h1, u, rfl, rfl⟩ | ⟨h1, rfl, rfl⟩
    · repeat' (first | refine go ⟨?_⟩ | (refine isCond ?_; refine WP.condD rfl (fun hc => ?_) (fun hc => ?_)) | (refine isGuard ?_; refine WPL.splitD rfl rfl (fun hc => ?_) (fun hc => ?_)))
      refine PE.again (k + 1) ?_ ?_ sE sT
      · refine ⟨by omega, fun i hi => ?_⟩
        rcases Nat.lt_succ_iff_lt_or_eq.1 hi with h' | rfl
        · exact he i h'
        · exact h1
      · omega
    · repeat' (first | refine go ⟨?_⟩ | (refine isCond ?_; refine WP.condD rfl (fun hc => ?_) (fun hc => ?_)) | (refine isGuard ?_; refine WPL.splitD rfl rfl (fun hc => ?_) (fun hc => ?_)))
      refine PE.ret1 (T := []) (T' := []) rfl rV ?_ sT
      exact ⟨bad (fun h => by rw [h.2.2.2.2 k (by omega)] at h1; cases h1), rfl⟩
  · refine PE.ret1 (T := []) (T' := []) rfl rV ?_ sT
    refine ⟨?_, rfl⟩
    rw [decide_eq_true]
    exact ⟨by omega, by omega, by omega, hm, fun i hi => he i (by omega)⟩
end Go.Proofs.Ytjmbnhohfhpopaa
