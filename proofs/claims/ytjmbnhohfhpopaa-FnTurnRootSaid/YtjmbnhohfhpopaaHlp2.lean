/- The helpers of the laws: comparisons once more. Conditions: those of each contract. -/
import Derived.Test.YtjmbnhohfhpopaaHlp0
namespace Go.Proofs.Ytjmbnhohfhpopaa
open Go
set_option linter.unusedVariables false set_option linter.unusedSimpArgs false attribute [local irreducible] Tok.own Tok.blk RL Rd eptr WP WPL PE WPD WPO Op1 OpE Tri Again Mid Exit.then Exit.inBlock bodyPost RP Code.wp wpList isOwn OneM One
set_option maxHeartbeats 8000000

theorem y_In (w : World) (v : Value) (x : Int) (xs : List Int) (h : RL w v xs) (hl : xs.length ≤ 1099511627776) :
    Tri Try.prog 24 [v, .int .i64 x] w [] fun r T => T = [] ∧ r = .bool (decide (x ∈ xs)) := by
  refine Tri.intro (hf := Try.func24) (hb := rfl) (hn := Try.ntmps24) (Nat.le_of_ble_eq_true rfl) ?_
  try refine go ⟨?_⟩
  refine WP.loop (σ := Nat) (fun k => [(0, v), (1, .int .i64 x), (5, .int .i64 k)]) (fun _ => []) (fun k => k ≤ xs.length ∧ ∀ m, m < k → x ≠ xs.getD m 0) (fun k => xs.length - k) 0 ⟨Nat.zero_le _, by omega⟩ sE sT ?_
  rintro k ⟨hk, hm⟩
  try refine go ⟨?_⟩
  refine WP.condD rfl (fun hc => ?_) (fun hc => ?_)
  · try refine go ⟨?_⟩
    refine WP.condD rfl (fun he => ?_) (fun he => ?_)
    · try refine go ⟨?_⟩
      refine PE.ret1 (T := []) (T' := []) rfl rV ?_ sT
      have hk' : k < xs.length := by omega
      refine ⟨rfl, ?_⟩
      have he' : xs.getD k 0 = x := he
      rw [decide_eq_true (he' ▸ getD_mem hk')]
    · try refine go ⟨?_⟩
      refine PE.again (k + 1) ?_ ?_ sE sT
      · exact ⟨by omega, fun m hm' => by
          rcases Nat.lt_succ_iff_lt_or_eq.1 hm' with h' | rfl
          · exact hm m h'
          · exact fun e => he e.symm⟩
      · omega
  · try refine go ⟨?_⟩
    refine PE.ret1 (T := []) (T' := []) rfl rV ?_ sT
    refine ⟨rfl, ?_⟩
    rw [decide_eq_false]
    intro hx
    obtain ⟨n, hn, rfl⟩ := List.getElem_of_mem hx
    refine hm n (by omega) ?_
    rw [List.getD_eq_getElem?_getD, List.getElem?_eq_getElem hn]; rfl

theorem y_Ints (w : World) (v u : Value) (xs ys : List Int) (h : RL w v xs) (h' : RL w u ys) (hl : xs.length ≤ 1048576) (hl' : ys.length ≤ 1048576) :
    Tri Try.prog 40 [v, u] w [] fun r T => T = [] ∧ r = .bool (decide (xs = ys)) := by
  refine Tri.intro (hf := Try.func40) (hb := rfl) (hn := Try.ntmps40) (Nat.le_of_ble_eq_true rfl) ?_
  repeat' (first | refine go ⟨?_⟩ | (refine isCond ?_; refine WP.condD rfl (fun hc => ?_) (fun hc => ?_)) | (refine isGuard ?_; refine WPL.splitD rfl rfl (fun hc => ?_) (fun hc => ?_)))
  · refine PE.ret1 (T := []) (T' := []) rfl rV ?_ sT
    refine ⟨rfl, ?_⟩
    rw [decide_eq_false]
    rintro rfl
    exact absurd rfl ‹_›
  have hll : xs.length = ys.length := by omega
  refine WP.loop (σ := Nat) (fun k => [(0, v), (1, u), (5, .int .i64 k)]) (fun _ => []) (fun k => k ≤ xs.length ∧ ∀ m, m < k → xs.getD m 0 = ys.getD m 0) (fun k => xs.length - k) 0 ⟨Nat.zero_le _, by omega⟩ sE sT ?_
  rintro k ⟨hk, hm⟩
  repeat' (first | refine go ⟨?_⟩ | (refine isCond ?_; refine WP.condD rfl (fun hc => ?_) (fun hc => ?_)) | (refine isGuard ?_; refine WPL.splitD rfl rfl (fun hc => ?_) (fun hc => ?_)))
  · have hk' : k < xs.length := by omega
    refine WP.draw [] mixed ?_
    refine WPD.take 0 rfl oP rfl rfl sT kR kR kR xQP ?_
    refine WPD.take 1 rfl oP rfl rfl sT kR kR kR xQP ?_
    refine WPD.take 2 rfl oP rfl rfl sT kR kR kR xQP ?_
    refine WPD.take 3 rfl oP rfl rfl sT kR kR kR xQP ?_
    refine WPD.take 4 rfl oP rfl rfl sT kR kR kR xQP ?_
    refine WPD.take 5 rfl oP rfl rfl sT kR kR kR xQP ?_
    refine WPD.take 6 rfl oP rfl rfl sT kR kR kR xQP ?_
    refine WPD.take 7 rfl oP rfl rfl sT kR kR kR xQP ?_
    refine WPD.take 8 rfl oP rfl rfl sT kR kR kR xQP ?_
    refine WPD.done kR ?_
    repeat' (first | refine go ⟨?_⟩ | (refine isCond ?_; refine WP.condD rfl (fun hc => ?_) (fun hc => ?_)) | (refine isGuard ?_; refine WPL.splitD rfl rfl (fun hc => ?_) (fun hc => ?_)))
    · refine PE.ret1 (T := []) (T' := []) rfl rV ?_ sT
      refine ⟨rfl, ?_⟩
      rw [decide_eq_false]
      rintro rfl
      exact absurd rfl ‹_›
    · refine PE.again (k + 1) ?_ ?_ sE sT
      · exact ⟨by omega, fun m hm' => by
          rcases Nat.lt_succ_iff_lt_or_eq.1 hm' with h' | rfl
          · exact hm m h'
          · exact Decidable.not_not.1 ‹_›⟩
      · omega
  · refine PE.ret1 (T := []) (T' := []) rfl rV ?_ sT
    refine ⟨rfl, ?_⟩
    rw [decide_eq_true]
    exact list_eq_of_getD hll (fun i hi => hm i (by omega))

theorem y_Rooted (w : World) (vP vW uP uW : Value) (ps ws ps' ws' : List Int) (hP : RL w vP ps) (hW : RL w vW ws) (hP' : RL w uP ps') (hW' : RL w uW ws') (hlp : ps.length ≤ 1048576) (hlw : ws.length ≤ 1048576) (hlp' : ps'.length ≤ 1048576) (hlw' : ws'.length ≤ 1048576) :
    Tri Try.prog 22 [.agg #[vP, vW], .agg #[uP, uW]] w [] fun r T => T = [] ∧ r = .bool (decide (ps = ps' ∧ ws = ws')) := by
  refine Tri.intro (hf := Try.func22) (hb := rfl) (hn := Try.ntmps22) (Nat.le_of_ble_eq_true rfl) ?_
  try refine go ⟨?_⟩
  refine WPL.eff (OpE.box rfl) rfl rfl ?_; rintro _ _ ⟨b, rfl, rfl⟩
  refine WPL.eff (OpE.box rfl) rfl rfl ?_; rintro _ _ ⟨b2, rfl, rfl⟩
  try refine go ⟨?_⟩
  refine WPL.eff (OpE.call lO (fun w hw => y_Ints _ vP uP ps ps' (Rd.at rD hw) (Rd.at rD hw) hlp hlp')) rfl rfl ?_
  rintro r _ ⟨T, ⟨rfl, rfl⟩, rfl⟩
  repeat' (first | exact absurd rfl hc | refine go ⟨?_⟩ | (refine isCond ?_; refine WP.condD rfl (fun hc => ?_) (fun hc => ?_)) | (refine isGuard ?_; refine WPL.splitD rfl rfl (fun hc => ?_) (fun hc => ?_)))
  · refine WPL.eff (OpE.call lO (fun w hw => y_Ints _ vW uW ws ws' (Rd.at rD hw) (Rd.at rD hw) hlw hlw')) rfl rfl ?_
    rintro r _ ⟨T, ⟨rfl, rfl⟩, rfl⟩
    repeat' (first | exact absurd rfl hc | refine go ⟨?_⟩ | (refine isCond ?_; refine WP.condD rfl (fun hc => ?_) (fun hc => ?_)) | (refine isGuard ?_; refine WPL.splitD rfl rfl (fun hc => ?_) (fun hc => ?_)))
    refine PE.ret1 (T := []) (T' := []) rfl rV ?_ sT
    refine ⟨rfl, ?_⟩
    congr 1; rw [decide_eq_decide]
    exact ⟨fun h => ⟨by assumption, h⟩, fun h => h.2⟩
  · refine PE.ret1 (T := []) (T' := []) rfl rV ?_ sT
    refine ⟨rfl, ?_⟩
    rw [decide_eq_false]
    exact fun h => absurd h.1 ‹_›
end Go.Proofs.Ytjmbnhohfhpopaa
