/- The helpers of the laws: sizes, copies, comparisons, marks. Conditions: those of each contract. -/
import Derived.Test.YtjmbnhohfhpopaaRoot6
namespace Go.Proofs.Ytjmbnhohfhpopaa
open Go
set_option linter.unusedVariables false set_option linter.unusedSimpArgs false attribute [local irreducible] Tok.own Tok.blk RL Rd eptr WP WPL PE WPD WPO Op1 OpE Tri Again Mid Exit.then Exit.inBlock bodyPost RP Code.wp wpList isOwn OneM One
set_option maxHeartbeats 8000000

theorem h_szI (w : World) (v : Value) (xs : List Int) (left : Int) (h : RL w v xs) (hl : xs.length ≤ 9223372036854775807) (h0 : 0 ≤ left) (h1 : left ≤ 1048576) :
    Tri Try.prog 58 [v, .int .i64 left] w [] fun r T => T = [] ∧ ((xs.length ≤ left ∧ r = .int .i64 (left - xs.length)) ∨ (left < xs.length ∧ r = .int .i64 (-1))) := by
  refine Tri.intro (hf := Try.func58) (hb := rfl) (hn := Try.ntmps58) (Nat.le_of_ble_eq_true rfl) ?_
  repeat' (first | refine go ⟨?_⟩ | (refine isCond ?_; refine WP.condD rfl (fun hc => ?_) (fun hc => ?_)) | (refine isGuard ?_; refine WPL.splitD rfl rfl (fun hc => ?_) (fun hc => ?_)))
  · refine PE.ret1 (T := []) (T' := []) rfl rV ?_ sT
    exact ⟨rfl, .inr ⟨by omega, rfl⟩⟩
  · refine PE.ret1 (T := []) (T' := []) rfl rV ?_ sT
    exact ⟨rfl, .inl ⟨by omega, rfl⟩⟩

theorem h_szR (w : World) (vP vW : Value) (ps ws : List Int) (left : Int) (hP : RL w vP ps) (hW : RL w vW ws) (hlp : ps.length ≤ 9223372036854775807) (hlw : ws.length ≤ 9223372036854775807) (h0 : 0 ≤ left) (h1 : left ≤ 1048576) :
    Tri Try.prog 26 [.agg #[vP, vW], .int .i64 left] w [] fun r T => T = [] ∧ ((ps.length + ws.length ≤ left ∧ r = .int .i64 (left - ps.length - ws.length)) ∨ r = .int .i64 (-1)) := by
  refine Tri.intro (hf := Try.func26) (hb := rfl) (hn := Try.ntmps26) (Nat.le_of_ble_eq_true rfl) ?_
  try refine go ⟨?_⟩
  refine WPL.eff (OpE.box rfl) rfl rfl ?_; rintro _ _ ⟨b, rfl, rfl⟩
  try refine go ⟨?_⟩
  refine WPL.eff (OpE.call lO (fun w hw => h_szI _ vP ps left (Rd.at rD hw) hlp h0 h1)) rfl rfl ?_
  rintro r _ ⟨T, ⟨rfl, hr⟩, rfl⟩
  rcases hr with ⟨h2, rfl⟩ | ⟨h2, rfl⟩
  · repeat' (first | refine go ⟨?_⟩ | (refine isCond ?_; refine WP.condD rfl (fun hc => ?_) (fun hc => ?_)) | (refine isGuard ?_; refine WPL.splitD rfl rfl (fun hc => ?_) (fun hc => ?_)))
    · omega
    · refine WPL.eff (OpE.call lO (fun w hw => h_szI _ vW ws (left - ps.length) (Rd.at rD hw) hlw (by omega) (by omega))) rfl rfl ?_
      rintro r _ ⟨T, ⟨rfl, hr⟩, rfl⟩
      rcases hr with ⟨h3, rfl⟩ | ⟨h3, rfl⟩
      · repeat' (first | refine go ⟨?_⟩ | (refine isCond ?_; refine WP.condD rfl (fun hc => ?_) (fun hc => ?_)) | (refine isGuard ?_; refine WPL.splitD rfl rfl (fun hc => ?_) (fun hc => ?_)))
        · omega
        · refine PE.ret1 (T := []) (T' := []) rfl rV ?_ sT
          exact ⟨rfl, .inl ⟨by omega, rfl⟩⟩
      · repeat' (first | refine go ⟨?_⟩ | (refine isCond ?_; refine WP.condD rfl (fun hc => ?_) (fun hc => ?_)) | (refine isGuard ?_; refine WPL.splitD rfl rfl (fun hc => ?_) (fun hc => ?_)))
        refine PE.ret1 (T := []) (T' := []) rfl rV ?_ sT
        exact ⟨rfl, .inr rfl⟩
  · repeat' (first | refine go ⟨?_⟩ | (refine isCond ?_; refine WP.condD rfl (fun hc => ?_) (fun hc => ?_)) | (refine isGuard ?_; refine WPL.splitD rfl rfl (fun hc => ?_) (fun hc => ?_)))
    refine PE.ret1 (T := []) (T' := []) rfl rV ?_ sT
    exact ⟨rfl, .inr rfl⟩

theorem h_toI (w : World) (v : Value) (xs : List Int) (h : RL w v xs) (hl : xs.length ≤ 1048576) :
    Tri Try.prog 59 [v] w [] fun r T => T = [Tok.own r xs] := by
  refine Tri.intro (hf := Try.func59) (hb := rfl) (hn := Try.ntmps59) (Nat.le_of_ble_eq_true rfl) ?_
  try refine go ⟨?_⟩
  refine WPL.eff (OpE.make (α := Int) rfl rfl (by omega)) rfl rfl ?_; rintro u _ rfl
  try refine go ⟨?_⟩
  refine WP.loop (σ := Nat) (fun k => [(0, v), (3, u), (4, .int .i64 k)]) (fun k => [Tok.own u (xs.take k ++ List.replicate (xs.length - k) (0 : Int))]) (fun k => k ≤ xs.length) (fun k => xs.length - k) 0 (Nat.zero_le _) sE ?_ ?_
  · exact sT
  rintro k hk
  have hlen : (xs.take k ++ List.replicate (xs.length - k) (0 : Int)).length = xs.length := by simp; omega
  repeat' (first | refine go ⟨?_⟩ | (refine isCond ?_; refine WP.condD rfl (fun hc => ?_) (fun hc => ?_)) | (refine isGuard ?_; refine WPL.splitD rfl rfl (fun hc => ?_) (fun hc => ?_)))
  · have hk' : k < xs.length := by omega
    refine WPL.eff0 (OpE.store1 (xs.getD k 0) rfl rfl pM (by omega) rfl) rfl ?_; rintro _ _ rfl
    have e : (xs.take k ++ List.replicate (xs.length - k) (0 : Int)).set k (xs.getD k 0) = xs.take (k + 1) ++ List.replicate (xs.length - (k + 1)) (0 : Int) := by
      have h1 : xs.length - k = (xs.length - (k + 1)) + 1 := by omega
      rw [h1, List.replicate_succ, List.set_append_right _ _ (by simp; omega)]
      have h2 : k - (xs.take k).length = 0 := by rw [List.length_take]; omega
      rw [h2, List.set_cons_zero, take_snoc hk', List.append_assoc]; rfl
    rw [e]
    try refine go ⟨?_⟩
    refine PE.again (k + 1) ?_ ?_ sE sT
    · exact hk'
    · omega
  · have hk1 : k = xs.length := by omega
    subst hk1
    refine PE.ret1 (T := []) (T' := [Tok.own u (xs.take xs.length ++ List.replicate (xs.length - xs.length) (0 : Int))]) rfl rV ?_ sT
    simp

theorem h_toR (w : World) (vP vW : Value) (ps ws : List Int) (hP : RL w vP ps) (hW : RL w vW ws) (hlp : ps.length ≤ 1048576) (hlw : ws.length ≤ 1048576) :
    Tri Try.prog 28 [.agg #[vP, vW]] w [] fun r T => ∃ uP uW, r = .agg #[uP, uW] ∧ T = [Tok.own uP ps, Tok.own uW ws] := by
  refine Tri.intro (hf := Try.func28) (hb := rfl) (hn := Try.ntmps28) (Nat.le_of_ble_eq_true rfl) ?_
  try refine go ⟨?_⟩
  refine WPL.eff (OpE.box rfl) rfl rfl ?_; rintro _ _ ⟨b, rfl, rfl⟩
  refine WPL.eff OpE.alloc rfl rfl ?_; rintro _ _ ⟨br, rfl, rfl⟩
  try refine go ⟨?_⟩
  refine WPL.eff OpE.alloc rfl rfl ?_; rintro _ _ ⟨bo, rfl, rfl⟩
  try refine go ⟨?_⟩
  refine WPL.eff (OpE.call lO (fun w hw => h_toI _ vP ps (Rd.at rD hw) hlp)) rfl rfl ?_
  rintro uP _ ⟨T, rfl, rfl⟩
  try refine go ⟨?_⟩
  refine WPL.eff (OpE.call lO (fun w hw => h_toI _ vW ws (Rd.at rD hw) hlw)) rfl rfl ?_
  rintro uW _ ⟨T, rfl, rfl⟩
  try refine go ⟨?_⟩
  refine PE.ret1 (T := []) (T' := [Tok.own uP ps, Tok.own uW ws]) rfl rV ?_ sT
  exact ⟨uP, uW, rfl, rfl⟩

theorem list_eq_of_getD {xs ys : List Int} (hl : xs.length = ys.length) (h : ∀ i, i < xs.length → xs.getD i 0 = ys.getD i 0) : xs = ys := by
  apply List.ext_getElem hl
  intro i h1 h2
  have := h i h1
  rwa [List.getD_eq_getElem?_getD, List.getD_eq_getElem?_getD, List.getElem?_eq_getElem h1, List.getElem?_eq_getElem h2] at this

theorem h_eqI (w : World) (v u : Value) (xs ys : List Int) (h : RL w v xs) (h' : RL w u ys) (hl : xs.length ≤ 1048576) (hl' : ys.length ≤ 1048576) :
    Tri Try.prog 60 [v, u] w [] fun r T => T = [] ∧ r = .bool (decide (xs = ys)) := by
  refine Tri.intro (hf := Try.func60) (hb := rfl) (hn := Try.ntmps60) (Nat.le_of_ble_eq_true rfl) ?_
  repeat' (first | refine go ⟨?_⟩ | (refine isCond ?_; refine WP.condD rfl (fun hc => ?_) (fun hc => ?_)) | (refine isGuard ?_; refine WPL.splitD rfl rfl (fun hc => ?_) (fun hc => ?_)))
  · refine PE.ret1 (T := []) (T' := []) rfl rV ?_ sT
    refine ⟨rfl, ?_⟩
    rw [decide_eq_false]
    rintro rfl
    exact absurd rfl ‹_›
  have hll : xs.length = ys.length := by omega
  refine WP.loop (σ := Nat) (fun k => [(0, v), (1, u), (5, .int .i64 k)]) (fun _ => []) (fun k => k ≤ xs.length ∧ ∀ m, m < k → xs.getD m 0 = ys.getD m 0) (fun k => xs.length - k) 0 ⟨Nat.zero_le _, by omega⟩ sE sT ?_
  rintro k ⟨hk, hm⟩
  repeat' (first | refine go ⟨?_⟩ | (refine isCond ?_; refine WP.condD rfl (fun hc => ?_) (fun hc => ?_)) | (refine isGuard ?_; refine WPL.splitD rfl rfl (fun hc => ?_) (fun hc => ?_)))
  · have hk' : k < xs.length := by omega
    refine WP.draw [] mixed ?_
    refine WPD.take 0 rfl oP rfl rfl sT kR kR kR xQP ?_
    refine WPD.take 1 rfl oP rfl rfl sT kR kR kR xQP ?_
    refine WPD.take 2 rfl oP rfl rfl sT kR kR kR xQP ?_
    refine WPD.take 3 rfl oP rfl rfl sT kR kR kR xQP ?_
    refine WPD.take 4 rfl oP rfl rfl sT kR kR kR xQP ?_
    refine WPD.take 5 rfl oP rfl rfl sT kR kR kR xQP ?_
    refine WPD.take 6 rfl oP rfl rfl sT kR kR kR xQP ?_
    refine WPD.take 7 rfl oP rfl rfl sT kR kR kR xQP ?_
    refine WPD.take 8 rfl oP rfl rfl sT kR kR kR xQP ?_
    refine WPD.done kR ?_
    repeat' (first | refine go ⟨?_⟩ | (refine isCond ?_; refine WP.condD rfl (fun hc => ?_) (fun hc => ?_)) | (refine isGuard ?_; refine WPL.splitD rfl rfl (fun hc => ?_) (fun hc => ?_)))
    · refine PE.ret1 (T := []) (T' := []) rfl rV ?_ sT
      refine ⟨rfl, ?_⟩
      rw [decide_eq_false]
      rintro rfl
      exact absurd rfl ‹_›
    · refine PE.again (k + 1) ?_ ?_ sE sT
      · exact ⟨by omega, fun m hm' => by
          rcases Nat.lt_succ_iff_lt_or_eq.1 hm' with h' | rfl
          · exact hm m h'
          · exact Decidable.not_not.1 ‹_›⟩
      · omega
  · refine PE.ret1 (T := []) (T' := []) rfl rV ?_ sT
    refine ⟨rfl, ?_⟩
    rw [decide_eq_true]
    exact list_eq_of_getD hll (fun i hi => hm i (by omega))

theorem h_eqR (w : World) (vP vW uP uW : Value) (ps ws ps' ws' : List Int) (hP : RL w vP ps) (hW : RL w vW ws) (hP' : RL w uP ps') (hW' : RL w uW ws') (hlp : ps.length ≤ 1048576) (hlw : ws.length ≤ 1048576) (hlp' : ps'.length ≤ 1048576) (hlw' : ws'.length ≤ 1048576) :
    Tri Try.prog 30 [.agg #[vP, vW], .agg #[uP, uW]] w [] fun r T => T = [] ∧ r = .bool (decide (ps = ps' ∧ ws = ws')) := by
  refine Tri.intro (hf := Try.func30) (hb := rfl) (hn := Try.ntmps30) (Nat.le_of_ble_eq_true rfl) ?_
  try refine go ⟨?_⟩
  refine WPL.eff (OpE.box rfl) rfl rfl ?_; rintro _ _ ⟨b, rfl, rfl⟩
  refine WPL.eff (OpE.box rfl) rfl rfl ?_; rintro _ _ ⟨b2, rfl, rfl⟩
  try refine go ⟨?_⟩
  refine WPL.eff (OpE.call lO (fun w hw => h_eqI _ vP uP ps ps' (Rd.at rD hw) (Rd.at rD hw) hlp hlp')) rfl rfl ?_
  rintro r _ ⟨T, ⟨rfl, rfl⟩, rfl⟩
  repeat' (first | refine go ⟨?_⟩ | (refine isCond ?_; refine WP.condD rfl (fun hc => ?_) (fun hc => ?_)) | (refine isGuard ?_; refine WPL.splitD rfl rfl (fun hc => ?_) (fun hc => ?_)))
  · refine PE.ret1 (T := []) (T' := []) rfl rV ?_ sT
    refine ⟨rfl, ?_⟩
    rw [decide_eq_false]
    exact fun h => absurd h.1 ‹_›
  · refine WPL.eff (OpE.call lO (fun w hw => h_eqI _ vW uW ws ws' (Rd.at rD hw) (Rd.at rD hw) hlw hlw')) rfl rfl ?_
    rintro r _ ⟨T, ⟨rfl, rfl⟩, rfl⟩
    repeat' (first | refine go ⟨?_⟩ | (refine isCond ?_; refine WP.condD rfl (fun hc => ?_) (fun hc => ?_)) | (refine isGuard ?_; refine WPL.splitD rfl rfl (fun hc => ?_) (fun hc => ?_)))
    · refine PE.ret1 (T := []) (T' := []) rfl rV ?_ sT
      refine ⟨rfl, ?_⟩
      rw [decide_eq_false]
      exact fun h => absurd h.2 ‹_›
    · refine PE.ret1 (T := []) (T' := []) rfl rV ?_ sT
      refine ⟨rfl, ?_⟩
      rw [decide_eq_true]
      exact ⟨Decidable.not_not.1 ‹¬¬ps = ps'›, Decidable.not_not.1 ‹¬¬ws = ws'›⟩
end Go.Proofs.Ytjmbnhohfhpopaa
