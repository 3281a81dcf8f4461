/- Texts put together: HlpS, HlpT. Conditions: those of each theorem. -/
import Derived.Test.YtfigegmgopnfhaaV5
import Derived.Test.YtfigegmgopnfhaaV11
set_option linter.unusedVariables false
set_option linter.unusedSimpArgs false
/- The helpers of the exact laws over sets. Conditions: those of each contract. -/
namespace Go.Proofs.Ytfigegmgopnfhaa
open Go
theorem take_snocI {l : List Int} {k : Nat} (h : k < l.length) : l.take (k + 1) = l.take k ++ [l.getD k 0] := take_succD 0 h
set_option linter.unusedVariables false set_option linter.unusedSimpArgs false attribute [local irreducible] Tok.own Tok.blk RL Rd eptr WP WPL PE WPD WPO Op1 OpE Tri Again Mid Exit.then Exit.inBlock bodyPost RP Code.wp wpList isOwn OneM One
set_option maxHeartbeats 8000000

theorem h_szI (w : World) (v : Value) (xs : List Int) (left : Int) (h : RL w v xs) (hl : xs.length ≤ 9223372036854775807) (h0 : 0 ≤ left) (h1 : left ≤ 1048576) :
    Tri Try.prog 100 [v, .int .i64 left] w [] fun r T => T = [] ∧ ((xs.length ≤ left ∧ r = .int .i64 (left - xs.length)) ∨ (left < xs.length ∧ r = .int .i64 (-1))) := by
  refine Tri.intro (hf := Try.func100) (hb := rfl) (hn := Try.ntmps100) (Nat.le_of_ble_eq_true rfl) ?_
  repeat' (first | refine go ⟨?_⟩ | (refine isCond ?_; refine WP.condD rfl (fun hc => ?_) (fun hc => ?_)) | (refine isGuard ?_; refine WPL.splitD rfl rfl (fun hc => ?_) (fun hc => ?_)))
  · refine PE.ret1 (T := []) (T' := []) rfl rV ?_ sT
    exact ⟨rfl, .inr ⟨by omega, rfl⟩⟩
  · refine PE.ret1 (T := []) (T' := []) rfl rV ?_ sT
    exact ⟨rfl, .inl ⟨by omega, rfl⟩⟩

theorem h_toI (w : World) (v : Value) (xs : List Int) (h : RL w v xs) (hl : xs.length ≤ 1048576) :
    Tri Try.prog 105 [v] w [] fun r T => T = [Tok.own r xs] := by
  refine Tri.intro (hf := Try.func105) (hb := rfl) (hn := Try.ntmps105) (Nat.le_of_ble_eq_true rfl) ?_
  try refine go ⟨?_⟩
  refine WPL.eff (OpE.make (α := Int) rfl rfl (by omega)) rfl rfl ?_; rintro u _ rfl
  try refine go ⟨?_⟩
  refine WP.loop (σ := Nat) (fun k => [(0, v), (3, u), (4, .int .i64 k)]) (fun k => [Tok.own u (xs.take k ++ List.replicate (xs.length - k) (0 : Int))]) (fun k => k ≤ xs.length) (fun k => xs.length - k) 0 (Nat.zero_le _) sE ?_ ?_
  · exact sT
  rintro k hk
  have hlen : (xs.take k ++ List.replicate (xs.length - k) (0 : Int)).length = xs.length := by simp; omega
  repeat' (first | refine go ⟨?_⟩ | (refine isCond ?_; refine WP.condD rfl (fun hc => ?_) (fun hc => ?_)) | (refine isGuard ?_; refine WPL.splitD rfl rfl (fun hc => ?_) (fun hc => ?_)))
  · have hk' : k < xs.length := by omega
    refine WPL.eff0 (OpE.store1 (xs.getD k 0) rfl rfl pM (by omega) rfl) rfl ?_; rintro _ _ rfl
    have e : (xs.take k ++ List.replicate (xs.length - k) (0 : Int)).set k (xs.getD k 0) = xs.take (k + 1) ++ List.replicate (xs.length - (k + 1)) (0 : Int) := by
      have h1 : xs.length - k = (xs.length - (k + 1)) + 1 := by omega
      rw [h1, List.replicate_succ, List.set_append_right _ _ (by simp; omega)]
      have h2 : k - (xs.take k).length = 0 := by rw [List.length_take]; omega
      rw [h2, List.set_cons_zero, take_snocI hk', List.append_assoc]; rfl
    rw [e]
    try refine go ⟨?_⟩
    refine PE.again (k + 1) ?_ ?_ sE sT
    · exact hk'
    · omega
  · have hk1 : k = xs.length := by omega
    subst hk1
    refine PE.ret1 (T := []) (T' := [Tok.own u (xs.take xs.length ++ List.replicate (xs.length - xs.length) (0 : Int))]) rfl rV ?_ sT
    simp

end Go.Proofs.Ytfigegmgopnfhaa
