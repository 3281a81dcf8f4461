/- The helpers of the laws: marks. Conditions: those of each contract. -/
import Derived.Test.YtjmbnhohfhpopaaHlp0
namespace Go.Proofs.Ytjmbnhohfhpopaa
open Go
set_option linter.unusedVariables false set_option linter.unusedSimpArgs false attribute [local irreducible] Tok.own Tok.blk RL Rd eptr WP WPL PE WPD WPO Op1 OpE Tri Again Mid Exit.then Exit.inBlock bodyPost RP Code.wp wpList isOwn OneM One
set_option maxHeartbeats 8000000

def marks (k : Int) : Nat → List Int
  | 0 => []
  | n + 1 => marks k n ++ [k + n]
theorem marks_length (k : Int) : ∀ n, (marks k n).length = n
  | 0 => rfl
  | n + 1 => by simp [marks, marks_length k n]
theorem marks_get (k : Int) : ∀ (n i : Nat), i < n → (marks k n).getD i 0 = k + i
  | 0, i, h => by omega
  | n + 1, i, h => by
    have hl := marks_length k n
    rw [marks, List.getD_eq_getElem?_getD]
    by_cases hi : i < n
    · rw [List.getElem?_append_left (by omega), ← List.getD_eq_getElem?_getD]; exact marks_get k n i hi
    · have : i = n := by omega
      subst this
      rw [List.getElem?_append_right (by omega), hl, Nat.sub_self]; rfl
theorem marks_set {k : Int} {n : Nat} {xs : List Int} (h : n < xs.length) : (marks k n ++ xs.drop n).set n (k + n) = marks k (n + 1) ++ xs.drop (n + 1) := by
  rw [List.drop_eq_getElem_cons h, List.set_append_right _ _ (by rw [marks_length]; exact Nat.le_refl _), marks_length, Nat.sub_self, List.set_cons_zero, marks, List.append_assoc]; rfl

theorem h_markI (w : World) (v : Value) (xs : List Int) (k : Int) (hl : xs.length ≤ 1048576) (h0 : 0 ≤ k) (h1 : k ≤ 1099511627776) :
    Tri Try.prog 61 [v, .int .i64 k] w [Tok.own v xs] fun r T => r = .int .i64 (k + xs.length) ∧ T = [Tok.own v (marks k xs.length)] := by
  refine Tri.intro (hf := Try.func61) (hb := rfl) (hn := Try.ntmps61) (Nat.le_of_ble_eq_true rfl) ?_
  try refine go ⟨?_⟩
  refine WP.loop (σ := Nat) (fun n => [(0, v), (1, .int .i64 (k + n)), (5, .int .i64 n)]) (fun n => [Tok.own v (marks k n ++ xs.drop n)]) (fun n => n ≤ xs.length) (fun n => xs.length - n) 0 (Nat.zero_le _) ?_ sT ?_
  · simp only [Int.natCast_zero, Int.add_zero]; exact sE
  intro n hn
  have hlen : (marks k n ++ xs.drop n).length = xs.length := by rw [List.length_append, marks_length, List.length_drop]; omega
  repeat' (first | refine go ⟨?_⟩ | (refine isCond ?_; refine WP.condD rfl (fun hc => ?_) (fun hc => ?_)) | (refine isGuard ?_; refine WPL.splitD rfl rfl (fun hc => ?_) (fun hc => ?_)))
  · have hn' : n < xs.length := by omega
    refine WPL.eff0 (OpE.store1 (k + n) rfl rfl pM (by omega) rfl) rfl ?_; rintro _ _ rfl
    rw [marks_set hn']
    repeat' (first | refine go ⟨?_⟩ | (refine isCond ?_; refine WP.condD rfl (fun hc => ?_) (fun hc => ?_)) | (refine isGuard ?_; refine WPL.splitD rfl rfl (fun hc => ?_) (fun hc => ?_)))
    have e : k + (n : Int) + 1 = k + ((n + 1 : Nat) : Int) := by omega
    rw [e]
    refine PE.again (n + 1) ?_ ?_ sE sT
    · omega
    · omega
  · have hn1 : n = xs.length := by omega
    subst hn1
    have e : marks k xs.length ++ xs.drop xs.length = marks k xs.length := by rw [List.drop_length, List.append_nil]
    rw [e]
    refine PE.ret1 (T := [Tok.own v xs]) (T' := [Tok.own v (marks k xs.length)]) rfl rV ?_ sT
    exact ⟨rfl, rfl⟩

theorem h_heldI (w : World) (v : Value) (k : Int) (n : Nat) (h : RL w v (marks k n)) (hl : n ≤ 1048576) (h0 : 0 ≤ k) (h1 : k ≤ 1099511627776) :
    Tri Try.prog 62 [v, .int .i64 k] w [] fun r T => r = .int .i64 (k + n) ∧ T = [] := by
  have hlen := marks_length k n
  have hget := marks_get k n
  generalize marks k n = xs at *
  subst hlen
  refine Tri.intro (hf := Try.func62) (hb := rfl) (hn := Try.ntmps62) (Nat.le_of_ble_eq_true rfl) ?_
  try refine go ⟨?_⟩
  refine WP.loop (σ := Nat) (fun n => [(0, v), (1, .int .i64 (k + n)), (5, .int .i64 n)]) (fun n => []) (fun n => n ≤ xs.length) (fun n => xs.length - n) 0 (Nat.zero_le _) ?_ sT ?_
  · simp only [Int.natCast_zero, Int.add_zero]; exact sE
  intro n hn
  repeat' (first | refine go ⟨?_⟩ | (refine isCond ?_; refine WP.condD rfl (fun hc => ?_) (fun hc => ?_)) | (refine isGuard ?_; refine WPL.splitD rfl rfl (fun hc => ?_) (fun hc => ?_)))
  · exact absurd (hget n (by omega)) hc
  · have e : k + (n : Int) + 1 = k + ((n + 1 : Nat) : Int) := by omega
    rw [e]
    refine PE.again (n + 1) ?_ ?_ sE sT
    · omega
    · omega
  · have hn1 : n = xs.length := by omega
    subst hn1
    refine PE.ret1 (T := []) (T' := []) rfl rV ?_ sT
    exact ⟨rfl, rfl⟩

theorem h_markR (w : World) (vP vW : Value) (ps ws : List Int) (k : Int) (hlp : ps.length ≤ 1048576) (hlw : ws.length ≤ 1048576) (h0 : 0 ≤ k) (h1 : k ≤ 1048576) :
    Tri Try.prog 31 [.agg #[vP, vW], .int .i64 k] w [Tok.own vP ps, Tok.own vW ws] fun r T => r = .int .i64 (k + ps.length + ws.length) ∧ T = [Tok.own vP (marks k ps.length), Tok.own vW (marks (k + ps.length) ws.length)] := by
  refine Tri.intro (hf := Try.func31) (hb := rfl) (hn := Try.ntmps31) (Nat.le_of_ble_eq_true rfl) ?_
  try refine go ⟨?_⟩
  refine WPL.eff (OpE.box rfl) rfl rfl ?_; rintro _ _ ⟨b, rfl, rfl⟩
  try refine go ⟨?_⟩
  refine WPL.eff (OpE.callT (T := [Tok.own vP ps]) lO pM (fun w hw => h_markI _ vP ps k hlp h0 (by omega))) rfl rfl ?_
  rintro r _ ⟨T, ⟨rfl, rfl⟩, rfl⟩
  try refine go ⟨?_⟩
  refine WPL.eff (OpE.callT (T := [Tok.own vW ws]) lO pM (fun w hw => h_markI _ vW ws (k + ps.length) hlw (by omega) (by omega))) rfl rfl ?_
  rintro r _ ⟨T, ⟨rfl, rfl⟩, rfl⟩
  try refine go ⟨?_⟩
  refine PE.ret1 (T := [Tok.own vP ps, Tok.own vW ws]) (T' := [Tok.own vP (marks k ps.length), Tok.own vW (marks (k + ps.length) ws.length)]) rfl rV ?_ sT
  exact ⟨rfl, rfl⟩

theorem h_heldR (w : World) (vP vW : Value) (k : Int) (n m : Nat) (hP : RL w vP (marks k n)) (hW : RL w vW (marks (k + n) m)) (hln : n ≤ 1048576) (hlm : m ≤ 1048576) (h0 : 0 ≤ k) (h1 : k ≤ 1048576) :
    Tri Try.prog 32 [.agg #[vP, vW], .int .i64 k] w [] fun r T => r = .int .i64 (k + n + m) ∧ T = [] := by
  refine Tri.intro (hf := Try.func32) (hb := rfl) (hn := Try.ntmps32) (Nat.le_of_ble_eq_true rfl) ?_
  try refine go ⟨?_⟩
  refine WPL.eff (OpE.box rfl) rfl rfl ?_; rintro _ _ ⟨b, rfl, rfl⟩
  try refine go ⟨?_⟩
  refine WPL.eff (OpE.call lO (fun w hw => h_heldI _ vP k n (Rd.at rD hw) hln h0 (by omega))) rfl rfl ?_
  rintro r _ ⟨T, ⟨rfl, rfl⟩, rfl⟩
  repeat' (first | refine go ⟨?_⟩ | (refine isCond ?_; refine WP.condD rfl (fun hc => ?_) (fun hc => ?_)) | (refine isGuard ?_; refine WPL.splitD rfl rfl (fun hc => ?_) (fun hc => ?_)))
  · omega
  refine WPL.eff (OpE.call lO (fun w hw => h_heldI _ vW (k + n) m (Rd.at rD hw) hlm (by omega) (by omega))) rfl rfl ?_
  rintro r _ ⟨T, ⟨rfl, rfl⟩, rfl⟩
  repeat' (first | refine go ⟨?_⟩ | (refine isCond ?_; refine WP.condD rfl (fun hc => ?_) (fun hc => ?_)) | (refine isGuard ?_; refine WPL.splitD rfl rfl (fun hc => ?_) (fun hc => ?_)))
  · omega
  refine PE.ret1 (T := []) (T' := []) rfl rV ?_ sT
  exact ⟨rfl, rfl⟩
end Go.Proofs.Ytjmbnhohfhpopaa
