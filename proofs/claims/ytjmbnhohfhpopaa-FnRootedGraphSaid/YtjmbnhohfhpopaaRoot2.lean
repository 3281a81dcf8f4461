/- Rooted trees: the walks of the other functions of the program. Conditions: those of each contract. -/
import Derived.Test.YtjmbnhohfhpopaaRoot1
namespace Go.Proofs.Ytjmbnhohfhpopaa
open Go
set_option linter.unusedVariables false set_option linter.unusedSimpArgs false attribute [local irreducible] Tok.own Tok.blk RL Rd eptr WP WPL PE WPD WPO Op1 OpE Tri Again Mid Exit.then Exit.inBlock bodyPost RP Code.wp wpList isOwn OneM One
set_option maxHeartbeats 8000000

/-- x is a node of valid rooted trees. -/
def NV (ps ws : List Int) (x : Int) : Prop := RV ps ws ∧ 0 ≤ x ∧ x < ps.length
instance (ps ws : List Int) (x : Int) : Decidable (NV ps ws x) := by unfold NV; infer_instance

theorem c_hasNode (w : World) (vP vW : Value) (ps ws : List Int) (x : Int) (hP : RL w vP ps) (hW : RL w vW ws) (hlp : ps.length ≤ 1099511627776) (hlw : ws.length ≤ 1099511627776) :
    Tri Try.prog 52 [.agg #[vP, vW], .int .i64 x] w [] fun r T => r = .bool (decide (NV ps ws x)) ∧ T = [] := by
  refine Tri.intro (hf := Try.func52) (hb := rfl) (hn := Try.ntmps52) (Nat.le_of_ble_eq_true rfl) ?_
  try refine go ⟨?_⟩
  refine WPL.eff (OpE.box rfl) rfl rfl ?_; rintro _ _ ⟨b, rfl, rfl⟩
  try refine go ⟨?_⟩
  refine WPL.eff (OpE.call lO (fun w hw => c_RootedValid _ vP vW ps ws (Rd.at rD hw) (Rd.at rD hw) hlp hlw)) rfl rfl ?_
  rintro r _ ⟨T, ⟨rfl, rfl⟩, rfl⟩
  repeat' (first | refine go ⟨?_⟩ | (refine isCond ?_; refine WP.condD rfl (fun hc => ?_) (fun hc => ?_)) | (refine isGuard ?_; refine WPL.splitD rfl rfl (fun hc => ?_) (fun hc => ?_)))
  all_goals (refine PE.ret1 (T := []) (T' := []) rfl rV ?_ sT)
  · refine ⟨?_, rfl⟩
    congr 1; rw [decide_eq_decide]; unfold NV; constructor
    · intro h; exact ⟨by assumption, by assumption, h⟩
    · intro h; exact h.2.2
  · refine ⟨?_, rfl⟩
    rw [decide_eq_false]; unfold NV; omega
  · refine ⟨?_, rfl⟩
    rw [decide_eq_false]; unfold NV; intro h; exact absurd h.1 ‹_›

def rootV (ps : List Int) (x : Int) : Int := (up ps ps.length x).getD ((up ps ps.length x).length - 1) 0

theorem NV.inN {ps ws : List Int} {x : Int} (h : NV ps ws x) : inN ps x := ⟨by have := h.2.1; omega, h.2.2⟩
theorem NV.ends {ps ws : List Int} {x : Int} (h : NV ps ws x) : ends ps ps.length x = true := by
  have := h.1.2.2.2.2 x.toNat (by have := h.2.2; have := h.2.1; omega)
  rwa [Int.toNat_of_nonneg h.2.1] at this
theorem up_length (ps : List Int) : ∀ (k : Nat) (x : Int), (up ps k x).length ≤ k
  | 0, _ => by simp [up]
  | k + 1, x => by
    unfold up; split
    · simp
    · have := up_length ps k (ps.getD x.toNat 0); simp only [List.length_cons]; omega
theorem NV.up_pos {ps ws : List Int} {x : Int} (h : NV ps ws x) : 0 < (up ps ps.length x).length := by
  have h1 : 1 ≤ ps.length := h.1.1
  have h2 : ps.length = (ps.length - 1) + 1 := by omega
  have h3 : x ≠ -1 := by have := h.2.1; omega
  have : up ps ps.length x = x :: up ps (ps.length - 1) (ps.getD x.toNat 0) := by
    have := up_step (ps := ps) (n := ps.length) (k := 0) (y := x) (by omega) h3
    simpa using this
  rw [this]; simp

theorem c_root (w : World) (vP vW : Value) (ps ws : List Int) (x : Int) (hP : RL w vP ps) (hW : RL w vW ws) (hx : NV ps ws x) :
    Tri Try.prog 53 [.agg #[vP, vW], .int .i64 x] w [] fun r T => r = .int .i64 (rootV ps x) ∧ T = [] := by
  have hl : ps.length ≤ 1000000 := by have := hx.1.2.1; omega
  have hpos := hx.up_pos
  have hle := up_length ps ps.length x
  refine Tri.intro (hf := Try.func53) (hb := rfl) (hn := Try.ntmps53) (Nat.le_of_ble_eq_true rfl) ?_
  try refine go ⟨?_⟩
  refine WPL.eff (OpE.box rfl) rfl rfl ?_; rintro _ _ ⟨b, rfl, rfl⟩
  try refine go ⟨?_⟩
  refine WPL.eff (OpE.call lO (fun w hw => c_wayUp _ vP vW ps x (Rd.at rD hw) hW.one hl hx.1.allN hx.inN)) rfl rfl ?_
  rintro r _ ⟨T, hr, rfl⟩
  rcases hr with ⟨h1, u, rfl, rfl⟩ | ⟨h1, rfl, rfl⟩
  · try refine go ⟨?_⟩
    refine PE.ret1 (T := []) (T' := []) rfl rV ?_ sT
    refine ⟨?_, rfl⟩
    unfold rootV
    congr 2; omega
  · rw [hx.ends] at h1; cases h1

theorem c_RootOf (w : World) (vP vW : Value) (ps ws : List Int) (x : Int) (hP : RL w vP ps) (hW : RL w vW ws) (hlp : ps.length ≤ 1099511627776) (hlw : ws.length ≤ 1099511627776) :
    Tri Try.prog 18 [.agg #[vP, vW], .int .i64 x] w [] fun r T => T = [] ∧ ((NV ps ws x ∧ r = .tuple #[.int .i64 (rootV ps x), .bool true]) ∨ (¬ NV ps ws x ∧ r = .tuple #[.int .i64 0, .bool false])) := by
  refine Tri.intro (hf := Try.func18) (hb := rfl) (hn := Try.ntmps18) (Nat.le_of_ble_eq_true rfl) ?_
  try refine go ⟨?_⟩
  refine WPL.eff (OpE.box rfl) rfl rfl ?_; rintro _ _ ⟨b, rfl, rfl⟩
  try refine go ⟨?_⟩
  refine WPL.eff (OpE.call lO (fun w hw => c_hasNode _ vP vW ps ws x (Rd.at rD hw) (Rd.at rD hw) hlp hlw)) rfl rfl ?_
  rintro r _ ⟨T, ⟨rfl, rfl⟩, rfl⟩
  repeat' (first | refine go ⟨?_⟩ | (refine isCond ?_; refine WP.condD rfl (fun hc => ?_) (fun hc => ?_)) | (refine isGuard ?_; refine WPL.splitD rfl rfl (fun hc => ?_) (fun hc => ?_)))
  · refine PE.ret2 (T := []) (T' := []) rfl rV ?_ sT
    exact ⟨rfl, .inr ⟨hc, rfl⟩⟩
  · have hx : NV ps ws x := Decidable.not_not.1 hc
    refine WPL.eff (OpE.call lO (fun w hw => c_root _ vP vW ps ws x (Rd.at rD hw) (Rd.at rD hw) hx)) rfl rfl ?_
    rintro r _ ⟨T, ⟨rfl, rfl⟩, rfl⟩
    repeat' (first | refine go ⟨?_⟩ | (refine isCond ?_; refine WP.condD rfl (fun hc => ?_) (fun hc => ?_)) | (refine isGuard ?_; refine WPL.splitD rfl rfl (fun hc => ?_) (fun hc => ?_)))
    refine PE.ret2 (T := []) (T' := []) rfl rV ?_ sT
    exact ⟨rfl, .inl ⟨hx, rfl⟩⟩

theorem c_WayUp (w : World) (vP vW : Value) (ps ws : List Int) (x : Int) (hP : RL w vP ps) (hW : RL w vW ws) (hlp : ps.length ≤ 1099511627776) (hlw : ws.length ≤ 1099511627776) :
    Tri Try.prog 23 [.agg #[vP, vW], .int .i64 x] w [] fun r T => (NV ps ws x ∧ ∃ v, r = .tuple #[v, .bool true] ∧ T = [Tok.own v (up ps ps.length x)]) ∨ (¬ NV ps ws x ∧ r = .tuple #[.slice none 0 0, .bool false] ∧ T = []) := by
  refine Tri.intro (hf := Try.func23) (hb := rfl) (hn := Try.ntmps23) (Nat.le_of_ble_eq_true rfl) ?_
  try refine go ⟨?_⟩
  refine WPL.eff (OpE.box rfl) rfl rfl ?_; rintro _ _ ⟨b, rfl, rfl⟩
  try refine go ⟨?_⟩
  refine WPL.eff (OpE.call lO (fun w hw => c_hasNode _ vP vW ps ws x (Rd.at rD hw) (Rd.at rD hw) hlp hlw)) rfl rfl ?_
  rintro r _ ⟨T, ⟨rfl, rfl⟩, rfl⟩
  repeat' (first | refine go ⟨?_⟩ | (refine isCond ?_; refine WP.condD rfl (fun hc => ?_) (fun hc => ?_)) | (refine isGuard ?_; refine WPL.splitD rfl rfl (fun hc => ?_) (fun hc => ?_)))
  · refine PE.ret2 (T := []) (T' := []) rfl rV ?_ sT
    exact .inr ⟨hc, rfl, rfl⟩
  · have hx : NV ps ws x := Decidable.not_not.1 hc
    have hl : ps.length ≤ 1000000 := by have := hx.1.2.1; omega
    refine WPL.eff (OpE.call lO (fun w hw => c_wayUp _ vP vW ps x (Rd.at rD hw) hW.one hl hx.1.allN hx.inN)) rfl rfl ?_
    rintro r _ ⟨T, hr, rfl⟩
    rcases hr with ⟨h1, u, rfl, rfl⟩ | ⟨h1, rfl, rfl⟩
    · repeat' (first | refine go ⟨?_⟩ | (refine isCond ?_; refine WP.condD rfl (fun hc => ?_) (fun hc => ?_)) | (refine isGuard ?_; refine WPL.splitD rfl rfl (fun hc => ?_) (fun hc => ?_)))
      refine PE.ret2 (T := []) (T' := [Tok.own u (up ps ps.length x)]) rfl rV ?_ sT
      exact .inl ⟨hx, u, rfl, rfl⟩
    · rw [hx.ends] at h1; cases h1
end Go.Proofs.Ytjmbnhohfhpopaa
