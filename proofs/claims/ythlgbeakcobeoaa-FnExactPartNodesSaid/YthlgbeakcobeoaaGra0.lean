/- Graphs: the walks of the program's first functions (comparing edges, valid graphs). Conditions: those of each contract. -/
import Derived.Test.YthlgbeakcobeoaaTypes2
import Derived.Test.YthlgbeakcobeoaaGr0
namespace Go.Proofs.Ythlgbeakcobeoaa
open Go
theorem RL.oneG {α : Type} [Enc α] {w : World} {v : Value} {xs : List α} (h : RL w v xs) : v.oneCell' = true := by
  unfold RL at h
  rcases h.2 with ⟨rfl, _⟩ | ⟨b, off, cap, rfl, _⟩ <;> rfl
set_option linter.unusedVariables false set_option linter.unusedSimpArgs false attribute [local irreducible] Tok.own Tok.blk RL Rd eptr WP WPL PE WPD WPO Op1 OpE Tri Again Mid Exit.then Exit.inBlock bodyPost RP Code.wp wpList isOwn OneM One
set_option maxHeartbeats 8000000

def ep (e : E) : Value := .agg #[.int .i64 e.A, .int .i64 e.B]
def eD : E := ⟨0, 0⟩
def cmpI (a b : Int) : Int := if a < b then -1 else if b < a then 1 else 0
def cmpE (a b : E) : Int := if cmpI a.A b.A ≠ 0 then cmpI a.A b.A else cmpI a.B b.B
def ltE (a b : E) : Prop := a.A < b.A ∨ (a.A = b.A ∧ a.B < b.B)
instance (a b : E) : Decidable (ltE a b) := by unfold ltE; infer_instance
theorem cmpE_neg {a b : E} : cmpE a b < 0 ↔ ltE a b := by
  unfold cmpE cmpI ltE; repeat' split
  all_goals omega
theorem cmpE_nonneg {a b : E} : 0 ≤ cmpE a b ↔ ¬ ltE a b := by rw [← cmpE_neg]; omega
theorem cmpE_zero {a b : E} : cmpE a b = 0 ↔ a = b := by
  have : a = b ↔ a.A = b.A ∧ a.B = b.B := by cases a; cases b; simp
  rw [this]
  unfold cmpE cmpI; repeat' split
  all_goals omega
theorem cmpE_small (a b : E) : -1 ≤ cmpE a b ∧ cmpE a b ≤ 1 := by
  unfold cmpE cmpI; repeat' split
  all_goals omega

theorem c_isNaN (w : World) (x : Int) : Tri Try.prog 140 [.int .i64 x] w [] fun r T => r = .bool false ∧ T = [] := by
  refine Tri.intro (hf := Try.func140) (hb := rfl) (hn := Try.ntmps140) (Nat.le_of_ble_eq_true rfl) ?_
  try refine go ⟨?_⟩
  refine PE.ret1 (T := []) (T' := []) rfl rV ?_ sT
  exact ⟨by simp, rfl⟩
theorem c_Compare (w : World) (x y : Int) : Tri Try.prog 138 [.int .i64 x, .int .i64 y] w [] fun r T => r = .int .i64 (cmpI x y) ∧ T = [] := by
  refine Tri.intro (hf := Try.func138) (hb := rfl) (hn := Try.ntmps138) (Nat.le_of_ble_eq_true rfl) ?_
  try refine go ⟨?_⟩
  refine WPL.eff (OpE.call lO (fun w hw => c_isNaN _ x)) rfl rfl ?_
  rintro r _ ⟨T, ⟨rfl, rfl⟩, rfl⟩
  try refine go ⟨?_⟩
  refine WPL.eff (OpE.call lO (fun w hw => c_isNaN _ y)) rfl rfl ?_
  rintro r _ ⟨T, ⟨rfl, rfl⟩, rfl⟩
  repeat' (first | refine go ⟨?_⟩ | (refine isCond ?_; refine WP.condD rfl (fun hc => ?_) (fun hc => ?_)) | (refine isGuard ?_; refine WPL.splitD rfl rfl (fun hc => ?_) (fun hc => ?_)))
  all_goals (refine PE.ret1 (T := []) (T' := []) rfl rV ?_ sT)
  · exact ⟨by rw [cmpI, if_pos hc], rfl⟩
  · exact ⟨by rw [cmpI, if_neg ‹_›, if_pos hc], rfl⟩
  · exact ⟨by rw [cmpI, if_neg ‹_›, if_neg hc], rfl⟩
theorem c_Or (w : World) (v : Value) (a b : Int) (h : RL w v [a, b]) : Tri Try.prog 137 [v] w [] fun r T => r = .int .i64 (if a ≠ 0 then a else b) ∧ T = [] := by
  refine Tri.intro (hf := Try.func137) (hb := rfl) (hn := Try.ntmps137) (Nat.le_of_ble_eq_true rfl) ?_
  try refine go ⟨?_⟩
  refine WP.loop (σ := Nat) (fun k => [(3, .int .i64 0), (6, v), (7, .int .i64 2), (8, .int .i64 k)]) (fun _ => []) (fun k => k ≤ 2 ∧ (1 ≤ k → a = 0) ∧ (2 ≤ k → b = 0)) (fun k => 2 - k) 0 ⟨by omega, by omega, by omega⟩ sE sT ?_
  rintro k ⟨hk, h1, h2⟩
  have hk3 : k = 0 ∨ k = 1 ∨ k = 2 := by omega
  rcases hk3 with rfl | rfl | rfl
  · repeat' (first | refine go ⟨?_⟩ | (refine isCond ?_; refine WP.condD rfl (fun hc => ?_) (fun hc => ?_)) | (refine isGuard ?_; refine WPL.splitD rfl rfl (fun hc => ?_) (fun hc => ?_)))
    · refine PE.ret1 (T := []) (T' := []) rfl rV ?_ sT
      have hc : a ≠ 0 := hc
      exact ⟨by rw [if_pos hc]; rfl, rfl⟩
    · have hc : ¬ a ≠ 0 := hc
      refine PE.again 1 ?_ ?_ sE sT
      · exact ⟨by omega, by omega, by omega⟩
      · omega
  · repeat' (first | refine go ⟨?_⟩ | (refine isCond ?_; refine WP.condD rfl (fun hc => ?_) (fun hc => ?_)) | (refine isGuard ?_; refine WPL.splitD rfl rfl (fun hc => ?_) (fun hc => ?_)))
    · refine PE.ret1 (T := []) (T' := []) rfl rV ?_ sT
      have := h1 (by omega)
      exact ⟨by rw [if_neg (by omega)]; rfl, rfl⟩
    · have hc : ¬ b ≠ 0 := hc
      refine PE.again 2 ?_ ?_ sE sT
      · exact ⟨by omega, by omega, by omega⟩
      · omega
  · repeat' (first | refine go ⟨?_⟩ | (refine isCond ?_; refine WP.condD rfl (fun hc => ?_) (fun hc => ?_)) | (refine isGuard ?_; refine WPL.splitD rfl rfl (fun hc => ?_) (fun hc => ?_)))
    · refine PE.ret1 (T := []) (T' := []) rfl rV ?_ sT
      have e1 := h1 (by omega)
      have e2 := h2 (by omega)
      exact ⟨by rw [if_neg (by omega), e2], rfl⟩

theorem c_cmpE (w : World) (a b : E) : Tri Try.prog 127 [ep a, ep b] w [] fun r T => r = .int .i64 (cmpE a b) ∧ T = [] := by
  refine Tri.intro (hf := Try.func127) (hb := rfl) (hn := Try.ntmps127) (Nat.le_of_ble_eq_true rfl) ?_
  try refine go ⟨?_⟩
  refine WPL.eff (OpE.box rfl) rfl rfl ?_; rintro _ _ ⟨b1, rfl, rfl⟩
  refine WPL.eff (OpE.box rfl) rfl rfl ?_; rintro _ _ ⟨b2, rfl, rfl⟩
  try refine go ⟨?_⟩
  refine WP.draw [Tok.blk b1 [.int .i64 a.A, .int .i64 a.B], Tok.blk b2 [.int .i64 b.A, .int .i64 b.B]] mixed ?_
  refine WPD.take 0 rfl (by first | exact (Op1.fieldAddr rfl) | exact (Op1.fieldAddrE rfl rD lT)) rfl rfl sT kR kR kR xQP ?_
  refine WPD.take 2 rfl (by first | exact (Op1.fieldAddr rfl) | exact (Op1.fieldAddrE rfl rD lT)) rfl rfl sT kR kR kR xQP ?_
  refine WPD.take 5 rfl (by first | exact (Op1.fieldAddr rfl) | exact (Op1.fieldAddrE rfl rD lT)) rfl rfl sT kR kR kR xQP ?_
  refine WPD.take 7 rfl (by first | exact (Op1.fieldAddr rfl) | exact (Op1.fieldAddrE rfl rD lT)) rfl rfl sT kR kR kR xQP ?_
  refine WPD.take 1 rfl (by first | exact (Op1.load rfl mM (by rfl)) | exact (Op1.loadI rfl rD lT) | exact (Op1.loadAll rfl mM (by rfl)) | exact (Op1.loadE rfl rD lT (by rfl)) | exact (Op1.loadEAgg rfl rD lT (by rfl))) rfl rfl sT kR kR kR xQP ?_
  refine WPD.take 3 rfl (by first | exact (Op1.load rfl mM (by rfl)) | exact (Op1.loadI rfl rD lT) | exact (Op1.loadAll rfl mM (by rfl)) | exact (Op1.loadE rfl rD lT (by rfl)) | exact (Op1.loadEAgg rfl rD lT (by rfl))) rfl rfl sT kR kR kR xQP ?_
  refine WPD.take 6 rfl (by first | exact (Op1.load rfl mM (by rfl)) | exact (Op1.loadI rfl rD lT) | exact (Op1.loadAll rfl mM (by rfl)) | exact (Op1.loadE rfl rD lT (by rfl)) | exact (Op1.loadEAgg rfl rD lT (by rfl))) rfl rfl sT kR kR kR xQP ?_
  refine WPD.take 8 rfl (by first | exact (Op1.load rfl mM (by rfl)) | exact (Op1.loadI rfl rD lT) | exact (Op1.loadAll rfl mM (by rfl)) | exact (Op1.loadE rfl rD lT (by rfl)) | exact (Op1.loadEAgg rfl rD lT (by rfl))) rfl rfl sT kR kR kR xQP ?_
  refine WPD.eff 4 kR rfl (OpE.call lO (fun w hw => c_Compare _ a.A b.A)) rfl rfl ?_
  rintro r _ ⟨T, ⟨rfl, rfl⟩, rfl⟩
  refine ⟨sT, ?_⟩
  refine WPD.eff 9 kR rfl (OpE.call lO (fun w hw => c_Compare _ a.B b.B)) rfl rfl ?_
  rintro r _ ⟨T, ⟨rfl, rfl⟩, rfl⟩
  refine ⟨sT, ?_⟩
  refine WPD.eff 10 kR rfl (OpE.buildSlice ([cmpI a.A b.A, cmpI a.B b.B]) pA rfl (by decide)) rfl rfl ?_
  rintro s1 _ rfl
  refine ⟨sT, ?_⟩
  refine WPD.eff 11 kR rfl (OpE.call lO (fun w hw => c_Or _ s1 (cmpI a.A b.A) (cmpI a.B b.B) (Rd.at rD hw))) rfl rfl ?_
  rintro r _ ⟨T, ⟨rfl, rfl⟩, rfl⟩
  refine ⟨sT, ?_⟩
  refine WPD.eff 12 kR rfl (OpE.ofPure (Op1.assign rfl)) rfl rfl ?_
  rintro _ _ ⟨rfl, rfl⟩
  refine ⟨sT, ?_⟩
  refine WPD.done kR ?_
  try refine go ⟨?_⟩
  refine PE.ret1 (T := []) (T' := []) rfl rV ?_ sT
  exact ⟨rfl, rfl⟩
end Go.Proofs.Ythlgbeakcobeoaa
