/- The helpers of the exact laws: marks. Conditions: those of each contract. -/
import Derived.Test.YthlgbeakcobeoaaHlpH
import Derived.Test.YthlgbeakcobeoaaDy
namespace Go.Proofs.Ythlgbeakcobeoaa
open Go
set_option linter.unusedVariables false set_option linter.unusedSimpArgs false attribute [local irreducible] Tok.own Tok.blk RL Rd eptr WP WPL PE WPD WPO Op1 OpE Tri Again Mid Exit.then Exit.inBlock bodyPost RP Code.wp wpList isOwn OneM One
set_option maxHeartbeats 8000000

theorem h_eqI (w : World) (v u : Value) (xs ys : List Int) (h : RL w v xs) (h' : RL w u ys) (hl : xs.length ≤ 1099511627776) (hl' : ys.length ≤ 1099511627776) :
    Tri Try.prog 24 [v, u] w [] fun r T => T = [] ∧ r = .bool (decide (xs = ys)) := by
  refine Tri.intro (hf := Try.func24) (hb := rfl) (hn := Try.ntmps24) (Nat.le_of_ble_eq_true rfl) ?_
  repeat' (first | refine go ⟨?_⟩ | (refine isCond ?_; refine WP.condD rfl (fun hc => ?_) (fun hc => ?_)) | (refine isGuard ?_; refine WPL.splitD rfl rfl (fun hc => ?_) (fun hc => ?_)))
  · refine PE.ret1 (T := []) (T' := []) rfl rV ?_ sT
    refine ⟨rfl, ?_⟩
    rw [decide_eq_false]
    rintro rfl
    exact absurd rfl ‹_›
  have hll : xs.length = ys.length := by omega
  refine WP.loop (σ := Nat) (fun k => [(0, v), (1, u), (5, .int .i64 k)]) (fun _ => []) (fun k => k ≤ xs.length ∧ ∀ m, m < k → xs.getD m 0 = ys.getD m 0) (fun k => xs.length - k) 0 ⟨Nat.zero_le _, by omega⟩ sE sT ?_
  rintro k ⟨hk, hm⟩
  repeat' (first | refine go ⟨?_⟩ | (refine isCond ?_; refine WP.condD rfl (fun hc => ?_) (fun hc => ?_)) | (refine isGuard ?_; refine WPL.splitD rfl rfl (fun hc => ?_) (fun hc => ?_)))
  · have hk' : k < xs.length := by omega
    refine WP.draw [] mixed ?_
    refine WPD.take 0 rfl (Op1.move rfl) rfl rfl sT kR kR kR xQP ?_
    refine WPD.take 1 rfl (Op1.move rfl) rfl rfl sT kR kR kR xQP ?_
    refine WPD.take 4 rfl (Op1.move rfl) rfl rfl sT kR kR kR xQP ?_
    refine WPD.take 5 rfl (Op1.move rfl) rfl rfl sT kR kR kR xQP ?_
    refine WPD.take 2 rfl (by first | exact (Op1.indexAddr rfl rfl rD lT) | exact (Op1.indexAddrZ rfl rfl rD lT)) rfl rfl sT kR kR kR xQP ?_
    refine WPD.take 6 rfl (by first | exact (Op1.indexAddr rfl rfl rD lT) | exact (Op1.indexAddrZ rfl rfl rD lT)) rfl rfl sT kR kR kR xQP ?_
    refine WPD.take 3 rfl (by first | exact (Op1.load rfl mM (by rfl)) | exact (Op1.loadI rfl rD lT) | exact (Op1.loadAll rfl mM (by rfl)) | exact (Op1.loadE rfl rD lT (by rfl)) | exact (Op1.loadEAgg rfl rD lT (by rfl))) rfl rfl sT kR kR kR xQP ?_
    refine WPD.take 7 rfl (by first | exact (Op1.load rfl mM (by rfl)) | exact (Op1.loadI rfl rD lT) | exact (Op1.loadAll rfl mM (by rfl)) | exact (Op1.loadE rfl rD lT (by rfl)) | exact (Op1.loadEAgg rfl rD lT (by rfl))) rfl rfl sT kR kR kR xQP ?_
    refine WPD.take 8 rfl (by first | exact (Op1.neI rfl rfl) | exact (Op1.neB rfl rfl) | exact (Op1.neE rfl rfl)) rfl rfl sT kR kR kR xQP ?_
    refine WPD.done kR ?_
    repeat' (first | refine go ⟨?_⟩ | (refine isCond ?_; refine WP.condD rfl (fun hc => ?_) (fun hc => ?_)) | (refine isGuard ?_; refine WPL.splitD rfl rfl (fun hc => ?_) (fun hc => ?_)))
    · refine PE.ret1 (T := []) (T' := []) rfl rV ?_ sT
      refine ⟨rfl, ?_⟩
      rw [decide_eq_false]
      rintro rfl
      exact absurd rfl ‹_›
    · refine PE.again (k + 1) ?_ ?_ sE sT
      · exact ⟨by omega, fun m hm' => by
          rcases Nat.lt_succ_iff_lt_or_eq.1 hm' with h' | rfl
          · exact hm m h'
          · exact Decidable.not_not.1 ‹_›⟩
      · omega
  · refine PE.ret1 (T := []) (T' := []) rfl rV ?_ sT
    refine ⟨rfl, ?_⟩
    rw [decide_eq_true]
    exact List.ext_getElem hll (fun i h1 h2 => by
      have := hm i (by omega)
      rwa [List.getD_eq_getElem?_getD, List.getD_eq_getElem?_getD, List.getElem?_eq_getElem h1, List.getElem?_eq_getElem h2] at this)

def marks (k : Int) : Nat → List Int
  | 0 => []
  | n + 1 => marks k n ++ [k + n]
theorem marks_length (k : Int) : ∀ n, (marks k n).length = n
  | 0 => rfl
  | n + 1 => by simp [marks, marks_length k n]
theorem marks_get (k : Int) : ∀ (n i : Nat), i < n → (marks k n).getD i 0 = k + i
  | 0, i, h => by omega
  | n + 1, i, h => by
    have hl := marks_length k n
    rw [marks, List.getD_eq_getElem?_getD]
    by_cases hi : i < n
    · rw [List.getElem?_append_left (by omega), ← List.getD_eq_getElem?_getD]; exact marks_get k n i hi
    · have : i = n := by omega
      subst this
      rw [List.getElem?_append_right (by omega), hl, Nat.sub_self]; rfl
theorem marks_set {k : Int} {n : Nat} {xs : List Int} (h : n < xs.length) : (marks k n ++ xs.drop n).set n (k + n) = marks k (n + 1) ++ xs.drop (n + 1) := by
  rw [List.drop_eq_getElem_cons h, List.set_append_right _ _ (by rw [marks_length]; exact Nat.le_refl _), marks_length, Nat.sub_self, List.set_cons_zero, marks, List.append_assoc]; rfl

theorem h_markI (w : World) (v : Value) (xs : List Int) (k : Int) (hl : xs.length ≤ 1048576) (h0 : 0 ≤ k) (h1 : k ≤ 1099511627776) :
    Tri Try.prog 27 [v, .int .i64 k] w [Tok.own v xs] fun r T => r = .int .i64 (k + xs.length) ∧ T = [Tok.own v (marks k xs.length)] := by
  refine Tri.intro (hf := Try.func27) (hb := rfl) (hn := Try.ntmps27) (Nat.le_of_ble_eq_true rfl) ?_
  try refine go ⟨?_⟩
  refine WP.loop (σ := Nat) (fun n => [(0, v), (1, .int .i64 (k + n)), (5, .int .i64 n)]) (fun n => [Tok.own v (marks k n ++ xs.drop n)]) (fun n => n ≤ xs.length) (fun n => xs.length - n) 0 (Nat.zero_le _) ?_ sT ?_
  · simp only [Int.natCast_zero, Int.add_zero]; exact sE
  intro n hn
  have hlen : (marks k n ++ xs.drop n).length = xs.length := by rw [List.length_append, marks_length, List.length_drop]; omega
  repeat' (first | refine go ⟨?_⟩ | (refine isCond ?_; refine WP.condD rfl (fun hc => ?_) (fun hc => ?_)) | (refine isGuard ?_; refine WPL.splitD rfl rfl (fun hc => ?_) (fun hc => ?_)))
  · have hn' : n < xs.length := by omega
    refine WPL.eff0 (OpE.store1 (k + n) rfl rfl pM (by omega) rfl) rfl ?_; rintro _ _ rfl
    rw [marks_set hn']
    repeat' (first | refine go ⟨?_⟩ | (refine isCond ?_; refine WP.condD rfl (fun hc => ?_) (fun hc => ?_)) | (refine isGuard ?_; refine WPL.splitD rfl rfl (fun hc => ?_) (fun hc => ?_)))
    have e : k + (n : Int) + 1 = k + ((n + 1 : Nat) : Int) := by omega
    rw [e]
    refine PE.again (n + 1) ?_ ?_ sE sT
    · omega
    · omega
  · have hn1 : n = xs.length := by omega
    subst hn1
    have e : marks k xs.length ++ xs.drop xs.length = marks k xs.length := by rw [List.drop_length, List.append_nil]
    rw [e]
    refine PE.ret1 (T := [Tok.own v xs]) (T' := [Tok.own v (marks k xs.length)]) rfl rV ?_ sT
    exact ⟨rfl, rfl⟩

theorem h_heldI (w : World) (v : Value) (k : Int) (n : Nat) (h : RL w v (marks k n)) (hl : n ≤ 1048576) (h0 : 0 ≤ k) (h1 : k ≤ 1099511627776) :
    Tri Try.prog 28 [v, .int .i64 k] w [] fun r T => r = .int .i64 (k + n) ∧ T = [] := by
  have hlen := marks_length k n
  have hget := marks_get k n
  generalize marks k n = xs at *
  subst hlen
  refine Tri.intro (hf := Try.func28) (hb := rfl) (hn := Try.ntmps28) (Nat.le_of_ble_eq_true rfl) ?_
  try refine go ⟨?_⟩
  refine WP.loop (σ := Nat) (fun n => [(0, v), (1, .int .i64 (k + n)), (5, .int .i64 n)]) (fun n => []) (fun n => n ≤ xs.length) (fun n => xs.length - n) 0 (Nat.zero_le _) ?_ sT ?_
  · simp only [Int.natCast_zero, Int.add_zero]; exact sE
  intro n hn
  repeat' (first | refine go ⟨?_⟩ | (refine isCond ?_; refine WP.condD rfl (fun hc => ?_) (fun hc => ?_)) | (refine isGuard ?_; refine WPL.splitD rfl rfl (fun hc => ?_) (fun hc => ?_)))
  · exact absurd (hget n (by omega)) hc
  · have e : k + (n : Int) + 1 = k + ((n + 1 : Nat) : Int) := by omega
    rw [e]
    refine PE.again (n + 1) ?_ ?_ sE sT
    · omega
    · omega
  · have hn1 : n = xs.length := by omega
    subst hn1
    refine PE.ret1 (T := []) (T' := []) rfl rV ?_ sT
    exact ⟨rfl, rfl⟩

theorem h_markE (w : World) (v : Value) (xs : List E) (k : Int) (hl : xs.length ≤ 1048576) (h0 : 0 ≤ k) (h1 : k ≤ 1048576) :
    Tri Try.prog 34 [v, .int .i64 k] w [Tok.own v xs] fun r T => ∃ ys : List E, r = .int .i64 (k + 2 * xs.length) ∧ T = [Tok.own v ys] := by
  refine Tri.intro (hf := Try.func34) (hb := rfl) (hn := Try.ntmps34) (Nat.le_of_ble_eq_true rfl) ?_
  try refine go ⟨?_⟩
  refine WP.loop (σ := Nat × List E) (fun s => [(0, v), (1, .int .i64 (k + 2 * s.1)), (5, .int .i64 s.1)]) (fun s => [Tok.own v s.2]) (fun s => s.1 ≤ xs.length ∧ s.2.length = xs.length) (fun s => xs.length - s.1) (0, xs) ⟨Nat.zero_le _, rfl⟩ ?_ sT ?_
  · dsimp only; simp only [Int.natCast_zero, Int.mul_zero, Int.add_zero]; exact sE
  rintro ⟨n, ys⟩ ⟨hn, hlen⟩
  dsimp only at hn hlen ⊢
  try refine go ⟨?_⟩
  refine WP.condD rfl (fun hc => ?_) (fun hc => ?_)
  · have hn' : n < ys.length := by omega
    try refine go ⟨?_⟩
    refine WPL.eff0 (OpE.storeF (r := 0) (⟨k + 2 * n, (ys.getD n (Enc.d : E)).B⟩ : E) rfl rfl pM2 lT (by decide) oN rfl (by rfl)) rfl ?_
    rintro _ _ rfl
    have hl3 : (ys.set n ⟨k + 2 * n, (ys.getD n (Enc.d : E)).B⟩).length = ys.length := List.length_set
    generalize ys.set n ⟨k + 2 * n, (ys.getD n (Enc.d : E)).B⟩ = zs at *
    try refine go ⟨?_⟩
    refine WPL.eff0 (OpE.storeF (r := 1) (⟨(zs.getD n (Enc.d : E)).A, k + 2 * n + 1⟩ : E) rfl rfl pM2 lT (by decide) oN rfl (by rfl)) rfl ?_
    rintro _ _ rfl
    have hl4 : (zs.set n ⟨(zs.getD n (Enc.d : E)).A, k + 2 * n + 1⟩).length = zs.length := List.length_set
    generalize zs.set n ⟨(zs.getD n (Enc.d : E)).A, k + 2 * n + 1⟩ = us at *
    try refine go ⟨?_⟩
    have e : k + 2 * (n : Int) + 1 + 1 = k + 2 * ((n + 1 : Nat) : Int) := by omega
    rw [e]
    refine PE.again (n + 1, us) ?_ ?_ sE sT2
    · dsimp only; omega
    · dsimp only; omega
  · have hn1 : n = xs.length := by omega
    subst hn1
    try refine go ⟨?_⟩
    refine PE.ret1 (T := [Tok.own v xs]) (T' := [Tok.own v ys]) rfl rV ?_ sT
    exact ⟨ys, rfl, rfl⟩

theorem h_markG (w : World) (n : Int) (v : Value) (xs : List E) (k : Int) (hl : xs.length ≤ 1048576) (h0 : 0 ≤ k) (h1 : k ≤ 1048576) :
    Tri Try.prog 26 [.agg #[.int .i64 n, v], .int .i64 k] w [Tok.own v xs] fun r T => ∃ ys : List E, r = .int .i64 (k + 2 * xs.length) ∧ T = [Tok.own v ys] := by
  refine Tri.intro (hf := Try.func26) (hb := rfl) (hn := Try.ntmps26) (Nat.le_of_ble_eq_true rfl) ?_
  try refine go ⟨?_⟩
  refine WPL.eff (OpE.box rfl) rfl rfl ?_; rintro _ _ ⟨b, rfl, rfl⟩
  try refine go ⟨?_⟩
  refine WPL.eff (OpE.callT (T := [Tok.own v xs]) lO pM (fun w hw => h_markE _ v xs k hl h0 h1)) rfl rfl ?_
  rintro r _ ⟨T, ⟨ys, rfl, rfl⟩, rfl⟩
  try refine go ⟨?_⟩
  refine PE.ret1 (T := [Tok.own v xs]) (T' := [Tok.own v ys]) rfl rV ?_ sT
  exact ⟨ys, rfl, rfl⟩
end Go.Proofs.Ythlgbeakcobeoaa
