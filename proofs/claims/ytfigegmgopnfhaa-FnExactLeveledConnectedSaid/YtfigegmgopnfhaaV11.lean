/- Texts put together: HlpM, HlpN, HlpO, HlpQ. Conditions: those of each theorem. -/
import Derived.Test.YtfigegmgopnfhaaV2
import Derived.Test.YtfigegmgopnfhaaV10
set_option linter.unusedVariables false
set_option linter.unusedSimpArgs false
/- The helpers of the exact laws: marks. Conditions: those of each contract. -/
namespace Go.Proofs.Ytfigegmgopnfhaa
open Go
set_option linter.unusedVariables false set_option linter.unusedSimpArgs false attribute [local irreducible] Tok.own Tok.blk RL Rd eptr WP WPL PE WPD WPO Op1 OpE Tri Again Mid Exit.then Exit.inBlock bodyPost RP Code.wp wpList isOwn OneM One
set_option maxHeartbeats 8000000

theorem h_eqI (w : World) (v u : Value) (xs ys : List Int) (h : RL w v xs) (h' : RL w u ys) (hl : xs.length ≤ 1099511627776) (hl' : ys.length ≤ 1099511627776) :
    Tri Try.prog 108 [v, u] w [] fun r T => T = [] ∧ r = .bool (decide (xs = ys)) := by
  refine Tri.intro (hf := Try.func108) (hb := rfl) (hn := Try.ntmps108) (Nat.le_of_ble_eq_true rfl) ?_
  repeat' (first | refine go ⟨?_⟩ | (refine isCond ?_; refine WP.condD rfl (fun hc => ?_) (fun hc => ?_)) | (refine isGuard ?_; refine WPL.splitD rfl rfl (fun hc => ?_) (fun hc => ?_)))
  · refine PE.ret1 (T := []) (T' := []) rfl rV ?_ sT
    refine ⟨rfl, ?_⟩
    rw [decide_eq_false]
    rintro rfl
    exact absurd rfl ‹_›
  have hll : xs.length = ys.length := by omega
  refine WP.loop (σ := Nat) (fun k => [(0, v), (1, u), (5, .int .i64 k)]) (fun _ => []) (fun k => k ≤ xs.length ∧ ∀ m, m < k → xs.getD m 0 = ys.getD m 0) (fun k => xs.length - k) 0 ⟨Nat.zero_le _, by omega⟩ sE sT ?_
  rintro k ⟨hk, hm⟩
  repeat' (first | refine go ⟨?_⟩ | (refine isCond ?_; refine WP.condD rfl (fun hc => ?_) (fun hc => ?_)) | (refine isGuard ?_; refine WPL.splitD rfl rfl (fun hc => ?_) (fun hc => ?_)))
  · have hk' : k < xs.length := by omega
    refine WP.draw [] mixed ?_
    refine WPD.take 0 rfl (Op1.move rfl) rfl rfl sT kR kR kR xQP ?_
    refine WPD.take 1 rfl (Op1.move rfl) rfl rfl sT kR kR kR xQP ?_
    refine WPD.take 4 rfl (Op1.move rfl) rfl rfl sT kR kR kR xQP ?_
    refine WPD.take 5 rfl (Op1.move rfl) rfl rfl sT kR kR kR xQP ?_
    refine WPD.take 2 rfl (by first | exact (Op1.indexAddr rfl rfl rD lT) | exact (Op1.indexAddrZ rfl rfl rD lT)) rfl rfl sT kR kR kR xQP ?_
    refine WPD.take 6 rfl (by first | exact (Op1.indexAddr rfl rfl rD lT) | exact (Op1.indexAddrZ rfl rfl rD lT)) rfl rfl sT kR kR kR xQP ?_
    refine WPD.take 3 rfl (by first | exact (Op1.load rfl mM (by rfl)) | exact (Op1.loadI rfl rD lT) | exact (Op1.loadAll rfl mM (by rfl)) | exact (Op1.loadE rfl rD lT (by rfl)) | exact (Op1.loadEAgg rfl rD lT (by rfl))) rfl rfl sT kR kR kR xQP ?_
    refine WPD.take 7 rfl (by first | exact (Op1.load rfl mM (by rfl)) | exact (Op1.loadI rfl rD lT) | exact (Op1.loadAll rfl mM (by rfl)) | exact (Op1.loadE rfl rD lT (by rfl)) | exact (Op1.loadEAgg rfl rD lT (by rfl))) rfl rfl sT kR kR kR xQP ?_
    refine WPD.take 8 rfl (by first | exact (Op1.neI rfl rfl) | exact (Op1.neB rfl rfl) | exact (Op1.neE rfl rfl)) rfl rfl sT kR kR kR xQP ?_
    refine WPD.done kR ?_
    repeat' (first | refine go ⟨?_⟩ | (refine isCond ?_; refine WP.condD rfl (fun hc => ?_) (fun hc => ?_)) | (refine isGuard ?_; refine WPL.splitD rfl rfl (fun hc => ?_) (fun hc => ?_)))
    · refine PE.ret1 (T := []) (T' := []) rfl rV ?_ sT
      refine ⟨rfl, ?_⟩
      rw [decide_eq_false]
      rintro rfl
      exact absurd rfl ‹_›
    · refine PE.again (k + 1) ?_ ?_ sE sT
      · exact ⟨by omega, fun m hm' => by
          rcases Nat.lt_succ_iff_lt_or_eq.1 hm' with h' | rfl
          · exact hm m h'
          · exact Decidable.not_not.1 ‹_›⟩
      · omega
  · refine PE.ret1 (T := []) (T' := []) rfl rV ?_ sT
    refine ⟨rfl, ?_⟩
    rw [decide_eq_true]
    exact List.ext_getElem hll (fun i h1 h2 => by
      have := hm i (by omega)
      rwa [List.getD_eq_getElem?_getD, List.getD_eq_getElem?_getD, List.getElem?_eq_getElem h1, List.getElem?_eq_getElem h2] at this)

def marks (k : Int) : Nat → List Int
  | 0 => []
  | n + 1 => marks k n ++ [k + n]
theorem marks_length (k : Int) : ∀ n, (marks k n).length = n
  | 0 => rfl
  | n + 1 => by simp [marks, marks_length k n]
theorem marks_get (k : Int) : ∀ (n i : Nat), i < n → (marks k n).getD i 0 = k + i
  | 0, i, h => by omega
  | n + 1, i, h => by
    have hl := marks_length k n
    rw [marks, List.getD_eq_getElem?_getD]
    by_cases hi : i < n
    · rw [List.getElem?_append_left (by omega), ← List.getD_eq_getElem?_getD]; exact marks_get k n i hi
    · have : i = n := by omega
      subst this
      rw [List.getElem?_append_right (by omega), hl, Nat.sub_self]; rfl
theorem marks_set {k : Int} {n : Nat} {xs : List Int} (h : n < xs.length) : (marks k n ++ xs.drop n).set n (k + n) = marks k (n + 1) ++ xs.drop (n + 1) := by
  rw [List.drop_eq_getElem_cons h, List.set_append_right _ _ (by rw [marks_length]; exact Nat.le_refl _), marks_length, Nat.sub_self, List.set_cons_zero, marks, List.append_assoc]; rfl

theorem h_markE (w : World) (v : Value) (xs : List E) (k : Int) (hl : xs.length ≤ 1048576) (h0 : 0 ≤ k) (h1 : k ≤ 1048576) :
    Tri Try.prog 96 [v, .int .i64 k] w [Tok.own v xs] fun r T => ∃ ys : List E, r = .int .i64 (k + 2 * xs.length) ∧ T = [Tok.own v ys] := by
  refine Tri.intro (hf := Try.func96) (hb := rfl) (hn := Try.ntmps96) (Nat.le_of_ble_eq_true rfl) ?_
  try refine go ⟨?_⟩
  refine WP.loop (σ := Nat × List E) (fun s => [(0, v), (1, .int .i64 (k + 2 * s.1)), (5, .int .i64 s.1)]) (fun s => [Tok.own v s.2]) (fun s => s.1 ≤ xs.length ∧ s.2.length = xs.length) (fun s => xs.length - s.1) (0, xs) ⟨Nat.zero_le _, rfl⟩ ?_ sT ?_
  · dsimp only; simp only [Int.natCast_zero, Int.mul_zero, Int.add_zero]; exact sE
  rintro ⟨n, ys⟩ ⟨hn, hlen⟩
  dsimp only at hn hlen ⊢
  try refine go ⟨?_⟩
  refine WP.condD rfl (fun hc => ?_) (fun hc => ?_)
  · have hn' : n < ys.length := by omega
    try refine go ⟨?_⟩
    refine WPL.eff0 (OpE.storeF (r := 0) (⟨k + 2 * n, (ys.getD n (Enc.d : E)).B⟩ : E) rfl rfl pM2 lT (by decide) oN rfl (by rfl)) rfl ?_
    rintro _ _ rfl
    have hl3 : (ys.set n ⟨k + 2 * n, (ys.getD n (Enc.d : E)).B⟩).length = ys.length := List.length_set
    generalize ys.set n ⟨k + 2 * n, (ys.getD n (Enc.d : E)).B⟩ = zs at *
    try refine go ⟨?_⟩
    refine WPL.eff0 (OpE.storeF (r := 1) (⟨(zs.getD n (Enc.d : E)).A, k + 2 * n + 1⟩ : E) rfl rfl pM2 lT (by decide) oN rfl (by rfl)) rfl ?_
    rintro _ _ rfl
    have hl4 : (zs.set n ⟨(zs.getD n (Enc.d : E)).A, k + 2 * n + 1⟩).length = zs.length := List.length_set
    generalize zs.set n ⟨(zs.getD n (Enc.d : E)).A, k + 2 * n + 1⟩ = us at *
    try refine go ⟨?_⟩
    have e : k + 2 * (n : Int) + 1 + 1 = k + 2 * ((n + 1 : Nat) : Int) := by omega
    rw [e]
    refine PE.again (n + 1, us) ?_ ?_ sE sT2
    · dsimp only; omega
    · dsimp only; omega
  · have hn1 : n = xs.length := by omega
    subst hn1
    try refine go ⟨?_⟩
    refine PE.ret1 (T := [Tok.own v xs]) (T' := [Tok.own v ys]) rfl rV ?_ sT
    exact ⟨ys, rfl, rfl⟩

theorem h_markG (w : World) (n : Int) (v : Value) (xs : List E) (k : Int) (hl : xs.length ≤ 1048576) (h0 : 0 ≤ k) (h1 : k ≤ 1048576) :
    Tri Try.prog 50 [.agg #[.int .i64 n, v], .int .i64 k] w [Tok.own v xs] fun r T => ∃ ys : List E, r = .int .i64 (k + 2 * xs.length) ∧ T = [Tok.own v ys] := by
  refine Tri.intro (hf := Try.func50) (hb := rfl) (hn := Try.ntmps50) (Nat.le_of_ble_eq_true rfl) ?_
  try refine go ⟨?_⟩
  refine WPL.eff (OpE.box rfl) rfl rfl ?_; rintro _ _ ⟨b, rfl, rfl⟩
  try refine go ⟨?_⟩
  refine WPL.eff (OpE.callT (T := [Tok.own v xs]) lO pM (fun w hw => h_markE _ v xs k hl h0 h1)) rfl rfl ?_
  rintro r _ ⟨T, ⟨ys, rfl, rfl⟩, rfl⟩
  try refine go ⟨?_⟩
  refine PE.ret1 (T := [Tok.own v xs]) (T' := [Tok.own v ys]) rfl rV ?_ sT
  exact ⟨ys, rfl, rfl⟩
end Go.Proofs.Ytfigegmgopnfhaa
/- The helpers of the exact laws: marks on lists of edges. Conditions: those of each contract. -/
namespace Go.Proofs.Ytfigegmgopnfhaa
open Go
def emarks (k : Int) : Nat → List E
  | 0 => []
  | n + 1 => emarks k n ++ [⟨k + 2 * n, k + 2 * n + 1⟩]
theorem emarks_length (k : Int) : ∀ n, (emarks k n).length = n
  | 0 => rfl
  | n + 1 => by simp [emarks, emarks_length k n]
theorem emarks_get (k : Int) : ∀ (n i : Nat), i < n → (emarks k n).getD i (Enc.d : E) = ⟨k + 2 * i, k + 2 * i + 1⟩
  | 0, i, h => by omega
  | n + 1, i, h => by
    have hl := emarks_length k n
    rw [emarks, List.getD_eq_getElem?_getD]
    by_cases hi : i < n
    · rw [List.getElem?_append_left (by omega), ← List.getD_eq_getElem?_getD]; exact emarks_get k n i hi
    · have : i = n := by omega
      subst this
      rw [List.getElem?_append_right (by omega), hl, Nat.sub_self]; rfl
theorem emarks_set {k : Int} {n : Nat} {xs : List E} (h : n < xs.length) : (emarks k n ++ xs.drop n).set n ⟨k + 2 * n, k + 2 * n + 1⟩ = emarks k (n + 1) ++ xs.drop (n + 1) := by
  rw [List.drop_eq_getElem_cons h, List.set_append_right _ _ (by rw [emarks_length]; exact Nat.le_refl _), emarks_length, Nat.sub_self, List.set_cons_zero, emarks, List.append_assoc]; rfl
theorem set_getD {l : List E} {n : Nat} {a : E} (h : n < l.length) : (l.set n a).getD n (Enc.d : E) = a := by
  rw [List.getD_eq_getElem?_getD, List.getElem?_set_self h]; rfl
set_option linter.unusedVariables false set_option linter.unusedSimpArgs false attribute [local irreducible] Tok.own Tok.blk RL Rd eptr WP WPL PE WPD WPO Op1 OpE Tri Again Mid Exit.then Exit.inBlock bodyPost RP Code.wp wpList isOwn OneM One
set_option maxHeartbeats 8000000

theorem h_mrkE (w : World) (v : Value) (xs : List E) (k : Int) (hl : xs.length ≤ 1048576) (h0 : 0 ≤ k) (h1 : k ≤ 1048576) :
    Tri Try.prog 96 [v, .int .i64 k] w [Tok.own v xs] fun r T => r = .int .i64 (k + 2 * xs.length) ∧ T = [Tok.own v (emarks k xs.length)] := by
  refine Tri.intro (hf := Try.func96) (hb := rfl) (hn := Try.ntmps96) (Nat.le_of_ble_eq_true rfl) ?_
  try refine go ⟨?_⟩
  refine WP.loop (σ := Nat) (fun n => [(0, v), (1, .int .i64 (k + 2 * n)), (5, .int .i64 n)]) (fun n => [Tok.own v (emarks k n ++ xs.drop n)]) (fun n => n ≤ xs.length) (fun n => xs.length - n) 0 (Nat.zero_le _) ?_ sT ?_
  · simp only [Int.natCast_zero, Int.mul_zero, Int.add_zero]; exact sE
  intro n hn
  have hlen : (emarks k n ++ xs.drop n).length = xs.length := by rw [List.length_append, emarks_length, List.length_drop]; omega
  try refine go ⟨?_⟩
  refine WP.condD rfl (fun hc => ?_) (fun hc => ?_)
  · have hn' : n < xs.length := by omega
    try refine go ⟨?_⟩
    refine WPL.eff0 (OpE.storeF (r := 0) (⟨k + 2 * n, ((emarks k n ++ xs.drop n).getD n (Enc.d : E)).B⟩ : E) rfl rfl pM2 lT (by decide) oN rfl (by rfl)) rfl ?_
    rintro _ _ rfl
    have hes := emarks_set (k := k) hn'
    have hgt := set_getD (l := emarks k n ++ xs.drop n) (a := ⟨k + 2 * n, ((emarks k n ++ xs.drop n).getD n (Enc.d : E)).B⟩) (n := n) (by omega)
    have hss : ((emarks k n ++ xs.drop n).set n ⟨k + 2 * n, ((emarks k n ++ xs.drop n).getD n (Enc.d : E)).B⟩).set n ⟨k + 2 * n, k + 2 * n + 1⟩ = emarks k (n + 1) ++ xs.drop (n + 1) := by rw [List.set_set]; exact hes
    have hl3 : ((emarks k n ++ xs.drop n).set n ⟨k + 2 * n, ((emarks k n ++ xs.drop n).getD n (Enc.d : E)).B⟩).length = xs.length := by rw [List.length_set]; exact hlen
    generalize (emarks k n ++ xs.drop n).set n ⟨k + 2 * n, ((emarks k n ++ xs.drop n).getD n (Enc.d : E)).B⟩ = zs at *
    try refine go ⟨?_⟩
    refine WPL.eff0 (OpE.storeF (r := 1) (⟨(zs.getD n (Enc.d : E)).A, k + 2 * n + 1⟩ : E) rfl rfl pM2 lT (by decide) oN rfl (by rfl)) rfl ?_
    rintro _ _ rfl
    rw [hgt, hss]
    try refine go ⟨?_⟩
    have e : k + 2 * (n : Int) + 1 + 1 = k + 2 * ((n + 1 : Nat) : Int) := by omega
    rw [e]
    refine PE.again (n + 1) ?_ ?_ sE sT2
    · (try dsimp only); omega
    · (try dsimp only); omega
  · have hn1 : n = xs.length := by omega
    subst hn1
    have e : emarks k xs.length ++ xs.drop xs.length = emarks k xs.length := by rw [List.drop_length, List.append_nil]
    rw [e]
    try refine go ⟨?_⟩
    refine PE.ret1 (T := [Tok.own v xs]) (T' := [Tok.own v (emarks k xs.length)]) rfl rV ?_ sT
    exact ⟨rfl, rfl⟩

theorem h_heldE (w : World) (v : Value) (k : Int) (n : Nat) (h : RL w v (emarks k n)) (hl : n ≤ 1048576) (h0 : 0 ≤ k) (h1 : k ≤ 1048576) :
    Tri Try.prog 97 [v, .int .i64 k] w [] fun r T => r = .int .i64 (k + 2 * n) ∧ T = [] := by
  have hlen := emarks_length k n
  have hget := emarks_get k n
  generalize emarks k n = xs at *
  subst hlen
  refine Tri.intro (hf := Try.func97) (hb := rfl) (hn := Try.ntmps97) (Nat.le_of_ble_eq_true rfl) ?_
  try refine go ⟨?_⟩
  refine WP.loop (σ := Nat) (fun n => [(0, v), (1, .int .i64 (k + 2 * n)), (5, .int .i64 n)]) (fun n => []) (fun n => n ≤ xs.length) (fun n => xs.length - n) 0 (Nat.zero_le _) ?_ sT ?_
  · simp only [Int.natCast_zero, Int.mul_zero, Int.add_zero]; exact sE
  intro n hn
  try refine go ⟨?_⟩
  refine WP.condD rfl (fun hc => ?_) (fun hc => ?_)
  · have hg := hget n (by omega)
    have hgA : (xs.getD n (Enc.d : E)).A = k + 2 * n := by rw [hg]
    have hgB : (xs.getD n (Enc.d : E)).B = k + 2 * n + 1 := by rw [hg]
    try refine go ⟨?_⟩
    refine WP.condD rfl (fun h2 => ?_) (fun h2 => ?_)
    · exact absurd hgA h2
    try refine go ⟨?_⟩
    refine WP.condD rfl (fun h3 => ?_) (fun h3 => ?_)
    · exact absurd hgB h3
    try refine go ⟨?_⟩
    have e : k + 2 * (n : Int) + 1 + 1 = k + 2 * ((n + 1 : Nat) : Int) := by omega
    rw [e]
    refine PE.again (n + 1) ?_ ?_ sE sT2
    · (try dsimp only); omega
    · (try dsimp only); omega
  · have hn1 : n = xs.length := by omega
    subst hn1
    try refine go ⟨?_⟩
    refine PE.ret1 (T := []) (T' := []) rfl rV ?_ sT
    exact ⟨rfl, rfl⟩
end Go.Proofs.Ytfigegmgopnfhaa
/- The helpers of the exact laws: marks on graphs. Conditions: those of each contract. -/
namespace Go.Proofs.Ytfigegmgopnfhaa
open Go
set_option linter.unusedVariables false set_option linter.unusedSimpArgs false attribute [local irreducible] Tok.own Tok.blk RL Rd eptr WP WPL PE WPD WPO Op1 OpE Tri Again Mid Exit.then Exit.inBlock bodyPost RP Code.wp wpList isOwn OneM One
set_option maxHeartbeats 8000000

theorem h_mrkG (w : World) (n : Int) (v : Value) (xs : List E) (k : Int) (hl : xs.length ≤ 1048576) (h0 : 0 ≤ k) (h1 : k ≤ 1048576) :
    Tri Try.prog 50 [.agg #[.int .i64 n, v], .int .i64 k] w [Tok.own v xs] fun r T => r = .int .i64 (k + 2 * xs.length) ∧ T = [Tok.own v (emarks k xs.length)] := by
  refine Tri.intro (hf := Try.func50) (hb := rfl) (hn := Try.ntmps50) (Nat.le_of_ble_eq_true rfl) ?_
  try refine go ⟨?_⟩
  refine WPL.eff (OpE.box rfl) rfl rfl ?_; rintro _ _ ⟨b, rfl, rfl⟩
  try refine go ⟨?_⟩
  refine WPL.eff (OpE.callT (T := [Tok.own v xs]) lO pM (fun w hw => h_mrkE _ v xs k hl h0 h1)) rfl rfl ?_
  rintro r _ ⟨T, ⟨rfl, rfl⟩, rfl⟩
  try refine go ⟨?_⟩
  refine PE.ret1 (T := [Tok.own v xs]) (T' := [Tok.own v (emarks k xs.length)]) rfl rV ?_ sT
  exact ⟨rfl, rfl⟩

theorem h_heldG (w : World) (m : Int) (v : Value) (k : Int) (n : Nat) (h : RL w v (emarks k n)) (hl : n ≤ 1048576) (h0 : 0 ≤ k) (h1 : k ≤ 1048576) :
    Tri Try.prog 51 [.agg #[.int .i64 m, v], .int .i64 k] w [] fun r T => r = .int .i64 (k + 2 * n) ∧ T = [] := by
  refine Tri.intro (hf := Try.func51) (hb := rfl) (hn := Try.ntmps51) (Nat.le_of_ble_eq_true rfl) ?_
  try refine go ⟨?_⟩
  refine WPL.eff (OpE.box rfl) rfl rfl ?_; rintro _ _ ⟨b, rfl, rfl⟩
  try refine go ⟨?_⟩
  refine WPL.eff (OpE.call lO (fun w hw => h_heldE _ v k n (Rd.at rD hw) hl h0 h1)) rfl rfl ?_
  rintro r _ ⟨T, ⟨rfl, rfl⟩, rfl⟩
  try refine go ⟨?_⟩
  rw [decide_eq_false (show ¬ (k + 2 * (n : Int) < 0) by omega)]
  try refine go ⟨?_⟩
  refine PE.ret1 (T := []) (T' := []) rfl rV ?_ sT
  exact ⟨rfl, rfl⟩
end Go.Proofs.Ytfigegmgopnfhaa
/- The helpers of the exact laws over operations: marks on operations, truths and lives. Conditions: those of each contract. -/
namespace Go.Proofs.Ytfigegmgopnfhaa
open Go
def bmarks (k : Int) : Nat → List Bool
  | 0 => []
  | n + 1 => bmarks k n ++ [decide ((k + n) % 3 = 0)]
theorem bmarks_length (k : Int) : ∀ n, (bmarks k n).length = n
  | 0 => rfl
  | n + 1 => by simp [bmarks, bmarks_length k n]
theorem bmarks_get (k : Int) : ∀ (n i : Nat), i < n → (bmarks k n).getD i false = decide ((k + i) % 3 = 0)
  | 0, i, h => by omega
  | n + 1, i, h => by
    have hl := bmarks_length k n
    rw [bmarks, List.getD_eq_getElem?_getD]
    by_cases hi : i < n
    · rw [List.getElem?_append_left (by omega), ← List.getD_eq_getElem?_getD]; exact bmarks_get k n i hi
    · have : i = n := by omega
      subst this
      rw [List.getElem?_append_right (by omega), hl, Nat.sub_self]; rfl
theorem bmarks_set {k : Int} {n : Nat} {xs : List Bool} (h : n < xs.length) : (bmarks k n ++ xs.drop n).set n (decide ((k + n) % 3 = 0)) = bmarks k (n + 1) ++ xs.drop (n + 1) := by
  rw [List.drop_eq_getElem_cons h, List.set_append_right _ _ (by rw [bmarks_length]; exact Nat.le_refl _), bmarks_length, Nat.sub_self, List.set_cons_zero, bmarks, List.append_assoc]; rfl
def lmark (k : Int) (n : Nat) : Lif := ⟨k + 4 * n, k + 4 * n + 1, k + 4 * n + 1 + 1, k + 4 * n + 1 + 1 + 1⟩
def lmarks (k : Int) : Nat → List Lif
  | 0 => []
  | n + 1 => lmarks k n ++ [lmark k n]
theorem lmarks_length (k : Int) : ∀ n, (lmarks k n).length = n
  | 0 => rfl
  | n + 1 => by simp [lmarks, lmarks_length k n]
theorem lmarks_get (k : Int) : ∀ (n i : Nat), i < n → (lmarks k n).getD i ⟨0, 0, 0, 0⟩ = lmark k i
  | 0, i, h => by omega
  | n + 1, i, h => by
    have hl := lmarks_length k n
    rw [lmarks, List.getD_eq_getElem?_getD]
    by_cases hi : i < n
    · rw [List.getElem?_append_left (by omega), ← List.getD_eq_getElem?_getD]; exact lmarks_get k n i hi
    · have : i = n := by omega
      subst this
      rw [List.getElem?_append_right (by omega), hl, Nat.sub_self]; rfl
theorem lmarks_set {k : Int} {n : Nat} {xs : List Lif} (h : n < xs.length) : (lmarks k n ++ xs.drop n).set n (lmark k n) = lmarks k (n + 1) ++ xs.drop (n + 1) := by
  rw [List.drop_eq_getElem_cons h, List.set_append_right _ _ (by rw [lmarks_length]; exact Nat.le_refl _), lmarks_length, Nat.sub_self, List.set_cons_zero, lmarks, List.append_assoc]; rfl
theorem set_getL {l : List Lif} {n : Nat} {a : Lif} (h : n < l.length) : (l.set n a).getD n (Enc.d : Lif) = a := by
  rw [List.getD_eq_getElem?_getD, List.getElem?_set_self h]; rfl
theorem bneT {a b : Bool} (h : (a != b) = true) : a ≠ b := by cases a <;> cases b <;> first | exact absurd h (by decide) | (intro e; cases e)
set_option linter.unusedVariables false set_option linter.unusedSimpArgs false attribute [local irreducible] Tok.own Tok.blk RL Rd eptr WP WPL PE WPD WPO Op1 OpE Tri Again Mid Exit.then Exit.inBlock bodyPost RP Code.wp wpList isOwn OneM One
set_option maxHeartbeats 8000000

theorem h_markOS (w : World) (v : Value) (xs : List Oper1) (k : Int) (hl : xs.length ≤ 1048576) (h0 : 0 ≤ k) (h1 : k ≤ 1048576) :
    Tri Try.prog 46 [v, .int .i64 k] w [Tok.own v xs] fun r T => ∃ ys : List Oper1, r = .int .i64 (k + 3 * xs.length) ∧ T = [Tok.own v ys] := by
  refine Tri.intro (hf := Try.func46) (hb := rfl) (hn := Try.ntmps46) (Nat.le_of_ble_eq_true rfl) ?_
  try refine go ⟨?_⟩
  refine WP.loop (σ := Nat × List Oper1) (fun s => [(0, v), (1, .int .i64 (k + 3 * s.1)), (5, .int .i64 s.1)]) (fun s => [Tok.own v s.2]) (fun s => s.1 ≤ xs.length ∧ s.2.length = xs.length) (fun s => xs.length - s.1) (0, xs) ⟨Nat.zero_le _, rfl⟩ ?_ sT ?_
  · dsimp only; simp only [Int.natCast_zero, Int.mul_zero, Int.add_zero]; exact sE
  rintro ⟨n, ys⟩ ⟨hn, hlen⟩
  dsimp only at hn hlen ⊢
  try refine go ⟨?_⟩
  refine WP.condD rfl (fun hc => ?_) (fun hc => ?_)
  · have hn' : n < ys.length := by omega
    try refine go ⟨?_⟩
    refine WPL.eff0 (OpE.storeF (r := 0) (⟨k + 3 * n, (ys.getD n (Enc.d : Oper1)).A, (ys.getD n (Enc.d : Oper1)).B⟩ : Oper1) rfl rfl pM2 lT (by decide) oN rfl (by rfl)) rfl ?_
    rintro _ _ rfl
    have hl3 : (ys.set n ⟨k + 3 * n, (ys.getD n (Enc.d : Oper1)).A, (ys.getD n (Enc.d : Oper1)).B⟩).length = ys.length := List.length_set
    generalize ys.set n ⟨k + 3 * n, (ys.getD n (Enc.d : Oper1)).A, (ys.getD n (Enc.d : Oper1)).B⟩ = zs at *
    try refine go ⟨?_⟩
    refine WPL.eff0 (OpE.storeF (r := 1) (⟨(zs.getD n (Enc.d : Oper1)).K, k + 3 * n + 1, (zs.getD n (Enc.d : Oper1)).B⟩ : Oper1) rfl rfl pM2 lT (by decide) oN rfl (by rfl)) rfl ?_
    rintro _ _ rfl
    have hl4 : (zs.set n ⟨(zs.getD n (Enc.d : Oper1)).K, k + 3 * n + 1, (zs.getD n (Enc.d : Oper1)).B⟩).length = zs.length := List.length_set
    generalize zs.set n ⟨(zs.getD n (Enc.d : Oper1)).K, k + 3 * n + 1, (zs.getD n (Enc.d : Oper1)).B⟩ = us at *
    try refine go ⟨?_⟩
    refine WPL.eff0 (OpE.storeF (r := 2) (⟨(us.getD n (Enc.d : Oper1)).K, (us.getD n (Enc.d : Oper1)).A, k + 3 * n + 1 + 1⟩ : Oper1) rfl rfl pM2 lT (by decide) oN rfl (by rfl)) rfl ?_
    rintro _ _ rfl
    have hl5 : (us.set n ⟨(us.getD n (Enc.d : Oper1)).K, (us.getD n (Enc.d : Oper1)).A, k + 3 * n + 1 + 1⟩).length = us.length := List.length_set
    generalize us.set n ⟨(us.getD n (Enc.d : Oper1)).K, (us.getD n (Enc.d : Oper1)).A, k + 3 * n + 1 + 1⟩ = ts at *
    try refine go ⟨?_⟩
    have e : k + 3 * (n : Int) + 1 + 1 + 1 = k + 3 * ((n + 1 : Nat) : Int) := by omega
    rw [e]
    refine PE.again (n + 1, ts) ?_ ?_ sE sT2
    · dsimp only; omega
    · dsimp only; omega
  · have hn1 : n = xs.length := by omega
    subst hn1
    try refine go ⟨?_⟩
    refine PE.ret1 (T := [Tok.own v xs]) (T' := [Tok.own v ys]) rfl rV ?_ sT
    exact ⟨ys, rfl, rfl⟩

theorem h_eqB (w : World) (v u : Value) (xs ys : List Bool) (h : RL w v xs) (h' : RL w u ys) (hl : xs.length ≤ 1099511627776) (hl' : ys.length ≤ 1099511627776) :
    Tri Try.prog 45 [v, u] w [] fun r T => T = [] ∧ r = .bool (decide (xs = ys)) := by
  refine Tri.intro (hf := Try.func45) (hb := rfl) (hn := Try.ntmps45) (Nat.le_of_ble_eq_true rfl) ?_
  repeat' (first | refine go ⟨?_⟩ | (refine isCond ?_; refine WP.condD rfl (fun hc => ?_) (fun hc => ?_)) | (refine isGuard ?_; refine WPL.splitD rfl rfl (fun hc => ?_) (fun hc => ?_)))
  · refine PE.ret1 (T := []) (T' := []) rfl rV ?_ sT
    refine ⟨rfl, ?_⟩
    rw [decide_eq_false]
    rintro rfl
    exact absurd rfl ‹_›
  have hll : xs.length = ys.length := by omega
  refine WP.loop (σ := Nat) (fun k => [(0, v), (1, u), (5, .int .i64 k)]) (fun _ => []) (fun k => k ≤ xs.length ∧ ∀ m, m < k → xs.getD m false = ys.getD m false) (fun k => xs.length - k) 0 ⟨Nat.zero_le _, by omega⟩ sE sT ?_
  rintro k ⟨hk, hm⟩
  repeat' (first | refine go ⟨?_⟩ | (refine isCond ?_; refine WP.condD rfl (fun hc => ?_) (fun hc => ?_)) | (refine isGuard ?_; refine WPL.splitD rfl rfl (fun hc => ?_) (fun hc => ?_)))
  · have hk' : k < xs.length := by omega
    refine WP.draw [] mixed ?_
    refine WPD.take 0 rfl (Op1.move rfl) rfl rfl sT kR kR kR xQP ?_
    refine WPD.take 1 rfl (Op1.move rfl) rfl rfl sT kR kR kR xQP ?_
    refine WPD.take 4 rfl (Op1.move rfl) rfl rfl sT kR kR kR xQP ?_
    refine WPD.take 5 rfl (Op1.move rfl) rfl rfl sT kR kR kR xQP ?_
    refine WPD.take 2 rfl (by first | exact (Op1.indexAddr rfl rfl rD lT) | exact (Op1.indexAddrZ rfl rfl rD lT)) rfl rfl sT kR kR kR xQP ?_
    refine WPD.take 6 rfl (by first | exact (Op1.indexAddr rfl rfl rD lT) | exact (Op1.indexAddrZ rfl rfl rD lT)) rfl rfl sT kR kR kR xQP ?_
    refine WPD.take 3 rfl (by first | exact (Op1.load rfl mM (by rfl)) | exact (Op1.loadI rfl rD lT) | exact (Op1.loadAll rfl mM (by rfl)) | exact (Op1.loadE rfl rD lT (by rfl)) | exact (Op1.loadEAgg rfl rD lT (by rfl))) rfl rfl sT kR kR kR xQP ?_
    refine WPD.take 7 rfl (by first | exact (Op1.load rfl mM (by rfl)) | exact (Op1.loadI rfl rD lT) | exact (Op1.loadAll rfl mM (by rfl)) | exact (Op1.loadE rfl rD lT (by rfl)) | exact (Op1.loadEAgg rfl rD lT (by rfl))) rfl rfl sT kR kR kR xQP ?_
    refine WPD.take 8 rfl (by first | exact (Op1.neI rfl rfl) | exact (Op1.neB rfl rfl) | exact (Op1.neE rfl rfl)) rfl rfl sT kR kR kR xQP ?_
    refine WPD.done kR ?_
    try refine go ⟨?_⟩
    refine WP.cond rfl (fun he => ?_) (fun he => ?_)
    · try refine go ⟨?_⟩
      refine PE.ret1 (T := []) (T' := []) rfl rV ?_ sT
      refine ⟨rfl, ?_⟩
      rw [decide_eq_false]
      rintro rfl
      exact absurd rfl (bneT he)
    · try refine go ⟨?_⟩
      refine PE.again (k + 1) ?_ ?_ sE sT
      · exact ⟨by omega, fun m hm' => by
          rcases Nat.lt_succ_iff_lt_or_eq.1 hm' with h' | rfl
          · exact hm m h'
          · exact bneF he⟩
      · omega
  · refine PE.ret1 (T := []) (T' := []) rfl rV ?_ sT
    refine ⟨rfl, ?_⟩
    rw [decide_eq_true]
    exact List.ext_getElem hll (fun i h1 h2 => by
      have := hm i (by omega)
      rwa [List.getD_eq_getElem?_getD, List.getD_eq_getElem?_getD, List.getElem?_eq_getElem h1, List.getElem?_eq_getElem h2] at this)

theorem h_mrkB (w : World) (v : Value) (xs : List Bool) (k : Int) (hl : xs.length ≤ 1048576) (h0 : 0 ≤ k) (h1 : k ≤ 1099511627776) :
    Tri Try.prog 47 [v, .int .i64 k] w [Tok.own v xs] fun r T => r = .int .i64 (k + xs.length) ∧ T = [Tok.own v (bmarks k xs.length)] := by
  refine Tri.intro (hf := Try.func47) (hb := rfl) (hn := Try.ntmps47) (Nat.le_of_ble_eq_true rfl) ?_
  try refine go ⟨?_⟩
  refine WP.loop (σ := Nat) (fun n => [(0, v), (1, .int .i64 (k + n)), (5, .int .i64 n)]) (fun n => [Tok.own v (bmarks k n ++ xs.drop n)]) (fun n => n ≤ xs.length) (fun n => xs.length - n) 0 (Nat.zero_le _) ?_ sT ?_
  · simp only [Int.natCast_zero, Int.add_zero]; exact sE
  intro n hn
  have hlen : (bmarks k n ++ xs.drop n).length = xs.length := by rw [List.length_append, bmarks_length, List.length_drop]; omega
  try refine go ⟨?_⟩
  refine WP.condD rfl (fun hc => ?_) (fun hc => ?_)
  · have hn' : n < xs.length := by omega
    try refine go ⟨?_⟩
    refine WPL.eff0 (OpE.store1 (decide ((k + (n : Int)) % 3 = 0)) rfl rfl pM2 lT rfl) rfl ?_
    rintro _ _ rfl
    rw [bmarks_set hn']
    try refine go ⟨?_⟩
    have e : k + (n : Int) + 1 = k + ((n + 1 : Nat) : Int) := by omega
    rw [e]
    refine PE.again (n + 1) ?_ ?_ sE sT2
    · (try dsimp only); omega
    · (try dsimp only); omega
  · have hn1 : n = xs.length := by omega
    subst hn1
    have e : bmarks k xs.length ++ xs.drop xs.length = bmarks k xs.length := by rw [List.drop_length, List.append_nil]
    rw [e]
    try refine go ⟨?_⟩
    refine PE.ret1 (T := [Tok.own v xs]) (T' := [Tok.own v (bmarks k xs.length)]) rfl rV ?_ sT
    exact ⟨rfl, rfl⟩

theorem h_heldB (w : World) (v : Value) (k : Int) (n : Nat) (h : RL w v (bmarks k n)) (hl : n ≤ 1048576) (h0 : 0 ≤ k) (h1 : k ≤ 1099511627776) :
    Tri Try.prog 48 [v, .int .i64 k] w [] fun r T => r = .int .i64 (k + n) ∧ T = [] := by
  have hlen := bmarks_length k n
  have hget := bmarks_get k n
  generalize bmarks k n = xs at *
  subst hlen
  refine Tri.intro (hf := Try.func48) (hb := rfl) (hn := Try.ntmps48) (Nat.le_of_ble_eq_true rfl) ?_
  try refine go ⟨?_⟩
  refine WP.loop (σ := Nat) (fun n => [(0, v), (1, .int .i64 (k + n)), (5, .int .i64 n)]) (fun n => []) (fun n => n ≤ xs.length) (fun n => xs.length - n) 0 (Nat.zero_le _) ?_ sT ?_
  · simp only [Int.natCast_zero, Int.add_zero]; exact sE
  intro n hn
  try refine go ⟨?_⟩
  refine WP.condD rfl (fun hc => ?_) (fun hc => ?_)
  · have hg := hget n (by omega)
    try refine go ⟨?_⟩
    refine WP.cond rfl (fun he => ?_) (fun he => ?_)
    · exact absurd hg (bneT he)
    try refine go ⟨?_⟩
    have e : k + (n : Int) + 1 = k + ((n + 1 : Nat) : Int) := by omega
    rw [e]
    refine PE.again (n + 1) ?_ ?_ sE sT2
    · (try dsimp only); omega
    · (try dsimp only); omega
  · have hn1 : n = xs.length := by omega
    subst hn1
    try refine go ⟨?_⟩
    refine PE.ret1 (T := []) (T' := []) rfl rV ?_ sT
    exact ⟨rfl, rfl⟩

theorem h_eqL (w : World) (a b : Lif) : Tri Try.prog 98 [lfV a, lfV b] w [] fun r T => T = [] ∧ r = .bool (decide (a = b)) := by
  have ext : a = b ↔ (⟨a.A, a.B⟩ : E) = ⟨b.A, b.B⟩ ∧ a.F = b.F ∧ a.T = b.T := by cases a; cases b; simp [and_assoc]
  refine Tri.intro (hf := Try.func98) (hb := rfl) (hn := Try.ntmps98) (Nat.le_of_ble_eq_true rfl) ?_
  try refine go ⟨?_⟩
  refine WPL.eff (OpE.box rfl) rfl rfl ?_; rintro _ _ ⟨b1, rfl, rfl⟩
  try refine go ⟨?_⟩
  refine WPL.eff (OpE.box rfl) rfl rfl ?_; rintro _ _ ⟨b2, rfl, rfl⟩
  try refine go ⟨?_⟩
  refine WPL.pure (Op1.loadAgg (us := [.int .i64 a.A, .int .i64 a.B]) rfl mM rfl rfl) rfl rfl ?_
  try refine go ⟨?_⟩
  refine WPL.pure (Op1.loadAgg (us := [.int .i64 b.A, .int .i64 b.B]) rfl mM rfl rfl) rfl rfl ?_
  try refine go ⟨?_⟩
  refine WPL.eff (OpE.call lO (fun w hw => h_eqE _ ⟨a.A, a.B⟩ ⟨b.A, b.B⟩)) rfl rfl ?_
  rintro _ _ ⟨T, ⟨rfl, rfl⟩, rfl⟩
  try refine go ⟨?_⟩
  refine WP.condD rfl (fun he => ?_) (fun he => ?_)
  · try refine go ⟨?_⟩
    refine PE.ret1 (T := []) (T' := []) rfl rV ?_ sT
    refine ⟨rfl, ?_⟩
    rw [decide_eq_false]; rw [ext]; exact fun h => absurd h.1 he
  have he := Decidable.not_not.1 he
  try refine go ⟨?_⟩
  refine WP.condD rfl (fun hF => ?_) (fun hF => ?_)
  · try refine go ⟨?_⟩
    refine PE.ret1 (T := []) (T' := []) rfl rV ?_ sT
    refine ⟨rfl, ?_⟩
    rw [decide_eq_false]; rw [ext]; exact fun h => absurd h.2.1 hF
  have hF := Decidable.not_not.1 hF
  try refine go ⟨?_⟩
  refine WP.condD rfl (fun hT => ?_) (fun hT => ?_)
  · try refine go ⟨?_⟩
    refine PE.ret1 (T := []) (T' := []) rfl rV ?_ sT
    refine ⟨rfl, ?_⟩
    rw [decide_eq_false]; rw [ext]; exact fun h => absurd h.2.2 hT
  have hT := Decidable.not_not.1 hT
  try refine go ⟨?_⟩
  refine PE.ret1 (T := []) (T' := []) rfl rV ?_ sT
  refine ⟨rfl, ?_⟩
  rw [decide_eq_true]; rw [ext]; exact ⟨he, hF, hT⟩

theorem h_eqLS (w : World) (v u : Value) (xs ys : List Lif) (h : RL w v xs) (h' : RL w u ys) (hl : xs.length ≤ 1048576) (hl' : ys.length ≤ 1048576) :
    Tri Try.prog 52 [v, u] w [] fun r T => T = [] ∧ r = .bool (decide (xs = ys)) := by
  refine Tri.intro (hf := Try.func52) (hb := rfl) (hn := Try.ntmps52) (Nat.le_of_ble_eq_true rfl) ?_
  repeat' (first | refine go ⟨?_⟩ | (refine isCond ?_; refine WP.condD rfl (fun hc => ?_) (fun hc => ?_)) | (refine isGuard ?_; refine WPL.splitD rfl rfl (fun hc => ?_) (fun hc => ?_)))
  · refine PE.ret1 (T := []) (T' := []) rfl rV ?_ sT
    refine ⟨rfl, ?_⟩
    rw [decide_eq_false]
    rintro rfl
    exact absurd rfl ‹_›
  have hll : xs.length = ys.length := by omega
  refine WP.loop (σ := Nat) (fun k => [(0, v), (1, u), (5, .int .i64 k)]) (fun _ => []) (fun k => k ≤ xs.length ∧ ∀ m, m < k → xs.getD m ⟨0, 0, 0, 0⟩ = ys.getD m ⟨0, 0, 0, 0⟩) (fun k => xs.length - k) 0 ⟨Nat.zero_le _, by omega⟩ sE sT ?_
  rintro k ⟨hk, hm⟩
  try refine go ⟨?_⟩
  refine WP.condD rfl (fun hc => ?_) (fun hc => ?_)
  · have hk' : k < xs.length := by omega
    try refine go ⟨?_⟩
    refine WP.draw [] mixed ?_
    refine WPD.take 0 rfl (Op1.move rfl) rfl rfl sT kR kR kR xQP ?_
    refine WPD.take 1 rfl (Op1.move rfl) rfl rfl sT kR kR kR xQP ?_
    refine WPD.take 4 rfl (Op1.move rfl) rfl rfl sT kR kR kR xQP ?_
    refine WPD.take 5 rfl (Op1.move rfl) rfl rfl sT kR kR kR xQP ?_
    refine WPD.take 2 rfl (by first | exact (Op1.indexAddr rfl rfl rD lT) | exact (Op1.indexAddrZ rfl rfl rD lT)) rfl rfl sT kR kR kR xQP ?_
    refine WPD.take 6 rfl (by first | exact (Op1.indexAddr rfl rfl rD lT) | exact (Op1.indexAddrZ rfl rfl rD lT)) rfl rfl sT kR kR kR xQP ?_
    refine WPD.take 3 rfl (Op1.loadLif rfl rD lT) rfl rfl sT kR kR kR xQP ?_
    refine WPD.take 7 rfl (Op1.loadLif rfl rD lT) rfl rfl sT kR kR kR xQP ?_
    refine WPD.eff 8 kR rfl (OpE.call lO (fun w hw => h_eqL _ (xs.getD k ⟨0, 0, 0, 0⟩) (ys.getD k ⟨0, 0, 0, 0⟩))) rfl rfl ?_
    rintro r _ ⟨T, ⟨rfl, rfl⟩, rfl⟩
    refine ⟨sT, ?_⟩
    refine WPD.eff 9 kR rfl (OpE.ofPure (by first | exact (Op1.notD rfl) | exact (Op1.not rfl))) rfl rfl ?_
    rintro _ _ ⟨rfl, rfl⟩
    refine ⟨sT, ?_⟩
    refine WPD.done kR ?_
    try refine go ⟨?_⟩
    refine WP.condD rfl (fun he => ?_) (fun he => ?_)
    · try refine go ⟨?_⟩
      refine PE.ret1 (T := []) (T' := []) rfl rV ?_ sT
      refine ⟨rfl, ?_⟩
      rw [decide_eq_false]
      rintro rfl
      exact absurd rfl he
    · try refine go ⟨?_⟩
      refine PE.again (k + 1) ?_ ?_ sE sT2
      · exact ⟨by omega, fun m hm' => by
          rcases Nat.lt_succ_iff_lt_or_eq.1 hm' with h' | rfl
          · exact hm m h'
          · exact Decidable.not_not.1 he⟩
      · omega
  · try refine go ⟨?_⟩
    refine PE.ret1 (T := []) (T' := []) rfl rV ?_ sT
    refine ⟨rfl, ?_⟩
    rw [decide_eq_true]
    exact List.ext_getElem hll (fun i h1 h2 => by
      have := hm i (by omega)
      rwa [List.getD_eq_getElem?_getD, List.getD_eq_getElem?_getD, List.getElem?_eq_getElem h1, List.getElem?_eq_getElem h2] at this)

theorem h_mrkL (w : World) (v : Value) (xs : List Lif) (k : Int) (hl : xs.length ≤ 1048576) (h0 : 0 ≤ k) (h1 : k ≤ 1048576) :
    Tri Try.prog 53 [v, .int .i64 k] w [Tok.own v xs] fun r T => r = .int .i64 (k + 4 * xs.length) ∧ T = [Tok.own v (lmarks k xs.length)] := by
  refine Tri.intro (hf := Try.func53) (hb := rfl) (hn := Try.ntmps53) (Nat.le_of_ble_eq_true rfl) ?_
  try refine go ⟨?_⟩
  refine WP.loop (σ := Nat) (fun n => [(0, v), (1, .int .i64 (k + 4 * n)), (5, .int .i64 n)]) (fun n => [Tok.own v (lmarks k n ++ xs.drop n)]) (fun n => n ≤ xs.length) (fun n => xs.length - n) 0 (Nat.zero_le _) ?_ sT ?_
  · simp only [Int.natCast_zero, Int.mul_zero, Int.add_zero]; exact sE
  intro n hn
  have hlen : (lmarks k n ++ xs.drop n).length = xs.length := by rw [List.length_append, lmarks_length, List.length_drop]; omega
  try refine go ⟨?_⟩
  refine WP.condD rfl (fun hc => ?_) (fun hc => ?_)
  · have hn' : n < xs.length := by omega
    have hes := lmarks_set (k := k) hn'
    generalize lmarks k n ++ xs.drop n = z0 at *
    try refine go ⟨?_⟩
    refine WPL.eff0 (OpE.storeF (r := 0) (⟨k + 4 * n, (z0.getD n (Enc.d : Lif)).B, (z0.getD n (Enc.d : Lif)).F, (z0.getD n (Enc.d : Lif)).T⟩ : Lif) rfl rfl pM2 lT (by decide) oN rfl (by rfl)) rfl ?_
    rintro _ _ rfl
    have g1 := set_getL (l := z0) (n := n) (a := ⟨k + 4 * n, (z0.getD n (Enc.d : Lif)).B, (z0.getD n (Enc.d : Lif)).F, (z0.getD n (Enc.d : Lif)).T⟩) (by omega)
    have s1 : ∀ x, (z0.set n ⟨k + 4 * n, (z0.getD n (Enc.d : Lif)).B, (z0.getD n (Enc.d : Lif)).F, (z0.getD n (Enc.d : Lif)).T⟩).set n x = z0.set n x := fun x => List.set_set ..
    have l1 : (z0.set n ⟨k + 4 * n, (z0.getD n (Enc.d : Lif)).B, (z0.getD n (Enc.d : Lif)).F, (z0.getD n (Enc.d : Lif)).T⟩).length = xs.length := by rw [List.length_set]; exact hlen
    generalize z0.set n ⟨k + 4 * n, (z0.getD n (Enc.d : Lif)).B, (z0.getD n (Enc.d : Lif)).F, (z0.getD n (Enc.d : Lif)).T⟩ = z1 at *
    try refine go ⟨?_⟩
    refine WPL.eff0 (OpE.storeF (r := 1) (⟨(z1.getD n (Enc.d : Lif)).A, k + 4 * n + 1, (z1.getD n (Enc.d : Lif)).F, (z1.getD n (Enc.d : Lif)).T⟩ : Lif) rfl rfl pM2 lT (by decide) oN rfl (by rfl)) rfl ?_
    rintro _ _ rfl
    rw [g1]
    dsimp only
    have g2 := set_getL (l := z1) (n := n) (a := ⟨k + 4 * n, k + 4 * n + 1, (z0.getD n (Enc.d : Lif)).F, (z0.getD n (Enc.d : Lif)).T⟩) (by omega)
    have s2 : ∀ x, (z1.set n ⟨k + 4 * n, k + 4 * n + 1, (z0.getD n (Enc.d : Lif)).F, (z0.getD n (Enc.d : Lif)).T⟩).set n x = z1.set n x := fun x => List.set_set ..
    have l2 : (z1.set n ⟨k + 4 * n, k + 4 * n + 1, (z0.getD n (Enc.d : Lif)).F, (z0.getD n (Enc.d : Lif)).T⟩).length = xs.length := by rw [List.length_set]; exact l1
    generalize z1.set n ⟨k + 4 * n, k + 4 * n + 1, (z0.getD n (Enc.d : Lif)).F, (z0.getD n (Enc.d : Lif)).T⟩ = z2 at *
    try refine go ⟨?_⟩
    refine WPL.eff0 (OpE.storeF (r := 2) (⟨(z2.getD n (Enc.d : Lif)).A, (z2.getD n (Enc.d : Lif)).B, k + 4 * n + 1 + 1, (z2.getD n (Enc.d : Lif)).T⟩ : Lif) rfl rfl pM2 lT (by decide) oN rfl (by rfl)) rfl ?_
    rintro _ _ rfl
    rw [g2]
    dsimp only
    have g3 := set_getL (l := z2) (n := n) (a := ⟨k + 4 * n, k + 4 * n + 1, k + 4 * n + 1 + 1, (z0.getD n (Enc.d : Lif)).T⟩) (by omega)
    have s3 : ∀ x, (z2.set n ⟨k + 4 * n, k + 4 * n + 1, k + 4 * n + 1 + 1, (z0.getD n (Enc.d : Lif)).T⟩).set n x = z2.set n x := fun x => List.set_set ..
    have l3 : (z2.set n ⟨k + 4 * n, k + 4 * n + 1, k + 4 * n + 1 + 1, (z0.getD n (Enc.d : Lif)).T⟩).length = xs.length := by rw [List.length_set]; exact l2
    generalize z2.set n ⟨k + 4 * n, k + 4 * n + 1, k + 4 * n + 1 + 1, (z0.getD n (Enc.d : Lif)).T⟩ = z3 at *
    try refine go ⟨?_⟩
    refine WPL.eff0 (OpE.storeF (r := 3) (⟨(z3.getD n (Enc.d : Lif)).A, (z3.getD n (Enc.d : Lif)).B, (z3.getD n (Enc.d : Lif)).F, k + 4 * n + 1 + 1 + 1⟩ : Lif) rfl rfl pM2 lT (by decide) oN rfl (by rfl)) rfl ?_
    rintro _ _ rfl
    rw [g3]
    dsimp only
    have hfin : z3.set n ⟨k + 4 * n, k + 4 * n + 1, k + 4 * n + 1 + 1, k + 4 * n + 1 + 1 + 1⟩ = lmarks k (n + 1) ++ xs.drop (n + 1) := by
      rw [s3, s2, s1]; exact hes
    rw [hfin]
    try refine go ⟨?_⟩
    have e : k + 4 * (n : Int) + 1 + 1 + 1 + 1 = k + 4 * ((n + 1 : Nat) : Int) := by omega
    rw [e]
    refine PE.again (n + 1) ?_ ?_ sE sT2
    · (try dsimp only); omega
    · (try dsimp only); omega
  · have hn1 : n = xs.length := by omega
    subst hn1
    have e : lmarks k xs.length ++ xs.drop xs.length = lmarks k xs.length := by rw [List.drop_length, List.append_nil]
    rw [e]
    try refine go ⟨?_⟩
    refine PE.ret1 (T := [Tok.own v xs]) (T' := [Tok.own v (lmarks k xs.length)]) rfl rV ?_ sT
    exact ⟨rfl, rfl⟩

theorem h_heldL (w : World) (v : Value) (k : Int) (n : Nat) (h : RL w v (lmarks k n)) (hl : n ≤ 1048576) (h0 : 0 ≤ k) (h1 : k ≤ 1048576) :
    Tri Try.prog 54 [v, .int .i64 k] w [] fun r T => r = .int .i64 (k + 4 * n) ∧ T = [] := by
  have hlen := lmarks_length k n
  have hget := lmarks_get k n
  generalize lmarks k n = xs at *
  subst hlen
  refine Tri.intro (hf := Try.func54) (hb := rfl) (hn := Try.ntmps54) (Nat.le_of_ble_eq_true rfl) ?_
  try refine go ⟨?_⟩
  refine WP.loop (σ := Nat) (fun n => [(0, v), (1, .int .i64 (k + 4 * n)), (5, .int .i64 n)]) (fun n => []) (fun n => n ≤ xs.length) (fun n => xs.length - n) 0 (Nat.zero_le _) ?_ sT ?_
  · simp only [Int.natCast_zero, Int.mul_zero, Int.add_zero]; exact sE
  intro n hn
  try refine go ⟨?_⟩
  refine WP.condD rfl (fun hc => ?_) (fun hc => ?_)
  · have hg := hget n (by omega)
    have hgA : (xs.getD n ⟨0, 0, 0, 0⟩).A = k + 4 * n := by rw [hg]; rfl
    have hgB : (xs.getD n ⟨0, 0, 0, 0⟩).B = k + 4 * n + 1 := by rw [hg]; rfl
    have hgF : (xs.getD n ⟨0, 0, 0, 0⟩).F = k + 4 * n + 1 + 1 := by rw [hg]; rfl
    have hgT : (xs.getD n ⟨0, 0, 0, 0⟩).T = k + 4 * n + 1 + 1 + 1 := by rw [hg]; rfl
    try refine go ⟨?_⟩
    refine WP.condD rfl (fun h2 => ?_) (fun h2 => ?_)
    · exact absurd hgA h2
    try refine go ⟨?_⟩
    refine WP.condD rfl (fun h3 => ?_) (fun h3 => ?_)
    · exact absurd hgB h3
    try refine go ⟨?_⟩
    refine WP.condD rfl (fun h4 => ?_) (fun h4 => ?_)
    · exact absurd hgF h4
    try refine go ⟨?_⟩
    refine WP.condD rfl (fun h5 => ?_) (fun h5 => ?_)
    · exact absurd hgT h5
    try refine go ⟨?_⟩
    have e : k + 4 * (n : Int) + 1 + 1 + 1 + 1 = k + 4 * ((n + 1 : Nat) : Int) := by omega
    rw [e]
    refine PE.again (n + 1) ?_ ?_ sE sT2
    · (try dsimp only); omega
    · (try dsimp only); omega
  · have hn1 : n = xs.length := by omega
    subst hn1
    try refine go ⟨?_⟩
    refine PE.ret1 (T := []) (T' := []) rfl rV ?_ sT
    exact ⟨rfl, rfl⟩
end Go.Proofs.Ytfigegmgopnfhaa
