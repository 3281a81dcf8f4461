/- Texts put together: HlpS, HlpT. Conditions: those of each theorem. -/
import Derived.Test.YthlgbeakcobeoaaV5
import Derived.Test.YthlgbeakcobeoaaV9
set_option linter.unusedVariables false
set_option linter.unusedSimpArgs false
/- The helpers of the exact laws over sets. Conditions: those of each contract. -/
namespace Go.Proofs.Ythlgbeakcobeoaa
open Go
theorem take_snocI {l : List Int} {k : Nat} (h : k < l.length) : l.take (k + 1) = l.take k ++ [l.getD k 0] := take_succD 0 h
set_option linter.unusedVariables false set_option linter.unusedSimpArgs false attribute [local irreducible] Tok.own Tok.blk RL Rd eptr WP WPL PE WPD WPO Op1 OpE Tri Again Mid Exit.then Exit.inBlock bodyPost RP Code.wp wpList isOwn OneM One
set_option maxHeartbeats 8000000

theorem h_szI (w : World) (v : Value) (xs : List Int) (left : Int) (h : RL w v xs) (hl : xs.length ≤ 9223372036854775807) (h0 : 0 ≤ left) (h1 : left ≤ 1048576) :
    Tri Try.prog 95 [v, .int .i64 left] w [] fun r T => T = [] ∧ ((xs.length ≤ left ∧ r = .int .i64 (left - xs.length)) ∨ (left < xs.length ∧ r = .int .i64 (-1))) := by
  refine Tri.intro (hf := Try.func95) (hb := rfl) (hn := Try.ntmps95) (Nat.le_of_ble_eq_true rfl) ?_
  repeat' (first | refine go ⟨?_⟩ | (refine isCond ?_; refine WP.condD rfl (fun hc => ?_) (fun hc => ?_)) | (refine isGuard ?_; refine WPL.splitD rfl rfl (fun hc => ?_) (fun hc => ?_)))
  · refine PE.ret1 (T := []) (T' := []) rfl rV ?_ sT
    exact ⟨rfl, .inr ⟨by omega, rfl⟩⟩
  · refine PE.ret1 (T := []) (T' := []) rfl rV ?_ sT
    exact ⟨rfl, .inl ⟨by omega, rfl⟩⟩

theorem h_toI (w : World) (v : Value) (xs : List Int) (h : RL w v xs) (hl : xs.length ≤ 1048576) :
    Tri Try.prog 98 [v] w [] fun r T => T = [Tok.own r xs] := by
  refine Tri.intro (hf := Try.func98) (hb := rfl) (hn := Try.ntmps98) (Nat.le_of_ble_eq_true rfl) ?_
  try refine go ⟨?_⟩
  refine WPL.eff (OpE.make (α := Int) rfl rfl (by omega)) rfl rfl ?_; rintro u _ rfl
  try refine go ⟨?_⟩
  refine WP.loop (σ := Nat) (fun k => [(0, v), (3, u), (4, .int .i64 k)]) (fun k => [Tok.own u (xs.take k ++ List.replicate (xs.length - k) (0 : Int))]) (fun k => k ≤ xs.length) (fun k => xs.length - k) 0 (Nat.zero_le _) sE ?_ ?_
  · exact sT
  rintro k hk
  have hlen : (xs.take k ++ List.replicate (xs.length - k) (0 : Int)).length = xs.length := by simp; omega
  repeat' (first | refine go ⟨?_⟩ | (refine isCond ?_; refine WP.condD rfl (fun hc => ?_) (fun hc => ?_)) | (refine isGuard ?_; refine WPL.splitD rfl rfl (fun hc => ?_) (fun hc => ?_)))
  · have hk' : k < xs.length := by omega
    refine WPL.eff0 (OpE.store1 (xs.getD k 0) rfl rfl pM (by omega) rfl) rfl ?_; rintro _ _ rfl
    have e : (xs.take k ++ List.replicate (xs.length - k) (0 : Int)).set k (xs.getD k 0) = xs.take (k + 1) ++ List.replicate (xs.length - (k + 1)) (0 : Int) := by
      have h1 : xs.length - k = (xs.length - (k + 1)) + 1 := by omega
      rw [h1, List.replicate_succ, List.set_append_right _ _ (by simp; omega)]
      have h2 : k - (xs.take k).length = 0 := by rw [List.length_take]; omega
      rw [h2, List.set_cons_zero, take_snocI hk', List.append_assoc]; rfl
    rw [e]
    try refine go ⟨?_⟩
    refine PE.again (k + 1) ?_ ?_ sE sT
    · exact hk'
    · omega
  · have hk1 : k = xs.length := by omega
    subst hk1
    refine PE.ret1 (T := []) (T' := [Tok.own u (xs.take xs.length ++ List.replicate (xs.length - xs.length) (0 : Int))]) rfl rV ?_ sT
    simp

theorem h_szSt (w : World) (v : Value) (xs : List E) (left : Int) (h : RL w v xs) (hl : xs.length ≤ 9223372036854775807) (h0 : 0 ≤ left) (h1 : left ≤ 1048576) :
    Tri Try.prog 96 [v, .int .i64 left] w [] fun r T => T = [] ∧ ((xs.length ≤ left ∧ r = .int .i64 (left - xs.length)) ∨ (left < xs.length ∧ r = .int .i64 (-1))) := by
  refine Tri.intro (hf := Try.func96) (hb := rfl) (hn := Try.ntmps96) (Nat.le_of_ble_eq_true rfl) ?_
  repeat' (first | refine go ⟨?_⟩ | (refine isCond ?_; refine WP.condD rfl (fun hc => ?_) (fun hc => ?_)) | (refine isGuard ?_; refine WPL.splitD rfl rfl (fun hc => ?_) (fun hc => ?_)))
  · refine PE.ret1 (T := []) (T' := []) rfl rV ?_ sT
    exact ⟨rfl, .inr ⟨by omega, rfl⟩⟩
  · refine PE.ret1 (T := []) (T' := []) rfl rV ?_ sT
    exact ⟨rfl, .inl ⟨by omega, rfl⟩⟩

theorem h_toSt (w : World) (e : E) : Tri Try.prog 121 [ep e] w [] fun r T => T = [] ∧ r = ep e := by
  refine Tri.intro (hf := Try.func121) (hb := rfl) (hn := Try.ntmps121) (Nat.le_of_ble_eq_true rfl) ?_
  try refine go ⟨?_⟩
  refine WPL.eff (OpE.box rfl) rfl rfl ?_; rintro _ _ ⟨b, rfl, rfl⟩
  refine WPL.eff OpE.alloc rfl rfl ?_; rintro _ _ ⟨b2, rfl, rfl⟩
  try refine go ⟨?_⟩
  refine WPL.eff OpE.alloc rfl rfl ?_; rintro _ _ ⟨b3, rfl, rfl⟩
  try refine go ⟨?_⟩
  refine PE.ret1 (T := []) (T' := []) rfl rV ?_ sT
  exact ⟨rfl, rfl⟩

theorem h_eqSt (w : World) (a b : E) : Tri Try.prog 122 [ep a, ep b] w [] fun r T => T = [] ∧ r = .bool (decide (a = b)) := by
  have ext : a = b ↔ a.A = b.A ∧ a.B = b.B := by cases a; cases b; simp
  refine Tri.intro (hf := Try.func122) (hb := rfl) (hn := Try.ntmps122) (Nat.le_of_ble_eq_true rfl) ?_
  try refine go ⟨?_⟩
  refine WPL.eff (OpE.box rfl) rfl rfl ?_; rintro _ _ ⟨b1, rfl, rfl⟩
  try refine go ⟨?_⟩
  refine WPL.eff (OpE.box rfl) rfl rfl ?_; rintro _ _ ⟨b2, rfl, rfl⟩
  repeat' (first | exact absurd rfl hc | refine go ⟨?_⟩ | (refine isCond ?_; refine WP.condD rfl (fun hc => ?_) (fun hc => ?_)) | (refine isGuard ?_; refine WPL.splitD rfl rfl (fun hc => ?_) (fun hc => ?_)))
  all_goals (refine PE.ret1 (T := []) (T' := []) rfl rV ?_ sT; refine ⟨rfl, ?_⟩)
  · rw [decide_eq_false]; rw [ext]; exact fun h => absurd h.1 ‹_›
  · rw [decide_eq_false]; rw [ext]; exact fun h => absurd h.2 ‹_›
  · rw [decide_eq_true]; rw [ext]; exact ⟨Decidable.not_not.1 ‹_›, Decidable.not_not.1 ‹_›⟩

theorem h_toSS (w : World) (v : Value) (xs : List E) (h : RL w v xs) (hl : xs.length ≤ 1048576) :
    Tri Try.prog 99 [v] w [] fun r T => T = [Tok.own r xs] := by
  refine Tri.intro (hf := Try.func99) (hb := rfl) (hn := Try.ntmps99) (Nat.le_of_ble_eq_true rfl) ?_
  try refine go ⟨?_⟩
  refine WPL.eff (OpE.make (α := E) rfl rfl (by omega)) rfl rfl ?_; rintro u _ rfl
  try refine go ⟨?_⟩
  refine WP.loop (σ := Nat) (fun k => [(0, v), (3, u), (4, .int .i64 k)]) (fun k => [Tok.own u (xs.take k ++ List.replicate (xs.length - k) (Enc.d : E))]) (fun k => k ≤ xs.length) (fun k => xs.length - k) 0 (Nat.zero_le _) sE ?_ ?_
  · exact sT
  rintro k hk
  have hlen : (xs.take k ++ List.replicate (xs.length - k) (Enc.d : E)).length = xs.length := by simp; omega
  try refine go ⟨?_⟩
  refine WP.condD rfl (fun hc => ?_) (fun hc => ?_)
  · have hk' : k < xs.length := by omega
    try refine go ⟨?_⟩
    refine WPL.eff (OpE.call lO (fun w hw => h_toSt _ (xs.getD k (Enc.d : E)))) rfl rfl ?_
    rintro r _ ⟨T, ⟨rfl, rfl⟩, rfl⟩
    try refine go ⟨?_⟩
    refine WPL.eff0 (OpE.storeS (xs.getD k (Enc.d : E)) rfl rfl pM2 lT rfl) rfl ?_
    rintro _ _ rfl
    rw [fill_set hk']
    try refine go ⟨?_⟩
    refine PE.again (k + 1) ?_ ?_ sE sT2
    · (try dsimp only); omega
    · (try dsimp only); omega
  · have hk1 : k = xs.length := by omega
    subst hk1
    try refine go ⟨?_⟩
    refine PE.ret1 (T := []) (T' := [Tok.own u (xs.take xs.length ++ List.replicate (xs.length - xs.length) (Enc.d : E))]) rfl rV ?_ sT
    simp

theorem h_eqSS (w : World) (v u : Value) (xs ys : List E) (h : RL w v xs) (h' : RL w u ys) (hl : xs.length ≤ 1048576) (hl' : ys.length ≤ 1048576) :
    Tri Try.prog 100 [v, u] w [] fun r T => T = [] ∧ r = .bool (decide (xs = ys)) := by
  refine Tri.intro (hf := Try.func100) (hb := rfl) (hn := Try.ntmps100) (Nat.le_of_ble_eq_true rfl) ?_
  repeat' (first | refine go ⟨?_⟩ | (refine isCond ?_; refine WP.condD rfl (fun hc => ?_) (fun hc => ?_)) | (refine isGuard ?_; refine WPL.splitD rfl rfl (fun hc => ?_) (fun hc => ?_)))
  · refine PE.ret1 (T := []) (T' := []) rfl rV ?_ sT
    refine ⟨rfl, ?_⟩
    rw [decide_eq_false]
    rintro rfl
    exact absurd rfl ‹_›
  have hll : xs.length = ys.length := by omega
  refine WP.loop (σ := Nat) (fun k => [(0, v), (1, u), (5, .int .i64 k)]) (fun _ => []) (fun k => k ≤ xs.length ∧ ∀ m, m < k → xs.getD m (Enc.d : E) = ys.getD m (Enc.d : E)) (fun k => xs.length - k) 0 ⟨Nat.zero_le _, by omega⟩ sE sT ?_
  rintro k ⟨hk, hm⟩
  try refine go ⟨?_⟩
  refine WP.condD rfl (fun hc => ?_) (fun hc => ?_)
  · have hk' : k < xs.length := by omega
    try refine go ⟨?_⟩
    refine WP.draw [] mixed ?_
    refine WPD.take 0 rfl (Op1.move rfl) rfl rfl sT kR kR kR xQP ?_
    refine WPD.take 1 rfl (Op1.move rfl) rfl rfl sT kR kR kR xQP ?_
    refine WPD.take 4 rfl (Op1.move rfl) rfl rfl sT kR kR kR xQP ?_
    refine WPD.take 5 rfl (Op1.move rfl) rfl rfl sT kR kR kR xQP ?_
    refine WPD.take 2 rfl (by first | exact (Op1.indexAddr rfl rfl rD lT) | exact (Op1.indexAddrZ rfl rfl rD lT)) rfl rfl sT kR kR kR xQP ?_
    refine WPD.take 6 rfl (by first | exact (Op1.indexAddr rfl rfl rD lT) | exact (Op1.indexAddrZ rfl rfl rD lT)) rfl rfl sT kR kR kR xQP ?_
    refine WPD.take 3 rfl (by first | exact (Op1.load rfl mM (by rfl)) | exact (Op1.loadI rfl rD lT) | exact (Op1.loadAll rfl mM (by rfl)) | exact (Op1.loadE rfl rD lT (by rfl)) | exact (Op1.loadEAgg rfl rD lT (by rfl))) rfl rfl sT kR kR kR xQP ?_
    refine WPD.take 7 rfl (by first | exact (Op1.load rfl mM (by rfl)) | exact (Op1.loadI rfl rD lT) | exact (Op1.loadAll rfl mM (by rfl)) | exact (Op1.loadE rfl rD lT (by rfl)) | exact (Op1.loadEAgg rfl rD lT (by rfl))) rfl rfl sT kR kR kR xQP ?_
    refine WPD.eff 8 kR rfl (OpE.call lO (fun w hw => h_eqSt _ (xs.getD k (Enc.d : E)) (ys.getD k (Enc.d : E)))) rfl rfl ?_
    rintro r _ ⟨T, ⟨rfl, rfl⟩, rfl⟩
    refine ⟨sT, ?_⟩
    refine WPD.eff 9 kR rfl (OpE.ofPure (by first | exact (Op1.notD rfl) | exact (Op1.not rfl))) rfl rfl ?_
    rintro _ _ ⟨rfl, rfl⟩
    refine ⟨sT, ?_⟩
    refine WPD.done kR ?_
    try refine go ⟨?_⟩
    refine WP.condD rfl (fun he => ?_) (fun he => ?_)
    · try refine go ⟨?_⟩
      refine PE.ret1 (T := []) (T' := []) rfl rV ?_ sT
      refine ⟨rfl, ?_⟩
      rw [decide_eq_false]
      rintro rfl
      exact absurd rfl he
    · try refine go ⟨?_⟩
      refine PE.again (k + 1) ?_ ?_ sE sT2
      · exact ⟨by omega, fun m hm' => by
          rcases Nat.lt_succ_iff_lt_or_eq.1 hm' with h' | rfl
          · exact hm m h'
          · exact Decidable.not_not.1 he⟩
      · omega
  · try refine go ⟨?_⟩
    refine PE.ret1 (T := []) (T' := []) rfl rV ?_ sT
    refine ⟨rfl, ?_⟩
    rw [decide_eq_true]
    exact List.ext_getElem hll (fun i h1 h2 => by
      have := hm i (by omega)
      rwa [List.getD_eq_getElem?_getD, List.getD_eq_getElem?_getD, List.getElem?_eq_getElem h1, List.getElem?_eq_getElem h2] at this)

theorem h_mrkS (w : World) (v : Value) (xs : List E) (k : Int) (hl : xs.length ≤ 1048576) (h0 : 0 ≤ k) (h1 : k ≤ 4194304) :
    Tri Try.prog 106 [v, .int .i64 k] w [Tok.own v xs] fun r T => r = .int .i64 (k + 2 * xs.length) ∧ T = [Tok.own v (emarks k xs.length)] := by
  refine Tri.intro (hf := Try.func106) (hb := rfl) (hn := Try.ntmps106) (Nat.le_of_ble_eq_true rfl) ?_
  try refine go ⟨?_⟩
  refine WP.loop (σ := Nat) (fun n => [(0, v), (1, .int .i64 (k + 2 * n)), (5, .int .i64 n)]) (fun n => [Tok.own v (emarks k n ++ xs.drop n)]) (fun n => n ≤ xs.length) (fun n => xs.length - n) 0 (Nat.zero_le _) ?_ sT ?_
  · simp only [Int.natCast_zero, Int.mul_zero, Int.add_zero]; exact sE
  intro n hn
  have hlen : (emarks k n ++ xs.drop n).length = xs.length := by rw [List.length_append, emarks_length, List.length_drop]; omega
  try refine go ⟨?_⟩
  refine WP.condD rfl (fun hc => ?_) (fun hc => ?_)
  · have hn' : n < xs.length := by omega
    try refine go ⟨?_⟩
    refine WPL.eff0 (OpE.storeF (r := 0) (⟨k + 2 * n, ((emarks k n ++ xs.drop n).getD n (Enc.d : E)).B⟩ : E) rfl rfl pM2 lT (by decide) oN rfl (by rfl)) rfl ?_
    rintro _ _ rfl
    have hes := emarks_set (k := k) hn'
    have hgt := set_getD (l := emarks k n ++ xs.drop n) (a := ⟨k + 2 * n, ((emarks k n ++ xs.drop n).getD n (Enc.d : E)).B⟩) (n := n) (by omega)
    have hss : ((emarks k n ++ xs.drop n).set n ⟨k + 2 * n, ((emarks k n ++ xs.drop n).getD n (Enc.d : E)).B⟩).set n ⟨k + 2 * n, k + 2 * n + 1⟩ = emarks k (n + 1) ++ xs.drop (n + 1) := by rw [List.set_set]; exact hes
    have hl3 : ((emarks k n ++ xs.drop n).set n ⟨k + 2 * n, ((emarks k n ++ xs.drop n).getD n (Enc.d : E)).B⟩).length = xs.length := by rw [List.length_set]; exact hlen
    generalize (emarks k n ++ xs.drop n).set n ⟨k + 2 * n, ((emarks k n ++ xs.drop n).getD n (Enc.d : E)).B⟩ = zs at *
    try refine go ⟨?_⟩
    refine WPL.eff0 (OpE.storeF (r := 1) (⟨(zs.getD n (Enc.d : E)).A, k + 2 * n + 1⟩ : E) rfl rfl pM2 lT (by decide) oN rfl (by rfl)) rfl ?_
    rintro _ _ rfl
    rw [hgt, hss]
    try refine go ⟨?_⟩
    have e : k + 2 * (n : Int) + 1 + 1 = k + 2 * ((n + 1 : Nat) : Int) := by omega
    rw [e]
    refine PE.again (n + 1) ?_ ?_ sE sT2
    · (try dsimp only); omega
    · (try dsimp only); omega
  · have hn1 : n = xs.length := by omega
    subst hn1
    have e : emarks k xs.length ++ xs.drop xs.length = emarks k xs.length := by rw [List.drop_length, List.append_nil]
    rw [e]
    try refine go ⟨?_⟩
    refine PE.ret1 (T := [Tok.own v xs]) (T' := [Tok.own v (emarks k xs.length)]) rfl rV ?_ sT
    exact ⟨rfl, rfl⟩

theorem h_heldS (w : World) (v : Value) (k : Int) (n : Nat) (h : RL w v (emarks k n)) (hl : n ≤ 1048576) (h0 : 0 ≤ k) (h1 : k ≤ 4194304) :
    Tri Try.prog 111 [v, .int .i64 k] w [] fun r T => r = .int .i64 (k + 2 * n) ∧ T = [] := by
  have hlen := emarks_length k n
  have hget := emarks_get k n
  generalize emarks k n = xs at *
  subst hlen
  refine Tri.intro (hf := Try.func111) (hb := rfl) (hn := Try.ntmps111) (Nat.le_of_ble_eq_true rfl) ?_
  try refine go ⟨?_⟩
  refine WP.loop (σ := Nat) (fun n => [(0, v), (1, .int .i64 (k + 2 * n)), (5, .int .i64 n)]) (fun n => []) (fun n => n ≤ xs.length) (fun n => xs.length - n) 0 (Nat.zero_le _) ?_ sT ?_
  · simp only [Int.natCast_zero, Int.mul_zero, Int.add_zero]; exact sE
  intro n hn
  try refine go ⟨?_⟩
  refine WP.condD rfl (fun hc => ?_) (fun hc => ?_)
  · have hg := hget n (by omega)
    have hgA : (xs.getD n (Enc.d : E)).A = k + 2 * n := by rw [hg]
    have hgB : (xs.getD n (Enc.d : E)).B = k + 2 * n + 1 := by rw [hg]
    try refine go ⟨?_⟩
    refine WP.condD rfl (fun h2 => ?_) (fun h2 => ?_)
    · exact absurd hgA h2
    try refine go ⟨?_⟩
    refine WP.condD rfl (fun h3 => ?_) (fun h3 => ?_)
    · exact absurd hgB h3
    try refine go ⟨?_⟩
    have e : k + 2 * (n : Int) + 1 + 1 = k + 2 * ((n + 1 : Nat) : Int) := by omega
    rw [e]
    refine PE.again (n + 1) ?_ ?_ sE sT2
    · (try dsimp only); omega
    · (try dsimp only); omega
  · have hn1 : n = xs.length := by omega
    subst hn1
    try refine go ⟨?_⟩
    refine PE.ret1 (T := []) (T' := []) rfl rV ?_ sT
    exact ⟨rfl, rfl⟩

end Go.Proofs.Ythlgbeakcobeoaa
/- The helpers of the exact laws over sets: whole sets. Conditions: those of each contract. -/
namespace Go.Proofs.Ythlgbeakcobeoaa
open Go
set_option linter.unusedVariables false set_option linter.unusedSimpArgs false attribute [local irreducible] Tok.own Tok.blk RL Rd eptr WP WPL PE WPD WPO Op1 OpE Tri Again Mid Exit.then Exit.inBlock bodyPost RP Code.wp wpList isOwn OneM One
set_option maxHeartbeats 8000000

theorem h_szSets (w : World) (vP vZ vS : Value) (ps zs : List Int) (ss : List E) (left : Int) (hP : RL w vP ps) (hZ : RL w vZ zs) (hS : RL w vS ss) (hlp : ps.length ≤ 9223372036854775807) (hlz : zs.length ≤ 9223372036854775807) (hls : ss.length ≤ 9223372036854775807) (h0 : 0 ≤ left) (h1 : left ≤ 1048576) :
    Tri Try.prog 46 [.agg #[vP, vZ, vS], .int .i64 left] w [] fun r T => T = [] ∧ ((ps.length + zs.length + ss.length ≤ left ∧ r = .int .i64 (left - ps.length - zs.length - ss.length)) ∨ r = .int .i64 (-1)) := by
  refine Tri.intro (hf := Try.func46) (hb := rfl) (hn := Try.ntmps46) (Nat.le_of_ble_eq_true rfl) ?_
  try refine go ⟨?_⟩
  refine WPL.eff (OpE.box rfl) rfl rfl ?_; rintro _ _ ⟨b, rfl, rfl⟩
  try refine go ⟨?_⟩
  refine WPL.eff (OpE.call lO (fun w hw => h_szI _ vP ps left (Rd.at rD hw) hlp h0 h1)) rfl rfl ?_
  rintro r _ ⟨T, ⟨rfl, hr⟩, rfl⟩
  rcases hr with ⟨h2, rfl⟩ | ⟨h2, rfl⟩
  · repeat' (first | refine go ⟨?_⟩ | (refine isCond ?_; refine WP.condD rfl (fun hc => ?_) (fun hc => ?_)) | (refine isGuard ?_; refine WPL.splitD rfl rfl (fun hc => ?_) (fun hc => ?_)))
    · omega
    · refine WPL.eff (OpE.call lO (fun w hw => h_szI _ vZ zs (left - ps.length) (Rd.at rD hw) hlz (by omega) (by omega))) rfl rfl ?_
      rintro r _ ⟨T, ⟨rfl, hr⟩, rfl⟩
      rcases hr with ⟨h3, rfl⟩ | ⟨h3, rfl⟩
      · repeat' (first | refine go ⟨?_⟩ | (refine isCond ?_; refine WP.condD rfl (fun hc => ?_) (fun hc => ?_)) | (refine isGuard ?_; refine WPL.splitD rfl rfl (fun hc => ?_) (fun hc => ?_)))
        · omega
        · refine WPL.eff (OpE.call lO (fun w hw => h_szSt _ vS ss (left - ps.length - zs.length) (Rd.at rD hw) hls (by omega) (by omega))) rfl rfl ?_
          rintro r _ ⟨T, ⟨rfl, hr⟩, rfl⟩
          rcases hr with ⟨h4, rfl⟩ | ⟨h4, rfl⟩
          · repeat' (first | refine go ⟨?_⟩ | (refine isCond ?_; refine WP.condD rfl (fun hc => ?_) (fun hc => ?_)) | (refine isGuard ?_; refine WPL.splitD rfl rfl (fun hc => ?_) (fun hc => ?_)))
            · omega
            · refine PE.ret1 (T := []) (T' := []) rfl rV ?_ sT
              exact ⟨rfl, .inl ⟨by omega, rfl⟩⟩
          · repeat' (first | refine go ⟨?_⟩ | (refine isCond ?_; refine WP.condD rfl (fun hc => ?_) (fun hc => ?_)) | (refine isGuard ?_; refine WPL.splitD rfl rfl (fun hc => ?_) (fun hc => ?_)))
            refine PE.ret1 (T := []) (T' := []) rfl rV ?_ sT
            exact ⟨rfl, .inr rfl⟩
      · repeat' (first | refine go ⟨?_⟩ | (refine isCond ?_; refine WP.condD rfl (fun hc => ?_) (fun hc => ?_)) | (refine isGuard ?_; refine WPL.splitD rfl rfl (fun hc => ?_) (fun hc => ?_)))
        refine PE.ret1 (T := []) (T' := []) rfl rV ?_ sT
        exact ⟨rfl, .inr rfl⟩
  · repeat' (first | refine go ⟨?_⟩ | (refine isCond ?_; refine WP.condD rfl (fun hc => ?_) (fun hc => ?_)) | (refine isGuard ?_; refine WPL.splitD rfl rfl (fun hc => ?_) (fun hc => ?_)))
    refine PE.ret1 (T := []) (T' := []) rfl rV ?_ sT
    exact ⟨rfl, .inr rfl⟩

theorem h_toSets (w : World) (vP vZ vS : Value) (ps zs : List Int) (ss : List E) (hP : RL w vP ps) (hZ : RL w vZ zs) (hS : RL w vS ss) (hlp : ps.length ≤ 1048576) (hlz : zs.length ≤ 1048576) (hls : ss.length ≤ 1048576) :
    Tri Try.prog 48 [.agg #[vP, vZ, vS]] w [] fun r T => ∃ uP uZ uS, r = .agg #[uP, uZ, uS] ∧ T = [Tok.own uP ps, Tok.own uZ zs, Tok.own uS ss] := by
  refine Tri.intro (hf := Try.func48) (hb := rfl) (hn := Try.ntmps48) (Nat.le_of_ble_eq_true rfl) ?_
  try refine go ⟨?_⟩
  refine WPL.eff (OpE.box rfl) rfl rfl ?_; rintro _ _ ⟨b, rfl, rfl⟩
  refine WPL.eff OpE.alloc rfl rfl ?_; rintro _ _ ⟨br, rfl, rfl⟩
  try refine go ⟨?_⟩
  refine WPL.eff OpE.alloc rfl rfl ?_; rintro _ _ ⟨bo, rfl, rfl⟩
  try refine go ⟨?_⟩
  refine WPL.eff (OpE.call lO (fun w hw => h_toI _ vP ps (Rd.at rD hw) hlp)) rfl rfl ?_
  rintro uP _ ⟨T, rfl, rfl⟩
  try refine go ⟨?_⟩
  refine WPL.eff (OpE.call lO (fun w hw => h_toI _ vZ zs (Rd.at rD hw) hlz)) rfl rfl ?_
  rintro uZ _ ⟨T, rfl, rfl⟩
  try refine go ⟨?_⟩
  refine WPL.eff (OpE.call lO (fun w hw => h_toSS _ vS ss (Rd.at rD hw) hls)) rfl rfl ?_
  rintro uS _ ⟨T, rfl, rfl⟩
  try refine go ⟨?_⟩
  refine PE.ret1 (T := []) (T' := [Tok.own uP ps, Tok.own uZ zs, Tok.own uS ss]) rfl rV ?_ sT
  exact ⟨uP, uZ, uS, rfl, rfl⟩

theorem h_eqSets (w : World) (aP aZ aS bP bZ bS : Value) (s t : SS) (h1 : RL w aP s.P) (h2 : RL w aZ s.Z) (h3 : RL w aS s.S) (h4 : RL w bP t.P) (h5 : RL w bZ t.Z) (h6 : RL w bS t.S)
    (l1 : s.P.length ≤ 1048576) (l2 : s.Z.length ≤ 1048576) (l3 : s.S.length ≤ 1048576) (l4 : t.P.length ≤ 1048576) (l5 : t.Z.length ≤ 1048576) (l6 : t.S.length ≤ 1048576) :
    Tri Try.prog 49 [.agg #[aP, aZ, aS], .agg #[bP, bZ, bS]] w [] fun r T => T = [] ∧ r = .bool (decide (s = t)) := by
  have ext : s = t ↔ s.P = t.P ∧ s.Z = t.Z ∧ s.S = t.S := by cases s; cases t; simp
  refine Tri.intro (hf := Try.func49) (hb := rfl) (hn := Try.ntmps49) (Nat.le_of_ble_eq_true rfl) ?_
  try refine go ⟨?_⟩
  refine WPL.eff (OpE.box rfl) rfl rfl ?_; rintro _ _ ⟨b, rfl, rfl⟩
  refine WPL.eff (OpE.box rfl) rfl rfl ?_; rintro _ _ ⟨b2, rfl, rfl⟩
  try refine go ⟨?_⟩
  refine WPL.eff (OpE.call lO (fun w hw => h_eqI _ aP bP s.P t.P (Rd.at rD hw) (Rd.at rD hw) (by omega) (by omega))) rfl rfl ?_
  rintro r _ ⟨T, ⟨rfl, rfl⟩, rfl⟩
  try refine go ⟨?_⟩
  refine WP.condD rfl (fun c1 => ?_) (fun c1 => ?_)
  · try refine go ⟨?_⟩
    refine PE.ret1 (T := []) (T' := []) rfl rV ?_ sT
    refine ⟨rfl, ?_⟩
    rw [decide_eq_false]; rw [ext]; exact fun h => absurd h.1 c1
  try refine go ⟨?_⟩
  refine WPL.eff (OpE.call lO (fun w hw => h_eqI _ aZ bZ s.Z t.Z (Rd.at rD hw) (Rd.at rD hw) (by omega) (by omega))) rfl rfl ?_
  rintro r _ ⟨T, ⟨rfl, rfl⟩, rfl⟩
  try refine go ⟨?_⟩
  refine WP.condD rfl (fun c2 => ?_) (fun c2 => ?_)
  · try refine go ⟨?_⟩
    refine PE.ret1 (T := []) (T' := []) rfl rV ?_ sT
    refine ⟨rfl, ?_⟩
    rw [decide_eq_false]; rw [ext]; exact fun h => absurd h.2.1 c2
  try refine go ⟨?_⟩
  refine WPL.eff (OpE.call lO (fun w hw => h_eqSS _ aS bS s.S t.S (Rd.at rD hw) (Rd.at rD hw) l3 l6)) rfl rfl ?_
  rintro r _ ⟨T, ⟨rfl, rfl⟩, rfl⟩
  try refine go ⟨?_⟩
  refine WP.condD rfl (fun c3 => ?_) (fun c3 => ?_)
  · try refine go ⟨?_⟩
    refine PE.ret1 (T := []) (T' := []) rfl rV ?_ sT
    refine ⟨rfl, ?_⟩
    rw [decide_eq_false]; rw [ext]; exact fun h => absurd h.2.2 c3
  try refine go ⟨?_⟩
  refine PE.ret1 (T := []) (T' := []) rfl rV ?_ sT
  refine ⟨rfl, ?_⟩
  rw [decide_eq_true]; rw [ext]
  exact ⟨Decidable.not_not.1 c1, Decidable.not_not.1 c2, Decidable.not_not.1 c3⟩

theorem h_markSets (w : World) (vP vZ vS : Value) (ps zs : List Int) (ss : List E) (k : Int) (hl : ps.length + zs.length + ss.length ≤ 1048576) (h0 : 0 ≤ k) (h1 : k ≤ 1000) :
    Tri Try.prog 58 [.agg #[vP, vZ, vS], .int .i64 k] w [Tok.own vP ps, Tok.own vZ zs, Tok.own vS ss] fun r T => r = .int .i64 (k + ps.length + zs.length + 2 * ss.length) ∧ T = [Tok.own vP (marks k ps.length), Tok.own vZ (marks (k + ps.length) zs.length), Tok.own vS (emarks (k + ps.length + zs.length) ss.length)] := by
  refine Tri.intro (hf := Try.func58) (hb := rfl) (hn := Try.ntmps58) (Nat.le_of_ble_eq_true rfl) ?_
  try refine go ⟨?_⟩
  refine WPL.eff (OpE.box rfl) rfl rfl ?_; rintro _ _ ⟨b, rfl, rfl⟩
  try refine go ⟨?_⟩
  refine WPL.eff (OpE.callT (T := [Tok.own vP ps]) lO pM2 (fun w hw => h_markI _ vP ps k (by omega) h0 (by omega))) rfl rfl ?_
  rintro r _ ⟨T, ⟨rfl, rfl⟩, rfl⟩
  try refine go ⟨?_⟩
  refine WPL.eff (OpE.callT (T := [Tok.own vZ zs]) lO pM2 (fun w hw => h_markI _ vZ zs (k + ps.length) (by omega) (by omega) (by omega))) rfl rfl ?_
  rintro r _ ⟨T, ⟨rfl, rfl⟩, rfl⟩
  try refine go ⟨?_⟩
  refine WPL.eff (OpE.callT (T := [Tok.own vS ss]) lO pM2 (fun w hw => h_mrkS _ vS ss (k + ps.length + zs.length) (by omega) (by omega) (by omega))) rfl rfl ?_
  rintro r _ ⟨T, ⟨rfl, rfl⟩, rfl⟩
  try refine go ⟨?_⟩
  refine PE.ret1 (T := [Tok.own vP ps, Tok.own vZ zs, Tok.own vS ss]) (T' := [Tok.own vP (marks k ps.length), Tok.own vZ (marks (k + ps.length) zs.length), Tok.own vS (emarks (k + ps.length + zs.length) ss.length)]) rfl rV ?_ sT2
  exact ⟨rfl, rfl⟩

theorem h_heldSets (w : World) (vP vZ vS : Value) (a b c : Nat) (k : Int) (hP : RL w vP (marks k a)) (hZ : RL w vZ (marks (k + a) b)) (hS : RL w vS (emarks (k + a + b) c)) (hl : a + b + c ≤ 1048576) (h0 : 0 ≤ k) (h1 : k ≤ 1000) :
    Tri Try.prog 66 [.agg #[vP, vZ, vS], .int .i64 k] w [] fun r T => r = .int .i64 (k + a + b + 2 * c) ∧ T = [] := by
  have hI := fun w' (h1 : RL w' vP (marks k a)) => h_heldI w' vP k _ h1 (by omega) (by omega) (by omega)
  have hJ := fun w' (h1 : RL w' vZ (marks (k + a) b)) => h_heldI w' vZ (k + a) _ h1 (by omega) (by omega) (by omega)
  have hK := fun w' (h1 : RL w' vS (emarks (k + a + b) c)) => h_heldS w' vS (k + a + b) _ h1 (by omega) (by omega) (by omega)
  refine Tri.intro (hf := Try.func66) (hb := rfl) (hn := Try.ntmps66) (Nat.le_of_ble_eq_true rfl) ?_
  try refine go ⟨?_⟩
  refine WPL.eff (OpE.box rfl) rfl rfl ?_; rintro _ _ ⟨b1, rfl, rfl⟩
  try refine go ⟨?_⟩
  refine WPL.eff (OpE.call lO (fun w hw => hI _ (Rd.at rD hw))) rfl rfl ?_
  rintro r _ ⟨T, ⟨rfl, rfl⟩, rfl⟩
  try refine go ⟨?_⟩
  rw [decide_eq_false (show ¬ (k + (a : Int) < 0) by omega)]
  try refine go ⟨?_⟩
  refine WPL.eff (OpE.call lO (fun w hw => hJ _ (Rd.at rD hw))) rfl rfl ?_
  rintro r _ ⟨T, ⟨rfl, rfl⟩, rfl⟩
  try refine go ⟨?_⟩
  rw [decide_eq_false (show ¬ (k + (a : Int) + (b : Int) < 0) by omega)]
  try refine go ⟨?_⟩
  refine WPL.eff (OpE.call lO (fun w hw => hK _ (Rd.at rD hw))) rfl rfl ?_
  rintro r _ ⟨T, ⟨rfl, rfl⟩, rfl⟩
  try refine go ⟨?_⟩
  rw [decide_eq_false (show ¬ (k + (a : Int) + (b : Int) + 2 * (c : Int) < 0) by omega)]
  try refine go ⟨?_⟩
  refine PE.ret1 (T := []) (T' := []) rfl rV ?_ sT
  exact ⟨rfl, rfl⟩
end Go.Proofs.Ythlgbeakcobeoaa
