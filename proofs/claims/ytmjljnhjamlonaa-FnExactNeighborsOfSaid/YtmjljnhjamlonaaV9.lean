/- Texts put together: HlpG, HlpH, HlpM, HlpN, HlpO. Conditions: those of each theorem. -/
import Derived.Test.YtmjljnhjamlonaaV2
set_option linter.unusedVariables false
set_option linter.unusedSimpArgs false
/- The helpers of the exact laws over graphs: sizes, copies, comparisons. Conditions: those of each contract. -/
namespace Go.Proofs.Ytmjljnhjamlonaa
open Go
set_option linter.unusedVariables false set_option linter.unusedSimpArgs false attribute [local irreducible] Tok.own Tok.blk RL Rd eptr WP WPL PE WPD WPO Op1 OpE Tri Again Mid Exit.then Exit.inBlock bodyPost RP Code.wp wpList isOwn OneM One
set_option maxHeartbeats 8000000

theorem h_szE (w : World) (v : Value) (xs : List E) (left : Int) (h : RL w v xs) (hl : xs.length ≤ 9223372036854775807) (h0 : 0 ≤ left) (h1 : left ≤ 1048576) :
    Tri Try.prog 85 [v, .int .i64 left] w [] fun r T => T = [] ∧ ((xs.length ≤ left ∧ r = .int .i64 (left - xs.length)) ∨ (left < xs.length ∧ r = .int .i64 (-1))) := by
  refine Tri.intro (hf := Try.func85) (hb := rfl) (hn := Try.ntmps85) (Nat.le_of_ble_eq_true rfl) ?_
  repeat' (first | refine go ⟨?_⟩ | (refine isCond ?_; refine WP.condD rfl (fun hc => ?_) (fun hc => ?_)) | (refine isGuard ?_; refine WPL.splitD rfl rfl (fun hc => ?_) (fun hc => ?_)))
  · refine PE.ret1 (T := []) (T' := []) rfl rV ?_ sT
    exact ⟨rfl, .inr ⟨by omega, rfl⟩⟩
  · refine PE.ret1 (T := []) (T' := []) rfl rV ?_ sT
    exact ⟨rfl, .inl ⟨by omega, rfl⟩⟩

theorem h_szG (w : World) (n : Int) (v : Value) (xs : List E) (left : Int) (h : RL w v xs) (hl : xs.length ≤ 9223372036854775807) (h0 : 0 ≤ left) (h1 : left ≤ 1048576) :
    Tri Try.prog 31 [.agg #[.int .i64 n, v], .int .i64 left] w [] fun r T => T = [] ∧ ((xs.length ≤ left ∧ r = .int .i64 (left - xs.length)) ∨ (left < xs.length ∧ r = .int .i64 (-1))) := by
  refine Tri.intro (hf := Try.func31) (hb := rfl) (hn := Try.ntmps31) (Nat.le_of_ble_eq_true rfl) ?_
  try refine go ⟨?_⟩
  refine WPL.eff (OpE.box rfl) rfl rfl ?_; rintro _ _ ⟨b, rfl, rfl⟩
  try refine go ⟨?_⟩
  refine WPL.eff (OpE.call lO (fun w hw => h_szE _ v xs left (Rd.at rD hw) hl h0 h1)) rfl rfl ?_
  rintro r _ ⟨T, ⟨rfl, hr⟩, rfl⟩
  rcases hr with ⟨h2, rfl⟩ | ⟨h2, rfl⟩
  · repeat' (first | refine go ⟨?_⟩ | (refine isCond ?_; refine WP.condD rfl (fun hc => ?_) (fun hc => ?_)) | (refine isGuard ?_; refine WPL.splitD rfl rfl (fun hc => ?_) (fun hc => ?_)))
    · omega
    · refine PE.ret1 (T := []) (T' := []) rfl rV ?_ sT
      exact ⟨rfl, .inl ⟨by omega, rfl⟩⟩
  · repeat' (first | refine go ⟨?_⟩ | (refine isCond ?_; refine WP.condD rfl (fun hc => ?_) (fun hc => ?_)) | (refine isGuard ?_; refine WPL.splitD rfl rfl (fun hc => ?_) (fun hc => ?_)))
    refine PE.ret1 (T := []) (T' := []) rfl rV ?_ sT
    exact ⟨rfl, .inr ⟨h2, rfl⟩⟩

theorem h_toE (w : World) (e : E) : Tri Try.prog 123 [ep e] w [] fun r T => T = [] ∧ r = ep e := by
  refine Tri.intro (hf := Try.func123) (hb := rfl) (hn := Try.ntmps123) (Nat.le_of_ble_eq_true rfl) ?_
  try refine go ⟨?_⟩
  refine WPL.eff (OpE.box rfl) rfl rfl ?_; rintro _ _ ⟨b, rfl, rfl⟩
  refine WPL.eff OpE.alloc rfl rfl ?_; rintro _ _ ⟨b2, rfl, rfl⟩
  try refine go ⟨?_⟩
  refine WPL.eff OpE.alloc rfl rfl ?_; rintro _ _ ⟨b3, rfl, rfl⟩
  try refine go ⟨?_⟩
  refine PE.ret1 (T := []) (T' := []) rfl rV ?_ sT
  exact ⟨rfl, rfl⟩

theorem h_eqE (w : World) (a b : E) : Tri Try.prog 125 [ep a, ep b] w [] fun r T => T = [] ∧ r = .bool (decide (a = b)) := by
  have ext : a = b ↔ a.A = b.A ∧ a.B = b.B := by cases a; cases b; simp
  refine Tri.intro (hf := Try.func125) (hb := rfl) (hn := Try.ntmps125) (Nat.le_of_ble_eq_true rfl) ?_
  try refine go ⟨?_⟩
  refine WPL.eff (OpE.box rfl) rfl rfl ?_; rintro _ _ ⟨b1, rfl, rfl⟩
  try refine go ⟨?_⟩
  refine WPL.eff (OpE.box rfl) rfl rfl ?_; rintro _ _ ⟨b2, rfl, rfl⟩
  repeat' (first | exact absurd rfl hc | refine go ⟨?_⟩ | (refine isCond ?_; refine WP.condD rfl (fun hc => ?_) (fun hc => ?_)) | (refine isGuard ?_; refine WPL.splitD rfl rfl (fun hc => ?_) (fun hc => ?_)))
  all_goals (refine PE.ret1 (T := []) (T' := []) rfl rV ?_ sT; refine ⟨rfl, ?_⟩)
  · rw [decide_eq_false]; rw [ext]; exact fun h => absurd h.1 ‹_›
  · rw [decide_eq_false]; rw [ext]; exact fun h => absurd h.2 ‹_›
  · rw [decide_eq_true]; rw [ext]; exact ⟨Decidable.not_not.1 ‹_›, Decidable.not_not.1 ‹_›⟩
end Go.Proofs.Ytmjljnhjamlonaa
/- The helpers of the exact laws over graphs: whole graphs. Conditions: those of each contract. -/
namespace Go.Proofs.Ytmjljnhjamlonaa
open Go
theorem fill_len {xs : List E} {k : Nat} : (xs.take k ++ List.replicate (xs.length - k) (Enc.d : E)).length = max xs.length (min k xs.length) := by simp; omega
theorem fill_set {xs : List E} {k : Nat} (hk : k < xs.length) : (xs.take k ++ List.replicate (xs.length - k) (Enc.d : E)).set k (xs.getD k (Enc.d : E)) = xs.take (k + 1) ++ List.replicate (xs.length - (k + 1)) (Enc.d : E) := by
  have h1 : xs.length - k = (xs.length - (k + 1)) + 1 := by omega
  rw [h1, List.replicate_succ, List.set_append_right _ _ (by simp; omega)]
  have h2 : k - (xs.take k).length = 0 := by rw [List.length_take]; omega
  rw [h2, List.set_cons_zero, take_succD (Enc.d : E) hk, List.append_assoc]; rfl
set_option linter.unusedVariables false set_option linter.unusedSimpArgs false attribute [local irreducible] Tok.own Tok.blk RL Rd eptr WP WPL PE WPD WPO Op1 OpE Tri Again Mid Exit.then Exit.inBlock bodyPost RP Code.wp wpList isOwn OneM One
set_option maxHeartbeats 8000000

theorem h_toES (w : World) (v : Value) (xs : List E) (h : RL w v xs) (hl : xs.length ≤ 1048576) :
    Tri Try.prog 87 [v] w [] fun r T => T = [Tok.own r xs] := by
  refine Tri.intro (hf := Try.func87) (hb := rfl) (hn := Try.ntmps87) (Nat.le_of_ble_eq_true rfl) ?_
  try refine go ⟨?_⟩
  refine WPL.eff (OpE.make (α := E) rfl rfl (by omega)) rfl rfl ?_; rintro u _ rfl
  try refine go ⟨?_⟩
  refine WP.loop (σ := Nat) (fun k => [(0, v), (3, u), (4, .int .i64 k)]) (fun k => [Tok.own u (xs.take k ++ List.replicate (xs.length - k) (Enc.d : E))]) (fun k => k ≤ xs.length) (fun k => xs.length - k) 0 (Nat.zero_le _) sE ?_ ?_
  · exact sT
  rintro k hk
  have hlen : (xs.take k ++ List.replicate (xs.length - k) (Enc.d : E)).length = xs.length := by simp; omega
  try refine go ⟨?_⟩
  refine WP.condD rfl (fun hc => ?_) (fun hc => ?_)
  · have hk' : k < xs.length := by omega
    try refine go ⟨?_⟩
    refine WPL.eff (OpE.call lO (fun w hw => h_toE _ (xs.getD k (Enc.d : E)))) rfl rfl ?_
    rintro r _ ⟨T, ⟨rfl, rfl⟩, rfl⟩
    try refine go ⟨?_⟩
    refine WPL.eff0 (OpE.storeS (xs.getD k (Enc.d : E)) rfl rfl pM2 lT rfl) rfl ?_
    rintro _ _ rfl
    rw [fill_set hk']
    try refine go ⟨?_⟩
    refine PE.again (k + 1) ?_ ?_ sE sT2
    · (try dsimp only); omega
    · (try dsimp only); omega
  · have hk1 : k = xs.length := by omega
    subst hk1
    try refine go ⟨?_⟩
    refine PE.ret1 (T := []) (T' := [Tok.own u (xs.take xs.length ++ List.replicate (xs.length - xs.length) (Enc.d : E))]) rfl rV ?_ sT
    simp

theorem h_toG (w : World) (n : Int) (v : Value) (xs : List E) (h : RL w v xs) (hl : xs.length ≤ 1048576) :
    Tri Try.prog 33 [.agg #[.int .i64 n, v]] w [] fun r T => ∃ u, r = .agg #[.int .i64 n, u] ∧ T = [Tok.own u xs] := by
  refine Tri.intro (hf := Try.func33) (hb := rfl) (hn := Try.ntmps33) (Nat.le_of_ble_eq_true rfl) ?_
  try refine go ⟨?_⟩
  refine WPL.eff (OpE.box rfl) rfl rfl ?_; rintro _ _ ⟨b, rfl, rfl⟩
  refine WPL.eff OpE.alloc rfl rfl ?_; rintro _ _ ⟨br, rfl, rfl⟩
  try refine go ⟨?_⟩
  refine WPL.eff OpE.alloc rfl rfl ?_; rintro _ _ ⟨bo, rfl, rfl⟩
  try refine go ⟨?_⟩
  refine WPL.eff (OpE.call lO (fun w hw => h_toES _ v xs (Rd.at rD hw) hl)) rfl rfl ?_
  rintro u _ ⟨T, rfl, rfl⟩
  try refine go ⟨?_⟩
  refine PE.ret1 (T := []) (T' := [Tok.own u xs]) rfl rV ?_ sT
  exact ⟨u, rfl, rfl⟩

theorem h_eqES (w : World) (v u : Value) (xs ys : List E) (h : RL w v xs) (h' : RL w u ys) (hl : xs.length ≤ 1048576) (hl' : ys.length ≤ 1048576) :
    Tri Try.prog 89 [v, u] w [] fun r T => T = [] ∧ r = .bool (decide (xs = ys)) := by
  refine Tri.intro (hf := Try.func89) (hb := rfl) (hn := Try.ntmps89) (Nat.le_of_ble_eq_true rfl) ?_
  repeat' (first | refine go ⟨?_⟩ | (refine isCond ?_; refine WP.condD rfl (fun hc => ?_) (fun hc => ?_)) | (refine isGuard ?_; refine WPL.splitD rfl rfl (fun hc => ?_) (fun hc => ?_)))
  · refine PE.ret1 (T := []) (T' := []) rfl rV ?_ sT
    refine ⟨rfl, ?_⟩
    rw [decide_eq_false]
    rintro rfl
    exact absurd rfl ‹_›
  have hll : xs.length = ys.length := by omega
  refine WP.loop (σ := Nat) (fun k => [(0, v), (1, u), (5, .int .i64 k)]) (fun _ => []) (fun k => k ≤ xs.length ∧ ∀ m, m < k → xs.getD m (Enc.d : E) = ys.getD m (Enc.d : E)) (fun k => xs.length - k) 0 ⟨Nat.zero_le _, by omega⟩ sE sT ?_
  rintro k ⟨hk, hm⟩
  try refine go ⟨?_⟩
  refine WP.condD rfl (fun hc => ?_) (fun hc => ?_)
  · have hk' : k < xs.length := by omega
    try refine go ⟨?_⟩
    refine WP.draw [] mixed ?_
    refine WPD.take 0 rfl (Op1.move rfl) rfl rfl sT kR kR kR xQP ?_
    refine WPD.take 1 rfl (Op1.move rfl) rfl rfl sT kR kR kR xQP ?_
    refine WPD.take 4 rfl (Op1.move rfl) rfl rfl sT kR kR kR xQP ?_
    refine WPD.take 5 rfl (Op1.move rfl) rfl rfl sT kR kR kR xQP ?_
    refine WPD.take 2 rfl (by first | exact (Op1.indexAddr rfl rfl rD lT) | exact (Op1.indexAddrZ rfl rfl rD lT)) rfl rfl sT kR kR kR xQP ?_
    refine WPD.take 6 rfl (by first | exact (Op1.indexAddr rfl rfl rD lT) | exact (Op1.indexAddrZ rfl rfl rD lT)) rfl rfl sT kR kR kR xQP ?_
    refine WPD.take 3 rfl (by first | exact (Op1.load rfl mM (by rfl)) | exact (Op1.loadI rfl rD lT) | exact (Op1.loadAll rfl mM (by rfl)) | exact (Op1.loadE rfl rD lT (by rfl)) | exact (Op1.loadEAgg rfl rD lT (by rfl))) rfl rfl sT kR kR kR xQP ?_
    refine WPD.take 7 rfl (by first | exact (Op1.load rfl mM (by rfl)) | exact (Op1.loadI rfl rD lT) | exact (Op1.loadAll rfl mM (by rfl)) | exact (Op1.loadE rfl rD lT (by rfl)) | exact (Op1.loadEAgg rfl rD lT (by rfl))) rfl rfl sT kR kR kR xQP ?_
    refine WPD.eff 8 kR rfl (OpE.call lO (fun w hw => h_eqE _ (xs.getD k (Enc.d : E)) (ys.getD k (Enc.d : E)))) rfl rfl ?_
    rintro r _ ⟨T, ⟨rfl, rfl⟩, rfl⟩
    refine ⟨sT, ?_⟩
    refine WPD.eff 9 kR rfl (OpE.ofPure (by first | exact (Op1.notD rfl) | exact (Op1.not rfl))) rfl rfl ?_
    rintro _ _ ⟨rfl, rfl⟩
    refine ⟨sT, ?_⟩
    refine WPD.done kR ?_
    try refine go ⟨?_⟩
    refine WP.condD rfl (fun he => ?_) (fun he => ?_)
    · try refine go ⟨?_⟩
      refine PE.ret1 (T := []) (T' := []) rfl rV ?_ sT
      refine ⟨rfl, ?_⟩
      rw [decide_eq_false]
      rintro rfl
      exact absurd rfl he
    · try refine go ⟨?_⟩
      refine PE.again (k + 1) ?_ ?_ sE sT2
      · exact ⟨by omega, fun m hm' => by
          rcases Nat.lt_succ_iff_lt_or_eq.1 hm' with h' | rfl
          · exact hm m h'
          · exact Decidable.not_not.1 he⟩
      · omega
  · try refine go ⟨?_⟩
    refine PE.ret1 (T := []) (T' := []) rfl rV ?_ sT
    refine ⟨rfl, ?_⟩
    rw [decide_eq_true]
    exact List.ext_getElem hll (fun i h1 h2 => by
      have := hm i (by omega)
      rwa [List.getD_eq_getElem?_getD, List.getD_eq_getElem?_getD, List.getElem?_eq_getElem h1, List.getElem?_eq_getElem h2] at this)

theorem h_eqG (w : World) (n m : Int) (v u : Value) (xs ys : List E) (h : RL w v xs) (h' : RL w u ys) (hl : xs.length ≤ 1048576) (hl' : ys.length ≤ 1048576) :
    Tri Try.prog 35 [.agg #[.int .i64 n, v], .agg #[.int .i64 m, u]] w [] fun r T => T = [] ∧ r = .bool (decide (n = m ∧ xs = ys)) := by
  refine Tri.intro (hf := Try.func35) (hb := rfl) (hn := Try.ntmps35) (Nat.le_of_ble_eq_true rfl) ?_
  try refine go ⟨?_⟩
  refine WPL.eff (OpE.box rfl) rfl rfl ?_; rintro _ _ ⟨b, rfl, rfl⟩
  refine WPL.eff (OpE.box rfl) rfl rfl ?_; rintro _ _ ⟨b2, rfl, rfl⟩
  try refine go ⟨?_⟩
  refine WP.condD rfl (fun hc => ?_) (fun hc => ?_)
  · try refine go ⟨?_⟩
    refine PE.ret1 (T := []) (T' := []) rfl rV ?_ sT
    refine ⟨rfl, ?_⟩
    rw [decide_eq_false]
    exact fun h => absurd h.1 hc
  · try refine go ⟨?_⟩
    refine WPL.eff (OpE.call lO (fun w hw => h_eqES _ v u xs ys (Rd.at rD hw) (Rd.at rD hw) hl hl')) rfl rfl ?_
    rintro r _ ⟨T, ⟨rfl, rfl⟩, rfl⟩
    try refine go ⟨?_⟩
    refine WP.condD rfl (fun hc2 => ?_) (fun hc2 => ?_)
    · try refine go ⟨?_⟩
      refine PE.ret1 (T := []) (T' := []) rfl rV ?_ sT
      refine ⟨rfl, ?_⟩
      rw [decide_eq_false]
      exact fun h => absurd h.2 hc2
    · try refine go ⟨?_⟩
      refine PE.ret1 (T := []) (T' := []) rfl rV ?_ sT
      refine ⟨rfl, ?_⟩
      rw [decide_eq_true]
      exact ⟨Decidable.not_not.1 hc, Decidable.not_not.1 hc2⟩
end Go.Proofs.Ytmjljnhjamlonaa
/- The helpers of the exact laws: marks. Conditions: those of each contract. -/
namespace Go.Proofs.Ytmjljnhjamlonaa
open Go
set_option linter.unusedVariables false set_option linter.unusedSimpArgs false attribute [local irreducible] Tok.own Tok.blk RL Rd eptr WP WPL PE WPD WPO Op1 OpE Tri Again Mid Exit.then Exit.inBlock bodyPost RP Code.wp wpList isOwn OneM One
set_option maxHeartbeats 8000000

theorem h_eqI (w : World) (v u : Value) (xs ys : List Int) (h : RL w v xs) (h' : RL w u ys) (hl : xs.length ≤ 1099511627776) (hl' : ys.length ≤ 1099511627776) :
    Tri Try.prog 70 [v, u] w [] fun r T => T = [] ∧ r = .bool (decide (xs = ys)) := by
  refine Tri.intro (hf := Try.func70) (hb := rfl) (hn := Try.ntmps70) (Nat.le_of_ble_eq_true rfl) ?_
  repeat' (first | refine go ⟨?_⟩ | (refine isCond ?_; refine WP.condD rfl (fun hc => ?_) (fun hc => ?_)) | (refine isGuard ?_; refine WPL.splitD rfl rfl (fun hc => ?_) (fun hc => ?_)))
  · refine PE.ret1 (T := []) (T' := []) rfl rV ?_ sT
    refine ⟨rfl, ?_⟩
    rw [decide_eq_false]
    rintro rfl
    exact absurd rfl ‹_›
  have hll : xs.length = ys.length := by omega
  refine WP.loop (σ := Nat) (fun k => [(0, v), (1, u), (5, .int .i64 k)]) (fun _ => []) (fun k => k ≤ xs.length ∧ ∀ m, m < k → xs.getD m 0 = ys.getD m 0) (fun k => xs.length - k) 0 ⟨Nat.zero_le _, by omega⟩ sE sT ?_
  rintro k ⟨hk, hm⟩
  repeat' (first | refine go ⟨?_⟩ | (refine isCond ?_; refine WP.condD rfl (fun hc => ?_) (fun hc => ?_)) | (refine isGuard ?_; refine WPL.splitD rfl rfl (fun hc => ?_) (fun hc => ?_)))
  · have hk' : k < xs.length := by omega
    refine WP.draw [] mixed ?_
    refine WPD.take 0 rfl (Op1.move rfl) rfl rfl sT kR kR kR xQP ?_
    refine WPD.take 1 rfl (Op1.move rfl) rfl rfl sT kR kR kR xQP ?_
    refine WPD.take 4 rfl (Op1.move rfl) rfl rfl sT kR kR kR xQP ?_
    refine WPD.take 5 rfl (Op1.move rfl) rfl rfl sT kR kR kR xQP ?_
    refine WPD.take 2 rfl (by first | exact (Op1.indexAddr rfl rfl rD lT) | exact (Op1.indexAddrZ rfl rfl rD lT)) rfl rfl sT kR kR kR xQP ?_
    refine WPD.take 6 rfl (by first | exact (Op1.indexAddr rfl rfl rD lT) | exact (Op1.indexAddrZ rfl rfl rD lT)) rfl rfl sT kR kR kR xQP ?_
    refine WPD.take 3 rfl (by first | exact (Op1.load rfl mM (by rfl)) | exact (Op1.loadI rfl rD lT) | exact (Op1.loadAll rfl mM (by rfl)) | exact (Op1.loadE rfl rD lT (by rfl)) | exact (Op1.loadEAgg rfl rD lT (by rfl))) rfl rfl sT kR kR kR xQP ?_
    refine WPD.take 7 rfl (by first | exact (Op1.load rfl mM (by rfl)) | exact (Op1.loadI rfl rD lT) | exact (Op1.loadAll rfl mM (by rfl)) | exact (Op1.loadE rfl rD lT (by rfl)) | exact (Op1.loadEAgg rfl rD lT (by rfl))) rfl rfl sT kR kR kR xQP ?_
    refine WPD.take 8 rfl (by first | exact (Op1.neI rfl rfl) | exact (Op1.neB rfl rfl) | exact (Op1.neE rfl rfl)) rfl rfl sT kR kR kR xQP ?_
    refine WPD.done kR ?_
    repeat' (first | refine go ⟨?_⟩ | (refine isCond ?_; refine WP.condD rfl (fun hc => ?_) (fun hc => ?_)) | (refine isGuard ?_; refine WPL.splitD rfl rfl (fun hc => ?_) (fun hc => ?_)))
    · refine PE.ret1 (T := []) (T' := []) rfl rV ?_ sT
      refine ⟨rfl, ?_⟩
      rw [decide_eq_false]
      rintro rfl
      exact absurd rfl ‹_›
    · refine PE.again (k + 1) ?_ ?_ sE sT
      · exact ⟨by omega, fun m hm' => by
          rcases Nat.lt_succ_iff_lt_or_eq.1 hm' with h' | rfl
          · exact hm m h'
          · exact Decidable.not_not.1 ‹_›⟩
      · omega
  · refine PE.ret1 (T := []) (T' := []) rfl rV ?_ sT
    refine ⟨rfl, ?_⟩
    rw [decide_eq_true]
    exact List.ext_getElem hll (fun i h1 h2 => by
      have := hm i (by omega)
      rwa [List.getD_eq_getElem?_getD, List.getD_eq_getElem?_getD, List.getElem?_eq_getElem h1, List.getElem?_eq_getElem h2] at this)

def marks (k : Int) : Nat → List Int
  | 0 => []
  | n + 1 => marks k n ++ [k + n]
theorem marks_length (k : Int) : ∀ n, (marks k n).length = n
  | 0 => rfl
  | n + 1 => by simp [marks, marks_length k n]
theorem marks_get (k : Int) : ∀ (n i : Nat), i < n → (marks k n).getD i 0 = k + i
  | 0, i, h => by omega
  | n + 1, i, h => by
    have hl := marks_length k n
    rw [marks, List.getD_eq_getElem?_getD]
    by_cases hi : i < n
    · rw [List.getElem?_append_left (by omega), ← List.getD_eq_getElem?_getD]; exact marks_get k n i hi
    · have : i = n := by omega
      subst this
      rw [List.getElem?_append_right (by omega), hl, Nat.sub_self]; rfl
theorem marks_set {k : Int} {n : Nat} {xs : List Int} (h : n < xs.length) : (marks k n ++ xs.drop n).set n (k + n) = marks k (n + 1) ++ xs.drop (n + 1) := by
  rw [List.drop_eq_getElem_cons h, List.set_append_right _ _ (by rw [marks_length]; exact Nat.le_refl _), marks_length, Nat.sub_self, List.set_cons_zero, marks, List.append_assoc]; rfl

theorem h_markI (w : World) (v : Value) (xs : List Int) (k : Int) (hl : xs.length ≤ 1048576) (h0 : 0 ≤ k) (h1 : k ≤ 1099511627776) :
    Tri Try.prog 72 [v, .int .i64 k] w [Tok.own v xs] fun r T => r = .int .i64 (k + xs.length) ∧ T = [Tok.own v (marks k xs.length)] := by
  refine Tri.intro (hf := Try.func72) (hb := rfl) (hn := Try.ntmps72) (Nat.le_of_ble_eq_true rfl) ?_
  try refine go ⟨?_⟩
  refine WP.loop (σ := Nat) (fun n => [(0, v), (1, .int .i64 (k + n)), (5, .int .i64 n)]) (fun n => [Tok.own v (marks k n ++ xs.drop n)]) (fun n => n ≤ xs.length) (fun n => xs.length - n) 0 (Nat.zero_le _) ?_ sT ?_
  · simp only [Int.natCast_zero, Int.add_zero]; exact sE
  intro n hn
  have hlen : (marks k n ++ xs.drop n).length = xs.length := by rw [List.length_append, marks_length, List.length_drop]; omega
  repeat' (first | refine go ⟨?_⟩ | (refine isCond ?_; refine WP.condD rfl (fun hc => ?_) (fun hc => ?_)) | (refine isGuard ?_; refine WPL.splitD rfl rfl (fun hc => ?_) (fun hc => ?_)))
  · have hn' : n < xs.length := by omega
    refine WPL.eff0 (OpE.store1 (k + n) rfl rfl pM (by omega) rfl) rfl ?_; rintro _ _ rfl
    rw [marks_set hn']
    repeat' (first | refine go ⟨?_⟩ | (refine isCond ?_; refine WP.condD rfl (fun hc => ?_) (fun hc => ?_)) | (refine isGuard ?_; refine WPL.splitD rfl rfl (fun hc => ?_) (fun hc => ?_)))
    have e : k + (n : Int) + 1 = k + ((n + 1 : Nat) : Int) := by omega
    rw [e]
    refine PE.again (n + 1) ?_ ?_ sE sT
    · omega
    · omega
  · have hn1 : n = xs.length := by omega
    subst hn1
    have e : marks k xs.length ++ xs.drop xs.length = marks k xs.length := by rw [List.drop_length, List.append_nil]
    rw [e]
    refine PE.ret1 (T := [Tok.own v xs]) (T' := [Tok.own v (marks k xs.length)]) rfl rV ?_ sT
    exact ⟨rfl, rfl⟩

theorem h_heldI (w : World) (v : Value) (k : Int) (n : Nat) (h : RL w v (marks k n)) (hl : n ≤ 1048576) (h0 : 0 ≤ k) (h1 : k ≤ 1099511627776) :
    Tri Try.prog 73 [v, .int .i64 k] w [] fun r T => r = .int .i64 (k + n) ∧ T = [] := by
  have hlen := marks_length k n
  have hget := marks_get k n
  generalize marks k n = xs at *
  subst hlen
  refine Tri.intro (hf := Try.func73) (hb := rfl) (hn := Try.ntmps73) (Nat.le_of_ble_eq_true rfl) ?_
  try refine go ⟨?_⟩
  refine WP.loop (σ := Nat) (fun n => [(0, v), (1, .int .i64 (k + n)), (5, .int .i64 n)]) (fun n => []) (fun n => n ≤ xs.length) (fun n => xs.length - n) 0 (Nat.zero_le _) ?_ sT ?_
  · simp only [Int.natCast_zero, Int.add_zero]; exact sE
  intro n hn
  repeat' (first | refine go ⟨?_⟩ | (refine isCond ?_; refine WP.condD rfl (fun hc => ?_) (fun hc => ?_)) | (refine isGuard ?_; refine WPL.splitD rfl rfl (fun hc => ?_) (fun hc => ?_)))
  · exact absurd (hget n (by omega)) hc
  · have e : k + (n : Int) + 1 = k + ((n + 1 : Nat) : Int) := by omega
    rw [e]
    refine PE.again (n + 1) ?_ ?_ sE sT
    · omega
    · omega
  · have hn1 : n = xs.length := by omega
    subst hn1
    refine PE.ret1 (T := []) (T' := []) rfl rV ?_ sT
    exact ⟨rfl, rfl⟩

theorem h_markE (w : World) (v : Value) (xs : List E) (k : Int) (hl : xs.length ≤ 1048576) (h0 : 0 ≤ k) (h1 : k ≤ 1048576) :
    Tri Try.prog 113 [v, .int .i64 k] w [Tok.own v xs] fun r T => ∃ ys : List E, r = .int .i64 (k + 2 * xs.length) ∧ T = [Tok.own v ys] := by
  refine Tri.intro (hf := Try.func113) (hb := rfl) (hn := Try.ntmps113) (Nat.le_of_ble_eq_true rfl) ?_
  try refine go ⟨?_⟩
  refine WP.loop (σ := Nat × List E) (fun s => [(0, v), (1, .int .i64 (k + 2 * s.1)), (5, .int .i64 s.1)]) (fun s => [Tok.own v s.2]) (fun s => s.1 ≤ xs.length ∧ s.2.length = xs.length) (fun s => xs.length - s.1) (0, xs) ⟨Nat.zero_le _, rfl⟩ ?_ sT ?_
  · dsimp only; simp only [Int.natCast_zero, Int.mul_zero, Int.add_zero]; exact sE
  rintro ⟨n, ys⟩ ⟨hn, hlen⟩
  dsimp only at hn hlen ⊢
  try refine go ⟨?_⟩
  refine WP.condD rfl (fun hc => ?_) (fun hc => ?_)
  · have hn' : n < ys.length := by omega
    try refine go ⟨?_⟩
    refine WPL.eff0 (OpE.storeF (r := 0) (⟨k + 2 * n, (ys.getD n (Enc.d : E)).B⟩ : E) rfl rfl pM2 lT (by decide) oN rfl (by rfl)) rfl ?_
    rintro _ _ rfl
    have hl3 : (ys.set n ⟨k + 2 * n, (ys.getD n (Enc.d : E)).B⟩).length = ys.length := List.length_set
    generalize ys.set n ⟨k + 2 * n, (ys.getD n (Enc.d : E)).B⟩ = zs at *
    try refine go ⟨?_⟩
    refine WPL.eff0 (OpE.storeF (r := 1) (⟨(zs.getD n (Enc.d : E)).A, k + 2 * n + 1⟩ : E) rfl rfl pM2 lT (by decide) oN rfl (by rfl)) rfl ?_
    rintro _ _ rfl
    have hl4 : (zs.set n ⟨(zs.getD n (Enc.d : E)).A, k + 2 * n + 1⟩).length = zs.length := List.length_set
    generalize zs.set n ⟨(zs.getD n (Enc.d : E)).A, k + 2 * n + 1⟩ = us at *
    try refine go ⟨?_⟩
    have e : k + 2 * (n : Int) + 1 + 1 = k + 2 * ((n + 1 : Nat) : Int) := by omega
    rw [e]
    refine PE.again (n + 1, us) ?_ ?_ sE sT2
    · dsimp only; omega
    · dsimp only; omega
  · have hn1 : n = xs.length := by omega
    subst hn1
    try refine go ⟨?_⟩
    refine PE.ret1 (T := [Tok.own v xs]) (T' := [Tok.own v ys]) rfl rV ?_ sT
    exact ⟨ys, rfl, rfl⟩

theorem h_markG (w : World) (n : Int) (v : Value) (xs : List E) (k : Int) (hl : xs.length ≤ 1048576) (h0 : 0 ≤ k) (h1 : k ≤ 1048576) :
    Tri Try.prog 71 [.agg #[.int .i64 n, v], .int .i64 k] w [Tok.own v xs] fun r T => ∃ ys : List E, r = .int .i64 (k + 2 * xs.length) ∧ T = [Tok.own v ys] := by
  refine Tri.intro (hf := Try.func71) (hb := rfl) (hn := Try.ntmps71) (Nat.le_of_ble_eq_true rfl) ?_
  try refine go ⟨?_⟩
  refine WPL.eff (OpE.box rfl) rfl rfl ?_; rintro _ _ ⟨b, rfl, rfl⟩
  try refine go ⟨?_⟩
  refine WPL.eff (OpE.callT (T := [Tok.own v xs]) lO pM (fun w hw => h_markE _ v xs k hl h0 h1)) rfl rfl ?_
  rintro r _ ⟨T, ⟨ys, rfl, rfl⟩, rfl⟩
  try refine go ⟨?_⟩
  refine PE.ret1 (T := [Tok.own v xs]) (T' := [Tok.own v ys]) rfl rV ?_ sT
  exact ⟨ys, rfl, rfl⟩
end Go.Proofs.Ytmjljnhjamlonaa
/- The helpers of the exact laws: marks on lists of edges. Conditions: those of each contract. -/
namespace Go.Proofs.Ytmjljnhjamlonaa
open Go
def emarks (k : Int) : Nat → List E
  | 0 => []
  | n + 1 => emarks k n ++ [⟨k + 2 * n, k + 2 * n + 1⟩]
theorem emarks_length (k : Int) : ∀ n, (emarks k n).length = n
  | 0 => rfl
  | n + 1 => by simp [emarks, emarks_length k n]
theorem emarks_get (k : Int) : ∀ (n i : Nat), i < n → (emarks k n).getD i (Enc.d : E) = ⟨k + 2 * i, k + 2 * i + 1⟩
  | 0, i, h => by omega
  | n + 1, i, h => by
    have hl := emarks_length k n
    rw [emarks, List.getD_eq_getElem?_getD]
    by_cases hi : i < n
    · rw [List.getElem?_append_left (by omega), ← List.getD_eq_getElem?_getD]; exact emarks_get k n i hi
    · have : i = n := by omega
      subst this
      rw [List.getElem?_append_right (by omega), hl, Nat.sub_self]; rfl
theorem emarks_set {k : Int} {n : Nat} {xs : List E} (h : n < xs.length) : (emarks k n ++ xs.drop n).set n ⟨k + 2 * n, k + 2 * n + 1⟩ = emarks k (n + 1) ++ xs.drop (n + 1) := by
  rw [List.drop_eq_getElem_cons h, List.set_append_right _ _ (by rw [emarks_length]; exact Nat.le_refl _), emarks_length, Nat.sub_self, List.set_cons_zero, emarks, List.append_assoc]; rfl
theorem set_getD {l : List E} {n : Nat} {a : E} (h : n < l.length) : (l.set n a).getD n (Enc.d : E) = a := by
  rw [List.getD_eq_getElem?_getD, List.getElem?_set_self h]; rfl
set_option linter.unusedVariables false set_option linter.unusedSimpArgs false attribute [local irreducible] Tok.own Tok.blk RL Rd eptr WP WPL PE WPD WPO Op1 OpE Tri Again Mid Exit.then Exit.inBlock bodyPost RP Code.wp wpList isOwn OneM One
set_option maxHeartbeats 8000000

theorem h_mrkE (w : World) (v : Value) (xs : List E) (k : Int) (hl : xs.length ≤ 1048576) (h0 : 0 ≤ k) (h1 : k ≤ 1048576) :
    Tri Try.prog 113 [v, .int .i64 k] w [Tok.own v xs] fun r T => r = .int .i64 (k + 2 * xs.length) ∧ T = [Tok.own v (emarks k xs.length)] := by
  refine Tri.intro (hf := Try.func113) (hb := rfl) (hn := Try.ntmps113) (Nat.le_of_ble_eq_true rfl) ?_
  try refine go ⟨?_⟩
  refine WP.loop (σ := Nat) (fun n => [(0, v), (1, .int .i64 (k + 2 * n)), (5, .int .i64 n)]) (fun n => [Tok.own v (emarks k n ++ xs.drop n)]) (fun n => n ≤ xs.length) (fun n => xs.length - n) 0 (Nat.zero_le _) ?_ sT ?_
  · simp only [Int.natCast_zero, Int.mul_zero, Int.add_zero]; exact sE
  intro n hn
  have hlen : (emarks k n ++ xs.drop n).length = xs.length := by rw [List.length_append, emarks_length, List.length_drop]; omega
  try refine go ⟨?_⟩
  refine WP.condD rfl (fun hc => ?_) (fun hc => ?_)
  · have hn' : n < xs.length := by omega
    try refine go ⟨?_⟩
    refine WPL.eff0 (OpE.storeF (r := 0) (⟨k + 2 * n, ((emarks k n ++ xs.drop n).getD n (Enc.d : E)).B⟩ : E) rfl rfl pM2 lT (by decide) oN rfl (by rfl)) rfl ?_
    rintro _ _ rfl
    have hes := emarks_set (k := k) hn'
    have hgt := set_getD (l := emarks k n ++ xs.drop n) (a := ⟨k + 2 * n, ((emarks k n ++ xs.drop n).getD n (Enc.d : E)).B⟩) (n := n) (by omega)
    have hss : ((emarks k n ++ xs.drop n).set n ⟨k + 2 * n, ((emarks k n ++ xs.drop n).getD n (Enc.d : E)).B⟩).set n ⟨k + 2 * n, k + 2 * n + 1⟩ = emarks k (n + 1) ++ xs.drop (n + 1) := by rw [List.set_set]; exact hes
    have hl3 : ((emarks k n ++ xs.drop n).set n ⟨k + 2 * n, ((emarks k n ++ xs.drop n).getD n (Enc.d : E)).B⟩).length = xs.length := by rw [List.length_set]; exact hlen
    generalize (emarks k n ++ xs.drop n).set n ⟨k + 2 * n, ((emarks k n ++ xs.drop n).getD n (Enc.d : E)).B⟩ = zs at *
    try refine go ⟨?_⟩
    refine WPL.eff0 (OpE.storeF (r := 1) (⟨(zs.getD n (Enc.d : E)).A, k + 2 * n + 1⟩ : E) rfl rfl pM2 lT (by decide) oN rfl (by rfl)) rfl ?_
    rintro _ _ rfl
    rw [hgt, hss]
    try refine go ⟨?_⟩
    have e : k + 2 * (n : Int) + 1 + 1 = k + 2 * ((n + 1 : Nat) : Int) := by omega
    rw [e]
    refine PE.again (n + 1) ?_ ?_ sE sT2
    · (try dsimp only); omega
    · (try dsimp only); omega
  · have hn1 : n = xs.length := by omega
    subst hn1
    have e : emarks k xs.length ++ xs.drop xs.length = emarks k xs.length := by rw [List.drop_length, List.append_nil]
    rw [e]
    try refine go ⟨?_⟩
    refine PE.ret1 (T := [Tok.own v xs]) (T' := [Tok.own v (emarks k xs.length)]) rfl rV ?_ sT
    exact ⟨rfl, rfl⟩

end Go.Proofs.Ytmjljnhjamlonaa
