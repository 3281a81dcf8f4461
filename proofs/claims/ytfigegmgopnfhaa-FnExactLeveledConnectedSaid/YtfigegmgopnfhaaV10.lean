/- Texts put together: HlpG, HlpH, HlpP. Conditions: those of each theorem. -/
import Derived.Test.YtfigegmgopnfhaaV1
import Derived.Test.YtfigegmgopnfhaaV2
set_option linter.unusedVariables false
set_option linter.unusedSimpArgs false
/- The helpers of the exact laws over graphs: sizes, copies, comparisons. Conditions: those of each contract. -/
namespace Go.Proofs.Ytfigegmgopnfhaa
open Go
set_option linter.unusedVariables false set_option linter.unusedSimpArgs false attribute [local irreducible] Tok.own Tok.blk RL Rd eptr WP WPL PE WPD WPO Op1 OpE Tri Again Mid Exit.then Exit.inBlock bodyPost RP Code.wp wpList isOwn OneM One
set_option maxHeartbeats 8000000

theorem h_szE (w : World) (v : Value) (xs : List E) (left : Int) (h : RL w v xs) (hl : xs.length ≤ 9223372036854775807) (h0 : 0 ≤ left) (h1 : left ≤ 1048576) :
    Tri Try.prog 140 [v, .int .i64 left] w [] fun r T => T = [] ∧ ((xs.length ≤ left ∧ r = .int .i64 (left - xs.length)) ∨ (left < xs.length ∧ r = .int .i64 (-1))) := by
  refine Tri.intro (hf := Try.func140) (hb := rfl) (hn := Try.ntmps140) (Nat.le_of_ble_eq_true rfl) ?_
  repeat' (first | refine go ⟨?_⟩ | (refine isCond ?_; refine WP.condD rfl (fun hc => ?_) (fun hc => ?_)) | (refine isGuard ?_; refine WPL.splitD rfl rfl (fun hc => ?_) (fun hc => ?_)))
  · refine PE.ret1 (T := []) (T' := []) rfl rV ?_ sT
    exact ⟨rfl, .inr ⟨by omega, rfl⟩⟩
  · refine PE.ret1 (T := []) (T' := []) rfl rV ?_ sT
    exact ⟨rfl, .inl ⟨by omega, rfl⟩⟩

theorem h_szG (w : World) (n : Int) (v : Value) (xs : List E) (left : Int) (h : RL w v xs) (hl : xs.length ≤ 9223372036854775807) (h0 : 0 ≤ left) (h1 : left ≤ 1048576) :
    Tri Try.prog 99 [.agg #[.int .i64 n, v], .int .i64 left] w [] fun r T => T = [] ∧ ((xs.length ≤ left ∧ r = .int .i64 (left - xs.length)) ∨ (left < xs.length ∧ r = .int .i64 (-1))) := by
  refine Tri.intro (hf := Try.func99) (hb := rfl) (hn := Try.ntmps99) (Nat.le_of_ble_eq_true rfl) ?_
  try refine go ⟨?_⟩
  refine WPL.eff (OpE.box rfl) rfl rfl ?_; rintro _ _ ⟨b, rfl, rfl⟩
  try refine go ⟨?_⟩
  refine WPL.eff (OpE.call lO (fun w hw => h_szE _ v xs left (Rd.at rD hw) hl h0 h1)) rfl rfl ?_
  rintro r _ ⟨T, ⟨rfl, hr⟩, rfl⟩
  rcases hr with ⟨h2, rfl⟩ | ⟨h2, rfl⟩
  · repeat' (first | refine go ⟨?_⟩ | (refine isCond ?_; refine WP.condD rfl (fun hc => ?_) (fun hc => ?_)) | (refine isGuard ?_; refine WPL.splitD rfl rfl (fun hc => ?_) (fun hc => ?_)))
    · omega
    · refine PE.ret1 (T := []) (T' := []) rfl rV ?_ sT
      exact ⟨rfl, .inl ⟨by omega, rfl⟩⟩
  · repeat' (first | refine go ⟨?_⟩ | (refine isCond ?_; refine WP.condD rfl (fun hc => ?_) (fun hc => ?_)) | (refine isGuard ?_; refine WPL.splitD rfl rfl (fun hc => ?_) (fun hc => ?_)))
    refine PE.ret1 (T := []) (T' := []) rfl rV ?_ sT
    exact ⟨rfl, .inr ⟨h2, rfl⟩⟩

theorem h_toE (w : World) (e : E) : Tri Try.prog 131 [ep e] w [] fun r T => T = [] ∧ r = ep e := by
  refine Tri.intro (hf := Try.func131) (hb := rfl) (hn := Try.ntmps131) (Nat.le_of_ble_eq_true rfl) ?_
  try refine go ⟨?_⟩
  refine WPL.eff (OpE.box rfl) rfl rfl ?_; rintro _ _ ⟨b, rfl, rfl⟩
  refine WPL.eff OpE.alloc rfl rfl ?_; rintro _ _ ⟨b2, rfl, rfl⟩
  try refine go ⟨?_⟩
  refine WPL.eff OpE.alloc rfl rfl ?_; rintro _ _ ⟨b3, rfl, rfl⟩
  try refine go ⟨?_⟩
  refine PE.ret1 (T := []) (T' := []) rfl rV ?_ sT
  exact ⟨rfl, rfl⟩

theorem h_eqE (w : World) (a b : E) : Tri Try.prog 132 [ep a, ep b] w [] fun r T => T = [] ∧ r = .bool (decide (a = b)) := by
  have ext : a = b ↔ a.A = b.A ∧ a.B = b.B := by cases a; cases b; simp
  refine Tri.intro (hf := Try.func132) (hb := rfl) (hn := Try.ntmps132) (Nat.le_of_ble_eq_true rfl) ?_
  try refine go ⟨?_⟩
  refine WPL.eff (OpE.box rfl) rfl rfl ?_; rintro _ _ ⟨b1, rfl, rfl⟩
  try refine go ⟨?_⟩
  refine WPL.eff (OpE.box rfl) rfl rfl ?_; rintro _ _ ⟨b2, rfl, rfl⟩
  repeat' (first | exact absurd rfl hc | refine go ⟨?_⟩ | (refine isCond ?_; refine WP.condD rfl (fun hc => ?_) (fun hc => ?_)) | (refine isGuard ?_; refine WPL.splitD rfl rfl (fun hc => ?_) (fun hc => ?_)))
  all_goals (refine PE.ret1 (T := []) (T' := []) rfl rV ?_ sT; refine ⟨rfl, ?_⟩)
  · rw [decide_eq_false]; rw [ext]; exact fun h => absurd h.1 ‹_›
  · rw [decide_eq_false]; rw [ext]; exact fun h => absurd h.2 ‹_›
  · rw [decide_eq_true]; rw [ext]; exact ⟨Decidable.not_not.1 ‹_›, Decidable.not_not.1 ‹_›⟩
end Go.Proofs.Ytfigegmgopnfhaa
/- The helpers of the exact laws over graphs: whole graphs. Conditions: those of each contract. -/
namespace Go.Proofs.Ytfigegmgopnfhaa
open Go
theorem fill_len {xs : List E} {k : Nat} : (xs.take k ++ List.replicate (xs.length - k) (Enc.d : E)).length = max xs.length (min k xs.length) := by simp; omega
theorem fill_set {xs : List E} {k : Nat} (hk : k < xs.length) : (xs.take k ++ List.replicate (xs.length - k) (Enc.d : E)).set k (xs.getD k (Enc.d : E)) = xs.take (k + 1) ++ List.replicate (xs.length - (k + 1)) (Enc.d : E) := by
  have h1 : xs.length - k = (xs.length - (k + 1)) + 1 := by omega
  rw [h1, List.replicate_succ, List.set_append_right _ _ (by simp; omega)]
  have h2 : k - (xs.take k).length = 0 := by rw [List.length_take]; omega
  rw [h2, List.set_cons_zero, take_succD (Enc.d : E) hk, List.append_assoc]; rfl
set_option linter.unusedVariables false set_option linter.unusedSimpArgs false attribute [local irreducible] Tok.own Tok.blk RL Rd eptr WP WPL PE WPD WPO Op1 OpE Tri Again Mid Exit.then Exit.inBlock bodyPost RP Code.wp wpList isOwn OneM One
set_option maxHeartbeats 8000000

theorem h_toES (w : World) (v : Value) (xs : List E) (h : RL w v xs) (hl : xs.length ≤ 1048576) :
    Tri Try.prog 141 [v] w [] fun r T => T = [Tok.own r xs] := by
  refine Tri.intro (hf := Try.func141) (hb := rfl) (hn := Try.ntmps141) (Nat.le_of_ble_eq_true rfl) ?_
  try refine go ⟨?_⟩
  refine WPL.eff (OpE.make (α := E) rfl rfl (by omega)) rfl rfl ?_; rintro u _ rfl
  try refine go ⟨?_⟩
  refine WP.loop (σ := Nat) (fun k => [(0, v), (3, u), (4, .int .i64 k)]) (fun k => [Tok.own u (xs.take k ++ List.replicate (xs.length - k) (Enc.d : E))]) (fun k => k ≤ xs.length) (fun k => xs.length - k) 0 (Nat.zero_le _) sE ?_ ?_
  · exact sT
  rintro k hk
  have hlen : (xs.take k ++ List.replicate (xs.length - k) (Enc.d : E)).length = xs.length := by simp; omega
  try refine go ⟨?_⟩
  refine WP.condD rfl (fun hc => ?_) (fun hc => ?_)
  · have hk' : k < xs.length := by omega
    try refine go ⟨?_⟩
    refine WPL.eff (OpE.call lO (fun w hw => h_toE _ (xs.getD k (Enc.d : E)))) rfl rfl ?_
    rintro r _ ⟨T, ⟨rfl, rfl⟩, rfl⟩
    try refine go ⟨?_⟩
    refine WPL.eff0 (OpE.storeS (xs.getD k (Enc.d : E)) rfl rfl pM2 lT rfl) rfl ?_
    rintro _ _ rfl
    rw [fill_set hk']
    try refine go ⟨?_⟩
    refine PE.again (k + 1) ?_ ?_ sE sT2
    · (try dsimp only); omega
    · (try dsimp only); omega
  · have hk1 : k = xs.length := by omega
    subst hk1
    try refine go ⟨?_⟩
    refine PE.ret1 (T := []) (T' := [Tok.own u (xs.take xs.length ++ List.replicate (xs.length - xs.length) (Enc.d : E))]) rfl rV ?_ sT
    simp

theorem h_toG (w : World) (n : Int) (v : Value) (xs : List E) (h : RL w v xs) (hl : xs.length ≤ 1048576) :
    Tri Try.prog 104 [.agg #[.int .i64 n, v]] w [] fun r T => ∃ u, r = .agg #[.int .i64 n, u] ∧ T = [Tok.own u xs] := by
  refine Tri.intro (hf := Try.func104) (hb := rfl) (hn := Try.ntmps104) (Nat.le_of_ble_eq_true rfl) ?_
  try refine go ⟨?_⟩
  refine WPL.eff (OpE.box rfl) rfl rfl ?_; rintro _ _ ⟨b, rfl, rfl⟩
  refine WPL.eff OpE.alloc rfl rfl ?_; rintro _ _ ⟨br, rfl, rfl⟩
  try refine go ⟨?_⟩
  refine WPL.eff OpE.alloc rfl rfl ?_; rintro _ _ ⟨bo, rfl, rfl⟩
  try refine go ⟨?_⟩
  refine WPL.eff (OpE.call lO (fun w hw => h_toES _ v xs (Rd.at rD hw) hl)) rfl rfl ?_
  rintro u _ ⟨T, rfl, rfl⟩
  try refine go ⟨?_⟩
  refine PE.ret1 (T := []) (T' := [Tok.own u xs]) rfl rV ?_ sT
  exact ⟨u, rfl, rfl⟩

theorem h_eqES (w : World) (v u : Value) (xs ys : List E) (h : RL w v xs) (h' : RL w u ys) (hl : xs.length ≤ 1048576) (hl' : ys.length ≤ 1048576) :
    Tri Try.prog 95 [v, u] w [] fun r T => T = [] ∧ r = .bool (decide (xs = ys)) := by
  refine Tri.intro (hf := Try.func95) (hb := rfl) (hn := Try.ntmps95) (Nat.le_of_ble_eq_true rfl) ?_
  repeat' (first | refine go ⟨?_⟩ | (refine isCond ?_; refine WP.condD rfl (fun hc => ?_) (fun hc => ?_)) | (refine isGuard ?_; refine WPL.splitD rfl rfl (fun hc => ?_) (fun hc => ?_)))
  · refine PE.ret1 (T := []) (T' := []) rfl rV ?_ sT
    refine ⟨rfl, ?_⟩
    rw [decide_eq_false]
    rintro rfl
    exact absurd rfl ‹_›
  have hll : xs.length = ys.length := by omega
  refine WP.loop (σ := Nat) (fun k => [(0, v), (1, u), (5, .int .i64 k)]) (fun _ => []) (fun k => k ≤ xs.length ∧ ∀ m, m < k → xs.getD m (Enc.d : E) = ys.getD m (Enc.d : E)) (fun k => xs.length - k) 0 ⟨Nat.zero_le _, by omega⟩ sE sT ?_
  rintro k ⟨hk, hm⟩
  try refine go ⟨?_⟩
  refine WP.condD rfl (fun hc => ?_) (fun hc => ?_)
  · have hk' : k < xs.length := by omega
    try refine go ⟨?_⟩
    refine WP.draw [] mixed ?_
    refine WPD.take 0 rfl (Op1.move rfl) rfl rfl sT kR kR kR xQP ?_
    refine WPD.take 1 rfl (Op1.move rfl) rfl rfl sT kR kR kR xQP ?_
    refine WPD.take 4 rfl (Op1.move rfl) rfl rfl sT kR kR kR xQP ?_
    refine WPD.take 5 rfl (Op1.move rfl) rfl rfl sT kR kR kR xQP ?_
    refine WPD.take 2 rfl (by first | exact (Op1.indexAddr rfl rfl rD lT) | exact (Op1.indexAddrZ rfl rfl rD lT)) rfl rfl sT kR kR kR xQP ?_
    refine WPD.take 6 rfl (by first | exact (Op1.indexAddr rfl rfl rD lT) | exact (Op1.indexAddrZ rfl rfl rD lT)) rfl rfl sT kR kR kR xQP ?_
    refine WPD.take 3 rfl (by first | exact (Op1.load rfl mM (by rfl)) | exact (Op1.loadI rfl rD lT) | exact (Op1.loadAll rfl mM (by rfl)) | exact (Op1.loadE rfl rD lT (by rfl)) | exact (Op1.loadEAgg rfl rD lT (by rfl))) rfl rfl sT kR kR kR xQP ?_
    refine WPD.take 7 rfl (by first | exact (Op1.load rfl mM (by rfl)) | exact (Op1.loadI rfl rD lT) | exact (Op1.loadAll rfl mM (by rfl)) | exact (Op1.loadE rfl rD lT (by rfl)) | exact (Op1.loadEAgg rfl rD lT (by rfl))) rfl rfl sT kR kR kR xQP ?_
    refine WPD.eff 8 kR rfl (OpE.call lO (fun w hw => h_eqE _ (xs.getD k (Enc.d : E)) (ys.getD k (Enc.d : E)))) rfl rfl ?_
    rintro r _ ⟨T, ⟨rfl, rfl⟩, rfl⟩
    refine ⟨sT, ?_⟩
    refine WPD.eff 9 kR rfl (OpE.ofPure (by first | exact (Op1.notD rfl) | exact (Op1.not rfl))) rfl rfl ?_
    rintro _ _ ⟨rfl, rfl⟩
    refine ⟨sT, ?_⟩
    refine WPD.done kR ?_
    try refine go ⟨?_⟩
    refine WP.condD rfl (fun he => ?_) (fun he => ?_)
    · try refine go ⟨?_⟩
      refine PE.ret1 (T := []) (T' := []) rfl rV ?_ sT
      refine ⟨rfl, ?_⟩
      rw [decide_eq_false]
      rintro rfl
      exact absurd rfl he
    · try refine go ⟨?_⟩
      refine PE.again (k + 1) ?_ ?_ sE sT2
      · exact ⟨by omega, fun m hm' => by
          rcases Nat.lt_succ_iff_lt_or_eq.1 hm' with h' | rfl
          · exact hm m h'
          · exact Decidable.not_not.1 he⟩
      · omega
  · try refine go ⟨?_⟩
    refine PE.ret1 (T := []) (T' := []) rfl rV ?_ sT
    refine ⟨rfl, ?_⟩
    rw [decide_eq_true]
    exact List.ext_getElem hll (fun i h1 h2 => by
      have := hm i (by omega)
      rwa [List.getD_eq_getElem?_getD, List.getD_eq_getElem?_getD, List.getElem?_eq_getElem h1, List.getElem?_eq_getElem h2] at this)

theorem h_eqG (w : World) (n m : Int) (v u : Value) (xs ys : List E) (h : RL w v xs) (h' : RL w u ys) (hl : xs.length ≤ 1048576) (hl' : ys.length ≤ 1048576) :
    Tri Try.prog 49 [.agg #[.int .i64 n, v], .agg #[.int .i64 m, u]] w [] fun r T => T = [] ∧ r = .bool (decide (n = m ∧ xs = ys)) := by
  refine Tri.intro (hf := Try.func49) (hb := rfl) (hn := Try.ntmps49) (Nat.le_of_ble_eq_true rfl) ?_
  try refine go ⟨?_⟩
  refine WPL.eff (OpE.box rfl) rfl rfl ?_; rintro _ _ ⟨b, rfl, rfl⟩
  refine WPL.eff (OpE.box rfl) rfl rfl ?_; rintro _ _ ⟨b2, rfl, rfl⟩
  try refine go ⟨?_⟩
  refine WP.condD rfl (fun hc => ?_) (fun hc => ?_)
  · try refine go ⟨?_⟩
    refine PE.ret1 (T := []) (T' := []) rfl rV ?_ sT
    refine ⟨rfl, ?_⟩
    rw [decide_eq_false]
    exact fun h => absurd h.1 hc
  · try refine go ⟨?_⟩
    refine WPL.eff (OpE.call lO (fun w hw => h_eqES _ v u xs ys (Rd.at rD hw) (Rd.at rD hw) hl hl')) rfl rfl ?_
    rintro r _ ⟨T, ⟨rfl, rfl⟩, rfl⟩
    try refine go ⟨?_⟩
    refine WP.condD rfl (fun hc2 => ?_) (fun hc2 => ?_)
    · try refine go ⟨?_⟩
      refine PE.ret1 (T := []) (T' := []) rfl rV ?_ sT
      refine ⟨rfl, ?_⟩
      rw [decide_eq_false]
      exact fun h => absurd h.2 hc2
    · try refine go ⟨?_⟩
      refine PE.ret1 (T := []) (T' := []) rfl rV ?_ sT
      refine ⟨rfl, ?_⟩
      rw [decide_eq_true]
      exact ⟨Decidable.not_not.1 hc, Decidable.not_not.1 hc2⟩
end Go.Proofs.Ytfigegmgopnfhaa
/- The helpers of the exact laws over operations: sizes, copies, comparisons. Conditions: those of each contract. -/
namespace Go.Proofs.Ytfigegmgopnfhaa
open Go
theorem fill_setO {xs : List Oper1} {k : Nat} (hk : k < xs.length) : (xs.take k ++ List.replicate (xs.length - k) (Enc.d : Oper1)).set k (xs.getD k (Enc.d : Oper1)) = xs.take (k + 1) ++ List.replicate (xs.length - (k + 1)) (Enc.d : Oper1) := by
  have e : xs.length - k = (xs.length - (k + 1)) + 1 := by omega
  rw [e, List.replicate_succ, List.set_append_right _ _ (by rw [List.length_take]; omega), List.length_take, Nat.min_eq_left (by omega), Nat.sub_self, List.set_cons_zero, take_succD (Enc.d : Oper1) hk, List.append_assoc]; rfl
def op3 (o : Oper1) : Value := .agg #[.int .i64 o.K, .int .i64 o.A, .int .i64 o.B]
set_option linter.unusedVariables false set_option linter.unusedSimpArgs false attribute [local irreducible] Tok.own Tok.blk RL Rd eptr WP WPL PE WPD WPO Op1 OpE Tri Again Mid Exit.then Exit.inBlock bodyPost RP Code.wp wpList isOwn OneM One
set_option maxHeartbeats 8000000

theorem h_szOS (w : World) (v : Value) (xs : List Oper1) (left : Int) (h : RL w v xs) (hl : xs.length ≤ 9223372036854775807) (h0 : 0 ≤ left) (h1 : left ≤ 1048576) :
    Tri Try.prog 25 [v, .int .i64 left] w [] fun r T => T = [] ∧ ((xs.length ≤ left ∧ r = .int .i64 (left - xs.length)) ∨ (left < xs.length ∧ r = .int .i64 (-1))) := by
  refine Tri.intro (hf := Try.func25) (hb := rfl) (hn := Try.ntmps25) (Nat.le_of_ble_eq_true rfl) ?_
  repeat' (first | refine go ⟨?_⟩ | (refine isCond ?_; refine WP.condD rfl (fun hc => ?_) (fun hc => ?_)) | (refine isGuard ?_; refine WPL.splitD rfl rfl (fun hc => ?_) (fun hc => ?_)))
  · refine PE.ret1 (T := []) (T' := []) rfl rV ?_ sT
    exact ⟨rfl, .inr ⟨by omega, rfl⟩⟩
  · refine PE.ret1 (T := []) (T' := []) rfl rV ?_ sT
    exact ⟨rfl, .inl ⟨by omega, rfl⟩⟩

theorem h_toO (w : World) (o : Oper1) : Tri Try.prog 77 [op3 o] w [] fun r T => T = [] ∧ r = op3 o := by
  refine Tri.intro (hf := Try.func77) (hb := rfl) (hn := Try.ntmps77) (Nat.le_of_ble_eq_true rfl) ?_
  try refine go ⟨?_⟩
  refine WPL.eff (OpE.box rfl) rfl rfl ?_; rintro _ _ ⟨b, rfl, rfl⟩
  refine WPL.eff OpE.alloc rfl rfl ?_; rintro _ _ ⟨b2, rfl, rfl⟩
  try refine go ⟨?_⟩
  refine WPL.eff OpE.alloc rfl rfl ?_; rintro _ _ ⟨b3, rfl, rfl⟩
  try refine go ⟨?_⟩
  refine WPL.pure (Op1.loadAgg (us := [.int .i64 o.A, .int .i64 o.B]) rfl mM rfl rfl) rfl rfl ?_
  try refine go ⟨?_⟩
  refine WPL.eff (OpE.call lO (fun w hw => h_toE _ ⟨o.A, o.B⟩)) rfl rfl ?_
  rintro _ _ ⟨T, ⟨rfl, rfl⟩, rfl⟩
  try refine go ⟨?_⟩
  refine WPL.eff0 (OpE.storeAgg (us := [.int .i64 o.A, .int .i64 o.B]) rfl rfl pM rfl (Nat.le_of_ble_eq_true rfl) oN) rfl ?_; rintro _ _ rfl
  try refine go ⟨?_⟩
  refine PE.ret1 (T := []) (T' := []) rfl rV ?_ sT
  exact ⟨rfl, rfl⟩

theorem h_toOS (w : World) (v : Value) (xs : List Oper1) (h : RL w v xs) (hl : xs.length ≤ 1048576) :
    Tri Try.prog 27 [v] w [] fun r T => T = [Tok.own r xs] := by
  refine Tri.intro (hf := Try.func27) (hb := rfl) (hn := Try.ntmps27) (Nat.le_of_ble_eq_true rfl) ?_
  try refine go ⟨?_⟩
  refine WPL.eff (OpE.make (α := Oper1) rfl rfl (by omega)) rfl rfl ?_; rintro u _ rfl
  try refine go ⟨?_⟩
  refine WP.loop (σ := Nat) (fun k => [(0, v), (3, u), (4, .int .i64 k)]) (fun k => [Tok.own u (xs.take k ++ List.replicate (xs.length - k) (Enc.d : Oper1))]) (fun k => k ≤ xs.length) (fun k => xs.length - k) 0 (Nat.zero_le _) sE ?_ ?_
  · exact sT
  rintro k hk
  have hlen : (xs.take k ++ List.replicate (xs.length - k) (Enc.d : Oper1)).length = xs.length := by simp; omega
  try refine go ⟨?_⟩
  refine WP.condD rfl (fun hc => ?_) (fun hc => ?_)
  · have hk' : k < xs.length := by omega
    try refine go ⟨?_⟩
    refine WPL.eff (OpE.call lO (fun w hw => h_toO _ (xs.getD k (Enc.d : Oper1)))) rfl rfl ?_
    rintro r _ ⟨T, ⟨rfl, rfl⟩, rfl⟩
    try refine go ⟨?_⟩
    refine WPL.eff0 (OpE.storeS (xs.getD k (Enc.d : Oper1)) rfl rfl pM2 lT rfl) rfl ?_
    rintro _ _ rfl
    rw [fill_setO hk']
    try refine go ⟨?_⟩
    refine PE.again (k + 1) ?_ ?_ sE sT2
    · (try dsimp only); omega
    · (try dsimp only); omega
  · have hk1 : k = xs.length := by omega
    subst hk1
    try refine go ⟨?_⟩
    refine PE.ret1 (T := []) (T' := [Tok.own u (xs.take xs.length ++ List.replicate (xs.length - xs.length) (Enc.d : Oper1))]) rfl rV ?_ sT
    simp

theorem h_eqO (w : World) (a b : Oper1) : Tri Try.prog 79 [op3 a, op3 b] w [] fun r T => T = [] ∧ r = .bool (decide (a = b)) := by
  have ext : a = b ↔ a.K = b.K ∧ (⟨a.A, a.B⟩ : E) = ⟨b.A, b.B⟩ := by cases a; cases b; simp
  refine Tri.intro (hf := Try.func79) (hb := rfl) (hn := Try.ntmps79) (Nat.le_of_ble_eq_true rfl) ?_
  try refine go ⟨?_⟩
  refine WPL.eff (OpE.box rfl) rfl rfl ?_; rintro _ _ ⟨b1, rfl, rfl⟩
  try refine go ⟨?_⟩
  refine WPL.eff (OpE.box rfl) rfl rfl ?_; rintro _ _ ⟨b2, rfl, rfl⟩
  try refine go ⟨?_⟩
  refine WP.condD rfl (fun hc => ?_) (fun hc => ?_)
  · try refine go ⟨?_⟩
    refine PE.ret1 (T := []) (T' := []) rfl rV ?_ sT
    refine ⟨rfl, ?_⟩
    rw [decide_eq_false]; rw [ext]; exact fun h => absurd h.1 hc
  · have hc : a.K = b.K := Decidable.not_not.1 hc
    try refine go ⟨?_⟩
    refine WPL.pure (Op1.loadAgg (us := [.int .i64 a.A, .int .i64 a.B]) rfl mM rfl rfl) rfl rfl ?_
    try refine go ⟨?_⟩
    refine WPL.pure (Op1.loadAgg (us := [.int .i64 b.A, .int .i64 b.B]) rfl mM rfl rfl) rfl rfl ?_
    try refine go ⟨?_⟩
    refine WPL.eff (OpE.call lO (fun w hw => h_eqE _ ⟨a.A, a.B⟩ ⟨b.A, b.B⟩)) rfl rfl ?_
    rintro _ _ ⟨T, ⟨rfl, rfl⟩, rfl⟩
    try refine go ⟨?_⟩
    refine WP.condD rfl (fun he => ?_) (fun he => ?_)
    · try refine go ⟨?_⟩
      refine PE.ret1 (T := []) (T' := []) rfl rV ?_ sT
      refine ⟨rfl, ?_⟩
      rw [decide_eq_false]; rw [ext]; exact fun h => absurd h.2 he
    · try refine go ⟨?_⟩
      refine PE.ret1 (T := []) (T' := []) rfl rV ?_ sT
      refine ⟨rfl, ?_⟩
      rw [decide_eq_true]; rw [ext]; exact ⟨hc, Decidable.not_not.1 he⟩

theorem h_eqOS (w : World) (v u : Value) (xs ys : List Oper1) (h : RL w v xs) (h' : RL w u ys) (hl : xs.length ≤ 1048576) (hl' : ys.length ≤ 1048576) :
    Tri Try.prog 29 [v, u] w [] fun r T => T = [] ∧ r = .bool (decide (xs = ys)) := by
  refine Tri.intro (hf := Try.func29) (hb := rfl) (hn := Try.ntmps29) (Nat.le_of_ble_eq_true rfl) ?_
  repeat' (first | refine go ⟨?_⟩ | (refine isCond ?_; refine WP.condD rfl (fun hc => ?_) (fun hc => ?_)) | (refine isGuard ?_; refine WPL.splitD rfl rfl (fun hc => ?_) (fun hc => ?_)))
  · refine PE.ret1 (T := []) (T' := []) rfl rV ?_ sT
    refine ⟨rfl, ?_⟩
    rw [decide_eq_false]
    rintro rfl
    exact absurd rfl ‹_›
  have hll : xs.length = ys.length := by omega
  refine WP.loop (σ := Nat) (fun k => [(0, v), (1, u), (5, .int .i64 k)]) (fun _ => []) (fun k => k ≤ xs.length ∧ ∀ m, m < k → xs.getD m (Enc.d : Oper1) = ys.getD m (Enc.d : Oper1)) (fun k => xs.length - k) 0 ⟨Nat.zero_le _, by omega⟩ sE sT ?_
  rintro k ⟨hk, hm⟩
  try refine go ⟨?_⟩
  refine WP.condD rfl (fun hc => ?_) (fun hc => ?_)
  · have hk' : k < xs.length := by omega
    try refine go ⟨?_⟩
    refine WP.draw [] mixed ?_
    refine WPD.take 0 rfl (Op1.move rfl) rfl rfl sT kR kR kR xQP ?_
    refine WPD.take 1 rfl (Op1.move rfl) rfl rfl sT kR kR kR xQP ?_
    refine WPD.take 4 rfl (Op1.move rfl) rfl rfl sT kR kR kR xQP ?_
    refine WPD.take 5 rfl (Op1.move rfl) rfl rfl sT kR kR kR xQP ?_
    refine WPD.take 2 rfl (by first | exact (Op1.indexAddr rfl rfl rD lT) | exact (Op1.indexAddrZ rfl rfl rD lT)) rfl rfl sT kR kR kR xQP ?_
    refine WPD.take 6 rfl (by first | exact (Op1.indexAddr rfl rfl rD lT) | exact (Op1.indexAddrZ rfl rfl rD lT)) rfl rfl sT kR kR kR xQP ?_
    refine WPD.take 3 rfl (by first | exact (Op1.load rfl mM (by rfl)) | exact (Op1.loadI rfl rD lT) | exact (Op1.loadAll rfl mM (by rfl)) | exact (Op1.loadE rfl rD lT (by rfl)) | exact (Op1.loadEAgg rfl rD lT (by rfl))) rfl rfl sT kR kR kR xQP ?_
    refine WPD.take 7 rfl (by first | exact (Op1.load rfl mM (by rfl)) | exact (Op1.loadI rfl rD lT) | exact (Op1.loadAll rfl mM (by rfl)) | exact (Op1.loadE rfl rD lT (by rfl)) | exact (Op1.loadEAgg rfl rD lT (by rfl))) rfl rfl sT kR kR kR xQP ?_
    refine WPD.eff 8 kR rfl (OpE.call lO (fun w hw => h_eqO _ (xs.getD k (Enc.d : Oper1)) (ys.getD k (Enc.d : Oper1)))) rfl rfl ?_
    rintro r _ ⟨T, ⟨rfl, rfl⟩, rfl⟩
    refine ⟨sT, ?_⟩
    refine WPD.eff 9 kR rfl (OpE.ofPure (by first | exact (Op1.notD rfl) | exact (Op1.not rfl))) rfl rfl ?_
    rintro _ _ ⟨rfl, rfl⟩
    refine ⟨sT, ?_⟩
    refine WPD.done kR ?_
    try refine go ⟨?_⟩
    refine WP.condD rfl (fun he => ?_) (fun he => ?_)
    · try refine go ⟨?_⟩
      refine PE.ret1 (T := []) (T' := []) rfl rV ?_ sT
      refine ⟨rfl, ?_⟩
      rw [decide_eq_false]
      rintro rfl
      exact absurd rfl he
    · try refine go ⟨?_⟩
      refine PE.again (k + 1) ?_ ?_ sE sT2
      · exact ⟨by omega, fun m hm' => by
          rcases Nat.lt_succ_iff_lt_or_eq.1 hm' with h' | rfl
          · exact hm m h'
          · exact Decidable.not_not.1 he⟩
      · omega
  · try refine go ⟨?_⟩
    refine PE.ret1 (T := []) (T' := []) rfl rV ?_ sT
    refine ⟨rfl, ?_⟩
    rw [decide_eq_true]
    exact List.ext_getElem hll (fun i h1 h2 => by
      have := hm i (by omega)
      rwa [List.getD_eq_getElem?_getD, List.getD_eq_getElem?_getD, List.getElem?_eq_getElem h1, List.getElem?_eq_getElem h2] at this)

end Go.Proofs.Ytfigegmgopnfhaa
