/- The helpers of the exact laws over graphs: whole graphs. Conditions: those of each contract. -/
import Derived.Test.YthlgbeakcobeoaaHlpG
namespace Go.Proofs.Ythlgbeakcobeoaa
open Go
theorem fill_len {xs : List E} {k : Nat} : (xs.take k ++ List.replicate (xs.length - k) (Enc.d : E)).length = max xs.length (min k xs.length) := by simp; omega
theorem fill_set {xs : List E} {k : Nat} (hk : k < xs.length) : (xs.take k ++ List.replicate (xs.length - k) (Enc.d : E)).set k (xs.getD k (Enc.d : E)) = xs.take (k + 1) ++ List.replicate (xs.length - (k + 1)) (Enc.d : E) := by
  have h1 : xs.length - k = (xs.length - (k + 1)) + 1 := by omega
  rw [h1, List.replicate_succ, List.set_append_right _ _ (by simp; omega)]
  have h2 : k - (xs.take k).length = 0 := by rw [List.length_take]; omega
  rw [h2, List.set_cons_zero, take_succD (Enc.d : E) hk, List.append_assoc]; rfl
set_option linter.unusedVariables false set_option linter.unusedSimpArgs false attribute [local irreducible] Tok.own Tok.blk RL Rd eptr WP WPL PE WPD WPO Op1 OpE Tri Again Mid Exit.then Exit.inBlock bodyPost RP Code.wp wpList isOwn OneM One
set_option maxHeartbeats 8000000

theorem h_toES (w : World) (v : Value) (xs : List E) (h : RL w v xs) (hl : xs.length ≤ 1048576) :
    Tri Try.prog 70 [v] w [] fun r T => T = [Tok.own r xs] := by
  refine Tri.intro (hf := Try.func70) (hb := rfl) (hn := Try.ntmps70) (Nat.le_of_ble_eq_true rfl) ?_
  try refine go ⟨?_⟩
  refine WPL.eff (OpE.make (α := E) rfl rfl (by omega)) rfl rfl ?_; rintro u _ rfl
  try refine go ⟨?_⟩
  refine WP.loop (σ := Nat) (fun k => [(0, v), (3, u), (4, .int .i64 k)]) (fun k => [Tok.own u (xs.take k ++ List.replicate (xs.length - k) (Enc.d : E))]) (fun k => k ≤ xs.length) (fun k => xs.length - k) 0 (Nat.zero_le _) sE ?_ ?_
  · exact sT
  rintro k hk
  have hlen : (xs.take k ++ List.replicate (xs.length - k) (Enc.d : E)).length = xs.length := by simp; omega
  try refine go ⟨?_⟩
  refine WP.condD rfl (fun hc => ?_) (fun hc => ?_)
  · have hk' : k < xs.length := by omega
    try refine go ⟨?_⟩
    refine WPL.eff (OpE.call lO (fun w hw => h_toE _ (xs.getD k (Enc.d : E)))) rfl rfl ?_
    rintro r _ ⟨T, ⟨rfl, rfl⟩, rfl⟩
    try refine go ⟨?_⟩
    refine WPL.eff0 (OpE.storeS (xs.getD k (Enc.d : E)) rfl rfl pM2 lT rfl) rfl ?_
    rintro _ _ rfl
    rw [fill_set hk']
    try refine go ⟨?_⟩
    refine PE.again (k + 1) ?_ ?_ sE sT2
    · (try dsimp only); omega
    · (try dsimp only); omega
  · have hk1 : k = xs.length := by omega
    subst hk1
    try refine go ⟨?_⟩
    refine PE.ret1 (T := []) (T' := [Tok.own u (xs.take xs.length ++ List.replicate (xs.length - xs.length) (Enc.d : E))]) rfl rV ?_ sT
    simp

theorem h_toG (w : World) (n : Int) (v : Value) (xs : List E) (h : RL w v xs) (hl : xs.length ≤ 1048576) :
    Tri Try.prog 22 [.agg #[.int .i64 n, v]] w [] fun r T => ∃ u, r = .agg #[.int .i64 n, u] ∧ T = [Tok.own u xs] := by
  refine Tri.intro (hf := Try.func22) (hb := rfl) (hn := Try.ntmps22) (Nat.le_of_ble_eq_true rfl) ?_
  try refine go ⟨?_⟩
  refine WPL.eff (OpE.box rfl) rfl rfl ?_; rintro _ _ ⟨b, rfl, rfl⟩
  refine WPL.eff OpE.alloc rfl rfl ?_; rintro _ _ ⟨br, rfl, rfl⟩
  try refine go ⟨?_⟩
  refine WPL.eff OpE.alloc rfl rfl ?_; rintro _ _ ⟨bo, rfl, rfl⟩
  try refine go ⟨?_⟩
  refine WPL.eff (OpE.call lO (fun w hw => h_toES _ v xs (Rd.at rD hw) hl)) rfl rfl ?_
  rintro u _ ⟨T, rfl, rfl⟩
  try refine go ⟨?_⟩
  refine PE.ret1 (T := []) (T' := [Tok.own u xs]) rfl rV ?_ sT
  exact ⟨u, rfl, rfl⟩

theorem h_eqES (w : World) (v u : Value) (xs ys : List E) (h : RL w v xs) (h' : RL w u ys) (hl : xs.length ≤ 1048576) (hl' : ys.length ≤ 1048576) :
    Tri Try.prog 33 [v, u] w [] fun r T => T = [] ∧ r = .bool (decide (xs = ys)) := by
  refine Tri.intro (hf := Try.func33) (hb := rfl) (hn := Try.ntmps33) (Nat.le_of_ble_eq_true rfl) ?_
  repeat' (first | refine go ⟨?_⟩ | (refine isCond ?_; refine WP.condD rfl (fun hc => ?_) (fun hc => ?_)) | (refine isGuard ?_; refine WPL.splitD rfl rfl (fun hc => ?_) (fun hc => ?_)))
  · refine PE.ret1 (T := []) (T' := []) rfl rV ?_ sT
    refine ⟨rfl, ?_⟩
    rw [decide_eq_false]
    rintro rfl
    exact absurd rfl ‹_›
  have hll : xs.length = ys.length := by omega
  refine WP.loop (σ := Nat) (fun k => [(0, v), (1, u), (5, .int .i64 k)]) (fun _ => []) (fun k => k ≤ xs.length ∧ ∀ m, m < k → xs.getD m (Enc.d : E) = ys.getD m (Enc.d : E)) (fun k => xs.length - k) 0 ⟨Nat.zero_le _, by omega⟩ sE sT ?_
  rintro k ⟨hk, hm⟩
  try refine go ⟨?_⟩
  refine WP.condD rfl (fun hc => ?_) (fun hc => ?_)
  · have hk' : k < xs.length := by omega
    try refine go ⟨?_⟩
    refine WP.draw [] mixed ?_
    refine WPD.take 0 rfl (Op1.move rfl) rfl rfl sT kR kR kR xQP ?_
    refine WPD.take 1 rfl (Op1.move rfl) rfl rfl sT kR kR kR xQP ?_
    refine WPD.take 4 rfl (Op1.move rfl) rfl rfl sT kR kR kR xQP ?_
    refine WPD.take 5 rfl (Op1.move rfl) rfl rfl sT kR kR kR xQP ?_
    refine WPD.take 2 rfl (by first | exact (Op1.indexAddr rfl rfl rD lT) | exact (Op1.indexAddrZ rfl rfl rD lT)) rfl rfl sT kR kR kR xQP ?_
    refine WPD.take 6 rfl (by first | exact (Op1.indexAddr rfl rfl rD lT) | exact (Op1.indexAddrZ rfl rfl rD lT)) rfl rfl sT kR kR kR xQP ?_
    refine WPD.take 3 rfl (by first | exact (Op1.load rfl mM (by rfl)) | exact (Op1.loadI rfl rD lT) | exact (Op1.loadAll rfl mM (by rfl)) | exact (Op1.loadE rfl rD lT (by rfl)) | exact (Op1.loadEAgg rfl rD lT (by rfl))) rfl rfl sT kR kR kR xQP ?_
    refine WPD.take 7 rfl (by first | exact (Op1.load rfl mM (by rfl)) | exact (Op1.loadI rfl rD lT) | exact (Op1.loadAll rfl mM (by rfl)) | exact (Op1.loadE rfl rD lT (by rfl)) | exact (Op1.loadEAgg rfl rD lT (by rfl))) rfl rfl sT kR kR kR xQP ?_
    refine WPD.eff 8 kR rfl (OpE.call lO (fun w hw => h_eqE _ (xs.getD k (Enc.d : E)) (ys.getD k (Enc.d : E)))) rfl rfl ?_
    rintro r _ ⟨T, ⟨rfl, rfl⟩, rfl⟩
    refine ⟨sT, ?_⟩
    refine WPD.eff 9 kR rfl (OpE.ofPure (by first | exact (Op1.notD rfl) | exact (Op1.not rfl))) rfl rfl ?_
    rintro _ _ ⟨rfl, rfl⟩
    refine ⟨sT, ?_⟩
    refine WPD.done kR ?_
    try refine go ⟨?_⟩
    refine WP.condD rfl (fun he => ?_) (fun he => ?_)
    · try refine go ⟨?_⟩
      refine PE.ret1 (T := []) (T' := []) rfl rV ?_ sT
      refine ⟨rfl, ?_⟩
      rw [decide_eq_false]
      rintro rfl
      exact absurd rfl he
    · try refine go ⟨?_⟩
      refine PE.again (k + 1) ?_ ?_ sE sT2
      · exact ⟨by omega, fun m hm' => by
          rcases Nat.lt_succ_iff_lt_or_eq.1 hm' with h' | rfl
          · exact hm m h'
          · exact Decidable.not_not.1 he⟩
      · omega
  · try refine go ⟨?_⟩
    refine PE.ret1 (T := []) (T' := []) rfl rV ?_ sT
    refine ⟨rfl, ?_⟩
    rw [decide_eq_true]
    exact List.ext_getElem hll (fun i h1 h2 => by
      have := hm i (by omega)
      rwa [List.getD_eq_getElem?_getD, List.getD_eq_getElem?_getD, List.getElem?_eq_getElem h1, List.getElem?_eq_getElem h2] at this)

theorem h_eqG (w : World) (n m : Int) (v u : Value) (xs ys : List E) (h : RL w v xs) (h' : RL w u ys) (hl : xs.length ≤ 1048576) (hl' : ys.length ≤ 1048576) :
    Tri Try.prog 25 [.agg #[.int .i64 n, v], .agg #[.int .i64 m, u]] w [] fun r T => T = [] ∧ r = .bool (decide (n = m ∧ xs = ys)) := by
  refine Tri.intro (hf := Try.func25) (hb := rfl) (hn := Try.ntmps25) (Nat.le_of_ble_eq_true rfl) ?_
  try refine go ⟨?_⟩
  refine WPL.eff (OpE.box rfl) rfl rfl ?_; rintro _ _ ⟨b, rfl, rfl⟩
  refine WPL.eff (OpE.box rfl) rfl rfl ?_; rintro _ _ ⟨b2, rfl, rfl⟩
  try refine go ⟨?_⟩
  refine WP.condD rfl (fun hc => ?_) (fun hc => ?_)
  · try refine go ⟨?_⟩
    refine PE.ret1 (T := []) (T' := []) rfl rV ?_ sT
    refine ⟨rfl, ?_⟩
    rw [decide_eq_false]
    exact fun h => absurd h.1 hc
  · try refine go ⟨?_⟩
    refine WPL.eff (OpE.call lO (fun w hw => h_eqES _ v u xs ys (Rd.at rD hw) (Rd.at rD hw) hl hl')) rfl rfl ?_
    rintro r _ ⟨T, ⟨rfl, rfl⟩, rfl⟩
    try refine go ⟨?_⟩
    refine WP.condD rfl (fun hc2 => ?_) (fun hc2 => ?_)
    · try refine go ⟨?_⟩
      refine PE.ret1 (T := []) (T' := []) rfl rV ?_ sT
      refine ⟨rfl, ?_⟩
      rw [decide_eq_false]
      exact fun h => absurd h.2 hc2
    · try refine go ⟨?_⟩
      refine PE.ret1 (T := []) (T' := []) rfl rV ?_ sT
      refine ⟨rfl, ?_⟩
      rw [decide_eq_true]
      exact ⟨Decidable.not_not.1 hc, Decidable.not_not.1 hc2⟩
end Go.Proofs.Ythlgbeakcobeoaa
