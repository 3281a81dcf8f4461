/- Graphs: the walks of the library's IndexFunc and DeleteFunc, and of without. Conditions: those of each contract. -/
import Derived.Test.YthlgbeakcobeoaaGra2
import Derived.Test.YthlgbeakcobeoaaR4
namespace Go.Proofs.Ythlgbeakcobeoaa
open Go
theorem set_take_succ {α : Type} (l : List α) (i : Nat) (x : α) (h : i < l.length) : (l.set i x).take (i + 1) = l.take i ++ [x] := by
  rw [List.set_eq_take_append_cons_drop, if_pos h]
  have h1 : (l.take i).length = i := by rw [List.length_take]; omega
  have h2 : (l.take i ++ x :: l.drop (i + 1)) = (l.take i ++ [x]) ++ l.drop (i + 1) := by simp
  have h3 : i + 1 = (l.take i ++ [x]).length := by rw [List.length_append, h1]; rfl
  rw [h2]
  conv => lhs; arg 1; rw [h3]
  rw [List.take_left]
theorem getD_setD {α : Type} (l : List α) (i j : Nat) (x d : α) (h : i ≠ j) : (l.set i x).getD j d = l.getD j d := by
  rw [List.getD_eq_getElem?_getD, List.getD_eq_getElem?_getD, List.getElem?_set_ne h]
set_option linter.unusedVariables false set_option linter.unusedSimpArgs false attribute [local irreducible] Tok.own Tok.blk RL Rd eptr WP WPL PE WPD WPO Op1 OpE Tri Again Mid Exit.then Exit.inBlock bodyPost RP Code.wp wpList isOwn OneM One
attribute [local irreducible] Pred
set_option maxHeartbeats 8000000

theorem c_IndexFuncE (w : World) (v fv : Value) (es : List E) (T : List Tok) (p : E → Bool) (h : RL w v es) (hd : ∀ b ∈ vfp v, b ∉ fps T) (hl : es.length ≤ 1000) (hp : Pred Try.prog w (fps T) fv T ep p es) :
    Tri Try.prog 139 [v, fv] w T fun r T' => T' = T ∧ ((∃ k : Nat, k < es.length ∧ r = .int .i64 k ∧ p (es.getD k eD) = true ∧ ∀ m, m < k → p (es.getD m eD) = false) ∨ (r = .int .i64 (-1) ∧ ∀ e ∈ es, p e = false)) := by
  have hA : RdA ⟨19, w, fps T⟩ v es := RdA.mk h hd
  refine Tri.intro (hf := Try.func139) (hb := rfl) (hn := Try.ntmps139) (Nat.le_of_ble_eq_true rfl) ?_
  try refine goA ⟨?_⟩
  refine WP.loop (σ := Nat) (fun k => [(0, v), (1, fv), (7, .int .i64 es.length), (8, .int .i64 k)]) (fun _ => T) (fun k => k ≤ es.length ∧ ∀ m, m < k → p (es.getD m eD) = false) (fun k => es.length - k) 0 ⟨Nat.zero_le _, by omega⟩ sE (SubT.refl _) ?_
  rintro k ⟨hk, hm⟩
  try refine goA ⟨?_⟩
  refine WP.condD rfl (fun hc => ?_) (fun hc => ?_)
  · have hk' : k < es.length := by omega
    try refine goA ⟨?_⟩
    refine WPL.eff (OpE.callP (x := es.getD k eD) hp rfl rfl (getD_memI hk') rot0) rfl rfl ?_
    rintro _ _ ⟨rfl, rfl⟩
    rw [List.append_nil]
    try refine goA ⟨?_⟩
    refine WP.cond rfl (fun hpk => ?_) (fun hpk => ?_)
    · try refine goA ⟨?_⟩
      refine PE.ret1 (T := T) (T' := T) rfl rV ?_ (SubT.refl _)
      exact ⟨rfl, .inl ⟨k, hk', rfl, hpk, hm⟩⟩
    · try refine goA ⟨?_⟩
      refine PE.again (k + 1) ?_ ?_ sE (SubT.refl _)
      · refine ⟨by omega, fun m hm' => ?_⟩
        rcases Nat.lt_succ_iff_lt_or_eq.1 hm' with h' | rfl
        · exact hm m h'
        · exact hpk
      · omega
  · try refine goA ⟨?_⟩
    refine PE.ret1 (T := T) (T' := T) rfl rV ?_ (SubT.refl _)
    refine ⟨rfl, .inr ⟨rfl, fun e he => ?_⟩⟩
    obtain ⟨n, hn, rfl⟩ := mem_getD (d := eD) he
    exact hm n (by omega)

theorem c_DeleteFuncE (w : World) (v fv : Value) (es : List E) (T : List Tok) (p : E → Bool) (hl : es.length ≤ 1000) (hp : Pred Try.prog w (fps (Tok.own v es :: T)) fv T ep p es) :
    Tri Try.prog 128 [v, fv] w (Tok.own v es :: T) fun r T' => T' = Tok.own r (es.filter fun e => !p e) :: T := by
  refine Tri.intro (hf := Try.func128) (hb := rfl) (hn := Try.ntmps128) (Nat.le_of_ble_eq_true rfl) ?_
  try refine go ⟨?_⟩
  refine WPL.eff (OpE.callT (T := T) lO rot1 (fun w' hw => c_IndexFuncE _ v fv es T p (Rd.at rD hw) (own_disj hw (SubT.refl _)) hl (hp.at hw (SubT.skip (SubT.refl _))))) rfl rfl ?_
  rintro r _ ⟨T, ⟨rfl, hr⟩, rfl⟩
  refine WPL.perm rot1.symm ?_
  rcases hr with ⟨k, hk, rfl, hk1, hk2⟩ | ⟨rfl, hall⟩
  case inr =>
    try refine go ⟨?_⟩
    refine PE.ret1 (T := Tok.own v es :: T) (T' := Tok.own v es :: T) rfl rV ?_ (SubT.refl _)
    rw [List.filter_eq_self.2 fun e he => by rw [hall e he]; rfl]
  have hkept : (es.take (k + 1)).filter (fun e => !p e) = es.take k := by
    rw [take_succD eD hk, List.filter_append]
    have h1 : (es.take k).filter (fun e => !p e) = es.take k := by
      rw [List.filter_eq_self]
      intro e he
      obtain ⟨i, hi, rfl⟩ := mem_getD (d := eD) he
      rw [List.length_take] at hi
      have h2 : (es.take k).getD i eD = es.getD i eD := by
        rw [List.getD_eq_getElem?_getD, List.getD_eq_getElem?_getD, List.getElem?_take_of_lt (by omega)]
      rw [h2, hk2 i (by omega)]; rfl
    rw [h1]; simp only [List.filter_cons, hk1, Bool.not_true, Bool.false_eq_true, if_false, List.filter_nil, List.append_nil]
  try refine go ⟨?_⟩
  refine WP.loop (σ := Nat × Nat × List E) (fun s => [(0, v), (1, fv), (5, .int .i64 s.1), (6, .int .i64 s.2.1)]) (fun s => Tok.own v s.2.2 :: T)
    (fun s => s.1 < s.2.1 ∧ s.2.1 ≤ es.length ∧ s.2.2.length = es.length ∧ s.2.2.take s.1 = (es.take s.2.1).filter (fun e => !p e) ∧ s.1 = ((es.take s.2.1).filter (fun e => !p e)).length ∧ ∀ m, s.2.1 ≤ m → m < es.length → s.2.2.getD m eD = es.getD m eD)
    (fun s => es.length - s.2.1) (k, k + 1, es) ⟨by dsimp only; omega, by dsimp only; omega, rfl, hkept.symm, by dsimp only; rw [hkept, List.length_take]; omega, fun _ _ _ => rfl⟩ sE (SubT.refl _) ?_
  rintro ⟨i, j, xs⟩ ⟨h1, h2, h3, h4, h5, h6⟩
  dsimp only at h1 h2 h3 h4 h5 h6 ⊢
  try refine go ⟨?_⟩
  refine WP.condD rfl (fun hc => ?_) (fun hc => ?_)
  · have hj : j < es.length := by omega
    have hx := h6 j (Nat.le_refl _) hj
    try refine go ⟨?_⟩
    refine WPL.eff OpE.alloc rfl rfl ?_; rintro _ _ ⟨b7, rfl, rfl⟩
    try refine go ⟨?_⟩
    refine WPL.eff (OpE.callP (x := xs.getD j eD) hp rfl rfl (by rw [hx]; exact getD_memI hj) rot2) rfl rfl ?_
    rintro _ _ ⟨rfl, rfl⟩
    refine WPL.perm rot2.symm ?_
    rw [hx]
    have htk := take_succD eD hj
    cases hpj : p (es.getD j eD)
    · try refine go ⟨?_⟩
      refine WPL.eff0 (OpE.storeS (α := E) (xs.getD j eD) rfl rfl pM lT rfl) rfl ?_
      rintro _ _ rfl
      try refine go ⟨?_⟩
      refine PE.again (i + 1, j + 1, xs.set i (xs.getD j eD)) ?_ ?_ sE (SubT.cons (SubT.skip (SubT.refl _)))
      · have hf : (es.take (j + 1)).filter (fun e => !p e) = (es.take j).filter (fun e => !p e) ++ [es.getD j eD] := by
          rw [htk, List.filter_append]; simp only [List.filter_cons, hpj, Bool.not_false, if_true, List.filter_nil]
        refine ⟨by dsimp only; omega, by dsimp only; omega, by dsimp only; rw [List.length_set, h3], ?_, ?_, fun m hm hml => ?_⟩
        · dsimp only; rw [set_take_succ _ _ _ (by omega), h4, hf, hx]
        · dsimp only; rw [hf, List.length_append, ← h5]; rfl
        · dsimp only at hm ⊢; rw [getD_setD _ _ _ _ _ (by omega), h6 m (by omega) hml]
      · dsimp only; omega
    · try refine go ⟨?_⟩
      refine PE.again (i, j + 1, xs) ?_ ?_ sE (SubT.skip (SubT.refl _))
      · have hf : (es.take (j + 1)).filter (fun e => !p e) = (es.take j).filter (fun e => !p e) := by
          rw [htk, List.filter_append]; simp only [List.filter_cons, hpj, Bool.not_true, if_false, List.filter_nil, List.append_nil, Bool.false_eq_true]
        refine ⟨by dsimp only; omega, by dsimp only; omega, h3, ?_, ?_, fun m hm hml => ?_⟩
        · dsimp only; rw [h4, hf]
        · dsimp only; rw [hf, ← h5]
        · dsimp only at hm ⊢; rw [h6 m (by omega) hml]
      · dsimp only; omega
  · have hjn : j = es.length := by omega
    subst hjn
    rw [List.take_length] at h4 h5
    have hil : i ≤ xs.length := by omega
    try refine go ⟨?_⟩
    refine WPL.eff0 (OpE.clear (α := E) rfl pM hil) rfl ?_
    rintro _ _ rfl
    try refine go ⟨?_⟩
    refine WPL.pure (Op1.sliceHi (n := i) (xs := xs.take i ++ List.replicate (xs.length - i) (Enc.d : E)) rfl rfl rD (by rw [List.length_append, List.length_take]; omega)) rfl rfl ?_
    try refine go ⟨?_⟩
    refine PE.turnG (t := Tok.own v (xs.take i ++ List.replicate (xs.length - i) Enc.d)) (t' := Tok.own (slcV v i) ((xs.take i ++ List.replicate (xs.length - i) Enc.d).take i)) pM own_take_fp (own_take (by rw [List.length_append, List.length_take]; omega)) ?_
    have hti : (xs.take i ++ List.replicate (xs.length - i) (Enc.d : E)).take i = es.filter fun e => !p e := by
      rw [List.take_append_of_le_length (by rw [List.length_take]; omega), List.take_take, Nat.min_self, h4]
    rw [hti]
    refine PE.ret1 (T := Tok.own v es :: T) (T' := Tok.own (slcV v i) (es.filter fun e => !p e) :: T) rfl rV ?_ (SubT.refl _)
    rfl
end Go.Proofs.Ythlgbeakcobeoaa
