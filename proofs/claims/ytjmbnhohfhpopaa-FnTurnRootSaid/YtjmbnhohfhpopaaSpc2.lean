/- Rooted trees: the walk of the second program's WeightBetween. Conditions: those of the contract. -/
import Derived.Test.YtjmbnhohfhpopaaSpc1
namespace Go.Proofs.Ytjmbnhohfhpopaa
open Go
set_option linter.unusedVariables false set_option linter.unusedSimpArgs false attribute [local irreducible] Tok.own Tok.blk RL Rd eptr WP WPL PE WPD WPO Op1 OpE Tri Again Mid Exit.then Exit.inBlock bodyPost RP Code.wp wpList isOwn OneM One
set_option maxHeartbeats 8000000

theorem s_WeightBetween (w : World) (vP vW : Value) (ps ws : List Int) (x y : Int) (hP : RL w vP ps) (hW : RL w vW ws) (hlp : ps.length ≤ 1099511627776) (hlw : ws.length ≤ 1099511627776) :
    Tri Try.prog 35 [.agg #[vP, vW], .int .i64 x, .int .i64 y] w [] fun r T => wbV ps ws x y r ∧ T = [] := by
  refine Tri.intro (hf := Try.func35) (hb := rfl) (hn := Try.ntmps35) (Nat.le_of_ble_eq_true rfl) ?_
  try refine go ⟨?_⟩
  refine WPL.eff (OpE.box rfl) rfl rfl ?_; rintro _ _ ⟨b, rfl, rfl⟩
  try refine go ⟨?_⟩
  refine WPL.eff (OpE.call lO (fun w hw => s_MeetOf _ vP vW ps ws x y (Rd.at rD hw) (Rd.at rD hw) hlp hlw)) rfl rfl ?_
  rintro r _ ⟨T, ⟨hr, rfl⟩, rfl⟩
  rcases hr with ⟨m, ⟨hx, hy⟩, hm, rfl⟩ | ⟨hno, rfl⟩
  case inr =>
    try refine go ⟨?_⟩
    refine PE.ret3 (T := []) (T' := []) rfl rV ?_ sT
    exact ⟨.inr ⟨hno, rfl⟩, rfl⟩
  obtain ⟨hm1, hm2⟩ := meetF_mem hm
  have hfin : wbV ps ws x y (.tuple #[.int .i64 (sumW ws (wayL ps x y m)), .int .i64 (maxW ws (wayL ps x y m)), .bool true]) := .inl ⟨m, ⟨hx, hy⟩, hm, rfl⟩
  obtain ⟨j1, a1, a2, a3⟩ := first_at hm1
  obtain ⟨j2, b1, b2, b3⟩ := first_at hm2
  have p1 := pre_take a1 a3 a2
  have p2 := pre_take b1 b3 b2
  have w1 := hx.wt
  have w2 := hy.wt
  have n1 := up_node hx.1.allN ps.length x hx.inN
  have n2 := up_node hy.1.allN ps.length y hy.inN
  have s1 := fun k => up_next ps ps.length x k
  have s2 := fun k => up_next ps ps.length y k
  have l1 := up_length ps ps.length x
  have l2 := up_length ps ps.length y
  have hd1 := hx.up_head
  have hd2 := hy.up_head
  have hn16 := hx.1.2.1
  have hwl := hx.1.2.2.1
  unfold wayL at hfin
  rw [p1, p2] at hfin
  clear p1 p2 hm1 hm2 hm
  generalize up ps ps.length x = u1 at *
  generalize up ps ps.length y = u2 at *
  try refine go ⟨?_⟩
  refine WPL.eff (OpE.buildSlice [x, y] pA rfl (by decide)) rfl rfl ?_; rintro s _ rfl
  try refine go ⟨?_⟩
  let lst : Nat → List Int := fun i => if i = 0 then u1 else u2
  let jj : Nat → Nat := fun i => if i = 0 then j1 else j2
  let dn : Nat → List Int := fun i => if i = 0 then [] else if i = 1 then u1.take j1 else u1.take j1 ++ u2.take j2
  have f1 : ∀ i, i < 2 → jj i < (lst i).length ∧ (lst i).getD (jj i) 0 = m ∧ (∀ k, k < jj i → (lst i).getD k 0 ≠ m) ∧ (∀ n ∈ lst i, 0 ≤ ws.getD n.toNat 0 ∧ ws.getD n.toNat 0 ≤ 999) ∧
      (∀ n ∈ lst i, 0 ≤ n ∧ n < ps.length) ∧ (∀ k, k + 1 < (lst i).length → (lst i).getD (k + 1) 0 = ps.getD ((lst i).getD k 0).toNat 0) ∧ (lst i).length ≤ 16 ∧
      ([x, y] : List Int).getD i 0 = (lst i).getD 0 0 ∧ dn (i + 1) = dn i ++ (lst i).take (jj i) ∧ (dn i).length ≤ 16 ∧ (∀ n ∈ dn i, 0 ≤ ws.getD n.toNat 0 ∧ ws.getD n.toNat 0 ≤ 999) := by
    intro i hi
    have hi' : i = 0 ∨ i = 1 := by omega
    rcases hi' with rfl | rfl
    · exact ⟨a1, a2, a3, w1, n1, s1, by show u1.length ≤ 16; omega, hd1.symm, by simp [dn, lst, jj], by simp [dn], by simp [dn]⟩
    · refine ⟨b1, b2, b3, w2, n2, s2, by show u2.length ≤ 16; omega, hd2.symm, by simp [dn, lst, jj], ?_, ?_⟩
      · have := List.length_take_le j1 u1; simp only [dn]; simp; omega
      · intro n hn
        exact w1 n (List.mem_of_mem_take (by simpa [dn] using hn))
  have f2 : dn 2 = u1.take j1 ++ u2.take j2 := by simp [dn]
  have f0 : dn 0 = [] := rfl
  rw [← f2] at hfin
  clear_value lst jj dn
  clear a1 a2 a3 b1 b2 b3 w1 w2 n1 n2 s1 s2 hd1 hd2 f2
  refine WP.loop (σ := Nat) (fun i => [(3, .pointer (some ⟨b, 0, none⟩)), (9, .int .i64 m), (11, .int .i64 (sumW ws (dn i))), (12, .int .i64 (maxW ws (dn i))), (27, s), (28, .int .i64 2), (29, .int .i64 i)])
    (fun _ => [Tok.own s [x, y], Tok.blk b [vP, vW]]) (fun i => i ≤ 2) (fun i => 2 - i) 0 (Nat.zero_le _) (by rw [f0]; exact sE) sT ?_
  intro i hi
  repeat' (first | refine go ⟨?_⟩ | (refine isCond ?_; refine WP.condD rfl (fun hc => ?_) (fun hc => ?_)) | (refine isGuard ?_; refine WPL.splitD rfl rfl (fun hc => ?_) (fun hc => ?_)))
  · have hi2 : i < 2 := by omega
    obtain ⟨g1, g2, g3, g4, g5, g6, g7, g8, g9, g10, g11⟩ := f1 i hi2
    refine WP.loop (σ := Nat) (fun k => [(3, .pointer (some ⟨b, 0, none⟩)), (9, .int .i64 m), (11, .int .i64 (sumW ws (dn i ++ (lst i).take k))), (12, .int .i64 (maxW ws (dn i ++ (lst i).take k))), (15, .int .i64 ((lst i).getD k 0)), (27, s), (28, .int .i64 2), (29, .int .i64 i)])
      (fun _ => [Tok.own s [x, y], Tok.blk b [vP, vW]]) (fun k => k ≤ jj i) (fun k => jj i - k) 0 (Nat.zero_le _) ?_ sT ?_
    · simp only [List.take_zero, List.append_nil, ← g8]
      exact sE
    intro k hk
    have gk := g5 _ (getD_mem (l := lst i) (i := k) (by omega))
    have gw := g4 _ (getD_mem (l := lst i) (i := k) (by omega))
    have sb := sumW_bound (ws := ws) (l := dn i ++ (lst i).take k) (fun n hn => by
      rcases List.mem_append.1 hn with h | h
      · exact g11 n h
      · exact g4 n (List.mem_of_mem_take h))
    have tl := List.length_take_le k (lst i)
    rw [List.length_append] at sb
    repeat' (first | refine go ⟨?_⟩ | (refine isCond ?_; refine WP.condD rfl (fun hc => ?_) (fun hc => ?_)) | (refine isGuard ?_; refine WPL.splitD rfl rfl (fun hc => ?_) (fun hc => ?_)))
    · have hkj : k < jj i := by
        rcases Nat.lt_or_eq_of_le hk with h | h
        · exact h
        · exact absurd (h ▸ g2) ‹(lst i).getD k 0 ≠ m›
      have hklt : k < (lst i).length := by omega
      have e1 : sumW ws (dn i ++ (lst i).take (k + 1)) = sumW ws (dn i ++ (lst i).take k) + ws.getD ((lst i).getD k 0).toNat 0 := by
        rw [take_snoc hklt, ← List.append_assoc, sumW_snoc]
      have e2 : maxW ws (dn i ++ (lst i).take (k + 1)) = max (maxW ws (dn i ++ (lst i).take k)) (ws.getD ((lst i).getD k 0).toNat 0) := by
        rw [take_snoc hklt, ← List.append_assoc, maxW_snoc]
      have e2' : maxW ws (dn i ++ (lst i).take (k + 1)) = ws.getD ((lst i).getD k 0).toNat 0 := by
        rw [e2]; omega
      have e3 := g6 k (by omega)
      rw [← e1, ← e3, ← e2']
      refine PE.again (k + 1) ?_ ?_ sE sT
      · exact hkj
      · omega
    · have hkj : k < jj i := by
        rcases Nat.lt_or_eq_of_le hk with h | h
        · exact h
        · exact absurd (h ▸ g2) ‹(lst i).getD k 0 ≠ m›
      have hklt : k < (lst i).length := by omega
      have e1 : sumW ws (dn i ++ (lst i).take (k + 1)) = sumW ws (dn i ++ (lst i).take k) + ws.getD ((lst i).getD k 0).toNat 0 := by
        rw [take_snoc hklt, ← List.append_assoc, sumW_snoc]
      have e2 : maxW ws (dn i ++ (lst i).take (k + 1)) = max (maxW ws (dn i ++ (lst i).take k)) (ws.getD ((lst i).getD k 0).toNat 0) := by
        rw [take_snoc hklt, ← List.append_assoc, maxW_snoc]
      have e2' : maxW ws (dn i ++ (lst i).take (k + 1)) = maxW ws (dn i ++ (lst i).take k) := by
        rw [e2]; omega
      have e3 := g6 k (by omega)
      rw [← e1, ← e3, ← e2']
      refine PE.again (k + 1) ?_ ?_ sE sT
      · exact hkj
      · omega
    · have hkj : k = jj i := by
        rcases Nat.lt_or_eq_of_le hk with h | h
        · exact absurd (Decidable.not_not.1 hc) (g3 k h)
        · exact h
      subst hkj
      rw [← g9]
      try refine go ⟨?_⟩
      refine PE.again (i + 1) ?_ ?_ sE sT
      · omega
      · omega
  · refine PE.ret3 (T := []) (T' := []) rfl rV ?_ sT
    have hi2 : i = 2 := by omega
    subst hi2
    exact ⟨hfin, rfl⟩
end Go.Proofs.Ytjmbnhohfhpopaa
