/- Rooted trees: the walk of WeightBetween. Conditions: those of the contract. -/
import Derived.Test.YtjmbnhohfhpopaaRoot5
import Derived.Test.YtjmbnhohfhpopaaRoot4
namespace Go.Proofs.Ytjmbnhohfhpopaa
open Go
set_option linter.unusedVariables false set_option linter.unusedSimpArgs false attribute [local irreducible] Tok.own Tok.blk RL Rd eptr WP WPL PE WPD WPO Op1 OpE Tri Again Mid Exit.then Exit.inBlock bodyPost RP Code.wp wpList isOwn OneM One
set_option maxHeartbeats 8000000

theorem up_next (ps : List Int) : ∀ (n : Nat) (x : Int) (k : Nat), k + 1 < (up ps n x).length → (up ps n x).getD (k + 1) 0 = ps.getD ((up ps n x).getD k 0).toNat 0
  | 0, _, _, h => by simp [up] at h
  | n + 1, x, k, h => by
    unfold up at h ⊢
    by_cases h1 : x = -1
    · rw [if_pos h1] at h; simp at h
    · rw [if_neg h1] at h ⊢
      cases k with
      | zero =>
        have h2 : 0 < (up ps n (ps.getD x.toNat 0)).length := by simpa using h
        show (up ps n (ps.getD x.toNat 0)).getD 0 0 = ps.getD x.toNat 0
        cases n with
        | zero => simp [up] at h2
        | succ n =>
          unfold up at h2 ⊢
          by_cases h3 : ps.getD x.toNat 0 = -1
          · rw [if_pos h3] at h2; simp at h2
          · rw [if_neg h3]; rfl
      | succ k =>
        have := up_next ps n (ps.getD x.toNat 0) k (by simpa using h)
        exact this

/-- The nodes in front of m. -/
def pre (l : List Int) (m : Int) : List Int := l.takeWhile (fun n => decide (n ≠ m))
def sumW (ws : List Int) (l : List Int) : Int := (l.map fun n => ws.getD n.toNat 0).sum
def maxW (ws : List Int) (l : List Int) : Int := l.foldl (fun a n => max a (ws.getD n.toNat 0)) 0

theorem pre_take {l : List Int} {m : Int} {j : Nat} (hj : j < l.length) (hno : ∀ i, i < j → l.getD i 0 ≠ m) (hyes : l.getD j 0 = m) : pre l m = l.take j := by
  induction l generalizing j with
  | nil => simp at hj
  | cons a l ih =>
    cases j with
    | zero =>
      have h : a = m := hyes
      simp [pre, List.takeWhile_cons, h]
    | succ j =>
      have h : a ≠ m := hno 0 (by omega)
      have := ih (j := j) (by simpa using hj) (fun i hi => hno (i + 1) (by omega)) hyes
      simp only [pre] at this ⊢
      rw [List.takeWhile_cons, if_pos (by simpa using h), this, List.take_succ_cons]

theorem sumW_snoc (ws l : List Int) (n : Int) : sumW ws (l ++ [n]) = sumW ws l + ws.getD n.toNat 0 := by simp [sumW]
theorem maxW_snoc (ws l : List Int) (n : Int) : maxW ws (l ++ [n]) = max (maxW ws l) (ws.getD n.toNat 0) := by simp [maxW]
theorem sumW_bound {ws : List Int} : ∀ {l : List Int}, (∀ n ∈ l, 0 ≤ ws.getD n.toNat 0 ∧ ws.getD n.toNat 0 ≤ 999) → 0 ≤ sumW ws l ∧ sumW ws l ≤ 999 * l.length
  | [], _ => by simp [sumW]
  | n :: l, h => by
    have h1 := h n (by simp)
    have h2 := sumW_bound (l := l) (fun m hm => h m (by simp [hm]))
    have : sumW ws (n :: l) = ws.getD n.toNat 0 + sumW ws l := by simp [sumW]
    rw [this, List.length_cons]; omega

/-- The first place of a number in a list that has it. -/
theorem first_at {l : List Int} {m : Int} (h : m ∈ l) : ∃ j, j < l.length ∧ l.getD j 0 = m ∧ ∀ i, i < j → l.getD i 0 ≠ m := by
  induction l with
  | nil => cases h
  | cons a l ih =>
    by_cases e : a = m
    · exact ⟨0, by simp, e, by omega⟩
    · rcases List.mem_cons.1 h with rfl | h
      · exact absurd rfl e
      · obtain ⟨j, h1, h2, h3⟩ := ih h
        refine ⟨j + 1, by simpa using h1, h2, fun i hi => ?_⟩
        cases i with
        | zero => exact e
        | succ i => exact h3 i (by omega)

theorem take_snoc {l : List Int} {k : Nat} (h : k < l.length) : l.take (k + 1) = l.take k ++ [l.getD k 0] := by
  rw [List.take_succ_eq_append_getElem h, List.getD_eq_getElem?_getD, List.getElem?_eq_getElem h]; rfl

def wayL (ps : List Int) (x y m : Int) : List Int := pre (up ps ps.length x) m ++ pre (up ps ps.length y) m
def wbV (ps ws : List Int) (x y : Int) (r : Value) : Prop :=
  (∃ m, meetOk ps ws x y ∧ meetF ps x y = some m ∧ r = .tuple #[.int .i64 (sumW ws (wayL ps x y m)), .int .i64 (maxW ws (wayL ps x y m)), .bool true]) ∨
  (¬ (meetOk ps ws x y ∧ (meetF ps x y).isSome = true) ∧ r = .tuple #[.int .i64 0, .int .i64 0, .bool false])

theorem meetF_mem {ps : List Int} {x y m : Int} (h : meetF ps x y = some m) : m ∈ up ps ps.length x ∧ m ∈ up ps ps.length y := by
  unfold meetF at h
  exact ⟨List.mem_of_find?_eq_some h, by simpa using List.find?_some h⟩

theorem NV.wt {ps ws : List Int} {x : Int} (h : NV ps ws x) : ∀ n ∈ up ps ps.length x, 0 ≤ ws.getD n.toNat 0 ∧ ws.getD n.toNat 0 ≤ 999 := fun n hn => by
  have h1 := up_node h.1.allN ps.length x h.inN n hn
  have h2 := h.1.2.2.2.1 n.toNat (by omega)
  exact ⟨h2.2.2.1, h2.2.2.2.1⟩

theorem c_WeightBetween (w : World) (vP vW : Value) (ps ws : List Int) (x y : Int) (hP : RL w vP ps) (hW : RL w vW ws) (hlp : ps.length ≤ 1099511627776) (hlw : ws.length ≤ 1099511627776) :
    Tri Try.prog 36 [.agg #[vP, vW], .int .i64 x, .int .i64 y] w [] fun r T => wbV ps ws x y r ∧ T = [] := by
  refine Tri.intro (hf := Try.func36) (hb := rfl) (hn := Try.ntmps36) (Nat.le_of_ble_eq_true rfl) ?_
  try refine go ⟨?_⟩
  refine WPL.eff (OpE.box rfl) rfl rfl ?_; rintro _ _ ⟨b, rfl, rfl⟩
  try refine go ⟨?_⟩
  refine WPL.eff (OpE.call lO (fun w hw => c_MeetOf _ vP vW ps ws x y (Rd.at rD hw) (Rd.at rD hw) hlp hlw)) rfl rfl ?_
  rintro r _ ⟨T, ⟨hr, rfl⟩, rfl⟩
  rcases hr with ⟨m, ⟨hx, hy⟩, hm, rfl⟩ | ⟨hno, rfl⟩
  case inr =>
    try refine go ⟨?_⟩
    refine PE.ret3 (T := []) (T' := []) rfl rV ?_ sT
    exact ⟨.inr ⟨hno, rfl⟩, rfl⟩
  obtain ⟨hm1, hm2⟩ := meetF_mem hm
  have hfin : wbV ps ws x y (.tuple #[.int .i64 (sumW ws (wayL ps x y m)), .int .i64 (maxW ws (wayL ps x y m)), .bool true]) := .inl ⟨m, ⟨hx, hy⟩, hm, rfl⟩
  obtain ⟨j1, a1, a2, a3⟩ := first_at hm1
  obtain ⟨j2, b1, b2, b3⟩ := first_at hm2
  have p1 := pre_take a1 a3 a2
  have p2 := pre_take b1 b3 b2
  have w1 := hx.wt
  have w2 := hy.wt
  have n1 := up_node hx.1.allN ps.length x hx.inN
  have n2 := up_node hy.1.allN ps.length y hy.inN
  have s1 := fun k => up_next ps ps.length x k
  have s2 := fun k => up_next ps ps.length y k
  have l1 := up_length ps ps.length x
  have l2 := up_length ps ps.length y
  have hd1 := hx.up_head
  have hd2 := hy.up_head
  have hn16 := hx.1.2.1
  have hwl := hx.1.2.2.1
  unfold wayL at hfin
  rw [p1, p2] at hfin
  clear p1 p2 hm1 hm2 hm
  generalize up ps ps.length x = u1 at *
  generalize up ps ps.length y = u2 at *
  try refine go ⟨?_⟩
  refine WPL.eff (OpE.buildSlice [x, y] pA rfl (by decide)) rfl rfl ?_; rintro s _ rfl
  try refine go ⟨?_⟩
  let lst : Nat → List Int := fun i => if i = 0 then u1 else u2
  let jj : Nat → Nat := fun i => if i = 0 then j1 else j2
  let dn : Nat → List Int := fun i => if i = 0 then [] else if i = 1 then u1.take j1 else u1.take j1 ++ u2.take j2
  have f1 : ∀ i, i < 2 → jj i < (lst i).length ∧ (lst i).getD (jj i) 0 = m ∧ (∀ k, k < jj i → (lst i).getD k 0 ≠ m) ∧ (∀ n ∈ lst i, 0 ≤ ws.getD n.toNat 0 ∧ ws.getD n.toNat 0 ≤ 999) ∧
      (∀ n ∈ lst i, 0 ≤ n ∧ n < ps.length) ∧ (∀ k, k + 1 < (lst i).length → (lst i).getD (k + 1) 0 = ps.getD ((lst i).getD k 0).toNat 0) ∧ (lst i).length ≤ 16 ∧
      ([x, y] : List Int).getD i 0 = (lst i).getD 0 0 ∧ dn (i + 1) = dn i ++ (lst i).take (jj i) ∧ (dn i).length ≤ 16 ∧ (∀ n ∈ dn i, 0 ≤ ws.getD n.toNat 0 ∧ ws.getD n.toNat 0 ≤ 999) := by
    intro i hi
    have hi' : i = 0 ∨ i = 1 := by omega
    rcases hi' with rfl | rfl
    · exact ⟨a1, a2, a3, w1, n1, s1, by show u1.length ≤ 16; omega, hd1.symm, by simp [dn, lst, jj], by simp [dn], by simp [dn]⟩
    · refine ⟨b1, b2, b3, w2, n2, s2, by show u2.length ≤ 16; omega, hd2.symm, by simp [dn, lst, jj], ?_, ?_⟩
      · have := List.length_take_le j1 u1; simp only [dn]; simp; omega
      · intro n hn
        exact w1 n (List.mem_of_mem_take (by simpa [dn] using hn))
  have f2 : dn 2 = u1.take j1 ++ u2.take j2 := by simp [dn]
  have f0 : dn 0 = [] := rfl
  rw [← f2] at hfin
  clear_value lst jj dn
  clear a1 a2 a3 b1 b2 b3 w1 w2 n1 n2 s1 s2 hd1 hd2 f2
  refine WP.loop (σ := Nat) (fun i => [(3, .pointer (some ⟨b, 0, none⟩)), (9, .int .i64 m), (11, .int .i64 (sumW ws (dn i))), (12, .int .i64 (maxW ws (dn i))), (26, s), (27, .int .i64 2), (28, .int .i64 i)])
    (fun _ => [Tok.own s [x, y], Tok.blk b [vP, vW]]) (fun i => i ≤ 2) (fun i => 2 - i) 0 (Nat.zero_le _) (by rw [f0]; exact sE) sT ?_
  intro i hi
  repeat' (first | refine go ⟨?_⟩ | (refine isCond ?_; refine WP.condD rfl (fun hc => ?_) (fun hc => ?_)) | (refine isGuard ?_; refine WPL.splitD rfl rfl (fun hc => ?_) (fun hc => ?_)))
  · have hi2 : i < 2 := by omega
    obtain ⟨g1, g2, g3, g4, g5, g6, g7, g8, g9, g10, g11⟩ := f1 i hi2
    refine WP.loop (σ := Nat) (fun k => [(3, .pointer (some ⟨b, 0, none⟩)), (9, .int .i64 m), (11, .int .i64 (sumW ws (dn i ++ (lst i).take k))), (12, .int .i64 (maxW ws (dn i ++ (lst i).take k))), (14, .int .i64 ((lst i).getD k 0)), (26, s), (27, .int .i64 2), (28, .int .i64 i)])
      (fun _ => [Tok.own s [x, y], Tok.blk b [vP, vW]]) (fun k => k ≤ jj i) (fun k => jj i - k) 0 (Nat.zero_le _) ?_ sT ?_
    · simp only [List.take_zero, List.append_nil, ← g8]
      exact sE
    intro k hk
    have gk := g5 _ (getD_mem (l := lst i) (i := k) (by omega))
    have gw := g4 _ (getD_mem (l := lst i) (i := k) (by omega))
    have sb := sumW_bound (ws := ws) (l := dn i ++ (lst i).take k) (fun n hn => by
      rcases List.mem_append.1 hn with h | h
      · exact g11 n h
      · exact g4 n (List.mem_of_mem_take h))
    have tl := List.length_take_le k (lst i)
    rw [List.length_append] at sb
    repeat' (first | refine go ⟨?_⟩ | (refine isCond ?_; refine WP.condD rfl (fun hc => ?_) (fun hc => ?_)) | (refine isGuard ?_; refine WPL.splitD rfl rfl (fun hc => ?_) (fun hc => ?_)))
    · have hkj : k < jj i := by
        rcases Nat.lt_or_eq_of_le hk with h | h
        · exact h
        · exact absurd (h ▸ g2) hc
      have hklt : k < (lst i).length := by omega
      have e1 : sumW ws (dn i ++ (lst i).take (k + 1)) = sumW ws (dn i ++ (lst i).take k) + ws.getD ((lst i).getD k 0).toNat 0 := by
        rw [take_snoc hklt, ← List.append_assoc, sumW_snoc]
      have e2 : maxW ws (dn i ++ (lst i).take (k + 1)) = max (maxW ws (dn i ++ (lst i).take k)) (ws.getD ((lst i).getD k 0).toNat 0) := by
        rw [take_snoc hklt, ← List.append_assoc, maxW_snoc]
      have e3 := g6 k (by omega)
      refine WP.draw [Tok.blk b [vP, vW]] mixed ?_
      refine WPD.take 0 rfl oP rfl rfl sT kR kR kR xQP ?_
      refine WPD.take 1 rfl oP rfl rfl sT kR kR kR xQP ?_
      refine WPD.take 2 rfl oP rfl rfl sT kR kR kR xQP ?_
      refine WPD.take 3 rfl oP rfl rfl sT kR kR kR xQP ?_
      refine WPD.take 4 rfl oP rfl rfl sT kR kR kR xQP ?_
      refine WPD.take 5 rfl oP rfl rfl sT kR kR kR xQP ?_
      refine WPD.take 6 rfl oP rfl rfl sT kR kR kR xQP ?_
      refine WPD.take 7 rfl oP rfl rfl sT kR kR kR xQP ?_
      refine WPD.take 8 rfl oP rfl rfl sT kR kR kR xQP ?_
      refine WPD.take 9 rfl oP rfl rfl sT kR kR kR xQP ?_
      refine WPD.take 10 rfl oP rfl rfl sT kR kR kR xQP ?_
      refine WPD.take 11 rfl oP rfl rfl sT kR kR kR xQP ?_
      refine WPD.take 12 rfl oP rfl rfl sT kR kR kR xQP ?_
      refine WPD.take 13 rfl oP rfl rfl sT kR kR kR xQP ?_
      refine WPD.take 14 rfl oP rfl rfl sT kR kR kR xQP ?_
      refine WPD.take 15 rfl oP rfl rfl sT kR kR kR xQP ?_
      refine WPD.done kR ?_
      try refine go ⟨?_⟩
      rw [← e1, ← e2, ← e3]
      refine PE.again (k + 1) ?_ ?_ sE sT
      · exact hkj
      · omega
    · have hkj : k = jj i := by
        rcases Nat.lt_or_eq_of_le hk with h | h
        · exact absurd (Decidable.not_not.1 hc) (g3 k h)
        · exact h
      subst hkj
      rw [← g9]
      try refine go ⟨?_⟩
      refine PE.again (i + 1) ?_ ?_ sE sT
      · omega
      · omega
  · refine PE.ret3 (T := []) (T' := []) rfl rV ?_ sT
    have hi2 : i = 2 := by omega
    subst hi2
    exact ⟨hfin, rfl⟩
end Go.Proofs.Ytjmbnhohfhpopaa
