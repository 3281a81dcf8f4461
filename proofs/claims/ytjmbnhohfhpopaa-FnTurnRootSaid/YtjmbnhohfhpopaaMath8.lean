/- Rooted trees: the weights of a way behind a turn. -/
import Derived.Test.YtjmbnhohfhpopaaMath7
namespace Go.Proofs.Ytjmbnhohfhpopaa
open Go

theorem maxW_mem {ws : List Int} : ∀ {l : List Int} {n : Int}, n ∈ l → ws.getD n.toNat 0 ≤ maxW ws l
  | a :: l, n, h => by
    have e : maxW ws (a :: l) = max (maxW ws [a]) (maxW ws l) := maxW_append ws [a] l
    have e3 : maxW ws [a] = max 0 (ws.getD a.toNat 0) := rfl
    rcases List.mem_cons.1 h with rfl | h
    · omega
    · have := maxW_mem (ws := ws) h; omega
theorem sumW_congr {ws ws' : List Int} {l : List Int} (h : ∀ n ∈ l, ws'.getD n.toNat 0 = ws.getD n.toNat 0) : sumW ws' l = sumW ws l := by
  unfold sumW
  rw [List.map_congr_left h]

theorem Turned.backSum {ps ws ps' ws' l : List Int} {x : Int} (T : Turned ps ws ps' ws' l x) : ∀ (j : Nat), j < l.length → sumW ws' (l.take (j + 1)).reverse = sumW ws (l.take j) ∧ ∀ n ∈ (l.take (j + 1)).reverse, n = x ∨ ∃ t, t < j ∧ ws'.getD n.toNat 0 = ws.getD (l.getD t 0).toNat 0
  | 0, hj => by
    have e : l.take (0 + 1) = [x] := by rw [take_snoc hj, T.head]; rfl
    rw [e]
    refine ⟨?_, fun n hn => .inl (by simpa using hn)⟩
    have : sumW ws' [x].reverse = ws'.getD x.toNat 0 := by simp [sumW]
    rw [this, T.topw]; simp [sumW]
  | j + 1, hj => by
    obtain ⟨i1, i2⟩ := T.backSum j (by omega)
    have e : (l.take (j + 1 + 1)).reverse = l.getD (j + 1) 0 :: (l.take (j + 1)).reverse := by rw [take_snoc hj, List.reverse_append]; rfl
    rw [e]
    refine ⟨?_, fun n hn => ?_⟩
    · have e2 : sumW ws' (l.getD (j + 1) 0 :: (l.take (j + 1)).reverse) = ws'.getD (l.getD (j + 1) 0).toNat 0 + sumW ws' (l.take (j + 1)).reverse := by simp [sumW]
      rw [e2, i1, T.onw j hj, take_snoc (by omega : j < l.length), sumW_snoc, Int.add_comm]
    · rcases List.mem_cons.1 hn with rfl | hn
      · exact .inr ⟨j, by omega, T.onw j hj⟩
      · rcases i2 n hn with h | ⟨t, h1, h2⟩
        · exact .inl h
        · exact .inr ⟨t, by omega, h2⟩

theorem Turned.path {ps ws ps' ws' : List Int} {x y m : Int} (h : NV ps ws x) (T : Turned ps ws ps' ws' (up ps ps.length x) x) (hy : NV ps ws y) (hm : meetF ps x y = some m) :
    sumW ws' (up ps' ps'.length y) = sumW ws (wayL ps x y m) ∧ (∀ n ∈ up ps' ps'.length y, ws'.getD n.toNat 0 ≤ maxW ws (wayL ps x y m)) ∧ rootV ps' y = x := by
  have hm' := meet_symm h hy hm
  have hu := (T.ups h hy).1 m hm'
  have hf := hm'
  unfold meetF at hf
  obtain ⟨p1, A, B, e1, e2⟩ := List.find?_eq_some_iff_append.1 hf
  obtain ⟨j, hj, ej, ejn⟩ := first_at (l := up ps ps.length x) (m := m) (by simpa using p1)
  have e4 : pre (up ps ps.length x) m = (up ps ps.length x).take j := pre_take hj ejn ej
  have hnd := up_nodup hy.ends
  have e3 : pre (up ps ps.length y) m = A := by
    rw [e1] at hnd ⊢
    have hA : ∀ a ∈ A, a ≠ m := fun a ha => (List.nodup_append.1 hnd).2.2 a ha m (by simp)
    unfold pre
    rw [List.takeWhile_append_of_pos (by simpa using hA), List.takeWhile_cons, if_neg (by simp), List.append_nil]
  have e5 : m :: (pre (up ps ps.length x) m).reverse = ((up ps ps.length x).take (j + 1)).reverse := by rw [e4, take_snoc hj, List.reverse_append, ej]; rfl
  rw [e5, e3] at hu
  have hAn : ∀ a ∈ A, 0 ≤ a := fun a ha => (up_node hy.1.allN ps.length y hy.inN a (by rw [e1]; simp [ha])).1
  have hAo : ∀ a ∈ A, ws'.getD a.toNat 0 = ws.getD a.toNat 0 := fun a ha => T.offw a (hAn a ha) (by simpa using e2 a ha)
  obtain ⟨b1, b2⟩ := T.backSum j hj
  unfold wayL
  rw [e3, e4]
  refine ⟨?_, fun n hn => ?_, ?_⟩
  · rw [hu, sumW_append, sumW_append, b1, sumW_congr hAo, Int.add_comm]
  · rw [maxW_append]
    rw [hu] at hn
    rcases List.mem_append.1 hn with hn | hn
    · have := maxW_mem (ws := ws) hn
      rw [hAo n hn]; omega
    · rcases b2 n hn with rfl | ⟨t, t1, t2⟩
      · have := maxW_nonneg ws A
        rw [T.topw]; omega
      · rw [t2]
        have hmem : (up ps ps.length x).getD t 0 ∈ (up ps ps.length x).take j := by
          have := getD_mem (l := (up ps ps.length x).take j) (i := t) (by rw [List.length_take]; omega)
          rwa [List.getD_eq_getElem?_getD, List.getElem?_take_of_lt t1, ← List.getD_eq_getElem?_getD] at this
        have := maxW_mem (ws := ws) hmem
        omega
  · have e6 : ((up ps ps.length x).take (j + 1)).reverse = ((up ps ps.length x).take (j + 1)).tail.reverse ++ [x] := by
      have hh := T.head
      generalize up ps ps.length x = l at *
      cases l with
      | nil => simp at hj
      | cons a t =>
        have : a = x := hh
        subst this
        simp
    unfold rootV
    rw [hu, e6, ← List.append_assoc]
    exact getD_last_append _ _
end Go.Proofs.Ytjmbnhohfhpopaa
