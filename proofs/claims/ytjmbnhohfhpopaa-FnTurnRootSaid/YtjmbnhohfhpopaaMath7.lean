/- Rooted trees: ways up in turned trees. -/
import Derived.Test.YtjmbnhohfhpopaaMath6
namespace Go.Proofs.Ytjmbnhohfhpopaa
open Go

theorem Turned.out {ps ws ps' ws' l : List Int} {x : Int} (T : Turned ps ws ps' ws' l x) (hN : allN ps) : ∀ {k : Nat} {i : Int}, inN ps i → ends ps k i = true → (∀ z ∈ up ps k i, z ∉ l) →
    ends ps' k i = true ∧ up ps' k i = up ps k i
  | 0, i, _, h, _ => ⟨h, by simp [up]⟩
  | k + 1, i, hi, h, hm => by
    by_cases h1 : i = -1
    · subst h1
      exact ⟨ends_root _ _, by rw [up_root, up_root]⟩
    · have h' := h
      unfold ends at h'
      rw [decide_eq_false h1, Bool.false_or] at h'
      rw [up, if_neg h1] at hm
      have hi0 : 0 ≤ i := by have := hi.1; omega
      have e := T.off i hi0 (hm i (by simp))
      obtain ⟨i1, i2⟩ := T.out hN (hN.step hi h1) h' (fun z hz => hm z (List.mem_cons_of_mem _ hz))
      exact ⟨by unfold ends; rw [e, i1, Bool.or_true], by rw [up, if_neg h1, e, i2, up, if_neg h1]⟩

theorem Turned.way {ps ws ps' ws' l : List Int} {x : Int} (T : Turned ps ws ps' ws' l x) (hN : allN ps) {j : Nat} (hj : j < l.length) : ∀ {A B : List Int} {k c : Nat} {i : Int}, inN ps i → ends ps k i = true → up ps k i = A ++ l.getD j 0 :: B → (∀ z ∈ A, z ∉ l) →
    up ps' (A.length + (j + 1 + c)) i = A ++ (l.take (j + 1)).reverse ∧ ends ps' (A.length + (j + 1 + c)) i = true
  | [], B, k, c, i, hi, h, e, _ => by
    cases k with
    | zero => simp [up] at e
    | succ k =>
      have e' := e
      unfold up at e'
      by_cases h1 : i = -1
      · rw [if_pos h1] at e'; simp at e'
      · rw [if_neg h1] at e'
        simp only [List.nil_append, List.cons.injEq] at e'
        have := T.back j hj (j + 1 + c) (by omega)
        rw [e'.1]
        simpa using this
  | a :: A, B, k, c, i, hi, h, e, hA => by
    cases k with
    | zero => simp [up] at e
    | succ k =>
      have e' := e
      unfold up at e'
      by_cases h1 : i = -1
      · rw [if_pos h1] at e'; simp at e'
      · rw [if_neg h1] at e'
        simp only [List.cons_append, List.cons.injEq] at e'
        obtain ⟨ea, e2⟩ := e'
        unfold ends at h
        rw [decide_eq_false h1, Bool.false_or] at h
        have hi0 : 0 ≤ i := by have := hi.1; omega
        have eo := T.off i hi0 (by rw [ea]; exact hA a (by simp))
        obtain ⟨i1, i2⟩ := T.way hN hj (c := c) (hN.step hi h1) h e2 (fun z hz => hA z (List.mem_cons_of_mem _ hz))
        have hk : (a :: A).length + (j + 1 + c) = (A.length + (j + 1 + c)) + 1 := by rw [List.length_cons]; omega
        rw [hk]
        exact ⟨by rw [up, if_neg h1, eo, i1, ← ea]; rfl, by unfold ends; rw [eo, i2, Bool.or_true]⟩

theorem mem_index {l : List Int} {z : Int} (h : z ∈ l) : ∃ j, j < l.length ∧ l.getD j 0 = z := by
  obtain ⟨j, h1, h2, _⟩ := first_at h
  exact ⟨j, h1, h2⟩

theorem Turned.rv {ps ws ps' ws' : List Int} {x : Int} (h : NV ps ws x) (T : Turned ps ws ps' ws' (up ps ps.length x) x) : RV ps' ws' := by
  have hN := h.1.allN
  obtain ⟨r1, r2, r3, r4, r5⟩ := h.1
  have hok : ∀ i : Nat, i < ps.length → -1 ≤ ps'.getD i 0 ∧ ps'.getD i 0 < ps.length ∧ 0 ≤ ws'.getD i 0 ∧ ws'.getD i 0 ≤ 999 ∧ (ps'.getD i 0 = -1 → ws'.getD i 0 = 0) := fun i hi => by
    by_cases hm : (i : Int) ∈ up ps ps.length x
    · obtain ⟨j, hj, e⟩ := mem_index hm
      cases j with
      | zero =>
        have e2 : x = (i : Int) := by rw [← T.head]; exact e
        have a := T.top
        have b := T.topw
        rw [e2] at a b
        simp only [Int.toNat_natCast] at a b
        rw [a, b]; omega
      | succ j =>
        have a := T.on j hj
        have b := T.onw j hj
        rw [e] at a b
        simp only [Int.toNat_natCast] at a b
        have n1 := T.nodes _ (getD_mem (l := up ps ps.length x) (i := j) (by omega))
        have n2 := r4 ((up ps ps.length x).getD j 0).toNat (by omega)
        unfold okAt at n2
        rw [a, b]; omega
    · have a := T.off i (by omega) hm
      have b := T.offw i (by omega) hm
      simp only [Int.toNat_natCast] at a b
      rw [a, b]
      exact r4 i hi
  have hN' : allN ps' := fun i hi => by
    have := hok i (by rw [← T.len]; exact hi)
    unfold inN; rw [T.len]; exact ⟨this.1, this.2.1⟩
  refine ⟨by rw [T.len]; exact r1, by rw [T.len]; exact r2, by rw [T.len, T.lenw]; exact r3, fun i hi => ?_, fun i hi => ?_⟩
  · unfold okAt; rw [T.len] at hi ⊢; exact hok i hi
  · have hi' : i < ps.length := by rw [← T.len]; exact hi
    have hin : inN ps (i : Int) := ⟨by omega, by omega⟩
    have hin' : inN ps' (i : Int) := ⟨by omega, by rw [T.len]; omega⟩
    by_cases hm : ∃ z ∈ up ps ps.length (i : Int), z ∈ up ps ps.length x
    · have hs : (List.find? (fun n => decide (n ∈ up ps ps.length x)) (up ps ps.length (i : Int))).isSome = true := by
        rw [List.find?_isSome]
        obtain ⟨z, z1, z2⟩ := hm
        exact ⟨z, z1, by simpa using z2⟩
      obtain ⟨m, hf⟩ := Option.isSome_iff_exists.1 hs
      obtain ⟨p1, A, B, e1, e2⟩ := List.find?_eq_some_iff_append.1 hf
      obtain ⟨j, hj, ej⟩ := mem_index (l := up ps ps.length x) (by simpa using p1)
      rw [← ej] at e1
      exact ends_all hN' hin' (T.way hN hj (c := 0) hin (r5 i hi') e1 (fun z hz => by simpa using e2 z hz)).2
    · have := (T.out hN hin (r5 i hi') (fun z hz hz' => hm ⟨z, hz, hz'⟩)).1
      rw [T.len]; exact this

/-- The ways up behind a turn to x. -/
theorem Turned.ups {ps ws ps' ws' : List Int} {x i : Int} (h : NV ps ws x) (T : Turned ps ws ps' ws' (up ps ps.length x) x) (hi : NV ps ws i) :
    (∀ m, meetF ps i x = some m → up ps' ps'.length i = pre (up ps ps.length i) m ++ m :: (pre (up ps ps.length x) m).reverse) ∧
    (meetF ps i x = none → up ps' ps'.length i = up ps ps.length i) := by
  have hN := h.1.allN
  have hRV := T.rv h
  have hi' : NV ps' ws' i := ⟨hRV, hi.2.1, by rw [T.len]; exact hi.2.2⟩
  refine ⟨fun m hm => ?_, fun hm => ?_⟩
  · have hf := hm
    unfold meetF at hf
    obtain ⟨p1, A, B, e1, e2⟩ := List.find?_eq_some_iff_append.1 hf
    obtain ⟨j, hj, ej, ejn⟩ := first_at (l := up ps ps.length x) (m := m) (by simpa using p1)
    have e3 : pre (up ps ps.length i) m = A := by
      have hnd := up_nodup hi.ends
      rw [e1] at hnd ⊢
      have hA : ∀ a ∈ A, a ≠ m := fun a ha => (List.nodup_append.1 hnd).2.2 a ha m (by simp)
      unfold pre
      rw [List.takeWhile_append_of_pos (by simpa using hA), List.takeWhile_cons, if_neg (by simp), List.append_nil]
    have e4 : pre (up ps ps.length x) m = (up ps ps.length x).take j := pre_take hj ejn ej
    have e5 := e1
    rw [← ej] at e5
    have w := T.way hN hj (c := 0) hi.inN hi.ends e5 (fun z hz => by simpa using e2 z hz)
    have s := up_stab (m := ps'.length + (A.length + (j + 1 + 0))) (by omega) hi'.ends
    have s2 := up_stab (m := ps'.length + (A.length + (j + 1 + 0))) (by omega) w.2
    rw [← s, s2, w.1, e3, e4, take_snoc hj, List.reverse_append, ej]; rfl
  · have hno : ∀ z ∈ up ps ps.length i, z ∉ up ps ps.length x := fun z hz hz' => by
      have : (meetF ps i x).isSome = true := by
        unfold meetF
        rw [List.find?_isSome]
        exact ⟨z, hz, by simpa using hz'⟩
      rw [hm] at this; cases this
    rw [T.len]
    exact (T.out hN hi.inN hi.ends hno).2
end Go.Proofs.Ytjmbnhohfhpopaa
