/- Rooted trees: plain facts about the way up. -/
import Derived.Test.YtjmbnhohfhpopaaRoot4
namespace Go.Proofs.Ytjmbnhohfhpopaa
open Go

theorem ends_mono {ps : List Int} : ∀ {k m : Nat} {x : Int}, k ≤ m → ends ps k x = true → ends ps m x = true
  | 0, m, x, _, h => by
    have : x = -1 := by simpa [ends] using h
    subst this; exact ends_root ps m
  | k + 1, 0, x, hk, _ => by omega
  | k + 1, m + 1, x, hk, h => by
    unfold ends at h ⊢
    rcases Bool.or_eq_true_iff.1 h with h | h
    · rw [h]; rfl
    · rw [ends_mono (by omega) h]; simp
theorem up_stab {ps : List Int} : ∀ {k m : Nat} {x : Int}, k ≤ m → ends ps k x = true → up ps m x = up ps k x
  | 0, m, x, _, h => by
    have : x = -1 := by simpa [ends] using h
    subst this; rw [up_root, up_root]
  | k + 1, 0, x, hk, _ => by omega
  | k + 1, m + 1, x, hk, h => by
    by_cases hx : x = -1
    · subst hx; rw [up_root, up_root]
    · unfold ends at h
      rw [decide_eq_false hx, Bool.false_or] at h
      rw [up, up, if_neg hx, if_neg hx, up_stab (by omega) h]
theorem up_suf {ps : List Int} : ∀ {k : Nat} {x y : Int}, ends ps k x = true → y ∈ up ps k x → ends ps k y = true ∧ ∃ l, up ps k x = l ++ up ps k y
  | 0, x, y, _, h => by simp [up] at h
  | k + 1, x, y, he, h => by
    have he' := he
    unfold up at h
    by_cases hx : x = -1
    · rw [if_pos hx] at h; cases h
    · rw [if_neg hx] at h
      rcases List.mem_cons.1 h with rfl | h
      · exact ⟨he, [], rfl⟩
      · unfold ends at he
        rw [decide_eq_false hx, Bool.false_or] at he
        obtain ⟨h1, l, h2⟩ := up_suf he h
        refine ⟨ends_mono (by omega) h1, x :: l, ?_⟩
        rw [up_stab (Nat.le_succ k) h1, up, if_neg hx, h2]; rfl
theorem up_nodup {ps : List Int} : ∀ {k : Nat} {x : Int}, ends ps k x = true → (up ps k x).Nodup
  | 0, x, _ => by simp [up]
  | k + 1, x, he => by
    by_cases hx : x = -1
    · subst hx; rw [up_root]; simp
    · have he' := he
      unfold ends at he
      rw [decide_eq_false hx, Bool.false_or] at he
      rw [up, if_neg hx, List.nodup_cons]
      refine ⟨fun hm => ?_, up_nodup he⟩
      obtain ⟨h1, l, h2⟩ := up_suf he hm
      have h3 := up_stab (Nat.le_succ k) h1
      rw [up, if_neg hx] at h3
      have := congrArg List.length h2
      rw [List.length_append, ← h3, List.length_cons] at this
      omega
theorem pigeon : ∀ {n : Nat} {l : List Int}, (∀ a ∈ l, 0 ≤ a ∧ a < n) → l.Nodup → l.length ≤ n
  | 0, l, h, _ => by
    cases l with
    | nil => simp
    | cons a l => have := h a (by simp); omega
  | n + 1, l, h, hd => by
    have h1 := pigeon (n := n) (l := l.erase (n : Int)) (fun a ha => by
      have := (hd.mem_erase_iff).1 ha
      have h2 := h a this.2
      have h3 := this.1
      omega) (hd.erase _)
    have := List.length_erase (a := (n : Int)) (l := l)
    split at this <;> omega
theorem ends_len {ps : List Int} : ∀ {k : Nat} {x : Int}, ends ps k x = true → ends ps (up ps k x).length x = true
  | 0, x, h => by simpa [up] using h
  | k + 1, x, h => by
    by_cases hx : x = -1
    · subst hx; exact ends_root _ _
    · unfold ends at h
      rw [decide_eq_false hx, Bool.false_or] at h
      rw [up, if_neg hx, List.length_cons]
      unfold ends
      rw [ends_len h]; simp
theorem ends_all {ps : List Int} (hN : allN ps) {k : Nat} {x : Int} (hx : inN ps x) (h : ends ps k x = true) : ends ps ps.length x = true :=
  ends_mono (pigeon (up_node hN k x hx) (up_nodup h)) (ends_len h)
end Go.Proofs.Ytjmbnhohfhpopaa
