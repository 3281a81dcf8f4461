/- Rooted trees: plain facts about cutting. -/
import Derived.Test.YtjmbnhohfhpopaaMath2
namespace Go.Proofs.Ytjmbnhohfhpopaa
open Go

theorem RL.nilI (w : World) : RL w (.slice none 0 0) ([] : List Int) := ⟨rfl, .inl ⟨rfl, rfl⟩⟩
theorem getD_set_ne {l : List Int} {i j : Nat} {v : Int} (h : i ≠ j) : (l.set i v).getD j 0 = l.getD j 0 := by
  rw [List.getD_eq_getElem?_getD, List.getD_eq_getElem?_getD, List.getElem?_set_ne h]
theorem getD_set_eq {l : List Int} {i : Nat} {v : Int} (h : i < l.length) : (l.set i v).getD i 0 = v := by
  rw [List.getD_eq_getElem?_getD, List.getElem?_set_self h]; rfl

theorem cut_up {ps : List Int} {c : Int} (hN : allN ps) (hc : 0 ≤ c ∧ c < ps.length) : ∀ {k : Nat} {x : Int}, inN ps x → ends ps k x = true →
    ends (ps.set c.toNat (-1)) k x = true ∧ (c ∉ up ps k x → up (ps.set c.toNat (-1)) k x = up ps k x) ∧ (c ∈ up ps k x → ∃ l, up (ps.set c.toNat (-1)) k x = l ++ [c])
  | 0, x, _, h => ⟨h, fun _ => by simp [up], fun h => by simp [up] at h⟩
  | k + 1, x, hx, h => by
    by_cases h1 : x = -1
    · subst h1
      exact ⟨ends_root _ _, fun _ => by rw [up_root, up_root], fun h => by rw [up_root] at h; cases h⟩
    · have h' := h
      unfold ends at h'
      rw [decide_eq_false h1, Bool.false_or] at h'
      by_cases h2 : x = c
      · subst h2
        have e : (ps.set x.toNat (-1)).getD x.toNat 0 = -1 := getD_set_eq (by omega)
        refine ⟨by unfold ends; rw [e, ends_root, Bool.or_true], fun hm => ?_, fun _ => ⟨[], ?_⟩⟩
        · exact absurd (by rw [up, if_neg h1]; simp) hm
        · rw [up, if_neg h1, e, up_root]; rfl
      · have hx0 : 0 ≤ x := by have := hx.1; omega
        have e : (ps.set c.toNat (-1)).getD x.toNat 0 = ps.getD x.toNat 0 := getD_set_ne (by omega)
        obtain ⟨i1, i2, i3⟩ := cut_up hN hc (hN.step hx h1) h'
        refine ⟨by unfold ends; rw [e, i1, Bool.or_true], fun hm => ?_, fun hm => ?_⟩
        · rw [up, if_neg h1] at hm ⊢
          rw [up, if_neg h1, e, i2 (fun h => hm (List.mem_cons_of_mem _ h))]
        · rw [up, if_neg h1] at hm
          have hm' : c ∈ up ps k (ps.getD x.toNat 0) := by
            rcases List.mem_cons.1 hm with h | h
            · exact absurd h.symm h2
            · exact h
          obtain ⟨l, el⟩ := i3 hm'
          exact ⟨x :: l, by rw [up, if_neg h1, e, el]; rfl⟩

theorem cut_RV {ps ws : List Int} {c : Int} (h : NV ps ws c) : RV (ps.set c.toNat (-1)) (ws.set c.toNat 0) := by
  obtain ⟨⟨r1, r2, r3, r4, r5⟩, h0, h1⟩ := h
  have hN : allN ps := fun i hi => ⟨(r4 i hi).1, (r4 i hi).2.1⟩
  refine ⟨by simpa using r1, by simpa using r2, by simpa using r3, fun i hi => ?_, fun i hi => ?_⟩
  · have hi' : i < ps.length := by simpa using hi
    unfold okAt
    rw [List.length_set]
    by_cases e : c.toNat = i
    · subst e
      rw [getD_set_eq hi', getD_set_eq (by omega)]
      omega
    · rw [getD_set_ne e, getD_set_ne e]; exact r4 i hi'
  · have hi' : i < ps.length := by simpa using hi
    rw [List.length_set]
    exact (cut_up hN ⟨h0, h1⟩ ⟨by omega, by omega⟩ (r5 i hi')).1
theorem cut_root {ps ws : List Int} {c x : Int} (h : NV ps ws c) (hx : NV ps ws x) : rootV (ps.set c.toNat (-1)) x = if c ∈ up ps ps.length x then c else rootV ps x := by
  obtain ⟨_, i2, i3⟩ := cut_up h.1.allN ⟨h.2.1, h.2.2⟩ hx.inN hx.ends
  unfold rootV
  rw [List.length_set]
  split
  · next hm =>
    obtain ⟨l, e⟩ := i3 hm
    rw [e]; exact getD_last_append l c
  · next hm => rw [i2 hm]
end Go.Proofs.Ytjmbnhohfhpopaa
