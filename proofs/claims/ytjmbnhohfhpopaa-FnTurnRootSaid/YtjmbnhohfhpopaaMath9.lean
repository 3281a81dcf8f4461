/- Rooted trees: turning twice. -/
import Derived.Test.YtjmbnhohfhpopaaMath8
import Derived.Test.YtjmbnhohfhpopaaHlp0
namespace Go.Proofs.Ytjmbnhohfhpopaa
open Go

/-- An edge with its weight, whichever end is the child. -/
def EW (ps ws : List Int) (a b v : Int) : Prop := (ps.getD a.toNat 0 = b ∧ ws.getD a.toNat 0 = v) ∨ (ps.getD b.toNat 0 = a ∧ ws.getD b.toNat 0 = v)

theorem NV.par {ps ws : List Int} {z : Int} (h : NV ps ws z) (hp : ps.getD z.toNat 0 ≠ -1) : NV ps ws (ps.getD z.toNat 0) := by
  have := h.1.2.2.2.1 z.toNat (by have := h.2.1; have := h.2.2; omega)
  unfold okAt at this
  exact ⟨h.1, by omega, this.2.1⟩
theorem NV.up_par {ps ws : List Int} {z : Int} (h : NV ps ws z) (hp : ps.getD z.toNat 0 ≠ -1) : up ps ps.length z = z :: up ps ps.length (ps.getD z.toNat 0) := by
  rw [h.up_cons]
  have h1 : 1 ≤ ps.length := h.1.1
  have h3 : z ≠ -1 := by have := h.2.1; omega
  have e := ends_step (ps := ps) (n := ps.length) (k := 0) (y := z) (by omega) h3
  simp only [Nat.sub_zero, Nat.zero_add] at e
  rw [up_stab (Nat.sub_le ps.length 1) (e ▸ h.ends)]

theorem forest_eq {p1 w1 p2 w2 : List Int} (h1 : RV p1 w1) (h2 : RV p2 w2) (hl : p1.length = p2.length) (hE : ∀ a b v : Int, 0 ≤ a → 0 ≤ b → EW p1 w1 a b v → EW p2 w2 a b v)
    (hR : ∀ z : Int, 0 ≤ z → z < p1.length → (p1.getD z.toNat 0 = -1 ↔ p2.getD z.toNat 0 = -1)) : p1 = p2 ∧ w1 = w2 := by
  have key : ∀ n, ∀ z : Int, NV p1 w1 z → (up p1 p1.length z).length ≤ n → p1.getD z.toNat 0 = p2.getD z.toNat 0 ∧ w1.getD z.toNat 0 = w2.getD z.toNat 0 := by
    intro n
    induction n with
    | zero => intro z hz hn; have := hz.up_pos; omega
    | succ n ih =>
      intro z hz hn
      have hb := hz.1.2.2.2.1 z.toNat (by have := hz.2.1; have := hz.2.2; omega)
      have hb2 := h2.2.2.2.1 z.toNat (by have := hz.2.1; have := hz.2.2; omega)
      unfold okAt at hb hb2
      by_cases hp : p1.getD z.toNat 0 = -1
      · have hp2 := (hR z hz.2.1 hz.2.2).1 hp
        rw [hp, hp2, hb.2.2.2.2 hp, hb2.2.2.2.2 hp2]
        exact ⟨rfl, rfl⟩
      · have hpar := hz.par hp
        have hup := hz.up_par hp
        have hlen := congrArg List.length hup
        rw [List.length_cons] at hlen
        have hi := ih _ hpar (by omega)
        have hE1 : EW p2 w2 z (p1.getD z.toNat 0) (w1.getD z.toNat 0) := hE _ _ _ hz.2.1 hpar.2.1 (.inl ⟨rfl, rfl⟩)
        rcases hE1 with ⟨e1, e2⟩ | ⟨e1, _⟩
        · exact ⟨e1.symm, e2.symm⟩
        · exfalso
          rw [← hi.1] at e1
          have hne : p1.getD (p1.getD z.toNat 0).toNat 0 ≠ -1 := by rw [e1]; have := hz.2.1; omega
          have hup2 := congrArg List.length (hpar.up_par hne)
          rw [e1, List.length_cons] at hup2
          omega
  have hw1 := h1.2.2.1
  have hw2 := h2.2.2.1
  have nv : ∀ i : Nat, i < p1.length → NV p1 w1 (i : Int) := fun i hi => ⟨h1, by omega, by omega⟩
  refine ⟨list_eq_of_getD hl fun i hi => ?_, list_eq_of_getD (by omega) fun i hi => ?_⟩
  · exact (key _ _ (nv i hi) (Nat.le_refl _)).1
  · exact (key _ _ (nv i (by omega)) (Nat.le_refl _)).2

theorem Turned.edge {ps ws ps' ws' : List Int} {x : Int} (h : NV ps ws x) (T : Turned ps ws ps' ws' (up ps ps.length x) x) {a b v : Int} (ha : 0 ≤ a) (hb : 0 ≤ b) (hp : ps.getD a.toNat 0 = b) (hw : ws.getD a.toNat 0 = v) : EW ps' ws' a b v := by
  by_cases hm : a ∈ up ps ps.length x
  · obtain ⟨j, hj, e⟩ := mem_index hm
    have hlt : j + 1 < (up ps ps.length x).length := by
      refine Nat.lt_of_not_le fun hle => ?_
      have : j = (up ps ps.length x).length - 1 := by omega
      have hr : a = rootV ps x := by rw [← e, this]; rfl
      have := root_top h
      rw [← hr, hp] at this
      omega
    have en := up_next ps ps.length x j hlt
    rw [e, hp] at en
    right
    have o1 := T.on j hlt
    have o2 := T.onw j hlt
    rw [en, e] at o1 o2
    exact ⟨o1, by rw [o2, hw]⟩
  · left
    exact ⟨by rw [T.off a ha hm, hp], by rw [T.offw a ha hm, hw]⟩
theorem Turned.ew {ps ws ps' ws' : List Int} {x : Int} (h : NV ps ws x) (T : Turned ps ws ps' ws' (up ps ps.length x) x) {a b v : Int} (ha : 0 ≤ a) (hb : 0 ≤ b) (he : EW ps ws a b v) : EW ps' ws' a b v := by
  rcases he with ⟨e1, e2⟩ | ⟨e1, e2⟩
  · exact T.edge h ha hb e1 e2
  · rcases T.edge h hb ha e1 e2 with h1 | h1
    · exact .inr h1
    · exact .inl h1
theorem Turned.edge' {ps ws ps' ws' : List Int} {x : Int} (h : NV ps ws x) (T : Turned ps ws ps' ws' (up ps ps.length x) x) {a b v : Int} (ha : 0 ≤ a) (hb : 0 ≤ b) (hp : ps'.getD a.toNat 0 = b) (hw : ws'.getD a.toNat 0 = v) : EW ps ws a b v := by
  by_cases hm : a ∈ up ps ps.length x
  · obtain ⟨j, hj, e⟩ := mem_index hm
    cases j with
    | zero =>
      have : a = x := by rw [← e]; exact T.head
      rw [this, T.top] at hp; omega
    | succ j =>
      have o1 := T.on j hj
      have o2 := T.onw j hj
      have en := up_next ps ps.length x j hj
      rw [e] at o1 o2 en
      right
      rw [← hp, o1]
      exact ⟨en.symm, by rw [← hw, o2]⟩
  · left
    rw [T.off a ha hm] at hp
    rw [T.offw a ha hm] at hw
    exact ⟨hp, hw⟩
theorem Turned.ew' {ps ws ps' ws' : List Int} {x : Int} (h : NV ps ws x) (T : Turned ps ws ps' ws' (up ps ps.length x) x) {a b v : Int} (ha : 0 ≤ a) (hb : 0 ≤ b) (he : EW ps' ws' a b v) : EW ps ws a b v := by
  rcases he with ⟨e1, e2⟩ | ⟨e1, e2⟩
  · exact T.edge' h ha hb e1 e2
  · rcases T.edge' h hb ha e1 e2 with h1 | h1
    · exact .inr h1
    · exact .inl h1
end Go.Proofs.Ytjmbnhohfhpopaa
