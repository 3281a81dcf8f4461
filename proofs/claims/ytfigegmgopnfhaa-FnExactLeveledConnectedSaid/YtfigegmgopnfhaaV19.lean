/- Texts put together: FinL. Conditions: those of each theorem. -/
import Derived.Test.YtfigegmgopnfhaaV4
set_option linter.unusedVariables false
set_option linter.unusedSimpArgs false
/- A graph with levels among the arguments, read: a struct of a struct (an int, a slice of edges), a slice of ints and a slice of truths. Conditions: those of each theorem. -/
namespace Go.Proofs.Ytfigegmgopnfhaa
open Go Go.ChangeShapes Go.WideShapes Go.ChangeAt Go.RowKit Go.Joins Go.Deep

theorem list_ofB {p : Nat → Bool → Prop} : ∀ n : Nat, (∀ i, i < n → ∃ e, p i e) → ∃ xs : List Bool, xs.length = n ∧ ∀ i, i < n → p i (xs.getD i (Enc.d : Bool))
  | 0, _ => ⟨[], rfl, fun i h => absurd h (Nat.not_lt_zero i)⟩
  | n + 1, h => by
    obtain ⟨xs, hl, hx⟩ := list_ofB n fun i hi => h i (by omega)
    obtain ⟨e, he⟩ := h n (by omega)
    refine ⟨xs ++ [e], by rw [List.length_append, hl]; rfl, fun i hi => ?_⟩
    rcases Nat.lt_succ_iff_lt_or_eq.1 hi with h1 | rfl
    · have := hx i h1
      rw [List.getD_eq_getElem?_getD, List.getElem?_append_left (by omega), ← List.getD_eq_getElem?_getD]; exact this
    · rw [List.getD_eq_getElem?_getD, List.getElem?_append_right (by omega), hl, Nat.sub_self]; exact he

theorem rl_bools {H : Type} {enc : TypeId × Value → H} {P : Program} {w : World} {t e : TypeId} {b0 b1 n : Nat} {v : Value} {x : DataW H × List MemPlace} (ht : P.underlying t = some (.slice e)) (he : P.underlying e = some .bool) (hC : P.cellsOf e = 1)
    (hv : Cell.okWide P w .any b0 t v) (h : DataW.trod enc P w b1 (fun _ => true) true n t [v] = some x) :
    ∃ xs : List Bool, RL w v xs ∧ xs.length ≤ 9223372036854775807 := by
  rcases open_slice ht h with ⟨hcs, _⟩ | ⟨a, l, c, m, nn, D, Pl, hcs, _, hl, hm, hmm, _, hi⟩
  · simp only [List.cons.injEq, and_true] at hcs
    subst hcs
    exact ⟨[], ⟨by show _ = 0 * _; rw [Nat.zero_mul]; rfl, .inl ⟨rfl, rfl⟩⟩, by simp⟩
  · simp only [List.cons.injEq, and_true] at hcs
    subst hcs
    simp only [Cell.okWide, ht, Cell.ok] at hv
    obtain ⟨_, _, _, hs, row, cells, hsh, _⟩ := hv
    obtain ⟨b, off, spot⟩ := a
    simp only at hs
    subst hs
    have hml : l ≤ m := by simp at hmm; omega
    have each : ∀ i, i < l → ∃ e : Bool, w.cell? ⟨b, off + i, none⟩ = some (.bool e) := fun i hil => by
      obtain ⟨cs', hc, ht'⟩ := hi i (by omega)
      rw [hC] at hc
      obtain ⟨_, hcl, hat⟩ := World.cells?_some hc
      obtain ⟨p, rfl⟩ : ∃ p, cs' = [p] := by
        match cs', hcl with
        | [p], _ => exact ⟨p, rfl⟩
      obtain ⟨z, ez, _⟩ := DataW.trod_bool he ht'
      have ez : p = .bool z := by simpa using ez
      have h0 := hat 0 (by decide)
      rw [add_at, add_at] at h0
      refine ⟨z, ?_⟩
      rw [Nat.add_zero, Nat.mul_one] at h0
      rw [h0, ez]; rfl
    obtain ⟨xs, hxl, hx⟩ := list_ofB l each
    have hb : b < w.heap.size := by
      rcases Nat.lt_or_ge b w.heap.size with h' | h'
      · exact h'
      · simp only [World.shape?] at hsh
        rw [Array.getElem?_eq_none h'] at hsh
        cases hsh
    refine ⟨xs, ⟨by rw [encs_length], .inr ⟨b, off, c, by rw [hxl], by omega, hb, fun i hi2 => ?_⟩⟩, by unfold maxLen at hm; omega⟩
    have hi3 : i < l := by rw [encs_length, hxl] at hi2; simpa [Enc.sz] using hi2
    have h2 := encs_get xs i 0 (by omega) (by decide)
    have h3 : i * Enc.sz Bool + 0 = i := by show i * 1 + 0 = i; omega
    rw [h3] at h2
    rw [h2, hx i hi3]; rfl

theorem open_lev {H : Type} {enc : TypeId × Value → H} {P : Program} {w : World} {base : Nat} {spare : Nat → Bool} {held : Bool} {r : Reach} {b0 : Nat} {t : TypeId} {f0 f1 f2 g0 g1 : Field} {v : Value} {d : DataW H} {p : List MemPlace}
    (hs : P.underlying t = some (.struct #[f0, f1, f2])) (hg : P.underlying f0.type = some (.struct #[g0, g1])) (o0 : f0.offset = 0) (o1 : f1.offset = 2) (o2 : f2.offset = 3) (p0 : g0.offset = 0) (p1 : g1.offset = 1)
    (c0 : P.cellsOf f0.type = 2) (c1 : P.cellsOf f1.type = 1) (c2 : P.cellsOf f2.type = 1) (e0 : P.cellsOf g0.type = 1) (e1 : P.cellsOf g1.type = 1) (hC : P.cellsOf t = 4)
    (hv : Value.okWide P w r b0 t v) (h : DataW.Trod enc P w base spare held t v d p) :
    ∃ (v0 v1 v2 v3 : Value) (y0 y1 y2 y3 : DataW H × List MemPlace) (n m : Nat), v = .agg #[v0, v1, v2, v3] ∧
      DataW.trod enc P w base spare held m g0.type [v0] = some y0 ∧ DataW.trod enc P w base spare held m g1.type [v1] = some y1 ∧ DataW.trod enc P w base spare held n f1.type [v2] = some y2 ∧ DataW.trod enc P w base spare held n f2.type [v3] = some y3 := by
  obtain ⟨cs, rfl, hsz⟩ := okWide_struct hs hv
  obtain ⟨q0, q1, q2, q3, rfl⟩ := array4 (hsz.trans hC)
  obtain ⟨fuel, hf⟩ := h
  obtain ⟨y0, y1, y2, n, hx, _, h0, h1, h2⟩ := trod_struct3 hs hf
  rw [o0, c0] at h0
  rw [o1, c1] at h1
  rw [o2, c2] at h2
  obtain ⟨z0, z1, m, _, _, k0, k1⟩ := trod_struct2 hg h0
  rw [p0, e0] at k0
  rw [p1, e1] at k1
  exact ⟨q0, q1, q2, q3, z0, z1, y1, y2, n, m, rfl, by simpa [Value.cells] using k0, by simpa [Value.cells] using k1, by simpa [Value.cells] using h1, by simpa [Value.cells] using h2⟩
end Go.Proofs.Ytfigegmgopnfhaa
