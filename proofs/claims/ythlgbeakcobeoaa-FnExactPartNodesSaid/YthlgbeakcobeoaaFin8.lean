/- A slice of bytes among the arguments, read. Conditions: those of the theorem. -/
import Derived.Test.YthlgbeakcobeoaaFin
namespace Go.Proofs.Ythlgbeakcobeoaa
open Go Go.ChangeShapes Go.WideShapes Go.ChangeAt Go.RowKit Go.Joins

theorem rl_bytes {H : Type} {enc : TypeId × Value → H} {P : Program} {w : World} {t e : TypeId} {b0 b1 n : Nat} {v : Value} {x : DataW H × List MemPlace} (ht : P.underlying t = some (.slice e)) (he : P.underlying e = some (.int .u8)) (hc : P.cellsOf e = 1)
    (hv : Cell.okWide P w .any b0 t v) (h : DataW.trod enc P w b1 (fun _ => true) true n t [v] = some x) :
    ∃ xs : List UInt8, RL w v xs ∧ xs.length ≤ 9223372036854775807 := by
  rcases open_ints ht he hc h with ⟨hcs, _⟩ | ⟨a, l, c, zs, hcs, _, hl, hm, hz, _, hcell, hwf⟩
  · simp only [List.cons.injEq, and_true] at hcs
    subst hcs
    exact ⟨[], ⟨rfl, .inl ⟨rfl, rfl⟩⟩, by simp⟩
  · simp only [List.cons.injEq, and_true] at hcs
    subst hcs
    simp only [Cell.okWide, ht, Cell.ok] at hv
    obtain ⟨_, _, _, hs, row, cells, hsh, _⟩ := hv
    obtain ⟨b, off, spot⟩ := a
    simp only at hs
    subst hs
    have hz' : zs.length = c := by simpa using hz
    have hb : b < w.heap.size := by
      rcases Nat.lt_or_ge b w.heap.size with h' | h'
      · exact h'
      · simp only [World.shape?] at hsh
        rw [Array.getElem?_eq_none h'] at hsh
        cases hsh
    let xs : List UInt8 := (zs.take l).map fun z => UInt8.ofNat z.toNat
    have hlen : xs.length = l := by simp only [xs, List.length_map, List.length_take]; omega
    refine ⟨xs, ⟨by rw [encs_length], .inr ⟨b, off, c, by rw [hlen], by omega, hb, fun i hi => ?_⟩⟩, by rw [hlen]; unfold maxLen at hm; omega⟩
    have hi' : i < l := by rw [encs_length, hlen] at hi; simpa [Enc.sz] using hi
    have h1 := hcell i (by omega)
    have h2 := encs_get xs i 0 (by omega) (by decide)
    have h3 : i * Enc.sz UInt8 + 0 = i := by show i * 1 + 0 = i; omega
    rw [h3] at h2
    rw [h2]
    have e : (⟨b, off, none⟩ : Addr).add i = ⟨b, off + i, none⟩ := by
      unfold Addr.add; split
      · subst_vars; rfl
      · rfl
    rw [e] at h1
    rw [h1]
    have h5 : zs.getD i 0 ∈ zs := by
      rw [List.getD_eq_getElem?_getD, List.getElem?_eq_getElem (by omega)]; exact List.getElem_mem (by omega)
    have h6 := hwf _ h5
    have h7 : 0 ≤ zs.getD i 0 ∧ zs.getD i 0 ≤ 255 := by
      have m1 : IntKind.u8.min = 0 := rfl
      have m2 : IntKind.u8.max = 255 := rfl
      simp only [Lit.wf, Bool.and_eq_true, decide_eq_true_eq, m1, m2] at h6
      exact h6
    have h8 : xs.getD i Enc.d = UInt8.ofNat (zs.getD i 0).toNat := by
      simp only [xs, List.getD_eq_getElem?_getD, List.getElem?_map, List.getElem?_take_of_lt hi']
      rw [List.getElem?_eq_getElem (by omega)]; rfl
    rw [h8]
    show some _ = some (Value.int .u8 ((UInt8.ofNat (zs.getD i 0).toNat).toNat : Int))
    congr 2
    rw [UInt8.toNat_ofNat']
    omega
end Go.Proofs.Ythlgbeakcobeoaa
