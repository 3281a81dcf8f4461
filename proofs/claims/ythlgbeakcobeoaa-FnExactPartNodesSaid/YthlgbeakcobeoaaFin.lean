/- From a walk in this layer to the form's own terms: what is read of the arguments, and that nothing that was there has turned. Conditions: those of each theorem. -/
import Derived.Test.YthlgbeakcobeoaaTac
import Derived.Test.YthlgbeakcobeoaaRows
import Derived.WalkKit
import Derived.ProofKit
import Derived.OpenShut
import Derived.ShutString
import Derived.ChangeOld
import Derived.Below
import Derived.Lib.SmallJoins
namespace Go.Proofs.Ythlgbeakcobeoaa
open Go Go.ChangeShapes Go.WideShapes Go.ChangeAt Go.RowKit Go.Joins

theorem Upd.below {w w' : World} {T : List Tok} (h : Upd w w' [] T) : Below w.heap.size w w' :=
  ⟨h.os, h.tape, h.output, h.size, fun k hk => h.keep k hk (by simp)⟩

theorem Tri.holds0 {P : Program} {f : FuncId} {args : List Value} {w : World} {post : Value → List Tok → Prop} {v : Value} (h : Tri P f args w [] post) (hv : ∀ r T, post r T → r = v) :
    Calls P f args.toArray w fun e w' => e = .returned v ∧ Below w.heap.size w w' :=
  (h (by simp) (by simp)).mono fun _ _ ⟨_, _, he, hp, hu⟩ => ⟨he.trans (by rw [hv _ _ hp]), hu.below⟩

/-- A cell of a slice of ints, read. -/
theorem rl_ints {H : Type} {enc : TypeId × Value → H} {P : Program} {w : World} {t e : TypeId} {b0 b1 n : Nat} {v : Value} {x : DataW H × List MemPlace} (ht : P.underlying t = some (.slice e)) (he : P.underlying e = some (.int .i64)) (hc : P.cellsOf e = 1)
    (hv : Cell.okWide P w .any b0 t v) (h : DataW.trod enc P w b1 (fun _ => true) true n t [v] = some x) :
    ∃ xs : List Int, RL w v xs ∧ xs.length ≤ 9223372036854775807 := by
  rcases open_ints ht he hc h with ⟨hcs, _⟩ | ⟨a, l, c, zs, hcs, _, hl, hm, hz, _, hcell, _⟩
  · simp only [List.cons.injEq, and_true] at hcs
    subst hcs
    exact ⟨[], ⟨rfl, .inl ⟨rfl, rfl⟩⟩, by simp⟩
  · simp only [List.cons.injEq, and_true] at hcs
    subst hcs
    simp only [Cell.okWide, ht, Cell.ok] at hv
    obtain ⟨_, _, _, hs, row, cells, hsh, _⟩ := hv
    obtain ⟨b, off, spot⟩ := a
    simp only at hs
    subst hs
    have hz' : zs.length = c := by simpa using hz
    have hlen : (zs.take l).length = l := by rw [List.length_take]; omega
    have hb : b < w.heap.size := by
      rcases Nat.lt_or_ge b w.heap.size with h' | h'
      · exact h'
      · simp only [World.shape?] at hsh
        rw [Array.getElem?_eq_none h'] at hsh
        cases hsh
    refine ⟨zs.take l, ⟨by rw [encs_length], .inr ⟨b, off, c, by rw [hlen], by omega, hb, fun i hi => ?_⟩⟩, by rw [hlen]; unfold maxLen at hm; omega⟩
    have hi' : i < l := by rw [encs_length, hlen] at hi; simpa [Enc.sz] using hi
    have h1 := hcell i (by omega)
    have h2 := encs_get (zs.take l) i 0 (by omega) (by decide)
    have h3 : i * Enc.sz Int + 0 = i := by show i * 1 + 0 = i; omega
    rw [h3] at h2
    rw [h2]
    have h4 : w.cell? ⟨b, off + i, none⟩ = some (.int .i64 (zs.getD i 0)) := by
      have e : (⟨b, off, none⟩ : Addr).add i = ⟨b, off + i, none⟩ := by
        unfold Addr.add; split
        · subst_vars; rfl
        · rfl
      rw [← e]; exact h1
    rw [h4]
    show some _ = some (Value.int .i64 ((zs.take l).getD i 0))
    congr 2
    rw [List.getD_eq_getElem?_getD, List.getD_eq_getElem?_getD, List.getElem?_take_of_lt hi']
end Go.Proofs.Ythlgbeakcobeoaa
