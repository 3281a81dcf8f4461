/- Texts put together: Fin, Fin8, FinE, FinO. Conditions: those of each theorem. -/
import Derived.Test.YtfigegmgopnfhaaRows
import Derived.WalkKit
import Derived.ProofKit
import Derived.OpenShut
import Derived.ShutString
import Derived.ChangeOld
import Derived.Below
import Derived.Lib.SmallJoins
import Derived.Deep.Slices
import Derived.Deep.Fields
import Derived.Test.YtfigegmgopnfhaaV0
set_option linter.unusedVariables false
set_option linter.unusedSimpArgs false
/- From a walk in this layer to the form's own terms: what is read of the arguments, and that nothing that was there has turned. Conditions: those of each theorem. -/
namespace Go.Proofs.Ytfigegmgopnfhaa
open Go Go.ChangeShapes Go.WideShapes Go.ChangeAt Go.RowKit Go.Joins

theorem Upd.below {w w' : World} {T : List Tok} (h : Upd w w' [] T) : Below w.heap.size w w' :=
  ⟨h.os, h.tape, h.output, h.size, fun k hk => h.keep k hk (by simp)⟩

theorem Tri.holds0 {P : Program} {f : FuncId} {args : List Value} {w : World} {post : Value → List Tok → Prop} {v : Value} (h : Tri P f args w [] post) (hv : ∀ r T, post r T → r = v) :
    Calls P f args.toArray w fun e w' => e = .returned v ∧ Below w.heap.size w w' :=
  (h (by simp) (by simp)).mono fun _ _ ⟨_, _, he, hp, hu⟩ => ⟨he.trans (by rw [hv _ _ hp]), hu.below⟩

/-- A cell of a slice of ints, read. -/
theorem rl_ints {H : Type} {enc : TypeId × Value → H} {P : Program} {w : World} {t e : TypeId} {b0 b1 n : Nat} {v : Value} {x : DataW H × List MemPlace} (ht : P.underlying t = some (.slice e)) (he : P.underlying e = some (.int .i64)) (hc : P.cellsOf e = 1)
    (hv : Cell.okWide P w .any b0 t v) (h : DataW.trod enc P w b1 (fun _ => true) true n t [v] = some x) :
    ∃ xs : List Int, RL w v xs ∧ xs.length ≤ 9223372036854775807 := by
  rcases open_ints ht he hc h with ⟨hcs, _⟩ | ⟨a, l, c, zs, hcs, _, hl, hm, hz, _, hcell, _⟩
  · simp only [List.cons.injEq, and_true] at hcs
    subst hcs
    exact ⟨[], ⟨rfl, .inl ⟨rfl, rfl⟩⟩, by simp⟩
  · simp only [List.cons.injEq, and_true] at hcs
    subst hcs
    simp only [Cell.okWide, ht, Cell.ok] at hv
    obtain ⟨_, _, _, hs, row, cells, hsh, _⟩ := hv
    obtain ⟨b, off, spot⟩ := a
    simp only at hs
    subst hs
    have hz' : zs.length = c := by simpa using hz
    have hlen : (zs.take l).length = l := by rw [List.length_take]; omega
    have hb : b < w.heap.size := by
      rcases Nat.lt_or_ge b w.heap.size with h' | h'
      · exact h'
      · simp only [World.shape?] at hsh
        rw [Array.getElem?_eq_none h'] at hsh
        cases hsh
    refine ⟨zs.take l, ⟨by rw [encs_length], .inr ⟨b, off, c, by rw [hlen], by omega, hb, fun i hi => ?_⟩⟩, by rw [hlen]; unfold maxLen at hm; omega⟩
    have hi' : i < l := by rw [encs_length, hlen] at hi; simpa [Enc.sz] using hi
    have h1 := hcell i (by omega)
    have h2 := encs_get (zs.take l) i 0 (by omega) (by decide)
    have h3 : i * Enc.sz Int + 0 = i := by show i * 1 + 0 = i; omega
    rw [h3] at h2
    rw [h2]
    have h4 : w.cell? ⟨b, off + i, none⟩ = some (.int .i64 (zs.getD i 0)) := by
      have e : (⟨b, off, none⟩ : Addr).add i = ⟨b, off + i, none⟩ := by
        unfold Addr.add; split
        · subst_vars; rfl
        · rfl
      rw [← e]; exact h1
    rw [h4]
    show some _ = some (Value.int .i64 ((zs.take l).getD i 0))
    congr 2
    rw [List.getD_eq_getElem?_getD, List.getD_eq_getElem?_getD, List.getElem?_take_of_lt hi']
end Go.Proofs.Ytfigegmgopnfhaa
/- A slice of bytes among the arguments, read. Conditions: those of the theorem. -/
namespace Go.Proofs.Ytfigegmgopnfhaa
open Go Go.ChangeShapes Go.WideShapes Go.ChangeAt Go.RowKit Go.Joins

theorem rl_bytes {H : Type} {enc : TypeId × Value → H} {P : Program} {w : World} {t e : TypeId} {b0 b1 n : Nat} {v : Value} {x : DataW H × List MemPlace} (ht : P.underlying t = some (.slice e)) (he : P.underlying e = some (.int .u8)) (hc : P.cellsOf e = 1)
    (hv : Cell.okWide P w .any b0 t v) (h : DataW.trod enc P w b1 (fun _ => true) true n t [v] = some x) :
    ∃ xs : List UInt8, RL w v xs ∧ xs.length ≤ 9223372036854775807 := by
  rcases open_ints ht he hc h with ⟨hcs, _⟩ | ⟨a, l, c, zs, hcs, _, hl, hm, hz, _, hcell, hwf⟩
  · simp only [List.cons.injEq, and_true] at hcs
    subst hcs
    exact ⟨[], ⟨rfl, .inl ⟨rfl, rfl⟩⟩, by simp⟩
  · simp only [List.cons.injEq, and_true] at hcs
    subst hcs
    simp only [Cell.okWide, ht, Cell.ok] at hv
    obtain ⟨_, _, _, hs, row, cells, hsh, _⟩ := hv
    obtain ⟨b, off, spot⟩ := a
    simp only at hs
    subst hs
    have hz' : zs.length = c := by simpa using hz
    have hb : b < w.heap.size := by
      rcases Nat.lt_or_ge b w.heap.size with h' | h'
      · exact h'
      · simp only [World.shape?] at hsh
        rw [Array.getElem?_eq_none h'] at hsh
        cases hsh
    let xs : List UInt8 := (zs.take l).map fun z => UInt8.ofNat z.toNat
    have hlen : xs.length = l := by simp only [xs, List.length_map, List.length_take]; omega
    refine ⟨xs, ⟨by rw [encs_length], .inr ⟨b, off, c, by rw [hlen], by omega, hb, fun i hi => ?_⟩⟩, by rw [hlen]; unfold maxLen at hm; omega⟩
    have hi' : i < l := by rw [encs_length, hlen] at hi; simpa [Enc.sz] using hi
    have h1 := hcell i (by omega)
    have h2 := encs_get xs i 0 (by omega) (by decide)
    have h3 : i * Enc.sz UInt8 + 0 = i := by show i * 1 + 0 = i; omega
    rw [h3] at h2
    rw [h2]
    have e : (⟨b, off, none⟩ : Addr).add i = ⟨b, off + i, none⟩ := by
      unfold Addr.add; split
      · subst_vars; rfl
      · rfl
    rw [e] at h1
    rw [h1]
    have h5 : zs.getD i 0 ∈ zs := by
      rw [List.getD_eq_getElem?_getD, List.getElem?_eq_getElem (by omega)]; exact List.getElem_mem (by omega)
    have h6 := hwf _ h5
    have h7 : 0 ≤ zs.getD i 0 ∧ zs.getD i 0 ≤ 255 := by
      have m1 : IntKind.u8.min = 0 := rfl
      have m2 : IntKind.u8.max = 255 := rfl
      simp only [Lit.wf, Bool.and_eq_true, decide_eq_true_eq, m1, m2] at h6
      exact h6
    have h8 : xs.getD i Enc.d = UInt8.ofNat (zs.getD i 0).toNat := by
      simp only [xs, List.getD_eq_getElem?_getD, List.getElem?_map, List.getElem?_take_of_lt hi']
      rw [List.getElem?_eq_getElem (by omega)]; rfl
    rw [h8]
    show some _ = some (Value.int .u8 ((UInt8.ofNat (zs.getD i 0).toNat).toNat : Int))
    congr 2
    rw [UInt8.toNat_ofNat']
    omega
end Go.Proofs.Ytfigegmgopnfhaa
/- A slice of structs of two ints among the arguments, read. Conditions: those of the theorem. -/
namespace Go.Proofs.Ytfigegmgopnfhaa
open Go Go.ChangeShapes Go.WideShapes Go.ChangeAt Go.RowKit Go.Joins Go.Deep

theorem list_of {p : Nat → E → Prop} : ∀ n : Nat, (∀ i, i < n → ∃ e, p i e) → ∃ xs : List E, xs.length = n ∧ ∀ i, i < n → p i (xs.getD i (Enc.d : E))
  | 0, _ => ⟨[], rfl, fun i h => absurd h (Nat.not_lt_zero i)⟩
  | n + 1, h => by
    obtain ⟨xs, hl, hx⟩ := list_of n fun i hi => h i (by omega)
    obtain ⟨e, he⟩ := h n (by omega)
    refine ⟨xs ++ [e], by rw [List.length_append, hl]; rfl, fun i hi => ?_⟩
    rcases Nat.lt_succ_iff_lt_or_eq.1 hi with h1 | rfl
    · have := hx i h1
      rw [List.getD_eq_getElem?_getD, List.getElem?_append_left (by omega), ← List.getD_eq_getElem?_getD]; exact this
    · rw [List.getD_eq_getElem?_getD, List.getElem?_append_right (by omega), hl, Nat.sub_self]; exact he

theorem add_at (b off k : Nat) : (⟨b, off, none⟩ : Addr).add k = ⟨b, off + k, none⟩ := by
  unfold Addr.add; split
  · subst_vars; rfl
  · rfl

theorem rl_edges {H : Type} {enc : TypeId × Value → H} {P : Program} {w : World} {t e : TypeId} {f0 f1 : Field} {b0 b1 n : Nat} {v : Value} {x : DataW H × List MemPlace} (ht : P.underlying t = some (.slice e)) (he : P.underlying e = some (.struct #[f0, f1]))
    (o0 : f0.offset = 0) (o1 : f1.offset = 1) (u0 : P.underlying f0.type = some (.int .i64)) (u1 : P.underlying f1.type = some (.int .i64)) (c0 : P.cellsOf f0.type = 1) (c1 : P.cellsOf f1.type = 1) (hC : P.cellsOf e = 2)
    (hv : Cell.okWide P w .any b0 t v) (h : DataW.trod enc P w b1 (fun _ => true) true n t [v] = some x) :
    ∃ xs : List E, RL w v xs ∧ xs.length ≤ 9223372036854775807 := by
  rcases open_slice ht h with ⟨hcs, _⟩ | ⟨a, l, c, m, nn, D, Pl, hcs, _, hl, hm, hmm, _, hi⟩
  · simp only [List.cons.injEq, and_true] at hcs
    subst hcs
    exact ⟨[], ⟨by show _ = 0 * _; rw [Nat.zero_mul]; rfl, .inl ⟨rfl, rfl⟩⟩, by simp⟩
  · simp only [List.cons.injEq, and_true] at hcs
    subst hcs
    simp only [Cell.okWide, ht, Cell.ok] at hv
    obtain ⟨_, _, _, hs, row, cells, hsh, _⟩ := hv
    obtain ⟨b, off, spot⟩ := a
    simp only at hs
    subst hs
    have hml : l ≤ m := by simp at hmm; omega
    have each : ∀ i, i < l → ∃ e : E, w.cell? ⟨b, off + i * 2, none⟩ = some (.int .i64 e.A) ∧ w.cell? ⟨b, off + (i * 2 + 1), none⟩ = some (.int .i64 e.B) := fun i hil => by
      obtain ⟨cs', hc, ht'⟩ := hi i (by omega)
      rw [hC] at hc
      obtain ⟨ys, n', _, _, _, hyl, hf⟩ := DataW.trod_struct he ht'
      obtain ⟨_, hcl, hat⟩ := World.cells?_some hc
      obtain ⟨p, q, rfl⟩ : ∃ p q, cs' = [p, q] := by
        match cs', hcl with
        | [p, q], _ => exact ⟨p, q, rfl⟩
      have hyl : ys.length = 2 := hyl
      have g0 := hf 0 f0 rfl
      have g1 := hf 1 f1 rfl
      rw [o0, c0, List.getElem?_eq_getElem (by omega)] at g0
      rw [o1, c1, List.getElem?_eq_getElem (by omega)] at g1
      obtain ⟨za, ea, _⟩ := DataW.trod_int u0 g0
      obtain ⟨zb, eb, _⟩ := DataW.trod_int u1 g1
      have ea : p = .int .i64 za := by simpa using ea
      have eb : q = .int .i64 zb := by simpa using eb
      have h0 := hat 0 (by decide)
      have h1 := hat 1 (by decide)
      rw [add_at, add_at] at h0 h1
      refine ⟨⟨za, zb⟩, ?_, ?_⟩
      · rw [Nat.add_zero] at h0; rw [h0, ea]; rfl
      · rw [Nat.add_assoc] at h1; rw [h1, eb]; rfl
    obtain ⟨xs, hxl, hx⟩ := list_of l each
    have hb : b < w.heap.size := by
      rcases Nat.lt_or_ge b w.heap.size with h' | h'
      · exact h'
      · simp only [World.shape?] at hsh
        rw [Array.getElem?_eq_none h'] at hsh
        cases hsh
    refine ⟨xs, ⟨by rw [encs_length], .inr ⟨b, off, c, by rw [hxl], by omega, hb, fun i hi2 => ?_⟩⟩, by unfold maxLen at hm; omega⟩
    have hi3 : i < l * 2 := by rw [encs_length, hxl] at hi2; exact hi2
    have hq : i / 2 < l := by omega
    have hr : i % 2 < 2 := Nat.mod_lt _ (by decide)
    have h2 := encs_get xs (i / 2) (i % 2) (by omega) hr
    have h3 : i / 2 * Enc.sz E + i % 2 = i := by show i / 2 * 2 + i % 2 = i; omega
    rw [h3] at h2
    rw [h2]
    obtain ⟨k0, k1⟩ := hx (i / 2) hq
    rcases (by omega : i % 2 = 0 ∨ i % 2 = 1) with h4 | h4
    · have h5 : off + i = off + i / 2 * 2 := by omega
      rw [h4, h5, k0]; rfl
    · have h5 : off + i = off + (i / 2 * 2 + 1) := by omega
      rw [h4, h5, k1]; rfl
end Go.Proofs.Ytfigegmgopnfhaa
/- A slice of operations (a kind and an edge) among the arguments, read. Conditions: those of the theorem. -/
namespace Go.Proofs.Ytfigegmgopnfhaa
open Go Go.ChangeShapes Go.WideShapes Go.ChangeAt Go.RowKit Go.Joins Go.Deep

theorem list_of3 {p : Nat → Oper1 → Prop} : ∀ n : Nat, (∀ i, i < n → ∃ e, p i e) → ∃ xs : List Oper1, xs.length = n ∧ ∀ i, i < n → p i (xs.getD i (Enc.d : Oper1))
  | 0, _ => ⟨[], rfl, fun i h => absurd h (Nat.not_lt_zero i)⟩
  | n + 1, h => by
    obtain ⟨xs, hl, hx⟩ := list_of3 n fun i hi => h i (by omega)
    obtain ⟨e, he⟩ := h n (by omega)
    refine ⟨xs ++ [e], by rw [List.length_append, hl]; rfl, fun i hi => ?_⟩
    rcases Nat.lt_succ_iff_lt_or_eq.1 hi with h1 | rfl
    · have := hx i h1
      rw [List.getD_eq_getElem?_getD, List.getElem?_append_left (by omega), ← List.getD_eq_getElem?_getD]; exact this
    · rw [List.getD_eq_getElem?_getD, List.getElem?_append_right (by omega), hl, Nat.sub_self]; exact he

theorem rl_ops {H : Type} {enc : TypeId × Value → H} {P : Program} {w : World} {t e : TypeId} {f0 f1 g0 g1 : Field} {b0 b1 n : Nat} {v : Value} {x : DataW H × List MemPlace} (ht : P.underlying t = some (.slice e)) (he : P.underlying e = some (.struct #[f0, f1])) (hf1 : P.underlying f1.type = some (.struct #[g0, g1]))
    (o0 : f0.offset = 0) (o1 : f1.offset = 1) (p0 : g0.offset = 0) (p1 : g1.offset = 1) (u0 : P.underlying f0.type = some (.int .i64)) (v0 : P.underlying g0.type = some (.int .i64)) (v1 : P.underlying g1.type = some (.int .i64))
    (c0 : P.cellsOf f0.type = 1) (c1 : P.cellsOf f1.type = 2) (d0 : P.cellsOf g0.type = 1) (d1 : P.cellsOf g1.type = 1) (hC : P.cellsOf e = 3)
    (hv : Cell.okWide P w .any b0 t v) (h : DataW.trod enc P w b1 (fun _ => true) true n t [v] = some x) :
    ∃ xs : List Oper1, RL w v xs ∧ xs.length ≤ 9223372036854775807 := by
  rcases open_slice ht h with ⟨hcs, _⟩ | ⟨a, l, c, m, nn, D, Pl, hcs, _, hl, hm, hmm, _, hi⟩
  · simp only [List.cons.injEq, and_true] at hcs
    subst hcs
    exact ⟨[], ⟨by show _ = 0 * _; rw [Nat.zero_mul]; rfl, .inl ⟨rfl, rfl⟩⟩, by simp⟩
  · simp only [List.cons.injEq, and_true] at hcs
    subst hcs
    simp only [Cell.okWide, ht, Cell.ok] at hv
    obtain ⟨_, _, _, hs, row, cells, hsh, _⟩ := hv
    obtain ⟨b, off, spot⟩ := a
    simp only at hs
    subst hs
    have hml : l ≤ m := by simp at hmm; omega
    have each : ∀ i, i < l → ∃ e : Oper1, w.cell? ⟨b, off + i * 3, none⟩ = some (.int .i64 e.K) ∧ w.cell? ⟨b, off + (i * 3 + 1), none⟩ = some (.int .i64 e.A) ∧ w.cell? ⟨b, off + (i * 3 + 2), none⟩ = some (.int .i64 e.B) := fun i hil => by
      obtain ⟨cs', hc, ht'⟩ := hi i (by omega)
      rw [hC] at hc
      obtain ⟨ys, n', _, _, _, hyl, hf⟩ := DataW.trod_struct he ht'
      obtain ⟨_, hcl, hat⟩ := World.cells?_some hc
      obtain ⟨p, q, r, rfl⟩ : ∃ p q r, cs' = [p, q, r] := by
        match cs', hcl with
        | [p, q, r], _ => exact ⟨p, q, r, rfl⟩
      have hyl : ys.length = 2 := hyl
      have h0 := hf 0 f0 rfl
      have h1 := hf 1 f1 rfl
      rw [o0, c0, List.getElem?_eq_getElem (by omega)] at h0
      rw [o1, c1, List.getElem?_eq_getElem (by omega)] at h1
      obtain ⟨zk, ek, _⟩ := DataW.trod_int u0 h0
      have ek : p = .int .i64 zk := by simpa using ek
      obtain ⟨zs, n2, _, _, _, hzl, hg⟩ := DataW.trod_struct hf1 h1
      have hzl : zs.length = 2 := hzl
      have k0 := hg 0 g0 rfl
      have k1 := hg 1 g1 rfl
      rw [p0, d0, List.getElem?_eq_getElem (by omega)] at k0
      rw [p1, d1, List.getElem?_eq_getElem (by omega)] at k1
      obtain ⟨za, ea, _⟩ := DataW.trod_int v0 k0
      obtain ⟨zb, eb, _⟩ := DataW.trod_int v1 k1
      have ea : q = .int .i64 za := by simpa using ea
      have eb : r = .int .i64 zb := by simpa using eb
      have a0 := hat 0 (by decide)
      have a1 := hat 1 (by decide)
      have a2 := hat 2 (by decide)
      rw [add_at, add_at] at a0 a1 a2
      refine ⟨⟨zk, za, zb⟩, ?_, ?_, ?_⟩
      · rw [Nat.add_zero] at a0; rw [a0, ek]; rfl
      · rw [Nat.add_assoc] at a1; rw [a1, ea]; rfl
      · rw [Nat.add_assoc] at a2; rw [a2, eb]; rfl
    obtain ⟨xs, hxl, hx⟩ := list_of3 l each
    have hb : b < w.heap.size := by
      rcases Nat.lt_or_ge b w.heap.size with h' | h'
      · exact h'
      · simp only [World.shape?] at hsh
        rw [Array.getElem?_eq_none h'] at hsh
        cases hsh
    refine ⟨xs, ⟨by rw [encs_length], .inr ⟨b, off, c, by rw [hxl], by omega, hb, fun i hi2 => ?_⟩⟩, by unfold maxLen at hm; omega⟩
    have hi3 : i < l * 3 := by rw [encs_length, hxl] at hi2; exact hi2
    have hq : i / 3 < l := by omega
    have hr : i % 3 < 3 := Nat.mod_lt _ (by decide)
    have h2 := encs_get xs (i / 3) (i % 3) (by omega) hr
    have h3 : i / 3 * Enc.sz Oper1 + i % 3 = i := by show i / 3 * 3 + i % 3 = i; omega
    rw [h3] at h2
    rw [h2]
    obtain ⟨k0, k1, k2⟩ := hx (i / 3) hq
    rcases (by omega : i % 3 = 0 ∨ i % 3 = 1 ∨ i % 3 = 2) with h4 | h4 | h4
    · have h5 : off + i = off + i / 3 * 3 := by omega
      rw [h4, h5, k0]; rfl
    · have h5 : off + i = off + (i / 3 * 3 + 1) := by omega
      rw [h4, h5, k1]; rfl
    · have h5 : off + i = off + (i / 3 * 3 + 2) := by omega
      rw [h4, h5, k2]; rfl
end Go.Proofs.Ytfigegmgopnfhaa
