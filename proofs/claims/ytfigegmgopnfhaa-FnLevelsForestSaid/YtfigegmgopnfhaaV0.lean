/- Texts put together: SL, Ops, Eff, Call, Fun, Data, O2, Types, Tac, TacA, R2, Types2, R3, Gr0, Gra0. Conditions: those of each theorem. -/
import Derived.WalkKit
import Derived.OrdersHeld
import Derived.Laws.CopyRow
import Derived.Laws.Append
import Derived.Test.YtfigegmgopnfhaaChecked
import Derived.KernelRfl
import Derived.Laws.StructEq
import Derived.Lib.AppendZerosOnto
import Derived.Lib.Overlaps
import Derived.Laws.Externs
set_option linter.unusedVariables false
set_option linter.unusedSimpArgs false
/- A small separation logic over the kit's weakest preconditions: tokens that own blocks, a frame as a list of known slots. Conditions: none. -/
namespace Go.Proofs.Ytfigegmgopnfhaa
open Go

/-! ### Memory -/
/-- Block b holds exactly the cells cs, and may be written. -/
def blkAt (w : World) (b : Nat) (cs : List Value) : Prop := ∃ e, w.heap[b]? = some (.cells cs.toArray e (0, 0))

theorem blkAt_lt {w : World} {b : Nat} {cs : List Value} (h : blkAt w b cs) : b < w.heap.size := by
  obtain ⟨e, h⟩ := h
  rcases Nat.lt_or_ge b w.heap.size with h' | h'
  · exact h'
  · simp [Array.getElem?_eq_none h'] at h

theorem blkAt_same {w w' : World} {b : Nat} {cs : List Value} (hs : w'.heap[b]? = w.heap[b]?) (h : blkAt w b cs) : blkAt w' b cs := by
  obtain ⟨e, h⟩ := h; exact ⟨e, by rw [hs]; exact h⟩

theorem blkAt_cell {w : World} {b i : Nat} {cs : List Value} (h : blkAt w b cs) : w.cell? ⟨b, i, none⟩ = cs[i]? := by
  obtain ⟨e, h⟩ := h; simp [World.cell?, h]

theorem blkAt_frozen {w : World} {b i : Nat} {cs : List Value} (h : blkAt w b cs) : w.frozen? ⟨b, i, none⟩ = false := by
  obtain ⟨e, h⟩ := h; simp [World.frozen?, h]

theorem blkAt_set {w : World} {b i : Nat} {cs : List Value} (h : blkAt w b cs) (v : Value) : blkAt (w.setCell ⟨b, i, none⟩ v) b (cs.set i v) := by
  obtain ⟨e, h⟩ := h
  refine ⟨e, ?_⟩
  simp [World.setCell, Array.getElem?_modify, h]

theorem setCell_other {w : World} {b c i : Nat} {v : Value} (h : c ≠ b) : (w.setCell ⟨b, i, none⟩ v).heap[c]? = w.heap[c]? := by
  simp [World.setCell, Array.getElem?_modify, Ne.symm h]

/-- The blocks that a value of a slice type lies in. -/
def vfp : Value → List Nat
  | .slice (some a) _ _ => [a.block]
  | _ => []

theorem vfp_nodup (v : Value) : (vfp v).Nodup := by
  unfold vfp; split <;> simp

/-- A slice whose cells read as cs (n elements of sz cells each). -/
def rdAt (w : World) (sz : Nat) (v : Value) (n : Nat) (cs : List Value) : Prop :=
  cs.length = n * sz ∧ ((v = .slice none 0 0 ∧ n = 0) ∨ ∃ b off cap, v = .slice (some ⟨b, off, none⟩) n cap ∧ n ≤ cap ∧ b < w.heap.size ∧
    ∀ i, i < cs.length → w.cell? ⟨b, off + i, none⟩ = cs[i]?)

/-- A slice that is owned: its block is known whole, and may be written. -/
def ownAt (w : World) (sz : Nat) (v : Value) (n : Nat) (cs : List Value) : Prop :=
  cs.length = n * sz ∧ ((v = .slice none 0 0 ∧ n = 0) ∨ ∃ b cap, ∃ post : List Value, v = .slice (some ⟨b, 0, none⟩) n cap ∧ n ≤ cap ∧ cap ≤ maxLen ∧
    cap * sz = (cs ++ post).length ∧ blkAt w b (cs ++ post))

theorem ownAt.rd {w : World} {sz n : Nat} {v : Value} {cs : List Value} (h : ownAt w sz v n cs) : rdAt w sz v n cs := by
  obtain ⟨h1, h2⟩ := h
  refine ⟨h1, h2.imp id ?_⟩
  rintro ⟨b, cap, post, hv, hn, _, _, hb⟩
  refine ⟨b, 0, cap, hv, hn, blkAt_lt hb, fun i hi => ?_⟩
  rw [blkAt_cell hb, Nat.zero_add, List.getElem?_append_left hi]

theorem ownAt_same {w w' : World} {sz n : Nat} {v : Value} {cs : List Value} (hs : ∀ b ∈ vfp v, w'.heap[b]? = w.heap[b]?) (h : ownAt w sz v n cs) : ownAt w' sz v n cs := by
  obtain ⟨h1, h2⟩ := h
  refine ⟨h1, h2.imp id ?_⟩
  rintro ⟨b, cap, post, hv, hn, ho, hc, hb⟩
  exact ⟨b, cap, post, hv, hn, ho, hc, blkAt_same (hs b (by simp [hv, vfp])) hb⟩

theorem rdAt_same {w w' : World} {sz n : Nat} {v : Value} {cs : List Value} (hs : ∀ b ∈ vfp v, w'.heap[b]? = w.heap[b]?) (hz : w.heap.size ≤ w'.heap.size) (h : rdAt w sz v n cs) : rdAt w' sz v n cs := by
  obtain ⟨h1, h2⟩ := h
  refine ⟨h1, h2.imp id ?_⟩
  rintro ⟨b, off, cap, hv, hn, hb, hc⟩
  refine ⟨b, off, cap, hv, hn, by omega, fun i hi => ?_⟩
  rw [← hc i hi]
  exact World.cell?_of_block (w := w) (a := ⟨b, off + i, none⟩) (hs b (by simp [hv, vfp]))

theorem rdAt_inb {w : World} {sz n : Nat} {v : Value} {cs : List Value} (h : rdAt w sz v n cs) : ∀ b ∈ vfp v, b < w.heap.size := by
  intro b hb
  rcases h.2 with ⟨rfl, _⟩ | ⟨b', off, cap, rfl, _, hb', _⟩
  · simp [vfp] at hb
  · simp [vfp] at hb; subst hb; exact hb'

/-! ### Tokens -/
structure Tok where
  fp : List Nat
  holds : World → Prop
  loc : ∀ w w', (∀ b ∈ fp, w'.heap[b]? = w.heap[b]?) → holds w → holds w'
  inb : ∀ w, holds w → ∀ b ∈ fp, b < w.heap.size

def Tok.blk (b : Nat) (cs : List Value) : Tok where
  fp := [b]
  holds w := blkAt w b cs
  loc _ _ hs h := blkAt_same (hs b (by simp)) h
  inb _ h c hc := by simp at hc; subst hc; exact blkAt_lt h

/-- Things that lie in a fixed number of cells. -/
class Enc (α : Type) where
  sz : Nat
  enc : α → List Value
  d : α
  len : ∀ a, (enc a).length = sz
  pos : 0 < sz

def encs {α : Type} [Enc α] (xs : List α) : List Value := xs.flatMap Enc.enc

theorem encs_length {α : Type} [Enc α] (xs : List α) : (encs xs).length = xs.length * Enc.sz α := by
  induction xs with
  | nil => simp [encs]
  | cons x xs ih => simp only [encs, List.flatMap_cons, List.length_append, List.length_cons] at *; rw [ih, Enc.len, Nat.add_mul, Nat.one_mul, Nat.add_comm]

@[simp] theorem encs_append {α : Type} [Enc α] (xs ys : List α) : encs (xs ++ ys) = encs xs ++ encs ys := by simp [encs]
@[simp] theorem encs_nil {α : Type} [Enc α] : encs ([] : List α) = [] := rfl
theorem encs_cons {α : Type} [Enc α] (x : α) (xs : List α) : encs (x :: xs) = Enc.enc x ++ encs xs := by simp [encs]

theorem encs_get {α : Type} [Enc α] (xs : List α) (i j : Nat) (hi : i < xs.length) (hj : j < Enc.sz α) :
    (encs xs)[i * Enc.sz α + j]? = (Enc.enc (xs.getD i Enc.d))[j]? := by
  induction xs generalizing i with
  | nil => simp at hi
  | cons x xs ih =>
    rw [encs_cons]
    cases i with
    | zero => rw [Nat.zero_mul, Nat.zero_add, List.getElem?_append_left (by rw [Enc.len]; exact hj)]; rfl
    | succ i =>
      have hl := Enc.len x
      rw [List.getElem?_append_right (by rw [hl, Nat.add_mul]; omega), hl]
      have : (i + 1) * Enc.sz α + j - Enc.sz α = i * Enc.sz α + j := by rw [Nat.add_mul]; omega
      rw [this, ih i (by simpa using hi)]
      simp

theorem encs_set {α : Type} [Enc α] (xs : List α) (i : Nat) (x : α) (hi : i < xs.length) :
    encs (xs.set i x) = (encs xs).take (i * Enc.sz α) ++ Enc.enc x ++ (encs xs).drop (i * Enc.sz α + Enc.sz α) := by
  induction xs generalizing i with
  | nil => simp at hi
  | cons y ys ih =>
    have hl := Enc.len y
    cases i with
    | zero =>
      have h2 : Enc.sz α = (Enc.enc y).length + 0 := by omega
      rw [List.set_cons_zero, encs_cons, encs_cons, Nat.zero_mul, Nat.zero_add, h2, List.drop_length_add_append]
      simp
    | succ i =>
      have h1 : (i + 1) * Enc.sz α = (Enc.enc y).length + i * Enc.sz α := by rw [Nat.add_mul]; omega
      have h2 : (Enc.enc y).length + i * Enc.sz α + Enc.sz α = (Enc.enc y).length + (i * Enc.sz α + Enc.sz α) := by omega
      rw [List.set_cons_succ, encs_cons, ih i (by simpa using hi), encs_cons, h1, h2, List.take_length_add_append, List.drop_length_add_append]
      simp

def RL {α : Type} [Enc α] (w : World) (v : Value) (xs : List α) : Prop := rdAt w (Enc.sz α) v xs.length (encs xs)

def Tok.own {α : Type} [Enc α] (v : Value) (xs : List α) : Tok where
  fp := vfp v
  holds w := ownAt w (Enc.sz α) v xs.length (encs xs)
  loc _ _ hs h := ownAt_same hs h
  inb _ h := rdAt_inb h.rd

def fps (F : List Tok) : List Nat := F.flatMap Tok.fp
@[simp] theorem fps_nil : fps [] = [] := rfl
@[simp] theorem fps_cons (t : Tok) (F : List Tok) : fps (t :: F) = t.fp ++ fps F := by simp [fps]
@[simp] theorem fps_append (F G : List Tok) : fps (F ++ G) = fps F ++ fps G := by simp [fps]

/-! ### The state of a call: since it began at W only the blocks M, and blocks of its own, have turned -/
structure St (W : World) (M : List Nat) (F : List Tok) (w : World) : Prop where
  nodup : (fps F).Nodup
  holds : ∀ t ∈ F, t.holds w
  base : ∀ b ∈ fps F, b ∈ M ∨ W.heap.size ≤ b
  keep : ∀ b, b < W.heap.size → b ∉ M → w.heap[b]? = W.heap[b]?
  size : W.heap.size ≤ w.heap.size
  os : w.os = W.os
  tape : w.tape = W.tape
  output : w.output = W.output

/-- What a piece of a run does: it turns the tokens T into T', and leaves every other block. -/
structure Upd (w w' : World) (T T' : List Tok) : Prop where
  nodup : (fps T').Nodup
  holds : ∀ t ∈ T', t.holds w'
  base : ∀ b ∈ fps T', b ∈ fps T ∨ w.heap.size ≤ b
  keep : ∀ b, b < w.heap.size → b ∉ fps T → w'.heap[b]? = w.heap[b]?
  size : w.heap.size ≤ w'.heap.size
  os : w'.os = w.os
  tape : w'.tape = w.tape
  output : w'.output = w.output

theorem St.inb {W : World} {M : List Nat} {F : List Tok} {w : World} (h : St W M F w) : ∀ b ∈ fps F, b < w.heap.size := by
  intro b hb
  simp only [fps, List.mem_flatMap] at hb
  obtain ⟨t, ht, hb⟩ := hb
  exact t.inb w (h.holds t ht) b hb

theorem St.start {w : World} {F : List Tok} (hn : (fps F).Nodup) (hh : ∀ t ∈ F, t.holds w) : St w (fps F) F w :=
  ⟨hn, hh, fun _ hb => .inl hb, fun _ _ _ => rfl, Nat.le_refl _, rfl, rfl, rfl⟩

theorem St.upd {W : World} {M : List Nat} {T T' F : List Tok} {w w' : World} (h : St W M (T ++ F) w) (u : Upd w w' T T') : St W M (T' ++ F) w' := by
  have hn := h.nodup
  rw [fps_append, List.nodup_append] at hn
  obtain ⟨_, hnF, hdis⟩ := hn
  have hF : ∀ b ∈ fps F, w'.heap[b]? = w.heap[b]? := fun b hb =>
    u.keep b (h.inb b (by simp [hb])) (fun hT => hdis b hT b hb rfl)
  refine ⟨?_, ?_, ?_, ?_, Nat.le_trans h.size u.size, u.os.trans h.os, u.tape.trans h.tape, u.output.trans h.output⟩
  · rw [fps_append, List.nodup_append]
    refine ⟨u.nodup, hnF, fun a ha b hb hab => ?_⟩
    subst hab
    rcases u.base a ha with h1 | h1
    · exact hdis a h1 a hb rfl
    · have := h.inb a (by simp [hb]); omega
  · intro t ht
    rcases List.mem_append.1 ht with ht | ht
    · exact u.holds t ht
    · refine t.loc w w' (fun b hb => hF b ?_) (h.holds t (by simp [ht]))
      simp only [fps, List.mem_flatMap]; exact ⟨t, ht, hb⟩
  · intro b hb
    rw [fps_append, List.mem_append] at hb
    rcases hb with hb | hb
    · rcases u.base b hb with h1 | h1
      · exact h.base b (by simp [h1])
      · right; have := h.size; omega
    · exact h.base b (by simp [hb])
  · intro b hb hbM
    rw [u.keep b (Nat.lt_of_lt_of_le hb h.size) ?_, h.keep b hb hbM]
    intro hT
    rcases h.base b (by simp [hT]) with h1 | h1
    · exact hbM h1
    · omega

theorem St.perm {W : World} {M : List Nat} {F F' : List Tok} {w : World} (hp : F.Perm F') (h : St W M F w) : St W M F' w := by
  have hq : (fps F).Perm (fps F') := hp.flatMap_right _
  exact ⟨hq.nodup_iff.1 h.nodup, fun t ht => h.holds t (hp.mem_iff.2 ht), fun b hb => h.base b (hq.mem_iff.2 hb), h.keep, h.size, h.os, h.tape, h.output⟩

theorem St.drop {W : World} {M : List Nat} {F G : List Tok} {w : World} (h : St W M (F ++ G) w) : St W M F w := by
  have hn := h.nodup
  rw [fps_append, List.nodup_append] at hn
  exact ⟨hn.1, fun t ht => h.holds t (by simp [ht]), fun b hb => h.base b (by simp [hb]), h.keep, h.size, h.os, h.tape, h.output⟩

/-- F' is among F (each token once). -/
def SubT (F' F : List Tok) : Prop := ∃ G, F.Perm (F' ++ G)

theorem SubT.refl (F : List Tok) : SubT F F := ⟨[], by simp⟩
theorem SubT.nil (F : List Tok) : SubT [] F := ⟨F, by simp⟩
theorem SubT.cons {t : Tok} {F' F : List Tok} (h : SubT F' F) : SubT (t :: F') (t :: F) := by
  obtain ⟨G, h⟩ := h; exact ⟨G, h.cons t⟩
theorem SubT.skip {t : Tok} {F' F : List Tok} (h : SubT F' F) : SubT F' (t :: F) := by
  obtain ⟨G, h⟩ := h; exact ⟨t :: G, ((h.cons t)).trans List.perm_middle.symm⟩
/-- The next token that is asked for stands somewhere in F. -/
theorem SubT.pick {t : Tok} {F' A B : List Tok} (h : SubT F' (A ++ B)) : SubT (t :: F') (A ++ t :: B) := by
  obtain ⟨G, h⟩ := h; exact ⟨G, List.perm_middle.trans (h.cons t)⟩
theorem SubT.pick1 {t a : Tok} {F' B : List Tok} (h : SubT F' (a :: B)) : SubT (t :: F') (a :: t :: B) := SubT.pick (A := [a]) h
theorem SubT.pick2 {t a b : Tok} {F' B : List Tok} (h : SubT F' (a :: b :: B)) : SubT (t :: F') (a :: b :: t :: B) := SubT.pick (A := [a, b]) h
theorem SubT.pick3 {t a b c : Tok} {F' B : List Tok} (h : SubT F' (a :: b :: c :: B)) : SubT (t :: F') (a :: b :: c :: t :: B) := SubT.pick (A := [a, b, c]) h
theorem SubT.pick4 {t a b c d : Tok} {F' B : List Tok} (h : SubT F' (a :: b :: c :: d :: B)) : SubT (t :: F') (a :: b :: c :: d :: t :: B) := SubT.pick (A := [a, b, c, d]) h
theorem SubT.pick5 {t a b c d e : Tok} {F' B : List Tok} (h : SubT F' (a :: b :: c :: d :: e :: B)) : SubT (t :: F') (a :: b :: c :: d :: e :: t :: B) := SubT.pick (A := [a, b, c, d, e]) h
theorem SubT.pick6 {t a b c d e f : Tok} {F' B : List Tok} (h : SubT F' (a :: b :: c :: d :: e :: f :: B)) : SubT (t :: F') (a :: b :: c :: d :: e :: f :: t :: B) := SubT.pick (A := [a, b, c, d, e, f]) h
theorem SubT.pick7 {t x0 x1 x2 x3 x4 x5 x6 : Tok} {F' B : List Tok} (h : SubT F' (x0 :: x1 :: x2 :: x3 :: x4 :: x5 :: x6 :: B)) : SubT (t :: F') (x0 :: x1 :: x2 :: x3 :: x4 :: x5 :: x6 :: t :: B) := SubT.pick (A := [x0, x1, x2, x3, x4, x5, x6]) h
theorem SubT.pick8 {t x0 x1 x2 x3 x4 x5 x6 x7 : Tok} {F' B : List Tok} (h : SubT F' (x0 :: x1 :: x2 :: x3 :: x4 :: x5 :: x6 :: x7 :: B)) : SubT (t :: F') (x0 :: x1 :: x2 :: x3 :: x4 :: x5 :: x6 :: x7 :: t :: B) := SubT.pick (A := [x0, x1, x2, x3, x4, x5, x6, x7]) h
theorem SubT.pick9 {t x0 x1 x2 x3 x4 x5 x6 x7 x8 : Tok} {F' B : List Tok} (h : SubT F' (x0 :: x1 :: x2 :: x3 :: x4 :: x5 :: x6 :: x7 :: x8 :: B)) : SubT (t :: F') (x0 :: x1 :: x2 :: x3 :: x4 :: x5 :: x6 :: x7 :: x8 :: t :: B) := SubT.pick (A := [x0, x1, x2, x3, x4, x5, x6, x7, x8]) h
theorem SubT.pick10 {t x0 x1 x2 x3 x4 x5 x6 x7 x8 x9 : Tok} {F' B : List Tok} (h : SubT F' (x0 :: x1 :: x2 :: x3 :: x4 :: x5 :: x6 :: x7 :: x8 :: x9 :: B)) : SubT (t :: F') (x0 :: x1 :: x2 :: x3 :: x4 :: x5 :: x6 :: x7 :: x8 :: x9 :: t :: B) := SubT.pick (A := [x0, x1, x2, x3, x4, x5, x6, x7, x8, x9]) h
theorem SubT.pick11 {t x0 x1 x2 x3 x4 x5 x6 x7 x8 x9 x10 : Tok} {F' B : List Tok} (h : SubT F' (x0 :: x1 :: x2 :: x3 :: x4 :: x5 :: x6 :: x7 :: x8 :: x9 :: x10 :: B)) : SubT (t :: F') (x0 :: x1 :: x2 :: x3 :: x4 :: x5 :: x6 :: x7 :: x8 :: x9 :: x10 :: t :: B) := SubT.pick (A := [x0, x1, x2, x3, x4, x5, x6, x7, x8, x9, x10]) h
theorem SubT.pick12 {t x0 x1 x2 x3 x4 x5 x6 x7 x8 x9 x10 x11 : Tok} {F' B : List Tok} (h : SubT F' (x0 :: x1 :: x2 :: x3 :: x4 :: x5 :: x6 :: x7 :: x8 :: x9 :: x10 :: x11 :: B)) : SubT (t :: F') (x0 :: x1 :: x2 :: x3 :: x4 :: x5 :: x6 :: x7 :: x8 :: x9 :: x10 :: x11 :: t :: B) := SubT.pick (A := [x0, x1, x2, x3, x4, x5, x6, x7, x8, x9, x10, x11]) h
theorem SubT.pick13 {t x0 x1 x2 x3 x4 x5 x6 x7 x8 x9 x10 x11 x12 : Tok} {F' B : List Tok} (h : SubT F' (x0 :: x1 :: x2 :: x3 :: x4 :: x5 :: x6 :: x7 :: x8 :: x9 :: x10 :: x11 :: x12 :: B)) : SubT (t :: F') (x0 :: x1 :: x2 :: x3 :: x4 :: x5 :: x6 :: x7 :: x8 :: x9 :: x10 :: x11 :: x12 :: t :: B) := SubT.pick (A := [x0, x1, x2, x3, x4, x5, x6, x7, x8, x9, x10, x11, x12]) h
theorem SubT.pick14 {t x0 x1 x2 x3 x4 x5 x6 x7 x8 x9 x10 x11 x12 x13 : Tok} {F' B : List Tok} (h : SubT F' (x0 :: x1 :: x2 :: x3 :: x4 :: x5 :: x6 :: x7 :: x8 :: x9 :: x10 :: x11 :: x12 :: x13 :: B)) : SubT (t :: F') (x0 :: x1 :: x2 :: x3 :: x4 :: x5 :: x6 :: x7 :: x8 :: x9 :: x10 :: x11 :: x12 :: x13 :: t :: B) := SubT.pick (A := [x0, x1, x2, x3, x4, x5, x6, x7, x8, x9, x10, x11, x12, x13]) h
theorem SubT.pick15 {t x0 x1 x2 x3 x4 x5 x6 x7 x8 x9 x10 x11 x12 x13 x14 : Tok} {F' B : List Tok} (h : SubT F' (x0 :: x1 :: x2 :: x3 :: x4 :: x5 :: x6 :: x7 :: x8 :: x9 :: x10 :: x11 :: x12 :: x13 :: x14 :: B)) : SubT (t :: F') (x0 :: x1 :: x2 :: x3 :: x4 :: x5 :: x6 :: x7 :: x8 :: x9 :: x10 :: x11 :: x12 :: x13 :: x14 :: t :: B) := SubT.pick (A := [x0, x1, x2, x3, x4, x5, x6, x7, x8, x9, x10, x11, x12, x13, x14]) h

theorem SubT.trans {F G H : List Tok} (h : SubT F G) (k : SubT G H) : SubT F H := by
  obtain ⟨A, h⟩ := h; obtain ⟨B, k⟩ := k
  exact ⟨A ++ B, k.trans (by rw [← List.append_assoc]; exact h.append_right B)⟩

theorem St.sub {W : World} {M : List Nat} {F F' : List Tok} {w : World} (hs : SubT F' F) (h : St W M F w) : St W M F' w := by
  obtain ⟨G, hp⟩ := hs; exact (h.perm hp).drop

theorem St.rd {α : Type} [Enc α] {W : World} {M : List Nat} {F : List Tok} {w : World} {v : Value} {xs : List α} (h : St W M F w) (hM : ∀ b ∈ vfp v, b ∉ M) (hr : RL W v xs) : RL w v xs :=
  rdAt_same (fun b hb => h.keep b (rdAt_inb hr b hb) (hM b hb)) h.size hr

theorem St.own {α : Type} [Enc α] {W : World} {M : List Nat} {F : List Tok} {w : World} {v : Value} {xs : List α} (h : St W M F w) (hm : Tok.own v xs ∈ F) : ownAt w (Enc.sz α) v xs.length (encs xs) :=
  h.holds _ hm

theorem St.blk {W : World} {M : List Nat} {F : List Tok} {w : World} {b : Nat} {cs : List Value} (h : St W M F w) (hm : Tok.blk b cs ∈ F) : blkAt w b cs := h.holds _ hm

theorem St.drew {W : World} {M : List Nat} {F : List Tok} {w : World} (h : St W M F w) : St W M F { w with drawn := w.drawn + 1 } :=
  ⟨h.nodup, fun t ht => t.loc w _ (fun _ _ => rfl) (h.holds t ht), h.base, h.keep, h.size, h.os, h.tape, h.output⟩

theorem St.toUpd {W : World} {F F' : List Tok} {w : World} (h : St W (fps F) F' w) : Upd W w F F' :=
  ⟨h.nodup, h.holds, h.base, h.keep, h.size, h.os, h.tape, h.output⟩

/-! ### Frames: a list of known slots -/
def lk : List (Nat × Value) → Nat → Option Value
  | [], _ => none
  | (k, v) :: r, t => bif Nat.beq k t then some v else lk r t

def look (l : List (Nat × Value)) : Operand → Option Value
  | .tmp t => lk l t
  | .const v => some v
  | .global g => some (.pointer (some ⟨g, 0, none⟩))
  | .func f => some (.func (.func f) #[] #[])

structure Has (n : Nat) (l : List (Nat × Value)) (a : Act) : Prop where
  size : a.tmps.size = n
  defers : a.defers = []
  get : ∀ t v, lk l t = some v → a.tmps[t]? = some v

theorem Has.eval {n : Nat} {l : List (Nat × Value)} {a : Act} (h : Has n l a) {x : Operand} {v : Value} (hx : look l x = some v) : a.eval x = v := by
  cases x with
  | tmp t => have := h.get t v hx; simp [Act.eval, Array.getD_eq_getD_getElem?, this]
  | const c => simpa [look, Act.eval] using hx
  | global g => simpa [look, Act.eval] using hx
  | func f => simpa [look, Act.eval] using hx

theorem Has.put {n d : Nat} {l : List (Nat × Value)} {a : Act} (h : Has n l a) (hd : Nat.blt d n = true) (v : Value) : Has n ((d, v) :: l) (a.put (some d) v) := by
  have hd' : d < n := Nat.lt_of_succ_le (by simpa [Nat.blt] using hd)
  refine ⟨by simp [Act.put, h.size], by simp [Act.put, h.defers], fun t u hu => ?_⟩
  simp only [lk, Act.put] at *
  by_cases e : d = t
  · subst e
    simp at hu
    subst hu
    simp [h.size, hd']
  · have : Nat.beq d t = false := by
      cases hb : Nat.beq d t
      · rfl
      · exact absurd (Nat.eq_of_beq_eq_true hb) e
    rw [this] at hu
    simp at hu
    rw [Array.getElem?_setIfInBounds_ne e]
    exact h.get t u hu

theorem Has.know {n d : Nat} {l : List (Nat × Value)} {a : Act} {v : Value} (h : Has n l a) (hb : lk l d = some v) : Has n ((d, v) :: l) a := by
  refine ⟨h.size, h.defers, fun t u hu => ?_⟩
  simp only [lk] at hu
  by_cases e : Nat.beq d t = true
  · rw [e] at hu
    simp at hu
    subst hu
    rw [← Nat.eq_of_beq_eq_true e]
    exact h.get d v hb
  · simp only [Bool.not_eq_true] at e
    rw [e] at hu
    exact h.get t u (by simpa using hu)

/-- Every slot of l' is known to l, with the same value. -/
def SubE : List (Nat × Value) → List (Nat × Value) → Prop
  | [], _ => True
  | (t, v) :: r, l => lk l t = some v ∧ SubE r l

theorem SubE.get {l' l : List (Nat × Value)} (h : SubE l' l) : ∀ t v, lk l' t = some v → lk l t = some v := by
  induction l' with
  | nil => intro t v h; simp [lk] at h
  | cons p r ih =>
    obtain ⟨k, u⟩ := p
    intro t v hv
    simp only [lk] at hv
    by_cases e : Nat.beq k t = true
    · rw [e] at hv
      simp at hv
      subst hv
      rw [← Nat.eq_of_beq_eq_true e]
      exact h.1
    · simp only [Bool.not_eq_true] at e
      rw [e] at hv
      exact ih h.2 t v (by simpa using hv)

theorem Has.sub {n : Nat} {l l' : List (Nat × Value)} {a : Act} (h : Has n l a) (hs : SubE l' l) : Has n l' a :=
  ⟨h.size, h.defers, fun t v hv => h.get t v (hs.get t v hv)⟩

/-! ### Judgements -/
structure Ctx where
  n : Nat
  W : World
  M : List Nat

def WP (P : Program) (G : Ctx) (c : Code) (l : List (Nat × Value)) (F : List Tok) (Q : Exit → Act → World → Prop) : Prop :=
  ∀ a w, Has G.n l a → St G.W G.M F w → c.wp P Q a w
def WPL (P : Program) (G : Ctx) (ops : Array Oper) (rest : List Oper) (l : List (Nat × Value)) (F : List Tok) (Q : Exit → Act → World → Prop) : Prop :=
  ∀ a w, Has G.n l a → St G.W G.M F w → wpList P ops Q rest a w
def PE (G : Ctx) (e : Exit) (l : List (Nat × Value)) (F : List Tok) (Q : Exit → Act → World → Prop) : Prop :=
  ∀ a w, Has G.n l a → St G.W G.M F w → Q e a w

section rules
variable {P : Program} {G : Ctx} {l : List (Nat × Value)} {F : List Tok} {Q : Exit → Act → World → Prop}

theorem WP.seq {x y : Code} (h : WP P G x l F (Exit.then (fun a w => y.wp P Q a w) Q)) : WP P G (.seq x y) l F Q :=
  fun a w ha hw => wp_seq (h a w ha hw)
theorem WP.block {id : Nat} {c : Code} (h : WP P G c l F (Exit.inBlock id Q)) : WP P G (.block id c) l F Q :=
  fun a w ha hw => wp_block (h a w ha hw)
theorem WP.skip (h : PE G .normal l F Q) : WP P G .skip l F Q := fun a w ha hw => wp_skip (h a w ha hw)
theorem WP.ret (h : PE G .ret l F Q) : WP P G .ret l F Q := fun a w ha hw => wp_ret (h a w ha hw)
theorem WP.exit {id : Nat} (h : PE G (.exit id) l F Q) : WP P G (.exit id) l F Q := fun a w ha hw => wp_exit (h a w ha hw)
theorem WP.condT {c : Operand} {x y : Code} (hc : look l c = some (.bool true)) (h : WP P G x l F Q) : WP P G (.cond c x y) l F Q :=
  fun a w ha hw => wp_cond_true (ha.eval hc) (h a w ha hw)
theorem WP.condF {c : Operand} {x y : Code} (hc : look l c = some (.bool false)) (h : WP P G y l F Q) : WP P G (.cond c x y) l F Q :=
  fun a w ha hw => wp_cond_false (ha.eval hc) (h a w ha hw)
theorem WP.cond {c : Operand} {x y : Code} {b : Bool} (hc : look l c = some (.bool b)) (ht : b = true → WP P G x l F Q) (hf : b = false → WP P G y l F Q) : WP P G (.cond c x y) l F Q :=
  fun a w ha hw => wp_cond_split (ha.eval hc) (fun h => ht h a w ha hw) (fun h => hf h a w ha hw)
theorem WP.condD {c : Operand} {x y : Code} {p : Prop} [Decidable p] (hc : look l c = some (.bool (decide p))) (ht : p → WP P G x l F Q) (hf : ¬p → WP P G y l F Q) : WP P G (.cond c x y) l F Q :=
  WP.cond hc (fun h => ht (of_decide_eq_true h)) (fun h => hf (of_decide_eq_false h))
theorem WP.region {id : Nat} {L : List Oper} (h : WPL P G L.toArray L l F Q) : WP P G (.region id L.toArray false) l F Q :=
  fun a w ha hw => wp_region_lit (h a w ha hw)
theorem WPL.nil {ops : Array Oper} (h : PE G .normal l F Q) : WPL P G ops [] l F Q := fun a w ha hw => wpList_nil (h a w ha hw)

theorem PE.next {y : Code} (h : WP P G y l F Q) : PE G .normal l F (Exit.then (fun a w => y.wp P Q a w) Q) := h
theorem PE.thenRet {K : Act → World → Prop} (h : PE G .ret l F Q) : PE G .ret l F (Exit.then K Q) := h
theorem PE.thenExit {K : Act → World → Prop} {id : Nat} (h : PE G (.exit id) l F Q) : PE G (.exit id) l F (Exit.then K Q) := h
theorem PE.inBlockRet {id : Nat} (h : PE G .ret l F Q) : PE G .ret l F (Exit.inBlock id Q) := h
theorem PE.inBlockNormal {id : Nat} (h : PE G .normal l F Q) : PE G .normal l F (Exit.inBlock id Q) := h
theorem PE.inBlockSame {id : Nat} (h : PE G .normal l F Q) : PE G (.exit id) l F (Exit.inBlock id Q) := fun a w ha hw => by
  simp only [Exit.inBlock, if_true]; exact h a w ha hw
theorem PE.inBlockOther {id id' : Nat} (hne : Nat.beq id' id = false) (h : PE G (.exit id') l F Q) : PE G (.exit id') l F (Exit.inBlock id Q) := fun a w ha hw => by
  have : id' ≠ id := fun e => by subst e; simp at hne
  simp only [Exit.inBlock, this, if_false]; exact h a w ha hw

theorem WP.sub {c : Code} {l' : List (Nat × Value)} {F' : List Tok} (hl : SubE l' l) (hF : SubT F' F) (h : WP P G c l' F' Q) : WP P G c l F Q :=
  fun a w ha hw => h a w (ha.sub hl) (hw.sub hF)
theorem WPL.sub {ops : Array Oper} {rest : List Oper} {l' : List (Nat × Value)} {F' : List Tok} (hl : SubE l' l) (hF : SubT F' F) (h : WPL P G ops rest l' F' Q) : WPL P G ops rest l F Q :=
  fun a w ha hw => h a w (ha.sub hl) (hw.sub hF)
theorem PE.sub {e : Exit} {l' : List (Nat × Value)} {F' : List Tok} (hl : SubE l' l) (hF : SubT F' F) (h : PE G e l' F' Q) : PE G e l F Q :=
  fun a w ha hw => h a w (ha.sub hl) (hw.sub hF)
theorem WP.perm {c : Code} {F' : List Tok} (hF : F.Perm F') (h : WP P G c l F' Q) : WP P G c l F Q :=
  fun a w ha hw => h a w ha (hw.perm hF)
theorem WPL.perm {ops : Array Oper} {rest : List Oper} {F' : List Tok} (hF : F.Perm F') (h : WPL P G ops rest l F' Q) : WPL P G ops rest l F Q :=
  fun a w ha hw => h a w ha (hw.perm hF)

/-- Behind a piece of code: some ghost state s that meets φ, the slots L s, the tokens T s. -/
def Mid {σ : Type} (G : Ctx) (L : σ → List (Nat × Value)) (T : σ → List Tok) (φ : σ → Prop) (a : Act) (w : World) : Prop :=
  ∃ s, φ s ∧ Has G.n (L s) a ∧ St G.W G.M (T s) w

theorem PE.mid {σ : Type} {L : σ → List (Nat × Value)} {T : σ → List Tok} {φ : σ → Prop} (s : σ) (hφ : φ s) (hL : SubE (L s) l) (hT : SubT (T s) F) :
    PE G .normal l F (Exit.then (Mid G L T φ) Q) := fun _ _ ha hw => ⟨s, hφ, ha.sub hL, hw.sub hT⟩

/-- A cut: x comes to a state of the named form, from which y goes on. -/
theorem WP.cut {σ : Type} (L : σ → List (Nat × Value)) (T : σ → List Tok) (φ : σ → Prop) {x y : Code} (hx : WP P G x l F (Exit.then (Mid G L T φ) Q))
    (hy : ∀ s, φ s → WP P G y (L s) (T s) Q) : WP P G (.seq x y) l F Q := fun a w ha hw =>
  wp_seq (Code.wp_mono (fun e a' w' h => by
    cases e with
    | normal => obtain ⟨s, hs, h1, h2⟩ := h; exact hy s hs a' w' h1 h2
    | _ => exact h) (hx a w ha hw))

theorem WP.cutK {σ : Type} (L : σ → List (Nat × Value)) (T : σ → List Tok) (φ : σ → Prop) {x y : Code} (hx : WP P G x l F (Exit.then (Mid G L T φ) Q))
    (hy : ∀ s, φ s → WP P G y (L s) (T s) Q) : WP P G x l F (Exit.then (fun a w => y.wp P Q a w) Q) := fun a w ha hw =>
  Code.wp_mono (fun e a' w' h => by
    cases e with
    | normal => obtain ⟨s, hs, h1, h2⟩ := h; exact hy s hs a' w' h1 h2
    | _ => exact h) (hx a w ha hw)

/-- The end of a loop's round. -/
def Again {σ : Type} (G : Ctx) (L : σ → List (Nat × Value)) (T : σ → List Tok) (φ : σ → Prop) (μ : σ → Nat) (s : σ) (a : Act) (w : World) : Prop :=
  ∃ s', φ s' ∧ μ s' < μ s ∧ Has G.n (L s') a ∧ St G.W G.M (T s') w

theorem PE.again {σ : Type} {L : σ → List (Nat × Value)} {T : σ → List Tok} {φ : σ → Prop} {μ : σ → Nat} {s : σ} (s' : σ) (hφ : φ s') (hμ : μ s' < μ s) (hL : SubE (L s') l) (hT : SubT (T s') F) :
    PE G .normal l F (Exit.then (Again G L T φ μ s) Q) := fun _ _ ha hw => ⟨s', hφ, hμ, ha.sub hL, hw.sub hT⟩

theorem WP.loop {σ : Type} (L : σ → List (Nat × Value)) (T : σ → List Tok) (φ : σ → Prop) (μ : σ → Nat) (s₀ : σ) {c : Code} (h₀ : φ s₀) (hL : SubE (L s₀) l) (hT : SubT (T s₀) F)
    (round : ∀ s, φ s → WP P G c (L s) (T s) (Exit.then (Again G L T φ μ s) Q)) : WP P G (.loop c) l F Q := by
  intro a w ha hw b k cs
  have key : ∀ n s a w, μ s = n → φ s → Has G.n (L s) a → St G.W G.M (T s) w →
      ∃ e a' w', Q e a' w' ∧ Arrives P (lone (b.at a (.code c :: .inLoop c :: k)) cs w) b k cs e a' w' := by
    intro n
    induction n using Nat.strongRecOn with
    | _ n ih =>
      intro s a w hn hs ha hw
      obtain ⟨e, a₁, w₁, hq, harr⟩ := round s hs a w ha hw b (.inLoop c :: k) cs
      cases e with
      | normal =>
        obtain ⟨s', hs', hlt, h1, h2⟩ := hq
        obtain ⟨e₂, a₂, w₂, hq₂, harr₂⟩ := ih (μ s') (hn ▸ hlt) s' a₁ w₁ rfl hs' h1 h2
        exact ⟨e₂, a₂, w₂, hq₂, .of_steps (Steps.trans harr (.one step_inLoop)) harr₂⟩
      | exit id => exact ⟨_, a₁, w₁, hq, .pass (x := .inLoop c) rfl (fun _ _ => .inl (by simp)) harr⟩
      | goto l => exact ⟨_, a₁, w₁, hq, .pass (x := .inLoop c) rfl (fun _ _ => .inl (by simp)) harr⟩
      | ret => exact ⟨_, a₁, w₁, hq, .pass (x := .inLoop c) rfl (fun _ _ => .inl (by simp)) harr⟩
      | panic ch => exact ⟨_, a₁, w₁, hq, .pass (x := .inLoop c) rfl (fun _ _ => .inl (by simp)) harr⟩
      | outgrown => exact ⟨_, a₁, w₁, hq, .pass (x := .inLoop c) rfl (fun _ _ => .inl (by simp)) harr⟩
  obtain ⟨e, a', w', hq, harr⟩ := key _ s₀ a w rfl h₀ (ha.sub hL) (hw.sub hT)
  exact ⟨e, a', w', hq, .of_steps (.one step_loop) harr⟩

/-! ### Operations -/
/-- A pure operation: it yields v and leaves the world. -/
def Op1 (P : Program) (G : Ctx) (op : Op) (l : List (Nat × Value)) (F : List Tok) (v : Value) : Prop :=
  ∀ o : Oper, o.op = op → ∀ a w, Has G.n l a → St G.W G.M F w → (execOp a.eval o).run P w = .ok (.value v) w
/-- An operation that may turn the world. -/
def OpE (P : Program) (G : Ctx) (op : Op) (l : List (Nat × Value)) (F : List Tok) (post : Value → List Tok → Prop) : Prop :=
  ∀ o : Oper, o.op = op → ∀ a w, Has G.n l a → St G.W G.M F w → ∀ (K : Act → World → Prop) (Q : Exit → Act → World → Prop),
    (∀ v F' w', post v F' → St G.W G.M F' w' → K (a.put o.dst v) w') → o.wp P a w K Q

/-- Whether an operation's guard asks for it (none: not decided). -/
def asked (ops : Array Oper) (l : List (Nat × Value)) : Option (Nat × Bool) → Option Bool
  | none => some true
  | some (j, want) => match (ops[j]?).bind (·.dst) with
    | some d => match lk l d with
      | some (.bool b) => some (b == want)
      | some (.tuple _) => some false
      | _ => none
    | none => none

theorem asked_wanted {ops : Array Oper} {o : Oper} {b : Bool} {n : Nat} {a : Act} (ha : Has n l a) (h : asked ops l o.guard = some b) : Region.wanted o (yielded ops a.tmps) = b := by
  unfold asked at h
  unfold Region.wanted
  cases hg : o.guard with
  | none => rw [hg] at h; simpa using h
  | some p =>
    obtain ⟨j, want⟩ := p
    rw [hg] at h
    simp only at h ⊢
    cases hd : (ops[j]?).bind (·.dst) with
    | none => rw [hd] at h; simp at h
    | some d =>
      rw [hd] at h
      simp only at h
      cases hl : lk l d with
      | none => rw [hl] at h; simp at h
      | some v =>
        rw [hl] at h
        have hy := ha.get d v hl
        cases v <;> simp at h
        · subst h
          simp [yielded, hd, hy]
        · subst h
          simp [yielded, hd, hy]

theorem WPL.pure {ops : Array Oper} {d : Nat} {op : Op} {ty : TypeId} {pos : String} {after : Array Edge} {g : Option (Nat × Bool)} {rest : List Oper} {v : Value}
    (h : Op1 P G op l F v) (hg : asked ops l g = some true) (hd : Nat.blt d G.n = true) (k : WPL P G ops rest ((d, v) :: l) F Q) :
    WPL P G ops (⟨some d, op, ty, pos, after, g⟩ :: rest) l F Q := fun a w ha hw => by
  have hwt := asked_wanted (o := ⟨some d, op, ty, pos, after, g⟩) ha hg
  unfold wpList
  rw [if_pos hwt]
  refine .inl ?_
  unfold Oper.wp
  rw [h _ rfl a w ha hw]
  exact k _ _ (ha.put hd v) hw

theorem WPL.skip {ops : Array Oper} {d : Nat} {op : Op} {ty : TypeId} {pos : String} {after : Array Edge} {g : Option (Nat × Bool)} {rest : List Oper}
    (hg : asked ops l g = some false) (hd : Nat.blt d G.n = true) (k : WPL P G ops rest ((d, undef) :: l) F Q) :
    WPL P G ops (⟨some d, op, ty, pos, after, g⟩ :: rest) l F Q := fun a w ha hw => by
  have hwt := asked_wanted (o := ⟨some d, op, ty, pos, after, g⟩) ha hg
  unfold wpList
  rw [if_neg (by simp [hwt])]
  exact k _ _ (ha.put hd undef) hw

/-- The guard's temporary is decided now. -/
theorem WPL.split {ops : Array Oper} {op : Op} {ty : TypeId} {pos : String} {after : Array Edge} {j : Nat} {want : Bool} {dst : Option Nat} {rest : List Oper} {d : Nat} {b : Bool}
    (_hj : (ops[j]?).bind (·.dst) = some d) (hb : lk l d = some (.bool b))
    (ht : b = true → WPL P G ops (⟨dst, op, ty, pos, after, some (j, want)⟩ :: rest) ((d, .bool true) :: l) F Q)
    (hf : b = false → WPL P G ops (⟨dst, op, ty, pos, after, some (j, want)⟩ :: rest) ((d, .bool false) :: l) F Q) :
    WPL P G ops (⟨dst, op, ty, pos, after, some (j, want)⟩ :: rest) l F Q := fun a w ha hw => by
  have key : ∀ c : Bool, b = c → Has G.n ((d, .bool c) :: l) a := fun c hc => ha.know (hc ▸ hb)
  cases b with
  | true => exact ht rfl a w (key true rfl) hw
  | false => exact hf rfl a w (key false rfl) hw
theorem WPL.splitD {ops : Array Oper} {op : Op} {ty : TypeId} {pos : String} {after : Array Edge} {j : Nat} {want : Bool} {dst : Option Nat} {rest : List Oper} {d : Nat} {p : Prop} [Decidable p]
    (hj : (ops[j]?).bind (·.dst) = some d) (hb : lk l d = some (.bool (decide p)))
    (ht : p → WPL P G ops (⟨dst, op, ty, pos, after, some (j, want)⟩ :: rest) ((d, .bool true) :: l) F Q)
    (hf : ¬p → WPL P G ops (⟨dst, op, ty, pos, after, some (j, want)⟩ :: rest) ((d, .bool false) :: l) F Q) :
    WPL P G ops (⟨dst, op, ty, pos, after, some (j, want)⟩ :: rest) l F Q :=
  WPL.split hj hb (fun h => ht (of_decide_eq_true h)) (fun h => hf (of_decide_eq_false h))
end rules
end Go.Proofs.Ytfigegmgopnfhaa
/- The operations: what each of them does to the known slots and to the tokens. Conditions: none. -/
namespace Go.Proofs.Ytfigegmgopnfhaa
open Go

/-! ### What is known of the program's types (as instances, so that no script names them) -/
def notAgg : TypeDesc → Bool
  | .struct _ | .array _ _ => false
  | _ => true

class TScal (P : Program) (t : TypeId) : Prop where
  out : ∃ d i, P.underlying t = some d ∧ notAgg d = true ∧ P.info? t = some i ∧ i.size = 1
class TAgg (P : Program) (t : TypeId) (k : outParam Nat) : Prop where
  out : ∃ fs i, P.underlying t = some (.struct fs) ∧ P.info? t = some i ∧ i.size = k
class TField (P : Program) (s : TypeId) (f : Nat) (off : outParam Nat) : Prop where
  out : ∃ fs fd i, P.underlying s = some (.struct fs) ∧ fs[f]? = some fd ∧ fd.offset = off ∧ P.info? fd.type = some i ∧ (i.size == 0) = false
class TZero (P : Program) (t : TypeId) (z : outParam (List Value)) : Prop where
  out : ∃ i v, P.info? t = some i ∧ i.zero = some v ∧ v.cells = z.toArray
class TSlice (P : Program) (t : TypeId) (α : outParam Type) [Enc α] : Prop where
  out : ∃ e i v, P.underlying t = some (.slice e) ∧ P.info? e = some i ∧ i.size = Enc.sz α ∧ Nat.ble i.bytes 64 = true ∧ i.zero = some v ∧ v.cells = (Enc.enc (Enc.d : α)).toArray
class TInt (P : Program) (t : TypeId) : Prop where
  out : ∃ k, P.underlying t = some (.int k)
class TBool (P : Program) (t : TypeId) : Prop where
  out : P.underlying t = some .bool
class TFun (P : Program) (f : FuncId) : Prop where
  out : ∃ fn, P.funcs[f]? = some fn ∧ (fn.name == "runtime.NumGoroutine") = false ∧ fn.body.isNone = false

/-- What a value of type α looks like where it is alone (in a slot, in an element). -/
class Val (α : Type) [Enc α] where
  val : α → Value
  cells : ∀ a : α, (val a).cells = (Enc.enc a).toArray
  one : ∀ a : α, ∀ u ∈ Enc.enc a, u.oneCell' = true

instance : Enc Int := ⟨1, fun n => [.int .i64 n], 0, fun _ => rfl, by decide⟩
instance : Val Int := ⟨fun n => .int .i64 n, fun _ => rfl, fun _ u h => by simp [Enc.enc] at h; subst h; rfl⟩
instance : Enc Bool := ⟨1, fun b => [.bool b], false, fun _ => rfl, by decide⟩
instance : Val Bool := ⟨fun b => .bool b, fun _ => rfl, fun _ u h => by simp [Enc.enc] at h; subst h; rfl⟩
instance : Enc UInt8 := ⟨1, fun n => [.int .u8 n.toNat], 0, fun _ => rfl, by decide⟩
instance : Val UInt8 := ⟨fun n => .int .u8 n.toNat, fun _ => rfl, fun _ u h => by simp [Enc.enc] at h; subst h; rfl⟩

theorem encs_one {α : Type} [Enc α] [Val α] (xs : List α) : ∀ u ∈ encs xs, u.oneCell' = true := by
  intro u hu
  simp only [encs, List.mem_flatMap] at hu
  obtain ⟨a, _, h⟩ := hu
  exact Val.one a u h

/-- In every world that fits the state, v reads as xs. -/
def Rd {α : Type} [Enc α] (G : Ctx) (F : List Tok) (v : Value) (xs : List α) : Prop := ∀ w, St G.W G.M F w → RL w v xs

section
variable {P : Program} {G : Ctx} {l : List (Nat × Value)} {F : List Tok} {α : Type} [Enc α]

theorem Rd.arg {v : Value} {xs : List α} (h : RL G.W v xs) (hM : ∀ b ∈ vfp v, b ∉ G.M) : Rd G F v xs := fun _ hw => hw.rd hM h
theorem Rd.arg0 {n : Nat} {W : World} {v : Value} {xs : List α} (h : RL W v xs) : Rd ⟨n, W, []⟩ F v xs := fun _ hw => hw.rd (by simp) h
theorem Rd.own {v : Value} {xs : List α} (h : Tok.own v xs ∈ F) : Rd G F v xs := fun _ hw => (hw.own h).rd
theorem Rd.nil : Rd G F (.slice none 0 0) ([] : List α) := fun _ _ => ⟨by simp [encs], .inl ⟨rfl, rfl⟩⟩

/-- Each of these values fits one cell. -/
def One (G : Ctx) (F : List Tok) (us : List Value) : Prop := ∀ w, St G.W G.M F w → ∀ u ∈ us, u.oneCell' = true
theorem One.nil : One G F [] := fun _ _ _ h => by cases h
theorem One.lit {u : Value} {us : List Value} (h : u.oneCell' = true) (k : One G F us) : One G F (u :: us) := fun w hw x hx => by
  rcases List.mem_cons.1 hx with rfl | hx
  · exact h
  · exact k w hw x hx
theorem One.rd {u : Value} {xs : List α} {us : List Value} (h : Rd G F u xs) (k : One G F us) : One G F (u :: us) := fun w hw x hx => by
  rcases List.mem_cons.1 hx with rfl | hx
  · rcases (h w hw).2 with ⟨rfl, _⟩ | ⟨b, off, cap, rfl, _⟩ <;> rfl
  · exact k w hw x hx
theorem One.arg {β : Type} {inst : Enc β} {w : World} {u : Value} {xs : List β} {us : List Value} (h : @RL β inst w u xs) (k : One G F us) : One G F (u :: us) := fun w' hw x hx => by
  rcases List.mem_cons.1 hx with rfl | hx
  · rcases h.2 with ⟨rfl, _⟩ | ⟨b, off, cap, rfl, _⟩ <;> rfl
  · exact k w' hw x hx
/-- A token that tells of u that it fits one cell. -/
def isOwn (u : Value) (t : Tok) : Prop := ∀ w, t.holds w → u.oneCell' = true
theorem isOwn.own {β : Type} {inst : Enc β} {u : Value} {xs : List β} : isOwn u (@Tok.own β inst u xs) := fun w h => by
  have h : @ownAt w (Enc.sz β) u xs.length (encs xs) := h
  rcases h.2 with ⟨rfl, _⟩ | ⟨b, cap, post, rfl, _⟩ <;> rfl
def OneM (F : List Tok) (u : Value) : Prop := ∃ t ∈ F, isOwn u t
theorem OneM.head {u : Value} {t : Tok} {F : List Tok} (h : isOwn u t) : OneM (t :: F) u := ⟨t, by simp, h⟩
theorem OneM.tail {u : Value} {t : Tok} {F : List Tok} (h : OneM F u) : OneM (t :: F) u := by
  obtain ⟨s, hs, h⟩ := h; exact ⟨s, by simp [hs], h⟩
theorem One.mem {u : Value} {us : List Value} (h : OneM F u) (k : One G F us) : One G F (u :: us) := fun w hw x hx => by
  rcases List.mem_cons.1 hx with rfl | hx
  · obtain ⟨t, ht, h⟩ := h; exact h w (hw.holds t ht)
  · exact k w hw x hx
theorem One.ite {c : Prop} [Decidable c] {a b : Value} {us : List Value} (ha : One G F (a :: us)) (hb : One G F (b :: us)) : One G F ((if c then a else b) :: us) := by
  split <;> assumption

/-! ### Pure operations -/
theorem Op1.move {x : Operand} {v : Value} (h : look l x = some v) : Op1 P G (.move x) l F v := fun o ho a w ha _ => by
  simp [execOp, ho, ha.eval h]
theorem Op1.assign {x : Operand} {v : Value} (h : look l x = some v) : Op1 P G (.assign x) l F v := fun o ho a w ha _ => by
  simp [execOp, ho, ha.eval h]
theorem Op1.pickT {c x y : Operand} {v : Value} (hc : look l c = some (.bool true)) (h : look l x = some v) : Op1 P G (.pick c x y) l F v := fun o ho a w ha _ => by
  simp [execOp, ho, ha.eval h, ha.eval hc, asBool]
theorem Op1.pickF {c x y : Operand} {v : Value} (hc : look l c = some (.bool false)) (h : look l y = some v) : Op1 P G (.pick c x y) l F v := fun o ho a w ha _ => by
  simp [execOp, ho, ha.eval h, ha.eval hc, asBool]

theorem i64_fits {n : Int} (h1 : -9223372036854775808 ≤ n) (h2 : n ≤ 9223372036854775807) : IntKind.i64.wrap n = n := IntWalk.i64_in n ⟨h1, h2⟩

theorem Op1.add {t u : TypeId} {x y : Operand} {a b : Int} (hx : look l x = some (.int .i64 a)) (hy : look l y = some (.int .i64 b))
    (h : -9223372036854775808 ≤ a + b ∧ a + b ≤ 9223372036854775807) : Op1 P G (.binOp .add t x y u) l F (.int .i64 (a + b)) := fun o ho c w hc _ => by
  simp [execOp, ho, hc.eval hx, hc.eval hy, eqGuard, binOp, Op.intArith, i64_fits h.1 h.2]
theorem Op1.sub {t u : TypeId} {x y : Operand} {a b : Int} (hx : look l x = some (.int .i64 a)) (hy : look l y = some (.int .i64 b))
    (h : -9223372036854775808 ≤ a - b ∧ a - b ≤ 9223372036854775807) : Op1 P G (.binOp .sub t x y u) l F (.int .i64 (a - b)) := fun o ho c w hc _ => by
  simp [execOp, ho, hc.eval hx, hc.eval hy, eqGuard, binOp, Op.intArith, i64_fits h.1 h.2]
theorem Op1.mul {t u : TypeId} {x y : Operand} {a b : Int} (hx : look l x = some (.int .i64 a)) (hy : look l y = some (.int .i64 b))
    (h : -9223372036854775808 ≤ a * b ∧ a * b ≤ 9223372036854775807) : Op1 P G (.binOp .mul t x y u) l F (.int .i64 (a * b)) := fun o ho c w hc _ => by
  simp [execOp, ho, hc.eval hx, hc.eval hy, eqGuard, binOp, Op.intArith, i64_fits h.1 h.2]
/-- x / y of numbers that are not negative. -/
theorem Op1.quo {t u : TypeId} {x y : Operand} {a b : Int} (hx : look l x = some (.int .i64 a)) (hy : look l y = some (.int .i64 b))
    (h : 0 ≤ a ∧ a ≤ 9223372036854775807 ∧ 1 ≤ b) : Op1 P G (.binOp .quo t x y u) l F (.int .i64 (a / b)) := fun o ho c w hc _ => by
  have hb : b ≠ 0 := by omega
  have h1 : a.tdiv b = a / b := Int.tdiv_eq_ediv_of_nonneg h.1
  have h2 : 0 ≤ a / b := Int.ediv_nonneg h.1 (by omega)
  have h3 : a / b ≤ a := Int.ediv_le_self b h.1
  simp [execOp, ho, hc.eval hx, hc.eval hy, eqGuard, binOp, Op.intDiv, hb, h1, i64_fits (n := a / b) (by omega) (by omega)]
/-- x % y of a number that is not negative. -/
theorem Op1.rem {t u : TypeId} {x y : Operand} {a b : Int} (hx : look l x = some (.int .i64 a)) (hy : look l y = some (.int .i64 b))
    (h : 0 ≤ a ∧ b ≠ 0) : Op1 P G (.binOp .rem t x y u) l F (.int .i64 (a % b)) := fun o ho c w hc _ => by
  have h1 : a.tmod b = a % b := Int.tmod_eq_emod_of_nonneg h.1
  simp [execOp, ho, hc.eval hx, hc.eval hy, eqGuard, binOp, Op.intDiv, h.2, h1]

theorem Op1.eqI {k : IntKind} {t u : TypeId} {x y : Operand} {a b : Int} (hx : look l x = some (.int k a)) (hy : look l y = some (.int k b)) : Op1 P G (.binOp .eql t x y u) l F (.bool (decide (a = b))) := fun o ho c w hc _ => by
  simp [execOp, ho, hc.eval hx, hc.eval hy, eqGuard, binOp, Op.intCmp]; rfl
theorem Op1.neI {k : IntKind} {t u : TypeId} {x y : Operand} {a b : Int} (hx : look l x = some (.int k a)) (hy : look l y = some (.int k b)) : Op1 P G (.binOp .neq t x y u) l F (.bool (decide (a ≠ b))) := fun o ho c w hc _ => by
  simp [execOp, ho, hc.eval hx, hc.eval hy, eqGuard, binOp, Op.intCmp, bne]; rfl
theorem Op1.ltI {k : IntKind} {t u : TypeId} {x y : Operand} {a b : Int} (hx : look l x = some (.int k a)) (hy : look l y = some (.int k b)) : Op1 P G (.binOp .lss t x y u) l F (.bool (decide (a < b))) := fun o ho c w hc _ => by
  simp [execOp, ho, hc.eval hx, hc.eval hy, eqGuard, binOp, Op.intCmp]
theorem Op1.leI {k : IntKind} {t u : TypeId} {x y : Operand} {a b : Int} (hx : look l x = some (.int k a)) (hy : look l y = some (.int k b)) : Op1 P G (.binOp .leq t x y u) l F (.bool (decide (a ≤ b))) := fun o ho c w hc _ => by
  simp [execOp, ho, hc.eval hx, hc.eval hy, eqGuard, binOp, Op.intCmp]
theorem Op1.gtI {k : IntKind} {t u : TypeId} {x y : Operand} {a b : Int} (hx : look l x = some (.int k a)) (hy : look l y = some (.int k b)) : Op1 P G (.binOp .gtr t x y u) l F (.bool (decide (b < a))) := fun o ho c w hc _ => by
  simp [execOp, ho, hc.eval hx, hc.eval hy, eqGuard, binOp, Op.intCmp]
theorem Op1.geI {k : IntKind} {t u : TypeId} {x y : Operand} {a b : Int} (hx : look l x = some (.int k a)) (hy : look l y = some (.int k b)) : Op1 P G (.binOp .geq t x y u) l F (.bool (decide (b ≤ a))) := fun o ho c w hc _ => by
  simp [execOp, ho, hc.eval hx, hc.eval hy, eqGuard, binOp, Op.intCmp]

theorem run_equalIn_bool {t : TypeId} (h : P.underlying t = some .bool) (a b : Bool) (d : Nat) (w : World) : (Op.equalIn (d + 1) t (.bool a) (.bool b)).run P w = .ok (a == b) w := by
  simp [Op.equalIn, run_underlying h]
theorem run_equal_bool {t : TypeId} (h : P.underlying t = some .bool) (a b : Bool) (w : World) : (Op.equal t (.bool a) (.bool b)).run P w = .ok (a == b) w :=
  run_equalIn_bool h a b 9999 w
theorem run_equalIn_nil {t e : TypeId} (h : P.underlying t = some (.slice e)) (a : Option Addr) (n c : Nat) (d : Nat) (w : World) : (Op.equalIn (d + 1) t (.slice a n c) (.slice none 0 0)).run P w = .ok a.isNone w := by
  cases a <;> simp [Op.equalIn, run_underlying h]
theorem run_equal_nil {t e : TypeId} (h : P.underlying t = some (.slice e)) (a : Option Addr) (n c : Nat) (w : World) : (Op.equal t (.slice a n c) (.slice none 0 0)).run P w = .ok a.isNone w :=
  run_equalIn_nil h a n c 9999 w
theorem Op1.eqB {t u : TypeId} [ht : TBool P t] {x y : Operand} {a b : Bool} (hx : look l x = some (.bool a)) (hy : look l y = some (.bool b)) : Op1 P G (.binOp .eql t x y u) l F (.bool (a == b)) := fun o ho c w hc _ => by
  simp [execOp, ho, hc.eval hx, hc.eval hy, eqGuard, binOp, run_equal_bool ht.out]
theorem Op1.neB {t u : TypeId} [ht : TBool P t] {x y : Operand} {a b : Bool} (hx : look l x = some (.bool a)) (hy : look l y = some (.bool b)) : Op1 P G (.binOp .neq t x y u) l F (.bool (a != b)) := fun o ho c w hc _ => by
  simp [execOp, ho, hc.eval hx, hc.eval hy, eqGuard, binOp, run_equal_bool ht.out]; cases a <;> cases b <;> rfl
theorem Op1.not {t : TypeId} {x : Operand} {b : Bool} (hx : look l x = some (.bool b)) : Op1 P G (.unOp .not t x) l F (.bool (!b)) := fun o ho c w hc _ => by
  simp [execOp, ho, hc.eval hx, Op.unary]
theorem Op1.notD {t : TypeId} {x : Operand} {p : Prop} [Decidable p] (hx : look l x = some (.bool (decide p))) : Op1 P G (.unOp .not t x) l F (.bool (decide (¬ p))) := fun o ho c w hc hw => by
  rw [Op1.not (P := P) (G := G) (F := F) hx o ho c w hc hw]; simp
theorem Op1.neg {t : TypeId} {x : Operand} {a : Int} (hx : look l x = some (.int .i64 a)) (h : -9223372036854775807 ≤ a ∧ a ≤ 9223372036854775807) : Op1 P G (.unOp .neg t x) l F (.int .i64 (-a)) := fun o ho c w hc _ => by
  have := i64_fits (n := 0 - a) (by omega) (by omega)
  simp only [Int.zero_sub] at this
  simp [execOp, ho, hc.eval hx, Op.unary, Op.intArith, this]

theorem Op1.extract {x : Operand} {vs : List Value} {i : Nat} {v : Value} (hx : look l x = some (.tuple vs.toArray)) (hi : vs[i]? = some v) : Op1 P G (.extract x i) l F v := fun o ho c w hc _ => by
  simp [execOp, ho, hc.eval hx, Instr.extract, hi]
theorem Op1.makeFunc {fn : Fn} {cap : List Operand} {vs : List Value} (h : cap.map (look l) = vs.map some) : Op1 P G (.makeFunc fn #[] cap.toArray) l F (.func fn #[] vs.toArray) := fun o ho c w hc _ => by
  have : cap.map c.eval = vs := by
    clear ho
    induction cap generalizing vs with
    | nil => cases vs <;> simp at h ⊢
    | cons x xs ih =>
      cases vs with
      | nil => simp at h
      | cons v vs =>
        simp only [List.map_cons, List.cons.injEq] at h ⊢
        exact ⟨hc.eval h.1, ih h.2⟩
  simp [execOp, ho, Instr.makeFunc, this]

theorem addr_add (b i n : Nat) : (⟨b, i, none⟩ : Addr).add n = ⟨b, i + n, none⟩ := by
  unfold Addr.add; split <;> simp_all

theorem run_sizeOf' {t : TypeId} {i : TypeInfo} (h : P.info? t = some i) (w : World) : (sizeOf t).run P w = .ok i.size w := by
  simp [sizeOf, typeInfo, h]
theorem run_isAgg_no {t : TypeId} {d : TypeDesc} (h : P.underlying t = some d) (hd : notAgg d = true) (w : World) : (isAgg t).run P w = .ok false w := by
  unfold isAgg
  rw [Sem.run_bind, run_underlying h]
  cases d <;> simp [notAgg] at hd ⊢
theorem run_isAgg_yes {t : TypeId} {fs : Array Field} (h : P.underlying t = some (.struct fs)) (w : World) : (isAgg t).run P w = .ok true w := by
  unfold isAgg
  rw [Sem.run_bind, run_underlying h]
  simp

theorem run_fieldAt {s : TypeId} {f off : Nat} [ht : TField P s f off] (b i : Nat) (w : World) : (Instr.fieldAt s (.pointer (some ⟨b, i, none⟩)) f).run P w = .ok (.pointer (some ⟨b, i + off, none⟩)) w := by
  obtain ⟨fs, fd, ii, h1, h2, h3, h4, h5⟩ := ht.out
  have h6 : ¬ ii.size = 0 := by simpa using h5
  simp [Instr.fieldAt, run_underlying h1, h2, Instr.sureAddr, fieldPlace, run_sizeOf' h4, h6, addr_add, h3]

theorem Op1.fieldAddr {s : TypeId} {f off : Nat} [TField P s f off] {x : Operand} {b i : Nat} (hx : look l x = some (.pointer (some ⟨b, i, none⟩))) :
    Op1 P G (.fieldAddr s x f) l F (.pointer (some ⟨b, i + off, none⟩)) := fun o ho c w hc _ => by
  simp [execOp, ho, hc.eval hx, run_fieldAt]

/-- The place of cell number r of element number i of a slice. -/
def eptr (v : Value) (sz i r : Nat) : Value :=
  match v with
  | .slice (some a) _ _ => .pointer (some ⟨a.block, a.off + (i * sz + r), none⟩)
  | _ => undef

theorem RL.form {w : World} {v : Value} {xs : List α} (h : RL w v xs) (hn : 0 < xs.length) : ∃ b off cap, v = .slice (some ⟨b, off, none⟩) xs.length cap ∧ xs.length ≤ cap ∧ b < w.heap.size ∧
    ∀ i, i < (encs xs).length → w.cell? ⟨b, off + i, none⟩ = (encs xs)[i]? := by
  rcases h.2 with ⟨_, h0⟩ | h
  · omega
  · exact h

theorem RL.elem {w : World} {v : Value} {xs : List α} (h : RL w v xs) {i r : Nat} (hi : i < xs.length) (hr : r < Enc.sz α) : ∃ b off cap, v = .slice (some ⟨b, off, none⟩) xs.length cap ∧
    w.cell? ⟨b, off + (i * Enc.sz α + r), none⟩ = (Enc.enc (xs.getD i Enc.d))[r]? := by
  obtain ⟨b, off, cap, hv, _, _, hc⟩ := h.form (by omega)
  refine ⟨b, off, cap, hv, ?_⟩
  rw [hc _ ?_, encs_get xs i r hi hr]
  rw [encs_length]
  have : (i + 1) * Enc.sz α ≤ xs.length * Enc.sz α := Nat.mul_le_mul_right _ hi
  rw [Nat.add_mul] at this
  omega

theorem Op1.fieldAddrE {s : TypeId} {f off : Nat} [TField P s f off] {x : Operand} {v : Value} {xs : List α} {i r : Nat} (hx : look l x = some (eptr v (Enc.sz α) i r)) (hr : Rd G F v xs) (hi : i < xs.length) :
    Op1 P G (.fieldAddr s x f) l F (eptr v (Enc.sz α) i (r + off)) := fun o ho c w hc hw => by
  obtain ⟨b, of, cap, hv, _⟩ := (hr w hw).form (by omega)
  subst hv
  simp only [eptr] at hx
  simp [execOp, ho, hc.eval hx, run_fieldAt, eptr, Nat.add_assoc]

theorem Op1.indexAddr {t : TypeId} [ht : TSlice P t α] {x ix : Operand} {v : Value} {xs : List α} {i : Nat} (hx : look l x = some v) (hi : look l ix = some (.int .i64 i)) (hr : Rd G F v xs) (hlt : i < xs.length) :
    Op1 P G (.indexAddr t x ix) l F (eptr v (Enc.sz α) i 0) := fun o ho c w hc hw => by
  obtain ⟨b, of, cap, hv, _⟩ := (hr w hw).form (by omega)
  obtain ⟨e, ii, z, h1, h2, h3, _⟩ := ht.out
  subst hv
  simp [execOp, ho, hc.eval hx, hc.eval hi, Instr.indexAt, run_underlying h1, asIntOf, hlt, run_sizeOf' h2, h3, addr_add, eptr]

theorem Op1.indexAddrZ {t : TypeId} [TSlice P t α] {x ix : Operand} {v : Value} {xs : List α} {k : Int} (hx : look l x = some v) (hi : look l ix = some (.int .i64 k)) (hr : Rd G F v xs) (hlt : 0 ≤ k ∧ k < xs.length) :
    Op1 P G (.indexAddr t x ix) l F (eptr v (Enc.sz α) k.toNat 0) :=
  Op1.indexAddr (i := k.toNat) hx (by rw [hi, Int.toNat_of_nonneg hlt.1]) hr (by omega)

theorem run_loadVar_scal {t : TypeId} [ht : TScal P t] {b i : Nat} {w : World} {u : Value} (h : w.cell? ⟨b, i, none⟩ = some u) : (loadVar t ⟨b, i, none⟩).run P w = .ok u w := by
  obtain ⟨d, ii, h1, h2, _⟩ := ht.out
  simp [loadVar, run_isAgg_no h1 h2, h]

theorem Op1.load {t : TypeId} [TScal P t] {x : Operand} {b i : Nat} {cs : List Value} {u : Value} (hx : look l x = some (.pointer (some ⟨b, i, none⟩))) (hb : Tok.blk b cs ∈ F) (hi : cs[i]? = some u) :
    Op1 P G (.load t x) l F u := fun o ho c w hc hw => by
  have := run_loadVar_scal (P := P) (t := t) (w := w) (b := b) (i := i) (u := u) (by rw [blkAt_cell (hw.blk hb), hi])
  simp [execOp, ho, hc.eval hx, Instr.loadAt, Instr.sureAddr, this]

theorem Op1.loadE {t : TypeId} [TScal P t] {x : Operand} {v : Value} {xs : List α} {i r : Nat} {u : Value} (hx : look l x = some (eptr v (Enc.sz α) i r)) (hr : Rd G F v xs) (hi : i < xs.length)
    (hu : (Enc.enc (xs.getD i Enc.d))[r]? = some u) : Op1 P G (.load t x) l F u := fun o ho c w hc hw => by
  have hrs : r < Enc.sz α := by
    have := (List.getElem?_eq_some_iff.1 hu).1
    rw [Enc.len] at this; exact this
  obtain ⟨b, of, cap, hv, hce⟩ := (hr w hw).elem hi hrs
  subst hv
  simp only [eptr] at hx
  have := run_loadVar_scal (P := P) (t := t) (w := w) (b := b) (i := of + (i * Enc.sz α + r)) (u := u) (by rw [hce, hu])
  simp [execOp, ho, hc.eval hx, Instr.loadAt, Instr.sureAddr, this]

theorem Op1.loadI {t : TypeId} [TScal P t] {x : Operand} {v : Value} {xs : List Int} {i : Nat} (hx : look l x = some (eptr v (Enc.sz Int) i 0)) (hr : Rd G F v xs) (hi : i < xs.length) :
    Op1 P G (.load t x) l F (.int .i64 (xs.getD i 0)) := Op1.loadE hx hr hi rfl

theorem run_loadVar_agg {t : TypeId} {k : Nat} [ht : TAgg P t k] {b i : Nat} {w : World} {us : List Value} (hl : us.length = k) (h : ∀ j, j < us.length → w.cell? ⟨b, i + j, none⟩ = us[j]?) :
    (loadVar t ⟨b, i, none⟩).run P w = .ok (.agg us.toArray) w := by
  obtain ⟨fs, ii, h1, h2, h3⟩ := ht.out
  have := run_loadCells_list (P := P) w ⟨b, i, none⟩ us (fun j v hj => by rw [addr_add, h j (List.getElem?_eq_some_iff.1 hj).1, hj])
  rw [hl] at this
  simp [loadVar, run_isAgg_yes h1, run_sizeOf' h2, h3, this]

theorem Op1.loadAgg {t : TypeId} {k : Nat} [TAgg P t k] {x : Operand} {b i : Nat} {cs us : List Value} (hx : look l x = some (.pointer (some ⟨b, i, none⟩))) (hb : Tok.blk b cs ∈ F) (hu : (cs.drop i).take k = us) (hl : us.length = k) :
    Op1 P G (.load t x) l F (.agg us.toArray) := fun o ho c w hc hw => by
  have := run_loadVar_agg (P := P) (t := t) (w := w) (b := b) (i := i) (us := us) hl (fun j hj => by
    rw [blkAt_cell (hw.blk hb), ← hu, List.getElem?_take]
    rw [if_pos (by omega), List.getElem?_drop])
  simp [execOp, ho, hc.eval hx, Instr.loadAt, Instr.sureAddr, this]

/-- A whole struct variable. -/
theorem Op1.loadAll {t : TypeId} {k : Nat} [TAgg P t k] {x : Operand} {b : Nat} {cs : List Value} (hx : look l x = some (.pointer (some ⟨b, 0, none⟩))) (hb : Tok.blk b cs ∈ F) (hl : cs.length = k) :
    Op1 P G (.load t x) l F (.agg cs.toArray) := Op1.loadAgg hx hb (by rw [List.drop_zero, ← hl, List.take_length]) hl

/-- A whole element of a struct type. -/
theorem Op1.loadEAgg {t : TypeId} {k : Nat} [TAgg P t k] {x : Operand} {v : Value} {xs : List α} {i : Nat} (hx : look l x = some (eptr v (Enc.sz α) i 0)) (hr : Rd G F v xs) (hi : i < xs.length) (hk : Enc.sz α = k) :
    Op1 P G (.load t x) l F (.agg (Enc.enc (xs.getD i Enc.d)).toArray) := fun o ho c w hc hw => by
  obtain ⟨b, of, cap, hv, _⟩ := (hr w hw).form (by omega)
  subst hv
  simp only [eptr] at hx
  have := run_loadVar_agg (P := P) (t := t) (w := w) (b := b) (i := of + (i * Enc.sz α + 0)) (us := Enc.enc (xs.getD i Enc.d)) (by rw [Enc.len, hk]) (fun j hj => by
    rw [Enc.len] at hj
    obtain ⟨b', of', cap', hv', hce⟩ := (hr w hw).elem hi hj
    simp only [Value.slice.injEq, Option.some.injEq, Addr.mk.injEq] at hv'
    obtain ⟨⟨rfl, rfl, _⟩, _⟩ := hv'
    rw [← hce]; simp [Nat.add_assoc])
  simp only [execOp, ho, hc.eval hx, Instr.loadAt, Instr.sureAddr, Sem.run_bind, Sem.run_pure, Result.andThen_ok, this]

theorem Op1.len {t : TypeId} [ht : TSlice P t α] {x : Operand} {v : Value} {xs : List α} (hx : look l x = some v) (hr : Rd G F v xs) :
    Op1 P G (.call { callee := .builtin .len, args := #[x], argTypes := #[t] }) l F (.int .i64 xs.length) := fun o ho c w hc hw => by
  obtain ⟨e, ii, z, h1, _⟩ := ht.out
  have : ∃ s cap, v = .slice s xs.length cap := by
    rcases (hr w hw).2 with ⟨rfl, h0⟩ | ⟨b, off, cap, rfl, _⟩
    · exact ⟨_, _, by rw [h0]⟩
    · exact ⟨_, _, rfl⟩
  obtain ⟨s, cap, rfl⟩ := this
  simp [execOp, ho, resolve, invoke, builtin, hc.eval hx, Builtin.len_, run_underlying h1, goInt]

theorem Op1.bmin {t u : TypeId} {x y : Operand} {a b : Int} (hx : look l x = some (.int .i64 a)) (hy : look l y = some (.int .i64 b)) :
    Op1 P G (.call { callee := .builtin .min, args := #[x, y], argTypes := #[t, u] }) l F (.int .i64 (min a b)) := fun o ho c w hc _ => by
  have : (if b < a then b else a) = min a b := by rw [Int.min_def]; split <;> split <;> omega
  simp [execOp, ho, resolve, invoke, builtin, hc.eval hx, hc.eval hy, Builtin.min_, Builtin.min2, this]
theorem Op1.bmax {t u : TypeId} {x y : Operand} {a b : Int} (hx : look l x = some (.int .i64 a)) (hy : look l y = some (.int .i64 b)) :
    Op1 P G (.call { callee := .builtin .max, args := #[x, y], argTypes := #[t, u] }) l F (.int .i64 (max a b)) := fun o ho c w hc _ => by
  have : (if b > a then b else a) = max a b := by rw [Int.max_def]; split <;> split <;> omega
  simp [execOp, ho, resolve, invoke, builtin, hc.eval hx, hc.eval hy, Builtin.max_, Builtin.max2, this]

theorem Op1.convInt {s d : TypeId} [hs : TInt P s] {k : IntKind} {x : Operand} {n : Int} (hx : look l x = some (.int k n)) (hd : P.underlying d = some (.int .i64)) (h : -9223372036854775808 ≤ n ∧ n ≤ 9223372036854775807) :
    Op1 P G (.convert s d x) l F (.int .i64 n) := fun o ho c w hc _ => by
  obtain ⟨k', h1⟩ := hs.out
  simp [execOp, ho, hc.eval hx, convert, run_underlying h1, run_underlying hd, Conv.intToInt, i64_fits h.1 h.2]

/-- 's == nil'. -/
theorem Op1.eqNil {t u : TypeId} [ht : TSlice P t α] {x : Operand} {v : Value} {xs : List α} (hx : look l x = some v) (hr : Rd G F v xs) :
    Op1 P G (.binOp .eql t x (.const (.slice none 0 0)) u) l F (.bool (vfp v == [])) := fun o ho c w hc hw => by
  obtain ⟨e, ii, z, h1, _⟩ := ht.out
  have hn : c.eval (.const (.slice none 0 0)) = .slice none 0 0 := rfl
  rcases (hr w hw).2 with ⟨rfl, _⟩ | ⟨b, off, cap, rfl, _⟩
  · simp [execOp, ho, hc.eval hx, hn, eqGuard, binOp, run_equal_nil h1, vfp]
  · simp [execOp, ho, hc.eval hx, hn, eqGuard, binOp, run_equal_nil h1, vfp]
end
end Go.Proofs.Ytfigegmgopnfhaa
/- Operations that make or write memory; calls; the beginning and the end of a function; regions that draw their order. Conditions: none. -/
namespace Go.Proofs.Ytfigegmgopnfhaa
open Go

section
variable {P : Program} {G : Ctx} {l : List (Nat × Value)} {F : List Tok} {Q : Exit → Act → World → Prop}

/-! ### A struct literal -/
def fillL (places : List (Nat × Nat)) : List Value → List (Nat × List Value) → Option (List Value)
  | z, [] => some z
  | z, (i, us) :: ps => match places[i]? with
    | some (off, size) => bif Nat.beq us.length size && Nat.ble (off + us.length) z.length then fillL places (z.take off ++ us ++ z.drop (off + us.length)) ps else none
    | none => none

/-- The parts of a struct literal. -/
def BP (G : Ctx) (l : List (Nat × Value)) (F : List Tok) : List (Nat × Operand) → List (Nat × List Value) → Prop
  | [], [] => True
  | (i, y) :: ps, (j, us) :: qs => i = j ∧ (∃ u, look l y = some u ∧ (u = .agg us.toArray ∨ (us = [u] ∧ One G F [u]))) ∧ BP G l F ps qs
  | _, _ => False

theorem BP.nil : BP G l F [] [] := trivial
theorem BP.agg {i : Nat} {y : Operand} {us : List Value} {ps : List (Nat × Operand)} {qs : List (Nat × List Value)} (hy : look l y = some (.agg us.toArray)) (k : BP G l F ps qs) : BP G l F ((i, y) :: ps) ((i, us) :: qs) :=
  ⟨rfl, ⟨_, hy, .inl rfl⟩, k⟩
theorem BP.one {i : Nat} {y : Operand} {u : Value} {ps : List (Nat × Operand)} {qs : List (Nat × List Value)} (hy : look l y = some u) (h : One G F [u]) (k : BP G l F ps qs) : BP G l F ((i, y) :: ps) ((i, [u]) :: qs) :=
  ⟨rfl, ⟨_, hy, .inr ⟨rfl, h⟩⟩, k⟩

theorem fill_seg (us : List Value) (off : Nat) (rest : List Value) : ∀ (old pre : List Value) (k : Nat), us.length = old.length → pre.length = off + k →
    List.foldl (fun (cs : Array Value) (x : Value × Nat) => cs.setIfInBounds (off + x.2) x.1) (pre ++ old ++ rest).toArray (us.zipIdx k) = (pre ++ us ++ rest).toArray := by
  induction us with
  | nil => intro old pre k h1 _; cases old with
    | nil => simp
    | cons => simp at h1
  | cons x us ih =>
    intro old pre k h1 h2
    cases old with
    | nil => simp at h1
    | cons y old =>
      have h3 := ih old (pre ++ [x]) (k + 1) (by simpa using h1) (by simp [h2]; omega)
      have h4 : (pre ++ y :: old ++ rest).toArray.setIfInBounds (off + k) x = (pre ++ [x] ++ old ++ rest).toArray := by
        rw [← h2]; simp
      rw [List.zipIdx_cons, List.foldl_cons, h4, h3]
      simp

theorem fillL_fill {places : List (Nat × Nat)} {a : Act} {w : World} (ha : Has G.n l a) (hw : St G.W G.M F w) : ∀ (ps : List (Nat × Operand)) (qs : List (Nat × List Value)) (z cs : List Value), BP G l F ps qs → fillL places z qs = some cs →
    Instr.fill (places.toArray[·]?) z.toArray (ps.map fun p => (p.1, a.eval p.2)) = some cs.toArray
  | [], [], z, cs, _, h => by simp only [fillL, Option.some.injEq] at h; subst h; rfl
  | (i, y) :: ps, (j, us) :: qs, z, cs, ⟨hij, ⟨u, hy, hu⟩, hb⟩, h => by
    subst hij
    have hc : u.cells = us.toArray := by
      rcases hu with rfl | ⟨rfl, h1⟩
      · rfl
      · have := h1 w hw u (by simp)
        cases u <;> simp [Value.oneCell', Value.cells] at this ⊢
    simp only [fillL] at h
    cases hp : places[i]? with
    | none => rw [hp] at h; simp at h
    | some q =>
      obtain ⟨off, size⟩ := q
      rw [hp] at h
      simp only at h
      by_cases hb1 : (Nat.beq us.length size && Nat.ble (off + us.length) z.length) = true
      · rw [hb1] at h
        simp only [Bool.and_eq_true] at hb1
        have e1 := Nat.eq_of_beq_eq_true hb1.1
        have e2 := Nat.le_of_ble_eq_true hb1.2
        have ih := fillL_fill ha hw ps qs _ cs hb (by simpa using h)
        rw [List.map_cons, ha.eval hy]
        have hp' : places.toArray[i]? = some (off, size) := by simpa using hp
        simp only [Instr.fill, hp', hc, List.size_toArray]
        have h1 : ¬ ((decide (us.length ≠ size) || decide (off + us.length > z.length)) = true) := by simp [e1]; omega
        rw [if_neg h1, ← ih]
        congr 1
        have hz : z = z.take off ++ (z.drop off).take us.length ++ z.drop (off + us.length) := by
          rw [List.append_assoc, ← List.drop_drop, List.take_append_drop, List.take_append_drop]
        have := fill_seg us off (z.drop (off + us.length)) ((z.drop off).take us.length) (z.take off) 0 (by rw [List.length_take, List.length_drop]; omega) (by rw [List.length_take]; omega)
        rw [← hz] at this
        rw [← Array.foldl_toList, Array.toList_zipIdx]
        refine Eq.trans this ?_
        rw [List.append_assoc]
      · simp only [Bool.not_eq_true] at hb1
        rw [hb1] at h
        simp at h
  | [], _ :: _, _, _, h, _ => h.elim
  | _ :: _, [], _, _, h, _ => h.elim

class TStruct (P : Program) (t : TypeId) (places : outParam (List (Nat × Nat))) : Prop where
  out : ∃ fs, P.underlying t = some (.struct fs) ∧ ∀ w, (fs.mapM fun f => do pure (f.offset, ← sizeOf f.type) : Sem (Array (Nat × Nat))).run P w = .ok places.toArray w

theorem Op1.build {t : TypeId} {places : List (Nat × Nat)} {z : List Value} [ht : TStruct P t places] [hz : TZero P t z] {ps : List (Nat × Operand)} {qs : List (Nat × List Value)} {cs : List Value} (hb : BP G l F ps qs) (hf : fillL places z qs = some cs) :
    Op1 P G (.build t ps.toArray) l F (.agg cs.toArray) := fun o ho a w ha hw => by
  obtain ⟨fs, h1, h2⟩ := ht.out
  obtain ⟨i, v, h3, h4, h5⟩ := hz.out
  have := fillL_fill ha hw ps qs z cs hb hf
  have hparts : (ps.toArray.map fun (x : Nat × Operand) => (x.1, a.eval x.2)).toList = ps.map fun p => (p.1, a.eval p.2) := by simp
  simp only [execOp, ho, Instr.build, Sem.run_bind, zeroValue, typeInfo, run_program, Result.andThen_ok, h3, Sem.run_pure, h4, run_underlying h1, h2 w, hparts, h5, this]

/-! ### From an update of the world to an operation's rule -/
theorem OpE.of_run {op : Op} {T T0 : List Tok} {post : Value → List Tok → Prop} (hp : F.Perm (T ++ T0))
    (h : ∀ o : Oper, o.op = op → ∀ a w, Has G.n l a → St G.W G.M (T ++ T0) w → ∃ v w' T', ((execOp a.eval o).run P w = .ok (.value v) w' ∨ ((execOp a.eval o).run P w = .ok .skip w' ∧ v = undef)) ∧ Upd w w' T T' ∧ post v (T' ++ T0)) :
    OpE P G op l F post := by
  intro o ho a w ha hw K Q hK
  obtain ⟨v, w', T', hr, hu, hpost⟩ := h o ho a w ha (hw.perm hp)
  have hst := (hw.perm hp).upd hu
  unfold Oper.wp
  rcases hr with hr | ⟨hr, rfl⟩
  · rw [hr]; exact hK _ _ _ hpost hst
  · rw [hr]; exact hK _ _ _ hpost hst

theorem OpE.ofPure {op : Op} {v : Value} (h : Op1 P G op l F v) : OpE P G op l F fun v' F' => v' = v ∧ F' = F := fun o ho a w ha hw K Q hK => by
  unfold Oper.wp
  rw [h o ho a w ha hw]
  exact hK v F w ⟨rfl, rfl⟩ hw
theorem OpE.weaken {op : Op} {post post' : Value → List Tok → Prop} (h : OpE P G op l F post) (hp : ∀ v F', post v F' → post' v F') : OpE P G op l F post' :=
  fun o ho a w ha hw K Q hK => h o ho a w ha hw K Q fun v F' w' hv hs => hK v F' w' (hp v F' hv) hs

theorem WPL.eff {ops : Array Oper} {d : Nat} {op : Op} {ty : TypeId} {pos : String} {after : Array Edge} {g : Option (Nat × Bool)} {rest : List Oper} {post : Value → List Tok → Prop}
    (h : OpE P G op l F post) (hg : asked ops l g = some true) (hd : Nat.blt d G.n = true) (k : ∀ v F', post v F' → WPL P G ops rest ((d, v) :: l) F' Q) :
    WPL P G ops (⟨some d, op, ty, pos, after, g⟩ :: rest) l F Q := fun a w ha hw => by
  have hwt := asked_wanted (o := ⟨some d, op, ty, pos, after, g⟩) ha hg
  unfold wpList
  rw [if_pos hwt]
  exact .inl (h _ rfl a w ha hw _ _ fun v F' w' hv hs => k v F' hv _ _ (ha.put hd v) hs)

theorem WPL.eff0 {ops : Array Oper} {op : Op} {ty : TypeId} {pos : String} {after : Array Edge} {g : Option (Nat × Bool)} {rest : List Oper} {post : Value → List Tok → Prop}
    (h : OpE P G op l F post) (hg : asked ops l g = some true) (k : ∀ v F', post v F' → WPL P G ops rest l F' Q) :
    WPL P G ops (⟨none, op, ty, pos, after, g⟩ :: rest) l F Q := fun a w ha hw => by
  have hwt := asked_wanted (o := ⟨none, op, ty, pos, after, g⟩) ha hg
  unfold wpList
  rw [if_pos hwt]
  exact .inl (h _ rfl a w ha hw _ _ fun v F' w' hv hs => k v F' hv _ _ ha hs)

/-! ### New blocks -/
theorem upd_new (w : World) (cs : List Value) (e : TypeId) : Upd w (w.alloc (.cells cs.toArray e (0, 0))) [] [Tok.blk w.heap.size cs] := by
  refine ⟨by simp [Tok.blk], ?_, ?_, ?_, by simp, rfl, rfl, rfl⟩
  · intro t ht
    simp only [List.mem_singleton] at ht
    subst ht
    exact ⟨e, heap_alloc_new w _⟩
  · intro b hb
    simp [Tok.blk] at hb
    right; omega
  · intro b hb _
    exact heap_alloc_old w _ hb

theorem OpE.box {t : TypeId} {x : Operand} {cs : List Value} (hx : look l x = some (.agg cs.toArray)) :
    OpE P G (.box t x) l F fun v F' => ∃ b, v = .pointer (some ⟨b, 0, none⟩) ∧ F' = Tok.blk b cs :: F :=
  OpE.of_run (T := []) (T0 := F) (by simp) fun o ho a w ha _ =>
    ⟨.pointer (some ⟨w.heap.size, 0, none⟩), w.alloc (.cells cs.toArray t (0, 0)), [Tok.blk w.heap.size cs],
      .inl (by simp [execOp, ho, ha.eval hx, Instr.box, newVar, newRow, Value.cells]), upd_new w cs t, _, rfl, rfl⟩

theorem OpE.boxI {t : TypeId} {x : Operand} {u : Value} (hx : look l x = some u) (hu : u.oneCell' = true) :
    OpE P G (.box t x) l F fun v F' => ∃ b, v = .pointer (some ⟨b, 0, none⟩) ∧ F' = Tok.blk b [u] :: F :=
  OpE.of_run (T := []) (T0 := F) (by simp) fun o ho a w ha _ =>
    ⟨.pointer (some ⟨w.heap.size, 0, none⟩), w.alloc (.cells [u].toArray t (0, 0)), [Tok.blk w.heap.size [u]],
      .inl (by
        have : u.cells = #[u] := by cases u <;> simp [Value.oneCell', Value.cells] at hu ⊢
        simp [execOp, ho, ha.eval hx, Instr.box, newVar, newRow, this]), upd_new w [u] t, _, rfl, rfl⟩

theorem OpE.alloc {t : TypeId} {z : List Value} [ht : TZero P t z] :
    OpE P G (.alloc t) l F fun v F' => ∃ b, v = .pointer (some ⟨b, 0, none⟩) ∧ F' = Tok.blk b z :: F :=
  OpE.of_run (T := []) (T0 := F) (by simp) fun o ho a w _ _ =>
    ⟨.pointer (some ⟨w.heap.size, 0, none⟩), w.alloc (.cells z.toArray t (0, 0)), [Tok.blk w.heap.size z],
      .inl (by
        obtain ⟨i, v, h1, h2, h3⟩ := ht.out
        simp [execOp, ho, Instr.alloc, zeroValue, typeInfo, h1, h2, newVar, newRow, h3]), upd_new w z t, _, rfl, rfl⟩

/-! ### Stores -/
theorem upd_row {w : World} {b : Nat} {cs : List Value} (h : blkAt w b cs) (cs' : List Value) : Upd w (w.setRow b cs'.toArray) [Tok.blk b cs] [Tok.blk b cs'] := by
  obtain ⟨e, he⟩ := h
  refine ⟨by simp [Tok.blk], ?_, ?_, ?_, by simp, rfl, rfl, rfl⟩
  · intro t ht
    simp only [List.mem_singleton] at ht
    subst ht
    exact ⟨e, setRow_heap w b cs.toArray cs'.toArray e (0, 0) he⟩
  · intro c hc; left; exact hc
  · intro c _ hc
    refine setRow_other w b c _ fun e => hc ?_
    simp [Tok.blk, e]

theorem run_storeVar' {t : TypeId} {i : TypeInfo} (hi : P.info? t = some i) {b o : Nat} {u : Value} {us cs : List Value} {w : World} (h : blkAt w b cs) (hc : u.cells = us.toArray) (hl : us.length = i.size)
    (hfit : o + us.length ≤ cs.length) (h1 : ∀ v ∈ us, v.oneCell' = true) :
    (storeVar t ⟨b, o, none⟩ u).run P w = .ok () (w.setRow b (cs.take o ++ us ++ cs.drop (o + us.length)).toArray) := by
  obtain ⟨e, he⟩ := h
  have := run_storeCells_at P b o e us 0 cs.toArray w he (by simpa using hfit) h1
  simp only [Nat.add_zero] at this
  unfold storeVar
  simp only [Sem.run_bind, run_sizeOf' hi, Result.andThen_ok, hc]
  rw [if_neg (by simp [hl])]
  simp [this]

theorem OpE.storeV {t : TypeId} {x y : Operand} {b o : Nat} {u : Value} {us cs : List Value} {F0 : List Tok} {i : TypeInfo} (hi : P.info? t = some i) (hp : F.Perm (Tok.blk b cs :: F0)) (hx : look l x = some (.pointer (some ⟨b, o, none⟩)))
    (hy : look l y = some u) (hc : u.cells = us.toArray) (hl : us.length = i.size) (hfit : o + us.length ≤ cs.length) (h1 : One G F us) :
    OpE P G (.store t x y) l F fun _ F' => F' = Tok.blk b (cs.take o ++ us ++ cs.drop (o + us.length)) :: F0 :=
  OpE.of_run (T := [Tok.blk b cs]) (T0 := F0) hp fun o' ho a w ha hw => by
    have hb := hw.blk (b := b) (cs := cs) (by simp)
    have hs := run_storeVar' (P := P) (t := t) hi (o := o) hb hc hl hfit (h1 w (hw.perm hp.symm))
    exact ⟨undef, w.setRow b (cs.take o ++ us ++ cs.drop (o + us.length)).toArray, [Tok.blk b (cs.take o ++ us ++ cs.drop (o + us.length))],
      .inr ⟨by simp [execOp, ho, ha.eval hx, ha.eval hy, Instr.storeAt, Instr.sureAddr, hs], rfl⟩, upd_row hb _, rfl⟩

theorem take_set_drop {α : Type} (cs : List α) (o : Nat) (u : α) (h : o < cs.length) : cs.take o ++ [u] ++ cs.drop (o + [u].length) = cs.set o u := by
  rw [List.set_eq_take_append_cons_drop, if_pos h]; simp

/-- A store of one cell's value. -/
theorem OpE.store {t : TypeId} [ht : TScal P t] {x y : Operand} {b o : Nat} {u : Value} {cs : List Value} {F0 : List Tok} (hx : look l x = some (.pointer (some ⟨b, o, none⟩))) (hy : look l y = some u)
    (hp : F.Perm (Tok.blk b cs :: F0)) (hfit : Nat.blt o cs.length = true) (h1 : One G F [u]) :
    OpE P G (.store t x y) l F fun _ F' => F' = Tok.blk b (cs.set o u) :: F0 := by
  obtain ⟨d, i, _, _, h3, h4⟩ := ht.out
  have hfit' : o < cs.length := Nat.lt_of_succ_le (by simpa [Nat.blt] using hfit)
  intro o' ho a w ha hw
  have hu : u.oneCell' = true := h1 w hw u (by simp)
  have hc : u.cells = [u].toArray := by cases u <;> simp [Value.oneCell', Value.cells] at hu ⊢
  have := OpE.storeV (P := P) (G := G) (l := l) (F := F) h3 hp hx hy hc (by simp [h4]) (by simp only [List.length_singleton]; omega) h1
  rw [take_set_drop cs o u hfit'] at this
  exact this o' ho a w ha hw

/-- A store into a whole struct variable. -/
theorem OpE.storeAll {t : TypeId} {k : Nat} [ht : TAgg P t k] {x y : Operand} {b : Nat} {us cs : List Value} {F0 : List Tok} (hx : look l x = some (.pointer (some ⟨b, 0, none⟩))) (hy : look l y = some (.agg us.toArray))
    (hp : F.Perm (Tok.blk b cs :: F0)) (hl : us.length = k) (hk : cs.length = k) (h1 : One G F us) :
    OpE P G (.store t x y) l F fun _ F' => F' = Tok.blk b us :: F0 := by
  obtain ⟨fs, i, _, h2, h3⟩ := ht.out
  have := OpE.storeV (P := P) (G := G) (l := l) (F := F) h2 hp hx hy rfl (by rw [hl, h3]) (by omega) h1
  have h4 : cs.drop (0 + us.length) = [] := List.drop_eq_nil_of_le (by omega)
  rw [h4] at this
  simpa using this

/-- A store of a struct into a part of a variable. -/
theorem OpE.storeAgg {t : TypeId} {k : Nat} [ht : TAgg P t k] {x y : Operand} {b o : Nat} {us cs : List Value} {F0 : List Tok} (hx : look l x = some (.pointer (some ⟨b, o, none⟩))) (hy : look l y = some (.agg us.toArray))
    (hp : F.Perm (Tok.blk b cs :: F0)) (hl : us.length = k) (hk : o + us.length ≤ cs.length) (h1 : One G F us) :
    OpE P G (.store t x y) l F fun _ F' => F' = Tok.blk b (cs.take o ++ us ++ cs.drop (o + us.length)) :: F0 := by
  obtain ⟨fs, i, _, h2, h3⟩ := ht.out
  exact OpE.storeV (P := P) (G := G) (l := l) (F := F) h2 hp hx hy rfl (by rw [hl, h3]) hk h1

section
variable {α : Type} [Enc α]

theorem upd_ownRow {w : World} {b cap : Nat} {v : Value} {xs ys : List α} {post post' : List Value} (hv : v = .slice (some ⟨b, 0, none⟩) xs.length cap) (h : blkAt w b (encs xs ++ post))
    (hc : cap ≤ maxLen) (n' : Nat) (v' : Value) (hv' : v' = .slice (some ⟨b, 0, none⟩) ys.length cap) (hn : ys.length ≤ cap) (hs : cap * Enc.sz α = (encs ys ++ post').length) (_h0 : n' = ys.length) :
    Upd w (w.setRow b (encs ys ++ post').toArray) [Tok.own v xs] [Tok.own v' ys] := by
  obtain ⟨e, he⟩ := h
  subst hv hv'
  refine ⟨by simp [Tok.own, vfp], ?_, ?_, ?_, by simp, rfl, rfl, rfl⟩
  · intro t ht
    simp only [List.mem_singleton] at ht
    subst ht
    exact ⟨encs_length ys, .inr ⟨b, cap, post', rfl, hn, hc, hs, e, setRow_heap w b _ _ e (0, 0) he⟩⟩
  · intro c hc; left; simpa [Tok.own, vfp] using hc
  · intro c _ hc
    refine setRow_other w b c _ fun e => hc ?_
    simp [Tok.own, vfp, e]

/-- A store into an element of an owned slice (the whole element, or one cell of it: y is the element behind it). -/
theorem OpE.storeE {t : TypeId} {i : TypeInfo} (hi : P.info? t = some i) {x y : Operand} {v u : Value} {xs : List α} {us : List Value} {F0 : List Tok} {j r : Nat} (z : α) (hx : look l x = some (eptr v (Enc.sz α) j r)) (hy : look l y = some u)
    (hp : F.Perm (Tok.own v xs :: F0)) (hj : j < xs.length) (hc : u.cells = us.toArray) (hl : us.length = i.size) (hr : r + us.length ≤ Enc.sz α) (h1 : One G F us)
    (hz : Enc.enc z = (Enc.enc (xs.getD j Enc.d)).take r ++ us ++ (Enc.enc (xs.getD j Enc.d)).drop (r + us.length)) :
    OpE P G (.store t x y) l F fun _ F' => F' = Tok.own v (xs.set j z) :: F0 :=
  OpE.of_run (T := [Tok.own v xs]) (T0 := F0) hp fun o' ho a w ha hw => by
    have hown := hw.own (v := v) (xs := xs) (by simp)
    rcases hown.2 with ⟨rfl, h0⟩ | ⟨b, cap, post, hv, hn, hcm, hs, hb⟩
    · omega
    have hlen := encs_length xs
    have hjb : (j + 1) * Enc.sz α ≤ xs.length * Enc.sz α := Nat.mul_le_mul_right _ hj
    rw [Nat.add_mul, Nat.one_mul] at hjb
    have hx' := hx
    rw [hv] at hx'
    simp only [eptr, Nat.zero_add] at hx'
    have hst := run_storeVar' (P := P) (t := t) hi (o := j * Enc.sz α + r) hb hc hl (by rw [List.length_append]; omega) (h1 w (hw.perm hp.symm))
    have hd : xs.getD j Enc.d = xs[j] := by rw [List.getD_eq_getElem?_getD, List.getElem?_eq_getElem hj]; rfl
    have hsplit : encs xs = (encs xs).take (j * Enc.sz α) ++ Enc.enc (xs.getD j Enc.d) ++ (encs xs).drop (j * Enc.sz α + Enc.sz α) := by
      rw [hd, ← encs_set xs j xs[j] hj, List.set_getElem_self]
    have hE : (Enc.enc (xs.getD j Enc.d)).length = Enc.sz α := Enc.len _
    have key : (encs xs ++ post).take (j * Enc.sz α + r) ++ us ++ (encs xs ++ post).drop (j * Enc.sz α + r + us.length) = encs (xs.set j z) ++ post := by
      rw [encs_set xs j z hj, hz]
      generalize hA : (encs xs).take (j * Enc.sz α) = A at *
      generalize hB : (encs xs).drop (j * Enc.sz α + Enc.sz α) = B at *
      generalize Enc.enc (xs.getD j Enc.d) = C at *
      have hAl : A.length = j * Enc.sz α := by rw [← hA, List.length_take]; omega
      have e1 : j * Enc.sz α + r + us.length = A.length + (r + us.length) := by omega
      have e2 : j * Enc.sz α + r = A.length + r := by omega
      rw [hsplit, e1, e2]
      simp only [List.append_assoc, List.take_length_add_append, List.drop_length_add_append]
      rw [List.take_append_of_le_length (by omega), List.drop_append_of_le_length (by omega)]
      try simp
    rw [key] at hst
    refine ⟨undef, _, [Tok.own v (xs.set j z)], .inr ⟨by simp [execOp, ho, ha.eval hx', ha.eval hy, Instr.storeAt, Instr.sureAddr, hst], rfl⟩,
      upd_ownRow (post' := post) hv hb hcm _ v (by simpa using hv) (by simpa using hn) ?_ rfl, rfl⟩
    rw [hs, List.length_append, List.length_append, hlen, encs_length]
    simp

/-- 's[j] = x' at elements of one cell. -/
theorem OpE.store1 {t : TypeId} [ht : TScal P t] [Val α] {x y : Operand} {v : Value} {xs : List α} {F0 : List Tok} {j : Nat} (z : α) (hx : look l x = some (eptr v (Enc.sz α) j 0)) (hy : look l y = some (Val.val z))
    (hp : F.Perm (Tok.own v xs :: F0)) (hj : j < xs.length) (hs : Enc.sz α = 1) :
    OpE P G (.store t x y) l F fun _ F' => F' = Tok.own v (xs.set j z) :: F0 := by
  obtain ⟨d, i, _, _, h3, h4⟩ := ht.out
  refine OpE.storeE (P := P) h3 z hx hy hp hj (Val.cells z) (by rw [Enc.len, hs, h4]) (by rw [Enc.len]; omega) (fun _ _ => Val.one z) ?_
  have h1 := Enc.len z
  have h2 := Enc.len (xs.getD j (Enc.d : α))
  rw [List.take_zero, List.nil_append, List.drop_eq_nil_of_le (by omega), List.append_nil]

/-- 's[j] = e' at elements of a struct type. -/
theorem OpE.storeS {t : TypeId} {k : Nat} [ht : TAgg P t k] [Val α] {x y : Operand} {v : Value} {xs : List α} {F0 : List Tok} {j : Nat} (z : α) (hx : look l x = some (eptr v (Enc.sz α) j 0)) (hy : look l y = some (.agg (Enc.enc z).toArray))
    (hp : F.Perm (Tok.own v xs :: F0)) (hj : j < xs.length) (hs : Enc.sz α = k) :
    OpE P G (.store t x y) l F fun _ F' => F' = Tok.own v (xs.set j z) :: F0 := by
  obtain ⟨fs, i, _, h3, h4⟩ := ht.out
  refine OpE.storeE (P := P) h3 z hx hy hp hj rfl (by rw [Enc.len, hs, h4]) (by rw [Enc.len]; omega) (fun _ _ => Val.one z) ?_
  have h1 := Enc.len z
  have h2 := Enc.len (xs.getD j (Enc.d : α))
  rw [List.take_zero, List.nil_append, List.drop_eq_nil_of_le (by omega), List.append_nil]

/-- 's[j].f = x' (one cell of an element). -/
theorem OpE.storeF {t : TypeId} [ht : TScal P t] {x y : Operand} {v u : Value} {xs : List α} {F0 : List Tok} {j r : Nat} (z : α) (hx : look l x = some (eptr v (Enc.sz α) j r)) (hy : look l y = some u)
    (hp : F.Perm (Tok.own v xs :: F0)) (hj : j < xs.length) (hr : r < Enc.sz α) (h1 : One G F [u]) (hu : u.cells = #[u])
    (hz : Enc.enc z = (Enc.enc (xs.getD j Enc.d)).set r u) :
    OpE P G (.store t x y) l F fun _ F' => F' = Tok.own v (xs.set j z) :: F0 := by
  obtain ⟨d, i, _, _, h3, h4⟩ := ht.out
  refine OpE.storeE (P := P) h3 z hx hy hp hj (us := [u]) hu (by simp [h4]) (by simp only [List.length_singleton]; omega) h1 ?_
  rw [hz, take_set_drop _ _ _ (by rw [Enc.len]; exact hr)]

/-! ### New slices -/
theorem upd_newSl (w : World) (xs : List α) (post : List Value) (cap : Nat) (e : TypeId) (hn : xs.length ≤ cap) (hcm : cap ≤ maxLen) (hs : cap * Enc.sz α = (encs xs ++ post).length) :
    Upd w (w.alloc (.cells (encs xs ++ post).toArray e (0, 0))) [] [Tok.own (.slice (some ⟨w.heap.size, 0, none⟩) xs.length cap) xs] := by
  refine ⟨by simp [Tok.own, vfp], ?_, ?_, ?_, by simp, rfl, rfl, rfl⟩
  · intro t ht
    simp only [List.mem_singleton] at ht
    subst ht
    exact ⟨encs_length xs, .inr ⟨w.heap.size, cap, post, rfl, hn, hcm, hs, e, heap_alloc_new w _⟩⟩
  · intro b hb
    simp [Tok.own, vfp] at hb
    right; omega
  · intro b hb _
    exact heap_alloc_old w _ hb

/-- The parts of a slice literal, from number i on. -/
def BParts [Val α] (l : List (Nat × Value)) : List (Nat × Operand) → List α → Nat → Prop
  | [], [], _ => True
  | (j, y) :: ps, x :: xs, i => j = i ∧ look l y = some (Val.val x) ∧ BParts l ps xs (i + 1)
  | _, _, _ => False

theorem fill_one (sz : Nat) (u : List Value) (pre old rest : List Value) (hu : u.length = sz) (ho : old.length = sz) (more : List (Nat × Value)) (v : Value) (hv : v.cells = u.toArray) (i : Nat) (hp : pre.length = i * sz) :
    Instr.fill (fun i => some (i * sz, sz)) (pre ++ old ++ rest).toArray ((i, v) :: more) = Instr.fill (fun i => some (i * sz, sz)) (pre ++ u ++ rest).toArray more := by
  simp only [Instr.fill, hv]
  have h1 : ¬ ((decide (u.toArray.size ≠ sz) || decide (i * sz + u.toArray.size > (pre ++ old ++ rest).toArray.size)) = true) := by
    simp [hu, ho, hp]
  rw [if_neg h1]
  congr 1
  have key : ∀ (u old' pre' : List Value) (k : Nat), u.length = old'.length → pre'.length = i * sz + k →
      List.foldl (fun (cs : Array Value) (x : Value × Nat) => cs.setIfInBounds (i * sz + x.2) x.1) (pre' ++ old' ++ rest).toArray (u.zipIdx k) = (pre' ++ u ++ rest).toArray := by
    intro u
    induction u with
    | nil => intro old' pre' k h1 _; cases old' with
      | nil => simp
      | cons => simp at h1
    | cons x u ih =>
      intro old' pre' k h1 h2
      cases old' with
      | nil => simp at h1
      | cons y old' =>
        have h3 := ih old' (pre' ++ [x]) (k + 1) (by simpa using h1) (by simp [h2]; omega)
        have h4 : (pre' ++ y :: old' ++ rest).toArray.setIfInBounds (i * sz + k) x = (pre' ++ [x] ++ old' ++ rest).toArray := by
          rw [← h2]; simp
        rw [List.zipIdx_cons, List.foldl_cons, h4, h3]
        simp
  have := key u old pre 0 (by omega) (by omega)
  rw [← Array.foldl_toList, Array.toList_zipIdx]
  exact this

theorem fill_parts [Val α] {l : List (Nat × Value)} {a : Act} {n : Nat} (ha : Has n l a) : ∀ (ps : List (Nat × Operand)) (xs : List α) (pre old : List Value) (i : Nat), BParts l ps xs i → pre.length = i * Enc.sz α → old.length = xs.length * Enc.sz α →
    Instr.fill (fun i => some (i * Enc.sz α, Enc.sz α)) (pre ++ old).toArray (ps.map fun p => (p.1, a.eval p.2)) = some (pre ++ encs xs).toArray
  | [], [], pre, old, i, _, _, ho => by
    have : old = [] := List.eq_nil_of_length_eq_zero (by simpa using ho)
    simp [Instr.fill, this]
  | (j, y) :: ps, x :: xs, pre, old, i, h, hp, ho => by
    obtain ⟨rfl, hy, hb⟩ := h
    have hl : old = old.take (Enc.sz α) ++ old.drop (Enc.sz α) := (List.take_append_drop _ _).symm
    rw [List.length_cons, Nat.add_mul, Nat.one_mul] at ho
    rw [List.map_cons, ha.eval hy, hl, ← List.append_assoc, fill_one (Enc.sz α) (Enc.enc x) pre (old.take (Enc.sz α)) (old.drop (Enc.sz α)) (Enc.len x) (by rw [List.length_take]; omega) _ _ (Val.cells x) j hp]
    rw [fill_parts ha ps xs (pre ++ Enc.enc x) (old.drop (Enc.sz α)) (j + 1) hb (by rw [List.length_append, hp, Enc.len, Nat.add_mul, Nat.one_mul]) (by rw [List.length_drop, ho]; omega)]
    rw [encs_cons, List.append_assoc]
  | [], _ :: _, _, _, _, h, _, _ => h.elim
  | _ :: _, [], _, _, _, h, _, _ => h.elim

theorem OpE.buildSlice [Val α] {t : TypeId} [ht : TSlice P t α] {n : Nat} {ps : List (Nat × Operand)} (xs : List α) (hps : BParts l ps xs 0) (hn : xs.length = n) (hsm : n * Enc.sz α ≤ 1000) :
    OpE P G (.buildSlice t n ps.toArray) l F fun v F' => F' = Tok.own v xs :: F :=
  OpE.of_run (T := []) (T0 := F) (by simp) fun o ho a w ha _ => by
    obtain ⟨e, i, z, h1, h2, h3, _, h5, h6⟩ := ht.out
    subst hn
    have hzs : z.cells.size = Enc.sz α := by rw [h6, List.size_toArray, Enc.len]
    have hsmall : ¬ (xs.length * Enc.sz α > 2 ^ 24) := by omega
    have hcap : xs.length ≤ maxLen := by
      have := Nat.le_mul_of_pos_right xs.length (Enc.pos (α := α))
      simp only [maxLen]; omega
    have hfill : ∀ zc : Array Value, Instr.fill (fun i => some (i * Enc.sz α, Enc.sz α)) ((Array.range (xs.length * Enc.sz α)).map (zc[· % zc.size]!)) (ps.map fun p => (p.1, a.eval p.2)) = some (encs xs).toArray := by
      intro zc
      have := fill_parts ha ps xs [] ((Array.range (xs.length * Enc.sz α)).map (zc[· % zc.size]!)).toList 0 hps (by simp) (by simp)
      rw [List.nil_append, List.nil_append, Array.toArray_toList] at this
      exact this
    refine ⟨.slice (some ⟨w.heap.size, 0, none⟩) xs.length xs.length, w.alloc (.cells (encs xs ++ []).toArray e (0, 0)), [Tok.own (.slice (some ⟨w.heap.size, 0, none⟩) xs.length xs.length) xs], .inl ?_,
      upd_newSl w xs [] xs.length e (Nat.le_refl _) hcap (by simp [encs_length]), rfl⟩
    have hparts : (ps.toArray.map fun (x : Nat × Operand) => (x.1, a.eval x.2)).toList = ps.map fun p => (p.1, a.eval p.2) := by simp
    simp only [execOp, ho, Instr.buildSlice, Sem.run_bind, run_underlying h1, Result.andThen_ok, run_sizeOf' h2, h3, if_neg hsmall, Sem.run_pure]
    by_cases hz0 : xs.length * Enc.sz α = 0
    · rw [if_pos hz0]
      simp only [Sem.run_bind, Sem.run_pure, Result.andThen_ok]
      have := hfill #[]
      rw [← hparts] at this
      simp only [hz0] at this ⊢
      rw [this]
      simp [newRow]
    · rw [if_neg hz0]
      simp only [zeroValue, typeInfo, Sem.run_bind, run_program, Result.andThen_ok, h2, Sem.run_pure, h5]
      have := hfill z.cells
      rw [← hparts] at this
      rw [this]
      simp [newRow]
end
end
end Go.Proofs.Ytfigegmgopnfhaa
/- append, make; calls of functions; the beginning and the end of a function; regions that draw their order. Conditions: none. -/
namespace Go.Proofs.Ytfigegmgopnfhaa
open Go

section
variable {P : Program} {G : Ctx} {l : List (Nat × Value)} {F : List Tok} {Q : Exit → Act → World → Prop}

section
variable {α : Type} [Enc α]

theorem run_append_room' {t ty e e' : TypeId} {i : TypeInfo} (w : World) (ht : P.underlying t = some (.slice e)) (hi : P.info? e = some i)
    (g sLen sCap : Nat) (cur : Array Value) (hg : w.heap[g]? = some (.cells cur e' (0, 0)))
    (a : Addr) (m c : Nat) (news : List Value) (hl : news.length = m * i.size) (hnews : ∀ j u, news[j]? = some u → w.cell? (a.add j) = some u) (h1 : ∀ u ∈ news, u.oneCell' = true)
    (hroom : sLen + m ≤ sCap) (hfit : sLen * i.size + news.length ≤ cur.size) :
    (Builtin.append_ #[t, t] ty #[.slice (some ⟨g, 0, none⟩) sLen sCap, .slice (some a) m c]).run P w =
      .ok (.slice (some ⟨g, 0, none⟩) (sLen + m) sCap) (w.setRow g (cur.toList.take (sLen * i.size) ++ news ++ cur.toList.drop (sLen * i.size + news.length)).toArray) := by
  have hf := run_firstCells_some (P := P) w i.size m a m c news hl hnews
  have hst := run_storeCells_at P g (sLen * i.size) e' news 0 cur w hg (by simpa using hfit) h1
  simp only [Nat.add_zero] at hst
  simp [Builtin.append_, run_underlying ht, sizeOf, typeInfo, hi, Builtin.lenOf, hroom, hf, Addr.add_lit, hst]

theorem upd_same {w : World} {v : Value} {xs : List α} (h : ownAt w (Enc.sz α) v xs.length (encs xs)) (ys : List α) (he : ys = xs) : Upd w w [Tok.own v xs] [Tok.own v ys] := by
  subst he
  refine ⟨by simp [Tok.own, vfp_nodup], ?_, fun _ hb => .inl hb, fun _ _ _ => rfl, Nat.le_refl _, rfl, rfl, rfl⟩
  intro t ht
  simp only [List.mem_singleton] at ht
  subst ht
  exact h

theorem upd_grow {w : World} {v : Value} {xs : List α} (_h : ownAt w (Enc.sz α) v xs.length (encs xs)) (ys : List α) (post : List Value) (cap : Nat) (e : TypeId) (hn : ys.length ≤ cap) (hcm : cap ≤ maxLen) (hs : cap * Enc.sz α = (encs ys ++ post).length) :
    Upd w (w.drew.alloc (.cells (encs ys ++ post).toArray e (0, 0))) [Tok.own v xs] [Tok.own (.slice (some ⟨w.heap.size, 0, none⟩) ys.length cap) ys] := by
  have u := upd_newSl w.drew ys post cap e hn hcm hs
  refine ⟨u.nodup, u.holds, fun b hb => .inr ?_, fun b hb _ => u.keep b hb (by simp), u.size, u.os, u.tape, u.output⟩
  rcases u.base b hb with h | h
  · simp at h
  · exact h

theorem OpE.append [Val α] {t : TypeId} [ht : TSlice P t α] {x y : Operand} {v v2 : Value} {xs ys : List α} {F0 : List Tok} (hx : look l x = some v) (hy : look l y = some v2)
    (hp : F.Perm (Tok.own v xs :: F0)) (hr : Rd G F v2 ys) (hsm : xs.length + ys.length ≤ 1099511627776) :
    OpE P G (.call { callee := .builtin .append, args := #[x, y], argTypes := #[t, t] }) l F fun v' F' => F' = Tok.own v' (xs ++ ys) :: F0 :=
  OpE.of_run (T := [Tok.own v xs]) (T0 := F0) hp fun o ho a w ha hw => by
    obtain ⟨e, i, z, h1, h2, h3, h4, h5, h6⟩ := ht.out
    have hb64 : i.bytes ≤ 64 := Nat.le_of_ble_eq_true h4
    have hzs : z.cells.size = Enc.sz α := by rw [h6, List.size_toArray, Enc.len]
    have hown := hw.own (v := v) (xs := xs) (by simp)
    have hrd := hr w (hw.perm hp.symm)
    have hops : ∀ s, execOp a.eval o = s → True := fun _ _ => trivial
    suffices h : ∃ v' w', (Builtin.append_ #[t, t] o.type #[v, v2]).run P w = .ok v' w' ∧ Upd w w' [Tok.own v xs] [Tok.own v' (xs ++ ys)] by
      obtain ⟨v', w', hrun, hu⟩ := h
      exact ⟨v', w', [Tok.own v' (xs ++ ys)], .inl (by simp [execOp, ho, resolve, invoke, builtin, ha.eval hx, ha.eval hy, hrun]), hu, rfl⟩
    have hm1 : (xs.length + ys.length) * i.bytes ≤ 140737488355328 := Nat.le_trans (Nat.mul_le_mul hsm hb64) (by decide)
    have hmx : xs.length + ys.length ≤ maxLen := by simp only [maxLen]; omega
    -- a new row
    have grown : ∀ old : Nat, ∃ post, grownCap w (xs.length + ys.length) old e * Enc.sz α = (encs (xs ++ ys) ++ post).length ∧
        ((encs xs).toArray ++ (encs ys).toArray ++ Builtin.zeroCells z.cells (grownCap w (xs.length + ys.length) old e - (xs.length + ys.length))) = (encs (xs ++ ys) ++ post).toArray ∧
        xs.length + ys.length ≤ grownCap w (xs.length + ys.length) old e ∧ grownCap w (xs.length + ys.length) old e ≤ maxLen := by
      intro old
      have hge := grownCap_ge w (xs.length + ys.length) old e
      refine ⟨(Builtin.zeroCells z.cells (grownCap w (xs.length + ys.length) old e - (xs.length + ys.length))).toList, ?_, ?_, hge, grownCap_le_maxLen w _ old e hmx⟩
      · have hz : (Builtin.zeroCells z.cells (grownCap w (xs.length + ys.length) old e - (xs.length + ys.length))).toList.length = (grownCap w (xs.length + ys.length) old e - (xs.length + ys.length)) * Enc.sz α := by
          rw [Array.length_toList, size_zeroCells, hzs]
        rw [List.length_append, encs_length, hz, List.length_append, ← Nat.add_mul]
        congr 1; omega
      · apply Array.ext'; simp
    rcases hrd.2 with ⟨rfl, h0⟩ | ⟨b2, off2, cap2, rfl, hn2, hb2, hc2⟩
    · -- nothing is appended
      have hys : ys = [] := List.eq_nil_of_length_eq_zero h0
      subst hys
      refine ⟨v, w, ?_, upd_same hown _ (by simp)⟩
      rcases hown.2 with ⟨rfl, _⟩ | ⟨b, cap, post, rfl, hn, _⟩
      · simp [Builtin.append_, run_underlying h1, sizeOf, typeInfo, h2, Builtin.lenOf, Builtin.firstCells]
      · simp [Builtin.append_, run_underlying h1, sizeOf, typeInfo, h2, Builtin.lenOf, Builtin.firstCells, hn, storeCells]
    · have hnews : ∀ j u, (encs ys)[j]? = some u → w.cell? ((⟨b2, off2, none⟩ : Addr).add j) = some u := fun j u hu => by
        rw [addr_add, hc2 j (List.getElem?_eq_some_iff.1 hu).1, hu]
      have hl : (encs ys).length = ys.length * i.size := by rw [encs_length, h3]
      by_cases hm0 : ys.length = 0
      · have hys : ys = [] := List.eq_nil_of_length_eq_zero hm0
        subst hys
        refine ⟨v, w, ?_, upd_same hown _ (by simp)⟩
        rcases hown.2 with ⟨rfl, _⟩ | ⟨b, cap, post, rfl, hn, _⟩
        · simp [Builtin.append_, run_underlying h1, sizeOf, typeInfo, h2, Builtin.lenOf, Builtin.firstCells, loadCells, loadCellsFrom]
        · simp [Builtin.append_, run_underlying h1, sizeOf, typeInfo, h2, Builtin.lenOf, Builtin.firstCells, hn, storeCells, loadCells, loadCellsFrom]
      rcases hown.2 with ⟨rfl, hx0⟩ | ⟨b, cap, post, rfl, hn, hcm, hs, hblk⟩
      · have hxs : xs = [] := List.eq_nil_of_length_eq_zero hx0
        subst hxs
        have hrun := run_append_nil (P := P) w t o.type e i z h1 h2 h5 ⟨b2, off2, none⟩ ys.length cap2 (encs ys) hl hnews (by omega) (by simp only [maxLen] at hmx; simp at hmx; omega) (by simp at hm1; omega)
        obtain ⟨post, g1, g2, g3, g4⟩ := grown 0
        simp only [List.length_nil, Nat.zero_add, List.nil_append, encs_nil] at g1 g2 g3 g4
        have g2' : ((encs ys).toArray ++ Builtin.zeroCells z.cells (grownCap w ys.length 0 e - ys.length)) = (encs ys ++ post).toArray := by rw [← g2]; simp
        refine ⟨_, _, hrun, ?_⟩
        rw [g2']
        exact upd_grow hown ys post _ e g3 g4 g1
      · obtain ⟨e', hg⟩ := hblk
        by_cases hroom : xs.length + ys.length ≤ cap
        · have hfit : xs.length * i.size + (encs ys).length ≤ (encs xs ++ post).length := by
            rw [hl, h3, ← hs, ← Nat.add_mul]; exact Nat.mul_le_mul_right _ hroom
          have hrun := run_append_room' (P := P) (ty := o.type) w h1 h2 b xs.length cap (encs xs ++ post).toArray hg ⟨b2, off2, none⟩ ys.length cap2 (encs ys) hl hnews (encs_one ys) hroom (by simpa using hfit)
          have hxl : (encs xs).length = xs.length * i.size := by rw [encs_length, h3]
          have hrow : ((encs xs ++ post).toArray.toList.take (xs.length * i.size) ++ encs ys ++ (encs xs ++ post).toArray.toList.drop (xs.length * i.size + (encs ys).length)) = encs (xs ++ ys) ++ post.drop (encs ys).length := by
            rw [← hxl, List.take_left, List.drop_length_add_append, encs_append]
          rw [hrow] at hrun
          refine ⟨_, _, hrun, ?_⟩
          refine upd_ownRow (xs := xs) (ys := xs ++ ys) (post' := post.drop (encs ys).length) rfl ⟨e', hg⟩ hcm _ _ (by simp) (by simpa using hroom) ?_ rfl
          rw [hs, List.length_append, List.length_append, List.length_drop, encs_length, encs_length, List.length_append, Nat.add_mul] at *
          rw [encs_length] at *
          simp only [hl, h3] at hfit
          omega
        · have holds : ∀ j u, (encs xs)[j]? = some u → w.cell? ((⟨b, 0, none⟩ : Addr).add j) = some u := fun j u hu => by
            rw [addr_add, blkAt_cell ⟨e', hg⟩, Nat.zero_add, List.getElem?_append_left (List.getElem?_eq_some_iff.1 hu).1, hu]
          have hrun := run_append_grow (P := P) w t o.type e i z h1 h2 h5 ⟨b, 0, none⟩ xs.length cap (encs xs) (by rw [encs_length, h3]) holds ⟨b2, off2, none⟩ ys.length cap2 (encs ys) hl hnews (by omega)
            (by simp only [maxLen] at hmx; omega) (growslice_fits (by omega) hm1)
          obtain ⟨post', g1, g2, g3, g4⟩ := grown cap
          rw [g2] at hrun
          refine ⟨_, _, hrun, ?_⟩
          have := upd_grow hown (xs ++ ys) post' (grownCap w (xs.length + ys.length) cap e) e (by simpa using g3) g4 g1
          simpa using this

/-- A nil slice's token is to be had for nothing. -/
theorem St.nilTok {W : World} {M : List Nat} {F : List Tok} {w : World} (hw : St W M F w) (α : Type) [Enc α] : St W M (Tok.own (.slice none 0 0) ([] : List α) :: F) w := by
  refine ⟨by simpa [Tok.own, vfp] using hw.nodup, ?_, by simpa [Tok.own, vfp] using hw.base, hw.keep, hw.size, hw.os, hw.tape, hw.output⟩
  intro t ht
  rcases List.mem_cons.1 ht with rfl | ht
  · exact ⟨by simp [encs], .inl ⟨rfl, rfl⟩⟩
  · exact hw.holds t ht
theorem WP.nilTok {c : Code} (α : Type) [Enc α] (h : WP P G c l (Tok.own (.slice none 0 0) ([] : List α) :: F) Q) : WP P G c l F Q := fun a w ha hw => h a w ha (hw.nilTok α)
theorem WPL.nilTok {ops : Array Oper} {rest : List Oper} (α : Type) [Enc α] (h : WPL P G ops rest l (Tok.own (.slice none 0 0) ([] : List α) :: F) Q) : WPL P G ops rest l F Q := fun a w ha hw => h a w ha (hw.nilTok α)
theorem PE.nilTok {e : Exit} (α : Type) [Enc α] (h : PE G e l (Tok.own (.slice none 0 0) ([] : List α) :: F) Q) : PE G e l F Q := fun a w ha hw => h a w ha (hw.nilTok α)

/-- append onto a nil slice that no token is known of. -/
theorem OpE.appendNil [Val α] {t : TypeId} [TSlice P t α] {x y : Operand} {v2 : Value} {ys : List α} (hx : look l x = some (.slice none 0 0)) (hy : look l y = some v2)
    (hr : Rd G F v2 ys) (hsm : ys.length ≤ 1099511627776) :
    OpE P G (.call { callee := .builtin .append, args := #[x, y], argTypes := #[t, t] }) l F fun v' F' => F' = Tok.own v' ys :: F := by
  intro o ho a w ha hw K Q hK
  have hw' : St G.W G.M (Tok.own (.slice none 0 0) ([] : List α) :: F) w := hw.nilTok α
  have hr' : Rd G (Tok.own (.slice none 0 0) ([] : List α) :: F) v2 ys := fun w' h => hr w' (h.sub (SubT.skip (SubT.refl F)))
  have := OpE.append (P := P) (G := G) (l := l) (F := Tok.own (.slice none 0 0) ([] : List α) :: F) (xs := ([] : List α)) hx hy (List.Perm.refl _) hr' (by simp only [List.length_nil]; omega) (t := t)
  exact this o ho a w ha hw' K Q fun v F' w' h => hK v F' w' (by rw [h, List.nil_append])

/-- 'make([]T, n)'. -/
theorem OpE.make [Val α] {t : TypeId} [ht : TSlice P t α] {x y : Operand} {n : Nat} (hx : look l x = some (.int .i64 n)) (hy : look l y = some (.int .i64 n)) (hsm : n ≤ 1099511627776) :
    OpE P G (.makeSlice t x y) l F fun v F' => F' = Tok.own v (List.replicate n (Enc.d : α)) :: F :=
  OpE.of_run (T := []) (T0 := F) (by simp) fun o ho a w ha _ => by
    obtain ⟨e, i, z, h1, h2, h3, h4, h5, h6⟩ := ht.out
    have hb64 : i.bytes ≤ 64 := Nat.le_of_ble_eq_true h4
    have hzs : z.cells.size = Enc.sz α := by rw [h6, List.size_toArray, Enc.len]
    have hw : IntKind.i64.wrap (n : Int) = n := i64_fits (by omega) (by omega)
    have hm1 : i.bytes * n ≤ 140737488355328 := Nat.le_trans (Nat.mul_le_mul hb64 hsm) (by decide)
    have hbig : ¬ ((2 : Int) ^ 48 < (i.bytes : Int) * (n : Int)) := by
      have : ((i.bytes * n : Nat) : Int) ≤ 140737488355328 := Int.ofNat_le.2 hm1
      rw [Int.natCast_mul] at this
      omega
    have hneg : ¬ ((n : Int) < 0) := by omega
    have hrow : (Array.range (n * Enc.sz α)).map (z.cells[· % z.cells.size]!) = (encs (List.replicate n (Enc.d : α)) ++ []).toArray := by
      apply Array.ext
      · simp [encs_length]
      · intro k hk1 hk2
        have hk : k < n * Enc.sz α := by simpa using hk1
        have hpos := Enc.pos (α := α)
        have hq : k / Enc.sz α < n := by rw [Nat.div_lt_iff_lt_mul hpos]; exact hk
        have hr := Nat.mod_lt k hpos
        have hg := encs_get (List.replicate n (Enc.d : α)) (k / Enc.sz α) (k % Enc.sz α) (by simpa using hq) hr
        rw [Nat.div_add_mod'] at hg
        have hd : (List.replicate n (Enc.d : α)).getD (k / Enc.sz α) Enc.d = Enc.d := by
          rw [List.getD_eq_getElem?_getD, List.getElem?_replicate, if_pos hq]; rfl
        rw [hd] at hg
        have hkl : k < (encs (List.replicate n (Enc.d : α))).length := by rw [encs_length]; simpa using hk
        rw [List.getElem?_eq_getElem hkl, List.getElem?_eq_getElem (by rw [Enc.len]; exact hr)] at hg
        simp only [Option.some.injEq] at hg
        simp only [Array.getElem_map, Array.getElem_range, List.append_nil, List.getElem_toArray, hg, hzs]
        have : z.cells[k % Enc.sz α]! = (Enc.enc (Enc.d : α)).toArray[k % Enc.sz α]! := by rw [h6]
        rw [this, getElem!_pos _ _ (by rw [List.size_toArray, Enc.len]; exact hr)]
        simp
    by_cases h0 : n * Enc.sz α = 0
    · have hn0 : n = 0 := by
        rcases Nat.mul_eq_zero.1 h0 with h | h
        · exact h
        · have := Enc.pos (α := α); omega
      subst hn0
      refine ⟨.slice (some ⟨w.heap.size, 0, none⟩) 0 0, w.alloc (.cells (encs ([] : List α) ++ []).toArray e (0, 0)), [Tok.own (.slice (some ⟨w.heap.size, 0, none⟩) 0 0) ([] : List α)], .inl ?_,
        upd_newSl w [] [] 0 e (Nat.le_refl _) (by decide) (by simp), rfl⟩
      have hw0 : IntKind.i64.wrap 0 = 0 := by decide
      have hr0 : Array.range 0 = #[] := by apply Array.ext <;> simp
      simp [execOp, ho, ha.eval hx, ha.eval hy, Instr.makeSlice, run_underlying h1, asInt, asIntOf, typeInfo, h2, run_sizeOf' h2, newRow, hw0]
      simp [hr0]
    · refine ⟨.slice (some ⟨w.heap.size, 0, none⟩) n n, w.alloc (.cells (encs (List.replicate n (Enc.d : α)) ++ []).toArray e (0, 0)), [Tok.own (.slice (some ⟨w.heap.size, 0, none⟩) n n) (List.replicate n (Enc.d : α))], .inl ?_, ?_, rfl⟩
      · rw [← hrow]
        have hbig' : ¬ (281474976710656 < (i.bytes : Int) * (n : Int)) := by simpa using hbig
        have hor : ¬ (((n : Int) < 0 ∨ 281474976710656 < (i.bytes : Int) * (n : Int)) ∨ (n : Int) < 0) := by omega
        simp [execOp, ho, ha.eval hx, ha.eval hy, Instr.makeSlice, run_underlying h1, asInt, asIntOf, hw, run_sizeOf' h2, h3, zeroValue, typeInfo, h2, h5, newRow, h0]
        intro h
        exact absurd h hor
      · have := upd_newSl w (List.replicate n (Enc.d : α)) [] n e (by simp) (by simp only [maxLen]; omega) (by simp [encs_length])
        simpa using this
end
end
end Go.Proofs.Ytfigegmgopnfhaa
/- Calls of functions; the beginning and the end of a function; regions that draw their order. Conditions: none. -/
namespace Go.Proofs.Ytfigegmgopnfhaa
open Go

/-- A contract: called in the world w, with the tokens T, the function returns a value v and tokens T' that meet 'post'. -/
def Tri (P : Program) (f : FuncId) (args : List Value) (w : World) (T : List Tok) (post : Value → List Tok → Prop) : Prop :=
  (fps T).Nodup → (∀ t ∈ T, t.holds w) → Calls P f args.toArray w fun e w' => ∃ v T', e = .returned v ∧ post v T' ∧ Upd w w' T T'

theorem Tri.weaken {P : Program} {f : FuncId} {args : List Value} {w : World} {T : List Tok} {post post' : Value → List Tok → Prop} (h : Tri P f args w T post) (hp : ∀ v T', post v T' → post' v T') : Tri P f args w T post' :=
  fun hn hh => (h hn hh).mono fun _ _ ⟨v, T', he, hv, hu⟩ => ⟨v, T', he, hp v T' hv, hu⟩

def RP (w : World) (T : List Tok) (post : Value → List Tok → Prop) (e : Ending) (w' : World) : Prop :=
  ∃ v T', e = .returned v ∧ post v T' ∧ Upd w w' T T'

def argE : Nat → List Value → List (Nat × Value)
  | _, [] => []
  | k, v :: vs => (k, v) :: argE (k + 1) vs

theorem argE_get : ∀ (vs : List Value) (k t : Nat) (v : Value), lk (argE k vs) t = some v → k ≤ t ∧ vs[t - k]? = some v
  | [], k, t, v, h => by simp [argE, lk] at h
  | u :: vs, k, t, v, h => by
    simp only [argE, lk] at h
    by_cases e : Nat.beq k t = true
    · rw [e] at h
      have := Nat.eq_of_beq_eq_true e
      subst this
      simpa using h
    · simp only [Bool.not_eq_true] at e
      rw [e] at h
      obtain ⟨h1, h2⟩ := argE_get vs (k + 1) t v (by simpa using h)
      refine ⟨by omega, ?_⟩
      have : t - k = t - (k + 1) + 1 := by omega
      rw [this]; simpa using h2

theorem Tri.intro {P : Program} {f : FuncId} {fn : Func} {c : Code} {n : Nat} {args : List Value} {w : World} {T : List Tok} {post : Value → List Tok → Prop} (hf : P.funcs[f]? = some fn) (hb : fn.body = some c) (hn : fn.ntmps = n)
    (hle : args.length ≤ n) (h : WP P ⟨n, w, fps T⟩ c (argE 0 args) T (bodyPost P fn (RP w T post))) : Tri P f args w T post := by
  intro hnd hh
  refine calls_of_wp hf hb ?_
  refine h _ w ⟨?_, rfl, ?_⟩ (St.start hnd hh)
  · simp [hn]; omega
  · intro t v ht
    have := (argE_get args 0 t v ht).2
    simp only [Nat.sub_zero] at this
    have hlt : t < args.length := (List.getElem?_eq_some_iff.1 this).1
    rw [Array.getElem?_append_left (by simpa using hlt)]
    simpa using this

/-! ### Calls -/
def looks (l : List (Nat × Value)) : List Operand → List Value → Prop
  | [], [] => True
  | x :: xs, v :: vs => look l x = some v ∧ looks l xs vs
  | _, _ => False

theorem looks.map {l : List (Nat × Value)} {n : Nat} {a : Act} (ha : Has n l a) : ∀ {xs : List Operand} {vs : List Value}, looks l xs vs → xs.map a.eval = vs
  | [], [], _ => rfl
  | x :: xs, v :: vs, ⟨h, k⟩ => by rw [List.map_cons, ha.eval h, looks.map ha k]
  | [], _ :: _, h => h.elim
  | _ :: _, [], h => h.elim

section
variable {P : Program} {G : Ctx} {l : List (Nat × Value)} {F : List Tok} {Q : Exit → Act → World → Prop}

theorem OpE.callV {fx : Operand} {fid : FuncId} {caps : List Value} {xs : List Operand} {vs : List Value} {at_ : Array TypeId} {T T0 : List Tok} {post : Value → List Tok → Prop} [hf : TFun P fid]
    (hfx : look l fx = some (.func (.func fid) #[] caps.toArray)) (hxs : looks l xs vs) (hp : F.Perm (T ++ T0))
    (ht : ∀ w, St G.W G.M F w → Tri P fid (vs ++ caps) w T post) :
    OpE P G (.call { callee := .value fx, args := xs.toArray, argTypes := at_ }) l F fun v F' => ∃ T', post v T' ∧ F' = T' ++ T0 := by
  intro o ho a w ha hw K Q hK
  have hst := hw.perm hp
  have hn := hst.nodup
  rw [fps_append, List.nodup_append] at hn
  have htri := ht w hw hn.1 (fun t h => hst.holds t (by simp [h]))
  obtain ⟨fn, h1, h2, h3⟩ := hf.out
  have hargs : (xs.toArray.map a.eval) = vs.toArray := by
    rw [List.map_toArray, looks.map ha hxs]
  unfold Oper.wp execOp
  simp only [ho, resolve, ha.eval hfx, Deferred.ofValue, invoke, callFunc, Sem.run_bind, Sem.run_pure, Result.andThen_ok, run_program, h1, h2, h3, hargs, Bool.false_eq_true, if_false, List.append_toArray, List.nil_append]
  rw [Oper.upon_enter]
  refine htri.mono fun e w' ⟨v, T', he, hpost, hu⟩ => ?_
  subst he
  exact hK v (T' ++ T0) w' ⟨T', hpost, rfl⟩ (hst.upd hu)

/-- A call of a function that asks for no token. -/
theorem OpE.call {fid : FuncId} {xs : List Operand} {vs : List Value} {at_ : Array TypeId} {post : Value → List Tok → Prop} [TFun P fid]
    (hxs : looks l xs vs) (ht : ∀ w, St G.W G.M F w → Tri P fid vs w [] post) :
    OpE P G (.call { callee := .value (.func fid), args := xs.toArray, argTypes := at_ }) l F fun v F' => ∃ T', post v T' ∧ F' = T' ++ F :=
  OpE.callV (caps := []) (T := []) (T0 := F) rfl hxs (by simp) (by simpa using ht)

/-- A call of a function that takes tokens. -/
theorem OpE.callT {fid : FuncId} {xs : List Operand} {vs : List Value} {at_ : Array TypeId} {T T0 : List Tok} {post : Value → List Tok → Prop} [TFun P fid]
    (hxs : looks l xs vs) (hp : F.Perm (T ++ T0)) (ht : ∀ w, St G.W G.M F w → Tri P fid vs w T post) :
    OpE P G (.call { callee := .value (.func fid), args := xs.toArray, argTypes := at_ }) l F fun v F' => ∃ T', post v T' ∧ F' = T' ++ T0 :=
  OpE.callV (caps := []) rfl hxs hp (by simpa using ht)

/-! ### The end of a function -/
def resV (P : Program) (l : List (Nat × Value)) (F : List Tok) : List ResultVar → List Value → Prop
  | [], [] => True
  | .tmp t :: rs, v :: vs => lk l t = some v ∧ resV P l F rs vs
  | .cell a t :: rs, v :: vs => (∃ b cs, lk l a = some (.pointer (some ⟨b, 0, none⟩)) ∧ Tok.blk b cs ∈ F ∧ ((∃ k, TAgg P t k ∧ cs.length = k ∧ v = .agg cs.toArray) ∨ (TScal P t ∧ cs = [v]))) ∧ resV P l F rs vs
  | _, _ => False

def resF (tmps : Array Value) : ResultVar → Sem Value
  | .tmp t => pure (tmps.getD t undef)
  | .cell b t => do loadVar t (← asAddr (tmps.getD b undef))

theorem results_eq (fn : Func) (tmps : Array Value) : results fn tmps = (fn.results.mapM (resF tmps) >>= fun vs => pure (if h : vs.size = 1 then vs[0] else .tuple vs)) := by
  rfl

theorem resV_run {W : World} {M : List Nat} {n : Nat} {a : Act} {w : World} (ha : Has n l a) (hw : St W M F w) : ∀ (rs : List ResultVar) (vs : List Value), resV P l F rs vs →
    (rs.mapM (resF a.tmps)).run P w = .ok vs w
  | [], [], _ => by simp
  | .tmp t :: rs, v :: vs, ⟨h, k⟩ => by
    have h1 : a.tmps.getD t undef = v := by have := ha.get t v h; simp [Array.getD_eq_getD_getElem?, this]
    have h2 : (resF a.tmps (.tmp t)).run P w = .ok v w := by simp [resF, h1]
    simp only [List.mapM_cons, Sem.run_bind, Sem.run_pure, h2, Result.andThen_ok, resV_run ha hw rs vs k]
  | .cell b t :: rs, v :: vs, ⟨⟨bb, cs, h, hm, hor⟩, k⟩ => by
    have h1 : a.tmps.getD b undef = .pointer (some ⟨bb, 0, none⟩) := by have := ha.get b _ h; simp [Array.getD_eq_getD_getElem?, this]
    have hb := hw.blk hm
    have hl : (loadVar t ⟨bb, 0, none⟩).run P w = .ok v w := by
      rcases hor with ⟨k, hk, hlen, rfl⟩ | ⟨hk, rfl⟩
      · exact run_loadVar_agg (us := cs) hlen (fun j hj => by rw [Nat.zero_add, blkAt_cell hb])
      · exact run_loadVar_scal (by rw [blkAt_cell hb]; rfl)
    have h2 : (resF a.tmps (.cell b t)).run P w = .ok v w := by
      have h3 : (asAddr (a.tmps.getD b undef)).run P w = .ok ⟨bb, 0, none⟩ w := by rw [h1]; rfl
      show ((asAddr (a.tmps.getD b undef)) >>= fun x => loadVar t x).run P w = _
      rw [Sem.run_bind, h3]
      exact hl
    simp only [List.mapM_cons, Sem.run_bind, Sem.run_pure, h2, Result.andThen_ok, resV_run ha hw rs vs k]
  | [], _ :: _, h => h.elim
  | .tmp _ :: _, [], h => h.elim
  | .cell _ _ :: _, [], h => h.elim

theorem PE.ret {n : Nat} {fn : Func} {W : World} {T T' : List Tok} {post : Value → List Tok → Prop} {rs : List ResultVar} {vs : List Value} {v : Value} (hr : fn.results = rs.toArray) (hv : resV P l F rs vs)
    (hone : (if h : vs.toArray.size = 1 then vs.toArray[0] else .tuple vs.toArray) = v) (hpost : post v T') (hT : SubT T' F) :
    PE ⟨n, W, fps T⟩ .ret l F (bodyPost P fn (RP W T post)) := fun a w ha hw => by
  refine ⟨ha.defers, v, ?_, v, T', rfl, hpost, ?_⟩
  · have := resV_run (P := P) ha hw rs vs hv
    rw [results_eq, hr]
    simp only [List.mapM_toArray, Sem.run_bind, Sem.run_map, this, Result.andThen_ok, Sem.run_pure]
    rw [← hone]
  · exact (hw.sub hT).toUpd

theorem PE.ret1 {n : Nat} {fn : Func} {W : World} {T T' : List Tok} {post : Value → List Tok → Prop} {r : ResultVar} {v : Value} (hr : fn.results = #[r]) (hv : resV P l F [r] [v])
    (hpost : post v T') (hT : SubT T' F) : PE ⟨n, W, fps T⟩ .ret l F (bodyPost P fn (RP W T post)) :=
  PE.ret (rs := [r]) (vs := [v]) hr hv rfl hpost hT
theorem PE.ret2 {n : Nat} {fn : Func} {W : World} {T T' : List Tok} {post : Value → List Tok → Prop} {r s : ResultVar} {u v : Value} (hr : fn.results = #[r, s]) (hv : resV P l F [r, s] [u, v])
    (hpost : post (.tuple #[u, v]) T') (hT : SubT T' F) : PE ⟨n, W, fps T⟩ .ret l F (bodyPost P fn (RP W T post)) :=
  PE.ret (rs := [r, s]) (vs := [u, v]) hr hv rfl hpost hT
theorem PE.ret3 {n : Nat} {fn : Func} {W : World} {T T' : List Tok} {post : Value → List Tok → Prop} {r s q : ResultVar} {u v x : Value} (hr : fn.results = #[r, s, q]) (hv : resV P l F [r, s, q] [u, v, x])
    (hpost : post (.tuple #[u, v, x]) T') (hT : SubT T' F) : PE ⟨n, W, fps T⟩ .ret l F (bodyPost P fn (RP W T post)) :=
  PE.ret (rs := [r, s, q]) (vs := [u, v, x]) hr hv rfl hpost hT
theorem PE.ret4 {n : Nat} {fn : Func} {W : World} {T T' : List Tok} {post : Value → List Tok → Prop} {r s q p : ResultVar} {u v x y : Value} (hr : fn.results = #[r, s, q, p]) (hv : resV P l F [r, s, q, p] [u, v, x, y])
    (hpost : post (.tuple #[u, v, x, y]) T') (hT : SubT T' F) : PE ⟨n, W, fps T⟩ .ret l F (bodyPost P fn (RP W T post)) :=
  PE.ret (rs := [r, s, q, p]) (vs := [u, v, x, y]) hr hv rfl hpost hT
theorem PE.end0 {n : Nat} {fn : Func} {W : World} {T T' : List Tok} {post : Value → List Tok → Prop} (hr : fn.results = #[])
    (hpost : post (.tuple #[]) T') (hT : SubT T' F) : PE ⟨n, W, fps T⟩ .normal l F (bodyPost P fn (RP W T post)) := fun a w ha hw =>
  PE.ret (P := P) (n := n) (rs := []) (vs := []) (v := .tuple #[]) hr trivial rfl hpost hT a w ha hw
theorem PE.ret0 {n : Nat} {fn : Func} {W : World} {T T' : List Tok} {post : Value → List Tok → Prop} (hr : fn.results = #[])
    (hpost : post (.tuple #[]) T') (hT : SubT T' F) : PE ⟨n, W, fps T⟩ .ret l F (bodyPost P fn (RP W T post)) :=
  PE.ret (P := P) (n := n) (rs := []) (vs := []) (v := .tuple #[]) hr trivial rfl hpost hT

/-! ### Regions that draw their order -/
/-- At a panic the post does not look at the slots. -/
def QP (Q : Exit → Act → World → Prop) : Prop := ∀ (d : Nat) (v : Value) c a w, Q (.panic c) (a.put (some d) v) w → Q (.panic c) a w
theorem QP.then {K : Act → World → Prop} (h : QP Q) : QP (Exit.then K Q) := h
theorem QP.inBlock {id : Nat} (h : QP Q) : QP (Exit.inBlock id Q) := h
theorem QP.body {fn : Func} {R : Ending → World → Prop} : QP (bodyPost P fn R) := fun _ _ _ _ _ h => h

def WPD (P : Program) (G : Ctx) (Fs : List Tok) (ops : Array Oper) (fuel : Nat) (listed : Array Bool) (l : List (Nat × Value)) (F : List Tok) (Q : Exit → Act → World → Prop) : Prop :=
  ∀ a w, Has G.n l a → St G.W G.M F w → wpAnyH P .any ops Q (St G.W G.M Fs) fuel listed a w

/-- Fs: the tokens that stay as they are from the region's beginning to its end. -/
theorem WP.draw {id : Nat} {L : List Oper} (Fs : List Tok) (hm : P.follows .mixedOrders = true) (h : WPD P G Fs L.toArray L.length (Array.replicate L.length false) l F Q) :
    WP P G (.region id L.toArray true) l F Q := fun a w ha hw => by
  refine wp_region_held (S := St G.W G.M Fs) hm ?_
  have := h a _ ha hw.drew
  simpa using this

/-- Operation number i is pure and may come up: it is taken now. -/
theorem WPD.take {Fs : List Tok} {ops : Array Oper} {fuel : Nat} {listed : Array Bool} (i : Nat) {d : Nat} {op : Op} {ty : TypeId} {pos : String} {after : Array Edge} {g : Option (Nat × Bool)} {v : Value}
    (hi : ops[i]? = some ⟨some d, op, ty, pos, after, g⟩) (h : Op1 P G op l Fs v) (hg : asked ops l g = some true) (hd : Nat.blt d G.n = true) (hsub : SubT Fs F)
    (hs : Region.noSelect ops = true) (hf : Region.free .any ops listed i = true) (hr : (Region.ready .any ops listed).contains i = true)
    (hQ : QP Q)
    (k : WPD P G Fs ops fuel (listed.setIfInBounds i true) ((d, v) :: l) F Q) : WPD P G Fs ops (fuel + 1) listed l F Q := fun _ _ ha hw =>
  wpAnyH_take hi hs hf hr (hQ _ _) (.inl ⟨asked_wanted ha hg, fun w' hS => h _ rfl _ w' ha hS⟩) (hw.sub hsub) (k _ _ (ha.put hd v) hw)

theorem WPD.skip {Fs : List Tok} {ops : Array Oper} {fuel : Nat} {listed : Array Bool} (i : Nat) {d : Nat} {op : Op} {ty : TypeId} {pos : String} {after : Array Edge} {g : Option (Nat × Bool)}
    (hi : ops[i]? = some ⟨some d, op, ty, pos, after, g⟩) (hg : asked ops l g = some false) (hd : Nat.blt d G.n = true) (hsub : SubT Fs F)
    (hs : Region.noSelect ops = true) (hf : Region.free .any ops listed i = true) (hr : (Region.ready .any ops listed).contains i = true)
    (hQ : QP Q)
    (k : WPD P G Fs ops fuel (listed.setIfInBounds i true) ((d, undef) :: l) F Q) : WPD P G Fs ops (fuel + 1) listed l F Q := fun _ _ ha hw =>
  wpAnyH_take hi hs hf hr (hQ _ _) (.inr ⟨asked_wanted ha hg, rfl⟩) (hw.sub hsub) (k _ _ (ha.put hd undef) hw)

/-- A slot that holds a Bool is decided now. -/
theorem WPD.split {Fs : List Tok} {ops : Array Oper} {fuel : Nat} {listed : Array Bool} (d : Nat) {b : Bool} (hb : lk l d = some (.bool b))
    (ht : b = true → WPD P G Fs ops fuel listed ((d, .bool true) :: l) F Q) (hf : b = false → WPD P G Fs ops fuel listed ((d, .bool false) :: l) F Q) :
    WPD P G Fs ops fuel listed l F Q := fun a w ha hw => by
  cases b with
  | true => exact ht rfl a w (ha.know hb) hw
  | false => exact hf rfl a w (ha.know hb) hw

def WPO (P : Program) (G : Ctx) (Fs : List Tok) (ops : Array Oper) (fuel : Nat) (listed : Array Bool) (l : List (Nat × Value)) (F : List Tok) (Q : Exit → Act → World → Prop) (i : Nat) : Prop :=
  ∀ a w, Has G.n l a → St G.W G.M F w → wpOp P ops Q i (fun a' w' => St G.W G.M Fs w' ∧ wpAnyH P .any ops Q (St G.W G.M Fs) fuel (listed.setIfInBounds i true) a' w') a w

/-- Whichever of those that may come up comes up. -/
theorem WPD.ready {Fs : List Tok} {ops : Array Oper} {fuel : Nat} {listed : Array Bool} (rs : List Nat) (hr : Region.ready .any ops listed = rs) (hne : rs ≠ [])
    (h : ∀ i ∈ rs, WPO P G Fs ops fuel listed l F Q i) : WPD P G Fs ops (fuel + 1) listed l F Q := fun a w ha hw =>
  wpAnyH_all hr hne fun i hi => h i hi a w ha hw

theorem WPO.eff {Fs : List Tok} {ops : Array Oper} {fuel : Nat} {listed : Array Bool} {i d : Nat} {op : Op} {ty : TypeId} {pos : String} {after : Array Edge} {g : Option (Nat × Bool)} {post : Value → List Tok → Prop}
    (hi : ops[i]? = some ⟨some d, op, ty, pos, after, g⟩) (h : OpE P G op l F post) (hg : asked ops l g = some true) (hd : Nat.blt d G.n = true)
    (k : ∀ v F', post v F' → SubT Fs F' ∧ WPD P G Fs ops fuel (listed.setIfInBounds i true) ((d, v) :: l) F' Q) : WPO P G Fs ops fuel listed l F Q i := fun a w ha hw => by
  unfold wpOp
  simp only [hi]
  rw [if_pos (asked_wanted (o := ⟨some d, op, ty, pos, after, g⟩) ha hg)]
  exact .inl (h _ rfl a w ha hw _ _ fun v F' w' hv hs => ⟨hs.sub (k v F' hv).1, (k v F' hv).2 _ _ (ha.put hd v) hs⟩)

theorem WPO.eff0 {Fs : List Tok} {ops : Array Oper} {fuel : Nat} {listed : Array Bool} {i : Nat} {op : Op} {ty : TypeId} {pos : String} {after : Array Edge} {g : Option (Nat × Bool)} {post : Value → List Tok → Prop}
    (hi : ops[i]? = some ⟨none, op, ty, pos, after, g⟩) (h : OpE P G op l F post) (hg : asked ops l g = some true)
    (k : ∀ v F', post v F' → SubT Fs F' ∧ WPD P G Fs ops fuel (listed.setIfInBounds i true) l F' Q) : WPO P G Fs ops fuel listed l F Q i := fun a w ha hw => by
  unfold wpOp
  simp only [hi]
  rw [if_pos (asked_wanted (o := ⟨none, op, ty, pos, after, g⟩) ha hg)]
  exact .inl (h _ rfl a w ha hw _ _ fun v F' w' hv hs => ⟨hs.sub (k v F' hv).1, (k v F' hv).2 _ _ ha hs⟩)

/-- Only operation number i may come up. -/
theorem WPD.eff {Fs : List Tok} {ops : Array Oper} {fuel : Nat} {listed : Array Bool} (i : Nat) {d : Nat} {op : Op} {ty : TypeId} {pos : String} {after : Array Edge} {g : Option (Nat × Bool)} {post : Value → List Tok → Prop}
    (hr : Region.ready .any ops listed = [i]) (hi : ops[i]? = some ⟨some d, op, ty, pos, after, g⟩) (h : OpE P G op l F post) (hg : asked ops l g = some true) (hd : Nat.blt d G.n = true)
    (k : ∀ v F', post v F' → SubT Fs F' ∧ WPD P G Fs ops fuel (listed.setIfInBounds i true) ((d, v) :: l) F' Q) : WPD P G Fs ops (fuel + 1) listed l F Q :=
  WPD.ready [i] hr (by simp) fun j hj => by
    simp only [List.mem_singleton] at hj; subst hj
    exact WPO.eff hi h hg hd k
theorem WPD.eff0 {Fs : List Tok} {ops : Array Oper} {fuel : Nat} {listed : Array Bool} (i : Nat) {op : Op} {ty : TypeId} {pos : String} {after : Array Edge} {g : Option (Nat × Bool)} {post : Value → List Tok → Prop}
    (hr : Region.ready .any ops listed = [i]) (hi : ops[i]? = some ⟨none, op, ty, pos, after, g⟩) (h : OpE P G op l F post) (hg : asked ops l g = some true)
    (k : ∀ v F', post v F' → SubT Fs F' ∧ WPD P G Fs ops fuel (listed.setIfInBounds i true) l F' Q) : WPD P G Fs ops (fuel + 1) listed l F Q :=
  WPD.ready [i] hr (by simp) fun j hj => by
    simp only [List.mem_singleton] at hj; subst hj
    exact WPO.eff0 hi h hg k

theorem OneM.out {u : Value} {w : World} (h : OneM F u) (hw : St G.W G.M F w) : u.oneCell' = true := by
  obtain ⟨t, ht, h⟩ := h; exact h w (hw.holds t ht)
/-- What a token tells of a value, as a plain fact. -/
theorem WPD.one1 {Fs : List Tok} {ops : Array Oper} {fuel : Nat} {listed : Array Bool} (u : Value) (h : OneM F u) (k : u.oneCell' = true → WPD P G Fs ops fuel listed l F Q) : WPD P G Fs ops fuel listed l F Q :=
  fun a w ha hw => k (h.out hw) a w ha hw
theorem WP.one1 {c : Code} (u : Value) (h : OneM F u) (k : u.oneCell' = true → WP P G c l F Q) : WP P G c l F Q :=
  fun a w ha hw => k (h.out hw) a w ha hw
theorem WPL.one1 {ops : Array Oper} {rest : List Oper} (u : Value) (h : OneM F u) (k : u.oneCell' = true → WPL P G ops rest l F Q) : WPL P G ops rest l F Q :=
  fun a w ha hw => k (h.out hw) a w ha hw
theorem WPD.two {Fs : List Tok} {ops : Array Oper} {fuel : Nat} {listed : Array Bool} (i j : Nat) (hr : Region.ready .any ops listed = [i, j]) (hi : WPO P G Fs ops fuel listed l F Q i) (hj : WPO P G Fs ops fuel listed l F Q j) :
    WPD P G Fs ops (fuel + 1) listed l F Q :=
  WPD.ready [i, j] hr (by simp) fun k hk => by
    simp only [List.mem_cons, List.not_mem_nil, or_false] at hk
    rcases hk with rfl | rfl
    · exact hi
    · exact hj
theorem WPD.three {Fs : List Tok} {ops : Array Oper} {fuel : Nat} {listed : Array Bool} (i j m : Nat) (hr : Region.ready .any ops listed = [i, j, m]) (hi : WPO P G Fs ops fuel listed l F Q i) (hj : WPO P G Fs ops fuel listed l F Q j) (hm : WPO P G Fs ops fuel listed l F Q m) :
    WPD P G Fs ops (fuel + 1) listed l F Q :=
  WPD.ready [i, j, m] hr (by simp) fun k hk => by
    simp only [List.mem_cons, List.not_mem_nil, or_false] at hk
    rcases hk with rfl | rfl | rfl
    · exact hi
    · exact hj
    · exact hm

theorem WPD.done {Fs : List Tok} {ops : Array Oper} {fuel : Nat} {listed : Array Bool} (hr : Region.ready .any ops listed = []) (h : PE G .normal l F Q) : WPD P G Fs ops fuel listed l F Q :=
  fun a w ha hw => wpAnyH_done hr (h a w ha hw) fuel
end
end Go.Proofs.Ytfigegmgopnfhaa
/- The program's structs as Lean structures; checks by evaluation for the instances on types and functions. Conditions: none. -/
namespace Go.Proofs.Ytfigegmgopnfhaa
open Go

structure E where
  A : Int
  B : Int
  deriving DecidableEq
structure Stp where
  C : Int
  R : Int
  deriving DecidableEq
structure Oper1 where
  K : Int
  A : Int
  B : Int
  deriving DecidableEq
structure Lif where
  A : Int
  B : Int
  F : Int
  T : Int
  deriving DecidableEq

instance : Enc E := ⟨2, fun e => [.int .i64 e.A, .int .i64 e.B], ⟨0, 0⟩, fun _ => rfl, by decide⟩
instance : Val E := ⟨fun e => .agg #[.int .i64 e.A, .int .i64 e.B], fun _ => rfl, fun _ u h => by simp [Enc.enc] at h; rcases h with rfl | rfl <;> rfl⟩
instance : Enc Stp := ⟨2, fun e => [.int .i64 e.C, .int .i64 e.R], ⟨0, 0⟩, fun _ => rfl, by decide⟩
instance : Val Stp := ⟨fun e => .agg #[.int .i64 e.C, .int .i64 e.R], fun _ => rfl, fun _ u h => by simp [Enc.enc] at h; rcases h with rfl | rfl <;> rfl⟩
instance : Enc Oper1 := ⟨3, fun e => [.int .i64 e.K, .int .i64 e.A, .int .i64 e.B], ⟨0, 0, 0⟩, fun _ => rfl, by decide⟩
instance : Val Oper1 := ⟨fun e => .agg #[.int .i64 e.K, .int .i64 e.A, .int .i64 e.B], fun _ => rfl, fun _ u h => by simp [Enc.enc] at h; rcases h with rfl | rfl | rfl <;> rfl⟩
instance : Enc Lif := ⟨4, fun e => [.int .i64 e.A, .int .i64 e.B, .int .i64 e.F, .int .i64 e.T], ⟨0, 0, 0, 0⟩, fun _ => rfl, by decide⟩
instance : Val Lif := ⟨fun e => .agg #[.int .i64 e.A, .int .i64 e.B, .int .i64 e.F, .int .i64 e.T], fun _ => rfl, fun _ u h => by simp [Enc.enc] at h; rcases h with rfl | rfl | rfl | rfl <;> rfl⟩

theorem Rd.at {α : Type} [Enc α] {G : Ctx} {F : List Tok} {v : Value} {xs : List α} {w : World} (h : Rd G F v xs) (hw : St G.W G.M F w) : RL w v xs := h w hw

theorem RL.nil_of {α : Type} [Enc α] {w : World} {v : Value} {xs : List α} (h : RL w v xs) (hv : vfp v = []) : xs = [] := by
  rcases h.2 with ⟨_, h0⟩ | ⟨b, off, cap, rfl, _⟩
  · exact List.eq_nil_of_length_eq_zero h0
  · simp [vfp] at hv

theorem prm1 {α : Type} {a t : α} {R : List α} : (a :: t :: R).Perm (t :: a :: R) := List.Perm.swap _ _ _
theorem prm2 {α : Type} {a b t : α} {R : List α} : (a :: b :: t :: R).Perm (t :: a :: b :: R) := List.perm_middle (l₁ := [a, b])
theorem prm3 {α : Type} {a b c t : α} {R : List α} : (a :: b :: c :: t :: R).Perm (t :: a :: b :: c :: R) := List.perm_middle (l₁ := [a, b, c])
theorem prm4 {α : Type} {a b c d t : α} {R : List α} : (a :: b :: c :: d :: t :: R).Perm (t :: a :: b :: c :: d :: R) := List.perm_middle (l₁ := [a, b, c, d])
theorem prm5 {α : Type} {a b c d e t : α} {R : List α} : (a :: b :: c :: d :: e :: t :: R).Perm (t :: a :: b :: c :: d :: e :: R) := List.perm_middle (l₁ := [a, b, c, d, e])
theorem prm6 {α : Type} {a b c d e f t : α} {R : List α} : (a :: b :: c :: d :: e :: f :: t :: R).Perm (t :: a :: b :: c :: d :: e :: f :: R) := List.perm_middle (l₁ := [a, b, c, d, e, f])
theorem prm7 {α : Type} {a b c d e f g t : α} {R : List α} : (a :: b :: c :: d :: e :: f :: g :: t :: R).Perm (t :: a :: b :: c :: d :: e :: f :: g :: R) := List.perm_middle (l₁ := [a, b, c, d, e, f, g])
theorem prm8 {α : Type} {a b c d e f g h t : α} {R : List α} : (a :: b :: c :: d :: e :: f :: g :: h :: t :: R).Perm (t :: a :: b :: c :: d :: e :: f :: g :: h :: R) := List.perm_middle (l₁ := [a, b, c, d, e, f, g, h])
theorem prm9 {α : Type} {x0 x1 x2 x3 x4 x5 x6 x7 x8 t : α} {R : List α} : (x0 :: x1 :: x2 :: x3 :: x4 :: x5 :: x6 :: x7 :: x8 :: t :: R).Perm (t :: x0 :: x1 :: x2 :: x3 :: x4 :: x5 :: x6 :: x7 :: x8 :: R) := List.perm_middle (l₁ := [x0, x1, x2, x3, x4, x5, x6, x7, x8])
theorem prm10 {α : Type} {x0 x1 x2 x3 x4 x5 x6 x7 x8 x9 t : α} {R : List α} : (x0 :: x1 :: x2 :: x3 :: x4 :: x5 :: x6 :: x7 :: x8 :: x9 :: t :: R).Perm (t :: x0 :: x1 :: x2 :: x3 :: x4 :: x5 :: x6 :: x7 :: x8 :: x9 :: R) := List.perm_middle (l₁ := [x0, x1, x2, x3, x4, x5, x6, x7, x8, x9])
theorem prm11 {α : Type} {x0 x1 x2 x3 x4 x5 x6 x7 x8 x9 x10 t : α} {R : List α} : (x0 :: x1 :: x2 :: x3 :: x4 :: x5 :: x6 :: x7 :: x8 :: x9 :: x10 :: t :: R).Perm (t :: x0 :: x1 :: x2 :: x3 :: x4 :: x5 :: x6 :: x7 :: x8 :: x9 :: x10 :: R) := List.perm_middle (l₁ := [x0, x1, x2, x3, x4, x5, x6, x7, x8, x9, x10])
theorem prm12 {α : Type} {x0 x1 x2 x3 x4 x5 x6 x7 x8 x9 x10 x11 t : α} {R : List α} : (x0 :: x1 :: x2 :: x3 :: x4 :: x5 :: x6 :: x7 :: x8 :: x9 :: x10 :: x11 :: t :: R).Perm (t :: x0 :: x1 :: x2 :: x3 :: x4 :: x5 :: x6 :: x7 :: x8 :: x9 :: x10 :: x11 :: R) := List.perm_middle (l₁ := [x0, x1, x2, x3, x4, x5, x6, x7, x8, x9, x10, x11])
theorem prm13 {α : Type} {x0 x1 x2 x3 x4 x5 x6 x7 x8 x9 x10 x11 x12 t : α} {R : List α} : (x0 :: x1 :: x2 :: x3 :: x4 :: x5 :: x6 :: x7 :: x8 :: x9 :: x10 :: x11 :: x12 :: t :: R).Perm (t :: x0 :: x1 :: x2 :: x3 :: x4 :: x5 :: x6 :: x7 :: x8 :: x9 :: x10 :: x11 :: x12 :: R) := List.perm_middle (l₁ := [x0, x1, x2, x3, x4, x5, x6, x7, x8, x9, x10, x11, x12])
theorem prm14 {α : Type} {x0 x1 x2 x3 x4 x5 x6 x7 x8 x9 x10 x11 x12 x13 t : α} {R : List α} : (x0 :: x1 :: x2 :: x3 :: x4 :: x5 :: x6 :: x7 :: x8 :: x9 :: x10 :: x11 :: x12 :: x13 :: t :: R).Perm (t :: x0 :: x1 :: x2 :: x3 :: x4 :: x5 :: x6 :: x7 :: x8 :: x9 :: x10 :: x11 :: x12 :: x13 :: R) := List.perm_middle (l₁ := [x0, x1, x2, x3, x4, x5, x6, x7, x8, x9, x10, x11, x12, x13])
theorem prm15 {α : Type} {x0 x1 x2 x3 x4 x5 x6 x7 x8 x9 x10 x11 x12 x13 x14 t : α} {R : List α} : (x0 :: x1 :: x2 :: x3 :: x4 :: x5 :: x6 :: x7 :: x8 :: x9 :: x10 :: x11 :: x12 :: x13 :: x14 :: t :: R).Perm (t :: x0 :: x1 :: x2 :: x3 :: x4 :: x5 :: x6 :: x7 :: x8 :: x9 :: x10 :: x11 :: x12 :: x13 :: x14 :: R) := List.perm_middle (l₁ := [x0, x1, x2, x3, x4, x5, x6, x7, x8, x9, x10, x11, x12, x13, x14])
theorem prd1 {α : Type} {x0 s t : α} {R : List α} : (x0 :: s :: t :: R).Perm ([s, t] ++ (x0 :: R)) := (List.perm_middle (l₁ := [x0])).trans (List.Perm.cons _ (List.perm_middle (l₁ := [x0])))
theorem prd2 {α : Type} {x0 x1 s t : α} {R : List α} : (x0 :: x1 :: s :: t :: R).Perm ([s, t] ++ (x0 :: x1 :: R)) := (List.perm_middle (l₁ := [x0, x1])).trans (List.Perm.cons _ (List.perm_middle (l₁ := [x0, x1])))
theorem prd3 {α : Type} {x0 x1 x2 s t : α} {R : List α} : (x0 :: x1 :: x2 :: s :: t :: R).Perm ([s, t] ++ (x0 :: x1 :: x2 :: R)) := (List.perm_middle (l₁ := [x0, x1, x2])).trans (List.Perm.cons _ (List.perm_middle (l₁ := [x0, x1, x2])))
theorem prd4 {α : Type} {x0 x1 x2 x3 s t : α} {R : List α} : (x0 :: x1 :: x2 :: x3 :: s :: t :: R).Perm ([s, t] ++ (x0 :: x1 :: x2 :: x3 :: R)) := (List.perm_middle (l₁ := [x0, x1, x2, x3])).trans (List.Perm.cons _ (List.perm_middle (l₁ := [x0, x1, x2, x3])))
theorem prd5 {α : Type} {x0 x1 x2 x3 x4 s t : α} {R : List α} : (x0 :: x1 :: x2 :: x3 :: x4 :: s :: t :: R).Perm ([s, t] ++ (x0 :: x1 :: x2 :: x3 :: x4 :: R)) := (List.perm_middle (l₁ := [x0, x1, x2, x3, x4])).trans (List.Perm.cons _ (List.perm_middle (l₁ := [x0, x1, x2, x3, x4])))
theorem prd6 {α : Type} {x0 x1 x2 x3 x4 x5 s t : α} {R : List α} : (x0 :: x1 :: x2 :: x3 :: x4 :: x5 :: s :: t :: R).Perm ([s, t] ++ (x0 :: x1 :: x2 :: x3 :: x4 :: x5 :: R)) := (List.perm_middle (l₁ := [x0, x1, x2, x3, x4, x5])).trans (List.Perm.cons _ (List.perm_middle (l₁ := [x0, x1, x2, x3, x4, x5])))
theorem prd7 {α : Type} {x0 x1 x2 x3 x4 x5 x6 s t : α} {R : List α} : (x0 :: x1 :: x2 :: x3 :: x4 :: x5 :: x6 :: s :: t :: R).Perm ([s, t] ++ (x0 :: x1 :: x2 :: x3 :: x4 :: x5 :: x6 :: R)) := (List.perm_middle (l₁ := [x0, x1, x2, x3, x4, x5, x6])).trans (List.Perm.cons _ (List.perm_middle (l₁ := [x0, x1, x2, x3, x4, x5, x6])))
theorem prd8 {α : Type} {x0 x1 x2 x3 x4 x5 x6 x7 s t : α} {R : List α} : (x0 :: x1 :: x2 :: x3 :: x4 :: x5 :: x6 :: x7 :: s :: t :: R).Perm ([s, t] ++ (x0 :: x1 :: x2 :: x3 :: x4 :: x5 :: x6 :: x7 :: R)) := (List.perm_middle (l₁ := [x0, x1, x2, x3, x4, x5, x6, x7])).trans (List.Perm.cons _ (List.perm_middle (l₁ := [x0, x1, x2, x3, x4, x5, x6, x7])))
theorem prd9 {α : Type} {x0 x1 x2 x3 x4 x5 x6 x7 x8 s t : α} {R : List α} : (x0 :: x1 :: x2 :: x3 :: x4 :: x5 :: x6 :: x7 :: x8 :: s :: t :: R).Perm ([s, t] ++ (x0 :: x1 :: x2 :: x3 :: x4 :: x5 :: x6 :: x7 :: x8 :: R)) := (List.perm_middle (l₁ := [x0, x1, x2, x3, x4, x5, x6, x7, x8])).trans (List.Perm.cons _ (List.perm_middle (l₁ := [x0, x1, x2, x3, x4, x5, x6, x7, x8])))
theorem prd10 {α : Type} {x0 x1 x2 x3 x4 x5 x6 x7 x8 x9 s t : α} {R : List α} : (x0 :: x1 :: x2 :: x3 :: x4 :: x5 :: x6 :: x7 :: x8 :: x9 :: s :: t :: R).Perm ([s, t] ++ (x0 :: x1 :: x2 :: x3 :: x4 :: x5 :: x6 :: x7 :: x8 :: x9 :: R)) := (List.perm_middle (l₁ := [x0, x1, x2, x3, x4, x5, x6, x7, x8, x9])).trans (List.Perm.cons _ (List.perm_middle (l₁ := [x0, x1, x2, x3, x4, x5, x6, x7, x8, x9])))
theorem prd11 {α : Type} {x0 x1 x2 x3 x4 x5 x6 x7 x8 x9 x10 s t : α} {R : List α} : (x0 :: x1 :: x2 :: x3 :: x4 :: x5 :: x6 :: x7 :: x8 :: x9 :: x10 :: s :: t :: R).Perm ([s, t] ++ (x0 :: x1 :: x2 :: x3 :: x4 :: x5 :: x6 :: x7 :: x8 :: x9 :: x10 :: R)) := (List.perm_middle (l₁ := [x0, x1, x2, x3, x4, x5, x6, x7, x8, x9, x10])).trans (List.Perm.cons _ (List.perm_middle (l₁ := [x0, x1, x2, x3, x4, x5, x6, x7, x8, x9, x10])))

/-! ### Which operation stands next (the walk asks for it first) -/
section
variable {P : Program} {G : Ctx} {l : List (Nat × Value)} {F : List Tok} {Q : Exit → Act → World → Prop} {ops : Array Oper} {dst : Option Nat} {ty : TypeId} {pos : String} {after : Array Edge} {g : Option (Nat × Bool)} {rest : List Oper}
theorem isGuard {op : Op} {j : Nat} {want : Bool} (h : WPL P G ops (⟨dst, op, ty, pos, after, some (j, want)⟩ :: rest) l F Q) : WPL P G ops (⟨dst, op, ty, pos, after, some (j, want)⟩ :: rest) l F Q := h
theorem isCond {c : Operand} {x y : Code} (h : WP P G (.cond c x y) l F Q) : WP P G (.cond c x y) l F Q := h
theorem isBuild {t : TypeId} {ps : Array (Nat × Operand)} (h : WPL P G ops (⟨dst, .build t ps, ty, pos, after, g⟩ :: rest) l F Q) : WPL P G ops (⟨dst, .build t ps, ty, pos, after, g⟩ :: rest) l F Q := h
theorem isStore {t : TypeId} {x y : Operand} (h : WPL P G ops (⟨dst, .store t x y, ty, pos, after, g⟩ :: rest) l F Q) : WPL P G ops (⟨dst, .store t x y, ty, pos, after, g⟩ :: rest) l F Q := h
theorem isMove {x : Operand} (h : WPL P G ops (⟨dst, .move x, ty, pos, after, g⟩ :: rest) l F Q) : WPL P G ops (⟨dst, .move x, ty, pos, after, g⟩ :: rest) l F Q := h
theorem isAssign {x : Operand} (h : WPL P G ops (⟨dst, .assign x, ty, pos, after, g⟩ :: rest) l F Q) : WPL P G ops (⟨dst, .assign x, ty, pos, after, g⟩ :: rest) l F Q := h
theorem isPick {x y z : Operand} (h : WPL P G ops (⟨dst, .pick x y z, ty, pos, after, g⟩ :: rest) l F Q) : WPL P G ops (⟨dst, .pick x y z, ty, pos, after, g⟩ :: rest) l F Q := h
theorem isLoad {t : TypeId} {x : Operand} (h : WPL P G ops (⟨dst, .load t x, ty, pos, after, g⟩ :: rest) l F Q) : WPL P G ops (⟨dst, .load t x, ty, pos, after, g⟩ :: rest) l F Q := h
theorem isFld {t : TypeId} {x : Operand} {f : Nat} (h : WPL P G ops (⟨dst, .fieldAddr t x f, ty, pos, after, g⟩ :: rest) l F Q) : WPL P G ops (⟨dst, .fieldAddr t x f, ty, pos, after, g⟩ :: rest) l F Q := h
theorem isIdx {t : TypeId} {x y : Operand} (h : WPL P G ops (⟨dst, .indexAddr t x y, ty, pos, after, g⟩ :: rest) l F Q) : WPL P G ops (⟨dst, .indexAddr t x y, ty, pos, after, g⟩ :: rest) l F Q := h
theorem isExt {x : Operand} {f : Nat} (h : WPL P G ops (⟨dst, .extract x f, ty, pos, after, g⟩ :: rest) l F Q) : WPL P G ops (⟨dst, .extract x f, ty, pos, after, g⟩ :: rest) l F Q := h
theorem isBin {o : BinOp} {t u : TypeId} {x y : Operand} (h : WPL P G ops (⟨dst, .binOp o t x y u, ty, pos, after, g⟩ :: rest) l F Q) : WPL P G ops (⟨dst, .binOp o t x y u, ty, pos, after, g⟩ :: rest) l F Q := h
theorem isUn {o : UnOp} {t : TypeId} {x : Operand} (h : WPL P G ops (⟨dst, .unOp o t x, ty, pos, after, g⟩ :: rest) l F Q) : WPL P G ops (⟨dst, .unOp o t x, ty, pos, after, g⟩ :: rest) l F Q := h
theorem isBlt {b : Builtin} {xs : Array Operand} {ts : Array TypeId} (h : WPL P G ops (⟨dst, .call { callee := .builtin b, args := xs, argTypes := ts }, ty, pos, after, g⟩ :: rest) l F Q) : WPL P G ops (⟨dst, .call { callee := .builtin b, args := xs, argTypes := ts }, ty, pos, after, g⟩ :: rest) l F Q := h
theorem isConv {t u : TypeId} {x : Operand} (h : WPL P G ops (⟨dst, .convert t u x, ty, pos, after, g⟩ :: rest) l F Q) : WPL P G ops (⟨dst, .convert t u x, ty, pos, after, g⟩ :: rest) l F Q := h
end

/-! ### Checks that the kernel evaluates -/
def kindB : IntKind → IntKind → Bool
  | .i8, .i8 | .i16, .i16 | .i32, .i32 | .i64, .i64 | .u8, .u8 | .u16, .u16 | .u32, .u32 | .u64, .u64 => true
  | _, _ => false
theorem kindB_eq {a b : IntKind} (h : kindB a b = true) : a = b := by cases a <;> cases b <;> simp [kindB] at h ⊢
def valB : Value → Value → Bool
  | .int k (.ofNat n), .int k' (.ofNat m) => kindB k k' && Nat.beq n m
  | .bool a, .bool b => a == b
  | .slice none a b, .slice none c d => Nat.beq a c && Nat.beq b d
  | .pointer none, .pointer none => true
  | .nilFunc, .nilFunc => true
  | _, _ => false
theorem valB_eq {a b : Value} (h : valB a b = true) : a = b := by
  unfold valB at h
  split at h
  · simp only [Bool.and_eq_true] at h; rw [kindB_eq h.1, Nat.eq_of_beq_eq_true h.2]
  · simp at h; rw [h]
  · simp only [Bool.and_eq_true] at h; rw [Nat.eq_of_beq_eq_true h.1, Nat.eq_of_beq_eq_true h.2]
  · rfl
  · rfl
  · simp at h
def valsB : List Value → List Value → Bool
  | [], [] => true
  | a :: xs, b :: bs => valB a b && valsB xs bs
  | _, _ => false
theorem valsB_eq : ∀ {a b : List Value}, valsB a b = true → a = b
  | [], [], _ => rfl
  | a :: xs, b :: bs, h => by
    simp only [valsB, Bool.and_eq_true] at h
    rw [valB_eq h.1, valsB_eq h.2]
  | [], _ :: _, h => by simp [valsB] at h
  | _ :: _, [], h => by simp [valsB] at h

variable {P : Program}
def scalB (P : Program) (t : TypeId) : Bool :=
  match P.underlying t, P.info? t with
  | some d, some i => notAgg d && Nat.beq i.size 1
  | _, _ => false
theorem TScal.of {t : TypeId} (h : scalB P t = true) : TScal P t := by
  unfold scalB at h
  split at h
  · rename_i d i h1 h2
    simp only [Bool.and_eq_true] at h
    exact ⟨d, i, h1, h.1, h2, Nat.eq_of_beq_eq_true h.2⟩
  · simp at h
def aggB (P : Program) (t : TypeId) (k : Nat) : Bool :=
  match P.underlying t, P.info? t with
  | some (.struct _), some i => Nat.beq i.size k
  | _, _ => false
theorem TAgg.of {t : TypeId} {k : Nat} (h : aggB P t k = true) : TAgg P t k := by
  unfold aggB at h
  split at h
  · rename_i fs i h1 h2
    exact ⟨fs, i, h1, h2, Nat.eq_of_beq_eq_true h⟩
  · simp at h
def fieldB (P : Program) (s : TypeId) (f off : Nat) : Bool :=
  match P.underlying s with
  | some (.struct fs) => match fs[f]? with
    | some fd => match P.info? fd.type with
      | some i => Nat.beq fd.offset off && !(i.size == 0)
      | none => false
    | none => false
  | _ => false
theorem TField.of {s : TypeId} {f off : Nat} (h : fieldB P s f off = true) : TField P s f off := by
  unfold fieldB at h
  split at h
  · rename_i fs h1
    split at h
    · rename_i fd h2
      split at h
      · rename_i i h3
        simp only [Bool.and_eq_true, Bool.not_eq_true'] at h
        exact ⟨fs, fd, i, h1, h2, Nat.eq_of_beq_eq_true h.1, h3, h.2⟩
      · simp at h
    · simp at h
  · simp at h
def zeroB (P : Program) (t : TypeId) (z : List Value) : Bool :=
  match P.info? t with
  | some i => match i.zero with
    | some v => valsB v.cells.toList z
    | none => false
  | none => false
theorem TZero.of {t : TypeId} {z : List Value} (h : zeroB P t z = true) : TZero P t z := by
  unfold zeroB at h
  split at h
  · rename_i i h1
    split at h
    · rename_i v h2
      exact ⟨i, v, h1, h2, by rw [← valsB_eq h]⟩
    · simp at h
  · simp at h
def sliceB (P : Program) (t : TypeId) (sz : Nat) (z : List Value) : Bool :=
  match P.underlying t with
  | some (.slice e) => match P.info? e with
    | some i => Nat.beq i.size sz && (Nat.ble i.bytes 64 && match i.zero with
      | some v => valsB v.cells.toList z
      | none => false)
    | none => false
  | _ => false
theorem TSlice.of {t : TypeId} {α : Type} [Enc α] (h : sliceB P t (Enc.sz α) (Enc.enc (Enc.d : α)) = true) : TSlice P t α := by
  unfold sliceB at h
  split at h
  · rename_i e h1
    split at h
    · rename_i i h2
      simp only [Bool.and_eq_true] at h
      obtain ⟨h3, h4, h5⟩ := h
      split at h5
      · rename_i v h6
        exact ⟨e, i, v, h1, h2, Nat.eq_of_beq_eq_true h3, h4, h6, by rw [← valsB_eq h5]⟩
      · simp at h5
    · simp at h
  · simp at h
def placesB (P : Program) : List Field → List (Nat × Nat) → Bool
  | [], [] => true
  | f :: fs, (o, s) :: ps => Nat.beq f.offset o && (match P.info? f.type with | some i => Nat.beq i.size s | none => false) && placesB P fs ps
  | _, _ => false
theorem placesB_run : ∀ (fs : List Field) (ps : List (Nat × Nat)), placesB P fs ps = true → ∀ w, (fs.mapM fun f => do pure (f.offset, ← sizeOf f.type) : Sem (List (Nat × Nat))).run P w = .ok ps w
  | [], [], _, w => by simp
  | f :: fs, (o, s) :: ps, h, w => by
    simp only [placesB, Bool.and_eq_true] at h
    obtain ⟨⟨h1, h2⟩, h3⟩ := h
    split at h2
    · rename_i i hi
      have := placesB_run fs ps h3 w
      simp only [List.mapM_cons, Sem.run_bind, run_sizeOf' hi, Result.andThen_ok, Sem.run_pure, this, Nat.eq_of_beq_eq_true h1, Nat.eq_of_beq_eq_true h2]
    · simp at h2
  | [], _ :: _, h, _ => by simp [placesB] at h
  | _ :: _, [], h, _ => by simp [placesB] at h
def structB (P : Program) (t : TypeId) (ps : List (Nat × Nat)) : Bool :=
  match P.underlying t with
  | some (.struct fs) => placesB P fs.toList ps
  | _ => false
theorem TStruct.of {t : TypeId} {ps : List (Nat × Nat)} (h : structB P t ps = true) : TStruct P t ps := by
  unfold structB at h
  split at h
  · rename_i fs h1
    refine ⟨fs, h1, fun w => ?_⟩
    have := placesB_run fs.toList ps h w
    obtain ⟨fl⟩ := fs
    rw [List.mapM_toArray, Sem.run_map, this]
    rfl
  · simp at h
def intB (P : Program) (t : TypeId) : Bool :=
  match P.underlying t with
  | some (.int _) => true
  | _ => false
theorem TInt.of {t : TypeId} (h : intB P t = true) : TInt P t := by
  unfold intB at h
  split at h
  · rename_i k h1; exact ⟨k, h1⟩
  · simp at h
def boolB (P : Program) (t : TypeId) : Bool :=
  match P.underlying t with
  | some .bool => true
  | _ => false
theorem TBool.of {t : TypeId} (h : boolB P t = true) : TBool P t := by
  unfold boolB at h
  split at h
  · rename_i h1; exact ⟨h1⟩
  · simp at h
def funB (P : Program) (f : FuncId) : Bool :=
  match P.funcs[f]? with
  | some fn => !(fn.name == "runtime.NumGoroutine") && !fn.body.isNone
  | none => false
theorem TFun.of {f : FuncId} (h : funB P f = true) : TFun P f := by
  unfold funB at h
  split at h
  · rename_i fn h1
    simp only [Bool.and_eq_true, Bool.not_eq_true'] at h
    exact ⟨fn, h1, h.1, h.2⟩
  · simp at h

end Go.Proofs.Ytfigegmgopnfhaa
/- More operations: nil checks, exclusive or, slice expressions. Conditions: those of each rule. -/
namespace Go.Proofs.Ytfigegmgopnfhaa
open Go
section
variable {P : Program} {G : Ctx} {l : List (Nat × Value)} {F : List Tok}

theorem Op1.nilCheck {x : Operand} {a : Addr} (hx : look l x = some (.pointer (some a))) : Op1 P G (.nilCheck x) l F (.pointer (some a)) := fun o ho c w hc _ => by
  simp [execOp, ho, hc.eval hx]

theorem xor_bits {a b : Int} (ha : 0 ≤ a ∧ a ≤ 9223372036854775807) (hb : 0 ≤ b ∧ b ≤ 9223372036854775807) :
    IntKind.i64.wrap ((BitVec.ofInt 64 a ^^^ BitVec.ofInt 64 b).toNat : Int) = ((a.toNat ^^^ b.toNat : Nat) : Int) := by
  obtain ⟨n, rfl⟩ := Int.eq_ofNat_of_zero_le ha.1
  obtain ⟨m, rfl⟩ := Int.eq_ofNat_of_zero_le hb.1
  have h1 : n < 2 ^ 63 := by omega
  have h2 : m < 2 ^ 63 := by omega
  have h3 := Nat.xor_lt_two_pow h1 h2
  have e1 : (BitVec.ofInt 64 (n : Int)).toNat = n := by rw [BitVec.toNat_ofInt]; omega
  have e2 : (BitVec.ofInt 64 (m : Int)).toNat = m := by rw [BitVec.toNat_ofInt]; omega
  rw [BitVec.toNat_xor, e1, e2]
  simp only [Int.toNat_natCast]
  exact i64_fits (by omega) (by omega)
theorem Op1.xor {t u : TypeId} {x y : Operand} {a b : Int} (hx : look l x = some (.int .i64 a)) (hy : look l y = some (.int .i64 b)) (ha : 0 ≤ a ∧ a ≤ 9223372036854775807) (hb : 0 ≤ b ∧ b ≤ 9223372036854775807) :
    Op1 P G (.binOp .xor t x y u) l F (.int .i64 ((a.toNat ^^^ b.toNat : Nat) : Int)) := fun o ho c w hc _ => by
  have := xor_bits ha hb
  simp [execOp, ho, hc.eval hx, hc.eval hy, eqGuard, binOp, Op.intBits, IntKind.bits] at this ⊢
  exact this

/-- v[:n] -/
def slcV (v : Value) (n : Nat) : Value :=
  match v with
  | .slice a _ c => .slice a n c
  | _ => undef
/-- v[n:] -/
def drpV (v : Value) (sz n : Nat) : Value :=
  match v with
  | .slice (some a) len cap => .slice (some (if cap = n then a else ⟨a.block, a.off + n * sz, none⟩)) (len - n) (cap - n)
  | .slice none len cap => .slice none (len - n) (cap - n)
  | _ => undef
variable {α : Type} [Enc α]
theorem encs_take (xs : List α) (n : Nat) : encs (xs.take n) = (encs xs).take (n * Enc.sz α) := by
  induction xs generalizing n with
  | nil => simp
  | cons x xs ih =>
    cases n with
    | zero => simp
    | succ n =>
      have h1 := Enc.len x
      have h2 := List.take_length_add_append (l₁ := Enc.enc x) (l₂ := encs xs) (n * Enc.sz α)
      rw [h1] at h2
      rw [List.take_succ_cons, encs_cons, encs_cons, ih, Nat.add_mul, Nat.one_mul, Nat.add_comm (n * Enc.sz α), h2]
theorem encs_drop (xs : List α) (n : Nat) : encs (xs.drop n) = (encs xs).drop (n * Enc.sz α) := by
  induction xs generalizing n with
  | nil => simp
  | cons x xs ih =>
    cases n with
    | zero => simp
    | succ n =>
      have h1 := Enc.len x
      have h2 := List.drop_length_add_append (l₁ := Enc.enc x) (l₂ := encs xs) (n * Enc.sz α)
      rw [h1] at h2
      rw [List.drop_succ_cons, encs_cons, ih, Nat.add_mul, Nat.one_mul, Nat.add_comm (n * Enc.sz α), h2]

theorem RL.take {w : World} {v : Value} {xs : List α} (h : RL w v xs) {n : Nat} (hn : n ≤ xs.length) : RL w (slcV v n) (xs.take n) := by
  have hl : (xs.take n).length = n := by rw [List.length_take]; omega
  refine ⟨by rw [encs_length], ?_⟩
  rcases h.2 with ⟨rfl, h0⟩ | ⟨b, off, cap, rfl, h1, h2, h3⟩
  · have : n = 0 := by omega
    subst this
    exact .inl ⟨rfl, by simp⟩
  · refine .inr ⟨b, off, cap, by rw [hl]; rfl, by omega, h2, fun i hi => ?_⟩
    rw [encs_take] at hi ⊢
    rw [List.length_take] at hi
    rw [h3 i (by omega), List.getElem?_take_of_lt (by omega)]
theorem RL.drop {w : World} {v : Value} {xs : List α} (h : RL w v xs) {n : Nat} (hn : n ≤ xs.length) : RL w (drpV v (Enc.sz α) n) (xs.drop n) := by
  have hl : (xs.drop n).length = xs.length - n := List.length_drop
  refine ⟨by rw [encs_length], ?_⟩
  rcases h.2 with ⟨rfl, h0⟩ | ⟨b, off, cap, rfl, h1, h2, h3⟩
  · have : n = 0 := by omega
    subst this
    exact .inl ⟨rfl, by rw [hl, h0]⟩
  · by_cases hc : cap = n
    · subst hc
      have hx : xs.length = cap := by omega
      refine .inr ⟨b, off, 0, by simp [drpV, hl], by rw [hl]; omega, h2, fun i hi => ?_⟩
      rw [encs_length, hl] at hi; simp [hx] at hi
    · refine .inr ⟨b, off + n * Enc.sz α, cap - n, by simp [drpV, hl, hc], by rw [hl]; omega, h2, fun i hi => ?_⟩
      rw [encs_drop] at hi ⊢
      rw [List.length_drop] at hi
      rw [Nat.add_assoc, h3 _ (by omega), List.getElem?_drop]

theorem Op1.sliceHi {t : TypeId} [ht : TSlice P t α] {x y : Operand} {v : Value} {xs : List α} {n : Nat} (hx : look l x = some v) (hy : look l y = some (.int .i64 n)) (hr : Rd G F v xs) (hn : n ≤ xs.length) :
    Op1 P G (.slice t x none (some y) none) l F (slcV v n) := fun o ho c w hc hw => by
  obtain ⟨e, ii, z, h1, h2, h3, _⟩ := ht.out
  have : ∃ s cap, v = .slice s xs.length cap ∧ xs.length ≤ cap ∧ (∀ a, s = some a → ∃ b off, a = ⟨b, off, none⟩) := by
    rcases (hr w hw).2 with ⟨rfl, h0⟩ | ⟨b, off, cap, rfl, h, _⟩
    · exact ⟨none, 0, by rw [h0], by omega, by simp⟩
    · exact ⟨_, _, rfl, h, fun a ha => by cases ha; exact ⟨_, _, rfl⟩⟩
  obtain ⟨s, cap, rfl, hcap, hs⟩ := this
  have hle : n ≤ cap := by omega
  cases s with
  | none => simp [execOp, ho, hc.eval hx, hc.eval hy, Instr.sliceAt, run_underlying h1, Instr.slice, Instr.sliceBounds, Instr.sliceBound, asIntOf, hle, run_sizeOf' h2, slcV]
  | some a =>
    obtain ⟨b, off, rfl⟩ := hs a rfl
    simp [execOp, ho, hc.eval hx, hc.eval hy, Instr.sliceAt, run_underlying h1, Instr.slice, Instr.sliceBounds, Instr.sliceBound, asIntOf, hle, run_sizeOf' h2, slcV, addr_add]
theorem Op1.sliceHiZ {t : TypeId} [ht : TSlice P t α] {x y : Operand} {v : Value} {xs : List α} {n : Int} (hx : look l x = some v) (hy : look l y = some (.int .i64 n)) (hr : Rd G F v xs) (hn : 0 ≤ n ∧ n ≤ xs.length) :
    Op1 P G (.slice t x none (some y) none) l F (slcV v n.toNat) :=
  Op1.sliceHi hx (by rw [hy, Int.toNat_of_nonneg hn.1]) hr (by omega)
theorem Op1.sliceLo {t : TypeId} [ht : TSlice P t α] {x y : Operand} {v : Value} {xs : List α} {n : Nat} (hx : look l x = some v) (hy : look l y = some (.int .i64 n)) (hr : Rd G F v xs) (hn : n ≤ xs.length) :
    Op1 P G (.slice t x (some y) none none) l F (drpV v (Enc.sz α) n) := fun o ho c w hc hw => by
  obtain ⟨e, ii, z, h1, h2, h3, _⟩ := ht.out
  have : ∃ s cap, v = .slice s xs.length cap ∧ xs.length ≤ cap ∧ (∀ a, s = some a → ∃ b off, a = ⟨b, off, none⟩) := by
    rcases (hr w hw).2 with ⟨rfl, h0⟩ | ⟨b, off, cap, rfl, h, _⟩
    · exact ⟨none, 0, by rw [h0], by omega, by simp⟩
    · exact ⟨_, _, rfl, h, fun a ha => by cases ha; exact ⟨_, _, rfl⟩⟩
  obtain ⟨s, cap, rfl, hcap, hs⟩ := this
  have hle : (n : Int) ≤ (xs.length : Int) := by omega
  cases s with
  | none => simp [execOp, ho, hc.eval hx, hc.eval hy, Instr.sliceAt, run_underlying h1, Instr.slice, Instr.sliceBounds, Instr.sliceBound, asIntOf, hn, run_sizeOf' h2, drpV]
  | some a =>
    obtain ⟨b, off, rfl⟩ := hs a rfl
    by_cases hcn : cap = n <;>
    simp [execOp, ho, hc.eval hx, hc.eval hy, Instr.sliceAt, run_underlying h1, Instr.slice, Instr.sliceBounds, Instr.sliceBound, asIntOf, hn, run_sizeOf' h2, drpV, addr_add, h3, hcn]

/-- A token may be read another way. -/
theorem St.turn {W : World} {M : List Nat} {F F0 : List Tok} {w : World} {t t' : Tok} (hw : St W M F w) (hp : F.Perm (t :: F0)) (hf : t'.fp = t.fp) (hh : ∀ w, t.holds w → t'.holds w) : St W M (t' :: F0) w := by
  have h := hw.sub ⟨[], by simpa using hp⟩
  refine ⟨by have := h.nodup; simpa [hf] using this, ?_, by have := h.base; simpa [hf] using this, h.keep, h.size, h.os, h.tape, h.output⟩
  intro u hu
  rcases List.mem_cons.1 hu with rfl | hu
  · exact hh w (h.holds t (by simp))
  · exact h.holds u (by simp [hu])
theorem WPL.turn {Q : Exit → Act → World → Prop} {ops : Array Oper} {rest : List Oper} {F0 : List Tok} {t t' : Tok} (hp : F.Perm (t :: F0)) (hf : t'.fp = t.fp) (hh : ∀ w, t.holds w → t'.holds w)
    (h : WPL P G ops rest l (t' :: F0) Q) : WPL P G ops rest l F Q := fun a w ha hw => h a w ha (hw.turn hp hf hh)
theorem own_take_fp {v : Value} {xs : List α} {n : Nat} : (Tok.own (slcV v n) (xs.take n)).fp = (Tok.own v xs).fp := by
  cases v <;> first | rfl | (rename_i a _ _; cases a <;> rfl)
theorem own_take {v : Value} {xs : List α} {n : Nat} (hn : n ≤ xs.length) (w : World) (h : (Tok.own v xs).holds w) : (Tok.own (slcV v n) (xs.take n)).holds w := by
  have hl : (xs.take n).length = n := by rw [List.length_take]; omega
  refine ⟨by rw [encs_length], ?_⟩
  rcases h.2 with ⟨rfl, h0⟩ | ⟨b, cap, post, rfl, h1, h2, h3, h4⟩
  · have : n = 0 := by omega
    subst this
    exact .inl ⟨rfl, by simp⟩
  · refine .inr ⟨b, cap, (encs xs).drop (n * Enc.sz α) ++ post, by rw [hl]; rfl, by omega, h2, ?_, ?_⟩
    · rw [encs_take, ← List.append_assoc, List.take_append_drop]; exact h3
    · rw [encs_take, ← List.append_assoc, List.take_append_drop]; exact h4
end

section
variable {P : Program} {G : Ctx} {ops : Array Oper} {rest : List Oper} {l : List (Nat × Value)} {F : List Tok} {Q : Exit → Act → World → Prop} {dst : Option Nat} {ty : TypeId} {pos : String} {after : Array Edge} {g : Option (Nat × Bool)}
theorem isNil {x : Operand} (h : WPL P G ops (⟨dst, .nilCheck x, ty, pos, after, g⟩ :: rest) l F Q) : WPL P G ops (⟨dst, .nilCheck x, ty, pos, after, g⟩ :: rest) l F Q := h
theorem isSlc {t : TypeId} {x : Operand} {a b c : Option Operand} (h : WPL P G ops (⟨dst, .slice t x a b c, ty, pos, after, g⟩ :: rest) l F Q) : WPL P G ops (⟨dst, .slice t x a b c, ty, pos, after, g⟩ :: rest) l F Q := h
end
end Go.Proofs.Ytfigegmgopnfhaa
/- The instances on the types and functions of this seat's program (printed by gentypes.py). Conditions: none. -/
namespace Go.Proofs.Ytfigegmgopnfhaa
open Go
instance : TScal Try.prog 1 := .of (by kernel_rfl)
instance : TZero Try.prog 1 [.nilFunc] := .of (by kernel_rfl)
instance : TScal Try.prog 2 := .of (by kernel_rfl)
instance : TInt Try.prog 2 := .of (by kernel_rfl)
instance : TZero Try.prog 2 [.int .i64 0] := .of (by kernel_rfl)
instance : TScal Try.prog 3 := .of (by kernel_rfl)
instance : TInt Try.prog 3 := .of (by kernel_rfl)
instance : TZero Try.prog 3 [.int .i64 0] := .of (by kernel_rfl)
instance : TScal Try.prog 4 := .of (by kernel_rfl)
instance : TBool Try.prog 4 := .of (by kernel_rfl)
instance : TZero Try.prog 4 [.bool false] := .of (by kernel_rfl)
instance : TScal Try.prog 5 := .of (by kernel_rfl)
instance : TInt Try.prog 5 := .of (by kernel_rfl)
instance : TZero Try.prog 5 [.int .u8 0] := .of (by kernel_rfl)
instance : TScal Try.prog 12 := .of (by kernel_rfl)
instance : TInt Try.prog 12 := .of (by kernel_rfl)
instance : TZero Try.prog 12 [.int .u64 0] := .of (by kernel_rfl)
instance : TScal Try.prog 15 := .of (by kernel_rfl)
instance : TZero Try.prog 15 [.pointer none] := .of (by kernel_rfl)
instance : TScal Try.prog 16 := .of (by kernel_rfl)
instance : TZero Try.prog 16 [.pointer none] := .of (by kernel_rfl)
instance : TScal Try.prog 17 := .of (by kernel_rfl)
instance : TZero Try.prog 17 [.pointer none] := .of (by kernel_rfl)
instance : TScal Try.prog 21 := .of (by kernel_rfl)
instance : TInt Try.prog 21 := .of (by kernel_rfl)
instance : TZero Try.prog 21 [.int .i32 0] := .of (by kernel_rfl)
instance : TScal Try.prog 22 := .of (by kernel_rfl)
instance : TZero Try.prog 22 [.slice none 0 0] := .of (by kernel_rfl)
instance : TSlice Try.prog 22 UInt8 := .of (by kernel_rfl)
instance : TScal Try.prog 23 := .of (by kernel_rfl)
instance : TZero Try.prog 23 [.slice none 0 0] := .of (by kernel_rfl)
instance : TSlice Try.prog 23 Oper1 := .of (by kernel_rfl)
instance : TScal Try.prog 25 := .of (by kernel_rfl)
instance : TZero Try.prog 25 [.nilFunc] := .of (by kernel_rfl)
instance : TScal Try.prog 26 := .of (by kernel_rfl)
instance : TZero Try.prog 26 [.slice none 0 0] := .of (by kernel_rfl)
instance : TSlice Try.prog 26 Bool := .of (by kernel_rfl)
instance : TScal Try.prog 28 := .of (by kernel_rfl)
instance : TZero Try.prog 28 [.nilFunc] := .of (by kernel_rfl)
instance : TScal Try.prog 29 := .of (by kernel_rfl)
instance : TZero Try.prog 29 [.nilFunc] := .of (by kernel_rfl)
instance : TScal Try.prog 30 := .of (by kernel_rfl)
instance : TZero Try.prog 30 [.slice none 0 0] := .of (by kernel_rfl)
instance : TSlice Try.prog 30 Lif := .of (by kernel_rfl)
instance : TScal Try.prog 32 := .of (by kernel_rfl)
instance : TZero Try.prog 32 [.nilFunc] := .of (by kernel_rfl)
instance : TScal Try.prog 33 := .of (by kernel_rfl)
instance : TZero Try.prog 33 [.nilFunc] := .of (by kernel_rfl)
instance : TScal Try.prog 34 := .of (by kernel_rfl)
instance : TZero Try.prog 34 [.slice none 0 0] := .of (by kernel_rfl)
instance : TSlice Try.prog 34 Oper1 := .of (by kernel_rfl)
instance : TScal Try.prog 35 := .of (by kernel_rfl)
instance : TZero Try.prog 35 [.nilFunc] := .of (by kernel_rfl)
instance : TScal Try.prog 36 := .of (by kernel_rfl)
instance : TZero Try.prog 36 [.nilFunc] := .of (by kernel_rfl)
instance : TScal Try.prog 37 := .of (by kernel_rfl)
instance : TZero Try.prog 37 [.nilFunc] := .of (by kernel_rfl)
instance : TScal Try.prog 38 := .of (by kernel_rfl)
instance : TZero Try.prog 38 [.nilFunc] := .of (by kernel_rfl)
instance : TScal Try.prog 39 := .of (by kernel_rfl)
instance : TZero Try.prog 39 [.nilFunc] := .of (by kernel_rfl)
instance : TScal Try.prog 41 := .of (by kernel_rfl)
instance : TZero Try.prog 41 [.nilFunc] := .of (by kernel_rfl)
instance : TAgg Try.prog 43 2 := .of (by kernel_rfl)
instance : TZero Try.prog 43 [.int .i64 0, .int .i64 0] := .of (by kernel_rfl)
instance : TStruct Try.prog 43 [(0, 1), (1, 1)] := .of (by kernel_rfl)
instance : TField Try.prog 43 0 0 := .of (by kernel_rfl)
instance : TField Try.prog 43 1 1 := .of (by kernel_rfl)
instance : TAgg Try.prog 45 3 := .of (by kernel_rfl)
instance : TZero Try.prog 45 [.int .i64 0, .int .i64 0, .int .i64 0] := .of (by kernel_rfl)
instance : TStruct Try.prog 45 [(0, 1), (1, 2)] := .of (by kernel_rfl)
instance : TField Try.prog 45 0 0 := .of (by kernel_rfl)
instance : TField Try.prog 45 1 1 := .of (by kernel_rfl)
instance : TScal Try.prog 46 := .of (by kernel_rfl)
instance : TZero Try.prog 46 [.slice none 0 0] := .of (by kernel_rfl)
instance : TSlice Try.prog 46 E := .of (by kernel_rfl)
instance : TAgg Try.prog 48 2 := .of (by kernel_rfl)
instance : TZero Try.prog 48 [.int .i64 0, .slice none 0 0] := .of (by kernel_rfl)
instance : TStruct Try.prog 48 [(0, 1), (1, 1)] := .of (by kernel_rfl)
instance : TField Try.prog 48 0 0 := .of (by kernel_rfl)
instance : TField Try.prog 48 1 1 := .of (by kernel_rfl)
instance : TScal Try.prog 50 := .of (by kernel_rfl)
instance : TZero Try.prog 50 [.nilFunc] := .of (by kernel_rfl)
instance : TScal Try.prog 51 := .of (by kernel_rfl)
instance : TZero Try.prog 51 [.nilFunc] := .of (by kernel_rfl)
instance : TScal Try.prog 53 := .of (by kernel_rfl)
instance : TZero Try.prog 53 [.nilFunc] := .of (by kernel_rfl)
instance : TScal Try.prog 54 := .of (by kernel_rfl)
instance : TZero Try.prog 54 [.nilFunc] := .of (by kernel_rfl)
instance : TScal Try.prog 55 := .of (by kernel_rfl)
instance : TZero Try.prog 55 [.nilFunc] := .of (by kernel_rfl)
instance : TAgg Try.prog 57 4 := .of (by kernel_rfl)
instance : TZero Try.prog 57 [.int .i64 0, .int .i64 0, .int .i64 0, .int .i64 0] := .of (by kernel_rfl)
instance : TStruct Try.prog 57 [(0, 2), (2, 1), (3, 1)] := .of (by kernel_rfl)
instance : TField Try.prog 57 0 0 := .of (by kernel_rfl)
instance : TField Try.prog 57 1 2 := .of (by kernel_rfl)
instance : TField Try.prog 57 2 3 := .of (by kernel_rfl)
instance : TScal Try.prog 58 := .of (by kernel_rfl)
instance : TZero Try.prog 58 [.nilFunc] := .of (by kernel_rfl)
instance : TScal Try.prog 59 := .of (by kernel_rfl)
instance : TZero Try.prog 59 [.nilFunc] := .of (by kernel_rfl)
instance : TScal Try.prog 60 := .of (by kernel_rfl)
instance : TZero Try.prog 60 [.nilFunc] := .of (by kernel_rfl)
instance : TScal Try.prog 61 := .of (by kernel_rfl)
instance : TZero Try.prog 61 [.nilFunc] := .of (by kernel_rfl)
instance : TScal Try.prog 62 := .of (by kernel_rfl)
instance : TZero Try.prog 62 [.nilFunc] := .of (by kernel_rfl)
instance : TScal Try.prog 63 := .of (by kernel_rfl)
instance : TZero Try.prog 63 [.nilFunc] := .of (by kernel_rfl)
instance : TScal Try.prog 64 := .of (by kernel_rfl)
instance : TZero Try.prog 64 [.nilFunc] := .of (by kernel_rfl)
instance : TScal Try.prog 65 := .of (by kernel_rfl)
instance : TZero Try.prog 65 [.slice none 0 0] := .of (by kernel_rfl)
instance : TSlice Try.prog 65 E := .of (by kernel_rfl)
instance : TAgg Try.prog 67 2 := .of (by kernel_rfl)
instance : TZero Try.prog 67 [.int .i64 0, .slice none 0 0] := .of (by kernel_rfl)
instance : TStruct Try.prog 67 [(0, 1), (1, 1)] := .of (by kernel_rfl)
instance : TField Try.prog 67 0 0 := .of (by kernel_rfl)
instance : TField Try.prog 67 1 1 := .of (by kernel_rfl)
instance : TScal Try.prog 68 := .of (by kernel_rfl)
instance : TZero Try.prog 68 [.slice none 0 0] := .of (by kernel_rfl)
instance : TSlice Try.prog 68 Int := .of (by kernel_rfl)
instance : TAgg Try.prog 70 4 := .of (by kernel_rfl)
instance : TZero Try.prog 70 [.int .i64 0, .slice none 0 0, .slice none 0 0, .slice none 0 0] := .of (by kernel_rfl)
instance : TStruct Try.prog 70 [(0, 2), (2, 1), (3, 1)] := .of (by kernel_rfl)
instance : TField Try.prog 70 0 0 := .of (by kernel_rfl)
instance : TField Try.prog 70 1 2 := .of (by kernel_rfl)
instance : TField Try.prog 70 2 3 := .of (by kernel_rfl)
instance : TScal Try.prog 71 := .of (by kernel_rfl)
instance : TZero Try.prog 71 [.nilFunc] := .of (by kernel_rfl)
instance : TScal Try.prog 72 := .of (by kernel_rfl)
instance : TZero Try.prog 72 [.nilFunc] := .of (by kernel_rfl)
instance : TAgg Try.prog 74 4 := .of (by kernel_rfl)
instance : TZero Try.prog 74 [.int .i64 0, .slice none 0 0, .slice none 0 0, .slice none 0 0] := .of (by kernel_rfl)
instance : TStruct Try.prog 74 [(0, 2), (2, 1), (3, 1)] := .of (by kernel_rfl)
instance : TField Try.prog 74 0 0 := .of (by kernel_rfl)
instance : TField Try.prog 74 1 2 := .of (by kernel_rfl)
instance : TField Try.prog 74 2 3 := .of (by kernel_rfl)
instance : TScal Try.prog 75 := .of (by kernel_rfl)
instance : TZero Try.prog 75 [.nilFunc] := .of (by kernel_rfl)
instance : TScal Try.prog 76 := .of (by kernel_rfl)
instance : TZero Try.prog 76 [.nilFunc] := .of (by kernel_rfl)
instance : TScal Try.prog 77 := .of (by kernel_rfl)
instance : TZero Try.prog 77 [.nilFunc] := .of (by kernel_rfl)
instance : TScal Try.prog 78 := .of (by kernel_rfl)
instance : TZero Try.prog 78 [.nilFunc] := .of (by kernel_rfl)
instance : TScal Try.prog 79 := .of (by kernel_rfl)
instance : TZero Try.prog 79 [.nilFunc] := .of (by kernel_rfl)
instance : TScal Try.prog 81 := .of (by kernel_rfl)
instance : TZero Try.prog 81 [.nilFunc] := .of (by kernel_rfl)
instance : TScal Try.prog 83 := .of (by kernel_rfl)
instance : TZero Try.prog 83 [.nilFunc] := .of (by kernel_rfl)
instance : TScal Try.prog 84 := .of (by kernel_rfl)
instance : TZero Try.prog 84 [.nilFunc] := .of (by kernel_rfl)
instance : TScal Try.prog 86 := .of (by kernel_rfl)
instance : TZero Try.prog 86 [.nilFunc] := .of (by kernel_rfl)
instance : TScal Try.prog 87 := .of (by kernel_rfl)
instance : TZero Try.prog 87 [.nilFunc] := .of (by kernel_rfl)
instance : TScal Try.prog 88 := .of (by kernel_rfl)
instance : TZero Try.prog 88 [.nilFunc] := .of (by kernel_rfl)
instance : TScal Try.prog 89 := .of (by kernel_rfl)
instance : TZero Try.prog 89 [.nilFunc] := .of (by kernel_rfl)
instance : TScal Try.prog 90 := .of (by kernel_rfl)
instance : TZero Try.prog 90 [.nilFunc] := .of (by kernel_rfl)
instance : TScal Try.prog 92 := .of (by kernel_rfl)
instance : TZero Try.prog 92 [.nilFunc] := .of (by kernel_rfl)
instance : TScal Try.prog 93 := .of (by kernel_rfl)
instance : TZero Try.prog 93 [.nilFunc] := .of (by kernel_rfl)
instance : TScal Try.prog 94 := .of (by kernel_rfl)
instance : TZero Try.prog 94 [.slice none 0 0] := .of (by kernel_rfl)
instance : TSlice Try.prog 94 E := .of (by kernel_rfl)
instance : TAgg Try.prog 96 3 := .of (by kernel_rfl)
instance : TZero Try.prog 96 [.slice none 0 0, .slice none 0 0, .slice none 0 0] := .of (by kernel_rfl)
instance : TStruct Try.prog 96 [(0, 1), (1, 1), (2, 1)] := .of (by kernel_rfl)
instance : TField Try.prog 96 0 0 := .of (by kernel_rfl)
instance : TField Try.prog 96 1 1 := .of (by kernel_rfl)
instance : TField Try.prog 96 2 2 := .of (by kernel_rfl)
instance : TScal Try.prog 97 := .of (by kernel_rfl)
instance : TZero Try.prog 97 [.nilFunc] := .of (by kernel_rfl)
instance : TScal Try.prog 98 := .of (by kernel_rfl)
instance : TZero Try.prog 98 [.nilFunc] := .of (by kernel_rfl)
instance : TAgg Try.prog 99 2 := .of (by kernel_rfl)
instance : TZero Try.prog 99 [.int .i64 0, .int .i64 0] := .of (by kernel_rfl)
instance : TStruct Try.prog 99 [(0, 1), (1, 1)] := .of (by kernel_rfl)
instance : TField Try.prog 99 0 0 := .of (by kernel_rfl)
instance : TField Try.prog 99 1 1 := .of (by kernel_rfl)
instance : TAgg Try.prog 101 3 := .of (by kernel_rfl)
instance : TZero Try.prog 101 [.int .i64 0, .int .i64 0, .int .i64 0] := .of (by kernel_rfl)
instance : TStruct Try.prog 101 [(0, 1), (1, 2)] := .of (by kernel_rfl)
instance : TField Try.prog 101 0 0 := .of (by kernel_rfl)
instance : TField Try.prog 101 1 1 := .of (by kernel_rfl)
instance : TScal Try.prog 103 := .of (by kernel_rfl)
instance : TZero Try.prog 103 [.nilFunc] := .of (by kernel_rfl)
instance : TScal Try.prog 104 := .of (by kernel_rfl)
instance : TZero Try.prog 104 [.nilFunc] := .of (by kernel_rfl)
instance : TScal Try.prog 105 := .of (by kernel_rfl)
instance : TZero Try.prog 105 [.pointer none] := .of (by kernel_rfl)
instance : TScal Try.prog 106 := .of (by kernel_rfl)
instance : TZero Try.prog 106 [.nilFunc] := .of (by kernel_rfl)
instance : TScal Try.prog 107 := .of (by kernel_rfl)
instance : TZero Try.prog 107 [.nilFunc] := .of (by kernel_rfl)
instance : TScal Try.prog 108 := .of (by kernel_rfl)
instance : TZero Try.prog 108 [.nilFunc] := .of (by kernel_rfl)
instance : TScal Try.prog 109 := .of (by kernel_rfl)
instance : TZero Try.prog 109 [.nilFunc] := .of (by kernel_rfl)
instance : TScal Try.prog 110 := .of (by kernel_rfl)
instance : TZero Try.prog 110 [.nilFunc] := .of (by kernel_rfl)
instance : TScal Try.prog 111 := .of (by kernel_rfl)
instance : TZero Try.prog 111 [.nilFunc] := .of (by kernel_rfl)
instance : TScal Try.prog 113 := .of (by kernel_rfl)
instance : TZero Try.prog 113 [.nilFunc] := .of (by kernel_rfl)
instance : TScal Try.prog 114 := .of (by kernel_rfl)
instance : TZero Try.prog 114 [.nilFunc] := .of (by kernel_rfl)
instance : TScal Try.prog 115 := .of (by kernel_rfl)
instance : TZero Try.prog 115 [.nilFunc] := .of (by kernel_rfl)
instance : TScal Try.prog 116 := .of (by kernel_rfl)
instance : TZero Try.prog 116 [.nilFunc] := .of (by kernel_rfl)
instance : TScal Try.prog 117 := .of (by kernel_rfl)
instance : TZero Try.prog 117 [.nilFunc] := .of (by kernel_rfl)
instance : TScal Try.prog 118 := .of (by kernel_rfl)
instance : TZero Try.prog 118 [.nilFunc] := .of (by kernel_rfl)
instance : TScal Try.prog 119 := .of (by kernel_rfl)
instance : TZero Try.prog 119 [.nilFunc] := .of (by kernel_rfl)
instance : TScal Try.prog 120 := .of (by kernel_rfl)
instance : TZero Try.prog 120 [.nilFunc] := .of (by kernel_rfl)
instance : TScal Try.prog 121 := .of (by kernel_rfl)
instance : TZero Try.prog 121 [.nilFunc] := .of (by kernel_rfl)
instance : TScal Try.prog 122 := .of (by kernel_rfl)
instance : TZero Try.prog 122 [.nilFunc] := .of (by kernel_rfl)
instance : TScal Try.prog 123 := .of (by kernel_rfl)
instance : TZero Try.prog 123 [.nilFunc] := .of (by kernel_rfl)
instance : TScal Try.prog 124 := .of (by kernel_rfl)
instance : TZero Try.prog 124 [.nilFunc] := .of (by kernel_rfl)
instance : TScal Try.prog 125 := .of (by kernel_rfl)
instance : TZero Try.prog 125 [.nilFunc] := .of (by kernel_rfl)
instance : TScal Try.prog 126 := .of (by kernel_rfl)
instance : TZero Try.prog 126 [.nilFunc] := .of (by kernel_rfl)
instance : TScal Try.prog 127 := .of (by kernel_rfl)
instance : TZero Try.prog 127 [.nilFunc] := .of (by kernel_rfl)
instance : TScal Try.prog 128 := .of (by kernel_rfl)
instance : TZero Try.prog 128 [.nilFunc] := .of (by kernel_rfl)
instance : TScal Try.prog 129 := .of (by kernel_rfl)
instance : TZero Try.prog 129 [.nilFunc] := .of (by kernel_rfl)
instance : TScal Try.prog 130 := .of (by kernel_rfl)
instance : TZero Try.prog 130 [.nilFunc] := .of (by kernel_rfl)
instance : TScal Try.prog 131 := .of (by kernel_rfl)
instance : TZero Try.prog 131 [.nilFunc] := .of (by kernel_rfl)
instance : TScal Try.prog 132 := .of (by kernel_rfl)
instance : TZero Try.prog 132 [.nilFunc] := .of (by kernel_rfl)
instance : TScal Try.prog 133 := .of (by kernel_rfl)
instance : TZero Try.prog 133 [.nilFunc] := .of (by kernel_rfl)
instance : TScal Try.prog 134 := .of (by kernel_rfl)
instance : TZero Try.prog 134 [.nilFunc] := .of (by kernel_rfl)
instance : TScal Try.prog 135 := .of (by kernel_rfl)
instance : TZero Try.prog 135 [.nilFunc] := .of (by kernel_rfl)
instance : TScal Try.prog 136 := .of (by kernel_rfl)
instance : TZero Try.prog 136 [.nilFunc] := .of (by kernel_rfl)
instance : TScal Try.prog 137 := .of (by kernel_rfl)
instance : TZero Try.prog 137 [.nilFunc] := .of (by kernel_rfl)
instance : TScal Try.prog 138 := .of (by kernel_rfl)
instance : TZero Try.prog 138 [.nilFunc] := .of (by kernel_rfl)
instance : TScal Try.prog 139 := .of (by kernel_rfl)
instance : TZero Try.prog 139 [.nilFunc] := .of (by kernel_rfl)
instance : TScal Try.prog 140 := .of (by kernel_rfl)
instance : TZero Try.prog 140 [.nilFunc] := .of (by kernel_rfl)
instance : TScal Try.prog 141 := .of (by kernel_rfl)
instance : TZero Try.prog 141 [.nilFunc] := .of (by kernel_rfl)
instance : TScal Try.prog 142 := .of (by kernel_rfl)
instance : TZero Try.prog 142 [.nilFunc] := .of (by kernel_rfl)
instance : TAgg Try.prog 144 2 := .of (by kernel_rfl)
instance : TZero Try.prog 144 [.slice none 0 0, .int .i64 0] := .of (by kernel_rfl)
instance : TStruct Try.prog 144 [(0, 1), (1, 1)] := .of (by kernel_rfl)
instance : TField Try.prog 144 0 0 := .of (by kernel_rfl)
instance : TField Try.prog 144 1 1 := .of (by kernel_rfl)
instance : TScal Try.prog 145 := .of (by kernel_rfl)
instance : TZero Try.prog 145 [.nilFunc] := .of (by kernel_rfl)
instance : TScal Try.prog 147 := .of (by kernel_rfl)
instance : TZero Try.prog 147 [.nilFunc] := .of (by kernel_rfl)
instance : TScal Try.prog 148 := .of (by kernel_rfl)
instance : TZero Try.prog 148 [.nilFunc] := .of (by kernel_rfl)
instance : TScal Try.prog 149 := .of (by kernel_rfl)
instance : TZero Try.prog 149 [.nilFunc] := .of (by kernel_rfl)
instance : TScal Try.prog 150 := .of (by kernel_rfl)
instance : TZero Try.prog 150 [.nilFunc] := .of (by kernel_rfl)
instance : TScal Try.prog 151 := .of (by kernel_rfl)
instance : TZero Try.prog 151 [.nilFunc] := .of (by kernel_rfl)
instance : TScal Try.prog 152 := .of (by kernel_rfl)
instance : TZero Try.prog 152 [.nilFunc] := .of (by kernel_rfl)
instance : TScal Try.prog 153 := .of (by kernel_rfl)
instance : TZero Try.prog 153 [.nilFunc] := .of (by kernel_rfl)
instance : TScal Try.prog 155 := .of (by kernel_rfl)
instance : TZero Try.prog 155 [.nilFunc] := .of (by kernel_rfl)
instance : TScal Try.prog 157 := .of (by kernel_rfl)
instance : TZero Try.prog 157 [.nilFunc] := .of (by kernel_rfl)
instance : TScal Try.prog 158 := .of (by kernel_rfl)
instance : TZero Try.prog 158 [.nilFunc] := .of (by kernel_rfl)
instance : TScal Try.prog 159 := .of (by kernel_rfl)
instance : TZero Try.prog 159 [.nilFunc] := .of (by kernel_rfl)
instance : TScal Try.prog 160 := .of (by kernel_rfl)
instance : TZero Try.prog 160 [.nilFunc] := .of (by kernel_rfl)
instance : TScal Try.prog 161 := .of (by kernel_rfl)
instance : TZero Try.prog 161 [.nilFunc] := .of (by kernel_rfl)
instance : TScal Try.prog 162 := .of (by kernel_rfl)
instance : TZero Try.prog 162 [.nilFunc] := .of (by kernel_rfl)
instance : TScal Try.prog 163 := .of (by kernel_rfl)
instance : TZero Try.prog 163 [.nilFunc] := .of (by kernel_rfl)
instance : TAgg Try.prog 165 2 := .of (by kernel_rfl)
instance : TZero Try.prog 165 [.int .i64 0, .int .i64 0] := .of (by kernel_rfl)
instance : TStruct Try.prog 165 [(0, 1), (1, 1)] := .of (by kernel_rfl)
instance : TField Try.prog 165 0 0 := .of (by kernel_rfl)
instance : TField Try.prog 165 1 1 := .of (by kernel_rfl)
instance : TScal Try.prog 166 := .of (by kernel_rfl)
instance : TZero Try.prog 166 [.nilFunc] := .of (by kernel_rfl)
instance : TScal Try.prog 167 := .of (by kernel_rfl)
instance : TZero Try.prog 167 [.nilFunc] := .of (by kernel_rfl)
instance : TScal Try.prog 168 := .of (by kernel_rfl)
instance : TZero Try.prog 168 [.nilFunc] := .of (by kernel_rfl)
instance : TScal Try.prog 170 := .of (by kernel_rfl)
instance : TZero Try.prog 170 [.nilFunc] := .of (by kernel_rfl)
instance : TScal Try.prog 171 := .of (by kernel_rfl)
instance : TZero Try.prog 171 [.nilFunc] := .of (by kernel_rfl)
instance : TScal Try.prog 172 := .of (by kernel_rfl)
instance : TZero Try.prog 172 [.nilFunc] := .of (by kernel_rfl)
instance : TScal Try.prog 173 := .of (by kernel_rfl)
instance : TZero Try.prog 173 [.nilFunc] := .of (by kernel_rfl)
instance : TScal Try.prog 174 := .of (by kernel_rfl)
instance : TZero Try.prog 174 [.nilFunc] := .of (by kernel_rfl)
instance : TScal Try.prog 175 := .of (by kernel_rfl)
instance : TZero Try.prog 175 [.nilFunc] := .of (by kernel_rfl)
instance : TScal Try.prog 176 := .of (by kernel_rfl)
instance : TZero Try.prog 176 [.nilFunc] := .of (by kernel_rfl)
instance : TScal Try.prog 182 := .of (by kernel_rfl)
instance : TZero Try.prog 182 [.nilFunc] := .of (by kernel_rfl)
instance : TScal Try.prog 186 := .of (by kernel_rfl)
instance : TZero Try.prog 186 [.nilFunc] := .of (by kernel_rfl)
instance : TScal Try.prog 187 := .of (by kernel_rfl)
instance : TZero Try.prog 187 [.pointer none] := .of (by kernel_rfl)
instance : TScal Try.prog 192 := .of (by kernel_rfl)
instance : TZero Try.prog 192 [.nilFunc] := .of (by kernel_rfl)
instance : TScal Try.prog 194 := .of (by kernel_rfl)
instance : TInt Try.prog 194 := .of (by kernel_rfl)
instance : TZero Try.prog 194 [.int .u64 0] := .of (by kernel_rfl)
theorem mixed : Try.prog.follows .mixedOrders = true := by kernel_rfl
instance : TFun Try.prog 3 := .of (by kernel_rfl)
instance : TFun Try.prog 4 := .of (by kernel_rfl)
instance : TFun Try.prog 5 := .of (by kernel_rfl)
instance : TFun Try.prog 6 := .of (by kernel_rfl)
instance : TFun Try.prog 7 := .of (by kernel_rfl)
instance : TFun Try.prog 8 := .of (by kernel_rfl)
instance : TFun Try.prog 9 := .of (by kernel_rfl)
instance : TFun Try.prog 10 := .of (by kernel_rfl)
instance : TFun Try.prog 11 := .of (by kernel_rfl)
instance : TFun Try.prog 12 := .of (by kernel_rfl)
instance : TFun Try.prog 13 := .of (by kernel_rfl)
instance : TFun Try.prog 14 := .of (by kernel_rfl)
instance : TFun Try.prog 15 := .of (by kernel_rfl)
instance : TFun Try.prog 16 := .of (by kernel_rfl)
instance : TFun Try.prog 17 := .of (by kernel_rfl)
instance : TFun Try.prog 18 := .of (by kernel_rfl)
instance : TFun Try.prog 19 := .of (by kernel_rfl)
instance : TFun Try.prog 20 := .of (by kernel_rfl)
instance : TFun Try.prog 21 := .of (by kernel_rfl)
instance : TFun Try.prog 22 := .of (by kernel_rfl)
instance : TFun Try.prog 23 := .of (by kernel_rfl)
instance : TFun Try.prog 24 := .of (by kernel_rfl)
instance : TFun Try.prog 25 := .of (by kernel_rfl)
instance : TFun Try.prog 26 := .of (by kernel_rfl)
instance : TFun Try.prog 27 := .of (by kernel_rfl)
instance : TFun Try.prog 28 := .of (by kernel_rfl)
instance : TFun Try.prog 29 := .of (by kernel_rfl)
instance : TFun Try.prog 30 := .of (by kernel_rfl)
instance : TFun Try.prog 31 := .of (by kernel_rfl)
instance : TFun Try.prog 32 := .of (by kernel_rfl)
instance : TFun Try.prog 33 := .of (by kernel_rfl)
instance : TFun Try.prog 34 := .of (by kernel_rfl)
instance : TFun Try.prog 35 := .of (by kernel_rfl)
instance : TFun Try.prog 36 := .of (by kernel_rfl)
instance : TFun Try.prog 37 := .of (by kernel_rfl)
instance : TFun Try.prog 38 := .of (by kernel_rfl)
instance : TFun Try.prog 39 := .of (by kernel_rfl)
instance : TFun Try.prog 40 := .of (by kernel_rfl)
instance : TFun Try.prog 41 := .of (by kernel_rfl)
instance : TFun Try.prog 42 := .of (by kernel_rfl)
instance : TFun Try.prog 43 := .of (by kernel_rfl)
instance : TFun Try.prog 44 := .of (by kernel_rfl)
instance : TFun Try.prog 45 := .of (by kernel_rfl)
instance : TFun Try.prog 46 := .of (by kernel_rfl)
instance : TFun Try.prog 47 := .of (by kernel_rfl)
instance : TFun Try.prog 48 := .of (by kernel_rfl)
instance : TFun Try.prog 49 := .of (by kernel_rfl)
instance : TFun Try.prog 50 := .of (by kernel_rfl)
instance : TFun Try.prog 51 := .of (by kernel_rfl)
instance : TFun Try.prog 52 := .of (by kernel_rfl)
instance : TFun Try.prog 53 := .of (by kernel_rfl)
instance : TFun Try.prog 54 := .of (by kernel_rfl)
instance : TFun Try.prog 55 := .of (by kernel_rfl)
instance : TFun Try.prog 56 := .of (by kernel_rfl)
instance : TFun Try.prog 57 := .of (by kernel_rfl)
instance : TFun Try.prog 58 := .of (by kernel_rfl)
instance : TFun Try.prog 59 := .of (by kernel_rfl)
instance : TFun Try.prog 60 := .of (by kernel_rfl)
instance : TFun Try.prog 61 := .of (by kernel_rfl)
instance : TFun Try.prog 62 := .of (by kernel_rfl)
instance : TFun Try.prog 63 := .of (by kernel_rfl)
instance : TFun Try.prog 64 := .of (by kernel_rfl)
instance : TFun Try.prog 65 := .of (by kernel_rfl)
instance : TFun Try.prog 66 := .of (by kernel_rfl)
instance : TFun Try.prog 67 := .of (by kernel_rfl)
instance : TFun Try.prog 68 := .of (by kernel_rfl)
instance : TFun Try.prog 69 := .of (by kernel_rfl)
instance : TFun Try.prog 70 := .of (by kernel_rfl)
instance : TFun Try.prog 71 := .of (by kernel_rfl)
instance : TFun Try.prog 72 := .of (by kernel_rfl)
instance : TFun Try.prog 73 := .of (by kernel_rfl)
instance : TFun Try.prog 74 := .of (by kernel_rfl)
instance : TFun Try.prog 75 := .of (by kernel_rfl)
instance : TFun Try.prog 76 := .of (by kernel_rfl)
instance : TFun Try.prog 77 := .of (by kernel_rfl)
instance : TFun Try.prog 78 := .of (by kernel_rfl)
instance : TFun Try.prog 79 := .of (by kernel_rfl)
instance : TFun Try.prog 80 := .of (by kernel_rfl)
instance : TFun Try.prog 81 := .of (by kernel_rfl)
instance : TFun Try.prog 82 := .of (by kernel_rfl)
instance : TFun Try.prog 83 := .of (by kernel_rfl)
instance : TFun Try.prog 84 := .of (by kernel_rfl)
instance : TFun Try.prog 85 := .of (by kernel_rfl)
instance : TFun Try.prog 86 := .of (by kernel_rfl)
instance : TFun Try.prog 87 := .of (by kernel_rfl)
instance : TFun Try.prog 88 := .of (by kernel_rfl)
instance : TFun Try.prog 89 := .of (by kernel_rfl)
instance : TFun Try.prog 90 := .of (by kernel_rfl)
instance : TFun Try.prog 91 := .of (by kernel_rfl)
instance : TFun Try.prog 92 := .of (by kernel_rfl)
instance : TFun Try.prog 93 := .of (by kernel_rfl)
instance : TFun Try.prog 94 := .of (by kernel_rfl)
instance : TFun Try.prog 95 := .of (by kernel_rfl)
instance : TFun Try.prog 96 := .of (by kernel_rfl)
instance : TFun Try.prog 97 := .of (by kernel_rfl)
instance : TFun Try.prog 98 := .of (by kernel_rfl)
instance : TFun Try.prog 99 := .of (by kernel_rfl)
instance : TFun Try.prog 100 := .of (by kernel_rfl)
instance : TFun Try.prog 101 := .of (by kernel_rfl)
instance : TFun Try.prog 102 := .of (by kernel_rfl)
instance : TFun Try.prog 103 := .of (by kernel_rfl)
instance : TFun Try.prog 104 := .of (by kernel_rfl)
instance : TFun Try.prog 105 := .of (by kernel_rfl)
instance : TFun Try.prog 106 := .of (by kernel_rfl)
instance : TFun Try.prog 107 := .of (by kernel_rfl)
instance : TFun Try.prog 108 := .of (by kernel_rfl)
instance : TFun Try.prog 109 := .of (by kernel_rfl)
instance : TFun Try.prog 110 := .of (by kernel_rfl)
instance : TFun Try.prog 111 := .of (by kernel_rfl)
instance : TFun Try.prog 112 := .of (by kernel_rfl)
instance : TFun Try.prog 113 := .of (by kernel_rfl)
instance : TFun Try.prog 114 := .of (by kernel_rfl)
instance : TFun Try.prog 115 := .of (by kernel_rfl)
instance : TFun Try.prog 116 := .of (by kernel_rfl)
instance : TFun Try.prog 117 := .of (by kernel_rfl)
instance : TFun Try.prog 118 := .of (by kernel_rfl)
instance : TFun Try.prog 119 := .of (by kernel_rfl)
instance : TFun Try.prog 120 := .of (by kernel_rfl)
instance : TFun Try.prog 121 := .of (by kernel_rfl)
instance : TFun Try.prog 122 := .of (by kernel_rfl)
instance : TFun Try.prog 123 := .of (by kernel_rfl)
instance : TFun Try.prog 124 := .of (by kernel_rfl)
instance : TFun Try.prog 125 := .of (by kernel_rfl)
instance : TFun Try.prog 126 := .of (by kernel_rfl)
instance : TFun Try.prog 127 := .of (by kernel_rfl)
instance : TFun Try.prog 128 := .of (by kernel_rfl)
instance : TFun Try.prog 129 := .of (by kernel_rfl)
instance : TFun Try.prog 130 := .of (by kernel_rfl)
instance : TFun Try.prog 131 := .of (by kernel_rfl)
instance : TFun Try.prog 132 := .of (by kernel_rfl)
instance : TFun Try.prog 133 := .of (by kernel_rfl)
instance : TFun Try.prog 134 := .of (by kernel_rfl)
instance : TFun Try.prog 135 := .of (by kernel_rfl)
instance : TFun Try.prog 137 := .of (by kernel_rfl)
instance : TFun Try.prog 138 := .of (by kernel_rfl)
instance : TFun Try.prog 139 := .of (by kernel_rfl)
instance : TFun Try.prog 140 := .of (by kernel_rfl)
instance : TFun Try.prog 141 := .of (by kernel_rfl)
instance : TFun Try.prog 142 := .of (by kernel_rfl)
instance : TFun Try.prog 143 := .of (by kernel_rfl)
instance : TFun Try.prog 144 := .of (by kernel_rfl)
instance : TFun Try.prog 145 := .of (by kernel_rfl)
instance : TFun Try.prog 146 := .of (by kernel_rfl)
instance : TFun Try.prog 147 := .of (by kernel_rfl)
instance : TFun Try.prog 148 := .of (by kernel_rfl)
instance : TFun Try.prog 149 := .of (by kernel_rfl)
instance : TFun Try.prog 150 := .of (by kernel_rfl)
instance : TFun Try.prog 151 := .of (by kernel_rfl)
instance : TFun Try.prog 152 := .of (by kernel_rfl)
instance : TFun Try.prog 153 := .of (by kernel_rfl)
instance : TFun Try.prog 154 := .of (by kernel_rfl)
instance : TFun Try.prog 155 := .of (by kernel_rfl)
instance : TFun Try.prog 156 := .of (by kernel_rfl)
instance : TFun Try.prog 157 := .of (by kernel_rfl)
instance : TFun Try.prog 158 := .of (by kernel_rfl)
instance : TFun Try.prog 159 := .of (by kernel_rfl)
instance : TFun Try.prog 160 := .of (by kernel_rfl)
instance : TFun Try.prog 161 := .of (by kernel_rfl)
instance : TFun Try.prog 162 := .of (by kernel_rfl)
instance : TFun Try.prog 163 := .of (by kernel_rfl)
instance : TFun Try.prog 164 := .of (by kernel_rfl)
instance : TFun Try.prog 165 := .of (by kernel_rfl)
instance : TFun Try.prog 166 := .of (by kernel_rfl)
instance : TFun Try.prog 167 := .of (by kernel_rfl)
end Go.Proofs.Ytfigegmgopnfhaa
/- The steps of a walk, each given its small proofs by default. No conditions. -/
namespace Go.Proofs.Ytfigegmgopnfhaa
open Go
structure Wrap (p : Prop) : Prop where
  out : p
theorem rD {p : Prop} (h : p := by first | exact Rd.arg0 (by assumption) | exact Rd.own (by repeat (first | exact List.Mem.head _ | apply List.Mem.tail)) | exact Rd.nil) : p := h
theorem lT {p : Prop} (h : p := by first | omega | (simp only [List.length_cons, List.length_nil, List.length_append, List.length_set, List.length_replicate]; omega)) : p := h
theorem oN {p : Prop} (h : p := by repeat (first | exact One.nil | refine One.lit rfl ?_ | refine One.lit (by assumption) ?_ | refine One.arg (by assumption) ?_ | refine One.mem (by repeat (first | exact OneM.head isOwn.own | apply OneM.tail)) ?_)) : p := h
theorem sT {p : Prop} (h : p := by repeat (first | exact SubT.nil _ | refine SubT.cons ?_ | refine SubT.pick1 ?_ | refine SubT.pick2 ?_ | refine SubT.pick3 ?_ | refine SubT.pick4 ?_ | refine SubT.pick5 ?_ | refine SubT.pick6 ?_ | refine SubT.pick7 ?_ | refine SubT.pick8 ?_ | refine SubT.pick9 ?_ | refine SubT.pick10 ?_ | refine SubT.pick11 ?_ | refine SubT.pick12 ?_ | refine SubT.pick13 ?_ | refine SubT.pick14 ?_ | refine SubT.pick15 ?_)) : p := h
theorem sE {p : Prop} (h : p := by repeat (first | exact trivial | refine ⟨rfl, ?_⟩)) : p := h
theorem rV {p : Prop} (h : p := by repeat (first | exact trivial | refine ⟨rfl, ?_⟩ | refine ⟨⟨_, _, rfl, by repeat (first | exact List.Mem.head _ | apply List.Mem.tail), .inl ⟨_, inferInstance, rfl, rfl⟩⟩, ?_⟩ | refine ⟨⟨_, _, rfl, by repeat (first | exact List.Mem.head _ | apply List.Mem.tail), .inr ⟨inferInstance, rfl⟩⟩, ?_⟩)) : p := h
theorem lO {p : Prop} (h : p := by repeat (first | exact trivial | refine ⟨rfl, ?_⟩)) : p := h
theorem pA {p : Prop} (h : p := by repeat (first | exact trivial | refine ⟨rfl, rfl, ?_⟩)) : p := h
theorem xQP {p : Prop} (h : p := by repeat (first | exact QP.body | refine QP.then ?_ | refine QP.inBlock ?_)) : p := h
theorem xBP {p : Prop} (h : p := by repeat (first | exact BP.nil | apply BP.agg rfl | apply BP.one rfl (by repeat (first | exact One.nil | refine One.lit rfl ?_ | refine One.lit (by assumption) ?_ | refine One.arg (by assumption) ?_ | refine One.mem (by repeat (first | exact OneM.head isOwn.own | apply OneM.tail)) ?_)))) : p := h
theorem lN {p : Prop} (h : p := by first | omega | (simp only [List.length_append, List.length_cons, List.length_nil, List.length_replicate, List.length_set]; omega)) : p := h
theorem mM {p : Prop} (h : p := by repeat (first | exact List.Mem.head _ | apply List.Mem.tail)) : p := h
theorem oM {p : Prop} (h : p := by repeat (first | exact OneM.head isOwn.own | apply OneM.tail)) : p := h
theorem pM {p : Prop} (h : p := by first | exact List.Perm.refl _ | exact prm1 | exact prm2 | exact prm3 | exact prm4 | exact prm5 | exact prm6 | exact prm7 | exact prm8 | exact prm9 | exact prm10 | exact prm11 | exact prm12 | exact prm13 | exact prm14 | exact prm15 | exact prd1 | exact prd2 | exact prd3 | exact prd4 | exact prd5 | exact prd6 | exact prd7 | exact prd8 | exact prd9 | exact prd10 | exact prd11) : p := h
theorem oP {p : Prop} (h : p := by first | exact Op1.move rfl | exact Op1.assign rfl | exact Op1.load rfl (by repeat (first | exact List.Mem.head _ | apply List.Mem.tail)) (by rfl) | exact Op1.loadI rfl (by first | exact Rd.arg0 (by assumption) | exact Rd.own (by repeat (first | exact List.Mem.head _ | apply List.Mem.tail)) | exact Rd.nil) (by first | omega | (simp only [List.length_cons, List.length_nil, List.length_append, List.length_set, List.length_replicate]; omega)) | exact Op1.loadAll rfl (by repeat (first | exact List.Mem.head _ | apply List.Mem.tail)) (by rfl) | exact Op1.fieldAddr rfl | exact Op1.indexAddr rfl rfl (by first | exact Rd.arg0 (by assumption) | exact Rd.own (by repeat (first | exact List.Mem.head _ | apply List.Mem.tail)) | exact Rd.nil) (by first | omega | (simp only [List.length_cons, List.length_nil, List.length_append, List.length_set, List.length_replicate]; omega)) | exact Op1.indexAddrZ rfl rfl (by first | exact Rd.arg0 (by assumption) | exact Rd.own (by repeat (first | exact List.Mem.head _ | apply List.Mem.tail)) | exact Rd.nil) (by first | omega | (simp only [List.length_cons, List.length_nil, List.length_append, List.length_set, List.length_replicate]; omega)) | exact Op1.loadE rfl (by first | exact Rd.arg0 (by assumption) | exact Rd.own (by repeat (first | exact List.Mem.head _ | apply List.Mem.tail)) | exact Rd.nil) (by first | omega | (simp only [List.length_cons, List.length_nil, List.length_append, List.length_set, List.length_replicate]; omega)) (by rfl) | exact Op1.loadEAgg rfl (by first | exact Rd.arg0 (by assumption) | exact Rd.own (by repeat (first | exact List.Mem.head _ | apply List.Mem.tail)) | exact Rd.nil) (by first | omega | (simp only [List.length_cons, List.length_nil, List.length_append, List.length_set, List.length_replicate]; omega)) (by rfl) | exact Op1.fieldAddrE rfl (by first | exact Rd.arg0 (by assumption) | exact Rd.own (by repeat (first | exact List.Mem.head _ | apply List.Mem.tail)) | exact Rd.nil) (by first | omega | (simp only [List.length_cons, List.length_nil, List.length_append, List.length_set, List.length_replicate]; omega)) | exact Op1.len rfl (by first | exact Rd.arg0 (by assumption) | exact Rd.own (by repeat (first | exact List.Mem.head _ | apply List.Mem.tail)) | exact Rd.nil) | exact Op1.eqI rfl rfl | exact Op1.neI rfl rfl | exact Op1.ltI rfl rfl | exact Op1.leI rfl rfl | exact Op1.gtI rfl rfl | exact Op1.geI rfl rfl | exact Op1.add rfl rfl (by omega) | exact Op1.sub rfl rfl (by omega) | exact Op1.pickT rfl rfl | exact Op1.pickF rfl rfl | exact Op1.extract rfl (by rfl) | exact Op1.notD rfl | exact Op1.not rfl | exact Op1.eqB rfl rfl | exact Op1.neB rfl rfl | exact Op1.bmin rfl rfl | exact Op1.bmax rfl rfl | exact Op1.build (by repeat (first | exact BP.nil | apply BP.agg rfl | apply BP.one rfl (by repeat (first | exact One.nil | refine One.lit rfl ?_ | refine One.lit (by assumption) ?_ | refine One.arg (by assumption) ?_ | refine One.mem (by repeat (first | exact OneM.head isOwn.own | apply OneM.tail)) ?_)))) (by rfl) | exact Op1.nilCheck rfl | exact Op1.xor rfl rfl (by omega) (by omega) | exact Op1.sliceHiZ rfl rfl (by first | exact Rd.arg0 (by assumption) | exact Rd.own (by repeat (first | exact List.Mem.head _ | apply List.Mem.tail)) | exact Rd.nil) (by first | omega | (simp only [List.length_cons, List.length_nil, List.length_append, List.length_set, List.length_replicate]; omega)) | exact Op1.sliceLo rfl rfl (by first | exact Rd.arg0 (by assumption) | exact Rd.own (by repeat (first | exact List.Mem.head _ | apply List.Mem.tail)) | exact Rd.nil) (by first | omega | (simp only [List.length_cons, List.length_nil, List.length_append, List.length_set, List.length_replicate]; omega))) : p := h
theorem kR {p : Prop} (h : p := by kernel_rfl) : p := h
theorem go {p q : Prop} (h : Wrap q) (k : Wrap q → p := by intro h; (first  | refine WP.seq ?_ | refine WP.block ?_ | refine WP.region ?_ | refine WPL.nil ?_ | refine PE.next ?_  | (refine isMove ?_; first | refine WPL.pure (Op1.move rfl) rfl rfl ?_ | (refine isGuard ?_; refine WPL.skip rfl rfl ?_))  | (refine isAssign ?_; refine WPL.pure (Op1.assign rfl) rfl rfl ?_)  | (refine isLoad ?_; first | refine WPL.pure (Op1.load rfl (by repeat (first | exact List.Mem.head _ | apply List.Mem.tail)) (by rfl)) rfl rfl ?_ | refine WPL.pure (Op1.loadI rfl (by first | exact Rd.arg0 (by assumption) | exact Rd.own (by repeat (first | exact List.Mem.head _ | apply List.Mem.tail)) | exact Rd.nil) (by first | omega | (simp only [List.length_cons, List.length_nil, List.length_append, List.length_set, List.length_replicate]; omega))) rfl rfl ?_ | refine WPL.pure (Op1.loadAll rfl (by repeat (first | exact List.Mem.head _ | apply List.Mem.tail)) (by rfl)) rfl rfl ?_ | refine WPL.pure (Op1.loadE rfl (by first | exact Rd.arg0 (by assumption) | exact Rd.own (by repeat (first | exact List.Mem.head _ | apply List.Mem.tail)) | exact Rd.nil) (by first | omega | (simp only [List.length_cons, List.length_nil, List.length_append, List.length_set, List.length_replicate]; omega)) (by rfl)) rfl rfl ?_ | refine WPL.pure (Op1.loadEAgg rfl (by first | exact Rd.arg0 (by assumption) | exact Rd.own (by repeat (first | exact List.Mem.head _ | apply List.Mem.tail)) | exact Rd.nil) (by first | omega | (simp only [List.length_cons, List.length_nil, List.length_append, List.length_set, List.length_replicate]; omega)) (by rfl)) rfl rfl ?_ | (refine isGuard ?_; refine WPL.skip rfl rfl ?_))  | (refine isFld ?_; first | refine WPL.pure (Op1.fieldAddr rfl) rfl rfl ?_ | refine WPL.pure (Op1.fieldAddrE rfl (by first | exact Rd.arg0 (by assumption) | exact Rd.own (by repeat (first | exact List.Mem.head _ | apply List.Mem.tail)) | exact Rd.nil) (by first | omega | (simp only [List.length_cons, List.length_nil, List.length_append, List.length_set, List.length_replicate]; omega))) rfl rfl ?_ | (refine isGuard ?_; refine WPL.skip rfl rfl ?_))  | (refine isIdx ?_; first | refine WPL.pure (Op1.indexAddr rfl rfl (by first | exact Rd.arg0 (by assumption) | exact Rd.own (by repeat (first | exact List.Mem.head _ | apply List.Mem.tail)) | exact Rd.nil) (by first | omega | (simp only [List.length_cons, List.length_nil, List.length_append, List.length_set, List.length_replicate]; omega))) rfl rfl ?_ | refine WPL.pure (Op1.indexAddrZ rfl rfl (by first | exact Rd.arg0 (by assumption) | exact Rd.own (by repeat (first | exact List.Mem.head _ | apply List.Mem.tail)) | exact Rd.nil) (by first | omega | (simp only [List.length_cons, List.length_nil, List.length_append, List.length_set, List.length_replicate]; omega))) rfl rfl ?_ | (refine isGuard ?_; refine WPL.skip rfl rfl ?_))  | (refine isExt ?_; refine WPL.pure (Op1.extract rfl (by rfl)) rfl rfl ?_)  | (refine isBin ?_; first | refine WPL.pure (Op1.eqI rfl rfl) rfl rfl ?_ | refine WPL.pure (Op1.neI rfl rfl) rfl rfl ?_ | refine WPL.pure (Op1.ltI rfl rfl) rfl rfl ?_ | refine WPL.pure (Op1.leI rfl rfl) rfl rfl ?_ | refine WPL.pure (Op1.gtI rfl rfl) rfl rfl ?_ | refine WPL.pure (Op1.geI rfl rfl) rfl rfl ?_ | refine WPL.pure (Op1.add rfl rfl (by omega)) rfl rfl ?_ | refine WPL.pure (Op1.sub rfl rfl (by omega)) rfl rfl ?_ | refine WPL.pure (Op1.mul rfl rfl (by omega)) rfl rfl ?_ | refine WPL.pure (Op1.quo rfl rfl (by omega)) rfl rfl ?_ | refine WPL.pure (Op1.rem rfl rfl (by omega)) rfl rfl ?_ | refine WPL.pure (Op1.xor rfl rfl (by omega) (by omega)) rfl rfl ?_ | refine WPL.pure (Op1.eqB rfl rfl) rfl rfl ?_ | refine WPL.pure (Op1.neB rfl rfl) rfl rfl ?_ | refine WPL.pure (Op1.eqNil rfl (by first | exact Rd.arg0 (by assumption) | exact Rd.own (by repeat (first | exact List.Mem.head _ | apply List.Mem.tail)) | exact Rd.nil)) rfl rfl ?_ | (refine isGuard ?_; refine WPL.skip rfl rfl ?_))  | (refine isPick ?_; first | refine WPL.pure (Op1.pickT rfl rfl) rfl rfl ?_ | refine WPL.pure (Op1.pickF rfl rfl) rfl rfl ?_ | (refine isGuard ?_; refine WPL.skip rfl rfl ?_))  | (refine isUn ?_; first | refine WPL.pure (Op1.notD rfl) rfl rfl ?_ | refine WPL.pure (Op1.not rfl) rfl rfl ?_ | refine WPL.pure (Op1.neg rfl (by omega)) rfl rfl ?_ | (refine isGuard ?_; refine WPL.skip rfl rfl ?_))  | (refine isBlt ?_; first | refine WPL.pure (Op1.len rfl (by first | exact Rd.arg0 (by assumption) | exact Rd.own (by repeat (first | exact List.Mem.head _ | apply List.Mem.tail)) | exact Rd.nil)) rfl rfl ?_ | refine WPL.pure (Op1.bmin rfl rfl) rfl rfl ?_ | refine WPL.pure (Op1.bmax rfl rfl) rfl rfl ?_ | (refine isGuard ?_; refine WPL.skip rfl rfl ?_))  | (refine isBuild ?_; refine WPL.pure (Op1.build (by repeat (first | exact BP.nil | apply BP.agg rfl | apply BP.one rfl (by repeat (first | exact One.nil | refine One.lit rfl ?_ | refine One.lit (by assumption) ?_ | refine One.arg (by assumption) ?_ | refine One.mem (by repeat (first | exact OneM.head isOwn.own | apply OneM.tail)) ?_)))) (by rfl)) rfl rfl ?_) | (refine isStore ?_; first | (refine WPL.eff0 (OpE.store rfl rfl (by first | exact List.Perm.refl _ | exact prm1 | exact prm2 | exact prm3 | exact prm4 | exact prm5 | exact prm6 | exact prm7 | exact prm8 | exact prm9 | exact prm10 | exact prm11 | exact prm12 | exact prm13 | exact prm14 | exact prm15 | exact prd1 | exact prd2 | exact prd3 | exact prd4 | exact prd5 | exact prd6 | exact prd7 | exact prd8 | exact prd9 | exact prd10 | exact prd11) (by rfl) (by repeat (first | exact One.nil | refine One.lit rfl ?_ | refine One.lit (by assumption) ?_ | refine One.arg (by assumption) ?_ | refine One.mem (by repeat (first | exact OneM.head isOwn.own | apply OneM.tail)) ?_))) rfl ?_; rintro _ _ rfl) | (refine WPL.eff0 (OpE.storeAll rfl rfl (by first | exact List.Perm.refl _ | exact prm1 | exact prm2 | exact prm3 | exact prm4 | exact prm5 | exact prm6 | exact prm7 | exact prm8 | exact prm9 | exact prm10 | exact prm11 | exact prm12 | exact prm13 | exact prm14 | exact prm15 | exact prd1 | exact prd2 | exact prd3 | exact prd4 | exact prd5 | exact prd6 | exact prd7 | exact prd8 | exact prd9 | exact prd10 | exact prd11) (by rfl) (by rfl) (by repeat (first | exact One.nil | refine One.lit rfl ?_ | refine One.lit (by assumption) ?_ | refine One.arg (by assumption) ?_ | refine One.mem (by repeat (first | exact OneM.head isOwn.own | apply OneM.tail)) ?_))) rfl ?_; rintro _ _ rfl)) | (refine isConv ?_; first | refine WPL.pure (Op1.convInt rfl (by kernel_rfl) (by omega)) rfl rfl ?_ | (refine isGuard ?_; refine WPL.skip rfl rfl ?_))  | (refine isNil ?_; first | refine WPL.pure (Op1.nilCheck rfl) rfl rfl ?_ | (refine isGuard ?_; refine WPL.skip rfl rfl ?_)) | (refine isSlc ?_; first | refine WPL.pure (Op1.sliceHiZ rfl rfl (by first | exact Rd.arg0 (by assumption) | exact Rd.own (by repeat (first | exact List.Mem.head _ | apply List.Mem.tail)) | exact Rd.nil) (by first | omega | (simp only [List.length_cons, List.length_nil, List.length_append, List.length_set, List.length_replicate]; omega))) rfl rfl ?_ | refine WPL.pure (Op1.sliceLo rfl rfl (by first | exact Rd.arg0 (by assumption) | exact Rd.own (by repeat (first | exact List.Mem.head _ | apply List.Mem.tail)) | exact Rd.nil) (by first | omega | (simp only [List.length_cons, List.length_nil, List.length_append, List.length_set, List.length_replicate]; omega))) rfl rfl ?_ | (refine isGuard ?_; refine WPL.skip rfl rfl ?_)) | (refine isGuard ?_; refine WPL.skip rfl rfl ?_) | refine PE.thenRet ?_ | refine PE.thenExit ?_ | refine PE.inBlockRet ?_ | refine PE.inBlockNormal ?_ | refine PE.inBlockSame ?_ | refine PE.inBlockOther rfl ?_  | refine WP.skip ?_ | refine WP.ret ?_ | refine WP.exit ?_ | (refine isCond ?_; first | refine WP.condT rfl ?_ | refine WP.condF rfl ?_)); (repeat (first  | refine WP.seq ?_ | refine WP.block ?_ | refine WP.region ?_ | refine WPL.nil ?_ | refine PE.next ?_  | (refine isMove ?_; first | refine WPL.pure (Op1.move rfl) rfl rfl ?_ | (refine isGuard ?_; refine WPL.skip rfl rfl ?_))  | (refine isAssign ?_; refine WPL.pure (Op1.assign rfl) rfl rfl ?_)  | (refine isLoad ?_; first | refine WPL.pure (Op1.load rfl (by repeat (first | exact List.Mem.head _ | apply List.Mem.tail)) (by rfl)) rfl rfl ?_ | refine WPL.pure (Op1.loadI rfl (by first | exact Rd.arg0 (by assumption) | exact Rd.own (by repeat (first | exact List.Mem.head _ | apply List.Mem.tail)) | exact Rd.nil) (by first | omega | (simp only [List.length_cons, List.length_nil, List.length_append, List.length_set, List.length_replicate]; omega))) rfl rfl ?_ | refine WPL.pure (Op1.loadAll rfl (by repeat (first | exact List.Mem.head _ | apply List.Mem.tail)) (by rfl)) rfl rfl ?_ | refine WPL.pure (Op1.loadE rfl (by first | exact Rd.arg0 (by assumption) | exact Rd.own (by repeat (first | exact List.Mem.head _ | apply List.Mem.tail)) | exact Rd.nil) (by first | omega | (simp only [List.length_cons, List.length_nil, List.length_append, List.length_set, List.length_replicate]; omega)) (by rfl)) rfl rfl ?_ | refine WPL.pure (Op1.loadEAgg rfl (by first | exact Rd.arg0 (by assumption) | exact Rd.own (by repeat (first | exact List.Mem.head _ | apply List.Mem.tail)) | exact Rd.nil) (by first | omega | (simp only [List.length_cons, List.length_nil, List.length_append, List.length_set, List.length_replicate]; omega)) (by rfl)) rfl rfl ?_ | (refine isGuard ?_; refine WPL.skip rfl rfl ?_))  | (refine isFld ?_; first | refine WPL.pure (Op1.fieldAddr rfl) rfl rfl ?_ | refine WPL.pure (Op1.fieldAddrE rfl (by first | exact Rd.arg0 (by assumption) | exact Rd.own (by repeat (first | exact List.Mem.head _ | apply List.Mem.tail)) | exact Rd.nil) (by first | omega | (simp only [List.length_cons, List.length_nil, List.length_append, List.length_set, List.length_replicate]; omega))) rfl rfl ?_ | (refine isGuard ?_; refine WPL.skip rfl rfl ?_))  | (refine isIdx ?_; first | refine WPL.pure (Op1.indexAddr rfl rfl (by first | exact Rd.arg0 (by assumption) | exact Rd.own (by repeat (first | exact List.Mem.head _ | apply List.Mem.tail)) | exact Rd.nil) (by first | omega | (simp only [List.length_cons, List.length_nil, List.length_append, List.length_set, List.length_replicate]; omega))) rfl rfl ?_ | refine WPL.pure (Op1.indexAddrZ rfl rfl (by first | exact Rd.arg0 (by assumption) | exact Rd.own (by repeat (first | exact List.Mem.head _ | apply List.Mem.tail)) | exact Rd.nil) (by first | omega | (simp only [List.length_cons, List.length_nil, List.length_append, List.length_set, List.length_replicate]; omega))) rfl rfl ?_ | (refine isGuard ?_; refine WPL.skip rfl rfl ?_))  | (refine isExt ?_; refine WPL.pure (Op1.extract rfl (by rfl)) rfl rfl ?_)  | (refine isBin ?_; first | refine WPL.pure (Op1.eqI rfl rfl) rfl rfl ?_ | refine WPL.pure (Op1.neI rfl rfl) rfl rfl ?_ | refine WPL.pure (Op1.ltI rfl rfl) rfl rfl ?_ | refine WPL.pure (Op1.leI rfl rfl) rfl rfl ?_ | refine WPL.pure (Op1.gtI rfl rfl) rfl rfl ?_ | refine WPL.pure (Op1.geI rfl rfl) rfl rfl ?_ | refine WPL.pure (Op1.add rfl rfl (by omega)) rfl rfl ?_ | refine WPL.pure (Op1.sub rfl rfl (by omega)) rfl rfl ?_ | refine WPL.pure (Op1.mul rfl rfl (by omega)) rfl rfl ?_ | refine WPL.pure (Op1.quo rfl rfl (by omega)) rfl rfl ?_ | refine WPL.pure (Op1.rem rfl rfl (by omega)) rfl rfl ?_ | refine WPL.pure (Op1.xor rfl rfl (by omega) (by omega)) rfl rfl ?_ | refine WPL.pure (Op1.eqB rfl rfl) rfl rfl ?_ | refine WPL.pure (Op1.neB rfl rfl) rfl rfl ?_ | refine WPL.pure (Op1.eqNil rfl (by first | exact Rd.arg0 (by assumption) | exact Rd.own (by repeat (first | exact List.Mem.head _ | apply List.Mem.tail)) | exact Rd.nil)) rfl rfl ?_ | (refine isGuard ?_; refine WPL.skip rfl rfl ?_))  | (refine isPick ?_; first | refine WPL.pure (Op1.pickT rfl rfl) rfl rfl ?_ | refine WPL.pure (Op1.pickF rfl rfl) rfl rfl ?_ | (refine isGuard ?_; refine WPL.skip rfl rfl ?_))  | (refine isUn ?_; first | refine WPL.pure (Op1.notD rfl) rfl rfl ?_ | refine WPL.pure (Op1.not rfl) rfl rfl ?_ | refine WPL.pure (Op1.neg rfl (by omega)) rfl rfl ?_ | (refine isGuard ?_; refine WPL.skip rfl rfl ?_))  | (refine isBlt ?_; first | refine WPL.pure (Op1.len rfl (by first | exact Rd.arg0 (by assumption) | exact Rd.own (by repeat (first | exact List.Mem.head _ | apply List.Mem.tail)) | exact Rd.nil)) rfl rfl ?_ | refine WPL.pure (Op1.bmin rfl rfl) rfl rfl ?_ | refine WPL.pure (Op1.bmax rfl rfl) rfl rfl ?_ | (refine isGuard ?_; refine WPL.skip rfl rfl ?_))  | (refine isBuild ?_; refine WPL.pure (Op1.build (by repeat (first | exact BP.nil | apply BP.agg rfl | apply BP.one rfl (by repeat (first | exact One.nil | refine One.lit rfl ?_ | refine One.lit (by assumption) ?_ | refine One.arg (by assumption) ?_ | refine One.mem (by repeat (first | exact OneM.head isOwn.own | apply OneM.tail)) ?_)))) (by rfl)) rfl rfl ?_) | (refine isStore ?_; first | (refine WPL.eff0 (OpE.store rfl rfl (by first | exact List.Perm.refl _ | exact prm1 | exact prm2 | exact prm3 | exact prm4 | exact prm5 | exact prm6 | exact prm7 | exact prm8 | exact prm9 | exact prm10 | exact prm11 | exact prm12 | exact prm13 | exact prm14 | exact prm15 | exact prd1 | exact prd2 | exact prd3 | exact prd4 | exact prd5 | exact prd6 | exact prd7 | exact prd8 | exact prd9 | exact prd10 | exact prd11) (by rfl) (by repeat (first | exact One.nil | refine One.lit rfl ?_ | refine One.lit (by assumption) ?_ | refine One.arg (by assumption) ?_ | refine One.mem (by repeat (first | exact OneM.head isOwn.own | apply OneM.tail)) ?_))) rfl ?_; rintro _ _ rfl) | (refine WPL.eff0 (OpE.storeAll rfl rfl (by first | exact List.Perm.refl _ | exact prm1 | exact prm2 | exact prm3 | exact prm4 | exact prm5 | exact prm6 | exact prm7 | exact prm8 | exact prm9 | exact prm10 | exact prm11 | exact prm12 | exact prm13 | exact prm14 | exact prm15 | exact prd1 | exact prd2 | exact prd3 | exact prd4 | exact prd5 | exact prd6 | exact prd7 | exact prd8 | exact prd9 | exact prd10 | exact prd11) (by rfl) (by rfl) (by repeat (first | exact One.nil | refine One.lit rfl ?_ | refine One.lit (by assumption) ?_ | refine One.arg (by assumption) ?_ | refine One.mem (by repeat (first | exact OneM.head isOwn.own | apply OneM.tail)) ?_))) rfl ?_; rintro _ _ rfl)) | (refine isConv ?_; first | refine WPL.pure (Op1.convInt rfl (by kernel_rfl) (by omega)) rfl rfl ?_ | (refine isGuard ?_; refine WPL.skip rfl rfl ?_))  | (refine isNil ?_; first | refine WPL.pure (Op1.nilCheck rfl) rfl rfl ?_ | (refine isGuard ?_; refine WPL.skip rfl rfl ?_)) | (refine isSlc ?_; first | refine WPL.pure (Op1.sliceHiZ rfl rfl (by first | exact Rd.arg0 (by assumption) | exact Rd.own (by repeat (first | exact List.Mem.head _ | apply List.Mem.tail)) | exact Rd.nil) (by first | omega | (simp only [List.length_cons, List.length_nil, List.length_append, List.length_set, List.length_replicate]; omega))) rfl rfl ?_ | refine WPL.pure (Op1.sliceLo rfl rfl (by first | exact Rd.arg0 (by assumption) | exact Rd.own (by repeat (first | exact List.Mem.head _ | apply List.Mem.tail)) | exact Rd.nil) (by first | omega | (simp only [List.length_cons, List.length_nil, List.length_append, List.length_set, List.length_replicate]; omega))) rfl rfl ?_ | (refine isGuard ?_; refine WPL.skip rfl rfl ?_)) | (refine isGuard ?_; refine WPL.skip rfl rfl ?_) | refine PE.thenRet ?_ | refine PE.thenExit ?_ | refine PE.inBlockRet ?_ | refine PE.inBlockNormal ?_ | refine PE.inBlockSame ?_ | refine PE.inBlockOther rfl ?_  | refine WP.skip ?_ | refine WP.ret ?_ | refine WP.exit ?_ | (refine isCond ?_; first | refine WP.condT rfl ?_ | refine WP.condF rfl ?_))); exact h.out) : p := k h
end Go.Proofs.Ytfigegmgopnfhaa
/- The steps of a walk once more, for functions that are given tokens and read a slice beside them. No conditions. -/
namespace Go.Proofs.Ytfigegmgopnfhaa
open Go
def RdA {α : Type} [Enc α] (G : Ctx) (v : Value) (xs : List α) : Prop := ∀ F, Rd G F v xs
theorem Rd.ofA {α : Type} [Enc α] {G : Ctx} {F : List Tok} {v : Value} {xs : List α} (h : RdA G v xs) : Rd G F v xs := h F
theorem RdA.mk {α : Type} [Enc α] {n : Nat} {W : World} {M : List Nat} {v : Value} {xs : List α} (h : RL W v xs) (hM : ∀ b ∈ vfp v, b ∉ M) : RdA ⟨n, W, M⟩ v xs := fun _ => Rd.arg h hM
theorem rDA {p : Prop} (h : p := by first | exact Rd.ofA (by assumption) | exact Rd.arg0 (by assumption) | exact Rd.own (by repeat (first | exact List.Mem.head _ | apply List.Mem.tail)) | exact Rd.nil) : p := h
theorem oPA {p : Prop} (h : p := by first | exact Op1.move rfl | exact Op1.assign rfl | exact Op1.load rfl (by repeat (first | exact List.Mem.head _ | apply List.Mem.tail)) (by rfl) | exact Op1.loadI rfl (by first | exact Rd.ofA (by assumption) | exact Rd.arg0 (by assumption) | exact Rd.own (by repeat (first | exact List.Mem.head _ | apply List.Mem.tail)) | exact Rd.nil) (by first | omega | (simp only [List.length_cons, List.length_nil, List.length_append, List.length_set, List.length_replicate]; omega)) | exact Op1.loadAll rfl (by repeat (first | exact List.Mem.head _ | apply List.Mem.tail)) (by rfl) | exact Op1.fieldAddr rfl | exact Op1.indexAddr rfl rfl (by first | exact Rd.ofA (by assumption) | exact Rd.arg0 (by assumption) | exact Rd.own (by repeat (first | exact List.Mem.head _ | apply List.Mem.tail)) | exact Rd.nil) (by first | omega | (simp only [List.length_cons, List.length_nil, List.length_append, List.length_set, List.length_replicate]; omega)) | exact Op1.indexAddrZ rfl rfl (by first | exact Rd.ofA (by assumption) | exact Rd.arg0 (by assumption) | exact Rd.own (by repeat (first | exact List.Mem.head _ | apply List.Mem.tail)) | exact Rd.nil) (by first | omega | (simp only [List.length_cons, List.length_nil, List.length_append, List.length_set, List.length_replicate]; omega)) | exact Op1.loadE rfl (by first | exact Rd.ofA (by assumption) | exact Rd.arg0 (by assumption) | exact Rd.own (by repeat (first | exact List.Mem.head _ | apply List.Mem.tail)) | exact Rd.nil) (by first | omega | (simp only [List.length_cons, List.length_nil, List.length_append, List.length_set, List.length_replicate]; omega)) (by rfl) | exact Op1.loadEAgg rfl (by first | exact Rd.ofA (by assumption) | exact Rd.arg0 (by assumption) | exact Rd.own (by repeat (first | exact List.Mem.head _ | apply List.Mem.tail)) | exact Rd.nil) (by first | omega | (simp only [List.length_cons, List.length_nil, List.length_append, List.length_set, List.length_replicate]; omega)) (by rfl) | exact Op1.fieldAddrE rfl (by first | exact Rd.ofA (by assumption) | exact Rd.arg0 (by assumption) | exact Rd.own (by repeat (first | exact List.Mem.head _ | apply List.Mem.tail)) | exact Rd.nil) (by first | omega | (simp only [List.length_cons, List.length_nil, List.length_append, List.length_set, List.length_replicate]; omega)) | exact Op1.len rfl (by first | exact Rd.ofA (by assumption) | exact Rd.arg0 (by assumption) | exact Rd.own (by repeat (first | exact List.Mem.head _ | apply List.Mem.tail)) | exact Rd.nil) | exact Op1.eqI rfl rfl | exact Op1.neI rfl rfl | exact Op1.ltI rfl rfl | exact Op1.leI rfl rfl | exact Op1.gtI rfl rfl | exact Op1.geI rfl rfl | exact Op1.add rfl rfl (by omega) | exact Op1.sub rfl rfl (by omega) | exact Op1.pickT rfl rfl | exact Op1.pickF rfl rfl | exact Op1.extract rfl (by rfl) | exact Op1.notD rfl | exact Op1.not rfl | exact Op1.eqB rfl rfl | exact Op1.neB rfl rfl | exact Op1.bmin rfl rfl | exact Op1.bmax rfl rfl | exact Op1.build (by repeat (first | exact BP.nil | apply BP.agg rfl | apply BP.one rfl (by repeat (first | exact One.nil | refine One.lit rfl ?_ | refine One.lit (by assumption) ?_ | refine One.arg (by assumption) ?_ | refine One.mem (by repeat (first | exact OneM.head isOwn.own | apply OneM.tail)) ?_)))) (by rfl) | exact Op1.nilCheck rfl | exact Op1.xor rfl rfl (by omega) (by omega) | exact Op1.sliceHiZ rfl rfl (by first | exact Rd.ofA (by assumption) | exact Rd.arg0 (by assumption) | exact Rd.own (by repeat (first | exact List.Mem.head _ | apply List.Mem.tail)) | exact Rd.nil) (by first | omega | (simp only [List.length_cons, List.length_nil, List.length_append, List.length_set, List.length_replicate]; omega)) | exact Op1.sliceLo rfl rfl (by first | exact Rd.ofA (by assumption) | exact Rd.arg0 (by assumption) | exact Rd.own (by repeat (first | exact List.Mem.head _ | apply List.Mem.tail)) | exact Rd.nil) (by first | omega | (simp only [List.length_cons, List.length_nil, List.length_append, List.length_set, List.length_replicate]; omega)) | exact Op1.mul rfl rfl (by omega) | exact Op1.quo rfl rfl (by omega) | exact Op1.rem rfl rfl (by omega) | exact Op1.convInt rfl (by kernel_rfl) (by omega)) : p := h
theorem goA {p q : Prop} (h : Wrap q) (k : Wrap q → p := by intro h; (first  | refine WP.seq ?_ | refine WP.block ?_ | refine WP.region ?_ | refine WPL.nil ?_ | refine PE.next ?_  | (refine isMove ?_; first | refine WPL.pure (Op1.move rfl) rfl rfl ?_ | (refine isGuard ?_; refine WPL.skip rfl rfl ?_))  | (refine isAssign ?_; refine WPL.pure (Op1.assign rfl) rfl rfl ?_)  | (refine isLoad ?_; first | refine WPL.pure (Op1.load rfl (by repeat (first | exact List.Mem.head _ | apply List.Mem.tail)) (by rfl)) rfl rfl ?_ | refine WPL.pure (Op1.loadI rfl (by first | exact Rd.ofA (by assumption) | exact Rd.arg0 (by assumption) | exact Rd.own (by repeat (first | exact List.Mem.head _ | apply List.Mem.tail)) | exact Rd.nil) (by first | omega | (simp only [List.length_cons, List.length_nil, List.length_append, List.length_set, List.length_replicate]; omega))) rfl rfl ?_ | refine WPL.pure (Op1.loadAll rfl (by repeat (first | exact List.Mem.head _ | apply List.Mem.tail)) (by rfl)) rfl rfl ?_ | refine WPL.pure (Op1.loadE rfl (by first | exact Rd.ofA (by assumption) | exact Rd.arg0 (by assumption) | exact Rd.own (by repeat (first | exact List.Mem.head _ | apply List.Mem.tail)) | exact Rd.nil) (by first | omega | (simp only [List.length_cons, List.length_nil, List.length_append, List.length_set, List.length_replicate]; omega)) (by rfl)) rfl rfl ?_ | refine WPL.pure (Op1.loadEAgg rfl (by first | exact Rd.ofA (by assumption) | exact Rd.arg0 (by assumption) | exact Rd.own (by repeat (first | exact List.Mem.head _ | apply List.Mem.tail)) | exact Rd.nil) (by first | omega | (simp only [List.length_cons, List.length_nil, List.length_append, List.length_set, List.length_replicate]; omega)) (by rfl)) rfl rfl ?_ | (refine isGuard ?_; refine WPL.skip rfl rfl ?_))  | (refine isFld ?_; first | refine WPL.pure (Op1.fieldAddr rfl) rfl rfl ?_ | refine WPL.pure (Op1.fieldAddrE rfl (by first | exact Rd.ofA (by assumption) | exact Rd.arg0 (by assumption) | exact Rd.own (by repeat (first | exact List.Mem.head _ | apply List.Mem.tail)) | exact Rd.nil) (by first | omega | (simp only [List.length_cons, List.length_nil, List.length_append, List.length_set, List.length_replicate]; omega))) rfl rfl ?_ | (refine isGuard ?_; refine WPL.skip rfl rfl ?_))  | (refine isIdx ?_; first | refine WPL.pure (Op1.indexAddr rfl rfl (by first | exact Rd.ofA (by assumption) | exact Rd.arg0 (by assumption) | exact Rd.own (by repeat (first | exact List.Mem.head _ | apply List.Mem.tail)) | exact Rd.nil) (by first | omega | (simp only [List.length_cons, List.length_nil, List.length_append, List.length_set, List.length_replicate]; omega))) rfl rfl ?_ | refine WPL.pure (Op1.indexAddrZ rfl rfl (by first | exact Rd.ofA (by assumption) | exact Rd.arg0 (by assumption) | exact Rd.own (by repeat (first | exact List.Mem.head _ | apply List.Mem.tail)) | exact Rd.nil) (by first | omega | (simp only [List.length_cons, List.length_nil, List.length_append, List.length_set, List.length_replicate]; omega))) rfl rfl ?_ | (refine isGuard ?_; refine WPL.skip rfl rfl ?_))  | (refine isExt ?_; refine WPL.pure (Op1.extract rfl (by rfl)) rfl rfl ?_)  | (refine isBin ?_; first | refine WPL.pure (Op1.eqI rfl rfl) rfl rfl ?_ | refine WPL.pure (Op1.neI rfl rfl) rfl rfl ?_ | refine WPL.pure (Op1.ltI rfl rfl) rfl rfl ?_ | refine WPL.pure (Op1.leI rfl rfl) rfl rfl ?_ | refine WPL.pure (Op1.gtI rfl rfl) rfl rfl ?_ | refine WPL.pure (Op1.geI rfl rfl) rfl rfl ?_ | refine WPL.pure (Op1.add rfl rfl (by omega)) rfl rfl ?_ | refine WPL.pure (Op1.sub rfl rfl (by omega)) rfl rfl ?_ | refine WPL.pure (Op1.mul rfl rfl (by omega)) rfl rfl ?_ | refine WPL.pure (Op1.quo rfl rfl (by omega)) rfl rfl ?_ | refine WPL.pure (Op1.rem rfl rfl (by omega)) rfl rfl ?_ | refine WPL.pure (Op1.xor rfl rfl (by omega) (by omega)) rfl rfl ?_ | refine WPL.pure (Op1.eqB rfl rfl) rfl rfl ?_ | refine WPL.pure (Op1.neB rfl rfl) rfl rfl ?_ | refine WPL.pure (Op1.eqNil rfl (by first | exact Rd.ofA (by assumption) | exact Rd.arg0 (by assumption) | exact Rd.own (by repeat (first | exact List.Mem.head _ | apply List.Mem.tail)) | exact Rd.nil)) rfl rfl ?_ | (refine isGuard ?_; refine WPL.skip rfl rfl ?_))  | (refine isPick ?_; first | refine WPL.pure (Op1.pickT rfl rfl) rfl rfl ?_ | refine WPL.pure (Op1.pickF rfl rfl) rfl rfl ?_ | (refine isGuard ?_; refine WPL.skip rfl rfl ?_))  | (refine isUn ?_; first | refine WPL.pure (Op1.notD rfl) rfl rfl ?_ | refine WPL.pure (Op1.not rfl) rfl rfl ?_ | refine WPL.pure (Op1.neg rfl (by omega)) rfl rfl ?_ | (refine isGuard ?_; refine WPL.skip rfl rfl ?_))  | (refine isBlt ?_; first | refine WPL.pure (Op1.len rfl (by first | exact Rd.ofA (by assumption) | exact Rd.arg0 (by assumption) | exact Rd.own (by repeat (first | exact List.Mem.head _ | apply List.Mem.tail)) | exact Rd.nil)) rfl rfl ?_ | refine WPL.pure (Op1.bmin rfl rfl) rfl rfl ?_ | refine WPL.pure (Op1.bmax rfl rfl) rfl rfl ?_ | (refine isGuard ?_; refine WPL.skip rfl rfl ?_))  | (refine isBuild ?_; refine WPL.pure (Op1.build (by repeat (first | exact BP.nil | apply BP.agg rfl | apply BP.one rfl (by repeat (first | exact One.nil | refine One.lit rfl ?_ | refine One.lit (by assumption) ?_ | refine One.arg (by assumption) ?_ | refine One.mem (by repeat (first | exact OneM.head isOwn.own | apply OneM.tail)) ?_)))) (by rfl)) rfl rfl ?_) | (refine isStore ?_; first | (refine WPL.eff0 (OpE.store rfl rfl (by first | exact List.Perm.refl _ | exact prm1 | exact prm2 | exact prm3 | exact prm4 | exact prm5 | exact prm6 | exact prm7 | exact prm8 | exact prm9 | exact prm10 | exact prm11 | exact prm12 | exact prm13 | exact prm14 | exact prm15 | exact prd1 | exact prd2 | exact prd3 | exact prd4 | exact prd5 | exact prd6 | exact prd7 | exact prd8 | exact prd9 | exact prd10 | exact prd11) (by rfl) (by repeat (first | exact One.nil | refine One.lit rfl ?_ | refine One.lit (by assumption) ?_ | refine One.arg (by assumption) ?_ | refine One.mem (by repeat (first | exact OneM.head isOwn.own | apply OneM.tail)) ?_))) rfl ?_; rintro _ _ rfl) | (refine WPL.eff0 (OpE.storeAll rfl rfl (by first | exact List.Perm.refl _ | exact prm1 | exact prm2 | exact prm3 | exact prm4 | exact prm5 | exact prm6 | exact prm7 | exact prm8 | exact prm9 | exact prm10 | exact prm11 | exact prm12 | exact prm13 | exact prm14 | exact prm15 | exact prd1 | exact prd2 | exact prd3 | exact prd4 | exact prd5 | exact prd6 | exact prd7 | exact prd8 | exact prd9 | exact prd10 | exact prd11) (by rfl) (by rfl) (by repeat (first | exact One.nil | refine One.lit rfl ?_ | refine One.lit (by assumption) ?_ | refine One.arg (by assumption) ?_ | refine One.mem (by repeat (first | exact OneM.head isOwn.own | apply OneM.tail)) ?_))) rfl ?_; rintro _ _ rfl)) | (refine isConv ?_; first | refine WPL.pure (Op1.convInt rfl (by kernel_rfl) (by omega)) rfl rfl ?_ | (refine isGuard ?_; refine WPL.skip rfl rfl ?_))  | (refine isNil ?_; first | refine WPL.pure (Op1.nilCheck rfl) rfl rfl ?_ | (refine isGuard ?_; refine WPL.skip rfl rfl ?_)) | (refine isSlc ?_; first | refine WPL.pure (Op1.sliceHiZ rfl rfl (by first | exact Rd.ofA (by assumption) | exact Rd.arg0 (by assumption) | exact Rd.own (by repeat (first | exact List.Mem.head _ | apply List.Mem.tail)) | exact Rd.nil) (by first | omega | (simp only [List.length_cons, List.length_nil, List.length_append, List.length_set, List.length_replicate]; omega))) rfl rfl ?_ | refine WPL.pure (Op1.sliceLo rfl rfl (by first | exact Rd.ofA (by assumption) | exact Rd.arg0 (by assumption) | exact Rd.own (by repeat (first | exact List.Mem.head _ | apply List.Mem.tail)) | exact Rd.nil) (by first | omega | (simp only [List.length_cons, List.length_nil, List.length_append, List.length_set, List.length_replicate]; omega))) rfl rfl ?_ | (refine isGuard ?_; refine WPL.skip rfl rfl ?_)) | (refine isGuard ?_; refine WPL.skip rfl rfl ?_) | refine PE.thenRet ?_ | refine PE.thenExit ?_ | refine PE.inBlockRet ?_ | refine PE.inBlockNormal ?_ | refine PE.inBlockSame ?_ | refine PE.inBlockOther rfl ?_  | refine WP.skip ?_ | refine WP.ret ?_ | refine WP.exit ?_ | (refine isCond ?_; first | refine WP.condT rfl ?_ | refine WP.condF rfl ?_)); (repeat (first  | refine WP.seq ?_ | refine WP.block ?_ | refine WP.region ?_ | refine WPL.nil ?_ | refine PE.next ?_  | (refine isMove ?_; first | refine WPL.pure (Op1.move rfl) rfl rfl ?_ | (refine isGuard ?_; refine WPL.skip rfl rfl ?_))  | (refine isAssign ?_; refine WPL.pure (Op1.assign rfl) rfl rfl ?_)  | (refine isLoad ?_; first | refine WPL.pure (Op1.load rfl (by repeat (first | exact List.Mem.head _ | apply List.Mem.tail)) (by rfl)) rfl rfl ?_ | refine WPL.pure (Op1.loadI rfl (by first | exact Rd.ofA (by assumption) | exact Rd.arg0 (by assumption) | exact Rd.own (by repeat (first | exact List.Mem.head _ | apply List.Mem.tail)) | exact Rd.nil) (by first | omega | (simp only [List.length_cons, List.length_nil, List.length_append, List.length_set, List.length_replicate]; omega))) rfl rfl ?_ | refine WPL.pure (Op1.loadAll rfl (by repeat (first | exact List.Mem.head _ | apply List.Mem.tail)) (by rfl)) rfl rfl ?_ | refine WPL.pure (Op1.loadE rfl (by first | exact Rd.ofA (by assumption) | exact Rd.arg0 (by assumption) | exact Rd.own (by repeat (first | exact List.Mem.head _ | apply List.Mem.tail)) | exact Rd.nil) (by first | omega | (simp only [List.length_cons, List.length_nil, List.length_append, List.length_set, List.length_replicate]; omega)) (by rfl)) rfl rfl ?_ | refine WPL.pure (Op1.loadEAgg rfl (by first | exact Rd.ofA (by assumption) | exact Rd.arg0 (by assumption) | exact Rd.own (by repeat (first | exact List.Mem.head _ | apply List.Mem.tail)) | exact Rd.nil) (by first | omega | (simp only [List.length_cons, List.length_nil, List.length_append, List.length_set, List.length_replicate]; omega)) (by rfl)) rfl rfl ?_ | (refine isGuard ?_; refine WPL.skip rfl rfl ?_))  | (refine isFld ?_; first | refine WPL.pure (Op1.fieldAddr rfl) rfl rfl ?_ | refine WPL.pure (Op1.fieldAddrE rfl (by first | exact Rd.ofA (by assumption) | exact Rd.arg0 (by assumption) | exact Rd.own (by repeat (first | exact List.Mem.head _ | apply List.Mem.tail)) | exact Rd.nil) (by first | omega | (simp only [List.length_cons, List.length_nil, List.length_append, List.length_set, List.length_replicate]; omega))) rfl rfl ?_ | (refine isGuard ?_; refine WPL.skip rfl rfl ?_))  | (refine isIdx ?_; first | refine WPL.pure (Op1.indexAddr rfl rfl (by first | exact Rd.ofA (by assumption) | exact Rd.arg0 (by assumption) | exact Rd.own (by repeat (first | exact List.Mem.head _ | apply List.Mem.tail)) | exact Rd.nil) (by first | omega | (simp only [List.length_cons, List.length_nil, List.length_append, List.length_set, List.length_replicate]; omega))) rfl rfl ?_ | refine WPL.pure (Op1.indexAddrZ rfl rfl (by first | exact Rd.ofA (by assumption) | exact Rd.arg0 (by assumption) | exact Rd.own (by repeat (first | exact List.Mem.head _ | apply List.Mem.tail)) | exact Rd.nil) (by first | omega | (simp only [List.length_cons, List.length_nil, List.length_append, List.length_set, List.length_replicate]; omega))) rfl rfl ?_ | (refine isGuard ?_; refine WPL.skip rfl rfl ?_))  | (refine isExt ?_; refine WPL.pure (Op1.extract rfl (by rfl)) rfl rfl ?_)  | (refine isBin ?_; first | refine WPL.pure (Op1.eqI rfl rfl) rfl rfl ?_ | refine WPL.pure (Op1.neI rfl rfl) rfl rfl ?_ | refine WPL.pure (Op1.ltI rfl rfl) rfl rfl ?_ | refine WPL.pure (Op1.leI rfl rfl) rfl rfl ?_ | refine WPL.pure (Op1.gtI rfl rfl) rfl rfl ?_ | refine WPL.pure (Op1.geI rfl rfl) rfl rfl ?_ | refine WPL.pure (Op1.add rfl rfl (by omega)) rfl rfl ?_ | refine WPL.pure (Op1.sub rfl rfl (by omega)) rfl rfl ?_ | refine WPL.pure (Op1.mul rfl rfl (by omega)) rfl rfl ?_ | refine WPL.pure (Op1.quo rfl rfl (by omega)) rfl rfl ?_ | refine WPL.pure (Op1.rem rfl rfl (by omega)) rfl rfl ?_ | refine WPL.pure (Op1.xor rfl rfl (by omega) (by omega)) rfl rfl ?_ | refine WPL.pure (Op1.eqB rfl rfl) rfl rfl ?_ | refine WPL.pure (Op1.neB rfl rfl) rfl rfl ?_ | refine WPL.pure (Op1.eqNil rfl (by first | exact Rd.ofA (by assumption) | exact Rd.arg0 (by assumption) | exact Rd.own (by repeat (first | exact List.Mem.head _ | apply List.Mem.tail)) | exact Rd.nil)) rfl rfl ?_ | (refine isGuard ?_; refine WPL.skip rfl rfl ?_))  | (refine isPick ?_; first | refine WPL.pure (Op1.pickT rfl rfl) rfl rfl ?_ | refine WPL.pure (Op1.pickF rfl rfl) rfl rfl ?_ | (refine isGuard ?_; refine WPL.skip rfl rfl ?_))  | (refine isUn ?_; first | refine WPL.pure (Op1.notD rfl) rfl rfl ?_ | refine WPL.pure (Op1.not rfl) rfl rfl ?_ | refine WPL.pure (Op1.neg rfl (by omega)) rfl rfl ?_ | (refine isGuard ?_; refine WPL.skip rfl rfl ?_))  | (refine isBlt ?_; first | refine WPL.pure (Op1.len rfl (by first | exact Rd.ofA (by assumption) | exact Rd.arg0 (by assumption) | exact Rd.own (by repeat (first | exact List.Mem.head _ | apply List.Mem.tail)) | exact Rd.nil)) rfl rfl ?_ | refine WPL.pure (Op1.bmin rfl rfl) rfl rfl ?_ | refine WPL.pure (Op1.bmax rfl rfl) rfl rfl ?_ | (refine isGuard ?_; refine WPL.skip rfl rfl ?_))  | (refine isBuild ?_; refine WPL.pure (Op1.build (by repeat (first | exact BP.nil | apply BP.agg rfl | apply BP.one rfl (by repeat (first | exact One.nil | refine One.lit rfl ?_ | refine One.lit (by assumption) ?_ | refine One.arg (by assumption) ?_ | refine One.mem (by repeat (first | exact OneM.head isOwn.own | apply OneM.tail)) ?_)))) (by rfl)) rfl rfl ?_) | (refine isStore ?_; first | (refine WPL.eff0 (OpE.store rfl rfl (by first | exact List.Perm.refl _ | exact prm1 | exact prm2 | exact prm3 | exact prm4 | exact prm5 | exact prm6 | exact prm7 | exact prm8 | exact prm9 | exact prm10 | exact prm11 | exact prm12 | exact prm13 | exact prm14 | exact prm15 | exact prd1 | exact prd2 | exact prd3 | exact prd4 | exact prd5 | exact prd6 | exact prd7 | exact prd8 | exact prd9 | exact prd10 | exact prd11) (by rfl) (by repeat (first | exact One.nil | refine One.lit rfl ?_ | refine One.lit (by assumption) ?_ | refine One.arg (by assumption) ?_ | refine One.mem (by repeat (first | exact OneM.head isOwn.own | apply OneM.tail)) ?_))) rfl ?_; rintro _ _ rfl) | (refine WPL.eff0 (OpE.storeAll rfl rfl (by first | exact List.Perm.refl _ | exact prm1 | exact prm2 | exact prm3 | exact prm4 | exact prm5 | exact prm6 | exact prm7 | exact prm8 | exact prm9 | exact prm10 | exact prm11 | exact prm12 | exact prm13 | exact prm14 | exact prm15 | exact prd1 | exact prd2 | exact prd3 | exact prd4 | exact prd5 | exact prd6 | exact prd7 | exact prd8 | exact prd9 | exact prd10 | exact prd11) (by rfl) (by rfl) (by repeat (first | exact One.nil | refine One.lit rfl ?_ | refine One.lit (by assumption) ?_ | refine One.arg (by assumption) ?_ | refine One.mem (by repeat (first | exact OneM.head isOwn.own | apply OneM.tail)) ?_))) rfl ?_; rintro _ _ rfl)) | (refine isConv ?_; first | refine WPL.pure (Op1.convInt rfl (by kernel_rfl) (by omega)) rfl rfl ?_ | (refine isGuard ?_; refine WPL.skip rfl rfl ?_))  | (refine isNil ?_; first | refine WPL.pure (Op1.nilCheck rfl) rfl rfl ?_ | (refine isGuard ?_; refine WPL.skip rfl rfl ?_)) | (refine isSlc ?_; first | refine WPL.pure (Op1.sliceHiZ rfl rfl (by first | exact Rd.ofA (by assumption) | exact Rd.arg0 (by assumption) | exact Rd.own (by repeat (first | exact List.Mem.head _ | apply List.Mem.tail)) | exact Rd.nil) (by first | omega | (simp only [List.length_cons, List.length_nil, List.length_append, List.length_set, List.length_replicate]; omega))) rfl rfl ?_ | refine WPL.pure (Op1.sliceLo rfl rfl (by first | exact Rd.ofA (by assumption) | exact Rd.arg0 (by assumption) | exact Rd.own (by repeat (first | exact List.Mem.head _ | apply List.Mem.tail)) | exact Rd.nil) (by first | omega | (simp only [List.length_cons, List.length_nil, List.length_append, List.length_set, List.length_replicate]; omega))) rfl rfl ?_ | (refine isGuard ?_; refine WPL.skip rfl rfl ?_)) | (refine isGuard ?_; refine WPL.skip rfl rfl ?_) | refine PE.thenRet ?_ | refine PE.thenExit ?_ | refine PE.inBlockRet ?_ | refine PE.inBlockNormal ?_ | refine PE.inBlockSame ?_ | refine PE.inBlockOther rfl ?_  | refine WP.skip ?_ | refine WP.ret ?_ | refine WP.exit ?_ | (refine isCond ?_; first | refine WP.condT rfl ?_ | refine WP.condF rfl ?_))); exact h.out) : p := k h
end Go.Proofs.Ytfigegmgopnfhaa
/- More rules: drawn regions, equality of structs, halves. Conditions: none. -/
namespace Go.Proofs.Ytfigegmgopnfhaa
open Go

section
variable {P : Program} {G : Ctx} {l : List (Nat × Value)} {F : List Tok} {Q : Exit → Act → World → Prop}

theorem WPD.splitD {Fs : List Tok} {ops : Array Oper} {fuel : Nat} {listed : Array Bool} (d : Nat) {p : Prop} [Decidable p] (hb : lk l d = some (.bool (decide p)))
    (ht : p → WPD P G Fs ops fuel listed ((d, .bool true) :: l) F Q) (hf : ¬p → WPD P G Fs ops fuel listed ((d, .bool false) :: l) F Q) :
    WPD P G Fs ops fuel listed l F Q := WPD.split d hb (fun h => ht (of_decide_eq_true h)) (fun h => hf (of_decide_eq_false h))

theorem WPD.skip0 {Fs : List Tok} {ops : Array Oper} {fuel : Nat} {listed : Array Bool} (i : Nat) {op : Op} {ty : TypeId} {pos : String} {after : Array Edge} {g : Option (Nat × Bool)}
    (hr : Region.ready .any ops listed = [i]) (hi : ops[i]? = some ⟨none, op, ty, pos, after, g⟩) (hg : asked ops l g = some false) (hsub : SubT Fs F)
    (k : WPD P G Fs ops fuel (listed.setIfInBounds i true) l F Q) : WPD P G Fs ops (fuel + 1) listed l F Q :=
  WPD.ready [i] hr (by simp) fun j hj => by
    simp only [List.mem_singleton] at hj; subst hj
    intro a w ha hw
    unfold wpOp
    simp only [hi]
    have hwt := asked_wanted (o := ⟨none, op, ty, pos, after, g⟩) ha hg
    rw [if_neg (by simp [hwt])]
    exact ⟨hw.sub hsub, k a w ha hw⟩

/-! ### Several tokens, in any places -/
theorem perm2 {s t : Tok} {F F1 F2 : List Tok} (h1 : F.Perm (s :: F1)) (h2 : F1.Perm (t :: F2)) : F.Perm ([s, t] ++ F2) := h1.trans (h2.cons s)
theorem perm3 {s t u : Tok} {F F1 F2 F3 : List Tok} (h1 : F.Perm (s :: F1)) (h2 : F1.Perm (t :: F2)) (h3 : F2.Perm (u :: F3)) : F.Perm ([s, t, u] ++ F3) := h1.trans ((perm2 h2 h3).cons s)
theorem perm4 {s t u v : Tok} {F F1 F2 F3 F4 : List Tok} (h1 : F.Perm (s :: F1)) (h2 : F1.Perm (t :: F2)) (h3 : F2.Perm (u :: F3)) (h4 : F3.Perm (v :: F4)) : F.Perm ([s, t, u, v] ++ F4) := h1.trans ((perm3 h2 h3 h4).cons s)
theorem pM2 {p : Prop} (h : p := by first | exact pM | exact perm2 pM pM | exact perm3 pM pM pM | exact perm4 pM pM pM pM) : p := h

/-! ### '==' of two structs of two ints -/
def eq2B (P : Program) (t : TypeId) : Bool :=
  (match P.underlying t with
   | some (.struct fs) => match fs.toList with
     | [f0, f1] => f0.name != "_" && f1.name != "_" && Nat.beq f0.offset 0 && Nat.beq f1.offset 1 && intB P f0.type && intB P f1.type
     | _ => false
   | _ => false) && !P.stoodInHeld t && !P.eqGuardType P.depth t
class TEq2 (P : Program) (t : TypeId) : Prop where
  out : eq2B P t = true

theorem run_part_int {t : TypeId} {k : IntKind} (ht : P.underlying t = some (.int k)) {cs : Array Value} {o : Nat} {v : Value} (hv : cs[o]? = some v) (w : World) : (part t cs o).run P w = .ok v w := by
  simp [part, isAgg, run_underlying ht, hv]

theorem run_eq2 {t : TypeId} (h : eq2B P t = true) (d : Nat) (a b c e : Int) (w : World) :
    (Op.equalIn (d + 2) t (.agg #[.int .i64 a, .int .i64 b]) (.agg #[.int .i64 c, .int .i64 e])).run P w = .ok (decide (a = c ∧ b = e)) w := by
  unfold eq2B at h
  simp only [Bool.and_eq_true] at h
  obtain ⟨⟨h1, h2⟩, h3⟩ := h
  have hp : P.stoodInHeld t = false := by simpa using h2
  cases hu : P.underlying t with
  | none => rw [hu] at h1; simp at h1
  | some dd =>
    rw [hu] at h1
    cases dd with
    | struct fs =>
      simp only at h1
      cases hf : fs.toList with
      | nil => rw [hf] at h1; simp at h1
      | cons f0 r =>
        cases r with
        | nil => rw [hf] at h1; simp at h1
        | cons f1 r =>
          cases r with
          | cons => rw [hf] at h1; simp at h1
          | nil =>
            rw [hf] at h1
            simp only [Bool.and_eq_true] at h1
            obtain ⟨⟨⟨⟨⟨n0, n1⟩, o0⟩, o1⟩, i0⟩, i1⟩ := h1
            obtain ⟨k0, i0⟩ := (TInt.of i0).out
            obtain ⟨k1, i1⟩ := (TInt.of i1).out
            have o0 := Nat.eq_of_beq_eq_true o0
            have o1 := Nat.eq_of_beq_eq_true o1
            have hS : P.underlying t = some (.struct (P.fieldsOf t)) := by rw [hu]; simp [Program.fieldsOf, hu]
            have hfl : (P.fieldsOf t).toList = [f0, f1] := by simp [Program.fieldsOf, hu, hf]
            rw [show d + 2 = (d + 1) + 1 from rfl, run_equalIn_struct w (d + 1) t _ _ hS hp, hfl]
            have n0' : f0.name ≠ "_" := by simpa using n0
            have n1' : f1.name ≠ "_" := by simpa using n1
            have p0 : ∀ (x y : Value) w, (part f0.type #[x, y] f0.offset).run P w = .ok x w := fun x y w => run_part_int i0 (by rw [o0]; rfl) w
            have p1 : ∀ (x y : Value) w, (part f1.type #[x, y] f1.offset).run P w = .ok y w := fun x y w => run_part_int i1 (by rw [o1]; rfl) w
            simp only [Op.eqFields, if_pos n0', if_pos n1', Sem.run_bind, p0, p1, Result.andThen_ok, run_equalIn_int w d f0.type .i64 k0 _ _ i0, run_equalIn_int w d f1.type .i64 k1 _ _ i1]
            by_cases e1 : a = c <;> by_cases e2 : b = e <;> simp [e1, e2, p1, run_equalIn_int w d f1.type .i64 k1 _ _ i1]
    | _ => simp at h1

theorem E.eq_iff {a b c d : Int} : ((⟨a, b⟩ : E) = ⟨c, d⟩) ↔ a = c ∧ b = d := by simp
theorem Op1.eqE {t u : TypeId} [ht : TEq2 P t] {x y : Operand} {a b c d : Int} (hx : look l x = some (.agg #[.int .i64 a, .int .i64 b])) (hy : look l y = some (.agg #[.int .i64 c, .int .i64 d])) :
    Op1 P G (.binOp .eql t x y u) l F (.bool (decide ((⟨a, b⟩ : E) = ⟨c, d⟩))) := fun o ho z w hc _ => by
  have h := ht.out
  have hg : P.eqGuardType P.depth t = false := by unfold eq2B at h; simp only [Bool.and_eq_true] at h; simpa using h.2
  have e : decide ((⟨a, b⟩ : E) = ⟨c, d⟩) = decide (a = c ∧ b = d) := by rw [decide_eq_decide, E.eq_iff]
  simp only [execOp, ho, hc.eval hx, hc.eval hy, Sem.run_bind, run_eqGuard_agg w .eql t x y _ _ hg, Result.andThen_ok, run_eql_struct]
  rw [show (10000 : Nat) = 9998 + 2 from rfl, run_eq2 h 9998, e]
  rfl
theorem Op1.neE {t u : TypeId} [ht : TEq2 P t] {x y : Operand} {a b c d : Int} (hx : look l x = some (.agg #[.int .i64 a, .int .i64 b])) (hy : look l y = some (.agg #[.int .i64 c, .int .i64 d])) :
    Op1 P G (.binOp .neq t x y u) l F (.bool (decide ((⟨a, b⟩ : E) ≠ ⟨c, d⟩))) := fun o ho z w hc _ => by
  have h := ht.out
  have hg : P.eqGuardType P.depth t = false := by unfold eq2B at h; simp only [Bool.and_eq_true] at h; simpa using h.2
  have e : decide ((⟨a, b⟩ : E) ≠ ⟨c, d⟩) = !decide (a = c ∧ b = d) := by
    rw [← decide_not, decide_eq_decide, ne_eq, E.eq_iff]
  simp only [execOp, ho, hc.eval hx, hc.eval hy, Sem.run_bind, run_eqGuard_agg w .neq t x y _ _ hg, Result.andThen_ok, run_neq_struct]
  rw [show (10000 : Nat) = 9998 + 2 from rfl, run_eq2 h 9998, e]
  rfl

/-! ### Halves, as the library's searches take them -/
theorem Op1.convU {s d : TypeId} [hs : TInt P s] {x : Operand} {n : Int} (hx : look l x = some (.int .i64 n)) (hd : P.underlying d = some (.int .u64)) (h : 0 ≤ n ∧ n ≤ 9223372036854775807) :
    Op1 P G (.convert s d x) l F (.int .u64 n) := fun o ho c w hc _ => by
  obtain ⟨k', h1⟩ := hs.out
  have e : IntKind.u64.wrap n = n := by
    simp only [IntKind.wrap, IntKind.bits, IntKind.signed]
    try simp
    omega
  simp [execOp, ho, hc.eval hx, convert, run_underlying h1, run_underlying hd, Conv.intToInt, e]
theorem Op1.shr1 {t u : TypeId} {x : Operand} {n : Int} (hx : look l x = some (.int .u64 n)) (h : 0 ≤ n ∧ n ≤ 9223372036854775807) :
    Op1 P G (.binOp .shr t x (.const (.int .u64 1)) u) l F (.int .u64 (n / 2)) := fun o ho c w hc _ => by
  have hn : c.eval (.const (.int .u64 1)) = .int .u64 1 := rfl
  have e : Op.shift .shr .u64 n .u64 1 = pure (.int .u64 (n / 2)) := by
    rw [shift_shr_any _ _ _ _ (by omega)]
    simp [IntKind.bits]
  simp [execOp, ho, hc.eval hx, hn, eqGuard_shr, binOp_shr, e]
end
end Go.Proofs.Ytfigegmgopnfhaa
/- More instances on the types of this seat's program (printed by gentypes.py). Conditions: none. -/
namespace Go.Proofs.Ytfigegmgopnfhaa
open Go
instance : TEq2 Try.prog 43 := ⟨by kernel_rfl⟩
instance : TEq2 Try.prog 99 := ⟨by kernel_rfl⟩
instance : TScal Try.prog 146 := .of (by kernel_rfl)
instance : TInt Try.prog 146 := .of (by kernel_rfl)
instance : TZero Try.prog 146 [.int .u64 0] := .of (by kernel_rfl)
instance : TEq2 Try.prog 165 := ⟨by kernel_rfl⟩
end Go.Proofs.Ytfigegmgopnfhaa
/- Rules for memory that is looked at cell by cell: copy, append of zeros, slices of a known block. Conditions: none. -/
namespace Go.Proofs.Ytfigegmgopnfhaa
open Go

section
variable {P : Program} {G : Ctx} {l : List (Nat × Value)} {F : List Tok} {Q : Exit → Act → World → Prop} {α : Type} [Enc α]

theorem WP.unown {c : Code} {v : Value} {xs : List α} {F0 : List Tok} (hp : F.Perm (Tok.own v xs :: F0)) (hnil : v = .slice none 0 0 → xs = [] → WP P G c l F Q)
    (h : ∀ b cap (post : List Value), v = .slice (some ⟨b, 0, none⟩) xs.length cap → xs.length ≤ cap → cap ≤ maxLen → cap * Enc.sz α = (encs xs ++ post).length → WP P G c l (Tok.blk b (encs xs ++ post) :: F0) Q) :
    WP P G c l F Q := fun a w ha hw => by
  have hown := (hw.perm hp).own (v := v) (xs := xs) (by simp)
  rcases hown.2 with ⟨h1, h2⟩ | ⟨b, cap, post, h1, h2, h3, h4, h5⟩
  · exact hnil h1 (List.eq_nil_of_length_eq_zero h2) a w ha hw
  · refine h b cap post h1 h2 h3 h4 a w ha ?_
    have hs := hw.perm hp
    refine ⟨?_, ?_, ?_, hs.keep, hs.size, hs.os, hs.tape, hs.output⟩
    · have := hs.nodup; simpa [Tok.own, Tok.blk, h1, vfp] using this
    · intro t ht
      rcases List.mem_cons.1 ht with rfl | ht
      · exact h5
      · exact hs.holds t (by simp [ht])
    · have := hs.base; simpa [Tok.own, Tok.blk, h1, vfp] using this

theorem PE.reown {e : Exit} {b cap : Nat} {cells post : List Value} (xs : List α) {F0 : List Tok} (hp : F.Perm (Tok.blk b cells :: F0)) (hc : cells = encs xs ++ post) (hn : xs.length ≤ cap) (hm : cap ≤ maxLen)
    (hz : cap * Enc.sz α = cells.length) (h : PE G e l (Tok.own (.slice (some ⟨b, 0, none⟩) xs.length cap) xs :: F0) Q) : PE G e l F Q := fun a w ha hw => by
  have hs := hw.perm hp
  have hb := hs.blk (b := b) (cs := cells) (by simp)
  refine h a w ha ⟨?_, ?_, ?_, hs.keep, hs.size, hs.os, hs.tape, hs.output⟩
  · have := hs.nodup; simpa [Tok.own, Tok.blk, vfp] using this
  · intro t ht
    rcases List.mem_cons.1 ht with rfl | ht
    · exact ⟨encs_length xs, .inr ⟨b, cap, post, rfl, hn, hm, by rw [hz, hc], hc ▸ hb⟩⟩
    · exact hs.holds t (by simp [ht])
  · have := hs.base; simpa [Tok.own, Tok.blk, vfp] using this

/-- A call of a function value. -/
theorem OpE.callC (vs caps : List Value) {fx : Operand} {fid : FuncId} {xs : List Operand} {at_ : Array TypeId} {T T0 : List Tok} {post : Value → List Tok → Prop} [TFun P fid]
    (hfx : look l fx = some (.func (.func fid) #[] caps.toArray)) (hxs : looks l xs vs) (hp : F.Perm (T ++ T0)) (ht : ∀ w, St G.W G.M F w → Tri P fid (vs ++ caps) w T post) :
    OpE P G (.call { callee := .value fx, args := xs.toArray, argTypes := at_ }) l F fun v F' => ∃ T', post v T' ∧ F' = T' ++ T0 := OpE.callV hfx hxs hp ht

/-! ### A slice value that is known whole -/
theorem Op1.lenR {t e : TypeId} (h1 : P.underlying t = some (.slice e)) {x : Operand} {s : Option Addr} {n c : Nat} (hx : look l x = some (.slice s n c)) :
    Op1 P G (.call { callee := .builtin .len, args := #[x], argTypes := #[t] }) l F (.int .i64 n) := fun o ho w' w hc hw => by
  simp [execOp, ho, hc.eval hx, resolve, invoke, builtin, Builtin.len_, run_underlying h1, Builtin.lenOf, goInt]
theorem Op1.capR {t e : TypeId} (h1 : P.underlying t = some (.slice e)) {x : Operand} {s : Option Addr} {n c : Nat} (hx : look l x = some (.slice s n c)) :
    Op1 P G (.call { callee := .builtin .cap, args := #[x], argTypes := #[t] }) l F (.int .i64 c) := fun o ho w' w hc hw => by
  simp [execOp, ho, hc.eval hx, resolve, invoke, builtin, Builtin.cap_, run_underlying h1, goInt]
theorem Op1.sliceLoR {t : TypeId} [ht : TSlice P t α] {x y : Operand} {b off n c : Nat} {i : Int} (hx : look l x = some (.slice (some ⟨b, off, none⟩) n c)) (hy : look l y = some (.int .i64 i)) (hi : 0 ≤ i ∧ i ≤ n) :
    Op1 P G (.slice t x (some y) none none) l F (.slice (some ⟨b, if c = i.toNat then off else off + i.toNat * Enc.sz α, none⟩) (n - i.toNat) (c - i.toNat)) := fun o ho w' w hc hw => by
  obtain ⟨e, ii, z, h1, h2, h3, _⟩ := ht.out
  obtain ⟨j, rfl⟩ : ∃ j : Nat, i = j := ⟨i.toNat, by omega⟩
  have hle : (j : Int) ≤ (n : Int) := hi.2
  have hle' : j ≤ n := by omega
  by_cases hcn : c = j <;>
  simp [execOp, ho, hc.eval hx, hc.eval hy, Instr.sliceAt, run_underlying h1, Instr.slice, Instr.sliceBounds, Instr.sliceBound, asIntOf, hle, hle', run_sizeOf' h2, addr_add, h3, hcn]
theorem Op1.sliceHiR {t : TypeId} [ht : TSlice P t α] {x y : Operand} {b off n c : Nat} {i : Int} (hx : look l x = some (.slice (some ⟨b, off, none⟩) n c)) (hy : look l y = some (.int .i64 i)) (hi : 0 ≤ i ∧ i ≤ c) :
    Op1 P G (.slice t x none (some y) none) l F (.slice (some ⟨b, off, none⟩) i.toNat c) := fun o ho w' w hc hw => by
  obtain ⟨e, ii, z, h1, h2, h3, _⟩ := ht.out
  obtain ⟨j, rfl⟩ : ∃ j : Nat, i = j := ⟨i.toNat, by omega⟩
  have hle : (j : Int) ≤ (c : Int) := hi.2
  have hle' : j ≤ c := by omega
  simp [execOp, ho, hc.eval hx, hc.eval hy, Instr.sliceAt, run_underlying h1, Instr.slice, Instr.sliceBounds, Instr.sliceBound, asIntOf, hle, hle', run_sizeOf' h2, addr_add]

/-! ### copy -/
theorem run_copy_rowN (w : World) (dT sT ty elem : TypeId) (g o dLen dCap : Nat) (a : Addr) (sLen sCap : Nat) (cur : Array Value) (t : TypeId) (cs : List Value) {i : TypeInfo}
    (hu : P.underlying dT = some (.slice elem)) (hi : P.info? elem = some i)
    (hg : w.heap[g]? = some (.cells cur t (0, 0))) (hn : cs.length = Nat.min sLen dLen * i.size)
    (hsrc : ∀ j v, cs[j]? = some v → w.cell? (a.add j) = some v) (hfit : o + cs.length ≤ cur.size) (h1 : ∀ v ∈ cs, v.oneCell' = true) :
    (Builtin.copy_ #[dT, sT] ty #[.slice (some ⟨g, o, none⟩) dLen dCap, .slice (some a) sLen sCap]).run P w =
      .ok (goInt (Nat.min sLen dLen)) (w.setRow g (cur.toList.take o ++ cs ++ cur.toList.drop (o + cs.length)).toArray) := by
  have hl := run_loadCells_list (P := P) w a cs hsrc
  have hst := run_storeCells_at P g o t cs 0 cur w hg (by simpa using hfit) h1
  simp [Builtin.copy_, run_underlying hu, Builtin.lenOf, Builtin.firstCells, sizeOf, typeInfo, hi, ← hn, hl, hst]

/-- copy(dst, src) of k elements: us are the cells that are copied; they lie in a known block (the target's own, too). -/
theorem OpE.copyR {dT sT : TypeId} [ht : TSlice P dT α] {x y : Operand} {b o dn dc b2 o2 sn sc : Nat} {cells cells2 us : List Value} {F0 : List Tok}
    (hx : look l x = some (.slice (some ⟨b, o, none⟩) dn dc)) (hy : look l y = some (.slice (some ⟨b2, o2, none⟩) sn sc)) (hp : F.Perm (Tok.blk b cells :: F0)) (h2 : Tok.blk b2 cells2 ∈ F)
    (hn : us.length = Nat.min sn dn * Enc.sz α) (hs : ∀ (j : Nat) (u : Value), us[j]? = some u → cells2[o2 + j]? = some u) (hfit : o + us.length ≤ cells.length) (h1 : ∀ u ∈ us, u.oneCell' = true) :
    OpE P G (.call { callee := .builtin .copy, args := #[x, y], argTypes := #[dT, sT] }) l F fun v F' => v = .int .i64 (Nat.min sn dn : Nat) ∧ F' = Tok.blk b (cells.take o ++ us ++ cells.drop (o + us.length)) :: F0 :=
  OpE.of_run (T := [Tok.blk b cells]) (T0 := F0) hp fun o' ho a w ha hw => by
    obtain ⟨e, i, z, e1, e2, e3, _⟩ := ht.out
    have hb := hw.blk (b := b) (cs := cells) (by simp)
    have hb2 := (hw.perm hp.symm).blk h2
    obtain ⟨et, hg⟩ := hb
    have hr := run_copy_rowN (P := P) w dT sT o'.type e b o dn dc ⟨b2, o2, none⟩ sn sc cells.toArray et us e1 e2 hg (by rw [hn, e3])
      (fun (j : Nat) (u : Value) (hu : us[j]? = some u) => by rw [addr_add, blkAt_cell hb2]; exact hs j u hu) (by simpa using hfit) h1
    refine ⟨_, w.setRow b (cells.take o ++ us ++ cells.drop (o + us.length)).toArray, [Tok.blk b (cells.take o ++ us ++ cells.drop (o + us.length))], .inl ?_, upd_row ⟨et, hg⟩ _, rfl, rfl⟩
    simp [execOp, ho, resolve, invoke, builtin, ha.eval hx, ha.eval hy, hr, goInt]

/-! ### append(s[:m], make([]T, k)...) where there is no room -/
theorem OpE.appendZ {t tn : TypeId} [ht : TSlice P t α] [hk : TInt P tn] {x y : Operand} {b m c k : Nat} {kk : Int} {olds cells : List Value} (hx : look l x = some (.slice (some ⟨b, 0, none⟩) m c)) (hy : look l y = some (.int .i64 kk)) (hkk : kk = k)
    (hb : Tok.blk b cells ∈ F) (ho : olds.length = m * Enc.sz α) (hs : ∀ (j : Nat) (u : Value), olds[j]? = some u → cells[j]? = some u) (h0 : 0 < k) (hroom : c < m + k) (hsm : m + k ≤ 1099511627776) :
    OpE P G (.call { callee := .builtin .append, args := #[x, y], argTypes := #[t, tn] }) l F fun v F' => ∃ (b' cap : Nat) (Z : List Value), v = .slice (some ⟨b', 0, none⟩) (m + k) cap ∧ m + k ≤ cap ∧ cap ≤ maxLen ∧ cap * Enc.sz α = (olds ++ Z).length ∧ F' = Tok.blk b' (olds ++ Z) :: F :=
  OpE.of_run (T := []) (T0 := F) (by simp) fun o' ho' a w ha hw => by
    obtain ⟨e, i, z, h1, h2, h3, h4, h5, h6⟩ := ht.out
    obtain ⟨kn, hkn⟩ := hk.out
    subst hkk
    have hb64 : i.bytes ≤ 64 := Nat.le_of_ble_eq_true h4
    have hzs : z.cells.size = Enc.sz α := by rw [h6, List.size_toArray, Enc.len]
    have hbk := hw.blk hb
    have hm1 : (m + k) * i.bytes ≤ 140737488355328 := Nat.le_trans (Nat.mul_le_mul hsm hb64) (by decide)
    have hmx : m + k ≤ maxLen := by simp only [maxLen]; omega
    have hold : (Builtin.firstCells i.size m (.slice (some ⟨b, 0, none⟩) m c)).run P w.drew = .ok olds.toArray w.drew :=
      run_firstCells_some (P := P) w.drew i.size m ⟨b, 0, none⟩ m c olds (by rw [ho, h3]) (fun (j : Nat) (u : Value) (hu : olds[j]? = some u) => by
        rw [addr_add, Nat.zero_add]
        have := blkAt_cell (i := j) hbk
        have e1 := hs j u hu
        rw [e1] at this
        exact this)
    have hkb : k * i.bytes ≤ 281474976710656 := by
      have : k * i.bytes ≤ (m + k) * i.bytes := Nat.mul_le_mul_right _ (by omega)
      omega
    have hrun := Lib.run_append_grow_zeros (P := P) w t tn o'.type e i z .i64 kn h1 hkn h2 h5 (some ⟨b, 0, none⟩) m c olds hold k h0 (by rw [h3]; exact Enc.pos) hroom (by simp only [maxLen] at hmx; omega) hkb
      (growslice_fits (by omega) hm1)
    have hge := grownCap_ge w (m + k) c e
    obtain ⟨W', hW'⟩ : ∃ W', W' = w.drew.alloc (.cells (olds.toArray ++ Builtin.zeroCells z.cells k ++ Builtin.zeroCells z.cells (grownCap w (m + k) c e - (m + k))) e) := ⟨_, rfl⟩
    rw [← hW'] at hrun
    refine ⟨.slice (some ⟨w.heap.size, 0, none⟩) (m + k) (grownCap w (m + k) c e), W', [Tok.blk w.heap.size (olds ++ ((Builtin.zeroCells z.cells k).toList ++ (Builtin.zeroCells z.cells (grownCap w (m + k) c e - (m + k))).toList))], .inl (by simp [execOp, ho', resolve, invoke, builtin, ha.eval hx, ha.eval hy, hrun]), ?_, _, _, _, rfl, hge, grownCap_le_maxLen w _ c e hmx, ?_, rfl⟩
    · subst hW'
      have u := upd_new w.drew (olds ++ ((Builtin.zeroCells z.cells k).toList ++ (Builtin.zeroCells z.cells (grownCap w (m + k) c e - (m + k))).toList)) e
      have ea : (olds ++ ((Builtin.zeroCells z.cells k).toList ++ (Builtin.zeroCells z.cells (grownCap w (m + k) c e - (m + k))).toList)).toArray = olds.toArray ++ Builtin.zeroCells z.cells k ++ Builtin.zeroCells z.cells (grownCap w (m + k) c e - (m + k)) := by
        apply Array.ext'; simp
      rw [ea] at u
      refine ⟨u.nodup, u.holds, u.base, u.keep, u.size, u.os, u.tape, u.output⟩
    · rw [List.length_append, List.length_append, ho, Array.length_toList, Array.length_toList, size_zeroCells, size_zeroCells, hzs, ← Nat.add_mul, ← Nat.add_mul]
      congr 1; omega

/-! ### slices.overlaps, which the model answers itself -/
theorem St.blk_ne {W : World} {M : List Nat} {w : World} {b c : Nat} {cs ds : List Value} {F0 : List Tok} (hw : St W M F w) (hp : F.Perm (Tok.blk b cs :: F0)) (hm : Tok.blk c ds ∈ F0) : b ≠ c := by
  have h := (hw.perm hp).nodup
  rw [fps_cons, List.nodup_append] at h
  intro e
  subst e
  exact h.2.2 b (by simp [Tok.blk]) b (List.mem_flatMap.2 ⟨_, hm, by simp [Tok.blk]⟩) rfl
theorem blkAt_shape {w : World} {b : Nat} {cs : List Value} (h : blkAt w b cs) : ∃ t, w.shape? b = some (t, cs.length) := by
  obtain ⟨e, h⟩ := h
  exact ⟨e, by simp [World.shape?, h]⟩
theorem Op1.overlaps {f : FuncId} {fn : Func} {tS tR : TypeId} [ht : TSlice P tS α] (hf : P.funcs[f]? = some fn) (hname : (fn.name == "runtime.NumGoroutine") = false) (hb : fn.body.isNone = true) (hn : Extern.findNext fn = none)
    (he : Extern.find fn = some (Extern.SlicesOverlaps.overlaps #[tS, tS] #[tR])) {x y : Operand} {ats : Array TypeId} {b o n c b2 o2 n2 c2 : Nat} {cs ds : List Value} {F0 : List Tok}
    (hx : look l x = some (.slice (some ⟨b, o, none⟩) n c)) (hy : look l y = some (.slice (some ⟨b2, o2, none⟩) n2 c2)) (hp : F.Perm (Tok.blk b cs :: F0)) (hm : Tok.blk b2 ds ∈ F0) (hd : ds ≠ []) :
    Op1 P G (.call { callee := .value (.func f), args := #[x, y], argTypes := ats }) l F (.bool false) := fun op ho a w ha hw => by
  obtain ⟨e, i, z, h1, h2, h3, h4, h5, h6⟩ := ht.out
  have hw' := hw.perm hp
  have k1 := hw'.blk (b := b) (cs := cs) (by simp)
  have k2 := hw'.blk (b := b2) (cs := ds) (by simp [hm])
  obtain ⟨t1, s1⟩ := blkAt_shape k1
  obtain ⟨t2, s2⟩ := blkAt_shape k2
  have hov := Lib.run_overlaps_apart (P := P) w tS tR e h1 i.size (run_sizeOf' h2) ⟨b, o, none⟩ ⟨b2, o2, none⟩ n c n2 c2 (hw.blk_ne hp hm) t1 t2 _ _ s1 s2 (by
    intro h; exact hd (List.eq_nil_of_length_eq_zero h)) (blkAt_frozen k1) (blkAt_frozen k1)
  have hc := run_callFunc_extern (P := P) hf hname hb hn he #[.slice (some ⟨b, o, none⟩) n c, .slice (some ⟨b2, o2, none⟩) n2 c2] w
  rw [hov] at hc
  have hfx : a.eval (.func f) = .func (.func f) #[] #[] := rfl
  simp [execOp, ho, resolve, hfx, Deferred.ofValue, invoke, ha.eval hx, ha.eval hy, hc]
end
end Go.Proofs.Ytfigegmgopnfhaa
/- Graphs: connection, and the least nodes of connected parts. Conditions: none. -/
namespace Go.Proofs.Ytfigegmgopnfhaa
open Go

theorem getD_setI (l : List Int) (i j : Nat) (v : Int) : (l.set i v).getD j 0 = if i = j ∧ i < l.length then v else l.getD j 0 := by
  rw [List.getD_eq_getElem?_getD, List.getD_eq_getElem?_getD, List.getElem?_set]
  by_cases h : i = j
  · subst h
    by_cases h2 : i < l.length
    · simp [h2]
    · simp [h2]
  · simp [h]
theorem getD_memI {α : Type} {l : List α} {d : α} {i : Nat} (h : i < l.length) : l.getD i d ∈ l := by
  rw [List.getD_eq_getElem?_getD, List.getElem?_eq_getElem h]; exact List.getElem_mem h
theorem mem_getD {α : Type} {l : List α} {d x : α} (h : x ∈ l) : ∃ i, i < l.length ∧ l.getD i d = x := by
  obtain ⟨i, hi, rfl⟩ := List.getElem_of_mem h
  exact ⟨i, hi, by rw [List.getD_eq_getElem?_getD, List.getElem?_eq_getElem hi]; rfl⟩
theorem take_succD {α : Type} (d : α) : ∀ {l : List α} {j : Nat}, j < l.length → l.take (j + 1) = l.take j ++ [l.getD j d]
  | [], j, h => by simp at h
  | a :: l, 0, _ => by simp
  | a :: l, j + 1, h => by
    have := take_succD d (l := l) (j := j) (by simpa using h)
    rw [List.take_succ_cons, this]; rfl
theorem foldl_takeS {α β : Type} (d : α) (f : β → α → β) (a : β) {l : List α} {j : Nat} (h : j < l.length) : (l.take (j + 1)).foldl f a = f ((l.take j).foldl f a) (l.getD j d) := by
  rw [take_succD d h, List.foldl_append]; rfl
theorem list_extD {l l' : List Int} (hl : l.length = l'.length) (h : ∀ i, i < l.length → l.getD i 0 = l'.getD i 0) : l = l' := by
  refine List.ext_getElem hl fun i h1 h2 => ?_
  have := h i h1
  rw [List.getD_eq_getElem?_getD, List.getD_eq_getElem?_getD, List.getElem?_eq_getElem h1, List.getElem?_eq_getElem h2] at this
  exact this
theorem pigeonI : ∀ {n : Nat} {l : List Int}, (∀ a ∈ l, 0 ≤ a ∧ a < n) → l.Nodup → l.length ≤ n
  | 0, l, h, _ => by
    cases l with
    | nil => simp
    | cons a l => have := h a (by simp); omega
  | n + 1, l, h, hd => by
    have h1 := pigeonI (n := n) (l := l.erase (n : Int)) (fun a ha => by
      have := (hd.mem_erase_iff).1 ha
      have h2 := h a this.2
      have h3 := this.1
      omega) (hd.erase _)
    have := List.length_erase (a := (n : Int)) (l := l)
    split at this <;> omega

/-! ### Connection -/
def Adj (es : List E) (y z : Int) : Prop := ∃ e ∈ es, (e.A = y ∧ e.B = z) ∨ (e.A = z ∧ e.B = y)
inductive Conn (es : List E) (x : Int) : Int → Prop
  | refl : Conn es x x
  | step {y z : Int} : Conn es x y → Adj es y z → Conn es x z

theorem Adj.symm {es : List E} {y z : Int} (h : Adj es y z) : Adj es z y := by
  obtain ⟨e, he, h⟩ := h; exact ⟨e, he, h.symm⟩
theorem Adj.mono {es es' : List E} (hs : ∀ e ∈ es, e ∈ es') {y z : Int} (h : Adj es y z) : Adj es' y z := by
  obtain ⟨e, he, h⟩ := h; exact ⟨e, hs e he, h⟩
theorem Conn.trans {es : List E} {x y z : Int} (h1 : Conn es x y) (h2 : Conn es y z) : Conn es x z := by
  induction h2 with
  | refl => exact h1
  | step _ h ih => exact ih.step h
theorem Conn.adj {es : List E} {x y : Int} (h : Adj es x y) : Conn es x y := Conn.refl.step h
theorem Conn.symm {es : List E} {x y : Int} (h : Conn es x y) : Conn es y x := by
  induction h with
  | refl => exact .refl
  | step _ h ih => exact (Conn.adj h.symm).trans ih
theorem Conn.mono {es es' : List E} (hs : ∀ e ∈ es, e ∈ es') {x y : Int} (h : Conn es x y) : Conn es' x y := by
  induction h with
  | refl => exact .refl
  | step _ h ih => exact ih.step (h.mono hs)
theorem Conn.edge {es : List E} {e : E} (h : e ∈ es) : Conn es e.A e.B := .adj ⟨e, h, .inl ⟨rfl, rfl⟩⟩
theorem Conn.edge' {es : List E} {e : E} (h : e ∈ es) : Conn es e.B e.A := (Conn.edge h).symm
theorem conn_nil {x y : Int} : Conn [] x y ↔ x = y := by
  constructor
  · intro h
    induction h with
    | refl => rfl
    | step _ h _ => obtain ⟨e, he, _⟩ := h; cases he
  · rintro rfl; exact .refl
theorem conn_cons {e : E} {es : List E} {x y : Int} : Conn (e :: es) x y ↔ Conn es x y ∨ (Conn es x e.A ∧ Conn es e.B y) ∨ (Conn es x e.B ∧ Conn es e.A y) := by
  have hs : ∀ f ∈ es, f ∈ e :: es := fun f hf => List.mem_cons_of_mem _ hf
  constructor
  · intro h
    induction h with
    | refl => exact .inl .refl
    | step _ h ih =>
      obtain ⟨f, hf, h⟩ := h
      rcases List.mem_cons.1 hf with rfl | hf
      · rcases h with ⟨rfl, rfl⟩ | ⟨rfl, rfl⟩
        · rcases ih with h1 | ⟨h1, _⟩ | ⟨h1, _⟩
          · exact .inr (.inl ⟨h1, .refl⟩)
          · exact .inr (.inl ⟨h1, .refl⟩)
          · exact .inl h1
        · rcases ih with h1 | ⟨h1, _⟩ | ⟨h1, _⟩
          · exact .inr (.inr ⟨h1, .refl⟩)
          · exact .inl h1
          · exact .inr (.inr ⟨h1, .refl⟩)
      · have ha : Adj es _ _ := ⟨f, hf, h⟩
        rcases ih with h1 | ⟨h1, h2⟩ | ⟨h1, h2⟩
        · exact .inl (h1.step ha)
        · exact .inr (.inl ⟨h1, h2.step ha⟩)
        · exact .inr (.inr ⟨h1, h2.step ha⟩)
  · have e1 : Conn (e :: es) e.A e.B := .edge (by simp)
    rintro (h | ⟨h1, h2⟩ | ⟨h1, h2⟩)
    · exact h.mono hs
    · exact ((h1.mono hs).trans e1).trans (h2.mono hs)
    · exact ((h1.mono hs).trans e1.symm).trans (h2.mono hs)
/-- Edges without one of them. -/
def rem (es : List E) (e : E) : List E := es.filter fun f => decide (f ≠ e)
theorem mem_rem {es : List E} {e f : E} : f ∈ rem es e ↔ f ∈ es ∧ f ≠ e := by simp [rem, List.mem_filter]
theorem rem_sub {es : List E} {e : E} : ∀ f ∈ rem es e, f ∈ es := fun _ h => (mem_rem.1 h).1
theorem conn_rem {es : List E} {e : E} (he : e ∈ es) {x y : Int} : Conn es x y ↔ Conn (rem es e) x y ∨ (Conn (rem es e) x e.A ∧ Conn (rem es e) e.B y) ∨ (Conn (rem es e) x e.B ∧ Conn (rem es e) e.A y) := by
  rw [← conn_cons]
  refine ⟨fun h => h.mono fun f hf => ?_, fun h => h.mono fun f hf => ?_⟩
  · by_cases h1 : f = e
    · rw [h1]; simp
    · exact List.mem_cons_of_mem _ (mem_rem.2 ⟨hf, h1⟩)
  · rcases List.mem_cons.1 hf with rfl | hf
    · exact he
    · exact rem_sub f hf

/-! ### Labels -/
def Nd (n x : Int) : Prop := 0 ≤ x ∧ x < n
instance (n x : Int) : Decidable (Nd n x) := by unfold Nd; infer_instance
def okE (n : Int) (es : List E) : Prop := ∀ e ∈ es, Nd n e.A ∧ Nd n e.B
theorem okE.sub {n : Int} {es es' : List E} (h : okE n es) (hs : ∀ e ∈ es', e ∈ es) : okE n es' := fun e he => h e (hs e he)
theorem Adj.nd {n : Int} {es : List E} (h : okE n es) {y z : Int} (ha : Adj es y z) : Nd n z := by
  obtain ⟨e, he, ⟨_, rfl⟩ | ⟨rfl, _⟩⟩ := ha
  · exact (h e he).2
  · exact (h e he).1
theorem Conn.nd {n : Int} {es : List E} (h : okE n es) {x y : Int} (hc : Conn es x y) (hx : Nd n x) : Nd n y := by
  cases hc with
  | refl => exact hx
  | step _ ha => exact ha.nd h

def relx (out : List Int) (e : E) : List Int := (out.set e.A.toNat (min (out.getD e.A.toNat 0) (out.getD e.B.toNat 0))).set e.B.toNat (min (out.getD e.A.toNat 0) (out.getD e.B.toNat 0))
theorem relx_length (out : List Int) (e : E) : (relx out e).length = out.length := by simp [relx]
theorem relx_get {n : Int} {out : List Int} {e : E} (hl : out.length = n.toNat) (hA : Nd n e.A) (hB : Nd n e.B) {x : Int} (hx : Nd n x) :
    (relx out e).getD x.toNat 0 = if x = e.A ∨ x = e.B then min (out.getD e.A.toNat 0) (out.getD e.B.toNat 0) else out.getD x.toNat 0 := by
  unfold Nd at *
  rw [relx, getD_setI, getD_setI, List.length_set, hl]
  by_cases h1 : x = e.B
  · subst h1; rw [if_pos ⟨rfl, by omega⟩, if_pos (Or.inr rfl)]
  · rw [if_neg (by omega)]
    by_cases h2 : x = e.A
    · subst h2; rw [if_pos ⟨rfl, by omega⟩, if_pos (Or.inl rfl)]
    · rw [if_neg (by omega), if_neg (by omega)]
def rnd (es : List E) (out : List Int) : Nat → List Int
  | 0 => out
  | k + 1 => es.foldl relx (rnd es out k)
def iota (n : Nat) : List Int := (List.range n).map fun (i : Nat) => (i : Int)
theorem iota_length (n : Nat) : (iota n).length = n := by simp [iota]
theorem iota_succ (n : Nat) : iota (n + 1) = iota n ++ [(n : Int)] := by simp [iota, List.range_succ]
theorem iota_get {n i : Nat} (h : i < n) : (iota n).getD i 0 = i := by
  rw [List.getD_eq_getElem?_getD]; simp [iota, h]
theorem mem_iota {n : Nat} {x : Int} : x ∈ iota n ↔ 0 ≤ x ∧ x < n := by
  simp only [iota, List.mem_map, List.mem_range]
  constructor
  · rintro ⟨i, hi, rfl⟩; omega
  · rintro ⟨h1, h2⟩; exact ⟨x.toNat, by omega, by omega⟩
theorem iota_nodup (n : Nat) : (iota n).Nodup := by
  rw [List.nodup_iff_pairwise_ne] at *
  refine List.Pairwise.map (R := (· ≠ ·)) _ (fun a b h => by omega) ?_
  exact List.nodup_range
def labs (n : Int) (es : List E) : List Int := rnd es (iota n.toNat) n.toNat
def lab (n : Int) (es : List E) (x : Int) : Int := (labs n es).getD x.toNat 0

structure Lab (n : Int) (es : List E) (out : List Int) : Prop where
  len : out.length = n.toNat
  low : ∀ x, Nd n x → 0 ≤ out.getD x.toNat 0 ∧ out.getD x.toNat 0 ≤ x
  con : ∀ x, Nd n x → Conn es x (out.getD x.toNat 0)
def Stab (es : List E) (out : List Int) : Prop := ∀ e ∈ es, out.getD e.A.toNat 0 = out.getD e.B.toNat 0

theorem Lab.start (n : Int) (es : List E) : Lab n es (iota n.toNat) := by
  refine ⟨iota_length _, fun x hx => ?_, fun x hx => ?_⟩
  · have := hx.1; have := hx.2
    rw [iota_get (by omega)]; omega
  · have h1 := hx.1; have := hx.2
    rw [iota_get (by omega), Int.toNat_of_nonneg h1]; exact .refl
theorem Lab.relx {n : Int} {es : List E} {out : List Int} (h : Lab n es out) (hE : okE n es) {e : E} (he : e ∈ es) : Lab n es (relx out e) := by
  obtain ⟨hA, hB⟩ := hE e he
  refine ⟨by rw [relx_length, h.len], fun x hx => ?_, fun x hx => ?_⟩
  · rw [relx_get h.len hA hB hx]
    have h1 := h.low _ hA
    have h2 := h.low _ hB
    have h3 := h.low _ hx
    split
    · rename_i h4
      rcases h4 with rfl | rfl <;> omega
    · exact h3
  · rw [relx_get h.len hA hB hx]
    split
    · rename_i h4
      have h1 := h.con _ hA
      have h2 := h.con _ hB
      have e1 : Conn es e.A e.B := .edge he
      rcases Int.le_total (out.getD e.A.toNat 0) (out.getD e.B.toNat 0) with h5 | h5
      · rw [Int.min_eq_left h5]
        rcases h4 with rfl | rfl
        · exact h1
        · exact e1.symm.trans h1
      · rw [Int.min_eq_right h5]
        rcases h4 with rfl | rfl
        · exact e1.trans h2
        · exact h2
    · exact h.con x hx
theorem Lab.fold {n : Int} {es : List E} (hE : okE n es) : ∀ {l : List E} {out : List Int}, (∀ e ∈ l, e ∈ es) → Lab n es out → Lab n es (l.foldl Proofs.Ytfigegmgopnfhaa.relx out)
  | [], _, _, h => h
  | e :: l, out, hs, h => by
    rw [List.foldl_cons]
    exact Lab.fold hE (fun f hf => hs f (List.mem_cons_of_mem _ hf)) (h.relx hE (hs e (by simp)))
theorem Lab.rnd {n : Int} {es : List E} (hE : okE n es) : ∀ k, Lab n es (rnd es (iota n.toNat) k)
  | 0 => Lab.start n es
  | k + 1 => Lab.fold hE (fun _ h => h) (Lab.rnd hE k)

theorem Lab.const {n : Int} {es : List E} {out : List Int} (hs : Stab es out) {x y : Int} (h : Conn es x y) : out.getD x.toNat 0 = out.getD y.toNat 0 := by
  induction h with
  | refl => rfl
  | step _ h ih =>
    obtain ⟨e, he, ⟨rfl, rfl⟩ | ⟨rfl, rfl⟩⟩ := h
    · exact ih.trans (hs e he)
    · exact ih.trans (hs e he).symm
theorem Lab.nd {n : Int} {es : List E} {out : List Int} (h : Lab n es out) {x : Int} (hx : Nd n x) : Nd n (out.getD x.toNat 0) := by
  have := h.low x hx; have := hx.2; exact ⟨by omega, by omega⟩
theorem Lab.unique {n : Int} {es : List E} {a b : List Int} (ha : Lab n es a) (hb : Lab n es b) (sa : Stab es a) (sb : Stab es b) : a = b := by
  have key : ∀ {a b : List Int}, Lab n es a → Lab n es b → Stab es a → ∀ x, Nd n x → a.getD x.toNat 0 ≤ b.getD x.toNat 0 := by
    intro a b ha hb sa x hx
    rw [Lab.const (n := n) sa (hb.con x hx)]
    exact (ha.low _ (hb.nd hx)).2
  refine list_extD (ha.len.trans hb.len.symm) fun i hi => ?_
  have hx : Nd n (i : Int) := ⟨by omega, by have := ha.len; omega⟩
  have h1 := key ha hb sa i hx
  have h2 := key hb ha sb i hx
  simp only [Int.toNat_natCast] at h1 h2
  omega

/-! ### Labels come to rest -/
theorem relx_le {n : Int} {out : List Int} {e : E} (hl : out.length = n.toNat) (hA : Nd n e.A) (hB : Nd n e.B) {x : Int} (hx : Nd n x) : (relx out e).getD x.toNat 0 ≤ out.getD x.toNat 0 := by
  rw [relx_get hl hA hB hx]
  split
  · rename_i h; rcases h with rfl | rfl <;> omega
  · omega
theorem fold_le {n : Int} : ∀ {l : List E} {out : List Int}, okE n l → out.length = n.toNat → ∀ {x : Int}, Nd n x → (l.foldl relx out).getD x.toNat 0 ≤ out.getD x.toNat 0
  | [], _, _, _, _, _ => Int.le_refl _
  | e :: l, out, hE, hl, x, hx => by
    rw [List.foldl_cons]
    have h1 := hE e (by simp)
    have h2 := fold_le (l := l) (out := relx out e) (fun f hf => hE f (List.mem_cons_of_mem _ hf)) (by rw [relx_length, hl]) hx
    have h3 := relx_le hl h1.1 h1.2 hx
    omega
theorem fold_length : ∀ (l : List E) (out : List Int), (l.foldl relx out).length = out.length
  | [], _ => rfl
  | e :: l, out => by rw [List.foldl_cons, fold_length l, relx_length]
theorem fold_spread {n : Int} : ∀ {l : List E} {out : List Int}, okE n l → out.length = n.toNat → ∀ {y z m : Int}, Nd n y → Adj l y z → out.getD y.toNat 0 ≤ m → (l.foldl relx out).getD z.toNat 0 ≤ m
  | [], _, _, _, _, _, _, _, h, _ => by obtain ⟨e, he, _⟩ := h; cases he
  | e :: l, out, hE, hl, y, z, m, hy, ⟨f, hf, h⟩, hm => by
    rw [List.foldl_cons]
    have h1 := hE e (by simp)
    have hE' : okE n l := fun f hf => hE f (List.mem_cons_of_mem _ hf)
    have hl' : (relx out e).length = n.toNat := by rw [relx_length, hl]
    have hz : Nd n z := Adj.nd hE ⟨f, hf, h⟩
    rcases List.mem_cons.1 hf with rfl | hf
    · have h2 := fold_le hE' hl' hz
      have h3 : (relx out f).getD z.toNat 0 ≤ m := by
        rw [relx_get hl h1.1 h1.2 hz]
        rcases h with ⟨rfl, rfl⟩ | ⟨rfl, rfl⟩
        · rw [if_pos (.inr rfl)]; omega
        · rw [if_pos (.inl rfl)]; omega
      omega
    · refine fold_spread hE' hl' hy ⟨f, hf, h⟩ ?_
      have := relx_le hl h1.1 h1.2 hy
      omega
theorem rnd_length (es : List E) (out : List Int) : ∀ k, (rnd es out k).length = out.length
  | 0 => rfl
  | k + 1 => by rw [rnd, fold_length, rnd_length es out k]
theorem rnd_mono {n : Int} {es : List E} (hE : okE n es) {out : List Int} (hl : out.length = n.toNat) {x : Int} (hx : Nd n x) : ∀ {k m : Nat}, k ≤ m → (rnd es out m).getD x.toNat 0 ≤ (rnd es out k).getD x.toNat 0
  | k, 0, h => by
    have : k = 0 := by omega
    subst this; exact Int.le_refl _
  | k, m + 1, h => by
    by_cases h1 : k = m + 1
    · subst h1; exact Int.le_refl _
    · have h2 := rnd_mono hE hl hx (k := k) (m := m) (by omega)
      have h3 := fold_le (l := es) (out := rnd es out m) hE (by rw [rnd_length, hl]) hx
      rw [rnd]; omega

inductive Pth (es : List E) (m : Int) : List Int → Int → Prop
  | one : Pth es m [m] m
  | cons {l : List Int} {y z : Int} : Pth es m l y → Adj es y z → Pth es m (z :: l) z
theorem Pth.trunc {es : List E} {m y z : Int} {l : List Int} (h : Pth es m l y) (hz : z ∈ l) : ∃ l', l' <:+ l ∧ Pth es m l' z := by
  induction h with
  | one =>
    have : z = m := by simpa using hz
    subst this; exact ⟨_, List.suffix_refl _, .one⟩
  | cons h ha ih =>
    rcases List.mem_cons.1 hz with rfl | hz
    · exact ⟨_, List.suffix_refl _, .cons h ha⟩
    · obtain ⟨l', h1, h2⟩ := ih hz
      exact ⟨l', h1.trans (List.suffix_cons _ _), h2⟩
theorem Pth.pos {es : List E} {m y : Int} {l : List Int} (h : Pth es m l y) : 1 ≤ l.length := by cases h <;> simp
theorem Conn.pth {n : Int} {es : List E} (hE : okE n es) {m x : Int} (hm : Nd n m) (h : Conn es m x) : ∃ l, Pth es m l x ∧ l.Nodup ∧ ∀ a ∈ l, Nd n a := by
  induction h with
  | refl => exact ⟨[m], .one, by simp, by simpa using hm⟩
  | step h ha ih =>
    rename_i y z
    obtain ⟨l, h1, h2, h3⟩ := ih
    by_cases hz : z ∈ l
    · obtain ⟨l', h4, h5⟩ := h1.trunc hz
      exact ⟨l', h5, h2.sublist h4.sublist, fun a ha => h3 a (h4.subset ha)⟩
    · refine ⟨z :: l, .cons h1 ha, List.nodup_cons.2 ⟨hz, h2⟩, fun a hb => ?_⟩
      rcases List.mem_cons.1 hb with rfl | hb
      · exact ha.nd hE
      · exact h3 a hb
theorem Pth.nd {n : Int} {es : List E} (hE : okE n es) {m y : Int} {l : List Int} (hm : Nd n m) (h : Pth es m l y) : Nd n y := by
  cases h with
  | one => exact hm
  | cons _ ha => exact ha.nd hE
theorem Pth.spread {n : Int} {es : List E} (hE : okE n es) {m x : Int} {l : List Int} (hm : Nd n m) (h : Pth es m l x) : (rnd es (iota n.toNat) (l.length - 1)).getD x.toNat 0 ≤ m := by
  induction h with
  | one =>
    have := hm.1; have := hm.2
    show (iota n.toNat).getD m.toNat 0 ≤ m
    rw [iota_get (by omega)]; omega
  | cons h ha ih =>
    rename_i l y z
    have h1 := h.pos
    have h2 : (z :: l).length - 1 = (l.length - 1) + 1 := by rw [List.length_cons]; omega
    rw [h2, rnd]
    exact fold_spread hE (by rw [rnd_length, iota_length]) (h.nd hE hm) ha ih
theorem labs_le {n : Int} {es : List E} (hE : okE n es) {m x : Int} (hm : Nd n m) (h : Conn es m x) {k : Nat} (hk : n.toNat ≤ k) : (rnd es (iota n.toNat) k).getD x.toNat 0 ≤ m := by
  obtain ⟨l, h1, h2, h3⟩ := h.pth hE hm
  have h4 := h1.spread hE hm
  have h5 := pigeonI (n := n.toNat) (l := l) (fun a ha => by have := (h3 a ha).1; have := (h3 a ha).2; omega) h2
  have h6 := rnd_mono hE (out := iota n.toNat) (iota_length _) (h1.nd hE hm) (k := l.length - 1) (m := k) (by omega)
  omega
theorem rnd_stab {n : Int} {es : List E} (hE : okE n es) {k : Nat} (hk : n.toNat ≤ k) : Stab es (rnd es (iota n.toNat) k) := by
  intro e he
  obtain ⟨hA, hB⟩ := hE e he
  have hL := Lab.rnd hE k
  have e1 : Conn es e.A e.B := .edge he
  have h1 := labs_le hE (hL.nd hA) ((hL.con _ hA).symm.trans e1) hk
  have h2 := labs_le hE (hL.nd hB) ((hL.con _ hB).symm.trans e1.symm) hk
  omega
theorem labs_lab {n : Int} {es : List E} (hE : okE n es) : Lab n es (labs n es) := Lab.rnd hE _
theorem labs_stab {n : Int} {es : List E} (hE : okE n es) : Stab es (labs n es) := rnd_stab hE (Nat.le_refl _)
theorem labs_length (n : Int) (es : List E) : (labs n es).length = n.toNat := by rw [labs, rnd_length, iota_length]
theorem labs_unique {n : Int} {es : List E} (hE : okE n es) {out : List Int} (h : Lab n es out) (hs : Stab es out) : out = labs n es := h.unique (labs_lab hE) hs (labs_stab hE)
theorem lab_iff {n : Int} {es : List E} (hE : okE n es) {x y : Int} (hx : Nd n x) (hy : Nd n y) : lab n es x = lab n es y ↔ Conn es x y := by
  constructor
  · intro h
    have h1 := (labs_lab hE).con x hx
    have h2 := (labs_lab hE).con y hy
    have h3 : (labs n es).getD x.toNat 0 = (labs n es).getD y.toNat 0 := h
    rw [h3] at h1
    exact h1.trans h2.symm
  · exact Lab.const (n := n) (labs_stab hE)
theorem lab_nd {n : Int} {es : List E} (hE : okE n es) {x : Int} (hx : Nd n x) : Nd n (lab n es x) := (labs_lab hE).nd hx
theorem lab_conn {n : Int} {es : List E} (hE : okE n es) {x : Int} (hx : Nd n x) : Conn es x (lab n es x) := (labs_lab hE).con x hx
theorem lab_le {n : Int} {es : List E} (hE : okE n es) {x y : Int} (hx : Nd n x) (h : Conn es x y) : lab n es x ≤ y := by
  have hy := h.nd hE hx
  have := ((labs_lab hE).low y hy).2
  rw [(lab_iff hE hx hy).2 h]; exact this
theorem relx_same {n : Int} {out : List Int} {e : E} (hl : out.length = n.toNat) (hA : Nd n e.A) (hB : Nd n e.B) (h : out.getD e.A.toNat 0 = out.getD e.B.toNat 0) : relx out e = out := by
  refine list_extD (relx_length _ _) fun i hi => ?_
  rw [relx_length] at hi
  have hx : Nd n (i : Int) := ⟨by omega, by omega⟩
  have := relx_get hl hA hB hx
  simp only [Int.toNat_natCast] at this
  rw [this]
  split
  · rename_i h4
    have h5 : i = e.A.toNat ∨ i = e.B.toNat := by have := hA.1; have := hB.1; omega
    rcases h5 with rfl | rfl <;> omega
  · rfl
/-- One edge's turn, as the second program makes it. -/
theorem relx_lt {out : List Int} {e : E} (h : out.getD e.A.toNat 0 < out.getD e.B.toNat 0) : out.set e.B.toNat (out.getD e.A.toNat 0) = relx out e := by
  unfold relx
  rw [Int.min_eq_left (by omega)]
  congr 1
  refine list_extD (by simp) fun i hi => ?_
  rw [getD_setI]
  split
  · rename_i h1; rw [h1.1]
  · rfl
theorem relx_gt {out : List Int} {e : E} (h : out.getD e.B.toNat 0 < out.getD e.A.toNat 0) : out.set e.A.toNat (out.getD e.B.toNat 0) = relx out e := by
  unfold relx
  rw [Int.min_eq_right (by omega)]
  refine list_extD (by simp) fun i hi => ?_
  rw [getD_setI (out.set e.A.toNat (out.getD e.B.toNat 0))]
  split
  · rename_i h1
    rw [← h1.1, getD_setI]
    split
    · rfl
    · rfl
  · rfl
end Go.Proofs.Ytfigegmgopnfhaa
/- Graphs: the walks of the program's first functions (comparing edges, valid graphs). Conditions: those of each contract. -/
namespace Go.Proofs.Ytfigegmgopnfhaa
open Go
theorem RL.oneG {α : Type} [Enc α] {w : World} {v : Value} {xs : List α} (h : RL w v xs) : v.oneCell' = true := by
  unfold RL at h
  rcases h.2 with ⟨rfl, _⟩ | ⟨b, off, cap, rfl, _⟩ <;> rfl
set_option linter.unusedVariables false set_option linter.unusedSimpArgs false attribute [local irreducible] Tok.own Tok.blk RL Rd eptr WP WPL PE WPD WPO Op1 OpE Tri Again Mid Exit.then Exit.inBlock bodyPost RP Code.wp wpList isOwn OneM One
set_option maxHeartbeats 8000000

def ep (e : E) : Value := .agg #[.int .i64 e.A, .int .i64 e.B]
def eD : E := ⟨0, 0⟩
def cmpI (a b : Int) : Int := if a < b then -1 else if b < a then 1 else 0
def cmpE (a b : E) : Int := if cmpI a.A b.A ≠ 0 then cmpI a.A b.A else cmpI a.B b.B
def ltE (a b : E) : Prop := a.A < b.A ∨ (a.A = b.A ∧ a.B < b.B)
instance (a b : E) : Decidable (ltE a b) := by unfold ltE; infer_instance
theorem cmpE_neg {a b : E} : cmpE a b < 0 ↔ ltE a b := by
  unfold cmpE cmpI ltE; repeat' split
  all_goals omega
theorem cmpE_nonneg {a b : E} : 0 ≤ cmpE a b ↔ ¬ ltE a b := by rw [← cmpE_neg]; omega
theorem cmpE_zero {a b : E} : cmpE a b = 0 ↔ a = b := by
  have : a = b ↔ a.A = b.A ∧ a.B = b.B := by cases a; cases b; simp
  rw [this]
  unfold cmpE cmpI; repeat' split
  all_goals omega
theorem cmpE_small (a b : E) : -1 ≤ cmpE a b ∧ cmpE a b ≤ 1 := by
  unfold cmpE cmpI; repeat' split
  all_goals omega

theorem c_isNaN (w : World) (x : Int) : Tri Try.prog 156 [.int .i64 x] w [] fun r T => r = .bool false ∧ T = [] := by
  refine Tri.intro (hf := Try.func156) (hb := rfl) (hn := Try.ntmps156) (Nat.le_of_ble_eq_true rfl) ?_
  try refine go ⟨?_⟩
  refine PE.ret1 (T := []) (T' := []) rfl rV ?_ sT
  exact ⟨by simp, rfl⟩
theorem c_Compare (w : World) (x y : Int) : Tri Try.prog 135 [.int .i64 x, .int .i64 y] w [] fun r T => r = .int .i64 (cmpI x y) ∧ T = [] := by
  refine Tri.intro (hf := Try.func135) (hb := rfl) (hn := Try.ntmps135) (Nat.le_of_ble_eq_true rfl) ?_
  try refine go ⟨?_⟩
  refine WPL.eff (OpE.call lO (fun w hw => c_isNaN _ x)) rfl rfl ?_
  rintro r _ ⟨T, ⟨rfl, rfl⟩, rfl⟩
  try refine go ⟨?_⟩
  refine WPL.eff (OpE.call lO (fun w hw => c_isNaN _ y)) rfl rfl ?_
  rintro r _ ⟨T, ⟨rfl, rfl⟩, rfl⟩
  repeat' (first | refine go ⟨?_⟩ | (refine isCond ?_; refine WP.condD rfl (fun hc => ?_) (fun hc => ?_)) | (refine isGuard ?_; refine WPL.splitD rfl rfl (fun hc => ?_) (fun hc => ?_)))
  all_goals (refine PE.ret1 (T := []) (T' := []) rfl rV ?_ sT)
  · exact ⟨by rw [cmpI, if_pos hc], rfl⟩
  · exact ⟨by rw [cmpI, if_neg ‹_›, if_pos hc], rfl⟩
  · exact ⟨by rw [cmpI, if_neg ‹_›, if_neg hc], rfl⟩
theorem c_Or (w : World) (v : Value) (a b : Int) (h : RL w v [a, b]) : Tri Try.prog 134 [v] w [] fun r T => r = .int .i64 (if a ≠ 0 then a else b) ∧ T = [] := by
  refine Tri.intro (hf := Try.func134) (hb := rfl) (hn := Try.ntmps134) (Nat.le_of_ble_eq_true rfl) ?_
  try refine go ⟨?_⟩
  refine WP.loop (σ := Nat) (fun k => [(3, .int .i64 0), (6, v), (7, .int .i64 2), (8, .int .i64 k)]) (fun _ => []) (fun k => k ≤ 2 ∧ (1 ≤ k → a = 0) ∧ (2 ≤ k → b = 0)) (fun k => 2 - k) 0 ⟨by omega, by omega, by omega⟩ sE sT ?_
  rintro k ⟨hk, h1, h2⟩
  have hk3 : k = 0 ∨ k = 1 ∨ k = 2 := by omega
  rcases hk3 with rfl | rfl | rfl
  · repeat' (first | refine go ⟨?_⟩ | (refine isCond ?_; refine WP.condD rfl (fun hc => ?_) (fun hc => ?_)) | (refine isGuard ?_; refine WPL.splitD rfl rfl (fun hc => ?_) (fun hc => ?_)))
    · refine PE.ret1 (T := []) (T' := []) rfl rV ?_ sT
      have hc : a ≠ 0 := hc
      exact ⟨by rw [if_pos hc]; rfl, rfl⟩
    · have hc : ¬ a ≠ 0 := hc
      refine PE.again 1 ?_ ?_ sE sT
      · exact ⟨by omega, by omega, by omega⟩
      · omega
  · repeat' (first | refine go ⟨?_⟩ | (refine isCond ?_; refine WP.condD rfl (fun hc => ?_) (fun hc => ?_)) | (refine isGuard ?_; refine WPL.splitD rfl rfl (fun hc => ?_) (fun hc => ?_)))
    · refine PE.ret1 (T := []) (T' := []) rfl rV ?_ sT
      have := h1 (by omega)
      exact ⟨by rw [if_neg (by omega)]; rfl, rfl⟩
    · have hc : ¬ b ≠ 0 := hc
      refine PE.again 2 ?_ ?_ sE sT
      · exact ⟨by omega, by omega, by omega⟩
      · omega
  · repeat' (first | refine go ⟨?_⟩ | (refine isCond ?_; refine WP.condD rfl (fun hc => ?_) (fun hc => ?_)) | (refine isGuard ?_; refine WPL.splitD rfl rfl (fun hc => ?_) (fun hc => ?_)))
    · refine PE.ret1 (T := []) (T' := []) rfl rV ?_ sT
      have e1 := h1 (by omega)
      have e2 := h2 (by omega)
      exact ⟨by rw [if_neg (by omega), e2], rfl⟩

theorem c_cmpE (w : World) (a b : E) : Tri Try.prog 88 [ep a, ep b] w [] fun r T => r = .int .i64 (cmpE a b) ∧ T = [] := by
  refine Tri.intro (hf := Try.func88) (hb := rfl) (hn := Try.ntmps88) (Nat.le_of_ble_eq_true rfl) ?_
  try refine go ⟨?_⟩
  refine WPL.eff (OpE.box rfl) rfl rfl ?_; rintro _ _ ⟨b1, rfl, rfl⟩
  refine WPL.eff (OpE.box rfl) rfl rfl ?_; rintro _ _ ⟨b2, rfl, rfl⟩
  try refine go ⟨?_⟩
  refine WP.draw [Tok.blk b1 [.int .i64 a.A, .int .i64 a.B], Tok.blk b2 [.int .i64 b.A, .int .i64 b.B]] mixed ?_
  refine WPD.take 0 rfl (by first | exact (Op1.fieldAddr rfl) | exact (Op1.fieldAddrE rfl rD lT)) rfl rfl sT kR kR kR xQP ?_
  refine WPD.take 2 rfl (by first | exact (Op1.fieldAddr rfl) | exact (Op1.fieldAddrE rfl rD lT)) rfl rfl sT kR kR kR xQP ?_
  refine WPD.take 5 rfl (by first | exact (Op1.fieldAddr rfl) | exact (Op1.fieldAddrE rfl rD lT)) rfl rfl sT kR kR kR xQP ?_
  refine WPD.take 7 rfl (by first | exact (Op1.fieldAddr rfl) | exact (Op1.fieldAddrE rfl rD lT)) rfl rfl sT kR kR kR xQP ?_
  refine WPD.take 1 rfl (by first | exact (Op1.load rfl mM (by rfl)) | exact (Op1.loadI rfl rD lT) | exact (Op1.loadAll rfl mM (by rfl)) | exact (Op1.loadE rfl rD lT (by rfl)) | exact (Op1.loadEAgg rfl rD lT (by rfl))) rfl rfl sT kR kR kR xQP ?_
  refine WPD.take 3 rfl (by first | exact (Op1.load rfl mM (by rfl)) | exact (Op1.loadI rfl rD lT) | exact (Op1.loadAll rfl mM (by rfl)) | exact (Op1.loadE rfl rD lT (by rfl)) | exact (Op1.loadEAgg rfl rD lT (by rfl))) rfl rfl sT kR kR kR xQP ?_
  refine WPD.take 6 rfl (by first | exact (Op1.load rfl mM (by rfl)) | exact (Op1.loadI rfl rD lT) | exact (Op1.loadAll rfl mM (by rfl)) | exact (Op1.loadE rfl rD lT (by rfl)) | exact (Op1.loadEAgg rfl rD lT (by rfl))) rfl rfl sT kR kR kR xQP ?_
  refine WPD.take 8 rfl (by first | exact (Op1.load rfl mM (by rfl)) | exact (Op1.loadI rfl rD lT) | exact (Op1.loadAll rfl mM (by rfl)) | exact (Op1.loadE rfl rD lT (by rfl)) | exact (Op1.loadEAgg rfl rD lT (by rfl))) rfl rfl sT kR kR kR xQP ?_
  refine WPD.eff 4 kR rfl (OpE.call lO (fun w hw => c_Compare _ a.A b.A)) rfl rfl ?_
  rintro r _ ⟨T, ⟨rfl, rfl⟩, rfl⟩
  refine ⟨sT, ?_⟩
  refine WPD.eff 9 kR rfl (OpE.call lO (fun w hw => c_Compare _ a.B b.B)) rfl rfl ?_
  rintro r _ ⟨T, ⟨rfl, rfl⟩, rfl⟩
  refine ⟨sT, ?_⟩
  refine WPD.eff 10 kR rfl (OpE.buildSlice ([cmpI a.A b.A, cmpI a.B b.B]) pA rfl (by decide)) rfl rfl ?_
  rintro s1 _ rfl
  refine ⟨sT, ?_⟩
  refine WPD.eff 11 kR rfl (OpE.call lO (fun w hw => c_Or _ s1 (cmpI a.A b.A) (cmpI a.B b.B) (Rd.at rD hw))) rfl rfl ?_
  rintro r _ ⟨T, ⟨rfl, rfl⟩, rfl⟩
  refine ⟨sT, ?_⟩
  refine WPD.eff 12 kR rfl (OpE.ofPure (Op1.assign rfl)) rfl rfl ?_
  rintro _ _ ⟨rfl, rfl⟩
  refine ⟨sT, ?_⟩
  refine WPD.done kR ?_
  try refine go ⟨?_⟩
  refine PE.ret1 (T := []) (T' := []) rfl rV ?_ sT
  exact ⟨rfl, rfl⟩
end Go.Proofs.Ytfigegmgopnfhaa
