/- A small separation logic over the kit's weakest preconditions: tokens that own blocks, a frame as a list of known slots. Conditions: none. -/
import Derived.WalkKit
import Derived.OrdersHeld
namespace Go.Proofs.Ythlgbeakcobeoaa
open Go

/-! ### Memory -/
/-- Block b holds exactly the cells cs, and may be written. -/
def blkAt (w : World) (b : Nat) (cs : List Value) : Prop := ∃ e, w.heap[b]? = some (.cells cs.toArray e (0, 0))

theorem blkAt_lt {w : World} {b : Nat} {cs : List Value} (h : blkAt w b cs) : b < w.heap.size := by
  obtain ⟨e, h⟩ := h
  rcases Nat.lt_or_ge b w.heap.size with h' | h'
  · exact h'
  · simp [Array.getElem?_eq_none h'] at h

theorem blkAt_same {w w' : World} {b : Nat} {cs : List Value} (hs : w'.heap[b]? = w.heap[b]?) (h : blkAt w b cs) : blkAt w' b cs := by
  obtain ⟨e, h⟩ := h; exact ⟨e, by rw [hs]; exact h⟩

theorem blkAt_cell {w : World} {b i : Nat} {cs : List Value} (h : blkAt w b cs) : w.cell? ⟨b, i, none⟩ = cs[i]? := by
  obtain ⟨e, h⟩ := h; simp [World.cell?, h]

theorem blkAt_frozen {w : World} {b i : Nat} {cs : List Value} (h : blkAt w b cs) : w.frozen? ⟨b, i, none⟩ = false := by
  obtain ⟨e, h⟩ := h; simp [World.frozen?, h]

theorem blkAt_set {w : World} {b i : Nat} {cs : List Value} (h : blkAt w b cs) (v : Value) : blkAt (w.setCell ⟨b, i, none⟩ v) b (cs.set i v) := by
  obtain ⟨e, h⟩ := h
  refine ⟨e, ?_⟩
  simp [World.setCell, Array.getElem?_modify, h]

theorem setCell_other {w : World} {b c i : Nat} {v : Value} (h : c ≠ b) : (w.setCell ⟨b, i, none⟩ v).heap[c]? = w.heap[c]? := by
  simp [World.setCell, Array.getElem?_modify, Ne.symm h]

/-- The blocks that a value of a slice type lies in. -/
def vfp : Value → List Nat
  | .slice (some a) _ _ => [a.block]
  | _ => []

theorem vfp_nodup (v : Value) : (vfp v).Nodup := by
  unfold vfp; split <;> simp

/-- A slice whose cells read as cs (n elements of sz cells each). -/
def rdAt (w : World) (sz : Nat) (v : Value) (n : Nat) (cs : List Value) : Prop :=
  cs.length = n * sz ∧ ((v = .slice none 0 0 ∧ n = 0) ∨ ∃ b off cap, v = .slice (some ⟨b, off, none⟩) n cap ∧ n ≤ cap ∧ b < w.heap.size ∧
    ∀ i, i < cs.length → w.cell? ⟨b, off + i, none⟩ = cs[i]?)

/-- A slice that is owned: its block is known whole, and may be written. -/
def ownAt (w : World) (sz : Nat) (v : Value) (n : Nat) (cs : List Value) : Prop :=
  cs.length = n * sz ∧ ((v = .slice none 0 0 ∧ n = 0) ∨ ∃ b cap, ∃ post : List Value, v = .slice (some ⟨b, 0, none⟩) n cap ∧ n ≤ cap ∧ cap ≤ maxLen ∧
    cap * sz = (cs ++ post).length ∧ blkAt w b (cs ++ post))

theorem ownAt.rd {w : World} {sz n : Nat} {v : Value} {cs : List Value} (h : ownAt w sz v n cs) : rdAt w sz v n cs := by
  obtain ⟨h1, h2⟩ := h
  refine ⟨h1, h2.imp id ?_⟩
  rintro ⟨b, cap, post, hv, hn, _, _, hb⟩
  refine ⟨b, 0, cap, hv, hn, blkAt_lt hb, fun i hi => ?_⟩
  rw [blkAt_cell hb, Nat.zero_add, List.getElem?_append_left hi]

theorem ownAt_same {w w' : World} {sz n : Nat} {v : Value} {cs : List Value} (hs : ∀ b ∈ vfp v, w'.heap[b]? = w.heap[b]?) (h : ownAt w sz v n cs) : ownAt w' sz v n cs := by
  obtain ⟨h1, h2⟩ := h
  refine ⟨h1, h2.imp id ?_⟩
  rintro ⟨b, cap, post, hv, hn, ho, hc, hb⟩
  exact ⟨b, cap, post, hv, hn, ho, hc, blkAt_same (hs b (by simp [hv, vfp])) hb⟩

theorem rdAt_same {w w' : World} {sz n : Nat} {v : Value} {cs : List Value} (hs : ∀ b ∈ vfp v, w'.heap[b]? = w.heap[b]?) (hz : w.heap.size ≤ w'.heap.size) (h : rdAt w sz v n cs) : rdAt w' sz v n cs := by
  obtain ⟨h1, h2⟩ := h
  refine ⟨h1, h2.imp id ?_⟩
  rintro ⟨b, off, cap, hv, hn, hb, hc⟩
  refine ⟨b, off, cap, hv, hn, by omega, fun i hi => ?_⟩
  rw [← hc i hi]
  exact World.cell?_of_block (w := w) (a := ⟨b, off + i, none⟩) (hs b (by simp [hv, vfp]))

theorem rdAt_inb {w : World} {sz n : Nat} {v : Value} {cs : List Value} (h : rdAt w sz v n cs) : ∀ b ∈ vfp v, b < w.heap.size := by
  intro b hb
  rcases h.2 with ⟨rfl, _⟩ | ⟨b', off, cap, rfl, _, hb', _⟩
  · simp [vfp] at hb
  · simp [vfp] at hb; subst hb; exact hb'

/-! ### Tokens -/
structure Tok where
  fp : List Nat
  holds : World → Prop
  loc : ∀ w w', (∀ b ∈ fp, w'.heap[b]? = w.heap[b]?) → holds w → holds w'
  inb : ∀ w, holds w → ∀ b ∈ fp, b < w.heap.size

def Tok.blk (b : Nat) (cs : List Value) : Tok where
  fp := [b]
  holds w := blkAt w b cs
  loc _ _ hs h := blkAt_same (hs b (by simp)) h
  inb _ h c hc := by simp at hc; subst hc; exact blkAt_lt h

/-- Things that lie in a fixed number of cells. -/
class Enc (α : Type) where
  sz : Nat
  enc : α → List Value
  d : α
  len : ∀ a, (enc a).length = sz
  pos : 0 < sz

def encs {α : Type} [Enc α] (xs : List α) : List Value := xs.flatMap Enc.enc

theorem encs_length {α : Type} [Enc α] (xs : List α) : (encs xs).length = xs.length * Enc.sz α := by
  induction xs with
  | nil => simp [encs]
  | cons x xs ih => simp only [encs, List.flatMap_cons, List.length_append, List.length_cons] at *; rw [ih, Enc.len, Nat.add_mul, Nat.one_mul, Nat.add_comm]

@[simp] theorem encs_append {α : Type} [Enc α] (xs ys : List α) : encs (xs ++ ys) = encs xs ++ encs ys := by simp [encs]
@[simp] theorem encs_nil {α : Type} [Enc α] : encs ([] : List α) = [] := rfl
theorem encs_cons {α : Type} [Enc α] (x : α) (xs : List α) : encs (x :: xs) = Enc.enc x ++ encs xs := by simp [encs]

theorem encs_get {α : Type} [Enc α] (xs : List α) (i j : Nat) (hi : i < xs.length) (hj : j < Enc.sz α) :
    (encs xs)[i * Enc.sz α + j]? = (Enc.enc (xs.getD i Enc.d))[j]? := by
  induction xs generalizing i with
  | nil => simp at hi
  | cons x xs ih =>
    rw [encs_cons]
    cases i with
    | zero => rw [Nat.zero_mul, Nat.zero_add, List.getElem?_append_left (by rw [Enc.len]; exact hj)]; rfl
    | succ i =>
      have hl := Enc.len x
      rw [List.getElem?_append_right (by rw [hl, Nat.add_mul]; omega), hl]
      have : (i + 1) * Enc.sz α + j - Enc.sz α = i * Enc.sz α + j := by rw [Nat.add_mul]; omega
      rw [this, ih i (by simpa using hi)]
      simp

theorem encs_set {α : Type} [Enc α] (xs : List α) (i : Nat) (x : α) (hi : i < xs.length) :
    encs (xs.set i x) = (encs xs).take (i * Enc.sz α) ++ Enc.enc x ++ (encs xs).drop (i * Enc.sz α + Enc.sz α) := by
  induction xs generalizing i with
  | nil => simp at hi
  | cons y ys ih =>
    have hl := Enc.len y
    cases i with
    | zero =>
      have h2 : Enc.sz α = (Enc.enc y).length + 0 := by omega
      rw [List.set_cons_zero, encs_cons, encs_cons, Nat.zero_mul, Nat.zero_add, h2, List.drop_length_add_append]
      simp
    | succ i =>
      have h1 : (i + 1) * Enc.sz α = (Enc.enc y).length + i * Enc.sz α := by rw [Nat.add_mul]; omega
      have h2 : (Enc.enc y).length + i * Enc.sz α + Enc.sz α = (Enc.enc y).length + (i * Enc.sz α + Enc.sz α) := by omega
      rw [List.set_cons_succ, encs_cons, ih i (by simpa using hi), encs_cons, h1, h2, List.take_length_add_append, List.drop_length_add_append]
      simp

def RL {α : Type} [Enc α] (w : World) (v : Value) (xs : List α) : Prop := rdAt w (Enc.sz α) v xs.length (encs xs)

def Tok.own {α : Type} [Enc α] (v : Value) (xs : List α) : Tok where
  fp := vfp v
  holds w := ownAt w (Enc.sz α) v xs.length (encs xs)
  loc _ _ hs h := ownAt_same hs h
  inb _ h := rdAt_inb h.rd

def fps (F : List Tok) : List Nat := F.flatMap Tok.fp
@[simp] theorem fps_nil : fps [] = [] := rfl
@[simp] theorem fps_cons (t : Tok) (F : List Tok) : fps (t :: F) = t.fp ++ fps F := by simp [fps]
@[simp] theorem fps_append (F G : List Tok) : fps (F ++ G) = fps F ++ fps G := by simp [fps]

/-! ### The state of a call: since it began at W only the blocks M, and blocks of its own, have turned -/
structure St (W : World) (M : List Nat) (F : List Tok) (w : World) : Prop where
  nodup : (fps F).Nodup
  holds : ∀ t ∈ F, t.holds w
  base : ∀ b ∈ fps F, b ∈ M ∨ W.heap.size ≤ b
  keep : ∀ b, b < W.heap.size → b ∉ M → w.heap[b]? = W.heap[b]?
  size : W.heap.size ≤ w.heap.size
  os : w.os = W.os
  tape : w.tape = W.tape
  output : w.output = W.output

/-- What a piece of a run does: it turns the tokens T into T', and leaves every other block. -/
structure Upd (w w' : World) (T T' : List Tok) : Prop where
  nodup : (fps T').Nodup
  holds : ∀ t ∈ T', t.holds w'
  base : ∀ b ∈ fps T', b ∈ fps T ∨ w.heap.size ≤ b
  keep : ∀ b, b < w.heap.size → b ∉ fps T → w'.heap[b]? = w.heap[b]?
  size : w.heap.size ≤ w'.heap.size
  os : w'.os = w.os
  tape : w'.tape = w.tape
  output : w'.output = w.output

theorem St.inb {W : World} {M : List Nat} {F : List Tok} {w : World} (h : St W M F w) : ∀ b ∈ fps F, b < w.heap.size := by
  intro b hb
  simp only [fps, List.mem_flatMap] at hb
  obtain ⟨t, ht, hb⟩ := hb
  exact t.inb w (h.holds t ht) b hb

theorem St.start {w : World} {F : List Tok} (hn : (fps F).Nodup) (hh : ∀ t ∈ F, t.holds w) : St w (fps F) F w :=
  ⟨hn, hh, fun _ hb => .inl hb, fun _ _ _ => rfl, Nat.le_refl _, rfl, rfl, rfl⟩

theorem St.upd {W : World} {M : List Nat} {T T' F : List Tok} {w w' : World} (h : St W M (T ++ F) w) (u : Upd w w' T T') : St W M (T' ++ F) w' := by
  have hn := h.nodup
  rw [fps_append, List.nodup_append] at hn
  obtain ⟨_, hnF, hdis⟩ := hn
  have hF : ∀ b ∈ fps F, w'.heap[b]? = w.heap[b]? := fun b hb =>
    u.keep b (h.inb b (by simp [hb])) (fun hT => hdis b hT b hb rfl)
  refine ⟨?_, ?_, ?_, ?_, Nat.le_trans h.size u.size, u.os.trans h.os, u.tape.trans h.tape, u.output.trans h.output⟩
  · rw [fps_append, List.nodup_append]
    refine ⟨u.nodup, hnF, fun a ha b hb hab => ?_⟩
    subst hab
    rcases u.base a ha with h1 | h1
    · exact hdis a h1 a hb rfl
    · have := h.inb a (by simp [hb]); omega
  · intro t ht
    rcases List.mem_append.1 ht with ht | ht
    · exact u.holds t ht
    · refine t.loc w w' (fun b hb => hF b ?_) (h.holds t (by simp [ht]))
      simp only [fps, List.mem_flatMap]; exact ⟨t, ht, hb⟩
  · intro b hb
    rw [fps_append, List.mem_append] at hb
    rcases hb with hb | hb
    · rcases u.base b hb with h1 | h1
      · exact h.base b (by simp [h1])
      · right; have := h.size; omega
    · exact h.base b (by simp [hb])
  · intro b hb hbM
    rw [u.keep b (Nat.lt_of_lt_of_le hb h.size) ?_, h.keep b hb hbM]
    intro hT
    rcases h.base b (by simp [hT]) with h1 | h1
    · exact hbM h1
    · omega

theorem St.perm {W : World} {M : List Nat} {F F' : List Tok} {w : World} (hp : F.Perm F') (h : St W M F w) : St W M F' w := by
  have hq : (fps F).Perm (fps F') := hp.flatMap_right _
  exact ⟨hq.nodup_iff.1 h.nodup, fun t ht => h.holds t (hp.mem_iff.2 ht), fun b hb => h.base b (hq.mem_iff.2 hb), h.keep, h.size, h.os, h.tape, h.output⟩

theorem St.drop {W : World} {M : List Nat} {F G : List Tok} {w : World} (h : St W M (F ++ G) w) : St W M F w := by
  have hn := h.nodup
  rw [fps_append, List.nodup_append] at hn
  exact ⟨hn.1, fun t ht => h.holds t (by simp [ht]), fun b hb => h.base b (by simp [hb]), h.keep, h.size, h.os, h.tape, h.output⟩

/-- F' is among F (each token once). -/
def SubT (F' F : List Tok) : Prop := ∃ G, F.Perm (F' ++ G)

theorem SubT.refl (F : List Tok) : SubT F F := ⟨[], by simp⟩
theorem SubT.nil (F : List Tok) : SubT [] F := ⟨F, by simp⟩
theorem SubT.cons {t : Tok} {F' F : List Tok} (h : SubT F' F) : SubT (t :: F') (t :: F) := by
  obtain ⟨G, h⟩ := h; exact ⟨G, h.cons t⟩
theorem SubT.skip {t : Tok} {F' F : List Tok} (h : SubT F' F) : SubT F' (t :: F) := by
  obtain ⟨G, h⟩ := h; exact ⟨t :: G, ((h.cons t)).trans List.perm_middle.symm⟩
/-- The next token that is asked for stands somewhere in F. -/
theorem SubT.pick {t : Tok} {F' A B : List Tok} (h : SubT F' (A ++ B)) : SubT (t :: F') (A ++ t :: B) := by
  obtain ⟨G, h⟩ := h; exact ⟨G, List.perm_middle.trans (h.cons t)⟩
theorem SubT.pick1 {t a : Tok} {F' B : List Tok} (h : SubT F' (a :: B)) : SubT (t :: F') (a :: t :: B) := SubT.pick (A := [a]) h
theorem SubT.pick2 {t a b : Tok} {F' B : List Tok} (h : SubT F' (a :: b :: B)) : SubT (t :: F') (a :: b :: t :: B) := SubT.pick (A := [a, b]) h
theorem SubT.pick3 {t a b c : Tok} {F' B : List Tok} (h : SubT F' (a :: b :: c :: B)) : SubT (t :: F') (a :: b :: c :: t :: B) := SubT.pick (A := [a, b, c]) h
theorem SubT.pick4 {t a b c d : Tok} {F' B : List Tok} (h : SubT F' (a :: b :: c :: d :: B)) : SubT (t :: F') (a :: b :: c :: d :: t :: B) := SubT.pick (A := [a, b, c, d]) h
theorem SubT.pick5 {t a b c d e : Tok} {F' B : List Tok} (h : SubT F' (a :: b :: c :: d :: e :: B)) : SubT (t :: F') (a :: b :: c :: d :: e :: t :: B) := SubT.pick (A := [a, b, c, d, e]) h
theorem SubT.pick6 {t a b c d e f : Tok} {F' B : List Tok} (h : SubT F' (a :: b :: c :: d :: e :: f :: B)) : SubT (t :: F') (a :: b :: c :: d :: e :: f :: t :: B) := SubT.pick (A := [a, b, c, d, e, f]) h
theorem SubT.pick7 {t x0 x1 x2 x3 x4 x5 x6 : Tok} {F' B : List Tok} (h : SubT F' (x0 :: x1 :: x2 :: x3 :: x4 :: x5 :: x6 :: B)) : SubT (t :: F') (x0 :: x1 :: x2 :: x3 :: x4 :: x5 :: x6 :: t :: B) := SubT.pick (A := [x0, x1, x2, x3, x4, x5, x6]) h
theorem SubT.pick8 {t x0 x1 x2 x3 x4 x5 x6 x7 : Tok} {F' B : List Tok} (h : SubT F' (x0 :: x1 :: x2 :: x3 :: x4 :: x5 :: x6 :: x7 :: B)) : SubT (t :: F') (x0 :: x1 :: x2 :: x3 :: x4 :: x5 :: x6 :: x7 :: t :: B) := SubT.pick (A := [x0, x1, x2, x3, x4, x5, x6, x7]) h
theorem SubT.pick9 {t x0 x1 x2 x3 x4 x5 x6 x7 x8 : Tok} {F' B : List Tok} (h : SubT F' (x0 :: x1 :: x2 :: x3 :: x4 :: x5 :: x6 :: x7 :: x8 :: B)) : SubT (t :: F') (x0 :: x1 :: x2 :: x3 :: x4 :: x5 :: x6 :: x7 :: x8 :: t :: B) := SubT.pick (A := [x0, x1, x2, x3, x4, x5, x6, x7, x8]) h
theorem SubT.pick10 {t x0 x1 x2 x3 x4 x5 x6 x7 x8 x9 : Tok} {F' B : List Tok} (h : SubT F' (x0 :: x1 :: x2 :: x3 :: x4 :: x5 :: x6 :: x7 :: x8 :: x9 :: B)) : SubT (t :: F') (x0 :: x1 :: x2 :: x3 :: x4 :: x5 :: x6 :: x7 :: x8 :: x9 :: t :: B) := SubT.pick (A := [x0, x1, x2, x3, x4, x5, x6, x7, x8, x9]) h
theorem SubT.pick11 {t x0 x1 x2 x3 x4 x5 x6 x7 x8 x9 x10 : Tok} {F' B : List Tok} (h : SubT F' (x0 :: x1 :: x2 :: x3 :: x4 :: x5 :: x6 :: x7 :: x8 :: x9 :: x10 :: B)) : SubT (t :: F') (x0 :: x1 :: x2 :: x3 :: x4 :: x5 :: x6 :: x7 :: x8 :: x9 :: x10 :: t :: B) := SubT.pick (A := [x0, x1, x2, x3, x4, x5, x6, x7, x8, x9, x10]) h
theorem SubT.pick12 {t x0 x1 x2 x3 x4 x5 x6 x7 x8 x9 x10 x11 : Tok} {F' B : List Tok} (h : SubT F' (x0 :: x1 :: x2 :: x3 :: x4 :: x5 :: x6 :: x7 :: x8 :: x9 :: x10 :: x11 :: B)) : SubT (t :: F') (x0 :: x1 :: x2 :: x3 :: x4 :: x5 :: x6 :: x7 :: x8 :: x9 :: x10 :: x11 :: t :: B) := SubT.pick (A := [x0, x1, x2, x3, x4, x5, x6, x7, x8, x9, x10, x11]) h
theorem SubT.pick13 {t x0 x1 x2 x3 x4 x5 x6 x7 x8 x9 x10 x11 x12 : Tok} {F' B : List Tok} (h : SubT F' (x0 :: x1 :: x2 :: x3 :: x4 :: x5 :: x6 :: x7 :: x8 :: x9 :: x10 :: x11 :: x12 :: B)) : SubT (t :: F') (x0 :: x1 :: x2 :: x3 :: x4 :: x5 :: x6 :: x7 :: x8 :: x9 :: x10 :: x11 :: x12 :: t :: B) := SubT.pick (A := [x0, x1, x2, x3, x4, x5, x6, x7, x8, x9, x10, x11, x12]) h
theorem SubT.pick14 {t x0 x1 x2 x3 x4 x5 x6 x7 x8 x9 x10 x11 x12 x13 : Tok} {F' B : List Tok} (h : SubT F' (x0 :: x1 :: x2 :: x3 :: x4 :: x5 :: x6 :: x7 :: x8 :: x9 :: x10 :: x11 :: x12 :: x13 :: B)) : SubT (t :: F') (x0 :: x1 :: x2 :: x3 :: x4 :: x5 :: x6 :: x7 :: x8 :: x9 :: x10 :: x11 :: x12 :: x13 :: t :: B) := SubT.pick (A := [x0, x1, x2, x3, x4, x5, x6, x7, x8, x9, x10, x11, x12, x13]) h
theorem SubT.pick15 {t x0 x1 x2 x3 x4 x5 x6 x7 x8 x9 x10 x11 x12 x13 x14 : Tok} {F' B : List Tok} (h : SubT F' (x0 :: x1 :: x2 :: x3 :: x4 :: x5 :: x6 :: x7 :: x8 :: x9 :: x10 :: x11 :: x12 :: x13 :: x14 :: B)) : SubT (t :: F') (x0 :: x1 :: x2 :: x3 :: x4 :: x5 :: x6 :: x7 :: x8 :: x9 :: x10 :: x11 :: x12 :: x13 :: x14 :: t :: B) := SubT.pick (A := [x0, x1, x2, x3, x4, x5, x6, x7, x8, x9, x10, x11, x12, x13, x14]) h

theorem SubT.trans {F G H : List Tok} (h : SubT F G) (k : SubT G H) : SubT F H := by
  obtain ⟨A, h⟩ := h; obtain ⟨B, k⟩ := k
  exact ⟨A ++ B, k.trans (by rw [← List.append_assoc]; exact h.append_right B)⟩

theorem St.sub {W : World} {M : List Nat} {F F' : List Tok} {w : World} (hs : SubT F' F) (h : St W M F w) : St W M F' w := by
  obtain ⟨G, hp⟩ := hs; exact (h.perm hp).drop

theorem St.rd {α : Type} [Enc α] {W : World} {M : List Nat} {F : List Tok} {w : World} {v : Value} {xs : List α} (h : St W M F w) (hM : ∀ b ∈ vfp v, b ∉ M) (hr : RL W v xs) : RL w v xs :=
  rdAt_same (fun b hb => h.keep b (rdAt_inb hr b hb) (hM b hb)) h.size hr

theorem St.own {α : Type} [Enc α] {W : World} {M : List Nat} {F : List Tok} {w : World} {v : Value} {xs : List α} (h : St W M F w) (hm : Tok.own v xs ∈ F) : ownAt w (Enc.sz α) v xs.length (encs xs) :=
  h.holds _ hm

theorem St.blk {W : World} {M : List Nat} {F : List Tok} {w : World} {b : Nat} {cs : List Value} (h : St W M F w) (hm : Tok.blk b cs ∈ F) : blkAt w b cs := h.holds _ hm

theorem St.drew {W : World} {M : List Nat} {F : List Tok} {w : World} (h : St W M F w) : St W M F { w with drawn := w.drawn + 1 } :=
  ⟨h.nodup, fun t ht => t.loc w _ (fun _ _ => rfl) (h.holds t ht), h.base, h.keep, h.size, h.os, h.tape, h.output⟩

theorem St.toUpd {W : World} {F F' : List Tok} {w : World} (h : St W (fps F) F' w) : Upd W w F F' :=
  ⟨h.nodup, h.holds, h.base, h.keep, h.size, h.os, h.tape, h.output⟩

/-! ### Frames: a list of known slots -/
def lk : List (Nat × Value) → Nat → Option Value
  | [], _ => none
  | (k, v) :: r, t => bif Nat.beq k t then some v else lk r t

def look (l : List (Nat × Value)) : Operand → Option Value
  | .tmp t => lk l t
  | .const v => some v
  | .global g => some (.pointer (some ⟨g, 0, none⟩))
  | .func f => some (.func (.func f) #[] #[])

structure Has (n : Nat) (l : List (Nat × Value)) (a : Act) : Prop where
  size : a.tmps.size = n
  defers : a.defers = []
  get : ∀ t v, lk l t = some v → a.tmps[t]? = some v

theorem Has.eval {n : Nat} {l : List (Nat × Value)} {a : Act} (h : Has n l a) {x : Operand} {v : Value} (hx : look l x = some v) : a.eval x = v := by
  cases x with
  | tmp t => have := h.get t v hx; simp [Act.eval, Array.getD_eq_getD_getElem?, this]
  | const c => simpa [look, Act.eval] using hx
  | global g => simpa [look, Act.eval] using hx
  | func f => simpa [look, Act.eval] using hx

theorem Has.put {n d : Nat} {l : List (Nat × Value)} {a : Act} (h : Has n l a) (hd : Nat.blt d n = true) (v : Value) : Has n ((d, v) :: l) (a.put (some d) v) := by
  have hd' : d < n := Nat.lt_of_succ_le (by simpa [Nat.blt] using hd)
  refine ⟨by simp [Act.put, h.size], by simp [Act.put, h.defers], fun t u hu => ?_⟩
  simp only [lk, Act.put] at *
  by_cases e : d = t
  · subst e
    simp at hu
    subst hu
    simp [h.size, hd']
  · have : Nat.beq d t = false := by
      cases hb : Nat.beq d t
      · rfl
      · exact absurd (Nat.eq_of_beq_eq_true hb) e
    rw [this] at hu
    simp at hu
    rw [Array.getElem?_setIfInBounds_ne e]
    exact h.get t u hu

theorem Has.know {n d : Nat} {l : List (Nat × Value)} {a : Act} {v : Value} (h : Has n l a) (hb : lk l d = some v) : Has n ((d, v) :: l) a := by
  refine ⟨h.size, h.defers, fun t u hu => ?_⟩
  simp only [lk] at hu
  by_cases e : Nat.beq d t = true
  · rw [e] at hu
    simp at hu
    subst hu
    rw [← Nat.eq_of_beq_eq_true e]
    exact h.get d v hb
  · simp only [Bool.not_eq_true] at e
    rw [e] at hu
    exact h.get t u (by simpa using hu)

/-- Every slot of l' is known to l, with the same value. -/
def SubE : List (Nat × Value) → List (Nat × Value) → Prop
  | [], _ => True
  | (t, v) :: r, l => lk l t = some v ∧ SubE r l

theorem SubE.get {l' l : List (Nat × Value)} (h : SubE l' l) : ∀ t v, lk l' t = some v → lk l t = some v := by
  induction l' with
  | nil => intro t v h; simp [lk] at h
  | cons p r ih =>
    obtain ⟨k, u⟩ := p
    intro t v hv
    simp only [lk] at hv
    by_cases e : Nat.beq k t = true
    · rw [e] at hv
      simp at hv
      subst hv
      rw [← Nat.eq_of_beq_eq_true e]
      exact h.1
    · simp only [Bool.not_eq_true] at e
      rw [e] at hv
      exact ih h.2 t v (by simpa using hv)

theorem Has.sub {n : Nat} {l l' : List (Nat × Value)} {a : Act} (h : Has n l a) (hs : SubE l' l) : Has n l' a :=
  ⟨h.size, h.defers, fun t v hv => h.get t v (hs.get t v hv)⟩

/-! ### Judgements -/
structure Ctx where
  n : Nat
  W : World
  M : List Nat

def WP (P : Program) (G : Ctx) (c : Code) (l : List (Nat × Value)) (F : List Tok) (Q : Exit → Act → World → Prop) : Prop :=
  ∀ a w, Has G.n l a → St G.W G.M F w → c.wp P Q a w
def WPL (P : Program) (G : Ctx) (ops : Array Oper) (rest : List Oper) (l : List (Nat × Value)) (F : List Tok) (Q : Exit → Act → World → Prop) : Prop :=
  ∀ a w, Has G.n l a → St G.W G.M F w → wpList P ops Q rest a w
def PE (G : Ctx) (e : Exit) (l : List (Nat × Value)) (F : List Tok) (Q : Exit → Act → World → Prop) : Prop :=
  ∀ a w, Has G.n l a → St G.W G.M F w → Q e a w

section rules
variable {P : Program} {G : Ctx} {l : List (Nat × Value)} {F : List Tok} {Q : Exit → Act → World → Prop}

theorem WP.seq {x y : Code} (h : WP P G x l F (Exit.then (fun a w => y.wp P Q a w) Q)) : WP P G (.seq x y) l F Q :=
  fun a w ha hw => wp_seq (h a w ha hw)
theorem WP.block {id : Nat} {c : Code} (h : WP P G c l F (Exit.inBlock id Q)) : WP P G (.block id c) l F Q :=
  fun a w ha hw => wp_block (h a w ha hw)
theorem WP.skip (h : PE G .normal l F Q) : WP P G .skip l F Q := fun a w ha hw => wp_skip (h a w ha hw)
theorem WP.ret (h : PE G .ret l F Q) : WP P G .ret l F Q := fun a w ha hw => wp_ret (h a w ha hw)
theorem WP.exit {id : Nat} (h : PE G (.exit id) l F Q) : WP P G (.exit id) l F Q := fun a w ha hw => wp_exit (h a w ha hw)
theorem WP.condT {c : Operand} {x y : Code} (hc : look l c = some (.bool true)) (h : WP P G x l F Q) : WP P G (.cond c x y) l F Q :=
  fun a w ha hw => wp_cond_true (ha.eval hc) (h a w ha hw)
theorem WP.condF {c : Operand} {x y : Code} (hc : look l c = some (.bool false)) (h : WP P G y l F Q) : WP P G (.cond c x y) l F Q :=
  fun a w ha hw => wp_cond_false (ha.eval hc) (h a w ha hw)
theorem WP.cond {c : Operand} {x y : Code} {b : Bool} (hc : look l c = some (.bool b)) (ht : b = true → WP P G x l F Q) (hf : b = false → WP P G y l F Q) : WP P G (.cond c x y) l F Q :=
  fun a w ha hw => wp_cond_split (ha.eval hc) (fun h => ht h a w ha hw) (fun h => hf h a w ha hw)
theorem WP.condD {c : Operand} {x y : Code} {p : Prop} [Decidable p] (hc : look l c = some (.bool (decide p))) (ht : p → WP P G x l F Q) (hf : ¬p → WP P G y l F Q) : WP P G (.cond c x y) l F Q :=
  WP.cond hc (fun h => ht (of_decide_eq_true h)) (fun h => hf (of_decide_eq_false h))
theorem WP.region {id : Nat} {L : List Oper} (h : WPL P G L.toArray L l F Q) : WP P G (.region id L.toArray false) l F Q :=
  fun a w ha hw => wp_region_lit (h a w ha hw)
theorem WPL.nil {ops : Array Oper} (h : PE G .normal l F Q) : WPL P G ops [] l F Q := fun a w ha hw => wpList_nil (h a w ha hw)

theorem PE.next {y : Code} (h : WP P G y l F Q) : PE G .normal l F (Exit.then (fun a w => y.wp P Q a w) Q) := h
theorem PE.thenRet {K : Act → World → Prop} (h : PE G .ret l F Q) : PE G .ret l F (Exit.then K Q) := h
theorem PE.thenExit {K : Act → World → Prop} {id : Nat} (h : PE G (.exit id) l F Q) : PE G (.exit id) l F (Exit.then K Q) := h
theorem PE.inBlockRet {id : Nat} (h : PE G .ret l F Q) : PE G .ret l F (Exit.inBlock id Q) := h
theorem PE.inBlockNormal {id : Nat} (h : PE G .normal l F Q) : PE G .normal l F (Exit.inBlock id Q) := h
theorem PE.inBlockSame {id : Nat} (h : PE G .normal l F Q) : PE G (.exit id) l F (Exit.inBlock id Q) := fun a w ha hw => by
  simp only [Exit.inBlock, if_true]; exact h a w ha hw
theorem PE.inBlockOther {id id' : Nat} (hne : Nat.beq id' id = false) (h : PE G (.exit id') l F Q) : PE G (.exit id') l F (Exit.inBlock id Q) := fun a w ha hw => by
  have : id' ≠ id := fun e => by subst e; simp at hne
  simp only [Exit.inBlock, this, if_false]; exact h a w ha hw

theorem WP.sub {c : Code} {l' : List (Nat × Value)} {F' : List Tok} (hl : SubE l' l) (hF : SubT F' F) (h : WP P G c l' F' Q) : WP P G c l F Q :=
  fun a w ha hw => h a w (ha.sub hl) (hw.sub hF)
theorem WPL.sub {ops : Array Oper} {rest : List Oper} {l' : List (Nat × Value)} {F' : List Tok} (hl : SubE l' l) (hF : SubT F' F) (h : WPL P G ops rest l' F' Q) : WPL P G ops rest l F Q :=
  fun a w ha hw => h a w (ha.sub hl) (hw.sub hF)
theorem PE.sub {e : Exit} {l' : List (Nat × Value)} {F' : List Tok} (hl : SubE l' l) (hF : SubT F' F) (h : PE G e l' F' Q) : PE G e l F Q :=
  fun a w ha hw => h a w (ha.sub hl) (hw.sub hF)
theorem WP.perm {c : Code} {F' : List Tok} (hF : F.Perm F') (h : WP P G c l F' Q) : WP P G c l F Q :=
  fun a w ha hw => h a w ha (hw.perm hF)
theorem WPL.perm {ops : Array Oper} {rest : List Oper} {F' : List Tok} (hF : F.Perm F') (h : WPL P G ops rest l F' Q) : WPL P G ops rest l F Q :=
  fun a w ha hw => h a w ha (hw.perm hF)

/-- Behind a piece of code: some ghost state s that meets φ, the slots L s, the tokens T s. -/
def Mid {σ : Type} (G : Ctx) (L : σ → List (Nat × Value)) (T : σ → List Tok) (φ : σ → Prop) (a : Act) (w : World) : Prop :=
  ∃ s, φ s ∧ Has G.n (L s) a ∧ St G.W G.M (T s) w

theorem PE.mid {σ : Type} {L : σ → List (Nat × Value)} {T : σ → List Tok} {φ : σ → Prop} (s : σ) (hφ : φ s) (hL : SubE (L s) l) (hT : SubT (T s) F) :
    PE G .normal l F (Exit.then (Mid G L T φ) Q) := fun _ _ ha hw => ⟨s, hφ, ha.sub hL, hw.sub hT⟩

/-- A cut: x comes to a state of the named form, from which y goes on. -/
theorem WP.cut {σ : Type} (L : σ → List (Nat × Value)) (T : σ → List Tok) (φ : σ → Prop) {x y : Code} (hx : WP P G x l F (Exit.then (Mid G L T φ) Q))
    (hy : ∀ s, φ s → WP P G y (L s) (T s) Q) : WP P G (.seq x y) l F Q := fun a w ha hw =>
  wp_seq (Code.wp_mono (fun e a' w' h => by
    cases e with
    | normal => obtain ⟨s, hs, h1, h2⟩ := h; exact hy s hs a' w' h1 h2
    | _ => exact h) (hx a w ha hw))

theorem WP.cutK {σ : Type} (L : σ → List (Nat × Value)) (T : σ → List Tok) (φ : σ → Prop) {x y : Code} (hx : WP P G x l F (Exit.then (Mid G L T φ) Q))
    (hy : ∀ s, φ s → WP P G y (L s) (T s) Q) : WP P G x l F (Exit.then (fun a w => y.wp P Q a w) Q) := fun a w ha hw =>
  Code.wp_mono (fun e a' w' h => by
    cases e with
    | normal => obtain ⟨s, hs, h1, h2⟩ := h; exact hy s hs a' w' h1 h2
    | _ => exact h) (hx a w ha hw)

/-- The end of a loop's round. -/
def Again {σ : Type} (G : Ctx) (L : σ → List (Nat × Value)) (T : σ → List Tok) (φ : σ → Prop) (μ : σ → Nat) (s : σ) (a : Act) (w : World) : Prop :=
  ∃ s', φ s' ∧ μ s' < μ s ∧ Has G.n (L s') a ∧ St G.W G.M (T s') w

theorem PE.again {σ : Type} {L : σ → List (Nat × Value)} {T : σ → List Tok} {φ : σ → Prop} {μ : σ → Nat} {s : σ} (s' : σ) (hφ : φ s') (hμ : μ s' < μ s) (hL : SubE (L s') l) (hT : SubT (T s') F) :
    PE G .normal l F (Exit.then (Again G L T φ μ s) Q) := fun _ _ ha hw => ⟨s', hφ, hμ, ha.sub hL, hw.sub hT⟩

theorem WP.loop {σ : Type} (L : σ → List (Nat × Value)) (T : σ → List Tok) (φ : σ → Prop) (μ : σ → Nat) (s₀ : σ) {c : Code} (h₀ : φ s₀) (hL : SubE (L s₀) l) (hT : SubT (T s₀) F)
    (round : ∀ s, φ s → WP P G c (L s) (T s) (Exit.then (Again G L T φ μ s) Q)) : WP P G (.loop c) l F Q := by
  intro a w ha hw b k cs
  have key : ∀ n s a w, μ s = n → φ s → Has G.n (L s) a → St G.W G.M (T s) w →
      ∃ e a' w', Q e a' w' ∧ Arrives P (lone (b.at a (.code c :: .inLoop c :: k)) cs w) b k cs e a' w' := by
    intro n
    induction n using Nat.strongRecOn with
    | _ n ih =>
      intro s a w hn hs ha hw
      obtain ⟨e, a₁, w₁, hq, harr⟩ := round s hs a w ha hw b (.inLoop c :: k) cs
      cases e with
      | normal =>
        obtain ⟨s', hs', hlt, h1, h2⟩ := hq
        obtain ⟨e₂, a₂, w₂, hq₂, harr₂⟩ := ih (μ s') (hn ▸ hlt) s' a₁ w₁ rfl hs' h1 h2
        exact ⟨e₂, a₂, w₂, hq₂, .of_steps (Steps.trans harr (.one step_inLoop)) harr₂⟩
      | exit id => exact ⟨_, a₁, w₁, hq, .pass (x := .inLoop c) rfl (fun _ _ => .inl (by simp)) harr⟩
      | goto l => exact ⟨_, a₁, w₁, hq, .pass (x := .inLoop c) rfl (fun _ _ => .inl (by simp)) harr⟩
      | ret => exact ⟨_, a₁, w₁, hq, .pass (x := .inLoop c) rfl (fun _ _ => .inl (by simp)) harr⟩
      | panic ch => exact ⟨_, a₁, w₁, hq, .pass (x := .inLoop c) rfl (fun _ _ => .inl (by simp)) harr⟩
      | outgrown => exact ⟨_, a₁, w₁, hq, .pass (x := .inLoop c) rfl (fun _ _ => .inl (by simp)) harr⟩
  obtain ⟨e, a', w', hq, harr⟩ := key _ s₀ a w rfl h₀ (ha.sub hL) (hw.sub hT)
  exact ⟨e, a', w', hq, .of_steps (.one step_loop) harr⟩

/-! ### Operations -/
/-- A pure operation: it yields v and leaves the world. -/
def Op1 (P : Program) (G : Ctx) (op : Op) (l : List (Nat × Value)) (F : List Tok) (v : Value) : Prop :=
  ∀ o : Oper, o.op = op → ∀ a w, Has G.n l a → St G.W G.M F w → (execOp a.eval o).run P w = .ok (.value v) w
/-- An operation that may turn the world. -/
def OpE (P : Program) (G : Ctx) (op : Op) (l : List (Nat × Value)) (F : List Tok) (post : Value → List Tok → Prop) : Prop :=
  ∀ o : Oper, o.op = op → ∀ a w, Has G.n l a → St G.W G.M F w → ∀ (K : Act → World → Prop) (Q : Exit → Act → World → Prop),
    (∀ v F' w', post v F' → St G.W G.M F' w' → K (a.put o.dst v) w') → o.wp P a w K Q

/-- Whether an operation's guard asks for it (none: not decided). -/
def asked (ops : Array Oper) (l : List (Nat × Value)) : Option (Nat × Bool) → Option Bool
  | none => some true
  | some (j, want) => match (ops[j]?).bind (·.dst) with
    | some d => match lk l d with
      | some (.bool b) => some (b == want)
      | some (.tuple _) => some false
      | _ => none
    | none => none

theorem asked_wanted {ops : Array Oper} {o : Oper} {b : Bool} {n : Nat} {a : Act} (ha : Has n l a) (h : asked ops l o.guard = some b) : Region.wanted o (yielded ops a.tmps) = b := by
  unfold asked at h
  unfold Region.wanted
  cases hg : o.guard with
  | none => rw [hg] at h; simpa using h
  | some p =>
    obtain ⟨j, want⟩ := p
    rw [hg] at h
    simp only at h ⊢
    cases hd : (ops[j]?).bind (·.dst) with
    | none => rw [hd] at h; simp at h
    | some d =>
      rw [hd] at h
      simp only at h
      cases hl : lk l d with
      | none => rw [hl] at h; simp at h
      | some v =>
        rw [hl] at h
        have hy := ha.get d v hl
        cases v <;> simp at h
        · subst h
          simp [yielded, hd, hy]
        · subst h
          simp [yielded, hd, hy]

theorem WPL.pure {ops : Array Oper} {d : Nat} {op : Op} {ty : TypeId} {pos : String} {after : Array Edge} {g : Option (Nat × Bool)} {rest : List Oper} {v : Value}
    (h : Op1 P G op l F v) (hg : asked ops l g = some true) (hd : Nat.blt d G.n = true) (k : WPL P G ops rest ((d, v) :: l) F Q) :
    WPL P G ops (⟨some d, op, ty, pos, after, g⟩ :: rest) l F Q := fun a w ha hw => by
  have hwt := asked_wanted (o := ⟨some d, op, ty, pos, after, g⟩) ha hg
  unfold wpList
  rw [if_pos hwt]
  refine .inl ?_
  unfold Oper.wp
  rw [h _ rfl a w ha hw]
  exact k _ _ (ha.put hd v) hw

theorem WPL.skip {ops : Array Oper} {d : Nat} {op : Op} {ty : TypeId} {pos : String} {after : Array Edge} {g : Option (Nat × Bool)} {rest : List Oper}
    (hg : asked ops l g = some false) (hd : Nat.blt d G.n = true) (k : WPL P G ops rest ((d, undef) :: l) F Q) :
    WPL P G ops (⟨some d, op, ty, pos, after, g⟩ :: rest) l F Q := fun a w ha hw => by
  have hwt := asked_wanted (o := ⟨some d, op, ty, pos, after, g⟩) ha hg
  unfold wpList
  rw [if_neg (by simp [hwt])]
  exact k _ _ (ha.put hd undef) hw

/-- The guard's temporary is decided now. -/
theorem WPL.split {ops : Array Oper} {op : Op} {ty : TypeId} {pos : String} {after : Array Edge} {j : Nat} {want : Bool} {dst : Option Nat} {rest : List Oper} {d : Nat} {b : Bool}
    (_hj : (ops[j]?).bind (·.dst) = some d) (hb : lk l d = some (.bool b))
    (ht : b = true → WPL P G ops (⟨dst, op, ty, pos, after, some (j, want)⟩ :: rest) ((d, .bool true) :: l) F Q)
    (hf : b = false → WPL P G ops (⟨dst, op, ty, pos, after, some (j, want)⟩ :: rest) ((d, .bool false) :: l) F Q) :
    WPL P G ops (⟨dst, op, ty, pos, after, some (j, want)⟩ :: rest) l F Q := fun a w ha hw => by
  have key : ∀ c : Bool, b = c → Has G.n ((d, .bool c) :: l) a := fun c hc => ha.know (hc ▸ hb)
  cases b with
  | true => exact ht rfl a w (key true rfl) hw
  | false => exact hf rfl a w (key false rfl) hw
theorem WPL.splitD {ops : Array Oper} {op : Op} {ty : TypeId} {pos : String} {after : Array Edge} {j : Nat} {want : Bool} {dst : Option Nat} {rest : List Oper} {d : Nat} {p : Prop} [Decidable p]
    (hj : (ops[j]?).bind (·.dst) = some d) (hb : lk l d = some (.bool (decide p)))
    (ht : p → WPL P G ops (⟨dst, op, ty, pos, after, some (j, want)⟩ :: rest) ((d, .bool true) :: l) F Q)
    (hf : ¬p → WPL P G ops (⟨dst, op, ty, pos, after, some (j, want)⟩ :: rest) ((d, .bool false) :: l) F Q) :
    WPL P G ops (⟨dst, op, ty, pos, after, some (j, want)⟩ :: rest) l F Q :=
  WPL.split hj hb (fun h => ht (of_decide_eq_true h)) (fun h => hf (of_decide_eq_false h))
end rules
end Go.Proofs.Ythlgbeakcobeoaa
