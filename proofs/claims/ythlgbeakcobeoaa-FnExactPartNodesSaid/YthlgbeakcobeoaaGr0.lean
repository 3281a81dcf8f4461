/- Graphs: connection, and the least nodes of connected parts. Conditions: none. -/
import Derived.Test.YthlgbeakcobeoaaData
namespace Go.Proofs.Ythlgbeakcobeoaa
open Go

theorem getD_setI (l : List Int) (i j : Nat) (v : Int) : (l.set i v).getD j 0 = if i = j ∧ i < l.length then v else l.getD j 0 := by
  rw [List.getD_eq_getElem?_getD, List.getD_eq_getElem?_getD, List.getElem?_set]
  by_cases h : i = j
  · subst h
    by_cases h2 : i < l.length
    · simp [h2]
    · simp [h2]
  · simp [h]
theorem getD_memI {α : Type} {l : List α} {d : α} {i : Nat} (h : i < l.length) : l.getD i d ∈ l := by
  rw [List.getD_eq_getElem?_getD, List.getElem?_eq_getElem h]; exact List.getElem_mem h
theorem mem_getD {α : Type} {l : List α} {d x : α} (h : x ∈ l) : ∃ i, i < l.length ∧ l.getD i d = x := by
  obtain ⟨i, hi, rfl⟩ := List.getElem_of_mem h
  exact ⟨i, hi, by rw [List.getD_eq_getElem?_getD, List.getElem?_eq_getElem hi]; rfl⟩
theorem take_succD {α : Type} (d : α) : ∀ {l : List α} {j : Nat}, j < l.length → l.take (j + 1) = l.take j ++ [l.getD j d]
  | [], j, h => by simp at h
  | a :: l, 0, _ => by simp
  | a :: l, j + 1, h => by
    have := take_succD d (l := l) (j := j) (by simpa using h)
    rw [List.take_succ_cons, this]; rfl
theorem foldl_takeS {α β : Type} (d : α) (f : β → α → β) (a : β) {l : List α} {j : Nat} (h : j < l.length) : (l.take (j + 1)).foldl f a = f ((l.take j).foldl f a) (l.getD j d) := by
  rw [take_succD d h, List.foldl_append]; rfl
theorem list_extD {l l' : List Int} (hl : l.length = l'.length) (h : ∀ i, i < l.length → l.getD i 0 = l'.getD i 0) : l = l' := by
  refine List.ext_getElem hl fun i h1 h2 => ?_
  have := h i h1
  rw [List.getD_eq_getElem?_getD, List.getD_eq_getElem?_getD, List.getElem?_eq_getElem h1, List.getElem?_eq_getElem h2] at this
  exact this
theorem pigeonI : ∀ {n : Nat} {l : List Int}, (∀ a ∈ l, 0 ≤ a ∧ a < n) → l.Nodup → l.length ≤ n
  | 0, l, h, _ => by
    cases l with
    | nil => simp
    | cons a l => have := h a (by simp); omega
  | n + 1, l, h, hd => by
    have h1 := pigeonI (n := n) (l := l.erase (n : Int)) (fun a ha => by
      have := (hd.mem_erase_iff).1 ha
      have h2 := h a this.2
      have h3 := this.1
      omega) (hd.erase _)
    have := List.length_erase (a := (n : Int)) (l := l)
    split at this <;> omega

/-! ### Connection -/
def Adj (es : List E) (y z : Int) : Prop := ∃ e ∈ es, (e.A = y ∧ e.B = z) ∨ (e.A = z ∧ e.B = y)
inductive Conn (es : List E) (x : Int) : Int → Prop
  | refl : Conn es x x
  | step {y z : Int} : Conn es x y → Adj es y z → Conn es x z

theorem Adj.symm {es : List E} {y z : Int} (h : Adj es y z) : Adj es z y := by
  obtain ⟨e, he, h⟩ := h; exact ⟨e, he, h.symm⟩
theorem Adj.mono {es es' : List E} (hs : ∀ e ∈ es, e ∈ es') {y z : Int} (h : Adj es y z) : Adj es' y z := by
  obtain ⟨e, he, h⟩ := h; exact ⟨e, hs e he, h⟩
theorem Conn.trans {es : List E} {x y z : Int} (h1 : Conn es x y) (h2 : Conn es y z) : Conn es x z := by
  induction h2 with
  | refl => exact h1
  | step _ h ih => exact ih.step h
theorem Conn.adj {es : List E} {x y : Int} (h : Adj es x y) : Conn es x y := Conn.refl.step h
theorem Conn.symm {es : List E} {x y : Int} (h : Conn es x y) : Conn es y x := by
  induction h with
  | refl => exact .refl
  | step _ h ih => exact (Conn.adj h.symm).trans ih
theorem Conn.mono {es es' : List E} (hs : ∀ e ∈ es, e ∈ es') {x y : Int} (h : Conn es x y) : Conn es' x y := by
  induction h with
  | refl => exact .refl
  | step _ h ih => exact ih.step (h.mono hs)
theorem Conn.edge {es : List E} {e : E} (h : e ∈ es) : Conn es e.A e.B := .adj ⟨e, h, .inl ⟨rfl, rfl⟩⟩
theorem Conn.edge' {es : List E} {e : E} (h : e ∈ es) : Conn es e.B e.A := (Conn.edge h).symm
theorem conn_nil {x y : Int} : Conn [] x y ↔ x = y := by
  constructor
  · intro h
    induction h with
    | refl => rfl
    | step _ h _ => obtain ⟨e, he, _⟩ := h; cases he
  · rintro rfl; exact .refl
theorem conn_cons {e : E} {es : List E} {x y : Int} : Conn (e :: es) x y ↔ Conn es x y ∨ (Conn es x e.A ∧ Conn es e.B y) ∨ (Conn es x e.B ∧ Conn es e.A y) := by
  have hs : ∀ f ∈ es, f ∈ e :: es := fun f hf => List.mem_cons_of_mem _ hf
  constructor
  · intro h
    induction h with
    | refl => exact .inl .refl
    | step _ h ih =>
      obtain ⟨f, hf, h⟩ := h
      rcases List.mem_cons.1 hf with rfl | hf
      · rcases h with ⟨rfl, rfl⟩ | ⟨rfl, rfl⟩
        · rcases ih with h1 | ⟨h1, _⟩ | ⟨h1, _⟩
          · exact .inr (.inl ⟨h1, .refl⟩)
          · exact .inr (.inl ⟨h1, .refl⟩)
          · exact .inl h1
        · rcases ih with h1 | ⟨h1, _⟩ | ⟨h1, _⟩
          · exact .inr (.inr ⟨h1, .refl⟩)
          · exact .inl h1
          · exact .inr (.inr ⟨h1, .refl⟩)
      · have ha : Adj es _ _ := ⟨f, hf, h⟩
        rcases ih with h1 | ⟨h1, h2⟩ | ⟨h1, h2⟩
        · exact .inl (h1.step ha)
        · exact .inr (.inl ⟨h1, h2.step ha⟩)
        · exact .inr (.inr ⟨h1, h2.step ha⟩)
  · have e1 : Conn (e :: es) e.A e.B := .edge (by simp)
    rintro (h | ⟨h1, h2⟩ | ⟨h1, h2⟩)
    · exact h.mono hs
    · exact ((h1.mono hs).trans e1).trans (h2.mono hs)
    · exact ((h1.mono hs).trans e1.symm).trans (h2.mono hs)
/-- Edges without one of them. -/
def rem (es : List E) (e : E) : List E := es.filter fun f => decide (f ≠ e)
theorem mem_rem {es : List E} {e f : E} : f ∈ rem es e ↔ f ∈ es ∧ f ≠ e := by simp [rem, List.mem_filter]
theorem rem_sub {es : List E} {e : E} : ∀ f ∈ rem es e, f ∈ es := fun _ h => (mem_rem.1 h).1
theorem conn_rem {es : List E} {e : E} (he : e ∈ es) {x y : Int} : Conn es x y ↔ Conn (rem es e) x y ∨ (Conn (rem es e) x e.A ∧ Conn (rem es e) e.B y) ∨ (Conn (rem es e) x e.B ∧ Conn (rem es e) e.A y) := by
  rw [← conn_cons]
  refine ⟨fun h => h.mono fun f hf => ?_, fun h => h.mono fun f hf => ?_⟩
  · by_cases h1 : f = e
    · rw [h1]; simp
    · exact List.mem_cons_of_mem _ (mem_rem.2 ⟨hf, h1⟩)
  · rcases List.mem_cons.1 hf with rfl | hf
    · exact he
    · exact rem_sub f hf

/-! ### Labels -/
def Nd (n x : Int) : Prop := 0 ≤ x ∧ x < n
instance (n x : Int) : Decidable (Nd n x) := by unfold Nd; infer_instance
def okE (n : Int) (es : List E) : Prop := ∀ e ∈ es, Nd n e.A ∧ Nd n e.B
theorem okE.sub {n : Int} {es es' : List E} (h : okE n es) (hs : ∀ e ∈ es', e ∈ es) : okE n es' := fun e he => h e (hs e he)
theorem Adj.nd {n : Int} {es : List E} (h : okE n es) {y z : Int} (ha : Adj es y z) : Nd n z := by
  obtain ⟨e, he, ⟨_, rfl⟩ | ⟨rfl, _⟩⟩ := ha
  · exact (h e he).2
  · exact (h e he).1
theorem Conn.nd {n : Int} {es : List E} (h : okE n es) {x y : Int} (hc : Conn es x y) (hx : Nd n x) : Nd n y := by
  cases hc with
  | refl => exact hx
  | step _ ha => exact ha.nd h

def relx (out : List Int) (e : E) : List Int := (out.set e.A.toNat (min (out.getD e.A.toNat 0) (out.getD e.B.toNat 0))).set e.B.toNat (min (out.getD e.A.toNat 0) (out.getD e.B.toNat 0))
theorem relx_length (out : List Int) (e : E) : (relx out e).length = out.length := by simp [relx]
theorem relx_get {n : Int} {out : List Int} {e : E} (hl : out.length = n.toNat) (hA : Nd n e.A) (hB : Nd n e.B) {x : Int} (hx : Nd n x) :
    (relx out e).getD x.toNat 0 = if x = e.A ∨ x = e.B then min (out.getD e.A.toNat 0) (out.getD e.B.toNat 0) else out.getD x.toNat 0 := by
  unfold Nd at *
  rw [relx, getD_setI, getD_setI, List.length_set, hl]
  by_cases h1 : x = e.B
  · subst h1; rw [if_pos ⟨rfl, by omega⟩, if_pos (Or.inr rfl)]
  · rw [if_neg (by omega)]
    by_cases h2 : x = e.A
    · subst h2; rw [if_pos ⟨rfl, by omega⟩, if_pos (Or.inl rfl)]
    · rw [if_neg (by omega), if_neg (by omega)]
def rnd (es : List E) (out : List Int) : Nat → List Int
  | 0 => out
  | k + 1 => es.foldl relx (rnd es out k)
def iota (n : Nat) : List Int := (List.range n).map fun (i : Nat) => (i : Int)
theorem iota_length (n : Nat) : (iota n).length = n := by simp [iota]
theorem iota_succ (n : Nat) : iota (n + 1) = iota n ++ [(n : Int)] := by simp [iota, List.range_succ]
theorem iota_get {n i : Nat} (h : i < n) : (iota n).getD i 0 = i := by
  rw [List.getD_eq_getElem?_getD]; simp [iota, h]
theorem mem_iota {n : Nat} {x : Int} : x ∈ iota n ↔ 0 ≤ x ∧ x < n := by
  simp only [iota, List.mem_map, List.mem_range]
  constructor
  · rintro ⟨i, hi, rfl⟩; omega
  · rintro ⟨h1, h2⟩; exact ⟨x.toNat, by omega, by omega⟩
theorem iota_nodup (n : Nat) : (iota n).Nodup := by
  rw [List.nodup_iff_pairwise_ne] at *
  refine List.Pairwise.map (R := (· ≠ ·)) _ (fun a b h => by omega) ?_
  exact List.nodup_range
def labs (n : Int) (es : List E) : List Int := rnd es (iota n.toNat) n.toNat
def lab (n : Int) (es : List E) (x : Int) : Int := (labs n es).getD x.toNat 0

structure Lab (n : Int) (es : List E) (out : List Int) : Prop where
  len : out.length = n.toNat
  low : ∀ x, Nd n x → 0 ≤ out.getD x.toNat 0 ∧ out.getD x.toNat 0 ≤ x
  con : ∀ x, Nd n x → Conn es x (out.getD x.toNat 0)
def Stab (es : List E) (out : List Int) : Prop := ∀ e ∈ es, out.getD e.A.toNat 0 = out.getD e.B.toNat 0

theorem Lab.start (n : Int) (es : List E) : Lab n es (iota n.toNat) := by
  refine ⟨iota_length _, fun x hx => ?_, fun x hx => ?_⟩
  · have := hx.1; have := hx.2
    rw [iota_get (by omega)]; omega
  · have h1 := hx.1; have := hx.2
    rw [iota_get (by omega), Int.toNat_of_nonneg h1]; exact .refl
theorem Lab.relx {n : Int} {es : List E} {out : List Int} (h : Lab n es out) (hE : okE n es) {e : E} (he : e ∈ es) : Lab n es (relx out e) := by
  obtain ⟨hA, hB⟩ := hE e he
  refine ⟨by rw [relx_length, h.len], fun x hx => ?_, fun x hx => ?_⟩
  · rw [relx_get h.len hA hB hx]
    have h1 := h.low _ hA
    have h2 := h.low _ hB
    have h3 := h.low _ hx
    split
    · rename_i h4
      rcases h4 with rfl | rfl <;> omega
    · exact h3
  · rw [relx_get h.len hA hB hx]
    split
    · rename_i h4
      have h1 := h.con _ hA
      have h2 := h.con _ hB
      have e1 : Conn es e.A e.B := .edge he
      rcases Int.le_total (out.getD e.A.toNat 0) (out.getD e.B.toNat 0) with h5 | h5
      · rw [Int.min_eq_left h5]
        rcases h4 with rfl | rfl
        · exact h1
        · exact e1.symm.trans h1
      · rw [Int.min_eq_right h5]
        rcases h4 with rfl | rfl
        · exact e1.trans h2
        · exact h2
    · exact h.con x hx
theorem Lab.fold {n : Int} {es : List E} (hE : okE n es) : ∀ {l : List E} {out : List Int}, (∀ e ∈ l, e ∈ es) → Lab n es out → Lab n es (l.foldl Proofs.Ythlgbeakcobeoaa.relx out)
  | [], _, _, h => h
  | e :: l, out, hs, h => by
    rw [List.foldl_cons]
    exact Lab.fold hE (fun f hf => hs f (List.mem_cons_of_mem _ hf)) (h.relx hE (hs e (by simp)))
theorem Lab.rnd {n : Int} {es : List E} (hE : okE n es) : ∀ k, Lab n es (rnd es (iota n.toNat) k)
  | 0 => Lab.start n es
  | k + 1 => Lab.fold hE (fun _ h => h) (Lab.rnd hE k)

theorem Lab.const {n : Int} {es : List E} {out : List Int} (hs : Stab es out) {x y : Int} (h : Conn es x y) : out.getD x.toNat 0 = out.getD y.toNat 0 := by
  induction h with
  | refl => rfl
  | step _ h ih =>
    obtain ⟨e, he, ⟨rfl, rfl⟩ | ⟨rfl, rfl⟩⟩ := h
    · exact ih.trans (hs e he)
    · exact ih.trans (hs e he).symm
theorem Lab.nd {n : Int} {es : List E} {out : List Int} (h : Lab n es out) {x : Int} (hx : Nd n x) : Nd n (out.getD x.toNat 0) := by
  have := h.low x hx; have := hx.2; exact ⟨by omega, by omega⟩
theorem Lab.unique {n : Int} {es : List E} {a b : List Int} (ha : Lab n es a) (hb : Lab n es b) (sa : Stab es a) (sb : Stab es b) : a = b := by
  have key : ∀ {a b : List Int}, Lab n es a → Lab n es b → Stab es a → ∀ x, Nd n x → a.getD x.toNat 0 ≤ b.getD x.toNat 0 := by
    intro a b ha hb sa x hx
    rw [Lab.const (n := n) sa (hb.con x hx)]
    exact (ha.low _ (hb.nd hx)).2
  refine list_extD (ha.len.trans hb.len.symm) fun i hi => ?_
  have hx : Nd n (i : Int) := ⟨by omega, by have := ha.len; omega⟩
  have h1 := key ha hb sa i hx
  have h2 := key hb ha sb i hx
  simp only [Int.toNat_natCast] at h1 h2
  omega

/-! ### Labels come to rest -/
theorem relx_le {n : Int} {out : List Int} {e : E} (hl : out.length = n.toNat) (hA : Nd n e.A) (hB : Nd n e.B) {x : Int} (hx : Nd n x) : (relx out e).getD x.toNat 0 ≤ out.getD x.toNat 0 := by
  rw [relx_get hl hA hB hx]
  split
  · rename_i h; rcases h with rfl | rfl <;> omega
  · omega
theorem fold_le {n : Int} : ∀ {l : List E} {out : List Int}, okE n l → out.length = n.toNat → ∀ {x : Int}, Nd n x → (l.foldl relx out).getD x.toNat 0 ≤ out.getD x.toNat 0
  | [], _, _, _, _, _ => Int.le_refl _
  | e :: l, out, hE, hl, x, hx => by
    rw [List.foldl_cons]
    have h1 := hE e (by simp)
    have h2 := fold_le (l := l) (out := relx out e) (fun f hf => hE f (List.mem_cons_of_mem _ hf)) (by rw [relx_length, hl]) hx
    have h3 := relx_le hl h1.1 h1.2 hx
    omega
theorem fold_length : ∀ (l : List E) (out : List Int), (l.foldl relx out).length = out.length
  | [], _ => rfl
  | e :: l, out => by rw [List.foldl_cons, fold_length l, relx_length]
theorem fold_spread {n : Int} : ∀ {l : List E} {out : List Int}, okE n l → out.length = n.toNat → ∀ {y z m : Int}, Nd n y → Adj l y z → out.getD y.toNat 0 ≤ m → (l.foldl relx out).getD z.toNat 0 ≤ m
  | [], _, _, _, _, _, _, _, h, _ => by obtain ⟨e, he, _⟩ := h; cases he
  | e :: l, out, hE, hl, y, z, m, hy, ⟨f, hf, h⟩, hm => by
    rw [List.foldl_cons]
    have h1 := hE e (by simp)
    have hE' : okE n l := fun f hf => hE f (List.mem_cons_of_mem _ hf)
    have hl' : (relx out e).length = n.toNat := by rw [relx_length, hl]
    have hz : Nd n z := Adj.nd hE ⟨f, hf, h⟩
    rcases List.mem_cons.1 hf with rfl | hf
    · have h2 := fold_le hE' hl' hz
      have h3 : (relx out f).getD z.toNat 0 ≤ m := by
        rw [relx_get hl h1.1 h1.2 hz]
        rcases h with ⟨rfl, rfl⟩ | ⟨rfl, rfl⟩
        · rw [if_pos (.inr rfl)]; omega
        · rw [if_pos (.inl rfl)]; omega
      omega
    · refine fold_spread hE' hl' hy ⟨f, hf, h⟩ ?_
      have := relx_le hl h1.1 h1.2 hy
      omega
theorem rnd_length (es : List E) (out : List Int) : ∀ k, (rnd es out k).length = out.length
  | 0 => rfl
  | k + 1 => by rw [rnd, fold_length, rnd_length es out k]
theorem rnd_mono {n : Int} {es : List E} (hE : okE n es) {out : List Int} (hl : out.length = n.toNat) {x : Int} (hx : Nd n x) : ∀ {k m : Nat}, k ≤ m → (rnd es out m).getD x.toNat 0 ≤ (rnd es out k).getD x.toNat 0
  | k, 0, h => by
    have : k = 0 := by omega
    subst this; exact Int.le_refl _
  | k, m + 1, h => by
    by_cases h1 : k = m + 1
    · subst h1; exact Int.le_refl _
    · have h2 := rnd_mono hE hl hx (k := k) (m := m) (by omega)
      have h3 := fold_le (l := es) (out := rnd es out m) hE (by rw [rnd_length, hl]) hx
      rw [rnd]; omega

inductive Pth (es : List E) (m : Int) : List Int → Int → Prop
  | one : Pth es m [m] m
  | cons {l : List Int} {y z : Int} : Pth es m l y → Adj es y z → Pth es m (z :: l) z
theorem Pth.trunc {es : List E} {m y z : Int} {l : List Int} (h : Pth es m l y) (hz : z ∈ l) : ∃ l', l' <:+ l ∧ Pth es m l' z := by
  induction h with
  | one =>
    have : z = m := by simpa using hz
    subst this; exact ⟨_, List.suffix_refl _, .one⟩
  | cons h ha ih =>
    rcases List.mem_cons.1 hz with rfl | hz
    · exact ⟨_, List.suffix_refl _, .cons h ha⟩
    · obtain ⟨l', h1, h2⟩ := ih hz
      exact ⟨l', h1.trans (List.suffix_cons _ _), h2⟩
theorem Pth.pos {es : List E} {m y : Int} {l : List Int} (h : Pth es m l y) : 1 ≤ l.length := by cases h <;> simp
theorem Conn.pth {n : Int} {es : List E} (hE : okE n es) {m x : Int} (hm : Nd n m) (h : Conn es m x) : ∃ l, Pth es m l x ∧ l.Nodup ∧ ∀ a ∈ l, Nd n a := by
  induction h with
  | refl => exact ⟨[m], .one, by simp, by simpa using hm⟩
  | step h ha ih =>
    rename_i y z
    obtain ⟨l, h1, h2, h3⟩ := ih
    by_cases hz : z ∈ l
    · obtain ⟨l', h4, h5⟩ := h1.trunc hz
      exact ⟨l', h5, h2.sublist h4.sublist, fun a ha => h3 a (h4.subset ha)⟩
    · refine ⟨z :: l, .cons h1 ha, List.nodup_cons.2 ⟨hz, h2⟩, fun a hb => ?_⟩
      rcases List.mem_cons.1 hb with rfl | hb
      · exact ha.nd hE
      · exact h3 a hb
theorem Pth.nd {n : Int} {es : List E} (hE : okE n es) {m y : Int} {l : List Int} (hm : Nd n m) (h : Pth es m l y) : Nd n y := by
  cases h with
  | one => exact hm
  | cons _ ha => exact ha.nd hE
theorem Pth.spread {n : Int} {es : List E} (hE : okE n es) {m x : Int} {l : List Int} (hm : Nd n m) (h : Pth es m l x) : (rnd es (iota n.toNat) (l.length - 1)).getD x.toNat 0 ≤ m := by
  induction h with
  | one =>
    have := hm.1; have := hm.2
    show (iota n.toNat).getD m.toNat 0 ≤ m
    rw [iota_get (by omega)]; omega
  | cons h ha ih =>
    rename_i l y z
    have h1 := h.pos
    have h2 : (z :: l).length - 1 = (l.length - 1) + 1 := by rw [List.length_cons]; omega
    rw [h2, rnd]
    exact fold_spread hE (by rw [rnd_length, iota_length]) (h.nd hE hm) ha ih
theorem labs_le {n : Int} {es : List E} (hE : okE n es) {m x : Int} (hm : Nd n m) (h : Conn es m x) {k : Nat} (hk : n.toNat ≤ k) : (rnd es (iota n.toNat) k).getD x.toNat 0 ≤ m := by
  obtain ⟨l, h1, h2, h3⟩ := h.pth hE hm
  have h4 := h1.spread hE hm
  have h5 := pigeonI (n := n.toNat) (l := l) (fun a ha => by have := (h3 a ha).1; have := (h3 a ha).2; omega) h2
  have h6 := rnd_mono hE (out := iota n.toNat) (iota_length _) (h1.nd hE hm) (k := l.length - 1) (m := k) (by omega)
  omega
theorem rnd_stab {n : Int} {es : List E} (hE : okE n es) {k : Nat} (hk : n.toNat ≤ k) : Stab es (rnd es (iota n.toNat) k) := by
  intro e he
  obtain ⟨hA, hB⟩ := hE e he
  have hL := Lab.rnd hE k
  have e1 : Conn es e.A e.B := .edge he
  have h1 := labs_le hE (hL.nd hA) ((hL.con _ hA).symm.trans e1) hk
  have h2 := labs_le hE (hL.nd hB) ((hL.con _ hB).symm.trans e1.symm) hk
  omega
theorem labs_lab {n : Int} {es : List E} (hE : okE n es) : Lab n es (labs n es) := Lab.rnd hE _
theorem labs_stab {n : Int} {es : List E} (hE : okE n es) : Stab es (labs n es) := rnd_stab hE (Nat.le_refl _)
theorem labs_length (n : Int) (es : List E) : (labs n es).length = n.toNat := by rw [labs, rnd_length, iota_length]
theorem labs_unique {n : Int} {es : List E} (hE : okE n es) {out : List Int} (h : Lab n es out) (hs : Stab es out) : out = labs n es := h.unique (labs_lab hE) hs (labs_stab hE)
theorem lab_iff {n : Int} {es : List E} (hE : okE n es) {x y : Int} (hx : Nd n x) (hy : Nd n y) : lab n es x = lab n es y ↔ Conn es x y := by
  constructor
  · intro h
    have h1 := (labs_lab hE).con x hx
    have h2 := (labs_lab hE).con y hy
    have h3 : (labs n es).getD x.toNat 0 = (labs n es).getD y.toNat 0 := h
    rw [h3] at h1
    exact h1.trans h2.symm
  · exact Lab.const (n := n) (labs_stab hE)
theorem lab_nd {n : Int} {es : List E} (hE : okE n es) {x : Int} (hx : Nd n x) : Nd n (lab n es x) := (labs_lab hE).nd hx
theorem lab_conn {n : Int} {es : List E} (hE : okE n es) {x : Int} (hx : Nd n x) : Conn es x (lab n es x) := (labs_lab hE).con x hx
theorem lab_le {n : Int} {es : List E} (hE : okE n es) {x y : Int} (hx : Nd n x) (h : Conn es x y) : lab n es x ≤ y := by
  have hy := h.nd hE hx
  have := ((labs_lab hE).low y hy).2
  rw [(lab_iff hE hx hy).2 h]; exact this
theorem relx_same {n : Int} {out : List Int} {e : E} (hl : out.length = n.toNat) (hA : Nd n e.A) (hB : Nd n e.B) (h : out.getD e.A.toNat 0 = out.getD e.B.toNat 0) : relx out e = out := by
  refine list_extD (relx_length _ _) fun i hi => ?_
  rw [relx_length] at hi
  have hx : Nd n (i : Int) := ⟨by omega, by omega⟩
  have := relx_get hl hA hB hx
  simp only [Int.toNat_natCast] at this
  rw [this]
  split
  · rename_i h4
    have h5 : i = e.A.toNat ∨ i = e.B.toNat := by have := hA.1; have := hB.1; omega
    rcases h5 with rfl | rfl <;> omega
  · rfl
/-- One edge's turn, as the second program makes it. -/
theorem relx_lt {out : List Int} {e : E} (h : out.getD e.A.toNat 0 < out.getD e.B.toNat 0) : out.set e.B.toNat (out.getD e.A.toNat 0) = relx out e := by
  unfold relx
  rw [Int.min_eq_left (by omega)]
  congr 1
  refine list_extD (by simp) fun i hi => ?_
  rw [getD_setI]
  split
  · rename_i h1; rw [h1.1]
  · rfl
theorem relx_gt {out : List Int} {e : E} (h : out.getD e.B.toNat 0 < out.getD e.A.toNat 0) : out.set e.A.toNat (out.getD e.B.toNat 0) = relx out e := by
  unfold relx
  rw [Int.min_eq_right (by omega)]
  refine list_extD (by simp) fun i hi => ?_
  rw [getD_setI (out.set e.A.toNat (out.getD e.B.toNat 0))]
  split
  · rename_i h1
    rw [← h1.1, getD_setI]
    split
    · rfl
    · rfl
  · rfl
end Go.Proofs.Ythlgbeakcobeoaa
