/- More operations: nil checks, exclusive or, slice expressions. Conditions: those of each rule. -/
import Derived.Test.YthlgbeakcobeoaaData
namespace Go.Proofs.Ythlgbeakcobeoaa
open Go
section
variable {P : Program} {G : Ctx} {l : List (Nat × Value)} {F : List Tok}

theorem Op1.nilCheck {x : Operand} {a : Addr} (hx : look l x = some (.pointer (some a))) : Op1 P G (.nilCheck x) l F (.pointer (some a)) := fun o ho c w hc _ => by
  simp [execOp, ho, hc.eval hx]

theorem xor_bits {a b : Int} (ha : 0 ≤ a ∧ a ≤ 9223372036854775807) (hb : 0 ≤ b ∧ b ≤ 9223372036854775807) :
    IntKind.i64.wrap ((BitVec.ofInt 64 a ^^^ BitVec.ofInt 64 b).toNat : Int) = ((a.toNat ^^^ b.toNat : Nat) : Int) := by
  obtain ⟨n, rfl⟩ := Int.eq_ofNat_of_zero_le ha.1
  obtain ⟨m, rfl⟩ := Int.eq_ofNat_of_zero_le hb.1
  have h1 : n < 2 ^ 63 := by omega
  have h2 : m < 2 ^ 63 := by omega
  have h3 := Nat.xor_lt_two_pow h1 h2
  have e1 : (BitVec.ofInt 64 (n : Int)).toNat = n := by rw [BitVec.toNat_ofInt]; omega
  have e2 : (BitVec.ofInt 64 (m : Int)).toNat = m := by rw [BitVec.toNat_ofInt]; omega
  rw [BitVec.toNat_xor, e1, e2]
  simp only [Int.toNat_natCast]
  exact i64_fits (by omega) (by omega)
theorem Op1.xor {t u : TypeId} {x y : Operand} {a b : Int} (hx : look l x = some (.int .i64 a)) (hy : look l y = some (.int .i64 b)) (ha : 0 ≤ a ∧ a ≤ 9223372036854775807) (hb : 0 ≤ b ∧ b ≤ 9223372036854775807) :
    Op1 P G (.binOp .xor t x y u) l F (.int .i64 ((a.toNat ^^^ b.toNat : Nat) : Int)) := fun o ho c w hc _ => by
  have := xor_bits ha hb
  simp [execOp, ho, hc.eval hx, hc.eval hy, eqGuard, binOp, Op.intBits, IntKind.bits] at this ⊢
  exact this

/-- v[:n] -/
def slcV (v : Value) (n : Nat) : Value :=
  match v with
  | .slice a _ c => .slice a n c
  | _ => undef
/-- v[n:] -/
def drpV (v : Value) (sz n : Nat) : Value :=
  match v with
  | .slice (some a) len cap => .slice (some (if cap = n then a else ⟨a.block, a.off + n * sz, none⟩)) (len - n) (cap - n)
  | .slice none len cap => .slice none (len - n) (cap - n)
  | _ => undef
variable {α : Type} [Enc α]
theorem encs_take (xs : List α) (n : Nat) : encs (xs.take n) = (encs xs).take (n * Enc.sz α) := by
  induction xs generalizing n with
  | nil => simp
  | cons x xs ih =>
    cases n with
    | zero => simp
    | succ n =>
      have h1 := Enc.len x
      have h2 := List.take_length_add_append (l₁ := Enc.enc x) (l₂ := encs xs) (n * Enc.sz α)
      rw [h1] at h2
      rw [List.take_succ_cons, encs_cons, encs_cons, ih, Nat.add_mul, Nat.one_mul, Nat.add_comm (n * Enc.sz α), h2]
theorem encs_drop (xs : List α) (n : Nat) : encs (xs.drop n) = (encs xs).drop (n * Enc.sz α) := by
  induction xs generalizing n with
  | nil => simp
  | cons x xs ih =>
    cases n with
    | zero => simp
    | succ n =>
      have h1 := Enc.len x
      have h2 := List.drop_length_add_append (l₁ := Enc.enc x) (l₂ := encs xs) (n * Enc.sz α)
      rw [h1] at h2
      rw [List.drop_succ_cons, encs_cons, ih, Nat.add_mul, Nat.one_mul, Nat.add_comm (n * Enc.sz α), h2]

theorem RL.take {w : World} {v : Value} {xs : List α} (h : RL w v xs) {n : Nat} (hn : n ≤ xs.length) : RL w (slcV v n) (xs.take n) := by
  have hl : (xs.take n).length = n := by rw [List.length_take]; omega
  refine ⟨by rw [encs_length], ?_⟩
  rcases h.2 with ⟨rfl, h0⟩ | ⟨b, off, cap, rfl, h1, h2, h3⟩
  · have : n = 0 := by omega
    subst this
    exact .inl ⟨rfl, by simp⟩
  · refine .inr ⟨b, off, cap, by rw [hl]; rfl, by omega, h2, fun i hi => ?_⟩
    rw [encs_take] at hi ⊢
    rw [List.length_take] at hi
    rw [h3 i (by omega), List.getElem?_take_of_lt (by omega)]
theorem RL.drop {w : World} {v : Value} {xs : List α} (h : RL w v xs) {n : Nat} (hn : n ≤ xs.length) : RL w (drpV v (Enc.sz α) n) (xs.drop n) := by
  have hl : (xs.drop n).length = xs.length - n := List.length_drop
  refine ⟨by rw [encs_length], ?_⟩
  rcases h.2 with ⟨rfl, h0⟩ | ⟨b, off, cap, rfl, h1, h2, h3⟩
  · have : n = 0 := by omega
    subst this
    exact .inl ⟨rfl, by rw [hl, h0]⟩
  · by_cases hc : cap = n
    · subst hc
      have hx : xs.length = cap := by omega
      refine .inr ⟨b, off, 0, by simp [drpV, hl], by rw [hl]; omega, h2, fun i hi => ?_⟩
      rw [encs_length, hl] at hi; simp [hx] at hi
    · refine .inr ⟨b, off + n * Enc.sz α, cap - n, by simp [drpV, hl, hc], by rw [hl]; omega, h2, fun i hi => ?_⟩
      rw [encs_drop] at hi ⊢
      rw [List.length_drop] at hi
      rw [Nat.add_assoc, h3 _ (by omega), List.getElem?_drop]

theorem Op1.sliceHi {t : TypeId} [ht : TSlice P t α] {x y : Operand} {v : Value} {xs : List α} {n : Nat} (hx : look l x = some v) (hy : look l y = some (.int .i64 n)) (hr : Rd G F v xs) (hn : n ≤ xs.length) :
    Op1 P G (.slice t x none (some y) none) l F (slcV v n) := fun o ho c w hc hw => by
  obtain ⟨e, ii, z, h1, h2, h3, _⟩ := ht.out
  have : ∃ s cap, v = .slice s xs.length cap ∧ xs.length ≤ cap ∧ (∀ a, s = some a → ∃ b off, a = ⟨b, off, none⟩) := by
    rcases (hr w hw).2 with ⟨rfl, h0⟩ | ⟨b, off, cap, rfl, h, _⟩
    · exact ⟨none, 0, by rw [h0], by omega, by simp⟩
    · exact ⟨_, _, rfl, h, fun a ha => by cases ha; exact ⟨_, _, rfl⟩⟩
  obtain ⟨s, cap, rfl, hcap, hs⟩ := this
  have hle : n ≤ cap := by omega
  cases s with
  | none => simp [execOp, ho, hc.eval hx, hc.eval hy, Instr.sliceAt, run_underlying h1, Instr.slice, Instr.sliceBounds, Instr.sliceBound, asIntOf, hle, run_sizeOf' h2, slcV]
  | some a =>
    obtain ⟨b, off, rfl⟩ := hs a rfl
    simp [execOp, ho, hc.eval hx, hc.eval hy, Instr.sliceAt, run_underlying h1, Instr.slice, Instr.sliceBounds, Instr.sliceBound, asIntOf, hle, run_sizeOf' h2, slcV, addr_add]
theorem Op1.sliceHiZ {t : TypeId} [ht : TSlice P t α] {x y : Operand} {v : Value} {xs : List α} {n : Int} (hx : look l x = some v) (hy : look l y = some (.int .i64 n)) (hr : Rd G F v xs) (hn : 0 ≤ n ∧ n ≤ xs.length) :
    Op1 P G (.slice t x none (some y) none) l F (slcV v n.toNat) :=
  Op1.sliceHi hx (by rw [hy, Int.toNat_of_nonneg hn.1]) hr (by omega)
theorem Op1.sliceLo {t : TypeId} [ht : TSlice P t α] {x y : Operand} {v : Value} {xs : List α} {n : Nat} (hx : look l x = some v) (hy : look l y = some (.int .i64 n)) (hr : Rd G F v xs) (hn : n ≤ xs.length) :
    Op1 P G (.slice t x (some y) none none) l F (drpV v (Enc.sz α) n) := fun o ho c w hc hw => by
  obtain ⟨e, ii, z, h1, h2, h3, _⟩ := ht.out
  have : ∃ s cap, v = .slice s xs.length cap ∧ xs.length ≤ cap ∧ (∀ a, s = some a → ∃ b off, a = ⟨b, off, none⟩) := by
    rcases (hr w hw).2 with ⟨rfl, h0⟩ | ⟨b, off, cap, rfl, h, _⟩
    · exact ⟨none, 0, by rw [h0], by omega, by simp⟩
    · exact ⟨_, _, rfl, h, fun a ha => by cases ha; exact ⟨_, _, rfl⟩⟩
  obtain ⟨s, cap, rfl, hcap, hs⟩ := this
  have hle : (n : Int) ≤ (xs.length : Int) := by omega
  cases s with
  | none => simp [execOp, ho, hc.eval hx, hc.eval hy, Instr.sliceAt, run_underlying h1, Instr.slice, Instr.sliceBounds, Instr.sliceBound, asIntOf, hn, run_sizeOf' h2, drpV]
  | some a =>
    obtain ⟨b, off, rfl⟩ := hs a rfl
    by_cases hcn : cap = n <;>
    simp [execOp, ho, hc.eval hx, hc.eval hy, Instr.sliceAt, run_underlying h1, Instr.slice, Instr.sliceBounds, Instr.sliceBound, asIntOf, hn, run_sizeOf' h2, drpV, addr_add, h3, hcn]

/-- A token may be read another way. -/
theorem St.turn {W : World} {M : List Nat} {F F0 : List Tok} {w : World} {t t' : Tok} (hw : St W M F w) (hp : F.Perm (t :: F0)) (hf : t'.fp = t.fp) (hh : ∀ w, t.holds w → t'.holds w) : St W M (t' :: F0) w := by
  have h := hw.sub ⟨[], by simpa using hp⟩
  refine ⟨by have := h.nodup; simpa [hf] using this, ?_, by have := h.base; simpa [hf] using this, h.keep, h.size, h.os, h.tape, h.output⟩
  intro u hu
  rcases List.mem_cons.1 hu with rfl | hu
  · exact hh w (h.holds t (by simp))
  · exact h.holds u (by simp [hu])
theorem WPL.turn {Q : Exit → Act → World → Prop} {ops : Array Oper} {rest : List Oper} {F0 : List Tok} {t t' : Tok} (hp : F.Perm (t :: F0)) (hf : t'.fp = t.fp) (hh : ∀ w, t.holds w → t'.holds w)
    (h : WPL P G ops rest l (t' :: F0) Q) : WPL P G ops rest l F Q := fun a w ha hw => h a w ha (hw.turn hp hf hh)
theorem own_take_fp {v : Value} {xs : List α} {n : Nat} : (Tok.own (slcV v n) (xs.take n)).fp = (Tok.own v xs).fp := by
  cases v <;> first | rfl | (rename_i a _ _; cases a <;> rfl)
theorem own_take {v : Value} {xs : List α} {n : Nat} (hn : n ≤ xs.length) (w : World) (h : (Tok.own v xs).holds w) : (Tok.own (slcV v n) (xs.take n)).holds w := by
  have hl : (xs.take n).length = n := by rw [List.length_take]; omega
  refine ⟨by rw [encs_length], ?_⟩
  rcases h.2 with ⟨rfl, h0⟩ | ⟨b, cap, post, rfl, h1, h2, h3, h4⟩
  · have : n = 0 := by omega
    subst this
    exact .inl ⟨rfl, by simp⟩
  · refine .inr ⟨b, cap, (encs xs).drop (n * Enc.sz α) ++ post, by rw [hl]; rfl, by omega, h2, ?_, ?_⟩
    · rw [encs_take, ← List.append_assoc, List.take_append_drop]; exact h3
    · rw [encs_take, ← List.append_assoc, List.take_append_drop]; exact h4
end

section
variable {P : Program} {G : Ctx} {ops : Array Oper} {rest : List Oper} {l : List (Nat × Value)} {F : List Tok} {Q : Exit → Act → World → Prop} {dst : Option Nat} {ty : TypeId} {pos : String} {after : Array Edge} {g : Option (Nat × Bool)}
theorem isNil {x : Operand} (h : WPL P G ops (⟨dst, .nilCheck x, ty, pos, after, g⟩ :: rest) l F Q) : WPL P G ops (⟨dst, .nilCheck x, ty, pos, after, g⟩ :: rest) l F Q := h
theorem isSlc {t : TypeId} {x : Operand} {a b c : Option Operand} (h : WPL P G ops (⟨dst, .slice t x a b c, ty, pos, after, g⟩ :: rest) l F Q) : WPL P G ops (⟨dst, .slice t x a b c, ty, pos, after, g⟩ :: rest) l F Q := h
end
end Go.Proofs.Ythlgbeakcobeoaa
