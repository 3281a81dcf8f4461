/- Texts put together: O2, Types, Tac, TacA, R2, Types2, Gr0, Gra0, Gra1, Gra2. Conditions: those of each theorem. -/
import Derived.Test.YthlgbeakcobeoaaChecked
import Derived.KernelRfl
import Derived.Laws.StructEq
import Derived.Test.YthlgbeakcobeoaaV0
set_option linter.unusedVariables false
set_option linter.unusedSimpArgs false
/- More operations: nil checks, exclusive or, slice expressions. Conditions: those of each rule. -/
namespace Go.Proofs.Ythlgbeakcobeoaa
open Go
section
variable {P : Program} {G : Ctx} {l : List (Nat × Value)} {F : List Tok}

theorem Op1.nilCheck {x : Operand} {a : Addr} (hx : look l x = some (.pointer (some a))) : Op1 P G (.nilCheck x) l F (.pointer (some a)) := fun o ho c w hc _ => by
  simp [execOp, ho, hc.eval hx]

theorem xor_bits {a b : Int} (ha : 0 ≤ a ∧ a ≤ 9223372036854775807) (hb : 0 ≤ b ∧ b ≤ 9223372036854775807) :
    IntKind.i64.wrap ((BitVec.ofInt 64 a ^^^ BitVec.ofInt 64 b).toNat : Int) = ((a.toNat ^^^ b.toNat : Nat) : Int) := by
  obtain ⟨n, rfl⟩ := Int.eq_ofNat_of_zero_le ha.1
  obtain ⟨m, rfl⟩ := Int.eq_ofNat_of_zero_le hb.1
  have h1 : n < 2 ^ 63 := by omega
  have h2 : m < 2 ^ 63 := by omega
  have h3 := Nat.xor_lt_two_pow h1 h2
  have e1 : (BitVec.ofInt 64 (n : Int)).toNat = n := by rw [BitVec.toNat_ofInt]; omega
  have e2 : (BitVec.ofInt 64 (m : Int)).toNat = m := by rw [BitVec.toNat_ofInt]; omega
  rw [BitVec.toNat_xor, e1, e2]
  simp only [Int.toNat_natCast]
  exact i64_fits (by omega) (by omega)
theorem Op1.xor {t u : TypeId} {x y : Operand} {a b : Int} (hx : look l x = some (.int .i64 a)) (hy : look l y = some (.int .i64 b)) (ha : 0 ≤ a ∧ a ≤ 9223372036854775807) (hb : 0 ≤ b ∧ b ≤ 9223372036854775807) :
    Op1 P G (.binOp .xor t x y u) l F (.int .i64 ((a.toNat ^^^ b.toNat : Nat) : Int)) := fun o ho c w hc _ => by
  have := xor_bits ha hb
  simp [execOp, ho, hc.eval hx, hc.eval hy, eqGuard, binOp, Op.intBits, IntKind.bits] at this ⊢
  exact this

/-- v[:n] -/
def slcV (v : Value) (n : Nat) : Value :=
  match v with
  | .slice a _ c => .slice a n c
  | _ => undef
/-- v[n:] -/
def drpV (v : Value) (sz n : Nat) : Value :=
  match v with
  | .slice (some a) len cap => .slice (some (if cap = n then a else ⟨a.block, a.off + n * sz, none⟩)) (len - n) (cap - n)
  | .slice none len cap => .slice none (len - n) (cap - n)
  | _ => undef
variable {α : Type} [Enc α]
theorem encs_take (xs : List α) (n : Nat) : encs (xs.take n) = (encs xs).take (n * Enc.sz α) := by
  induction xs generalizing n with
  | nil => simp
  | cons x xs ih =>
    cases n with
    | zero => simp
    | succ n =>
      have h1 := Enc.len x
      have h2 := List.take_length_add_append (l₁ := Enc.enc x) (l₂ := encs xs) (n * Enc.sz α)
      rw [h1] at h2
      rw [List.take_succ_cons, encs_cons, encs_cons, ih, Nat.add_mul, Nat.one_mul, Nat.add_comm (n * Enc.sz α), h2]
theorem encs_drop (xs : List α) (n : Nat) : encs (xs.drop n) = (encs xs).drop (n * Enc.sz α) := by
  induction xs generalizing n with
  | nil => simp
  | cons x xs ih =>
    cases n with
    | zero => simp
    | succ n =>
      have h1 := Enc.len x
      have h2 := List.drop_length_add_append (l₁ := Enc.enc x) (l₂ := encs xs) (n * Enc.sz α)
      rw [h1] at h2
      rw [List.drop_succ_cons, encs_cons, ih, Nat.add_mul, Nat.one_mul, Nat.add_comm (n * Enc.sz α), h2]

theorem RL.take {w : World} {v : Value} {xs : List α} (h : RL w v xs) {n : Nat} (hn : n ≤ xs.length) : RL w (slcV v n) (xs.take n) := by
  have hl : (xs.take n).length = n := by rw [List.length_take]; omega
  refine ⟨by rw [encs_length], ?_⟩
  rcases h.2 with ⟨rfl, h0⟩ | ⟨b, off, cap, rfl, h1, h2, h3⟩
  · have : n = 0 := by omega
    subst this
    exact .inl ⟨rfl, by simp⟩
  · refine .inr ⟨b, off, cap, by rw [hl]; rfl, by omega, h2, fun i hi => ?_⟩
    rw [encs_take] at hi ⊢
    rw [List.length_take] at hi
    rw [h3 i (by omega), List.getElem?_take_of_lt (by omega)]
theorem RL.drop {w : World} {v : Value} {xs : List α} (h : RL w v xs) {n : Nat} (hn : n ≤ xs.length) : RL w (drpV v (Enc.sz α) n) (xs.drop n) := by
  have hl : (xs.drop n).length = xs.length - n := List.length_drop
  refine ⟨by rw [encs_length], ?_⟩
  rcases h.2 with ⟨rfl, h0⟩ | ⟨b, off, cap, rfl, h1, h2, h3⟩
  · have : n = 0 := by omega
    subst this
    exact .inl ⟨rfl, by rw [hl, h0]⟩
  · by_cases hc : cap = n
    · subst hc
      have hx : xs.length = cap := by omega
      refine .inr ⟨b, off, 0, by simp [drpV, hl], by rw [hl]; omega, h2, fun i hi => ?_⟩
      rw [encs_length, hl] at hi; simp [hx] at hi
    · refine .inr ⟨b, off + n * Enc.sz α, cap - n, by simp [drpV, hl, hc], by rw [hl]; omega, h2, fun i hi => ?_⟩
      rw [encs_drop] at hi ⊢
      rw [List.length_drop] at hi
      rw [Nat.add_assoc, h3 _ (by omega), List.getElem?_drop]

theorem Op1.sliceHi {t : TypeId} [ht : TSlice P t α] {x y : Operand} {v : Value} {xs : List α} {n : Nat} (hx : look l x = some v) (hy : look l y = some (.int .i64 n)) (hr : Rd G F v xs) (hn : n ≤ xs.length) :
    Op1 P G (.slice t x none (some y) none) l F (slcV v n) := fun o ho c w hc hw => by
  obtain ⟨e, ii, z, h1, h2, h3, _⟩ := ht.out
  have : ∃ s cap, v = .slice s xs.length cap ∧ xs.length ≤ cap ∧ (∀ a, s = some a → ∃ b off, a = ⟨b, off, none⟩) := by
    rcases (hr w hw).2 with ⟨rfl, h0⟩ | ⟨b, off, cap, rfl, h, _⟩
    · exact ⟨none, 0, by rw [h0], by omega, by simp⟩
    · exact ⟨_, _, rfl, h, fun a ha => by cases ha; exact ⟨_, _, rfl⟩⟩
  obtain ⟨s, cap, rfl, hcap, hs⟩ := this
  have hle : n ≤ cap := by omega
  cases s with
  | none => simp [execOp, ho, hc.eval hx, hc.eval hy, Instr.sliceAt, run_underlying h1, Instr.slice, Instr.sliceBounds, Instr.sliceBound, asIntOf, hle, run_sizeOf' h2, slcV]
  | some a =>
    obtain ⟨b, off, rfl⟩ := hs a rfl
    simp [execOp, ho, hc.eval hx, hc.eval hy, Instr.sliceAt, run_underlying h1, Instr.slice, Instr.sliceBounds, Instr.sliceBound, asIntOf, hle, run_sizeOf' h2, slcV, addr_add]
theorem Op1.sliceHiZ {t : TypeId} [ht : TSlice P t α] {x y : Operand} {v : Value} {xs : List α} {n : Int} (hx : look l x = some v) (hy : look l y = some (.int .i64 n)) (hr : Rd G F v xs) (hn : 0 ≤ n ∧ n ≤ xs.length) :
    Op1 P G (.slice t x none (some y) none) l F (slcV v n.toNat) :=
  Op1.sliceHi hx (by rw [hy, Int.toNat_of_nonneg hn.1]) hr (by omega)
theorem Op1.sliceLo {t : TypeId} [ht : TSlice P t α] {x y : Operand} {v : Value} {xs : List α} {n : Nat} (hx : look l x = some v) (hy : look l y = some (.int .i64 n)) (hr : Rd G F v xs) (hn : n ≤ xs.length) :
    Op1 P G (.slice t x (some y) none none) l F (drpV v (Enc.sz α) n) := fun o ho c w hc hw => by
  obtain ⟨e, ii, z, h1, h2, h3, _⟩ := ht.out
  have : ∃ s cap, v = .slice s xs.length cap ∧ xs.length ≤ cap ∧ (∀ a, s = some a → ∃ b off, a = ⟨b, off, none⟩) := by
    rcases (hr w hw).2 with ⟨rfl, h0⟩ | ⟨b, off, cap, rfl, h, _⟩
    · exact ⟨none, 0, by rw [h0], by omega, by simp⟩
    · exact ⟨_, _, rfl, h, fun a ha => by cases ha; exact ⟨_, _, rfl⟩⟩
  obtain ⟨s, cap, rfl, hcap, hs⟩ := this
  have hle : (n : Int) ≤ (xs.length : Int) := by omega
  cases s with
  | none => simp [execOp, ho, hc.eval hx, hc.eval hy, Instr.sliceAt, run_underlying h1, Instr.slice, Instr.sliceBounds, Instr.sliceBound, asIntOf, hn, run_sizeOf' h2, drpV]
  | some a =>
    obtain ⟨b, off, rfl⟩ := hs a rfl
    by_cases hcn : cap = n <;>
    simp [execOp, ho, hc.eval hx, hc.eval hy, Instr.sliceAt, run_underlying h1, Instr.slice, Instr.sliceBounds, Instr.sliceBound, asIntOf, hn, run_sizeOf' h2, drpV, addr_add, h3, hcn]

/-- A token may be read another way. -/
theorem St.turn {W : World} {M : List Nat} {F F0 : List Tok} {w : World} {t t' : Tok} (hw : St W M F w) (hp : F.Perm (t :: F0)) (hf : t'.fp = t.fp) (hh : ∀ w, t.holds w → t'.holds w) : St W M (t' :: F0) w := by
  have h := hw.sub ⟨[], by simpa using hp⟩
  refine ⟨by have := h.nodup; simpa [hf] using this, ?_, by have := h.base; simpa [hf] using this, h.keep, h.size, h.os, h.tape, h.output⟩
  intro u hu
  rcases List.mem_cons.1 hu with rfl | hu
  · exact hh w (h.holds t (by simp))
  · exact h.holds u (by simp [hu])
theorem WPL.turn {Q : Exit → Act → World → Prop} {ops : Array Oper} {rest : List Oper} {F0 : List Tok} {t t' : Tok} (hp : F.Perm (t :: F0)) (hf : t'.fp = t.fp) (hh : ∀ w, t.holds w → t'.holds w)
    (h : WPL P G ops rest l (t' :: F0) Q) : WPL P G ops rest l F Q := fun a w ha hw => h a w ha (hw.turn hp hf hh)
theorem own_take_fp {v : Value} {xs : List α} {n : Nat} : (Tok.own (slcV v n) (xs.take n)).fp = (Tok.own v xs).fp := by
  cases v <;> first | rfl | (rename_i a _ _; cases a <;> rfl)
theorem own_take {v : Value} {xs : List α} {n : Nat} (hn : n ≤ xs.length) (w : World) (h : (Tok.own v xs).holds w) : (Tok.own (slcV v n) (xs.take n)).holds w := by
  have hl : (xs.take n).length = n := by rw [List.length_take]; omega
  refine ⟨by rw [encs_length], ?_⟩
  rcases h.2 with ⟨rfl, h0⟩ | ⟨b, cap, post, rfl, h1, h2, h3, h4⟩
  · have : n = 0 := by omega
    subst this
    exact .inl ⟨rfl, by simp⟩
  · refine .inr ⟨b, cap, (encs xs).drop (n * Enc.sz α) ++ post, by rw [hl]; rfl, by omega, h2, ?_, ?_⟩
    · rw [encs_take, ← List.append_assoc, List.take_append_drop]; exact h3
    · rw [encs_take, ← List.append_assoc, List.take_append_drop]; exact h4
end

section
variable {P : Program} {G : Ctx} {ops : Array Oper} {rest : List Oper} {l : List (Nat × Value)} {F : List Tok} {Q : Exit → Act → World → Prop} {dst : Option Nat} {ty : TypeId} {pos : String} {after : Array Edge} {g : Option (Nat × Bool)}
theorem isNil {x : Operand} (h : WPL P G ops (⟨dst, .nilCheck x, ty, pos, after, g⟩ :: rest) l F Q) : WPL P G ops (⟨dst, .nilCheck x, ty, pos, after, g⟩ :: rest) l F Q := h
theorem isSlc {t : TypeId} {x : Operand} {a b c : Option Operand} (h : WPL P G ops (⟨dst, .slice t x a b c, ty, pos, after, g⟩ :: rest) l F Q) : WPL P G ops (⟨dst, .slice t x a b c, ty, pos, after, g⟩ :: rest) l F Q := h
end
end Go.Proofs.Ythlgbeakcobeoaa
/- The instances on the types and functions of this seat's program (printed by gentypes.py). Conditions: none. -/
namespace Go.Proofs.Ythlgbeakcobeoaa
open Go
instance : TScal Try.prog 1 := .of (by kernel_rfl)
instance : TZero Try.prog 1 [.nilFunc] := .of (by kernel_rfl)
instance : TScal Try.prog 2 := .of (by kernel_rfl)
instance : TInt Try.prog 2 := .of (by kernel_rfl)
instance : TZero Try.prog 2 [.int .i64 0] := .of (by kernel_rfl)
instance : TScal Try.prog 3 := .of (by kernel_rfl)
instance : TInt Try.prog 3 := .of (by kernel_rfl)
instance : TZero Try.prog 3 [.int .i64 0] := .of (by kernel_rfl)
instance : TScal Try.prog 4 := .of (by kernel_rfl)
instance : TBool Try.prog 4 := .of (by kernel_rfl)
instance : TZero Try.prog 4 [.bool false] := .of (by kernel_rfl)
instance : TScal Try.prog 5 := .of (by kernel_rfl)
instance : TInt Try.prog 5 := .of (by kernel_rfl)
instance : TZero Try.prog 5 [.int .u8 0] := .of (by kernel_rfl)
instance : TScal Try.prog 12 := .of (by kernel_rfl)
instance : TInt Try.prog 12 := .of (by kernel_rfl)
instance : TZero Try.prog 12 [.int .u64 0] := .of (by kernel_rfl)
instance : TScal Try.prog 15 := .of (by kernel_rfl)
instance : TZero Try.prog 15 [.pointer none] := .of (by kernel_rfl)
instance : TScal Try.prog 16 := .of (by kernel_rfl)
instance : TZero Try.prog 16 [.pointer none] := .of (by kernel_rfl)
instance : TScal Try.prog 17 := .of (by kernel_rfl)
instance : TZero Try.prog 17 [.pointer none] := .of (by kernel_rfl)
instance : TScal Try.prog 21 := .of (by kernel_rfl)
instance : TInt Try.prog 21 := .of (by kernel_rfl)
instance : TZero Try.prog 21 [.int .i32 0] := .of (by kernel_rfl)
instance : TScal Try.prog 22 := .of (by kernel_rfl)
instance : TZero Try.prog 22 [.slice none 0 0] := .of (by kernel_rfl)
instance : TSlice Try.prog 22 E := .of (by kernel_rfl)
instance : TAgg Try.prog 24 2 := .of (by kernel_rfl)
instance : TZero Try.prog 24 [.int .i64 0, .slice none 0 0] := .of (by kernel_rfl)
instance : TStruct Try.prog 24 [(0, 1), (1, 1)] := .of (by kernel_rfl)
instance : TField Try.prog 24 0 0 := .of (by kernel_rfl)
instance : TField Try.prog 24 1 1 := .of (by kernel_rfl)
instance : TScal Try.prog 25 := .of (by kernel_rfl)
instance : TZero Try.prog 25 [.nilFunc] := .of (by kernel_rfl)
instance : TScal Try.prog 26 := .of (by kernel_rfl)
instance : TZero Try.prog 26 [.slice none 0 0] := .of (by kernel_rfl)
instance : TSlice Try.prog 26 Int := .of (by kernel_rfl)
instance : TScal Try.prog 27 := .of (by kernel_rfl)
instance : TZero Try.prog 27 [.nilFunc] := .of (by kernel_rfl)
instance : TScal Try.prog 28 := .of (by kernel_rfl)
instance : TZero Try.prog 28 [.slice none 0 0] := .of (by kernel_rfl)
instance : TSlice Try.prog 28 E := .of (by kernel_rfl)
instance : TAgg Try.prog 30 2 := .of (by kernel_rfl)
instance : TZero Try.prog 30 [.int .i64 0, .slice none 0 0] := .of (by kernel_rfl)
instance : TStruct Try.prog 30 [(0, 1), (1, 1)] := .of (by kernel_rfl)
instance : TField Try.prog 30 0 0 := .of (by kernel_rfl)
instance : TField Try.prog 30 1 1 := .of (by kernel_rfl)
instance : TScal Try.prog 31 := .of (by kernel_rfl)
instance : TZero Try.prog 31 [.nilFunc] := .of (by kernel_rfl)
instance : TScal Try.prog 32 := .of (by kernel_rfl)
instance : TZero Try.prog 32 [.nilFunc] := .of (by kernel_rfl)
instance : TScal Try.prog 33 := .of (by kernel_rfl)
instance : TZero Try.prog 33 [.nilFunc] := .of (by kernel_rfl)
instance : TScal Try.prog 34 := .of (by kernel_rfl)
instance : TZero Try.prog 34 [.nilFunc] := .of (by kernel_rfl)
instance : TScal Try.prog 35 := .of (by kernel_rfl)
instance : TZero Try.prog 35 [.nilFunc] := .of (by kernel_rfl)
instance : TScal Try.prog 36 := .of (by kernel_rfl)
instance : TZero Try.prog 36 [.nilFunc] := .of (by kernel_rfl)
instance : TScal Try.prog 38 := .of (by kernel_rfl)
instance : TZero Try.prog 38 [.nilFunc] := .of (by kernel_rfl)
instance : TScal Try.prog 39 := .of (by kernel_rfl)
instance : TZero Try.prog 39 [.nilFunc] := .of (by kernel_rfl)
instance : TScal Try.prog 41 := .of (by kernel_rfl)
instance : TZero Try.prog 41 [.nilFunc] := .of (by kernel_rfl)
instance : TScal Try.prog 42 := .of (by kernel_rfl)
instance : TZero Try.prog 42 [.nilFunc] := .of (by kernel_rfl)
instance : TScal Try.prog 43 := .of (by kernel_rfl)
instance : TZero Try.prog 43 [.nilFunc] := .of (by kernel_rfl)
instance : TScal Try.prog 45 := .of (by kernel_rfl)
instance : TZero Try.prog 45 [.nilFunc] := .of (by kernel_rfl)
instance : TScal Try.prog 46 := .of (by kernel_rfl)
instance : TZero Try.prog 46 [.slice none 0 0] := .of (by kernel_rfl)
instance : TSlice Try.prog 46 UInt8 := .of (by kernel_rfl)
instance : TScal Try.prog 47 := .of (by kernel_rfl)
instance : TZero Try.prog 47 [.nilFunc] := .of (by kernel_rfl)
instance : TScal Try.prog 48 := .of (by kernel_rfl)
instance : TZero Try.prog 48 [.slice none 0 0] := .of (by kernel_rfl)
instance : TSlice Try.prog 48 E := .of (by kernel_rfl)
instance : TAgg Try.prog 50 3 := .of (by kernel_rfl)
instance : TZero Try.prog 50 [.slice none 0 0, .slice none 0 0, .slice none 0 0] := .of (by kernel_rfl)
instance : TStruct Try.prog 50 [(0, 1), (1, 1), (2, 1)] := .of (by kernel_rfl)
instance : TField Try.prog 50 0 0 := .of (by kernel_rfl)
instance : TField Try.prog 50 1 1 := .of (by kernel_rfl)
instance : TField Try.prog 50 2 2 := .of (by kernel_rfl)
instance : TScal Try.prog 52 := .of (by kernel_rfl)
instance : TZero Try.prog 52 [.nilFunc] := .of (by kernel_rfl)
instance : TScal Try.prog 53 := .of (by kernel_rfl)
instance : TZero Try.prog 53 [.nilFunc] := .of (by kernel_rfl)
instance : TScal Try.prog 54 := .of (by kernel_rfl)
instance : TZero Try.prog 54 [.nilFunc] := .of (by kernel_rfl)
instance : TScal Try.prog 56 := .of (by kernel_rfl)
instance : TZero Try.prog 56 [.nilFunc] := .of (by kernel_rfl)
instance : TScal Try.prog 57 := .of (by kernel_rfl)
instance : TZero Try.prog 57 [.nilFunc] := .of (by kernel_rfl)
instance : TScal Try.prog 58 := .of (by kernel_rfl)
instance : TZero Try.prog 58 [.nilFunc] := .of (by kernel_rfl)
instance : TScal Try.prog 59 := .of (by kernel_rfl)
instance : TZero Try.prog 59 [.slice none 0 0] := .of (by kernel_rfl)
instance : TSlice Try.prog 59 E := .of (by kernel_rfl)
instance : TAgg Try.prog 61 3 := .of (by kernel_rfl)
instance : TZero Try.prog 61 [.slice none 0 0, .slice none 0 0, .slice none 0 0] := .of (by kernel_rfl)
instance : TStruct Try.prog 61 [(0, 1), (1, 1), (2, 1)] := .of (by kernel_rfl)
instance : TField Try.prog 61 0 0 := .of (by kernel_rfl)
instance : TField Try.prog 61 1 1 := .of (by kernel_rfl)
instance : TField Try.prog 61 2 2 := .of (by kernel_rfl)
instance : TScal Try.prog 62 := .of (by kernel_rfl)
instance : TZero Try.prog 62 [.nilFunc] := .of (by kernel_rfl)
instance : TScal Try.prog 63 := .of (by kernel_rfl)
instance : TZero Try.prog 63 [.nilFunc] := .of (by kernel_rfl)
instance : TScal Try.prog 64 := .of (by kernel_rfl)
instance : TZero Try.prog 64 [.nilFunc] := .of (by kernel_rfl)
instance : TScal Try.prog 65 := .of (by kernel_rfl)
instance : TZero Try.prog 65 [.nilFunc] := .of (by kernel_rfl)
instance : TAgg Try.prog 67 2 := .of (by kernel_rfl)
instance : TZero Try.prog 67 [.int .i64 0, .int .i64 0] := .of (by kernel_rfl)
instance : TStruct Try.prog 67 [(0, 1), (1, 1)] := .of (by kernel_rfl)
instance : TField Try.prog 67 0 0 := .of (by kernel_rfl)
instance : TField Try.prog 67 1 1 := .of (by kernel_rfl)
instance : TScal Try.prog 68 := .of (by kernel_rfl)
instance : TZero Try.prog 68 [.nilFunc] := .of (by kernel_rfl)
instance : TScal Try.prog 70 := .of (by kernel_rfl)
instance : TZero Try.prog 70 [.nilFunc] := .of (by kernel_rfl)
instance : TScal Try.prog 71 := .of (by kernel_rfl)
instance : TZero Try.prog 71 [.nilFunc] := .of (by kernel_rfl)
instance : TScal Try.prog 73 := .of (by kernel_rfl)
instance : TZero Try.prog 73 [.nilFunc] := .of (by kernel_rfl)
instance : TScal Try.prog 74 := .of (by kernel_rfl)
instance : TZero Try.prog 74 [.nilFunc] := .of (by kernel_rfl)
instance : TScal Try.prog 75 := .of (by kernel_rfl)
instance : TZero Try.prog 75 [.nilFunc] := .of (by kernel_rfl)
instance : TScal Try.prog 76 := .of (by kernel_rfl)
instance : TZero Try.prog 76 [.nilFunc] := .of (by kernel_rfl)
instance : TScal Try.prog 77 := .of (by kernel_rfl)
instance : TZero Try.prog 77 [.nilFunc] := .of (by kernel_rfl)
instance : TScal Try.prog 78 := .of (by kernel_rfl)
instance : TZero Try.prog 78 [.nilFunc] := .of (by kernel_rfl)
instance : TAgg Try.prog 80 2 := .of (by kernel_rfl)
instance : TZero Try.prog 80 [.int .i64 0, .int .i64 0] := .of (by kernel_rfl)
instance : TStruct Try.prog 80 [(0, 1), (1, 1)] := .of (by kernel_rfl)
instance : TField Try.prog 80 0 0 := .of (by kernel_rfl)
instance : TField Try.prog 80 1 1 := .of (by kernel_rfl)
instance : TScal Try.prog 81 := .of (by kernel_rfl)
instance : TZero Try.prog 81 [.nilFunc] := .of (by kernel_rfl)
instance : TScal Try.prog 82 := .of (by kernel_rfl)
instance : TZero Try.prog 82 [.nilFunc] := .of (by kernel_rfl)
instance : TScal Try.prog 83 := .of (by kernel_rfl)
instance : TZero Try.prog 83 [.nilFunc] := .of (by kernel_rfl)
instance : TScal Try.prog 84 := .of (by kernel_rfl)
instance : TZero Try.prog 84 [.nilFunc] := .of (by kernel_rfl)
instance : TScal Try.prog 85 := .of (by kernel_rfl)
instance : TZero Try.prog 85 [.nilFunc] := .of (by kernel_rfl)
instance : TScal Try.prog 86 := .of (by kernel_rfl)
instance : TZero Try.prog 86 [.nilFunc] := .of (by kernel_rfl)
instance : TScal Try.prog 87 := .of (by kernel_rfl)
instance : TZero Try.prog 87 [.nilFunc] := .of (by kernel_rfl)
instance : TScal Try.prog 88 := .of (by kernel_rfl)
instance : TZero Try.prog 88 [.nilFunc] := .of (by kernel_rfl)
instance : TScal Try.prog 89 := .of (by kernel_rfl)
instance : TZero Try.prog 89 [.nilFunc] := .of (by kernel_rfl)
instance : TScal Try.prog 90 := .of (by kernel_rfl)
instance : TZero Try.prog 90 [.nilFunc] := .of (by kernel_rfl)
instance : TScal Try.prog 91 := .of (by kernel_rfl)
instance : TZero Try.prog 91 [.nilFunc] := .of (by kernel_rfl)
instance : TScal Try.prog 92 := .of (by kernel_rfl)
instance : TZero Try.prog 92 [.nilFunc] := .of (by kernel_rfl)
instance : TScal Try.prog 93 := .of (by kernel_rfl)
instance : TZero Try.prog 93 [.nilFunc] := .of (by kernel_rfl)
instance : TScal Try.prog 94 := .of (by kernel_rfl)
instance : TZero Try.prog 94 [.nilFunc] := .of (by kernel_rfl)
instance : TScal Try.prog 95 := .of (by kernel_rfl)
instance : TZero Try.prog 95 [.nilFunc] := .of (by kernel_rfl)
instance : TScal Try.prog 96 := .of (by kernel_rfl)
instance : TZero Try.prog 96 [.nilFunc] := .of (by kernel_rfl)
instance : TScal Try.prog 97 := .of (by kernel_rfl)
instance : TZero Try.prog 97 [.nilFunc] := .of (by kernel_rfl)
instance : TScal Try.prog 98 := .of (by kernel_rfl)
instance : TZero Try.prog 98 [.nilFunc] := .of (by kernel_rfl)
instance : TScal Try.prog 99 := .of (by kernel_rfl)
instance : TZero Try.prog 99 [.nilFunc] := .of (by kernel_rfl)
instance : TScal Try.prog 100 := .of (by kernel_rfl)
instance : TZero Try.prog 100 [.pointer none] := .of (by kernel_rfl)
instance : TScal Try.prog 101 := .of (by kernel_rfl)
instance : TZero Try.prog 101 [.nilFunc] := .of (by kernel_rfl)
instance : TScal Try.prog 102 := .of (by kernel_rfl)
instance : TZero Try.prog 102 [.nilFunc] := .of (by kernel_rfl)
instance : TScal Try.prog 103 := .of (by kernel_rfl)
instance : TZero Try.prog 103 [.nilFunc] := .of (by kernel_rfl)
instance : TScal Try.prog 104 := .of (by kernel_rfl)
instance : TZero Try.prog 104 [.nilFunc] := .of (by kernel_rfl)
instance : TScal Try.prog 105 := .of (by kernel_rfl)
instance : TZero Try.prog 105 [.nilFunc] := .of (by kernel_rfl)
instance : TScal Try.prog 106 := .of (by kernel_rfl)
instance : TZero Try.prog 106 [.nilFunc] := .of (by kernel_rfl)
instance : TScal Try.prog 107 := .of (by kernel_rfl)
instance : TZero Try.prog 107 [.nilFunc] := .of (by kernel_rfl)
instance : TScal Try.prog 108 := .of (by kernel_rfl)
instance : TZero Try.prog 108 [.nilFunc] := .of (by kernel_rfl)
instance : TScal Try.prog 109 := .of (by kernel_rfl)
instance : TZero Try.prog 109 [.nilFunc] := .of (by kernel_rfl)
instance : TScal Try.prog 110 := .of (by kernel_rfl)
instance : TZero Try.prog 110 [.nilFunc] := .of (by kernel_rfl)
instance : TScal Try.prog 111 := .of (by kernel_rfl)
instance : TZero Try.prog 111 [.nilFunc] := .of (by kernel_rfl)
instance : TScal Try.prog 112 := .of (by kernel_rfl)
instance : TZero Try.prog 112 [.nilFunc] := .of (by kernel_rfl)
instance : TScal Try.prog 113 := .of (by kernel_rfl)
instance : TZero Try.prog 113 [.nilFunc] := .of (by kernel_rfl)
instance : TScal Try.prog 114 := .of (by kernel_rfl)
instance : TZero Try.prog 114 [.nilFunc] := .of (by kernel_rfl)
instance : TScal Try.prog 115 := .of (by kernel_rfl)
instance : TZero Try.prog 115 [.nilFunc] := .of (by kernel_rfl)
instance : TAgg Try.prog 116 2 := .of (by kernel_rfl)
instance : TZero Try.prog 116 [.int .i64 0, .int .i64 0] := .of (by kernel_rfl)
instance : TStruct Try.prog 116 [(0, 1), (1, 1)] := .of (by kernel_rfl)
instance : TField Try.prog 116 0 0 := .of (by kernel_rfl)
instance : TField Try.prog 116 1 1 := .of (by kernel_rfl)
instance : TScal Try.prog 117 := .of (by kernel_rfl)
instance : TZero Try.prog 117 [.nilFunc] := .of (by kernel_rfl)
instance : TAgg Try.prog 119 2 := .of (by kernel_rfl)
instance : TZero Try.prog 119 [.slice none 0 0, .int .i64 0] := .of (by kernel_rfl)
instance : TStruct Try.prog 119 [(0, 1), (1, 1)] := .of (by kernel_rfl)
instance : TField Try.prog 119 0 0 := .of (by kernel_rfl)
instance : TField Try.prog 119 1 1 := .of (by kernel_rfl)
instance : TScal Try.prog 122 := .of (by kernel_rfl)
instance : TZero Try.prog 122 [.nilFunc] := .of (by kernel_rfl)
instance : TScal Try.prog 123 := .of (by kernel_rfl)
instance : TZero Try.prog 123 [.nilFunc] := .of (by kernel_rfl)
instance : TScal Try.prog 124 := .of (by kernel_rfl)
instance : TZero Try.prog 124 [.nilFunc] := .of (by kernel_rfl)
instance : TAgg Try.prog 125 2 := .of (by kernel_rfl)
instance : TZero Try.prog 125 [.int .i64 0, .int .i64 0] := .of (by kernel_rfl)
instance : TStruct Try.prog 125 [(0, 1), (1, 1)] := .of (by kernel_rfl)
instance : TField Try.prog 125 0 0 := .of (by kernel_rfl)
instance : TField Try.prog 125 1 1 := .of (by kernel_rfl)
instance : TScal Try.prog 126 := .of (by kernel_rfl)
instance : TZero Try.prog 126 [.nilFunc] := .of (by kernel_rfl)
instance : TScal Try.prog 127 := .of (by kernel_rfl)
instance : TZero Try.prog 127 [.nilFunc] := .of (by kernel_rfl)
instance : TScal Try.prog 128 := .of (by kernel_rfl)
instance : TZero Try.prog 128 [.nilFunc] := .of (by kernel_rfl)
instance : TScal Try.prog 129 := .of (by kernel_rfl)
instance : TZero Try.prog 129 [.pointer none] := .of (by kernel_rfl)
instance : TScal Try.prog 130 := .of (by kernel_rfl)
instance : TZero Try.prog 130 [.nilFunc] := .of (by kernel_rfl)
instance : TScal Try.prog 131 := .of (by kernel_rfl)
instance : TZero Try.prog 131 [.nilFunc] := .of (by kernel_rfl)
instance : TScal Try.prog 132 := .of (by kernel_rfl)
instance : TZero Try.prog 132 [.nilFunc] := .of (by kernel_rfl)
instance : TScal Try.prog 133 := .of (by kernel_rfl)
instance : TZero Try.prog 133 [.nilFunc] := .of (by kernel_rfl)
instance : TScal Try.prog 136 := .of (by kernel_rfl)
instance : TZero Try.prog 136 [.nilFunc] := .of (by kernel_rfl)
instance : TScal Try.prog 137 := .of (by kernel_rfl)
instance : TInt Try.prog 137 := .of (by kernel_rfl)
instance : TZero Try.prog 137 [.int .u64 0] := .of (by kernel_rfl)
instance : TScal Try.prog 139 := .of (by kernel_rfl)
instance : TZero Try.prog 139 [.nilFunc] := .of (by kernel_rfl)
instance : TScal Try.prog 140 := .of (by kernel_rfl)
instance : TZero Try.prog 140 [.nilFunc] := .of (by kernel_rfl)
instance : TScal Try.prog 141 := .of (by kernel_rfl)
instance : TZero Try.prog 141 [.nilFunc] := .of (by kernel_rfl)
instance : TScal Try.prog 142 := .of (by kernel_rfl)
instance : TZero Try.prog 142 [.nilFunc] := .of (by kernel_rfl)
instance : TScal Try.prog 143 := .of (by kernel_rfl)
instance : TZero Try.prog 143 [.nilFunc] := .of (by kernel_rfl)
instance : TScal Try.prog 144 := .of (by kernel_rfl)
instance : TZero Try.prog 144 [.nilFunc] := .of (by kernel_rfl)
instance : TScal Try.prog 145 := .of (by kernel_rfl)
instance : TZero Try.prog 145 [.nilFunc] := .of (by kernel_rfl)
instance : TScal Try.prog 146 := .of (by kernel_rfl)
instance : TZero Try.prog 146 [.nilFunc] := .of (by kernel_rfl)
instance : TScal Try.prog 152 := .of (by kernel_rfl)
instance : TZero Try.prog 152 [.nilFunc] := .of (by kernel_rfl)
instance : TScal Try.prog 155 := .of (by kernel_rfl)
instance : TZero Try.prog 155 [.nilFunc] := .of (by kernel_rfl)
instance : TScal Try.prog 156 := .of (by kernel_rfl)
instance : TZero Try.prog 156 [.pointer none] := .of (by kernel_rfl)
instance : TScal Try.prog 161 := .of (by kernel_rfl)
instance : TZero Try.prog 161 [.nilFunc] := .of (by kernel_rfl)
theorem mixed : Try.prog.follows .mixedOrders = true := by kernel_rfl
instance : TFun Try.prog 3 := .of (by kernel_rfl)
instance : TFun Try.prog 4 := .of (by kernel_rfl)
instance : TFun Try.prog 5 := .of (by kernel_rfl)
instance : TFun Try.prog 6 := .of (by kernel_rfl)
instance : TFun Try.prog 7 := .of (by kernel_rfl)
instance : TFun Try.prog 8 := .of (by kernel_rfl)
instance : TFun Try.prog 9 := .of (by kernel_rfl)
instance : TFun Try.prog 10 := .of (by kernel_rfl)
instance : TFun Try.prog 11 := .of (by kernel_rfl)
instance : TFun Try.prog 12 := .of (by kernel_rfl)
instance : TFun Try.prog 13 := .of (by kernel_rfl)
instance : TFun Try.prog 14 := .of (by kernel_rfl)
instance : TFun Try.prog 15 := .of (by kernel_rfl)
instance : TFun Try.prog 16 := .of (by kernel_rfl)
instance : TFun Try.prog 17 := .of (by kernel_rfl)
instance : TFun Try.prog 18 := .of (by kernel_rfl)
instance : TFun Try.prog 19 := .of (by kernel_rfl)
instance : TFun Try.prog 20 := .of (by kernel_rfl)
instance : TFun Try.prog 21 := .of (by kernel_rfl)
instance : TFun Try.prog 22 := .of (by kernel_rfl)
instance : TFun Try.prog 23 := .of (by kernel_rfl)
instance : TFun Try.prog 24 := .of (by kernel_rfl)
instance : TFun Try.prog 25 := .of (by kernel_rfl)
instance : TFun Try.prog 26 := .of (by kernel_rfl)
instance : TFun Try.prog 27 := .of (by kernel_rfl)
instance : TFun Try.prog 28 := .of (by kernel_rfl)
instance : TFun Try.prog 29 := .of (by kernel_rfl)
instance : TFun Try.prog 30 := .of (by kernel_rfl)
instance : TFun Try.prog 31 := .of (by kernel_rfl)
instance : TFun Try.prog 32 := .of (by kernel_rfl)
instance : TFun Try.prog 33 := .of (by kernel_rfl)
instance : TFun Try.prog 34 := .of (by kernel_rfl)
instance : TFun Try.prog 35 := .of (by kernel_rfl)
instance : TFun Try.prog 36 := .of (by kernel_rfl)
instance : TFun Try.prog 37 := .of (by kernel_rfl)
instance : TFun Try.prog 38 := .of (by kernel_rfl)
instance : TFun Try.prog 39 := .of (by kernel_rfl)
instance : TFun Try.prog 40 := .of (by kernel_rfl)
instance : TFun Try.prog 41 := .of (by kernel_rfl)
instance : TFun Try.prog 42 := .of (by kernel_rfl)
instance : TFun Try.prog 43 := .of (by kernel_rfl)
instance : TFun Try.prog 44 := .of (by kernel_rfl)
instance : TFun Try.prog 45 := .of (by kernel_rfl)
instance : TFun Try.prog 46 := .of (by kernel_rfl)
instance : TFun Try.prog 47 := .of (by kernel_rfl)
instance : TFun Try.prog 48 := .of (by kernel_rfl)
instance : TFun Try.prog 49 := .of (by kernel_rfl)
instance : TFun Try.prog 50 := .of (by kernel_rfl)
instance : TFun Try.prog 51 := .of (by kernel_rfl)
instance : TFun Try.prog 52 := .of (by kernel_rfl)
instance : TFun Try.prog 53 := .of (by kernel_rfl)
instance : TFun Try.prog 54 := .of (by kernel_rfl)
instance : TFun Try.prog 55 := .of (by kernel_rfl)
instance : TFun Try.prog 56 := .of (by kernel_rfl)
instance : TFun Try.prog 57 := .of (by kernel_rfl)
instance : TFun Try.prog 58 := .of (by kernel_rfl)
instance : TFun Try.prog 59 := .of (by kernel_rfl)
instance : TFun Try.prog 60 := .of (by kernel_rfl)
instance : TFun Try.prog 61 := .of (by kernel_rfl)
instance : TFun Try.prog 62 := .of (by kernel_rfl)
instance : TFun Try.prog 63 := .of (by kernel_rfl)
instance : TFun Try.prog 64 := .of (by kernel_rfl)
instance : TFun Try.prog 65 := .of (by kernel_rfl)
instance : TFun Try.prog 66 := .of (by kernel_rfl)
instance : TFun Try.prog 67 := .of (by kernel_rfl)
instance : TFun Try.prog 68 := .of (by kernel_rfl)
instance : TFun Try.prog 69 := .of (by kernel_rfl)
instance : TFun Try.prog 70 := .of (by kernel_rfl)
instance : TFun Try.prog 71 := .of (by kernel_rfl)
instance : TFun Try.prog 72 := .of (by kernel_rfl)
instance : TFun Try.prog 73 := .of (by kernel_rfl)
instance : TFun Try.prog 74 := .of (by kernel_rfl)
instance : TFun Try.prog 75 := .of (by kernel_rfl)
instance : TFun Try.prog 76 := .of (by kernel_rfl)
instance : TFun Try.prog 77 := .of (by kernel_rfl)
instance : TFun Try.prog 78 := .of (by kernel_rfl)
instance : TFun Try.prog 79 := .of (by kernel_rfl)
instance : TFun Try.prog 80 := .of (by kernel_rfl)
instance : TFun Try.prog 81 := .of (by kernel_rfl)
instance : TFun Try.prog 82 := .of (by kernel_rfl)
instance : TFun Try.prog 83 := .of (by kernel_rfl)
instance : TFun Try.prog 84 := .of (by kernel_rfl)
instance : TFun Try.prog 85 := .of (by kernel_rfl)
instance : TFun Try.prog 86 := .of (by kernel_rfl)
instance : TFun Try.prog 87 := .of (by kernel_rfl)
instance : TFun Try.prog 88 := .of (by kernel_rfl)
instance : TFun Try.prog 89 := .of (by kernel_rfl)
instance : TFun Try.prog 90 := .of (by kernel_rfl)
instance : TFun Try.prog 91 := .of (by kernel_rfl)
instance : TFun Try.prog 92 := .of (by kernel_rfl)
instance : TFun Try.prog 93 := .of (by kernel_rfl)
instance : TFun Try.prog 94 := .of (by kernel_rfl)
instance : TFun Try.prog 95 := .of (by kernel_rfl)
instance : TFun Try.prog 96 := .of (by kernel_rfl)
instance : TFun Try.prog 97 := .of (by kernel_rfl)
instance : TFun Try.prog 98 := .of (by kernel_rfl)
instance : TFun Try.prog 99 := .of (by kernel_rfl)
instance : TFun Try.prog 100 := .of (by kernel_rfl)
instance : TFun Try.prog 101 := .of (by kernel_rfl)
instance : TFun Try.prog 102 := .of (by kernel_rfl)
instance : TFun Try.prog 103 := .of (by kernel_rfl)
instance : TFun Try.prog 104 := .of (by kernel_rfl)
instance : TFun Try.prog 105 := .of (by kernel_rfl)
instance : TFun Try.prog 106 := .of (by kernel_rfl)
instance : TFun Try.prog 107 := .of (by kernel_rfl)
instance : TFun Try.prog 108 := .of (by kernel_rfl)
instance : TFun Try.prog 109 := .of (by kernel_rfl)
instance : TFun Try.prog 110 := .of (by kernel_rfl)
instance : TFun Try.prog 111 := .of (by kernel_rfl)
instance : TFun Try.prog 112 := .of (by kernel_rfl)
instance : TFun Try.prog 113 := .of (by kernel_rfl)
instance : TFun Try.prog 114 := .of (by kernel_rfl)
instance : TFun Try.prog 115 := .of (by kernel_rfl)
instance : TFun Try.prog 116 := .of (by kernel_rfl)
instance : TFun Try.prog 117 := .of (by kernel_rfl)
instance : TFun Try.prog 118 := .of (by kernel_rfl)
instance : TFun Try.prog 119 := .of (by kernel_rfl)
instance : TFun Try.prog 120 := .of (by kernel_rfl)
instance : TFun Try.prog 121 := .of (by kernel_rfl)
instance : TFun Try.prog 122 := .of (by kernel_rfl)
instance : TFun Try.prog 123 := .of (by kernel_rfl)
instance : TFun Try.prog 124 := .of (by kernel_rfl)
instance : TFun Try.prog 125 := .of (by kernel_rfl)
instance : TFun Try.prog 126 := .of (by kernel_rfl)
instance : TFun Try.prog 127 := .of (by kernel_rfl)
instance : TFun Try.prog 128 := .of (by kernel_rfl)
instance : TFun Try.prog 129 := .of (by kernel_rfl)
instance : TFun Try.prog 130 := .of (by kernel_rfl)
instance : TFun Try.prog 131 := .of (by kernel_rfl)
instance : TFun Try.prog 132 := .of (by kernel_rfl)
instance : TFun Try.prog 133 := .of (by kernel_rfl)
instance : TFun Try.prog 134 := .of (by kernel_rfl)
instance : TFun Try.prog 135 := .of (by kernel_rfl)
instance : TFun Try.prog 136 := .of (by kernel_rfl)
instance : TFun Try.prog 137 := .of (by kernel_rfl)
instance : TFun Try.prog 138 := .of (by kernel_rfl)
instance : TFun Try.prog 139 := .of (by kernel_rfl)
instance : TFun Try.prog 140 := .of (by kernel_rfl)
end Go.Proofs.Ythlgbeakcobeoaa
/- The steps of a walk, each given its small proofs by default. No conditions. -/
namespace Go.Proofs.Ythlgbeakcobeoaa
open Go
structure Wrap (p : Prop) : Prop where
  out : p
theorem rD {p : Prop} (h : p := by first | exact Rd.arg0 (by assumption) | exact Rd.own (by repeat (first | exact List.Mem.head _ | apply List.Mem.tail)) | exact Rd.nil) : p := h
theorem lT {p : Prop} (h : p := by first | omega | (simp only [List.length_cons, List.length_nil, List.length_append, List.length_set, List.length_replicate]; omega)) : p := h
theorem oN {p : Prop} (h : p := by repeat (first | exact One.nil | refine One.lit rfl ?_ | refine One.lit (by assumption) ?_ | refine One.arg (by assumption) ?_ | refine One.mem (by repeat (first | exact OneM.head isOwn.own | apply OneM.tail)) ?_)) : p := h
theorem sT {p : Prop} (h : p := by repeat (first | exact SubT.nil _ | refine SubT.cons ?_ | refine SubT.pick1 ?_ | refine SubT.pick2 ?_ | refine SubT.pick3 ?_ | refine SubT.pick4 ?_ | refine SubT.pick5 ?_ | refine SubT.pick6 ?_ | refine SubT.pick7 ?_ | refine SubT.pick8 ?_ | refine SubT.pick9 ?_ | refine SubT.pick10 ?_ | refine SubT.pick11 ?_ | refine SubT.pick12 ?_ | refine SubT.pick13 ?_ | refine SubT.pick14 ?_ | refine SubT.pick15 ?_)) : p := h
theorem sE {p : Prop} (h : p := by repeat (first | exact trivial | refine ⟨rfl, ?_⟩)) : p := h
theorem rV {p : Prop} (h : p := by repeat (first | exact trivial | refine ⟨rfl, ?_⟩ | refine ⟨⟨_, _, rfl, by repeat (first | exact List.Mem.head _ | apply List.Mem.tail), .inl ⟨_, inferInstance, rfl, rfl⟩⟩, ?_⟩ | refine ⟨⟨_, _, rfl, by repeat (first | exact List.Mem.head _ | apply List.Mem.tail), .inr ⟨inferInstance, rfl⟩⟩, ?_⟩)) : p := h
theorem lO {p : Prop} (h : p := by repeat (first | exact trivial | refine ⟨rfl, ?_⟩)) : p := h
theorem pA {p : Prop} (h : p := by repeat (first | exact trivial | refine ⟨rfl, rfl, ?_⟩)) : p := h
theorem xQP {p : Prop} (h : p := by repeat (first | exact QP.body | refine QP.then ?_ | refine QP.inBlock ?_)) : p := h
theorem xBP {p : Prop} (h : p := by repeat (first | exact BP.nil | apply BP.agg rfl | apply BP.one rfl (by repeat (first | exact One.nil | refine One.lit rfl ?_ | refine One.lit (by assumption) ?_ | refine One.arg (by assumption) ?_ | refine One.mem (by repeat (first | exact OneM.head isOwn.own | apply OneM.tail)) ?_)))) : p := h
theorem lN {p : Prop} (h : p := by first | omega | (simp only [List.length_append, List.length_cons, List.length_nil, List.length_replicate, List.length_set]; omega)) : p := h
theorem mM {p : Prop} (h : p := by repeat (first | exact List.Mem.head _ | apply List.Mem.tail)) : p := h
theorem oM {p : Prop} (h : p := by repeat (first | exact OneM.head isOwn.own | apply OneM.tail)) : p := h
theorem pM {p : Prop} (h : p := by first | exact List.Perm.refl _ | exact prm1 | exact prm2 | exact prm3 | exact prm4 | exact prm5 | exact prm6 | exact prm7 | exact prm8 | exact prm9 | exact prm10 | exact prm11 | exact prm12 | exact prm13 | exact prm14 | exact prm15 | exact prd1 | exact prd2 | exact prd3 | exact prd4 | exact prd5 | exact prd6 | exact prd7 | exact prd8 | exact prd9 | exact prd10 | exact prd11) : p := h
theorem oP {p : Prop} (h : p := by first | exact Op1.move rfl | exact Op1.assign rfl | exact Op1.load rfl (by repeat (first | exact List.Mem.head _ | apply List.Mem.tail)) (by rfl) | exact Op1.loadI rfl (by first | exact Rd.arg0 (by assumption) | exact Rd.own (by repeat (first | exact List.Mem.head _ | apply List.Mem.tail)) | exact Rd.nil) (by first | omega | (simp only [List.length_cons, List.length_nil, List.length_append, List.length_set, List.length_replicate]; omega)) | exact Op1.loadAll rfl (by repeat (first | exact List.Mem.head _ | apply List.Mem.tail)) (by rfl) | exact Op1.fieldAddr rfl | exact Op1.indexAddr rfl rfl (by first | exact Rd.arg0 (by assumption) | exact Rd.own (by repeat (first | exact List.Mem.head _ | apply List.Mem.tail)) | exact Rd.nil) (by first | omega | (simp only [List.length_cons, List.length_nil, List.length_append, List.length_set, List.length_replicate]; omega)) | exact Op1.indexAddrZ rfl rfl (by first | exact Rd.arg0 (by assumption) | exact Rd.own (by repeat (first | exact List.Mem.head _ | apply List.Mem.tail)) | exact Rd.nil) (by first | omega | (simp only [List.length_cons, List.length_nil, List.length_append, List.length_set, List.length_replicate]; omega)) | exact Op1.loadE rfl (by first | exact Rd.arg0 (by assumption) | exact Rd.own (by repeat (first | exact List.Mem.head _ | apply List.Mem.tail)) | exact Rd.nil) (by first | omega | (simp only [List.length_cons, List.length_nil, List.length_append, List.length_set, List.length_replicate]; omega)) (by rfl) | exact Op1.loadEAgg rfl (by first | exact Rd.arg0 (by assumption) | exact Rd.own (by repeat (first | exact List.Mem.head _ | apply List.Mem.tail)) | exact Rd.nil) (by first | omega | (simp only [List.length_cons, List.length_nil, List.length_append, List.length_set, List.length_replicate]; omega)) (by rfl) | exact Op1.fieldAddrE rfl (by first | exact Rd.arg0 (by assumption) | exact Rd.own (by repeat (first | exact List.Mem.head _ | apply List.Mem.tail)) | exact Rd.nil) (by first | omega | (simp only [List.length_cons, List.length_nil, List.length_append, List.length_set, List.length_replicate]; omega)) | exact Op1.len rfl (by first | exact Rd.arg0 (by assumption) | exact Rd.own (by repeat (first | exact List.Mem.head _ | apply List.Mem.tail)) | exact Rd.nil) | exact Op1.eqI rfl rfl | exact Op1.neI rfl rfl | exact Op1.ltI rfl rfl | exact Op1.leI rfl rfl | exact Op1.gtI rfl rfl | exact Op1.geI rfl rfl | exact Op1.add rfl rfl (by omega) | exact Op1.sub rfl rfl (by omega) | exact Op1.pickT rfl rfl | exact Op1.pickF rfl rfl | exact Op1.extract rfl (by rfl) | exact Op1.notD rfl | exact Op1.not rfl | exact Op1.eqB rfl rfl | exact Op1.neB rfl rfl | exact Op1.bmin rfl rfl | exact Op1.bmax rfl rfl | exact Op1.build (by repeat (first | exact BP.nil | apply BP.agg rfl | apply BP.one rfl (by repeat (first | exact One.nil | refine One.lit rfl ?_ | refine One.lit (by assumption) ?_ | refine One.arg (by assumption) ?_ | refine One.mem (by repeat (first | exact OneM.head isOwn.own | apply OneM.tail)) ?_)))) (by rfl) | exact Op1.nilCheck rfl | exact Op1.xor rfl rfl (by omega) (by omega) | exact Op1.sliceHiZ rfl rfl (by first | exact Rd.arg0 (by assumption) | exact Rd.own (by repeat (first | exact List.Mem.head _ | apply List.Mem.tail)) | exact Rd.nil) (by first | omega | (simp only [List.length_cons, List.length_nil, List.length_append, List.length_set, List.length_replicate]; omega)) | exact Op1.sliceLo rfl rfl (by first | exact Rd.arg0 (by assumption) | exact Rd.own (by repeat (first | exact List.Mem.head _ | apply List.Mem.tail)) | exact Rd.nil) (by first | omega | (simp only [List.length_cons, List.length_nil, List.length_append, List.length_set, List.length_replicate]; omega))) : p := h
theorem kR {p : Prop} (h : p := by kernel_rfl) : p := h
theorem go {p q : Prop} (h : Wrap q) (k : Wrap q → p := by intro h; (first  | refine WP.seq ?_ | refine WP.block ?_ | refine WP.region ?_ | refine WPL.nil ?_ | refine PE.next ?_  | (refine isMove ?_; first | refine WPL.pure (Op1.move rfl) rfl rfl ?_ | (refine isGuard ?_; refine WPL.skip rfl rfl ?_))  | (refine isAssign ?_; refine WPL.pure (Op1.assign rfl) rfl rfl ?_)  | (refine isLoad ?_; first | refine WPL.pure (Op1.load rfl (by repeat (first | exact List.Mem.head _ | apply List.Mem.tail)) (by rfl)) rfl rfl ?_ | refine WPL.pure (Op1.loadI rfl (by first | exact Rd.arg0 (by assumption) | exact Rd.own (by repeat (first | exact List.Mem.head _ | apply List.Mem.tail)) | exact Rd.nil) (by first | omega | (simp only [List.length_cons, List.length_nil, List.length_append, List.length_set, List.length_replicate]; omega))) rfl rfl ?_ | refine WPL.pure (Op1.loadAll rfl (by repeat (first | exact List.Mem.head _ | apply List.Mem.tail)) (by rfl)) rfl rfl ?_ | refine WPL.pure (Op1.loadE rfl (by first | exact Rd.arg0 (by assumption) | exact Rd.own (by repeat (first | exact List.Mem.head _ | apply List.Mem.tail)) | exact Rd.nil) (by first | omega | (simp only [List.length_cons, List.length_nil, List.length_append, List.length_set, List.length_replicate]; omega)) (by rfl)) rfl rfl ?_ | refine WPL.pure (Op1.loadEAgg rfl (by first | exact Rd.arg0 (by assumption) | exact Rd.own (by repeat (first | exact List.Mem.head _ | apply List.Mem.tail)) | exact Rd.nil) (by first | omega | (simp only [List.length_cons, List.length_nil, List.length_append, List.length_set, List.length_replicate]; omega)) (by rfl)) rfl rfl ?_ | (refine isGuard ?_; refine WPL.skip rfl rfl ?_))  | (refine isFld ?_; first | refine WPL.pure (Op1.fieldAddr rfl) rfl rfl ?_ | refine WPL.pure (Op1.fieldAddrE rfl (by first | exact Rd.arg0 (by assumption) | exact Rd.own (by repeat (first | exact List.Mem.head _ | apply List.Mem.tail)) | exact Rd.nil) (by first | omega | (simp only [List.length_cons, List.length_nil, List.length_append, List.length_set, List.length_replicate]; omega))) rfl rfl ?_ | (refine isGuard ?_; refine WPL.skip rfl rfl ?_))  | (refine isIdx ?_; first | refine WPL.pure (Op1.indexAddr rfl rfl (by first | exact Rd.arg0 (by assumption) | exact Rd.own (by repeat (first | exact List.Mem.head _ | apply List.Mem.tail)) | exact Rd.nil) (by first | omega | (simp only [List.length_cons, List.length_nil, List.length_append, List.length_set, List.length_replicate]; omega))) rfl rfl ?_ | refine WPL.pure (Op1.indexAddrZ rfl rfl (by first | exact Rd.arg0 (by assumption) | exact Rd.own (by repeat (first | exact List.Mem.head _ | apply List.Mem.tail)) | exact Rd.nil) (by first | omega | (simp only [List.length_cons, List.length_nil, List.length_append, List.length_set, List.length_replicate]; omega))) rfl rfl ?_ | (refine isGuard ?_; refine WPL.skip rfl rfl ?_))  | (refine isExt ?_; refine WPL.pure (Op1.extract rfl (by rfl)) rfl rfl ?_)  | (refine isBin ?_; first | refine WPL.pure (Op1.eqI rfl rfl) rfl rfl ?_ | refine WPL.pure (Op1.neI rfl rfl) rfl rfl ?_ | refine WPL.pure (Op1.ltI rfl rfl) rfl rfl ?_ | refine WPL.pure (Op1.leI rfl rfl) rfl rfl ?_ | refine WPL.pure (Op1.gtI rfl rfl) rfl rfl ?_ | refine WPL.pure (Op1.geI rfl rfl) rfl rfl ?_ | refine WPL.pure (Op1.add rfl rfl (by omega)) rfl rfl ?_ | refine WPL.pure (Op1.sub rfl rfl (by omega)) rfl rfl ?_ | refine WPL.pure (Op1.mul rfl rfl (by omega)) rfl rfl ?_ | refine WPL.pure (Op1.quo rfl rfl (by omega)) rfl rfl ?_ | refine WPL.pure (Op1.rem rfl rfl (by omega)) rfl rfl ?_ | refine WPL.pure (Op1.xor rfl rfl (by omega) (by omega)) rfl rfl ?_ | refine WPL.pure (Op1.eqB rfl rfl) rfl rfl ?_ | refine WPL.pure (Op1.neB rfl rfl) rfl rfl ?_ | refine WPL.pure (Op1.eqNil rfl (by first | exact Rd.arg0 (by assumption) | exact Rd.own (by repeat (first | exact List.Mem.head _ | apply List.Mem.tail)) | exact Rd.nil)) rfl rfl ?_ | (refine isGuard ?_; refine WPL.skip rfl rfl ?_))  | (refine isPick ?_; first | refine WPL.pure (Op1.pickT rfl rfl) rfl rfl ?_ | refine WPL.pure (Op1.pickF rfl rfl) rfl rfl ?_ | (refine isGuard ?_; refine WPL.skip rfl rfl ?_))  | (refine isUn ?_; first | refine WPL.pure (Op1.notD rfl) rfl rfl ?_ | refine WPL.pure (Op1.not rfl) rfl rfl ?_ | refine WPL.pure (Op1.neg rfl (by omega)) rfl rfl ?_ | (refine isGuard ?_; refine WPL.skip rfl rfl ?_))  | (refine isBlt ?_; first | refine WPL.pure (Op1.len rfl (by first | exact Rd.arg0 (by assumption) | exact Rd.own (by repeat (first | exact List.Mem.head _ | apply List.Mem.tail)) | exact Rd.nil)) rfl rfl ?_ | refine WPL.pure (Op1.bmin rfl rfl) rfl rfl ?_ | refine WPL.pure (Op1.bmax rfl rfl) rfl rfl ?_ | (refine isGuard ?_; refine WPL.skip rfl rfl ?_))  | (refine isBuild ?_; refine WPL.pure (Op1.build (by repeat (first | exact BP.nil | apply BP.agg rfl | apply BP.one rfl (by repeat (first | exact One.nil | refine One.lit rfl ?_ | refine One.lit (by assumption) ?_ | refine One.arg (by assumption) ?_ | refine One.mem (by repeat (first | exact OneM.head isOwn.own | apply OneM.tail)) ?_)))) (by rfl)) rfl rfl ?_) | (refine isStore ?_; first | (refine WPL.eff0 (OpE.store rfl rfl (by first | exact List.Perm.refl _ | exact prm1 | exact prm2 | exact prm3 | exact prm4 | exact prm5 | exact prm6 | exact prm7 | exact prm8 | exact prm9 | exact prm10 | exact prm11 | exact prm12 | exact prm13 | exact prm14 | exact prm15 | exact prd1 | exact prd2 | exact prd3 | exact prd4 | exact prd5 | exact prd6 | exact prd7 | exact prd8 | exact prd9 | exact prd10 | exact prd11) (by rfl) (by repeat (first | exact One.nil | refine One.lit rfl ?_ | refine One.lit (by assumption) ?_ | refine One.arg (by assumption) ?_ | refine One.mem (by repeat (first | exact OneM.head isOwn.own | apply OneM.tail)) ?_))) rfl ?_; rintro _ _ rfl) | (refine WPL.eff0 (OpE.storeAll rfl rfl (by first | exact List.Perm.refl _ | exact prm1 | exact prm2 | exact prm3 | exact prm4 | exact prm5 | exact prm6 | exact prm7 | exact prm8 | exact prm9 | exact prm10 | exact prm11 | exact prm12 | exact prm13 | exact prm14 | exact prm15 | exact prd1 | exact prd2 | exact prd3 | exact prd4 | exact prd5 | exact prd6 | exact prd7 | exact prd8 | exact prd9 | exact prd10 | exact prd11) (by rfl) (by rfl) (by repeat (first | exact One.nil | refine One.lit rfl ?_ | refine One.lit (by assumption) ?_ | refine One.arg (by assumption) ?_ | refine One.mem (by repeat (first | exact OneM.head isOwn.own | apply OneM.tail)) ?_))) rfl ?_; rintro _ _ rfl)) | (refine isConv ?_; first | refine WPL.pure (Op1.convInt rfl (by kernel_rfl) (by omega)) rfl rfl ?_ | (refine isGuard ?_; refine WPL.skip rfl rfl ?_))  | (refine isNil ?_; first | refine WPL.pure (Op1.nilCheck rfl) rfl rfl ?_ | (refine isGuard ?_; refine WPL.skip rfl rfl ?_)) | (refine isSlc ?_; first | refine WPL.pure (Op1.sliceHiZ rfl rfl (by first | exact Rd.arg0 (by assumption) | exact Rd.own (by repeat (first | exact List.Mem.head _ | apply List.Mem.tail)) | exact Rd.nil) (by first | omega | (simp only [List.length_cons, List.length_nil, List.length_append, List.length_set, List.length_replicate]; omega))) rfl rfl ?_ | refine WPL.pure (Op1.sliceLo rfl rfl (by first | exact Rd.arg0 (by assumption) | exact Rd.own (by repeat (first | exact List.Mem.head _ | apply List.Mem.tail)) | exact Rd.nil) (by first | omega | (simp only [List.length_cons, List.length_nil, List.length_append, List.length_set, List.length_replicate]; omega))) rfl rfl ?_ | (refine isGuard ?_; refine WPL.skip rfl rfl ?_)) | (refine isGuard ?_; refine WPL.skip rfl rfl ?_) | refine PE.thenRet ?_ | refine PE.thenExit ?_ | refine PE.inBlockRet ?_ | refine PE.inBlockNormal ?_ | refine PE.inBlockSame ?_ | refine PE.inBlockOther rfl ?_  | refine WP.skip ?_ | refine WP.ret ?_ | refine WP.exit ?_ | (refine isCond ?_; first | refine WP.condT rfl ?_ | refine WP.condF rfl ?_)); (repeat (first  | refine WP.seq ?_ | refine WP.block ?_ | refine WP.region ?_ | refine WPL.nil ?_ | refine PE.next ?_  | (refine isMove ?_; first | refine WPL.pure (Op1.move rfl) rfl rfl ?_ | (refine isGuard ?_; refine WPL.skip rfl rfl ?_))  | (refine isAssign ?_; refine WPL.pure (Op1.assign rfl) rfl rfl ?_)  | (refine isLoad ?_; first | refine WPL.pure (Op1.load rfl (by repeat (first | exact List.Mem.head _ | apply List.Mem.tail)) (by rfl)) rfl rfl ?_ | refine WPL.pure (Op1.loadI rfl (by first | exact Rd.arg0 (by assumption) | exact Rd.own (by repeat (first | exact List.Mem.head _ | apply List.Mem.tail)) | exact Rd.nil) (by first | omega | (simp only [List.length_cons, List.length_nil, List.length_append, List.length_set, List.length_replicate]; omega))) rfl rfl ?_ | refine WPL.pure (Op1.loadAll rfl (by repeat (first | exact List.Mem.head _ | apply List.Mem.tail)) (by rfl)) rfl rfl ?_ | refine WPL.pure (Op1.loadE rfl (by first | exact Rd.arg0 (by assumption) | exact Rd.own (by repeat (first | exact List.Mem.head _ | apply List.Mem.tail)) | exact Rd.nil) (by first | omega | (simp only [List.length_cons, List.length_nil, List.length_append, List.length_set, List.length_replicate]; omega)) (by rfl)) rfl rfl ?_ | refine WPL.pure (Op1.loadEAgg rfl (by first | exact Rd.arg0 (by assumption) | exact Rd.own (by repeat (first | exact List.Mem.head _ | apply List.Mem.tail)) | exact Rd.nil) (by first | omega | (simp only [List.length_cons, List.length_nil, List.length_append, List.length_set, List.length_replicate]; omega)) (by rfl)) rfl rfl ?_ | (refine isGuard ?_; refine WPL.skip rfl rfl ?_))  | (refine isFld ?_; first | refine WPL.pure (Op1.fieldAddr rfl) rfl rfl ?_ | refine WPL.pure (Op1.fieldAddrE rfl (by first | exact Rd.arg0 (by assumption) | exact Rd.own (by repeat (first | exact List.Mem.head _ | apply List.Mem.tail)) | exact Rd.nil) (by first | omega | (simp only [List.length_cons, List.length_nil, List.length_append, List.length_set, List.length_replicate]; omega))) rfl rfl ?_ | (refine isGuard ?_; refine WPL.skip rfl rfl ?_))  | (refine isIdx ?_; first | refine WPL.pure (Op1.indexAddr rfl rfl (by first | exact Rd.arg0 (by assumption) | exact Rd.own (by repeat (first | exact List.Mem.head _ | apply List.Mem.tail)) | exact Rd.nil) (by first | omega | (simp only [List.length_cons, List.length_nil, List.length_append, List.length_set, List.length_replicate]; omega))) rfl rfl ?_ | refine WPL.pure (Op1.indexAddrZ rfl rfl (by first | exact Rd.arg0 (by assumption) | exact Rd.own (by repeat (first | exact List.Mem.head _ | apply List.Mem.tail)) | exact Rd.nil) (by first | omega | (simp only [List.length_cons, List.length_nil, List.length_append, List.length_set, List.length_replicate]; omega))) rfl rfl ?_ | (refine isGuard ?_; refine WPL.skip rfl rfl ?_))  | (refine isExt ?_; refine WPL.pure (Op1.extract rfl (by rfl)) rfl rfl ?_)  | (refine isBin ?_; first | refine WPL.pure (Op1.eqI rfl rfl) rfl rfl ?_ | refine WPL.pure (Op1.neI rfl rfl) rfl rfl ?_ | refine WPL.pure (Op1.ltI rfl rfl) rfl rfl ?_ | refine WPL.pure (Op1.leI rfl rfl) rfl rfl ?_ | refine WPL.pure (Op1.gtI rfl rfl) rfl rfl ?_ | refine WPL.pure (Op1.geI rfl rfl) rfl rfl ?_ | refine WPL.pure (Op1.add rfl rfl (by omega)) rfl rfl ?_ | refine WPL.pure (Op1.sub rfl rfl (by omega)) rfl rfl ?_ | refine WPL.pure (Op1.mul rfl rfl (by omega)) rfl rfl ?_ | refine WPL.pure (Op1.quo rfl rfl (by omega)) rfl rfl ?_ | refine WPL.pure (Op1.rem rfl rfl (by omega)) rfl rfl ?_ | refine WPL.pure (Op1.xor rfl rfl (by omega) (by omega)) rfl rfl ?_ | refine WPL.pure (Op1.eqB rfl rfl) rfl rfl ?_ | refine WPL.pure (Op1.neB rfl rfl) rfl rfl ?_ | refine WPL.pure (Op1.eqNil rfl (by first | exact Rd.arg0 (by assumption) | exact Rd.own (by repeat (first | exact List.Mem.head _ | apply List.Mem.tail)) | exact Rd.nil)) rfl rfl ?_ | (refine isGuard ?_; refine WPL.skip rfl rfl ?_))  | (refine isPick ?_; first | refine WPL.pure (Op1.pickT rfl rfl) rfl rfl ?_ | refine WPL.pure (Op1.pickF rfl rfl) rfl rfl ?_ | (refine isGuard ?_; refine WPL.skip rfl rfl ?_))  | (refine isUn ?_; first | refine WPL.pure (Op1.notD rfl) rfl rfl ?_ | refine WPL.pure (Op1.not rfl) rfl rfl ?_ | refine WPL.pure (Op1.neg rfl (by omega)) rfl rfl ?_ | (refine isGuard ?_; refine WPL.skip rfl rfl ?_))  | (refine isBlt ?_; first | refine WPL.pure (Op1.len rfl (by first | exact Rd.arg0 (by assumption) | exact Rd.own (by repeat (first | exact List.Mem.head _ | apply List.Mem.tail)) | exact Rd.nil)) rfl rfl ?_ | refine WPL.pure (Op1.bmin rfl rfl) rfl rfl ?_ | refine WPL.pure (Op1.bmax rfl rfl) rfl rfl ?_ | (refine isGuard ?_; refine WPL.skip rfl rfl ?_))  | (refine isBuild ?_; refine WPL.pure (Op1.build (by repeat (first | exact BP.nil | apply BP.agg rfl | apply BP.one rfl (by repeat (first | exact One.nil | refine One.lit rfl ?_ | refine One.lit (by assumption) ?_ | refine One.arg (by assumption) ?_ | refine One.mem (by repeat (first | exact OneM.head isOwn.own | apply OneM.tail)) ?_)))) (by rfl)) rfl rfl ?_) | (refine isStore ?_; first | (refine WPL.eff0 (OpE.store rfl rfl (by first | exact List.Perm.refl _ | exact prm1 | exact prm2 | exact prm3 | exact prm4 | exact prm5 | exact prm6 | exact prm7 | exact prm8 | exact prm9 | exact prm10 | exact prm11 | exact prm12 | exact prm13 | exact prm14 | exact prm15 | exact prd1 | exact prd2 | exact prd3 | exact prd4 | exact prd5 | exact prd6 | exact prd7 | exact prd8 | exact prd9 | exact prd10 | exact prd11) (by rfl) (by repeat (first | exact One.nil | refine One.lit rfl ?_ | refine One.lit (by assumption) ?_ | refine One.arg (by assumption) ?_ | refine One.mem (by repeat (first | exact OneM.head isOwn.own | apply OneM.tail)) ?_))) rfl ?_; rintro _ _ rfl) | (refine WPL.eff0 (OpE.storeAll rfl rfl (by first | exact List.Perm.refl _ | exact prm1 | exact prm2 | exact prm3 | exact prm4 | exact prm5 | exact prm6 | exact prm7 | exact prm8 | exact prm9 | exact prm10 | exact prm11 | exact prm12 | exact prm13 | exact prm14 | exact prm15 | exact prd1 | exact prd2 | exact prd3 | exact prd4 | exact prd5 | exact prd6 | exact prd7 | exact prd8 | exact prd9 | exact prd10 | exact prd11) (by rfl) (by rfl) (by repeat (first | exact One.nil | refine One.lit rfl ?_ | refine One.lit (by assumption) ?_ | refine One.arg (by assumption) ?_ | refine One.mem (by repeat (first | exact OneM.head isOwn.own | apply OneM.tail)) ?_))) rfl ?_; rintro _ _ rfl)) | (refine isConv ?_; first | refine WPL.pure (Op1.convInt rfl (by kernel_rfl) (by omega)) rfl rfl ?_ | (refine isGuard ?_; refine WPL.skip rfl rfl ?_))  | (refine isNil ?_; first | refine WPL.pure (Op1.nilCheck rfl) rfl rfl ?_ | (refine isGuard ?_; refine WPL.skip rfl rfl ?_)) | (refine isSlc ?_; first | refine WPL.pure (Op1.sliceHiZ rfl rfl (by first | exact Rd.arg0 (by assumption) | exact Rd.own (by repeat (first | exact List.Mem.head _ | apply List.Mem.tail)) | exact Rd.nil) (by first | omega | (simp only [List.length_cons, List.length_nil, List.length_append, List.length_set, List.length_replicate]; omega))) rfl rfl ?_ | refine WPL.pure (Op1.sliceLo rfl rfl (by first | exact Rd.arg0 (by assumption) | exact Rd.own (by repeat (first | exact List.Mem.head _ | apply List.Mem.tail)) | exact Rd.nil) (by first | omega | (simp only [List.length_cons, List.length_nil, List.length_append, List.length_set, List.length_replicate]; omega))) rfl rfl ?_ | (refine isGuard ?_; refine WPL.skip rfl rfl ?_)) | (refine isGuard ?_; refine WPL.skip rfl rfl ?_) | refine PE.thenRet ?_ | refine PE.thenExit ?_ | refine PE.inBlockRet ?_ | refine PE.inBlockNormal ?_ | refine PE.inBlockSame ?_ | refine PE.inBlockOther rfl ?_  | refine WP.skip ?_ | refine WP.ret ?_ | refine WP.exit ?_ | (refine isCond ?_; first | refine WP.condT rfl ?_ | refine WP.condF rfl ?_))); exact h.out) : p := k h
end Go.Proofs.Ythlgbeakcobeoaa
/- The steps of a walk once more, for functions that are given tokens and read a slice beside them. No conditions. -/
namespace Go.Proofs.Ythlgbeakcobeoaa
open Go
def RdA {α : Type} [Enc α] (G : Ctx) (v : Value) (xs : List α) : Prop := ∀ F, Rd G F v xs
theorem Rd.ofA {α : Type} [Enc α] {G : Ctx} {F : List Tok} {v : Value} {xs : List α} (h : RdA G v xs) : Rd G F v xs := h F
theorem RdA.mk {α : Type} [Enc α] {n : Nat} {W : World} {M : List Nat} {v : Value} {xs : List α} (h : RL W v xs) (hM : ∀ b ∈ vfp v, b ∉ M) : RdA ⟨n, W, M⟩ v xs := fun _ => Rd.arg h hM
theorem rDA {p : Prop} (h : p := by first | exact Rd.ofA (by assumption) | exact Rd.arg0 (by assumption) | exact Rd.own (by repeat (first | exact List.Mem.head _ | apply List.Mem.tail)) | exact Rd.nil) : p := h
theorem oPA {p : Prop} (h : p := by first | exact Op1.move rfl | exact Op1.assign rfl | exact Op1.load rfl (by repeat (first | exact List.Mem.head _ | apply List.Mem.tail)) (by rfl) | exact Op1.loadI rfl (by first | exact Rd.ofA (by assumption) | exact Rd.arg0 (by assumption) | exact Rd.own (by repeat (first | exact List.Mem.head _ | apply List.Mem.tail)) | exact Rd.nil) (by first | omega | (simp only [List.length_cons, List.length_nil, List.length_append, List.length_set, List.length_replicate]; omega)) | exact Op1.loadAll rfl (by repeat (first | exact List.Mem.head _ | apply List.Mem.tail)) (by rfl) | exact Op1.fieldAddr rfl | exact Op1.indexAddr rfl rfl (by first | exact Rd.ofA (by assumption) | exact Rd.arg0 (by assumption) | exact Rd.own (by repeat (first | exact List.Mem.head _ | apply List.Mem.tail)) | exact Rd.nil) (by first | omega | (simp only [List.length_cons, List.length_nil, List.length_append, List.length_set, List.length_replicate]; omega)) | exact Op1.indexAddrZ rfl rfl (by first | exact Rd.ofA (by assumption) | exact Rd.arg0 (by assumption) | exact Rd.own (by repeat (first | exact List.Mem.head _ | apply List.Mem.tail)) | exact Rd.nil) (by first | omega | (simp only [List.length_cons, List.length_nil, List.length_append, List.length_set, List.length_replicate]; omega)) | exact Op1.loadE rfl (by first | exact Rd.ofA (by assumption) | exact Rd.arg0 (by assumption) | exact Rd.own (by repeat (first | exact List.Mem.head _ | apply List.Mem.tail)) | exact Rd.nil) (by first | omega | (simp only [List.length_cons, List.length_nil, List.length_append, List.length_set, List.length_replicate]; omega)) (by rfl) | exact Op1.loadEAgg rfl (by first | exact Rd.ofA (by assumption) | exact Rd.arg0 (by assumption) | exact Rd.own (by repeat (first | exact List.Mem.head _ | apply List.Mem.tail)) | exact Rd.nil) (by first | omega | (simp only [List.length_cons, List.length_nil, List.length_append, List.length_set, List.length_replicate]; omega)) (by rfl) | exact Op1.fieldAddrE rfl (by first | exact Rd.ofA (by assumption) | exact Rd.arg0 (by assumption) | exact Rd.own (by repeat (first | exact List.Mem.head _ | apply List.Mem.tail)) | exact Rd.nil) (by first | omega | (simp only [List.length_cons, List.length_nil, List.length_append, List.length_set, List.length_replicate]; omega)) | exact Op1.len rfl (by first | exact Rd.ofA (by assumption) | exact Rd.arg0 (by assumption) | exact Rd.own (by repeat (first | exact List.Mem.head _ | apply List.Mem.tail)) | exact Rd.nil) | exact Op1.eqI rfl rfl | exact Op1.neI rfl rfl | exact Op1.ltI rfl rfl | exact Op1.leI rfl rfl | exact Op1.gtI rfl rfl | exact Op1.geI rfl rfl | exact Op1.add rfl rfl (by omega) | exact Op1.sub rfl rfl (by omega) | exact Op1.pickT rfl rfl | exact Op1.pickF rfl rfl | exact Op1.extract rfl (by rfl) | exact Op1.notD rfl | exact Op1.not rfl | exact Op1.eqB rfl rfl | exact Op1.neB rfl rfl | exact Op1.bmin rfl rfl | exact Op1.bmax rfl rfl | exact Op1.build (by repeat (first | exact BP.nil | apply BP.agg rfl | apply BP.one rfl (by repeat (first | exact One.nil | refine One.lit rfl ?_ | refine One.lit (by assumption) ?_ | refine One.arg (by assumption) ?_ | refine One.mem (by repeat (first | exact OneM.head isOwn.own | apply OneM.tail)) ?_)))) (by rfl) | exact Op1.nilCheck rfl | exact Op1.xor rfl rfl (by omega) (by omega) | exact Op1.sliceHiZ rfl rfl (by first | exact Rd.ofA (by assumption) | exact Rd.arg0 (by assumption) | exact Rd.own (by repeat (first | exact List.Mem.head _ | apply List.Mem.tail)) | exact Rd.nil) (by first | omega | (simp only [List.length_cons, List.length_nil, List.length_append, List.length_set, List.length_replicate]; omega)) | exact Op1.sliceLo rfl rfl (by first | exact Rd.ofA (by assumption) | exact Rd.arg0 (by assumption) | exact Rd.own (by repeat (first | exact List.Mem.head _ | apply List.Mem.tail)) | exact Rd.nil) (by first | omega | (simp only [List.length_cons, List.length_nil, List.length_append, List.length_set, List.length_replicate]; omega)) | exact Op1.mul rfl rfl (by omega) | exact Op1.quo rfl rfl (by omega) | exact Op1.rem rfl rfl (by omega) | exact Op1.convInt rfl (by kernel_rfl) (by omega)) : p := h
theorem goA {p q : Prop} (h : Wrap q) (k : Wrap q → p := by intro h; (first  | refine WP.seq ?_ | refine WP.block ?_ | refine WP.region ?_ | refine WPL.nil ?_ | refine PE.next ?_  | (refine isMove ?_; first | refine WPL.pure (Op1.move rfl) rfl rfl ?_ | (refine isGuard ?_; refine WPL.skip rfl rfl ?_))  | (refine isAssign ?_; refine WPL.pure (Op1.assign rfl) rfl rfl ?_)  | (refine isLoad ?_; first | refine WPL.pure (Op1.load rfl (by repeat (first | exact List.Mem.head _ | apply List.Mem.tail)) (by rfl)) rfl rfl ?_ | refine WPL.pure (Op1.loadI rfl (by first | exact Rd.ofA (by assumption) | exact Rd.arg0 (by assumption) | exact Rd.own (by repeat (first | exact List.Mem.head _ | apply List.Mem.tail)) | exact Rd.nil) (by first | omega | (simp only [List.length_cons, List.length_nil, List.length_append, List.length_set, List.length_replicate]; omega))) rfl rfl ?_ | refine WPL.pure (Op1.loadAll rfl (by repeat (first | exact List.Mem.head _ | apply List.Mem.tail)) (by rfl)) rfl rfl ?_ | refine WPL.pure (Op1.loadE rfl (by first | exact Rd.ofA (by assumption) | exact Rd.arg0 (by assumption) | exact Rd.own (by repeat (first | exact List.Mem.head _ | apply List.Mem.tail)) | exact Rd.nil) (by first | omega | (simp only [List.length_cons, List.length_nil, List.length_append, List.length_set, List.length_replicate]; omega)) (by rfl)) rfl rfl ?_ | refine WPL.pure (Op1.loadEAgg rfl (by first | exact Rd.ofA (by assumption) | exact Rd.arg0 (by assumption) | exact Rd.own (by repeat (first | exact List.Mem.head _ | apply List.Mem.tail)) | exact Rd.nil) (by first | omega | (simp only [List.length_cons, List.length_nil, List.length_append, List.length_set, List.length_replicate]; omega)) (by rfl)) rfl rfl ?_ | (refine isGuard ?_; refine WPL.skip rfl rfl ?_))  | (refine isFld ?_; first | refine WPL.pure (Op1.fieldAddr rfl) rfl rfl ?_ | refine WPL.pure (Op1.fieldAddrE rfl (by first | exact Rd.ofA (by assumption) | exact Rd.arg0 (by assumption) | exact Rd.own (by repeat (first | exact List.Mem.head _ | apply List.Mem.tail)) | exact Rd.nil) (by first | omega | (simp only [List.length_cons, List.length_nil, List.length_append, List.length_set, List.length_replicate]; omega))) rfl rfl ?_ | (refine isGuard ?_; refine WPL.skip rfl rfl ?_))  | (refine isIdx ?_; first | refine WPL.pure (Op1.indexAddr rfl rfl (by first | exact Rd.ofA (by assumption) | exact Rd.arg0 (by assumption) | exact Rd.own (by repeat (first | exact List.Mem.head _ | apply List.Mem.tail)) | exact Rd.nil) (by first | omega | (simp only [List.length_cons, List.length_nil, List.length_append, List.length_set, List.length_replicate]; omega))) rfl rfl ?_ | refine WPL.pure (Op1.indexAddrZ rfl rfl (by first | exact Rd.ofA (by assumption) | exact Rd.arg0 (by assumption) | exact Rd.own (by repeat (first | exact List.Mem.head _ | apply List.Mem.tail)) | exact Rd.nil) (by first | omega | (simp only [List.length_cons, List.length_nil, List.length_append, List.length_set, List.length_replicate]; omega))) rfl rfl ?_ | (refine isGuard ?_; refine WPL.skip rfl rfl ?_))  | (refine isExt ?_; refine WPL.pure (Op1.extract rfl (by rfl)) rfl rfl ?_)  | (refine isBin ?_; first | refine WPL.pure (Op1.eqI rfl rfl) rfl rfl ?_ | refine WPL.pure (Op1.neI rfl rfl) rfl rfl ?_ | refine WPL.pure (Op1.ltI rfl rfl) rfl rfl ?_ | refine WPL.pure (Op1.leI rfl rfl) rfl rfl ?_ | refine WPL.pure (Op1.gtI rfl rfl) rfl rfl ?_ | refine WPL.pure (Op1.geI rfl rfl) rfl rfl ?_ | refine WPL.pure (Op1.add rfl rfl (by omega)) rfl rfl ?_ | refine WPL.pure (Op1.sub rfl rfl (by omega)) rfl rfl ?_ | refine WPL.pure (Op1.mul rfl rfl (by omega)) rfl rfl ?_ | refine WPL.pure (Op1.quo rfl rfl (by omega)) rfl rfl ?_ | refine WPL.pure (Op1.rem rfl rfl (by omega)) rfl rfl ?_ | refine WPL.pure (Op1.xor rfl rfl (by omega) (by omega)) rfl rfl ?_ | refine WPL.pure (Op1.eqB rfl rfl) rfl rfl ?_ | refine WPL.pure (Op1.neB rfl rfl) rfl rfl ?_ | refine WPL.pure (Op1.eqNil rfl (by first | exact Rd.ofA (by assumption) | exact Rd.arg0 (by assumption) | exact Rd.own (by repeat (first | exact List.Mem.head _ | apply List.Mem.tail)) | exact Rd.nil)) rfl rfl ?_ | (refine isGuard ?_; refine WPL.skip rfl rfl ?_))  | (refine isPick ?_; first | refine WPL.pure (Op1.pickT rfl rfl) rfl rfl ?_ | refine WPL.pure (Op1.pickF rfl rfl) rfl rfl ?_ | (refine isGuard ?_; refine WPL.skip rfl rfl ?_))  | (refine isUn ?_; first | refine WPL.pure (Op1.notD rfl) rfl rfl ?_ | refine WPL.pure (Op1.not rfl) rfl rfl ?_ | refine WPL.pure (Op1.neg rfl (by omega)) rfl rfl ?_ | (refine isGuard ?_; refine WPL.skip rfl rfl ?_))  | (refine isBlt ?_; first | refine WPL.pure (Op1.len rfl (by first | exact Rd.ofA (by assumption) | exact Rd.arg0 (by assumption) | exact Rd.own (by repeat (first | exact List.Mem.head _ | apply List.Mem.tail)) | exact Rd.nil)) rfl rfl ?_ | refine WPL.pure (Op1.bmin rfl rfl) rfl rfl ?_ | refine WPL.pure (Op1.bmax rfl rfl) rfl rfl ?_ | (refine isGuard ?_; refine WPL.skip rfl rfl ?_))  | (refine isBuild ?_; refine WPL.pure (Op1.build (by repeat (first | exact BP.nil | apply BP.agg rfl | apply BP.one rfl (by repeat (first | exact One.nil | refine One.lit rfl ?_ | refine One.lit (by assumption) ?_ | refine One.arg (by assumption) ?_ | refine One.mem (by repeat (first | exact OneM.head isOwn.own | apply OneM.tail)) ?_)))) (by rfl)) rfl rfl ?_) | (refine isStore ?_; first | (refine WPL.eff0 (OpE.store rfl rfl (by first | exact List.Perm.refl _ | exact prm1 | exact prm2 | exact prm3 | exact prm4 | exact prm5 | exact prm6 | exact prm7 | exact prm8 | exact prm9 | exact prm10 | exact prm11 | exact prm12 | exact prm13 | exact prm14 | exact prm15 | exact prd1 | exact prd2 | exact prd3 | exact prd4 | exact prd5 | exact prd6 | exact prd7 | exact prd8 | exact prd9 | exact prd10 | exact prd11) (by rfl) (by repeat (first | exact One.nil | refine One.lit rfl ?_ | refine One.lit (by assumption) ?_ | refine One.arg (by assumption) ?_ | refine One.mem (by repeat (first | exact OneM.head isOwn.own | apply OneM.tail)) ?_))) rfl ?_; rintro _ _ rfl) | (refine WPL.eff0 (OpE.storeAll rfl rfl (by first | exact List.Perm.refl _ | exact prm1 | exact prm2 | exact prm3 | exact prm4 | exact prm5 | exact prm6 | exact prm7 | exact prm8 | exact prm9 | exact prm10 | exact prm11 | exact prm12 | exact prm13 | exact prm14 | exact prm15 | exact prd1 | exact prd2 | exact prd3 | exact prd4 | exact prd5 | exact prd6 | exact prd7 | exact prd8 | exact prd9 | exact prd10 | exact prd11) (by rfl) (by rfl) (by repeat (first | exact One.nil | refine One.lit rfl ?_ | refine One.lit (by assumption) ?_ | refine One.arg (by assumption) ?_ | refine One.mem (by repeat (first | exact OneM.head isOwn.own | apply OneM.tail)) ?_))) rfl ?_; rintro _ _ rfl)) | (refine isConv ?_; first | refine WPL.pure (Op1.convInt rfl (by kernel_rfl) (by omega)) rfl rfl ?_ | (refine isGuard ?_; refine WPL.skip rfl rfl ?_))  | (refine isNil ?_; first | refine WPL.pure (Op1.nilCheck rfl) rfl rfl ?_ | (refine isGuard ?_; refine WPL.skip rfl rfl ?_)) | (refine isSlc ?_; first | refine WPL.pure (Op1.sliceHiZ rfl rfl (by first | exact Rd.ofA (by assumption) | exact Rd.arg0 (by assumption) | exact Rd.own (by repeat (first | exact List.Mem.head _ | apply List.Mem.tail)) | exact Rd.nil) (by first | omega | (simp only [List.length_cons, List.length_nil, List.length_append, List.length_set, List.length_replicate]; omega))) rfl rfl ?_ | refine WPL.pure (Op1.sliceLo rfl rfl (by first | exact Rd.ofA (by assumption) | exact Rd.arg0 (by assumption) | exact Rd.own (by repeat (first | exact List.Mem.head _ | apply List.Mem.tail)) | exact Rd.nil) (by first | omega | (simp only [List.length_cons, List.length_nil, List.length_append, List.length_set, List.length_replicate]; omega))) rfl rfl ?_ | (refine isGuard ?_; refine WPL.skip rfl rfl ?_)) | (refine isGuard ?_; refine WPL.skip rfl rfl ?_) | refine PE.thenRet ?_ | refine PE.thenExit ?_ | refine PE.inBlockRet ?_ | refine PE.inBlockNormal ?_ | refine PE.inBlockSame ?_ | refine PE.inBlockOther rfl ?_  | refine WP.skip ?_ | refine WP.ret ?_ | refine WP.exit ?_ | (refine isCond ?_; first | refine WP.condT rfl ?_ | refine WP.condF rfl ?_)); (repeat (first  | refine WP.seq ?_ | refine WP.block ?_ | refine WP.region ?_ | refine WPL.nil ?_ | refine PE.next ?_  | (refine isMove ?_; first | refine WPL.pure (Op1.move rfl) rfl rfl ?_ | (refine isGuard ?_; refine WPL.skip rfl rfl ?_))  | (refine isAssign ?_; refine WPL.pure (Op1.assign rfl) rfl rfl ?_)  | (refine isLoad ?_; first | refine WPL.pure (Op1.load rfl (by repeat (first | exact List.Mem.head _ | apply List.Mem.tail)) (by rfl)) rfl rfl ?_ | refine WPL.pure (Op1.loadI rfl (by first | exact Rd.ofA (by assumption) | exact Rd.arg0 (by assumption) | exact Rd.own (by repeat (first | exact List.Mem.head _ | apply List.Mem.tail)) | exact Rd.nil) (by first | omega | (simp only [List.length_cons, List.length_nil, List.length_append, List.length_set, List.length_replicate]; omega))) rfl rfl ?_ | refine WPL.pure (Op1.loadAll rfl (by repeat (first | exact List.Mem.head _ | apply List.Mem.tail)) (by rfl)) rfl rfl ?_ | refine WPL.pure (Op1.loadE rfl (by first | exact Rd.ofA (by assumption) | exact Rd.arg0 (by assumption) | exact Rd.own (by repeat (first | exact List.Mem.head _ | apply List.Mem.tail)) | exact Rd.nil) (by first | omega | (simp only [List.length_cons, List.length_nil, List.length_append, List.length_set, List.length_replicate]; omega)) (by rfl)) rfl rfl ?_ | refine WPL.pure (Op1.loadEAgg rfl (by first | exact Rd.ofA (by assumption) | exact Rd.arg0 (by assumption) | exact Rd.own (by repeat (first | exact List.Mem.head _ | apply List.Mem.tail)) | exact Rd.nil) (by first | omega | (simp only [List.length_cons, List.length_nil, List.length_append, List.length_set, List.length_replicate]; omega)) (by rfl)) rfl rfl ?_ | (refine isGuard ?_; refine WPL.skip rfl rfl ?_))  | (refine isFld ?_; first | refine WPL.pure (Op1.fieldAddr rfl) rfl rfl ?_ | refine WPL.pure (Op1.fieldAddrE rfl (by first | exact Rd.ofA (by assumption) | exact Rd.arg0 (by assumption) | exact Rd.own (by repeat (first | exact List.Mem.head _ | apply List.Mem.tail)) | exact Rd.nil) (by first | omega | (simp only [List.length_cons, List.length_nil, List.length_append, List.length_set, List.length_replicate]; omega))) rfl rfl ?_ | (refine isGuard ?_; refine WPL.skip rfl rfl ?_))  | (refine isIdx ?_; first | refine WPL.pure (Op1.indexAddr rfl rfl (by first | exact Rd.ofA (by assumption) | exact Rd.arg0 (by assumption) | exact Rd.own (by repeat (first | exact List.Mem.head _ | apply List.Mem.tail)) | exact Rd.nil) (by first | omega | (simp only [List.length_cons, List.length_nil, List.length_append, List.length_set, List.length_replicate]; omega))) rfl rfl ?_ | refine WPL.pure (Op1.indexAddrZ rfl rfl (by first | exact Rd.ofA (by assumption) | exact Rd.arg0 (by assumption) | exact Rd.own (by repeat (first | exact List.Mem.head _ | apply List.Mem.tail)) | exact Rd.nil) (by first | omega | (simp only [List.length_cons, List.length_nil, List.length_append, List.length_set, List.length_replicate]; omega))) rfl rfl ?_ | (refine isGuard ?_; refine WPL.skip rfl rfl ?_))  | (refine isExt ?_; refine WPL.pure (Op1.extract rfl (by rfl)) rfl rfl ?_)  | (refine isBin ?_; first | refine WPL.pure (Op1.eqI rfl rfl) rfl rfl ?_ | refine WPL.pure (Op1.neI rfl rfl) rfl rfl ?_ | refine WPL.pure (Op1.ltI rfl rfl) rfl rfl ?_ | refine WPL.pure (Op1.leI rfl rfl) rfl rfl ?_ | refine WPL.pure (Op1.gtI rfl rfl) rfl rfl ?_ | refine WPL.pure (Op1.geI rfl rfl) rfl rfl ?_ | refine WPL.pure (Op1.add rfl rfl (by omega)) rfl rfl ?_ | refine WPL.pure (Op1.sub rfl rfl (by omega)) rfl rfl ?_ | refine WPL.pure (Op1.mul rfl rfl (by omega)) rfl rfl ?_ | refine WPL.pure (Op1.quo rfl rfl (by omega)) rfl rfl ?_ | refine WPL.pure (Op1.rem rfl rfl (by omega)) rfl rfl ?_ | refine WPL.pure (Op1.xor rfl rfl (by omega) (by omega)) rfl rfl ?_ | refine WPL.pure (Op1.eqB rfl rfl) rfl rfl ?_ | refine WPL.pure (Op1.neB rfl rfl) rfl rfl ?_ | refine WPL.pure (Op1.eqNil rfl (by first | exact Rd.ofA (by assumption) | exact Rd.arg0 (by assumption) | exact Rd.own (by repeat (first | exact List.Mem.head _ | apply List.Mem.tail)) | exact Rd.nil)) rfl rfl ?_ | (refine isGuard ?_; refine WPL.skip rfl rfl ?_))  | (refine isPick ?_; first | refine WPL.pure (Op1.pickT rfl rfl) rfl rfl ?_ | refine WPL.pure (Op1.pickF rfl rfl) rfl rfl ?_ | (refine isGuard ?_; refine WPL.skip rfl rfl ?_))  | (refine isUn ?_; first | refine WPL.pure (Op1.notD rfl) rfl rfl ?_ | refine WPL.pure (Op1.not rfl) rfl rfl ?_ | refine WPL.pure (Op1.neg rfl (by omega)) rfl rfl ?_ | (refine isGuard ?_; refine WPL.skip rfl rfl ?_))  | (refine isBlt ?_; first | refine WPL.pure (Op1.len rfl (by first | exact Rd.ofA (by assumption) | exact Rd.arg0 (by assumption) | exact Rd.own (by repeat (first | exact List.Mem.head _ | apply List.Mem.tail)) | exact Rd.nil)) rfl rfl ?_ | refine WPL.pure (Op1.bmin rfl rfl) rfl rfl ?_ | refine WPL.pure (Op1.bmax rfl rfl) rfl rfl ?_ | (refine isGuard ?_; refine WPL.skip rfl rfl ?_))  | (refine isBuild ?_; refine WPL.pure (Op1.build (by repeat (first | exact BP.nil | apply BP.agg rfl | apply BP.one rfl (by repeat (first | exact One.nil | refine One.lit rfl ?_ | refine One.lit (by assumption) ?_ | refine One.arg (by assumption) ?_ | refine One.mem (by repeat (first | exact OneM.head isOwn.own | apply OneM.tail)) ?_)))) (by rfl)) rfl rfl ?_) | (refine isStore ?_; first | (refine WPL.eff0 (OpE.store rfl rfl (by first | exact List.Perm.refl _ | exact prm1 | exact prm2 | exact prm3 | exact prm4 | exact prm5 | exact prm6 | exact prm7 | exact prm8 | exact prm9 | exact prm10 | exact prm11 | exact prm12 | exact prm13 | exact prm14 | exact prm15 | exact prd1 | exact prd2 | exact prd3 | exact prd4 | exact prd5 | exact prd6 | exact prd7 | exact prd8 | exact prd9 | exact prd10 | exact prd11) (by rfl) (by repeat (first | exact One.nil | refine One.lit rfl ?_ | refine One.lit (by assumption) ?_ | refine One.arg (by assumption) ?_ | refine One.mem (by repeat (first | exact OneM.head isOwn.own | apply OneM.tail)) ?_))) rfl ?_; rintro _ _ rfl) | (refine WPL.eff0 (OpE.storeAll rfl rfl (by first | exact List.Perm.refl _ | exact prm1 | exact prm2 | exact prm3 | exact prm4 | exact prm5 | exact prm6 | exact prm7 | exact prm8 | exact prm9 | exact prm10 | exact prm11 | exact prm12 | exact prm13 | exact prm14 | exact prm15 | exact prd1 | exact prd2 | exact prd3 | exact prd4 | exact prd5 | exact prd6 | exact prd7 | exact prd8 | exact prd9 | exact prd10 | exact prd11) (by rfl) (by rfl) (by repeat (first | exact One.nil | refine One.lit rfl ?_ | refine One.lit (by assumption) ?_ | refine One.arg (by assumption) ?_ | refine One.mem (by repeat (first | exact OneM.head isOwn.own | apply OneM.tail)) ?_))) rfl ?_; rintro _ _ rfl)) | (refine isConv ?_; first | refine WPL.pure (Op1.convInt rfl (by kernel_rfl) (by omega)) rfl rfl ?_ | (refine isGuard ?_; refine WPL.skip rfl rfl ?_))  | (refine isNil ?_; first | refine WPL.pure (Op1.nilCheck rfl) rfl rfl ?_ | (refine isGuard ?_; refine WPL.skip rfl rfl ?_)) | (refine isSlc ?_; first | refine WPL.pure (Op1.sliceHiZ rfl rfl (by first | exact Rd.ofA (by assumption) | exact Rd.arg0 (by assumption) | exact Rd.own (by repeat (first | exact List.Mem.head _ | apply List.Mem.tail)) | exact Rd.nil) (by first | omega | (simp only [List.length_cons, List.length_nil, List.length_append, List.length_set, List.length_replicate]; omega))) rfl rfl ?_ | refine WPL.pure (Op1.sliceLo rfl rfl (by first | exact Rd.ofA (by assumption) | exact Rd.arg0 (by assumption) | exact Rd.own (by repeat (first | exact List.Mem.head _ | apply List.Mem.tail)) | exact Rd.nil) (by first | omega | (simp only [List.length_cons, List.length_nil, List.length_append, List.length_set, List.length_replicate]; omega))) rfl rfl ?_ | (refine isGuard ?_; refine WPL.skip rfl rfl ?_)) | (refine isGuard ?_; refine WPL.skip rfl rfl ?_) | refine PE.thenRet ?_ | refine PE.thenExit ?_ | refine PE.inBlockRet ?_ | refine PE.inBlockNormal ?_ | refine PE.inBlockSame ?_ | refine PE.inBlockOther rfl ?_  | refine WP.skip ?_ | refine WP.ret ?_ | refine WP.exit ?_ | (refine isCond ?_; first | refine WP.condT rfl ?_ | refine WP.condF rfl ?_))); exact h.out) : p := k h
end Go.Proofs.Ythlgbeakcobeoaa
/- More rules: drawn regions, equality of structs, halves. Conditions: none. -/
namespace Go.Proofs.Ythlgbeakcobeoaa
open Go

section
variable {P : Program} {G : Ctx} {l : List (Nat × Value)} {F : List Tok} {Q : Exit → Act → World → Prop}

theorem WPD.splitD {Fs : List Tok} {ops : Array Oper} {fuel : Nat} {listed : Array Bool} (d : Nat) {p : Prop} [Decidable p] (hb : lk l d = some (.bool (decide p)))
    (ht : p → WPD P G Fs ops fuel listed ((d, .bool true) :: l) F Q) (hf : ¬p → WPD P G Fs ops fuel listed ((d, .bool false) :: l) F Q) :
    WPD P G Fs ops fuel listed l F Q := WPD.split d hb (fun h => ht (of_decide_eq_true h)) (fun h => hf (of_decide_eq_false h))

theorem WPD.skip0 {Fs : List Tok} {ops : Array Oper} {fuel : Nat} {listed : Array Bool} (i : Nat) {op : Op} {ty : TypeId} {pos : String} {after : Array Edge} {g : Option (Nat × Bool)}
    (hr : Region.ready .any ops listed = [i]) (hi : ops[i]? = some ⟨none, op, ty, pos, after, g⟩) (hg : asked ops l g = some false) (hsub : SubT Fs F)
    (k : WPD P G Fs ops fuel (listed.setIfInBounds i true) l F Q) : WPD P G Fs ops (fuel + 1) listed l F Q :=
  WPD.ready [i] hr (by simp) fun j hj => by
    simp only [List.mem_singleton] at hj; subst hj
    intro a w ha hw
    unfold wpOp
    simp only [hi]
    have hwt := asked_wanted (o := ⟨none, op, ty, pos, after, g⟩) ha hg
    rw [if_neg (by simp [hwt])]
    exact ⟨hw.sub hsub, k a w ha hw⟩

/-! ### Several tokens, in any places -/
theorem perm2 {s t : Tok} {F F1 F2 : List Tok} (h1 : F.Perm (s :: F1)) (h2 : F1.Perm (t :: F2)) : F.Perm ([s, t] ++ F2) := h1.trans (h2.cons s)
theorem perm3 {s t u : Tok} {F F1 F2 F3 : List Tok} (h1 : F.Perm (s :: F1)) (h2 : F1.Perm (t :: F2)) (h3 : F2.Perm (u :: F3)) : F.Perm ([s, t, u] ++ F3) := h1.trans ((perm2 h2 h3).cons s)
theorem perm4 {s t u v : Tok} {F F1 F2 F3 F4 : List Tok} (h1 : F.Perm (s :: F1)) (h2 : F1.Perm (t :: F2)) (h3 : F2.Perm (u :: F3)) (h4 : F3.Perm (v :: F4)) : F.Perm ([s, t, u, v] ++ F4) := h1.trans ((perm3 h2 h3 h4).cons s)
theorem pM2 {p : Prop} (h : p := by first | exact pM | exact perm2 pM pM | exact perm3 pM pM pM | exact perm4 pM pM pM pM) : p := h

/-! ### '==' of two structs of two ints -/
def eq2B (P : Program) (t : TypeId) : Bool :=
  (match P.underlying t with
   | some (.struct fs) => match fs.toList with
     | [f0, f1] => f0.name != "_" && f1.name != "_" && Nat.beq f0.offset 0 && Nat.beq f1.offset 1 && intB P f0.type && intB P f1.type
     | _ => false
   | _ => false) && !P.stoodInHeld t && !P.eqGuardType P.depth t
class TEq2 (P : Program) (t : TypeId) : Prop where
  out : eq2B P t = true

theorem run_part_int {t : TypeId} {k : IntKind} (ht : P.underlying t = some (.int k)) {cs : Array Value} {o : Nat} {v : Value} (hv : cs[o]? = some v) (w : World) : (part t cs o).run P w = .ok v w := by
  simp [part, isAgg, run_underlying ht, hv]

theorem run_eq2 {t : TypeId} (h : eq2B P t = true) (d : Nat) (a b c e : Int) (w : World) :
    (Op.equalIn (d + 2) t (.agg #[.int .i64 a, .int .i64 b]) (.agg #[.int .i64 c, .int .i64 e])).run P w = .ok (decide (a = c ∧ b = e)) w := by
  unfold eq2B at h
  simp only [Bool.and_eq_true] at h
  obtain ⟨⟨h1, h2⟩, h3⟩ := h
  have hp : P.stoodInHeld t = false := by simpa using h2
  cases hu : P.underlying t with
  | none => rw [hu] at h1; simp at h1
  | some dd =>
    rw [hu] at h1
    cases dd with
    | struct fs =>
      simp only at h1
      cases hf : fs.toList with
      | nil => rw [hf] at h1; simp at h1
      | cons f0 r =>
        cases r with
        | nil => rw [hf] at h1; simp at h1
        | cons f1 r =>
          cases r with
          | cons => rw [hf] at h1; simp at h1
          | nil =>
            rw [hf] at h1
            simp only [Bool.and_eq_true] at h1
            obtain ⟨⟨⟨⟨⟨n0, n1⟩, o0⟩, o1⟩, i0⟩, i1⟩ := h1
            obtain ⟨k0, i0⟩ := (TInt.of i0).out
            obtain ⟨k1, i1⟩ := (TInt.of i1).out
            have o0 := Nat.eq_of_beq_eq_true o0
            have o1 := Nat.eq_of_beq_eq_true o1
            have hS : P.underlying t = some (.struct (P.fieldsOf t)) := by rw [hu]; simp [Program.fieldsOf, hu]
            have hfl : (P.fieldsOf t).toList = [f0, f1] := by simp [Program.fieldsOf, hu, hf]
            rw [show d + 2 = (d + 1) + 1 from rfl, run_equalIn_struct w (d + 1) t _ _ hS hp, hfl]
            have n0' : f0.name ≠ "_" := by simpa using n0
            have n1' : f1.name ≠ "_" := by simpa using n1
            have p0 : ∀ (x y : Value) w, (part f0.type #[x, y] f0.offset).run P w = .ok x w := fun x y w => run_part_int i0 (by rw [o0]; rfl) w
            have p1 : ∀ (x y : Value) w, (part f1.type #[x, y] f1.offset).run P w = .ok y w := fun x y w => run_part_int i1 (by rw [o1]; rfl) w
            simp only [Op.eqFields, if_pos n0', if_pos n1', Sem.run_bind, p0, p1, Result.andThen_ok, run_equalIn_int w d f0.type .i64 k0 _ _ i0, run_equalIn_int w d f1.type .i64 k1 _ _ i1]
            by_cases e1 : a = c <;> by_cases e2 : b = e <;> simp [e1, e2, p1, run_equalIn_int w d f1.type .i64 k1 _ _ i1]
    | _ => simp at h1

theorem E.eq_iff {a b c d : Int} : ((⟨a, b⟩ : E) = ⟨c, d⟩) ↔ a = c ∧ b = d := by simp
theorem Op1.eqE {t u : TypeId} [ht : TEq2 P t] {x y : Operand} {a b c d : Int} (hx : look l x = some (.agg #[.int .i64 a, .int .i64 b])) (hy : look l y = some (.agg #[.int .i64 c, .int .i64 d])) :
    Op1 P G (.binOp .eql t x y u) l F (.bool (decide ((⟨a, b⟩ : E) = ⟨c, d⟩))) := fun o ho z w hc _ => by
  have h := ht.out
  have hg : P.eqGuardType P.depth t = false := by unfold eq2B at h; simp only [Bool.and_eq_true] at h; simpa using h.2
  have e : decide ((⟨a, b⟩ : E) = ⟨c, d⟩) = decide (a = c ∧ b = d) := by rw [decide_eq_decide, E.eq_iff]
  simp only [execOp, ho, hc.eval hx, hc.eval hy, Sem.run_bind, run_eqGuard_agg w .eql t x y _ _ hg, Result.andThen_ok, run_eql_struct]
  rw [show (10000 : Nat) = 9998 + 2 from rfl, run_eq2 h 9998, e]
  rfl
theorem Op1.neE {t u : TypeId} [ht : TEq2 P t] {x y : Operand} {a b c d : Int} (hx : look l x = some (.agg #[.int .i64 a, .int .i64 b])) (hy : look l y = some (.agg #[.int .i64 c, .int .i64 d])) :
    Op1 P G (.binOp .neq t x y u) l F (.bool (decide ((⟨a, b⟩ : E) ≠ ⟨c, d⟩))) := fun o ho z w hc _ => by
  have h := ht.out
  have hg : P.eqGuardType P.depth t = false := by unfold eq2B at h; simp only [Bool.and_eq_true] at h; simpa using h.2
  have e : decide ((⟨a, b⟩ : E) ≠ ⟨c, d⟩) = !decide (a = c ∧ b = d) := by
    rw [← decide_not, decide_eq_decide, ne_eq, E.eq_iff]
  simp only [execOp, ho, hc.eval hx, hc.eval hy, Sem.run_bind, run_eqGuard_agg w .neq t x y _ _ hg, Result.andThen_ok, run_neq_struct]
  rw [show (10000 : Nat) = 9998 + 2 from rfl, run_eq2 h 9998, e]
  rfl

/-! ### Halves, as the library's searches take them -/
theorem Op1.convU {s d : TypeId} [hs : TInt P s] {x : Operand} {n : Int} (hx : look l x = some (.int .i64 n)) (hd : P.underlying d = some (.int .u64)) (h : 0 ≤ n ∧ n ≤ 9223372036854775807) :
    Op1 P G (.convert s d x) l F (.int .u64 n) := fun o ho c w hc _ => by
  obtain ⟨k', h1⟩ := hs.out
  have e : IntKind.u64.wrap n = n := by
    simp only [IntKind.wrap, IntKind.bits, IntKind.signed]
    try simp
    omega
  simp [execOp, ho, hc.eval hx, convert, run_underlying h1, run_underlying hd, Conv.intToInt, e]
theorem Op1.shr1 {t u : TypeId} {x : Operand} {n : Int} (hx : look l x = some (.int .u64 n)) (h : 0 ≤ n ∧ n ≤ 9223372036854775807) :
    Op1 P G (.binOp .shr t x (.const (.int .u64 1)) u) l F (.int .u64 (n / 2)) := fun o ho c w hc _ => by
  have hn : c.eval (.const (.int .u64 1)) = .int .u64 1 := rfl
  have e : Op.shift .shr .u64 n .u64 1 = pure (.int .u64 (n / 2)) := by
    rw [shift_shr_any _ _ _ _ (by omega)]
    simp [IntKind.bits]
  simp [execOp, ho, hc.eval hx, hn, eqGuard_shr, binOp_shr, e]
end
end Go.Proofs.Ythlgbeakcobeoaa
/- More instances on the types of this seat's program (printed by gentypes.py). Conditions: none. -/
namespace Go.Proofs.Ythlgbeakcobeoaa
open Go
instance : TEq2 Try.prog 67 := ⟨by kernel_rfl⟩
instance : TEq2 Try.prog 80 := ⟨by kernel_rfl⟩
instance : TEq2 Try.prog 116 := ⟨by kernel_rfl⟩
instance : TScal Try.prog 120 := .of (by kernel_rfl)
instance : TInt Try.prog 120 := .of (by kernel_rfl)
instance : TZero Try.prog 120 [.int .u64 0] := .of (by kernel_rfl)
instance : TEq2 Try.prog 125 := ⟨by kernel_rfl⟩
end Go.Proofs.Ythlgbeakcobeoaa
/- Graphs: connection, and the least nodes of connected parts. Conditions: none. -/
namespace Go.Proofs.Ythlgbeakcobeoaa
open Go

theorem getD_setI (l : List Int) (i j : Nat) (v : Int) : (l.set i v).getD j 0 = if i = j ∧ i < l.length then v else l.getD j 0 := by
  rw [List.getD_eq_getElem?_getD, List.getD_eq_getElem?_getD, List.getElem?_set]
  by_cases h : i = j
  · subst h
    by_cases h2 : i < l.length
    · simp [h2]
    · simp [h2]
  · simp [h]
theorem getD_memI {α : Type} {l : List α} {d : α} {i : Nat} (h : i < l.length) : l.getD i d ∈ l := by
  rw [List.getD_eq_getElem?_getD, List.getElem?_eq_getElem h]; exact List.getElem_mem h
theorem mem_getD {α : Type} {l : List α} {d x : α} (h : x ∈ l) : ∃ i, i < l.length ∧ l.getD i d = x := by
  obtain ⟨i, hi, rfl⟩ := List.getElem_of_mem h
  exact ⟨i, hi, by rw [List.getD_eq_getElem?_getD, List.getElem?_eq_getElem hi]; rfl⟩
theorem take_succD {α : Type} (d : α) : ∀ {l : List α} {j : Nat}, j < l.length → l.take (j + 1) = l.take j ++ [l.getD j d]
  | [], j, h => by simp at h
  | a :: l, 0, _ => by simp
  | a :: l, j + 1, h => by
    have := take_succD d (l := l) (j := j) (by simpa using h)
    rw [List.take_succ_cons, this]; rfl
theorem foldl_takeS {α β : Type} (d : α) (f : β → α → β) (a : β) {l : List α} {j : Nat} (h : j < l.length) : (l.take (j + 1)).foldl f a = f ((l.take j).foldl f a) (l.getD j d) := by
  rw [take_succD d h, List.foldl_append]; rfl
theorem list_extD {l l' : List Int} (hl : l.length = l'.length) (h : ∀ i, i < l.length → l.getD i 0 = l'.getD i 0) : l = l' := by
  refine List.ext_getElem hl fun i h1 h2 => ?_
  have := h i h1
  rw [List.getD_eq_getElem?_getD, List.getD_eq_getElem?_getD, List.getElem?_eq_getElem h1, List.getElem?_eq_getElem h2] at this
  exact this
theorem pigeonI : ∀ {n : Nat} {l : List Int}, (∀ a ∈ l, 0 ≤ a ∧ a < n) → l.Nodup → l.length ≤ n
  | 0, l, h, _ => by
    cases l with
    | nil => simp
    | cons a l => have := h a (by simp); omega
  | n + 1, l, h, hd => by
    have h1 := pigeonI (n := n) (l := l.erase (n : Int)) (fun a ha => by
      have := (hd.mem_erase_iff).1 ha
      have h2 := h a this.2
      have h3 := this.1
      omega) (hd.erase _)
    have := List.length_erase (a := (n : Int)) (l := l)
    split at this <;> omega

/-! ### Connection -/
def Adj (es : List E) (y z : Int) : Prop := ∃ e ∈ es, (e.A = y ∧ e.B = z) ∨ (e.A = z ∧ e.B = y)
inductive Conn (es : List E) (x : Int) : Int → Prop
  | refl : Conn es x x
  | step {y z : Int} : Conn es x y → Adj es y z → Conn es x z

theorem Adj.symm {es : List E} {y z : Int} (h : Adj es y z) : Adj es z y := by
  obtain ⟨e, he, h⟩ := h; exact ⟨e, he, h.symm⟩
theorem Adj.mono {es es' : List E} (hs : ∀ e ∈ es, e ∈ es') {y z : Int} (h : Adj es y z) : Adj es' y z := by
  obtain ⟨e, he, h⟩ := h; exact ⟨e, hs e he, h⟩
theorem Conn.trans {es : List E} {x y z : Int} (h1 : Conn es x y) (h2 : Conn es y z) : Conn es x z := by
  induction h2 with
  | refl => exact h1
  | step _ h ih => exact ih.step h
theorem Conn.adj {es : List E} {x y : Int} (h : Adj es x y) : Conn es x y := Conn.refl.step h
theorem Conn.symm {es : List E} {x y : Int} (h : Conn es x y) : Conn es y x := by
  induction h with
  | refl => exact .refl
  | step _ h ih => exact (Conn.adj h.symm).trans ih
theorem Conn.mono {es es' : List E} (hs : ∀ e ∈ es, e ∈ es') {x y : Int} (h : Conn es x y) : Conn es' x y := by
  induction h with
  | refl => exact .refl
  | step _ h ih => exact ih.step (h.mono hs)
theorem Conn.edge {es : List E} {e : E} (h : e ∈ es) : Conn es e.A e.B := .adj ⟨e, h, .inl ⟨rfl, rfl⟩⟩
theorem Conn.edge' {es : List E} {e : E} (h : e ∈ es) : Conn es e.B e.A := (Conn.edge h).symm
theorem conn_nil {x y : Int} : Conn [] x y ↔ x = y := by
  constructor
  · intro h
    induction h with
    | refl => rfl
    | step _ h _ => obtain ⟨e, he, _⟩ := h; cases he
  · rintro rfl; exact .refl
theorem conn_cons {e : E} {es : List E} {x y : Int} : Conn (e :: es) x y ↔ Conn es x y ∨ (Conn es x e.A ∧ Conn es e.B y) ∨ (Conn es x e.B ∧ Conn es e.A y) := by
  have hs : ∀ f ∈ es, f ∈ e :: es := fun f hf => List.mem_cons_of_mem _ hf
  constructor
  · intro h
    induction h with
    | refl => exact .inl .refl
    | step _ h ih =>
      obtain ⟨f, hf, h⟩ := h
      rcases List.mem_cons.1 hf with rfl | hf
      · rcases h with ⟨rfl, rfl⟩ | ⟨rfl, rfl⟩
        · rcases ih with h1 | ⟨h1, _⟩ | ⟨h1, _⟩
          · exact .inr (.inl ⟨h1, .refl⟩)
          · exact .inr (.inl ⟨h1, .refl⟩)
          · exact .inl h1
        · rcases ih with h1 | ⟨h1, _⟩ | ⟨h1, _⟩
          · exact .inr (.inr ⟨h1, .refl⟩)
          · exact .inl h1
          · exact .inr (.inr ⟨h1, .refl⟩)
      · have ha : Adj es _ _ := ⟨f, hf, h⟩
        rcases ih with h1 | ⟨h1, h2⟩ | ⟨h1, h2⟩
        · exact .inl (h1.step ha)
        · exact .inr (.inl ⟨h1, h2.step ha⟩)
        · exact .inr (.inr ⟨h1, h2.step ha⟩)
  · have e1 : Conn (e :: es) e.A e.B := .edge (by simp)
    rintro (h | ⟨h1, h2⟩ | ⟨h1, h2⟩)
    · exact h.mono hs
    · exact ((h1.mono hs).trans e1).trans (h2.mono hs)
    · exact ((h1.mono hs).trans e1.symm).trans (h2.mono hs)
/-- Edges without one of them. -/
def rem (es : List E) (e : E) : List E := es.filter fun f => decide (f ≠ e)
theorem mem_rem {es : List E} {e f : E} : f ∈ rem es e ↔ f ∈ es ∧ f ≠ e := by simp [rem, List.mem_filter]
theorem rem_sub {es : List E} {e : E} : ∀ f ∈ rem es e, f ∈ es := fun _ h => (mem_rem.1 h).1
theorem conn_rem {es : List E} {e : E} (he : e ∈ es) {x y : Int} : Conn es x y ↔ Conn (rem es e) x y ∨ (Conn (rem es e) x e.A ∧ Conn (rem es e) e.B y) ∨ (Conn (rem es e) x e.B ∧ Conn (rem es e) e.A y) := by
  rw [← conn_cons]
  refine ⟨fun h => h.mono fun f hf => ?_, fun h => h.mono fun f hf => ?_⟩
  · by_cases h1 : f = e
    · rw [h1]; simp
    · exact List.mem_cons_of_mem _ (mem_rem.2 ⟨hf, h1⟩)
  · rcases List.mem_cons.1 hf with rfl | hf
    · exact he
    · exact rem_sub f hf

/-! ### Labels -/
def Nd (n x : Int) : Prop := 0 ≤ x ∧ x < n
instance (n x : Int) : Decidable (Nd n x) := by unfold Nd; infer_instance
def okE (n : Int) (es : List E) : Prop := ∀ e ∈ es, Nd n e.A ∧ Nd n e.B
theorem okE.sub {n : Int} {es es' : List E} (h : okE n es) (hs : ∀ e ∈ es', e ∈ es) : okE n es' := fun e he => h e (hs e he)
theorem Adj.nd {n : Int} {es : List E} (h : okE n es) {y z : Int} (ha : Adj es y z) : Nd n z := by
  obtain ⟨e, he, ⟨_, rfl⟩ | ⟨rfl, _⟩⟩ := ha
  · exact (h e he).2
  · exact (h e he).1
theorem Conn.nd {n : Int} {es : List E} (h : okE n es) {x y : Int} (hc : Conn es x y) (hx : Nd n x) : Nd n y := by
  cases hc with
  | refl => exact hx
  | step _ ha => exact ha.nd h

def relx (out : List Int) (e : E) : List Int := (out.set e.A.toNat (min (out.getD e.A.toNat 0) (out.getD e.B.toNat 0))).set e.B.toNat (min (out.getD e.A.toNat 0) (out.getD e.B.toNat 0))
theorem relx_length (out : List Int) (e : E) : (relx out e).length = out.length := by simp [relx]
theorem relx_get {n : Int} {out : List Int} {e : E} (hl : out.length = n.toNat) (hA : Nd n e.A) (hB : Nd n e.B) {x : Int} (hx : Nd n x) :
    (relx out e).getD x.toNat 0 = if x = e.A ∨ x = e.B then min (out.getD e.A.toNat 0) (out.getD e.B.toNat 0) else out.getD x.toNat 0 := by
  unfold Nd at *
  rw [relx, getD_setI, getD_setI, List.length_set, hl]
  by_cases h1 : x = e.B
  · subst h1; rw [if_pos ⟨rfl, by omega⟩, if_pos (Or.inr rfl)]
  · rw [if_neg (by omega)]
    by_cases h2 : x = e.A
    · subst h2; rw [if_pos ⟨rfl, by omega⟩, if_pos (Or.inl rfl)]
    · rw [if_neg (by omega), if_neg (by omega)]
def rnd (es : List E) (out : List Int) : Nat → List Int
  | 0 => out
  | k + 1 => es.foldl relx (rnd es out k)
def iota (n : Nat) : List Int := (List.range n).map fun (i : Nat) => (i : Int)
theorem iota_length (n : Nat) : (iota n).length = n := by simp [iota]
theorem iota_succ (n : Nat) : iota (n + 1) = iota n ++ [(n : Int)] := by simp [iota, List.range_succ]
theorem iota_get {n i : Nat} (h : i < n) : (iota n).getD i 0 = i := by
  rw [List.getD_eq_getElem?_getD]; simp [iota, h]
theorem mem_iota {n : Nat} {x : Int} : x ∈ iota n ↔ 0 ≤ x ∧ x < n := by
  simp only [iota, List.mem_map, List.mem_range]
  constructor
  · rintro ⟨i, hi, rfl⟩; omega
  · rintro ⟨h1, h2⟩; exact ⟨x.toNat, by omega, by omega⟩
theorem iota_nodup (n : Nat) : (iota n).Nodup := by
  rw [List.nodup_iff_pairwise_ne] at *
  refine List.Pairwise.map (R := (· ≠ ·)) _ (fun a b h => by omega) ?_
  exact List.nodup_range
def labs (n : Int) (es : List E) : List Int := rnd es (iota n.toNat) n.toNat
def lab (n : Int) (es : List E) (x : Int) : Int := (labs n es).getD x.toNat 0

structure Lab (n : Int) (es : List E) (out : List Int) : Prop where
  len : out.length = n.toNat
  low : ∀ x, Nd n x → 0 ≤ out.getD x.toNat 0 ∧ out.getD x.toNat 0 ≤ x
  con : ∀ x, Nd n x → Conn es x (out.getD x.toNat 0)
def Stab (es : List E) (out : List Int) : Prop := ∀ e ∈ es, out.getD e.A.toNat 0 = out.getD e.B.toNat 0

theorem Lab.start (n : Int) (es : List E) : Lab n es (iota n.toNat) := by
  refine ⟨iota_length _, fun x hx => ?_, fun x hx => ?_⟩
  · have := hx.1; have := hx.2
    rw [iota_get (by omega)]; omega
  · have h1 := hx.1; have := hx.2
    rw [iota_get (by omega), Int.toNat_of_nonneg h1]; exact .refl
theorem Lab.relx {n : Int} {es : List E} {out : List Int} (h : Lab n es out) (hE : okE n es) {e : E} (he : e ∈ es) : Lab n es (relx out e) := by
  obtain ⟨hA, hB⟩ := hE e he
  refine ⟨by rw [relx_length, h.len], fun x hx => ?_, fun x hx => ?_⟩
  · rw [relx_get h.len hA hB hx]
    have h1 := h.low _ hA
    have h2 := h.low _ hB
    have h3 := h.low _ hx
    split
    · rename_i h4
      rcases h4 with rfl | rfl <;> omega
    · exact h3
  · rw [relx_get h.len hA hB hx]
    split
    · rename_i h4
      have h1 := h.con _ hA
      have h2 := h.con _ hB
      have e1 : Conn es e.A e.B := .edge he
      rcases Int.le_total (out.getD e.A.toNat 0) (out.getD e.B.toNat 0) with h5 | h5
      · rw [Int.min_eq_left h5]
        rcases h4 with rfl | rfl
        · exact h1
        · exact e1.symm.trans h1
      · rw [Int.min_eq_right h5]
        rcases h4 with rfl | rfl
        · exact e1.trans h2
        · exact h2
    · exact h.con x hx
theorem Lab.fold {n : Int} {es : List E} (hE : okE n es) : ∀ {l : List E} {out : List Int}, (∀ e ∈ l, e ∈ es) → Lab n es out → Lab n es (l.foldl Proofs.Ythlgbeakcobeoaa.relx out)
  | [], _, _, h => h
  | e :: l, out, hs, h => by
    rw [List.foldl_cons]
    exact Lab.fold hE (fun f hf => hs f (List.mem_cons_of_mem _ hf)) (h.relx hE (hs e (by simp)))
theorem Lab.rnd {n : Int} {es : List E} (hE : okE n es) : ∀ k, Lab n es (rnd es (iota n.toNat) k)
  | 0 => Lab.start n es
  | k + 1 => Lab.fold hE (fun _ h => h) (Lab.rnd hE k)

theorem Lab.const {n : Int} {es : List E} {out : List Int} (hs : Stab es out) {x y : Int} (h : Conn es x y) : out.getD x.toNat 0 = out.getD y.toNat 0 := by
  induction h with
  | refl => rfl
  | step _ h ih =>
    obtain ⟨e, he, ⟨rfl, rfl⟩ | ⟨rfl, rfl⟩⟩ := h
    · exact ih.trans (hs e he)
    · exact ih.trans (hs e he).symm
theorem Lab.nd {n : Int} {es : List E} {out : List Int} (h : Lab n es out) {x : Int} (hx : Nd n x) : Nd n (out.getD x.toNat 0) := by
  have := h.low x hx; have := hx.2; exact ⟨by omega, by omega⟩
theorem Lab.unique {n : Int} {es : List E} {a b : List Int} (ha : Lab n es a) (hb : Lab n es b) (sa : Stab es a) (sb : Stab es b) : a = b := by
  have key : ∀ {a b : List Int}, Lab n es a → Lab n es b → Stab es a → ∀ x, Nd n x → a.getD x.toNat 0 ≤ b.getD x.toNat 0 := by
    intro a b ha hb sa x hx
    rw [Lab.const (n := n) sa (hb.con x hx)]
    exact (ha.low _ (hb.nd hx)).2
  refine list_extD (ha.len.trans hb.len.symm) fun i hi => ?_
  have hx : Nd n (i : Int) := ⟨by omega, by have := ha.len; omega⟩
  have h1 := key ha hb sa i hx
  have h2 := key hb ha sb i hx
  simp only [Int.toNat_natCast] at h1 h2
  omega

/-! ### Labels come to rest -/
theorem relx_le {n : Int} {out : List Int} {e : E} (hl : out.length = n.toNat) (hA : Nd n e.A) (hB : Nd n e.B) {x : Int} (hx : Nd n x) : (relx out e).getD x.toNat 0 ≤ out.getD x.toNat 0 := by
  rw [relx_get hl hA hB hx]
  split
  · rename_i h; rcases h with rfl | rfl <;> omega
  · omega
theorem fold_le {n : Int} : ∀ {l : List E} {out : List Int}, okE n l → out.length = n.toNat → ∀ {x : Int}, Nd n x → (l.foldl relx out).getD x.toNat 0 ≤ out.getD x.toNat 0
  | [], _, _, _, _, _ => Int.le_refl _
  | e :: l, out, hE, hl, x, hx => by
    rw [List.foldl_cons]
    have h1 := hE e (by simp)
    have h2 := fold_le (l := l) (out := relx out e) (fun f hf => hE f (List.mem_cons_of_mem _ hf)) (by rw [relx_length, hl]) hx
    have h3 := relx_le hl h1.1 h1.2 hx
    omega
theorem fold_length : ∀ (l : List E) (out : List Int), (l.foldl relx out).length = out.length
  | [], _ => rfl
  | e :: l, out => by rw [List.foldl_cons, fold_length l, relx_length]
theorem fold_spread {n : Int} : ∀ {l : List E} {out : List Int}, okE n l → out.length = n.toNat → ∀ {y z m : Int}, Nd n y → Adj l y z → out.getD y.toNat 0 ≤ m → (l.foldl relx out).getD z.toNat 0 ≤ m
  | [], _, _, _, _, _, _, _, h, _ => by obtain ⟨e, he, _⟩ := h; cases he
  | e :: l, out, hE, hl, y, z, m, hy, ⟨f, hf, h⟩, hm => by
    rw [List.foldl_cons]
    have h1 := hE e (by simp)
    have hE' : okE n l := fun f hf => hE f (List.mem_cons_of_mem _ hf)
    have hl' : (relx out e).length = n.toNat := by rw [relx_length, hl]
    have hz : Nd n z := Adj.nd hE ⟨f, hf, h⟩
    rcases List.mem_cons.1 hf with rfl | hf
    · have h2 := fold_le hE' hl' hz
      have h3 : (relx out f).getD z.toNat 0 ≤ m := by
        rw [relx_get hl h1.1 h1.2 hz]
        rcases h with ⟨rfl, rfl⟩ | ⟨rfl, rfl⟩
        · rw [if_pos (.inr rfl)]; omega
        · rw [if_pos (.inl rfl)]; omega
      omega
    · refine fold_spread hE' hl' hy ⟨f, hf, h⟩ ?_
      have := relx_le hl h1.1 h1.2 hy
      omega
theorem rnd_length (es : List E) (out : List Int) : ∀ k, (rnd es out k).length = out.length
  | 0 => rfl
  | k + 1 => by rw [rnd, fold_length, rnd_length es out k]
theorem rnd_mono {n : Int} {es : List E} (hE : okE n es) {out : List Int} (hl : out.length = n.toNat) {x : Int} (hx : Nd n x) : ∀ {k m : Nat}, k ≤ m → (rnd es out m).getD x.toNat 0 ≤ (rnd es out k).getD x.toNat 0
  | k, 0, h => by
    have : k = 0 := by omega
    subst this; exact Int.le_refl _
  | k, m + 1, h => by
    by_cases h1 : k = m + 1
    · subst h1; exact Int.le_refl _
    · have h2 := rnd_mono hE hl hx (k := k) (m := m) (by omega)
      have h3 := fold_le (l := es) (out := rnd es out m) hE (by rw [rnd_length, hl]) hx
      rw [rnd]; omega

inductive Pth (es : List E) (m : Int) : List Int → Int → Prop
  | one : Pth es m [m] m
  | cons {l : List Int} {y z : Int} : Pth es m l y → Adj es y z → Pth es m (z :: l) z
theorem Pth.trunc {es : List E} {m y z : Int} {l : List Int} (h : Pth es m l y) (hz : z ∈ l) : ∃ l', l' <:+ l ∧ Pth es m l' z := by
  induction h with
  | one =>
    have : z = m := by simpa using hz
    subst this; exact ⟨_, List.suffix_refl _, .one⟩
  | cons h ha ih =>
    rcases List.mem_cons.1 hz with rfl | hz
    · exact ⟨_, List.suffix_refl _, .cons h ha⟩
    · obtain ⟨l', h1, h2⟩ := ih hz
      exact ⟨l', h1.trans (List.suffix_cons _ _), h2⟩
theorem Pth.pos {es : List E} {m y : Int} {l : List Int} (h : Pth es m l y) : 1 ≤ l.length := by cases h <;> simp
theorem Conn.pth {n : Int} {es : List E} (hE : okE n es) {m x : Int} (hm : Nd n m) (h : Conn es m x) : ∃ l, Pth es m l x ∧ l.Nodup ∧ ∀ a ∈ l, Nd n a := by
  induction h with
  | refl => exact ⟨[m], .one, by simp, by simpa using hm⟩
  | step h ha ih =>
    rename_i y z
    obtain ⟨l, h1, h2, h3⟩ := ih
    by_cases hz : z ∈ l
    · obtain ⟨l', h4, h5⟩ := h1.trunc hz
      exact ⟨l', h5, h2.sublist h4.sublist, fun a ha => h3 a (h4.subset ha)⟩
    · refine ⟨z :: l, .cons h1 ha, List.nodup_cons.2 ⟨hz, h2⟩, fun a hb => ?_⟩
      rcases List.mem_cons.1 hb with rfl | hb
      · exact ha.nd hE
      · exact h3 a hb
theorem Pth.nd {n : Int} {es : List E} (hE : okE n es) {m y : Int} {l : List Int} (hm : Nd n m) (h : Pth es m l y) : Nd n y := by
  cases h with
  | one => exact hm
  | cons _ ha => exact ha.nd hE
theorem Pth.spread {n : Int} {es : List E} (hE : okE n es) {m x : Int} {l : List Int} (hm : Nd n m) (h : Pth es m l x) : (rnd es (iota n.toNat) (l.length - 1)).getD x.toNat 0 ≤ m := by
  induction h with
  | one =>
    have := hm.1; have := hm.2
    show (iota n.toNat).getD m.toNat 0 ≤ m
    rw [iota_get (by omega)]; omega
  | cons h ha ih =>
    rename_i l y z
    have h1 := h.pos
    have h2 : (z :: l).length - 1 = (l.length - 1) + 1 := by rw [List.length_cons]; omega
    rw [h2, rnd]
    exact fold_spread hE (by rw [rnd_length, iota_length]) (h.nd hE hm) ha ih
theorem labs_le {n : Int} {es : List E} (hE : okE n es) {m x : Int} (hm : Nd n m) (h : Conn es m x) {k : Nat} (hk : n.toNat ≤ k) : (rnd es (iota n.toNat) k).getD x.toNat 0 ≤ m := by
  obtain ⟨l, h1, h2, h3⟩ := h.pth hE hm
  have h4 := h1.spread hE hm
  have h5 := pigeonI (n := n.toNat) (l := l) (fun a ha => by have := (h3 a ha).1; have := (h3 a ha).2; omega) h2
  have h6 := rnd_mono hE (out := iota n.toNat) (iota_length _) (h1.nd hE hm) (k := l.length - 1) (m := k) (by omega)
  omega
theorem rnd_stab {n : Int} {es : List E} (hE : okE n es) {k : Nat} (hk : n.toNat ≤ k) : Stab es (rnd es (iota n.toNat) k) := by
  intro e he
  obtain ⟨hA, hB⟩ := hE e he
  have hL := Lab.rnd hE k
  have e1 : Conn es e.A e.B := .edge he
  have h1 := labs_le hE (hL.nd hA) ((hL.con _ hA).symm.trans e1) hk
  have h2 := labs_le hE (hL.nd hB) ((hL.con _ hB).symm.trans e1.symm) hk
  omega
theorem labs_lab {n : Int} {es : List E} (hE : okE n es) : Lab n es (labs n es) := Lab.rnd hE _
theorem labs_stab {n : Int} {es : List E} (hE : okE n es) : Stab es (labs n es) := rnd_stab hE (Nat.le_refl _)
theorem labs_length (n : Int) (es : List E) : (labs n es).length = n.toNat := by rw [labs, rnd_length, iota_length]
theorem labs_unique {n : Int} {es : List E} (hE : okE n es) {out : List Int} (h : Lab n es out) (hs : Stab es out) : out = labs n es := h.unique (labs_lab hE) hs (labs_stab hE)
theorem lab_iff {n : Int} {es : List E} (hE : okE n es) {x y : Int} (hx : Nd n x) (hy : Nd n y) : lab n es x = lab n es y ↔ Conn es x y := by
  constructor
  · intro h
    have h1 := (labs_lab hE).con x hx
    have h2 := (labs_lab hE).con y hy
    have h3 : (labs n es).getD x.toNat 0 = (labs n es).getD y.toNat 0 := h
    rw [h3] at h1
    exact h1.trans h2.symm
  · exact Lab.const (n := n) (labs_stab hE)
theorem lab_nd {n : Int} {es : List E} (hE : okE n es) {x : Int} (hx : Nd n x) : Nd n (lab n es x) := (labs_lab hE).nd hx
theorem lab_conn {n : Int} {es : List E} (hE : okE n es) {x : Int} (hx : Nd n x) : Conn es x (lab n es x) := (labs_lab hE).con x hx
theorem lab_le {n : Int} {es : List E} (hE : okE n es) {x y : Int} (hx : Nd n x) (h : Conn es x y) : lab n es x ≤ y := by
  have hy := h.nd hE hx
  have := ((labs_lab hE).low y hy).2
  rw [(lab_iff hE hx hy).2 h]; exact this
theorem relx_same {n : Int} {out : List Int} {e : E} (hl : out.length = n.toNat) (hA : Nd n e.A) (hB : Nd n e.B) (h : out.getD e.A.toNat 0 = out.getD e.B.toNat 0) : relx out e = out := by
  refine list_extD (relx_length _ _) fun i hi => ?_
  rw [relx_length] at hi
  have hx : Nd n (i : Int) := ⟨by omega, by omega⟩
  have := relx_get hl hA hB hx
  simp only [Int.toNat_natCast] at this
  rw [this]
  split
  · rename_i h4
    have h5 : i = e.A.toNat ∨ i = e.B.toNat := by have := hA.1; have := hB.1; omega
    rcases h5 with rfl | rfl <;> omega
  · rfl
/-- One edge's turn, as the second program makes it. -/
theorem relx_lt {out : List Int} {e : E} (h : out.getD e.A.toNat 0 < out.getD e.B.toNat 0) : out.set e.B.toNat (out.getD e.A.toNat 0) = relx out e := by
  unfold relx
  rw [Int.min_eq_left (by omega)]
  congr 1
  refine list_extD (by simp) fun i hi => ?_
  rw [getD_setI]
  split
  · rename_i h1; rw [h1.1]
  · rfl
theorem relx_gt {out : List Int} {e : E} (h : out.getD e.B.toNat 0 < out.getD e.A.toNat 0) : out.set e.A.toNat (out.getD e.B.toNat 0) = relx out e := by
  unfold relx
  rw [Int.min_eq_right (by omega)]
  refine list_extD (by simp) fun i hi => ?_
  rw [getD_setI (out.set e.A.toNat (out.getD e.B.toNat 0))]
  split
  · rename_i h1
    rw [← h1.1, getD_setI]
    split
    · rfl
    · rfl
  · rfl
end Go.Proofs.Ythlgbeakcobeoaa
/- Graphs: the walks of the program's first functions (comparing edges, valid graphs). Conditions: those of each contract. -/
namespace Go.Proofs.Ythlgbeakcobeoaa
open Go
theorem RL.oneG {α : Type} [Enc α] {w : World} {v : Value} {xs : List α} (h : RL w v xs) : v.oneCell' = true := by
  unfold RL at h
  rcases h.2 with ⟨rfl, _⟩ | ⟨b, off, cap, rfl, _⟩ <;> rfl
set_option linter.unusedVariables false set_option linter.unusedSimpArgs false attribute [local irreducible] Tok.own Tok.blk RL Rd eptr WP WPL PE WPD WPO Op1 OpE Tri Again Mid Exit.then Exit.inBlock bodyPost RP Code.wp wpList isOwn OneM One
set_option maxHeartbeats 8000000

def ep (e : E) : Value := .agg #[.int .i64 e.A, .int .i64 e.B]
def eD : E := ⟨0, 0⟩
def cmpI (a b : Int) : Int := if a < b then -1 else if b < a then 1 else 0
def cmpE (a b : E) : Int := if cmpI a.A b.A ≠ 0 then cmpI a.A b.A else cmpI a.B b.B
def ltE (a b : E) : Prop := a.A < b.A ∨ (a.A = b.A ∧ a.B < b.B)
instance (a b : E) : Decidable (ltE a b) := by unfold ltE; infer_instance
theorem cmpE_neg {a b : E} : cmpE a b < 0 ↔ ltE a b := by
  unfold cmpE cmpI ltE; repeat' split
  all_goals omega
theorem cmpE_nonneg {a b : E} : 0 ≤ cmpE a b ↔ ¬ ltE a b := by rw [← cmpE_neg]; omega
theorem cmpE_zero {a b : E} : cmpE a b = 0 ↔ a = b := by
  have : a = b ↔ a.A = b.A ∧ a.B = b.B := by cases a; cases b; simp
  rw [this]
  unfold cmpE cmpI; repeat' split
  all_goals omega
theorem cmpE_small (a b : E) : -1 ≤ cmpE a b ∧ cmpE a b ≤ 1 := by
  unfold cmpE cmpI; repeat' split
  all_goals omega

theorem c_isNaN (w : World) (x : Int) : Tri Try.prog 140 [.int .i64 x] w [] fun r T => r = .bool false ∧ T = [] := by
  refine Tri.intro (hf := Try.func140) (hb := rfl) (hn := Try.ntmps140) (Nat.le_of_ble_eq_true rfl) ?_
  try refine go ⟨?_⟩
  refine PE.ret1 (T := []) (T' := []) rfl rV ?_ sT
  exact ⟨by simp, rfl⟩
theorem c_Compare (w : World) (x y : Int) : Tri Try.prog 138 [.int .i64 x, .int .i64 y] w [] fun r T => r = .int .i64 (cmpI x y) ∧ T = [] := by
  refine Tri.intro (hf := Try.func138) (hb := rfl) (hn := Try.ntmps138) (Nat.le_of_ble_eq_true rfl) ?_
  try refine go ⟨?_⟩
  refine WPL.eff (OpE.call lO (fun w hw => c_isNaN _ x)) rfl rfl ?_
  rintro r _ ⟨T, ⟨rfl, rfl⟩, rfl⟩
  try refine go ⟨?_⟩
  refine WPL.eff (OpE.call lO (fun w hw => c_isNaN _ y)) rfl rfl ?_
  rintro r _ ⟨T, ⟨rfl, rfl⟩, rfl⟩
  repeat' (first | refine go ⟨?_⟩ | (refine isCond ?_; refine WP.condD rfl (fun hc => ?_) (fun hc => ?_)) | (refine isGuard ?_; refine WPL.splitD rfl rfl (fun hc => ?_) (fun hc => ?_)))
  all_goals (refine PE.ret1 (T := []) (T' := []) rfl rV ?_ sT)
  · exact ⟨by rw [cmpI, if_pos hc], rfl⟩
  · exact ⟨by rw [cmpI, if_neg ‹_›, if_pos hc], rfl⟩
  · exact ⟨by rw [cmpI, if_neg ‹_›, if_neg hc], rfl⟩
theorem c_Or (w : World) (v : Value) (a b : Int) (h : RL w v [a, b]) : Tri Try.prog 137 [v] w [] fun r T => r = .int .i64 (if a ≠ 0 then a else b) ∧ T = [] := by
  refine Tri.intro (hf := Try.func137) (hb := rfl) (hn := Try.ntmps137) (Nat.le_of_ble_eq_true rfl) ?_
  try refine go ⟨?_⟩
  refine WP.loop (σ := Nat) (fun k => [(3, .int .i64 0), (6, v), (7, .int .i64 2), (8, .int .i64 k)]) (fun _ => []) (fun k => k ≤ 2 ∧ (1 ≤ k → a = 0) ∧ (2 ≤ k → b = 0)) (fun k => 2 - k) 0 ⟨by omega, by omega, by omega⟩ sE sT ?_
  rintro k ⟨hk, h1, h2⟩
  have hk3 : k = 0 ∨ k = 1 ∨ k = 2 := by omega
  rcases hk3 with rfl | rfl | rfl
  · repeat' (first | refine go ⟨?_⟩ | (refine isCond ?_; refine WP.condD rfl (fun hc => ?_) (fun hc => ?_)) | (refine isGuard ?_; refine WPL.splitD rfl rfl (fun hc => ?_) (fun hc => ?_)))
    · refine PE.ret1 (T := []) (T' := []) rfl rV ?_ sT
      have hc : a ≠ 0 := hc
      exact ⟨by rw [if_pos hc]; rfl, rfl⟩
    · have hc : ¬ a ≠ 0 := hc
      refine PE.again 1 ?_ ?_ sE sT
      · exact ⟨by omega, by omega, by omega⟩
      · omega
  · repeat' (first | refine go ⟨?_⟩ | (refine isCond ?_; refine WP.condD rfl (fun hc => ?_) (fun hc => ?_)) | (refine isGuard ?_; refine WPL.splitD rfl rfl (fun hc => ?_) (fun hc => ?_)))
    · refine PE.ret1 (T := []) (T' := []) rfl rV ?_ sT
      have := h1 (by omega)
      exact ⟨by rw [if_neg (by omega)]; rfl, rfl⟩
    · have hc : ¬ b ≠ 0 := hc
      refine PE.again 2 ?_ ?_ sE sT
      · exact ⟨by omega, by omega, by omega⟩
      · omega
  · repeat' (first | refine go ⟨?_⟩ | (refine isCond ?_; refine WP.condD rfl (fun hc => ?_) (fun hc => ?_)) | (refine isGuard ?_; refine WPL.splitD rfl rfl (fun hc => ?_) (fun hc => ?_)))
    · refine PE.ret1 (T := []) (T' := []) rfl rV ?_ sT
      have e1 := h1 (by omega)
      have e2 := h2 (by omega)
      exact ⟨by rw [if_neg (by omega), e2], rfl⟩

theorem c_cmpE (w : World) (a b : E) : Tri Try.prog 127 [ep a, ep b] w [] fun r T => r = .int .i64 (cmpE a b) ∧ T = [] := by
  refine Tri.intro (hf := Try.func127) (hb := rfl) (hn := Try.ntmps127) (Nat.le_of_ble_eq_true rfl) ?_
  try refine go ⟨?_⟩
  refine WPL.eff (OpE.box rfl) rfl rfl ?_; rintro _ _ ⟨b1, rfl, rfl⟩
  refine WPL.eff (OpE.box rfl) rfl rfl ?_; rintro _ _ ⟨b2, rfl, rfl⟩
  try refine go ⟨?_⟩
  refine WP.draw [Tok.blk b1 [.int .i64 a.A, .int .i64 a.B], Tok.blk b2 [.int .i64 b.A, .int .i64 b.B]] mixed ?_
  refine WPD.take 0 rfl (by first | exact (Op1.fieldAddr rfl) | exact (Op1.fieldAddrE rfl rD lT)) rfl rfl sT kR kR kR xQP ?_
  refine WPD.take 2 rfl (by first | exact (Op1.fieldAddr rfl) | exact (Op1.fieldAddrE rfl rD lT)) rfl rfl sT kR kR kR xQP ?_
  refine WPD.take 5 rfl (by first | exact (Op1.fieldAddr rfl) | exact (Op1.fieldAddrE rfl rD lT)) rfl rfl sT kR kR kR xQP ?_
  refine WPD.take 7 rfl (by first | exact (Op1.fieldAddr rfl) | exact (Op1.fieldAddrE rfl rD lT)) rfl rfl sT kR kR kR xQP ?_
  refine WPD.take 1 rfl (by first | exact (Op1.load rfl mM (by rfl)) | exact (Op1.loadI rfl rD lT) | exact (Op1.loadAll rfl mM (by rfl)) | exact (Op1.loadE rfl rD lT (by rfl)) | exact (Op1.loadEAgg rfl rD lT (by rfl))) rfl rfl sT kR kR kR xQP ?_
  refine WPD.take 3 rfl (by first | exact (Op1.load rfl mM (by rfl)) | exact (Op1.loadI rfl rD lT) | exact (Op1.loadAll rfl mM (by rfl)) | exact (Op1.loadE rfl rD lT (by rfl)) | exact (Op1.loadEAgg rfl rD lT (by rfl))) rfl rfl sT kR kR kR xQP ?_
  refine WPD.take 6 rfl (by first | exact (Op1.load rfl mM (by rfl)) | exact (Op1.loadI rfl rD lT) | exact (Op1.loadAll rfl mM (by rfl)) | exact (Op1.loadE rfl rD lT (by rfl)) | exact (Op1.loadEAgg rfl rD lT (by rfl))) rfl rfl sT kR kR kR xQP ?_
  refine WPD.take 8 rfl (by first | exact (Op1.load rfl mM (by rfl)) | exact (Op1.loadI rfl rD lT) | exact (Op1.loadAll rfl mM (by rfl)) | exact (Op1.loadE rfl rD lT (by rfl)) | exact (Op1.loadEAgg rfl rD lT (by rfl))) rfl rfl sT kR kR kR xQP ?_
  refine WPD.eff 4 kR rfl (OpE.call lO (fun w hw => c_Compare _ a.A b.A)) rfl rfl ?_
  rintro r _ ⟨T, ⟨rfl, rfl⟩, rfl⟩
  refine ⟨sT, ?_⟩
  refine WPD.eff 9 kR rfl (OpE.call lO (fun w hw => c_Compare _ a.B b.B)) rfl rfl ?_
  rintro r _ ⟨T, ⟨rfl, rfl⟩, rfl⟩
  refine ⟨sT, ?_⟩
  refine WPD.eff 10 kR rfl (OpE.buildSlice ([cmpI a.A b.A, cmpI a.B b.B]) pA rfl (by decide)) rfl rfl ?_
  rintro s1 _ rfl
  refine ⟨sT, ?_⟩
  refine WPD.eff 11 kR rfl (OpE.call lO (fun w hw => c_Or _ s1 (cmpI a.A b.A) (cmpI a.B b.B) (Rd.at rD hw))) rfl rfl ?_
  rintro r _ ⟨T, ⟨rfl, rfl⟩, rfl⟩
  refine ⟨sT, ?_⟩
  refine WPD.eff 12 kR rfl (OpE.ofPure (Op1.assign rfl)) rfl rfl ?_
  rintro _ _ ⟨rfl, rfl⟩
  refine ⟨sT, ?_⟩
  refine WPD.done kR ?_
  try refine go ⟨?_⟩
  refine PE.ret1 (T := []) (T' := []) rfl rV ?_ sT
  exact ⟨rfl, rfl⟩
end Go.Proofs.Ythlgbeakcobeoaa
/- Graphs: the walk of GraphValid. Conditions: those of the contract. -/
namespace Go.Proofs.Ythlgbeakcobeoaa
open Go
set_option linter.unusedVariables false set_option linter.unusedSimpArgs false attribute [local irreducible] Tok.own Tok.blk RL Rd eptr WP WPL PE WPD WPO Op1 OpE Tri Again Mid Exit.then Exit.inBlock bodyPost RP Code.wp wpList isOwn OneM One
set_option maxHeartbeats 8000000

def okG (n : Int) (es : List E) (i : Nat) : Prop := 0 ≤ (es.getD i eD).A ∧ (es.getD i eD).A < (es.getD i eD).B ∧ (es.getD i eD).B < n ∧ (0 < i → ltE (es.getD (i - 1) eD) (es.getD i eD))
instance (n : Int) (es : List E) (i : Nat) : Decidable (okG n es i) := by unfold okG; infer_instance
def GV (n : Int) (es : List E) : Prop := 1 ≤ n ∧ n ≤ 16 ∧ es.length ≤ 40 ∧ ∀ i, i < es.length → okG n es i
instance (n : Int) (es : List E) : Decidable (GV n es) := by unfold GV; infer_instance

theorem c_GraphValid (w : World) (n : Int) (vE : Value) (es : List E) (hE : RL w vE es) (hl : es.length ≤ 1099511627776) :
    Tri Try.prog 108 [.agg #[.int .i64 n, vE]] w [] fun r T => r = .bool (decide (GV n es)) ∧ T = [] := by
  have bad : ¬ GV n es → Value.bool false = .bool (decide (GV n es)) := fun h => by rw [decide_eq_false h]
  refine Tri.intro (hf := Try.func108) (hb := rfl) (hn := Try.ntmps108) (Nat.le_of_ble_eq_true rfl) ?_
  try refine go ⟨?_⟩
  refine WPL.eff (OpE.box rfl) rfl rfl ?_; rintro _ _ ⟨b, rfl, rfl⟩
  repeat' (first | refine go ⟨?_⟩ | (refine isCond ?_; refine WP.condD rfl (fun hc => ?_) (fun hc => ?_)) | (refine isGuard ?_; refine WPL.splitD rfl rfl (fun hc => ?_) (fun hc => ?_)))
  · refine PE.ret1 (T := []) (T' := []) rfl rV ?_ sT
    exact ⟨bad fun h => by have := h.1; omega, rfl⟩
  · refine PE.ret1 (T := []) (T' := []) rfl rV ?_ sT
    exact ⟨bad fun h => by have := h.2.1; omega, rfl⟩
  · refine PE.ret1 (T := []) (T' := []) rfl rV ?_ sT
    exact ⟨bad fun h => by have := h.2.2.1; omega, rfl⟩
  refine WP.loop (σ := Nat) (fun k => [(1, .pointer (some ⟨b, 0, none⟩)), (20, vE), (21, .int .i64 es.length), (22, .int .i64 k)]) (fun _ => [Tok.blk b [.int .i64 n, vE]]) (fun k => k ≤ es.length ∧ ∀ i, i < k → okG n es i) (fun k => es.length - k) 0 ⟨Nat.zero_le _, by omega⟩ sE sT ?_
  rintro k ⟨hk, hm⟩
  try refine go ⟨?_⟩
  refine WP.condD rfl (fun hk' => ?_) (fun hk' => ?_)
  · try refine go ⟨?_⟩
    refine WPL.eff OpE.alloc rfl rfl ?_; rintro _ _ ⟨be, rfl, rfl⟩
    try refine go ⟨?_⟩
    have bad' : ¬ okG n es k → Value.bool false = .bool (decide (GV n es)) := fun h => bad fun h' => h (h'.2.2.2 k (by omega))
    have ek : ((k : Int) - 1).toNat = k - 1 := by omega
    refine WP.draw [Tok.blk b [.int .i64 n, vE], Tok.blk be [.int .i64 (es.getD k eD).A, .int .i64 (es.getD k eD).B]] mixed ?_
    refine WPD.take 0 rfl (by first | exact (Op1.fieldAddr rfl) | exact (Op1.fieldAddrE rfl rD lT)) rfl rfl sT kR kR kR xQP ?_
    refine WPD.take 1 rfl (by first | exact (Op1.load rfl mM (by rfl)) | exact (Op1.loadI rfl rD lT) | exact (Op1.loadAll rfl mM (by rfl)) | exact (Op1.loadE rfl rD lT (by rfl)) | exact (Op1.loadEAgg rfl rD lT (by rfl))) rfl rfl sT kR kR kR xQP ?_
    refine WPD.take 2 rfl (Op1.ltI rfl rfl) rfl rfl sT kR kR kR xQP ?_
    refine WPD.take 3 rfl (Op1.move rfl) rfl rfl sT kR kR kR xQP ?_
    first | refine WPD.splitD 30 rfl (fun h30 => ?t1) (fun h30 => ?f1) | refine WPD.split 30 rfl (fun h30 => ?t1) (fun h30 => ?f1)
    case' t1 =>
      refine WPD.skip 4 rfl rfl rfl sT kR kR kR xQP ?_
      refine WPD.skip 6 rfl rfl rfl sT kR kR kR xQP ?_
      refine WPD.skip 5 rfl rfl rfl sT kR kR kR xQP ?_
      refine WPD.skip 7 rfl rfl rfl sT kR kR kR xQP ?_
      refine WPD.skip 8 rfl rfl rfl sT kR kR kR xQP ?_
      refine WPD.take 9 rfl (by first | exact (Op1.pickT rfl rfl) | exact (Op1.pickF rfl rfl)) rfl rfl sT kR kR kR xQP ?_
      refine WPD.take 10 rfl (Op1.move rfl) rfl rfl sT kR kR kR xQP ?_
      refine WPD.skip 11 rfl rfl rfl sT kR kR kR xQP ?_
      refine WPD.skip 13 rfl rfl rfl sT kR kR kR xQP ?_
      refine WPD.skip 12 rfl rfl rfl sT kR kR kR xQP ?_
      refine WPD.skip 14 rfl rfl rfl sT kR kR kR xQP ?_
      refine WPD.skip 15 rfl rfl rfl sT kR kR kR xQP ?_
      refine WPD.take 16 rfl (by first | exact (Op1.pickT rfl rfl) | exact (Op1.pickF rfl rfl)) rfl rfl sT kR kR kR xQP ?_
      refine WPD.take 17 rfl (Op1.move rfl) rfl rfl sT kR kR kR xQP ?_
      refine WPD.skip 18 rfl rfl rfl sT kR kR kR xQP ?_
      refine WPD.skip 19 rfl rfl rfl sT kR kR kR xQP ?_
      refine WPD.skip 20 rfl rfl rfl sT kR kR kR xQP ?_
      refine WPD.skip 21 rfl rfl rfl sT kR kR kR xQP ?_
      refine WPD.skip 23 rfl rfl rfl sT kR kR kR xQP ?_
      refine WPD.skip 27 rfl rfl rfl sT kR kR kR xQP ?_
      refine WPD.skip 22 rfl rfl rfl sT kR kR kR xQP ?_
      refine WPD.skip 24 rfl rfl rfl sT kR kR kR xQP ?_
      refine WPD.skip 25 rfl rfl rfl sT kR kR kR xQP ?_
      refine WPD.skip 26 rfl rfl rfl sT kR kR kR xQP ?_
      refine WPD.skip 28 rfl rfl rfl sT kR kR kR xQP ?_
      refine WPD.skip 29 rfl rfl rfl sT kR kR kR xQP ?_
      refine WPD.skip 30 rfl rfl rfl sT kR kR kR xQP ?_
      refine WPD.take 31 rfl (by first | exact (Op1.pickT rfl rfl) | exact (Op1.pickF rfl rfl)) rfl rfl sT kR kR kR xQP ?_
      refine WPD.done kR ?_
    case' f1 =>
      refine WPD.take 4 rfl (by first | exact (Op1.fieldAddr rfl) | exact (Op1.fieldAddrE rfl rD lT)) rfl rfl sT kR kR kR xQP ?_
      refine WPD.take 6 rfl (by first | exact (Op1.fieldAddr rfl) | exact (Op1.fieldAddrE rfl rD lT)) rfl rfl sT kR kR kR xQP ?_
      refine WPD.take 5 rfl (by first | exact (Op1.load rfl mM (by rfl)) | exact (Op1.loadI rfl rD lT) | exact (Op1.loadAll rfl mM (by rfl)) | exact (Op1.loadE rfl rD lT (by rfl)) | exact (Op1.loadEAgg rfl rD lT (by rfl))) rfl rfl sT kR kR kR xQP ?_
      refine WPD.take 7 rfl (by first | exact (Op1.load rfl mM (by rfl)) | exact (Op1.loadI rfl rD lT) | exact (Op1.loadAll rfl mM (by rfl)) | exact (Op1.loadE rfl rD lT (by rfl)) | exact (Op1.loadEAgg rfl rD lT (by rfl))) rfl rfl sT kR kR kR xQP ?_
      refine WPD.take 8 rfl (Op1.geI rfl rfl) rfl rfl sT kR kR kR xQP ?_
      refine WPD.take 9 rfl (by first | exact (Op1.pickT rfl rfl) | exact (Op1.pickF rfl rfl)) rfl rfl sT kR kR kR xQP ?_
      refine WPD.take 10 rfl (Op1.move rfl) rfl rfl sT kR kR kR xQP ?_
      first | refine WPD.splitD 37 rfl (fun h37 => ?t2) (fun h37 => ?f2) | refine WPD.split 37 rfl (fun h37 => ?t2) (fun h37 => ?f2)
      case' t2 =>
        refine WPD.skip 11 rfl rfl rfl sT kR kR kR xQP ?_
        refine WPD.skip 13 rfl rfl rfl sT kR kR kR xQP ?_
        refine WPD.skip 12 rfl rfl rfl sT kR kR kR xQP ?_
        refine WPD.skip 14 rfl rfl rfl sT kR kR kR xQP ?_
        refine WPD.skip 15 rfl rfl rfl sT kR kR kR xQP ?_
        refine WPD.take 16 rfl (by first | exact (Op1.pickT rfl rfl) | exact (Op1.pickF rfl rfl)) rfl rfl sT kR kR kR xQP ?_
        refine WPD.take 17 rfl (Op1.move rfl) rfl rfl sT kR kR kR xQP ?_
        refine WPD.skip 18 rfl rfl rfl sT kR kR kR xQP ?_
        refine WPD.skip 19 rfl rfl rfl sT kR kR kR xQP ?_
        refine WPD.skip 20 rfl rfl rfl sT kR kR kR xQP ?_
        refine WPD.skip 21 rfl rfl rfl sT kR kR kR xQP ?_
        refine WPD.skip 23 rfl rfl rfl sT kR kR kR xQP ?_
        refine WPD.skip 27 rfl rfl rfl sT kR kR kR xQP ?_
        refine WPD.skip 22 rfl rfl rfl sT kR kR kR xQP ?_
        refine WPD.skip 24 rfl rfl rfl sT kR kR kR xQP ?_
        refine WPD.skip 25 rfl rfl rfl sT kR kR kR xQP ?_
        refine WPD.skip 26 rfl rfl rfl sT kR kR kR xQP ?_
        refine WPD.skip 28 rfl rfl rfl sT kR kR kR xQP ?_
        refine WPD.skip 29 rfl rfl rfl sT kR kR kR xQP ?_
        refine WPD.skip 30 rfl rfl rfl sT kR kR kR xQP ?_
        refine WPD.take 31 rfl (by first | exact (Op1.pickT rfl rfl) | exact (Op1.pickF rfl rfl)) rfl rfl sT kR kR kR xQP ?_
        refine WPD.done kR ?_
      case' f2 =>
        refine WPD.take 11 rfl (by first | exact (Op1.fieldAddr rfl) | exact (Op1.fieldAddrE rfl rD lT)) rfl rfl sT kR kR kR xQP ?_
        refine WPD.take 13 rfl (by first | exact (Op1.fieldAddr rfl) | exact (Op1.fieldAddrE rfl rD lT)) rfl rfl sT kR kR kR xQP ?_
        refine WPD.take 12 rfl (by first | exact (Op1.load rfl mM (by rfl)) | exact (Op1.loadI rfl rD lT) | exact (Op1.loadAll rfl mM (by rfl)) | exact (Op1.loadE rfl rD lT (by rfl)) | exact (Op1.loadEAgg rfl rD lT (by rfl))) rfl rfl sT kR kR kR xQP ?_
        refine WPD.take 14 rfl (by first | exact (Op1.load rfl mM (by rfl)) | exact (Op1.loadI rfl rD lT) | exact (Op1.loadAll rfl mM (by rfl)) | exact (Op1.loadE rfl rD lT (by rfl)) | exact (Op1.loadEAgg rfl rD lT (by rfl))) rfl rfl sT kR kR kR xQP ?_
        refine WPD.take 15 rfl (Op1.geI rfl rfl) rfl rfl sT kR kR kR xQP ?_
        refine WPD.take 16 rfl (by first | exact (Op1.pickT rfl rfl) | exact (Op1.pickF rfl rfl)) rfl rfl sT kR kR kR xQP ?_
        refine WPD.take 17 rfl (Op1.move rfl) rfl rfl sT kR kR kR xQP ?_
        first | refine WPD.splitD 44 rfl (fun h44 => ?t3) (fun h44 => ?f3) | refine WPD.split 44 rfl (fun h44 => ?t3) (fun h44 => ?f3)
        case' t3 =>
          refine WPD.skip 18 rfl rfl rfl sT kR kR kR xQP ?_
          refine WPD.skip 19 rfl rfl rfl sT kR kR kR xQP ?_
          refine WPD.skip 20 rfl rfl rfl sT kR kR kR xQP ?_
          refine WPD.skip 21 rfl rfl rfl sT kR kR kR xQP ?_
          refine WPD.skip 23 rfl rfl rfl sT kR kR kR xQP ?_
          refine WPD.skip 27 rfl rfl rfl sT kR kR kR xQP ?_
          refine WPD.skip 22 rfl rfl rfl sT kR kR kR xQP ?_
          refine WPD.skip 24 rfl rfl rfl sT kR kR kR xQP ?_
          refine WPD.skip 25 rfl rfl rfl sT kR kR kR xQP ?_
          refine WPD.skip 26 rfl rfl rfl sT kR kR kR xQP ?_
          refine WPD.skip 28 rfl rfl rfl sT kR kR kR xQP ?_
          refine WPD.skip 29 rfl rfl rfl sT kR kR kR xQP ?_
          refine WPD.skip 30 rfl rfl rfl sT kR kR kR xQP ?_
          refine WPD.take 31 rfl (by first | exact (Op1.pickT rfl rfl) | exact (Op1.pickF rfl rfl)) rfl rfl sT kR kR kR xQP ?_
          refine WPD.done kR ?_
        case' f3 =>
          refine WPD.take 18 rfl (Op1.move rfl) rfl rfl sT kR kR kR xQP ?_
          refine WPD.take 19 rfl (Op1.gtI rfl rfl) rfl rfl sT kR kR kR xQP ?_
          refine WPD.take 20 rfl (Op1.move rfl) rfl rfl sT kR kR kR xQP ?_
          first | refine WPD.splitD 47 rfl (fun h47 => ?t4) (fun h47 => ?f4) | refine WPD.split 47 rfl (fun h47 => ?t4) (fun h47 => ?f4)
          case' t4 =>
            refine WPD.take 21 rfl (by first | exact (Op1.fieldAddr rfl) | exact (Op1.fieldAddrE rfl rD lT)) rfl rfl sT kR kR kR xQP ?_
            refine WPD.take 23 rfl (Op1.move rfl) rfl rfl sT kR kR kR xQP ?_
            refine WPD.take 27 rfl (by first | exact (Op1.load rfl mM (by rfl)) | exact (Op1.loadI rfl rD lT) | exact (Op1.loadAll rfl mM (by rfl)) | exact (Op1.loadE rfl rD lT (by rfl)) | exact (Op1.loadEAgg rfl rD lT (by rfl))) rfl rfl sT kR kR kR xQP ?_
            refine WPD.take 22 rfl (by first | exact (Op1.load rfl mM (by rfl)) | exact (Op1.loadI rfl rD lT) | exact (Op1.loadAll rfl mM (by rfl)) | exact (Op1.loadE rfl rD lT (by rfl)) | exact (Op1.loadEAgg rfl rD lT (by rfl))) rfl rfl sT kR kR kR xQP ?_
            refine WPD.take 24 rfl (Op1.sub rfl rfl (by omega)) rfl rfl sT kR kR kR xQP ?_
            refine WPD.take 25 rfl (by first | exact (Op1.indexAddr rfl rfl rD lT) | exact (Op1.indexAddrZ rfl rfl rD lT)) rfl rfl sT kR kR kR xQP ?_
            refine WPD.take 26 rfl (by first | exact (Op1.load rfl mM (by rfl)) | exact (Op1.loadI rfl rD lT) | exact (Op1.loadAll rfl mM (by rfl)) | exact (Op1.loadE rfl rD lT (by rfl)) | exact (Op1.loadEAgg rfl rD lT (by rfl))) rfl rfl sT kR kR kR xQP ?_
            refine WPD.eff 28 kR rfl (OpE.call lO (fun w hw => c_cmpE _ (es.getD ((k : Int) - 1).toNat eD) (es.getD k eD))) rfl rfl ?_
            rintro r _ ⟨T, ⟨rfl, rfl⟩, rfl⟩
            refine ⟨sT, ?_⟩
            refine WPD.take 29 rfl (Op1.geI rfl rfl) rfl rfl sT kR kR kR xQP ?_
            refine WPD.take 30 rfl (by first | exact (Op1.pickT rfl rfl) | exact (Op1.pickF rfl rfl)) rfl rfl sT kR kR kR xQP ?_
            refine WPD.take 31 rfl (by first | exact (Op1.pickT rfl rfl) | exact (Op1.pickF rfl rfl)) rfl rfl sT kR kR kR xQP ?_
            refine WPD.done kR ?_
          case' f4 =>
            refine WPD.skip 21 rfl rfl rfl sT kR kR kR xQP ?_
            refine WPD.skip 23 rfl rfl rfl sT kR kR kR xQP ?_
            refine WPD.skip 27 rfl rfl rfl sT kR kR kR xQP ?_
            refine WPD.skip 22 rfl rfl rfl sT kR kR kR xQP ?_
            refine WPD.skip 24 rfl rfl rfl sT kR kR kR xQP ?_
            refine WPD.skip 25 rfl rfl rfl sT kR kR kR xQP ?_
            refine WPD.skip 26 rfl rfl rfl sT kR kR kR xQP ?_
            refine WPD.skip 28 rfl rfl rfl sT kR kR kR xQP ?_
            refine WPD.skip 29 rfl rfl rfl sT kR kR kR xQP ?_
            refine WPD.take 30 rfl (by first | exact (Op1.pickT rfl rfl) | exact (Op1.pickF rfl rfl)) rfl rfl sT kR kR kR xQP ?_
            refine WPD.take 31 rfl (by first | exact (Op1.pickT rfl rfl) | exact (Op1.pickF rfl rfl)) rfl rfl sT kR kR kR xQP ?_
            refine WPD.done kR ?_
    all_goals (repeat' (first | refine go ⟨?_⟩ | (refine isCond ?_; refine WP.condD rfl (fun hc => ?_) (fun hc => ?_)) | (refine isGuard ?_; refine WPL.splitD rfl rfl (fun hc => ?_) (fun hc => ?_))))
    · refine PE.again (k + 1) ?_ ?_ sE sT
      · refine ⟨by omega, fun i hi => ?_⟩
        rcases Nat.lt_succ_iff_lt_or_eq.1 hi with h' | rfl
        · exact hm i h'
        · exact ⟨by omega, by omega, by omega, fun h => by omega⟩
      · omega
    · refine PE.ret1 (T := []) (T' := []) rfl rV ?_ sT
      rw [ek, cmpE_nonneg] at hc
      exact ⟨bad' fun h => hc (h.2.2.2 (by omega)), rfl⟩
    · refine PE.again (k + 1) ?_ ?_ sE sT
      · refine ⟨by omega, fun i hi => ?_⟩
        rcases Nat.lt_succ_iff_lt_or_eq.1 hi with h' | rfl
        · exact hm i h'
        · rw [ek, cmpE_nonneg] at hc
          exact ⟨by omega, by omega, by omega, fun _ => Decidable.not_not.1 hc⟩
      · omega
    all_goals (refine PE.ret1 (T := []) (T' := []) rfl rV ?_ sT; exact ⟨bad' fun h => by have h1 := h.1; have h2 := h.2.1; have h3 := h.2.2.1; omega, rfl⟩)
  · try refine go ⟨?_⟩
    refine PE.ret1 (T := []) (T' := []) rfl rV ?_ sT
    have : k = es.length := by omega
    subst this
    exact ⟨by rw [decide_eq_true]; exact ⟨by omega, by omega, by omega, hm⟩, rfl⟩
end Go.Proofs.Ythlgbeakcobeoaa
/- Graphs: the walks of the searches, of has, hasNode, parts, connected. Conditions: those of each contract. -/
namespace Go.Proofs.Ythlgbeakcobeoaa
open Go
theorem RL.nilG {α : Type} [Enc α] {w : World} {v : Value} {xs : List α} (h : RL w v xs) (hv : vfp v = []) : xs = [] := by
  rcases h.2 with ⟨_, h0⟩ | ⟨b, off, cap, rfl, _⟩
  · exact List.eq_nil_of_length_eq_zero h0
  · simp [vfp] at hv
set_option linter.unusedVariables false set_option linter.unusedSimpArgs false attribute [local irreducible] Tok.own Tok.blk RL Rd eptr WP WPL PE WPD WPO Op1 OpE Tri Again Mid Exit.then Exit.inBlock bodyPost RP Code.wp wpList isOwn OneM One
set_option maxHeartbeats 8000000

theorem c_CloneE (w : World) (v : Value) (es : List E) (h : RL w v es) (hl : es.length ≤ 1099511627776) :
    Tri Try.prog 129 [v] w [] fun r T => T = [Tok.own r es] := by
  refine Tri.intro (hf := Try.func129) (hb := rfl) (hn := Try.ntmps129) (Nat.le_of_ble_eq_true rfl) ?_
  try refine go ⟨?_⟩
  refine WP.cond rfl (fun hn => ?_) (fun hn => ?_)
  · have hx : es = [] := RL.nilG h (by simpa using hn)
    subst hx
    try refine go ⟨?_⟩
    refine PE.nilTok E ?_
    refine PE.ret1 (T := []) (T' := [Tok.own _ ([] : List E)]) rfl rV ?_ sT
    rfl
  · try refine go ⟨?_⟩
    refine WPL.eff (OpE.buildSlice ([] : List E) pA rfl (by decide)) rfl rfl ?_; rintro s _ rfl
    try refine go ⟨?_⟩
    refine WPL.eff (OpE.append rfl rfl pM rD lN) rfl rfl ?_; rintro r _ rfl
    try refine go ⟨?_⟩
    refine PE.ret1 (T := []) (T' := [Tok.own r es]) rfl rV ?_ sT
    rfl

/-- x is a node of a valid graph. -/
def GN (n : Int) (es : List E) (x : Int) : Prop := GV n es ∧ Nd n x
instance (n : Int) (es : List E) (x : Int) : Decidable (GN n es x) := by unfold GN; infer_instance

theorem c_hasNodeG (w : World) (n : Int) (vE : Value) (es : List E) (x : Int) (hE : RL w vE es) (hl : es.length ≤ 1099511627776) :
    Tri Try.prog 71 [.agg #[.int .i64 n, vE], .int .i64 x] w [] fun r T => r = .bool (decide (GN n es x)) ∧ T = [] := by
  refine Tri.intro (hf := Try.func71) (hb := rfl) (hn := Try.ntmps71) (Nat.le_of_ble_eq_true rfl) ?_
  try refine go ⟨?_⟩
  refine WPL.eff (OpE.box rfl) rfl rfl ?_; rintro _ _ ⟨b, rfl, rfl⟩
  try refine go ⟨?_⟩
  refine WPL.eff (OpE.call lO (fun w hw => c_GraphValid _ n vE es (Rd.at rD hw) hl)) rfl rfl ?_
  rintro r _ ⟨T, ⟨rfl, rfl⟩, rfl⟩
  repeat' (first | refine go ⟨?_⟩ | (refine isCond ?_; refine WP.condD rfl (fun hc => ?_) (fun hc => ?_)) | (refine isGuard ?_; refine WPL.splitD rfl rfl (fun hc => ?_) (fun hc => ?_)))
  all_goals (refine PE.ret1 (T := []) (T' := []) rfl rV ?_ sT)
  · refine ⟨?_, rfl⟩
    congr 1; rw [decide_eq_decide]; unfold GN Nd; constructor
    · intro h; exact ⟨by assumption, by assumption, h⟩
    · intro h; exact h.2.2
  · refine ⟨?_, rfl⟩
    rw [decide_eq_false]; unfold GN Nd; omega
  · refine ⟨?_, rfl⟩
    rw [decide_eq_false]; unfold GN; intro h; exact absurd h.1 ‹_›

theorem GV.okE {n : Int} {es : List E} (h : GV n es) : okE n es := by
  intro e he
  obtain ⟨i, hi, rfl⟩ := mem_getD (d := eD) he
  have := h.2.2.2 i hi
  unfold okG at this
  unfold Nd; omega

/-- What is asked of the edges where only their nodes matter. -/
structure NE (n : Int) (es : List E) : Prop where
  n1 : 0 ≤ n
  n2 : n ≤ 16
  ok : okE n es
  le : es.length ≤ 1000
theorem GV.ne {n : Int} {es : List E} (h : GV n es) : NE n es := ⟨by have := h.1; omega, h.2.1, h.okE, by have := h.2.2.1; omega⟩

theorem c_parts (w : World) (n : Int) (vE : Value) (es : List E) (hE : RL w vE es) (hg : NE n es) :
    Tri Try.prog 72 [.agg #[.int .i64 n, vE]] w [] fun r T => T = [Tok.own r (labs n es)] := by
  have hl := hg.le
  have hn1 := hg.n1
  have hn2 := hg.n2
  refine Tri.intro (hf := Try.func72) (hb := rfl) (hn := Try.ntmps72) (Nat.le_of_ble_eq_true rfl) ?_
  try refine go ⟨?_⟩
  refine WPL.eff (OpE.box rfl) rfl rfl ?_; rintro _ _ ⟨b, rfl, rfl⟩
  try refine go ⟨?_⟩
  refine WPL.eff (OpE.buildSlice ([] : List Int) pA rfl (by decide)) rfl rfl ?_; rintro s _ rfl
  try refine go ⟨?_⟩
  refine WP.loop (σ := Nat × Value) (fun k => [(1, .pointer (some ⟨b, 0, none⟩)), (3, k.2), (10, .int .i64 n), (11, .int .i64 k.1)]) (fun k => [Tok.own k.2 (iota k.1), Tok.blk b [.int .i64 n, vE]]) (fun k => k.1 ≤ n.toNat) (fun k => n.toNat - k.1) (0, s) (Nat.zero_le _) sE sT ?_
  rintro ⟨k, v⟩ hk
  dsimp only at hk ⊢
  try refine go ⟨?_⟩
  refine WP.condD rfl (fun hc => ?_) (fun hc => ?_)
  · try refine go ⟨?_⟩
    refine WPL.eff (OpE.buildSlice [(k : Int)] pA rfl (by decide)) rfl rfl ?_; rintro s1 _ rfl
    try refine go ⟨?_⟩
    have hil := iota_length k
    refine WPL.eff (OpE.append rfl rfl pM rD lN) rfl rfl ?_; rintro v1 _ rfl
    try refine go ⟨?_⟩
    rw [← iota_succ]
    refine PE.again (k + 1, v1) ?_ ?_ sE sT
    · dsimp only; omega
    · dsimp only; omega
  have hkn : k = n.toNat := by omega
  subst hkn
  try refine go ⟨?_⟩
  refine WP.loop (σ := Nat) (fun k => [(1, .pointer (some ⟨b, 0, none⟩)), (3, v), (20, .int .i64 n), (21, .int .i64 k)]) (fun k => [Tok.own v (rnd es (iota n.toNat) k), Tok.blk b [.int .i64 n, vE]]) (fun k => k ≤ n.toNat) (fun k => n.toNat - k) 0 (Nat.zero_le _) sE sT ?_
  intro k hk
  try refine go ⟨?_⟩
  refine WP.condD rfl (fun hc2 => ?_) (fun hc2 => ?_)
  · try refine go ⟨?_⟩
    refine WP.loop (σ := Nat) (fun j => [(1, .pointer (some ⟨b, 0, none⟩)), (3, v), (20, .int .i64 n), (21, .int .i64 k), (24, vE), (25, .int .i64 es.length), (26, .int .i64 j)]) (fun j => [Tok.own v ((es.take j).foldl relx (rnd es (iota n.toNat) k)), Tok.blk b [.int .i64 n, vE]]) (fun j => j ≤ es.length) (fun j => es.length - j) 0 (Nat.zero_le _) sE sT ?_
    intro j hj
    try refine go ⟨?_⟩
    refine WP.condD rfl (fun hc3 => ?_) (fun hc3 => ?_)
    · obtain ⟨out, ho⟩ : ∃ out, out = (es.take j).foldl relx (rnd es (iota n.toNat) k) := ⟨_, rfl⟩
      have hol : out.length = n.toNat := by rw [ho, fold_length, rnd_length, iota_length]
      rw [← ho]
      have hj' : j < es.length := by omega
      obtain ⟨hA, hB⟩ := hg.ok (es.getD j eD) (getD_memI hj')
      have hA1 := hA.1
      have hA2 := hA.2
      have hB1 := hB.1
      have hB2 := hB.2
      try refine go ⟨?_⟩
      refine WPL.eff OpE.alloc rfl rfl ?_; rintro _ _ ⟨be, rfl, rfl⟩
      try refine go ⟨?_⟩
      refine WP.draw [Tok.own v out, Tok.blk be [.int .i64 (es.getD j eD).A, .int .i64 (es.getD j eD).B]] mixed ?_
      refine WPD.take 0 rfl (Op1.move rfl) rfl rfl sT kR kR kR xQP ?_
      refine WPD.take 1 rfl (by first | exact (Op1.fieldAddr rfl) | exact (Op1.fieldAddrE rfl rD lT)) rfl rfl sT kR kR kR xQP ?_
      refine WPD.take 5 rfl (Op1.move rfl) rfl rfl sT kR kR kR xQP ?_
      refine WPD.take 6 rfl (by first | exact (Op1.fieldAddr rfl) | exact (Op1.fieldAddrE rfl rD lT)) rfl rfl sT kR kR kR xQP ?_
      refine WPD.take 2 rfl (by first | exact (Op1.load rfl mM (by rfl)) | exact (Op1.loadI rfl rD lT) | exact (Op1.loadAll rfl mM (by rfl)) | exact (Op1.loadE rfl rD lT (by rfl)) | exact (Op1.loadEAgg rfl rD lT (by rfl))) rfl rfl sT kR kR kR xQP ?_
      refine WPD.take 7 rfl (by first | exact (Op1.load rfl mM (by rfl)) | exact (Op1.loadI rfl rD lT) | exact (Op1.loadAll rfl mM (by rfl)) | exact (Op1.loadE rfl rD lT (by rfl)) | exact (Op1.loadEAgg rfl rD lT (by rfl))) rfl rfl sT kR kR kR xQP ?_
      refine WPD.take 3 rfl (by first | exact (Op1.indexAddr rfl rfl rD lT) | exact (Op1.indexAddrZ rfl rfl rD lT)) rfl rfl sT kR kR kR xQP ?_
      refine WPD.take 8 rfl (by first | exact (Op1.indexAddr rfl rfl rD lT) | exact (Op1.indexAddrZ rfl rfl rD lT)) rfl rfl sT kR kR kR xQP ?_
      refine WPD.take 4 rfl (by first | exact (Op1.load rfl mM (by rfl)) | exact (Op1.loadI rfl rD lT) | exact (Op1.loadAll rfl mM (by rfl)) | exact (Op1.loadE rfl rD lT (by rfl)) | exact (Op1.loadEAgg rfl rD lT (by rfl))) rfl rfl sT kR kR kR xQP ?_
      refine WPD.take 9 rfl (by first | exact (Op1.load rfl mM (by rfl)) | exact (Op1.loadI rfl rD lT) | exact (Op1.loadAll rfl mM (by rfl)) | exact (Op1.loadE rfl rD lT (by rfl)) | exact (Op1.loadEAgg rfl rD lT (by rfl))) rfl rfl sT kR kR kR xQP ?_
      refine WPD.take 10 rfl (Op1.bmin rfl rfl) rfl rfl sT kR kR kR xQP ?_
      refine WPD.eff 11 kR rfl (OpE.ofPure (Op1.assign rfl)) rfl rfl ?_
      rintro _ _ ⟨rfl, rfl⟩
      refine ⟨sT, ?_⟩
      refine WPD.done kR ?_
      try refine go ⟨?_⟩
      refine WP.draw [Tok.blk be [.int .i64 (es.getD j eD).A, .int .i64 (es.getD j eD).B]] mixed ?_
      refine WPD.take 0 rfl (Op1.move rfl) rfl rfl sT kR kR kR xQP ?_
      refine WPD.take 1 rfl (by first | exact (Op1.fieldAddr rfl) | exact (Op1.fieldAddrE rfl rD lT)) rfl rfl sT kR kR kR xQP ?_
      refine WPD.take 3 rfl (Op1.move rfl) rfl rfl sT kR kR kR xQP ?_
      refine WPD.take 4 rfl (by first | exact (Op1.fieldAddr rfl) | exact (Op1.fieldAddrE rfl rD lT)) rfl rfl sT kR kR kR xQP ?_
      refine WPD.take 6 rfl (Op1.move rfl) rfl rfl sT kR kR kR xQP ?_
      refine WPD.take 7 rfl (Op1.move rfl) rfl rfl sT kR kR kR xQP ?_
      refine WPD.take 2 rfl (by first | exact (Op1.load rfl mM (by rfl)) | exact (Op1.loadI rfl rD lT) | exact (Op1.loadAll rfl mM (by rfl)) | exact (Op1.loadE rfl rD lT (by rfl)) | exact (Op1.loadEAgg rfl rD lT (by rfl))) rfl rfl sT kR kR kR xQP ?_
      refine WPD.take 5 rfl (by first | exact (Op1.load rfl mM (by rfl)) | exact (Op1.loadI rfl rD lT) | exact (Op1.loadAll rfl mM (by rfl)) | exact (Op1.loadE rfl rD lT (by rfl)) | exact (Op1.loadEAgg rfl rD lT (by rfl))) rfl rfl sT kR kR kR xQP ?_
      refine WPD.eff 8 kR rfl (OpE.ofPure (by first | exact (Op1.indexAddr rfl rfl rD lT) | exact (Op1.indexAddrZ rfl rfl rD lT))) rfl rfl ?_
      rintro _ _ ⟨rfl, rfl⟩
      refine ⟨sT, ?_⟩
      refine WPD.eff0 9 kR rfl (OpE.store1 (_) rfl rfl pM lT rfl) rfl ?_
      rintro _ _ rfl
      refine ⟨sT, ?_⟩
      refine WPD.eff 10 kR rfl (OpE.ofPure (by first | exact (Op1.indexAddr rfl rfl rD lT) | exact (Op1.indexAddrZ rfl rfl rD lT))) rfl rfl ?_
      rintro _ _ ⟨rfl, rfl⟩
      refine ⟨sT, ?_⟩
      refine WPD.eff0 11 kR rfl (OpE.store1 (_) rfl rfl pM lT rfl) rfl ?_
      rintro _ _ rfl
      refine ⟨sT, ?_⟩
      refine WPD.done kR ?_
      try refine go ⟨?_⟩
      have hs := foldl_takeS eD relx (rnd es (iota n.toNat) k) hj'
      rw [← ho] at hs
      have hr : (out.set (es.getD j eD).A.toNat (min (out.getD (es.getD j eD).A.toNat 0) (out.getD (es.getD j eD).B.toNat 0))).set (es.getD j eD).B.toNat (min (out.getD (es.getD j eD).A.toNat 0) (out.getD (es.getD j eD).B.toNat 0)) = relx out (es.getD j eD) := rfl
      rw [hr, ← hs]
      refine PE.again (j + 1) ?_ ?_ sE sT
      · omega
      · omega
    · have hjn : j = es.length := by omega
      subst hjn
      rw [List.take_length]
      try refine go ⟨?_⟩
      refine PE.again (k + 1) ?_ ?_ sE sT
      · omega
      · omega
  · have hkn : k = n.toNat := by omega
    subst hkn
    try refine go ⟨?_⟩
    refine PE.ret1 (T := []) (T' := [Tok.own v (labs n es)]) rfl rV ?_ sT
    rfl
end Go.Proofs.Ythlgbeakcobeoaa
