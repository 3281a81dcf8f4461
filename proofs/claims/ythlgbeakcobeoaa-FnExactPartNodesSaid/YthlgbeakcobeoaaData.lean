/- The program's structs as Lean structures; checks by evaluation for the instances on types and functions. Conditions: none. -/
import Derived.Test.YthlgbeakcobeoaaFun
namespace Go.Proofs.Ythlgbeakcobeoaa
open Go

structure E where
  A : Int
  B : Int
  deriving DecidableEq
structure Stp where
  C : Int
  R : Int
  deriving DecidableEq
structure Oper1 where
  K : Int
  A : Int
  B : Int
  deriving DecidableEq
structure Lif where
  A : Int
  B : Int
  F : Int
  T : Int
  deriving DecidableEq

instance : Enc E := ⟨2, fun e => [.int .i64 e.A, .int .i64 e.B], ⟨0, 0⟩, fun _ => rfl, by decide⟩
instance : Val E := ⟨fun e => .agg #[.int .i64 e.A, .int .i64 e.B], fun _ => rfl, fun _ u h => by simp [Enc.enc] at h; rcases h with rfl | rfl <;> rfl⟩
instance : Enc Stp := ⟨2, fun e => [.int .i64 e.C, .int .i64 e.R], ⟨0, 0⟩, fun _ => rfl, by decide⟩
instance : Val Stp := ⟨fun e => .agg #[.int .i64 e.C, .int .i64 e.R], fun _ => rfl, fun _ u h => by simp [Enc.enc] at h; rcases h with rfl | rfl <;> rfl⟩
instance : Enc Oper1 := ⟨3, fun e => [.int .i64 e.K, .int .i64 e.A, .int .i64 e.B], ⟨0, 0, 0⟩, fun _ => rfl, by decide⟩
instance : Val Oper1 := ⟨fun e => .agg #[.int .i64 e.K, .int .i64 e.A, .int .i64 e.B], fun _ => rfl, fun _ u h => by simp [Enc.enc] at h; rcases h with rfl | rfl | rfl <;> rfl⟩
instance : Enc Lif := ⟨4, fun e => [.int .i64 e.A, .int .i64 e.B, .int .i64 e.F, .int .i64 e.T], ⟨0, 0, 0, 0⟩, fun _ => rfl, by decide⟩
instance : Val Lif := ⟨fun e => .agg #[.int .i64 e.A, .int .i64 e.B, .int .i64 e.F, .int .i64 e.T], fun _ => rfl, fun _ u h => by simp [Enc.enc] at h; rcases h with rfl | rfl | rfl | rfl <;> rfl⟩

theorem Rd.at {α : Type} [Enc α] {G : Ctx} {F : List Tok} {v : Value} {xs : List α} {w : World} (h : Rd G F v xs) (hw : St G.W G.M F w) : RL w v xs := h w hw

theorem RL.nil_of {α : Type} [Enc α] {w : World} {v : Value} {xs : List α} (h : RL w v xs) (hv : vfp v = []) : xs = [] := by
  rcases h.2 with ⟨_, h0⟩ | ⟨b, off, cap, rfl, _⟩
  · exact List.eq_nil_of_length_eq_zero h0
  · simp [vfp] at hv

theorem prm1 {α : Type} {a t : α} {R : List α} : (a :: t :: R).Perm (t :: a :: R) := List.Perm.swap _ _ _
theorem prm2 {α : Type} {a b t : α} {R : List α} : (a :: b :: t :: R).Perm (t :: a :: b :: R) := List.perm_middle (l₁ := [a, b])
theorem prm3 {α : Type} {a b c t : α} {R : List α} : (a :: b :: c :: t :: R).Perm (t :: a :: b :: c :: R) := List.perm_middle (l₁ := [a, b, c])
theorem prm4 {α : Type} {a b c d t : α} {R : List α} : (a :: b :: c :: d :: t :: R).Perm (t :: a :: b :: c :: d :: R) := List.perm_middle (l₁ := [a, b, c, d])
theorem prm5 {α : Type} {a b c d e t : α} {R : List α} : (a :: b :: c :: d :: e :: t :: R).Perm (t :: a :: b :: c :: d :: e :: R) := List.perm_middle (l₁ := [a, b, c, d, e])
theorem prm6 {α : Type} {a b c d e f t : α} {R : List α} : (a :: b :: c :: d :: e :: f :: t :: R).Perm (t :: a :: b :: c :: d :: e :: f :: R) := List.perm_middle (l₁ := [a, b, c, d, e, f])
theorem prm7 {α : Type} {a b c d e f g t : α} {R : List α} : (a :: b :: c :: d :: e :: f :: g :: t :: R).Perm (t :: a :: b :: c :: d :: e :: f :: g :: R) := List.perm_middle (l₁ := [a, b, c, d, e, f, g])
theorem prm8 {α : Type} {a b c d e f g h t : α} {R : List α} : (a :: b :: c :: d :: e :: f :: g :: h :: t :: R).Perm (t :: a :: b :: c :: d :: e :: f :: g :: h :: R) := List.perm_middle (l₁ := [a, b, c, d, e, f, g, h])
theorem prm9 {α : Type} {x0 x1 x2 x3 x4 x5 x6 x7 x8 t : α} {R : List α} : (x0 :: x1 :: x2 :: x3 :: x4 :: x5 :: x6 :: x7 :: x8 :: t :: R).Perm (t :: x0 :: x1 :: x2 :: x3 :: x4 :: x5 :: x6 :: x7 :: x8 :: R) := List.perm_middle (l₁ := [x0, x1, x2, x3, x4, x5, x6, x7, x8])
theorem prm10 {α : Type} {x0 x1 x2 x3 x4 x5 x6 x7 x8 x9 t : α} {R : List α} : (x0 :: x1 :: x2 :: x3 :: x4 :: x5 :: x6 :: x7 :: x8 :: x9 :: t :: R).Perm (t :: x0 :: x1 :: x2 :: x3 :: x4 :: x5 :: x6 :: x7 :: x8 :: x9 :: R) := List.perm_middle (l₁ := [x0, x1, x2, x3, x4, x5, x6, x7, x8, x9])
theorem prm11 {α : Type} {x0 x1 x2 x3 x4 x5 x6 x7 x8 x9 x10 t : α} {R : List α} : (x0 :: x1 :: x2 :: x3 :: x4 :: x5 :: x6 :: x7 :: x8 :: x9 :: x10 :: t :: R).Perm (t :: x0 :: x1 :: x2 :: x3 :: x4 :: x5 :: x6 :: x7 :: x8 :: x9 :: x10 :: R) := List.perm_middle (l₁ := [x0, x1, x2, x3, x4, x5, x6, x7, x8, x9, x10])
theorem prm12 {α : Type} {x0 x1 x2 x3 x4 x5 x6 x7 x8 x9 x10 x11 t : α} {R : List α} : (x0 :: x1 :: x2 :: x3 :: x4 :: x5 :: x6 :: x7 :: x8 :: x9 :: x10 :: x11 :: t :: R).Perm (t :: x0 :: x1 :: x2 :: x3 :: x4 :: x5 :: x6 :: x7 :: x8 :: x9 :: x10 :: x11 :: R) := List.perm_middle (l₁ := [x0, x1, x2, x3, x4, x5, x6, x7, x8, x9, x10, x11])
theorem prm13 {α : Type} {x0 x1 x2 x3 x4 x5 x6 x7 x8 x9 x10 x11 x12 t : α} {R : List α} : (x0 :: x1 :: x2 :: x3 :: x4 :: x5 :: x6 :: x7 :: x8 :: x9 :: x10 :: x11 :: x12 :: t :: R).Perm (t :: x0 :: x1 :: x2 :: x3 :: x4 :: x5 :: x6 :: x7 :: x8 :: x9 :: x10 :: x11 :: x12 :: R) := List.perm_middle (l₁ := [x0, x1, x2, x3, x4, x5, x6, x7, x8, x9, x10, x11, x12])
theorem prm14 {α : Type} {x0 x1 x2 x3 x4 x5 x6 x7 x8 x9 x10 x11 x12 x13 t : α} {R : List α} : (x0 :: x1 :: x2 :: x3 :: x4 :: x5 :: x6 :: x7 :: x8 :: x9 :: x10 :: x11 :: x12 :: x13 :: t :: R).Perm (t :: x0 :: x1 :: x2 :: x3 :: x4 :: x5 :: x6 :: x7 :: x8 :: x9 :: x10 :: x11 :: x12 :: x13 :: R) := List.perm_middle (l₁ := [x0, x1, x2, x3, x4, x5, x6, x7, x8, x9, x10, x11, x12, x13])
theorem prm15 {α : Type} {x0 x1 x2 x3 x4 x5 x6 x7 x8 x9 x10 x11 x12 x13 x14 t : α} {R : List α} : (x0 :: x1 :: x2 :: x3 :: x4 :: x5 :: x6 :: x7 :: x8 :: x9 :: x10 :: x11 :: x12 :: x13 :: x14 :: t :: R).Perm (t :: x0 :: x1 :: x2 :: x3 :: x4 :: x5 :: x6 :: x7 :: x8 :: x9 :: x10 :: x11 :: x12 :: x13 :: x14 :: R) := List.perm_middle (l₁ := [x0, x1, x2, x3, x4, x5, x6, x7, x8, x9, x10, x11, x12, x13, x14])
theorem prd1 {α : Type} {x0 s t : α} {R : List α} : (x0 :: s :: t :: R).Perm ([s, t] ++ (x0 :: R)) := (List.perm_middle (l₁ := [x0])).trans (List.Perm.cons _ (List.perm_middle (l₁ := [x0])))
theorem prd2 {α : Type} {x0 x1 s t : α} {R : List α} : (x0 :: x1 :: s :: t :: R).Perm ([s, t] ++ (x0 :: x1 :: R)) := (List.perm_middle (l₁ := [x0, x1])).trans (List.Perm.cons _ (List.perm_middle (l₁ := [x0, x1])))
theorem prd3 {α : Type} {x0 x1 x2 s t : α} {R : List α} : (x0 :: x1 :: x2 :: s :: t :: R).Perm ([s, t] ++ (x0 :: x1 :: x2 :: R)) := (List.perm_middle (l₁ := [x0, x1, x2])).trans (List.Perm.cons _ (List.perm_middle (l₁ := [x0, x1, x2])))
theorem prd4 {α : Type} {x0 x1 x2 x3 s t : α} {R : List α} : (x0 :: x1 :: x2 :: x3 :: s :: t :: R).Perm ([s, t] ++ (x0 :: x1 :: x2 :: x3 :: R)) := (List.perm_middle (l₁ := [x0, x1, x2, x3])).trans (List.Perm.cons _ (List.perm_middle (l₁ := [x0, x1, x2, x3])))
theorem prd5 {α : Type} {x0 x1 x2 x3 x4 s t : α} {R : List α} : (x0 :: x1 :: x2 :: x3 :: x4 :: s :: t :: R).Perm ([s, t] ++ (x0 :: x1 :: x2 :: x3 :: x4 :: R)) := (List.perm_middle (l₁ := [x0, x1, x2, x3, x4])).trans (List.Perm.cons _ (List.perm_middle (l₁ := [x0, x1, x2, x3, x4])))
theorem prd6 {α : Type} {x0 x1 x2 x3 x4 x5 s t : α} {R : List α} : (x0 :: x1 :: x2 :: x3 :: x4 :: x5 :: s :: t :: R).Perm ([s, t] ++ (x0 :: x1 :: x2 :: x3 :: x4 :: x5 :: R)) := (List.perm_middle (l₁ := [x0, x1, x2, x3, x4, x5])).trans (List.Perm.cons _ (List.perm_middle (l₁ := [x0, x1, x2, x3, x4, x5])))
theorem prd7 {α : Type} {x0 x1 x2 x3 x4 x5 x6 s t : α} {R : List α} : (x0 :: x1 :: x2 :: x3 :: x4 :: x5 :: x6 :: s :: t :: R).Perm ([s, t] ++ (x0 :: x1 :: x2 :: x3 :: x4 :: x5 :: x6 :: R)) := (List.perm_middle (l₁ := [x0, x1, x2, x3, x4, x5, x6])).trans (List.Perm.cons _ (List.perm_middle (l₁ := [x0, x1, x2, x3, x4, x5, x6])))
theorem prd8 {α : Type} {x0 x1 x2 x3 x4 x5 x6 x7 s t : α} {R : List α} : (x0 :: x1 :: x2 :: x3 :: x4 :: x5 :: x6 :: x7 :: s :: t :: R).Perm ([s, t] ++ (x0 :: x1 :: x2 :: x3 :: x4 :: x5 :: x6 :: x7 :: R)) := (List.perm_middle (l₁ := [x0, x1, x2, x3, x4, x5, x6, x7])).trans (List.Perm.cons _ (List.perm_middle (l₁ := [x0, x1, x2, x3, x4, x5, x6, x7])))
theorem prd9 {α : Type} {x0 x1 x2 x3 x4 x5 x6 x7 x8 s t : α} {R : List α} : (x0 :: x1 :: x2 :: x3 :: x4 :: x5 :: x6 :: x7 :: x8 :: s :: t :: R).Perm ([s, t] ++ (x0 :: x1 :: x2 :: x3 :: x4 :: x5 :: x6 :: x7 :: x8 :: R)) := (List.perm_middle (l₁ := [x0, x1, x2, x3, x4, x5, x6, x7, x8])).trans (List.Perm.cons _ (List.perm_middle (l₁ := [x0, x1, x2, x3, x4, x5, x6, x7, x8])))
theorem prd10 {α : Type} {x0 x1 x2 x3 x4 x5 x6 x7 x8 x9 s t : α} {R : List α} : (x0 :: x1 :: x2 :: x3 :: x4 :: x5 :: x6 :: x7 :: x8 :: x9 :: s :: t :: R).Perm ([s, t] ++ (x0 :: x1 :: x2 :: x3 :: x4 :: x5 :: x6 :: x7 :: x8 :: x9 :: R)) := (List.perm_middle (l₁ := [x0, x1, x2, x3, x4, x5, x6, x7, x8, x9])).trans (List.Perm.cons _ (List.perm_middle (l₁ := [x0, x1, x2, x3, x4, x5, x6, x7, x8, x9])))
theorem prd11 {α : Type} {x0 x1 x2 x3 x4 x5 x6 x7 x8 x9 x10 s t : α} {R : List α} : (x0 :: x1 :: x2 :: x3 :: x4 :: x5 :: x6 :: x7 :: x8 :: x9 :: x10 :: s :: t :: R).Perm ([s, t] ++ (x0 :: x1 :: x2 :: x3 :: x4 :: x5 :: x6 :: x7 :: x8 :: x9 :: x10 :: R)) := (List.perm_middle (l₁ := [x0, x1, x2, x3, x4, x5, x6, x7, x8, x9, x10])).trans (List.Perm.cons _ (List.perm_middle (l₁ := [x0, x1, x2, x3, x4, x5, x6, x7, x8, x9, x10])))

/-! ### Which operation stands next (the walk asks for it first) -/
section
variable {P : Program} {G : Ctx} {l : List (Nat × Value)} {F : List Tok} {Q : Exit → Act → World → Prop} {ops : Array Oper} {dst : Option Nat} {ty : TypeId} {pos : String} {after : Array Edge} {g : Option (Nat × Bool)} {rest : List Oper}
theorem isGuard {op : Op} {j : Nat} {want : Bool} (h : WPL P G ops (⟨dst, op, ty, pos, after, some (j, want)⟩ :: rest) l F Q) : WPL P G ops (⟨dst, op, ty, pos, after, some (j, want)⟩ :: rest) l F Q := h
theorem isCond {c : Operand} {x y : Code} (h : WP P G (.cond c x y) l F Q) : WP P G (.cond c x y) l F Q := h
theorem isBuild {t : TypeId} {ps : Array (Nat × Operand)} (h : WPL P G ops (⟨dst, .build t ps, ty, pos, after, g⟩ :: rest) l F Q) : WPL P G ops (⟨dst, .build t ps, ty, pos, after, g⟩ :: rest) l F Q := h
theorem isStore {t : TypeId} {x y : Operand} (h : WPL P G ops (⟨dst, .store t x y, ty, pos, after, g⟩ :: rest) l F Q) : WPL P G ops (⟨dst, .store t x y, ty, pos, after, g⟩ :: rest) l F Q := h
theorem isMove {x : Operand} (h : WPL P G ops (⟨dst, .move x, ty, pos, after, g⟩ :: rest) l F Q) : WPL P G ops (⟨dst, .move x, ty, pos, after, g⟩ :: rest) l F Q := h
theorem isAssign {x : Operand} (h : WPL P G ops (⟨dst, .assign x, ty, pos, after, g⟩ :: rest) l F Q) : WPL P G ops (⟨dst, .assign x, ty, pos, after, g⟩ :: rest) l F Q := h
theorem isPick {x y z : Operand} (h : WPL P G ops (⟨dst, .pick x y z, ty, pos, after, g⟩ :: rest) l F Q) : WPL P G ops (⟨dst, .pick x y z, ty, pos, after, g⟩ :: rest) l F Q := h
theorem isLoad {t : TypeId} {x : Operand} (h : WPL P G ops (⟨dst, .load t x, ty, pos, after, g⟩ :: rest) l F Q) : WPL P G ops (⟨dst, .load t x, ty, pos, after, g⟩ :: rest) l F Q := h
theorem isFld {t : TypeId} {x : Operand} {f : Nat} (h : WPL P G ops (⟨dst, .fieldAddr t x f, ty, pos, after, g⟩ :: rest) l F Q) : WPL P G ops (⟨dst, .fieldAddr t x f, ty, pos, after, g⟩ :: rest) l F Q := h
theorem isIdx {t : TypeId} {x y : Operand} (h : WPL P G ops (⟨dst, .indexAddr t x y, ty, pos, after, g⟩ :: rest) l F Q) : WPL P G ops (⟨dst, .indexAddr t x y, ty, pos, after, g⟩ :: rest) l F Q := h
theorem isExt {x : Operand} {f : Nat} (h : WPL P G ops (⟨dst, .extract x f, ty, pos, after, g⟩ :: rest) l F Q) : WPL P G ops (⟨dst, .extract x f, ty, pos, after, g⟩ :: rest) l F Q := h
theorem isBin {o : BinOp} {t u : TypeId} {x y : Operand} (h : WPL P G ops (⟨dst, .binOp o t x y u, ty, pos, after, g⟩ :: rest) l F Q) : WPL P G ops (⟨dst, .binOp o t x y u, ty, pos, after, g⟩ :: rest) l F Q := h
theorem isUn {o : UnOp} {t : TypeId} {x : Operand} (h : WPL P G ops (⟨dst, .unOp o t x, ty, pos, after, g⟩ :: rest) l F Q) : WPL P G ops (⟨dst, .unOp o t x, ty, pos, after, g⟩ :: rest) l F Q := h
theorem isBlt {b : Builtin} {xs : Array Operand} {ts : Array TypeId} (h : WPL P G ops (⟨dst, .call { callee := .builtin b, args := xs, argTypes := ts }, ty, pos, after, g⟩ :: rest) l F Q) : WPL P G ops (⟨dst, .call { callee := .builtin b, args := xs, argTypes := ts }, ty, pos, after, g⟩ :: rest) l F Q := h
theorem isConv {t u : TypeId} {x : Operand} (h : WPL P G ops (⟨dst, .convert t u x, ty, pos, after, g⟩ :: rest) l F Q) : WPL P G ops (⟨dst, .convert t u x, ty, pos, after, g⟩ :: rest) l F Q := h
end

/-! ### Checks that the kernel evaluates -/
def kindB : IntKind → IntKind → Bool
  | .i8, .i8 | .i16, .i16 | .i32, .i32 | .i64, .i64 | .u8, .u8 | .u16, .u16 | .u32, .u32 | .u64, .u64 => true
  | _, _ => false
theorem kindB_eq {a b : IntKind} (h : kindB a b = true) : a = b := by cases a <;> cases b <;> simp [kindB] at h ⊢
def valB : Value → Value → Bool
  | .int k (.ofNat n), .int k' (.ofNat m) => kindB k k' && Nat.beq n m
  | .bool a, .bool b => a == b
  | .slice none a b, .slice none c d => Nat.beq a c && Nat.beq b d
  | .pointer none, .pointer none => true
  | .nilFunc, .nilFunc => true
  | _, _ => false
theorem valB_eq {a b : Value} (h : valB a b = true) : a = b := by
  unfold valB at h
  split at h
  · simp only [Bool.and_eq_true] at h; rw [kindB_eq h.1, Nat.eq_of_beq_eq_true h.2]
  · simp at h; rw [h]
  · simp only [Bool.and_eq_true] at h; rw [Nat.eq_of_beq_eq_true h.1, Nat.eq_of_beq_eq_true h.2]
  · rfl
  · rfl
  · simp at h
def valsB : List Value → List Value → Bool
  | [], [] => true
  | a :: as, b :: bs => valB a b && valsB as bs
  | _, _ => false
theorem valsB_eq : ∀ {a b : List Value}, valsB a b = true → a = b
  | [], [], _ => rfl
  | a :: as, b :: bs, h => by
    simp only [valsB, Bool.and_eq_true] at h
    rw [valB_eq h.1, valsB_eq h.2]
  | [], _ :: _, h => by simp [valsB] at h
  | _ :: _, [], h => by simp [valsB] at h

variable {P : Program}
def scalB (P : Program) (t : TypeId) : Bool :=
  match P.underlying t, P.info? t with
  | some d, some i => notAgg d && Nat.beq i.size 1
  | _, _ => false
theorem TScal.of {t : TypeId} (h : scalB P t = true) : TScal P t := by
  unfold scalB at h
  split at h
  · rename_i d i h1 h2
    simp only [Bool.and_eq_true] at h
    exact ⟨d, i, h1, h.1, h2, Nat.eq_of_beq_eq_true h.2⟩
  · simp at h
def aggB (P : Program) (t : TypeId) (k : Nat) : Bool :=
  match P.underlying t, P.info? t with
  | some (.struct _), some i => Nat.beq i.size k
  | _, _ => false
theorem TAgg.of {t : TypeId} {k : Nat} (h : aggB P t k = true) : TAgg P t k := by
  unfold aggB at h
  split at h
  · rename_i fs i h1 h2
    exact ⟨fs, i, h1, h2, Nat.eq_of_beq_eq_true h⟩
  · simp at h
def fieldB (P : Program) (s : TypeId) (f off : Nat) : Bool :=
  match P.underlying s with
  | some (.struct fs) => match fs[f]? with
    | some fd => match P.info? fd.type with
      | some i => Nat.beq fd.offset off && !(i.size == 0)
      | none => false
    | none => false
  | _ => false
theorem TField.of {s : TypeId} {f off : Nat} (h : fieldB P s f off = true) : TField P s f off := by
  unfold fieldB at h
  split at h
  · rename_i fs h1
    split at h
    · rename_i fd h2
      split at h
      · rename_i i h3
        simp only [Bool.and_eq_true, Bool.not_eq_true'] at h
        exact ⟨fs, fd, i, h1, h2, Nat.eq_of_beq_eq_true h.1, h3, h.2⟩
      · simp at h
    · simp at h
  · simp at h
def zeroB (P : Program) (t : TypeId) (z : List Value) : Bool :=
  match P.info? t with
  | some i => match i.zero with
    | some v => valsB v.cells.toList z
    | none => false
  | none => false
theorem TZero.of {t : TypeId} {z : List Value} (h : zeroB P t z = true) : TZero P t z := by
  unfold zeroB at h
  split at h
  · rename_i i h1
    split at h
    · rename_i v h2
      exact ⟨i, v, h1, h2, by rw [← valsB_eq h]⟩
    · simp at h
  · simp at h
def sliceB (P : Program) (t : TypeId) (sz : Nat) (z : List Value) : Bool :=
  match P.underlying t with
  | some (.slice e) => match P.info? e with
    | some i => Nat.beq i.size sz && (Nat.ble i.bytes 64 && match i.zero with
      | some v => valsB v.cells.toList z
      | none => false)
    | none => false
  | _ => false
theorem TSlice.of {t : TypeId} {α : Type} [Enc α] (h : sliceB P t (Enc.sz α) (Enc.enc (Enc.d : α)) = true) : TSlice P t α := by
  unfold sliceB at h
  split at h
  · rename_i e h1
    split at h
    · rename_i i h2
      simp only [Bool.and_eq_true] at h
      obtain ⟨h3, h4, h5⟩ := h
      split at h5
      · rename_i v h6
        exact ⟨e, i, v, h1, h2, Nat.eq_of_beq_eq_true h3, h4, h6, by rw [← valsB_eq h5]⟩
      · simp at h5
    · simp at h
  · simp at h
def placesB (P : Program) : List Field → List (Nat × Nat) → Bool
  | [], [] => true
  | f :: fs, (o, s) :: ps => Nat.beq f.offset o && (match P.info? f.type with | some i => Nat.beq i.size s | none => false) && placesB P fs ps
  | _, _ => false
theorem placesB_run : ∀ (fs : List Field) (ps : List (Nat × Nat)), placesB P fs ps = true → ∀ w, (fs.mapM fun f => do pure (f.offset, ← sizeOf f.type) : Sem (List (Nat × Nat))).run P w = .ok ps w
  | [], [], _, w => by simp
  | f :: fs, (o, s) :: ps, h, w => by
    simp only [placesB, Bool.and_eq_true] at h
    obtain ⟨⟨h1, h2⟩, h3⟩ := h
    split at h2
    · rename_i i hi
      have := placesB_run fs ps h3 w
      simp only [List.mapM_cons, Sem.run_bind, run_sizeOf' hi, Result.andThen_ok, Sem.run_pure, this, Nat.eq_of_beq_eq_true h1, Nat.eq_of_beq_eq_true h2]
    · simp at h2
  | [], _ :: _, h, _ => by simp [placesB] at h
  | _ :: _, [], h, _ => by simp [placesB] at h
def structB (P : Program) (t : TypeId) (ps : List (Nat × Nat)) : Bool :=
  match P.underlying t with
  | some (.struct fs) => placesB P fs.toList ps
  | _ => false
theorem TStruct.of {t : TypeId} {ps : List (Nat × Nat)} (h : structB P t ps = true) : TStruct P t ps := by
  unfold structB at h
  split at h
  · rename_i fs h1
    refine ⟨fs, h1, fun w => ?_⟩
    have := placesB_run fs.toList ps h w
    obtain ⟨fl⟩ := fs
    rw [List.mapM_toArray, Sem.run_map, this]
    rfl
  · simp at h
def intB (P : Program) (t : TypeId) : Bool :=
  match P.underlying t with
  | some (.int _) => true
  | _ => false
theorem TInt.of {t : TypeId} (h : intB P t = true) : TInt P t := by
  unfold intB at h
  split at h
  · rename_i k h1; exact ⟨k, h1⟩
  · simp at h
def boolB (P : Program) (t : TypeId) : Bool :=
  match P.underlying t with
  | some .bool => true
  | _ => false
theorem TBool.of {t : TypeId} (h : boolB P t = true) : TBool P t := by
  unfold boolB at h
  split at h
  · rename_i h1; exact ⟨h1⟩
  · simp at h
def funB (P : Program) (f : FuncId) : Bool :=
  match P.funcs[f]? with
  | some fn => !(fn.name == "runtime.NumGoroutine") && !fn.body.isNone
  | none => false
theorem TFun.of {f : FuncId} (h : funB P f = true) : TFun P f := by
  unfold funB at h
  split at h
  · rename_i fn h1
    simp only [Bool.and_eq_true, Bool.not_eq_true'] at h
    exact ⟨fn, h1, h.1, h.2⟩
  · simp at h

end Go.Proofs.Ythlgbeakcobeoaa
