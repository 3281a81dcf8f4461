/- The operations: what each of them does to the known slots and to the tokens. Conditions: none. -/
import Derived.Test.YthlgbeakcobeoaaSL
import Derived.Laws.CopyRow
import Derived.Laws.Append
namespace Go.Proofs.Ythlgbeakcobeoaa
open Go

/-! ### What is known of the program's types (as instances, so that no script names them) -/
def notAgg : TypeDesc → Bool
  | .struct _ | .array _ _ => false
  | _ => true

class TScal (P : Program) (t : TypeId) : Prop where
  out : ∃ d i, P.underlying t = some d ∧ notAgg d = true ∧ P.info? t = some i ∧ i.size = 1
class TAgg (P : Program) (t : TypeId) (k : outParam Nat) : Prop where
  out : ∃ fs i, P.underlying t = some (.struct fs) ∧ P.info? t = some i ∧ i.size = k
class TField (P : Program) (s : TypeId) (f : Nat) (off : outParam Nat) : Prop where
  out : ∃ fs fd i, P.underlying s = some (.struct fs) ∧ fs[f]? = some fd ∧ fd.offset = off ∧ P.info? fd.type = some i ∧ (i.size == 0) = false
class TZero (P : Program) (t : TypeId) (z : outParam (List Value)) : Prop where
  out : ∃ i v, P.info? t = some i ∧ i.zero = some v ∧ v.cells = z.toArray
class TSlice (P : Program) (t : TypeId) (α : outParam Type) [Enc α] : Prop where
  out : ∃ e i v, P.underlying t = some (.slice e) ∧ P.info? e = some i ∧ i.size = Enc.sz α ∧ Nat.ble i.bytes 64 = true ∧ i.zero = some v ∧ v.cells = (Enc.enc (Enc.d : α)).toArray
class TInt (P : Program) (t : TypeId) : Prop where
  out : ∃ k, P.underlying t = some (.int k)
class TBool (P : Program) (t : TypeId) : Prop where
  out : P.underlying t = some .bool
class TFun (P : Program) (f : FuncId) : Prop where
  out : ∃ fn, P.funcs[f]? = some fn ∧ (fn.name == "runtime.NumGoroutine") = false ∧ fn.body.isNone = false

/-- What a value of type α looks like where it is alone (in a slot, in an element). -/
class Val (α : Type) [Enc α] where
  val : α → Value
  cells : ∀ a : α, (val a).cells = (Enc.enc a).toArray
  one : ∀ a : α, ∀ u ∈ Enc.enc a, u.oneCell' = true

instance : Enc Int := ⟨1, fun n => [.int .i64 n], 0, fun _ => rfl, by decide⟩
instance : Val Int := ⟨fun n => .int .i64 n, fun _ => rfl, fun _ u h => by simp [Enc.enc] at h; subst h; rfl⟩
instance : Enc Bool := ⟨1, fun b => [.bool b], false, fun _ => rfl, by decide⟩
instance : Val Bool := ⟨fun b => .bool b, fun _ => rfl, fun _ u h => by simp [Enc.enc] at h; subst h; rfl⟩
instance : Enc UInt8 := ⟨1, fun n => [.int .u8 n.toNat], 0, fun _ => rfl, by decide⟩
instance : Val UInt8 := ⟨fun n => .int .u8 n.toNat, fun _ => rfl, fun _ u h => by simp [Enc.enc] at h; subst h; rfl⟩

theorem encs_one {α : Type} [Enc α] [Val α] (xs : List α) : ∀ u ∈ encs xs, u.oneCell' = true := by
  intro u hu
  simp only [encs, List.mem_flatMap] at hu
  obtain ⟨a, _, h⟩ := hu
  exact Val.one a u h

/-- In every world that fits the state, v reads as xs. -/
def Rd {α : Type} [Enc α] (G : Ctx) (F : List Tok) (v : Value) (xs : List α) : Prop := ∀ w, St G.W G.M F w → RL w v xs

section
variable {P : Program} {G : Ctx} {l : List (Nat × Value)} {F : List Tok} {α : Type} [Enc α]

theorem Rd.arg {v : Value} {xs : List α} (h : RL G.W v xs) (hM : ∀ b ∈ vfp v, b ∉ G.M) : Rd G F v xs := fun _ hw => hw.rd hM h
theorem Rd.arg0 {n : Nat} {W : World} {v : Value} {xs : List α} (h : RL W v xs) : Rd ⟨n, W, []⟩ F v xs := fun _ hw => hw.rd (by simp) h
theorem Rd.own {v : Value} {xs : List α} (h : Tok.own v xs ∈ F) : Rd G F v xs := fun _ hw => (hw.own h).rd
theorem Rd.nil : Rd G F (.slice none 0 0) ([] : List α) := fun _ _ => ⟨by simp [encs], .inl ⟨rfl, rfl⟩⟩

/-- Each of these values fits one cell. -/
def One (G : Ctx) (F : List Tok) (us : List Value) : Prop := ∀ w, St G.W G.M F w → ∀ u ∈ us, u.oneCell' = true
theorem One.nil : One G F [] := fun _ _ _ h => by cases h
theorem One.lit {u : Value} {us : List Value} (h : u.oneCell' = true) (k : One G F us) : One G F (u :: us) := fun w hw x hx => by
  rcases List.mem_cons.1 hx with rfl | hx
  · exact h
  · exact k w hw x hx
theorem One.rd {u : Value} {xs : List α} {us : List Value} (h : Rd G F u xs) (k : One G F us) : One G F (u :: us) := fun w hw x hx => by
  rcases List.mem_cons.1 hx with rfl | hx
  · rcases (h w hw).2 with ⟨rfl, _⟩ | ⟨b, off, cap, rfl, _⟩ <;> rfl
  · exact k w hw x hx
theorem One.arg {β : Type} {inst : Enc β} {w : World} {u : Value} {xs : List β} {us : List Value} (h : @RL β inst w u xs) (k : One G F us) : One G F (u :: us) := fun w' hw x hx => by
  rcases List.mem_cons.1 hx with rfl | hx
  · rcases h.2 with ⟨rfl, _⟩ | ⟨b, off, cap, rfl, _⟩ <;> rfl
  · exact k w' hw x hx
/-- A token that tells of u that it fits one cell. -/
def isOwn (u : Value) (t : Tok) : Prop := ∀ w, t.holds w → u.oneCell' = true
theorem isOwn.own {β : Type} {inst : Enc β} {u : Value} {xs : List β} : isOwn u (@Tok.own β inst u xs) := fun w h => by
  have h : @ownAt w (Enc.sz β) u xs.length (encs xs) := h
  rcases h.2 with ⟨rfl, _⟩ | ⟨b, cap, post, rfl, _⟩ <;> rfl
def OneM (F : List Tok) (u : Value) : Prop := ∃ t ∈ F, isOwn u t
theorem OneM.head {u : Value} {t : Tok} {F : List Tok} (h : isOwn u t) : OneM (t :: F) u := ⟨t, by simp, h⟩
theorem OneM.tail {u : Value} {t : Tok} {F : List Tok} (h : OneM F u) : OneM (t :: F) u := by
  obtain ⟨s, hs, h⟩ := h; exact ⟨s, by simp [hs], h⟩
theorem One.mem {u : Value} {us : List Value} (h : OneM F u) (k : One G F us) : One G F (u :: us) := fun w hw x hx => by
  rcases List.mem_cons.1 hx with rfl | hx
  · obtain ⟨t, ht, h⟩ := h; exact h w (hw.holds t ht)
  · exact k w hw x hx
theorem One.ite {c : Prop} [Decidable c] {a b : Value} {us : List Value} (ha : One G F (a :: us)) (hb : One G F (b :: us)) : One G F ((if c then a else b) :: us) := by
  split <;> assumption

/-! ### Pure operations -/
theorem Op1.move {x : Operand} {v : Value} (h : look l x = some v) : Op1 P G (.move x) l F v := fun o ho a w ha _ => by
  simp [execOp, ho, ha.eval h]
theorem Op1.assign {x : Operand} {v : Value} (h : look l x = some v) : Op1 P G (.assign x) l F v := fun o ho a w ha _ => by
  simp [execOp, ho, ha.eval h]
theorem Op1.pickT {c x y : Operand} {v : Value} (hc : look l c = some (.bool true)) (h : look l x = some v) : Op1 P G (.pick c x y) l F v := fun o ho a w ha _ => by
  simp [execOp, ho, ha.eval h, ha.eval hc, asBool]
theorem Op1.pickF {c x y : Operand} {v : Value} (hc : look l c = some (.bool false)) (h : look l y = some v) : Op1 P G (.pick c x y) l F v := fun o ho a w ha _ => by
  simp [execOp, ho, ha.eval h, ha.eval hc, asBool]

theorem i64_fits {n : Int} (h1 : -9223372036854775808 ≤ n) (h2 : n ≤ 9223372036854775807) : IntKind.i64.wrap n = n := IntWalk.i64_in n ⟨h1, h2⟩

theorem Op1.add {t u : TypeId} {x y : Operand} {a b : Int} (hx : look l x = some (.int .i64 a)) (hy : look l y = some (.int .i64 b))
    (h : -9223372036854775808 ≤ a + b ∧ a + b ≤ 9223372036854775807) : Op1 P G (.binOp .add t x y u) l F (.int .i64 (a + b)) := fun o ho c w hc _ => by
  simp [execOp, ho, hc.eval hx, hc.eval hy, eqGuard, binOp, Op.intArith, i64_fits h.1 h.2]
theorem Op1.sub {t u : TypeId} {x y : Operand} {a b : Int} (hx : look l x = some (.int .i64 a)) (hy : look l y = some (.int .i64 b))
    (h : -9223372036854775808 ≤ a - b ∧ a - b ≤ 9223372036854775807) : Op1 P G (.binOp .sub t x y u) l F (.int .i64 (a - b)) := fun o ho c w hc _ => by
  simp [execOp, ho, hc.eval hx, hc.eval hy, eqGuard, binOp, Op.intArith, i64_fits h.1 h.2]
theorem Op1.mul {t u : TypeId} {x y : Operand} {a b : Int} (hx : look l x = some (.int .i64 a)) (hy : look l y = some (.int .i64 b))
    (h : -9223372036854775808 ≤ a * b ∧ a * b ≤ 9223372036854775807) : Op1 P G (.binOp .mul t x y u) l F (.int .i64 (a * b)) := fun o ho c w hc _ => by
  simp [execOp, ho, hc.eval hx, hc.eval hy, eqGuard, binOp, Op.intArith, i64_fits h.1 h.2]
/-- x / y of numbers that are not negative. -/
theorem Op1.quo {t u : TypeId} {x y : Operand} {a b : Int} (hx : look l x = some (.int .i64 a)) (hy : look l y = some (.int .i64 b))
    (h : 0 ≤ a ∧ a ≤ 9223372036854775807 ∧ 1 ≤ b) : Op1 P G (.binOp .quo t x y u) l F (.int .i64 (a / b)) := fun o ho c w hc _ => by
  have hb : b ≠ 0 := by omega
  have h1 : a.tdiv b = a / b := Int.tdiv_eq_ediv_of_nonneg h.1
  have h2 : 0 ≤ a / b := Int.ediv_nonneg h.1 (by omega)
  have h3 : a / b ≤ a := Int.ediv_le_self b h.1
  simp [execOp, ho, hc.eval hx, hc.eval hy, eqGuard, binOp, Op.intDiv, hb, h1, i64_fits (n := a / b) (by omega) (by omega)]
/-- x % y of a number that is not negative. -/
theorem Op1.rem {t u : TypeId} {x y : Operand} {a b : Int} (hx : look l x = some (.int .i64 a)) (hy : look l y = some (.int .i64 b))
    (h : 0 ≤ a ∧ b ≠ 0) : Op1 P G (.binOp .rem t x y u) l F (.int .i64 (a % b)) := fun o ho c w hc _ => by
  have h1 : a.tmod b = a % b := Int.tmod_eq_emod_of_nonneg h.1
  simp [execOp, ho, hc.eval hx, hc.eval hy, eqGuard, binOp, Op.intDiv, h.2, h1]

theorem Op1.eqI {k : IntKind} {t u : TypeId} {x y : Operand} {a b : Int} (hx : look l x = some (.int k a)) (hy : look l y = some (.int k b)) : Op1 P G (.binOp .eql t x y u) l F (.bool (decide (a = b))) := fun o ho c w hc _ => by
  simp [execOp, ho, hc.eval hx, hc.eval hy, eqGuard, binOp, Op.intCmp]; rfl
theorem Op1.neI {k : IntKind} {t u : TypeId} {x y : Operand} {a b : Int} (hx : look l x = some (.int k a)) (hy : look l y = some (.int k b)) : Op1 P G (.binOp .neq t x y u) l F (.bool (decide (a ≠ b))) := fun o ho c w hc _ => by
  simp [execOp, ho, hc.eval hx, hc.eval hy, eqGuard, binOp, Op.intCmp, bne]; rfl
theorem Op1.ltI {k : IntKind} {t u : TypeId} {x y : Operand} {a b : Int} (hx : look l x = some (.int k a)) (hy : look l y = some (.int k b)) : Op1 P G (.binOp .lss t x y u) l F (.bool (decide (a < b))) := fun o ho c w hc _ => by
  simp [execOp, ho, hc.eval hx, hc.eval hy, eqGuard, binOp, Op.intCmp]
theorem Op1.leI {k : IntKind} {t u : TypeId} {x y : Operand} {a b : Int} (hx : look l x = some (.int k a)) (hy : look l y = some (.int k b)) : Op1 P G (.binOp .leq t x y u) l F (.bool (decide (a ≤ b))) := fun o ho c w hc _ => by
  simp [execOp, ho, hc.eval hx, hc.eval hy, eqGuard, binOp, Op.intCmp]
theorem Op1.gtI {k : IntKind} {t u : TypeId} {x y : Operand} {a b : Int} (hx : look l x = some (.int k a)) (hy : look l y = some (.int k b)) : Op1 P G (.binOp .gtr t x y u) l F (.bool (decide (b < a))) := fun o ho c w hc _ => by
  simp [execOp, ho, hc.eval hx, hc.eval hy, eqGuard, binOp, Op.intCmp]
theorem Op1.geI {k : IntKind} {t u : TypeId} {x y : Operand} {a b : Int} (hx : look l x = some (.int k a)) (hy : look l y = some (.int k b)) : Op1 P G (.binOp .geq t x y u) l F (.bool (decide (b ≤ a))) := fun o ho c w hc _ => by
  simp [execOp, ho, hc.eval hx, hc.eval hy, eqGuard, binOp, Op.intCmp]

theorem run_equalIn_bool {t : TypeId} (h : P.underlying t = some .bool) (a b : Bool) (d : Nat) (w : World) : (Op.equalIn (d + 1) t (.bool a) (.bool b)).run P w = .ok (a == b) w := by
  simp [Op.equalIn, run_underlying h]
theorem run_equal_bool {t : TypeId} (h : P.underlying t = some .bool) (a b : Bool) (w : World) : (Op.equal t (.bool a) (.bool b)).run P w = .ok (a == b) w :=
  run_equalIn_bool h a b 9999 w
theorem run_equalIn_nil {t e : TypeId} (h : P.underlying t = some (.slice e)) (a : Option Addr) (n c : Nat) (d : Nat) (w : World) : (Op.equalIn (d + 1) t (.slice a n c) (.slice none 0 0)).run P w = .ok a.isNone w := by
  cases a <;> simp [Op.equalIn, run_underlying h]
theorem run_equal_nil {t e : TypeId} (h : P.underlying t = some (.slice e)) (a : Option Addr) (n c : Nat) (w : World) : (Op.equal t (.slice a n c) (.slice none 0 0)).run P w = .ok a.isNone w :=
  run_equalIn_nil h a n c 9999 w
theorem Op1.eqB {t u : TypeId} [ht : TBool P t] {x y : Operand} {a b : Bool} (hx : look l x = some (.bool a)) (hy : look l y = some (.bool b)) : Op1 P G (.binOp .eql t x y u) l F (.bool (a == b)) := fun o ho c w hc _ => by
  simp [execOp, ho, hc.eval hx, hc.eval hy, eqGuard, binOp, run_equal_bool ht.out]
theorem Op1.neB {t u : TypeId} [ht : TBool P t] {x y : Operand} {a b : Bool} (hx : look l x = some (.bool a)) (hy : look l y = some (.bool b)) : Op1 P G (.binOp .neq t x y u) l F (.bool (a != b)) := fun o ho c w hc _ => by
  simp [execOp, ho, hc.eval hx, hc.eval hy, eqGuard, binOp, run_equal_bool ht.out]; cases a <;> cases b <;> rfl
theorem Op1.not {t : TypeId} {x : Operand} {b : Bool} (hx : look l x = some (.bool b)) : Op1 P G (.unOp .not t x) l F (.bool (!b)) := fun o ho c w hc _ => by
  simp [execOp, ho, hc.eval hx, Op.unary]
theorem Op1.notD {t : TypeId} {x : Operand} {p : Prop} [Decidable p] (hx : look l x = some (.bool (decide p))) : Op1 P G (.unOp .not t x) l F (.bool (decide (¬ p))) := fun o ho c w hc hw => by
  rw [Op1.not (P := P) (G := G) (F := F) hx o ho c w hc hw]; simp
theorem Op1.neg {t : TypeId} {x : Operand} {a : Int} (hx : look l x = some (.int .i64 a)) (h : -9223372036854775807 ≤ a ∧ a ≤ 9223372036854775807) : Op1 P G (.unOp .neg t x) l F (.int .i64 (-a)) := fun o ho c w hc _ => by
  have := i64_fits (n := 0 - a) (by omega) (by omega)
  simp only [Int.zero_sub] at this
  simp [execOp, ho, hc.eval hx, Op.unary, Op.intArith, this]

theorem Op1.extract {x : Operand} {vs : List Value} {i : Nat} {v : Value} (hx : look l x = some (.tuple vs.toArray)) (hi : vs[i]? = some v) : Op1 P G (.extract x i) l F v := fun o ho c w hc _ => by
  simp [execOp, ho, hc.eval hx, Instr.extract, hi]
theorem Op1.makeFunc {fn : Fn} {cap : List Operand} {vs : List Value} (h : cap.map (look l) = vs.map some) : Op1 P G (.makeFunc fn #[] cap.toArray) l F (.func fn #[] vs.toArray) := fun o ho c w hc _ => by
  have : cap.map c.eval = vs := by
    clear ho
    induction cap generalizing vs with
    | nil => cases vs <;> simp at h ⊢
    | cons x xs ih =>
      cases vs with
      | nil => simp at h
      | cons v vs =>
        simp only [List.map_cons, List.cons.injEq] at h ⊢
        exact ⟨hc.eval h.1, ih h.2⟩
  simp [execOp, ho, Instr.makeFunc, this]

theorem addr_add (b i n : Nat) : (⟨b, i, none⟩ : Addr).add n = ⟨b, i + n, none⟩ := by
  unfold Addr.add; split <;> simp_all

theorem run_sizeOf' {t : TypeId} {i : TypeInfo} (h : P.info? t = some i) (w : World) : (sizeOf t).run P w = .ok i.size w := by
  simp [sizeOf, typeInfo, h]
theorem run_isAgg_no {t : TypeId} {d : TypeDesc} (h : P.underlying t = some d) (hd : notAgg d = true) (w : World) : (isAgg t).run P w = .ok false w := by
  unfold isAgg
  rw [Sem.run_bind, run_underlying h]
  cases d <;> simp [notAgg] at hd ⊢
theorem run_isAgg_yes {t : TypeId} {fs : Array Field} (h : P.underlying t = some (.struct fs)) (w : World) : (isAgg t).run P w = .ok true w := by
  unfold isAgg
  rw [Sem.run_bind, run_underlying h]
  simp

theorem run_fieldAt {s : TypeId} {f off : Nat} [ht : TField P s f off] (b i : Nat) (w : World) : (Instr.fieldAt s (.pointer (some ⟨b, i, none⟩)) f).run P w = .ok (.pointer (some ⟨b, i + off, none⟩)) w := by
  obtain ⟨fs, fd, ii, h1, h2, h3, h4, h5⟩ := ht.out
  have h6 : ¬ ii.size = 0 := by simpa using h5
  simp [Instr.fieldAt, run_underlying h1, h2, Instr.sureAddr, fieldPlace, run_sizeOf' h4, h6, addr_add, h3]

theorem Op1.fieldAddr {s : TypeId} {f off : Nat} [TField P s f off] {x : Operand} {b i : Nat} (hx : look l x = some (.pointer (some ⟨b, i, none⟩))) :
    Op1 P G (.fieldAddr s x f) l F (.pointer (some ⟨b, i + off, none⟩)) := fun o ho c w hc _ => by
  simp [execOp, ho, hc.eval hx, run_fieldAt]

/-- The place of cell number r of element number i of a slice. -/
def eptr (v : Value) (sz i r : Nat) : Value :=
  match v with
  | .slice (some a) _ _ => .pointer (some ⟨a.block, a.off + (i * sz + r), none⟩)
  | _ => undef

theorem RL.form {w : World} {v : Value} {xs : List α} (h : RL w v xs) (hn : 0 < xs.length) : ∃ b off cap, v = .slice (some ⟨b, off, none⟩) xs.length cap ∧ xs.length ≤ cap ∧ b < w.heap.size ∧
    ∀ i, i < (encs xs).length → w.cell? ⟨b, off + i, none⟩ = (encs xs)[i]? := by
  rcases h.2 with ⟨_, h0⟩ | h
  · omega
  · exact h

theorem RL.elem {w : World} {v : Value} {xs : List α} (h : RL w v xs) {i r : Nat} (hi : i < xs.length) (hr : r < Enc.sz α) : ∃ b off cap, v = .slice (some ⟨b, off, none⟩) xs.length cap ∧
    w.cell? ⟨b, off + (i * Enc.sz α + r), none⟩ = (Enc.enc (xs.getD i Enc.d))[r]? := by
  obtain ⟨b, off, cap, hv, _, _, hc⟩ := h.form (by omega)
  refine ⟨b, off, cap, hv, ?_⟩
  rw [hc _ ?_, encs_get xs i r hi hr]
  rw [encs_length]
  have : (i + 1) * Enc.sz α ≤ xs.length * Enc.sz α := Nat.mul_le_mul_right _ hi
  rw [Nat.add_mul] at this
  omega

theorem Op1.fieldAddrE {s : TypeId} {f off : Nat} [TField P s f off] {x : Operand} {v : Value} {xs : List α} {i r : Nat} (hx : look l x = some (eptr v (Enc.sz α) i r)) (hr : Rd G F v xs) (hi : i < xs.length) :
    Op1 P G (.fieldAddr s x f) l F (eptr v (Enc.sz α) i (r + off)) := fun o ho c w hc hw => by
  obtain ⟨b, of, cap, hv, _⟩ := (hr w hw).form (by omega)
  subst hv
  simp only [eptr] at hx
  simp [execOp, ho, hc.eval hx, run_fieldAt, eptr, Nat.add_assoc]

theorem Op1.indexAddr {t : TypeId} [ht : TSlice P t α] {x ix : Operand} {v : Value} {xs : List α} {i : Nat} (hx : look l x = some v) (hi : look l ix = some (.int .i64 i)) (hr : Rd G F v xs) (hlt : i < xs.length) :
    Op1 P G (.indexAddr t x ix) l F (eptr v (Enc.sz α) i 0) := fun o ho c w hc hw => by
  obtain ⟨b, of, cap, hv, _⟩ := (hr w hw).form (by omega)
  obtain ⟨e, ii, z, h1, h2, h3, _⟩ := ht.out
  subst hv
  simp [execOp, ho, hc.eval hx, hc.eval hi, Instr.indexAt, run_underlying h1, asIntOf, hlt, run_sizeOf' h2, h3, addr_add, eptr]

theorem Op1.indexAddrZ {t : TypeId} [TSlice P t α] {x ix : Operand} {v : Value} {xs : List α} {k : Int} (hx : look l x = some v) (hi : look l ix = some (.int .i64 k)) (hr : Rd G F v xs) (hlt : 0 ≤ k ∧ k < xs.length) :
    Op1 P G (.indexAddr t x ix) l F (eptr v (Enc.sz α) k.toNat 0) :=
  Op1.indexAddr (i := k.toNat) hx (by rw [hi, Int.toNat_of_nonneg hlt.1]) hr (by omega)

theorem run_loadVar_scal {t : TypeId} [ht : TScal P t] {b i : Nat} {w : World} {u : Value} (h : w.cell? ⟨b, i, none⟩ = some u) : (loadVar t ⟨b, i, none⟩).run P w = .ok u w := by
  obtain ⟨d, ii, h1, h2, _⟩ := ht.out
  simp [loadVar, run_isAgg_no h1 h2, h]

theorem Op1.load {t : TypeId} [TScal P t] {x : Operand} {b i : Nat} {cs : List Value} {u : Value} (hx : look l x = some (.pointer (some ⟨b, i, none⟩))) (hb : Tok.blk b cs ∈ F) (hi : cs[i]? = some u) :
    Op1 P G (.load t x) l F u := fun o ho c w hc hw => by
  have := run_loadVar_scal (P := P) (t := t) (w := w) (b := b) (i := i) (u := u) (by rw [blkAt_cell (hw.blk hb), hi])
  simp [execOp, ho, hc.eval hx, Instr.loadAt, Instr.sureAddr, this]

theorem Op1.loadE {t : TypeId} [TScal P t] {x : Operand} {v : Value} {xs : List α} {i r : Nat} {u : Value} (hx : look l x = some (eptr v (Enc.sz α) i r)) (hr : Rd G F v xs) (hi : i < xs.length)
    (hu : (Enc.enc (xs.getD i Enc.d))[r]? = some u) : Op1 P G (.load t x) l F u := fun o ho c w hc hw => by
  have hrs : r < Enc.sz α := by
    have := (List.getElem?_eq_some_iff.1 hu).1
    rw [Enc.len] at this; exact this
  obtain ⟨b, of, cap, hv, hce⟩ := (hr w hw).elem hi hrs
  subst hv
  simp only [eptr] at hx
  have := run_loadVar_scal (P := P) (t := t) (w := w) (b := b) (i := of + (i * Enc.sz α + r)) (u := u) (by rw [hce, hu])
  simp [execOp, ho, hc.eval hx, Instr.loadAt, Instr.sureAddr, this]

theorem Op1.loadI {t : TypeId} [TScal P t] {x : Operand} {v : Value} {xs : List Int} {i : Nat} (hx : look l x = some (eptr v (Enc.sz Int) i 0)) (hr : Rd G F v xs) (hi : i < xs.length) :
    Op1 P G (.load t x) l F (.int .i64 (xs.getD i 0)) := Op1.loadE hx hr hi rfl

theorem run_loadVar_agg {t : TypeId} {k : Nat} [ht : TAgg P t k] {b i : Nat} {w : World} {us : List Value} (hl : us.length = k) (h : ∀ j, j < us.length → w.cell? ⟨b, i + j, none⟩ = us[j]?) :
    (loadVar t ⟨b, i, none⟩).run P w = .ok (.agg us.toArray) w := by
  obtain ⟨fs, ii, h1, h2, h3⟩ := ht.out
  have := run_loadCells_list (P := P) w ⟨b, i, none⟩ us (fun j v hj => by rw [addr_add, h j (List.getElem?_eq_some_iff.1 hj).1, hj])
  rw [hl] at this
  simp [loadVar, run_isAgg_yes h1, run_sizeOf' h2, h3, this]

theorem Op1.loadAgg {t : TypeId} {k : Nat} [TAgg P t k] {x : Operand} {b i : Nat} {cs us : List Value} (hx : look l x = some (.pointer (some ⟨b, i, none⟩))) (hb : Tok.blk b cs ∈ F) (hu : (cs.drop i).take k = us) (hl : us.length = k) :
    Op1 P G (.load t x) l F (.agg us.toArray) := fun o ho c w hc hw => by
  have := run_loadVar_agg (P := P) (t := t) (w := w) (b := b) (i := i) (us := us) hl (fun j hj => by
    rw [blkAt_cell (hw.blk hb), ← hu, List.getElem?_take]
    rw [if_pos (by omega), List.getElem?_drop])
  simp [execOp, ho, hc.eval hx, Instr.loadAt, Instr.sureAddr, this]

/-- A whole struct variable. -/
theorem Op1.loadAll {t : TypeId} {k : Nat} [TAgg P t k] {x : Operand} {b : Nat} {cs : List Value} (hx : look l x = some (.pointer (some ⟨b, 0, none⟩))) (hb : Tok.blk b cs ∈ F) (hl : cs.length = k) :
    Op1 P G (.load t x) l F (.agg cs.toArray) := Op1.loadAgg hx hb (by rw [List.drop_zero, ← hl, List.take_length]) hl

/-- A whole element of a struct type. -/
theorem Op1.loadEAgg {t : TypeId} {k : Nat} [TAgg P t k] {x : Operand} {v : Value} {xs : List α} {i : Nat} (hx : look l x = some (eptr v (Enc.sz α) i 0)) (hr : Rd G F v xs) (hi : i < xs.length) (hk : Enc.sz α = k) :
    Op1 P G (.load t x) l F (.agg (Enc.enc (xs.getD i Enc.d)).toArray) := fun o ho c w hc hw => by
  obtain ⟨b, of, cap, hv, _⟩ := (hr w hw).form (by omega)
  subst hv
  simp only [eptr] at hx
  have := run_loadVar_agg (P := P) (t := t) (w := w) (b := b) (i := of + (i * Enc.sz α + 0)) (us := Enc.enc (xs.getD i Enc.d)) (by rw [Enc.len, hk]) (fun j hj => by
    rw [Enc.len] at hj
    obtain ⟨b', of', cap', hv', hce⟩ := (hr w hw).elem hi hj
    simp only [Value.slice.injEq, Option.some.injEq, Addr.mk.injEq] at hv'
    obtain ⟨⟨rfl, rfl, _⟩, _⟩ := hv'
    rw [← hce]; simp [Nat.add_assoc])
  simp only [execOp, ho, hc.eval hx, Instr.loadAt, Instr.sureAddr, Sem.run_bind, Sem.run_pure, Result.andThen_ok, this]

theorem Op1.len {t : TypeId} [ht : TSlice P t α] {x : Operand} {v : Value} {xs : List α} (hx : look l x = some v) (hr : Rd G F v xs) :
    Op1 P G (.call { callee := .builtin .len, args := #[x], argTypes := #[t] }) l F (.int .i64 xs.length) := fun o ho c w hc hw => by
  obtain ⟨e, ii, z, h1, _⟩ := ht.out
  have : ∃ s cap, v = .slice s xs.length cap := by
    rcases (hr w hw).2 with ⟨rfl, h0⟩ | ⟨b, off, cap, rfl, _⟩
    · exact ⟨_, _, by rw [h0]⟩
    · exact ⟨_, _, rfl⟩
  obtain ⟨s, cap, rfl⟩ := this
  simp [execOp, ho, resolve, invoke, builtin, hc.eval hx, Builtin.len_, run_underlying h1, goInt]

theorem Op1.bmin {t u : TypeId} {x y : Operand} {a b : Int} (hx : look l x = some (.int .i64 a)) (hy : look l y = some (.int .i64 b)) :
    Op1 P G (.call { callee := .builtin .min, args := #[x, y], argTypes := #[t, u] }) l F (.int .i64 (min a b)) := fun o ho c w hc _ => by
  have : (if b < a then b else a) = min a b := by rw [Int.min_def]; split <;> split <;> omega
  simp [execOp, ho, resolve, invoke, builtin, hc.eval hx, hc.eval hy, Builtin.min_, Builtin.min2, this]
theorem Op1.bmax {t u : TypeId} {x y : Operand} {a b : Int} (hx : look l x = some (.int .i64 a)) (hy : look l y = some (.int .i64 b)) :
    Op1 P G (.call { callee := .builtin .max, args := #[x, y], argTypes := #[t, u] }) l F (.int .i64 (max a b)) := fun o ho c w hc _ => by
  have : (if b > a then b else a) = max a b := by rw [Int.max_def]; split <;> split <;> omega
  simp [execOp, ho, resolve, invoke, builtin, hc.eval hx, hc.eval hy, Builtin.max_, Builtin.max2, this]

theorem Op1.convInt {s d : TypeId} [hs : TInt P s] {k : IntKind} {x : Operand} {n : Int} (hx : look l x = some (.int k n)) (hd : P.underlying d = some (.int .i64)) (h : -9223372036854775808 ≤ n ∧ n ≤ 9223372036854775807) :
    Op1 P G (.convert s d x) l F (.int .i64 n) := fun o ho c w hc _ => by
  obtain ⟨k', h1⟩ := hs.out
  simp [execOp, ho, hc.eval hx, convert, run_underlying h1, run_underlying hd, Conv.intToInt, i64_fits h.1 h.2]

/-- 's == nil'. -/
theorem Op1.eqNil {t u : TypeId} [ht : TSlice P t α] {x : Operand} {v : Value} {xs : List α} (hx : look l x = some v) (hr : Rd G F v xs) :
    Op1 P G (.binOp .eql t x (.const (.slice none 0 0)) u) l F (.bool (vfp v == [])) := fun o ho c w hc hw => by
  obtain ⟨e, ii, z, h1, _⟩ := ht.out
  have hn : c.eval (.const (.slice none 0 0)) = .slice none 0 0 := rfl
  rcases (hr w hw).2 with ⟨rfl, _⟩ | ⟨b, off, cap, rfl, _⟩
  · simp [execOp, ho, hc.eval hx, hn, eqGuard, binOp, run_equal_nil h1, vfp]
  · simp [execOp, ho, hc.eval hx, hn, eqGuard, binOp, run_equal_nil h1, vfp]
end
end Go.Proofs.Ythlgbeakcobeoaa
