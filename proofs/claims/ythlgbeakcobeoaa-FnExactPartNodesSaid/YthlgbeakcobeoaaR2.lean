/- More rules: drawn regions, equality of structs, halves. Conditions: none. -/
import Derived.Test.YthlgbeakcobeoaaTacA
import Derived.Laws.StructEq
namespace Go.Proofs.Ythlgbeakcobeoaa
open Go

section
variable {P : Program} {G : Ctx} {l : List (Nat × Value)} {F : List Tok} {Q : Exit → Act → World → Prop}

theorem WPD.splitD {Fs : List Tok} {ops : Array Oper} {fuel : Nat} {listed : Array Bool} (d : Nat) {p : Prop} [Decidable p] (hb : lk l d = some (.bool (decide p)))
    (ht : p → WPD P G Fs ops fuel listed ((d, .bool true) :: l) F Q) (hf : ¬p → WPD P G Fs ops fuel listed ((d, .bool false) :: l) F Q) :
    WPD P G Fs ops fuel listed l F Q := WPD.split d hb (fun h => ht (of_decide_eq_true h)) (fun h => hf (of_decide_eq_false h))

theorem WPD.skip0 {Fs : List Tok} {ops : Array Oper} {fuel : Nat} {listed : Array Bool} (i : Nat) {op : Op} {ty : TypeId} {pos : String} {after : Array Edge} {g : Option (Nat × Bool)}
    (hr : Region.ready .any ops listed = [i]) (hi : ops[i]? = some ⟨none, op, ty, pos, after, g⟩) (hg : asked ops l g = some false) (hsub : SubT Fs F)
    (k : WPD P G Fs ops fuel (listed.setIfInBounds i true) l F Q) : WPD P G Fs ops (fuel + 1) listed l F Q :=
  WPD.ready [i] hr (by simp) fun j hj => by
    simp only [List.mem_singleton] at hj; subst hj
    intro a w ha hw
    unfold wpOp
    simp only [hi]
    have hwt := asked_wanted (o := ⟨none, op, ty, pos, after, g⟩) ha hg
    rw [if_neg (by simp [hwt])]
    exact ⟨hw.sub hsub, k a w ha hw⟩

/-! ### Several tokens, in any places -/
theorem perm2 {s t : Tok} {F F1 F2 : List Tok} (h1 : F.Perm (s :: F1)) (h2 : F1.Perm (t :: F2)) : F.Perm ([s, t] ++ F2) := h1.trans (h2.cons s)
theorem perm3 {s t u : Tok} {F F1 F2 F3 : List Tok} (h1 : F.Perm (s :: F1)) (h2 : F1.Perm (t :: F2)) (h3 : F2.Perm (u :: F3)) : F.Perm ([s, t, u] ++ F3) := h1.trans ((perm2 h2 h3).cons s)
theorem perm4 {s t u v : Tok} {F F1 F2 F3 F4 : List Tok} (h1 : F.Perm (s :: F1)) (h2 : F1.Perm (t :: F2)) (h3 : F2.Perm (u :: F3)) (h4 : F3.Perm (v :: F4)) : F.Perm ([s, t, u, v] ++ F4) := h1.trans ((perm3 h2 h3 h4).cons s)
theorem pM2 {p : Prop} (h : p := by first | exact pM | exact perm2 pM pM | exact perm3 pM pM pM | exact perm4 pM pM pM pM) : p := h

/-! ### '==' of two structs of two ints -/
def eq2B (P : Program) (t : TypeId) : Bool :=
  (match P.underlying t with
   | some (.struct fs) => match fs.toList with
     | [f0, f1] => f0.name != "_" && f1.name != "_" && Nat.beq f0.offset 0 && Nat.beq f1.offset 1 && intB P f0.type && intB P f1.type
     | _ => false
   | _ => false) && !P.stoodInHeld t && !P.eqGuardType P.depth t
class TEq2 (P : Program) (t : TypeId) : Prop where
  out : eq2B P t = true

theorem run_part_int {t : TypeId} {k : IntKind} (ht : P.underlying t = some (.int k)) {cs : Array Value} {o : Nat} {v : Value} (hv : cs[o]? = some v) (w : World) : (part t cs o).run P w = .ok v w := by
  simp [part, isAgg, run_underlying ht, hv]

theorem run_eq2 {t : TypeId} (h : eq2B P t = true) (d : Nat) (a b c e : Int) (w : World) :
    (Op.equalIn (d + 2) t (.agg #[.int .i64 a, .int .i64 b]) (.agg #[.int .i64 c, .int .i64 e])).run P w = .ok (decide (a = c ∧ b = e)) w := by
  unfold eq2B at h
  simp only [Bool.and_eq_true] at h
  obtain ⟨⟨h1, h2⟩, h3⟩ := h
  have hp : P.stoodInHeld t = false := by simpa using h2
  cases hu : P.underlying t with
  | none => rw [hu] at h1; simp at h1
  | some dd =>
    rw [hu] at h1
    cases dd with
    | struct fs =>
      simp only at h1
      cases hf : fs.toList with
      | nil => rw [hf] at h1; simp at h1
      | cons f0 r =>
        cases r with
        | nil => rw [hf] at h1; simp at h1
        | cons f1 r =>
          cases r with
          | cons => rw [hf] at h1; simp at h1
          | nil =>
            rw [hf] at h1
            simp only [Bool.and_eq_true] at h1
            obtain ⟨⟨⟨⟨⟨n0, n1⟩, o0⟩, o1⟩, i0⟩, i1⟩ := h1
            obtain ⟨k0, i0⟩ := (TInt.of i0).out
            obtain ⟨k1, i1⟩ := (TInt.of i1).out
            have o0 := Nat.eq_of_beq_eq_true o0
            have o1 := Nat.eq_of_beq_eq_true o1
            have hS : P.underlying t = some (.struct (P.fieldsOf t)) := by rw [hu]; simp [Program.fieldsOf, hu]
            have hfl : (P.fieldsOf t).toList = [f0, f1] := by simp [Program.fieldsOf, hu, hf]
            rw [show d + 2 = (d + 1) + 1 from rfl, run_equalIn_struct w (d + 1) t _ _ hS hp, hfl]
            have n0' : f0.name ≠ "_" := by simpa using n0
            have n1' : f1.name ≠ "_" := by simpa using n1
            have p0 : ∀ (x y : Value) w, (part f0.type #[x, y] f0.offset).run P w = .ok x w := fun x y w => run_part_int i0 (by rw [o0]; rfl) w
            have p1 : ∀ (x y : Value) w, (part f1.type #[x, y] f1.offset).run P w = .ok y w := fun x y w => run_part_int i1 (by rw [o1]; rfl) w
            simp only [Op.eqFields, if_pos n0', if_pos n1', Sem.run_bind, p0, p1, Result.andThen_ok, run_equalIn_int w d f0.type .i64 k0 _ _ i0, run_equalIn_int w d f1.type .i64 k1 _ _ i1]
            by_cases e1 : a = c <;> by_cases e2 : b = e <;> simp [e1, e2, p1, run_equalIn_int w d f1.type .i64 k1 _ _ i1]
    | _ => simp at h1

theorem E.eq_iff {a b c d : Int} : ((⟨a, b⟩ : E) = ⟨c, d⟩) ↔ a = c ∧ b = d := by simp
theorem Op1.eqE {t u : TypeId} [ht : TEq2 P t] {x y : Operand} {a b c d : Int} (hx : look l x = some (.agg #[.int .i64 a, .int .i64 b])) (hy : look l y = some (.agg #[.int .i64 c, .int .i64 d])) :
    Op1 P G (.binOp .eql t x y u) l F (.bool (decide ((⟨a, b⟩ : E) = ⟨c, d⟩))) := fun o ho z w hc _ => by
  have h := ht.out
  have hg : P.eqGuardType P.depth t = false := by unfold eq2B at h; simp only [Bool.and_eq_true] at h; simpa using h.2
  have e : decide ((⟨a, b⟩ : E) = ⟨c, d⟩) = decide (a = c ∧ b = d) := by rw [decide_eq_decide, E.eq_iff]
  simp only [execOp, ho, hc.eval hx, hc.eval hy, Sem.run_bind, run_eqGuard_agg w .eql t x y _ _ hg, Result.andThen_ok, run_eql_struct]
  rw [show (10000 : Nat) = 9998 + 2 from rfl, run_eq2 h 9998, e]
  rfl
theorem Op1.neE {t u : TypeId} [ht : TEq2 P t] {x y : Operand} {a b c d : Int} (hx : look l x = some (.agg #[.int .i64 a, .int .i64 b])) (hy : look l y = some (.agg #[.int .i64 c, .int .i64 d])) :
    Op1 P G (.binOp .neq t x y u) l F (.bool (decide ((⟨a, b⟩ : E) ≠ ⟨c, d⟩))) := fun o ho z w hc _ => by
  have h := ht.out
  have hg : P.eqGuardType P.depth t = false := by unfold eq2B at h; simp only [Bool.and_eq_true] at h; simpa using h.2
  have e : decide ((⟨a, b⟩ : E) ≠ ⟨c, d⟩) = !decide (a = c ∧ b = d) := by
    rw [← decide_not, decide_eq_decide, ne_eq, E.eq_iff]
  simp only [execOp, ho, hc.eval hx, hc.eval hy, Sem.run_bind, run_eqGuard_agg w .neq t x y _ _ hg, Result.andThen_ok, run_neq_struct]
  rw [show (10000 : Nat) = 9998 + 2 from rfl, run_eq2 h 9998, e]
  rfl

/-! ### Halves, as the library's searches take them -/
theorem Op1.convU {s d : TypeId} [hs : TInt P s] {x : Operand} {n : Int} (hx : look l x = some (.int .i64 n)) (hd : P.underlying d = some (.int .u64)) (h : 0 ≤ n ∧ n ≤ 9223372036854775807) :
    Op1 P G (.convert s d x) l F (.int .u64 n) := fun o ho c w hc _ => by
  obtain ⟨k', h1⟩ := hs.out
  have e : IntKind.u64.wrap n = n := by
    simp only [IntKind.wrap, IntKind.bits, IntKind.signed]
    try simp
    omega
  simp [execOp, ho, hc.eval hx, convert, run_underlying h1, run_underlying hd, Conv.intToInt, e]
theorem Op1.shr1 {t u : TypeId} {x : Operand} {n : Int} (hx : look l x = some (.int .u64 n)) (h : 0 ≤ n ∧ n ≤ 9223372036854775807) :
    Op1 P G (.binOp .shr t x (.const (.int .u64 1)) u) l F (.int .u64 (n / 2)) := fun o ho c w hc _ => by
  have hn : c.eval (.const (.int .u64 1)) = .int .u64 1 := rfl
  have e : Op.shift .shr .u64 n .u64 1 = pure (.int .u64 (n / 2)) := by
    rw [shift_shr_any _ _ _ _ (by omega)]
    simp [IntKind.bits]
  simp [execOp, ho, hc.eval hx, hn, eqGuard_shr, binOp_shr, e]
end
end Go.Proofs.Ythlgbeakcobeoaa
