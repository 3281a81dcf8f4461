/- Contracts of graphs in one form for both programs. Conditions: those of each contract. -/
import Derived.Test.YthlgbeakcobeoaaGraA
import Derived.Test.YthlgbeakcobeoaaDy
import Derived.Test.YthlgbeakcobeoaaDrwI
namespace Go.Proofs.Ythlgbeakcobeoaa
open Go
section
variable {P : Program} {f : FuncId} {args : List Value} {w : World} {A : Prop} [Decidable A] {α : Type} [Enc α] {xs : List α}
theorem own_nilG (w : World) : (Tok.own (.slice none 0 0) ([] : List α)).holds w := ⟨by show _ = 0 * _; rw [Nat.zero_mul]; rfl, .inl ⟨rfl, rfl⟩⟩
theorem Upd.addN {w w' : World} {T : List Tok} (h : Upd w w' T []) : Upd w w' T [Tok.own (.slice none 0 0) ([] : List α)] :=
  ⟨by show (fps _).Nodup; exact h.nodup, fun t ht => by
    simp only [List.mem_cons, List.mem_nil_iff, or_false] at ht
    rcases ht with rfl; exact own_nilG _, h.base, h.keep, h.size, h.os, h.tape, h.output⟩
theorem Tri.unif (h : Tri P f args w [] fun r T => (A ∧ T = [Tok.own r xs]) ∨ (¬ A ∧ r = .slice none 0 0 ∧ T = [])) : Tri P f args w [] fun r T => T = [Tok.own r (if A then xs else [])] :=
  fun hn hh => (h hn hh).mono fun e w' ⟨v, T', he, hv, hu⟩ => by
    rcases hv with ⟨ha, rfl⟩ | ⟨ha, rfl, rfl⟩
    · exact ⟨v, _, he, by rw [if_pos ha], hu⟩
    · exact ⟨_, _, he, by rw [if_neg ha], hu.addN (α := α)⟩
theorem Tri.unifS (h : Tri P f args w [] fun r T => (A ∧ T = [Tok.own r xs]) ∨ (¬ A ∧ T = [Tok.own r ([] : List α)])) : Tri P f args w [] fun r T => T = [Tok.own r (if A then xs else [])] :=
  fun hn hh => (h hn hh).mono fun e w' ⟨v, T', he, hv, hu⟩ => by
    rcases hv with ⟨ha, rfl⟩ | ⟨ha, rfl⟩
    · exact ⟨v, _, he, by rw [if_pos ha], hu⟩
    · exact ⟨v, _, he, by rw [if_neg ha], hu⟩
theorem Tri.unif2 (h : Tri P f args w [] fun r T => (A ∧ yesS xs r T) ∨ (¬ A ∧ noS r T)) : Tri P f args w [] fun r T => ∃ v, r = .tuple #[v, .bool (decide A)] ∧ T = [Tok.own v (if A then xs else [])] :=
  fun hn hh => (h hn hh).mono fun e w' ⟨v, T', he, hv, hu⟩ => by
    rcases hv with ⟨ha, u, rfl, rfl⟩ | ⟨ha, rfl, rfl⟩
    · exact ⟨_, _, he, ⟨u, by rw [decide_eq_true ha], by rw [if_pos ha]⟩, hu⟩
    · exact ⟨_, _, he, ⟨_, by rw [decide_eq_false ha], by rw [if_neg ha]⟩, hu.addN (α := α)⟩
theorem Tri.unif2S (h : Tri P f args w [] fun r T => (A ∧ yesS xs r T) ∨ (¬ A ∧ ∃ v, r = .tuple #[v, .bool false] ∧ T = [Tok.own v ([] : List α)])) : Tri P f args w [] fun r T => ∃ v, r = .tuple #[v, .bool (decide A)] ∧ T = [Tok.own v (if A then xs else [])] :=
  fun hn hh => (h hn hh).mono fun e w' ⟨v, T', he, hv, hu⟩ => by
    rcases hv with ⟨ha, u, rfl, rfl⟩ | ⟨ha, u, rfl, rfl⟩
    · exact ⟨_, _, he, ⟨u, by rw [decide_eq_true ha], by rw [if_pos ha]⟩, hu⟩
    · exact ⟨_, _, he, ⟨u, by rw [decide_eq_false ha], by rw [if_neg ha]⟩, hu⟩
end
theorem Tri.unifG {P : Program} {f : FuncId} {args : List Value} {w : World} {A : Prop} [Decidable A] {n : Int} {xs : List E} (h : Tri P f args w [] fun r T => (A ∧ yesG n xs r T) ∨ (¬ A ∧ noG r T)) : Tri P f args w [] fun r T => ∃ v, r = .tuple #[.agg #[.int .i64 (if A then n else 0), v], .bool (decide A)] ∧ T = [Tok.own v (if A then xs else [])] :=
  fun hn hh => (h hn hh).mono fun e w' ⟨v, T', he, hv, hu⟩ => by
    rcases hv with ⟨ha, u, rfl, rfl⟩ | ⟨ha, rfl, rfl⟩
    · exact ⟨_, _, he, ⟨u, by rw [decide_eq_true ha, if_pos ha], by rw [if_pos ha]⟩, hu⟩
    · exact ⟨_, _, he, ⟨_, by rw [decide_eq_false ha, if_neg ha]; rfl, by rw [if_neg ha]⟩, hu.addN (α := E)⟩

section
variable (w : World) (n : Int) (vE : Value) (es : List E) (x y : Int) (e : E) (hE : RL w vE es) (hl : es.length ≤ 1099511627776)
include hE hl
theorem u_ForestOf : Tri Try.prog 65 [.agg #[.int .i64 n, vE]] w [] fun r T => T = [Tok.own r (if GV n es then forestL n es else [])] := (c_ForestOf w n vE es hE hl).unif
theorem u_PartNodes : Tri Try.prog 23 [.agg #[.int .i64 n, vE], .int .i64 x] w [] fun r T => T = [Tok.own r (if GN n es x then pns n es x else [])] := (c_PartNodes w n vE es x hE hl).unif
theorem v_PartNodes : Tri Try.prog 21 [.agg #[.int .i64 n, vE], .int .i64 x] w [] fun r T => T = [Tok.own r (if GN n es x then pns n es x else [])] := (s_PartNodes w n vE es x hE hl).unifS
theorem u_BridgesBetween : Tri Try.prog 32 [.agg #[.int .i64 n, vE], .int .i64 x, .int .i64 y] w [] fun r T => ∃ v, r = .tuple #[v, .bool (decide (CN n es x y))] ∧ T = [Tok.own v (if CN n es x y then btw n es x y else [])] := (c_BridgesBetween w n vE es x y hE hl).unif2
theorem v_BridgesBetween : Tri Try.prog 31 [.agg #[.int .i64 n, vE], .int .i64 x, .int .i64 y] w [] fun r T => ∃ v, r = .tuple #[v, .bool (decide (CN n es x y))] ∧ T = [Tok.own v (if CN n es x y then btw n es x y else [])] := (s_BridgesBetween w n vE es x y hE hl).unif2S
theorem u_CutNodesBetween : Tri Try.prog 30 [.agg #[.int .i64 n, vE], .int .i64 x, .int .i64 y] w [] fun r T => ∃ v, r = .tuple #[v, .bool (decide (CN n es x y))] ∧ T = [Tok.own v (if CN n es x y then cutb n es x y else [])] := (c_CutNodesBetween w n vE es x y hE hl).unif2
theorem v_CutNodesBetween : Tri Try.prog 29 [.agg #[.int .i64 n, vE], .int .i64 x, .int .i64 y] w [] fun r T => ∃ v, r = .tuple #[v, .bool (decide (CN n es x y))] ∧ T = [Tok.own v (if CN n es x y then cutb n es x y else [])] := (s_CutNodesBetween w n vE es x y hE hl).unif2S
theorem u_CutNode : Tri Try.prog 37 [.agg #[.int .i64 n, vE], .int .i64 x] w [] fun r T => ∃ v, r = .tuple #[.agg #[.int .i64 (if GN n es x then n else 0), v], .bool (decide (GN n es x))] ∧ T = [Tok.own v (if GN n es x then alone es x else [])] := (c_CutNode w n vE es x hE hl).unifG
theorem v_CutNode : Tri Try.prog 36 [.agg #[.int .i64 n, vE], .int .i64 x] w [] fun r T => ∃ v, r = .tuple #[.agg #[.int .i64 (if GN n es x then n else 0), v], .bool (decide (GN n es x))] ∧ T = [Tok.own v (if GN n es x then alone es x else [])] := (s_CutNode w n vE es x hE hl).unifG
end
end Go.Proofs.Ythlgbeakcobeoaa
