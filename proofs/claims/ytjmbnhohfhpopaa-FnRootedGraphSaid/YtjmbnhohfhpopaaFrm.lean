/- The three functions that return rooted trees: what they compute, and that both programs do. Conditions: those of each contract. -/
import Derived.Test.YtjmbnhohfhpopaaSpc3
import Derived.Test.YtjmbnhohfhpopaaHlp1
namespace Go.Proofs.Ytjmbnhohfhpopaa
open Go

theorem own_nil_holds (w : World) : (Tok.own (.slice none 0 0) ([] : List Int)).holds w := ⟨rfl, .inl ⟨rfl, rfl⟩⟩
theorem Upd.addNil {w w' : World} {T : List Tok} (h : Upd w w' T []) : Upd w w' T [Tok.own (.slice none 0 0) ([] : List Int), Tok.own (.slice none 0 0) ([] : List Int)] :=
  ⟨by show (fps _).Nodup; exact h.nodup, fun t ht => by
    simp only [List.mem_cons, List.mem_nil_iff, or_false] at ht
    rcases ht with rfl | rfl <;> exact own_nil_holds _, h.base, h.keep, h.size, h.os, h.tape, h.output⟩

theorem WPL.tok {P : Program} {G : Ctx} {l : List (Nat × Value)} {F : List Tok} {Q : Exit → Act → World → Prop} {ops : Array Oper} {rest : List Oper} {F' : List Tok} (hF : SubT F' F) (h : WPL P G ops rest l F' Q) : WPL P G ops rest l F Q :=
  fun a w ha hw => h a w ha (hw.sub hF)
theorem WP.tok {P : Program} {G : Ctx} {l : List (Nat × Value)} {F : List Tok} {Q : Exit → Act → World → Prop} {c : Code} {F' : List Tok} (hF : SubT F' F) (h : WP P G c l F' Q) : WP P G c l F Q :=
  fun a w ha hw => h a w ha (hw.sub hF)

/-- The two lists of rooted trees. -/
abbrev RT := List Int × List Int
def resR (f : Option RT) (r : Value) (T : List Tok) : Prop := ∃ uP uW, r = .tuple #[.agg #[uP, uW], .bool f.isSome] ∧ T = [Tok.own uP (f.getD ([], [])).1, Tok.own uW (f.getD ([], [])).2]

theorem Tri.resR {P : Program} {f : FuncId} {args : List Value} {w : World} {A : Prop} [Decidable A] {qs vs : List Int}
    (h : Tri P f args w [] fun r T => (A ∧ yesR qs vs r T) ∨ (¬ A ∧ noR r T)) : Tri P f args w [] (resR (if A then some (qs, vs) else none)) :=
  fun hn hh => (h hn hh).mono fun e w' ⟨v, T', he, hv, hu⟩ => by
    rcases hv with ⟨ha, uP, uW, rfl, rfl⟩ | ⟨ha, rfl, rfl⟩
    · refine ⟨_, _, he, ?_, hu⟩
      rw [if_pos ha]; exact ⟨uP, uW, rfl, rfl⟩
    · refine ⟨_, _, he, ?_, hu.addNil⟩
      rw [if_neg ha]; exact ⟨_, _, rfl, rfl⟩

instance (ps ws : List Int) (x : Int) : Decidable (cutOk ps ws x) := by unfold cutOk; infer_instance
instance (ps ws : List Int) (x y q : Int) : Decidable (linkOk ps ws x y q) := by unfold linkOk; infer_instance
def cutF (ps ws : List Int) (x : Int) : Option RT := if cutOk ps ws x then some (ps.set x.toNat (-1), ws.set x.toNat 0) else none
def linkF (ps ws : List Int) (x y q : Int) : Option RT := if linkOk ps ws x y q then some (ps.set x.toNat y, ws.set x.toNat q) else none
def turnF (ps ws : List Int) (x : Int) : Option RT := if NV ps ws x then some (turnP ps (up ps ps.length x) ((up ps ps.length x).length - 1), turnW ws (up ps ps.length x) ((up ps ps.length x).length - 1)) else none

/-- The new lists are no longer than the old. -/
def smallR (ps ws : List Int) (f : Option RT) : Prop := (f.getD ([], [])).1.length ≤ ps.length ∧ (f.getD ([], [])).2.length ≤ ws.length
theorem cutF_small (ps ws : List Int) (x : Int) : smallR ps ws (cutF ps ws x) := by
  unfold smallR cutF; split <;> simp
theorem linkF_small (ps ws : List Int) (x y q : Int) : smallR ps ws (linkF ps ws x y q) := by
  unfold smallR linkF; split <;> simp
theorem turnF_small (ps ws : List Int) (x : Int) : smallR ps ws (turnF ps ws x) := by
  unfold smallR turnF; split <;> simp [turnP_length, turnW_length]

section
variable (w : World) (vP vW : Value) (ps ws : List Int) (x y q : Int) (hP : RL w vP ps) (hW : RL w vW ws) (hlp : ps.length ≤ 1099511627776) (hlw : ws.length ≤ 1099511627776)
include hP hW hlp hlw
theorem cf_CutParent : Tri Try.prog 20 [.agg #[vP, vW], .int .i64 x] w [] (resR (cutF ps ws x)) := (c_CutParent w vP vW ps ws x hP hW hlp hlw).resR
theorem sf_CutParent : Tri Try.prog 21 [.agg #[vP, vW], .int .i64 x] w [] (resR (cutF ps ws x)) := (s_CutParent w vP vW ps ws x hP hW hlp hlw).resR
theorem cf_LinkRoot : Tri Try.prog 34 [.agg #[vP, vW], .int .i64 x, .int .i64 y, .int .i64 q] w [] (resR (linkF ps ws x y q)) := (c_LinkRoot w vP vW ps ws x y q hP hW hlp hlw).resR
theorem sf_LinkRoot : Tri Try.prog 33 [.agg #[vP, vW], .int .i64 x, .int .i64 y, .int .i64 q] w [] (resR (linkF ps ws x y q)) := (s_LinkRoot w vP vW ps ws x y q hP hW hlp hlw).resR
theorem cf_TurnRoot : Tri Try.prog 29 [.agg #[vP, vW], .int .i64 x] w [] (resR (turnF ps ws x)) := (c_TurnRoot w vP vW ps ws x hP hW hlp hlw).resR
theorem sf_TurnRoot : Tri Try.prog 27 [.agg #[vP, vW], .int .i64 x] w [] (resR (turnF ps ws x)) := (s_TurnRoot w vP vW ps ws x hP hW hlp hlw).resR
end
end Go.Proofs.Ytjmbnhohfhpopaa
