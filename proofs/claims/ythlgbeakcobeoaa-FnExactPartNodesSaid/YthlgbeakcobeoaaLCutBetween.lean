/- The law FnCutBetween: its walk. Conditions: those of the theorem. -/
import Derived.Test.YthlgbeakcobeoaaLPartsOf
namespace Go.Proofs.Ythlgbeakcobeoaa
open Go
theorem CN_symm {n : Int} {es : List E} {x y : Int} (h : CN n es x y) : CN n es y x := ⟨h.1, h.2.2.1, h.2.1, h.2.2.2.symm⟩
theorem cutb_len (n : Int) (es : List E) (x y : Int) : (cutb n es x y).length ≤ n.toNat := by
  have := List.length_filter_le (fun k => decide (k ≠ x ∧ k ≠ y ∧ ¬ cn n (alone es k) x y)) (iota n.toNat)
  rw [iota_length] at this; exact this
theorem beq_not (d : Bool) : (d == !d) = false := by cases d <;> rfl
theorem cutb_dec {n : Int} {es : List E} {x y : Int} (hc : CN n es x y) {k : Int} (hk : Nd n k) (h1 : k ≠ x) (h2 : k ≠ y) : decide (CN n (alone es k) x y) = !decide (k ∈ cutb n es x y) := by
  have e1 : CN n (alone es k) x y ↔ cn n (alone es k) x y := ⟨fun h => h.2.2.2, fun h => ⟨hc.1.filter _, hc.2.1, hc.2.2.1, h⟩⟩
  have e2 : k ∈ cutb n es x y ↔ ¬ cn n (alone es k) x y := by
    unfold cutb
    rw [List.mem_filter, decide_eq_true_eq, mem_iota]
    exact ⟨fun h => h.2.2.2, fun h => ⟨⟨hk.1, by have := hk.2; omega⟩, h1, h2, h⟩⟩
  by_cases hb : cn n (alone es k) x y
  · rw [decide_eq_true (e1.2 hb), decide_eq_false fun h => e2.1 h hb]; rfl
  · rw [decide_eq_false fun h => hb (e1.1 h), decide_eq_true (e2.2 hb)]; rfl
set_option linter.unusedVariables false set_option linter.unusedSimpArgs false attribute [local irreducible] Tok.own Tok.blk RL Rd eptr WP WPL PE WPD WPO Op1 OpE Tri Again Mid Exit.then Exit.inBlock bodyPost RP Code.wp wpList isOwn OneM One
attribute [local irreducible] CN
set_option maxHeartbeats 8000000

end Go.Proofs.Ythlgbeakcobeoaa
