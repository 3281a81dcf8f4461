/- The law FnExactSafeTogether: its walk. Conditions: those of the theorem. -/
import Derived.Test.YthlgbeakcobeoaaHlpH
import Derived.Test.YthlgbeakcobeoaaUni
namespace Go.Proofs.Ythlgbeakcobeoaa
open Go
theorem gself (n : Int) (l : List E) : decide (n = n ∧ l = l) = true := decide_eq_true ⟨rfl, rfl⟩
theorem bself (d : Bool) : (d != d) = false := by cases d <;> rfl
set_option linter.unusedVariables false set_option linter.unusedSimpArgs false attribute [local irreducible] Tok.own Tok.blk RL Rd eptr WP WPL PE WPD WPO Op1 OpE Tri Again Mid Exit.then Exit.inBlock bodyPost RP Code.wp wpList isOwn OneM One
attribute [local irreducible] CN STg
set_option maxHeartbeats 8000000

end Go.Proofs.Ythlgbeakcobeoaa
