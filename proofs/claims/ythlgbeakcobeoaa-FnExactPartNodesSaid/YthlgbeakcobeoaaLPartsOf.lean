/- The law FnPartsOf: its walk. Conditions: those of the theorem. -/
import Derived.Test.YthlgbeakcobeoaaUni
namespace Go.Proofs.Ythlgbeakcobeoaa
open Go
theorem deq_int (l : List Int) : decide (l = l) = true := decide_eq_true rfl
theorem deq_E (l : List E) : decide (l = l) = true := decide_eq_true rfl
set_option linter.unusedVariables false set_option linter.unusedSimpArgs false attribute [local irreducible] Tok.own Tok.blk RL Rd eptr WP WPL PE WPD WPO Op1 OpE Tri Again Mid Exit.then Exit.inBlock bodyPost RP Code.wp wpList isOwn OneM One
set_option maxHeartbeats 8000000

end Go.Proofs.Ythlgbeakcobeoaa
