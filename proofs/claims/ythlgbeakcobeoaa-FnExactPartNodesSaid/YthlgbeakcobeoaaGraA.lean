/- Graphs: the walks of GraphSame, bridgesOnly and LostBy. Conditions: those of each contract. -/
import Derived.Test.YthlgbeakcobeoaaSpG3
namespace Go.Proofs.Ythlgbeakcobeoaa
open Go
set_option linter.unusedVariables false set_option linter.unusedSimpArgs false attribute [local irreducible] Tok.own Tok.blk RL Rd eptr WP WPL PE WPD WPO Op1 OpE Tri Again Mid Exit.then Exit.inBlock bodyPost RP Code.wp wpList isOwn OneM One
attribute [local irreducible] Pred
set_option maxHeartbeats 8000000

end Go.Proofs.Ythlgbeakcobeoaa
