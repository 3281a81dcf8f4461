/- Graphs: the walk of PutEdge. Conditions: those of each contract. -/
import Derived.Test.YthlgbeakcobeoaaGra4
namespace Go.Proofs.Ythlgbeakcobeoaa
open Go
set_option linter.unusedVariables false set_option linter.unusedSimpArgs false attribute [local irreducible] Tok.own Tok.blk RL Rd eptr WP WPL PE WPD WPO Op1 OpE Tri Again Mid Exit.then Exit.inBlock bodyPost RP Code.wp wpList isOwn OneM One
set_option maxHeartbeats 8000000

def nilG : Value := .agg #[.int .i64 0, .slice none 0 0]
/-- A graph in new memory, and true. -/
def yesG (n : Int) (es : List E) (r : Value) (T : List Tok) : Prop := ∃ v, r = .tuple #[.agg #[.int .i64 n, v], .bool true] ∧ T = [Tok.own v es]
def noG (r : Value) (T : List Tok) : Prop := r = .tuple #[nilG, .bool false] ∧ T = []

end Go.Proofs.Ythlgbeakcobeoaa
