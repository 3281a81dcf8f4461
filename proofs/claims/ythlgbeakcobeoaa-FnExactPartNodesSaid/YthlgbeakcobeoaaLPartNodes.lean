/- The law FnPartNodes: its walk. Conditions: those of the theorem. -/
import Derived.Test.YthlgbeakcobeoaaLPartsOf
namespace Go.Proofs.Ythlgbeakcobeoaa
open Go
theorem pns_len (n : Int) (es : List E) (x : Int) : (pns n es x).length ≤ n.toNat := by
  have := List.length_filter_le (fun k => decide (lab n es k = lab n es x)) (iota n.toNat)
  rw [iota_length] at this; exact this
set_option linter.unusedVariables false set_option linter.unusedSimpArgs false attribute [local irreducible] Tok.own Tok.blk RL Rd eptr WP WPL PE WPD WPO Op1 OpE Tri Again Mid Exit.then Exit.inBlock bodyPost RP Code.wp wpList isOwn OneM One
attribute [local irreducible] CN
set_option maxHeartbeats 8000000

end Go.Proofs.Ythlgbeakcobeoaa
