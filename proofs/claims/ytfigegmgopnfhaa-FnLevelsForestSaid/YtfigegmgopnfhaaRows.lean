/-
  No cell of these rows narrows 'for every input' (looked for: loops, veiled, ifaces, maps, wideKeys, modest, calm, conditions, laid).
  DERIVED. THE GIVEN ROWS OF THIS SEAT. 17 by the template 'for every input the law returns true; each argument reads behind the call as it read before'; 0 by the template 'total and deterministic' (their statements: YtfigegmgopnfhaaTotals.lean).
  GIVEN WITH THE SEED: the statements are not yours to turn. If you find one false, say at which input.
  Laid BY PROGRAM, IN A SANDBOX (cutbox-rows.mjs): the forced cells as the released guide's own fill.sh prints them over the translation 78fa67460ccbccba… (all of the seat's roots in one cut). By AI agents, Wed Nov 11 2026. No macro, syntax, notation, axiom, sorry.
-/
import Derived.Test.YtfigegmgopnfhaaChecked
import GoSem.Claim
import GoSem.ClaimJoined
import GoSem.ClaimMapViews
import Derived.JoinedTies
import Derived.KernelRfl
namespace Go.Proofs.Ytfigegmgopnfhaa
/- THE CELL 'sum', in the pinned program and in every row, IS THE sha256 OF THE DUMP (.gsa) THAT YtfigegmgopnfhaaProg.lean LOADS. Nothing in Lean hashes anything: it is a label: what it is worth is what the hold of that sum in a sandbox is worth. -/
noncomputable def Try.pinned : Pinned := { name := "ytfigegmgopnfhaa", sum := "78fa67460ccbccbae94769716f26f2e1be8833272a0db19c6a7ae3c9c54232a0", checked := Try.checked }
namespace Rows
def none {H : Type} : Left H := { results := [], args := [] }

/-- 'laws.FnAheadWork': WHATEVER THE INPUT: true; the input reads as it did. -/
def fnAheadWorkSpec : ChangeSpec := { name := "fnAheadWork", fn := fun _ => fun
  | [d] => { results := [.lit (.bool true)], args := [d] }
  | _ => none }
def fnAheadWorkRow : OpenClaim := { program := "ytfigegmgopnfhaa", sum := "78fa67460ccbccbae94769716f26f2e1be8833272a0db19c6a7ae3c9c54232a0", func := "loop.example/dynamicbridges/laws.FnAheadWork", spec := "fnAheadWork", inPlace := ["slices.overlaps[loop.example/dynamicbridges/impl.Edge]"], unfollowed := true, recurses := true, apart := false }
def FnAheadWorkSaid : Prop := fnAheadWorkRow.holds Try.pinned (OpenSpec.ofChange fnAheadWorkSpec)

/-- ITS FALSE NEIGHBOUR: 'it returns false'. Refute it at one input. -/
def fnAheadWorkWrong : ChangeSpec := { name := "fnAheadWork", fn := fun _ => fun
  | [d] => { results := [.lit (.bool false)], args := [d] }
  | _ => none }
def FnAheadWorkWrongFalsely : Prop := fnAheadWorkRow.holds Try.pinned (OpenSpec.ofChange fnAheadWorkWrong)

/-- 'laws.FnExactOpsValid': WHATEVER THE INPUT: true; the input reads as it did. -/
def fnExactOpsValidSpec : ChangeSpec := { name := "fnExactOpsValid", fn := fun _ => fun
  | [d1, d2] => { results := [.lit (.bool true)], args := [d1, d2] }
  | _ => none }
def fnExactOpsValidRow : OpenClaim := { program := "ytfigegmgopnfhaa", sum := "78fa67460ccbccbae94769716f26f2e1be8833272a0db19c6a7ae3c9c54232a0", func := "loop.example/dynamicbridges/laws.FnExactOpsValid", spec := "fnExactOpsValid", inPlace := ["slices.overlaps[loop.example/dynamicbridges/impl.Edge]"], unfollowed := true, recurses := true, apart := false }
def FnExactOpsValidSaid : Prop := fnExactOpsValidRow.holds Try.pinned (OpenSpec.ofChange fnExactOpsValidSpec)

/-- ITS FALSE NEIGHBOUR: 'it returns false'. Refute it at one input. -/
def fnExactOpsValidWrong : ChangeSpec := { name := "fnExactOpsValid", fn := fun _ => fun
  | [d1, d2] => { results := [.lit (.bool false)], args := [d1, d2] }
  | _ => none }
def FnExactOpsValidWrongFalsely : Prop := fnExactOpsValidRow.holds Try.pinned (OpenSpec.ofChange fnExactOpsValidWrong)

/-- 'laws.FnOpsValid': WHATEVER THE INPUT: true; the input reads as it did. -/
def fnOpsValidSpec : ChangeSpec := { name := "fnOpsValid", fn := fun _ => fun
  | [d] => { results := [.lit (.bool true)], args := [d] }
  | _ => none }
def fnOpsValidRow : OpenClaim := { program := "ytfigegmgopnfhaa", sum := "78fa67460ccbccbae94769716f26f2e1be8833272a0db19c6a7ae3c9c54232a0", func := "loop.example/dynamicbridges/laws.FnOpsValid", spec := "fnOpsValid", inPlace := ["slices.overlaps[loop.example/dynamicbridges/impl.Edge]"], unfollowed := true, recurses := true, apart := false }
def FnOpsValidSaid : Prop := fnOpsValidRow.holds Try.pinned (OpenSpec.ofChange fnOpsValidSpec)

/-- ITS FALSE NEIGHBOUR: 'it returns false'. Refute it at one input. -/
def fnOpsValidWrong : ChangeSpec := { name := "fnOpsValid", fn := fun _ => fun
  | [d] => { results := [.lit (.bool false)], args := [d] }
  | _ => none }
def FnOpsValidWrongFalsely : Prop := fnOpsValidRow.holds Try.pinned (OpenSpec.ofChange fnOpsValidWrong)

/-- 'laws.FnOpsAsk': WHATEVER THE INPUT: true; the input reads as it did. -/
def fnOpsAskSpec : ChangeSpec := { name := "fnOpsAsk", fn := fun _ => fun
  | [d] => { results := [.lit (.bool true)], args := [d] }
  | _ => none }
def fnOpsAskRow : OpenClaim := { program := "ytfigegmgopnfhaa", sum := "78fa67460ccbccbae94769716f26f2e1be8833272a0db19c6a7ae3c9c54232a0", func := "loop.example/dynamicbridges/laws.FnOpsAsk", spec := "fnOpsAsk", inPlace := ["slices.overlaps[loop.example/dynamicbridges/impl.Edge]"], unfollowed := true, recurses := true, apart := false }
def FnOpsAskSaid : Prop := fnOpsAskRow.holds Try.pinned (OpenSpec.ofChange fnOpsAskSpec)

/-- ITS FALSE NEIGHBOUR: 'it returns false'. Refute it at one input. -/
def fnOpsAskWrong : ChangeSpec := { name := "fnOpsAsk", fn := fun _ => fun
  | [d] => { results := [.lit (.bool false)], args := [d] }
  | _ => none }
def FnOpsAskWrongFalsely : Prop := fnOpsAskRow.holds Try.pinned (OpenSpec.ofChange fnOpsAskWrong)

/-- 'laws.FnGraphAt': WHATEVER THE INPUT: true; the input reads as it did. -/
def fnGraphAtSpec : ChangeSpec := { name := "fnGraphAt", fn := fun _ => fun
  | [d] => { results := [.lit (.bool true)], args := [d] }
  | _ => none }
def fnGraphAtRow : OpenClaim := { program := "ytfigegmgopnfhaa", sum := "78fa67460ccbccbae94769716f26f2e1be8833272a0db19c6a7ae3c9c54232a0", func := "loop.example/dynamicbridges/laws.FnGraphAt", spec := "fnGraphAt", inPlace := ["slices.overlaps[loop.example/dynamicbridges/impl.Edge]"], unfollowed := true, recurses := true, apart := false }
def FnGraphAtSaid : Prop := fnGraphAtRow.holds Try.pinned (OpenSpec.ofChange fnGraphAtSpec)

/-- ITS FALSE NEIGHBOUR: 'it returns false'. Refute it at one input. -/
def fnGraphAtWrong : ChangeSpec := { name := "fnGraphAt", fn := fun _ => fun
  | [d] => { results := [.lit (.bool false)], args := [d] }
  | _ => none }
def FnGraphAtWrongFalsely : Prop := fnGraphAtRow.holds Try.pinned (OpenSpec.ofChange fnGraphAtWrong)

/-- 'laws.FnLivesEnd': WHATEVER THE INPUT: true; the input reads as it did. -/
def fnLivesEndSpec : ChangeSpec := { name := "fnLivesEnd", fn := fun _ => fun
  | [d] => { results := [.lit (.bool true)], args := [d] }
  | _ => none }
def fnLivesEndRow : OpenClaim := { program := "ytfigegmgopnfhaa", sum := "78fa67460ccbccbae94769716f26f2e1be8833272a0db19c6a7ae3c9c54232a0", func := "loop.example/dynamicbridges/laws.FnLivesEnd", spec := "fnLivesEnd", inPlace := ["slices.overlaps[loop.example/dynamicbridges/impl.Edge]"], unfollowed := true, recurses := true, apart := false }
def FnLivesEndSaid : Prop := fnLivesEndRow.holds Try.pinned (OpenSpec.ofChange fnLivesEndSpec)

/-- ITS FALSE NEIGHBOUR: 'it returns false'. Refute it at one input. -/
def fnLivesEndWrong : ChangeSpec := { name := "fnLivesEnd", fn := fun _ => fun
  | [d] => { results := [.lit (.bool false)], args := [d] }
  | _ => none }
def FnLivesEndWrongFalsely : Prop := fnLivesEndRow.holds Try.pinned (OpenSpec.ofChange fnLivesEndWrong)

/-- 'laws.FnLivesOf': WHATEVER THE INPUT: true; the input reads as it did. -/
def fnLivesOfSpec : ChangeSpec := { name := "fnLivesOf", fn := fun _ => fun
  | [d] => { results := [.lit (.bool true)], args := [d] }
  | _ => none }
def fnLivesOfRow : OpenClaim := { program := "ytfigegmgopnfhaa", sum := "78fa67460ccbccbae94769716f26f2e1be8833272a0db19c6a7ae3c9c54232a0", func := "loop.example/dynamicbridges/laws.FnLivesOf", spec := "fnLivesOf", inPlace := ["slices.overlaps[loop.example/dynamicbridges/impl.Edge]"], unfollowed := true, recurses := true, apart := false }
def FnLivesOfSaid : Prop := fnLivesOfRow.holds Try.pinned (OpenSpec.ofChange fnLivesOfSpec)

/-- ITS FALSE NEIGHBOUR: 'it returns false'. Refute it at one input. -/
def fnLivesOfWrong : ChangeSpec := { name := "fnLivesOf", fn := fun _ => fun
  | [d] => { results := [.lit (.bool false)], args := [d] }
  | _ => none }
def FnLivesOfWrongFalsely : Prop := fnLivesOfRow.holds Try.pinned (OpenSpec.ofChange fnLivesOfWrong)

/-- 'laws.FnAnswersOf': WHATEVER THE INPUT: true; the input reads as it did. -/
def fnAnswersOfSpec : ChangeSpec := { name := "fnAnswersOf", fn := fun _ => fun
  | [d] => { results := [.lit (.bool true)], args := [d] }
  | _ => none }
def fnAnswersOfRow : OpenClaim := { program := "ytfigegmgopnfhaa", sum := "78fa67460ccbccbae94769716f26f2e1be8833272a0db19c6a7ae3c9c54232a0", func := "loop.example/dynamicbridges/laws.FnAnswersOf", spec := "fnAnswersOf", inPlace := ["slices.overlaps[loop.example/dynamicbridges/impl.Edge]"], unfollowed := true, recurses := true, apart := false }
def FnAnswersOfSaid : Prop := fnAnswersOfRow.holds Try.pinned (OpenSpec.ofChange fnAnswersOfSpec)

/-- ITS FALSE NEIGHBOUR: 'it returns false'. Refute it at one input. -/
def fnAnswersOfWrong : ChangeSpec := { name := "fnAnswersOf", fn := fun _ => fun
  | [d] => { results := [.lit (.bool false)], args := [d] }
  | _ => none }
def FnAnswersOfWrongFalsely : Prop := fnAnswersOfRow.holds Try.pinned (OpenSpec.ofChange fnAnswersOfWrong)

/-- 'laws.FnAskTwice': WHATEVER THE INPUT: true; the input reads as it did. -/
def fnAskTwiceSpec : ChangeSpec := { name := "fnAskTwice", fn := fun _ => fun
  | [d] => { results := [.lit (.bool true)], args := [d] }
  | _ => none }
def fnAskTwiceRow : OpenClaim := { program := "ytfigegmgopnfhaa", sum := "78fa67460ccbccbae94769716f26f2e1be8833272a0db19c6a7ae3c9c54232a0", func := "loop.example/dynamicbridges/laws.FnAskTwice", spec := "fnAskTwice", inPlace := ["slices.overlaps[loop.example/dynamicbridges/impl.Edge]"], unfollowed := true, recurses := true, apart := false }
def FnAskTwiceSaid : Prop := fnAskTwiceRow.holds Try.pinned (OpenSpec.ofChange fnAskTwiceSpec)

/-- ITS FALSE NEIGHBOUR: 'it returns false'. Refute it at one input. -/
def fnAskTwiceWrong : ChangeSpec := { name := "fnAskTwice", fn := fun _ => fun
  | [d] => { results := [.lit (.bool false)], args := [d] }
  | _ => none }
def FnAskTwiceWrongFalsely : Prop := fnAskTwiceRow.holds Try.pinned (OpenSpec.ofChange fnAskTwiceWrong)

/-- 'laws.FnExactAnswersOf': WHATEVER THE INPUT: true; the input reads as it did. -/
def fnExactAnswersOfSpec : ChangeSpec := { name := "fnExactAnswersOf", fn := fun _ => fun
  | [d1, d2] => { results := [.lit (.bool true)], args := [d1, d2] }
  | _ => none }
def fnExactAnswersOfRow : OpenClaim := { program := "ytfigegmgopnfhaa", sum := "78fa67460ccbccbae94769716f26f2e1be8833272a0db19c6a7ae3c9c54232a0", func := "loop.example/dynamicbridges/laws.FnExactAnswersOf", spec := "fnExactAnswersOf", inPlace := ["slices.overlaps[loop.example/dynamicbridges/impl.Edge]"], unfollowed := true, recurses := true, apart := false }
def FnExactAnswersOfSaid : Prop := fnExactAnswersOfRow.holds Try.pinned (OpenSpec.ofChange fnExactAnswersOfSpec)

/-- ITS FALSE NEIGHBOUR: 'it returns false'. Refute it at one input. -/
def fnExactAnswersOfWrong : ChangeSpec := { name := "fnExactAnswersOf", fn := fun _ => fun
  | [d1, d2] => { results := [.lit (.bool false)], args := [d1, d2] }
  | _ => none }
def FnExactAnswersOfWrongFalsely : Prop := fnExactAnswersOfRow.holds Try.pinned (OpenSpec.ofChange fnExactAnswersOfWrong)

/-- 'laws.FnExactGraphAt': WHATEVER THE INPUT: true; the input reads as it did. -/
def fnExactGraphAtSpec : ChangeSpec := { name := "fnExactGraphAt", fn := fun _ => fun
  | [d1, d2, d3] => { results := [.lit (.bool true)], args := [d1, d2, d3] }
  | _ => none }
def fnExactGraphAtRow : OpenClaim := { program := "ytfigegmgopnfhaa", sum := "78fa67460ccbccbae94769716f26f2e1be8833272a0db19c6a7ae3c9c54232a0", func := "loop.example/dynamicbridges/laws.FnExactGraphAt", spec := "fnExactGraphAt", inPlace := ["slices.overlaps[loop.example/dynamicbridges/impl.Edge]"], unfollowed := true, recurses := true, apart := false }
def FnExactGraphAtSaid : Prop := fnExactGraphAtRow.holds Try.pinned (OpenSpec.ofChange fnExactGraphAtSpec)

/-- ITS FALSE NEIGHBOUR: 'it returns false'. Refute it at one input. -/
def fnExactGraphAtWrong : ChangeSpec := { name := "fnExactGraphAt", fn := fun _ => fun
  | [d1, d2, d3] => { results := [.lit (.bool false)], args := [d1, d2, d3] }
  | _ => none }
def FnExactGraphAtWrongFalsely : Prop := fnExactGraphAtRow.holds Try.pinned (OpenSpec.ofChange fnExactGraphAtWrong)

/-- 'laws.FnExactLivesOf': WHATEVER THE INPUT: true; the input reads as it did. -/
def fnExactLivesOfSpec : ChangeSpec := { name := "fnExactLivesOf", fn := fun _ => fun
  | [d1, d2] => { results := [.lit (.bool true)], args := [d1, d2] }
  | _ => none }
def fnExactLivesOfRow : OpenClaim := { program := "ytfigegmgopnfhaa", sum := "78fa67460ccbccbae94769716f26f2e1be8833272a0db19c6a7ae3c9c54232a0", func := "loop.example/dynamicbridges/laws.FnExactLivesOf", spec := "fnExactLivesOf", inPlace := ["slices.overlaps[loop.example/dynamicbridges/impl.Edge]"], unfollowed := true, recurses := true, apart := false }
def FnExactLivesOfSaid : Prop := fnExactLivesOfRow.holds Try.pinned (OpenSpec.ofChange fnExactLivesOfSpec)

/-- ITS FALSE NEIGHBOUR: 'it returns false'. Refute it at one input. -/
def fnExactLivesOfWrong : ChangeSpec := { name := "fnExactLivesOf", fn := fun _ => fun
  | [d1, d2] => { results := [.lit (.bool false)], args := [d1, d2] }
  | _ => none }
def FnExactLivesOfWrongFalsely : Prop := fnExactLivesOfRow.holds Try.pinned (OpenSpec.ofChange fnExactLivesOfWrong)

/-- 'laws.FnExactLeveledConnected': WHATEVER THE INPUT: true; the input reads as it did. -/
def fnExactLeveledConnectedSpec : ChangeSpec := { name := "fnExactLeveledConnected", fn := fun _ => fun
  | [d1, d2, d3] => { results := [.lit (.bool true)], args := [d1, d2, d3] }
  | _ => none }
def fnExactLeveledConnectedRow : OpenClaim := { program := "ytfigegmgopnfhaa", sum := "78fa67460ccbccbae94769716f26f2e1be8833272a0db19c6a7ae3c9c54232a0", func := "loop.example/dynamicbridges/laws.FnExactLeveledConnected", spec := "fnExactLeveledConnected", unfollowed := true, recurses := true, apart := false }
def FnExactLeveledConnectedSaid : Prop := fnExactLeveledConnectedRow.holds Try.pinned (OpenSpec.ofChange fnExactLeveledConnectedSpec)

/-- ITS FALSE NEIGHBOUR: 'it returns false'. Refute it at one input. -/
def fnExactLeveledConnectedWrong : ChangeSpec := { name := "fnExactLeveledConnected", fn := fun _ => fun
  | [d1, d2, d3] => { results := [.lit (.bool false)], args := [d1, d2, d3] }
  | _ => none }
def FnExactLeveledConnectedWrongFalsely : Prop := fnExactLeveledConnectedRow.holds Try.pinned (OpenSpec.ofChange fnExactLeveledConnectedWrong)

/-- 'laws.FnLevelsTree': WHATEVER THE INPUT: true; the input reads as it did. -/
def fnLevelsTreeSpec : ChangeSpec := { name := "fnLevelsTree", fn := fun _ => fun
  | [d] => { results := [.lit (.bool true)], args := [d] }
  | _ => none }
def fnLevelsTreeRow : OpenClaim := { program := "ytfigegmgopnfhaa", sum := "78fa67460ccbccbae94769716f26f2e1be8833272a0db19c6a7ae3c9c54232a0", func := "loop.example/dynamicbridges/laws.FnLevelsTree", spec := "fnLevelsTree", unfollowed := true, recurses := true, apart := false }
def FnLevelsTreeSaid : Prop := fnLevelsTreeRow.holds Try.pinned (OpenSpec.ofChange fnLevelsTreeSpec)

/-- ITS FALSE NEIGHBOUR: 'it returns false'. Refute it at one input. -/
def fnLevelsTreeWrong : ChangeSpec := { name := "fnLevelsTree", fn := fun _ => fun
  | [d] => { results := [.lit (.bool false)], args := [d] }
  | _ => none }
def FnLevelsTreeWrongFalsely : Prop := fnLevelsTreeRow.holds Try.pinned (OpenSpec.ofChange fnLevelsTreeWrong)

/-- 'laws.FnLeveledConnected': WHATEVER THE INPUT: true; the input reads as it did. -/
def fnLeveledConnectedSpec : ChangeSpec := { name := "fnLeveledConnected", fn := fun _ => fun
  | [d] => { results := [.lit (.bool true)], args := [d] }
  | _ => none }
def fnLeveledConnectedRow : OpenClaim := { program := "ytfigegmgopnfhaa", sum := "78fa67460ccbccbae94769716f26f2e1be8833272a0db19c6a7ae3c9c54232a0", func := "loop.example/dynamicbridges/laws.FnLeveledConnected", spec := "fnLeveledConnected", unfollowed := true, recurses := true, apart := false }
def FnLeveledConnectedSaid : Prop := fnLeveledConnectedRow.holds Try.pinned (OpenSpec.ofChange fnLeveledConnectedSpec)

/-- ITS FALSE NEIGHBOUR: 'it returns false'. Refute it at one input. -/
def fnLeveledConnectedWrong : ChangeSpec := { name := "fnLeveledConnected", fn := fun _ => fun
  | [d] => { results := [.lit (.bool false)], args := [d] }
  | _ => none }
def FnLeveledConnectedWrongFalsely : Prop := fnLeveledConnectedRow.holds Try.pinned (OpenSpec.ofChange fnLeveledConnectedWrong)

/-- 'laws.FnLeveledParts': WHATEVER THE INPUT: true; the input reads as it did. -/
def fnLeveledPartsSpec : ChangeSpec := { name := "fnLeveledParts", fn := fun _ => fun
  | [d] => { results := [.lit (.bool true)], args := [d] }
  | _ => none }
def fnLeveledPartsRow : OpenClaim := { program := "ytfigegmgopnfhaa", sum := "78fa67460ccbccbae94769716f26f2e1be8833272a0db19c6a7ae3c9c54232a0", func := "loop.example/dynamicbridges/laws.FnLeveledParts", spec := "fnLeveledParts", unfollowed := true, recurses := true, apart := false }
def FnLeveledPartsSaid : Prop := fnLeveledPartsRow.holds Try.pinned (OpenSpec.ofChange fnLeveledPartsSpec)

/-- ITS FALSE NEIGHBOUR: 'it returns false'. Refute it at one input. -/
def fnLeveledPartsWrong : ChangeSpec := { name := "fnLeveledParts", fn := fun _ => fun
  | [d] => { results := [.lit (.bool false)], args := [d] }
  | _ => none }
def FnLeveledPartsWrongFalsely : Prop := fnLeveledPartsRow.holds Try.pinned (OpenSpec.ofChange fnLeveledPartsWrong)

/-- 'laws.FnLevelsForest': WHATEVER THE INPUT: true; the input reads as it did. -/
def fnLevelsForestSpec : ChangeSpec := { name := "fnLevelsForest", fn := fun _ => fun
  | [d] => { results := [.lit (.bool true)], args := [d] }
  | _ => none }
def fnLevelsForestRow : OpenClaim := { program := "ytfigegmgopnfhaa", sum := "78fa67460ccbccbae94769716f26f2e1be8833272a0db19c6a7ae3c9c54232a0", func := "loop.example/dynamicbridges/laws.FnLevelsForest", spec := "fnLevelsForest", unfollowed := true, recurses := true, apart := false }
def FnLevelsForestSaid : Prop := fnLevelsForestRow.holds Try.pinned (OpenSpec.ofChange fnLevelsForestSpec)

/-- ITS FALSE NEIGHBOUR: 'it returns false'. Refute it at one input. -/
def fnLevelsForestWrong : ChangeSpec := { name := "fnLevelsForest", fn := fun _ => fun
  | [d] => { results := [.lit (.bool false)], args := [d] }
  | _ => none }
def FnLevelsForestWrongFalsely : Prop := fnLevelsForestRow.holds Try.pinned (OpenSpec.ofChange fnLevelsForestWrong)

/- THE SECOND FORM. 'bulk': how many values and letters a reading holds, each counted each time it is reached (what is shared counts as often as it is met; a slice's spare places count too). A statement '..UptoSaid' is the law's where the arguments, and the package variables that the reading takes, are together of bulk at most 1048576: NARROWER than '..Said'. Prove '..Said' where nothing that the law and all that it calls make is longer than what came in: it says more and counts as full. Else prove '..UptoSaid'. A law counts once. -/
mutual
def uptoBulk {H : Type} : DataW H → Nat
  | .lit (.string bytes) => bytes.length + 1
  | .lit _ => 1
  | .nil => 1
  | .ptr d => uptoBulk d + 1
  | .slice elems spare => uptoBulkAll elems + uptoBulkAll spare + 1
  | .agg parts => uptoBulkAll parts + 1
  | .iface _ d => uptoBulk d + 1
  | .map entries => uptoBulkEntries entries + 1
  | .held _ => 1
def uptoBulkAll {H : Type} : List (DataW H) → Nat
  | [] => 0
  | d :: r => uptoBulk d + uptoBulkAll r
def uptoBulkEntries {H : Type} : List (Lit × DataW H) → Nat
  | [] => 0
  | x :: r => uptoBulkEntry x + uptoBulkEntries r
def uptoBulkEntry {H : Type} : Lit × DataW H → Nat
  | (.string bytes, d) => bytes.length + uptoBulk d + 1
  | (_, d) => uptoBulk d + 1
 end
def uptoSmall : (H : Type) → List (DataW H) → Bool := fun _ ds => decide (uptoBulkAll ds ≤ 1048576)
def OpenSpec.upto (s : _root_.Go.ChangeSpec) : _root_.Go.OpenSpec := { _root_.Go.OpenSpec.ofChange s with cond := some uptoSmall }

/-- 'laws.FnAheadWork', WHERE WHAT IT READS IS OF BULK AT MOST 1048576: true; the input reads as it did. -/
def fnAheadWorkUptoRow : OpenClaim := { program := "ytfigegmgopnfhaa", sum := "78fa67460ccbccbae94769716f26f2e1be8833272a0db19c6a7ae3c9c54232a0", func := "loop.example/dynamicbridges/laws.FnAheadWork", spec := "fnAheadWork", inPlace := ["slices.overlaps[loop.example/dynamicbridges/impl.Edge]"], unfollowed := true, recurses := true, apart := false, narrowed := true }
def FnAheadWorkUptoSaid : Prop := fnAheadWorkUptoRow.holds Try.pinned (OpenSpec.upto fnAheadWorkSpec)

/-- 'laws.FnExactOpsValid', WHERE WHAT IT READS IS OF BULK AT MOST 1048576: true; the input reads as it did. -/
def fnExactOpsValidUptoRow : OpenClaim := { program := "ytfigegmgopnfhaa", sum := "78fa67460ccbccbae94769716f26f2e1be8833272a0db19c6a7ae3c9c54232a0", func := "loop.example/dynamicbridges/laws.FnExactOpsValid", spec := "fnExactOpsValid", inPlace := ["slices.overlaps[loop.example/dynamicbridges/impl.Edge]"], unfollowed := true, recurses := true, apart := false, narrowed := true }
def FnExactOpsValidUptoSaid : Prop := fnExactOpsValidUptoRow.holds Try.pinned (OpenSpec.upto fnExactOpsValidSpec)

/-- 'laws.FnOpsValid', WHERE WHAT IT READS IS OF BULK AT MOST 1048576: true; the input reads as it did. -/
def fnOpsValidUptoRow : OpenClaim := { program := "ytfigegmgopnfhaa", sum := "78fa67460ccbccbae94769716f26f2e1be8833272a0db19c6a7ae3c9c54232a0", func := "loop.example/dynamicbridges/laws.FnOpsValid", spec := "fnOpsValid", inPlace := ["slices.overlaps[loop.example/dynamicbridges/impl.Edge]"], unfollowed := true, recurses := true, apart := false, narrowed := true }
def FnOpsValidUptoSaid : Prop := fnOpsValidUptoRow.holds Try.pinned (OpenSpec.upto fnOpsValidSpec)

/-- 'laws.FnOpsAsk', WHERE WHAT IT READS IS OF BULK AT MOST 1048576: true; the input reads as it did. -/
def fnOpsAskUptoRow : OpenClaim := { program := "ytfigegmgopnfhaa", sum := "78fa67460ccbccbae94769716f26f2e1be8833272a0db19c6a7ae3c9c54232a0", func := "loop.example/dynamicbridges/laws.FnOpsAsk", spec := "fnOpsAsk", inPlace := ["slices.overlaps[loop.example/dynamicbridges/impl.Edge]"], unfollowed := true, recurses := true, apart := false, narrowed := true }
def FnOpsAskUptoSaid : Prop := fnOpsAskUptoRow.holds Try.pinned (OpenSpec.upto fnOpsAskSpec)

/-- 'laws.FnGraphAt', WHERE WHAT IT READS IS OF BULK AT MOST 1048576: true; the input reads as it did. -/
def fnGraphAtUptoRow : OpenClaim := { program := "ytfigegmgopnfhaa", sum := "78fa67460ccbccbae94769716f26f2e1be8833272a0db19c6a7ae3c9c54232a0", func := "loop.example/dynamicbridges/laws.FnGraphAt", spec := "fnGraphAt", inPlace := ["slices.overlaps[loop.example/dynamicbridges/impl.Edge]"], unfollowed := true, recurses := true, apart := false, narrowed := true }
def FnGraphAtUptoSaid : Prop := fnGraphAtUptoRow.holds Try.pinned (OpenSpec.upto fnGraphAtSpec)

/-- 'laws.FnLivesEnd', WHERE WHAT IT READS IS OF BULK AT MOST 1048576: true; the input reads as it did. -/
def fnLivesEndUptoRow : OpenClaim := { program := "ytfigegmgopnfhaa", sum := "78fa67460ccbccbae94769716f26f2e1be8833272a0db19c6a7ae3c9c54232a0", func := "loop.example/dynamicbridges/laws.FnLivesEnd", spec := "fnLivesEnd", inPlace := ["slices.overlaps[loop.example/dynamicbridges/impl.Edge]"], unfollowed := true, recurses := true, apart := false, narrowed := true }
def FnLivesEndUptoSaid : Prop := fnLivesEndUptoRow.holds Try.pinned (OpenSpec.upto fnLivesEndSpec)

/-- 'laws.FnLivesOf', WHERE WHAT IT READS IS OF BULK AT MOST 1048576: true; the input reads as it did. -/
def fnLivesOfUptoRow : OpenClaim := { program := "ytfigegmgopnfhaa", sum := "78fa67460ccbccbae94769716f26f2e1be8833272a0db19c6a7ae3c9c54232a0", func := "loop.example/dynamicbridges/laws.FnLivesOf", spec := "fnLivesOf", inPlace := ["slices.overlaps[loop.example/dynamicbridges/impl.Edge]"], unfollowed := true, recurses := true, apart := false, narrowed := true }
def FnLivesOfUptoSaid : Prop := fnLivesOfUptoRow.holds Try.pinned (OpenSpec.upto fnLivesOfSpec)

/-- 'laws.FnAnswersOf', WHERE WHAT IT READS IS OF BULK AT MOST 1048576: true; the input reads as it did. -/
def fnAnswersOfUptoRow : OpenClaim := { program := "ytfigegmgopnfhaa", sum := "78fa67460ccbccbae94769716f26f2e1be8833272a0db19c6a7ae3c9c54232a0", func := "loop.example/dynamicbridges/laws.FnAnswersOf", spec := "fnAnswersOf", inPlace := ["slices.overlaps[loop.example/dynamicbridges/impl.Edge]"], unfollowed := true, recurses := true, apart := false, narrowed := true }
def FnAnswersOfUptoSaid : Prop := fnAnswersOfUptoRow.holds Try.pinned (OpenSpec.upto fnAnswersOfSpec)

/-- 'laws.FnAskTwice', WHERE WHAT IT READS IS OF BULK AT MOST 1048576: true; the input reads as it did. -/
def fnAskTwiceUptoRow : OpenClaim := { program := "ytfigegmgopnfhaa", sum := "78fa67460ccbccbae94769716f26f2e1be8833272a0db19c6a7ae3c9c54232a0", func := "loop.example/dynamicbridges/laws.FnAskTwice", spec := "fnAskTwice", inPlace := ["slices.overlaps[loop.example/dynamicbridges/impl.Edge]"], unfollowed := true, recurses := true, apart := false, narrowed := true }
def FnAskTwiceUptoSaid : Prop := fnAskTwiceUptoRow.holds Try.pinned (OpenSpec.upto fnAskTwiceSpec)

/-- 'laws.FnExactAnswersOf', WHERE WHAT IT READS IS OF BULK AT MOST 1048576: true; the input reads as it did. -/
def fnExactAnswersOfUptoRow : OpenClaim := { program := "ytfigegmgopnfhaa", sum := "78fa67460ccbccbae94769716f26f2e1be8833272a0db19c6a7ae3c9c54232a0", func := "loop.example/dynamicbridges/laws.FnExactAnswersOf", spec := "fnExactAnswersOf", inPlace := ["slices.overlaps[loop.example/dynamicbridges/impl.Edge]"], unfollowed := true, recurses := true, apart := false, narrowed := true }
def FnExactAnswersOfUptoSaid : Prop := fnExactAnswersOfUptoRow.holds Try.pinned (OpenSpec.upto fnExactAnswersOfSpec)

/-- 'laws.FnExactGraphAt', WHERE WHAT IT READS IS OF BULK AT MOST 1048576: true; the input reads as it did. -/
def fnExactGraphAtUptoRow : OpenClaim := { program := "ytfigegmgopnfhaa", sum := "78fa67460ccbccbae94769716f26f2e1be8833272a0db19c6a7ae3c9c54232a0", func := "loop.example/dynamicbridges/laws.FnExactGraphAt", spec := "fnExactGraphAt", inPlace := ["slices.overlaps[loop.example/dynamicbridges/impl.Edge]"], unfollowed := true, recurses := true, apart := false, narrowed := true }
def FnExactGraphAtUptoSaid : Prop := fnExactGraphAtUptoRow.holds Try.pinned (OpenSpec.upto fnExactGraphAtSpec)

/-- 'laws.FnExactLivesOf', WHERE WHAT IT READS IS OF BULK AT MOST 1048576: true; the input reads as it did. -/
def fnExactLivesOfUptoRow : OpenClaim := { program := "ytfigegmgopnfhaa", sum := "78fa67460ccbccbae94769716f26f2e1be8833272a0db19c6a7ae3c9c54232a0", func := "loop.example/dynamicbridges/laws.FnExactLivesOf", spec := "fnExactLivesOf", inPlace := ["slices.overlaps[loop.example/dynamicbridges/impl.Edge]"], unfollowed := true, recurses := true, apart := false, narrowed := true }
def FnExactLivesOfUptoSaid : Prop := fnExactLivesOfUptoRow.holds Try.pinned (OpenSpec.upto fnExactLivesOfSpec)

/-- 'laws.FnExactLeveledConnected', WHERE WHAT IT READS IS OF BULK AT MOST 1048576: true; the input reads as it did. -/
def fnExactLeveledConnectedUptoRow : OpenClaim := { program := "ytfigegmgopnfhaa", sum := "78fa67460ccbccbae94769716f26f2e1be8833272a0db19c6a7ae3c9c54232a0", func := "loop.example/dynamicbridges/laws.FnExactLeveledConnected", spec := "fnExactLeveledConnected", unfollowed := true, recurses := true, apart := false, narrowed := true }
def FnExactLeveledConnectedUptoSaid : Prop := fnExactLeveledConnectedUptoRow.holds Try.pinned (OpenSpec.upto fnExactLeveledConnectedSpec)

/-- 'laws.FnLevelsTree', WHERE WHAT IT READS IS OF BULK AT MOST 1048576: true; the input reads as it did. -/
def fnLevelsTreeUptoRow : OpenClaim := { program := "ytfigegmgopnfhaa", sum := "78fa67460ccbccbae94769716f26f2e1be8833272a0db19c6a7ae3c9c54232a0", func := "loop.example/dynamicbridges/laws.FnLevelsTree", spec := "fnLevelsTree", unfollowed := true, recurses := true, apart := false, narrowed := true }
def FnLevelsTreeUptoSaid : Prop := fnLevelsTreeUptoRow.holds Try.pinned (OpenSpec.upto fnLevelsTreeSpec)

/-- 'laws.FnLeveledConnected', WHERE WHAT IT READS IS OF BULK AT MOST 1048576: true; the input reads as it did. -/
def fnLeveledConnectedUptoRow : OpenClaim := { program := "ytfigegmgopnfhaa", sum := "78fa67460ccbccbae94769716f26f2e1be8833272a0db19c6a7ae3c9c54232a0", func := "loop.example/dynamicbridges/laws.FnLeveledConnected", spec := "fnLeveledConnected", unfollowed := true, recurses := true, apart := false, narrowed := true }
def FnLeveledConnectedUptoSaid : Prop := fnLeveledConnectedUptoRow.holds Try.pinned (OpenSpec.upto fnLeveledConnectedSpec)

/-- 'laws.FnLeveledParts', WHERE WHAT IT READS IS OF BULK AT MOST 1048576: true; the input reads as it did. -/
def fnLeveledPartsUptoRow : OpenClaim := { program := "ytfigegmgopnfhaa", sum := "78fa67460ccbccbae94769716f26f2e1be8833272a0db19c6a7ae3c9c54232a0", func := "loop.example/dynamicbridges/laws.FnLeveledParts", spec := "fnLeveledParts", unfollowed := true, recurses := true, apart := false, narrowed := true }
def FnLeveledPartsUptoSaid : Prop := fnLeveledPartsUptoRow.holds Try.pinned (OpenSpec.upto fnLeveledPartsSpec)

/-- 'laws.FnLevelsForest', WHERE WHAT IT READS IS OF BULK AT MOST 1048576: true; the input reads as it did. -/
def fnLevelsForestUptoRow : OpenClaim := { program := "ytfigegmgopnfhaa", sum := "78fa67460ccbccbae94769716f26f2e1be8833272a0db19c6a7ae3c9c54232a0", func := "loop.example/dynamicbridges/laws.FnLevelsForest", spec := "fnLevelsForest", unfollowed := true, recurses := true, apart := false, narrowed := true }
def FnLevelsForestUptoSaid : Prop := fnLevelsForestUptoRow.holds Try.pinned (OpenSpec.upto fnLevelsForestSpec)

end Rows
end Go.Proofs.Ytfigegmgopnfhaa
