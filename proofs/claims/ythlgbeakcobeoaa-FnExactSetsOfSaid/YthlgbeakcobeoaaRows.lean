/-
  No cell of these rows narrows 'for every input' (looked for: loops, veiled, ifaces, maps, wideKeys, modest, calm, conditions, laid).
  DERIVED. THE GIVEN ROWS OF THIS SEAT. 17 by the template 'for every input the law returns true; each argument reads behind the call as it read before'; 0 by the template 'total and deterministic' (their statements: YthlgbeakcobeoaaTotals.lean).
  GIVEN WITH THE SEED: the statements are not yours to turn. If you find one false, say at which input.
  Laid BY PROGRAM, IN A SANDBOX (cutbox-rows.mjs): the forced cells as the released guide's own fill.sh prints them over the translation 65f7c09899e194a7… (all of the seat's roots in one cut). By AI agents, Wed Nov 11 2026. No macro, syntax, notation, axiom, sorry.
-/
import Derived.Test.YthlgbeakcobeoaaChecked
import GoSem.Claim
import GoSem.ClaimJoined
import GoSem.ClaimMapViews
import Derived.JoinedTies
import Derived.KernelRfl
namespace Go.Proofs.Ythlgbeakcobeoaa
/- THE CELL 'sum', in the pinned program and in every row, IS THE sha256 OF THE DUMP (.gsa) THAT YthlgbeakcobeoaaProg.lean LOADS. Nothing in Lean hashes anything: it is a label: what it is worth is what the hold of that sum in a sandbox is worth. -/
noncomputable def Try.pinned : Pinned := { name := "ythlgbeakcobeoaa", sum := "65f7c09899e194a7ef6957adf38b8c30629ae89b06f1cf106e3fefed387b0ca7", checked := Try.checked }
namespace Rows
def none {H : Type} : Left H := { results := [], args := [] }

/-- 'laws.FnExactPartNodes': WHATEVER THE INPUT: true; the input reads as it did. -/
def fnExactPartNodesSpec : ChangeSpec := { name := "fnExactPartNodes", fn := fun _ => fun
  | [d1, d2] => { results := [.lit (.bool true)], args := [d1, d2] }
  | _ => none }
def fnExactPartNodesRow : OpenClaim := { program := "ythlgbeakcobeoaa", sum := "65f7c09899e194a7ef6957adf38b8c30629ae89b06f1cf106e3fefed387b0ca7", func := "loop.example/dynamicbridges/laws.FnExactPartNodes", spec := "fnExactPartNodes", apart := false }
def FnExactPartNodesSaid : Prop := fnExactPartNodesRow.holds Try.pinned (OpenSpec.ofChange fnExactPartNodesSpec)

/-- ITS FALSE NEIGHBOUR: 'it returns false'. Refute it at one input. -/
def fnExactPartNodesWrong : ChangeSpec := { name := "fnExactPartNodes", fn := fun _ => fun
  | [d1, d2] => { results := [.lit (.bool false)], args := [d1, d2] }
  | _ => none }
def FnExactPartNodesWrongFalsely : Prop := fnExactPartNodesRow.holds Try.pinned (OpenSpec.ofChange fnExactPartNodesWrong)

/-- 'laws.FnExactCutNodesBetween': WHATEVER THE INPUT: true; the input reads as it did. -/
def fnExactCutNodesBetweenSpec : ChangeSpec := { name := "fnExactCutNodesBetween", fn := fun _ => fun
  | [d1, d2, d3] => { results := [.lit (.bool true)], args := [d1, d2, d3] }
  | _ => none }
def fnExactCutNodesBetweenRow : OpenClaim := { program := "ythlgbeakcobeoaa", sum := "65f7c09899e194a7ef6957adf38b8c30629ae89b06f1cf106e3fefed387b0ca7", func := "loop.example/dynamicbridges/laws.FnExactCutNodesBetween", spec := "fnExactCutNodesBetween", unfollowed := true, recurses := true, apart := false }
def FnExactCutNodesBetweenSaid : Prop := fnExactCutNodesBetweenRow.holds Try.pinned (OpenSpec.ofChange fnExactCutNodesBetweenSpec)

/-- ITS FALSE NEIGHBOUR: 'it returns false'. Refute it at one input. -/
def fnExactCutNodesBetweenWrong : ChangeSpec := { name := "fnExactCutNodesBetween", fn := fun _ => fun
  | [d1, d2, d3] => { results := [.lit (.bool false)], args := [d1, d2, d3] }
  | _ => none }
def FnExactCutNodesBetweenWrongFalsely : Prop := fnExactCutNodesBetweenRow.holds Try.pinned (OpenSpec.ofChange fnExactCutNodesBetweenWrong)

/-- 'laws.FnExactBridgesBetween': WHATEVER THE INPUT: true; the input reads as it did. -/
def fnExactBridgesBetweenSpec : ChangeSpec := { name := "fnExactBridgesBetween", fn := fun _ => fun
  | [d1, d2, d3] => { results := [.lit (.bool true)], args := [d1, d2, d3] }
  | _ => none }
def fnExactBridgesBetweenRow : OpenClaim := { program := "ythlgbeakcobeoaa", sum := "65f7c09899e194a7ef6957adf38b8c30629ae89b06f1cf106e3fefed387b0ca7", func := "loop.example/dynamicbridges/laws.FnExactBridgesBetween", spec := "fnExactBridgesBetween", unfollowed := true, recurses := true, apart := false }
def FnExactBridgesBetweenSaid : Prop := fnExactBridgesBetweenRow.holds Try.pinned (OpenSpec.ofChange fnExactBridgesBetweenSpec)

/-- ITS FALSE NEIGHBOUR: 'it returns false'. Refute it at one input. -/
def fnExactBridgesBetweenWrong : ChangeSpec := { name := "fnExactBridgesBetween", fn := fun _ => fun
  | [d1, d2, d3] => { results := [.lit (.bool false)], args := [d1, d2, d3] }
  | _ => none }
def FnExactBridgesBetweenWrongFalsely : Prop := fnExactBridgesBetweenRow.holds Try.pinned (OpenSpec.ofChange fnExactBridgesBetweenWrong)

/-- 'laws.FnExactCutNode': WHATEVER THE INPUT: true; the input reads as it did. -/
def fnExactCutNodeSpec : ChangeSpec := { name := "fnExactCutNode", fn := fun _ => fun
  | [d1, d2] => { results := [.lit (.bool true)], args := [d1, d2] }
  | _ => none }
def fnExactCutNodeRow : OpenClaim := { program := "ythlgbeakcobeoaa", sum := "65f7c09899e194a7ef6957adf38b8c30629ae89b06f1cf106e3fefed387b0ca7", func := "loop.example/dynamicbridges/laws.FnExactCutNode", spec := "fnExactCutNode", unfollowed := true, recurses := true, apart := false }
def FnExactCutNodeSaid : Prop := fnExactCutNodeRow.holds Try.pinned (OpenSpec.ofChange fnExactCutNodeSpec)

/-- ITS FALSE NEIGHBOUR: 'it returns false'. Refute it at one input. -/
def fnExactCutNodeWrong : ChangeSpec := { name := "fnExactCutNode", fn := fun _ => fun
  | [d1, d2] => { results := [.lit (.bool false)], args := [d1, d2] }
  | _ => none }
def FnExactCutNodeWrongFalsely : Prop := fnExactCutNodeRow.holds Try.pinned (OpenSpec.ofChange fnExactCutNodeWrong)

/-- 'laws.FnNewSets': WHATEVER THE INPUT: true; the input reads as it did. -/
def fnNewSetsSpec : ChangeSpec := { name := "fnNewSets", fn := fun _ => fun
  | [d] => { results := [.lit (.bool true)], args := [d] }
  | _ => none }
def fnNewSetsRow : OpenClaim := { program := "ythlgbeakcobeoaa", sum := "65f7c09899e194a7ef6957adf38b8c30629ae89b06f1cf106e3fefed387b0ca7", func := "loop.example/dynamicbridges/laws.FnNewSets", spec := "fnNewSets", apart := false }
def FnNewSetsSaid : Prop := fnNewSetsRow.holds Try.pinned (OpenSpec.ofChange fnNewSetsSpec)

/-- ITS FALSE NEIGHBOUR: 'it returns false'. Refute it at one input. -/
def fnNewSetsWrong : ChangeSpec := { name := "fnNewSets", fn := fun _ => fun
  | [d] => { results := [.lit (.bool false)], args := [d] }
  | _ => none }
def FnNewSetsWrongFalsely : Prop := fnNewSetsRow.holds Try.pinned (OpenSpec.ofChange fnNewSetsWrong)

/-- 'laws.FnExactFindRoot': WHATEVER THE INPUT: true; the input reads as it did. -/
def fnExactFindRootSpec : ChangeSpec := { name := "fnExactFindRoot", fn := fun _ => fun
  | [d1, d2] => { results := [.lit (.bool true)], args := [d1, d2] }
  | _ => none }
def fnExactFindRootRow : OpenClaim := { program := "ythlgbeakcobeoaa", sum := "65f7c09899e194a7ef6957adf38b8c30629ae89b06f1cf106e3fefed387b0ca7", func := "loop.example/dynamicbridges/laws.FnExactFindRoot", spec := "fnExactFindRoot", apart := false }
def FnExactFindRootSaid : Prop := fnExactFindRootRow.holds Try.pinned (OpenSpec.ofChange fnExactFindRootSpec)

/-- ITS FALSE NEIGHBOUR: 'it returns false'. Refute it at one input. -/
def fnExactFindRootWrong : ChangeSpec := { name := "fnExactFindRoot", fn := fun _ => fun
  | [d1, d2] => { results := [.lit (.bool false)], args := [d1, d2] }
  | _ => none }
def FnExactFindRootWrongFalsely : Prop := fnExactFindRootRow.holds Try.pinned (OpenSpec.ofChange fnExactFindRootWrong)

/-- 'laws.FnSetsRebuild': WHATEVER THE INPUT: true; the input reads as it did. -/
def fnSetsRebuildSpec : ChangeSpec := { name := "fnSetsRebuild", fn := fun _ => fun
  | [d] => { results := [.lit (.bool true)], args := [d] }
  | _ => none }
def fnSetsRebuildRow : OpenClaim := { program := "ythlgbeakcobeoaa", sum := "65f7c09899e194a7ef6957adf38b8c30629ae89b06f1cf106e3fefed387b0ca7", func := "loop.example/dynamicbridges/laws.FnSetsRebuild", spec := "fnSetsRebuild", apart := false }
def FnSetsRebuildSaid : Prop := fnSetsRebuildRow.holds Try.pinned (OpenSpec.ofChange fnSetsRebuildSpec)

/-- ITS FALSE NEIGHBOUR: 'it returns false'. Refute it at one input. -/
def fnSetsRebuildWrong : ChangeSpec := { name := "fnSetsRebuild", fn := fun _ => fun
  | [d] => { results := [.lit (.bool false)], args := [d] }
  | _ => none }
def FnSetsRebuildWrongFalsely : Prop := fnSetsRebuildRow.holds Try.pinned (OpenSpec.ofChange fnSetsRebuildWrong)

/-- 'laws.FnFindRoot': WHATEVER THE INPUT: true; the input reads as it did. -/
def fnFindRootSpec : ChangeSpec := { name := "fnFindRoot", fn := fun _ => fun
  | [d] => { results := [.lit (.bool true)], args := [d] }
  | _ => none }
def fnFindRootRow : OpenClaim := { program := "ythlgbeakcobeoaa", sum := "65f7c09899e194a7ef6957adf38b8c30629ae89b06f1cf106e3fefed387b0ca7", func := "loop.example/dynamicbridges/laws.FnFindRoot", spec := "fnFindRoot", apart := false }
def FnFindRootSaid : Prop := fnFindRootRow.holds Try.pinned (OpenSpec.ofChange fnFindRootSpec)

/-- ITS FALSE NEIGHBOUR: 'it returns false'. Refute it at one input. -/
def fnFindRootWrong : ChangeSpec := { name := "fnFindRoot", fn := fun _ => fun
  | [d] => { results := [.lit (.bool false)], args := [d] }
  | _ => none }
def FnFindRootWrongFalsely : Prop := fnFindRootRow.holds Try.pinned (OpenSpec.ofChange fnFindRootWrong)

/-- 'laws.FnUniteOrder': WHATEVER THE INPUT: true; the input reads as it did. -/
def fnUniteOrderSpec : ChangeSpec := { name := "fnUniteOrder", fn := fun _ => fun
  | [d] => { results := [.lit (.bool true)], args := [d] }
  | _ => none }
def fnUniteOrderRow : OpenClaim := { program := "ythlgbeakcobeoaa", sum := "65f7c09899e194a7ef6957adf38b8c30629ae89b06f1cf106e3fefed387b0ca7", func := "loop.example/dynamicbridges/laws.FnUniteOrder", spec := "fnUniteOrder", apart := false }
def FnUniteOrderSaid : Prop := fnUniteOrderRow.holds Try.pinned (OpenSpec.ofChange fnUniteOrderSpec)

/-- ITS FALSE NEIGHBOUR: 'it returns false'. Refute it at one input. -/
def fnUniteOrderWrong : ChangeSpec := { name := "fnUniteOrder", fn := fun _ => fun
  | [d] => { results := [.lit (.bool false)], args := [d] }
  | _ => none }
def FnUniteOrderWrongFalsely : Prop := fnUniteOrderRow.holds Try.pinned (OpenSpec.ofChange fnUniteOrderWrong)

/-- 'laws.FnExactMembersOf': WHATEVER THE INPUT: true; the input reads as it did. -/
def fnExactMembersOfSpec : ChangeSpec := { name := "fnExactMembersOf", fn := fun _ => fun
  | [d1, d2] => { results := [.lit (.bool true)], args := [d1, d2] }
  | _ => none }
def fnExactMembersOfRow : OpenClaim := { program := "ythlgbeakcobeoaa", sum := "65f7c09899e194a7ef6957adf38b8c30629ae89b06f1cf106e3fefed387b0ca7", func := "loop.example/dynamicbridges/laws.FnExactMembersOf", spec := "fnExactMembersOf", apart := false }
def FnExactMembersOfSaid : Prop := fnExactMembersOfRow.holds Try.pinned (OpenSpec.ofChange fnExactMembersOfSpec)

/-- ITS FALSE NEIGHBOUR: 'it returns false'. Refute it at one input. -/
def fnExactMembersOfWrong : ChangeSpec := { name := "fnExactMembersOf", fn := fun _ => fun
  | [d1, d2] => { results := [.lit (.bool false)], args := [d1, d2] }
  | _ => none }
def FnExactMembersOfWrongFalsely : Prop := fnExactMembersOfRow.holds Try.pinned (OpenSpec.ofChange fnExactMembersOfWrong)

/-- 'laws.FnMembersOf': WHATEVER THE INPUT: true; the input reads as it did. -/
def fnMembersOfSpec : ChangeSpec := { name := "fnMembersOf", fn := fun _ => fun
  | [d] => { results := [.lit (.bool true)], args := [d] }
  | _ => none }
def fnMembersOfRow : OpenClaim := { program := "ythlgbeakcobeoaa", sum := "65f7c09899e194a7ef6957adf38b8c30629ae89b06f1cf106e3fefed387b0ca7", func := "loop.example/dynamicbridges/laws.FnMembersOf", spec := "fnMembersOf", apart := false }
def FnMembersOfSaid : Prop := fnMembersOfRow.holds Try.pinned (OpenSpec.ofChange fnMembersOfSpec)

/-- ITS FALSE NEIGHBOUR: 'it returns false'. Refute it at one input. -/
def fnMembersOfWrong : ChangeSpec := { name := "fnMembersOf", fn := fun _ => fun
  | [d] => { results := [.lit (.bool false)], args := [d] }
  | _ => none }
def FnMembersOfWrongFalsely : Prop := fnMembersOfRow.holds Try.pinned (OpenSpec.ofChange fnMembersOfWrong)

/-- 'laws.FnUniteSets': WHATEVER THE INPUT: true; the input reads as it did. -/
def fnUniteSetsSpec : ChangeSpec := { name := "fnUniteSets", fn := fun _ => fun
  | [d] => { results := [.lit (.bool true)], args := [d] }
  | _ => none }
def fnUniteSetsRow : OpenClaim := { program := "ythlgbeakcobeoaa", sum := "65f7c09899e194a7ef6957adf38b8c30629ae89b06f1cf106e3fefed387b0ca7", func := "loop.example/dynamicbridges/laws.FnUniteSets", spec := "fnUniteSets", apart := false }
def FnUniteSetsSaid : Prop := fnUniteSetsRow.holds Try.pinned (OpenSpec.ofChange fnUniteSetsSpec)

/-- ITS FALSE NEIGHBOUR: 'it returns false'. Refute it at one input. -/
def fnUniteSetsWrong : ChangeSpec := { name := "fnUniteSets", fn := fun _ => fun
  | [d] => { results := [.lit (.bool false)], args := [d] }
  | _ => none }
def FnUniteSetsWrongFalsely : Prop := fnUniteSetsRow.holds Try.pinned (OpenSpec.ofChange fnUniteSetsWrong)

/-- 'laws.FnSetsEdges': WHATEVER THE INPUT: true; the input reads as it did. -/
def fnSetsEdgesSpec : ChangeSpec := { name := "fnSetsEdges", fn := fun _ => fun
  | [d] => { results := [.lit (.bool true)], args := [d] }
  | _ => none }
def fnSetsEdgesRow : OpenClaim := { program := "ythlgbeakcobeoaa", sum := "65f7c09899e194a7ef6957adf38b8c30629ae89b06f1cf106e3fefed387b0ca7", func := "loop.example/dynamicbridges/laws.FnSetsEdges", spec := "fnSetsEdges", apart := false }
def FnSetsEdgesSaid : Prop := fnSetsEdgesRow.holds Try.pinned (OpenSpec.ofChange fnSetsEdgesSpec)

/-- ITS FALSE NEIGHBOUR: 'it returns false'. Refute it at one input. -/
def fnSetsEdgesWrong : ChangeSpec := { name := "fnSetsEdges", fn := fun _ => fun
  | [d] => { results := [.lit (.bool false)], args := [d] }
  | _ => none }
def FnSetsEdgesWrongFalsely : Prop := fnSetsEdgesRow.holds Try.pinned (OpenSpec.ofChange fnSetsEdgesWrong)

/-- 'laws.FnUniteMembers': WHATEVER THE INPUT: true; the input reads as it did. -/
def fnUniteMembersSpec : ChangeSpec := { name := "fnUniteMembers", fn := fun _ => fun
  | [d] => { results := [.lit (.bool true)], args := [d] }
  | _ => none }
def fnUniteMembersRow : OpenClaim := { program := "ythlgbeakcobeoaa", sum := "65f7c09899e194a7ef6957adf38b8c30629ae89b06f1cf106e3fefed387b0ca7", func := "loop.example/dynamicbridges/laws.FnUniteMembers", spec := "fnUniteMembers", apart := false }
def FnUniteMembersSaid : Prop := fnUniteMembersRow.holds Try.pinned (OpenSpec.ofChange fnUniteMembersSpec)

/-- ITS FALSE NEIGHBOUR: 'it returns false'. Refute it at one input. -/
def fnUniteMembersWrong : ChangeSpec := { name := "fnUniteMembers", fn := fun _ => fun
  | [d] => { results := [.lit (.bool false)], args := [d] }
  | _ => none }
def FnUniteMembersWrongFalsely : Prop := fnUniteMembersRow.holds Try.pinned (OpenSpec.ofChange fnUniteMembersWrong)

/-- 'laws.FnExactUniteSets': WHATEVER THE INPUT: true; the input reads as it did. -/
def fnExactUniteSetsSpec : ChangeSpec := { name := "fnExactUniteSets", fn := fun _ => fun
  | [d1, d2, d3] => { results := [.lit (.bool true)], args := [d1, d2, d3] }
  | _ => none }
def fnExactUniteSetsRow : OpenClaim := { program := "ythlgbeakcobeoaa", sum := "65f7c09899e194a7ef6957adf38b8c30629ae89b06f1cf106e3fefed387b0ca7", func := "loop.example/dynamicbridges/laws.FnExactUniteSets", spec := "fnExactUniteSets", apart := false }
def FnExactUniteSetsSaid : Prop := fnExactUniteSetsRow.holds Try.pinned (OpenSpec.ofChange fnExactUniteSetsSpec)

/-- ITS FALSE NEIGHBOUR: 'it returns false'. Refute it at one input. -/
def fnExactUniteSetsWrong : ChangeSpec := { name := "fnExactUniteSets", fn := fun _ => fun
  | [d1, d2, d3] => { results := [.lit (.bool false)], args := [d1, d2, d3] }
  | _ => none }
def FnExactUniteSetsWrongFalsely : Prop := fnExactUniteSetsRow.holds Try.pinned (OpenSpec.ofChange fnExactUniteSetsWrong)

/-- 'laws.FnSetsOf': WHATEVER THE INPUT: true; the input reads as it did. -/
def fnSetsOfSpec : ChangeSpec := { name := "fnSetsOf", fn := fun _ => fun
  | [d] => { results := [.lit (.bool true)], args := [d] }
  | _ => none }
def fnSetsOfRow : OpenClaim := { program := "ythlgbeakcobeoaa", sum := "65f7c09899e194a7ef6957adf38b8c30629ae89b06f1cf106e3fefed387b0ca7", func := "loop.example/dynamicbridges/laws.FnSetsOf", spec := "fnSetsOf", apart := false }
def FnSetsOfSaid : Prop := fnSetsOfRow.holds Try.pinned (OpenSpec.ofChange fnSetsOfSpec)

/-- ITS FALSE NEIGHBOUR: 'it returns false'. Refute it at one input. -/
def fnSetsOfWrong : ChangeSpec := { name := "fnSetsOf", fn := fun _ => fun
  | [d] => { results := [.lit (.bool false)], args := [d] }
  | _ => none }
def FnSetsOfWrongFalsely : Prop := fnSetsOfRow.holds Try.pinned (OpenSpec.ofChange fnSetsOfWrong)

/-- 'laws.FnExactSetsOf': WHATEVER THE INPUT: true; the input reads as it did. -/
def fnExactSetsOfSpec : ChangeSpec := { name := "fnExactSetsOf", fn := fun _ => fun
  | [d] => { results := [.lit (.bool true)], args := [d] }
  | _ => none }
def fnExactSetsOfRow : OpenClaim := { program := "ythlgbeakcobeoaa", sum := "65f7c09899e194a7ef6957adf38b8c30629ae89b06f1cf106e3fefed387b0ca7", func := "loop.example/dynamicbridges/laws.FnExactSetsOf", spec := "fnExactSetsOf", apart := false }
def FnExactSetsOfSaid : Prop := fnExactSetsOfRow.holds Try.pinned (OpenSpec.ofChange fnExactSetsOfSpec)

/-- ITS FALSE NEIGHBOUR: 'it returns false'. Refute it at one input. -/
def fnExactSetsOfWrong : ChangeSpec := { name := "fnExactSetsOf", fn := fun _ => fun
  | [d] => { results := [.lit (.bool false)], args := [d] }
  | _ => none }
def FnExactSetsOfWrongFalsely : Prop := fnExactSetsOfRow.holds Try.pinned (OpenSpec.ofChange fnExactSetsOfWrong)

/- THE SECOND FORM. 'bulk': how many values and letters a reading holds, each counted each time it is reached (what is shared counts as often as it is met; a slice's spare places count too). A statement '..UptoSaid' is the law's where the arguments, and the package variables that the reading takes, are together of bulk at most 1048576: NARROWER than '..Said'. Prove '..Said' where nothing that the law and all that it calls make is longer than what came in: it says more and counts as full. Else prove '..UptoSaid'. A law counts once. -/
mutual
def uptoBulk {H : Type} : DataW H → Nat
  | .lit (.string bytes) => bytes.length + 1
  | .lit _ => 1
  | .nil => 1
  | .ptr d => uptoBulk d + 1
  | .slice elems spare => uptoBulkAll elems + uptoBulkAll spare + 1
  | .agg parts => uptoBulkAll parts + 1
  | .iface _ d => uptoBulk d + 1
  | .map entries => uptoBulkEntries entries + 1
  | .held _ => 1
def uptoBulkAll {H : Type} : List (DataW H) → Nat
  | [] => 0
  | d :: r => uptoBulk d + uptoBulkAll r
def uptoBulkEntries {H : Type} : List (Lit × DataW H) → Nat
  | [] => 0
  | x :: r => uptoBulkEntry x + uptoBulkEntries r
def uptoBulkEntry {H : Type} : Lit × DataW H → Nat
  | (.string bytes, d) => bytes.length + uptoBulk d + 1
  | (_, d) => uptoBulk d + 1
 end
def uptoSmall : (H : Type) → List (DataW H) → Bool := fun _ ds => decide (uptoBulkAll ds ≤ 1048576)
def OpenSpec.upto (s : _root_.Go.ChangeSpec) : _root_.Go.OpenSpec := { _root_.Go.OpenSpec.ofChange s with cond := some uptoSmall }

/-- 'laws.FnExactPartNodes', WHERE WHAT IT READS IS OF BULK AT MOST 1048576: true; the input reads as it did. -/
def fnExactPartNodesUptoRow : OpenClaim := { program := "ythlgbeakcobeoaa", sum := "65f7c09899e194a7ef6957adf38b8c30629ae89b06f1cf106e3fefed387b0ca7", func := "loop.example/dynamicbridges/laws.FnExactPartNodes", spec := "fnExactPartNodes", apart := false, narrowed := true }
def FnExactPartNodesUptoSaid : Prop := fnExactPartNodesUptoRow.holds Try.pinned (OpenSpec.upto fnExactPartNodesSpec)

/-- 'laws.FnExactCutNodesBetween', WHERE WHAT IT READS IS OF BULK AT MOST 1048576: true; the input reads as it did. -/
def fnExactCutNodesBetweenUptoRow : OpenClaim := { program := "ythlgbeakcobeoaa", sum := "65f7c09899e194a7ef6957adf38b8c30629ae89b06f1cf106e3fefed387b0ca7", func := "loop.example/dynamicbridges/laws.FnExactCutNodesBetween", spec := "fnExactCutNodesBetween", unfollowed := true, recurses := true, apart := false, narrowed := true }
def FnExactCutNodesBetweenUptoSaid : Prop := fnExactCutNodesBetweenUptoRow.holds Try.pinned (OpenSpec.upto fnExactCutNodesBetweenSpec)

/-- 'laws.FnExactBridgesBetween', WHERE WHAT IT READS IS OF BULK AT MOST 1048576: true; the input reads as it did. -/
def fnExactBridgesBetweenUptoRow : OpenClaim := { program := "ythlgbeakcobeoaa", sum := "65f7c09899e194a7ef6957adf38b8c30629ae89b06f1cf106e3fefed387b0ca7", func := "loop.example/dynamicbridges/laws.FnExactBridgesBetween", spec := "fnExactBridgesBetween", unfollowed := true, recurses := true, apart := false, narrowed := true }
def FnExactBridgesBetweenUptoSaid : Prop := fnExactBridgesBetweenUptoRow.holds Try.pinned (OpenSpec.upto fnExactBridgesBetweenSpec)

/-- 'laws.FnExactCutNode', WHERE WHAT IT READS IS OF BULK AT MOST 1048576: true; the input reads as it did. -/
def fnExactCutNodeUptoRow : OpenClaim := { program := "ythlgbeakcobeoaa", sum := "65f7c09899e194a7ef6957adf38b8c30629ae89b06f1cf106e3fefed387b0ca7", func := "loop.example/dynamicbridges/laws.FnExactCutNode", spec := "fnExactCutNode", unfollowed := true, recurses := true, apart := false, narrowed := true }
def FnExactCutNodeUptoSaid : Prop := fnExactCutNodeUptoRow.holds Try.pinned (OpenSpec.upto fnExactCutNodeSpec)

/-- 'laws.FnNewSets', WHERE WHAT IT READS IS OF BULK AT MOST 1048576: true; the input reads as it did. -/
def fnNewSetsUptoRow : OpenClaim := { program := "ythlgbeakcobeoaa", sum := "65f7c09899e194a7ef6957adf38b8c30629ae89b06f1cf106e3fefed387b0ca7", func := "loop.example/dynamicbridges/laws.FnNewSets", spec := "fnNewSets", apart := false, narrowed := true }
def FnNewSetsUptoSaid : Prop := fnNewSetsUptoRow.holds Try.pinned (OpenSpec.upto fnNewSetsSpec)

/-- 'laws.FnExactFindRoot', WHERE WHAT IT READS IS OF BULK AT MOST 1048576: true; the input reads as it did. -/
def fnExactFindRootUptoRow : OpenClaim := { program := "ythlgbeakcobeoaa", sum := "65f7c09899e194a7ef6957adf38b8c30629ae89b06f1cf106e3fefed387b0ca7", func := "loop.example/dynamicbridges/laws.FnExactFindRoot", spec := "fnExactFindRoot", apart := false, narrowed := true }
def FnExactFindRootUptoSaid : Prop := fnExactFindRootUptoRow.holds Try.pinned (OpenSpec.upto fnExactFindRootSpec)

/-- 'laws.FnSetsRebuild', WHERE WHAT IT READS IS OF BULK AT MOST 1048576: true; the input reads as it did. -/
def fnSetsRebuildUptoRow : OpenClaim := { program := "ythlgbeakcobeoaa", sum := "65f7c09899e194a7ef6957adf38b8c30629ae89b06f1cf106e3fefed387b0ca7", func := "loop.example/dynamicbridges/laws.FnSetsRebuild", spec := "fnSetsRebuild", apart := false, narrowed := true }
def FnSetsRebuildUptoSaid : Prop := fnSetsRebuildUptoRow.holds Try.pinned (OpenSpec.upto fnSetsRebuildSpec)

/-- 'laws.FnFindRoot', WHERE WHAT IT READS IS OF BULK AT MOST 1048576: true; the input reads as it did. -/
def fnFindRootUptoRow : OpenClaim := { program := "ythlgbeakcobeoaa", sum := "65f7c09899e194a7ef6957adf38b8c30629ae89b06f1cf106e3fefed387b0ca7", func := "loop.example/dynamicbridges/laws.FnFindRoot", spec := "fnFindRoot", apart := false, narrowed := true }
def FnFindRootUptoSaid : Prop := fnFindRootUptoRow.holds Try.pinned (OpenSpec.upto fnFindRootSpec)

/-- 'laws.FnUniteOrder', WHERE WHAT IT READS IS OF BULK AT MOST 1048576: true; the input reads as it did. -/
def fnUniteOrderUptoRow : OpenClaim := { program := "ythlgbeakcobeoaa", sum := "65f7c09899e194a7ef6957adf38b8c30629ae89b06f1cf106e3fefed387b0ca7", func := "loop.example/dynamicbridges/laws.FnUniteOrder", spec := "fnUniteOrder", apart := false, narrowed := true }
def FnUniteOrderUptoSaid : Prop := fnUniteOrderUptoRow.holds Try.pinned (OpenSpec.upto fnUniteOrderSpec)

/-- 'laws.FnExactMembersOf', WHERE WHAT IT READS IS OF BULK AT MOST 1048576: true; the input reads as it did. -/
def fnExactMembersOfUptoRow : OpenClaim := { program := "ythlgbeakcobeoaa", sum := "65f7c09899e194a7ef6957adf38b8c30629ae89b06f1cf106e3fefed387b0ca7", func := "loop.example/dynamicbridges/laws.FnExactMembersOf", spec := "fnExactMembersOf", apart := false, narrowed := true }
def FnExactMembersOfUptoSaid : Prop := fnExactMembersOfUptoRow.holds Try.pinned (OpenSpec.upto fnExactMembersOfSpec)

/-- 'laws.FnMembersOf', WHERE WHAT IT READS IS OF BULK AT MOST 1048576: true; the input reads as it did. -/
def fnMembersOfUptoRow : OpenClaim := { program := "ythlgbeakcobeoaa", sum := "65f7c09899e194a7ef6957adf38b8c30629ae89b06f1cf106e3fefed387b0ca7", func := "loop.example/dynamicbridges/laws.FnMembersOf", spec := "fnMembersOf", apart := false, narrowed := true }
def FnMembersOfUptoSaid : Prop := fnMembersOfUptoRow.holds Try.pinned (OpenSpec.upto fnMembersOfSpec)

/-- 'laws.FnUniteSets', WHERE WHAT IT READS IS OF BULK AT MOST 1048576: true; the input reads as it did. -/
def fnUniteSetsUptoRow : OpenClaim := { program := "ythlgbeakcobeoaa", sum := "65f7c09899e194a7ef6957adf38b8c30629ae89b06f1cf106e3fefed387b0ca7", func := "loop.example/dynamicbridges/laws.FnUniteSets", spec := "fnUniteSets", apart := false, narrowed := true }
def FnUniteSetsUptoSaid : Prop := fnUniteSetsUptoRow.holds Try.pinned (OpenSpec.upto fnUniteSetsSpec)

/-- 'laws.FnSetsEdges', WHERE WHAT IT READS IS OF BULK AT MOST 1048576: true; the input reads as it did. -/
def fnSetsEdgesUptoRow : OpenClaim := { program := "ythlgbeakcobeoaa", sum := "65f7c09899e194a7ef6957adf38b8c30629ae89b06f1cf106e3fefed387b0ca7", func := "loop.example/dynamicbridges/laws.FnSetsEdges", spec := "fnSetsEdges", apart := false, narrowed := true }
def FnSetsEdgesUptoSaid : Prop := fnSetsEdgesUptoRow.holds Try.pinned (OpenSpec.upto fnSetsEdgesSpec)

/-- 'laws.FnUniteMembers', WHERE WHAT IT READS IS OF BULK AT MOST 1048576: true; the input reads as it did. -/
def fnUniteMembersUptoRow : OpenClaim := { program := "ythlgbeakcobeoaa", sum := "65f7c09899e194a7ef6957adf38b8c30629ae89b06f1cf106e3fefed387b0ca7", func := "loop.example/dynamicbridges/laws.FnUniteMembers", spec := "fnUniteMembers", apart := false, narrowed := true }
def FnUniteMembersUptoSaid : Prop := fnUniteMembersUptoRow.holds Try.pinned (OpenSpec.upto fnUniteMembersSpec)

/-- 'laws.FnExactUniteSets', WHERE WHAT IT READS IS OF BULK AT MOST 1048576: true; the input reads as it did. -/
def fnExactUniteSetsUptoRow : OpenClaim := { program := "ythlgbeakcobeoaa", sum := "65f7c09899e194a7ef6957adf38b8c30629ae89b06f1cf106e3fefed387b0ca7", func := "loop.example/dynamicbridges/laws.FnExactUniteSets", spec := "fnExactUniteSets", apart := false, narrowed := true }
def FnExactUniteSetsUptoSaid : Prop := fnExactUniteSetsUptoRow.holds Try.pinned (OpenSpec.upto fnExactUniteSetsSpec)

/-- 'laws.FnSetsOf', WHERE WHAT IT READS IS OF BULK AT MOST 1048576: true; the input reads as it did. -/
def fnSetsOfUptoRow : OpenClaim := { program := "ythlgbeakcobeoaa", sum := "65f7c09899e194a7ef6957adf38b8c30629ae89b06f1cf106e3fefed387b0ca7", func := "loop.example/dynamicbridges/laws.FnSetsOf", spec := "fnSetsOf", apart := false, narrowed := true }
def FnSetsOfUptoSaid : Prop := fnSetsOfUptoRow.holds Try.pinned (OpenSpec.upto fnSetsOfSpec)

/-- 'laws.FnExactSetsOf', WHERE WHAT IT READS IS OF BULK AT MOST 1048576: true; the input reads as it did. -/
def fnExactSetsOfUptoRow : OpenClaim := { program := "ythlgbeakcobeoaa", sum := "65f7c09899e194a7ef6957adf38b8c30629ae89b06f1cf106e3fefed387b0ca7", func := "loop.example/dynamicbridges/laws.FnExactSetsOf", spec := "fnExactSetsOf", apart := false, narrowed := true }
def FnExactSetsOfUptoSaid : Prop := fnExactSetsOfUptoRow.holds Try.pinned (OpenSpec.upto fnExactSetsOfSpec)

end Rows
end Go.Proofs.Ythlgbeakcobeoaa
