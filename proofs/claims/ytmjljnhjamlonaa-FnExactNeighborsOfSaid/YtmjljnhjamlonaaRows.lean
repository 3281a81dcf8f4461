/-
  No cell of these rows narrows 'for every input' (looked for: loops, veiled, ifaces, maps, wideKeys, modest, calm, conditions, laid).
  DERIVED. THE GIVEN ROWS OF THIS SEAT. 16 by the template 'for every input the law returns true; each argument reads behind the call as it read before'; 0 by the template 'total and deterministic' (their statements: YtmjljnhjamlonaaTotals.lean).
  GIVEN WITH THE SEED: the statements are not yours to turn. If you find one false, say at which input.
  Laid BY PROGRAM, IN A SANDBOX (cutbox-rows.mjs): the forced cells as the released guide's own fill.sh prints them over the translation 59fdc54872c91287… (all of the seat's roots in one cut). By AI agents, Wed Nov 11 2026. No macro, syntax, notation, axiom, sorry.
-/
import Derived.Test.YtmjljnhjamlonaaChecked
import GoSem.Claim
import GoSem.ClaimJoined
import GoSem.ClaimMapViews
import Derived.JoinedTies
import Derived.KernelRfl
namespace Go.Proofs.Ytmjljnhjamlonaa
/- THE CELL 'sum', in the pinned program and in every row, IS THE sha256 OF THE DUMP (.gsa) THAT YtmjljnhjamlonaaProg.lean LOADS. Nothing in Lean hashes anything: it is a label: what it is worth is what the hold of that sum in a sandbox is worth. -/
noncomputable def Try.pinned : Pinned := { name := "ytmjljnhjamlonaa", sum := "59fdc54872c91287678b70b1f847402f9a8fea2c65f75d052994aeb6f88320e9", checked := Try.checked }
namespace Rows
def none {H : Type} : Left H := { results := [], args := [] }

/-- 'laws.FnConnectedTrans': WHATEVER THE INPUT: true; the input reads as it did. -/
def fnConnectedTransSpec : ChangeSpec := { name := "fnConnectedTrans", fn := fun _ => fun
  | [d1, d2] => { results := [.lit (.bool true)], args := [d1, d2] }
  | _ => none }
def fnConnectedTransRow : OpenClaim := { program := "ytmjljnhjamlonaa", sum := "59fdc54872c91287678b70b1f847402f9a8fea2c65f75d052994aeb6f88320e9", func := "loop.example/dynamicbridges/laws.FnConnectedTrans", spec := "fnConnectedTrans", apart := false }
def FnConnectedTransSaid : Prop := fnConnectedTransRow.holds Try.pinned (OpenSpec.ofChange fnConnectedTransSpec)

/-- ITS FALSE NEIGHBOUR: 'it returns false'. Refute it at one input. -/
def fnConnectedTransWrong : ChangeSpec := { name := "fnConnectedTrans", fn := fun _ => fun
  | [d1, d2] => { results := [.lit (.bool false)], args := [d1, d2] }
  | _ => none }
def FnConnectedTransWrongFalsely : Prop := fnConnectedTransRow.holds Try.pinned (OpenSpec.ofChange fnConnectedTransWrong)

/-- 'laws.FnPartsOf': WHATEVER THE INPUT: true; the input reads as it did. -/
def fnPartsOfSpec : ChangeSpec := { name := "fnPartsOf", fn := fun _ => fun
  | [d] => { results := [.lit (.bool true)], args := [d] }
  | _ => none }
def fnPartsOfRow : OpenClaim := { program := "ytmjljnhjamlonaa", sum := "59fdc54872c91287678b70b1f847402f9a8fea2c65f75d052994aeb6f88320e9", func := "loop.example/dynamicbridges/laws.FnPartsOf", spec := "fnPartsOf", apart := false }
def FnPartsOfSaid : Prop := fnPartsOfRow.holds Try.pinned (OpenSpec.ofChange fnPartsOfSpec)

/-- ITS FALSE NEIGHBOUR: 'it returns false'. Refute it at one input. -/
def fnPartsOfWrong : ChangeSpec := { name := "fnPartsOf", fn := fun _ => fun
  | [d] => { results := [.lit (.bool false)], args := [d] }
  | _ => none }
def FnPartsOfWrongFalsely : Prop := fnPartsOfRow.holds Try.pinned (OpenSpec.ofChange fnPartsOfWrong)

/-- 'laws.FnPartNodes': WHATEVER THE INPUT: true; the input reads as it did. -/
def fnPartNodesSpec : ChangeSpec := { name := "fnPartNodes", fn := fun _ => fun
  | [d] => { results := [.lit (.bool true)], args := [d] }
  | _ => none }
def fnPartNodesRow : OpenClaim := { program := "ytmjljnhjamlonaa", sum := "59fdc54872c91287678b70b1f847402f9a8fea2c65f75d052994aeb6f88320e9", func := "loop.example/dynamicbridges/laws.FnPartNodes", spec := "fnPartNodes", apart := false }
def FnPartNodesSaid : Prop := fnPartNodesRow.holds Try.pinned (OpenSpec.ofChange fnPartNodesSpec)

/-- ITS FALSE NEIGHBOUR: 'it returns false'. Refute it at one input. -/
def fnPartNodesWrong : ChangeSpec := { name := "fnPartNodes", fn := fun _ => fun
  | [d] => { results := [.lit (.bool false)], args := [d] }
  | _ => none }
def FnPartNodesWrongFalsely : Prop := fnPartNodesRow.holds Try.pinned (OpenSpec.ofChange fnPartNodesWrong)

/-- 'laws.FnExactSafeTogether': WHATEVER THE INPUT: true; the input reads as it did. -/
def fnExactSafeTogetherSpec : ChangeSpec := { name := "fnExactSafeTogether", fn := fun _ => fun
  | [d1, d2, d3] => { results := [.lit (.bool true)], args := [d1, d2, d3] }
  | _ => none }
def fnExactSafeTogetherRow : OpenClaim := { program := "ytmjljnhjamlonaa", sum := "59fdc54872c91287678b70b1f847402f9a8fea2c65f75d052994aeb6f88320e9", func := "loop.example/dynamicbridges/laws.FnExactSafeTogether", spec := "fnExactSafeTogether", unfollowed := true, recurses := true, apart := false }
def FnExactSafeTogetherSaid : Prop := fnExactSafeTogetherRow.holds Try.pinned (OpenSpec.ofChange fnExactSafeTogetherSpec)

/-- ITS FALSE NEIGHBOUR: 'it returns false'. Refute it at one input. -/
def fnExactSafeTogetherWrong : ChangeSpec := { name := "fnExactSafeTogether", fn := fun _ => fun
  | [d1, d2, d3] => { results := [.lit (.bool false)], args := [d1, d2, d3] }
  | _ => none }
def FnExactSafeTogetherWrongFalsely : Prop := fnExactSafeTogetherRow.holds Try.pinned (OpenSpec.ofChange fnExactSafeTogetherWrong)

/-- 'laws.FnForestPath': WHATEVER THE INPUT: true; the input reads as it did. -/
def fnForestPathSpec : ChangeSpec := { name := "fnForestPath", fn := fun _ => fun
  | [d] => { results := [.lit (.bool true)], args := [d] }
  | _ => none }
def fnForestPathRow : OpenClaim := { program := "ytmjljnhjamlonaa", sum := "59fdc54872c91287678b70b1f847402f9a8fea2c65f75d052994aeb6f88320e9", func := "loop.example/dynamicbridges/laws.FnForestPath", spec := "fnForestPath", unfollowed := true, recurses := true, apart := false }
def FnForestPathSaid : Prop := fnForestPathRow.holds Try.pinned (OpenSpec.ofChange fnForestPathSpec)

/-- ITS FALSE NEIGHBOUR: 'it returns false'. Refute it at one input. -/
def fnForestPathWrong : ChangeSpec := { name := "fnForestPath", fn := fun _ => fun
  | [d] => { results := [.lit (.bool false)], args := [d] }
  | _ => none }
def FnForestPathWrongFalsely : Prop := fnForestPathRow.holds Try.pinned (OpenSpec.ofChange fnForestPathWrong)

/-- 'laws.FnSafeParts': WHATEVER THE INPUT: true; the input reads as it did. -/
def fnSafePartsSpec : ChangeSpec := { name := "fnSafeParts", fn := fun _ => fun
  | [d] => { results := [.lit (.bool true)], args := [d] }
  | _ => none }
def fnSafePartsRow : OpenClaim := { program := "ytmjljnhjamlonaa", sum := "59fdc54872c91287678b70b1f847402f9a8fea2c65f75d052994aeb6f88320e9", func := "loop.example/dynamicbridges/laws.FnSafeParts", spec := "fnSafeParts", unfollowed := true, recurses := true, apart := false }
def FnSafePartsSaid : Prop := fnSafePartsRow.holds Try.pinned (OpenSpec.ofChange fnSafePartsSpec)

/-- ITS FALSE NEIGHBOUR: 'it returns false'. Refute it at one input. -/
def fnSafePartsWrong : ChangeSpec := { name := "fnSafeParts", fn := fun _ => fun
  | [d] => { results := [.lit (.bool false)], args := [d] }
  | _ => none }
def FnSafePartsWrongFalsely : Prop := fnSafePartsRow.holds Try.pinned (OpenSpec.ofChange fnSafePartsWrong)

/-- 'laws.FnBetweenTriangle': WHATEVER THE INPUT: true; the input reads as it did. -/
def fnBetweenTriangleSpec : ChangeSpec := { name := "fnBetweenTriangle", fn := fun _ => fun
  | [d1, d2] => { results := [.lit (.bool true)], args := [d1, d2] }
  | _ => none }
def fnBetweenTriangleRow : OpenClaim := { program := "ytmjljnhjamlonaa", sum := "59fdc54872c91287678b70b1f847402f9a8fea2c65f75d052994aeb6f88320e9", func := "loop.example/dynamicbridges/laws.FnBetweenTriangle", spec := "fnBetweenTriangle", unfollowed := true, recurses := true, apart := false }
def FnBetweenTriangleSaid : Prop := fnBetweenTriangleRow.holds Try.pinned (OpenSpec.ofChange fnBetweenTriangleSpec)

/-- ITS FALSE NEIGHBOUR: 'it returns false'. Refute it at one input. -/
def fnBetweenTriangleWrong : ChangeSpec := { name := "fnBetweenTriangle", fn := fun _ => fun
  | [d1, d2] => { results := [.lit (.bool false)], args := [d1, d2] }
  | _ => none }
def FnBetweenTriangleWrongFalsely : Prop := fnBetweenTriangleRow.holds Try.pinned (OpenSpec.ofChange fnBetweenTriangleWrong)

/-- 'laws.FnSafeTogether': WHATEVER THE INPUT: true; the input reads as it did. -/
def fnSafeTogetherSpec : ChangeSpec := { name := "fnSafeTogether", fn := fun _ => fun
  | [d] => { results := [.lit (.bool true)], args := [d] }
  | _ => none }
def fnSafeTogetherRow : OpenClaim := { program := "ytmjljnhjamlonaa", sum := "59fdc54872c91287678b70b1f847402f9a8fea2c65f75d052994aeb6f88320e9", func := "loop.example/dynamicbridges/laws.FnSafeTogether", spec := "fnSafeTogether", unfollowed := true, recurses := true, apart := false }
def FnSafeTogetherSaid : Prop := fnSafeTogetherRow.holds Try.pinned (OpenSpec.ofChange fnSafeTogetherSpec)

/-- ITS FALSE NEIGHBOUR: 'it returns false'. Refute it at one input. -/
def fnSafeTogetherWrong : ChangeSpec := { name := "fnSafeTogether", fn := fun _ => fun
  | [d] => { results := [.lit (.bool false)], args := [d] }
  | _ => none }
def FnSafeTogetherWrongFalsely : Prop := fnSafeTogetherRow.holds Try.pinned (OpenSpec.ofChange fnSafeTogetherWrong)

/-- 'laws.FnCutBetween': WHATEVER THE INPUT: true; the input reads as it did. -/
def fnCutBetweenSpec : ChangeSpec := { name := "fnCutBetween", fn := fun _ => fun
  | [d] => { results := [.lit (.bool true)], args := [d] }
  | _ => none }
def fnCutBetweenRow : OpenClaim := { program := "ytmjljnhjamlonaa", sum := "59fdc54872c91287678b70b1f847402f9a8fea2c65f75d052994aeb6f88320e9", func := "loop.example/dynamicbridges/laws.FnCutBetween", spec := "fnCutBetween", unfollowed := true, recurses := true, apart := false }
def FnCutBetweenSaid : Prop := fnCutBetweenRow.holds Try.pinned (OpenSpec.ofChange fnCutBetweenSpec)

/-- ITS FALSE NEIGHBOUR: 'it returns false'. Refute it at one input. -/
def fnCutBetweenWrong : ChangeSpec := { name := "fnCutBetween", fn := fun _ => fun
  | [d] => { results := [.lit (.bool false)], args := [d] }
  | _ => none }
def FnCutBetweenWrongFalsely : Prop := fnCutBetweenRow.holds Try.pinned (OpenSpec.ofChange fnCutBetweenWrong)

/-- 'laws.FnPartCount': WHATEVER THE INPUT: true; the input reads as it did. -/
def fnPartCountSpec : ChangeSpec := { name := "fnPartCount", fn := fun _ => fun
  | [d1, d2] => { results := [.lit (.bool true)], args := [d1, d2] }
  | _ => none }
def fnPartCountRow : OpenClaim := { program := "ytmjljnhjamlonaa", sum := "59fdc54872c91287678b70b1f847402f9a8fea2c65f75d052994aeb6f88320e9", func := "loop.example/dynamicbridges/laws.FnPartCount", spec := "fnPartCount", inPlace := ["slices.overlaps[loop.example/dynamicbridges/impl.Edge]"], unfollowed := true, recurses := true, apart := false }
def FnPartCountSaid : Prop := fnPartCountRow.holds Try.pinned (OpenSpec.ofChange fnPartCountSpec)

/-- ITS FALSE NEIGHBOUR: 'it returns false'. Refute it at one input. -/
def fnPartCountWrong : ChangeSpec := { name := "fnPartCount", fn := fun _ => fun
  | [d1, d2] => { results := [.lit (.bool false)], args := [d1, d2] }
  | _ => none }
def FnPartCountWrongFalsely : Prop := fnPartCountRow.holds Try.pinned (OpenSpec.ofChange fnPartCountWrong)

/-- 'laws.FnBridgePut': WHATEVER THE INPUT: true; the input reads as it did. -/
def fnBridgePutSpec : ChangeSpec := { name := "fnBridgePut", fn := fun _ => fun
  | [d] => { results := [.lit (.bool true)], args := [d] }
  | _ => none }
def fnBridgePutRow : OpenClaim := { program := "ytmjljnhjamlonaa", sum := "59fdc54872c91287678b70b1f847402f9a8fea2c65f75d052994aeb6f88320e9", func := "loop.example/dynamicbridges/laws.FnBridgePut", spec := "fnBridgePut", inPlace := ["slices.overlaps[loop.example/dynamicbridges/impl.Edge]"], unfollowed := true, recurses := true, apart := false }
def FnBridgePutSaid : Prop := fnBridgePutRow.holds Try.pinned (OpenSpec.ofChange fnBridgePutSpec)

/-- ITS FALSE NEIGHBOUR: 'it returns false'. Refute it at one input. -/
def fnBridgePutWrong : ChangeSpec := { name := "fnBridgePut", fn := fun _ => fun
  | [d] => { results := [.lit (.bool false)], args := [d] }
  | _ => none }
def FnBridgePutWrongFalsely : Prop := fnBridgePutRow.holds Try.pinned (OpenSpec.ofChange fnBridgePutWrong)

/-- 'laws.FnLostPath': WHATEVER THE INPUT: true; the input reads as it did. -/
def fnLostPathSpec : ChangeSpec := { name := "fnLostPath", fn := fun _ => fun
  | [d] => { results := [.lit (.bool true)], args := [d] }
  | _ => none }
def fnLostPathRow : OpenClaim := { program := "ytmjljnhjamlonaa", sum := "59fdc54872c91287678b70b1f847402f9a8fea2c65f75d052994aeb6f88320e9", func := "loop.example/dynamicbridges/laws.FnLostPath", spec := "fnLostPath", inPlace := ["slices.overlaps[loop.example/dynamicbridges/impl.Edge]"], unfollowed := true, recurses := true, apart := false }
def FnLostPathSaid : Prop := fnLostPathRow.holds Try.pinned (OpenSpec.ofChange fnLostPathSpec)

/-- ITS FALSE NEIGHBOUR: 'it returns false'. Refute it at one input. -/
def fnLostPathWrong : ChangeSpec := { name := "fnLostPath", fn := fun _ => fun
  | [d] => { results := [.lit (.bool false)], args := [d] }
  | _ => none }
def FnLostPathWrongFalsely : Prop := fnLostPathRow.holds Try.pinned (OpenSpec.ofChange fnLostPathWrong)

/-- 'laws.FnLostBy': WHATEVER THE INPUT: true; the input reads as it did. -/
def fnLostBySpec : ChangeSpec := { name := "fnLostBy", fn := fun _ => fun
  | [d] => { results := [.lit (.bool true)], args := [d] }
  | _ => none }
def fnLostByRow : OpenClaim := { program := "ytmjljnhjamlonaa", sum := "59fdc54872c91287678b70b1f847402f9a8fea2c65f75d052994aeb6f88320e9", func := "loop.example/dynamicbridges/laws.FnLostBy", spec := "fnLostBy", inPlace := ["slices.overlaps[loop.example/dynamicbridges/impl.Edge]"], unfollowed := true, recurses := true, apart := false }
def FnLostBySaid : Prop := fnLostByRow.holds Try.pinned (OpenSpec.ofChange fnLostBySpec)

/-- ITS FALSE NEIGHBOUR: 'it returns false'. Refute it at one input. -/
def fnLostByWrong : ChangeSpec := { name := "fnLostBy", fn := fun _ => fun
  | [d] => { results := [.lit (.bool false)], args := [d] }
  | _ => none }
def FnLostByWrongFalsely : Prop := fnLostByRow.holds Try.pinned (OpenSpec.ofChange fnLostByWrong)

/-- 'laws.FnNeighborsOf': WHATEVER THE INPUT: true; the input reads as it did. -/
def fnNeighborsOfSpec : ChangeSpec := { name := "fnNeighborsOf", fn := fun _ => fun
  | [d] => { results := [.lit (.bool true)], args := [d] }
  | _ => none }
def fnNeighborsOfRow : OpenClaim := { program := "ytmjljnhjamlonaa", sum := "59fdc54872c91287678b70b1f847402f9a8fea2c65f75d052994aeb6f88320e9", func := "loop.example/dynamicbridges/laws.FnNeighborsOf", spec := "fnNeighborsOf", recurses := true, apart := false }
def FnNeighborsOfSaid : Prop := fnNeighborsOfRow.holds Try.pinned (OpenSpec.ofChange fnNeighborsOfSpec)

/-- ITS FALSE NEIGHBOUR: 'it returns false'. Refute it at one input. -/
def fnNeighborsOfWrong : ChangeSpec := { name := "fnNeighborsOf", fn := fun _ => fun
  | [d] => { results := [.lit (.bool false)], args := [d] }
  | _ => none }
def FnNeighborsOfWrongFalsely : Prop := fnNeighborsOfRow.holds Try.pinned (OpenSpec.ofChange fnNeighborsOfWrong)

/-- 'laws.FnExactNeighborsOf': WHATEVER THE INPUT: true; the input reads as it did. -/
def fnExactNeighborsOfSpec : ChangeSpec := { name := "fnExactNeighborsOf", fn := fun _ => fun
  | [d1, d2] => { results := [.lit (.bool true)], args := [d1, d2] }
  | _ => none }
def fnExactNeighborsOfRow : OpenClaim := { program := "ytmjljnhjamlonaa", sum := "59fdc54872c91287678b70b1f847402f9a8fea2c65f75d052994aeb6f88320e9", func := "loop.example/dynamicbridges/laws.FnExactNeighborsOf", spec := "fnExactNeighborsOf", recurses := true, apart := false }
def FnExactNeighborsOfSaid : Prop := fnExactNeighborsOfRow.holds Try.pinned (OpenSpec.ofChange fnExactNeighborsOfSpec)

/-- ITS FALSE NEIGHBOUR: 'it returns false'. Refute it at one input. -/
def fnExactNeighborsOfWrong : ChangeSpec := { name := "fnExactNeighborsOf", fn := fun _ => fun
  | [d1, d2] => { results := [.lit (.bool false)], args := [d1, d2] }
  | _ => none }
def FnExactNeighborsOfWrongFalsely : Prop := fnExactNeighborsOfRow.holds Try.pinned (OpenSpec.ofChange fnExactNeighborsOfWrong)

/-- 'laws.FnDegrees': WHATEVER THE INPUT: true; the input reads as it did. -/
def fnDegreesSpec : ChangeSpec := { name := "fnDegrees", fn := fun _ => fun
  | [d] => { results := [.lit (.bool true)], args := [d] }
  | _ => none }
def fnDegreesRow : OpenClaim := { program := "ytmjljnhjamlonaa", sum := "59fdc54872c91287678b70b1f847402f9a8fea2c65f75d052994aeb6f88320e9", func := "loop.example/dynamicbridges/laws.FnDegrees", spec := "fnDegrees", recurses := true, apart := false }
def FnDegreesSaid : Prop := fnDegreesRow.holds Try.pinned (OpenSpec.ofChange fnDegreesSpec)

/-- ITS FALSE NEIGHBOUR: 'it returns false'. Refute it at one input. -/
def fnDegreesWrong : ChangeSpec := { name := "fnDegrees", fn := fun _ => fun
  | [d] => { results := [.lit (.bool false)], args := [d] }
  | _ => none }
def FnDegreesWrongFalsely : Prop := fnDegreesRow.holds Try.pinned (OpenSpec.ofChange fnDegreesWrong)

/- THE SECOND FORM. 'bulk': how many values and letters a reading holds, each counted each time it is reached (what is shared counts as often as it is met; a slice's spare places count too). A statement '..UptoSaid' is the law's where the arguments, and the package variables that the reading takes, are together of bulk at most 1048576: NARROWER than '..Said'. Prove '..Said' where nothing that the law and all that it calls make is longer than what came in: it says more and counts as full. Else prove '..UptoSaid'. A law counts once. -/
mutual
def uptoBulk {H : Type} : DataW H → Nat
  | .lit (.string bytes) => bytes.length + 1
  | .lit _ => 1
  | .nil => 1
  | .ptr d => uptoBulk d + 1
  | .slice elems spare => uptoBulkAll elems + uptoBulkAll spare + 1
  | .agg parts => uptoBulkAll parts + 1
  | .iface _ d => uptoBulk d + 1
  | .map entries => uptoBulkEntries entries + 1
  | .held _ => 1
def uptoBulkAll {H : Type} : List (DataW H) → Nat
  | [] => 0
  | d :: r => uptoBulk d + uptoBulkAll r
def uptoBulkEntries {H : Type} : List (Lit × DataW H) → Nat
  | [] => 0
  | x :: r => uptoBulkEntry x + uptoBulkEntries r
def uptoBulkEntry {H : Type} : Lit × DataW H → Nat
  | (.string bytes, d) => bytes.length + uptoBulk d + 1
  | (_, d) => uptoBulk d + 1
 end
def uptoSmall : (H : Type) → List (DataW H) → Bool := fun _ ds => decide (uptoBulkAll ds ≤ 1048576)
def OpenSpec.upto (s : _root_.Go.ChangeSpec) : _root_.Go.OpenSpec := { _root_.Go.OpenSpec.ofChange s with cond := some uptoSmall }

/-- 'laws.FnConnectedTrans', WHERE WHAT IT READS IS OF BULK AT MOST 1048576: true; the input reads as it did. -/
def fnConnectedTransUptoRow : OpenClaim := { program := "ytmjljnhjamlonaa", sum := "59fdc54872c91287678b70b1f847402f9a8fea2c65f75d052994aeb6f88320e9", func := "loop.example/dynamicbridges/laws.FnConnectedTrans", spec := "fnConnectedTrans", apart := false, narrowed := true }
def FnConnectedTransUptoSaid : Prop := fnConnectedTransUptoRow.holds Try.pinned (OpenSpec.upto fnConnectedTransSpec)

/-- 'laws.FnPartsOf', WHERE WHAT IT READS IS OF BULK AT MOST 1048576: true; the input reads as it did. -/
def fnPartsOfUptoRow : OpenClaim := { program := "ytmjljnhjamlonaa", sum := "59fdc54872c91287678b70b1f847402f9a8fea2c65f75d052994aeb6f88320e9", func := "loop.example/dynamicbridges/laws.FnPartsOf", spec := "fnPartsOf", apart := false, narrowed := true }
def FnPartsOfUptoSaid : Prop := fnPartsOfUptoRow.holds Try.pinned (OpenSpec.upto fnPartsOfSpec)

/-- 'laws.FnPartNodes', WHERE WHAT IT READS IS OF BULK AT MOST 1048576: true; the input reads as it did. -/
def fnPartNodesUptoRow : OpenClaim := { program := "ytmjljnhjamlonaa", sum := "59fdc54872c91287678b70b1f847402f9a8fea2c65f75d052994aeb6f88320e9", func := "loop.example/dynamicbridges/laws.FnPartNodes", spec := "fnPartNodes", apart := false, narrowed := true }
def FnPartNodesUptoSaid : Prop := fnPartNodesUptoRow.holds Try.pinned (OpenSpec.upto fnPartNodesSpec)

/-- 'laws.FnExactSafeTogether', WHERE WHAT IT READS IS OF BULK AT MOST 1048576: true; the input reads as it did. -/
def fnExactSafeTogetherUptoRow : OpenClaim := { program := "ytmjljnhjamlonaa", sum := "59fdc54872c91287678b70b1f847402f9a8fea2c65f75d052994aeb6f88320e9", func := "loop.example/dynamicbridges/laws.FnExactSafeTogether", spec := "fnExactSafeTogether", unfollowed := true, recurses := true, apart := false, narrowed := true }
def FnExactSafeTogetherUptoSaid : Prop := fnExactSafeTogetherUptoRow.holds Try.pinned (OpenSpec.upto fnExactSafeTogetherSpec)

/-- 'laws.FnForestPath', WHERE WHAT IT READS IS OF BULK AT MOST 1048576: true; the input reads as it did. -/
def fnForestPathUptoRow : OpenClaim := { program := "ytmjljnhjamlonaa", sum := "59fdc54872c91287678b70b1f847402f9a8fea2c65f75d052994aeb6f88320e9", func := "loop.example/dynamicbridges/laws.FnForestPath", spec := "fnForestPath", unfollowed := true, recurses := true, apart := false, narrowed := true }
def FnForestPathUptoSaid : Prop := fnForestPathUptoRow.holds Try.pinned (OpenSpec.upto fnForestPathSpec)

/-- 'laws.FnSafeParts', WHERE WHAT IT READS IS OF BULK AT MOST 1048576: true; the input reads as it did. -/
def fnSafePartsUptoRow : OpenClaim := { program := "ytmjljnhjamlonaa", sum := "59fdc54872c91287678b70b1f847402f9a8fea2c65f75d052994aeb6f88320e9", func := "loop.example/dynamicbridges/laws.FnSafeParts", spec := "fnSafeParts", unfollowed := true, recurses := true, apart := false, narrowed := true }
def FnSafePartsUptoSaid : Prop := fnSafePartsUptoRow.holds Try.pinned (OpenSpec.upto fnSafePartsSpec)

/-- 'laws.FnBetweenTriangle', WHERE WHAT IT READS IS OF BULK AT MOST 1048576: true; the input reads as it did. -/
def fnBetweenTriangleUptoRow : OpenClaim := { program := "ytmjljnhjamlonaa", sum := "59fdc54872c91287678b70b1f847402f9a8fea2c65f75d052994aeb6f88320e9", func := "loop.example/dynamicbridges/laws.FnBetweenTriangle", spec := "fnBetweenTriangle", unfollowed := true, recurses := true, apart := false, narrowed := true }
def FnBetweenTriangleUptoSaid : Prop := fnBetweenTriangleUptoRow.holds Try.pinned (OpenSpec.upto fnBetweenTriangleSpec)

/-- 'laws.FnSafeTogether', WHERE WHAT IT READS IS OF BULK AT MOST 1048576: true; the input reads as it did. -/
def fnSafeTogetherUptoRow : OpenClaim := { program := "ytmjljnhjamlonaa", sum := "59fdc54872c91287678b70b1f847402f9a8fea2c65f75d052994aeb6f88320e9", func := "loop.example/dynamicbridges/laws.FnSafeTogether", spec := "fnSafeTogether", unfollowed := true, recurses := true, apart := false, narrowed := true }
def FnSafeTogetherUptoSaid : Prop := fnSafeTogetherUptoRow.holds Try.pinned (OpenSpec.upto fnSafeTogetherSpec)

/-- 'laws.FnCutBetween', WHERE WHAT IT READS IS OF BULK AT MOST 1048576: true; the input reads as it did. -/
def fnCutBetweenUptoRow : OpenClaim := { program := "ytmjljnhjamlonaa", sum := "59fdc54872c91287678b70b1f847402f9a8fea2c65f75d052994aeb6f88320e9", func := "loop.example/dynamicbridges/laws.FnCutBetween", spec := "fnCutBetween", unfollowed := true, recurses := true, apart := false, narrowed := true }
def FnCutBetweenUptoSaid : Prop := fnCutBetweenUptoRow.holds Try.pinned (OpenSpec.upto fnCutBetweenSpec)

/-- 'laws.FnPartCount', WHERE WHAT IT READS IS OF BULK AT MOST 1048576: true; the input reads as it did. -/
def fnPartCountUptoRow : OpenClaim := { program := "ytmjljnhjamlonaa", sum := "59fdc54872c91287678b70b1f847402f9a8fea2c65f75d052994aeb6f88320e9", func := "loop.example/dynamicbridges/laws.FnPartCount", spec := "fnPartCount", inPlace := ["slices.overlaps[loop.example/dynamicbridges/impl.Edge]"], unfollowed := true, recurses := true, apart := false, narrowed := true }
def FnPartCountUptoSaid : Prop := fnPartCountUptoRow.holds Try.pinned (OpenSpec.upto fnPartCountSpec)

/-- 'laws.FnBridgePut', WHERE WHAT IT READS IS OF BULK AT MOST 1048576: true; the input reads as it did. -/
def fnBridgePutUptoRow : OpenClaim := { program := "ytmjljnhjamlonaa", sum := "59fdc54872c91287678b70b1f847402f9a8fea2c65f75d052994aeb6f88320e9", func := "loop.example/dynamicbridges/laws.FnBridgePut", spec := "fnBridgePut", inPlace := ["slices.overlaps[loop.example/dynamicbridges/impl.Edge]"], unfollowed := true, recurses := true, apart := false, narrowed := true }
def FnBridgePutUptoSaid : Prop := fnBridgePutUptoRow.holds Try.pinned (OpenSpec.upto fnBridgePutSpec)

/-- 'laws.FnLostPath', WHERE WHAT IT READS IS OF BULK AT MOST 1048576: true; the input reads as it did. -/
def fnLostPathUptoRow : OpenClaim := { program := "ytmjljnhjamlonaa", sum := "59fdc54872c91287678b70b1f847402f9a8fea2c65f75d052994aeb6f88320e9", func := "loop.example/dynamicbridges/laws.FnLostPath", spec := "fnLostPath", inPlace := ["slices.overlaps[loop.example/dynamicbridges/impl.Edge]"], unfollowed := true, recurses := true, apart := false, narrowed := true }
def FnLostPathUptoSaid : Prop := fnLostPathUptoRow.holds Try.pinned (OpenSpec.upto fnLostPathSpec)

/-- 'laws.FnLostBy', WHERE WHAT IT READS IS OF BULK AT MOST 1048576: true; the input reads as it did. -/
def fnLostByUptoRow : OpenClaim := { program := "ytmjljnhjamlonaa", sum := "59fdc54872c91287678b70b1f847402f9a8fea2c65f75d052994aeb6f88320e9", func := "loop.example/dynamicbridges/laws.FnLostBy", spec := "fnLostBy", inPlace := ["slices.overlaps[loop.example/dynamicbridges/impl.Edge]"], unfollowed := true, recurses := true, apart := false, narrowed := true }
def FnLostByUptoSaid : Prop := fnLostByUptoRow.holds Try.pinned (OpenSpec.upto fnLostBySpec)

/-- 'laws.FnNeighborsOf', WHERE WHAT IT READS IS OF BULK AT MOST 1048576: true; the input reads as it did. -/
def fnNeighborsOfUptoRow : OpenClaim := { program := "ytmjljnhjamlonaa", sum := "59fdc54872c91287678b70b1f847402f9a8fea2c65f75d052994aeb6f88320e9", func := "loop.example/dynamicbridges/laws.FnNeighborsOf", spec := "fnNeighborsOf", recurses := true, apart := false, narrowed := true }
def FnNeighborsOfUptoSaid : Prop := fnNeighborsOfUptoRow.holds Try.pinned (OpenSpec.upto fnNeighborsOfSpec)

/-- 'laws.FnExactNeighborsOf', WHERE WHAT IT READS IS OF BULK AT MOST 1048576: true; the input reads as it did. -/
def fnExactNeighborsOfUptoRow : OpenClaim := { program := "ytmjljnhjamlonaa", sum := "59fdc54872c91287678b70b1f847402f9a8fea2c65f75d052994aeb6f88320e9", func := "loop.example/dynamicbridges/laws.FnExactNeighborsOf", spec := "fnExactNeighborsOf", recurses := true, apart := false, narrowed := true }
def FnExactNeighborsOfUptoSaid : Prop := fnExactNeighborsOfUptoRow.holds Try.pinned (OpenSpec.upto fnExactNeighborsOfSpec)

/-- 'laws.FnDegrees', WHERE WHAT IT READS IS OF BULK AT MOST 1048576: true; the input reads as it did. -/
def fnDegreesUptoRow : OpenClaim := { program := "ytmjljnhjamlonaa", sum := "59fdc54872c91287678b70b1f847402f9a8fea2c65f75d052994aeb6f88320e9", func := "loop.example/dynamicbridges/laws.FnDegrees", spec := "fnDegrees", recurses := true, apart := false, narrowed := true }
def FnDegreesUptoSaid : Prop := fnDegreesUptoRow.holds Try.pinned (OpenSpec.upto fnDegreesSpec)

end Rows
end Go.Proofs.Ytmjljnhjamlonaa
