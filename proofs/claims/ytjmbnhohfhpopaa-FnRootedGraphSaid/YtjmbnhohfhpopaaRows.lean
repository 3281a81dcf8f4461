/-
  No cell of these rows narrows 'for every input' (looked for: loops, veiled, ifaces, maps, wideKeys, modest, calm, conditions, laid).
  DERIVED. THE GIVEN ROWS OF THIS SEAT. 12 by the template 'for every input the law returns true; each argument reads behind the call as it read before'; 0 by the template 'total and deterministic' (their statements: YtjmbnhohfhpopaaTotals.lean).
  GIVEN WITH THE SEED: the statements are not yours to turn. If you find one false, say at which input.
  Laid BY PROGRAM, IN A SANDBOX (cutbox-rows.mjs): the forced cells as the released guide's own fill.sh prints them over the translation ac60bd64f7cc68f2… (all of the seat's roots in one cut). By AI agents, Wed Nov 11 2026. No macro, syntax, notation, axiom, sorry.
-/
import Derived.Test.YtjmbnhohfhpopaaChecked
import GoSem.Claim
import GoSem.ClaimJoined
import GoSem.ClaimMapViews
import Derived.JoinedTies
import Derived.KernelRfl
namespace Go.Proofs.Ytjmbnhohfhpopaa
/- THE CELL 'sum', in the pinned program and in every row, IS THE sha256 OF THE DUMP (.gsa) THAT YtjmbnhohfhpopaaProg.lean LOADS. Nothing in Lean hashes anything: it is a label: what it is worth is what the hold of that sum in a sandbox is worth. -/
noncomputable def Try.pinned : Pinned := { name := "ytjmbnhohfhpopaa", sum := "ac60bd64f7cc68f239d6213c94eca16e30a025777f30a17c3218e9be6c525248", checked := Try.checked }
namespace Rows
def none {H : Type} : Left H := { results := [], args := [] }

/-- 'laws.FnMeetRoot': WHATEVER THE INPUT: true; the input reads as it did. -/
def fnMeetRootSpec : ChangeSpec := { name := "fnMeetRoot", fn := fun _ => fun
  | [d] => { results := [.lit (.bool true)], args := [d] }
  | _ => none }
def fnMeetRootRow : OpenClaim := { program := "ytjmbnhohfhpopaa", sum := "ac60bd64f7cc68f239d6213c94eca16e30a025777f30a17c3218e9be6c525248", func := "loop.example/dynamicbridges/laws.FnMeetRoot", spec := "fnMeetRoot", apart := false }
def FnMeetRootSaid : Prop := fnMeetRootRow.holds Try.pinned (OpenSpec.ofChange fnMeetRootSpec)

/-- ITS FALSE NEIGHBOUR: 'it returns false'. Refute it at one input. -/
def fnMeetRootWrong : ChangeSpec := { name := "fnMeetRoot", fn := fun _ => fun
  | [d] => { results := [.lit (.bool false)], args := [d] }
  | _ => none }
def FnMeetRootWrongFalsely : Prop := fnMeetRootRow.holds Try.pinned (OpenSpec.ofChange fnMeetRootWrong)

/-- 'laws.FnCutParent': WHATEVER THE INPUT: true; the input reads as it did. -/
def fnCutParentSpec : ChangeSpec := { name := "fnCutParent", fn := fun _ => fun
  | [d] => { results := [.lit (.bool true)], args := [d] }
  | _ => none }
def fnCutParentRow : OpenClaim := { program := "ytjmbnhohfhpopaa", sum := "ac60bd64f7cc68f239d6213c94eca16e30a025777f30a17c3218e9be6c525248", func := "loop.example/dynamicbridges/laws.FnCutParent", spec := "fnCutParent", apart := false }
def FnCutParentSaid : Prop := fnCutParentRow.holds Try.pinned (OpenSpec.ofChange fnCutParentSpec)

/-- ITS FALSE NEIGHBOUR: 'it returns false'. Refute it at one input. -/
def fnCutParentWrong : ChangeSpec := { name := "fnCutParent", fn := fun _ => fun
  | [d] => { results := [.lit (.bool false)], args := [d] }
  | _ => none }
def FnCutParentWrongFalsely : Prop := fnCutParentRow.holds Try.pinned (OpenSpec.ofChange fnCutParentWrong)

/-- 'laws.FnExactTurnRoot': WHATEVER THE INPUT: true; the input reads as it did. -/
def fnExactTurnRootSpec : ChangeSpec := { name := "fnExactTurnRoot", fn := fun _ => fun
  | [d1, d2] => { results := [.lit (.bool true)], args := [d1, d2] }
  | _ => none }
def fnExactTurnRootRow : OpenClaim := { program := "ytjmbnhohfhpopaa", sum := "ac60bd64f7cc68f239d6213c94eca16e30a025777f30a17c3218e9be6c525248", func := "loop.example/dynamicbridges/laws.FnExactTurnRoot", spec := "fnExactTurnRoot", apart := false }
def FnExactTurnRootSaid : Prop := fnExactTurnRootRow.holds Try.pinned (OpenSpec.ofChange fnExactTurnRootSpec)

/-- ITS FALSE NEIGHBOUR: 'it returns false'. Refute it at one input. -/
def fnExactTurnRootWrong : ChangeSpec := { name := "fnExactTurnRoot", fn := fun _ => fun
  | [d1, d2] => { results := [.lit (.bool false)], args := [d1, d2] }
  | _ => none }
def FnExactTurnRootWrongFalsely : Prop := fnExactTurnRootRow.holds Try.pinned (OpenSpec.ofChange fnExactTurnRootWrong)

/-- 'laws.FnExactLinkRoot': WHATEVER THE INPUT: true; the input reads as it did. -/
def fnExactLinkRootSpec : ChangeSpec := { name := "fnExactLinkRoot", fn := fun _ => fun
  | [d1, d2, d3, d4] => { results := [.lit (.bool true)], args := [d1, d2, d3, d4] }
  | _ => none }
def fnExactLinkRootRow : OpenClaim := { program := "ytjmbnhohfhpopaa", sum := "ac60bd64f7cc68f239d6213c94eca16e30a025777f30a17c3218e9be6c525248", func := "loop.example/dynamicbridges/laws.FnExactLinkRoot", spec := "fnExactLinkRoot", apart := false }
def FnExactLinkRootSaid : Prop := fnExactLinkRootRow.holds Try.pinned (OpenSpec.ofChange fnExactLinkRootSpec)

/-- ITS FALSE NEIGHBOUR: 'it returns false'. Refute it at one input. -/
def fnExactLinkRootWrong : ChangeSpec := { name := "fnExactLinkRoot", fn := fun _ => fun
  | [d1, d2, d3, d4] => { results := [.lit (.bool false)], args := [d1, d2, d3, d4] }
  | _ => none }
def FnExactLinkRootWrongFalsely : Prop := fnExactLinkRootRow.holds Try.pinned (OpenSpec.ofChange fnExactLinkRootWrong)

/-- 'laws.FnExactWeightBetween': WHATEVER THE INPUT: true; the input reads as it did. -/
def fnExactWeightBetweenSpec : ChangeSpec := { name := "fnExactWeightBetween", fn := fun _ => fun
  | [d1, d2, d3] => { results := [.lit (.bool true)], args := [d1, d2, d3] }
  | _ => none }
def fnExactWeightBetweenRow : OpenClaim := { program := "ytjmbnhohfhpopaa", sum := "ac60bd64f7cc68f239d6213c94eca16e30a025777f30a17c3218e9be6c525248", func := "loop.example/dynamicbridges/laws.FnExactWeightBetween", spec := "fnExactWeightBetween", apart := false }
def FnExactWeightBetweenSaid : Prop := fnExactWeightBetweenRow.holds Try.pinned (OpenSpec.ofChange fnExactWeightBetweenSpec)

/-- ITS FALSE NEIGHBOUR: 'it returns false'. Refute it at one input. -/
def fnExactWeightBetweenWrong : ChangeSpec := { name := "fnExactWeightBetween", fn := fun _ => fun
  | [d1, d2, d3] => { results := [.lit (.bool false)], args := [d1, d2, d3] }
  | _ => none }
def FnExactWeightBetweenWrongFalsely : Prop := fnExactWeightBetweenRow.holds Try.pinned (OpenSpec.ofChange fnExactWeightBetweenWrong)

/-- 'laws.FnLinkRoot': WHATEVER THE INPUT: true; the input reads as it did. -/
def fnLinkRootSpec : ChangeSpec := { name := "fnLinkRoot", fn := fun _ => fun
  | [d] => { results := [.lit (.bool true)], args := [d] }
  | _ => none }
def fnLinkRootRow : OpenClaim := { program := "ytjmbnhohfhpopaa", sum := "ac60bd64f7cc68f239d6213c94eca16e30a025777f30a17c3218e9be6c525248", func := "loop.example/dynamicbridges/laws.FnLinkRoot", spec := "fnLinkRoot", apart := false }
def FnLinkRootSaid : Prop := fnLinkRootRow.holds Try.pinned (OpenSpec.ofChange fnLinkRootSpec)

/-- ITS FALSE NEIGHBOUR: 'it returns false'. Refute it at one input. -/
def fnLinkRootWrong : ChangeSpec := { name := "fnLinkRoot", fn := fun _ => fun
  | [d] => { results := [.lit (.bool false)], args := [d] }
  | _ => none }
def FnLinkRootWrongFalsely : Prop := fnLinkRootRow.holds Try.pinned (OpenSpec.ofChange fnLinkRootWrong)

/-- 'laws.FnWeightBetween': WHATEVER THE INPUT: true; the input reads as it did. -/
def fnWeightBetweenSpec : ChangeSpec := { name := "fnWeightBetween", fn := fun _ => fun
  | [d] => { results := [.lit (.bool true)], args := [d] }
  | _ => none }
def fnWeightBetweenRow : OpenClaim := { program := "ytjmbnhohfhpopaa", sum := "ac60bd64f7cc68f239d6213c94eca16e30a025777f30a17c3218e9be6c525248", func := "loop.example/dynamicbridges/laws.FnWeightBetween", spec := "fnWeightBetween", apart := false }
def FnWeightBetweenSaid : Prop := fnWeightBetweenRow.holds Try.pinned (OpenSpec.ofChange fnWeightBetweenSpec)

/-- ITS FALSE NEIGHBOUR: 'it returns false'. Refute it at one input. -/
def fnWeightBetweenWrong : ChangeSpec := { name := "fnWeightBetween", fn := fun _ => fun
  | [d] => { results := [.lit (.bool false)], args := [d] }
  | _ => none }
def FnWeightBetweenWrongFalsely : Prop := fnWeightBetweenRow.holds Try.pinned (OpenSpec.ofChange fnWeightBetweenWrong)

/-- 'laws.FnTurnTwice': WHATEVER THE INPUT: true; the input reads as it did. -/
def fnTurnTwiceSpec : ChangeSpec := { name := "fnTurnTwice", fn := fun _ => fun
  | [d] => { results := [.lit (.bool true)], args := [d] }
  | _ => none }
def fnTurnTwiceRow : OpenClaim := { program := "ytjmbnhohfhpopaa", sum := "ac60bd64f7cc68f239d6213c94eca16e30a025777f30a17c3218e9be6c525248", func := "loop.example/dynamicbridges/laws.FnTurnTwice", spec := "fnTurnTwice", apart := false }
def FnTurnTwiceSaid : Prop := fnTurnTwiceRow.holds Try.pinned (OpenSpec.ofChange fnTurnTwiceSpec)

/-- ITS FALSE NEIGHBOUR: 'it returns false'. Refute it at one input. -/
def fnTurnTwiceWrong : ChangeSpec := { name := "fnTurnTwice", fn := fun _ => fun
  | [d] => { results := [.lit (.bool false)], args := [d] }
  | _ => none }
def FnTurnTwiceWrongFalsely : Prop := fnTurnTwiceRow.holds Try.pinned (OpenSpec.ofChange fnTurnTwiceWrong)

/-- 'laws.FnWeightPath': WHATEVER THE INPUT: true; the input reads as it did. -/
def fnWeightPathSpec : ChangeSpec := { name := "fnWeightPath", fn := fun _ => fun
  | [d] => { results := [.lit (.bool true)], args := [d] }
  | _ => none }
def fnWeightPathRow : OpenClaim := { program := "ytjmbnhohfhpopaa", sum := "ac60bd64f7cc68f239d6213c94eca16e30a025777f30a17c3218e9be6c525248", func := "loop.example/dynamicbridges/laws.FnWeightPath", spec := "fnWeightPath", apart := false }
def FnWeightPathSaid : Prop := fnWeightPathRow.holds Try.pinned (OpenSpec.ofChange fnWeightPathSpec)

/-- ITS FALSE NEIGHBOUR: 'it returns false'. Refute it at one input. -/
def fnWeightPathWrong : ChangeSpec := { name := "fnWeightPath", fn := fun _ => fun
  | [d] => { results := [.lit (.bool false)], args := [d] }
  | _ => none }
def FnWeightPathWrongFalsely : Prop := fnWeightPathRow.holds Try.pinned (OpenSpec.ofChange fnWeightPathWrong)

/-- 'laws.FnLinkWeight': WHATEVER THE INPUT: true; the input reads as it did. -/
def fnLinkWeightSpec : ChangeSpec := { name := "fnLinkWeight", fn := fun _ => fun
  | [d] => { results := [.lit (.bool true)], args := [d] }
  | _ => none }
def fnLinkWeightRow : OpenClaim := { program := "ytjmbnhohfhpopaa", sum := "ac60bd64f7cc68f239d6213c94eca16e30a025777f30a17c3218e9be6c525248", func := "loop.example/dynamicbridges/laws.FnLinkWeight", spec := "fnLinkWeight", apart := false }
def FnLinkWeightSaid : Prop := fnLinkWeightRow.holds Try.pinned (OpenSpec.ofChange fnLinkWeightSpec)

/-- ITS FALSE NEIGHBOUR: 'it returns false'. Refute it at one input. -/
def fnLinkWeightWrong : ChangeSpec := { name := "fnLinkWeight", fn := fun _ => fun
  | [d] => { results := [.lit (.bool false)], args := [d] }
  | _ => none }
def FnLinkWeightWrongFalsely : Prop := fnLinkWeightRow.holds Try.pinned (OpenSpec.ofChange fnLinkWeightWrong)

/-- 'laws.FnTurnRoot': WHATEVER THE INPUT: true; the input reads as it did. -/
def fnTurnRootSpec : ChangeSpec := { name := "fnTurnRoot", fn := fun _ => fun
  | [d] => { results := [.lit (.bool true)], args := [d] }
  | _ => none }
def fnTurnRootRow : OpenClaim := { program := "ytjmbnhohfhpopaa", sum := "ac60bd64f7cc68f239d6213c94eca16e30a025777f30a17c3218e9be6c525248", func := "loop.example/dynamicbridges/laws.FnTurnRoot", spec := "fnTurnRoot", apart := false }
def FnTurnRootSaid : Prop := fnTurnRootRow.holds Try.pinned (OpenSpec.ofChange fnTurnRootSpec)

/-- ITS FALSE NEIGHBOUR: 'it returns false'. Refute it at one input. -/
def fnTurnRootWrong : ChangeSpec := { name := "fnTurnRoot", fn := fun _ => fun
  | [d] => { results := [.lit (.bool false)], args := [d] }
  | _ => none }
def FnTurnRootWrongFalsely : Prop := fnTurnRootRow.holds Try.pinned (OpenSpec.ofChange fnTurnRootWrong)

/-- 'laws.FnRootedGraph': WHATEVER THE INPUT: true; the input reads as it did. -/
def fnRootedGraphSpec : ChangeSpec := { name := "fnRootedGraph", fn := fun _ => fun
  | [d] => { results := [.lit (.bool true)], args := [d] }
  | _ => none }
def fnRootedGraphRow : OpenClaim := { program := "ytjmbnhohfhpopaa", sum := "ac60bd64f7cc68f239d6213c94eca16e30a025777f30a17c3218e9be6c525248", func := "loop.example/dynamicbridges/laws.FnRootedGraph", spec := "fnRootedGraph", inPlace := ["slices.overlaps[loop.example/dynamicbridges/impl.Edge]"], unfollowed := true, recurses := true, apart := false }
def FnRootedGraphSaid : Prop := fnRootedGraphRow.holds Try.pinned (OpenSpec.ofChange fnRootedGraphSpec)

/-- ITS FALSE NEIGHBOUR: 'it returns false'. Refute it at one input. -/
def fnRootedGraphWrong : ChangeSpec := { name := "fnRootedGraph", fn := fun _ => fun
  | [d] => { results := [.lit (.bool false)], args := [d] }
  | _ => none }
def FnRootedGraphWrongFalsely : Prop := fnRootedGraphRow.holds Try.pinned (OpenSpec.ofChange fnRootedGraphWrong)

/- THE SECOND FORM. 'bulk': how many values and letters a reading holds, each counted each time it is reached (what is shared counts as often as it is met; a slice's spare places count too). A statement '..UptoSaid' is the law's where the arguments, and the package variables that the reading takes, are together of bulk at most 1048576: NARROWER than '..Said'. Prove '..Said' where nothing that the law and all that it calls make is longer than what came in: it says more and counts as full. Else prove '..UptoSaid'. A law counts once. -/
mutual
def uptoBulk {H : Type} : DataW H → Nat
  | .lit (.string bytes) => bytes.length + 1
  | .lit _ => 1
  | .nil => 1
  | .ptr d => uptoBulk d + 1
  | .slice elems spare => uptoBulkAll elems + uptoBulkAll spare + 1
  | .agg parts => uptoBulkAll parts + 1
  | .iface _ d => uptoBulk d + 1
  | .map entries => uptoBulkEntries entries + 1
  | .held _ => 1
def uptoBulkAll {H : Type} : List (DataW H) → Nat
  | [] => 0
  | d :: r => uptoBulk d + uptoBulkAll r
def uptoBulkEntries {H : Type} : List (Lit × DataW H) → Nat
  | [] => 0
  | x :: r => uptoBulkEntry x + uptoBulkEntries r
def uptoBulkEntry {H : Type} : Lit × DataW H → Nat
  | (.string bytes, d) => bytes.length + uptoBulk d + 1
  | (_, d) => uptoBulk d + 1
 end
def uptoSmall : (H : Type) → List (DataW H) → Bool := fun _ ds => decide (uptoBulkAll ds ≤ 1048576)
def OpenSpec.upto (s : _root_.Go.ChangeSpec) : _root_.Go.OpenSpec := { _root_.Go.OpenSpec.ofChange s with cond := some uptoSmall }

/-- 'laws.FnMeetRoot', WHERE WHAT IT READS IS OF BULK AT MOST 1048576: true; the input reads as it did. -/
def fnMeetRootUptoRow : OpenClaim := { program := "ytjmbnhohfhpopaa", sum := "ac60bd64f7cc68f239d6213c94eca16e30a025777f30a17c3218e9be6c525248", func := "loop.example/dynamicbridges/laws.FnMeetRoot", spec := "fnMeetRoot", apart := false, narrowed := true }
def FnMeetRootUptoSaid : Prop := fnMeetRootUptoRow.holds Try.pinned (OpenSpec.upto fnMeetRootSpec)

/-- 'laws.FnCutParent', WHERE WHAT IT READS IS OF BULK AT MOST 1048576: true; the input reads as it did. -/
def fnCutParentUptoRow : OpenClaim := { program := "ytjmbnhohfhpopaa", sum := "ac60bd64f7cc68f239d6213c94eca16e30a025777f30a17c3218e9be6c525248", func := "loop.example/dynamicbridges/laws.FnCutParent", spec := "fnCutParent", apart := false, narrowed := true }
def FnCutParentUptoSaid : Prop := fnCutParentUptoRow.holds Try.pinned (OpenSpec.upto fnCutParentSpec)

/-- 'laws.FnExactTurnRoot', WHERE WHAT IT READS IS OF BULK AT MOST 1048576: true; the input reads as it did. -/
def fnExactTurnRootUptoRow : OpenClaim := { program := "ytjmbnhohfhpopaa", sum := "ac60bd64f7cc68f239d6213c94eca16e30a025777f30a17c3218e9be6c525248", func := "loop.example/dynamicbridges/laws.FnExactTurnRoot", spec := "fnExactTurnRoot", apart := false, narrowed := true }
def FnExactTurnRootUptoSaid : Prop := fnExactTurnRootUptoRow.holds Try.pinned (OpenSpec.upto fnExactTurnRootSpec)

/-- 'laws.FnExactLinkRoot', WHERE WHAT IT READS IS OF BULK AT MOST 1048576: true; the input reads as it did. -/
def fnExactLinkRootUptoRow : OpenClaim := { program := "ytjmbnhohfhpopaa", sum := "ac60bd64f7cc68f239d6213c94eca16e30a025777f30a17c3218e9be6c525248", func := "loop.example/dynamicbridges/laws.FnExactLinkRoot", spec := "fnExactLinkRoot", apart := false, narrowed := true }
def FnExactLinkRootUptoSaid : Prop := fnExactLinkRootUptoRow.holds Try.pinned (OpenSpec.upto fnExactLinkRootSpec)

/-- 'laws.FnExactWeightBetween', WHERE WHAT IT READS IS OF BULK AT MOST 1048576: true; the input reads as it did. -/
def fnExactWeightBetweenUptoRow : OpenClaim := { program := "ytjmbnhohfhpopaa", sum := "ac60bd64f7cc68f239d6213c94eca16e30a025777f30a17c3218e9be6c525248", func := "loop.example/dynamicbridges/laws.FnExactWeightBetween", spec := "fnExactWeightBetween", apart := false, narrowed := true }
def FnExactWeightBetweenUptoSaid : Prop := fnExactWeightBetweenUptoRow.holds Try.pinned (OpenSpec.upto fnExactWeightBetweenSpec)

/-- 'laws.FnLinkRoot', WHERE WHAT IT READS IS OF BULK AT MOST 1048576: true; the input reads as it did. -/
def fnLinkRootUptoRow : OpenClaim := { program := "ytjmbnhohfhpopaa", sum := "ac60bd64f7cc68f239d6213c94eca16e30a025777f30a17c3218e9be6c525248", func := "loop.example/dynamicbridges/laws.FnLinkRoot", spec := "fnLinkRoot", apart := false, narrowed := true }
def FnLinkRootUptoSaid : Prop := fnLinkRootUptoRow.holds Try.pinned (OpenSpec.upto fnLinkRootSpec)

/-- 'laws.FnWeightBetween', WHERE WHAT IT READS IS OF BULK AT MOST 1048576: true; the input reads as it did. -/
def fnWeightBetweenUptoRow : OpenClaim := { program := "ytjmbnhohfhpopaa", sum := "ac60bd64f7cc68f239d6213c94eca16e30a025777f30a17c3218e9be6c525248", func := "loop.example/dynamicbridges/laws.FnWeightBetween", spec := "fnWeightBetween", apart := false, narrowed := true }
def FnWeightBetweenUptoSaid : Prop := fnWeightBetweenUptoRow.holds Try.pinned (OpenSpec.upto fnWeightBetweenSpec)

/-- 'laws.FnTurnTwice', WHERE WHAT IT READS IS OF BULK AT MOST 1048576: true; the input reads as it did. -/
def fnTurnTwiceUptoRow : OpenClaim := { program := "ytjmbnhohfhpopaa", sum := "ac60bd64f7cc68f239d6213c94eca16e30a025777f30a17c3218e9be6c525248", func := "loop.example/dynamicbridges/laws.FnTurnTwice", spec := "fnTurnTwice", apart := false, narrowed := true }
def FnTurnTwiceUptoSaid : Prop := fnTurnTwiceUptoRow.holds Try.pinned (OpenSpec.upto fnTurnTwiceSpec)

/-- 'laws.FnWeightPath', WHERE WHAT IT READS IS OF BULK AT MOST 1048576: true; the input reads as it did. -/
def fnWeightPathUptoRow : OpenClaim := { program := "ytjmbnhohfhpopaa", sum := "ac60bd64f7cc68f239d6213c94eca16e30a025777f30a17c3218e9be6c525248", func := "loop.example/dynamicbridges/laws.FnWeightPath", spec := "fnWeightPath", apart := false, narrowed := true }
def FnWeightPathUptoSaid : Prop := fnWeightPathUptoRow.holds Try.pinned (OpenSpec.upto fnWeightPathSpec)

/-- 'laws.FnLinkWeight', WHERE WHAT IT READS IS OF BULK AT MOST 1048576: true; the input reads as it did. -/
def fnLinkWeightUptoRow : OpenClaim := { program := "ytjmbnhohfhpopaa", sum := "ac60bd64f7cc68f239d6213c94eca16e30a025777f30a17c3218e9be6c525248", func := "loop.example/dynamicbridges/laws.FnLinkWeight", spec := "fnLinkWeight", apart := false, narrowed := true }
def FnLinkWeightUptoSaid : Prop := fnLinkWeightUptoRow.holds Try.pinned (OpenSpec.upto fnLinkWeightSpec)

/-- 'laws.FnTurnRoot', WHERE WHAT IT READS IS OF BULK AT MOST 1048576: true; the input reads as it did. -/
def fnTurnRootUptoRow : OpenClaim := { program := "ytjmbnhohfhpopaa", sum := "ac60bd64f7cc68f239d6213c94eca16e30a025777f30a17c3218e9be6c525248", func := "loop.example/dynamicbridges/laws.FnTurnRoot", spec := "fnTurnRoot", apart := false, narrowed := true }
def FnTurnRootUptoSaid : Prop := fnTurnRootUptoRow.holds Try.pinned (OpenSpec.upto fnTurnRootSpec)

/-- 'laws.FnRootedGraph', WHERE WHAT IT READS IS OF BULK AT MOST 1048576: true; the input reads as it did. -/
def fnRootedGraphUptoRow : OpenClaim := { program := "ytjmbnhohfhpopaa", sum := "ac60bd64f7cc68f239d6213c94eca16e30a025777f30a17c3218e9be6c525248", func := "loop.example/dynamicbridges/laws.FnRootedGraph", spec := "fnRootedGraph", inPlace := ["slices.overlaps[loop.example/dynamicbridges/impl.Edge]"], unfollowed := true, recurses := true, apart := false, narrowed := true }
def FnRootedGraphUptoSaid : Prop := fnRootedGraphUptoRow.holds Try.pinned (OpenSpec.upto fnRootedGraphSpec)

end Rows
end Go.Proofs.Ytjmbnhohfhpopaa
