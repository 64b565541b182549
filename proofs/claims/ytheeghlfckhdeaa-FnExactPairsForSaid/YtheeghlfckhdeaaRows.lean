/-
  No cell of these rows narrows 'for every input' (looked for: loops, veiled, ifaces, maps, wideKeys, modest, calm, conditions, laid).
  DERIVED. THE GIVEN ROWS OF THIS SEAT. 12 by the template 'for every input the law returns true; each argument reads behind the call as it read before'; 0 by the template 'total and deterministic' (their statements: YtheeghlfckhdeaaTotals.lean).
  GIVEN WITH THE SEED: the statements are not yours to turn. If you find one false, say at which input.
  Laid BY PROGRAM, IN A SANDBOX (cutbox-rows.mjs): the forced cells as the released guide's own fill.sh prints them over the translation f93cc32e1c1c417d… (all of the seat's roots in one cut). By AI agents, Wed Nov 11 2026. No macro, syntax, notation, axiom, sorry.
-/
import Derived.Test.YtheeghlfckhdeaaChecked
import GoSem.Claim
import GoSem.ClaimJoined
import GoSem.ClaimMapViews
import Derived.JoinedTies
import Derived.KernelRfl
namespace Go.Proofs.Ytheeghlfckhdeaa
/- THE CELL 'sum', in the pinned program and in every row, IS THE sha256 OF THE DUMP (.gsa) THAT YtheeghlfckhdeaaProg.lean LOADS. Nothing in Lean hashes anything: it is a label: what it is worth is what the hold of that sum in a sandbox is worth. -/
noncomputable def Try.pinned : Pinned := { name := "ytheeghlfckhdeaa", sum := "f93cc32e1c1c417db8ed4ade0bf2786731b2a14cdaedc9ac8c20bdb1129b53c1", checked := Try.checked }
namespace Rows
def none {H : Type} : Left H := { results := [], args := [] }

/-- 'laws.FnExactIsHidden': WHATEVER THE INPUT: true; the input reads as it did. -/
def fnExactIsHiddenSpec : ChangeSpec := { name := "fnExactIsHidden", fn := fun _ => fun
  | [d1, d2, d3] => { results := [.lit (.bool true)], args := [d1, d2, d3] }
  | _ => none }
def fnExactIsHiddenRow : OpenClaim := { program := "ytheeghlfckhdeaa", sum := "f93cc32e1c1c417db8ed4ade0bf2786731b2a14cdaedc9ac8c20bdb1129b53c1", func := "loop.example/g01351/laws.FnExactIsHidden", spec := "fnExactIsHidden", apart := false }
def FnExactIsHiddenSaid : Prop := fnExactIsHiddenRow.holds Try.pinned (OpenSpec.ofChange fnExactIsHiddenSpec)

/-- ITS FALSE NEIGHBOUR: 'it returns false'. Refute it at one input. -/
def fnExactIsHiddenWrong : ChangeSpec := { name := "fnExactIsHidden", fn := fun _ => fun
  | [d1, d2, d3] => { results := [.lit (.bool false)], args := [d1, d2, d3] }
  | _ => none }
def FnExactIsHiddenWrongFalsely : Prop := fnExactIsHiddenRow.holds Try.pinned (OpenSpec.ofChange fnExactIsHiddenWrong)

/-- 'laws.FnExactBackBeam': WHATEVER THE INPUT: true; the input reads as it did. -/
def fnExactBackBeamSpec : ChangeSpec := { name := "fnExactBackBeam", fn := fun _ => fun
  | [d1, d2] => { results := [.lit (.bool true)], args := [d1, d2] }
  | _ => none }
def fnExactBackBeamRow : OpenClaim := { program := "ytheeghlfckhdeaa", sum := "f93cc32e1c1c417db8ed4ade0bf2786731b2a14cdaedc9ac8c20bdb1129b53c1", func := "loop.example/g01351/laws.FnExactBackBeam", spec := "fnExactBackBeam", apart := false }
def FnExactBackBeamSaid : Prop := fnExactBackBeamRow.holds Try.pinned (OpenSpec.ofChange fnExactBackBeamSpec)

/-- ITS FALSE NEIGHBOUR: 'it returns false'. Refute it at one input. -/
def fnExactBackBeamWrong : ChangeSpec := { name := "fnExactBackBeam", fn := fun _ => fun
  | [d1, d2] => { results := [.lit (.bool false)], args := [d1, d2] }
  | _ => none }
def FnExactBackBeamWrongFalsely : Prop := fnExactBackBeamRow.holds Try.pinned (OpenSpec.ofChange fnExactBackBeamWrong)

/-- 'laws.FnExactUnfoldedPlace': WHATEVER THE INPUT: true; the input reads as it did. -/
def fnExactUnfoldedPlaceSpec : ChangeSpec := { name := "fnExactUnfoldedPlace", fn := fun _ => fun
  | [d1, d2, d3] => { results := [.lit (.bool true)], args := [d1, d2, d3] }
  | _ => none }
def fnExactUnfoldedPlaceRow : OpenClaim := { program := "ytheeghlfckhdeaa", sum := "f93cc32e1c1c417db8ed4ade0bf2786731b2a14cdaedc9ac8c20bdb1129b53c1", func := "loop.example/g01351/laws.FnExactUnfoldedPlace", spec := "fnExactUnfoldedPlace", apart := false }
def FnExactUnfoldedPlaceSaid : Prop := fnExactUnfoldedPlaceRow.holds Try.pinned (OpenSpec.ofChange fnExactUnfoldedPlaceSpec)

/-- ITS FALSE NEIGHBOUR: 'it returns false'. Refute it at one input. -/
def fnExactUnfoldedPlaceWrong : ChangeSpec := { name := "fnExactUnfoldedPlace", fn := fun _ => fun
  | [d1, d2, d3] => { results := [.lit (.bool false)], args := [d1, d2, d3] }
  | _ => none }
def FnExactUnfoldedPlaceWrongFalsely : Prop := fnExactUnfoldedPlaceRow.holds Try.pinned (OpenSpec.ofChange fnExactUnfoldedPlaceWrong)

/-- 'laws.FnExactShadowOnWall': WHATEVER THE INPUT: true; the input reads as it did. -/
def fnExactShadowOnWallSpec : ChangeSpec := { name := "fnExactShadowOnWall", fn := fun _ => fun
  | [d1, d2, d3] => { results := [.lit (.bool true)], args := [d1, d2, d3] }
  | _ => none }
def fnExactShadowOnWallRow : OpenClaim := { program := "ytheeghlfckhdeaa", sum := "f93cc32e1c1c417db8ed4ade0bf2786731b2a14cdaedc9ac8c20bdb1129b53c1", func := "loop.example/g01351/laws.FnExactShadowOnWall", spec := "fnExactShadowOnWall", apart := false }
def FnExactShadowOnWallSaid : Prop := fnExactShadowOnWallRow.holds Try.pinned (OpenSpec.ofChange fnExactShadowOnWallSpec)

/-- ITS FALSE NEIGHBOUR: 'it returns false'. Refute it at one input. -/
def fnExactShadowOnWallWrong : ChangeSpec := { name := "fnExactShadowOnWall", fn := fun _ => fun
  | [d1, d2, d3] => { results := [.lit (.bool false)], args := [d1, d2, d3] }
  | _ => none }
def FnExactShadowOnWallWrongFalsely : Prop := fnExactShadowOnWallRow.holds Try.pinned (OpenSpec.ofChange fnExactShadowOnWallWrong)

/-- 'laws.FnExactHiddenHeight': WHATEVER THE INPUT: true; the input reads as it did. -/
def fnExactHiddenHeightSpec : ChangeSpec := { name := "fnExactHiddenHeight", fn := fun _ => fun
  | [d1, d2, d3] => { results := [.lit (.bool true)], args := [d1, d2, d3] }
  | _ => none }
def fnExactHiddenHeightRow : OpenClaim := { program := "ytheeghlfckhdeaa", sum := "f93cc32e1c1c417db8ed4ade0bf2786731b2a14cdaedc9ac8c20bdb1129b53c1", func := "loop.example/g01351/laws.FnExactHiddenHeight", spec := "fnExactHiddenHeight", apart := false }
def FnExactHiddenHeightSaid : Prop := fnExactHiddenHeightRow.holds Try.pinned (OpenSpec.ofChange fnExactHiddenHeightSpec)

/-- ITS FALSE NEIGHBOUR: 'it returns false'. Refute it at one input. -/
def fnExactHiddenHeightWrong : ChangeSpec := { name := "fnExactHiddenHeight", fn := fun _ => fun
  | [d1, d2, d3] => { results := [.lit (.bool false)], args := [d1, d2, d3] }
  | _ => none }
def FnExactHiddenHeightWrongFalsely : Prop := fnExactHiddenHeightRow.holds Try.pinned (OpenSpec.ofChange fnExactHiddenHeightWrong)

/-- 'laws.FnExactHeightAt': WHATEVER THE INPUT: true; the input reads as it did. -/
def fnExactHeightAtSpec : ChangeSpec := { name := "fnExactHeightAt", fn := fun _ => fun
  | [d1, d2, d3] => { results := [.lit (.bool true)], args := [d1, d2, d3] }
  | _ => none }
def fnExactHeightAtRow : OpenClaim := { program := "ytheeghlfckhdeaa", sum := "f93cc32e1c1c417db8ed4ade0bf2786731b2a14cdaedc9ac8c20bdb1129b53c1", func := "loop.example/g01351/laws.FnExactHeightAt", spec := "fnExactHeightAt", apart := false }
def FnExactHeightAtSaid : Prop := fnExactHeightAtRow.holds Try.pinned (OpenSpec.ofChange fnExactHeightAtSpec)

/-- ITS FALSE NEIGHBOUR: 'it returns false'. Refute it at one input. -/
def fnExactHeightAtWrong : ChangeSpec := { name := "fnExactHeightAt", fn := fun _ => fun
  | [d1, d2, d3] => { results := [.lit (.bool false)], args := [d1, d2, d3] }
  | _ => none }
def FnExactHeightAtWrongFalsely : Prop := fnExactHeightAtRow.holds Try.pinned (OpenSpec.ofChange fnExactHeightAtWrong)

/-- 'laws.FnExactHighestAt': WHATEVER THE INPUT: true; the input reads as it did. -/
def fnExactHighestAtSpec : ChangeSpec := { name := "fnExactHighestAt", fn := fun _ => fun
  | [d1, d2] => { results := [.lit (.bool true)], args := [d1, d2] }
  | _ => none }
def fnExactHighestAtRow : OpenClaim := { program := "ytheeghlfckhdeaa", sum := "f93cc32e1c1c417db8ed4ade0bf2786731b2a14cdaedc9ac8c20bdb1129b53c1", func := "loop.example/g01351/laws.FnExactHighestAt", spec := "fnExactHighestAt", apart := false }
def FnExactHighestAtSaid : Prop := fnExactHighestAtRow.holds Try.pinned (OpenSpec.ofChange fnExactHighestAtSpec)

/-- ITS FALSE NEIGHBOUR: 'it returns false'. Refute it at one input. -/
def fnExactHighestAtWrong : ChangeSpec := { name := "fnExactHighestAt", fn := fun _ => fun
  | [d1, d2] => { results := [.lit (.bool false)], args := [d1, d2] }
  | _ => none }
def FnExactHighestAtWrongFalsely : Prop := fnExactHighestAtRow.holds Try.pinned (OpenSpec.ofChange fnExactHighestAtWrong)

/-- 'laws.FnExactLengthsOf': WHATEVER THE INPUT: true; the input reads as it did. -/
def fnExactLengthsOfSpec : ChangeSpec := { name := "fnExactLengthsOf", fn := fun _ => fun
  | [d] => { results := [.lit (.bool true)], args := [d] }
  | _ => none }
def fnExactLengthsOfRow : OpenClaim := { program := "ytheeghlfckhdeaa", sum := "f93cc32e1c1c417db8ed4ade0bf2786731b2a14cdaedc9ac8c20bdb1129b53c1", func := "loop.example/g01351/laws.FnExactLengthsOf", spec := "fnExactLengthsOf", apart := false }
def FnExactLengthsOfSaid : Prop := fnExactLengthsOfRow.holds Try.pinned (OpenSpec.ofChange fnExactLengthsOfSpec)

/-- ITS FALSE NEIGHBOUR: 'it returns false'. Refute it at one input. -/
def fnExactLengthsOfWrong : ChangeSpec := { name := "fnExactLengthsOf", fn := fun _ => fun
  | [d] => { results := [.lit (.bool false)], args := [d] }
  | _ => none }
def FnExactLengthsOfWrongFalsely : Prop := fnExactLengthsOfRow.holds Try.pinned (OpenSpec.ofChange fnExactLengthsOfWrong)

/-- 'laws.FnExactIsWholeCrossing': WHATEVER THE INPUT: true; the input reads as it did. -/
def fnExactIsWholeCrossingSpec : ChangeSpec := { name := "fnExactIsWholeCrossing", fn := fun _ => fun
  | [d] => { results := [.lit (.bool true)], args := [d] }
  | _ => none }
def fnExactIsWholeCrossingRow : OpenClaim := { program := "ytheeghlfckhdeaa", sum := "f93cc32e1c1c417db8ed4ade0bf2786731b2a14cdaedc9ac8c20bdb1129b53c1", func := "loop.example/g01351/laws.FnExactIsWholeCrossing", spec := "fnExactIsWholeCrossing", apart := false }
def FnExactIsWholeCrossingSaid : Prop := fnExactIsWholeCrossingRow.holds Try.pinned (OpenSpec.ofChange fnExactIsWholeCrossingSpec)

/-- ITS FALSE NEIGHBOUR: 'it returns false'. Refute it at one input. -/
def fnExactIsWholeCrossingWrong : ChangeSpec := { name := "fnExactIsWholeCrossing", fn := fun _ => fun
  | [d] => { results := [.lit (.bool false)], args := [d] }
  | _ => none }
def FnExactIsWholeCrossingWrongFalsely : Prop := fnExactIsWholeCrossingRow.holds Try.pinned (OpenSpec.ofChange fnExactIsWholeCrossingWrong)

/-- 'laws.FnExactArePoles': WHATEVER THE INPUT: true; the input reads as it did. -/
def fnExactArePolesSpec : ChangeSpec := { name := "fnExactArePoles", fn := fun _ => fun
  | [d1, d2] => { results := [.lit (.bool true)], args := [d1, d2] }
  | _ => none }
def fnExactArePolesRow : OpenClaim := { program := "ytheeghlfckhdeaa", sum := "f93cc32e1c1c417db8ed4ade0bf2786731b2a14cdaedc9ac8c20bdb1129b53c1", func := "loop.example/g01351/laws.FnExactArePoles", spec := "fnExactArePoles", apart := false }
def FnExactArePolesSaid : Prop := fnExactArePolesRow.holds Try.pinned (OpenSpec.ofChange fnExactArePolesSpec)

/-- ITS FALSE NEIGHBOUR: 'it returns false'. Refute it at one input. -/
def fnExactArePolesWrong : ChangeSpec := { name := "fnExactArePoles", fn := fun _ => fun
  | [d1, d2] => { results := [.lit (.bool false)], args := [d1, d2] }
  | _ => none }
def FnExactArePolesWrongFalsely : Prop := fnExactArePolesRow.holds Try.pinned (OpenSpec.ofChange fnExactArePolesWrong)

/-- 'laws.FnExactPairsFor': WHATEVER THE INPUT: true; the input reads as it did. -/
def fnExactPairsForSpec : ChangeSpec := { name := "fnExactPairsFor", fn := fun _ => fun
  | [d] => { results := [.lit (.bool true)], args := [d] }
  | _ => none }
def fnExactPairsForRow : OpenClaim := { program := "ytheeghlfckhdeaa", sum := "f93cc32e1c1c417db8ed4ade0bf2786731b2a14cdaedc9ac8c20bdb1129b53c1", func := "loop.example/g01351/laws.FnExactPairsFor", spec := "fnExactPairsFor", apart := false }
def FnExactPairsForSaid : Prop := fnExactPairsForRow.holds Try.pinned (OpenSpec.ofChange fnExactPairsForSpec)

/-- ITS FALSE NEIGHBOUR: 'it returns false'. Refute it at one input. -/
def fnExactPairsForWrong : ChangeSpec := { name := "fnExactPairsFor", fn := fun _ => fun
  | [d] => { results := [.lit (.bool false)], args := [d] }
  | _ => none }
def FnExactPairsForWrongFalsely : Prop := fnExactPairsForRow.holds Try.pinned (OpenSpec.ofChange fnExactPairsForWrong)

/-- 'laws.FnExactTablesFor': WHATEVER THE INPUT: true; the input reads as it did. -/
def fnExactTablesForSpec : ChangeSpec := { name := "fnExactTablesFor", fn := fun _ => fun
  | [d] => { results := [.lit (.bool true)], args := [d] }
  | _ => none }
def fnExactTablesForRow : OpenClaim := { program := "ytheeghlfckhdeaa", sum := "f93cc32e1c1c417db8ed4ade0bf2786731b2a14cdaedc9ac8c20bdb1129b53c1", func := "loop.example/g01351/laws.FnExactTablesFor", spec := "fnExactTablesFor", apart := false }
def FnExactTablesForSaid : Prop := fnExactTablesForRow.holds Try.pinned (OpenSpec.ofChange fnExactTablesForSpec)

/-- ITS FALSE NEIGHBOUR: 'it returns false'. Refute it at one input. -/
def fnExactTablesForWrong : ChangeSpec := { name := "fnExactTablesFor", fn := fun _ => fun
  | [d] => { results := [.lit (.bool false)], args := [d] }
  | _ => none }
def FnExactTablesForWrongFalsely : Prop := fnExactTablesForRow.holds Try.pinned (OpenSpec.ofChange fnExactTablesForWrong)

/- THE SECOND FORM. 'bulk': how many values and letters a reading holds, each counted each time it is reached (what is shared counts as often as it is met; a slice's spare places count too). A statement '..UptoSaid' is the law's where the arguments, and the package variables that the reading takes, are together of bulk at most 1048576: NARROWER than '..Said'. Prove '..Said' where nothing that the law and all that it calls make is longer than what came in: it says more and counts as full. Else prove '..UptoSaid'. A law counts once. -/
mutual
def uptoBulk {H : Type} : DataW H → Nat
  | .lit (.string bytes) => bytes.length + 1
  | .lit _ => 1
  | .nil => 1
  | .ptr d => uptoBulk d + 1
  | .slice elems spare => uptoBulkAll elems + uptoBulkAll spare + 1
  | .agg parts => uptoBulkAll parts + 1
  | .iface _ d => uptoBulk d + 1
  | .map entries => uptoBulkEntries entries + 1
  | .held _ => 1
def uptoBulkAll {H : Type} : List (DataW H) → Nat
  | [] => 0
  | d :: r => uptoBulk d + uptoBulkAll r
def uptoBulkEntries {H : Type} : List (Lit × DataW H) → Nat
  | [] => 0
  | x :: r => uptoBulkEntry x + uptoBulkEntries r
def uptoBulkEntry {H : Type} : Lit × DataW H → Nat
  | (.string bytes, d) => bytes.length + uptoBulk d + 1
  | (_, d) => uptoBulk d + 1
 end
def uptoSmall : (H : Type) → List (DataW H) → Bool := fun _ ds => decide (uptoBulkAll ds ≤ 1048576)
def OpenSpec.upto (s : _root_.Go.ChangeSpec) : _root_.Go.OpenSpec := { _root_.Go.OpenSpec.ofChange s with cond := some uptoSmall }

/-- 'laws.FnExactIsHidden', WHERE WHAT IT READS IS OF BULK AT MOST 1048576: true; the input reads as it did. -/
def fnExactIsHiddenUptoRow : OpenClaim := { program := "ytheeghlfckhdeaa", sum := "f93cc32e1c1c417db8ed4ade0bf2786731b2a14cdaedc9ac8c20bdb1129b53c1", func := "loop.example/g01351/laws.FnExactIsHidden", spec := "fnExactIsHidden", apart := false, narrowed := true }
def FnExactIsHiddenUptoSaid : Prop := fnExactIsHiddenUptoRow.holds Try.pinned (OpenSpec.upto fnExactIsHiddenSpec)

/-- 'laws.FnExactBackBeam', WHERE WHAT IT READS IS OF BULK AT MOST 1048576: true; the input reads as it did. -/
def fnExactBackBeamUptoRow : OpenClaim := { program := "ytheeghlfckhdeaa", sum := "f93cc32e1c1c417db8ed4ade0bf2786731b2a14cdaedc9ac8c20bdb1129b53c1", func := "loop.example/g01351/laws.FnExactBackBeam", spec := "fnExactBackBeam", apart := false, narrowed := true }
def FnExactBackBeamUptoSaid : Prop := fnExactBackBeamUptoRow.holds Try.pinned (OpenSpec.upto fnExactBackBeamSpec)

/-- 'laws.FnExactUnfoldedPlace', WHERE WHAT IT READS IS OF BULK AT MOST 1048576: true; the input reads as it did. -/
def fnExactUnfoldedPlaceUptoRow : OpenClaim := { program := "ytheeghlfckhdeaa", sum := "f93cc32e1c1c417db8ed4ade0bf2786731b2a14cdaedc9ac8c20bdb1129b53c1", func := "loop.example/g01351/laws.FnExactUnfoldedPlace", spec := "fnExactUnfoldedPlace", apart := false, narrowed := true }
def FnExactUnfoldedPlaceUptoSaid : Prop := fnExactUnfoldedPlaceUptoRow.holds Try.pinned (OpenSpec.upto fnExactUnfoldedPlaceSpec)

/-- 'laws.FnExactShadowOnWall', WHERE WHAT IT READS IS OF BULK AT MOST 1048576: true; the input reads as it did. -/
def fnExactShadowOnWallUptoRow : OpenClaim := { program := "ytheeghlfckhdeaa", sum := "f93cc32e1c1c417db8ed4ade0bf2786731b2a14cdaedc9ac8c20bdb1129b53c1", func := "loop.example/g01351/laws.FnExactShadowOnWall", spec := "fnExactShadowOnWall", apart := false, narrowed := true }
def FnExactShadowOnWallUptoSaid : Prop := fnExactShadowOnWallUptoRow.holds Try.pinned (OpenSpec.upto fnExactShadowOnWallSpec)

/-- 'laws.FnExactHiddenHeight', WHERE WHAT IT READS IS OF BULK AT MOST 1048576: true; the input reads as it did. -/
def fnExactHiddenHeightUptoRow : OpenClaim := { program := "ytheeghlfckhdeaa", sum := "f93cc32e1c1c417db8ed4ade0bf2786731b2a14cdaedc9ac8c20bdb1129b53c1", func := "loop.example/g01351/laws.FnExactHiddenHeight", spec := "fnExactHiddenHeight", apart := false, narrowed := true }
def FnExactHiddenHeightUptoSaid : Prop := fnExactHiddenHeightUptoRow.holds Try.pinned (OpenSpec.upto fnExactHiddenHeightSpec)

/-- 'laws.FnExactHeightAt', WHERE WHAT IT READS IS OF BULK AT MOST 1048576: true; the input reads as it did. -/
def fnExactHeightAtUptoRow : OpenClaim := { program := "ytheeghlfckhdeaa", sum := "f93cc32e1c1c417db8ed4ade0bf2786731b2a14cdaedc9ac8c20bdb1129b53c1", func := "loop.example/g01351/laws.FnExactHeightAt", spec := "fnExactHeightAt", apart := false, narrowed := true }
def FnExactHeightAtUptoSaid : Prop := fnExactHeightAtUptoRow.holds Try.pinned (OpenSpec.upto fnExactHeightAtSpec)

/-- 'laws.FnExactHighestAt', WHERE WHAT IT READS IS OF BULK AT MOST 1048576: true; the input reads as it did. -/
def fnExactHighestAtUptoRow : OpenClaim := { program := "ytheeghlfckhdeaa", sum := "f93cc32e1c1c417db8ed4ade0bf2786731b2a14cdaedc9ac8c20bdb1129b53c1", func := "loop.example/g01351/laws.FnExactHighestAt", spec := "fnExactHighestAt", apart := false, narrowed := true }
def FnExactHighestAtUptoSaid : Prop := fnExactHighestAtUptoRow.holds Try.pinned (OpenSpec.upto fnExactHighestAtSpec)

/-- 'laws.FnExactLengthsOf', WHERE WHAT IT READS IS OF BULK AT MOST 1048576: true; the input reads as it did. -/
def fnExactLengthsOfUptoRow : OpenClaim := { program := "ytheeghlfckhdeaa", sum := "f93cc32e1c1c417db8ed4ade0bf2786731b2a14cdaedc9ac8c20bdb1129b53c1", func := "loop.example/g01351/laws.FnExactLengthsOf", spec := "fnExactLengthsOf", apart := false, narrowed := true }
def FnExactLengthsOfUptoSaid : Prop := fnExactLengthsOfUptoRow.holds Try.pinned (OpenSpec.upto fnExactLengthsOfSpec)

/-- 'laws.FnExactIsWholeCrossing', WHERE WHAT IT READS IS OF BULK AT MOST 1048576: true; the input reads as it did. -/
def fnExactIsWholeCrossingUptoRow : OpenClaim := { program := "ytheeghlfckhdeaa", sum := "f93cc32e1c1c417db8ed4ade0bf2786731b2a14cdaedc9ac8c20bdb1129b53c1", func := "loop.example/g01351/laws.FnExactIsWholeCrossing", spec := "fnExactIsWholeCrossing", apart := false, narrowed := true }
def FnExactIsWholeCrossingUptoSaid : Prop := fnExactIsWholeCrossingUptoRow.holds Try.pinned (OpenSpec.upto fnExactIsWholeCrossingSpec)

/-- 'laws.FnExactArePoles', WHERE WHAT IT READS IS OF BULK AT MOST 1048576: true; the input reads as it did. -/
def fnExactArePolesUptoRow : OpenClaim := { program := "ytheeghlfckhdeaa", sum := "f93cc32e1c1c417db8ed4ade0bf2786731b2a14cdaedc9ac8c20bdb1129b53c1", func := "loop.example/g01351/laws.FnExactArePoles", spec := "fnExactArePoles", apart := false, narrowed := true }
def FnExactArePolesUptoSaid : Prop := fnExactArePolesUptoRow.holds Try.pinned (OpenSpec.upto fnExactArePolesSpec)

/-- 'laws.FnExactPairsFor', WHERE WHAT IT READS IS OF BULK AT MOST 1048576: true; the input reads as it did. -/
def fnExactPairsForUptoRow : OpenClaim := { program := "ytheeghlfckhdeaa", sum := "f93cc32e1c1c417db8ed4ade0bf2786731b2a14cdaedc9ac8c20bdb1129b53c1", func := "loop.example/g01351/laws.FnExactPairsFor", spec := "fnExactPairsFor", apart := false, narrowed := true }
def FnExactPairsForUptoSaid : Prop := fnExactPairsForUptoRow.holds Try.pinned (OpenSpec.upto fnExactPairsForSpec)

/-- 'laws.FnExactTablesFor', WHERE WHAT IT READS IS OF BULK AT MOST 1048576: true; the input reads as it did. -/
def fnExactTablesForUptoRow : OpenClaim := { program := "ytheeghlfckhdeaa", sum := "f93cc32e1c1c417db8ed4ade0bf2786731b2a14cdaedc9ac8c20bdb1129b53c1", func := "loop.example/g01351/laws.FnExactTablesFor", spec := "fnExactTablesFor", apart := false, narrowed := true }
def FnExactTablesForUptoSaid : Prop := fnExactTablesForUptoRow.holds Try.pinned (OpenSpec.upto fnExactTablesForSpec)

end Rows
end Go.Proofs.Ytheeghlfckhdeaa
