/-
  No cell of these rows narrows 'for every input' (looked for: loops, veiled, ifaces, maps, wideKeys, modest, calm, conditions, laid).
  DERIVED. THE GIVEN ROWS OF THIS SEAT. 12 by the template 'for every input the law returns true; each argument reads behind the call as it read before'; 0 by the template 'total and deterministic' (their statements: YthijdgnfoilaeaaTotals.lean).
  GIVEN WITH THE SEED: the statements are not yours to turn. If you find one false, say at which input.
  Laid BY PROGRAM, IN A SANDBOX (cutbox-rows.mjs): the forced cells as the released guide's own fill.sh prints them over the translation 4ee4fc8c93cbad73… (all of the seat's roots in one cut). By AI agents, Wed Nov 11 2026. No macro, syntax, notation, axiom, sorry.
-/
import Derived.Test.YthijdgnfoilaeaaChecked
import GoSem.Claim
import GoSem.ClaimJoined
import GoSem.ClaimMapViews
import Derived.JoinedTies
import Derived.KernelRfl
namespace Go.Proofs.Ythijdgnfoilaeaa
/- THE CELL 'sum', in the pinned program and in every row, IS THE sha256 OF THE DUMP (.gsa) THAT YthijdgnfoilaeaaProg.lean LOADS. Nothing in Lean hashes anything: it is a label: what it is worth is what the hold of that sum in a sandbox is worth. -/
noncomputable def Try.pinned : Pinned := { name := "ythijdgnfoilaeaa", sum := "4ee4fc8c93cbad7301135e0a1e5b13b6a3a23f74758ea22cd68c3cc274675299", checked := Try.checked }
namespace Rows
def none {H : Type} : Left H := { results := [], args := [] }

/-- 'laws.FnExactMirrorLadders': WHATEVER THE INPUT: true; the input reads as it did. -/
def fnExactMirrorLaddersSpec : ChangeSpec := { name := "fnExactMirrorLadders", fn := fun _ => fun
  | [d] => { results := [.lit (.bool true)], args := [d] }
  | _ => none }
def fnExactMirrorLaddersRow : OpenClaim := { program := "ythijdgnfoilaeaa", sum := "4ee4fc8c93cbad7301135e0a1e5b13b6a3a23f74758ea22cd68c3cc274675299", func := "loop.example/g01351/laws.FnExactMirrorLadders", spec := "fnExactMirrorLadders", apart := false }
def FnExactMirrorLaddersSaid : Prop := fnExactMirrorLaddersRow.holds Try.pinned (OpenSpec.ofChange fnExactMirrorLaddersSpec)

/-- ITS FALSE NEIGHBOUR: 'it returns false'. Refute it at one input. -/
def fnExactMirrorLaddersWrong : ChangeSpec := { name := "fnExactMirrorLadders", fn := fun _ => fun
  | [d] => { results := [.lit (.bool false)], args := [d] }
  | _ => none }
def FnExactMirrorLaddersWrongFalsely : Prop := fnExactMirrorLaddersRow.holds Try.pinned (OpenSpec.ofChange fnExactMirrorLaddersWrong)

/-- 'laws.FnExactMainBounces': WHATEVER THE INPUT: true; the input reads as it did. -/
def fnExactMainBouncesSpec : ChangeSpec := { name := "fnExactMainBounces", fn := fun _ => fun
  | [d] => { results := [.lit (.bool true)], args := [d] }
  | _ => none }
def fnExactMainBouncesRow : OpenClaim := { program := "ythijdgnfoilaeaa", sum := "4ee4fc8c93cbad7301135e0a1e5b13b6a3a23f74758ea22cd68c3cc274675299", func := "loop.example/g01351/laws.FnExactMainBounces", spec := "fnExactMainBounces", apart := false }
def FnExactMainBouncesSaid : Prop := fnExactMainBouncesRow.holds Try.pinned (OpenSpec.ofChange fnExactMainBouncesSpec)

/-- ITS FALSE NEIGHBOUR: 'it returns false'. Refute it at one input. -/
def fnExactMainBouncesWrong : ChangeSpec := { name := "fnExactMainBounces", fn := fun _ => fun
  | [d] => { results := [.lit (.bool false)], args := [d] }
  | _ => none }
def FnExactMainBouncesWrongFalsely : Prop := fnExactMainBouncesRow.holds Try.pinned (OpenSpec.ofChange fnExactMainBouncesWrong)

/-- 'laws.FnExactMainCorner': WHATEVER THE INPUT: true; the input reads as it did. -/
def fnExactMainCornerSpec : ChangeSpec := { name := "fnExactMainCorner", fn := fun _ => fun
  | [d] => { results := [.lit (.bool true)], args := [d] }
  | _ => none }
def fnExactMainCornerRow : OpenClaim := { program := "ythijdgnfoilaeaa", sum := "4ee4fc8c93cbad7301135e0a1e5b13b6a3a23f74758ea22cd68c3cc274675299", func := "loop.example/g01351/laws.FnExactMainCorner", spec := "fnExactMainCorner", apart := false }
def FnExactMainCornerSaid : Prop := fnExactMainCornerRow.holds Try.pinned (OpenSpec.ofChange fnExactMainCornerSpec)

/-- ITS FALSE NEIGHBOUR: 'it returns false'. Refute it at one input. -/
def fnExactMainCornerWrong : ChangeSpec := { name := "fnExactMainCorner", fn := fun _ => fun
  | [d] => { results := [.lit (.bool false)], args := [d] }
  | _ => none }
def FnExactMainCornerWrongFalsely : Prop := fnExactMainCornerRow.holds Try.pinned (OpenSpec.ofChange fnExactMainCornerWrong)

/-- 'laws.FnExactMoveWall': WHATEVER THE INPUT: true; the input reads as it did. -/
def fnExactMoveWallSpec : ChangeSpec := { name := "fnExactMoveWall", fn := fun _ => fun
  | [d1, d2] => { results := [.lit (.bool true)], args := [d1, d2] }
  | _ => none }
def fnExactMoveWallRow : OpenClaim := { program := "ythijdgnfoilaeaa", sum := "4ee4fc8c93cbad7301135e0a1e5b13b6a3a23f74758ea22cd68c3cc274675299", func := "loop.example/g01351/laws.FnExactMoveWall", spec := "fnExactMoveWall", apart := false }
def FnExactMoveWallSaid : Prop := fnExactMoveWallRow.holds Try.pinned (OpenSpec.ofChange fnExactMoveWallSpec)

/-- ITS FALSE NEIGHBOUR: 'it returns false'. Refute it at one input. -/
def fnExactMoveWallWrong : ChangeSpec := { name := "fnExactMoveWall", fn := fun _ => fun
  | [d1, d2] => { results := [.lit (.bool false)], args := [d1, d2] }
  | _ => none }
def FnExactMoveWallWrongFalsely : Prop := fnExactMoveWallRow.holds Try.pinned (OpenSpec.ofChange fnExactMoveWallWrong)

/-- 'laws.FnExactAreaBelow': WHATEVER THE INPUT: true; the input reads as it did. -/
def fnExactAreaBelowSpec : ChangeSpec := { name := "fnExactAreaBelow", fn := fun _ => fun
  | [d] => { results := [.lit (.bool true)], args := [d] }
  | _ => none }
def fnExactAreaBelowRow : OpenClaim := { program := "ythijdgnfoilaeaa", sum := "4ee4fc8c93cbad7301135e0a1e5b13b6a3a23f74758ea22cd68c3cc274675299", func := "loop.example/g01351/laws.FnExactAreaBelow", spec := "fnExactAreaBelow", apart := false }
def FnExactAreaBelowSaid : Prop := fnExactAreaBelowRow.holds Try.pinned (OpenSpec.ofChange fnExactAreaBelowSpec)

/-- ITS FALSE NEIGHBOUR: 'it returns false'. Refute it at one input. -/
def fnExactAreaBelowWrong : ChangeSpec := { name := "fnExactAreaBelow", fn := fun _ => fun
  | [d] => { results := [.lit (.bool false)], args := [d] }
  | _ => none }
def FnExactAreaBelowWrongFalsely : Prop := fnExactAreaBelowRow.holds Try.pinned (OpenSpec.ofChange fnExactAreaBelowWrong)

/-- 'laws.FnExactCrossHeight': WHATEVER THE INPUT: true; the input reads as it did. -/
def fnExactCrossHeightSpec : ChangeSpec := { name := "fnExactCrossHeight", fn := fun _ => fun
  | [d] => { results := [.lit (.bool true)], args := [d] }
  | _ => none }
def fnExactCrossHeightRow : OpenClaim := { program := "ythijdgnfoilaeaa", sum := "4ee4fc8c93cbad7301135e0a1e5b13b6a3a23f74758ea22cd68c3cc274675299", func := "loop.example/g01351/laws.FnExactCrossHeight", spec := "fnExactCrossHeight", apart := false }
def FnExactCrossHeightSaid : Prop := fnExactCrossHeightRow.holds Try.pinned (OpenSpec.ofChange fnExactCrossHeightSpec)

/-- ITS FALSE NEIGHBOUR: 'it returns false'. Refute it at one input. -/
def fnExactCrossHeightWrong : ChangeSpec := { name := "fnExactCrossHeight", fn := fun _ => fun
  | [d] => { results := [.lit (.bool false)], args := [d] }
  | _ => none }
def FnExactCrossHeightWrongFalsely : Prop := fnExactCrossHeightRow.holds Try.pinned (OpenSpec.ofChange fnExactCrossHeightWrong)

/-- 'laws.FnExactCrossPlace': WHATEVER THE INPUT: true; the input reads as it did. -/
def fnExactCrossPlaceSpec : ChangeSpec := { name := "fnExactCrossPlace", fn := fun _ => fun
  | [d] => { results := [.lit (.bool true)], args := [d] }
  | _ => none }
def fnExactCrossPlaceRow : OpenClaim := { program := "ythijdgnfoilaeaa", sum := "4ee4fc8c93cbad7301135e0a1e5b13b6a3a23f74758ea22cd68c3cc274675299", func := "loop.example/g01351/laws.FnExactCrossPlace", spec := "fnExactCrossPlace", apart := false }
def FnExactCrossPlaceSaid : Prop := fnExactCrossPlaceRow.holds Try.pinned (OpenSpec.ofChange fnExactCrossPlaceSpec)

/-- ITS FALSE NEIGHBOUR: 'it returns false'. Refute it at one input. -/
def fnExactCrossPlaceWrong : ChangeSpec := { name := "fnExactCrossPlace", fn := fun _ => fun
  | [d] => { results := [.lit (.bool false)], args := [d] }
  | _ => none }
def FnExactCrossPlaceWrongFalsely : Prop := fnExactCrossPlaceRow.holds Try.pinned (OpenSpec.ofChange fnExactCrossPlaceWrong)

/-- 'laws.FnExactLampOfShadow': WHATEVER THE INPUT: true; the input reads as it did. -/
def fnExactLampOfShadowSpec : ChangeSpec := { name := "fnExactLampOfShadow", fn := fun _ => fun
  | [d1, d2] => { results := [.lit (.bool true)], args := [d1, d2] }
  | _ => none }
def fnExactLampOfShadowRow : OpenClaim := { program := "ythijdgnfoilaeaa", sum := "4ee4fc8c93cbad7301135e0a1e5b13b6a3a23f74758ea22cd68c3cc274675299", func := "loop.example/g01351/laws.FnExactLampOfShadow", spec := "fnExactLampOfShadow", apart := false }
def FnExactLampOfShadowSaid : Prop := fnExactLampOfShadowRow.holds Try.pinned (OpenSpec.ofChange fnExactLampOfShadowSpec)

/-- ITS FALSE NEIGHBOUR: 'it returns false'. Refute it at one input. -/
def fnExactLampOfShadowWrong : ChangeSpec := { name := "fnExactLampOfShadow", fn := fun _ => fun
  | [d1, d2] => { results := [.lit (.bool false)], args := [d1, d2] }
  | _ => none }
def FnExactLampOfShadowWrongFalsely : Prop := fnExactLampOfShadowRow.holds Try.pinned (OpenSpec.ofChange fnExactLampOfShadowWrong)

/-- 'laws.FnExactAreaBetween': WHATEVER THE INPUT: true; the input reads as it did. -/
def fnExactAreaBetweenSpec : ChangeSpec := { name := "fnExactAreaBetween", fn := fun _ => fun
  | [d] => { results := [.lit (.bool true)], args := [d] }
  | _ => none }
def fnExactAreaBetweenRow : OpenClaim := { program := "ythijdgnfoilaeaa", sum := "4ee4fc8c93cbad7301135e0a1e5b13b6a3a23f74758ea22cd68c3cc274675299", func := "loop.example/g01351/laws.FnExactAreaBetween", spec := "fnExactAreaBetween", apart := false }
def FnExactAreaBetweenSaid : Prop := fnExactAreaBetweenRow.holds Try.pinned (OpenSpec.ofChange fnExactAreaBetweenSpec)

/-- ITS FALSE NEIGHBOUR: 'it returns false'. Refute it at one input. -/
def fnExactAreaBetweenWrong : ChangeSpec := { name := "fnExactAreaBetween", fn := fun _ => fun
  | [d] => { results := [.lit (.bool false)], args := [d] }
  | _ => none }
def FnExactAreaBetweenWrongFalsely : Prop := fnExactAreaBetweenRow.holds Try.pinned (OpenSpec.ofChange fnExactAreaBetweenWrong)

/-- 'laws.FnExactTimesLadders': WHATEVER THE INPUT: true; the input reads as it did. -/
def fnExactTimesLaddersSpec : ChangeSpec := { name := "fnExactTimesLadders", fn := fun _ => fun
  | [d1, d2] => { results := [.lit (.bool true)], args := [d1, d2] }
  | _ => none }
def fnExactTimesLaddersRow : OpenClaim := { program := "ythijdgnfoilaeaa", sum := "4ee4fc8c93cbad7301135e0a1e5b13b6a3a23f74758ea22cd68c3cc274675299", func := "loop.example/g01351/laws.FnExactTimesLadders", spec := "fnExactTimesLadders", apart := false }
def FnExactTimesLaddersSaid : Prop := fnExactTimesLaddersRow.holds Try.pinned (OpenSpec.ofChange fnExactTimesLaddersSpec)

/-- ITS FALSE NEIGHBOUR: 'it returns false'. Refute it at one input. -/
def fnExactTimesLaddersWrong : ChangeSpec := { name := "fnExactTimesLadders", fn := fun _ => fun
  | [d1, d2] => { results := [.lit (.bool false)], args := [d1, d2] }
  | _ => none }
def FnExactTimesLaddersWrongFalsely : Prop := fnExactTimesLaddersRow.holds Try.pinned (OpenSpec.ofChange fnExactTimesLaddersWrong)

/-- 'laws.FnExactShadowEnd': WHATEVER THE INPUT: true; the input reads as it did. -/
def fnExactShadowEndSpec : ChangeSpec := { name := "fnExactShadowEnd", fn := fun _ => fun
  | [d1, d2] => { results := [.lit (.bool true)], args := [d1, d2] }
  | _ => none }
def fnExactShadowEndRow : OpenClaim := { program := "ythijdgnfoilaeaa", sum := "4ee4fc8c93cbad7301135e0a1e5b13b6a3a23f74758ea22cd68c3cc274675299", func := "loop.example/g01351/laws.FnExactShadowEnd", spec := "fnExactShadowEnd", apart := false }
def FnExactShadowEndSaid : Prop := fnExactShadowEndRow.holds Try.pinned (OpenSpec.ofChange fnExactShadowEndSpec)

/-- ITS FALSE NEIGHBOUR: 'it returns false'. Refute it at one input. -/
def fnExactShadowEndWrong : ChangeSpec := { name := "fnExactShadowEnd", fn := fun _ => fun
  | [d1, d2] => { results := [.lit (.bool false)], args := [d1, d2] }
  | _ => none }
def FnExactShadowEndWrongFalsely : Prop := fnExactShadowEndRow.holds Try.pinned (OpenSpec.ofChange fnExactShadowEndWrong)

/-- 'laws.FnExactShadowLength': WHATEVER THE INPUT: true; the input reads as it did. -/
def fnExactShadowLengthSpec : ChangeSpec := { name := "fnExactShadowLength", fn := fun _ => fun
  | [d1, d2] => { results := [.lit (.bool true)], args := [d1, d2] }
  | _ => none }
def fnExactShadowLengthRow : OpenClaim := { program := "ythijdgnfoilaeaa", sum := "4ee4fc8c93cbad7301135e0a1e5b13b6a3a23f74758ea22cd68c3cc274675299", func := "loop.example/g01351/laws.FnExactShadowLength", spec := "fnExactShadowLength", apart := false }
def FnExactShadowLengthSaid : Prop := fnExactShadowLengthRow.holds Try.pinned (OpenSpec.ofChange fnExactShadowLengthSpec)

/-- ITS FALSE NEIGHBOUR: 'it returns false'. Refute it at one input. -/
def fnExactShadowLengthWrong : ChangeSpec := { name := "fnExactShadowLength", fn := fun _ => fun
  | [d1, d2] => { results := [.lit (.bool false)], args := [d1, d2] }
  | _ => none }
def FnExactShadowLengthWrongFalsely : Prop := fnExactShadowLengthRow.holds Try.pinned (OpenSpec.ofChange fnExactShadowLengthWrong)

/- THE SECOND FORM. 'bulk': how many values and letters a reading holds, each counted each time it is reached (what is shared counts as often as it is met; a slice's spare places count too). A statement '..UptoSaid' is the law's where the arguments, and the package variables that the reading takes, are together of bulk at most 1048576: NARROWER than '..Said'. Prove '..Said' where nothing that the law and all that it calls make is longer than what came in: it says more and counts as full. Else prove '..UptoSaid'. A law counts once. -/
mutual
def uptoBulk {H : Type} : DataW H → Nat
  | .lit (.string bytes) => bytes.length + 1
  | .lit _ => 1
  | .nil => 1
  | .ptr d => uptoBulk d + 1
  | .slice elems spare => uptoBulkAll elems + uptoBulkAll spare + 1
  | .agg parts => uptoBulkAll parts + 1
  | .iface _ d => uptoBulk d + 1
  | .map entries => uptoBulkEntries entries + 1
  | .held _ => 1
def uptoBulkAll {H : Type} : List (DataW H) → Nat
  | [] => 0
  | d :: r => uptoBulk d + uptoBulkAll r
def uptoBulkEntries {H : Type} : List (Lit × DataW H) → Nat
  | [] => 0
  | x :: r => uptoBulkEntry x + uptoBulkEntries r
def uptoBulkEntry {H : Type} : Lit × DataW H → Nat
  | (.string bytes, d) => bytes.length + uptoBulk d + 1
  | (_, d) => uptoBulk d + 1
 end
def uptoSmall : (H : Type) → List (DataW H) → Bool := fun _ ds => decide (uptoBulkAll ds ≤ 1048576)
def OpenSpec.upto (s : _root_.Go.ChangeSpec) : _root_.Go.OpenSpec := { _root_.Go.OpenSpec.ofChange s with cond := some uptoSmall }

/-- 'laws.FnExactMirrorLadders', WHERE WHAT IT READS IS OF BULK AT MOST 1048576: true; the input reads as it did. -/
def fnExactMirrorLaddersUptoRow : OpenClaim := { program := "ythijdgnfoilaeaa", sum := "4ee4fc8c93cbad7301135e0a1e5b13b6a3a23f74758ea22cd68c3cc274675299", func := "loop.example/g01351/laws.FnExactMirrorLadders", spec := "fnExactMirrorLadders", apart := false, narrowed := true }
def FnExactMirrorLaddersUptoSaid : Prop := fnExactMirrorLaddersUptoRow.holds Try.pinned (OpenSpec.upto fnExactMirrorLaddersSpec)

/-- 'laws.FnExactMainBounces', WHERE WHAT IT READS IS OF BULK AT MOST 1048576: true; the input reads as it did. -/
def fnExactMainBouncesUptoRow : OpenClaim := { program := "ythijdgnfoilaeaa", sum := "4ee4fc8c93cbad7301135e0a1e5b13b6a3a23f74758ea22cd68c3cc274675299", func := "loop.example/g01351/laws.FnExactMainBounces", spec := "fnExactMainBounces", apart := false, narrowed := true }
def FnExactMainBouncesUptoSaid : Prop := fnExactMainBouncesUptoRow.holds Try.pinned (OpenSpec.upto fnExactMainBouncesSpec)

/-- 'laws.FnExactMainCorner', WHERE WHAT IT READS IS OF BULK AT MOST 1048576: true; the input reads as it did. -/
def fnExactMainCornerUptoRow : OpenClaim := { program := "ythijdgnfoilaeaa", sum := "4ee4fc8c93cbad7301135e0a1e5b13b6a3a23f74758ea22cd68c3cc274675299", func := "loop.example/g01351/laws.FnExactMainCorner", spec := "fnExactMainCorner", apart := false, narrowed := true }
def FnExactMainCornerUptoSaid : Prop := fnExactMainCornerUptoRow.holds Try.pinned (OpenSpec.upto fnExactMainCornerSpec)

/-- 'laws.FnExactMoveWall', WHERE WHAT IT READS IS OF BULK AT MOST 1048576: true; the input reads as it did. -/
def fnExactMoveWallUptoRow : OpenClaim := { program := "ythijdgnfoilaeaa", sum := "4ee4fc8c93cbad7301135e0a1e5b13b6a3a23f74758ea22cd68c3cc274675299", func := "loop.example/g01351/laws.FnExactMoveWall", spec := "fnExactMoveWall", apart := false, narrowed := true }
def FnExactMoveWallUptoSaid : Prop := fnExactMoveWallUptoRow.holds Try.pinned (OpenSpec.upto fnExactMoveWallSpec)

/-- 'laws.FnExactAreaBelow', WHERE WHAT IT READS IS OF BULK AT MOST 1048576: true; the input reads as it did. -/
def fnExactAreaBelowUptoRow : OpenClaim := { program := "ythijdgnfoilaeaa", sum := "4ee4fc8c93cbad7301135e0a1e5b13b6a3a23f74758ea22cd68c3cc274675299", func := "loop.example/g01351/laws.FnExactAreaBelow", spec := "fnExactAreaBelow", apart := false, narrowed := true }
def FnExactAreaBelowUptoSaid : Prop := fnExactAreaBelowUptoRow.holds Try.pinned (OpenSpec.upto fnExactAreaBelowSpec)

/-- 'laws.FnExactCrossHeight', WHERE WHAT IT READS IS OF BULK AT MOST 1048576: true; the input reads as it did. -/
def fnExactCrossHeightUptoRow : OpenClaim := { program := "ythijdgnfoilaeaa", sum := "4ee4fc8c93cbad7301135e0a1e5b13b6a3a23f74758ea22cd68c3cc274675299", func := "loop.example/g01351/laws.FnExactCrossHeight", spec := "fnExactCrossHeight", apart := false, narrowed := true }
def FnExactCrossHeightUptoSaid : Prop := fnExactCrossHeightUptoRow.holds Try.pinned (OpenSpec.upto fnExactCrossHeightSpec)

/-- 'laws.FnExactCrossPlace', WHERE WHAT IT READS IS OF BULK AT MOST 1048576: true; the input reads as it did. -/
def fnExactCrossPlaceUptoRow : OpenClaim := { program := "ythijdgnfoilaeaa", sum := "4ee4fc8c93cbad7301135e0a1e5b13b6a3a23f74758ea22cd68c3cc274675299", func := "loop.example/g01351/laws.FnExactCrossPlace", spec := "fnExactCrossPlace", apart := false, narrowed := true }
def FnExactCrossPlaceUptoSaid : Prop := fnExactCrossPlaceUptoRow.holds Try.pinned (OpenSpec.upto fnExactCrossPlaceSpec)

/-- 'laws.FnExactLampOfShadow', WHERE WHAT IT READS IS OF BULK AT MOST 1048576: true; the input reads as it did. -/
def fnExactLampOfShadowUptoRow : OpenClaim := { program := "ythijdgnfoilaeaa", sum := "4ee4fc8c93cbad7301135e0a1e5b13b6a3a23f74758ea22cd68c3cc274675299", func := "loop.example/g01351/laws.FnExactLampOfShadow", spec := "fnExactLampOfShadow", apart := false, narrowed := true }
def FnExactLampOfShadowUptoSaid : Prop := fnExactLampOfShadowUptoRow.holds Try.pinned (OpenSpec.upto fnExactLampOfShadowSpec)

/-- 'laws.FnExactAreaBetween', WHERE WHAT IT READS IS OF BULK AT MOST 1048576: true; the input reads as it did. -/
def fnExactAreaBetweenUptoRow : OpenClaim := { program := "ythijdgnfoilaeaa", sum := "4ee4fc8c93cbad7301135e0a1e5b13b6a3a23f74758ea22cd68c3cc274675299", func := "loop.example/g01351/laws.FnExactAreaBetween", spec := "fnExactAreaBetween", apart := false, narrowed := true }
def FnExactAreaBetweenUptoSaid : Prop := fnExactAreaBetweenUptoRow.holds Try.pinned (OpenSpec.upto fnExactAreaBetweenSpec)

/-- 'laws.FnExactTimesLadders', WHERE WHAT IT READS IS OF BULK AT MOST 1048576: true; the input reads as it did. -/
def fnExactTimesLaddersUptoRow : OpenClaim := { program := "ythijdgnfoilaeaa", sum := "4ee4fc8c93cbad7301135e0a1e5b13b6a3a23f74758ea22cd68c3cc274675299", func := "loop.example/g01351/laws.FnExactTimesLadders", spec := "fnExactTimesLadders", apart := false, narrowed := true }
def FnExactTimesLaddersUptoSaid : Prop := fnExactTimesLaddersUptoRow.holds Try.pinned (OpenSpec.upto fnExactTimesLaddersSpec)

/-- 'laws.FnExactShadowEnd', WHERE WHAT IT READS IS OF BULK AT MOST 1048576: true; the input reads as it did. -/
def fnExactShadowEndUptoRow : OpenClaim := { program := "ythijdgnfoilaeaa", sum := "4ee4fc8c93cbad7301135e0a1e5b13b6a3a23f74758ea22cd68c3cc274675299", func := "loop.example/g01351/laws.FnExactShadowEnd", spec := "fnExactShadowEnd", apart := false, narrowed := true }
def FnExactShadowEndUptoSaid : Prop := fnExactShadowEndUptoRow.holds Try.pinned (OpenSpec.upto fnExactShadowEndSpec)

/-- 'laws.FnExactShadowLength', WHERE WHAT IT READS IS OF BULK AT MOST 1048576: true; the input reads as it did. -/
def fnExactShadowLengthUptoRow : OpenClaim := { program := "ythijdgnfoilaeaa", sum := "4ee4fc8c93cbad7301135e0a1e5b13b6a3a23f74758ea22cd68c3cc274675299", func := "loop.example/g01351/laws.FnExactShadowLength", spec := "fnExactShadowLength", apart := false, narrowed := true }
def FnExactShadowLengthUptoSaid : Prop := fnExactShadowLengthUptoRow.holds Try.pinned (OpenSpec.upto fnExactShadowLengthSpec)

end Rows
end Go.Proofs.Ythijdgnfoilaeaa
