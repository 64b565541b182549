/-
  No cell of these rows narrows 'for every input' (looked for: loops, veiled, ifaces, maps, wideKeys, modest, calm, conditions, laid).
  DERIVED. THE GIVEN ROWS OF THIS SEAT. 12 by the template 'for every input the law returns true; each argument reads behind the call as it read before'; 0 by the template 'total and deterministic' (their statements: YtphkmfmjmelfjaaTotals.lean).
  GIVEN WITH THE SEED: the statements are not yours to turn. If you find one false, say at which input.
  Laid BY PROGRAM, IN A SANDBOX (cutbox-rows.mjs): the forced cells as the released guide's own fill.sh prints them over the translation f368f80bff669a5a… (all of the seat's roots in one cut). By AI agents, Wed Nov 11 2026. No macro, syntax, notation, axiom, sorry.
-/
import Derived.Test.YtphkmfmjmelfjaaChecked
import GoSem.Claim
import GoSem.ClaimJoined
import GoSem.ClaimMapViews
import Derived.JoinedTies
import Derived.KernelRfl
namespace Go.Proofs.Ytphkmfmjmelfjaa
/- THE CELL 'sum', in the pinned program and in every row, IS THE sha256 OF THE DUMP (.gsa) THAT YtphkmfmjmelfjaaProg.lean LOADS. Nothing in Lean hashes anything: it is a label: what it is worth is what the hold of that sum in a sandbox is worth. -/
noncomputable def Try.pinned : Pinned := { name := "ytphkmfmjmelfjaa", sum := "f368f80bff669a5a4b24eaca7749ac6f6a818c9795755f63ed5b1ef635c7fbc6", checked := Try.checked }
namespace Rows
def none {H : Type} : Left H := { results := [], args := [] }

/-- 'laws.FnExactConstants': WHATEVER THE INPUT: true; the input reads as it did. -/
def fnExactConstantsSpec : ChangeSpec := { name := "fnExactConstants", fn := fun _ => fun
  | [] => { results := [.lit (.bool true)], args := [] }
  | _ => none }
def fnExactConstantsRow : OpenClaim := { program := "ytphkmfmjmelfjaa", sum := "f368f80bff669a5a4b24eaca7749ac6f6a818c9795755f63ed5b1ef635c7fbc6", func := "loop.example/g01351/laws.FnExactConstants", spec := "fnExactConstants", apart := false }
def FnExactConstantsSaid : Prop := fnExactConstantsRow.holds Try.pinned (OpenSpec.ofChange fnExactConstantsSpec)

/-- ITS FALSE NEIGHBOUR: 'it returns false'. Refute it at one input. -/
def fnExactConstantsWrong : ChangeSpec := { name := "fnExactConstants", fn := fun _ => fun
  | [] => { results := [.lit (.bool false)], args := [] }
  | _ => none }
def FnExactConstantsWrongFalsely : Prop := fnExactConstantsRow.holds Try.pinned (OpenSpec.ofChange fnExactConstantsWrong)

/-- 'laws.FnExactIsTable': WHATEVER THE INPUT: true; the input reads as it did. -/
def fnExactIsTableSpec : ChangeSpec := { name := "fnExactIsTable", fn := fun _ => fun
  | [d] => { results := [.lit (.bool true)], args := [d] }
  | _ => none }
def fnExactIsTableRow : OpenClaim := { program := "ytphkmfmjmelfjaa", sum := "f368f80bff669a5a4b24eaca7749ac6f6a818c9795755f63ed5b1ef635c7fbc6", func := "loop.example/g01351/laws.FnExactIsTable", spec := "fnExactIsTable", apart := false }
def FnExactIsTableSaid : Prop := fnExactIsTableRow.holds Try.pinned (OpenSpec.ofChange fnExactIsTableSpec)

/-- ITS FALSE NEIGHBOUR: 'it returns false'. Refute it at one input. -/
def fnExactIsTableWrong : ChangeSpec := { name := "fnExactIsTable", fn := fun _ => fun
  | [d] => { results := [.lit (.bool false)], args := [d] }
  | _ => none }
def FnExactIsTableWrongFalsely : Prop := fnExactIsTableRow.holds Try.pinned (OpenSpec.ofChange fnExactIsTableWrong)

/-- 'laws.FnExactAreLadders': WHATEVER THE INPUT: true; the input reads as it did. -/
def fnExactAreLaddersSpec : ChangeSpec := { name := "fnExactAreLadders", fn := fun _ => fun
  | [d] => { results := [.lit (.bool true)], args := [d] }
  | _ => none }
def fnExactAreLaddersRow : OpenClaim := { program := "ytphkmfmjmelfjaa", sum := "f368f80bff669a5a4b24eaca7749ac6f6a818c9795755f63ed5b1ef635c7fbc6", func := "loop.example/g01351/laws.FnExactAreLadders", spec := "fnExactAreLadders", apart := false }
def FnExactAreLaddersSaid : Prop := fnExactAreLaddersRow.holds Try.pinned (OpenSpec.ofChange fnExactAreLaddersSpec)

/-- ITS FALSE NEIGHBOUR: 'it returns false'. Refute it at one input. -/
def fnExactAreLaddersWrong : ChangeSpec := { name := "fnExactAreLadders", fn := fun _ => fun
  | [d] => { results := [.lit (.bool false)], args := [d] }
  | _ => none }
def FnExactAreLaddersWrongFalsely : Prop := fnExactAreLaddersRow.holds Try.pinned (OpenSpec.ofChange fnExactAreLaddersWrong)

/-- 'laws.FnExactLongestStick': WHATEVER THE INPUT: true; the input reads as it did. -/
def fnExactLongestStickSpec : ChangeSpec := { name := "fnExactLongestStick", fn := fun _ => fun
  | [d] => { results := [.lit (.bool true)], args := [d] }
  | _ => none }
def fnExactLongestStickRow : OpenClaim := { program := "ytphkmfmjmelfjaa", sum := "f368f80bff669a5a4b24eaca7749ac6f6a818c9795755f63ed5b1ef635c7fbc6", func := "loop.example/g01351/laws.FnExactLongestStick", spec := "fnExactLongestStick", apart := false }
def FnExactLongestStickSaid : Prop := fnExactLongestStickRow.holds Try.pinned (OpenSpec.ofChange fnExactLongestStickSpec)

/-- ITS FALSE NEIGHBOUR: 'it returns false'. Refute it at one input. -/
def fnExactLongestStickWrong : ChangeSpec := { name := "fnExactLongestStick", fn := fun _ => fun
  | [d] => { results := [.lit (.bool false)], args := [d] }
  | _ => none }
def FnExactLongestStickWrongFalsely : Prop := fnExactLongestStickRow.holds Try.pinned (OpenSpec.ofChange fnExactLongestStickWrong)

/-- 'laws.FnExactIsBeam': WHATEVER THE INPUT: true; the input reads as it did. -/
def fnExactIsBeamSpec : ChangeSpec := { name := "fnExactIsBeam", fn := fun _ => fun
  | [d1, d2] => { results := [.lit (.bool true)], args := [d1, d2] }
  | _ => none }
def fnExactIsBeamRow : OpenClaim := { program := "ytphkmfmjmelfjaa", sum := "f368f80bff669a5a4b24eaca7749ac6f6a818c9795755f63ed5b1ef635c7fbc6", func := "loop.example/g01351/laws.FnExactIsBeam", spec := "fnExactIsBeam", apart := false }
def FnExactIsBeamSaid : Prop := fnExactIsBeamRow.holds Try.pinned (OpenSpec.ofChange fnExactIsBeamSpec)

/-- ITS FALSE NEIGHBOUR: 'it returns false'. Refute it at one input. -/
def fnExactIsBeamWrong : ChangeSpec := { name := "fnExactIsBeam", fn := fun _ => fun
  | [d1, d2] => { results := [.lit (.bool false)], args := [d1, d2] }
  | _ => none }
def FnExactIsBeamWrongFalsely : Prop := fnExactIsBeamRow.holds Try.pinned (OpenSpec.ofChange fnExactIsBeamWrong)

/-- 'laws.FnExactSquaresOf': WHATEVER THE INPUT: true; the input reads as it did. -/
def fnExactSquaresOfSpec : ChangeSpec := { name := "fnExactSquaresOf", fn := fun _ => fun
  | [d] => { results := [.lit (.bool true)], args := [d] }
  | _ => none }
def fnExactSquaresOfRow : OpenClaim := { program := "ytphkmfmjmelfjaa", sum := "f368f80bff669a5a4b24eaca7749ac6f6a818c9795755f63ed5b1ef635c7fbc6", func := "loop.example/g01351/laws.FnExactSquaresOf", spec := "fnExactSquaresOf", apart := false }
def FnExactSquaresOfSaid : Prop := fnExactSquaresOfRow.holds Try.pinned (OpenSpec.ofChange fnExactSquaresOfSpec)

/-- ITS FALSE NEIGHBOUR: 'it returns false'. Refute it at one input. -/
def fnExactSquaresOfWrong : ChangeSpec := { name := "fnExactSquaresOf", fn := fun _ => fun
  | [d] => { results := [.lit (.bool false)], args := [d] }
  | _ => none }
def FnExactSquaresOfWrongFalsely : Prop := fnExactSquaresOfRow.holds Try.pinned (OpenSpec.ofChange fnExactSquaresOfWrong)

/-- 'laws.FnExactOtherHeight': WHATEVER THE INPUT: true; the input reads as it did. -/
def fnExactOtherHeightSpec : ChangeSpec := { name := "fnExactOtherHeight", fn := fun _ => fun
  | [d1, d2, d3] => { results := [.lit (.bool true)], args := [d1, d2, d3] }
  | _ => none }
def fnExactOtherHeightRow : OpenClaim := { program := "ytphkmfmjmelfjaa", sum := "f368f80bff669a5a4b24eaca7749ac6f6a818c9795755f63ed5b1ef635c7fbc6", func := "loop.example/g01351/laws.FnExactOtherHeight", spec := "fnExactOtherHeight", apart := false }
def FnExactOtherHeightSaid : Prop := fnExactOtherHeightRow.holds Try.pinned (OpenSpec.ofChange fnExactOtherHeightSpec)

/-- ITS FALSE NEIGHBOUR: 'it returns false'. Refute it at one input. -/
def fnExactOtherHeightWrong : ChangeSpec := { name := "fnExactOtherHeight", fn := fun _ => fun
  | [d1, d2, d3] => { results := [.lit (.bool false)], args := [d1, d2, d3] }
  | _ => none }
def FnExactOtherHeightWrongFalsely : Prop := fnExactOtherHeightRow.holds Try.pinned (OpenSpec.ofChange fnExactOtherHeightWrong)

/-- 'laws.FnExactCountPairs': WHATEVER THE INPUT: true; the input reads as it did. -/
def fnExactCountPairsSpec : ChangeSpec := { name := "fnExactCountPairs", fn := fun _ => fun
  | [d] => { results := [.lit (.bool true)], args := [d] }
  | _ => none }
def fnExactCountPairsRow : OpenClaim := { program := "ytphkmfmjmelfjaa", sum := "f368f80bff669a5a4b24eaca7749ac6f6a818c9795755f63ed5b1ef635c7fbc6", func := "loop.example/g01351/laws.FnExactCountPairs", spec := "fnExactCountPairs", apart := false }
def FnExactCountPairsSaid : Prop := fnExactCountPairsRow.holds Try.pinned (OpenSpec.ofChange fnExactCountPairsSpec)

/-- ITS FALSE NEIGHBOUR: 'it returns false'. Refute it at one input. -/
def fnExactCountPairsWrong : ChangeSpec := { name := "fnExactCountPairs", fn := fun _ => fun
  | [d] => { results := [.lit (.bool false)], args := [d] }
  | _ => none }
def FnExactCountPairsWrongFalsely : Prop := fnExactCountPairsRow.holds Try.pinned (OpenSpec.ofChange fnExactCountPairsWrong)

/-- 'laws.FnExactSunShadow': WHATEVER THE INPUT: true; the input reads as it did. -/
def fnExactSunShadowSpec : ChangeSpec := { name := "fnExactSunShadow", fn := fun _ => fun
  | [d1, d2, d3] => { results := [.lit (.bool true)], args := [d1, d2, d3] }
  | _ => none }
def fnExactSunShadowRow : OpenClaim := { program := "ytphkmfmjmelfjaa", sum := "f368f80bff669a5a4b24eaca7749ac6f6a818c9795755f63ed5b1ef635c7fbc6", func := "loop.example/g01351/laws.FnExactSunShadow", spec := "fnExactSunShadow", apart := false }
def FnExactSunShadowSaid : Prop := fnExactSunShadowRow.holds Try.pinned (OpenSpec.ofChange fnExactSunShadowSpec)

/-- ITS FALSE NEIGHBOUR: 'it returns false'. Refute it at one input. -/
def fnExactSunShadowWrong : ChangeSpec := { name := "fnExactSunShadow", fn := fun _ => fun
  | [d1, d2, d3] => { results := [.lit (.bool false)], args := [d1, d2, d3] }
  | _ => none }
def FnExactSunShadowWrongFalsely : Prop := fnExactSunShadowRow.holds Try.pinned (OpenSpec.ofChange fnExactSunShadowWrong)

/-- 'laws.FnExactSunSlope': WHATEVER THE INPUT: true; the input reads as it did. -/
def fnExactSunSlopeSpec : ChangeSpec := { name := "fnExactSunSlope", fn := fun _ => fun
  | [d1, d2] => { results := [.lit (.bool true)], args := [d1, d2] }
  | _ => none }
def fnExactSunSlopeRow : OpenClaim := { program := "ytphkmfmjmelfjaa", sum := "f368f80bff669a5a4b24eaca7749ac6f6a818c9795755f63ed5b1ef635c7fbc6", func := "loop.example/g01351/laws.FnExactSunSlope", spec := "fnExactSunSlope", apart := false }
def FnExactSunSlopeSaid : Prop := fnExactSunSlopeRow.holds Try.pinned (OpenSpec.ofChange fnExactSunSlopeSpec)

/-- ITS FALSE NEIGHBOUR: 'it returns false'. Refute it at one input. -/
def fnExactSunSlopeWrong : ChangeSpec := { name := "fnExactSunSlope", fn := fun _ => fun
  | [d1, d2] => { results := [.lit (.bool false)], args := [d1, d2] }
  | _ => none }
def FnExactSunSlopeWrongFalsely : Prop := fnExactSunSlopeRow.holds Try.pinned (OpenSpec.ofChange fnExactSunSlopeWrong)

/-- 'laws.FnExactPoleOfShadow': WHATEVER THE INPUT: true; the input reads as it did. -/
def fnExactPoleOfShadowSpec : ChangeSpec := { name := "fnExactPoleOfShadow", fn := fun _ => fun
  | [d1, d2, d3] => { results := [.lit (.bool true)], args := [d1, d2, d3] }
  | _ => none }
def fnExactPoleOfShadowRow : OpenClaim := { program := "ytphkmfmjmelfjaa", sum := "f368f80bff669a5a4b24eaca7749ac6f6a818c9795755f63ed5b1ef635c7fbc6", func := "loop.example/g01351/laws.FnExactPoleOfShadow", spec := "fnExactPoleOfShadow", apart := false }
def FnExactPoleOfShadowSaid : Prop := fnExactPoleOfShadowRow.holds Try.pinned (OpenSpec.ofChange fnExactPoleOfShadowSpec)

/-- ITS FALSE NEIGHBOUR: 'it returns false'. Refute it at one input. -/
def fnExactPoleOfShadowWrong : ChangeSpec := { name := "fnExactPoleOfShadow", fn := fun _ => fun
  | [d1, d2, d3] => { results := [.lit (.bool false)], args := [d1, d2, d3] }
  | _ => none }
def FnExactPoleOfShadowWrongFalsely : Prop := fnExactPoleOfShadowRow.holds Try.pinned (OpenSpec.ofChange fnExactPoleOfShadowWrong)

/-- 'laws.FnExactPlaceOfShadow': WHATEVER THE INPUT: true; the input reads as it did. -/
def fnExactPlaceOfShadowSpec : ChangeSpec := { name := "fnExactPlaceOfShadow", fn := fun _ => fun
  | [d1, d2, d3] => { results := [.lit (.bool true)], args := [d1, d2, d3] }
  | _ => none }
def fnExactPlaceOfShadowRow : OpenClaim := { program := "ytphkmfmjmelfjaa", sum := "f368f80bff669a5a4b24eaca7749ac6f6a818c9795755f63ed5b1ef635c7fbc6", func := "loop.example/g01351/laws.FnExactPlaceOfShadow", spec := "fnExactPlaceOfShadow", apart := false }
def FnExactPlaceOfShadowSaid : Prop := fnExactPlaceOfShadowRow.holds Try.pinned (OpenSpec.ofChange fnExactPlaceOfShadowSpec)

/-- ITS FALSE NEIGHBOUR: 'it returns false'. Refute it at one input. -/
def fnExactPlaceOfShadowWrong : ChangeSpec := { name := "fnExactPlaceOfShadow", fn := fun _ => fun
  | [d1, d2, d3] => { results := [.lit (.bool false)], args := [d1, d2, d3] }
  | _ => none }
def FnExactPlaceOfShadowWrongFalsely : Prop := fnExactPlaceOfShadowRow.holds Try.pinned (OpenSpec.ofChange fnExactPlaceOfShadowWrong)

/- THE SECOND FORM. 'bulk': how many values and letters a reading holds, each counted each time it is reached (what is shared counts as often as it is met; a slice's spare places count too). A statement '..UptoSaid' is the law's where the arguments, and the package variables that the reading takes, are together of bulk at most 1048576: NARROWER than '..Said'. Prove '..Said' where nothing that the law and all that it calls make is longer than what came in: it says more and counts as full. Else prove '..UptoSaid'. A law counts once. -/
mutual
def uptoBulk {H : Type} : DataW H → Nat
  | .lit (.string bytes) => bytes.length + 1
  | .lit _ => 1
  | .nil => 1
  | .ptr d => uptoBulk d + 1
  | .slice elems spare => uptoBulkAll elems + uptoBulkAll spare + 1
  | .agg parts => uptoBulkAll parts + 1
  | .iface _ d => uptoBulk d + 1
  | .map entries => uptoBulkEntries entries + 1
  | .held _ => 1
def uptoBulkAll {H : Type} : List (DataW H) → Nat
  | [] => 0
  | d :: r => uptoBulk d + uptoBulkAll r
def uptoBulkEntries {H : Type} : List (Lit × DataW H) → Nat
  | [] => 0
  | x :: r => uptoBulkEntry x + uptoBulkEntries r
def uptoBulkEntry {H : Type} : Lit × DataW H → Nat
  | (.string bytes, d) => bytes.length + uptoBulk d + 1
  | (_, d) => uptoBulk d + 1
 end
def uptoSmall : (H : Type) → List (DataW H) → Bool := fun _ ds => decide (uptoBulkAll ds ≤ 1048576)
def OpenSpec.upto (s : _root_.Go.ChangeSpec) : _root_.Go.OpenSpec := { _root_.Go.OpenSpec.ofChange s with cond := some uptoSmall }

/-- 'laws.FnExactConstants', WHERE WHAT IT READS IS OF BULK AT MOST 1048576: true; the input reads as it did. -/
def fnExactConstantsUptoRow : OpenClaim := { program := "ytphkmfmjmelfjaa", sum := "f368f80bff669a5a4b24eaca7749ac6f6a818c9795755f63ed5b1ef635c7fbc6", func := "loop.example/g01351/laws.FnExactConstants", spec := "fnExactConstants", apart := false, narrowed := true }
def FnExactConstantsUptoSaid : Prop := fnExactConstantsUptoRow.holds Try.pinned (OpenSpec.upto fnExactConstantsSpec)

/-- 'laws.FnExactIsTable', WHERE WHAT IT READS IS OF BULK AT MOST 1048576: true; the input reads as it did. -/
def fnExactIsTableUptoRow : OpenClaim := { program := "ytphkmfmjmelfjaa", sum := "f368f80bff669a5a4b24eaca7749ac6f6a818c9795755f63ed5b1ef635c7fbc6", func := "loop.example/g01351/laws.FnExactIsTable", spec := "fnExactIsTable", apart := false, narrowed := true }
def FnExactIsTableUptoSaid : Prop := fnExactIsTableUptoRow.holds Try.pinned (OpenSpec.upto fnExactIsTableSpec)

/-- 'laws.FnExactAreLadders', WHERE WHAT IT READS IS OF BULK AT MOST 1048576: true; the input reads as it did. -/
def fnExactAreLaddersUptoRow : OpenClaim := { program := "ytphkmfmjmelfjaa", sum := "f368f80bff669a5a4b24eaca7749ac6f6a818c9795755f63ed5b1ef635c7fbc6", func := "loop.example/g01351/laws.FnExactAreLadders", spec := "fnExactAreLadders", apart := false, narrowed := true }
def FnExactAreLaddersUptoSaid : Prop := fnExactAreLaddersUptoRow.holds Try.pinned (OpenSpec.upto fnExactAreLaddersSpec)

/-- 'laws.FnExactLongestStick', WHERE WHAT IT READS IS OF BULK AT MOST 1048576: true; the input reads as it did. -/
def fnExactLongestStickUptoRow : OpenClaim := { program := "ytphkmfmjmelfjaa", sum := "f368f80bff669a5a4b24eaca7749ac6f6a818c9795755f63ed5b1ef635c7fbc6", func := "loop.example/g01351/laws.FnExactLongestStick", spec := "fnExactLongestStick", apart := false, narrowed := true }
def FnExactLongestStickUptoSaid : Prop := fnExactLongestStickUptoRow.holds Try.pinned (OpenSpec.upto fnExactLongestStickSpec)

/-- 'laws.FnExactIsBeam', WHERE WHAT IT READS IS OF BULK AT MOST 1048576: true; the input reads as it did. -/
def fnExactIsBeamUptoRow : OpenClaim := { program := "ytphkmfmjmelfjaa", sum := "f368f80bff669a5a4b24eaca7749ac6f6a818c9795755f63ed5b1ef635c7fbc6", func := "loop.example/g01351/laws.FnExactIsBeam", spec := "fnExactIsBeam", apart := false, narrowed := true }
def FnExactIsBeamUptoSaid : Prop := fnExactIsBeamUptoRow.holds Try.pinned (OpenSpec.upto fnExactIsBeamSpec)

/-- 'laws.FnExactSquaresOf', WHERE WHAT IT READS IS OF BULK AT MOST 1048576: true; the input reads as it did. -/
def fnExactSquaresOfUptoRow : OpenClaim := { program := "ytphkmfmjmelfjaa", sum := "f368f80bff669a5a4b24eaca7749ac6f6a818c9795755f63ed5b1ef635c7fbc6", func := "loop.example/g01351/laws.FnExactSquaresOf", spec := "fnExactSquaresOf", apart := false, narrowed := true }
def FnExactSquaresOfUptoSaid : Prop := fnExactSquaresOfUptoRow.holds Try.pinned (OpenSpec.upto fnExactSquaresOfSpec)

/-- 'laws.FnExactOtherHeight', WHERE WHAT IT READS IS OF BULK AT MOST 1048576: true; the input reads as it did. -/
def fnExactOtherHeightUptoRow : OpenClaim := { program := "ytphkmfmjmelfjaa", sum := "f368f80bff669a5a4b24eaca7749ac6f6a818c9795755f63ed5b1ef635c7fbc6", func := "loop.example/g01351/laws.FnExactOtherHeight", spec := "fnExactOtherHeight", apart := false, narrowed := true }
def FnExactOtherHeightUptoSaid : Prop := fnExactOtherHeightUptoRow.holds Try.pinned (OpenSpec.upto fnExactOtherHeightSpec)

/-- 'laws.FnExactCountPairs', WHERE WHAT IT READS IS OF BULK AT MOST 1048576: true; the input reads as it did. -/
def fnExactCountPairsUptoRow : OpenClaim := { program := "ytphkmfmjmelfjaa", sum := "f368f80bff669a5a4b24eaca7749ac6f6a818c9795755f63ed5b1ef635c7fbc6", func := "loop.example/g01351/laws.FnExactCountPairs", spec := "fnExactCountPairs", apart := false, narrowed := true }
def FnExactCountPairsUptoSaid : Prop := fnExactCountPairsUptoRow.holds Try.pinned (OpenSpec.upto fnExactCountPairsSpec)

/-- 'laws.FnExactSunShadow', WHERE WHAT IT READS IS OF BULK AT MOST 1048576: true; the input reads as it did. -/
def fnExactSunShadowUptoRow : OpenClaim := { program := "ytphkmfmjmelfjaa", sum := "f368f80bff669a5a4b24eaca7749ac6f6a818c9795755f63ed5b1ef635c7fbc6", func := "loop.example/g01351/laws.FnExactSunShadow", spec := "fnExactSunShadow", apart := false, narrowed := true }
def FnExactSunShadowUptoSaid : Prop := fnExactSunShadowUptoRow.holds Try.pinned (OpenSpec.upto fnExactSunShadowSpec)

/-- 'laws.FnExactSunSlope', WHERE WHAT IT READS IS OF BULK AT MOST 1048576: true; the input reads as it did. -/
def fnExactSunSlopeUptoRow : OpenClaim := { program := "ytphkmfmjmelfjaa", sum := "f368f80bff669a5a4b24eaca7749ac6f6a818c9795755f63ed5b1ef635c7fbc6", func := "loop.example/g01351/laws.FnExactSunSlope", spec := "fnExactSunSlope", apart := false, narrowed := true }
def FnExactSunSlopeUptoSaid : Prop := fnExactSunSlopeUptoRow.holds Try.pinned (OpenSpec.upto fnExactSunSlopeSpec)

/-- 'laws.FnExactPoleOfShadow', WHERE WHAT IT READS IS OF BULK AT MOST 1048576: true; the input reads as it did. -/
def fnExactPoleOfShadowUptoRow : OpenClaim := { program := "ytphkmfmjmelfjaa", sum := "f368f80bff669a5a4b24eaca7749ac6f6a818c9795755f63ed5b1ef635c7fbc6", func := "loop.example/g01351/laws.FnExactPoleOfShadow", spec := "fnExactPoleOfShadow", apart := false, narrowed := true }
def FnExactPoleOfShadowUptoSaid : Prop := fnExactPoleOfShadowUptoRow.holds Try.pinned (OpenSpec.upto fnExactPoleOfShadowSpec)

/-- 'laws.FnExactPlaceOfShadow', WHERE WHAT IT READS IS OF BULK AT MOST 1048576: true; the input reads as it did. -/
def fnExactPlaceOfShadowUptoRow : OpenClaim := { program := "ytphkmfmjmelfjaa", sum := "f368f80bff669a5a4b24eaca7749ac6f6a818c9795755f63ed5b1ef635c7fbc6", func := "loop.example/g01351/laws.FnExactPlaceOfShadow", spec := "fnExactPlaceOfShadow", apart := false, narrowed := true }
def FnExactPlaceOfShadowUptoSaid : Prop := fnExactPlaceOfShadowUptoRow.holds Try.pinned (OpenSpec.upto fnExactPlaceOfShadowSpec)

end Rows
end Go.Proofs.Ytphkmfmjmelfjaa
