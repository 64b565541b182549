/-
  No cell of these rows narrows 'for every input' (looked for: loops, veiled, ifaces, maps, wideKeys, modest, calm, conditions, laid).
  DERIVED. THE GIVEN ROWS OF THIS SEAT. 7 by the template 'for every input the law returns true; each argument reads behind the call as it read before'; 0 by the template 'total and deterministic' (their statements: YtmggonkdlhghjaaTotals.lean).
  GIVEN WITH THE SEED: the statements are not yours to turn. If you find one false, say at which input.
  Laid BY PROGRAM, IN A SANDBOX (cutbox-rows.mjs): the forced cells as the released guide's own fill.sh prints them over the translation 358379d7cf18350a… (all of the seat's roots in one cut). By AI agents, Wed Nov 11 2026. No macro, syntax, notation, axiom, sorry.
-/
import Derived.Test.YtmggonkdlhghjaaChecked
import GoSem.Claim
import GoSem.ClaimJoined
import GoSem.ClaimMapViews
import Derived.JoinedTies
import Derived.KernelRfl
namespace Go.Proofs.Ytmggonkdlhghjaa
/- THE CELL 'sum', in the pinned program and in every row, IS THE sha256 OF THE DUMP (.gsa) THAT YtmggonkdlhghjaaProg.lean LOADS. Nothing in Lean hashes anything: it is a label: what it is worth is what the hold of that sum in a sandbox is worth. -/
noncomputable def Try.pinned : Pinned := { name := "ytmggonkdlhghjaa", sum := "358379d7cf18350a697f7ed578451237be3adb96ae40da59dbf45e7cc06826f8", checked := Try.checked }
namespace Rows
def none {H : Type} : Left H := { results := [], args := [] }

/-- 'laws.FnExactWholeShadows': WHATEVER THE INPUT: true; the input reads as it did. -/
def fnExactWholeShadowsSpec : ChangeSpec := { name := "fnExactWholeShadows", fn := fun _ => fun
  | [d] => { results := [.lit (.bool true)], args := [d] }
  | _ => none }
def fnExactWholeShadowsRow : OpenClaim := { program := "ytmggonkdlhghjaa", sum := "358379d7cf18350a697f7ed578451237be3adb96ae40da59dbf45e7cc06826f8", func := "loop.example/g01351/laws.FnExactWholeShadows", spec := "fnExactWholeShadows", apart := false }
def FnExactWholeShadowsSaid : Prop := fnExactWholeShadowsRow.holds Try.pinned (OpenSpec.ofChange fnExactWholeShadowsSpec)

/-- ITS FALSE NEIGHBOUR: 'it returns false'. Refute it at one input. -/
def fnExactWholeShadowsWrong : ChangeSpec := { name := "fnExactWholeShadows", fn := fun _ => fun
  | [d] => { results := [.lit (.bool false)], args := [d] }
  | _ => none }
def FnExactWholeShadowsWrongFalsely : Prop := fnExactWholeShadowsRow.holds Try.pinned (OpenSpec.ofChange fnExactWholeShadowsWrong)

/-- 'laws.FnExactLongestShadow': WHATEVER THE INPUT: true; the input reads as it did. -/
def fnExactLongestShadowSpec : ChangeSpec := { name := "fnExactLongestShadow", fn := fun _ => fun
  | [d1, d2] => { results := [.lit (.bool true)], args := [d1, d2] }
  | _ => none }
def fnExactLongestShadowRow : OpenClaim := { program := "ytmggonkdlhghjaa", sum := "358379d7cf18350a697f7ed578451237be3adb96ae40da59dbf45e7cc06826f8", func := "loop.example/g01351/laws.FnExactLongestShadow", spec := "fnExactLongestShadow", apart := false }
def FnExactLongestShadowSaid : Prop := fnExactLongestShadowRow.holds Try.pinned (OpenSpec.ofChange fnExactLongestShadowSpec)

/-- ITS FALSE NEIGHBOUR: 'it returns false'. Refute it at one input. -/
def fnExactLongestShadowWrong : ChangeSpec := { name := "fnExactLongestShadow", fn := fun _ => fun
  | [d1, d2] => { results := [.lit (.bool false)], args := [d1, d2] }
  | _ => none }
def FnExactLongestShadowWrongFalsely : Prop := fnExactLongestShadowRow.holds Try.pinned (OpenSpec.ofChange fnExactLongestShadowWrong)

/-- 'laws.FnExactLowestWhole': WHATEVER THE INPUT: true; the input reads as it did. -/
def fnExactLowestWholeSpec : ChangeSpec := { name := "fnExactLowestWhole", fn := fun _ => fun
  | [d] => { results := [.lit (.bool true)], args := [d] }
  | _ => none }
def fnExactLowestWholeRow : OpenClaim := { program := "ytmggonkdlhghjaa", sum := "358379d7cf18350a697f7ed578451237be3adb96ae40da59dbf45e7cc06826f8", func := "loop.example/g01351/laws.FnExactLowestWhole", spec := "fnExactLowestWhole", apart := false }
def FnExactLowestWholeSaid : Prop := fnExactLowestWholeRow.holds Try.pinned (OpenSpec.ofChange fnExactLowestWholeSpec)

/-- ITS FALSE NEIGHBOUR: 'it returns false'. Refute it at one input. -/
def fnExactLowestWholeWrong : ChangeSpec := { name := "fnExactLowestWhole", fn := fun _ => fun
  | [d] => { results := [.lit (.bool false)], args := [d] }
  | _ => none }
def FnExactLowestWholeWrongFalsely : Prop := fnExactLowestWholeRow.holds Try.pinned (OpenSpec.ofChange fnExactLowestWholeWrong)

/-- 'laws.FnExactWholeCrossings': WHATEVER THE INPUT: true; the input reads as it did. -/
def fnExactWholeCrossingsSpec : ChangeSpec := { name := "fnExactWholeCrossings", fn := fun _ => fun
  | [d] => { results := [.lit (.bool true)], args := [d] }
  | _ => none }
def fnExactWholeCrossingsRow : OpenClaim := { program := "ytmggonkdlhghjaa", sum := "358379d7cf18350a697f7ed578451237be3adb96ae40da59dbf45e7cc06826f8", func := "loop.example/g01351/laws.FnExactWholeCrossings", spec := "fnExactWholeCrossings", apart := false }
def FnExactWholeCrossingsSaid : Prop := fnExactWholeCrossingsRow.holds Try.pinned (OpenSpec.ofChange fnExactWholeCrossingsSpec)

/-- ITS FALSE NEIGHBOUR: 'it returns false'. Refute it at one input. -/
def fnExactWholeCrossingsWrong : ChangeSpec := { name := "fnExactWholeCrossings", fn := fun _ => fun
  | [d] => { results := [.lit (.bool false)], args := [d] }
  | _ => none }
def FnExactWholeCrossingsWrongFalsely : Prop := fnExactWholeCrossingsRow.holds Try.pinned (OpenSpec.ofChange fnExactWholeCrossingsWrong)

/-- 'laws.FnExactFarthestDark': WHATEVER THE INPUT: true; the input reads as it did. -/
def fnExactFarthestDarkSpec : ChangeSpec := { name := "fnExactFarthestDark", fn := fun _ => fun
  | [d1, d2] => { results := [.lit (.bool true)], args := [d1, d2] }
  | _ => none }
def fnExactFarthestDarkRow : OpenClaim := { program := "ytmggonkdlhghjaa", sum := "358379d7cf18350a697f7ed578451237be3adb96ae40da59dbf45e7cc06826f8", func := "loop.example/g01351/laws.FnExactFarthestDark", spec := "fnExactFarthestDark", apart := false }
def FnExactFarthestDarkSaid : Prop := fnExactFarthestDarkRow.holds Try.pinned (OpenSpec.ofChange fnExactFarthestDarkSpec)

/-- ITS FALSE NEIGHBOUR: 'it returns false'. Refute it at one input. -/
def fnExactFarthestDarkWrong : ChangeSpec := { name := "fnExactFarthestDark", fn := fun _ => fun
  | [d1, d2] => { results := [.lit (.bool false)], args := [d1, d2] }
  | _ => none }
def FnExactFarthestDarkWrongFalsely : Prop := fnExactFarthestDarkRow.holds Try.pinned (OpenSpec.ofChange fnExactFarthestDarkWrong)

/-- 'laws.FnExactDarkPlaces': WHATEVER THE INPUT: true; the input reads as it did. -/
def fnExactDarkPlacesSpec : ChangeSpec := { name := "fnExactDarkPlaces", fn := fun _ => fun
  | [d1, d2, d3] => { results := [.lit (.bool true)], args := [d1, d2, d3] }
  | _ => none }
def fnExactDarkPlacesRow : OpenClaim := { program := "ytmggonkdlhghjaa", sum := "358379d7cf18350a697f7ed578451237be3adb96ae40da59dbf45e7cc06826f8", func := "loop.example/g01351/laws.FnExactDarkPlaces", spec := "fnExactDarkPlaces", apart := false }
def FnExactDarkPlacesSaid : Prop := fnExactDarkPlacesRow.holds Try.pinned (OpenSpec.ofChange fnExactDarkPlacesSpec)

/-- ITS FALSE NEIGHBOUR: 'it returns false'. Refute it at one input. -/
def fnExactDarkPlacesWrong : ChangeSpec := { name := "fnExactDarkPlaces", fn := fun _ => fun
  | [d1, d2, d3] => { results := [.lit (.bool false)], args := [d1, d2, d3] }
  | _ => none }
def FnExactDarkPlacesWrongFalsely : Prop := fnExactDarkPlacesRow.holds Try.pinned (OpenSpec.ofChange fnExactDarkPlacesWrong)

/-- 'laws.FnExactHiddenPoles': WHATEVER THE INPUT: true; the input reads as it did. -/
def fnExactHiddenPolesSpec : ChangeSpec := { name := "fnExactHiddenPoles", fn := fun _ => fun
  | [d1, d2] => { results := [.lit (.bool true)], args := [d1, d2] }
  | _ => none }
def fnExactHiddenPolesRow : OpenClaim := { program := "ytmggonkdlhghjaa", sum := "358379d7cf18350a697f7ed578451237be3adb96ae40da59dbf45e7cc06826f8", func := "loop.example/g01351/laws.FnExactHiddenPoles", spec := "fnExactHiddenPoles", apart := false }
def FnExactHiddenPolesSaid : Prop := fnExactHiddenPolesRow.holds Try.pinned (OpenSpec.ofChange fnExactHiddenPolesSpec)

/-- ITS FALSE NEIGHBOUR: 'it returns false'. Refute it at one input. -/
def fnExactHiddenPolesWrong : ChangeSpec := { name := "fnExactHiddenPoles", fn := fun _ => fun
  | [d1, d2] => { results := [.lit (.bool false)], args := [d1, d2] }
  | _ => none }
def FnExactHiddenPolesWrongFalsely : Prop := fnExactHiddenPolesRow.holds Try.pinned (OpenSpec.ofChange fnExactHiddenPolesWrong)

/- THE SECOND FORM. 'bulk': how many values and letters a reading holds, each counted each time it is reached (what is shared counts as often as it is met; a slice's spare places count too). A statement '..UptoSaid' is the law's where the arguments, and the package variables that the reading takes, are together of bulk at most 1048576: NARROWER than '..Said'. Prove '..Said' where nothing that the law and all that it calls make is longer than what came in: it says more and counts as full. Else prove '..UptoSaid'. A law counts once. -/
mutual
def uptoBulk {H : Type} : DataW H → Nat
  | .lit (.string bytes) => bytes.length + 1
  | .lit _ => 1
  | .nil => 1
  | .ptr d => uptoBulk d + 1
  | .slice elems spare => uptoBulkAll elems + uptoBulkAll spare + 1
  | .agg parts => uptoBulkAll parts + 1
  | .iface _ d => uptoBulk d + 1
  | .map entries => uptoBulkEntries entries + 1
  | .held _ => 1
def uptoBulkAll {H : Type} : List (DataW H) → Nat
  | [] => 0
  | d :: r => uptoBulk d + uptoBulkAll r
def uptoBulkEntries {H : Type} : List (Lit × DataW H) → Nat
  | [] => 0
  | x :: r => uptoBulkEntry x + uptoBulkEntries r
def uptoBulkEntry {H : Type} : Lit × DataW H → Nat
  | (.string bytes, d) => bytes.length + uptoBulk d + 1
  | (_, d) => uptoBulk d + 1
 end
def uptoSmall : (H : Type) → List (DataW H) → Bool := fun _ ds => decide (uptoBulkAll ds ≤ 1048576)
def OpenSpec.upto (s : _root_.Go.ChangeSpec) : _root_.Go.OpenSpec := { _root_.Go.OpenSpec.ofChange s with cond := some uptoSmall }

/-- 'laws.FnExactWholeShadows', WHERE WHAT IT READS IS OF BULK AT MOST 1048576: true; the input reads as it did. -/
def fnExactWholeShadowsUptoRow : OpenClaim := { program := "ytmggonkdlhghjaa", sum := "358379d7cf18350a697f7ed578451237be3adb96ae40da59dbf45e7cc06826f8", func := "loop.example/g01351/laws.FnExactWholeShadows", spec := "fnExactWholeShadows", apart := false, narrowed := true }
def FnExactWholeShadowsUptoSaid : Prop := fnExactWholeShadowsUptoRow.holds Try.pinned (OpenSpec.upto fnExactWholeShadowsSpec)

/-- 'laws.FnExactLongestShadow', WHERE WHAT IT READS IS OF BULK AT MOST 1048576: true; the input reads as it did. -/
def fnExactLongestShadowUptoRow : OpenClaim := { program := "ytmggonkdlhghjaa", sum := "358379d7cf18350a697f7ed578451237be3adb96ae40da59dbf45e7cc06826f8", func := "loop.example/g01351/laws.FnExactLongestShadow", spec := "fnExactLongestShadow", apart := false, narrowed := true }
def FnExactLongestShadowUptoSaid : Prop := fnExactLongestShadowUptoRow.holds Try.pinned (OpenSpec.upto fnExactLongestShadowSpec)

/-- 'laws.FnExactLowestWhole', WHERE WHAT IT READS IS OF BULK AT MOST 1048576: true; the input reads as it did. -/
def fnExactLowestWholeUptoRow : OpenClaim := { program := "ytmggonkdlhghjaa", sum := "358379d7cf18350a697f7ed578451237be3adb96ae40da59dbf45e7cc06826f8", func := "loop.example/g01351/laws.FnExactLowestWhole", spec := "fnExactLowestWhole", apart := false, narrowed := true }
def FnExactLowestWholeUptoSaid : Prop := fnExactLowestWholeUptoRow.holds Try.pinned (OpenSpec.upto fnExactLowestWholeSpec)

/-- 'laws.FnExactWholeCrossings', WHERE WHAT IT READS IS OF BULK AT MOST 1048576: true; the input reads as it did. -/
def fnExactWholeCrossingsUptoRow : OpenClaim := { program := "ytmggonkdlhghjaa", sum := "358379d7cf18350a697f7ed578451237be3adb96ae40da59dbf45e7cc06826f8", func := "loop.example/g01351/laws.FnExactWholeCrossings", spec := "fnExactWholeCrossings", apart := false, narrowed := true }
def FnExactWholeCrossingsUptoSaid : Prop := fnExactWholeCrossingsUptoRow.holds Try.pinned (OpenSpec.upto fnExactWholeCrossingsSpec)

/-- 'laws.FnExactFarthestDark', WHERE WHAT IT READS IS OF BULK AT MOST 1048576: true; the input reads as it did. -/
def fnExactFarthestDarkUptoRow : OpenClaim := { program := "ytmggonkdlhghjaa", sum := "358379d7cf18350a697f7ed578451237be3adb96ae40da59dbf45e7cc06826f8", func := "loop.example/g01351/laws.FnExactFarthestDark", spec := "fnExactFarthestDark", apart := false, narrowed := true }
def FnExactFarthestDarkUptoSaid : Prop := fnExactFarthestDarkUptoRow.holds Try.pinned (OpenSpec.upto fnExactFarthestDarkSpec)

/-- 'laws.FnExactDarkPlaces', WHERE WHAT IT READS IS OF BULK AT MOST 1048576: true; the input reads as it did. -/
def fnExactDarkPlacesUptoRow : OpenClaim := { program := "ytmggonkdlhghjaa", sum := "358379d7cf18350a697f7ed578451237be3adb96ae40da59dbf45e7cc06826f8", func := "loop.example/g01351/laws.FnExactDarkPlaces", spec := "fnExactDarkPlaces", apart := false, narrowed := true }
def FnExactDarkPlacesUptoSaid : Prop := fnExactDarkPlacesUptoRow.holds Try.pinned (OpenSpec.upto fnExactDarkPlacesSpec)

/-- 'laws.FnExactHiddenPoles', WHERE WHAT IT READS IS OF BULK AT MOST 1048576: true; the input reads as it did. -/
def fnExactHiddenPolesUptoRow : OpenClaim := { program := "ytmggonkdlhghjaa", sum := "358379d7cf18350a697f7ed578451237be3adb96ae40da59dbf45e7cc06826f8", func := "loop.example/g01351/laws.FnExactHiddenPoles", spec := "fnExactHiddenPoles", apart := false, narrowed := true }
def FnExactHiddenPolesUptoSaid : Prop := fnExactHiddenPolesUptoRow.holds Try.pinned (OpenSpec.upto fnExactHiddenPolesSpec)

end Rows
end Go.Proofs.Ytmggonkdlhghjaa
