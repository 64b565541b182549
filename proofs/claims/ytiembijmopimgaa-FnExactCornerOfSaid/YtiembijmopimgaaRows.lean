/-
  No cell of these rows narrows 'for every input' (looked for: loops, veiled, ifaces, maps, wideKeys, modest, calm, conditions, laid).
  DERIVED. THE GIVEN ROWS OF THIS SEAT. 3 by the template 'for every input the law returns true; each argument reads behind the call as it read before'; 0 by the template 'total and deterministic' (their statements: YtiembijmopimgaaTotals.lean).
  GIVEN WITH THE SEED: the statements are not yours to turn. If you find one false, say at which input.
  Laid BY PROGRAM, IN A SANDBOX (cutbox-rows.mjs): the forced cells as the released guide's own fill.sh prints them over the translation 85d4d12166c1fc6b… (all of the seat's roots in one cut). By AI agents, Wed Nov 11 2026. No macro, syntax, notation, axiom, sorry.
-/
import Derived.Test.YtiembijmopimgaaChecked
import GoSem.Claim
import GoSem.ClaimJoined
import GoSem.ClaimMapViews
import Derived.JoinedTies
import Derived.KernelRfl
namespace Go.Proofs.Ytiembijmopimgaa
/- THE CELL 'sum', in the pinned program and in every row, IS THE sha256 OF THE DUMP (.gsa) THAT YtiembijmopimgaaProg.lean LOADS. Nothing in Lean hashes anything: it is a label: what it is worth is what the hold of that sum in a sandbox is worth. -/
noncomputable def Try.pinned : Pinned := { name := "ytiembijmopimgaa", sum := "85d4d12166c1fc6bdc873537ee968f42a62f33ea0df3eb115376f41a4db726a4", checked := Try.checked }
namespace Rows
def none {H : Type} : Left H := { results := [], args := [] }

/-- 'laws.FnExactBouncesWithin': WHATEVER THE INPUT: true; the input reads as it did. -/
def fnExactBouncesWithinSpec : ChangeSpec := { name := "fnExactBouncesWithin", fn := fun _ => fun
  | [d1, d2, d3] => { results := [.lit (.bool true)], args := [d1, d2, d3] }
  | _ => none }
def fnExactBouncesWithinRow : OpenClaim := { program := "ytiembijmopimgaa", sum := "85d4d12166c1fc6bdc873537ee968f42a62f33ea0df3eb115376f41a4db726a4", func := "loop.example/g01351/laws.FnExactBouncesWithin", spec := "fnExactBouncesWithin", unfollowed := true, recurses := true, apart := false }
def FnExactBouncesWithinSaid : Prop := fnExactBouncesWithinRow.holds Try.pinned (OpenSpec.ofChange fnExactBouncesWithinSpec)

/-- ITS FALSE NEIGHBOUR: 'it returns false'. Refute it at one input. -/
def fnExactBouncesWithinWrong : ChangeSpec := { name := "fnExactBouncesWithin", fn := fun _ => fun
  | [d1, d2, d3] => { results := [.lit (.bool false)], args := [d1, d2, d3] }
  | _ => none }
def FnExactBouncesWithinWrongFalsely : Prop := fnExactBouncesWithinRow.holds Try.pinned (OpenSpec.ofChange fnExactBouncesWithinWrong)

/-- 'laws.FnExactStepsToCorner': WHATEVER THE INPUT: true; the input reads as it did. -/
def fnExactStepsToCornerSpec : ChangeSpec := { name := "fnExactStepsToCorner", fn := fun _ => fun
  | [d1, d2] => { results := [.lit (.bool true)], args := [d1, d2] }
  | _ => none }
def fnExactStepsToCornerRow : OpenClaim := { program := "ytiembijmopimgaa", sum := "85d4d12166c1fc6bdc873537ee968f42a62f33ea0df3eb115376f41a4db726a4", func := "loop.example/g01351/laws.FnExactStepsToCorner", spec := "fnExactStepsToCorner", unfollowed := true, recurses := true, apart := false }
def FnExactStepsToCornerSaid : Prop := fnExactStepsToCornerRow.holds Try.pinned (OpenSpec.ofChange fnExactStepsToCornerSpec)

/-- ITS FALSE NEIGHBOUR: 'it returns false'. Refute it at one input. -/
def fnExactStepsToCornerWrong : ChangeSpec := { name := "fnExactStepsToCorner", fn := fun _ => fun
  | [d1, d2] => { results := [.lit (.bool false)], args := [d1, d2] }
  | _ => none }
def FnExactStepsToCornerWrongFalsely : Prop := fnExactStepsToCornerRow.holds Try.pinned (OpenSpec.ofChange fnExactStepsToCornerWrong)

/-- 'laws.FnExactCornerOf': WHATEVER THE INPUT: true; the input reads as it did. -/
def fnExactCornerOfSpec : ChangeSpec := { name := "fnExactCornerOf", fn := fun _ => fun
  | [d1, d2] => { results := [.lit (.bool true)], args := [d1, d2] }
  | _ => none }
def fnExactCornerOfRow : OpenClaim := { program := "ytiembijmopimgaa", sum := "85d4d12166c1fc6bdc873537ee968f42a62f33ea0df3eb115376f41a4db726a4", func := "loop.example/g01351/laws.FnExactCornerOf", spec := "fnExactCornerOf", unfollowed := true, recurses := true, apart := false }
def FnExactCornerOfSaid : Prop := fnExactCornerOfRow.holds Try.pinned (OpenSpec.ofChange fnExactCornerOfSpec)

/-- ITS FALSE NEIGHBOUR: 'it returns false'. Refute it at one input. -/
def fnExactCornerOfWrong : ChangeSpec := { name := "fnExactCornerOf", fn := fun _ => fun
  | [d1, d2] => { results := [.lit (.bool false)], args := [d1, d2] }
  | _ => none }
def FnExactCornerOfWrongFalsely : Prop := fnExactCornerOfRow.holds Try.pinned (OpenSpec.ofChange fnExactCornerOfWrong)

/- THE SECOND FORM. 'bulk': how many values and letters a reading holds, each counted each time it is reached (what is shared counts as often as it is met; a slice's spare places count too). A statement '..UptoSaid' is the law's where the arguments, and the package variables that the reading takes, are together of bulk at most 1048576: NARROWER than '..Said'. Prove '..Said' where nothing that the law and all that it calls make is longer than what came in: it says more and counts as full. Else prove '..UptoSaid'. A law counts once. -/
mutual
def uptoBulk {H : Type} : DataW H → Nat
  | .lit (.string bytes) => bytes.length + 1
  | .lit _ => 1
  | .nil => 1
  | .ptr d => uptoBulk d + 1
  | .slice elems spare => uptoBulkAll elems + uptoBulkAll spare + 1
  | .agg parts => uptoBulkAll parts + 1
  | .iface _ d => uptoBulk d + 1
  | .map entries => uptoBulkEntries entries + 1
  | .held _ => 1
def uptoBulkAll {H : Type} : List (DataW H) → Nat
  | [] => 0
  | d :: r => uptoBulk d + uptoBulkAll r
def uptoBulkEntries {H : Type} : List (Lit × DataW H) → Nat
  | [] => 0
  | x :: r => uptoBulkEntry x + uptoBulkEntries r
def uptoBulkEntry {H : Type} : Lit × DataW H → Nat
  | (.string bytes, d) => bytes.length + uptoBulk d + 1
  | (_, d) => uptoBulk d + 1
 end
def uptoSmall : (H : Type) → List (DataW H) → Bool := fun _ ds => decide (uptoBulkAll ds ≤ 1048576)
def OpenSpec.upto (s : _root_.Go.ChangeSpec) : _root_.Go.OpenSpec := { _root_.Go.OpenSpec.ofChange s with cond := some uptoSmall }

/-- 'laws.FnExactBouncesWithin', WHERE WHAT IT READS IS OF BULK AT MOST 1048576: true; the input reads as it did. -/
def fnExactBouncesWithinUptoRow : OpenClaim := { program := "ytiembijmopimgaa", sum := "85d4d12166c1fc6bdc873537ee968f42a62f33ea0df3eb115376f41a4db726a4", func := "loop.example/g01351/laws.FnExactBouncesWithin", spec := "fnExactBouncesWithin", unfollowed := true, recurses := true, apart := false, narrowed := true }
def FnExactBouncesWithinUptoSaid : Prop := fnExactBouncesWithinUptoRow.holds Try.pinned (OpenSpec.upto fnExactBouncesWithinSpec)

/-- 'laws.FnExactStepsToCorner', WHERE WHAT IT READS IS OF BULK AT MOST 1048576: true; the input reads as it did. -/
def fnExactStepsToCornerUptoRow : OpenClaim := { program := "ytiembijmopimgaa", sum := "85d4d12166c1fc6bdc873537ee968f42a62f33ea0df3eb115376f41a4db726a4", func := "loop.example/g01351/laws.FnExactStepsToCorner", spec := "fnExactStepsToCorner", unfollowed := true, recurses := true, apart := false, narrowed := true }
def FnExactStepsToCornerUptoSaid : Prop := fnExactStepsToCornerUptoRow.holds Try.pinned (OpenSpec.upto fnExactStepsToCornerSpec)

/-- 'laws.FnExactCornerOf', WHERE WHAT IT READS IS OF BULK AT MOST 1048576: true; the input reads as it did. -/
def fnExactCornerOfUptoRow : OpenClaim := { program := "ytiembijmopimgaa", sum := "85d4d12166c1fc6bdc873537ee968f42a62f33ea0df3eb115376f41a4db726a4", func := "loop.example/g01351/laws.FnExactCornerOf", spec := "fnExactCornerOf", unfollowed := true, recurses := true, apart := false, narrowed := true }
def FnExactCornerOfUptoSaid : Prop := fnExactCornerOfUptoRow.holds Try.pinned (OpenSpec.upto fnExactCornerOfSpec)

end Rows
end Go.Proofs.Ytiembijmopimgaa
