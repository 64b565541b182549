/-
  DERIVED. GIVEN WITH THE SEED: THE CARDS: each row of YtkhhlnpiogfofaaGreatDoorRows.lean that lists a variable, with what it lists TIED to the program's text (the seventh form; the later family's looks); each row that meets fmt, with fmt's text TOLD by the authors' own Lean function (tested against real Go, not proved from fmt's source: count such statements apart). THE CARD IS WHAT COUNTS. Prove the row's statement (the work); the ties are given (YtkhhlnpiogfofaaGreatDoorTie.lean); close each card by the builder's one call (the guide's Derived/Test/ToyasCard.lean, 'card_holds'). Laid BY PROGRAM, IN A SANDBOX (cutbox-door.mjs). By AI agents, Wed Nov 11 2026. No macro, syntax, notation, axiom, sorry.
-/
import Derived.Test.YtkhhlnpiogfofaaGreatDoorRows
import GoSem.ClaimSeven
namespace Go.Proofs.YtkhhlnpiogfofaaGreatDoor
namespace Rows

/-- THE TIED CARD OF 'laws.FnShadowsDarkOfAll'. -/
def fnShadowsDarkOfAllCard : Claim7 := { stood := { row := fnShadowsDarkOfAllRow, standIns := [], harness := (true, "dc07c11d16affd671430109a0411896c02005d7402e26bb6fe283ab60f66e7a3"), looks := true }, kinds := [], alts := [], laidByText := true, laidKinds := [.data, .data, .data, .data, .sentinel, .sentinel, .pinned], laidTests := true, laidLooks := .later }
def FnShadowsDarkOfAllCardSaid : Prop := Claim7.holds Tryz.pinned (.plain (OpenSpec.ofChange fnShadowsDarkOfAllSpec)) fnShadowsDarkOfAllCard

/-- THE SECOND FORM's CARD OF 'laws.FnShadowsDarkOfAll'. -/
def fnShadowsDarkOfAllUptoCard : Claim7 := { stood := { row := fnShadowsDarkOfAllUptoRow, standIns := [], harness := (true, "dc07c11d16affd671430109a0411896c02005d7402e26bb6fe283ab60f66e7a3"), looks := true }, kinds := [], alts := [], laidByText := true, laidKinds := [.data, .data, .data, .data, .sentinel, .sentinel, .pinned], laidTests := true, laidLooks := .later }
def FnShadowsDarkOfAllUptoCardSaid : Prop := Claim7.holds Tryz.pinned (.plain (OpenSpec.upto fnShadowsDarkOfAllSpec)) fnShadowsDarkOfAllUptoCard
end Rows
end Go.Proofs.YtkhhlnpiogfofaaGreatDoor
