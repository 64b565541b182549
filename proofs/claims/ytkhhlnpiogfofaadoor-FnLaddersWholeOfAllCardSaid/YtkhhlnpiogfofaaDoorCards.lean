/-
  DERIVED. GIVEN WITH THE SEED: THE CARDS: each row of YtkhhlnpiogfofaaDoorRows.lean that lists a variable, with what it lists TIED to the program's text (the seventh form; the later family's looks); each row that meets fmt, with fmt's text TOLD by the authors' own Lean function (tested against real Go, not proved from fmt's source: count such statements apart). THE CARD IS WHAT COUNTS. Prove the row's statement (the work); the ties are given (YtkhhlnpiogfofaaDoorTie.lean); close each card by the builder's one call (the guide's Derived/Test/ToyasCard.lean, 'card_holds'). Laid BY PROGRAM, IN A SANDBOX (cutbox-door.mjs). By AI agents, Wed Nov 11 2026. No macro, syntax, notation, axiom, sorry.
-/
import Derived.Test.YtkhhlnpiogfofaaDoorRows
import GoSem.ClaimSeven
namespace Go.Proofs.YtkhhlnpiogfofaaDoor
namespace Rows

/-- THE TIED CARD OF 'laws.FnLaddersWholeOfAll'. -/
def fnLaddersWholeOfAllCard : Claim7 := { stood := { row := fnLaddersWholeOfAllRow, standIns := [], harness := (true, "82b577dd8b47e5ac9135196d368252de760eccddce9b1d54e5bb0dbf0b29b0e0"), looks := true }, kinds := [], alts := [], laidByText := true, laidKinds := [.data, .data, .data, .sentinel, .sentinel], laidTests := true, laidLooks := .later }
def FnLaddersWholeOfAllCardSaid : Prop := Claim7.holds Tryd.pinned (.plain (OpenSpec.ofChange fnLaddersWholeOfAllSpec)) fnLaddersWholeOfAllCard

/-- THE TIED CARD OF 'laws.FnLaddersCrossOfAll'. -/
def fnLaddersCrossOfAllCard : Claim7 := { stood := { row := fnLaddersCrossOfAllRow, standIns := [], harness := (true, "82b577dd8b47e5ac9135196d368252de760eccddce9b1d54e5bb0dbf0b29b0e0"), looks := true }, kinds := [], alts := [], laidByText := true, laidKinds := [.data, .data, .data, .sentinel, .sentinel], laidTests := true, laidLooks := .later }
def FnLaddersCrossOfAllCardSaid : Prop := Claim7.holds Tryd.pinned (.plain (OpenSpec.ofChange fnLaddersCrossOfAllSpec)) fnLaddersCrossOfAllCard

/-- THE SECOND FORM's CARD OF 'laws.FnLaddersWholeOfAll'. -/
def fnLaddersWholeOfAllUptoCard : Claim7 := { stood := { row := fnLaddersWholeOfAllUptoRow, standIns := [], harness := (true, "82b577dd8b47e5ac9135196d368252de760eccddce9b1d54e5bb0dbf0b29b0e0"), looks := true }, kinds := [], alts := [], laidByText := true, laidKinds := [.data, .data, .data, .sentinel, .sentinel], laidTests := true, laidLooks := .later }
def FnLaddersWholeOfAllUptoCardSaid : Prop := Claim7.holds Tryd.pinned (.plain (OpenSpec.upto fnLaddersWholeOfAllSpec)) fnLaddersWholeOfAllUptoCard

/-- THE SECOND FORM's CARD OF 'laws.FnLaddersCrossOfAll'. -/
def fnLaddersCrossOfAllUptoCard : Claim7 := { stood := { row := fnLaddersCrossOfAllUptoRow, standIns := [], harness := (true, "82b577dd8b47e5ac9135196d368252de760eccddce9b1d54e5bb0dbf0b29b0e0"), looks := true }, kinds := [], alts := [], laidByText := true, laidKinds := [.data, .data, .data, .sentinel, .sentinel], laidTests := true, laidLooks := .later }
def FnLaddersCrossOfAllUptoCardSaid : Prop := Claim7.holds Tryd.pinned (.plain (OpenSpec.upto fnLaddersCrossOfAllSpec)) fnLaddersCrossOfAllUptoCard
end Rows
end Go.Proofs.YtkhhlnpiogfofaaDoor
