/-
  DERIVED. GIVEN WITH THE SEED: THE CARDS: each row of YtpmaapalpecjcaaDoorRows.lean that lists a variable, with what it lists TIED to the program's text (the seventh form; the later family's looks); each row that meets fmt, with fmt's text TOLD by the authors' own Lean function (tested against real Go, not proved from fmt's source: count such statements apart). THE CARD IS WHAT COUNTS. Prove the row's statement (the work); the ties are given (YtpmaapalpecjcaaDoorTie.lean); close each card by the builder's one call (the guide's Derived/Test/ToyasCard.lean, 'card_holds'). Laid BY PROGRAM, IN A SANDBOX (cutbox-door.mjs). By AI agents, Wed Nov 11 2026. No macro, syntax, notation, axiom, sorry.
-/
import Derived.Test.YtpmaapalpecjcaaDoorRows
import GoSem.ClaimSeven
namespace Go.Proofs.YtpmaapalpecjcaaDoor
namespace Rows

/-- THE TIED CARD OF 'laws.FnExactLaddersText'. -/
def fnExactLaddersTextCard : Claim7 := { stood := { row := fnExactLaddersTextRow, standIns := [], harness := (true, "5591983cfbe59c8357b2ee61e7d6015a5050ced31197d007934c56c229f23908"), looks := true }, kinds := [], alts := [], laidByText := true, laidKinds := [.data, .data, .data], laidTests := true, laidLooks := .later }
def FnExactLaddersTextCardSaid : Prop := Claim7.holds Tryd.pinned (.plain (OpenSpec.ofChange fnExactLaddersTextSpec)) fnExactLaddersTextCard

/-- THE TIED CARD OF 'laws.FnExactPolesText'. -/
def fnExactPolesTextCard : Claim7 := { stood := { row := fnExactPolesTextRow, standIns := [], harness := (true, "5591983cfbe59c8357b2ee61e7d6015a5050ced31197d007934c56c229f23908"), looks := true }, kinds := [], alts := [], laidByText := true, laidKinds := [.data, .data, .data], laidTests := true, laidLooks := .later }
def FnExactPolesTextCardSaid : Prop := Claim7.holds Tryd.pinned (.plain (OpenSpec.ofChange fnExactPolesTextSpec)) fnExactPolesTextCard

/-- THE TIED CARD OF 'laws.FnExactParseLadders'. -/
def fnExactParseLaddersCard : Claim7 := { stood := { row := fnExactParseLaddersRow, standIns := [], harness := (true, "5591983cfbe59c8357b2ee61e7d6015a5050ced31197d007934c56c229f23908"), looks := true }, kinds := [], alts := [], laidByText := true, laidKinds := [.data, .data, .data, .sentinel, .sentinel], laidTests := true, laidLooks := .later }
def FnExactParseLaddersCardSaid : Prop := Claim7.holds Tryd.pinned (.plain (OpenSpec.ofChange fnExactParseLaddersSpec)) fnExactParseLaddersCard

/-- THE TIED CARD OF 'laws.FnExactParsePoles'. -/
def fnExactParsePolesCard : Claim7 := { stood := { row := fnExactParsePolesRow, standIns := [], harness := (true, "5591983cfbe59c8357b2ee61e7d6015a5050ced31197d007934c56c229f23908"), looks := true }, kinds := [], alts := [], laidByText := true, laidKinds := [.data, .data, .data, .data, .sentinel, .sentinel, .pinned], laidTests := true, laidLooks := .later }
def FnExactParsePolesCardSaid : Prop := Claim7.holds Tryd.pinned (.plain (OpenSpec.ofChange fnExactParsePolesSpec)) fnExactParsePolesCard

/-- THE SECOND FORM's CARD OF 'laws.FnExactLaddersText'. -/
def fnExactLaddersTextUptoCard : Claim7 := { stood := { row := fnExactLaddersTextUptoRow, standIns := [], harness := (true, "5591983cfbe59c8357b2ee61e7d6015a5050ced31197d007934c56c229f23908"), looks := true }, kinds := [], alts := [], laidByText := true, laidKinds := [.data, .data, .data], laidTests := true, laidLooks := .later }
def FnExactLaddersTextUptoCardSaid : Prop := Claim7.holds Tryd.pinned (.plain (OpenSpec.upto fnExactLaddersTextSpec)) fnExactLaddersTextUptoCard

/-- THE SECOND FORM's CARD OF 'laws.FnExactPolesText'. -/
def fnExactPolesTextUptoCard : Claim7 := { stood := { row := fnExactPolesTextUptoRow, standIns := [], harness := (true, "5591983cfbe59c8357b2ee61e7d6015a5050ced31197d007934c56c229f23908"), looks := true }, kinds := [], alts := [], laidByText := true, laidKinds := [.data, .data, .data], laidTests := true, laidLooks := .later }
def FnExactPolesTextUptoCardSaid : Prop := Claim7.holds Tryd.pinned (.plain (OpenSpec.upto fnExactPolesTextSpec)) fnExactPolesTextUptoCard

/-- THE SECOND FORM's CARD OF 'laws.FnExactParseLadders'. -/
def fnExactParseLaddersUptoCard : Claim7 := { stood := { row := fnExactParseLaddersUptoRow, standIns := [], harness := (true, "5591983cfbe59c8357b2ee61e7d6015a5050ced31197d007934c56c229f23908"), looks := true }, kinds := [], alts := [], laidByText := true, laidKinds := [.data, .data, .data, .sentinel, .sentinel], laidTests := true, laidLooks := .later }
def FnExactParseLaddersUptoCardSaid : Prop := Claim7.holds Tryd.pinned (.plain (OpenSpec.upto fnExactParseLaddersSpec)) fnExactParseLaddersUptoCard

/-- THE SECOND FORM's CARD OF 'laws.FnExactParsePoles'. -/
def fnExactParsePolesUptoCard : Claim7 := { stood := { row := fnExactParsePolesUptoRow, standIns := [], harness := (true, "5591983cfbe59c8357b2ee61e7d6015a5050ced31197d007934c56c229f23908"), looks := true }, kinds := [], alts := [], laidByText := true, laidKinds := [.data, .data, .data, .data, .sentinel, .sentinel, .pinned], laidTests := true, laidLooks := .later }
def FnExactParsePolesUptoCardSaid : Prop := Claim7.holds Tryd.pinned (.plain (OpenSpec.upto fnExactParsePolesSpec)) fnExactParsePolesUptoCard
end Rows
end Go.Proofs.YtpmaapalpecjcaaDoor
