/-
  DERIVED. GIVEN WITH THE SEED: THE CARDS: each row of YtmnmnofjeoanjaaDoorRows.lean that lists a variable, with what it lists TIED to the program's text (the seventh form; the later family's looks); each row that meets fmt, with fmt's text TOLD by the authors' own Lean function (tested against real Go, not proved from fmt's source: count such statements apart). THE CARD IS WHAT COUNTS. Prove the row's statement (the work); the ties are given (YtmnmnofjeoanjaaDoorTie.lean); close each card by the builder's one call (the guide's Derived/Test/ToyasCard.lean, 'card_holds'). Laid BY PROGRAM, IN A SANDBOX (cutbox-door.mjs). By AI agents, Wed Nov 11 2026. No macro, syntax, notation, axiom, sorry.
-/
import Derived.Test.YtmnmnofjeoanjaaDoorRows
import GoSem.ClaimSeven
namespace Go.Proofs.YtmnmnofjeoanjaaDoor
namespace Rows

/-- THE TIED CARD OF 'laws.FnExactCellText'. -/
def fnExactCellTextCard : Claim7 := { stood := { row := fnExactCellTextRow, standIns := [], harness := (true, "70e78d6677ebfef139ac6b65cd53d2c8544c2aebeafaee7778f951adc3a2eeac"), looks := false }, kinds := [], alts := [], laidByText := true, laidKinds := [.data, .data, .data], laidTests := true, laidLooks := .later }
def FnExactCellTextCardSaid : Prop := Claim7.holds Tryd.pinned (.plain (OpenSpec.ofChange fnExactCellTextSpec)) fnExactCellTextCard

/-- THE TIED CARD OF 'laws.FnExactPredText'. -/
def fnExactPredTextCard : Claim7 := { stood := { row := fnExactPredTextRow, standIns := [], harness := (true, "70e78d6677ebfef139ac6b65cd53d2c8544c2aebeafaee7778f951adc3a2eeac"), looks := false }, kinds := [], alts := [], laidByText := true, laidKinds := [.data, .data, .data], laidTests := true, laidLooks := .later }
def FnExactPredTextCardSaid : Prop := Claim7.holds Tryd.pinned (.plain (OpenSpec.ofChange fnExactPredTextSpec)) fnExactPredTextCard

/-- THE TIED CARD OF 'laws.FnExactResultText'. -/
def fnExactResultTextCard : Claim7 := { stood := { row := fnExactResultTextRow, standIns := [], harness := (true, "70e78d6677ebfef139ac6b65cd53d2c8544c2aebeafaee7778f951adc3a2eeac"), looks := false }, kinds := [], alts := [], laidByText := true, laidKinds := [.data, .data, .data], laidTests := true, laidLooks := .later }
def FnExactResultTextCardSaid : Prop := Claim7.holds Tryd.pinned (.plain (OpenSpec.ofChange fnExactResultTextSpec)) fnExactResultTextCard

/-- THE TIED CARD OF 'laws.FnCells'. -/
def fnCellsCard : Claim7 := { stood := { row := fnCellsRow, standIns := [], harness := (true, "70e78d6677ebfef139ac6b65cd53d2c8544c2aebeafaee7778f951adc3a2eeac"), looks := false }, kinds := [], alts := [], laidByText := true, laidKinds := [.data, .data, .data], laidTests := true, laidLooks := .later }
def FnCellsCardSaid : Prop := Claim7.holds Tryd.pinned (.plain (OpenSpec.ofChange fnCellsSpec)) fnCellsCard

/-- THE SECOND FORM's CARD OF 'laws.FnExactCellText'. -/
def fnExactCellTextUptoCard : Claim7 := { stood := { row := fnExactCellTextUptoRow, standIns := [], harness := (true, "70e78d6677ebfef139ac6b65cd53d2c8544c2aebeafaee7778f951adc3a2eeac"), looks := false }, kinds := [], alts := [], laidByText := true, laidKinds := [.data, .data, .data], laidTests := true, laidLooks := .later }
def FnExactCellTextUptoCardSaid : Prop := Claim7.holds Tryd.pinned (.plain (OpenSpec.upto fnExactCellTextSpec)) fnExactCellTextUptoCard

/-- THE SECOND FORM's CARD OF 'laws.FnExactPredText'. -/
def fnExactPredTextUptoCard : Claim7 := { stood := { row := fnExactPredTextUptoRow, standIns := [], harness := (true, "70e78d6677ebfef139ac6b65cd53d2c8544c2aebeafaee7778f951adc3a2eeac"), looks := false }, kinds := [], alts := [], laidByText := true, laidKinds := [.data, .data, .data], laidTests := true, laidLooks := .later }
def FnExactPredTextUptoCardSaid : Prop := Claim7.holds Tryd.pinned (.plain (OpenSpec.upto fnExactPredTextSpec)) fnExactPredTextUptoCard

/-- THE SECOND FORM's CARD OF 'laws.FnExactResultText'. -/
def fnExactResultTextUptoCard : Claim7 := { stood := { row := fnExactResultTextUptoRow, standIns := [], harness := (true, "70e78d6677ebfef139ac6b65cd53d2c8544c2aebeafaee7778f951adc3a2eeac"), looks := false }, kinds := [], alts := [], laidByText := true, laidKinds := [.data, .data, .data], laidTests := true, laidLooks := .later }
def FnExactResultTextUptoCardSaid : Prop := Claim7.holds Tryd.pinned (.plain (OpenSpec.upto fnExactResultTextSpec)) fnExactResultTextUptoCard

/-- THE SECOND FORM's CARD OF 'laws.FnCells'. -/
def fnCellsUptoCard : Claim7 := { stood := { row := fnCellsUptoRow, standIns := [], harness := (true, "70e78d6677ebfef139ac6b65cd53d2c8544c2aebeafaee7778f951adc3a2eeac"), looks := false }, kinds := [], alts := [], laidByText := true, laidKinds := [.data, .data, .data], laidTests := true, laidLooks := .later }
def FnCellsUptoCardSaid : Prop := Claim7.holds Tryd.pinned (.plain (OpenSpec.upto fnCellsSpec)) fnCellsUptoCard
end Rows
end Go.Proofs.YtmnmnofjeoanjaaDoor
