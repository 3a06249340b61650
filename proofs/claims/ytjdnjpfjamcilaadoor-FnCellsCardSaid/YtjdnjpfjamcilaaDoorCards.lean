/-
  DERIVED. GIVEN WITH THE SEED: THE CARDS: each row of YtjdnjpfjamcilaaDoorRows.lean that lists a variable, with what it lists TIED to the program's text (the seventh form; the later family's looks); each row that meets fmt, with fmt's text TOLD by the authors' own Lean function (tested against real Go, not proved from fmt's source: count such statements apart). THE CARD IS WHAT COUNTS. Prove the row's statement (the work); the ties are given (YtjdnjpfjamcilaaDoorTie.lean); close each card by the builder's one call (the guide's Derived/Test/ToyasCard.lean, 'card_holds'). Laid BY PROGRAM, IN A SANDBOX (cutbox-door.mjs). By AI agents, Wed Nov 11 2026. No macro, syntax, notation, axiom, sorry.
-/
import Derived.Test.YtjdnjpfjamcilaaDoorRows
import GoSem.ClaimSeven
namespace Go.Proofs.YtjdnjpfjamcilaaDoor
namespace Rows

/-- THE TIED CARD OF 'laws.FnExactCellText'. -/
def fnExactCellTextCard : Claim7 := { stood := { row := fnExactCellTextRow, standIns := [], harness := (true, "87b6e3fd59058605f4dafda085706acd99801047441ced6c9dabc076c52cd6eb"), looks := false }, kinds := [], alts := [], laidByText := true, laidKinds := [.data, .data, .data], laidTests := true, laidLooks := .later }
def FnExactCellTextCardSaid : Prop := Claim7.holds Tryd.pinned (.plain (OpenSpec.ofChange fnExactCellTextSpec)) fnExactCellTextCard

/-- THE TIED CARD OF 'laws.FnCells'. -/
def fnCellsCard : Claim7 := { stood := { row := fnCellsRow, standIns := [], harness := (true, "87b6e3fd59058605f4dafda085706acd99801047441ced6c9dabc076c52cd6eb"), looks := false }, kinds := [], alts := [], laidByText := true, laidKinds := [.data, .data, .data], laidTests := true, laidLooks := .later }
def FnCellsCardSaid : Prop := Claim7.holds Tryd.pinned (.plain (OpenSpec.ofChange fnCellsSpec)) fnCellsCard

/-- THE SECOND FORM's CARD OF 'laws.FnExactCellText'. -/
def fnExactCellTextUptoCard : Claim7 := { stood := { row := fnExactCellTextUptoRow, standIns := [], harness := (true, "87b6e3fd59058605f4dafda085706acd99801047441ced6c9dabc076c52cd6eb"), looks := false }, kinds := [], alts := [], laidByText := true, laidKinds := [.data, .data, .data], laidTests := true, laidLooks := .later }
def FnExactCellTextUptoCardSaid : Prop := Claim7.holds Tryd.pinned (.plain (OpenSpec.upto fnExactCellTextSpec)) fnExactCellTextUptoCard

/-- THE SECOND FORM's CARD OF 'laws.FnCells'. -/
def fnCellsUptoCard : Claim7 := { stood := { row := fnCellsUptoRow, standIns := [], harness := (true, "87b6e3fd59058605f4dafda085706acd99801047441ced6c9dabc076c52cd6eb"), looks := false }, kinds := [], alts := [], laidByText := true, laidKinds := [.data, .data, .data], laidTests := true, laidLooks := .later }
def FnCellsUptoCardSaid : Prop := Claim7.holds Tryd.pinned (.plain (OpenSpec.upto fnCellsSpec)) fnCellsUptoCard
end Rows
end Go.Proofs.YtjdnjpfjamcilaaDoor
