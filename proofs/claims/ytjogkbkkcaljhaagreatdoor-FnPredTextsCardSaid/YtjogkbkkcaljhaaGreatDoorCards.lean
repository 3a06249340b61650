/-
  DERIVED. GIVEN WITH THE SEED: THE CARDS: each row of YtjogkbkkcaljhaaGreatDoorRows.lean that lists a variable, with what it lists TIED to the program's text (the seventh form; the later family's looks); each row that meets fmt, with fmt's text TOLD by the authors' own Lean function (tested against real Go, not proved from fmt's source: count such statements apart). THE CARD IS WHAT COUNTS. Prove the row's statement (the work); the ties are given (YtjogkbkkcaljhaaGreatDoorTie.lean); close each card by the builder's one call (the guide's Derived/Test/ToyasCard.lean, 'card_holds'). Laid BY PROGRAM, IN A SANDBOX (cutbox-door.mjs). By AI agents, Wed Nov 11 2026. No macro, syntax, notation, axiom, sorry.
-/
import Derived.Test.YtjogkbkkcaljhaaGreatDoorRows
import GoSem.ClaimSeven
namespace Go.Proofs.YtjogkbkkcaljhaaGreatDoor
namespace Rows

/-- THE TIED CARD OF 'laws.FnExactParsePred'. -/
def fnExactParsePredCard : Claim7 := { stood := { row := fnExactParsePredRow, standIns := [], harness := (true, "9043cf69c621035b79d7013cf5b5a68f4c4c7026ccb859f03d217b204c871f20"), looks := true }, kinds := [], alts := [], laidByText := true, laidKinds := [.data, .data, .data, .sentinel, .sentinel], laidTests := true, laidLooks := .later }
def FnExactParsePredCardSaid : Prop := Claim7.holds Tryz.pinned (.plain (OpenSpec.ofChange fnExactParsePredSpec)) fnExactParsePredCard

/-- THE TIED CARD OF 'laws.FnPredTexts'. -/
def fnPredTextsCard : Claim7 := { stood := { row := fnPredTextsRow, standIns := [], harness := (true, "9043cf69c621035b79d7013cf5b5a68f4c4c7026ccb859f03d217b204c871f20"), looks := true }, kinds := [], alts := [], laidByText := true, laidKinds := [.data, .data, .data, .sentinel, .sentinel], laidTests := true, laidLooks := .later }
def FnPredTextsCardSaid : Prop := Claim7.holds Tryz.pinned (.plain (OpenSpec.ofChange fnPredTextsSpec)) fnPredTextsCard

/-- THE SECOND FORM's CARD OF 'laws.FnExactParsePred'. -/
def fnExactParsePredUptoCard : Claim7 := { stood := { row := fnExactParsePredUptoRow, standIns := [], harness := (true, "9043cf69c621035b79d7013cf5b5a68f4c4c7026ccb859f03d217b204c871f20"), looks := true }, kinds := [], alts := [], laidByText := true, laidKinds := [.data, .data, .data, .sentinel, .sentinel], laidTests := true, laidLooks := .later }
def FnExactParsePredUptoCardSaid : Prop := Claim7.holds Tryz.pinned (.plain (OpenSpec.upto fnExactParsePredSpec)) fnExactParsePredUptoCard

/-- THE SECOND FORM's CARD OF 'laws.FnPredTexts'. -/
def fnPredTextsUptoCard : Claim7 := { stood := { row := fnPredTextsUptoRow, standIns := [], harness := (true, "9043cf69c621035b79d7013cf5b5a68f4c4c7026ccb859f03d217b204c871f20"), looks := true }, kinds := [], alts := [], laidByText := true, laidKinds := [.data, .data, .data, .sentinel, .sentinel], laidTests := true, laidLooks := .later }
def FnPredTextsUptoCardSaid : Prop := Claim7.holds Tryz.pinned (.plain (OpenSpec.upto fnPredTextsSpec)) fnPredTextsUptoCard
end Rows
end Go.Proofs.YtjogkbkkcaljhaaGreatDoor
