/-
  No cell of these rows narrows 'for every input' (looked for: loops, veiled, ifaces, maps, wideKeys, modest, calm, conditions, laid).
  DERIVED. THE GIVEN ROWS OF THIS SEAT. 7 by the template 'for every input the law returns true; each argument reads behind the call as it read before'; 0 by the template 'total and deterministic' (their statements: YtnfodmncbnbldaaTotals.lean).
  GIVEN WITH THE SEED: the statements are not yours to turn. If you find one false, say at which input.
  Laid BY PROGRAM, IN A SANDBOX (cutbox-rows.mjs): the forced cells as the released guide's own fill.sh prints them over the translation 9620227ff7c745b0… (all of the seat's roots in one cut). By AI agents, Wed Nov 11 2026. No macro, syntax, notation, axiom, sorry.
-/
import Derived.Test.YtnfodmncbnbldaaChecked
import GoSem.Claim
import GoSem.ClaimJoined
import GoSem.ClaimMapViews
import Derived.JoinedTies
import Derived.KernelRfl
namespace Go.Proofs.Ytnfodmncbnbldaa
/- THE CELL 'sum', in the pinned program and in every row, IS THE sha256 OF THE DUMP (.gsa) THAT YtnfodmncbnbldaaProg.lean LOADS. Nothing in Lean hashes anything: it is a label: what it is worth is what the hold of that sum in a sandbox is worth. -/
noncomputable def Try.pinned : Pinned := { name := "ytnfodmncbnbldaa", sum := "9620227ff7c745b01c3d72eb99a0434b949982aba0736a9ee5c9a7d38a800a3c", checked := Try.checked }
namespace Rows
def none {H : Type} : Left H := { results := [], args := [] }

/-- 'laws.FnExactCellOk': WHATEVER THE INPUT: true; the input reads as it did. -/
def fnExactCellOkSpec : ChangeSpec := { name := "fnExactCellOk", fn := fun _ => fun
  | [d] => { results := [.lit (.bool true)], args := [d] }
  | _ => none }
def fnExactCellOkRow : OpenClaim := { program := "ytnfodmncbnbldaa", sum := "9620227ff7c745b01c3d72eb99a0434b949982aba0736a9ee5c9a7d38a800a3c", func := "loop.example/g00496/laws.FnExactCellOk", spec := "fnExactCellOk", apart := false }
def FnExactCellOkSaid : Prop := fnExactCellOkRow.holds Try.pinned (OpenSpec.ofChange fnExactCellOkSpec)

/-- ITS FALSE NEIGHBOUR: 'it returns false'. Refute it at one input. -/
def fnExactCellOkWrong : ChangeSpec := { name := "fnExactCellOk", fn := fun _ => fun
  | [d] => { results := [.lit (.bool false)], args := [d] }
  | _ => none }
def FnExactCellOkWrongFalsely : Prop := fnExactCellOkRow.holds Try.pinned (OpenSpec.ofChange fnExactCellOkWrong)

/-- 'laws.FnExactNeedsHelp': WHATEVER THE INPUT: true; the input reads as it did. -/
def fnExactNeedsHelpSpec : ChangeSpec := { name := "fnExactNeedsHelp", fn := fun _ => fun
  | [d] => { results := [.lit (.bool true)], args := [d] }
  | _ => none }
def fnExactNeedsHelpRow : OpenClaim := { program := "ytnfodmncbnbldaa", sum := "9620227ff7c745b01c3d72eb99a0434b949982aba0736a9ee5c9a7d38a800a3c", func := "loop.example/g00496/laws.FnExactNeedsHelp", spec := "fnExactNeedsHelp", apart := false }
def FnExactNeedsHelpSaid : Prop := fnExactNeedsHelpRow.holds Try.pinned (OpenSpec.ofChange fnExactNeedsHelpSpec)

/-- ITS FALSE NEIGHBOUR: 'it returns false'. Refute it at one input. -/
def fnExactNeedsHelpWrong : ChangeSpec := { name := "fnExactNeedsHelp", fn := fun _ => fun
  | [d] => { results := [.lit (.bool false)], args := [d] }
  | _ => none }
def FnExactNeedsHelpWrongFalsely : Prop := fnExactNeedsHelpRow.holds Try.pinned (OpenSpec.ofChange fnExactNeedsHelpWrong)

/-- 'laws.FnExactCame': WHATEVER THE INPUT: true; the input reads as it did. -/
def fnExactCameSpec : ChangeSpec := { name := "fnExactCame", fn := fun _ => fun
  | [d1, d2] => { results := [.lit (.bool true)], args := [d1, d2] }
  | _ => none }
def fnExactCameRow : OpenClaim := { program := "ytnfodmncbnbldaa", sum := "9620227ff7c745b01c3d72eb99a0434b949982aba0736a9ee5c9a7d38a800a3c", func := "loop.example/g00496/laws.FnExactCame", spec := "fnExactCame", apart := false }
def FnExactCameSaid : Prop := fnExactCameRow.holds Try.pinned (OpenSpec.ofChange fnExactCameSpec)

/-- ITS FALSE NEIGHBOUR: 'it returns false'. Refute it at one input. -/
def fnExactCameWrong : ChangeSpec := { name := "fnExactCame", fn := fun _ => fun
  | [d1, d2] => { results := [.lit (.bool false)], args := [d1, d2] }
  | _ => none }
def FnExactCameWrongFalsely : Prop := fnExactCameRow.holds Try.pinned (OpenSpec.ofChange fnExactCameWrong)

/-- 'laws.FnExactLives': WHATEVER THE INPUT: true; the input reads as it did. -/
def fnExactLivesSpec : ChangeSpec := { name := "fnExactLives", fn := fun _ => fun
  | [d1, d2, d3] => { results := [.lit (.bool true)], args := [d1, d2, d3] }
  | _ => none }
def fnExactLivesRow : OpenClaim := { program := "ytnfodmncbnbldaa", sum := "9620227ff7c745b01c3d72eb99a0434b949982aba0736a9ee5c9a7d38a800a3c", func := "loop.example/g00496/laws.FnExactLives", spec := "fnExactLives", apart := false }
def FnExactLivesSaid : Prop := fnExactLivesRow.holds Try.pinned (OpenSpec.ofChange fnExactLivesSpec)

/-- ITS FALSE NEIGHBOUR: 'it returns false'. Refute it at one input. -/
def fnExactLivesWrong : ChangeSpec := { name := "fnExactLives", fn := fun _ => fun
  | [d1, d2, d3] => { results := [.lit (.bool false)], args := [d1, d2, d3] }
  | _ => none }
def FnExactLivesWrongFalsely : Prop := fnExactLivesRow.holds Try.pinned (OpenSpec.ofChange fnExactLivesWrong)

/-- 'laws.FnExactClaim': WHATEVER THE INPUT: true; the input reads as it did. -/
def fnExactClaimSpec : ChangeSpec := { name := "fnExactClaim", fn := fun _ => fun
  | [d] => { results := [.lit (.bool true)], args := [d] }
  | _ => none }
def fnExactClaimRow : OpenClaim := { program := "ytnfodmncbnbldaa", sum := "9620227ff7c745b01c3d72eb99a0434b949982aba0736a9ee5c9a7d38a800a3c", func := "loop.example/g00496/laws.FnExactClaim", spec := "fnExactClaim", apart := false }
def FnExactClaimSaid : Prop := fnExactClaimRow.holds Try.pinned (OpenSpec.ofChange fnExactClaimSpec)

/-- ITS FALSE NEIGHBOUR: 'it returns false'. Refute it at one input. -/
def fnExactClaimWrong : ChangeSpec := { name := "fnExactClaim", fn := fun _ => fun
  | [d] => { results := [.lit (.bool false)], args := [d] }
  | _ => none }
def FnExactClaimWrongFalsely : Prop := fnExactClaimRow.holds Try.pinned (OpenSpec.ofChange fnExactClaimWrong)

/-- 'laws.FnExactStamp': WHATEVER THE INPUT: true; the input reads as it did. -/
def fnExactStampSpec : ChangeSpec := { name := "fnExactStamp", fn := fun _ => fun
  | [d1, d2] => { results := [.lit (.bool true)], args := [d1, d2] }
  | _ => none }
def fnExactStampRow : OpenClaim := { program := "ytnfodmncbnbldaa", sum := "9620227ff7c745b01c3d72eb99a0434b949982aba0736a9ee5c9a7d38a800a3c", func := "loop.example/g00496/laws.FnExactStamp", spec := "fnExactStamp", apart := false }
def FnExactStampSaid : Prop := fnExactStampRow.holds Try.pinned (OpenSpec.ofChange fnExactStampSpec)

/-- ITS FALSE NEIGHBOUR: 'it returns false'. Refute it at one input. -/
def fnExactStampWrong : ChangeSpec := { name := "fnExactStamp", fn := fun _ => fun
  | [d1, d2] => { results := [.lit (.bool false)], args := [d1, d2] }
  | _ => none }
def FnExactStampWrongFalsely : Prop := fnExactStampRow.holds Try.pinned (OpenSpec.ofChange fnExactStampWrong)

/-- 'laws.FnExactOpText': WHATEVER THE INPUT: true; the input reads as it did. -/
def fnExactOpTextSpec : ChangeSpec := { name := "fnExactOpText", fn := fun _ => fun
  | [d] => { results := [.lit (.bool true)], args := [d] }
  | _ => none }
def fnExactOpTextRow : OpenClaim := { program := "ytnfodmncbnbldaa", sum := "9620227ff7c745b01c3d72eb99a0434b949982aba0736a9ee5c9a7d38a800a3c", func := "loop.example/g00496/laws.FnExactOpText", spec := "fnExactOpText", apart := false }
def FnExactOpTextSaid : Prop := fnExactOpTextRow.holds Try.pinned (OpenSpec.ofChange fnExactOpTextSpec)

/-- ITS FALSE NEIGHBOUR: 'it returns false'. Refute it at one input. -/
def fnExactOpTextWrong : ChangeSpec := { name := "fnExactOpText", fn := fun _ => fun
  | [d] => { results := [.lit (.bool false)], args := [d] }
  | _ => none }
def FnExactOpTextWrongFalsely : Prop := fnExactOpTextRow.holds Try.pinned (OpenSpec.ofChange fnExactOpTextWrong)

/- THE SECOND FORM. 'bulk': how many values and letters a reading holds, each counted each time it is reached (what is shared counts as often as it is met; a slice's spare places count too). A statement '..UptoSaid' is the law's where the arguments, and the package variables that the reading takes, are together of bulk at most 1048576: NARROWER than '..Said'. Prove '..Said' where nothing that the law and all that it calls make is longer than what came in: it says more and counts as full. Else prove '..UptoSaid'. A law counts once. -/
mutual
def uptoBulk {H : Type} : DataW H → Nat
  | .lit (.string bytes) => bytes.length + 1
  | .lit _ => 1
  | .nil => 1
  | .ptr d => uptoBulk d + 1
  | .slice elems spare => uptoBulkAll elems + uptoBulkAll spare + 1
  | .agg parts => uptoBulkAll parts + 1
  | .iface _ d => uptoBulk d + 1
  | .map entries => uptoBulkEntries entries + 1
  | .held _ => 1
def uptoBulkAll {H : Type} : List (DataW H) → Nat
  | [] => 0
  | d :: r => uptoBulk d + uptoBulkAll r
def uptoBulkEntries {H : Type} : List (Lit × DataW H) → Nat
  | [] => 0
  | x :: r => uptoBulkEntry x + uptoBulkEntries r
def uptoBulkEntry {H : Type} : Lit × DataW H → Nat
  | (.string bytes, d) => bytes.length + uptoBulk d + 1
  | (_, d) => uptoBulk d + 1
 end
def uptoSmall : (H : Type) → List (DataW H) → Bool := fun _ ds => decide (uptoBulkAll ds ≤ 1048576)
def OpenSpec.upto (s : _root_.Go.ChangeSpec) : _root_.Go.OpenSpec := { _root_.Go.OpenSpec.ofChange s with cond := some uptoSmall }

/-- 'laws.FnExactCellOk', WHERE WHAT IT READS IS OF BULK AT MOST 1048576: true; the input reads as it did. -/
def fnExactCellOkUptoRow : OpenClaim := { program := "ytnfodmncbnbldaa", sum := "9620227ff7c745b01c3d72eb99a0434b949982aba0736a9ee5c9a7d38a800a3c", func := "loop.example/g00496/laws.FnExactCellOk", spec := "fnExactCellOk", apart := false, narrowed := true }
def FnExactCellOkUptoSaid : Prop := fnExactCellOkUptoRow.holds Try.pinned (OpenSpec.upto fnExactCellOkSpec)

/-- 'laws.FnExactNeedsHelp', WHERE WHAT IT READS IS OF BULK AT MOST 1048576: true; the input reads as it did. -/
def fnExactNeedsHelpUptoRow : OpenClaim := { program := "ytnfodmncbnbldaa", sum := "9620227ff7c745b01c3d72eb99a0434b949982aba0736a9ee5c9a7d38a800a3c", func := "loop.example/g00496/laws.FnExactNeedsHelp", spec := "fnExactNeedsHelp", apart := false, narrowed := true }
def FnExactNeedsHelpUptoSaid : Prop := fnExactNeedsHelpUptoRow.holds Try.pinned (OpenSpec.upto fnExactNeedsHelpSpec)

/-- 'laws.FnExactCame', WHERE WHAT IT READS IS OF BULK AT MOST 1048576: true; the input reads as it did. -/
def fnExactCameUptoRow : OpenClaim := { program := "ytnfodmncbnbldaa", sum := "9620227ff7c745b01c3d72eb99a0434b949982aba0736a9ee5c9a7d38a800a3c", func := "loop.example/g00496/laws.FnExactCame", spec := "fnExactCame", apart := false, narrowed := true }
def FnExactCameUptoSaid : Prop := fnExactCameUptoRow.holds Try.pinned (OpenSpec.upto fnExactCameSpec)

/-- 'laws.FnExactLives', WHERE WHAT IT READS IS OF BULK AT MOST 1048576: true; the input reads as it did. -/
def fnExactLivesUptoRow : OpenClaim := { program := "ytnfodmncbnbldaa", sum := "9620227ff7c745b01c3d72eb99a0434b949982aba0736a9ee5c9a7d38a800a3c", func := "loop.example/g00496/laws.FnExactLives", spec := "fnExactLives", apart := false, narrowed := true }
def FnExactLivesUptoSaid : Prop := fnExactLivesUptoRow.holds Try.pinned (OpenSpec.upto fnExactLivesSpec)

/-- 'laws.FnExactClaim', WHERE WHAT IT READS IS OF BULK AT MOST 1048576: true; the input reads as it did. -/
def fnExactClaimUptoRow : OpenClaim := { program := "ytnfodmncbnbldaa", sum := "9620227ff7c745b01c3d72eb99a0434b949982aba0736a9ee5c9a7d38a800a3c", func := "loop.example/g00496/laws.FnExactClaim", spec := "fnExactClaim", apart := false, narrowed := true }
def FnExactClaimUptoSaid : Prop := fnExactClaimUptoRow.holds Try.pinned (OpenSpec.upto fnExactClaimSpec)

/-- 'laws.FnExactStamp', WHERE WHAT IT READS IS OF BULK AT MOST 1048576: true; the input reads as it did. -/
def fnExactStampUptoRow : OpenClaim := { program := "ytnfodmncbnbldaa", sum := "9620227ff7c745b01c3d72eb99a0434b949982aba0736a9ee5c9a7d38a800a3c", func := "loop.example/g00496/laws.FnExactStamp", spec := "fnExactStamp", apart := false, narrowed := true }
def FnExactStampUptoSaid : Prop := fnExactStampUptoRow.holds Try.pinned (OpenSpec.upto fnExactStampSpec)

/-- 'laws.FnExactOpText', WHERE WHAT IT READS IS OF BULK AT MOST 1048576: true; the input reads as it did. -/
def fnExactOpTextUptoRow : OpenClaim := { program := "ytnfodmncbnbldaa", sum := "9620227ff7c745b01c3d72eb99a0434b949982aba0736a9ee5c9a7d38a800a3c", func := "loop.example/g00496/laws.FnExactOpText", spec := "fnExactOpText", apart := false, narrowed := true }
def FnExactOpTextUptoSaid : Prop := fnExactOpTextUptoRow.holds Try.pinned (OpenSpec.upto fnExactOpTextSpec)

end Rows
end Go.Proofs.Ytnfodmncbnbldaa
