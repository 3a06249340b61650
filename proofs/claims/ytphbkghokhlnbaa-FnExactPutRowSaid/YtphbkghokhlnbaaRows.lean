/-
  No cell of these rows narrows 'for every input' (looked for: loops, veiled, ifaces, maps, wideKeys, modest, calm, conditions, laid).
  DERIVED. THE GIVEN ROWS OF THIS SEAT. 12 by the template 'for every input the law returns true; each argument reads behind the call as it read before'; 0 by the template 'total and deterministic' (their statements: YtphbkghokhlnbaaTotals.lean).
  GIVEN WITH THE SEED: the statements are not yours to turn. If you find one false, say at which input.
  Laid BY PROGRAM, IN A SANDBOX (cutbox-rows.mjs): the forced cells as the released guide's own fill.sh prints them over the translation d2cfd6e22f803054… (all of the seat's roots in one cut). By AI agents, Wed Nov 11 2026. No macro, syntax, notation, axiom, sorry.
-/
import Derived.Test.YtphbkghokhlnbaaChecked
import GoSem.Claim
import GoSem.ClaimJoined
import GoSem.ClaimMapViews
import Derived.JoinedTies
import Derived.KernelRfl
namespace Go.Proofs.Ytphbkghokhlnbaa
/- THE CELL 'sum', in the pinned program and in every row, IS THE sha256 OF THE DUMP (.gsa) THAT YtphbkghokhlnbaaProg.lean LOADS. Nothing in Lean hashes anything: it is a label: what it is worth is what the hold of that sum in a sandbox is worth. -/
noncomputable def Try.pinned : Pinned := { name := "ytphbkghokhlnbaa", sum := "d2cfd6e22f803054dde5aa6dcc7f8765556e48b36551ab82bbd21bd6d8dc843d", checked := Try.checked }
namespace Rows
def none {H : Type} : Left H := { results := [], args := [] }

/-- 'laws.FnExactKindText': WHATEVER THE INPUT: true; the input reads as it did. -/
def fnExactKindTextSpec : ChangeSpec := { name := "fnExactKindText", fn := fun _ => fun
  | [d] => { results := [.lit (.bool true)], args := [d] }
  | _ => none }
def fnExactKindTextRow : OpenClaim := { program := "ytphbkghokhlnbaa", sum := "d2cfd6e22f803054dde5aa6dcc7f8765556e48b36551ab82bbd21bd6d8dc843d", func := "loop.example/g00496/laws.FnExactKindText", spec := "fnExactKindText", apart := false }
def FnExactKindTextSaid : Prop := fnExactKindTextRow.holds Try.pinned (OpenSpec.ofChange fnExactKindTextSpec)

/-- ITS FALSE NEIGHBOUR: 'it returns false'. Refute it at one input. -/
def fnExactKindTextWrong : ChangeSpec := { name := "fnExactKindText", fn := fun _ => fun
  | [d] => { results := [.lit (.bool false)], args := [d] }
  | _ => none }
def FnExactKindTextWrongFalsely : Prop := fnExactKindTextRow.holds Try.pinned (OpenSpec.ofChange fnExactKindTextWrong)

/-- 'laws.FnExactOpposite': WHATEVER THE INPUT: true; the input reads as it did. -/
def fnExactOppositeSpec : ChangeSpec := { name := "fnExactOpposite", fn := fun _ => fun
  | [d] => { results := [.lit (.bool true)], args := [d] }
  | _ => none }
def fnExactOppositeRow : OpenClaim := { program := "ytphbkghokhlnbaa", sum := "d2cfd6e22f803054dde5aa6dcc7f8765556e48b36551ab82bbd21bd6d8dc843d", func := "loop.example/g00496/laws.FnExactOpposite", spec := "fnExactOpposite", apart := false }
def FnExactOppositeSaid : Prop := fnExactOppositeRow.holds Try.pinned (OpenSpec.ofChange fnExactOppositeSpec)

/-- ITS FALSE NEIGHBOUR: 'it returns false'. Refute it at one input. -/
def fnExactOppositeWrong : ChangeSpec := { name := "fnExactOpposite", fn := fun _ => fun
  | [d] => { results := [.lit (.bool false)], args := [d] }
  | _ => none }
def FnExactOppositeWrongFalsely : Prop := fnExactOppositeRow.holds Try.pinned (OpenSpec.ofChange fnExactOppositeWrong)

/-- 'laws.FnExactInZone': WHATEVER THE INPUT: true; the input reads as it did. -/
def fnExactInZoneSpec : ChangeSpec := { name := "fnExactInZone", fn := fun _ => fun
  | [d1, d2] => { results := [.lit (.bool true)], args := [d1, d2] }
  | _ => none }
def fnExactInZoneRow : OpenClaim := { program := "ytphbkghokhlnbaa", sum := "d2cfd6e22f803054dde5aa6dcc7f8765556e48b36551ab82bbd21bd6d8dc843d", func := "loop.example/g00496/laws.FnExactInZone", spec := "fnExactInZone", apart := false }
def FnExactInZoneSaid : Prop := fnExactInZoneRow.holds Try.pinned (OpenSpec.ofChange fnExactInZoneSpec)

/-- ITS FALSE NEIGHBOUR: 'it returns false'. Refute it at one input. -/
def fnExactInZoneWrong : ChangeSpec := { name := "fnExactInZone", fn := fun _ => fun
  | [d1, d2] => { results := [.lit (.bool false)], args := [d1, d2] }
  | _ => none }
def FnExactInZoneWrongFalsely : Prop := fnExactInZoneRow.holds Try.pinned (OpenSpec.ofChange fnExactInZoneWrong)

/-- 'laws.FnExactHolds1': WHATEVER THE INPUT: true; the input reads as it did. -/
def fnExactHolds1Spec : ChangeSpec := { name := "fnExactHolds1", fn := fun _ => fun
  | [d1, d2, d3] => { results := [.lit (.bool true)], args := [d1, d2, d3] }
  | _ => none }
def fnExactHolds1Row : OpenClaim := { program := "ytphbkghokhlnbaa", sum := "d2cfd6e22f803054dde5aa6dcc7f8765556e48b36551ab82bbd21bd6d8dc843d", func := "loop.example/g00496/laws.FnExactHolds1", spec := "fnExactHolds1", apart := false }
def FnExactHolds1Said : Prop := fnExactHolds1Row.holds Try.pinned (OpenSpec.ofChange fnExactHolds1Spec)

/-- ITS FALSE NEIGHBOUR: 'it returns false'. Refute it at one input. -/
def fnExactHolds1Wrong : ChangeSpec := { name := "fnExactHolds1", fn := fun _ => fun
  | [d1, d2, d3] => { results := [.lit (.bool false)], args := [d1, d2, d3] }
  | _ => none }
def FnExactHolds1WrongFalsely : Prop := fnExactHolds1Row.holds Try.pinned (OpenSpec.ofChange fnExactHolds1Wrong)

/-- 'laws.FnExactMayHold1': WHATEVER THE INPUT: true; the input reads as it did. -/
def fnExactMayHold1Spec : ChangeSpec := { name := "fnExactMayHold1", fn := fun _ => fun
  | [d1, d2, d3] => { results := [.lit (.bool true)], args := [d1, d2, d3] }
  | _ => none }
def fnExactMayHold1Row : OpenClaim := { program := "ytphbkghokhlnbaa", sum := "d2cfd6e22f803054dde5aa6dcc7f8765556e48b36551ab82bbd21bd6d8dc843d", func := "loop.example/g00496/laws.FnExactMayHold1", spec := "fnExactMayHold1", apart := false }
def FnExactMayHold1Said : Prop := fnExactMayHold1Row.holds Try.pinned (OpenSpec.ofChange fnExactMayHold1Spec)

/-- ITS FALSE NEIGHBOUR: 'it returns false'. Refute it at one input. -/
def fnExactMayHold1Wrong : ChangeSpec := { name := "fnExactMayHold1", fn := fun _ => fun
  | [d1, d2, d3] => { results := [.lit (.bool false)], args := [d1, d2, d3] }
  | _ => none }
def FnExactMayHold1WrongFalsely : Prop := fnExactMayHold1Row.holds Try.pinned (OpenSpec.ofChange fnExactMayHold1Wrong)

/-- 'laws.FnExactZoneOf': WHATEVER THE INPUT: true; the input reads as it did. -/
def fnExactZoneOfSpec : ChangeSpec := { name := "fnExactZoneOf", fn := fun _ => fun
  | [d] => { results := [.lit (.bool true)], args := [d] }
  | _ => none }
def fnExactZoneOfRow : OpenClaim := { program := "ytphbkghokhlnbaa", sum := "d2cfd6e22f803054dde5aa6dcc7f8765556e48b36551ab82bbd21bd6d8dc843d", func := "loop.example/g00496/laws.FnExactZoneOf", spec := "fnExactZoneOf", apart := false }
def FnExactZoneOfSaid : Prop := fnExactZoneOfRow.holds Try.pinned (OpenSpec.ofChange fnExactZoneOfSpec)

/-- ITS FALSE NEIGHBOUR: 'it returns false'. Refute it at one input. -/
def fnExactZoneOfWrong : ChangeSpec := { name := "fnExactZoneOf", fn := fun _ => fun
  | [d] => { results := [.lit (.bool false)], args := [d] }
  | _ => none }
def FnExactZoneOfWrongFalsely : Prop := fnExactZoneOfRow.holds Try.pinned (OpenSpec.ofChange fnExactZoneOfWrong)

/-- 'laws.FnExactChunkNew': WHATEVER THE INPUT: true; the input reads as it did. -/
def fnExactChunkNewSpec : ChangeSpec := { name := "fnExactChunkNew", fn := fun _ => fun
  | [d] => { results := [.lit (.bool true)], args := [d] }
  | _ => none }
def fnExactChunkNewRow : OpenClaim := { program := "ytphbkghokhlnbaa", sum := "d2cfd6e22f803054dde5aa6dcc7f8765556e48b36551ab82bbd21bd6d8dc843d", func := "loop.example/g00496/laws.FnExactChunkNew", spec := "fnExactChunkNew", apart := false }
def FnExactChunkNewSaid : Prop := fnExactChunkNewRow.holds Try.pinned (OpenSpec.ofChange fnExactChunkNewSpec)

/-- ITS FALSE NEIGHBOUR: 'it returns false'. Refute it at one input. -/
def fnExactChunkNewWrong : ChangeSpec := { name := "fnExactChunkNew", fn := fun _ => fun
  | [d] => { results := [.lit (.bool false)], args := [d] }
  | _ => none }
def FnExactChunkNewWrongFalsely : Prop := fnExactChunkNewRow.holds Try.pinned (OpenSpec.ofChange fnExactChunkNewWrong)

/-- 'laws.FnExactWhole': WHATEVER THE INPUT: true; the input reads as it did. -/
def fnExactWholeSpec : ChangeSpec := { name := "fnExactWhole", fn := fun _ => fun
  | [d1, d2] => { results := [.lit (.bool true)], args := [d1, d2] }
  | _ => none }
def fnExactWholeRow : OpenClaim := { program := "ytphbkghokhlnbaa", sum := "d2cfd6e22f803054dde5aa6dcc7f8765556e48b36551ab82bbd21bd6d8dc843d", func := "loop.example/g00496/laws.FnExactWhole", spec := "fnExactWhole", apart := false }
def FnExactWholeSaid : Prop := fnExactWholeRow.holds Try.pinned (OpenSpec.ofChange fnExactWholeSpec)

/-- ITS FALSE NEIGHBOUR: 'it returns false'. Refute it at one input. -/
def fnExactWholeWrong : ChangeSpec := { name := "fnExactWhole", fn := fun _ => fun
  | [d1, d2] => { results := [.lit (.bool false)], args := [d1, d2] }
  | _ => none }
def FnExactWholeWrongFalsely : Prop := fnExactWholeRow.holds Try.pinned (OpenSpec.ofChange fnExactWholeWrong)

/-- 'laws.FnExactFindRow': WHATEVER THE INPUT: true; the input reads as it did. -/
def fnExactFindRowSpec : ChangeSpec := { name := "fnExactFindRow", fn := fun _ => fun
  | [d1, d2] => { results := [.lit (.bool true)], args := [d1, d2] }
  | _ => none }
def fnExactFindRowRow : OpenClaim := { program := "ytphbkghokhlnbaa", sum := "d2cfd6e22f803054dde5aa6dcc7f8765556e48b36551ab82bbd21bd6d8dc843d", func := "loop.example/g00496/laws.FnExactFindRow", spec := "fnExactFindRow", apart := false }
def FnExactFindRowSaid : Prop := fnExactFindRowRow.holds Try.pinned (OpenSpec.ofChange fnExactFindRowSpec)

/-- ITS FALSE NEIGHBOUR: 'it returns false'. Refute it at one input. -/
def fnExactFindRowWrong : ChangeSpec := { name := "fnExactFindRow", fn := fun _ => fun
  | [d1, d2] => { results := [.lit (.bool false)], args := [d1, d2] }
  | _ => none }
def FnExactFindRowWrongFalsely : Prop := fnExactFindRowRow.holds Try.pinned (OpenSpec.ofChange fnExactFindRowWrong)

/-- 'laws.FnExactSameResult': WHATEVER THE INPUT: true; the input reads as it did. -/
def fnExactSameResultSpec : ChangeSpec := { name := "fnExactSameResult", fn := fun _ => fun
  | [d1, d2] => { results := [.lit (.bool true)], args := [d1, d2] }
  | _ => none }
def fnExactSameResultRow : OpenClaim := { program := "ytphbkghokhlnbaa", sum := "d2cfd6e22f803054dde5aa6dcc7f8765556e48b36551ab82bbd21bd6d8dc843d", func := "loop.example/g00496/laws.FnExactSameResult", spec := "fnExactSameResult", apart := false }
def FnExactSameResultSaid : Prop := fnExactSameResultRow.holds Try.pinned (OpenSpec.ofChange fnExactSameResultSpec)

/-- ITS FALSE NEIGHBOUR: 'it returns false'. Refute it at one input. -/
def fnExactSameResultWrong : ChangeSpec := { name := "fnExactSameResult", fn := fun _ => fun
  | [d1, d2] => { results := [.lit (.bool false)], args := [d1, d2] }
  | _ => none }
def FnExactSameResultWrongFalsely : Prop := fnExactSameResultRow.holds Try.pinned (OpenSpec.ofChange fnExactSameResultWrong)

/-- 'laws.FnExactOffsets': WHATEVER THE INPUT: true; the input reads as it did. -/
def fnExactOffsetsSpec : ChangeSpec := { name := "fnExactOffsets", fn := fun _ => fun
  | [d] => { results := [.lit (.bool true)], args := [d] }
  | _ => none }
def fnExactOffsetsRow : OpenClaim := { program := "ytphbkghokhlnbaa", sum := "d2cfd6e22f803054dde5aa6dcc7f8765556e48b36551ab82bbd21bd6d8dc843d", func := "loop.example/g00496/laws.FnExactOffsets", spec := "fnExactOffsets", apart := false }
def FnExactOffsetsSaid : Prop := fnExactOffsetsRow.holds Try.pinned (OpenSpec.ofChange fnExactOffsetsSpec)

/-- ITS FALSE NEIGHBOUR: 'it returns false'. Refute it at one input. -/
def fnExactOffsetsWrong : ChangeSpec := { name := "fnExactOffsets", fn := fun _ => fun
  | [d] => { results := [.lit (.bool false)], args := [d] }
  | _ => none }
def FnExactOffsetsWrongFalsely : Prop := fnExactOffsetsRow.holds Try.pinned (OpenSpec.ofChange fnExactOffsetsWrong)

/-- 'laws.FnExactPutRow': WHATEVER THE INPUT: true; the input reads as it did. -/
def fnExactPutRowSpec : ChangeSpec := { name := "fnExactPutRow", fn := fun _ => fun
  | [d1, d2] => { results := [.lit (.bool true)], args := [d1, d2] }
  | _ => none }
def fnExactPutRowRow : OpenClaim := { program := "ytphbkghokhlnbaa", sum := "d2cfd6e22f803054dde5aa6dcc7f8765556e48b36551ab82bbd21bd6d8dc843d", func := "loop.example/g00496/laws.FnExactPutRow", spec := "fnExactPutRow", apart := false }
def FnExactPutRowSaid : Prop := fnExactPutRowRow.holds Try.pinned (OpenSpec.ofChange fnExactPutRowSpec)

/-- ITS FALSE NEIGHBOUR: 'it returns false'. Refute it at one input. -/
def fnExactPutRowWrong : ChangeSpec := { name := "fnExactPutRow", fn := fun _ => fun
  | [d1, d2] => { results := [.lit (.bool false)], args := [d1, d2] }
  | _ => none }
def FnExactPutRowWrongFalsely : Prop := fnExactPutRowRow.holds Try.pinned (OpenSpec.ofChange fnExactPutRowWrong)

/- THE SECOND FORM. 'bulk': how many values and letters a reading holds, each counted each time it is reached (what is shared counts as often as it is met; a slice's spare places count too). A statement '..UptoSaid' is the law's where the arguments, and the package variables that the reading takes, are together of bulk at most 1048576: NARROWER than '..Said'. Prove '..Said' where nothing that the law and all that it calls make is longer than what came in: it says more and counts as full. Else prove '..UptoSaid'. A law counts once. -/
mutual
def uptoBulk {H : Type} : DataW H → Nat
  | .lit (.string bytes) => bytes.length + 1
  | .lit _ => 1
  | .nil => 1
  | .ptr d => uptoBulk d + 1
  | .slice elems spare => uptoBulkAll elems + uptoBulkAll spare + 1
  | .agg parts => uptoBulkAll parts + 1
  | .iface _ d => uptoBulk d + 1
  | .map entries => uptoBulkEntries entries + 1
  | .held _ => 1
def uptoBulkAll {H : Type} : List (DataW H) → Nat
  | [] => 0
  | d :: r => uptoBulk d + uptoBulkAll r
def uptoBulkEntries {H : Type} : List (Lit × DataW H) → Nat
  | [] => 0
  | x :: r => uptoBulkEntry x + uptoBulkEntries r
def uptoBulkEntry {H : Type} : Lit × DataW H → Nat
  | (.string bytes, d) => bytes.length + uptoBulk d + 1
  | (_, d) => uptoBulk d + 1
 end
def uptoSmall : (H : Type) → List (DataW H) → Bool := fun _ ds => decide (uptoBulkAll ds ≤ 1048576)
def OpenSpec.upto (s : _root_.Go.ChangeSpec) : _root_.Go.OpenSpec := { _root_.Go.OpenSpec.ofChange s with cond := some uptoSmall }

/-- 'laws.FnExactKindText', WHERE WHAT IT READS IS OF BULK AT MOST 1048576: true; the input reads as it did. -/
def fnExactKindTextUptoRow : OpenClaim := { program := "ytphbkghokhlnbaa", sum := "d2cfd6e22f803054dde5aa6dcc7f8765556e48b36551ab82bbd21bd6d8dc843d", func := "loop.example/g00496/laws.FnExactKindText", spec := "fnExactKindText", apart := false, narrowed := true }
def FnExactKindTextUptoSaid : Prop := fnExactKindTextUptoRow.holds Try.pinned (OpenSpec.upto fnExactKindTextSpec)

/-- 'laws.FnExactOpposite', WHERE WHAT IT READS IS OF BULK AT MOST 1048576: true; the input reads as it did. -/
def fnExactOppositeUptoRow : OpenClaim := { program := "ytphbkghokhlnbaa", sum := "d2cfd6e22f803054dde5aa6dcc7f8765556e48b36551ab82bbd21bd6d8dc843d", func := "loop.example/g00496/laws.FnExactOpposite", spec := "fnExactOpposite", apart := false, narrowed := true }
def FnExactOppositeUptoSaid : Prop := fnExactOppositeUptoRow.holds Try.pinned (OpenSpec.upto fnExactOppositeSpec)

/-- 'laws.FnExactInZone', WHERE WHAT IT READS IS OF BULK AT MOST 1048576: true; the input reads as it did. -/
def fnExactInZoneUptoRow : OpenClaim := { program := "ytphbkghokhlnbaa", sum := "d2cfd6e22f803054dde5aa6dcc7f8765556e48b36551ab82bbd21bd6d8dc843d", func := "loop.example/g00496/laws.FnExactInZone", spec := "fnExactInZone", apart := false, narrowed := true }
def FnExactInZoneUptoSaid : Prop := fnExactInZoneUptoRow.holds Try.pinned (OpenSpec.upto fnExactInZoneSpec)

/-- 'laws.FnExactHolds1', WHERE WHAT IT READS IS OF BULK AT MOST 1048576: true; the input reads as it did. -/
def fnExactHolds1UptoRow : OpenClaim := { program := "ytphbkghokhlnbaa", sum := "d2cfd6e22f803054dde5aa6dcc7f8765556e48b36551ab82bbd21bd6d8dc843d", func := "loop.example/g00496/laws.FnExactHolds1", spec := "fnExactHolds1", apart := false, narrowed := true }
def FnExactHolds1UptoSaid : Prop := fnExactHolds1UptoRow.holds Try.pinned (OpenSpec.upto fnExactHolds1Spec)

/-- 'laws.FnExactMayHold1', WHERE WHAT IT READS IS OF BULK AT MOST 1048576: true; the input reads as it did. -/
def fnExactMayHold1UptoRow : OpenClaim := { program := "ytphbkghokhlnbaa", sum := "d2cfd6e22f803054dde5aa6dcc7f8765556e48b36551ab82bbd21bd6d8dc843d", func := "loop.example/g00496/laws.FnExactMayHold1", spec := "fnExactMayHold1", apart := false, narrowed := true }
def FnExactMayHold1UptoSaid : Prop := fnExactMayHold1UptoRow.holds Try.pinned (OpenSpec.upto fnExactMayHold1Spec)

/-- 'laws.FnExactZoneOf', WHERE WHAT IT READS IS OF BULK AT MOST 1048576: true; the input reads as it did. -/
def fnExactZoneOfUptoRow : OpenClaim := { program := "ytphbkghokhlnbaa", sum := "d2cfd6e22f803054dde5aa6dcc7f8765556e48b36551ab82bbd21bd6d8dc843d", func := "loop.example/g00496/laws.FnExactZoneOf", spec := "fnExactZoneOf", apart := false, narrowed := true }
def FnExactZoneOfUptoSaid : Prop := fnExactZoneOfUptoRow.holds Try.pinned (OpenSpec.upto fnExactZoneOfSpec)

/-- 'laws.FnExactChunkNew', WHERE WHAT IT READS IS OF BULK AT MOST 1048576: true; the input reads as it did. -/
def fnExactChunkNewUptoRow : OpenClaim := { program := "ytphbkghokhlnbaa", sum := "d2cfd6e22f803054dde5aa6dcc7f8765556e48b36551ab82bbd21bd6d8dc843d", func := "loop.example/g00496/laws.FnExactChunkNew", spec := "fnExactChunkNew", apart := false, narrowed := true }
def FnExactChunkNewUptoSaid : Prop := fnExactChunkNewUptoRow.holds Try.pinned (OpenSpec.upto fnExactChunkNewSpec)

/-- 'laws.FnExactWhole', WHERE WHAT IT READS IS OF BULK AT MOST 1048576: true; the input reads as it did. -/
def fnExactWholeUptoRow : OpenClaim := { program := "ytphbkghokhlnbaa", sum := "d2cfd6e22f803054dde5aa6dcc7f8765556e48b36551ab82bbd21bd6d8dc843d", func := "loop.example/g00496/laws.FnExactWhole", spec := "fnExactWhole", apart := false, narrowed := true }
def FnExactWholeUptoSaid : Prop := fnExactWholeUptoRow.holds Try.pinned (OpenSpec.upto fnExactWholeSpec)

/-- 'laws.FnExactFindRow', WHERE WHAT IT READS IS OF BULK AT MOST 1048576: true; the input reads as it did. -/
def fnExactFindRowUptoRow : OpenClaim := { program := "ytphbkghokhlnbaa", sum := "d2cfd6e22f803054dde5aa6dcc7f8765556e48b36551ab82bbd21bd6d8dc843d", func := "loop.example/g00496/laws.FnExactFindRow", spec := "fnExactFindRow", apart := false, narrowed := true }
def FnExactFindRowUptoSaid : Prop := fnExactFindRowUptoRow.holds Try.pinned (OpenSpec.upto fnExactFindRowSpec)

/-- 'laws.FnExactSameResult', WHERE WHAT IT READS IS OF BULK AT MOST 1048576: true; the input reads as it did. -/
def fnExactSameResultUptoRow : OpenClaim := { program := "ytphbkghokhlnbaa", sum := "d2cfd6e22f803054dde5aa6dcc7f8765556e48b36551ab82bbd21bd6d8dc843d", func := "loop.example/g00496/laws.FnExactSameResult", spec := "fnExactSameResult", apart := false, narrowed := true }
def FnExactSameResultUptoSaid : Prop := fnExactSameResultUptoRow.holds Try.pinned (OpenSpec.upto fnExactSameResultSpec)

/-- 'laws.FnExactOffsets', WHERE WHAT IT READS IS OF BULK AT MOST 1048576: true; the input reads as it did. -/
def fnExactOffsetsUptoRow : OpenClaim := { program := "ytphbkghokhlnbaa", sum := "d2cfd6e22f803054dde5aa6dcc7f8765556e48b36551ab82bbd21bd6d8dc843d", func := "loop.example/g00496/laws.FnExactOffsets", spec := "fnExactOffsets", apart := false, narrowed := true }
def FnExactOffsetsUptoSaid : Prop := fnExactOffsetsUptoRow.holds Try.pinned (OpenSpec.upto fnExactOffsetsSpec)

/-- 'laws.FnExactPutRow', WHERE WHAT IT READS IS OF BULK AT MOST 1048576: true; the input reads as it did. -/
def fnExactPutRowUptoRow : OpenClaim := { program := "ytphbkghokhlnbaa", sum := "d2cfd6e22f803054dde5aa6dcc7f8765556e48b36551ab82bbd21bd6d8dc843d", func := "loop.example/g00496/laws.FnExactPutRow", spec := "fnExactPutRow", apart := false, narrowed := true }
def FnExactPutRowUptoSaid : Prop := fnExactPutRowUptoRow.holds Try.pinned (OpenSpec.upto fnExactPutRowSpec)

end Rows
end Go.Proofs.Ytphbkghokhlnbaa
