/-
  NARROWER THAN 'FOR EVERY INPUT', by the rows' own cells (each row's printed sentence says how): FnExactPredOk: loops · FnExactHolds: loops · FnExactQueryOk: loops · FnExactMayHold: loops · FnExactMeant: loops · FnExactJoined: loops · FnExactAnswer: loops.
  DERIVED. THE GIVEN ROWS OF THIS SEAT. 12 by the template 'for every input the law returns true; each argument reads behind the call as it read before'; 0 by the template 'total and deterministic' (their statements: YtgjjkodlmhmjgaaTotals.lean).
  GIVEN WITH THE SEED: the statements are not yours to turn. If you find one false, say at which input.
  Laid BY PROGRAM, IN A SANDBOX (cutbox-rows.mjs): the forced cells as the released guide's own fill.sh prints them over the translation 245815144cb3333e… (all of the seat's roots in one cut). By AI agents, Wed Nov 11 2026. No macro, syntax, notation, axiom, sorry.
-/
import Derived.Test.YtgjjkodlmhmjgaaChecked
import GoSem.Claim
import GoSem.ClaimJoined
import GoSem.ClaimMapViews
import Derived.JoinedTies
import Derived.KernelRfl
namespace Go.Proofs.Ytgjjkodlmhmjgaa
/- THE CELL 'sum', in the pinned program and in every row, IS THE sha256 OF THE DUMP (.gsa) THAT YtgjjkodlmhmjgaaProg.lean LOADS. Nothing in Lean hashes anything: it is a label: what it is worth is what the hold of that sum in a sandbox is worth. -/
noncomputable def Try.pinned : Pinned := { name := "ytgjjkodlmhmjgaa", sum := "245815144cb3333ecc430e7c9d1bcdac103094fa3ab8277cb174d53f150ff285", checked := Try.checked }
namespace Rows
def none {H : Type} : Left H := { results := [], args := [] }

/-- 'laws.FnExactRowsOk': WHATEVER THE INPUT: true; the input reads as it did. -/
def fnExactRowsOkSpec : ChangeSpec := { name := "fnExactRowsOk", fn := fun _ => fun
  | [d1, d2] => { results := [.lit (.bool true)], args := [d1, d2] }
  | _ => none }
def fnExactRowsOkRow : OpenClaim := { program := "ytgjjkodlmhmjgaa", sum := "245815144cb3333ecc430e7c9d1bcdac103094fa3ab8277cb174d53f150ff285", func := "loop.example/g00496/laws.FnExactRowsOk", spec := "fnExactRowsOk", apart := false }
def FnExactRowsOkSaid : Prop := fnExactRowsOkRow.holds Try.pinned (OpenSpec.ofChange fnExactRowsOkSpec)

/-- ITS FALSE NEIGHBOUR: 'it returns false'. Refute it at one input. -/
def fnExactRowsOkWrong : ChangeSpec := { name := "fnExactRowsOk", fn := fun _ => fun
  | [d1, d2] => { results := [.lit (.bool false)], args := [d1, d2] }
  | _ => none }
def FnExactRowsOkWrongFalsely : Prop := fnExactRowsOkRow.holds Try.pinned (OpenSpec.ofChange fnExactRowsOkWrong)

/-- 'laws.FnExactPredOk': WHATEVER THE INPUT: true; the input reads as it did. -/
def fnExactPredOkSpec : ChangeSpec := { name := "fnExactPredOk", fn := fun _ => fun
  | [d1, d2] => { results := [.lit (.bool true)], args := [d1, d2] }
  | _ => none }
def fnExactPredOkRow : OpenClaim := { program := "ytgjjkodlmhmjgaa", sum := "245815144cb3333ecc430e7c9d1bcdac103094fa3ab8277cb174d53f150ff285", func := "loop.example/g00496/laws.FnExactPredOk", spec := "fnExactPredOk", recurses := true, loops := true, apart := false }
def FnExactPredOkSaid : Prop := fnExactPredOkRow.holds Try.pinned (OpenSpec.ofChange fnExactPredOkSpec)

/-- ITS FALSE NEIGHBOUR: 'it returns false'. Refute it at one input. -/
def fnExactPredOkWrong : ChangeSpec := { name := "fnExactPredOk", fn := fun _ => fun
  | [d1, d2] => { results := [.lit (.bool false)], args := [d1, d2] }
  | _ => none }
def FnExactPredOkWrongFalsely : Prop := fnExactPredOkRow.holds Try.pinned (OpenSpec.ofChange fnExactPredOkWrong)

/-- 'laws.FnExactHolds': WHATEVER THE INPUT: true; the input reads as it did. -/
def fnExactHoldsSpec : ChangeSpec := { name := "fnExactHolds", fn := fun _ => fun
  | [d1, d2] => { results := [.lit (.bool true)], args := [d1, d2] }
  | _ => none }
def fnExactHoldsRow : OpenClaim := { program := "ytgjjkodlmhmjgaa", sum := "245815144cb3333ecc430e7c9d1bcdac103094fa3ab8277cb174d53f150ff285", func := "loop.example/g00496/laws.FnExactHolds", spec := "fnExactHolds", recurses := true, loops := true, apart := false }
def FnExactHoldsSaid : Prop := fnExactHoldsRow.holds Try.pinned (OpenSpec.ofChange fnExactHoldsSpec)

/-- ITS FALSE NEIGHBOUR: 'it returns false'. Refute it at one input. -/
def fnExactHoldsWrong : ChangeSpec := { name := "fnExactHolds", fn := fun _ => fun
  | [d1, d2] => { results := [.lit (.bool false)], args := [d1, d2] }
  | _ => none }
def FnExactHoldsWrongFalsely : Prop := fnExactHoldsRow.holds Try.pinned (OpenSpec.ofChange fnExactHoldsWrong)

/-- 'laws.FnExactChunkOk': WHATEVER THE INPUT: true; the input reads as it did. -/
def fnExactChunkOkSpec : ChangeSpec := { name := "fnExactChunkOk", fn := fun _ => fun
  | [d1, d2] => { results := [.lit (.bool true)], args := [d1, d2] }
  | _ => none }
def fnExactChunkOkRow : OpenClaim := { program := "ytgjjkodlmhmjgaa", sum := "245815144cb3333ecc430e7c9d1bcdac103094fa3ab8277cb174d53f150ff285", func := "loop.example/g00496/laws.FnExactChunkOk", spec := "fnExactChunkOk", apart := false }
def FnExactChunkOkSaid : Prop := fnExactChunkOkRow.holds Try.pinned (OpenSpec.ofChange fnExactChunkOkSpec)

/-- ITS FALSE NEIGHBOUR: 'it returns false'. Refute it at one input. -/
def fnExactChunkOkWrong : ChangeSpec := { name := "fnExactChunkOk", fn := fun _ => fun
  | [d1, d2] => { results := [.lit (.bool false)], args := [d1, d2] }
  | _ => none }
def FnExactChunkOkWrongFalsely : Prop := fnExactChunkOkRow.holds Try.pinned (OpenSpec.ofChange fnExactChunkOkWrong)

/-- 'laws.FnExactDropRows': WHATEVER THE INPUT: true; the input reads as it did. -/
def fnExactDropRowsSpec : ChangeSpec := { name := "fnExactDropRows", fn := fun _ => fun
  | [d1, d2] => { results := [.lit (.bool true)], args := [d1, d2] }
  | _ => none }
def fnExactDropRowsRow : OpenClaim := { program := "ytgjjkodlmhmjgaa", sum := "245815144cb3333ecc430e7c9d1bcdac103094fa3ab8277cb174d53f150ff285", func := "loop.example/g00496/laws.FnExactDropRows", spec := "fnExactDropRows", apart := false }
def FnExactDropRowsSaid : Prop := fnExactDropRowsRow.holds Try.pinned (OpenSpec.ofChange fnExactDropRowsSpec)

/-- ITS FALSE NEIGHBOUR: 'it returns false'. Refute it at one input. -/
def fnExactDropRowsWrong : ChangeSpec := { name := "fnExactDropRows", fn := fun _ => fun
  | [d1, d2] => { results := [.lit (.bool false)], args := [d1, d2] }
  | _ => none }
def FnExactDropRowsWrongFalsely : Prop := fnExactDropRowsRow.holds Try.pinned (OpenSpec.ofChange fnExactDropRowsWrong)

/-- 'laws.FnExactWrite': WHATEVER THE INPUT: true; the input reads as it did. -/
def fnExactWriteSpec : ChangeSpec := { name := "fnExactWrite", fn := fun _ => fun
  | [d1, d2, d3] => { results := [.lit (.bool true)], args := [d1, d2, d3] }
  | _ => none }
def fnExactWriteRow : OpenClaim := { program := "ytgjjkodlmhmjgaa", sum := "245815144cb3333ecc430e7c9d1bcdac103094fa3ab8277cb174d53f150ff285", func := "loop.example/g00496/laws.FnExactWrite", spec := "fnExactWrite", apart := false }
def FnExactWriteSaid : Prop := fnExactWriteRow.holds Try.pinned (OpenSpec.ofChange fnExactWriteSpec)

/-- ITS FALSE NEIGHBOUR: 'it returns false'. Refute it at one input. -/
def fnExactWriteWrong : ChangeSpec := { name := "fnExactWrite", fn := fun _ => fun
  | [d1, d2, d3] => { results := [.lit (.bool false)], args := [d1, d2, d3] }
  | _ => none }
def FnExactWriteWrongFalsely : Prop := fnExactWriteRow.holds Try.pinned (OpenSpec.ofChange fnExactWriteWrong)

/-- 'laws.FnExactZones': WHATEVER THE INPUT: true; the input reads as it did. -/
def fnExactZonesSpec : ChangeSpec := { name := "fnExactZones", fn := fun _ => fun
  | [d] => { results := [.lit (.bool true)], args := [d] }
  | _ => none }
def fnExactZonesRow : OpenClaim := { program := "ytgjjkodlmhmjgaa", sum := "245815144cb3333ecc430e7c9d1bcdac103094fa3ab8277cb174d53f150ff285", func := "loop.example/g00496/laws.FnExactZones", spec := "fnExactZones", apart := false }
def FnExactZonesSaid : Prop := fnExactZonesRow.holds Try.pinned (OpenSpec.ofChange fnExactZonesSpec)

/-- ITS FALSE NEIGHBOUR: 'it returns false'. Refute it at one input. -/
def fnExactZonesWrong : ChangeSpec := { name := "fnExactZones", fn := fun _ => fun
  | [d] => { results := [.lit (.bool false)], args := [d] }
  | _ => none }
def FnExactZonesWrongFalsely : Prop := fnExactZonesRow.holds Try.pinned (OpenSpec.ofChange fnExactZonesWrong)

/-- 'laws.FnExactQueryOk': WHATEVER THE INPUT: true; the input reads as it did. -/
def fnExactQueryOkSpec : ChangeSpec := { name := "fnExactQueryOk", fn := fun _ => fun
  | [d1, d2] => { results := [.lit (.bool true)], args := [d1, d2] }
  | _ => none }
def fnExactQueryOkRow : OpenClaim := { program := "ytgjjkodlmhmjgaa", sum := "245815144cb3333ecc430e7c9d1bcdac103094fa3ab8277cb174d53f150ff285", func := "loop.example/g00496/laws.FnExactQueryOk", spec := "fnExactQueryOk", recurses := true, loops := true, apart := false }
def FnExactQueryOkSaid : Prop := fnExactQueryOkRow.holds Try.pinned (OpenSpec.ofChange fnExactQueryOkSpec)

/-- ITS FALSE NEIGHBOUR: 'it returns false'. Refute it at one input. -/
def fnExactQueryOkWrong : ChangeSpec := { name := "fnExactQueryOk", fn := fun _ => fun
  | [d1, d2] => { results := [.lit (.bool false)], args := [d1, d2] }
  | _ => none }
def FnExactQueryOkWrongFalsely : Prop := fnExactQueryOkRow.holds Try.pinned (OpenSpec.ofChange fnExactQueryOkWrong)

/-- 'laws.FnExactMayHold': WHATEVER THE INPUT: true; the input reads as it did. -/
def fnExactMayHoldSpec : ChangeSpec := { name := "fnExactMayHold", fn := fun _ => fun
  | [d1, d2] => { results := [.lit (.bool true)], args := [d1, d2] }
  | _ => none }
def fnExactMayHoldRow : OpenClaim := { program := "ytgjjkodlmhmjgaa", sum := "245815144cb3333ecc430e7c9d1bcdac103094fa3ab8277cb174d53f150ff285", func := "loop.example/g00496/laws.FnExactMayHold", spec := "fnExactMayHold", recurses := true, loops := true, apart := false }
def FnExactMayHoldSaid : Prop := fnExactMayHoldRow.holds Try.pinned (OpenSpec.ofChange fnExactMayHoldSpec)

/-- ITS FALSE NEIGHBOUR: 'it returns false'. Refute it at one input. -/
def fnExactMayHoldWrong : ChangeSpec := { name := "fnExactMayHold", fn := fun _ => fun
  | [d1, d2] => { results := [.lit (.bool false)], args := [d1, d2] }
  | _ => none }
def FnExactMayHoldWrongFalsely : Prop := fnExactMayHoldRow.holds Try.pinned (OpenSpec.ofChange fnExactMayHoldWrong)

/-- 'laws.FnExactMeant': WHATEVER THE INPUT: true; the input reads as it did. -/
def fnExactMeantSpec : ChangeSpec := { name := "fnExactMeant", fn := fun _ => fun
  | [d1, d2] => { results := [.lit (.bool true)], args := [d1, d2] }
  | _ => none }
def fnExactMeantRow : OpenClaim := { program := "ytgjjkodlmhmjgaa", sum := "245815144cb3333ecc430e7c9d1bcdac103094fa3ab8277cb174d53f150ff285", func := "loop.example/g00496/laws.FnExactMeant", spec := "fnExactMeant", recurses := true, loops := true, apart := false }
def FnExactMeantSaid : Prop := fnExactMeantRow.holds Try.pinned (OpenSpec.ofChange fnExactMeantSpec)

/-- ITS FALSE NEIGHBOUR: 'it returns false'. Refute it at one input. -/
def fnExactMeantWrong : ChangeSpec := { name := "fnExactMeant", fn := fun _ => fun
  | [d1, d2] => { results := [.lit (.bool false)], args := [d1, d2] }
  | _ => none }
def FnExactMeantWrongFalsely : Prop := fnExactMeantRow.holds Try.pinned (OpenSpec.ofChange fnExactMeantWrong)

/-- 'laws.FnExactJoined': WHATEVER THE INPUT: true; the input reads as it did. -/
def fnExactJoinedSpec : ChangeSpec := { name := "fnExactJoined", fn := fun _ => fun
  | [d1, d2, d3] => { results := [.lit (.bool true)], args := [d1, d2, d3] }
  | _ => none }
def fnExactJoinedRow : OpenClaim := { program := "ytgjjkodlmhmjgaa", sum := "245815144cb3333ecc430e7c9d1bcdac103094fa3ab8277cb174d53f150ff285", func := "loop.example/g00496/laws.FnExactJoined", spec := "fnExactJoined", recurses := true, loops := true, apart := false }
def FnExactJoinedSaid : Prop := fnExactJoinedRow.holds Try.pinned (OpenSpec.ofChange fnExactJoinedSpec)

/-- ITS FALSE NEIGHBOUR: 'it returns false'. Refute it at one input. -/
def fnExactJoinedWrong : ChangeSpec := { name := "fnExactJoined", fn := fun _ => fun
  | [d1, d2, d3] => { results := [.lit (.bool false)], args := [d1, d2, d3] }
  | _ => none }
def FnExactJoinedWrongFalsely : Prop := fnExactJoinedRow.holds Try.pinned (OpenSpec.ofChange fnExactJoinedWrong)

/-- 'laws.FnExactAnswer': WHATEVER THE INPUT: true; the input reads as it did. -/
def fnExactAnswerSpec : ChangeSpec := { name := "fnExactAnswer", fn := fun _ => fun
  | [d1, d2] => { results := [.lit (.bool true)], args := [d1, d2] }
  | _ => none }
def fnExactAnswerRow : OpenClaim := { program := "ytgjjkodlmhmjgaa", sum := "245815144cb3333ecc430e7c9d1bcdac103094fa3ab8277cb174d53f150ff285", func := "loop.example/g00496/laws.FnExactAnswer", spec := "fnExactAnswer", recurses := true, loops := true, apart := false }
def FnExactAnswerSaid : Prop := fnExactAnswerRow.holds Try.pinned (OpenSpec.ofChange fnExactAnswerSpec)

/-- ITS FALSE NEIGHBOUR: 'it returns false'. Refute it at one input. -/
def fnExactAnswerWrong : ChangeSpec := { name := "fnExactAnswer", fn := fun _ => fun
  | [d1, d2] => { results := [.lit (.bool false)], args := [d1, d2] }
  | _ => none }
def FnExactAnswerWrongFalsely : Prop := fnExactAnswerRow.holds Try.pinned (OpenSpec.ofChange fnExactAnswerWrong)

/- THE SECOND FORM. 'bulk': how many values and letters a reading holds, each counted each time it is reached (what is shared counts as often as it is met; a slice's spare places count too). A statement '..UptoSaid' is the law's where the arguments, and the package variables that the reading takes, are together of bulk at most 1048576: NARROWER than '..Said'. Prove '..Said' where nothing that the law and all that it calls make is longer than what came in: it says more and counts as full. Else prove '..UptoSaid'. A law counts once. -/
mutual
def uptoBulk {H : Type} : DataW H → Nat
  | .lit (.string bytes) => bytes.length + 1
  | .lit _ => 1
  | .nil => 1
  | .ptr d => uptoBulk d + 1
  | .slice elems spare => uptoBulkAll elems + uptoBulkAll spare + 1
  | .agg parts => uptoBulkAll parts + 1
  | .iface _ d => uptoBulk d + 1
  | .map entries => uptoBulkEntries entries + 1
  | .held _ => 1
def uptoBulkAll {H : Type} : List (DataW H) → Nat
  | [] => 0
  | d :: r => uptoBulk d + uptoBulkAll r
def uptoBulkEntries {H : Type} : List (Lit × DataW H) → Nat
  | [] => 0
  | x :: r => uptoBulkEntry x + uptoBulkEntries r
def uptoBulkEntry {H : Type} : Lit × DataW H → Nat
  | (.string bytes, d) => bytes.length + uptoBulk d + 1
  | (_, d) => uptoBulk d + 1
 end
def uptoSmall : (H : Type) → List (DataW H) → Bool := fun _ ds => decide (uptoBulkAll ds ≤ 1048576)
def OpenSpec.upto (s : _root_.Go.ChangeSpec) : _root_.Go.OpenSpec := { _root_.Go.OpenSpec.ofChange s with cond := some uptoSmall }

/-- 'laws.FnExactRowsOk', WHERE WHAT IT READS IS OF BULK AT MOST 1048576: true; the input reads as it did. -/
def fnExactRowsOkUptoRow : OpenClaim := { program := "ytgjjkodlmhmjgaa", sum := "245815144cb3333ecc430e7c9d1bcdac103094fa3ab8277cb174d53f150ff285", func := "loop.example/g00496/laws.FnExactRowsOk", spec := "fnExactRowsOk", apart := false, narrowed := true }
def FnExactRowsOkUptoSaid : Prop := fnExactRowsOkUptoRow.holds Try.pinned (OpenSpec.upto fnExactRowsOkSpec)

/-- 'laws.FnExactPredOk', WHERE WHAT IT READS IS OF BULK AT MOST 1048576: true; the input reads as it did. -/
def fnExactPredOkUptoRow : OpenClaim := { program := "ytgjjkodlmhmjgaa", sum := "245815144cb3333ecc430e7c9d1bcdac103094fa3ab8277cb174d53f150ff285", func := "loop.example/g00496/laws.FnExactPredOk", spec := "fnExactPredOk", recurses := true, loops := true, apart := false, narrowed := true }
def FnExactPredOkUptoSaid : Prop := fnExactPredOkUptoRow.holds Try.pinned (OpenSpec.upto fnExactPredOkSpec)

/-- 'laws.FnExactHolds', WHERE WHAT IT READS IS OF BULK AT MOST 1048576: true; the input reads as it did. -/
def fnExactHoldsUptoRow : OpenClaim := { program := "ytgjjkodlmhmjgaa", sum := "245815144cb3333ecc430e7c9d1bcdac103094fa3ab8277cb174d53f150ff285", func := "loop.example/g00496/laws.FnExactHolds", spec := "fnExactHolds", recurses := true, loops := true, apart := false, narrowed := true }
def FnExactHoldsUptoSaid : Prop := fnExactHoldsUptoRow.holds Try.pinned (OpenSpec.upto fnExactHoldsSpec)

/-- 'laws.FnExactChunkOk', WHERE WHAT IT READS IS OF BULK AT MOST 1048576: true; the input reads as it did. -/
def fnExactChunkOkUptoRow : OpenClaim := { program := "ytgjjkodlmhmjgaa", sum := "245815144cb3333ecc430e7c9d1bcdac103094fa3ab8277cb174d53f150ff285", func := "loop.example/g00496/laws.FnExactChunkOk", spec := "fnExactChunkOk", apart := false, narrowed := true }
def FnExactChunkOkUptoSaid : Prop := fnExactChunkOkUptoRow.holds Try.pinned (OpenSpec.upto fnExactChunkOkSpec)

/-- 'laws.FnExactDropRows', WHERE WHAT IT READS IS OF BULK AT MOST 1048576: true; the input reads as it did. -/
def fnExactDropRowsUptoRow : OpenClaim := { program := "ytgjjkodlmhmjgaa", sum := "245815144cb3333ecc430e7c9d1bcdac103094fa3ab8277cb174d53f150ff285", func := "loop.example/g00496/laws.FnExactDropRows", spec := "fnExactDropRows", apart := false, narrowed := true }
def FnExactDropRowsUptoSaid : Prop := fnExactDropRowsUptoRow.holds Try.pinned (OpenSpec.upto fnExactDropRowsSpec)

/-- 'laws.FnExactWrite', WHERE WHAT IT READS IS OF BULK AT MOST 1048576: true; the input reads as it did. -/
def fnExactWriteUptoRow : OpenClaim := { program := "ytgjjkodlmhmjgaa", sum := "245815144cb3333ecc430e7c9d1bcdac103094fa3ab8277cb174d53f150ff285", func := "loop.example/g00496/laws.FnExactWrite", spec := "fnExactWrite", apart := false, narrowed := true }
def FnExactWriteUptoSaid : Prop := fnExactWriteUptoRow.holds Try.pinned (OpenSpec.upto fnExactWriteSpec)

/-- 'laws.FnExactZones', WHERE WHAT IT READS IS OF BULK AT MOST 1048576: true; the input reads as it did. -/
def fnExactZonesUptoRow : OpenClaim := { program := "ytgjjkodlmhmjgaa", sum := "245815144cb3333ecc430e7c9d1bcdac103094fa3ab8277cb174d53f150ff285", func := "loop.example/g00496/laws.FnExactZones", spec := "fnExactZones", apart := false, narrowed := true }
def FnExactZonesUptoSaid : Prop := fnExactZonesUptoRow.holds Try.pinned (OpenSpec.upto fnExactZonesSpec)

/-- 'laws.FnExactQueryOk', WHERE WHAT IT READS IS OF BULK AT MOST 1048576: true; the input reads as it did. -/
def fnExactQueryOkUptoRow : OpenClaim := { program := "ytgjjkodlmhmjgaa", sum := "245815144cb3333ecc430e7c9d1bcdac103094fa3ab8277cb174d53f150ff285", func := "loop.example/g00496/laws.FnExactQueryOk", spec := "fnExactQueryOk", recurses := true, loops := true, apart := false, narrowed := true }
def FnExactQueryOkUptoSaid : Prop := fnExactQueryOkUptoRow.holds Try.pinned (OpenSpec.upto fnExactQueryOkSpec)

/-- 'laws.FnExactMayHold', WHERE WHAT IT READS IS OF BULK AT MOST 1048576: true; the input reads as it did. -/
def fnExactMayHoldUptoRow : OpenClaim := { program := "ytgjjkodlmhmjgaa", sum := "245815144cb3333ecc430e7c9d1bcdac103094fa3ab8277cb174d53f150ff285", func := "loop.example/g00496/laws.FnExactMayHold", spec := "fnExactMayHold", recurses := true, loops := true, apart := false, narrowed := true }
def FnExactMayHoldUptoSaid : Prop := fnExactMayHoldUptoRow.holds Try.pinned (OpenSpec.upto fnExactMayHoldSpec)

/-- 'laws.FnExactMeant', WHERE WHAT IT READS IS OF BULK AT MOST 1048576: true; the input reads as it did. -/
def fnExactMeantUptoRow : OpenClaim := { program := "ytgjjkodlmhmjgaa", sum := "245815144cb3333ecc430e7c9d1bcdac103094fa3ab8277cb174d53f150ff285", func := "loop.example/g00496/laws.FnExactMeant", spec := "fnExactMeant", recurses := true, loops := true, apart := false, narrowed := true }
def FnExactMeantUptoSaid : Prop := fnExactMeantUptoRow.holds Try.pinned (OpenSpec.upto fnExactMeantSpec)

/-- 'laws.FnExactJoined', WHERE WHAT IT READS IS OF BULK AT MOST 1048576: true; the input reads as it did. -/
def fnExactJoinedUptoRow : OpenClaim := { program := "ytgjjkodlmhmjgaa", sum := "245815144cb3333ecc430e7c9d1bcdac103094fa3ab8277cb174d53f150ff285", func := "loop.example/g00496/laws.FnExactJoined", spec := "fnExactJoined", recurses := true, loops := true, apart := false, narrowed := true }
def FnExactJoinedUptoSaid : Prop := fnExactJoinedUptoRow.holds Try.pinned (OpenSpec.upto fnExactJoinedSpec)

/-- 'laws.FnExactAnswer', WHERE WHAT IT READS IS OF BULK AT MOST 1048576: true; the input reads as it did. -/
def fnExactAnswerUptoRow : OpenClaim := { program := "ytgjjkodlmhmjgaa", sum := "245815144cb3333ecc430e7c9d1bcdac103094fa3ab8277cb174d53f150ff285", func := "loop.example/g00496/laws.FnExactAnswer", spec := "fnExactAnswer", recurses := true, loops := true, apart := false, narrowed := true }
def FnExactAnswerUptoSaid : Prop := fnExactAnswerUptoRow.holds Try.pinned (OpenSpec.upto fnExactAnswerSpec)

end Rows
end Go.Proofs.Ytgjjkodlmhmjgaa
