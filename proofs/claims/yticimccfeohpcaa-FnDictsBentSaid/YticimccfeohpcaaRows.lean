/-
  No cell of these rows narrows 'for every input' (looked for: loops, veiled, ifaces, maps, wideKeys, modest, calm, conditions, laid).
  DERIVED. THE GIVEN ROWS OF THIS SEAT. 9 by the template 'for every input the law returns true; each argument reads behind the call as it read before'; 0 by the template 'total and deterministic' (their statements: YticimccfeohpcaaTotals.lean).
  GIVEN WITH THE SEED: the statements are not yours to turn. If you find one false, say at which input.
  Laid BY PROGRAM, IN A SANDBOX (cutbox-rows.mjs): the forced cells as the released guide's own fill.sh prints them over the translation 511f10dc7ada7972… (all of the seat's roots in one cut). By AI agents, Wed Nov 11 2026. No macro, syntax, notation, axiom, sorry.
-/
import Derived.Test.YticimccfeohpcaaChecked
import GoSem.Claim
import GoSem.ClaimJoined
import GoSem.ClaimMapViews
import Derived.JoinedTies
import Derived.KernelRfl
namespace Go.Proofs.Yticimccfeohpcaa
/- THE CELL 'sum', in the pinned program and in every row, IS THE sha256 OF THE DUMP (.gsa) THAT YticimccfeohpcaaProg.lean LOADS. Nothing in Lean hashes anything: it is a label: what it is worth is what the hold of that sum in a sandbox is worth. -/
noncomputable def Try.pinned : Pinned := { name := "yticimccfeohpcaa", sum := "511f10dc7ada7972276c785f4181aed769a97a9fd51cec22f669e5f9c8ff5543", checked := Try.checked }
namespace Rows
def none {H : Type} : Left H := { results := [], args := [] }

/-- 'laws.FnPacksBent': WHATEVER THE INPUT: true; the input reads as it did. -/
def fnPacksBentSpec : ChangeSpec := { name := "fnPacksBent", fn := fun _ => fun
  | [d] => { results := [.lit (.bool true)], args := [d] }
  | _ => none }
def fnPacksBentRow : OpenClaim := { program := "yticimccfeohpcaa", sum := "511f10dc7ada7972276c785f4181aed769a97a9fd51cec22f669e5f9c8ff5543", func := "loop.example/g00496/laws.FnPacksBent", spec := "fnPacksBent", apart := false }
def FnPacksBentSaid : Prop := fnPacksBentRow.holds Try.pinned (OpenSpec.ofChange fnPacksBentSpec)

/-- ITS FALSE NEIGHBOUR: 'it returns false'. Refute it at one input. -/
def fnPacksBentWrong : ChangeSpec := { name := "fnPacksBent", fn := fun _ => fun
  | [d] => { results := [.lit (.bool false)], args := [d] }
  | _ => none }
def FnPacksBentWrongFalsely : Prop := fnPacksBentRow.holds Try.pinned (OpenSpec.ofChange fnPacksBentWrong)

/-- 'laws.FnNumLists': WHATEVER THE INPUT: true; the input reads as it did. -/
def fnNumListsSpec : ChangeSpec := { name := "fnNumLists", fn := fun _ => fun
  | [d] => { results := [.lit (.bool true)], args := [d] }
  | _ => none }
def fnNumListsRow : OpenClaim := { program := "yticimccfeohpcaa", sum := "511f10dc7ada7972276c785f4181aed769a97a9fd51cec22f669e5f9c8ff5543", func := "loop.example/g00496/laws.FnNumLists", spec := "fnNumLists", apart := false }
def FnNumListsSaid : Prop := fnNumListsRow.holds Try.pinned (OpenSpec.ofChange fnNumListsSpec)

/-- ITS FALSE NEIGHBOUR: 'it returns false'. Refute it at one input. -/
def fnNumListsWrong : ChangeSpec := { name := "fnNumLists", fn := fun _ => fun
  | [d] => { results := [.lit (.bool false)], args := [d] }
  | _ => none }
def FnNumListsWrongFalsely : Prop := fnNumListsRow.holds Try.pinned (OpenSpec.ofChange fnNumListsWrong)

/-- 'laws.FnFrames': WHATEVER THE INPUT: true; the input reads as it did. -/
def fnFramesSpec : ChangeSpec := { name := "fnFrames", fn := fun _ => fun
  | [d] => { results := [.lit (.bool true)], args := [d] }
  | _ => none }
def fnFramesRow : OpenClaim := { program := "yticimccfeohpcaa", sum := "511f10dc7ada7972276c785f4181aed769a97a9fd51cec22f669e5f9c8ff5543", func := "loop.example/g00496/laws.FnFrames", spec := "fnFrames", apart := false }
def FnFramesSaid : Prop := fnFramesRow.holds Try.pinned (OpenSpec.ofChange fnFramesSpec)

/-- ITS FALSE NEIGHBOUR: 'it returns false'. Refute it at one input. -/
def fnFramesWrong : ChangeSpec := { name := "fnFrames", fn := fun _ => fun
  | [d] => { results := [.lit (.bool false)], args := [d] }
  | _ => none }
def FnFramesWrongFalsely : Prop := fnFramesRow.holds Try.pinned (OpenSpec.ofChange fnFramesWrong)

/-- 'laws.FnFramesBent': WHATEVER THE INPUT: true; the input reads as it did. -/
def fnFramesBentSpec : ChangeSpec := { name := "fnFramesBent", fn := fun _ => fun
  | [d] => { results := [.lit (.bool true)], args := [d] }
  | _ => none }
def fnFramesBentRow : OpenClaim := { program := "yticimccfeohpcaa", sum := "511f10dc7ada7972276c785f4181aed769a97a9fd51cec22f669e5f9c8ff5543", func := "loop.example/g00496/laws.FnFramesBent", spec := "fnFramesBent", apart := false }
def FnFramesBentSaid : Prop := fnFramesBentRow.holds Try.pinned (OpenSpec.ofChange fnFramesBentSpec)

/-- ITS FALSE NEIGHBOUR: 'it returns false'. Refute it at one input. -/
def fnFramesBentWrong : ChangeSpec := { name := "fnFramesBent", fn := fun _ => fun
  | [d] => { results := [.lit (.bool false)], args := [d] }
  | _ => none }
def FnFramesBentWrongFalsely : Prop := fnFramesBentRow.holds Try.pinned (OpenSpec.ofChange fnFramesBentWrong)

/-- 'laws.FnExactEncBy': WHATEVER THE INPUT: true; the input reads as it did. -/
def fnExactEncBySpec : ChangeSpec := { name := "fnExactEncBy", fn := fun _ => fun
  | [d1, d2] => { results := [.lit (.bool true)], args := [d1, d2] }
  | _ => none }
def fnExactEncByRow : OpenClaim := { program := "yticimccfeohpcaa", sum := "511f10dc7ada7972276c785f4181aed769a97a9fd51cec22f669e5f9c8ff5543", func := "loop.example/g00496/laws.FnExactEncBy", spec := "fnExactEncBy", unfollowed := true, recurses := true, apart := false }
def FnExactEncBySaid : Prop := fnExactEncByRow.holds Try.pinned (OpenSpec.ofChange fnExactEncBySpec)

/-- ITS FALSE NEIGHBOUR: 'it returns false'. Refute it at one input. -/
def fnExactEncByWrong : ChangeSpec := { name := "fnExactEncBy", fn := fun _ => fun
  | [d1, d2] => { results := [.lit (.bool false)], args := [d1, d2] }
  | _ => none }
def FnExactEncByWrongFalsely : Prop := fnExactEncByRow.holds Try.pinned (OpenSpec.ofChange fnExactEncByWrong)

/-- 'laws.FnExactBestKind': WHATEVER THE INPUT: true; the input reads as it did. -/
def fnExactBestKindSpec : ChangeSpec := { name := "fnExactBestKind", fn := fun _ => fun
  | [d] => { results := [.lit (.bool true)], args := [d] }
  | _ => none }
def fnExactBestKindRow : OpenClaim := { program := "yticimccfeohpcaa", sum := "511f10dc7ada7972276c785f4181aed769a97a9fd51cec22f669e5f9c8ff5543", func := "loop.example/g00496/laws.FnExactBestKind", spec := "fnExactBestKind", unfollowed := true, recurses := true, apart := false }
def FnExactBestKindSaid : Prop := fnExactBestKindRow.holds Try.pinned (OpenSpec.ofChange fnExactBestKindSpec)

/-- ITS FALSE NEIGHBOUR: 'it returns false'. Refute it at one input. -/
def fnExactBestKindWrong : ChangeSpec := { name := "fnExactBestKind", fn := fun _ => fun
  | [d] => { results := [.lit (.bool false)], args := [d] }
  | _ => none }
def FnExactBestKindWrongFalsely : Prop := fnExactBestKindRow.holds Try.pinned (OpenSpec.ofChange fnExactBestKindWrong)

/-- 'laws.FnExactSaved': WHATEVER THE INPUT: true; the input reads as it did. -/
def fnExactSavedSpec : ChangeSpec := { name := "fnExactSaved", fn := fun _ => fun
  | [d] => { results := [.lit (.bool true)], args := [d] }
  | _ => none }
def fnExactSavedRow : OpenClaim := { program := "yticimccfeohpcaa", sum := "511f10dc7ada7972276c785f4181aed769a97a9fd51cec22f669e5f9c8ff5543", func := "loop.example/g00496/laws.FnExactSaved", spec := "fnExactSaved", unfollowed := true, recurses := true, apart := false }
def FnExactSavedSaid : Prop := fnExactSavedRow.holds Try.pinned (OpenSpec.ofChange fnExactSavedSpec)

/-- ITS FALSE NEIGHBOUR: 'it returns false'. Refute it at one input. -/
def fnExactSavedWrong : ChangeSpec := { name := "fnExactSaved", fn := fun _ => fun
  | [d] => { results := [.lit (.bool false)], args := [d] }
  | _ => none }
def FnExactSavedWrongFalsely : Prop := fnExactSavedRow.holds Try.pinned (OpenSpec.ofChange fnExactSavedWrong)

/-- 'laws.FnExactEncCol': WHATEVER THE INPUT: true; the input reads as it did. -/
def fnExactEncColSpec : ChangeSpec := { name := "fnExactEncCol", fn := fun _ => fun
  | [d] => { results := [.lit (.bool true)], args := [d] }
  | _ => none }
def fnExactEncColRow : OpenClaim := { program := "yticimccfeohpcaa", sum := "511f10dc7ada7972276c785f4181aed769a97a9fd51cec22f669e5f9c8ff5543", func := "loop.example/g00496/laws.FnExactEncCol", spec := "fnExactEncCol", unfollowed := true, recurses := true, apart := false }
def FnExactEncColSaid : Prop := fnExactEncColRow.holds Try.pinned (OpenSpec.ofChange fnExactEncColSpec)

/-- ITS FALSE NEIGHBOUR: 'it returns false'. Refute it at one input. -/
def fnExactEncColWrong : ChangeSpec := { name := "fnExactEncCol", fn := fun _ => fun
  | [d] => { results := [.lit (.bool false)], args := [d] }
  | _ => none }
def FnExactEncColWrongFalsely : Prop := fnExactEncColRow.holds Try.pinned (OpenSpec.ofChange fnExactEncColWrong)

/-- 'laws.FnDictsBent': WHATEVER THE INPUT: true; the input reads as it did. -/
def fnDictsBentSpec : ChangeSpec := { name := "fnDictsBent", fn := fun _ => fun
  | [d] => { results := [.lit (.bool true)], args := [d] }
  | _ => none }
def fnDictsBentRow : OpenClaim := { program := "yticimccfeohpcaa", sum := "511f10dc7ada7972276c785f4181aed769a97a9fd51cec22f669e5f9c8ff5543", func := "loop.example/g00496/laws.FnDictsBent", spec := "fnDictsBent", unfollowed := true, recurses := true, apart := false }
def FnDictsBentSaid : Prop := fnDictsBentRow.holds Try.pinned (OpenSpec.ofChange fnDictsBentSpec)

/-- ITS FALSE NEIGHBOUR: 'it returns false'. Refute it at one input. -/
def fnDictsBentWrong : ChangeSpec := { name := "fnDictsBent", fn := fun _ => fun
  | [d] => { results := [.lit (.bool false)], args := [d] }
  | _ => none }
def FnDictsBentWrongFalsely : Prop := fnDictsBentRow.holds Try.pinned (OpenSpec.ofChange fnDictsBentWrong)

/- THE SECOND FORM. 'bulk': how many values and letters a reading holds, each counted each time it is reached (what is shared counts as often as it is met; a slice's spare places count too). A statement '..UptoSaid' is the law's where the arguments, and the package variables that the reading takes, are together of bulk at most 1048576: NARROWER than '..Said'. Prove '..Said' where nothing that the law and all that it calls make is longer than what came in: it says more and counts as full. Else prove '..UptoSaid'. A law counts once. -/
mutual
def uptoBulk {H : Type} : DataW H → Nat
  | .lit (.string bytes) => bytes.length + 1
  | .lit _ => 1
  | .nil => 1
  | .ptr d => uptoBulk d + 1
  | .slice elems spare => uptoBulkAll elems + uptoBulkAll spare + 1
  | .agg parts => uptoBulkAll parts + 1
  | .iface _ d => uptoBulk d + 1
  | .map entries => uptoBulkEntries entries + 1
  | .held _ => 1
def uptoBulkAll {H : Type} : List (DataW H) → Nat
  | [] => 0
  | d :: r => uptoBulk d + uptoBulkAll r
def uptoBulkEntries {H : Type} : List (Lit × DataW H) → Nat
  | [] => 0
  | x :: r => uptoBulkEntry x + uptoBulkEntries r
def uptoBulkEntry {H : Type} : Lit × DataW H → Nat
  | (.string bytes, d) => bytes.length + uptoBulk d + 1
  | (_, d) => uptoBulk d + 1
 end
def uptoSmall : (H : Type) → List (DataW H) → Bool := fun _ ds => decide (uptoBulkAll ds ≤ 1048576)
def OpenSpec.upto (s : _root_.Go.ChangeSpec) : _root_.Go.OpenSpec := { _root_.Go.OpenSpec.ofChange s with cond := some uptoSmall }

/-- 'laws.FnPacksBent', WHERE WHAT IT READS IS OF BULK AT MOST 1048576: true; the input reads as it did. -/
def fnPacksBentUptoRow : OpenClaim := { program := "yticimccfeohpcaa", sum := "511f10dc7ada7972276c785f4181aed769a97a9fd51cec22f669e5f9c8ff5543", func := "loop.example/g00496/laws.FnPacksBent", spec := "fnPacksBent", apart := false, narrowed := true }
def FnPacksBentUptoSaid : Prop := fnPacksBentUptoRow.holds Try.pinned (OpenSpec.upto fnPacksBentSpec)

/-- 'laws.FnNumLists', WHERE WHAT IT READS IS OF BULK AT MOST 1048576: true; the input reads as it did. -/
def fnNumListsUptoRow : OpenClaim := { program := "yticimccfeohpcaa", sum := "511f10dc7ada7972276c785f4181aed769a97a9fd51cec22f669e5f9c8ff5543", func := "loop.example/g00496/laws.FnNumLists", spec := "fnNumLists", apart := false, narrowed := true }
def FnNumListsUptoSaid : Prop := fnNumListsUptoRow.holds Try.pinned (OpenSpec.upto fnNumListsSpec)

/-- 'laws.FnFrames', WHERE WHAT IT READS IS OF BULK AT MOST 1048576: true; the input reads as it did. -/
def fnFramesUptoRow : OpenClaim := { program := "yticimccfeohpcaa", sum := "511f10dc7ada7972276c785f4181aed769a97a9fd51cec22f669e5f9c8ff5543", func := "loop.example/g00496/laws.FnFrames", spec := "fnFrames", apart := false, narrowed := true }
def FnFramesUptoSaid : Prop := fnFramesUptoRow.holds Try.pinned (OpenSpec.upto fnFramesSpec)

/-- 'laws.FnFramesBent', WHERE WHAT IT READS IS OF BULK AT MOST 1048576: true; the input reads as it did. -/
def fnFramesBentUptoRow : OpenClaim := { program := "yticimccfeohpcaa", sum := "511f10dc7ada7972276c785f4181aed769a97a9fd51cec22f669e5f9c8ff5543", func := "loop.example/g00496/laws.FnFramesBent", spec := "fnFramesBent", apart := false, narrowed := true }
def FnFramesBentUptoSaid : Prop := fnFramesBentUptoRow.holds Try.pinned (OpenSpec.upto fnFramesBentSpec)

/-- 'laws.FnExactEncBy', WHERE WHAT IT READS IS OF BULK AT MOST 1048576: true; the input reads as it did. -/
def fnExactEncByUptoRow : OpenClaim := { program := "yticimccfeohpcaa", sum := "511f10dc7ada7972276c785f4181aed769a97a9fd51cec22f669e5f9c8ff5543", func := "loop.example/g00496/laws.FnExactEncBy", spec := "fnExactEncBy", unfollowed := true, recurses := true, apart := false, narrowed := true }
def FnExactEncByUptoSaid : Prop := fnExactEncByUptoRow.holds Try.pinned (OpenSpec.upto fnExactEncBySpec)

/-- 'laws.FnExactBestKind', WHERE WHAT IT READS IS OF BULK AT MOST 1048576: true; the input reads as it did. -/
def fnExactBestKindUptoRow : OpenClaim := { program := "yticimccfeohpcaa", sum := "511f10dc7ada7972276c785f4181aed769a97a9fd51cec22f669e5f9c8ff5543", func := "loop.example/g00496/laws.FnExactBestKind", spec := "fnExactBestKind", unfollowed := true, recurses := true, apart := false, narrowed := true }
def FnExactBestKindUptoSaid : Prop := fnExactBestKindUptoRow.holds Try.pinned (OpenSpec.upto fnExactBestKindSpec)

/-- 'laws.FnExactSaved', WHERE WHAT IT READS IS OF BULK AT MOST 1048576: true; the input reads as it did. -/
def fnExactSavedUptoRow : OpenClaim := { program := "yticimccfeohpcaa", sum := "511f10dc7ada7972276c785f4181aed769a97a9fd51cec22f669e5f9c8ff5543", func := "loop.example/g00496/laws.FnExactSaved", spec := "fnExactSaved", unfollowed := true, recurses := true, apart := false, narrowed := true }
def FnExactSavedUptoSaid : Prop := fnExactSavedUptoRow.holds Try.pinned (OpenSpec.upto fnExactSavedSpec)

/-- 'laws.FnExactEncCol', WHERE WHAT IT READS IS OF BULK AT MOST 1048576: true; the input reads as it did. -/
def fnExactEncColUptoRow : OpenClaim := { program := "yticimccfeohpcaa", sum := "511f10dc7ada7972276c785f4181aed769a97a9fd51cec22f669e5f9c8ff5543", func := "loop.example/g00496/laws.FnExactEncCol", spec := "fnExactEncCol", unfollowed := true, recurses := true, apart := false, narrowed := true }
def FnExactEncColUptoSaid : Prop := fnExactEncColUptoRow.holds Try.pinned (OpenSpec.upto fnExactEncColSpec)

/-- 'laws.FnDictsBent', WHERE WHAT IT READS IS OF BULK AT MOST 1048576: true; the input reads as it did. -/
def fnDictsBentUptoRow : OpenClaim := { program := "yticimccfeohpcaa", sum := "511f10dc7ada7972276c785f4181aed769a97a9fd51cec22f669e5f9c8ff5543", func := "loop.example/g00496/laws.FnDictsBent", spec := "fnDictsBent", unfollowed := true, recurses := true, apart := false, narrowed := true }
def FnDictsBentUptoSaid : Prop := fnDictsBentUptoRow.holds Try.pinned (OpenSpec.upto fnDictsBentSpec)

end Rows
end Go.Proofs.Yticimccfeohpcaa
