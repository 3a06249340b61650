/-
  No cell of these rows narrows 'for every input' (looked for: loops, veiled, ifaces, maps, wideKeys, modest, calm, conditions, laid).
  DERIVED. THE GIVEN ROWS OF THIS SEAT. 7 by the template 'for every input the law returns true; each argument reads behind the call as it read before'; 0 by the template 'total and deterministic' (their statements: YtnldneogjdljkaaTotals.lean).
  GIVEN WITH THE SEED: the statements are not yours to turn. If you find one false, say at which input.
  Laid BY PROGRAM, IN A SANDBOX (cutbox-rows.mjs): the forced cells as the released guide's own fill.sh prints them over the translation 74a4d8a3f49774a6… (all of the seat's roots in one cut). By AI agents, Wed Nov 11 2026. No macro, syntax, notation, axiom, sorry.
-/
import Derived.Test.YtnldneogjdljkaaChecked
import GoSem.Claim
import GoSem.ClaimJoined
import GoSem.ClaimMapViews
import Derived.JoinedTies
import Derived.KernelRfl
namespace Go.Proofs.Ytnldneogjdljkaa
/- THE CELL 'sum', in the pinned program and in every row, IS THE sha256 OF THE DUMP (.gsa) THAT YtnldneogjdljkaaProg.lean LOADS. Nothing in Lean hashes anything: it is a label: what it is worth is what the hold of that sum in a sandbox is worth. -/
noncomputable def Try.pinned : Pinned := { name := "ytnldneogjdljkaa", sum := "74a4d8a3f49774a6d23d3d8db2504ff36913ffe7baaa3b9e41b1b58a957d7c6a", checked := Try.checked }
namespace Rows
def none {H : Type} : Left H := { results := [], args := [] }

/-- 'laws.FnPacks': WHATEVER THE INPUT: true; the input reads as it did. -/
def fnPacksSpec : ChangeSpec := { name := "fnPacks", fn := fun _ => fun
  | [d] => { results := [.lit (.bool true)], args := [d] }
  | _ => none }
def fnPacksRow : OpenClaim := { program := "ytnldneogjdljkaa", sum := "74a4d8a3f49774a6d23d3d8db2504ff36913ffe7baaa3b9e41b1b58a957d7c6a", func := "loop.example/g00496/laws.FnPacks", spec := "fnPacks", apart := false }
def FnPacksSaid : Prop := fnPacksRow.holds Try.pinned (OpenSpec.ofChange fnPacksSpec)

/-- ITS FALSE NEIGHBOUR: 'it returns false'. Refute it at one input. -/
def fnPacksWrong : ChangeSpec := { name := "fnPacks", fn := fun _ => fun
  | [d] => { results := [.lit (.bool false)], args := [d] }
  | _ => none }
def FnPacksWrongFalsely : Prop := fnPacksRow.holds Try.pinned (OpenSpec.ofChange fnPacksWrong)

/-- 'laws.FnPacksBent': WHATEVER THE INPUT: true; the input reads as it did. -/
def fnPacksBentSpec : ChangeSpec := { name := "fnPacksBent", fn := fun _ => fun
  | [d] => { results := [.lit (.bool true)], args := [d] }
  | _ => none }
def fnPacksBentRow : OpenClaim := { program := "ytnldneogjdljkaa", sum := "74a4d8a3f49774a6d23d3d8db2504ff36913ffe7baaa3b9e41b1b58a957d7c6a", func := "loop.example/g00496/laws.FnPacksBent", spec := "fnPacksBent", apart := false }
def FnPacksBentSaid : Prop := fnPacksBentRow.holds Try.pinned (OpenSpec.ofChange fnPacksBentSpec)

/-- ITS FALSE NEIGHBOUR: 'it returns false'. Refute it at one input. -/
def fnPacksBentWrong : ChangeSpec := { name := "fnPacksBent", fn := fun _ => fun
  | [d] => { results := [.lit (.bool false)], args := [d] }
  | _ => none }
def FnPacksBentWrongFalsely : Prop := fnPacksBentRow.holds Try.pinned (OpenSpec.ofChange fnPacksBentWrong)

/-- 'laws.FnNumLists': WHATEVER THE INPUT: true; the input reads as it did. -/
def fnNumListsSpec : ChangeSpec := { name := "fnNumLists", fn := fun _ => fun
  | [d] => { results := [.lit (.bool true)], args := [d] }
  | _ => none }
def fnNumListsRow : OpenClaim := { program := "ytnldneogjdljkaa", sum := "74a4d8a3f49774a6d23d3d8db2504ff36913ffe7baaa3b9e41b1b58a957d7c6a", func := "loop.example/g00496/laws.FnNumLists", spec := "fnNumLists", apart := false }
def FnNumListsSaid : Prop := fnNumListsRow.holds Try.pinned (OpenSpec.ofChange fnNumListsSpec)

/-- ITS FALSE NEIGHBOUR: 'it returns false'. Refute it at one input. -/
def fnNumListsWrong : ChangeSpec := { name := "fnNumLists", fn := fun _ => fun
  | [d] => { results := [.lit (.bool false)], args := [d] }
  | _ => none }
def FnNumListsWrongFalsely : Prop := fnNumListsRow.holds Try.pinned (OpenSpec.ofChange fnNumListsWrong)

/-- 'laws.FnExactEncFrame': WHATEVER THE INPUT: true; the input reads as it did. -/
def fnExactEncFrameSpec : ChangeSpec := { name := "fnExactEncFrame", fn := fun _ => fun
  | [d] => { results := [.lit (.bool true)], args := [d] }
  | _ => none }
def fnExactEncFrameRow : OpenClaim := { program := "ytnldneogjdljkaa", sum := "74a4d8a3f49774a6d23d3d8db2504ff36913ffe7baaa3b9e41b1b58a957d7c6a", func := "loop.example/g00496/laws.FnExactEncFrame", spec := "fnExactEncFrame", apart := false }
def FnExactEncFrameSaid : Prop := fnExactEncFrameRow.holds Try.pinned (OpenSpec.ofChange fnExactEncFrameSpec)

/-- ITS FALSE NEIGHBOUR: 'it returns false'. Refute it at one input. -/
def fnExactEncFrameWrong : ChangeSpec := { name := "fnExactEncFrame", fn := fun _ => fun
  | [d] => { results := [.lit (.bool false)], args := [d] }
  | _ => none }
def FnExactEncFrameWrongFalsely : Prop := fnExactEncFrameRow.holds Try.pinned (OpenSpec.ofChange fnExactEncFrameWrong)

/-- 'laws.FnExactDecFrame': WHATEVER THE INPUT: true; the input reads as it did. -/
def fnExactDecFrameSpec : ChangeSpec := { name := "fnExactDecFrame", fn := fun _ => fun
  | [d1, d2] => { results := [.lit (.bool true)], args := [d1, d2] }
  | _ => none }
def fnExactDecFrameRow : OpenClaim := { program := "ytnldneogjdljkaa", sum := "74a4d8a3f49774a6d23d3d8db2504ff36913ffe7baaa3b9e41b1b58a957d7c6a", func := "loop.example/g00496/laws.FnExactDecFrame", spec := "fnExactDecFrame", apart := false }
def FnExactDecFrameSaid : Prop := fnExactDecFrameRow.holds Try.pinned (OpenSpec.ofChange fnExactDecFrameSpec)

/-- ITS FALSE NEIGHBOUR: 'it returns false'. Refute it at one input. -/
def fnExactDecFrameWrong : ChangeSpec := { name := "fnExactDecFrame", fn := fun _ => fun
  | [d1, d2] => { results := [.lit (.bool false)], args := [d1, d2] }
  | _ => none }
def FnExactDecFrameWrongFalsely : Prop := fnExactDecFrameRow.holds Try.pinned (OpenSpec.ofChange fnExactDecFrameWrong)

/-- 'laws.FnFrames': WHATEVER THE INPUT: true; the input reads as it did. -/
def fnFramesSpec : ChangeSpec := { name := "fnFrames", fn := fun _ => fun
  | [d] => { results := [.lit (.bool true)], args := [d] }
  | _ => none }
def fnFramesRow : OpenClaim := { program := "ytnldneogjdljkaa", sum := "74a4d8a3f49774a6d23d3d8db2504ff36913ffe7baaa3b9e41b1b58a957d7c6a", func := "loop.example/g00496/laws.FnFrames", spec := "fnFrames", apart := false }
def FnFramesSaid : Prop := fnFramesRow.holds Try.pinned (OpenSpec.ofChange fnFramesSpec)

/-- ITS FALSE NEIGHBOUR: 'it returns false'. Refute it at one input. -/
def fnFramesWrong : ChangeSpec := { name := "fnFrames", fn := fun _ => fun
  | [d] => { results := [.lit (.bool false)], args := [d] }
  | _ => none }
def FnFramesWrongFalsely : Prop := fnFramesRow.holds Try.pinned (OpenSpec.ofChange fnFramesWrong)

/-- 'laws.FnFramesBent': WHATEVER THE INPUT: true; the input reads as it did. -/
def fnFramesBentSpec : ChangeSpec := { name := "fnFramesBent", fn := fun _ => fun
  | [d] => { results := [.lit (.bool true)], args := [d] }
  | _ => none }
def fnFramesBentRow : OpenClaim := { program := "ytnldneogjdljkaa", sum := "74a4d8a3f49774a6d23d3d8db2504ff36913ffe7baaa3b9e41b1b58a957d7c6a", func := "loop.example/g00496/laws.FnFramesBent", spec := "fnFramesBent", apart := false }
def FnFramesBentSaid : Prop := fnFramesBentRow.holds Try.pinned (OpenSpec.ofChange fnFramesBentSpec)

/-- ITS FALSE NEIGHBOUR: 'it returns false'. Refute it at one input. -/
def fnFramesBentWrong : ChangeSpec := { name := "fnFramesBent", fn := fun _ => fun
  | [d] => { results := [.lit (.bool false)], args := [d] }
  | _ => none }
def FnFramesBentWrongFalsely : Prop := fnFramesBentRow.holds Try.pinned (OpenSpec.ofChange fnFramesBentWrong)

/- THE SECOND FORM. 'bulk': how many values and letters a reading holds, each counted each time it is reached (what is shared counts as often as it is met; a slice's spare places count too). A statement '..UptoSaid' is the law's where the arguments, and the package variables that the reading takes, are together of bulk at most 1048576: NARROWER than '..Said'. Prove '..Said' where nothing that the law and all that it calls make is longer than what came in: it says more and counts as full. Else prove '..UptoSaid'. A law counts once. -/
mutual
def uptoBulk {H : Type} : DataW H → Nat
  | .lit (.string bytes) => bytes.length + 1
  | .lit _ => 1
  | .nil => 1
  | .ptr d => uptoBulk d + 1
  | .slice elems spare => uptoBulkAll elems + uptoBulkAll spare + 1
  | .agg parts => uptoBulkAll parts + 1
  | .iface _ d => uptoBulk d + 1
  | .map entries => uptoBulkEntries entries + 1
  | .held _ => 1
def uptoBulkAll {H : Type} : List (DataW H) → Nat
  | [] => 0
  | d :: r => uptoBulk d + uptoBulkAll r
def uptoBulkEntries {H : Type} : List (Lit × DataW H) → Nat
  | [] => 0
  | x :: r => uptoBulkEntry x + uptoBulkEntries r
def uptoBulkEntry {H : Type} : Lit × DataW H → Nat
  | (.string bytes, d) => bytes.length + uptoBulk d + 1
  | (_, d) => uptoBulk d + 1
 end
def uptoSmall : (H : Type) → List (DataW H) → Bool := fun _ ds => decide (uptoBulkAll ds ≤ 1048576)
def OpenSpec.upto (s : _root_.Go.ChangeSpec) : _root_.Go.OpenSpec := { _root_.Go.OpenSpec.ofChange s with cond := some uptoSmall }

/-- 'laws.FnPacks', WHERE WHAT IT READS IS OF BULK AT MOST 1048576: true; the input reads as it did. -/
def fnPacksUptoRow : OpenClaim := { program := "ytnldneogjdljkaa", sum := "74a4d8a3f49774a6d23d3d8db2504ff36913ffe7baaa3b9e41b1b58a957d7c6a", func := "loop.example/g00496/laws.FnPacks", spec := "fnPacks", apart := false, narrowed := true }
def FnPacksUptoSaid : Prop := fnPacksUptoRow.holds Try.pinned (OpenSpec.upto fnPacksSpec)

/-- 'laws.FnPacksBent', WHERE WHAT IT READS IS OF BULK AT MOST 1048576: true; the input reads as it did. -/
def fnPacksBentUptoRow : OpenClaim := { program := "ytnldneogjdljkaa", sum := "74a4d8a3f49774a6d23d3d8db2504ff36913ffe7baaa3b9e41b1b58a957d7c6a", func := "loop.example/g00496/laws.FnPacksBent", spec := "fnPacksBent", apart := false, narrowed := true }
def FnPacksBentUptoSaid : Prop := fnPacksBentUptoRow.holds Try.pinned (OpenSpec.upto fnPacksBentSpec)

/-- 'laws.FnNumLists', WHERE WHAT IT READS IS OF BULK AT MOST 1048576: true; the input reads as it did. -/
def fnNumListsUptoRow : OpenClaim := { program := "ytnldneogjdljkaa", sum := "74a4d8a3f49774a6d23d3d8db2504ff36913ffe7baaa3b9e41b1b58a957d7c6a", func := "loop.example/g00496/laws.FnNumLists", spec := "fnNumLists", apart := false, narrowed := true }
def FnNumListsUptoSaid : Prop := fnNumListsUptoRow.holds Try.pinned (OpenSpec.upto fnNumListsSpec)

/-- 'laws.FnExactEncFrame', WHERE WHAT IT READS IS OF BULK AT MOST 1048576: true; the input reads as it did. -/
def fnExactEncFrameUptoRow : OpenClaim := { program := "ytnldneogjdljkaa", sum := "74a4d8a3f49774a6d23d3d8db2504ff36913ffe7baaa3b9e41b1b58a957d7c6a", func := "loop.example/g00496/laws.FnExactEncFrame", spec := "fnExactEncFrame", apart := false, narrowed := true }
def FnExactEncFrameUptoSaid : Prop := fnExactEncFrameUptoRow.holds Try.pinned (OpenSpec.upto fnExactEncFrameSpec)

/-- 'laws.FnExactDecFrame', WHERE WHAT IT READS IS OF BULK AT MOST 1048576: true; the input reads as it did. -/
def fnExactDecFrameUptoRow : OpenClaim := { program := "ytnldneogjdljkaa", sum := "74a4d8a3f49774a6d23d3d8db2504ff36913ffe7baaa3b9e41b1b58a957d7c6a", func := "loop.example/g00496/laws.FnExactDecFrame", spec := "fnExactDecFrame", apart := false, narrowed := true }
def FnExactDecFrameUptoSaid : Prop := fnExactDecFrameUptoRow.holds Try.pinned (OpenSpec.upto fnExactDecFrameSpec)

/-- 'laws.FnFrames', WHERE WHAT IT READS IS OF BULK AT MOST 1048576: true; the input reads as it did. -/
def fnFramesUptoRow : OpenClaim := { program := "ytnldneogjdljkaa", sum := "74a4d8a3f49774a6d23d3d8db2504ff36913ffe7baaa3b9e41b1b58a957d7c6a", func := "loop.example/g00496/laws.FnFrames", spec := "fnFrames", apart := false, narrowed := true }
def FnFramesUptoSaid : Prop := fnFramesUptoRow.holds Try.pinned (OpenSpec.upto fnFramesSpec)

/-- 'laws.FnFramesBent', WHERE WHAT IT READS IS OF BULK AT MOST 1048576: true; the input reads as it did. -/
def fnFramesBentUptoRow : OpenClaim := { program := "ytnldneogjdljkaa", sum := "74a4d8a3f49774a6d23d3d8db2504ff36913ffe7baaa3b9e41b1b58a957d7c6a", func := "loop.example/g00496/laws.FnFramesBent", spec := "fnFramesBent", apart := false, narrowed := true }
def FnFramesBentUptoSaid : Prop := fnFramesBentUptoRow.holds Try.pinned (OpenSpec.upto fnFramesBentSpec)

end Rows
end Go.Proofs.Ytnldneogjdljkaa
