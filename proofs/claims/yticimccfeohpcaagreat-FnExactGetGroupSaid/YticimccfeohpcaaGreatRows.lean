/-
  No cell of these rows narrows 'for every input' (looked for: loops, veiled, ifaces, maps, wideKeys, modest, calm, conditions, laid).
  DERIVED. THE GIVEN ROWS OF THIS SEAT. 8 by the template 'for every input the law returns true; each argument reads behind the call as it read before'; 0 by the template 'total and deterministic' (their statements: YticimccfeohpcaaGreatTotals.lean).
  GIVEN WITH THE SEED: the statements are not yours to turn. If you find one false, say at which input.
  Laid BY PROGRAM, IN A SANDBOX (cutbox-rows.mjs): the forced cells as the released guide's own fill.sh prints them over the translation 1f192ea2e71a8307… (all of the seat's roots in one cut). By AI agents, Wed Nov 11 2026. No macro, syntax, notation, axiom, sorry.
-/
import Derived.Test.YticimccfeohpcaaGreatChecked
import GoSem.Claim
import GoSem.ClaimJoined
import GoSem.ClaimMapViews
import Derived.JoinedTies
import Derived.KernelRfl
namespace Go.Proofs.YticimccfeohpcaaGreat
/- THE CELL 'sum', in the pinned program and in every row, IS THE sha256 OF THE DUMP (.gsa) THAT YticimccfeohpcaaGreatProg.lean LOADS. Nothing in Lean hashes anything: it is a label: what it is worth is what the hold of that sum in a sandbox is worth. -/
noncomputable def Tryz.pinned : Pinned := { name := "yticimccfeohpcaagreat", sum := "1f192ea2e71a8307e5e89fc82ac87f1d52763cfe1d4eb22807574a986db52ac0", checked := Tryz.checked }
namespace Rows
def none {H : Type} : Left H := { results := [], args := [] }

/-- 'laws.FnExactKindsOf': WHATEVER THE INPUT: true; the input reads as it did. -/
def fnExactKindsOfSpec : ChangeSpec := { name := "fnExactKindsOf", fn := fun _ => fun
  | [d1, d2] => { results := [.lit (.bool true)], args := [d1, d2] }
  | _ => none }
def fnExactKindsOfRow : OpenClaim := { program := "yticimccfeohpcaagreat", sum := "1f192ea2e71a8307e5e89fc82ac87f1d52763cfe1d4eb22807574a986db52ac0", func := "loop.example/g00496/laws.FnExactKindsOf", spec := "fnExactKindsOf", unfollowed := true, recurses := true, apart := false }
def FnExactKindsOfSaid : Prop := fnExactKindsOfRow.holds Tryz.pinned (OpenSpec.ofChange fnExactKindsOfSpec)

/-- ITS FALSE NEIGHBOUR: 'it returns false'. Refute it at one input. -/
def fnExactKindsOfWrong : ChangeSpec := { name := "fnExactKindsOf", fn := fun _ => fun
  | [d1, d2] => { results := [.lit (.bool false)], args := [d1, d2] }
  | _ => none }
def FnExactKindsOfWrongFalsely : Prop := fnExactKindsOfRow.holds Tryz.pinned (OpenSpec.ofChange fnExactKindsOfWrong)

/-- 'laws.FnExactPutGroup': WHATEVER THE INPUT: true; the input reads as it did. -/
def fnExactPutGroupSpec : ChangeSpec := { name := "fnExactPutGroup", fn := fun _ => fun
  | [d1, d2] => { results := [.lit (.bool true)], args := [d1, d2] }
  | _ => none }
def fnExactPutGroupRow : OpenClaim := { program := "yticimccfeohpcaagreat", sum := "1f192ea2e71a8307e5e89fc82ac87f1d52763cfe1d4eb22807574a986db52ac0", func := "loop.example/g00496/laws.FnExactPutGroup", spec := "fnExactPutGroup", unfollowed := true, recurses := true, apart := false }
def FnExactPutGroupSaid : Prop := fnExactPutGroupRow.holds Tryz.pinned (OpenSpec.ofChange fnExactPutGroupSpec)

/-- ITS FALSE NEIGHBOUR: 'it returns false'. Refute it at one input. -/
def fnExactPutGroupWrong : ChangeSpec := { name := "fnExactPutGroup", fn := fun _ => fun
  | [d1, d2] => { results := [.lit (.bool false)], args := [d1, d2] }
  | _ => none }
def FnExactPutGroupWrongFalsely : Prop := fnExactPutGroupRow.holds Tryz.pinned (OpenSpec.ofChange fnExactPutGroupWrong)

/-- 'laws.FnExactGetGroup': WHATEVER THE INPUT: true; the input reads as it did. -/
def fnExactGetGroupSpec : ChangeSpec := { name := "fnExactGetGroup", fn := fun _ => fun
  | [d1, d2] => { results := [.lit (.bool true)], args := [d1, d2] }
  | _ => none }
def fnExactGetGroupRow : OpenClaim := { program := "yticimccfeohpcaagreat", sum := "1f192ea2e71a8307e5e89fc82ac87f1d52763cfe1d4eb22807574a986db52ac0", func := "loop.example/g00496/laws.FnExactGetGroup", spec := "fnExactGetGroup", unfollowed := true, recurses := true, apart := false }
def FnExactGetGroupSaid : Prop := fnExactGetGroupRow.holds Tryz.pinned (OpenSpec.ofChange fnExactGetGroupSpec)

/-- ITS FALSE NEIGHBOUR: 'it returns false'. Refute it at one input. -/
def fnExactGetGroupWrong : ChangeSpec := { name := "fnExactGetGroup", fn := fun _ => fun
  | [d1, d2] => { results := [.lit (.bool false)], args := [d1, d2] }
  | _ => none }
def FnExactGetGroupWrongFalsely : Prop := fnExactGetGroupRow.holds Tryz.pinned (OpenSpec.ofChange fnExactGetGroupWrong)

/-- 'laws.FnExactDecCol': WHATEVER THE INPUT: true; the input reads as it did. -/
def fnExactDecColSpec : ChangeSpec := { name := "fnExactDecCol", fn := fun _ => fun
  | [d1, d2, d3] => { results := [.lit (.bool true)], args := [d1, d2, d3] }
  | _ => none }
def fnExactDecColRow : OpenClaim := { program := "yticimccfeohpcaagreat", sum := "1f192ea2e71a8307e5e89fc82ac87f1d52763cfe1d4eb22807574a986db52ac0", func := "loop.example/g00496/laws.FnExactDecCol", spec := "fnExactDecCol", unfollowed := true, recurses := true, apart := false }
def FnExactDecColSaid : Prop := fnExactDecColRow.holds Tryz.pinned (OpenSpec.ofChange fnExactDecColSpec)

/-- ITS FALSE NEIGHBOUR: 'it returns false'. Refute it at one input. -/
def fnExactDecColWrong : ChangeSpec := { name := "fnExactDecCol", fn := fun _ => fun
  | [d1, d2, d3] => { results := [.lit (.bool false)], args := [d1, d2, d3] }
  | _ => none }
def FnExactDecColWrongFalsely : Prop := fnExactDecColRow.holds Tryz.pinned (OpenSpec.ofChange fnExactDecColWrong)

/-- 'laws.FnCols': WHATEVER THE INPUT: true; the input reads as it did. -/
def fnColsSpec : ChangeSpec := { name := "fnCols", fn := fun _ => fun
  | [d] => { results := [.lit (.bool true)], args := [d] }
  | _ => none }
def fnColsRow : OpenClaim := { program := "yticimccfeohpcaagreat", sum := "1f192ea2e71a8307e5e89fc82ac87f1d52763cfe1d4eb22807574a986db52ac0", func := "loop.example/g00496/laws.FnCols", spec := "fnCols", unfollowed := true, recurses := true, apart := false }
def FnColsSaid : Prop := fnColsRow.holds Tryz.pinned (OpenSpec.ofChange fnColsSpec)

/-- ITS FALSE NEIGHBOUR: 'it returns false'. Refute it at one input. -/
def fnColsWrong : ChangeSpec := { name := "fnCols", fn := fun _ => fun
  | [d] => { results := [.lit (.bool false)], args := [d] }
  | _ => none }
def FnColsWrongFalsely : Prop := fnColsRow.holds Tryz.pinned (OpenSpec.ofChange fnColsWrong)

/-- 'laws.FnColsBent': WHATEVER THE INPUT: true; the input reads as it did. -/
def fnColsBentSpec : ChangeSpec := { name := "fnColsBent", fn := fun _ => fun
  | [d] => { results := [.lit (.bool true)], args := [d] }
  | _ => none }
def fnColsBentRow : OpenClaim := { program := "yticimccfeohpcaagreat", sum := "1f192ea2e71a8307e5e89fc82ac87f1d52763cfe1d4eb22807574a986db52ac0", func := "loop.example/g00496/laws.FnColsBent", spec := "fnColsBent", unfollowed := true, recurses := true, apart := false }
def FnColsBentSaid : Prop := fnColsBentRow.holds Tryz.pinned (OpenSpec.ofChange fnColsBentSpec)

/-- ITS FALSE NEIGHBOUR: 'it returns false'. Refute it at one input. -/
def fnColsBentWrong : ChangeSpec := { name := "fnColsBent", fn := fun _ => fun
  | [d] => { results := [.lit (.bool false)], args := [d] }
  | _ => none }
def FnColsBentWrongFalsely : Prop := fnColsBentRow.holds Tryz.pinned (OpenSpec.ofChange fnColsBentWrong)

/-- 'laws.FnGroups': WHATEVER THE INPUT: true; the input reads as it did. -/
def fnGroupsSpec : ChangeSpec := { name := "fnGroups", fn := fun _ => fun
  | [d] => { results := [.lit (.bool true)], args := [d] }
  | _ => none }
def fnGroupsRow : OpenClaim := { program := "yticimccfeohpcaagreat", sum := "1f192ea2e71a8307e5e89fc82ac87f1d52763cfe1d4eb22807574a986db52ac0", func := "loop.example/g00496/laws.FnGroups", spec := "fnGroups", unfollowed := true, recurses := true, apart := false }
def FnGroupsSaid : Prop := fnGroupsRow.holds Tryz.pinned (OpenSpec.ofChange fnGroupsSpec)

/-- ITS FALSE NEIGHBOUR: 'it returns false'. Refute it at one input. -/
def fnGroupsWrong : ChangeSpec := { name := "fnGroups", fn := fun _ => fun
  | [d] => { results := [.lit (.bool false)], args := [d] }
  | _ => none }
def FnGroupsWrongFalsely : Prop := fnGroupsRow.holds Tryz.pinned (OpenSpec.ofChange fnGroupsWrong)

/-- 'laws.FnGroupsBent': WHATEVER THE INPUT: true; the input reads as it did. -/
def fnGroupsBentSpec : ChangeSpec := { name := "fnGroupsBent", fn := fun _ => fun
  | [d] => { results := [.lit (.bool true)], args := [d] }
  | _ => none }
def fnGroupsBentRow : OpenClaim := { program := "yticimccfeohpcaagreat", sum := "1f192ea2e71a8307e5e89fc82ac87f1d52763cfe1d4eb22807574a986db52ac0", func := "loop.example/g00496/laws.FnGroupsBent", spec := "fnGroupsBent", unfollowed := true, recurses := true, apart := false }
def FnGroupsBentSaid : Prop := fnGroupsBentRow.holds Tryz.pinned (OpenSpec.ofChange fnGroupsBentSpec)

/-- ITS FALSE NEIGHBOUR: 'it returns false'. Refute it at one input. -/
def fnGroupsBentWrong : ChangeSpec := { name := "fnGroupsBent", fn := fun _ => fun
  | [d] => { results := [.lit (.bool false)], args := [d] }
  | _ => none }
def FnGroupsBentWrongFalsely : Prop := fnGroupsBentRow.holds Tryz.pinned (OpenSpec.ofChange fnGroupsBentWrong)

/- THE SECOND FORM. 'bulk': how many values and letters a reading holds, each counted each time it is reached (what is shared counts as often as it is met; a slice's spare places count too). A statement '..UptoSaid' is the law's where the arguments, and the package variables that the reading takes, are together of bulk at most 1048576: NARROWER than '..Said'. Prove '..Said' where nothing that the law and all that it calls make is longer than what came in: it says more and counts as full. Else prove '..UptoSaid'. A law counts once. -/
mutual
def uptoBulk {H : Type} : DataW H → Nat
  | .lit (.string bytes) => bytes.length + 1
  | .lit _ => 1
  | .nil => 1
  | .ptr d => uptoBulk d + 1
  | .slice elems spare => uptoBulkAll elems + uptoBulkAll spare + 1
  | .agg parts => uptoBulkAll parts + 1
  | .iface _ d => uptoBulk d + 1
  | .map entries => uptoBulkEntries entries + 1
  | .held _ => 1
def uptoBulkAll {H : Type} : List (DataW H) → Nat
  | [] => 0
  | d :: r => uptoBulk d + uptoBulkAll r
def uptoBulkEntries {H : Type} : List (Lit × DataW H) → Nat
  | [] => 0
  | x :: r => uptoBulkEntry x + uptoBulkEntries r
def uptoBulkEntry {H : Type} : Lit × DataW H → Nat
  | (.string bytes, d) => bytes.length + uptoBulk d + 1
  | (_, d) => uptoBulk d + 1
 end
def uptoSmall : (H : Type) → List (DataW H) → Bool := fun _ ds => decide (uptoBulkAll ds ≤ 1048576)
def OpenSpec.upto (s : _root_.Go.ChangeSpec) : _root_.Go.OpenSpec := { _root_.Go.OpenSpec.ofChange s with cond := some uptoSmall }

/-- 'laws.FnExactKindsOf', WHERE WHAT IT READS IS OF BULK AT MOST 1048576: true; the input reads as it did. -/
def fnExactKindsOfUptoRow : OpenClaim := { program := "yticimccfeohpcaagreat", sum := "1f192ea2e71a8307e5e89fc82ac87f1d52763cfe1d4eb22807574a986db52ac0", func := "loop.example/g00496/laws.FnExactKindsOf", spec := "fnExactKindsOf", unfollowed := true, recurses := true, apart := false, narrowed := true }
def FnExactKindsOfUptoSaid : Prop := fnExactKindsOfUptoRow.holds Tryz.pinned (OpenSpec.upto fnExactKindsOfSpec)

/-- 'laws.FnExactPutGroup', WHERE WHAT IT READS IS OF BULK AT MOST 1048576: true; the input reads as it did. -/
def fnExactPutGroupUptoRow : OpenClaim := { program := "yticimccfeohpcaagreat", sum := "1f192ea2e71a8307e5e89fc82ac87f1d52763cfe1d4eb22807574a986db52ac0", func := "loop.example/g00496/laws.FnExactPutGroup", spec := "fnExactPutGroup", unfollowed := true, recurses := true, apart := false, narrowed := true }
def FnExactPutGroupUptoSaid : Prop := fnExactPutGroupUptoRow.holds Tryz.pinned (OpenSpec.upto fnExactPutGroupSpec)

/-- 'laws.FnExactGetGroup', WHERE WHAT IT READS IS OF BULK AT MOST 1048576: true; the input reads as it did. -/
def fnExactGetGroupUptoRow : OpenClaim := { program := "yticimccfeohpcaagreat", sum := "1f192ea2e71a8307e5e89fc82ac87f1d52763cfe1d4eb22807574a986db52ac0", func := "loop.example/g00496/laws.FnExactGetGroup", spec := "fnExactGetGroup", unfollowed := true, recurses := true, apart := false, narrowed := true }
def FnExactGetGroupUptoSaid : Prop := fnExactGetGroupUptoRow.holds Tryz.pinned (OpenSpec.upto fnExactGetGroupSpec)

/-- 'laws.FnExactDecCol', WHERE WHAT IT READS IS OF BULK AT MOST 1048576: true; the input reads as it did. -/
def fnExactDecColUptoRow : OpenClaim := { program := "yticimccfeohpcaagreat", sum := "1f192ea2e71a8307e5e89fc82ac87f1d52763cfe1d4eb22807574a986db52ac0", func := "loop.example/g00496/laws.FnExactDecCol", spec := "fnExactDecCol", unfollowed := true, recurses := true, apart := false, narrowed := true }
def FnExactDecColUptoSaid : Prop := fnExactDecColUptoRow.holds Tryz.pinned (OpenSpec.upto fnExactDecColSpec)

/-- 'laws.FnCols', WHERE WHAT IT READS IS OF BULK AT MOST 1048576: true; the input reads as it did. -/
def fnColsUptoRow : OpenClaim := { program := "yticimccfeohpcaagreat", sum := "1f192ea2e71a8307e5e89fc82ac87f1d52763cfe1d4eb22807574a986db52ac0", func := "loop.example/g00496/laws.FnCols", spec := "fnCols", unfollowed := true, recurses := true, apart := false, narrowed := true }
def FnColsUptoSaid : Prop := fnColsUptoRow.holds Tryz.pinned (OpenSpec.upto fnColsSpec)

/-- 'laws.FnColsBent', WHERE WHAT IT READS IS OF BULK AT MOST 1048576: true; the input reads as it did. -/
def fnColsBentUptoRow : OpenClaim := { program := "yticimccfeohpcaagreat", sum := "1f192ea2e71a8307e5e89fc82ac87f1d52763cfe1d4eb22807574a986db52ac0", func := "loop.example/g00496/laws.FnColsBent", spec := "fnColsBent", unfollowed := true, recurses := true, apart := false, narrowed := true }
def FnColsBentUptoSaid : Prop := fnColsBentUptoRow.holds Tryz.pinned (OpenSpec.upto fnColsBentSpec)

/-- 'laws.FnGroups', WHERE WHAT IT READS IS OF BULK AT MOST 1048576: true; the input reads as it did. -/
def fnGroupsUptoRow : OpenClaim := { program := "yticimccfeohpcaagreat", sum := "1f192ea2e71a8307e5e89fc82ac87f1d52763cfe1d4eb22807574a986db52ac0", func := "loop.example/g00496/laws.FnGroups", spec := "fnGroups", unfollowed := true, recurses := true, apart := false, narrowed := true }
def FnGroupsUptoSaid : Prop := fnGroupsUptoRow.holds Tryz.pinned (OpenSpec.upto fnGroupsSpec)

/-- 'laws.FnGroupsBent', WHERE WHAT IT READS IS OF BULK AT MOST 1048576: true; the input reads as it did. -/
def fnGroupsBentUptoRow : OpenClaim := { program := "yticimccfeohpcaagreat", sum := "1f192ea2e71a8307e5e89fc82ac87f1d52763cfe1d4eb22807574a986db52ac0", func := "loop.example/g00496/laws.FnGroupsBent", spec := "fnGroupsBent", unfollowed := true, recurses := true, apart := false, narrowed := true }
def FnGroupsBentUptoSaid : Prop := fnGroupsBentUptoRow.holds Tryz.pinned (OpenSpec.upto fnGroupsBentSpec)

end Rows
end Go.Proofs.YticimccfeohpcaaGreat
