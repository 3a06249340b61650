/- The laws' markers: contracts. -/
import Derived.Test.YtmnmnofjeoanjaaDoorXL
namespace Go.Proofs.YtmnmnofjeoanjaaDoor
open Go.ChangeShapes Go.WideShapes Go.ChangeAt Go.RowKit Go.Lb

def dig8 (j : Nat) : UInt8 := UInt8.ofNat (48 + j % 10)
theorem dig8_nat (j : Nat) : (dig8 j).toNat = 48 + j % 10 := by unfold dig8; simp; omega
def mtD (k : Nat) (acc : List UInt8) : List UInt8 :=
  if k = 0 then acc else mtD (k / 10) (dig8 k :: acc)
termination_by k
decreasing_by omega
theorem mtD_zero (acc : List UInt8) : mtD 0 acc = acc := by rw [mtD]; simp
theorem mtD_step {k : Nat} (h : k ≠ 0) (acc : List UInt8) : mtD k acc = mtD (k / 10) (dig8 k :: acc) := by rw [mtD, if_neg h]
def mkText (k : Int) : ByteArray := if k ≤ 0 then ⟨#[109, 48]⟩ else ⟨(109 :: mtD k.toNat []).toArray⟩

def markV (k : Int) (i : Nat) : List Value := [.int .i64 (k + 3 * i), .int .i64 (k + 3 * i + 1), .string (mkText (k + 3 * i + 2))]
def marksV (k : Int) (n : Nat) : List Value := (List.range n).flatMap (markV k)
theorem marksV_succ (k : Int) (n : Nat) : marksV k (n + 1) = marksV k n ++ markV k n := by simp [marksV, List.range_succ]
theorem marksV_len (k : Int) (n : Nat) : (marksV k n).length = n * 3 := by unfold marksV; rw [flat_len _ 3 (fun _ => rfl), List.length_range]
theorem marksV_get (k : Int) (n i j : Nat) (hi : i < n) (hj : j < 3) : (marksV k n)[i * 3 + j]? = (markV k i)[j]? := flat_get _ 3 (fun _ => rfl) _ i j i (by simp [hi]) hj

end Go.Proofs.YtmnmnofjeoanjaaDoor
