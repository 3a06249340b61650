/- OpText: contracts of the reference's and the program's function; is the input great. -/
import Derived.Test.YtmnmnofjeoanjaaDoorXA
namespace Go.Lb
def opText (n : Int) : ByteArray := if n = 1 then ⟨#[60]⟩ else if n = 2 then ⟨#[60, 61]⟩ else if n = 3 then ⟨#[61]⟩ else if n = 4 then ⟨#[33, 61]⟩ else if n = 5 then ⟨#[62, 61]⟩ else if n = 6 then ⟨#[62]⟩ else ⟨#[]⟩
end Go.Lb
namespace Go.Proofs.YtmnmnofjeoanjaaDoor
open Go.ChangeShapes Go.WideShapes Go.ChangeAt Go.RowKit Go.Lb

set_option maxRecDepth 20000 in
set_option maxHeartbeats 4000000 in
theorem spec_OpText (n : Int) (w : World) :
    Calls Tryd.prog 41 #[.int .i64 n] w fun e w' => e = .returned (.string (opText n)) ∧ Below w.heap.size w w' := by
  by_cases h : 1 ≤ n ∧ n ≤ 6
  · obtain rfl | rfl | rfl | rfl | rfl | rfl : n = 1 ∨ n = 2 ∨ n = 3 ∨ n = 4 ∨ n = 5 ∨ n = 6 := by omega
    all_goals
      clear h
      go_enter Tryd.func41, Tryd.ntmps41
      go_wp2
      go_ret
      exact ⟨ret_string (by simp [opText]), by repeat (first | exact Below.refl _ _ | refine Below.alloc ?_ (by simp) _)⟩
  have H := Lib.hid (show opText n = ⟨#[]⟩ by unfold opText; iterate 6 rw [if_neg (by omega)])
  by_cases g : 1 ≤ n
  · have g2 : ¬ n ≤ 6 := by omega
    clear h
    go_enter Tryd.func41, Tryd.ntmps41
    go_wp2
    go_ret
    exact ⟨ret_string H.out.symm, by repeat (first | exact Below.refl _ _ | refine Below.alloc ?_ (by simp) _)⟩
  · clear h
    go_enter Tryd.func41, Tryd.ntmps41
    go_wp2
    go_ret
    exact ⟨ret_string H.out.symm, by repeat (first | exact Below.refl _ _ | refine Below.alloc ?_ (by simp) _)⟩

set_option maxRecDepth 20000 in
set_option maxHeartbeats 4000000 in
theorem impl_OpText (n : Int) (w : World) :
    Calls Tryd.prog 46 #[.int .i64 n] w fun e w' => e = .returned (.string (opText n)) ∧ Below w.heap.size w w' := by
  by_cases h : 1 ≤ n ∧ n ≤ 6
  · obtain rfl | rfl | rfl | rfl | rfl | rfl : n = 1 ∨ n = 2 ∨ n = 3 ∨ n = 4 ∨ n = 5 ∨ n = 6 := by omega
    all_goals
      clear h
      go_enter Tryd.func46, Tryd.ntmps46
      go_wp2
      go_ret
      exact ⟨ret_string (by simp [opText]), by repeat (first | exact Below.refl _ _ | refine Below.alloc ?_ (by simp) _)⟩
  have H := Lib.hid (show opText n = ⟨#[]⟩ by unfold opText; iterate 6 rw [if_neg (by omega)])
  by_cases g : 1 ≤ n
  · have g2 : ¬ n ≤ 6 := by omega
    clear h
    go_enter Tryd.func46, Tryd.ntmps46
    go_wp2
    go_ret
    exact ⟨ret_string H.out.symm, by repeat (first | exact Below.refl _ _ | refine Below.alloc ?_ (by simp) _)⟩
  · clear h
    go_enter Tryd.func46, Tryd.ntmps46
    go_wp2
    go_ret
    exact ⟨ret_string H.out.symm, by repeat (first | exact Below.refl _ _ | refine Below.alloc ?_ (by simp) _)⟩

end Go.Proofs.YtmnmnofjeoanjaaDoor
