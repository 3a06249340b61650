/- Opposite: contracts of the reference's and the program's function. -/
import Derived.Test.YtidmlfjolhnnfaaXA
namespace Go.Proofs.Ytidmlfjolhnnfaa
open Go.ChangeShapes Go.WideShapes Go.ChangeAt Go.RowKit Go.Lb

set_option maxRecDepth 20000 in
set_option maxHeartbeats 4000000 in
theorem spec_Opposite (n : Int) (w : World) :
    Calls Try.prog 70 #[.int .i64 n] w fun e w' => e = .returned (.int .i64 (opposite n)) ∧ Below w.heap.size w w' := by
  by_cases h1 : n = 1
  · subst h1
    go_enter Try.func70, Try.ntmps70
    go_wp2
    go_ret
    exact ⟨ret_int (by simp [opposite]), by repeat (first | exact Below.refl _ _ | refine Below.alloc ?_ (by simp) _)⟩
  by_cases h2 : n = 2
  · subst h2
    go_enter Try.func70, Try.ntmps70
    go_wp2
    go_ret
    exact ⟨ret_int (by simp [opposite]), by repeat (first | exact Below.refl _ _ | refine Below.alloc ?_ (by simp) _)⟩
  by_cases h3 : n = 3
  · subst h3
    go_enter Try.func70, Try.ntmps70
    go_wp2
    go_ret
    exact ⟨ret_int (by simp [opposite]), by repeat (first | exact Below.refl _ _ | refine Below.alloc ?_ (by simp) _)⟩
  by_cases h4 : n = 4
  · subst h4
    go_enter Try.func70, Try.ntmps70
    go_wp2
    go_ret
    exact ⟨ret_int (by simp [opposite]), by repeat (first | exact Below.refl _ _ | refine Below.alloc ?_ (by simp) _)⟩
  by_cases h5 : n = 5
  · subst h5
    go_enter Try.func70, Try.ntmps70
    go_wp2
    go_ret
    exact ⟨ret_int (by simp [opposite]), by repeat (first | exact Below.refl _ _ | refine Below.alloc ?_ (by simp) _)⟩
  by_cases h6 : n = 6
  · subst h6
    go_enter Try.func70, Try.ntmps70
    go_wp2
    go_ret
    exact ⟨ret_int (by simp [opposite]), by repeat (first | exact Below.refl _ _ | refine Below.alloc ?_ (by simp) _)⟩
  have b1 : (n == 1) = false := by simp [h1]
  have b2 : (n == 2) = false := by simp [h2]
  have b3 : (n == 3) = false := by simp [h3]
  have b4 : (n == 4) = false := by simp [h4]
  have b5 : (n == 5) = false := by simp [h5]
  have b6 : (n == 6) = false := by simp [h6]
  have H := Lib.hid (show opposite n = 0 by simp [opposite, h1, h2, h3, h4, h5, h6])
  by_cases g : 1 ≤ n
  · have g2 : ¬ n ≤ 6 := by omega
    clear h1 h2 h3 h4 h5 h6
    go_enter Try.func70, Try.ntmps70
    go_wp2
    go_ret
    exact ⟨ret_int H.out.symm, by repeat (first | exact Below.refl _ _ | refine Below.alloc ?_ (by simp) _)⟩
  · clear h1 h2 h3 h4 h5 h6
    go_enter Try.func70, Try.ntmps70
    go_wp2
    go_ret
    exact ⟨ret_int H.out.symm, by repeat (first | exact Below.refl _ _ | refine Below.alloc ?_ (by simp) _)⟩

set_option maxRecDepth 20000 in
set_option maxHeartbeats 4000000 in
theorem impl_Opposite (n : Int) (w : World) :
    Calls Try.prog 68 #[.int .i64 n] w fun e w' => e = .returned (.int .i64 (opposite n)) ∧ Below w.heap.size w w' := by
  by_cases h1 : n = 1
  · subst h1
    go_enter Try.func68, Try.ntmps68
    go_wp2
    go_ret
    exact ⟨ret_int (by simp [opposite]), by repeat (first | exact Below.refl _ _ | refine Below.alloc ?_ (by simp) _)⟩
  by_cases h2 : n = 2
  · subst h2
    go_enter Try.func68, Try.ntmps68
    go_wp2
    go_ret
    exact ⟨ret_int (by simp [opposite]), by repeat (first | exact Below.refl _ _ | refine Below.alloc ?_ (by simp) _)⟩
  by_cases h3 : n = 3
  · subst h3
    go_enter Try.func68, Try.ntmps68
    go_wp2
    go_ret
    exact ⟨ret_int (by simp [opposite]), by repeat (first | exact Below.refl _ _ | refine Below.alloc ?_ (by simp) _)⟩
  by_cases h4 : n = 4
  · subst h4
    go_enter Try.func68, Try.ntmps68
    go_wp2
    go_ret
    exact ⟨ret_int (by simp [opposite]), by repeat (first | exact Below.refl _ _ | refine Below.alloc ?_ (by simp) _)⟩
  by_cases h5 : n = 5
  · subst h5
    go_enter Try.func68, Try.ntmps68
    go_wp2
    go_ret
    exact ⟨ret_int (by simp [opposite]), by repeat (first | exact Below.refl _ _ | refine Below.alloc ?_ (by simp) _)⟩
  by_cases h6 : n = 6
  · subst h6
    go_enter Try.func68, Try.ntmps68
    go_wp2
    go_ret
    exact ⟨ret_int (by simp [opposite]), by repeat (first | exact Below.refl _ _ | refine Below.alloc ?_ (by simp) _)⟩
  have b1 : (n == 1) = false := by simp [h1]
  have b2 : (n == 2) = false := by simp [h2]
  have b3 : (n == 3) = false := by simp [h3]
  have b4 : (n == 4) = false := by simp [h4]
  have b5 : (n == 5) = false := by simp [h5]
  have b6 : (n == 6) = false := by simp [h6]
  have H := Lib.hid (show opposite n = 0 by simp [opposite, h1, h2, h3, h4, h5, h6])
  by_cases g : 1 ≤ n
  · have g2 : ¬ n ≤ 6 := by omega
    clear h1 h2 h3 h4 h5 h6
    go_enter Try.func68, Try.ntmps68
    go_wp2
    go_ret
    exact ⟨ret_int H.out.symm, by repeat (first | exact Below.refl _ _ | refine Below.alloc ?_ (by simp) _)⟩
  · clear h1 h2 h3 h4 h5 h6
    go_enter Try.func68, Try.ntmps68
    go_wp2
    go_ret
    exact ⟨ret_int H.out.symm, by repeat (first | exact Below.refl _ _ | refine Below.alloc ?_ (by simp) _)⟩

end Go.Proofs.Ytidmlfjolhnnfaa
