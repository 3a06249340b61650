/- Holds1: contracts of the reference's and the program's function. -/
import Derived.Test.YtidmlfjolhnnfaaGreatDoorS2
import Derived.Test.YtidmlfjolhnnfaaGreatDoorXL
namespace Go.Proofs.YtidmlfjolhnnfaaGreatDoor
open Go.ChangeShapes Go.WideShapes Go.ChangeAt Go.RowKit Go.Lb

set_option maxRecDepth 20000 in
set_option maxHeartbeats 1000000 in
theorem spec_Holds1 (op : Int) (x y : V) (w : World) :
    Calls Tryz.prog 66 #[.int .i64 op, .agg #[.int .i64 x.ty, .int .i64 x.n, .string x.s], .agg #[.int .i64 y.ty, .int .i64 y.n, .string y.s]] w fun e w' => e = .returned (.bool (holds1 op x y)) ∧ Below w.heap.size w w' := by
  have he := eql_V x y
  have hne := neq_V x y
  have hg := guard_V
  by_cases h1 : op = 1
  · subst h1
    have H := Lib.hid (show holds1 1 x y = (less x y) from by simp [holds1])
    go_enter Tryz.func66, Tryz.ntmps66
    go_wp2_with fail
    refine (spec_LessVal x y _).mono ?_
    rintro e w1 ⟨rfl, hb1⟩
    go_wp2_with fail
    go_ret
    exact ⟨ret_bool H.out.symm, (((Below.refl _ _).alloc (Nat.le_refl _) _).alloc (by simp) _).trans (hb1.mono (by simp; omega))⟩
  by_cases h2 : op = 2
  · subst h2
    have H := Lib.hid (show holds1 2 x y = (!less y x) from by simp [holds1])
    clear h1
    go_enter Tryz.func66, Tryz.ntmps66
    go_wp2_with fail
    refine (spec_LessVal y x _).mono ?_
    rintro e w1 ⟨rfl, hb1⟩
    go_wp2_with fail
    go_ret
    exact ⟨ret_bool H.out.symm, (((Below.refl _ _).alloc (Nat.le_refl _) _).alloc (by simp) _).trans (hb1.mono (by simp; omega))⟩
  by_cases h3 : op = 3
  · subst h3
    have H := Lib.hid (show holds1 3 x y = (eqd x y) from by simp [holds1, eqd])
    clear h1 h2
    go_enter Tryz.func66, Tryz.ntmps66
    go_wp2_with fail
    go_ret
    exact ⟨ret_bool H.out.symm, (((Below.refl _ _).alloc (Nat.le_refl _) _).alloc (by simp) _)⟩
  by_cases h4 : op = 4
  · subst h4
    have H := Lib.hid (show holds1 4 x y = (!eqd x y) from by simp [holds1, eqd])
    clear h1 h2 h3
    go_enter Tryz.func66, Tryz.ntmps66
    go_wp2_with fail
    go_ret
    exact ⟨ret_bool H.out.symm, (((Below.refl _ _).alloc (Nat.le_refl _) _).alloc (by simp) _)⟩
  by_cases h5 : op = 5
  · subst h5
    have H := Lib.hid (show holds1 5 x y = (!less x y) from by simp [holds1])
    clear h1 h2 h3 h4
    go_enter Tryz.func66, Tryz.ntmps66
    go_wp2_with fail
    refine (spec_LessVal x y _).mono ?_
    rintro e w1 ⟨rfl, hb1⟩
    go_wp2_with fail
    go_ret
    exact ⟨ret_bool H.out.symm, (((Below.refl _ _).alloc (Nat.le_refl _) _).alloc (by simp) _).trans (hb1.mono (by simp; omega))⟩
  by_cases h6 : op = 6
  · subst h6
    have H := Lib.hid (show holds1 6 x y = (less y x) from by simp [holds1])
    clear h1 h2 h3 h4 h5
    go_enter Tryz.func66, Tryz.ntmps66
    go_wp2_with fail
    refine (spec_LessVal y x _).mono ?_
    rintro e w1 ⟨rfl, hb1⟩
    go_wp2_with fail
    go_ret
    exact ⟨ret_bool H.out.symm, (((Below.refl _ _).alloc (Nat.le_refl _) _).alloc (by simp) _).trans (hb1.mono (by simp; omega))⟩
  have b1 : (op == 1) = false := by simp [h1]
  have b2 : (op == 2) = false := by simp [h2]
  have b3 : (op == 3) = false := by simp [h3]
  have b4 : (op == 4) = false := by simp [h4]
  have b5 : (op == 5) = false := by simp [h5]
  have b6 : (op == 6) = false := by simp [h6]
  have H := Lib.hid (show holds1 op x y = false by simp [holds1, h1, h2, h3, h4, h5, h6])
  clear h1 h2 h3 h4 h5 h6
  go_enter Tryz.func66, Tryz.ntmps66
  go_wp2_with fail
  go_ret
  exact ⟨ret_bool H.out.symm, (((Below.refl _ _).alloc (Nat.le_refl _) _).alloc (by simp) _)⟩

set_option maxRecDepth 20000 in
set_option maxHeartbeats 1000000 in
theorem impl_Holds1 (op : Int) (x y : V) (w : World) :
    Calls Tryz.prog 57 #[.int .i64 op, .agg #[.int .i64 x.ty, .int .i64 x.n, .string x.s], .agg #[.int .i64 y.ty, .int .i64 y.n, .string y.s]] w fun e w' => e = .returned (.bool (holds1 op x y)) ∧ Below w.heap.size w w' := by
  have he := eql_V x y
  have hne := neq_V x y
  have hg := guard_V
  by_cases h1 : op = 1
  · subst h1
    have H := Lib.hid (show holds1 1 x y = (less x y) from by simp [holds1])
    go_enter Tryz.func57, Tryz.ntmps57
    go_wp2_with fail
    refine (impl_LessVal x y _).mono ?_
    rintro e w1 ⟨rfl, hb1⟩
    go_wp2_with fail
    go_ret
    exact ⟨ret_bool H.out.symm, (((Below.refl _ _).alloc (Nat.le_refl _) _).alloc (by simp) _).trans (hb1.mono (by simp; omega))⟩
  by_cases h2 : op = 2
  · subst h2
    have H := Lib.hid (show holds1 2 x y = (!less y x) from by simp [holds1])
    clear h1
    go_enter Tryz.func57, Tryz.ntmps57
    go_wp2_with fail
    refine (impl_LessVal y x _).mono ?_
    rintro e w1 ⟨rfl, hb1⟩
    go_wp2_with fail
    go_ret
    exact ⟨ret_bool H.out.symm, (((Below.refl _ _).alloc (Nat.le_refl _) _).alloc (by simp) _).trans (hb1.mono (by simp; omega))⟩
  by_cases h3 : op = 3
  · subst h3
    have H := Lib.hid (show holds1 3 x y = (eqd x y) from by simp [holds1, eqd])
    clear h1 h2
    go_enter Tryz.func57, Tryz.ntmps57
    go_wp2_with fail
    go_ret
    exact ⟨ret_bool H.out.symm, (((Below.refl _ _).alloc (Nat.le_refl _) _).alloc (by simp) _)⟩
  by_cases h4 : op = 4
  · subst h4
    have H := Lib.hid (show holds1 4 x y = (!eqd x y) from by simp [holds1, eqd])
    clear h1 h2 h3
    go_enter Tryz.func57, Tryz.ntmps57
    go_wp2_with fail
    go_ret
    exact ⟨ret_bool H.out.symm, (((Below.refl _ _).alloc (Nat.le_refl _) _).alloc (by simp) _)⟩
  by_cases h5 : op = 5
  · subst h5
    have H := Lib.hid (show holds1 5 x y = (!less x y) from by simp [holds1])
    clear h1 h2 h3 h4
    go_enter Tryz.func57, Tryz.ntmps57
    go_wp2_with fail
    refine (impl_LessVal x y _).mono ?_
    rintro e w1 ⟨rfl, hb1⟩
    go_wp2_with fail
    go_ret
    exact ⟨ret_bool H.out.symm, (((Below.refl _ _).alloc (Nat.le_refl _) _).alloc (by simp) _).trans (hb1.mono (by simp; omega))⟩
  by_cases h6 : op = 6
  · subst h6
    have H := Lib.hid (show holds1 6 x y = (less y x) from by simp [holds1])
    clear h1 h2 h3 h4 h5
    go_enter Tryz.func57, Tryz.ntmps57
    go_wp2_with fail
    refine (impl_LessVal y x _).mono ?_
    rintro e w1 ⟨rfl, hb1⟩
    go_wp2_with fail
    go_ret
    exact ⟨ret_bool H.out.symm, (((Below.refl _ _).alloc (Nat.le_refl _) _).alloc (by simp) _).trans (hb1.mono (by simp; omega))⟩
  have b1 : (op == 1) = false := by simp [h1]
  have b2 : (op == 2) = false := by simp [h2]
  have b3 : (op == 3) = false := by simp [h3]
  have b4 : (op == 4) = false := by simp [h4]
  have b5 : (op == 5) = false := by simp [h5]
  have b6 : (op == 6) = false := by simp [h6]
  have H := Lib.hid (show holds1 op x y = false by simp [holds1, h1, h2, h3, h4, h5, h6])
  clear h1 h2 h3 h4 h5 h6
  go_enter Tryz.func57, Tryz.ntmps57
  go_wp2_with fail
  go_ret
  exact ⟨ret_bool H.out.symm, (((Below.refl _ _).alloc (Nat.le_refl _) _).alloc (by simp) _)⟩

end Go.Proofs.YtidmlfjolhnnfaaGreatDoor
