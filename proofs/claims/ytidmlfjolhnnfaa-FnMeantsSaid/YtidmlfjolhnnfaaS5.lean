/- MayHold1: contracts of the reference's and the program's function. -/
import Derived.Test.YtidmlfjolhnnfaaS2
import Derived.Test.YtidmlfjolhnnfaaXL
namespace Go.Proofs.Ytidmlfjolhnnfaa
open Go.ChangeShapes Go.WideShapes Go.ChangeAt Go.RowKit Go.Lb

set_option maxRecDepth 20000 in
set_option maxHeartbeats 1000000 in
theorem spec_MayHold1 (op : Int) (z : Z) (v : V) (w : World) :
    Calls Try.prog 47 #[.int .i64 op, .agg #[.int .i64 z.lo.ty, .int .i64 z.lo.n, .string z.lo.s, .int .i64 z.hi.ty, .int .i64 z.hi.n, .string z.hi.s], .agg #[.int .i64 v.ty, .int .i64 v.n, .string v.s]] w fun e w' => e = .returned (.bool (mayHold1 op z v)) ∧ Below w.heap.size w w' := by
  have he := eql_V z.lo v
  have hne := neq_V z.lo v
  have he2 := eql_V z.hi v
  have hne2 := neq_V z.hi v
  have hg := guard_V
  by_cases h1 : op = 1
  · subst h1
    have H := Lib.hid (show mayHold1 1 z v = (less z.lo v) from by simp [mayHold1])
    go_enter Try.func47, Try.ntmps47
    go_wp2_with fail
    refine (spec_LessVal z.lo v _).mono ?_
    rintro e w1 ⟨rfl, hb1⟩
    go_wp2_with fail
    go_ret
    exact ⟨ret_bool H.out.symm, (((Below.refl _ _).alloc (Nat.le_refl _) _).alloc (by simp) _).trans (hb1.mono (by simp; omega))⟩
  by_cases h2 : op = 2
  · subst h2
    have H := Lib.hid (show mayHold1 2 z v = (!less v z.lo) from by simp [mayHold1])
    clear h1
    go_enter Try.func47, Try.ntmps47
    go_wp2_with fail
    refine (spec_LessVal v z.lo _).mono ?_
    rintro e w1 ⟨rfl, hb1⟩
    go_wp2_with fail
    go_ret
    exact ⟨ret_bool H.out.symm, (((Below.refl _ _).alloc (Nat.le_refl _) _).alloc (by simp) _).trans (hb1.mono (by simp; omega))⟩
  by_cases h3 : op = 3
  · subst h3
    have H := Lib.hid (show mayHold1 3 z v = (inZone z v) from by simp [mayHold1])
    clear h1 h2
    go_enter Try.func47, Try.ntmps47
    go_wp2_with fail
    refine (spec_InZone z v _).mono ?_
    rintro e w1 ⟨rfl, hb1⟩
    go_wp2_with fail
    go_ret
    exact ⟨ret_bool H.out.symm, (((Below.refl _ _).alloc (Nat.le_refl _) _).alloc (by simp) _).trans (hb1.mono (by simp; omega))⟩
  by_cases h4 : op = 4
  · subst h4
    have H := Lib.hid (show mayHold1 4 z v = (!eqd z.lo v || !eqd z.hi v) from by simp [mayHold1, eqd])
    clear h1 h2 h3
    cases e0 : eqd z.lo v <;> cases e1 : eqd z.hi v
    all_goals
      rw [e0, e1] at H
      rw [e0] at he hne
      rw [e1] at he2 hne2
      go_enter Try.func47, Try.ntmps47
      go_wp2_with fail
      go_ret
      exact ⟨ret_bool H.out.symm, (((Below.refl _ _).alloc (Nat.le_refl _) _).alloc (by simp) _)⟩
  by_cases h5 : op = 5
  · subst h5
    have H := Lib.hid (show mayHold1 5 z v = (!less z.hi v) from by simp [mayHold1])
    clear h1 h2 h3 h4
    go_enter Try.func47, Try.ntmps47
    go_wp2_with fail
    refine (spec_LessVal z.hi v _).mono ?_
    rintro e w1 ⟨rfl, hb1⟩
    go_wp2_with fail
    go_ret
    exact ⟨ret_bool H.out.symm, (((Below.refl _ _).alloc (Nat.le_refl _) _).alloc (by simp) _).trans (hb1.mono (by simp; omega))⟩
  by_cases h6 : op = 6
  · subst h6
    have H := Lib.hid (show mayHold1 6 z v = (less v z.hi) from by simp [mayHold1])
    clear h1 h2 h3 h4 h5
    go_enter Try.func47, Try.ntmps47
    go_wp2_with fail
    refine (spec_LessVal v z.hi _).mono ?_
    rintro e w1 ⟨rfl, hb1⟩
    go_wp2_with fail
    go_ret
    exact ⟨ret_bool H.out.symm, (((Below.refl _ _).alloc (Nat.le_refl _) _).alloc (by simp) _).trans (hb1.mono (by simp; omega))⟩
  have b1 : (op == 1) = false := by simp [h1]
  have b2 : (op == 2) = false := by simp [h2]
  have b3 : (op == 3) = false := by simp [h3]
  have b4 : (op == 4) = false := by simp [h4]
  have b5 : (op == 5) = false := by simp [h5]
  have b6 : (op == 6) = false := by simp [h6]
  have H := Lib.hid (show mayHold1 op z v = false by simp [mayHold1, h1, h2, h3, h4, h5, h6])
  clear h1 h2 h3 h4 h5 h6
  go_enter Try.func47, Try.ntmps47
  go_wp2_with fail
  go_ret
  exact ⟨ret_bool H.out.symm, (((Below.refl _ _).alloc (Nat.le_refl _) _).alloc (by simp) _)⟩

set_option maxRecDepth 20000 in
set_option maxHeartbeats 1000000 in
theorem impl_MayHold1 (op : Int) (z : Z) (v : V) (w : World) :
    Calls Try.prog 45 #[.int .i64 op, .agg #[.int .i64 z.lo.ty, .int .i64 z.lo.n, .string z.lo.s, .int .i64 z.hi.ty, .int .i64 z.hi.n, .string z.hi.s], .agg #[.int .i64 v.ty, .int .i64 v.n, .string v.s]] w fun e w' => e = .returned (.bool (mayHold1 op z v)) ∧ Below w.heap.size w w' := by
  have he := eql_V z.lo v
  have hne := neq_V z.lo v
  have he2 := eql_V z.hi v
  have hne2 := neq_V z.hi v
  have hg := guard_V
  by_cases h1 : op = 1
  · subst h1
    have H := Lib.hid (show mayHold1 1 z v = (less z.lo v) from by simp [mayHold1])
    go_enter Try.func45, Try.ntmps45
    go_wp2_with fail
    refine (impl_LessVal z.lo v _).mono ?_
    rintro e w1 ⟨rfl, hb1⟩
    go_wp2_with fail
    go_ret
    exact ⟨ret_bool H.out.symm, (((Below.refl _ _).alloc (Nat.le_refl _) _).alloc (by simp) _).trans (hb1.mono (by simp; omega))⟩
  by_cases h2 : op = 2
  · subst h2
    have H := Lib.hid (show mayHold1 2 z v = (!less v z.lo) from by simp [mayHold1])
    clear h1
    go_enter Try.func45, Try.ntmps45
    go_wp2_with fail
    refine (impl_LessVal v z.lo _).mono ?_
    rintro e w1 ⟨rfl, hb1⟩
    go_wp2_with fail
    go_ret
    exact ⟨ret_bool H.out.symm, (((Below.refl _ _).alloc (Nat.le_refl _) _).alloc (by simp) _).trans (hb1.mono (by simp; omega))⟩
  by_cases h3 : op = 3
  · subst h3
    have H := Lib.hid (show mayHold1 3 z v = (inZone z v) from by simp [mayHold1])
    clear h1 h2
    go_enter Try.func45, Try.ntmps45
    go_wp2_with fail
    refine (impl_InZone z v _).mono ?_
    rintro e w1 ⟨rfl, hb1⟩
    go_wp2_with fail
    go_ret
    exact ⟨ret_bool H.out.symm, (((Below.refl _ _).alloc (Nat.le_refl _) _).alloc (by simp) _).trans (hb1.mono (by simp; omega))⟩
  by_cases h4 : op = 4
  · subst h4
    have H := Lib.hid (show mayHold1 4 z v = (!eqd z.lo v || !eqd z.hi v) from by simp [mayHold1, eqd])
    clear h1 h2 h3
    cases e0 : eqd z.lo v <;> cases e1 : eqd z.hi v
    all_goals
      rw [e0, e1] at H
      rw [e0] at he hne
      rw [e1] at he2 hne2
      go_enter Try.func45, Try.ntmps45
      go_wp2_with fail
      go_ret
      exact ⟨ret_bool H.out.symm, (((Below.refl _ _).alloc (Nat.le_refl _) _).alloc (by simp) _)⟩
  by_cases h5 : op = 5
  · subst h5
    have H := Lib.hid (show mayHold1 5 z v = (!less z.hi v) from by simp [mayHold1])
    clear h1 h2 h3 h4
    go_enter Try.func45, Try.ntmps45
    go_wp2_with fail
    refine (impl_LessVal z.hi v _).mono ?_
    rintro e w1 ⟨rfl, hb1⟩
    go_wp2_with fail
    go_ret
    exact ⟨ret_bool H.out.symm, (((Below.refl _ _).alloc (Nat.le_refl _) _).alloc (by simp) _).trans (hb1.mono (by simp; omega))⟩
  by_cases h6 : op = 6
  · subst h6
    have H := Lib.hid (show mayHold1 6 z v = (less v z.hi) from by simp [mayHold1])
    clear h1 h2 h3 h4 h5
    go_enter Try.func45, Try.ntmps45
    go_wp2_with fail
    refine (impl_LessVal v z.hi _).mono ?_
    rintro e w1 ⟨rfl, hb1⟩
    go_wp2_with fail
    go_ret
    exact ⟨ret_bool H.out.symm, (((Below.refl _ _).alloc (Nat.le_refl _) _).alloc (by simp) _).trans (hb1.mono (by simp; omega))⟩
  have b1 : (op == 1) = false := by simp [h1]
  have b2 : (op == 2) = false := by simp [h2]
  have b3 : (op == 3) = false := by simp [h3]
  have b4 : (op == 4) = false := by simp [h4]
  have b5 : (op == 5) = false := by simp [h5]
  have b6 : (op == 6) = false := by simp [h6]
  have H := Lib.hid (show mayHold1 op z v = false by simp [mayHold1, h1, h2, h3, h4, h5, h6])
  clear h1 h2 h3 h4 h5 h6
  go_enter Try.func45, Try.ntmps45
  go_wp2_with fail
  go_ret
  exact ⟨ret_bool H.out.symm, (((Below.refl _ _).alloc (Nat.le_refl _) _).alloc (by simp) _)⟩

end Go.Proofs.Ytidmlfjolhnnfaa
