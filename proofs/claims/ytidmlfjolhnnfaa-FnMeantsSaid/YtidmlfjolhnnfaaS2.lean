/- Zones: contracts of the reference's and the program's functions. -/
import Derived.Test.YtidmlfjolhnnfaaS1
namespace Go.Proofs.Ytidmlfjolhnnfaa
open Go.ChangeShapes Go.WideShapes Go.ChangeAt Go.RowKit Go.Lb

theorem spec_InZone (z : Z) (v : V) (w : World) :
    Calls Try.prog 69 #[.agg #[.int .i64 z.lo.ty, .int .i64 z.lo.n, .string z.lo.s, .int .i64 z.hi.ty, .int .i64 z.hi.n, .string z.hi.s], .agg #[.int .i64 v.ty, .int .i64 v.n, .string v.s]] w fun e w' => e = .returned (.bool (inZone z v)) ∧ Below w.heap.size w w' := by
  cases h1 : less v z.lo
  · have H := Lib.hid (show inZone z v = !less z.hi v by simp [inZone, h1])
    go_enter Try.func69, Try.ntmps69
    go_wp2_with fail
    refine (spec_LessVal v z.lo _).mono ?_
    rintro e w1 ⟨rfl, hb1⟩
    have hc := (bcell hb1).1
    rw [h1]
    go_wp2_with fail
    refine (spec_LessVal z.hi v _).mono ?_
    rintro e w2 ⟨rfl, hb2⟩
    clear hc
    go_wp2_with fail
    go_ret
    exact ⟨ret_bool H.out.symm, (((Below.refl _ _).alloc (Nat.le_refl _) _).alloc (by simp) _).trans ((hb1.mono (by simp; omega)).trans (hb2.mono (by have := hb1.size; simp at this; omega)))⟩
  · have H := Lib.hid (show inZone z v = false by simp [inZone, h1])
    go_enter Try.func69, Try.ntmps69
    go_wp2_with fail
    refine (spec_LessVal v z.lo _).mono ?_
    rintro e w1 ⟨rfl, hb1⟩
    have hc := (bcell hb1).1
    rw [h1]
    go_wp2_with fail
    go_ret
    exact ⟨ret_bool H.out.symm, (((Below.refl _ _).alloc (Nat.le_refl _) _).alloc (by simp) _).trans (hb1.mono (by simp; omega))⟩

theorem impl_InZone (z : Z) (v : V) (w : World) :
    Calls Try.prog 67 #[.agg #[.int .i64 z.lo.ty, .int .i64 z.lo.n, .string z.lo.s, .int .i64 z.hi.ty, .int .i64 z.hi.n, .string z.hi.s], .agg #[.int .i64 v.ty, .int .i64 v.n, .string v.s]] w fun e w' => e = .returned (.bool (inZone z v)) ∧ Below w.heap.size w w' := by
  cases h1 : less v z.lo
  · have H := Lib.hid (show inZone z v = !less z.hi v by simp [inZone, h1])
    go_enter Try.func67, Try.ntmps67
    go_wp2_with fail
    refine (impl_LessVal v z.lo _).mono ?_
    rintro e w1 ⟨rfl, hb1⟩
    have hc := (bcell hb1).1
    rw [h1]
    go_wp2_with fail
    refine (impl_LessVal z.hi v _).mono ?_
    rintro e w2 ⟨rfl, hb2⟩
    clear hc
    go_wp2_with fail
    go_ret
    exact ⟨ret_bool H.out.symm, (((Below.refl _ _).alloc (Nat.le_refl _) _).alloc (by simp) _).trans ((hb1.mono (by simp; omega)).trans (hb2.mono (by have := hb1.size; simp at this; omega)))⟩
  · have H := Lib.hid (show inZone z v = false by simp [inZone, h1])
    go_enter Try.func67, Try.ntmps67
    go_wp2_with fail
    refine (impl_LessVal v z.lo _).mono ?_
    rintro e w1 ⟨rfl, hb1⟩
    have hc := (bcell hb1).1
    rw [h1]
    go_wp2_with fail
    go_ret
    exact ⟨ret_bool H.out.symm, (((Below.refl _ _).alloc (Nat.le_refl _) _).alloc (by simp) _).trans (hb1.mono (by simp; omega))⟩

end Go.Proofs.Ytidmlfjolhnnfaa
