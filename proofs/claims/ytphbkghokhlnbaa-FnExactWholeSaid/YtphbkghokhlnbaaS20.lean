/- Timestamps that came, whole chunks: contracts. -/
import Derived.Test.YtphbkghokhlnbaaLC
import Derived.Test.YtphbkghokhlnbaaS8
namespace Go.Proofs.Ytphbkghokhlnbaa
open Go.Sort Go.ChangeShapes Go.WideShapes Go.ChangeAt Go.RowKit Go.Lb

def whole (c : C) (ts : Int) : Bool := (c.l.all fun r => inR r.id 1 ts) && (c.next == (c.l.length : Int))
theorem whole_no {c : C} {ts : Int} {k : Nat} {y : R} (hy : c.l[k]? = some y) (h : inR y.id 1 ts = false) : whole c ts = false := by
  unfold whole
  have h1 : (c.l.all fun r => inR r.id 1 ts) = false := by
    rw [List.all_eq_false]
    exact ⟨y, List.mem_of_getElem? hy, by simp [h]⟩
  rw [h1]; rfl
theorem whole_end {c : C} {ts : Int} (h : (c.l.take c.l.length).all (fun r => inR r.id 1 ts) = true) : whole c ts = (c.next == (c.l.length : Int)) := by
  unfold whole
  rw [List.take_length] at h
  rw [h]; rfl

theorem q_spec_Came (n ts : Int) (w : World) : Calls Try.prog 78 #[.int .i64 n, .int .i64 ts] w fun e w' => e = .returned (.bool (inR n 1 ts)) ∧ w = w' := by
  go_enter Try.func78, Try.ntmps78
  go_wp2_with fail
  refine (q_spec_l1In _ _ _ _).mono ?_
  rintro e w1 ⟨rfl, rfl⟩
  go_wp2_with fail
  go_ret
  exact ⟨rfl, rfl⟩
theorem q_impl_Came (n ts : Int) (w : World) : Calls Try.prog 80 #[.int .i64 n, .int .i64 ts] w fun e w' => e = .returned (.bool (inR n 1 ts)) ∧ w = w' := by
  have H := Lib.hid (show inR n 1 ts = (decide (1 ≤ n) && decide (n ≤ ts)) from rfl)
  by_cases h1 : 1 ≤ n <;> by_cases h2 : n ≤ ts
  all_goals
    go_enter Try.func80, Try.ntmps80
    go_wp2
    go_ret
    exact ⟨ret_bool (by rw [H.out]; simp [*]), rfl⟩
set_option maxHeartbeats 1000000 in
theorem spec_Whole (x : C) (sv : Value) (ts : Int) (w : World) {lo hi : Nat} (hx : RdR w lo hi sv x.l) (hhi : hi ≤ w.heap.size) :
    Calls Try.prog 41 #[.agg #[.int .i64 x.next, sv], .int .i64 ts] w fun e w' => e = .returned (.bool (whole x ts)) ∧ Below w.heap.size w w' := by
  obtain ⟨A, c, rfl, hl, hl2⟩ := hx.form
  have hb0 := Lib.hid (up_a1 w (.cells #[.int .i64 x.next, .slice A x.l.length c] 52))
  go_enter Try.func41, Try.ntmps41
  go_wp2_with fail
  go_loop [5] (fun i => ∃ k : Nat, i = .int .i64 k ∧ k ≤ x.l.length ∧ (x.l.take k).all (fun r => inR r.id 1 ts) = true) (fun i => x.l.length - (intOf i).toNat)
  case atStart => exact ⟨0, rfl, by omega, by simp⟩
  case round =>
    obtain ⟨k, rfl, hk, hall⟩ := hrel
    have Hall := Lib.hid hall
    clear hall
    by_cases hkl : k < x.l.length
    · obtain ⟨b, off, y, sv', rfl, -, hbl, hyk, e0, e1, hr⟩ := (hx.below hb0.out hhi).at hkl
      cases hI : inR y.id 1 ts
      · have H := Lib.hid (whole_no hyk hI)
        clear hyk
        go_wp2_with fail
        refine (q_spec_Came _ _ _).mono ?_
        rintro e w1 ⟨rfl, rfl⟩
        rw [hI]
        go_wp2_with fail
        go_ret
        exact ⟨ret_bool H.out.symm, hb0.out⟩
      · have Ht := Lib.hid (show (x.l.take (k + 1)).all (fun r => inR r.id 1 ts) = true by rw [take_of_get hyk, List.all_append, Hall.out]; simp [hI])
        clear hyk
        go_wp2_with fail
        refine (q_spec_Came _ _ _).mono ?_
        rintro e w1 ⟨rfl, rfl⟩
        rw [hI]
        go_wp2_with fail
        go_round
        case rel => exact ⟨k + 1, by go_num, by omega, Ht.out⟩
        case measure => simp [intOf]; omega
    · have H := Lib.hid (whole_end (c := x) (ts := ts) (by have h := Hall.out; rwa [show k = x.l.length by omega] at h))
      go_wp2_with fail
      go_ret
      exact ⟨ret_bool H.out.symm, hb0.out⟩
set_option maxHeartbeats 1000000 in
theorem impl_Whole (x : C) (sv : Value) (ts : Int) (w : World) {lo hi : Nat} (hx : RdR w lo hi sv x.l) (hhi : hi ≤ w.heap.size) :
    Calls Try.prog 43 #[.agg #[.int .i64 x.next, sv], .int .i64 ts] w fun e w' => e = .returned (.bool (whole x ts)) ∧ Below w.heap.size w w' := by
  obtain ⟨A, c, rfl, hl, hl2⟩ := hx.form
  have hb0 := Lib.hid (up_a1 w (.cells #[.int .i64 x.next, .slice A x.l.length c] 52))
  go_enter Try.func43, Try.ntmps43
  go_wp2_with fail
  go_loopw [10] (fun i wr => ∃ k : Nat, i = .int .i64 k ∧ k ≤ x.l.length ∧ (x.l.take k).all (fun r => inR r.id 1 ts) = true ∧ wr.heap[w.heap.size]? = some (.cells #[.int .i64 x.next, .slice A x.l.length c] 52) ∧ Below w.heap.size w wr) (fun i _ => x.l.length - (intOf i).toNat)
  case atStart => exact ⟨0, rfl, by omega, by simp, heap_alloc_new w _, hb0.out⟩
  case round =>
    obtain ⟨k, rfl, hk, hall, hc, hb⟩ := hrel
    have Hall := Lib.hid hall
    have hg : w.heap.size < wr.heap.size := (Array.getElem?_eq_some_iff.1 hc).1
    have d0 := cell_of_row wr _ 0 _ _ _ hc
    have d1 := cell_of_row wr _ 1 _ _ _ hc
    have Hc := Lib.hid hc
    clear hall hc
    by_cases hkl : k < x.l.length
    · obtain ⟨b, off, y, sv', rfl, -, hbl, hyk, e0, e1, hr⟩ := (hx.below hb hhi).at hkl
      obtain ⟨As, cs, rfl, -, -⟩ := hr.form
      have up := Lib.hid (up_a1 wr (.cells #[.int .i64 y.id, .slice As y.l.length cs] 99))
      have hbs := hb.size
      cases hI : inR y.id 1 ts
      · have H := Lib.hid (whole_no hyk hI)
        clear hyk hr
        go_wp2_with fail
        refine (q_impl_Came _ _ _).mono ?_
        rintro e w1 ⟨rfl, rfl⟩
        rw [hI]
        go_wp2_with fail
        go_ret
        exact ⟨ret_bool H.out.symm, hb.trans (up.out.mono hb.size)⟩
      · have Ht := Lib.hid (show (x.l.take (k + 1)).all (fun r => inR r.id 1 ts) = true by rw [take_of_get hyk, List.all_append, Hall.out]; simp [hI])
        clear hyk hr
        go_wp2_with fail
        refine (q_impl_Came _ _ _).mono ?_
        rintro e w1 ⟨rfl, rfl⟩
        rw [hI]
        go_wp2_with fail
        go_roundw
        case rel => exact ⟨k + 1, by go_num, by omega, Ht.out, (up.out.block _ hg).trans Hc.out, hb.trans (up.out.mono hb.size)⟩
        case measure => simp [intOf]; omega
    · have H := Lib.hid (whole_end (c := x) (ts := ts) (by have h := Hall.out; rwa [show k = x.l.length by omega] at h))
      go_wp2_with fail
      go_ret
      exact ⟨ret_bool H.out.symm, hb⟩
end Go.Proofs.Ytphbkghokhlnbaa
