/- The laws' helpers for zones: contracts. -/
import Derived.Test.YtgjjkodlmhmjgaaL1
namespace Go.Proofs.Ytgjjkodlmhmjgaa
open Go.ChangeShapes Go.WideShapes Go.ChangeAt Go.RowKit Go.Lb

def szZone (z : Z) (left : Int) : Int := if szVal z.lo left < 0 then -1 else if szVal z.hi (szVal z.lo left) < 0 then -1 else szVal z.hi (szVal z.lo left)
theorem szZone_le (z : Z) (left : Int) (h0 : 0 ≤ left) (h : left ≤ 1048576) : szZone z left ≤ 1048576 := by
  have h1 := szVal_le z.lo left h0 h
  unfold szZone
  split
  · omega
  · have h2 := szVal_le z.hi (szVal z.lo left) (by omega) h1
    split <;> omega
theorem szZone_bd (z : Z) (left : Int) (_h0 : 0 ≤ left) (_h : left ≤ 1048576) : ¬ szZone z left < 0 → True := fun _ => trivial

set_option maxHeartbeats 1000000 in
theorem szZone_c (z : Z) (left : Int) (w : World) (hs : z.lo.s.size ≤ maxLen) (hs2 : z.hi.s.size ≤ maxLen) (h0 : 0 ≤ left) (h1 : left ≤ 1048576) :
    Calls Try.prog 118 #[.agg #[.int .i64 z.lo.ty, .int .i64 z.lo.n, .string z.lo.s, .int .i64 z.hi.ty, .int .i64 z.hi.n, .string z.hi.s], .int .i64 left] w fun e w' => e = .returned (.int .i64 (szZone z left)) ∧ Below w.heap.size w w' := by
  have hd := Lib.hid (show szZone z left = if szVal z.lo left < 0 then -1 else if szVal z.hi (szVal z.lo left) < 0 then -1 else szVal z.hi (szVal z.lo left) from rfl)
  have hm := szVal_le z.lo left h0 h1
  go_enter Try.func118, Try.ntmps118
  go_wp2_with fail
  refine (szVal_c z.lo left _ hs h0 h1).mono ?_
  rintro e w1 ⟨rfl, hb1⟩
  have hc := (bcell hb1).1
  have Hd := hd.out
  clear hd
  generalize szVal z.lo left = m at *
  by_cases hn : m < 0
  · rw [if_pos hn] at Hd
    have Hd := Lib.hid Hd
    go_wp2_with fail
    go_ret
    exact ⟨ret_int Hd.out.symm, below_a1 hb1⟩
  · rw [if_neg hn] at Hd
    have Hd := Lib.hid Hd
    go_wp2_with fail
    refine (szVal_c z.hi m _ hs2 (by omega) hm).mono ?_
    rintro e w2 ⟨rfl, hb2⟩
    replace Hd := Hd.out
    generalize szVal z.hi m = m2 at *
    have hb3 := (below_a1 hb1).trans (hb2.mono (below_a1 hb1).size)
    clear hc
    by_cases hn2 : m2 < 0
    · rw [if_pos hn2] at Hd
      have Hd := Lib.hid Hd
      go_wp2_with fail
      go_ret
      exact ⟨ret_int Hd.out.symm, hb3⟩
    · rw [if_neg hn2] at Hd
      have Hd := Lib.hid Hd
      go_wp2_with fail
      go_ret
      exact ⟨ret_int Hd.out.symm, hb3⟩
set_option maxHeartbeats 1000000 in
theorem toZone_c (z : Z) (w : World) :
    Calls Try.prog 121 #[.agg #[.int .i64 z.lo.ty, .int .i64 z.lo.n, .string z.lo.s, .int .i64 z.hi.ty, .int .i64 z.hi.n, .string z.hi.s]] w fun e w' => e = .returned (.agg #[.int .i64 z.lo.ty, .int .i64 z.lo.n, .string z.lo.s, .int .i64 z.hi.ty, .int .i64 z.hi.n, .string z.hi.s]) ∧ Below w.heap.size w w' := by
  go_enter Try.func121, Try.ntmps121
  go_wp2_with fail
  refine (toVal_c z.lo _).mono ?_
  rintro e w1 ⟨rfl, hb1⟩
  have hc := (bcell hb1).1
  have hf := (bcell hb1).2
  have hB := below_a3 hb1
  have hz := hb1.size
  simp only [World.size_alloc] at hz
  have z0 : w.heap.size < w1.heap.size := by omega
  have z1 : w.heap.size + 1 < w1.heap.size := by omega
  have z2 : w.heap.size + 1 + 1 < w1.heap.size := by omega
  go_wp2_with fail
  refine (toVal_c z.hi _).mono ?_
  rintro e w2 ⟨rfl, hb2⟩
  have hc2 := (bcell hb2).1
  have hf2 := (bcell hb2).2
  have hB2 := hB.trans (((((Below.refl w.heap.size _).setCell (Nat.le_add_right w.heap.size 2) _).setCell (Nat.le_add_right w.heap.size 2) _).setCell (Nat.le_add_right w.heap.size 2) _).trans (hb2.mono (by simp [World.setCell]; omega)))
  clear hB
  have hz2 := hb2.size
  simp [World.setCell] at hz2
  have y0 : w.heap.size < w2.heap.size := by omega
  have y1 : w.heap.size + 1 < w2.heap.size := by omega
  have y2 : w.heap.size + 1 + 1 < w2.heap.size := by omega
  go_wp2_with fail
  refine bodyPost_ret (v := .agg #[.int .i64 z.lo.ty, .int .i64 z.lo.n, .string z.lo.s, .int .i64 z.hi.ty, .int .i64 z.hi.n, .string z.hi.s]) ?_ rfl ⟨rfl, ?_⟩
  · simp [results, Try.results121, go_sem, hc2, hc, z1]
  · iterate 9 refine Below.setCell ?_ (by simp <;> omega) _
    exact hB2
set_option maxHeartbeats 1000000 in
theorem eqZone_c (x y : Z) (w : World) :
    Calls Try.prog 116 #[.agg #[.int .i64 x.lo.ty, .int .i64 x.lo.n, .string x.lo.s, .int .i64 x.hi.ty, .int .i64 x.hi.n, .string x.hi.s], .agg #[.int .i64 y.lo.ty, .int .i64 y.lo.n, .string y.lo.s, .int .i64 y.hi.ty, .int .i64 y.hi.n, .string y.hi.s]] w fun e w' => e = .returned (.bool (eqd x y)) ∧ Below w.heap.size w w' := by
  have hE : eqd x y = (eqd x.lo y.lo && eqd x.hi y.hi) := by
    obtain ⟨a, b⟩ := x
    obtain ⟨c, d⟩ := y
    unfold eqd
    rw [Bool.eq_iff_iff]
    simp
  have HE := Lib.hid hE
  clear hE
  go_enter Try.func116, Try.ntmps116
  go_wp2_with fail
  refine (eqVal_c x.lo y.lo _).mono ?_
  rintro e w1 ⟨rfl, hb1⟩
  have hc := (bcell hb1).1
  replace HE := HE.out
  cases h1 : eqd x.lo y.lo
  · rw [h1] at HE
    have HE := Lib.hid (show eqd x y = false from HE)
    go_wp2_with fail
    go_ret
    exact ⟨ret_bool HE.out.symm, below_a2 hb1⟩
  · rw [h1] at HE
    have HE := Lib.hid (show eqd x y = eqd x.hi y.hi from HE)
    go_wp2_with fail
    refine (eqVal_c x.hi y.hi _).mono ?_
    rintro e w2 ⟨rfl, hb2⟩
    have hb3 := (below_a2 hb1).trans (hb2.mono (below_a2 hb1).size)
    clear hc
    replace HE := HE.out
    cases h2 : eqd x.hi y.hi
    all_goals
      rw [h2] at HE
      have HE := Lib.hid HE
      go_wp2_with fail
      go_ret
      exact ⟨ret_bool HE.out.symm, hb3⟩
end Go.Proofs.Ytgjjkodlmhmjgaa
