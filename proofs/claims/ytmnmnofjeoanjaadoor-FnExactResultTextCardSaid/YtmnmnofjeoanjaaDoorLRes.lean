/- The laws' helpers for results: contracts. -/
import Derived.Test.YtmnmnofjeoanjaaDoorLR6
namespace Go.Proofs.YtmnmnofjeoanjaaDoor
open Go.Sort Go.ChangeShapes Go.WideShapes Go.ChangeAt Go.RowKit Go.Lb

def szResult (x : Res) (left : Int) : Int := if szRowS x.rows left < 0 then -1 else if szVal x.v (szRowS x.rows left) < 0 then -1 else szVal x.v (szRowS x.rows left)
theorem szResult_le (x : Res) (left : Int) (h0 : 0 ≤ left) (h : left ≤ 1048576) : szResult x left ≤ 1048576 := by
  have h1 := szRowS_le x.rows left h0 h
  unfold szResult
  split
  · omega
  · have := szVal_le x.v (szRowS x.rows left) (by omega) h1
    split <;> omega
theorem szResult_bd (x : Res) (left : Int) (h0 : 0 ≤ left) (h : left ≤ 1048576) : ¬ szResult x left < 0 → x.rows.length ≤ 1048576 ∧ cntR x.rows ≤ 3145728 ∧ lensR x.rows ≤ 1048576 := by
  intro hn
  refine szRowS_bd x.rows left h0 h ?_
  unfold szResult at hn
  split at hn
  · omega
  · assumption
set_option maxHeartbeats 1000000 in
theorem szResult_c (x : Res) (sv : Value) (left : Int) (w : World) {lo hi : Nat} (hx : RdR w lo hi sv x.rows) (hhi : hi ≤ w.heap.size) (hs : RsOk x.rows) (hs2 : x.v.s.size ≤ maxLen) (h0 : 0 ≤ left) (h1 : left ≤ 1048576) :
    Calls Tryd.prog 15 #[.agg #[sv, .int .i64 x.n, .bool x.has, .int .i64 x.v.ty, .int .i64 x.v.n, .string x.v.s], .int .i64 left] w fun e w' => e = .returned (.int .i64 (szResult x left)) ∧ Below w.heap.size w w' := by
  have up := up_a1 w (.cells #[sv, .int .i64 x.n, .bool x.has, .int .i64 x.v.ty, .int .i64 x.v.n, .string x.v.s] 43)
  have hc := Lib.hid (szRowS_c x.rows sv left _ (hx.below up hhi) (by simp only [World.size_alloc]; omega) hs h0 h1)
  have H := Lib.hid (show szResult x left = if szRowS x.rows left < 0 then -1 else if szVal x.v (szRowS x.rows left) < 0 then -1 else szVal x.v (szRowS x.rows left) from rfl)
  have hm1 := szRowS_le x.rows left h0 h1
  clear hs
  go_enter Tryd.func15, Tryd.ntmps15
  go_wp2_with fail
  refine hc.out.mono ?_
  rintro e w1 ⟨rfl, hb1⟩
  have hcl := (bcell hb1).1
  have hz := hb1.size
  simp only [World.size_alloc] at hz
  have z0 : w.heap.size < w1.heap.size := by omega
  have hb2 := below_a1 hb1
  clear hc
  generalize szRowS x.rows left = m at H hm1
  by_cases hm : m < 0
  · have H := Lib.hid (H.out.trans (if_pos hm))
    go_wp2_with fail
    go_ret
    exact ⟨ret_int H.out.symm, hb2⟩
  · have H := Lib.hid (H.out.trans (if_neg hm))
    go_wp2_with fail
    refine (szVal_c x.v m _ hs2 (by omega) hm1).mono ?_
    rintro e w2 ⟨rfl, hb3⟩
    have hb4 := hb2.trans (hb3.mono hb2.size)
    generalize szVal x.v m = q at H
    by_cases hq : q < 0
    · have H := Lib.hid (H.out.trans (if_pos hq))
      go_wp2_with fail
      go_ret
      exact ⟨ret_int H.out.symm, hb4⟩
    · have H := Lib.hid (H.out.trans (if_neg hq))
      go_wp2_with fail
      go_ret
      exact ⟨ret_int H.out.symm, hb4⟩
set_option maxHeartbeats 1000000 in
theorem toResult_c (x : Res) (sv : Value) (w : World) {lo hi : Nat} (hx : RdR w lo hi sv x.rows) (hhi : hi ≤ w.heap.size) (hn : x.rows.length ≤ 1048576 ∧ cntR x.rows ≤ 3145728 ∧ lensR x.rows ≤ 1048576) :
    Calls Tryd.prog 18 #[.agg #[sv, .int .i64 x.n, .bool x.has, .int .i64 x.v.ty, .int .i64 x.v.n, .string x.v.s]] w fun e w' => ∃ v, e = .returned (.agg #[v, .int .i64 x.n, .bool x.has, .int .i64 x.v.ty, .int .i64 x.v.n, .string x.v.s]) ∧ OwnR 83 31 w' w.heap.size w'.heap.size v x.rows ∧ Below w.heap.size w w' := by
  have hC := fun (W : World) (h : Below w.heap.size w W) => toRowS_c x.rows sv W (hx.below h hhi) (Nat.le_trans hhi h.size) hn
  have HC := Lib.hid hC
  clear hC
  go_enter Tryd.func18, Tryd.ntmps18
  go_wp2_with fail
  refine (HC.out _ ?_).mono ?_
  · repeat (first | exact Below.refl _ _ | refine Below.setCell ?_ (by simp <;> omega) _ | refine Below.alloc ?_ (by simp <;> omega) _)
  rintro e w1 ⟨v, rfl, hown, hb1⟩
  have hc := (bcell hb1).1
  have hf := (bcell hb1).2
  have hz := hb1.size
  simp at hz
  have z0 : w.heap.size < w1.heap.size := by omega
  have z1 : w.heap.size + 1 < w1.heap.size := by omega
  have z2 : w.heap.size + 1 + 1 < w1.heap.size := by omega
  have Hown := Lib.hid hown
  have Hb1 := Lib.hid (below_a3 hb1)
  obtain ⟨A, c, rfl, -, -⟩ := hown.rdR.form
  clear hown hb1 HC
  go_wp2_with fail
  refine (toVal_c x.v _).mono ?_
  rintro e w2 ⟨rfl, hb2⟩
  have hc2 := (bcell hb2).1
  have hf2 := (bcell hb2).2
  have hz2 := hb2.size
  simp [World.setCell] at hz2
  have y0 : w.heap.size < w2.heap.size := by omega
  have y1 : w.heap.size + 1 < w2.heap.size := by omega
  have y2 : w.heap.size + 1 + 1 < w2.heap.size := by omega
  have Hb2 := Lib.hid hb2
  clear hb2
  go_wp2_with fail
  refine bodyPost_ret (v := .agg #[.slice A x.rows.length c, .int .i64 x.n, .bool x.has, .int .i64 x.v.ty, .int .i64 x.v.n, .string x.v.s]) ?_ rfl ⟨_, rfl, ?_, ?_⟩
  · simp [results, Tryd.results18, go_sem, hc2, hc, z1]
  · have h := Hown.out
    simp only [World.size_alloc] at h
    have h := (((h.set (b := w.heap.size + 1 + 1) (o := 0) (by omega) (.slice A x.rows.length c)).set (b := w.heap.size + 1 + 1) (o := 1) (by omega) (.int .i64 x.n)).set (b := w.heap.size + 1 + 1) (o := 2) (by omega) (.bool x.has))
    have h := h.below Hb2.out (Nat.le_of_eq (by simp [World.setCell]))
    refine OwnR.more (lo := w.heap.size + 1 + 1 + 1) (hi := w1.heap.size) ?_ (by omega) (by simp [World.setCell]; omega)
    iterate 9 refine OwnR.set ?_ (by omega) _
    exact h
  · have h : Below w.heap.size w (((w1.setCell ⟨w.heap.size + 1 + 1, 0, none⟩ (.slice A x.rows.length c)).setCell ⟨w.heap.size + 1 + 1, 1, none⟩ (.int .i64 x.n)).setCell ⟨w.heap.size + 1 + 1, 2, none⟩ (.bool x.has)) := by
      iterate 3 refine Below.setCell ?_ (by simp <;> omega) _
      exact Hb1.out
    have h := h.trans (Hb2.out.mono h.size)
    iterate 9 refine Below.setCell ?_ (by simp <;> omega) _
    exact h
set_option maxHeartbeats 1000000 in
theorem eqResult_c (x : Res) (sv : Value) (y : Res) (sv' : Value) (w : World) {l1 h1 l2 h2 : Nat} (hx : RdR w l1 h1 sv x.rows) (hh1 : h1 ≤ w.heap.size) (hy : RdR w l2 h2 sv' y.rows) (hh2 : h2 ≤ w.heap.size) :
    Calls Tryd.prog 21 #[.agg #[sv, .int .i64 x.n, .bool x.has, .int .i64 x.v.ty, .int .i64 x.v.n, .string x.v.s], .agg #[sv', .int .i64 y.n, .bool y.has, .int .i64 y.v.ty, .int .i64 y.v.n, .string y.v.s]] w fun e w' => e = .returned (.bool (eqd x y)) ∧ Below w.heap.size w w' := by
  obtain ⟨rx, nx, ax, vx⟩ := x
  obtain ⟨ry, ny, ay, vy⟩ := y
  have hE : eqd (⟨rx, nx, ax, vx⟩ : Res) ⟨ry, ny, ay, vy⟩ = (eqd rx ry && (nx == ny && (ax == ay && eqd vx vy))) := by
    unfold eqd
    rw [Bool.eq_iff_iff]
    simp
  have HE := Lib.hid hE
  clear hE
  simp only at hx hy
  have up := up_a2 w (.cells #[sv, .int .i64 nx, .bool ax, .int .i64 vx.ty, .int .i64 vx.n, .string vx.s] 52) (.cells #[sv', .int .i64 ny, .bool ay, .int .i64 vy.ty, .int .i64 vy.n, .string vy.s] 52)
  have hc := Lib.hid (eqRowS_c rx sv ry sv' _ (hx.below up hh1) (by simp only [World.size_alloc]; omega) (hy.below up hh2) (by simp only [World.size_alloc]; omega))
  generalize eqd (⟨rx, nx, ax, vx⟩ : Res) ⟨ry, ny, ay, vy⟩ = res at HE
  by_cases q2 : nx = ny
  · have d2 : (nx != ny) = false := by simp [q2]
    have d2' : (nx == ny) = true := by simp [q2]
    rw [d2'] at HE
    clear q2 d2'
    cases ax <;> cases ay
    all_goals
      go_enter Tryd.func21, Tryd.ntmps21
      go_wp2_with fail
      refine hc.out.mono ?_
      rintro e w1 ⟨rfl, hb1⟩
      have hcl := (bcell hb1).1
      have hz := hb1.size
      simp only [World.size_alloc] at hz
      have z0 : w.heap.size < w1.heap.size := by omega
      have z1 : w.heap.size + 1 < w1.heap.size := by omega
      have Hb1 := Lib.hid (below_a2 hb1)
      clear up hc hb1
      cases q1 : eqd rx ry
      · rw [q1] at HE
        go_wp2_with fail
        go_ret
        exact ⟨ret_bool (by rw [HE.out]; rfl), Hb1.out⟩
      · rw [q1] at HE
        go_wp2_with fail
        first
        | (go_ret
           exact ⟨ret_bool (by rw [HE.out]; rfl), Hb1.out⟩)
        | (refine (eqVal_c vx vy _).mono ?_
           rintro e w2 ⟨rfl, hb2⟩
           have hb3 := Hb1.out.trans (hb2.mono Hb1.out.size)
           cases q4 : eqd vx vy
           all_goals
             rw [q4] at HE
             have HE := Lib.hid HE.out
             go_wp2_with fail
             go_ret
             exact ⟨ret_bool HE.out.symm, hb3⟩)
  · have d2 : (nx != ny) = true := by simp [q2]
    have d2' : (nx == ny) = false := by simp [q2]
    rw [d2'] at HE
    clear q2 d2'
    go_enter Tryd.func21, Tryd.ntmps21
    go_wp2_with fail
    refine hc.out.mono ?_
    rintro e w1 ⟨rfl, hb1⟩
    have hcl := (bcell hb1).1
    have hz := hb1.size
    simp only [World.size_alloc] at hz
    have z0 : w.heap.size < w1.heap.size := by omega
    have z1 : w.heap.size + 1 < w1.heap.size := by omega
    have Hb1 := Lib.hid (below_a2 hb1)
    clear up hc hb1
    cases q1 : eqd rx ry
    all_goals
      rw [q1] at HE
      go_wp2_with fail
      go_ret
      exact ⟨ret_bool (by rw [HE.out]; rfl), Hb1.out⟩
end Go.Proofs.YtmnmnofjeoanjaaDoor
