/- The laws' helpers for rows (and slots): copies, equality: contracts. -/
import Derived.Test.YtgjjkodlmhmjgaaLR1
namespace Go.Proofs.Ytgjjkodlmhmjgaa
open Go.Sort Go.ChangeShapes Go.WideShapes Go.ChangeAt Go.RowKit Go.Lb

set_option maxHeartbeats 400000 in
theorem toRow_c (x : R) (sv : Value) (w : World) {lo hi : Nat} (hx : RdV w lo hi sv x.l) (hhi : hi ≤ w.heap.size) (hn : x.l.length ≤ 1048576) :
    Calls Try.prog 76 #[.agg #[.int .i64 x.id, sv]] w fun e w' => ∃ v, e = .returned (.agg #[.int .i64 x.id, v]) ∧ Own 39 3 w' w.heap.size w'.heap.size v x.l.length (x.l.flatMap V.cells) ∧ Below w.heap.size w w' := by
  have hC := fun (W : World) (h : Below w.heap.size w W) => toValS_c x.l sv W (hx.below h hhi) (Nat.le_trans hhi h.size) hn
  have HC := Lib.hid hC
  clear hC
  go_enter Try.func76, Try.ntmps76
  go_wp2_with fail
  refine (HC.out _ ?_).mono ?_
  · repeat (first | exact Below.refl _ _ | refine Below.setCell ?_ (by simp <;> omega) _ | refine Below.alloc ?_ (by simp <;> omega) _)
  rintro e w1 ⟨v, rfl, hown, hb1⟩
  have hc := (bcell hb1).1
  have hf := (bcell hb1).2
  have hz := hb1.size
  simp at hz
  have z0 : w.heap.size < w1.heap.size := by omega
  have z1 : w.heap.size + 1 < w1.heap.size := by omega
  have z2 : w.heap.size + 1 + 1 < w1.heap.size := by omega
  have Hown := Lib.hid hown
  have Hb1 := Lib.hid (below_a3 hb1)
  obtain ⟨A, c, rfl, -, -, -⟩ := hown.cells
  clear hown hb1
  go_wp2_with fail
  refine bodyPost_ret (v := .agg #[.int .i64 x.id, .slice A x.l.length c]) ?_ rfl ⟨_, rfl, ?_, ?_⟩
  · simp [results, Try.results76, go_sem, hc]
  · have h := Hown.out
    simp only [World.size_alloc] at h
    refine Own.more (lo := w.heap.size + 1 + 1 + 1) (hi := w1.heap.size) ?_ (by omega) (Nat.le_of_eq (by simp [World.setCell]))
    exact ((h.set (by omega) _).set (by omega) _).set (by omega) _
  · iterate 3 refine Below.setCell ?_ (by simp <;> omega) _
    exact Hb1.out
set_option maxHeartbeats 400000 in
theorem eqRow_c (x : R) (sv : Value) (y : R) (sv' : Value) (w : World) {l1 h1 l2 h2 : Nat} (hx : RdV w l1 h1 sv x.l) (hh1 : h1 ≤ w.heap.size) (hy : RdV w l2 h2 sv' y.l) (hh2 : h2 ≤ w.heap.size) :
    Calls Try.prog 79 #[.agg #[.int .i64 x.id, sv], .agg #[.int .i64 y.id, sv']] w fun e w' => e = .returned (.bool (eqd x y)) ∧ Below w.heap.size w w' := by
  have hE : eqd x y = (x.id == y.id && eqd x.l y.l) := by
    obtain ⟨a, b⟩ := x
    obtain ⟨c, d⟩ := y
    unfold eqd
    rw [Bool.eq_iff_iff]
    simp
  have HE := Lib.hid hE
  clear hE
  have up := up_a2 w (.cells #[.int .i64 x.id, sv] 111) (.cells #[.int .i64 y.id, sv'] 111)
  have hc := eqValS_c x.l sv y.l sv' _ (hx.below up hh1) (by simp only [World.size_alloc]; omega) (hy.below up hh2) (by simp only [World.size_alloc]; omega)
  by_cases hi : x.id = y.id
  · have hd : (x.id != y.id) = false := by simp [hi]
    have HE := Lib.hid (show eqd x y = eqd x.l y.l by rw [HE.out, hi]; simp)
    clear hi
    go_enter Try.func79, Try.ntmps79
    go_wp2_with fail
    refine hc.mono ?_
    rintro e w1 ⟨rfl, hb1⟩
    cases h1 : eqd x.l y.l
    · rw [h1] at HE
      go_wp2_with fail
      go_ret
      exact ⟨ret_bool HE.out.symm, below_a2 hb1⟩
    · rw [h1] at HE
      go_wp2_with fail
      go_ret
      exact ⟨ret_bool HE.out.symm, below_a2 hb1⟩
  · have hd : (x.id != y.id) = true := by simp [hi]
    have HE := Lib.hid (show eqd x y = false by rw [HE.out]; simp [hi])
    clear hi hc
    go_enter Try.func79, Try.ntmps79
    go_wp2_with fail
    go_ret
    exact ⟨ret_bool HE.out.symm, up⟩
set_option maxHeartbeats 400000 in
theorem toSlot_c (x : R) (sv : Value) (w : World) {lo hi : Nat} (hx : RdV w lo hi sv x.l) (hhi : hi ≤ w.heap.size) (hn : x.l.length ≤ 1048576) :
    Calls Try.prog 133 #[.agg #[.int .i64 x.id, sv]] w fun e w' => ∃ v, e = .returned (.agg #[.int .i64 x.id, v]) ∧ Own 39 3 w' w.heap.size w'.heap.size v x.l.length (x.l.flatMap V.cells) ∧ Below w.heap.size w w' := by
  have hC := fun (W : World) (h : Below w.heap.size w W) => toValS_c x.l sv W (hx.below h hhi) (Nat.le_trans hhi h.size) hn
  have HC := Lib.hid hC
  clear hC
  go_enter Try.func133, Try.ntmps133
  go_wp2_with fail
  refine (HC.out _ ?_).mono ?_
  · repeat (first | exact Below.refl _ _ | refine Below.setCell ?_ (by simp <;> omega) _ | refine Below.alloc ?_ (by simp <;> omega) _)
  rintro e w1 ⟨v, rfl, hown, hb1⟩
  have hc := (bcell hb1).1
  have hf := (bcell hb1).2
  have hz := hb1.size
  simp at hz
  have z0 : w.heap.size < w1.heap.size := by omega
  have z1 : w.heap.size + 1 < w1.heap.size := by omega
  have z2 : w.heap.size + 1 + 1 < w1.heap.size := by omega
  have Hown := Lib.hid hown
  have Hb1 := Lib.hid (below_a3 hb1)
  obtain ⟨A, c, rfl, -, -, -⟩ := hown.cells
  clear hown hb1
  go_wp2_with fail
  refine bodyPost_ret (v := .agg #[.int .i64 x.id, .slice A x.l.length c]) ?_ rfl ⟨_, rfl, ?_, ?_⟩
  · simp [results, Try.results133, go_sem, hc]
  · have h := Hown.out
    simp only [World.size_alloc] at h
    refine Own.more (lo := w.heap.size + 1 + 1 + 1) (hi := w1.heap.size) ?_ (by omega) (Nat.le_of_eq (by simp [World.setCell]))
    exact ((h.set (by omega) _).set (by omega) _).set (by omega) _
  · iterate 3 refine Below.setCell ?_ (by simp <;> omega) _
    exact Hb1.out
set_option maxHeartbeats 400000 in
theorem eqSlot_c (x : R) (sv : Value) (y : R) (sv' : Value) (w : World) {l1 h1 l2 h2 : Nat} (hx : RdV w l1 h1 sv x.l) (hh1 : h1 ≤ w.heap.size) (hy : RdV w l2 h2 sv' y.l) (hh2 : h2 ≤ w.heap.size) :
    Calls Try.prog 134 #[.agg #[.int .i64 x.id, sv], .agg #[.int .i64 y.id, sv']] w fun e w' => e = .returned (.bool (eqd x y)) ∧ Below w.heap.size w w' := by
  have hE : eqd x y = (x.id == y.id && eqd x.l y.l) := by
    obtain ⟨a, b⟩ := x
    obtain ⟨c, d⟩ := y
    unfold eqd
    rw [Bool.eq_iff_iff]
    simp
  have HE := Lib.hid hE
  clear hE
  have up := up_a2 w (.cells #[.int .i64 x.id, sv] 128) (.cells #[.int .i64 y.id, sv'] 128)
  have hc := eqValS_c x.l sv y.l sv' _ (hx.below up hh1) (by simp only [World.size_alloc]; omega) (hy.below up hh2) (by simp only [World.size_alloc]; omega)
  by_cases hi : x.id = y.id
  · have hd : (x.id != y.id) = false := by simp [hi]
    have HE := Lib.hid (show eqd x y = eqd x.l y.l by rw [HE.out, hi]; simp)
    clear hi
    go_enter Try.func134, Try.ntmps134
    go_wp2_with fail
    refine hc.mono ?_
    rintro e w1 ⟨rfl, hb1⟩
    cases h1 : eqd x.l y.l
    · rw [h1] at HE
      go_wp2_with fail
      go_ret
      exact ⟨ret_bool HE.out.symm, below_a2 hb1⟩
    · rw [h1] at HE
      go_wp2_with fail
      go_ret
      exact ⟨ret_bool HE.out.symm, below_a2 hb1⟩
  · have hd : (x.id != y.id) = true := by simp [hi]
    have HE := Lib.hid (show eqd x y = false by rw [HE.out]; simp [hi])
    clear hi hc
    go_enter Try.func134, Try.ntmps134
    go_wp2_with fail
    go_ret
    exact ⟨ret_bool HE.out.symm, up⟩

end Go.Proofs.Ytgjjkodlmhmjgaa
