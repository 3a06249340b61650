/- The laws' helpers for chunks: contracts. -/
import Derived.Test.YtgjjkodlmhmjgaaLR6
namespace Go.Proofs.Ytgjjkodlmhmjgaa
open Go.Sort Go.ChangeShapes Go.WideShapes Go.ChangeAt Go.RowKit Go.Lb

def szChunk (x : C) (left : Int) : Int := if szRowS x.l left < 0 then -1 else szRowS x.l left
theorem szChunk_le (x : C) (left : Int) (h0 : 0 ≤ left) (h : left ≤ 1048576) : szChunk x left ≤ 1048576 := by
  have := szRowS_le x.l left h0 h
  unfold szChunk
  split <;> omega
theorem szChunk_bd (x : C) (left : Int) (h0 : 0 ≤ left) (h : left ≤ 1048576) : ¬ szChunk x left < 0 → x.l.length ≤ 1048576 ∧ cntR x.l ≤ 3145728 ∧ lensR x.l ≤ 1048576 := by
  intro hn
  refine szRowS_bd x.l left h0 h ?_
  unfold szChunk at hn
  split at hn
  · omega
  · assumption
set_option maxHeartbeats 400000 in
theorem szChunk_c (x : C) (sv : Value) (left : Int) (w : World) {lo hi : Nat} (hx : RdR w lo hi sv x.l) (hhi : hi ≤ w.heap.size) (hs : RsOk x.l) (h0 : 0 ≤ left) (h1 : left ≤ 1048576) :
    Calls Try.prog 32 #[.agg #[.int .i64 x.next, sv], .int .i64 left] w fun e w' => e = .returned (.int .i64 (szChunk x left)) ∧ Below w.heap.size w w' := by
  have up := up_a1 w (.cells #[.int .i64 x.next, sv] 55)
  have hc := Lib.hid (szSlotS_c x.l sv left _ (hx.below up hhi) (by simp only [World.size_alloc]; omega) hs h0 h1)
  have H := Lib.hid (show szChunk x left = if szRowS x.l left < 0 then -1 else szRowS x.l left from rfl)
  clear hs
  go_enter Try.func32, Try.ntmps32
  go_wp2_with fail
  refine hc.out.mono ?_
  rintro e w1 ⟨rfl, hb1⟩
  have hb2 := below_a1 hb1
  clear hc
  generalize szRowS x.l left = m at H
  by_cases hm : m < 0
  · have H := Lib.hid (H.out.trans (if_pos hm))
    go_wp2_with fail
    go_ret
    exact ⟨ret_int H.out.symm, hb2⟩
  · have H := Lib.hid (H.out.trans (if_neg hm))
    go_wp2_with fail
    go_ret
    exact ⟨ret_int H.out.symm, hb2⟩
set_option maxHeartbeats 400000 in
theorem toChunk_c (x : C) (sv : Value) (w : World) {lo hi : Nat} (hx : RdR w lo hi sv x.l) (hhi : hi ≤ w.heap.size) (hn : x.l.length ≤ 1048576 ∧ cntR x.l ≤ 3145728 ∧ lensR x.l ≤ 1048576) :
    Calls Try.prog 34 #[.agg #[.int .i64 x.next, sv]] w fun e w' => ∃ v, e = .returned (.agg #[.int .i64 x.next, v]) ∧ OwnR 128 39 w' w.heap.size w'.heap.size v x.l ∧ Below w.heap.size w w' := by
  have hC := fun (W : World) (h : Below w.heap.size w W) => toSlotS_c x.l sv W (hx.below h hhi) (Nat.le_trans hhi h.size) hn
  have HC := Lib.hid hC
  clear hC
  go_enter Try.func34, Try.ntmps34
  go_wp2_with fail
  refine (HC.out _ ?_).mono ?_
  · repeat (first | exact Below.refl _ _ | refine Below.setCell ?_ (by simp <;> omega) _ | refine Below.alloc ?_ (by simp <;> omega) _)
  rintro e w1 ⟨v, rfl, hown, hb1⟩
  have hc := (bcell hb1).1
  have hf := (bcell hb1).2
  have hz := hb1.size
  simp at hz
  have z0 : w.heap.size < w1.heap.size := by omega
  have z1 : w.heap.size + 1 < w1.heap.size := by omega
  have z2 : w.heap.size + 1 + 1 < w1.heap.size := by omega
  have Hown := Lib.hid hown
  have Hb1 := Lib.hid (below_a3 hb1)
  obtain ⟨A, c, rfl, -, -⟩ := hown.rdR.form
  clear hown hb1
  go_wp2_with fail
  refine bodyPost_ret (v := .agg #[.int .i64 x.next, .slice A x.l.length c]) ?_ rfl ⟨_, rfl, ?_, ?_⟩
  · simp [results, Try.results34, go_sem, hc]
  · have h := Hown.out
    simp only [World.size_alloc] at h
    refine OwnR.more (lo := w.heap.size + 1 + 1 + 1) (hi := w1.heap.size) ?_ (by omega) (Nat.le_of_eq (by simp [World.setCell]))
    exact ((h.set (by omega) _).set (by omega) _).set (by omega) _
  · iterate 3 refine Below.setCell ?_ (by simp <;> omega) _
    exact Hb1.out
set_option maxHeartbeats 400000 in
theorem eqChunk_c (x : C) (sv : Value) (y : C) (sv' : Value) (w : World) {l1 h1 l2 h2 : Nat} (hx : RdR w l1 h1 sv x.l) (hh1 : h1 ≤ w.heap.size) (hy : RdR w l2 h2 sv' y.l) (hh2 : h2 ≤ w.heap.size) :
    Calls Try.prog 36 #[.agg #[.int .i64 x.next, sv], .agg #[.int .i64 y.next, sv']] w fun e w' => e = .returned (.bool (eqd x y)) ∧ Below w.heap.size w w' := by
  have hE : eqd x y = (x.next == y.next && eqd x.l y.l) := by
    obtain ⟨a, b⟩ := x
    obtain ⟨c, d⟩ := y
    unfold eqd
    rw [Bool.eq_iff_iff]
    simp
  have HE := Lib.hid hE
  clear hE
  have up := up_a2 w (.cells #[.int .i64 x.next, sv] 60) (.cells #[.int .i64 y.next, sv'] 60)
  have hc := Lib.hid (eqSlotS_c x.l sv y.l sv' _ (hx.below up hh1) (by simp only [World.size_alloc]; omega) (hy.below up hh2) (by simp only [World.size_alloc]; omega))
  by_cases hi : x.next = y.next
  · have hd : (x.next != y.next) = false := by simp [hi]
    have HE := Lib.hid (show eqd x y = eqd x.l y.l by rw [HE.out, hi]; simp)
    clear hi
    go_enter Try.func36, Try.ntmps36
    go_wp2_with fail
    refine hc.out.mono ?_
    rintro e w1 ⟨rfl, hb1⟩
    cases h1 : eqd x.l y.l
    · rw [h1] at HE
      go_wp2_with fail
      go_ret
      exact ⟨ret_bool HE.out.symm, below_a2 hb1⟩
    · rw [h1] at HE
      go_wp2_with fail
      go_ret
      exact ⟨ret_bool HE.out.symm, below_a2 hb1⟩
  · have hd : (x.next != y.next) = true := by simp [hi]
    have HE := Lib.hid (show eqd x y = false by rw [HE.out]; simp [hi])
    clear hi hc
    go_enter Try.func36, Try.ntmps36
    go_wp2_with fail
    go_ret
    exact ⟨ret_bool HE.out.symm, up⟩
set_option maxHeartbeats 1000000 in
theorem markChunk_c (x : C) (sv : Value) (k : Int) (w : World) {lo hi : Nat} (hown : OwnR 128 39 w lo hi sv x.l) (hhi : hi ≤ w.heap.size) (hk0 : 1 ≤ k) (hk : k + (cntR x.l : Nat) ≤ 100000000) :
    Calls Try.prog 44 #[.agg #[.int .i64 x.next, sv], .int .i64 k] w fun e w' => e = .returned (.int .i64 (k + (cntR x.l : Nat))) ∧ OwnR 128 39 w' lo hi sv (markRs k x.l) ∧ Chg lo hi w w' := by
  have up := up_a1 w (.cells #[.int .i64 x.next, sv] 60)
  have hc := Lib.hid (markSlotS_c sv x.l k _ (hown.below up hhi) hk0 hk)
  have hup := Lib.hid up
  clear up
  go_enter Try.func44, Try.ntmps44
  go_wp2_with fail
  refine hc.out.mono ?_
  rintro e w1 ⟨rfl, hown1, hc1⟩
  have H1 := Lib.hid hown1
  have H2 := Lib.hid hc1
  clear hown1 hc1
  go_wp2_with fail
  go_ret
  exact ⟨rfl, H1.out, (Chg.of_below hup.out).trans H2.out⟩
set_option maxHeartbeats 1000000 in
theorem heldChunk_c (x : C) (sv : Value) (k : Int) (w : World) {lo hi e1 e2 : Nat} (hown : OwnR e1 e2 w lo hi sv (markRs k x.l)) (hhi : hi ≤ w.heap.size) (hk0 : 1 ≤ k) (hk : k + (cntR x.l : Nat) ≤ 100000000) :
    Calls Try.prog 46 #[.agg #[.int .i64 x.next, sv], .int .i64 k] w fun e w' => e = .returned (.int .i64 (k + (cntR x.l : Nat))) ∧ Below w.heap.size w w' := by
  have up := up_a1 w (.cells #[.int .i64 x.next, sv] 60)
  have hc := Lib.hid (heldSlotS_c sv x.l k _ (hown.below up hhi) (by simp only [World.size_alloc]; omega) hk0 hk)
  have hup := Lib.hid up
  clear up
  go_enter Try.func46, Try.ntmps46
  go_wp2_with fail
  refine hc.out.mono ?_
  rintro e w1 ⟨rfl, hb1⟩
  have H2 := Lib.hid (below_a1 hb1)
  clear hb1
  go_wp2_with fail
  go_ret
  exact ⟨rfl, H2.out⟩
end Go.Proofs.Ytgjjkodlmhmjgaa
