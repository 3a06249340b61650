/- The laws' helpers for rows (and slots): sizes, equality, copies of one: contracts. -/
import Derived.Test.YtgjjkodlmhmjgaaMemR
import Derived.Test.YtgjjkodlmhmjgaaL2
import Derived.Test.YtgjjkodlmhmjgaaL3
namespace Go.Proofs.Ytgjjkodlmhmjgaa
open Go.Sort Go.ChangeShapes Go.WideShapes Go.ChangeAt Go.RowKit Go.Lb

theorem szVal_dec (x : V) (left : Int) (h : ¬ szVal x left < 0) : szVal x left ≤ left := by unfold szVal szV at *; split at h <;> first | omega | (split <;> omega)
theorem szVs_dec : ∀ (l : List V) (left : Int), ¬ szVs l left < 0 → szVs l left ≤ left
  | [], left, _ => Int.le_refl _
  | x :: r, left, h => by
    by_cases hn : szVal x left < 0
    · rw [szVs_neg hn] at h; omega
    · rw [szVs_pos hn] at h ⊢
      exact Int.le_trans (szVs_dec r _ h) (szVal_dec x left hn)
theorem szValS_dec (l : List V) (left : Int) (h : ¬ szValS l left < 0) : szValS l left ≤ left - l.length ∧ 0 ≤ szValS l left := by
  unfold szValS at *
  split at h
  · omega
  · rename_i h1
    rw [if_neg h1]
    exact ⟨szVs_dec _ _ h, by omega⟩
def szR (x : R) (left : Int) : Int := if szValS x.l left < 0 then -1 else szValS x.l left
theorem szR_le (x : R) (left : Int) (h0 : 0 ≤ left) (h : left ≤ 1048576) : szR x left ≤ 1048576 := by
  have := szValS_le x.l left h0 h
  unfold szR
  split <;> omega
theorem szR_dec (x : R) (left : Int) (h : ¬ szR x left < 0) : szR x left ≤ left - x.l.length ∧ 0 ≤ szR x left := by
  unfold szR at *
  split at h
  · omega
  · rename_i h1
    rw [if_neg h1]
    exact szValS_dec _ _ h1
def szRs : List R → Int → Int
  | [], l => l
  | v :: r, l => if szR v l < 0 then -1 else szRs r (szR v l)
theorem szRs_neg {x : R} {r : List R} {m : Int} (h : szR x m < 0) : szRs (x :: r) m = -1 := by rw [szRs, if_pos h]
theorem szRs_pos {x : R} {r : List R} {m : Int} (h : ¬ szR x m < 0) : szRs (x :: r) m = szRs r (szR x m) := by rw [szRs, if_neg h]
def szRowS (l : List R) (left : Int) : Int := if left - l.length < 0 then -1 else szRs l (left - l.length)
theorem szRs_le : ∀ (l : List R) (left : Int), 0 ≤ left → left ≤ 1048576 → szRs l left ≤ 1048576
  | [], left, _, h => h
  | x :: r, left, h0, h => by
    by_cases hn : szR x left < 0
    · rw [szRs_neg hn]; omega
    · rw [szRs_pos hn]; exact szRs_le r _ (by omega) (szR_le x left h0 h)
def lensR (l : List R) : Nat := (l.map fun r => r.l.length).sum
theorem szRs_dec : ∀ (l : List R) (left : Int), ¬ szRs l left < 0 → szRs l left ≤ left - lensR l
  | [], left, _ => by simp [szRs, lensR]
  | x :: r, left, h => by
    by_cases hn : szR x left < 0
    · rw [szRs_neg hn] at h; omega
    · rw [szRs_pos hn] at h ⊢
      have h1 := szRs_dec r _ h
      have h2 := szR_dec x left hn
      simp only [lensR, List.map_cons, List.sum_cons] at *
      omega
theorem szRowS_le (l : List R) (left : Int) (h0 : 0 ≤ left) (h : left ≤ 1048576) : szRowS l left ≤ 1048576 := by
  unfold szRowS
  split
  · omega
  · exact szRs_le _ _ (by omega) (by omega)
theorem cntR_eq (l : List R) : cntR l = l.length + 3 * lensR l := by
  induction l with
  | nil => rfl
  | cons x r ih =>
    simp only [cntR, lensR, List.map_cons, List.sum_cons, List.length_cons] at *
    omega
theorem szRowS_bd (l : List R) (left : Int) (h0 : 0 ≤ left) (h : left ≤ 1048576) : ¬ szRowS l left < 0 → l.length ≤ 1048576 ∧ cntR l ≤ 3145728 ∧ lensR l ≤ 1048576 := by
  intro hn
  have hc := cntR_eq l
  unfold szRowS at hn
  split at hn
  · omega
  · have h1 := szRs_dec _ _ hn
    omega
theorem szR_bd (x : R) (left : Int) (h0 : 0 ≤ left) (h : left ≤ 1048576) : ¬ szR x left < 0 → x.l.length ≤ 1048576 := by
  intro hn
  have := szR_dec x left hn
  omega

set_option maxHeartbeats 400000 in
theorem szRow_c (x : R) (sv : Value) (left : Int) (w : World) {lo hi : Nat} (hx : RdV w lo hi sv x.l) (hhi : hi ≤ w.heap.size) (hs : ∀ v ∈ x.l, v.s.size ≤ maxLen) (h0 : 0 ≤ left) (h1 : left ≤ 1048576) :
    Calls Try.prog 73 #[.agg #[.int .i64 x.id, sv], .int .i64 left] w fun e w' => e = .returned (.int .i64 (szR x left)) ∧ Below w.heap.size w w' := by
  have up := up_a1 w (.cells #[.int .i64 x.id, sv] 108)
  have hc := szValS_c x.l sv left _ (hx.below up hhi) (by simp only [World.size_alloc]; omega) hs h0 h1
  have H := Lib.hid (show szR x left = if szValS x.l left < 0 then -1 else szValS x.l left from rfl)
  go_enter Try.func73, Try.ntmps73
  go_wp2_with fail
  refine hc.mono ?_
  rintro e w1 ⟨rfl, hb1⟩
  have hb2 := below_a1 hb1
  generalize szValS x.l left = m at H
  by_cases hm : m < 0
  · have H := Lib.hid (H.out.trans (if_pos hm))
    go_wp2_with fail
    go_ret
    exact ⟨ret_int H.out.symm, hb2⟩
  · have H := Lib.hid (H.out.trans (if_neg hm))
    go_wp2_with fail
    go_ret
    exact ⟨ret_int H.out.symm, hb2⟩
set_option maxHeartbeats 400000 in
theorem szRowS_c (xs : List R) (x : Value) (left : Int) (w : World) {lo hi : Nat} (hx : RdR w lo hi x xs) (hhi : hi ≤ w.heap.size) (hs : RsOk xs) (h0 : 0 ≤ left) (h1 : left ≤ 1048576) :
    Calls Try.prog 15 #[x, .int .i64 left] w fun e w' => e = .returned (.int .i64 (szRowS xs left)) ∧ Below w.heap.size w w' := by
  obtain ⟨A, c, rfl, hl, hl2⟩ := hx.form
  have hs' := Lib.hid hs
  clear hs
  by_cases hlt : left - xs.length < 0
  · have H := Lib.hid (show szRowS xs left = -1 by simp [szRowS, hlt])
    go_enter Try.func15, Try.ntmps15
    go_wp2_with fail
    go_ret
    exact ⟨ret_int H.out.symm, Below.refl _ _⟩
  · have H := Lib.hid (show szRowS xs left = szRs xs (left - xs.length) by simp [szRowS, hlt])
    go_enter Try.func15, Try.ntmps15
    go_wp2_with fail
    go_loopw [5, 1] (fun i l wr => ∃ (k : Nat) (m : Int), i = .int .i64 k ∧ k ≤ xs.length ∧ l = .int .i64 m ∧ 0 ≤ m ∧ m ≤ 1048576 ∧ szRowS xs left = szRs (xs.drop k) m ∧ Below w.heap.size w wr) (fun i _ _ => xs.length - (intOf i).toNat)
    case atStart => exact ⟨0, left - xs.length, by simp, by omega, rfl, by omega, by omega, by simpa using H.out, Below.refl _ _⟩
    case round =>
      obtain ⟨k, m, rfl, hk, rfl, hm0, hm1, hsz, hb⟩ := hrel
      have Hsz := Lib.hid hsz
      clear hsz
      by_cases hkl : k < xs.length
      · obtain ⟨b, off, x, sv, rfl, -, hbl, hxk, e0, e1, hr⟩ := (hx.below hb hhi).at hkl
        have hd := Lib.hid (drop_of_get hxk)
        have hss := Lib.hid (hs'.out x (mem_of_get hxk))
        have hbs := hb.size
        clear hxk
        go_wp2_with fail
        refine (szRow_c x sv _ _ hr (by omega) hss.out hm0 hm1).mono ?_
        rintro e w1 ⟨rfl, hb1⟩
        have hsv := szR_le x m hm0 hm1
        clear e0 e1 hr
        by_cases hneg : szR x m < 0
        · have h := Lib.hid (szRs_neg (r := xs.drop (k + 1)) hneg)
          go_wp2_with fail
          go_ret
          exact ⟨ret_int (by rw [Hsz.out, hd.out, h.out]), hb.trans (hb1.mono hb.size)⟩
        · have h := Lib.hid (szRs_pos (r := xs.drop (k + 1)) hneg)
          go_wp2_with fail
          go_roundw
          case rel => exact ⟨k + 1, _, by go_num, by omega, rfl, by omega, hsv, by rw [Hsz.out, hd.out, h.out], hb.trans (hb1.mono hb.size)⟩
          case measure => simp [intOf]; omega
      · go_wp2_with fail
        go_ret
        exact ⟨ret_int (by rw [Hsz.out, List.drop_eq_nil_of_le (by omega)]; rfl), hb⟩
set_option maxHeartbeats 400000 in
theorem szSlot_c (x : R) (sv : Value) (left : Int) (w : World) {lo hi : Nat} (hx : RdV w lo hi sv x.l) (hhi : hi ≤ w.heap.size) (hs : ∀ v ∈ x.l, v.s.size ≤ maxLen) (h0 : 0 ≤ left) (h1 : left ≤ 1048576) :
    Calls Try.prog 132 #[.agg #[.int .i64 x.id, sv], .int .i64 left] w fun e w' => e = .returned (.int .i64 (szR x left)) ∧ Below w.heap.size w w' := by
  have up := up_a1 w (.cells #[.int .i64 x.id, sv] 156)
  have hc := szValS_c x.l sv left _ (hx.below up hhi) (by simp only [World.size_alloc]; omega) hs h0 h1
  have H := Lib.hid (show szR x left = if szValS x.l left < 0 then -1 else szValS x.l left from rfl)
  go_enter Try.func132, Try.ntmps132
  go_wp2_with fail
  refine hc.mono ?_
  rintro e w1 ⟨rfl, hb1⟩
  have hb2 := below_a1 hb1
  generalize szValS x.l left = m at H
  by_cases hm : m < 0
  · have H := Lib.hid (H.out.trans (if_pos hm))
    go_wp2_with fail
    go_ret
    exact ⟨ret_int H.out.symm, hb2⟩
  · have H := Lib.hid (H.out.trans (if_neg hm))
    go_wp2_with fail
    go_ret
    exact ⟨ret_int H.out.symm, hb2⟩
set_option maxHeartbeats 400000 in
theorem szSlotS_c (xs : List R) (x : Value) (left : Int) (w : World) {lo hi : Nat} (hx : RdR w lo hi x xs) (hhi : hi ≤ w.heap.size) (hs : RsOk xs) (h0 : 0 ≤ left) (h1 : left ≤ 1048576) :
    Calls Try.prog 93 #[x, .int .i64 left] w fun e w' => e = .returned (.int .i64 (szRowS xs left)) ∧ Below w.heap.size w w' := by
  obtain ⟨A, c, rfl, hl, hl2⟩ := hx.form
  have hs' := Lib.hid hs
  clear hs
  by_cases hlt : left - xs.length < 0
  · have H := Lib.hid (show szRowS xs left = -1 by simp [szRowS, hlt])
    go_enter Try.func93, Try.ntmps93
    go_wp2_with fail
    go_ret
    exact ⟨ret_int H.out.symm, Below.refl _ _⟩
  · have H := Lib.hid (show szRowS xs left = szRs xs (left - xs.length) by simp [szRowS, hlt])
    go_enter Try.func93, Try.ntmps93
    go_wp2_with fail
    go_loopw [5, 1] (fun i l wr => ∃ (k : Nat) (m : Int), i = .int .i64 k ∧ k ≤ xs.length ∧ l = .int .i64 m ∧ 0 ≤ m ∧ m ≤ 1048576 ∧ szRowS xs left = szRs (xs.drop k) m ∧ Below w.heap.size w wr) (fun i _ _ => xs.length - (intOf i).toNat)
    case atStart => exact ⟨0, left - xs.length, by simp, by omega, rfl, by omega, by omega, by simpa using H.out, Below.refl _ _⟩
    case round =>
      obtain ⟨k, m, rfl, hk, rfl, hm0, hm1, hsz, hb⟩ := hrel
      have Hsz := Lib.hid hsz
      clear hsz
      by_cases hkl : k < xs.length
      · obtain ⟨b, off, x, sv, rfl, -, hbl, hxk, e0, e1, hr⟩ := (hx.below hb hhi).at hkl
        have hd := Lib.hid (drop_of_get hxk)
        have hss := Lib.hid (hs'.out x (mem_of_get hxk))
        have hbs := hb.size
        clear hxk
        go_wp2_with fail
        refine (szSlot_c x sv _ _ hr (by omega) hss.out hm0 hm1).mono ?_
        rintro e w1 ⟨rfl, hb1⟩
        have hsv := szR_le x m hm0 hm1
        clear e0 e1 hr
        by_cases hneg : szR x m < 0
        · have h := Lib.hid (szRs_neg (r := xs.drop (k + 1)) hneg)
          go_wp2_with fail
          go_ret
          exact ⟨ret_int (by rw [Hsz.out, hd.out, h.out]), hb.trans (hb1.mono hb.size)⟩
        · have h := Lib.hid (szRs_pos (r := xs.drop (k + 1)) hneg)
          go_wp2_with fail
          go_roundw
          case rel => exact ⟨k + 1, _, by go_num, by omega, rfl, by omega, hsv, by rw [Hsz.out, hd.out, h.out], hb.trans (hb1.mono hb.size)⟩
          case measure => simp [intOf]; omega
      · go_wp2_with fail
        go_ret
        exact ⟨ret_int (by rw [Hsz.out, List.drop_eq_nil_of_le (by omega)]; rfl), hb⟩

end Go.Proofs.Ytgjjkodlmhmjgaa
