/- The laws' helpers for values: contracts. -/
import Derived.Test.YticimccfeohpcaaXA
import Derived.Test.YticimccfeohpcaaXV
namespace Go.Proofs.Yticimccfeohpcaa
open Go.ChangeShapes Go.WideShapes Go.ChangeAt Go.RowKit Go.Lb

def szV (k : Nat) (left : Int) : Int := if left - k < 0 then -1 else left - k
theorem szV_le (k : Nat) (left : Int) (h0 : 0 ≤ left) (h : left ≤ 1048576) : szV k left ≤ 1048576 := by unfold szV; split <;> omega

def szVal (x : V) (left : Int) : Int := szV x.s.size left
theorem szVal_le (x : V) (left : Int) (h0 : 0 ≤ left) (h : left ≤ 1048576) : szVal x left ≤ 1048576 := szV_le _ _ h0 h
theorem szVal_bd (x : V) (left : Int) (h0 : 0 ≤ left) (h : left ≤ 1048576) : ¬ szVal x left < 0 → x.s.size ≤ 1048576 := by unfold szVal szV; split <;> omega
theorem szVal_c (x : V) (left : Int) (w : World) (hs : x.s.size ≤ maxLen) (h0 : 0 ≤ left) (h1 : left ≤ 1048576) :
    Calls Try.prog 110 #[.agg #[.int .i64 x.ty, .int .i64 x.n, .string x.s], .int .i64 left] w fun e w' => e = .returned (.int .i64 (szVal x left)) ∧ Below w.heap.size w w' := by
  unfold maxLen at hs
  by_cases h : left - x.s.size < 0
  · have H := Lib.hid (show szVal x left = -1 by simp [szVal, szV, h])
    go_enter Try.func110, Try.ntmps110
    go_wp2
    go_ret
    exact ⟨ret_int H.out.symm, (Below.refl _ _).alloc (Nat.le_refl _) _⟩
  · have H := Lib.hid (show szVal x left = left - x.s.size by simp [szVal, szV, h])
    go_enter Try.func110, Try.ntmps110
    go_wp2
    go_ret
    exact ⟨ret_int H.out.symm, (Below.refl _ _).alloc (Nat.le_refl _) _⟩

def szVs : List V → Int → Int
  | [], l => l
  | v :: r, l => if szVal v l < 0 then -1 else szVs r (szVal v l)
theorem szVs_neg {x : V} {r : List V} {m : Int} (h : szVal x m < 0) : szVs (x :: r) m = -1 := by rw [szVs, if_pos h]
theorem szVs_pos {x : V} {r : List V} {m : Int} (h : ¬ szVal x m < 0) : szVs (x :: r) m = szVs r (szVal x m) := by rw [szVs, if_neg h]
def szValS (l : List V) (left : Int) : Int := if left - l.length < 0 then -1 else szVs l (left - l.length)
theorem szVs_le : ∀ (l : List V) (left : Int), 0 ≤ left → left ≤ 1048576 → szVs l left ≤ 1048576
  | [], left, _, h => h
  | x :: r, left, h0, h => by
    by_cases hn : szVal x left < 0
    · rw [szVs_neg hn]; omega
    · rw [szVs_pos hn]; exact szVs_le r _ (by omega) (szVal_le x left h0 h)
theorem szValS_le (l : List V) (left : Int) (h0 : 0 ≤ left) (h : left ≤ 1048576) : szValS l left ≤ 1048576 := by
  unfold szValS
  split
  · omega
  · exact szVs_le _ _ (by omega) (by omega)
theorem szValS_bd (l : List V) (left : Int) (h0 : 0 ≤ left) (h : left ≤ 1048576) : ¬ szValS l left < 0 → l.length ≤ 1048576 := by
  unfold szValS
  split <;> omega

set_option maxHeartbeats 400000 in
theorem szValS_c (xs : List V) (x : Value) (left : Int) (w : World) {lo hi : Nat} (hx : RdV w lo hi x xs) (hhi : hi ≤ w.heap.size) (hs : ∀ v ∈ xs, v.s.size ≤ maxLen) (h0 : 0 ≤ left) (h1 : left ≤ 1048576) :
    Calls Try.prog 52 #[x, .int .i64 left] w fun e w' => e = .returned (.int .i64 (szValS xs left)) ∧ Below w.heap.size w w' := by
  obtain ⟨A, c, rfl, hl, hl2⟩ := hx.form
  have hs' := Lib.hid hs
  clear hs
  by_cases hlt : left - xs.length < 0
  · have H := Lib.hid (show szValS xs left = -1 by simp [szValS, hlt])
    go_enter Try.func52, Try.ntmps52
    go_wp2_with fail
    go_ret
    exact ⟨ret_int H.out.symm, Below.refl _ _⟩
  · have H := Lib.hid (show szValS xs left = szVs xs (left - xs.length) by simp [szValS, hlt])
    go_enter Try.func52, Try.ntmps52
    go_wp2_with fail
    go_loopw [5, 1] (fun i l wr => ∃ (k : Nat) (m : Int), i = .int .i64 k ∧ k ≤ xs.length ∧ l = .int .i64 m ∧ 0 ≤ m ∧ m ≤ 1048576 ∧ szValS xs left = szVs (xs.drop k) m ∧ Below w.heap.size w wr) (fun i _ _ => xs.length - (intOf i).toNat)
    case atStart => exact ⟨0, left - xs.length, by simp, by omega, rfl, by omega, by omega, by simpa using H.out, Below.refl _ _⟩
    case round =>
      obtain ⟨k, m, rfl, hk, rfl, hm0, hm1, hsz, hb⟩ := hrel
      have Hsz := Lib.hid hsz
      clear hsz
      by_cases hkl : k < xs.length
      · obtain ⟨b, off, x, rfl, -, hbl, hxk, e0, e1, e2⟩ := (hx.below hb hhi).at hkl
        have hd := Lib.hid (drop_of_get hxk)
        have hss := hs'.out x (mem_of_get hxk)
        clear hxk
        go_wp2_with fail
        refine (szVal_c x _ _ hss hm0 hm1).mono ?_
        rintro e w1 ⟨rfl, hb1⟩
        have hsv := szVal_le x m hm0 hm1
        clear e0 e1 e2
        by_cases hneg : szVal x m < 0
        · have h := Lib.hid (szVs_neg (r := xs.drop (k + 1)) hneg)
          go_wp2_with fail
          go_ret
          exact ⟨ret_int (by rw [Hsz.out, hd.out, h.out]), hb.trans (hb1.mono hb.size)⟩
        · have h := Lib.hid (szVs_pos (r := xs.drop (k + 1)) hneg)
          go_wp2_with fail
          go_roundw
          case rel => exact ⟨k + 1, _, by go_num, by omega, rfl, by omega, hsv, by rw [Hsz.out, hd.out, h.out], hb.trans (hb1.mono hb.size)⟩
          case measure => simp [intOf]; omega
      · go_wp2_with fail
        go_ret
        exact ⟨ret_int (by rw [Hsz.out, List.drop_eq_nil_of_le (by omega)]; rfl), hb⟩

theorem toVal_c (x : V) (w : World) :
    Calls Try.prog 114 #[.agg #[.int .i64 x.ty, .int .i64 x.n, .string x.s]] w fun e w' => e = .returned (.agg #[.int .i64 x.ty, .int .i64 x.n, .string x.s]) ∧ Below w.heap.size w w' := by
  go_enter Try.func114, Try.ntmps114
  go_wp2
  refine bodyPost_ret (v := .agg #[.int .i64 x.ty, .int .i64 x.n, .string x.s]) ?_ rfl ⟨rfl, ?_⟩
  · simp [results, Try.results114, go_sem]
  · repeat (first | exact Below.refl _ _ | refine Below.alloc ?_ (by simp; try omega) _)

theorem V.eq_iff (x y : V) : eqd x y = (x.ty == y.ty && (x.n == y.n && x.s.toList == y.s.toList)) := by
  unfold eqd
  rw [Bool.eq_iff_iff]
  simp only [decide_eq_true_eq, Bool.and_eq_true, beq_iff_eq, ByteArray.toList_eq]
  obtain ⟨a, b, ⟨⟨c⟩⟩⟩ := x
  obtain ⟨a', b', ⟨⟨c'⟩⟩⟩ := y
  simp

theorem eqVal_c (x y : V) (w : World) :
    Calls Try.prog 117 #[.agg #[.int .i64 x.ty, .int .i64 x.n, .string x.s], .agg #[.int .i64 y.ty, .int .i64 y.n, .string y.s]] w fun e w' => e = .returned (.bool (eqd x y)) ∧ Below w.heap.size w w' := by
  have H := Lib.hid (V.eq_iff x y)
  go_enter Try.func117, Try.ntmps117
  go_wp2
  all_goals
    go_ret
    exact ⟨ret_bool (by rw [H.out]; simp_all [bne]), by repeat (first | exact Below.refl _ _ | refine Below.alloc ?_ (by simp) _)⟩

end Go.Proofs.Yticimccfeohpcaa
namespace Go.Proofs.Yticimccfeohpcaa
open Go.ChangeShapes Go.WideShapes Go.ChangeAt Go.RowKit Go.Lb

theorem info_val : (Try.prog.info? 66).map (fun i => (i.zero, i.size, i.bytes)) = some (some (.agg #[.int .i64 0, .int .i64 0, .string ⟨#[]⟩]), 3, 32) := by kernel_rfl

set_option maxHeartbeats 400000 in
theorem toValS_c (xs : List V) (x : Value) (w : World) {lo hi : Nat} (hx : RdV w lo hi x xs) (hhi : hi ≤ w.heap.size) (hn : xs.length ≤ 1048576) :
    Calls Try.prog 54 #[x] w fun e w' => ∃ v, e = .returned v ∧ Own 66 3 w' w.heap.size w'.heap.size v xs.length (xs.flatMap V.cells) ∧ Below w.heap.size w w' := by
  obtain ⟨A, c, rfl, hl, hl2⟩ := hx.form
  obtain ⟨i0, hi, hz0, hz1, hz2⟩ := info_parts info_val
  have hmk : ∀ W : World, _ := fun W => make_n (P := Try.prog) 45 66 i0 _ Try.underlying45 hi hz0 xs.length (by rw [hz2]; omega) (by omega) W
  rw [hz1] at hmk
  clear hz0 hz1 hz2 hi
  go_enter Try.func54, Try.ntmps54
  go_wp2_with fail
  go_loopw [4] (fun i wr => ∃ (k : Nat) (cur : Array Value), i = .int .i64 k ∧ k ≤ xs.length ∧ wr.heap[w.heap.size]? = some (.cells cur 66 (0, 0)) ∧ cur.size = xs.length * 3 ∧ cur.toList.take (k * 3) = (xs.take k).flatMap V.cells ∧ Below w.heap.size w wr) (fun i _ => xs.length - (intOf i).toNat)
  case atStart => exact ⟨0, _, by simp, by omega, heap_alloc_new w _, size_madeCells _ _, by simp, (Below.refl _ _).alloc (Nat.le_refl _) _⟩
  case round =>
    obtain ⟨k, cur, rfl, hk, hcur, hsz, htk, hb⟩ := hrel
    have Hc := Lib.hid hcur
    have Hsz := Lib.hid hsz
    have Htk := Lib.hid htk
    clear hcur hsz htk
    by_cases hkl : k < xs.length
    · obtain ⟨b, off, y, rfl, -, hbl, hyk, e0, e1, e2⟩ := (hx.below hb hhi).at hkl
      have hy := Lib.hid (take_of_get hyk)
      clear hyk
      go_wp2_with fail
      refine (toVal_c y _).mono ?_
      rintro e w1 ⟨rfl, hb1⟩
      have hg : w.heap.size < wr.heap.size := (Array.getElem?_eq_some_iff.1 Hc.out).1
      have Hc1 := Lib.hid ((hb1.block _ hg).trans Hc.out)
      clear e0 e1 e2
      have k0 := cell_of_row w1 w.heap.size (k * 3) cur _ _ Hc1.out
      have k1 := cell_of_row w1 w.heap.size (k * 3 + 1) cur _ _ Hc1.out
      have k2 := cell_of_row w1 w.heap.size (k * 3 + 2) cur _ _ Hc1.out
      have f0 := fun o => frozen_of_row w1 w.heap.size o cur _ Hc1.out
      rw [Array.getElem?_eq_getElem (by rw [Hsz.out]; omega)] at k0 k1 k2
      go_wp2_with fail
      go_roundw
      case rel =>
        refine ⟨k + 1, _, by go_num, by omega, set3 Hc1.out, by simpa using Hsz.out, ?_, ?_⟩
        · simp only [Array.toList_setIfInBounds]
          rw [show (k + 1) * 3 = k * 3 + 3 by omega, take_set3 (by rw [Array.length_toList, Hsz.out]; omega), Htk.out, hy.out, List.flatMap_append]
          simp [V.cells]
        · exact (((hb.trans (hb1.mono (Nat.le_of_lt hg))).setCell (Nat.le_refl _) _).setCell (Nat.le_refl _) _).setCell (Nat.le_refl _) _
      case measure => simp [intOf]; omega
    · go_wp2_with fail
      go_ret
      obtain rfl : k = xs.length := by omega
      refine ⟨_, rfl, .new ⟨by rw [flat_len _ 3 V.cells_len], .inr ⟨_, _, cur, rfl, Nat.le_refl _, Hc.out, Nat.le_refl _, by unfold maxLen; omega, Hsz.out, ?_⟩⟩, hb⟩
      rw [Htk.out, List.take_length]
end Go.Proofs.Yticimccfeohpcaa
namespace Go.Proofs.Yticimccfeohpcaa
open Go.ChangeShapes Go.WideShapes Go.ChangeAt Go.RowKit Go.Lb

theorem eq_of_drop {α : Type} [DecidableEq α] {xs ys : List α} {k : Nat} {x y : α} (hl : xs.length = ys.length) (ht : xs.take k = ys.take k) (hx : xs[k]? = some x) (hy : ys[k]? = some y) :
    (x = y → xs.take (k + 1) = ys.take (k + 1)) ∧ (x ≠ y → xs ≠ ys) := by
  refine ⟨fun h => ?_, fun h e => ?_⟩
  · rw [take_of_get hx, take_of_get hy, ht, h]
  · subst e
    rw [hx] at hy
    exact h (by injection hy)

theorem keep6 {w W w1 : World} {b o b' o' : Nat} {u0 u1 u2 u0' u1' u2' : Value} (hb : b < w.heap.size) (hb' : b' < w.heap.size)
    (h : (W.cell? ⟨b, o, none⟩ = some u0 ∧ W.cell? ⟨b, o + 1, none⟩ = some u1 ∧ W.cell? ⟨b, o + 2, none⟩ = some u2) ∧ (W.cell? ⟨b', o', none⟩ = some u0' ∧ W.cell? ⟨b', o' + 1, none⟩ = some u1' ∧ W.cell? ⟨b', o' + 2, none⟩ = some u2') ∧ Below w.heap.size w W) (h1 : Below W.heap.size W w1) :
    (w1.cell? ⟨b, o, none⟩ = some u0 ∧ w1.cell? ⟨b, o + 1, none⟩ = some u1 ∧ w1.cell? ⟨b, o + 2, none⟩ = some u2) ∧ (w1.cell? ⟨b', o', none⟩ = some u0' ∧ w1.cell? ⟨b', o' + 1, none⟩ = some u1' ∧ w1.cell? ⟨b', o' + 2, none⟩ = some u2') ∧ Below w.heap.size w w1 := by
  obtain ⟨⟨h2, h3, h4⟩, ⟨h5, h6, h7⟩, h8⟩ := h
  have hs := h8.size
  have k : ∀ o, w1.cell? ⟨b, o, none⟩ = W.cell? ⟨b, o, none⟩ := fun o => h1.cell (p := ⟨b, o, none⟩) (by show b < _; omega)
  have k' : ∀ o, w1.cell? ⟨b', o, none⟩ = W.cell? ⟨b', o, none⟩ := fun o => h1.cell (p := ⟨b', o, none⟩) (by show b' < _; omega)
  simp only [k, k']
  exact ⟨⟨h2, h3, h4⟩, ⟨h5, h6, h7⟩, h8.trans (h1.mono hs)⟩

set_option maxHeartbeats 1000000 in
theorem eqValS_c (xs : List V) (x : Value) (ys : List V) (y : Value) (w : World) {l1 h1 l2 h2 : Nat} (hx : RdV w l1 h1 x xs) (hh1 : h1 ≤ w.heap.size) (hy : RdV w l2 h2 y ys) (hh2 : h2 ≤ w.heap.size) :
    Calls Try.prog 57 #[x, y] w fun e w' => e = .returned (.bool (eqd xs ys)) ∧ Below w.heap.size w w' := by
  obtain ⟨A, c, rfl, hl, hl2⟩ := hx.form
  obtain ⟨A', c', rfl, hl', hl2'⟩ := hy.form
  by_cases hlen : xs.length = ys.length
  · have Hlen := Lib.hid hlen
    have hlb : ((xs.length : Int) != (ys.length : Int)) = false := by simp [hlen]
    rw [← hlen] at hl'
    clear hlen
    go_enter Try.func57, Try.ntmps57
    go_wp2_with fail
    go_loopw [5] (fun i wr => ∃ (k : Nat), i = .int .i64 k ∧ k ≤ xs.length ∧ xs.take k = ys.take k ∧ Below w.heap.size w wr) (fun i _ => xs.length - (intOf i).toNat)
    case atStart => exact ⟨0, by simp, by omega, by simp, Below.refl _ _⟩
    case round =>
      obtain ⟨k, rfl, hk, htk, hb⟩ := hrel
      have Htk := Lib.hid htk
      clear htk
      by_cases hkl : k < xs.length
      · obtain ⟨b, off, u, rfl, -, hbl, huk, e0, e1, e2⟩ := (hx.below hb hh1).at hkl
        obtain ⟨b', off', u', rfl, -, hbl', huk', e0', e1', e2'⟩ := (hy.below hb hh2).at (Hlen.out ▸ hkl)
        have Hs := Lib.hid (eq_of_drop Hlen.out Htk.out huk huk')
        have hkl' : k < ys.length := Hlen.out ▸ hkl
        clear huk huk'
        go_wp2_with fail
        go_region_held3 (fun w' => (w'.cell? ⟨b, off + k * 3, none⟩ = some (.int .i64 u.ty) ∧ w'.cell? ⟨b, off + k * 3 + 1, none⟩ = some (.int .i64 u.n) ∧ w'.cell? ⟨b, off + k * 3 + 2, none⟩ = some (.string u.s)) ∧ (w'.cell? ⟨b', off' + k * 3, none⟩ = some (.int .i64 u'.ty) ∧ w'.cell? ⟨b', off' + k * 3 + 1, none⟩ = some (.int .i64 u'.n) ∧ w'.cell? ⟨b', off' + k * 3 + 2, none⟩ = some (.string u'.s)) ∧ Below w.heap.size w w') (first | exact ⟨⟨e0, e1, e2⟩, ⟨e0', e1', e2'⟩, hb.drew⟩ | exact keep6 (Nat.lt_of_lt_of_le hbl hh1) (Nat.lt_of_lt_of_le hbl' hh2) ‹_› hb1) (first | (go_at_call 117; refine (eqVal_c u u' _).mono ?_; rintro e w1 ⟨rfl, hb1⟩))
        have hb2 : Below w.heap.size w w1 := hb.drew.trans (hb1.mono hb.size)
        clear e0 e1 e2 e0' e1' e2'
        by_cases hu : u = u'
        · have hd : eqd u u' = true := eqd_of hu
          have Hs1 := Lib.hid (Hs.out.1 hu)
          clear hu Hs
          simp only [hd, Bool.not_true]
          go_wp2_with fail
          go_roundw
          case rel => exact ⟨k + 1, by go_num, by omega, Hs1.out, hb2⟩
          case measure => simp [intOf]; omega
        · have hd : eqd u u' = false := eqd_no hu
          have H := Lib.hid (eqd_no (Hs.out.2 hu))
          clear hu Hs
          simp only [hd, Bool.not_false]
          go_wp2_with fail
          go_ret
          exact ⟨ret_bool H.out.symm, hb2⟩
      · have H := Lib.hid (show eqd xs ys = true by
          have h := Htk.out
          rw [List.take_of_length_le (by omega), List.take_of_length_le (by have := Hlen.out; omega)] at h
          exact eqd_of h)
        go_wp2_with fail
        go_ret
        exact ⟨ret_bool H.out.symm, hb⟩
  · have hlb : ((xs.length : Int) != (ys.length : Int)) = true := by simp; omega
    have H := Lib.hid (eqd_no fun h : xs = ys => hlen (by rw [h]))
    clear hlen
    go_enter Try.func57, Try.ntmps57
    go_wp2_with fail
    go_ret
    exact ⟨ret_bool H.out.symm, Below.refl _ _⟩
end Go.Proofs.Yticimccfeohpcaa
namespace Go.Proofs.Yticimccfeohpcaa
open Go.Sort Go.ChangeShapes Go.WideShapes Go.ChangeAt Go.RowKit Go.Lb

theorem szVal_dec (x : V) (left : Int) (h : ¬ szVal x left < 0) : szVal x left ≤ left := by unfold szVal szV at *; split at h <;> first | omega | (split <;> omega)
theorem szVs_dec : ∀ (l : List V) (left : Int), ¬ szVs l left < 0 → szVs l left ≤ left
  | [], left, _ => Int.le_refl _
  | x :: r, left, h => by
    by_cases hn : szVal x left < 0
    · rw [szVs_neg hn] at h; omega
    · rw [szVs_pos hn] at h ⊢
      exact Int.le_trans (szVs_dec r _ h) (szVal_dec x left hn)
theorem szValS_dec (l : List V) (left : Int) (h : ¬ szValS l left < 0) : szValS l left ≤ left - l.length ∧ 0 ≤ szValS l left := by
  unfold szValS at *
  split at h
  · omega
  · rename_i h1
    rw [if_neg h1]
    exact ⟨szVs_dec _ _ h, by omega⟩
def szR (x : R) (left : Int) : Int := if szValS x.l left < 0 then -1 else szValS x.l left
theorem szR_le (x : R) (left : Int) (h0 : 0 ≤ left) (h : left ≤ 1048576) : szR x left ≤ 1048576 := by
  have := szValS_le x.l left h0 h
  unfold szR
  split <;> omega
theorem szR_dec (x : R) (left : Int) (h : ¬ szR x left < 0) : szR x left ≤ left - x.l.length ∧ 0 ≤ szR x left := by
  unfold szR at *
  split at h
  · omega
  · rename_i h1
    rw [if_neg h1]
    exact szValS_dec _ _ h1
def szRs : List R → Int → Int
  | [], l => l
  | v :: r, l => if szR v l < 0 then -1 else szRs r (szR v l)
theorem szRs_neg {x : R} {r : List R} {m : Int} (h : szR x m < 0) : szRs (x :: r) m = -1 := by rw [szRs, if_pos h]
theorem szRs_pos {x : R} {r : List R} {m : Int} (h : ¬ szR x m < 0) : szRs (x :: r) m = szRs r (szR x m) := by rw [szRs, if_neg h]
def szRowS (l : List R) (left : Int) : Int := if left - l.length < 0 then -1 else szRs l (left - l.length)
theorem szRs_le : ∀ (l : List R) (left : Int), 0 ≤ left → left ≤ 1048576 → szRs l left ≤ 1048576
  | [], left, _, h => h
  | x :: r, left, h0, h => by
    by_cases hn : szR x left < 0
    · rw [szRs_neg hn]; omega
    · rw [szRs_pos hn]; exact szRs_le r _ (by omega) (szR_le x left h0 h)
def lensR (l : List R) : Nat := (l.map fun r => r.l.length).sum
theorem szRs_dec : ∀ (l : List R) (left : Int), ¬ szRs l left < 0 → szRs l left ≤ left - lensR l
  | [], left, _ => by simp [szRs, lensR]
  | x :: r, left, h => by
    by_cases hn : szR x left < 0
    · rw [szRs_neg hn] at h; omega
    · rw [szRs_pos hn] at h ⊢
      have h1 := szRs_dec r _ h
      have h2 := szR_dec x left hn
      simp only [lensR, List.map_cons, List.sum_cons] at *
      omega
theorem szRowS_le (l : List R) (left : Int) (h0 : 0 ≤ left) (h : left ≤ 1048576) : szRowS l left ≤ 1048576 := by
  unfold szRowS
  split
  · omega
  · exact szRs_le _ _ (by omega) (by omega)
theorem cntR_eq (l : List R) : cntR l = l.length + 3 * lensR l := by
  induction l with
  | nil => rfl
  | cons x r ih =>
    simp only [cntR, lensR, List.map_cons, List.sum_cons, List.length_cons] at *
    omega
theorem szRowS_bd (l : List R) (left : Int) (h0 : 0 ≤ left) (h : left ≤ 1048576) : ¬ szRowS l left < 0 → l.length ≤ 1048576 ∧ cntR l ≤ 3145728 ∧ lensR l ≤ 1048576 := by
  intro hn
  have hc := cntR_eq l
  unfold szRowS at hn
  split at hn
  · omega
  · have h1 := szRs_dec _ _ hn
    omega
theorem szR_bd (x : R) (left : Int) (h0 : 0 ≤ left) (h : left ≤ 1048576) : ¬ szR x left < 0 → x.l.length ≤ 1048576 := by
  intro hn
  have := szR_dec x left hn
  omega


end Go.Proofs.Yticimccfeohpcaa
namespace Go.Proofs.Yticimccfeohpcaa
open Go.Sort Go.ChangeShapes Go.WideShapes Go.ChangeAt Go.RowKit Go.Lb


end Go.Proofs.Yticimccfeohpcaa
namespace Go.Proofs.Yticimccfeohpcaa
open Go.Sort Go.ChangeShapes Go.WideShapes Go.ChangeAt Go.RowKit Go.Lb


end Go.Proofs.Yticimccfeohpcaa
namespace Go.Proofs.Yticimccfeohpcaa
open Go.ChangeShapes Go.WideShapes Go.ChangeAt Go.RowKit Go.Lb

theorem held_V : Try.prog.stoodInHeld 66 = false := by kernel_rfl
theorem guard_V : Try.prog.eqGuardType Try.prog.depth 66 = false := by kernel_rfl
theorem und_V : Try.prog.underlying 66 = some (.struct (Try.prog.fieldsOf 66)) := by kernel_rfl
theorem eqIn_V (d : Nat) (x y : V) (w : World) : (Op.equalIn (d + 2) 66 (.agg #[.int .i64 x.ty, .int .i64 x.n, .string x.s]) (.agg #[.int .i64 y.ty, .int .i64 y.n, .string y.s])).run Try.prog w = .ok (eqd x y) w := by
  rw [run_equalIn_agg w (d + 1) _ _ _ und_V held_V, V.eq_iff]
  cases h1 : x.ty == y.ty <;> cases h2 : x.n == y.n <;> cases h3 : x.s.toList == y.s.toList <;> simp [Program.fieldsOf, Try.underlying66, go_sem, h1, h2, h3]
theorem eql_V (x y : V) (w : World) : (binOp .eql 66 (.agg #[.int .i64 x.ty, .int .i64 x.n, .string x.s]) (.agg #[.int .i64 y.ty, .int .i64 y.n, .string y.s])).run Try.prog w = .ok (.bool (eqd x y)) w := by
  rw [run_eql_struct w, eqIn_V 9998]
  rfl
theorem neq_V (x y : V) (w : World) : (binOp .neq 66 (.agg #[.int .i64 x.ty, .int .i64 x.n, .string x.s]) (.agg #[.int .i64 y.ty, .int .i64 y.n, .string y.s])).run Try.prog w = .ok (.bool (!eqd x y)) w := by
  rw [run_neq_struct w, eqIn_V 9998]
  rfl
end Go.Proofs.Yticimccfeohpcaa
namespace Go.Proofs.Yticimccfeohpcaa
open Go.Sort Go.ChangeShapes Go.WideShapes Go.ChangeAt Go.RowKit Go.Lb

end Go.Proofs.Yticimccfeohpcaa
namespace Go.Proofs.Yticimccfeohpcaa
open Go.Sort Go.ChangeShapes Go.WideShapes Go.ChangeAt Go.RowKit Go.Lb

set_option maxHeartbeats 1000000 in
theorem impl_cloneVals (l : List V) (x : Value) (w : World) {lo hi : Nat} (hx : RdV w lo hi x l) (hhi : hi ≤ w.heap.size) (hn : l.length ≤ 1099511627776) :
    Calls Try.prog 147 #[x] w fun e w' => ∃ v, e = .returned v ∧ Own 66 3 w' w.heap.size w'.heap.size v l.length (l.flatMap V.cells) ∧ Below w.heap.size w w' := by
  obtain ⟨A, c, rfl, hl, hl2⟩ := hx.form
  obtain ⟨i0, hif, hz0, hz1, hz2⟩ := info_parts info_val
  have hif := Lib.hid hif
  have hz0 := Lib.hid hz0
  have hz1 := Lib.hid hz1
  have hz2 := Lib.hid hz2
  have hN := Lib.hid ((hx.below (up_a1 w (.cells #[] 66)) hhi).news)
  have own0 := World.ownsRow_made w (base := w.heap.size) (e := 66) (size := 3) #[] 0 (Nat.le_refl _) (by decide) rfl
  go_enter Try.func147, Try.ntmps147
  go_wp2_with (at_builtin; refine wpl_spread rfl _ _ 45 rfl w.heap.size 66 i0 _ 3 32 Try.underlying45 hif.out hz0.out hz1.out hz2.out rfl (by decide) (by decide) own0 rfl rfl (flat_len V.cells 3 V.cells_len l) hN.out.2.1 hN.out.2.2 (one_cells l) (by omega) (by simp) ?_)
  intro v' w1 hown hgrow _
  have hb := below_app ((Below.refl w.heap.size w).alloc (Nat.le_refl _) _) own0 hgrow (Nat.le_refl _)
  try simp only [Nat.zero_add, List.nil_append] at hown
  clear hgrow own0
  go_wp2_with fail
  go_ret
  exact ⟨_, rfl, .new hown, hb⟩
end Go.Proofs.Yticimccfeohpcaa
namespace Go.Proofs.Yticimccfeohpcaa
open Go.Sort Go.ChangeShapes Go.WideShapes Go.ChangeAt Go.RowKit Go.Lb

end Go.Proofs.Yticimccfeohpcaa
namespace Go.Proofs.Yticimccfeohpcaa
open Go.Sort Go.ChangeShapes Go.WideShapes Go.ChangeAt Go.RowKit Go.Lb

end Go.Proofs.Yticimccfeohpcaa
namespace Go.Proofs.Yticimccfeohpcaa
open Go.Sort Go.ChangeShapes Go.WideShapes Go.ChangeAt Go.RowKit Go.Lb

def hasI (l : List Int) (n : Int) : Bool := l.any fun m => m == n
def keepRow (ids : List Int) (r : R) : Bool := !hasI ids r.id
def dropRows (l : List R) (ids : List Int) : List R := l.filter (keepRow ids)
theorem hasI_yes {l : List Int} {n m : Int} {k : Nat} (h : l[k]? = some m) (he : m = n) : hasI l n = true := List.any_eq_true.2 ⟨m, mem_of_get h, by simp [he]⟩
theorem hasI_end {l : List Int} {n : Int} (h : (l.take l.length).any (fun m => m == n) = false) : hasI l n = false := by
  rw [List.take_length] at h
  exact h
theorem drop_step {l : List R} {ids : List Int} {k : Nat} {y : R} (h : l[k]? = some y) : (l.take (k + 1)).filter (keepRow ids) = (l.take k).filter (keepRow ids) ++ (if hasI ids y.id then [] else [y]) := by
  rw [take_of_get h, List.filter_append]
  congr 1
  cases hh : hasI ids y.id <;> simp [keepRow, hh]
theorem lensR_filter (l : List R) (p : R → Bool) : lensR (l.filter p) ≤ lensR l := by
  unfold lensR
  induction l with
  | nil => simp
  | cons a r ih =>
    rw [List.filter_cons]
    split
    · simp only [List.map_cons, List.sum_cons]; omega
    · simp only [List.map_cons, List.sum_cons]; omega
theorem dropRows_bd (l : List R) (ids : List Int) : cntR (dropRows l ids) ≤ cntR l := by
  rw [cntR_eq, cntR_eq]
  have h1 := lensR_filter l (keepRow ids)
  have h2 : (l.filter (keepRow ids)).length ≤ l.length := List.length_filter_le _ _
  unfold dropRows
  omega

end Go.Proofs.Yticimccfeohpcaa
namespace Go.Proofs.Yticimccfeohpcaa
open Go.Sort Go.ChangeShapes Go.WideShapes Go.ChangeAt Go.RowKit Go.Lb

set_option maxHeartbeats 1000000 in
theorem law_sameVals (xs : List V) (x y : Value) (w : World) {l1 h1 l2 h2 : Nat} (hx : RdV w l1 h1 x xs) (hh1 : h1 ≤ w.heap.size) (hy : RdV w l2 h2 y xs) (hh2 : h2 ≤ w.heap.size) :
    Calls Try.prog 46 #[x, y] w fun e w' => e = .returned (.bool true) ∧ Below w.heap.size w w' := by
  obtain ⟨A, c, rfl, hl, hl2⟩ := hx.form
  obtain ⟨A', c', rfl, hl', hl2'⟩ := hy.form
  have hgd := guard_V
  go_enter Try.func46, Try.ntmps46
  go_wp2_with fail
  go_loopw [5] (fun i wr => ∃ (k : Nat), i = .int .i64 k ∧ k ≤ xs.length ∧ Below w.heap.size w wr) (fun i _ => xs.length - (intOf i).toNat)
  case atStart => exact ⟨0, by simp, by omega, Below.refl _ _⟩
  case round =>
    obtain ⟨k, rfl, hk, hb⟩ := hrel
    by_cases hkl : k < xs.length
    · obtain ⟨b, off, u, rfl, -, hbl, huk, e0, e1, e2⟩ := (hx.below hb hh1).at hkl
      obtain ⟨b', off', u', rfl, -, hbl', huk', e0', e1', e2'⟩ := (hy.below hb hh2).at hkl
      obtain rfl : u = u' := Option.some.inj (huk.symm.trans huk')
      have hne := neq_V u u
      rw [eqd_self] at hne
      clear huk huk'
      go_wp2_with fail
      go_region
      go_wp2_with fail
      go_roundw
      case rel => exact ⟨k + 1, by go_num, by omega, hb.drew⟩
      case measure => simp [intOf]; omega
    · go_wp2_with fail
      go_ret
      exact ⟨rfl, hb⟩
theorem q_laws_in (l : List Int) (x : Value) (n : Int) (w : World) {lo hi : Nat} (hx : RdI w lo hi x l) (_hhi : hi ≤ w.heap.size) :
    Calls Try.prog 47 #[x, .int .i64 n] w fun e w' => e = .returned (.bool (hasI l n)) ∧ w = w' := by
  obtain ⟨A, c, rfl, hl, hl2⟩ := hx.form
  go_enter Try.func47, Try.ntmps47
  go_wp2_with fail
  go_loop [5] (fun i => ∃ k : Nat, i = .int .i64 k ∧ k ≤ l.length ∧ (l.take k).any (fun m => m == n) = false) (fun i => l.length - (intOf i).toNat)
  case atStart => exact ⟨0, rfl, by omega, by simp⟩
  case round =>
    obtain ⟨k, rfl, hk, hall⟩ := hrel
    have Hall := Lib.hid hall
    clear hall
    by_cases hkl : k < l.length
    · obtain ⟨b, off, y, rfl, -, hbl, hyk, e0⟩ := hx.at hkl
      by_cases he : y = n
      · have hd : (y == n) = true := by simp [he]
        have H := Lib.hid (hasI_yes hyk he)
        clear hyk he
        go_wp2_with fail
        go_ret
        exact ⟨ret_bool H.out.symm, rfl⟩
      · have hd : (y == n) = false := by simp [he]
        have Ht := Lib.hid (show (l.take (k + 1)).any (fun m => m == n) = false by rw [take_of_get hyk, List.any_append, Hall.out]; simp [he])
        clear hyk he
        go_wp2_with fail
        go_round
        case rel => exact ⟨k + 1, by go_num, by omega, Ht.out⟩
        case measure => simp [intOf]; omega
    · have H := Lib.hid (hasI_end (l := l) (n := n) (by have h := Hall.out; rwa [show k = l.length by omega] at h))
      go_wp2_with fail
      go_ret
      exact ⟨ret_bool H.out.symm, rfl⟩
end Go.Proofs.Yticimccfeohpcaa
namespace Go.Proofs.Yticimccfeohpcaa
open Go.ChangeShapes Go.WideShapes Go.ChangeAt Go.RowKit Go.Lb
set_option maxHeartbeats 1000000 in
theorem law_sameInts (xs : List Int) (x : Value) (ys : List Int) (y : Value) (w : World) {l1 h1 l2 h2 : Nat} (hx : RdI w l1 h1 x xs) (hh1 : h1 ≤ w.heap.size) (hy : RdI w l2 h2 y ys) (hh2 : h2 ≤ w.heap.size) :
    Calls Try.prog 19 #[x, y] w fun e w' => e = .returned (.bool (eqd xs ys)) ∧ Below w.heap.size w w' := by
  obtain ⟨A, c, rfl, hl, hl2⟩ := hx.form
  obtain ⟨A', c', rfl, hl', hl2'⟩ := hy.form
  by_cases hlen : xs.length = ys.length
  · have Hlen := Lib.hid hlen
    have hlb : ((xs.length : Int) != (ys.length : Int)) = false := by simp [hlen]
    rw [← hlen] at hl'
    clear hlen
    go_enter Try.func19, Try.ntmps19
    go_wp2_with fail
    go_loopw [5] (fun i wr => ∃ (k : Nat), i = .int .i64 k ∧ k ≤ xs.length ∧ xs.take k = ys.take k ∧ Below w.heap.size w wr) (fun i _ => xs.length - (intOf i).toNat)
    case atStart => exact ⟨0, by simp, by omega, by simp, Below.refl _ _⟩
    case round =>
      obtain ⟨k, rfl, hk, htk, hb⟩ := hrel
      have Htk := Lib.hid htk
      clear htk
      by_cases hkl : k < xs.length
      · obtain ⟨b, off, u, rfl, -, hbl, huk, e0⟩ := (hx.below hb hh1).at hkl
        obtain ⟨b', off', u', rfl, -, hbl', huk', e0'⟩ := (hy.below hb hh2).at (Hlen.out ▸ hkl)
        have Hs := Lib.hid (eq_of_drop Hlen.out Htk.out huk huk')
        have hkl' : k < ys.length := Hlen.out ▸ hkl
        clear huk huk'
        by_cases hu : u = u'
        · have hd : (u != u') = false := by simp [hu]
          have Hs1 := Lib.hid (Hs.out.1 hu)
          clear hu Hs
          go_wp2_with fail
          have q_0 := cell_regrown (w := wr) e0
          have q_1 := cell_regrown (w := wr) e0'
          refine wp_region_quiet_below (by kernel_rfl) (by kernel_rfl) ?_
          repeat (go_big_quiet_step (fail))
          refine wpQuiet_nil ?_
          intro wq hw'
          obtain ⟨⟨dq, osq⟩, hw''⟩ := hw'
          have hbq := below_regrown wr dq osq
          rw [← hw''] at hbq
          clear hw''
          clear q_0 q_1
          go_wp2_with fail
          go_roundw
          case rel => exact ⟨k + 1, by go_num, by omega, Hs1.out, hb.trans (hbq.mono hb.size)⟩
          case measure => simp [intOf]; omega
        · have hd : (u != u') = true := by simp [hu]
          have H := Lib.hid (eqd_no (Hs.out.2 hu))
          clear hu Hs
          go_wp2_with fail
          have q_0 := cell_regrown (w := wr) e0
          have q_1 := cell_regrown (w := wr) e0'
          refine wp_region_quiet_below (by kernel_rfl) (by kernel_rfl) ?_
          repeat (go_big_quiet_step (fail))
          refine wpQuiet_nil ?_
          intro wq hw'
          obtain ⟨⟨dq, osq⟩, hw''⟩ := hw'
          have hbq := below_regrown wr dq osq
          rw [← hw''] at hbq
          clear hw''
          clear q_0 q_1
          go_wp2_with fail
          go_ret
          exact ⟨ret_bool H.out.symm, hb.trans (hbq.mono hb.size)⟩
      · have H := Lib.hid (show eqd xs ys = true by
          have h := Htk.out
          rw [List.take_of_length_le (by omega), List.take_of_length_le (by have := Hlen.out; omega)] at h
          exact eqd_of h)
        go_wp2_with fail
        go_ret
        exact ⟨ret_bool H.out.symm, hb⟩
  · have hlb : ((xs.length : Int) != (ys.length : Int)) = true := by simp; omega
    have H := Lib.hid (eqd_no fun h : xs = ys => hlen (by rw [h]))
    clear hlen
    go_enter Try.func19, Try.ntmps19
    go_wp2_with fail
    go_ret
    exact ⟨ret_bool H.out.symm, Below.refl _ _⟩
set_option maxHeartbeats 1000000 in
theorem law_same (xs : List UInt8) (x : Value) (ys : List UInt8) (y : Value) (w : World) {l1 h1 l2 h2 : Nat} (hx : RdB w l1 h1 x xs) (hh1 : h1 ≤ w.heap.size) (hy : RdB w l2 h2 y ys) (hh2 : h2 ≤ w.heap.size) :
    Calls Try.prog 26 #[x, y] w fun e w' => e = .returned (.bool (eqd xs ys)) ∧ Below w.heap.size w w' := by
  obtain ⟨A, c, rfl, hl, hl2⟩ := hx.form
  obtain ⟨A', c', rfl, hl', hl2'⟩ := hy.form
  by_cases hlen : xs.length = ys.length
  · have Hlen := Lib.hid hlen
    have hlb : ((xs.length : Int) != (ys.length : Int)) = false := by simp [hlen]
    rw [← hlen] at hl'
    clear hlen
    go_enter Try.func26, Try.ntmps26
    go_wp2_with fail
    go_loopw [5] (fun i wr => ∃ (k : Nat), i = .int .i64 k ∧ k ≤ xs.length ∧ xs.take k = ys.take k ∧ Below w.heap.size w wr) (fun i _ => xs.length - (intOf i).toNat)
    case atStart => exact ⟨0, by simp, by omega, by simp, Below.refl _ _⟩
    case round =>
      obtain ⟨k, rfl, hk, htk, hb⟩ := hrel
      have Htk := Lib.hid htk
      clear htk
      by_cases hkl : k < xs.length
      · obtain ⟨b, off, u, rfl, -, hbl, huk, e0⟩ := (hx.below hb hh1).at hkl
        obtain ⟨b', off', u', rfl, -, hbl', huk', e0'⟩ := (hy.below hb hh2).at (Hlen.out ▸ hkl)
        have Hs := Lib.hid (eq_of_drop Hlen.out Htk.out huk huk')
        have hkl' : k < ys.length := Hlen.out ▸ hkl
        clear huk huk'
        by_cases hu : u = u'
        · have hd : ((u.toNat : Int) != (u'.toNat : Int)) = false := by simp [hu]
          have Hs1 := Lib.hid (Hs.out.1 hu)
          clear hu Hs
          go_wp2_with fail
          have q_0 := cell_regrown (w := wr) e0
          have q_1 := cell_regrown (w := wr) e0'
          refine wp_region_quiet_below (by kernel_rfl) (by kernel_rfl) ?_
          repeat (go_big_quiet_step (fail))
          refine wpQuiet_nil ?_
          intro wq hw'
          obtain ⟨⟨dq, osq⟩, hw''⟩ := hw'
          have hbq := below_regrown wr dq osq
          rw [← hw''] at hbq
          clear hw''
          clear q_0 q_1
          go_wp2_with fail
          go_roundw
          case rel => exact ⟨k + 1, by go_num, by omega, Hs1.out, hb.trans (hbq.mono hb.size)⟩
          case measure => simp [intOf]; omega
        · have hd : ((u.toNat : Int) != (u'.toNat : Int)) = true := by simp only [bne_iff_ne, ne_eq]; intro e; exact hu (UInt8.toNat_inj.1 (by omega))
          have H := Lib.hid (eqd_no (Hs.out.2 hu))
          clear hu Hs
          go_wp2_with fail
          have q_0 := cell_regrown (w := wr) e0
          have q_1 := cell_regrown (w := wr) e0'
          refine wp_region_quiet_below (by kernel_rfl) (by kernel_rfl) ?_
          repeat (go_big_quiet_step (fail))
          refine wpQuiet_nil ?_
          intro wq hw'
          obtain ⟨⟨dq, osq⟩, hw''⟩ := hw'
          have hbq := below_regrown wr dq osq
          rw [← hw''] at hbq
          clear hw''
          clear q_0 q_1
          go_wp2_with fail
          go_ret
          exact ⟨ret_bool H.out.symm, hb.trans (hbq.mono hb.size)⟩
      · have H := Lib.hid (show eqd xs ys = true by
          have h := Htk.out
          rw [List.take_of_length_le (by omega), List.take_of_length_le (by have := Hlen.out; omega)] at h
          exact eqd_of h)
        go_wp2_with fail
        go_ret
        exact ⟨ret_bool H.out.symm, hb⟩
  · have hlb : ((xs.length : Int) != (ys.length : Int)) = true := by simp; omega
    have H := Lib.hid (eqd_no fun h : xs = ys => hlen (by rw [h]))
    clear hlen
    go_enter Try.func26, Try.ntmps26
    go_wp2_with fail
    go_ret
    exact ⟨ret_bool H.out.symm, Below.refl _ _⟩
end Go.Proofs.Yticimccfeohpcaa
namespace Go.Proofs.Yticimccfeohpcaa
open Go.ChangeShapes Go.WideShapes Go.ChangeAt Go.RowKit Go.Lb

theorem law_big (code : List UInt8) (x : Value) (w : World) {lo hi : Nat} (hx : RdB w lo hi x code) :
    Calls Try.prog 12 #[x] w fun e w' => e = .returned (.bool (decide (1048576 < (code.length : Int)))) ∧ w = w' := by
  obtain ⟨A, c, rfl, hl, hl2⟩ := hx.form
  clear hx
  go_enter Try.func12, Try.ntmps12
  go_wp2_with fail
  go_ret
  exact ⟨rfl, rfl⟩
end Go.Proofs.Yticimccfeohpcaa
