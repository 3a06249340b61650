/- The laws' helpers for values: contracts. -/
import Derived.Test.YtmnmnofjeoanjaaDoorXA
import Derived.Test.YtmnmnofjeoanjaaDoorXV
namespace Go.Proofs.YtmnmnofjeoanjaaDoor
open Go.ChangeShapes Go.WideShapes Go.ChangeAt Go.RowKit Go.Lb

def szV (k : Nat) (left : Int) : Int := if left - k < 0 then -1 else left - k
theorem szV_le (k : Nat) (left : Int) (h0 : 0 ≤ left) (h : left ≤ 1048576) : szV k left ≤ 1048576 := by unfold szV; split <;> omega

def szVal (x : V) (left : Int) : Int := szV x.s.size left
theorem szVal_le (x : V) (left : Int) (h0 : 0 ≤ left) (h : left ≤ 1048576) : szVal x left ≤ 1048576 := szV_le _ _ h0 h
theorem szVal_bd (x : V) (left : Int) (h0 : 0 ≤ left) (h : left ≤ 1048576) : ¬ szVal x left < 0 → x.s.size ≤ 1048576 := by unfold szVal szV; split <;> omega
theorem szVal_c (x : V) (left : Int) (w : World) (hs : x.s.size ≤ maxLen) (h0 : 0 ≤ left) (h1 : left ≤ 1048576) :
    Calls Tryd.prog 39 #[.agg #[.int .i64 x.ty, .int .i64 x.n, .string x.s], .int .i64 left] w fun e w' => e = .returned (.int .i64 (szVal x left)) ∧ Below w.heap.size w w' := by
  unfold maxLen at hs
  by_cases h : left - x.s.size < 0
  · have H := Lib.hid (show szVal x left = -1 by simp [szVal, szV, h])
    go_enter Tryd.func39, Tryd.ntmps39
    go_wp2
    go_ret
    exact ⟨ret_int H.out.symm, (Below.refl _ _).alloc (Nat.le_refl _) _⟩
  · have H := Lib.hid (show szVal x left = left - x.s.size by simp [szVal, szV, h])
    go_enter Tryd.func39, Tryd.ntmps39
    go_wp2
    go_ret
    exact ⟨ret_int H.out.symm, (Below.refl _ _).alloc (Nat.le_refl _) _⟩

def szVs : List V → Int → Int
  | [], l => l
  | v :: r, l => if szVal v l < 0 then -1 else szVs r (szVal v l)
theorem szVs_neg {x : V} {r : List V} {m : Int} (h : szVal x m < 0) : szVs (x :: r) m = -1 := by rw [szVs, if_pos h]
theorem szVs_pos {x : V} {r : List V} {m : Int} (h : ¬ szVal x m < 0) : szVs (x :: r) m = szVs r (szVal x m) := by rw [szVs, if_neg h]
def szValS (l : List V) (left : Int) : Int := if left - l.length < 0 then -1 else szVs l (left - l.length)
theorem szVs_le : ∀ (l : List V) (left : Int), 0 ≤ left → left ≤ 1048576 → szVs l left ≤ 1048576
  | [], left, _, h => h
  | x :: r, left, h0, h => by
    by_cases hn : szVal x left < 0
    · rw [szVs_neg hn]; omega
    · rw [szVs_pos hn]; exact szVs_le r _ (by omega) (szVal_le x left h0 h)
theorem szValS_le (l : List V) (left : Int) (h0 : 0 ≤ left) (h : left ≤ 1048576) : szValS l left ≤ 1048576 := by
  unfold szValS
  split
  · omega
  · exact szVs_le _ _ (by omega) (by omega)
theorem szValS_bd (l : List V) (left : Int) (h0 : 0 ≤ left) (h : left ≤ 1048576) : ¬ szValS l left < 0 → l.length ≤ 1048576 := by
  unfold szValS
  split <;> omega

set_option maxHeartbeats 400000 in
theorem szValS_c (xs : List V) (x : Value) (left : Int) (w : World) {lo hi : Nat} (hx : RdV w lo hi x xs) (hhi : hi ≤ w.heap.size) (hs : ∀ v ∈ xs, v.s.size ≤ maxLen) (h0 : 0 ≤ left) (h1 : left ≤ 1048576) :
    Calls Tryd.prog 82 #[x, .int .i64 left] w fun e w' => e = .returned (.int .i64 (szValS xs left)) ∧ Below w.heap.size w w' := by
  obtain ⟨A, c, rfl, hl, hl2⟩ := hx.form
  have hs' := Lib.hid hs
  clear hs
  by_cases hlt : left - xs.length < 0
  · have H := Lib.hid (show szValS xs left = -1 by simp [szValS, hlt])
    go_enter Tryd.func82, Tryd.ntmps82
    go_wp2_with fail
    go_ret
    exact ⟨ret_int H.out.symm, Below.refl _ _⟩
  · have H := Lib.hid (show szValS xs left = szVs xs (left - xs.length) by simp [szValS, hlt])
    go_enter Tryd.func82, Tryd.ntmps82
    go_wp2_with fail
    go_loopw [5, 1] (fun i l wr => ∃ (k : Nat) (m : Int), i = .int .i64 k ∧ k ≤ xs.length ∧ l = .int .i64 m ∧ 0 ≤ m ∧ m ≤ 1048576 ∧ szValS xs left = szVs (xs.drop k) m ∧ Below w.heap.size w wr) (fun i _ _ => xs.length - (intOf i).toNat)
    case atStart => exact ⟨0, left - xs.length, by simp, by omega, rfl, by omega, by omega, by simpa using H.out, Below.refl _ _⟩
    case round =>
      obtain ⟨k, m, rfl, hk, rfl, hm0, hm1, hsz, hb⟩ := hrel
      have Hsz := Lib.hid hsz
      clear hsz
      by_cases hkl : k < xs.length
      · obtain ⟨b, off, x, rfl, -, hbl, hxk, e0, e1, e2⟩ := (hx.below hb hhi).at hkl
        have hd := Lib.hid (drop_of_get hxk)
        have hss := hs'.out x (mem_of_get hxk)
        clear hxk
        go_wp2_with fail
        refine (szVal_c x _ _ hss hm0 hm1).mono ?_
        rintro e w1 ⟨rfl, hb1⟩
        have hsv := szVal_le x m hm0 hm1
        clear e0 e1 e2
        by_cases hneg : szVal x m < 0
        · have h := Lib.hid (szVs_neg (r := xs.drop (k + 1)) hneg)
          go_wp2_with fail
          go_ret
          exact ⟨ret_int (by rw [Hsz.out, hd.out, h.out]), hb.trans (hb1.mono hb.size)⟩
        · have h := Lib.hid (szVs_pos (r := xs.drop (k + 1)) hneg)
          go_wp2_with fail
          go_roundw
          case rel => exact ⟨k + 1, _, by go_num, by omega, rfl, by omega, hsv, by rw [Hsz.out, hd.out, h.out], hb.trans (hb1.mono hb.size)⟩
          case measure => simp [intOf]; omega
      · go_wp2_with fail
        go_ret
        exact ⟨ret_int (by rw [Hsz.out, List.drop_eq_nil_of_le (by omega)]; rfl), hb⟩

theorem toVal_c (x : V) (w : World) :
    Calls Tryd.prog 44 #[.agg #[.int .i64 x.ty, .int .i64 x.n, .string x.s]] w fun e w' => e = .returned (.agg #[.int .i64 x.ty, .int .i64 x.n, .string x.s]) ∧ Below w.heap.size w w' := by
  go_enter Tryd.func44, Tryd.ntmps44
  go_wp2
  refine bodyPost_ret (v := .agg #[.int .i64 x.ty, .int .i64 x.n, .string x.s]) ?_ rfl ⟨rfl, ?_⟩
  · simp [results, Tryd.results44, go_sem]
  · repeat (first | exact Below.refl _ _ | refine Below.alloc ?_ (by simp; try omega) _)

theorem V.eq_iff (x y : V) : eqd x y = (x.ty == y.ty && (x.n == y.n && x.s.toList == y.s.toList)) := by
  unfold eqd
  rw [Bool.eq_iff_iff]
  simp only [decide_eq_true_eq, Bool.and_eq_true, beq_iff_eq, ByteArray.toList_eq]
  obtain ⟨a, b, ⟨⟨c⟩⟩⟩ := x
  obtain ⟨a', b', ⟨⟨c'⟩⟩⟩ := y
  simp

theorem eqVal_c (x y : V) (w : World) :
    Calls Tryd.prog 50 #[.agg #[.int .i64 x.ty, .int .i64 x.n, .string x.s], .agg #[.int .i64 y.ty, .int .i64 y.n, .string y.s]] w fun e w' => e = .returned (.bool (eqd x y)) ∧ Below w.heap.size w w' := by
  have H := Lib.hid (V.eq_iff x y)
  go_enter Tryd.func50, Tryd.ntmps50
  go_wp2
  all_goals
    go_ret
    exact ⟨ret_bool (by rw [H.out]; simp_all [bne]), by repeat (first | exact Below.refl _ _ | refine Below.alloc ?_ (by simp) _)⟩

end Go.Proofs.YtmnmnofjeoanjaaDoor
namespace Go.Proofs.YtmnmnofjeoanjaaDoor
open Go.ChangeShapes Go.WideShapes Go.ChangeAt Go.RowKit Go.Lb

theorem info_val : (Tryd.prog.info? 31).map (fun i => (i.zero, i.size, i.bytes)) = some (some (.agg #[.int .i64 0, .int .i64 0, .string ⟨#[]⟩]), 3, 32) := by kernel_rfl

set_option maxHeartbeats 400000 in
theorem toValS_c (xs : List V) (x : Value) (w : World) {lo hi : Nat} (hx : RdV w lo hi x xs) (hhi : hi ≤ w.heap.size) (hn : xs.length ≤ 1048576) :
    Calls Tryd.prog 83 #[x] w fun e w' => ∃ v, e = .returned v ∧ Own 31 3 w' w.heap.size w'.heap.size v xs.length (xs.flatMap V.cells) ∧ Below w.heap.size w w' := by
  obtain ⟨A, c, rfl, hl, hl2⟩ := hx.form
  obtain ⟨i0, hi, hz0, hz1, hz2⟩ := info_parts info_val
  have hmk : ∀ W : World, _ := fun W => make_n (P := Tryd.prog) 81 31 i0 _ Tryd.underlying81 hi hz0 xs.length (by rw [hz2]; omega) (by omega) W
  rw [hz1] at hmk
  clear hz0 hz1 hz2 hi
  go_enter Tryd.func83, Tryd.ntmps83
  go_wp2_with fail
  go_loopw [4] (fun i wr => ∃ (k : Nat) (cur : Array Value), i = .int .i64 k ∧ k ≤ xs.length ∧ wr.heap[w.heap.size]? = some (.cells cur 31 (0, 0)) ∧ cur.size = xs.length * 3 ∧ cur.toList.take (k * 3) = (xs.take k).flatMap V.cells ∧ Below w.heap.size w wr) (fun i _ => xs.length - (intOf i).toNat)
  case atStart => exact ⟨0, _, by simp, by omega, heap_alloc_new w _, size_madeCells _ _, by simp, (Below.refl _ _).alloc (Nat.le_refl _) _⟩
  case round =>
    obtain ⟨k, cur, rfl, hk, hcur, hsz, htk, hb⟩ := hrel
    have Hc := Lib.hid hcur
    have Hsz := Lib.hid hsz
    have Htk := Lib.hid htk
    clear hcur hsz htk
    by_cases hkl : k < xs.length
    · obtain ⟨b, off, y, rfl, -, hbl, hyk, e0, e1, e2⟩ := (hx.below hb hhi).at hkl
      have hy := Lib.hid (take_of_get hyk)
      clear hyk
      go_wp2_with fail
      refine (toVal_c y _).mono ?_
      rintro e w1 ⟨rfl, hb1⟩
      have hg : w.heap.size < wr.heap.size := (Array.getElem?_eq_some_iff.1 Hc.out).1
      have Hc1 := Lib.hid ((hb1.block _ hg).trans Hc.out)
      clear e0 e1 e2
      have k0 := cell_of_row w1 w.heap.size (k * 3) cur _ _ Hc1.out
      have k1 := cell_of_row w1 w.heap.size (k * 3 + 1) cur _ _ Hc1.out
      have k2 := cell_of_row w1 w.heap.size (k * 3 + 2) cur _ _ Hc1.out
      have f0 := fun o => frozen_of_row w1 w.heap.size o cur _ Hc1.out
      rw [Array.getElem?_eq_getElem (by rw [Hsz.out]; omega)] at k0 k1 k2
      go_wp2_with fail
      go_roundw
      case rel =>
        refine ⟨k + 1, _, by go_num, by omega, set3 Hc1.out, by simpa using Hsz.out, ?_, ?_⟩
        · simp only [Array.toList_setIfInBounds]
          rw [show (k + 1) * 3 = k * 3 + 3 by omega, take_set3 (by rw [Array.length_toList, Hsz.out]; omega), Htk.out, hy.out, List.flatMap_append]
          simp [V.cells]
        · exact (((hb.trans (hb1.mono (Nat.le_of_lt hg))).setCell (Nat.le_refl _) _).setCell (Nat.le_refl _) _).setCell (Nat.le_refl _) _
      case measure => simp [intOf]; omega
    · go_wp2_with fail
      go_ret
      obtain rfl : k = xs.length := by omega
      refine ⟨_, rfl, .new ⟨by rw [flat_len _ 3 V.cells_len], .inr ⟨_, _, cur, rfl, Nat.le_refl _, Hc.out, Nat.le_refl _, by unfold maxLen; omega, Hsz.out, ?_⟩⟩, hb⟩
      rw [Htk.out, List.take_length]
end Go.Proofs.YtmnmnofjeoanjaaDoor
namespace Go.Proofs.YtmnmnofjeoanjaaDoor
open Go.ChangeShapes Go.WideShapes Go.ChangeAt Go.RowKit Go.Lb

theorem eq_of_drop {α : Type} [DecidableEq α] {xs ys : List α} {k : Nat} {x y : α} (hl : xs.length = ys.length) (ht : xs.take k = ys.take k) (hx : xs[k]? = some x) (hy : ys[k]? = some y) :
    (x = y → xs.take (k + 1) = ys.take (k + 1)) ∧ (x ≠ y → xs ≠ ys) := by
  refine ⟨fun h => ?_, fun h e => ?_⟩
  · rw [take_of_get hx, take_of_get hy, ht, h]
  · subst e
    rw [hx] at hy
    exact h (by injection hy)

theorem keep6 {w W w1 : World} {b o b' o' : Nat} {u0 u1 u2 u0' u1' u2' : Value} (hb : b < w.heap.size) (hb' : b' < w.heap.size)
    (h : (W.cell? ⟨b, o, none⟩ = some u0 ∧ W.cell? ⟨b, o + 1, none⟩ = some u1 ∧ W.cell? ⟨b, o + 2, none⟩ = some u2) ∧ (W.cell? ⟨b', o', none⟩ = some u0' ∧ W.cell? ⟨b', o' + 1, none⟩ = some u1' ∧ W.cell? ⟨b', o' + 2, none⟩ = some u2') ∧ Below w.heap.size w W) (h1 : Below W.heap.size W w1) :
    (w1.cell? ⟨b, o, none⟩ = some u0 ∧ w1.cell? ⟨b, o + 1, none⟩ = some u1 ∧ w1.cell? ⟨b, o + 2, none⟩ = some u2) ∧ (w1.cell? ⟨b', o', none⟩ = some u0' ∧ w1.cell? ⟨b', o' + 1, none⟩ = some u1' ∧ w1.cell? ⟨b', o' + 2, none⟩ = some u2') ∧ Below w.heap.size w w1 := by
  obtain ⟨⟨h2, h3, h4⟩, ⟨h5, h6, h7⟩, h8⟩ := h
  have hs := h8.size
  have k : ∀ o, w1.cell? ⟨b, o, none⟩ = W.cell? ⟨b, o, none⟩ := fun o => h1.cell (p := ⟨b, o, none⟩) (by show b < _; omega)
  have k' : ∀ o, w1.cell? ⟨b', o, none⟩ = W.cell? ⟨b', o, none⟩ := fun o => h1.cell (p := ⟨b', o, none⟩) (by show b' < _; omega)
  simp only [k, k']
  exact ⟨⟨h2, h3, h4⟩, ⟨h5, h6, h7⟩, h8.trans (h1.mono hs)⟩

set_option maxHeartbeats 1000000 in
theorem eqValS_c (xs : List V) (x : Value) (ys : List V) (y : Value) (w : World) {l1 h1 l2 h2 : Nat} (hx : RdV w l1 h1 x xs) (hh1 : h1 ≤ w.heap.size) (hy : RdV w l2 h2 y ys) (hh2 : h2 ≤ w.heap.size) :
    Calls Tryd.prog 84 #[x, y] w fun e w' => e = .returned (.bool (eqd xs ys)) ∧ Below w.heap.size w w' := by
  obtain ⟨A, c, rfl, hl, hl2⟩ := hx.form
  obtain ⟨A', c', rfl, hl', hl2'⟩ := hy.form
  by_cases hlen : xs.length = ys.length
  · have Hlen := Lib.hid hlen
    have hlb : ((xs.length : Int) != (ys.length : Int)) = false := by simp [hlen]
    rw [← hlen] at hl'
    clear hlen
    go_enter Tryd.func84, Tryd.ntmps84
    go_wp2_with fail
    go_loopw [5] (fun i wr => ∃ (k : Nat), i = .int .i64 k ∧ k ≤ xs.length ∧ xs.take k = ys.take k ∧ Below w.heap.size w wr) (fun i _ => xs.length - (intOf i).toNat)
    case atStart => exact ⟨0, by simp, by omega, by simp, Below.refl _ _⟩
    case round =>
      obtain ⟨k, rfl, hk, htk, hb⟩ := hrel
      have Htk := Lib.hid htk
      clear htk
      by_cases hkl : k < xs.length
      · obtain ⟨b, off, u, rfl, -, hbl, huk, e0, e1, e2⟩ := (hx.below hb hh1).at hkl
        obtain ⟨b', off', u', rfl, -, hbl', huk', e0', e1', e2'⟩ := (hy.below hb hh2).at (Hlen.out ▸ hkl)
        have Hs := Lib.hid (eq_of_drop Hlen.out Htk.out huk huk')
        have hkl' : k < ys.length := Hlen.out ▸ hkl
        clear huk huk'
        go_wp2_with fail
        go_region_held3 (fun w' => (w'.cell? ⟨b, off + k * 3, none⟩ = some (.int .i64 u.ty) ∧ w'.cell? ⟨b, off + k * 3 + 1, none⟩ = some (.int .i64 u.n) ∧ w'.cell? ⟨b, off + k * 3 + 2, none⟩ = some (.string u.s)) ∧ (w'.cell? ⟨b', off' + k * 3, none⟩ = some (.int .i64 u'.ty) ∧ w'.cell? ⟨b', off' + k * 3 + 1, none⟩ = some (.int .i64 u'.n) ∧ w'.cell? ⟨b', off' + k * 3 + 2, none⟩ = some (.string u'.s)) ∧ Below w.heap.size w w') (first | exact ⟨⟨e0, e1, e2⟩, ⟨e0', e1', e2'⟩, hb.drew⟩ | exact keep6 (Nat.lt_of_lt_of_le hbl hh1) (Nat.lt_of_lt_of_le hbl' hh2) ‹_› hb1) (first | (go_at_call 50; refine (eqVal_c u u' _).mono ?_; rintro e w1 ⟨rfl, hb1⟩))
        have hb2 : Below w.heap.size w w1 := hb.drew.trans (hb1.mono hb.size)
        clear e0 e1 e2 e0' e1' e2'
        by_cases hu : u = u'
        · have hd : eqd u u' = true := eqd_of hu
          have Hs1 := Lib.hid (Hs.out.1 hu)
          clear hu Hs
          simp only [hd, Bool.not_true]
          go_wp2_with fail
          go_roundw
          case rel => exact ⟨k + 1, by go_num, by omega, Hs1.out, hb2⟩
          case measure => simp [intOf]; omega
        · have hd : eqd u u' = false := eqd_no hu
          have H := Lib.hid (eqd_no (Hs.out.2 hu))
          clear hu Hs
          simp only [hd, Bool.not_false]
          go_wp2_with fail
          go_ret
          exact ⟨ret_bool H.out.symm, hb2⟩
      · have H := Lib.hid (show eqd xs ys = true by
          have h := Htk.out
          rw [List.take_of_length_le (by omega), List.take_of_length_le (by have := Hlen.out; omega)] at h
          exact eqd_of h)
        go_wp2_with fail
        go_ret
        exact ⟨ret_bool H.out.symm, hb⟩
  · have hlb : ((xs.length : Int) != (ys.length : Int)) = true := by simp; omega
    have H := Lib.hid (eqd_no fun h : xs = ys => hlen (by rw [h]))
    clear hlen
    go_enter Tryd.func84, Tryd.ntmps84
    go_wp2_with fail
    go_ret
    exact ⟨ret_bool H.out.symm, Below.refl _ _⟩
end Go.Proofs.YtmnmnofjeoanjaaDoor
namespace Go.Proofs.YtmnmnofjeoanjaaDoor
open Go.Sort Go.ChangeShapes Go.WideShapes Go.ChangeAt Go.RowKit Go.Lb

theorem szVal_dec (x : V) (left : Int) (h : ¬ szVal x left < 0) : szVal x left ≤ left := by unfold szVal szV at *; split at h <;> first | omega | (split <;> omega)
theorem szVs_dec : ∀ (l : List V) (left : Int), ¬ szVs l left < 0 → szVs l left ≤ left
  | [], left, _ => Int.le_refl _
  | x :: r, left, h => by
    by_cases hn : szVal x left < 0
    · rw [szVs_neg hn] at h; omega
    · rw [szVs_pos hn] at h ⊢
      exact Int.le_trans (szVs_dec r _ h) (szVal_dec x left hn)
theorem szValS_dec (l : List V) (left : Int) (h : ¬ szValS l left < 0) : szValS l left ≤ left - l.length ∧ 0 ≤ szValS l left := by
  unfold szValS at *
  split at h
  · omega
  · rename_i h1
    rw [if_neg h1]
    exact ⟨szVs_dec _ _ h, by omega⟩
def szR (x : R) (left : Int) : Int := if szValS x.l left < 0 then -1 else szValS x.l left
theorem szR_le (x : R) (left : Int) (h0 : 0 ≤ left) (h : left ≤ 1048576) : szR x left ≤ 1048576 := by
  have := szValS_le x.l left h0 h
  unfold szR
  split <;> omega
theorem szR_dec (x : R) (left : Int) (h : ¬ szR x left < 0) : szR x left ≤ left - x.l.length ∧ 0 ≤ szR x left := by
  unfold szR at *
  split at h
  · omega
  · rename_i h1
    rw [if_neg h1]
    exact szValS_dec _ _ h1
def szRs : List R → Int → Int
  | [], l => l
  | v :: r, l => if szR v l < 0 then -1 else szRs r (szR v l)
theorem szRs_neg {x : R} {r : List R} {m : Int} (h : szR x m < 0) : szRs (x :: r) m = -1 := by rw [szRs, if_pos h]
theorem szRs_pos {x : R} {r : List R} {m : Int} (h : ¬ szR x m < 0) : szRs (x :: r) m = szRs r (szR x m) := by rw [szRs, if_neg h]
def szRowS (l : List R) (left : Int) : Int := if left - l.length < 0 then -1 else szRs l (left - l.length)
theorem szRs_le : ∀ (l : List R) (left : Int), 0 ≤ left → left ≤ 1048576 → szRs l left ≤ 1048576
  | [], left, _, h => h
  | x :: r, left, h0, h => by
    by_cases hn : szR x left < 0
    · rw [szRs_neg hn]; omega
    · rw [szRs_pos hn]; exact szRs_le r _ (by omega) (szR_le x left h0 h)
def lensR (l : List R) : Nat := (l.map fun r => r.l.length).sum
theorem szRs_dec : ∀ (l : List R) (left : Int), ¬ szRs l left < 0 → szRs l left ≤ left - lensR l
  | [], left, _ => by simp [szRs, lensR]
  | x :: r, left, h => by
    by_cases hn : szR x left < 0
    · rw [szRs_neg hn] at h; omega
    · rw [szRs_pos hn] at h ⊢
      have h1 := szRs_dec r _ h
      have h2 := szR_dec x left hn
      simp only [lensR, List.map_cons, List.sum_cons] at *
      omega
theorem szRowS_le (l : List R) (left : Int) (h0 : 0 ≤ left) (h : left ≤ 1048576) : szRowS l left ≤ 1048576 := by
  unfold szRowS
  split
  · omega
  · exact szRs_le _ _ (by omega) (by omega)
theorem cntR_eq (l : List R) : cntR l = l.length + 3 * lensR l := by
  induction l with
  | nil => rfl
  | cons x r ih =>
    simp only [cntR, lensR, List.map_cons, List.sum_cons, List.length_cons] at *
    omega
theorem szRowS_bd (l : List R) (left : Int) (h0 : 0 ≤ left) (h : left ≤ 1048576) : ¬ szRowS l left < 0 → l.length ≤ 1048576 ∧ cntR l ≤ 3145728 ∧ lensR l ≤ 1048576 := by
  intro hn
  have hc := cntR_eq l
  unfold szRowS at hn
  split at hn
  · omega
  · have h1 := szRs_dec _ _ hn
    omega
theorem szR_bd (x : R) (left : Int) (h0 : 0 ≤ left) (h : left ≤ 1048576) : ¬ szR x left < 0 → x.l.length ≤ 1048576 := by
  intro hn
  have := szR_dec x left hn
  omega

set_option maxHeartbeats 400000 in
theorem szRow_c (x : R) (sv : Value) (left : Int) (w : World) {lo hi : Nat} (hx : RdV w lo hi sv x.l) (hhi : hi ≤ w.heap.size) (hs : ∀ v ∈ x.l, v.s.size ≤ maxLen) (h0 : 0 ≤ left) (h1 : left ≤ 1048576) :
    Calls Tryd.prog 71 #[.agg #[.int .i64 x.id, sv], .int .i64 left] w fun e w' => e = .returned (.int .i64 (szR x left)) ∧ Below w.heap.size w w' := by
  have up := up_a1 w (.cells #[.int .i64 x.id, sv] 106)
  have hc := szValS_c x.l sv left _ (hx.below up hhi) (by simp only [World.size_alloc]; omega) hs h0 h1
  have H := Lib.hid (show szR x left = if szValS x.l left < 0 then -1 else szValS x.l left from rfl)
  go_enter Tryd.func71, Tryd.ntmps71
  go_wp2_with fail
  refine hc.mono ?_
  rintro e w1 ⟨rfl, hb1⟩
  have hb2 := below_a1 hb1
  generalize szValS x.l left = m at H
  by_cases hm : m < 0
  · have H := Lib.hid (H.out.trans (if_pos hm))
    go_wp2_with fail
    go_ret
    exact ⟨ret_int H.out.symm, hb2⟩
  · have H := Lib.hid (H.out.trans (if_neg hm))
    go_wp2_with fail
    go_ret
    exact ⟨ret_int H.out.symm, hb2⟩
set_option maxHeartbeats 400000 in
theorem szRowS_c (xs : List R) (x : Value) (left : Int) (w : World) {lo hi : Nat} (hx : RdR w lo hi x xs) (hhi : hi ≤ w.heap.size) (hs : RsOk xs) (h0 : 0 ≤ left) (h1 : left ≤ 1048576) :
    Calls Tryd.prog 53 #[x, .int .i64 left] w fun e w' => e = .returned (.int .i64 (szRowS xs left)) ∧ Below w.heap.size w w' := by
  obtain ⟨A, c, rfl, hl, hl2⟩ := hx.form
  have hs' := Lib.hid hs
  clear hs
  by_cases hlt : left - xs.length < 0
  · have H := Lib.hid (show szRowS xs left = -1 by simp [szRowS, hlt])
    go_enter Tryd.func53, Tryd.ntmps53
    go_wp2_with fail
    go_ret
    exact ⟨ret_int H.out.symm, Below.refl _ _⟩
  · have H := Lib.hid (show szRowS xs left = szRs xs (left - xs.length) by simp [szRowS, hlt])
    go_enter Tryd.func53, Tryd.ntmps53
    go_wp2_with fail
    go_loopw [5, 1] (fun i l wr => ∃ (k : Nat) (m : Int), i = .int .i64 k ∧ k ≤ xs.length ∧ l = .int .i64 m ∧ 0 ≤ m ∧ m ≤ 1048576 ∧ szRowS xs left = szRs (xs.drop k) m ∧ Below w.heap.size w wr) (fun i _ _ => xs.length - (intOf i).toNat)
    case atStart => exact ⟨0, left - xs.length, by simp, by omega, rfl, by omega, by omega, by simpa using H.out, Below.refl _ _⟩
    case round =>
      obtain ⟨k, m, rfl, hk, rfl, hm0, hm1, hsz, hb⟩ := hrel
      have Hsz := Lib.hid hsz
      clear hsz
      by_cases hkl : k < xs.length
      · obtain ⟨b, off, x, sv, rfl, -, hbl, hxk, e0, e1, hr⟩ := (hx.below hb hhi).at hkl
        have hd := Lib.hid (drop_of_get hxk)
        have hss := Lib.hid (hs'.out x (mem_of_get hxk))
        have hbs := hb.size
        clear hxk
        go_wp2_with fail
        refine (szRow_c x sv _ _ hr (by omega) hss.out hm0 hm1).mono ?_
        rintro e w1 ⟨rfl, hb1⟩
        have hsv := szR_le x m hm0 hm1
        clear e0 e1 hr
        by_cases hneg : szR x m < 0
        · have h := Lib.hid (szRs_neg (r := xs.drop (k + 1)) hneg)
          go_wp2_with fail
          go_ret
          exact ⟨ret_int (by rw [Hsz.out, hd.out, h.out]), hb.trans (hb1.mono hb.size)⟩
        · have h := Lib.hid (szRs_pos (r := xs.drop (k + 1)) hneg)
          go_wp2_with fail
          go_roundw
          case rel => exact ⟨k + 1, _, by go_num, by omega, rfl, by omega, hsv, by rw [Hsz.out, hd.out, h.out], hb.trans (hb1.mono hb.size)⟩
          case measure => simp [intOf]; omega
      · go_wp2_with fail
        go_ret
        exact ⟨ret_int (by rw [Hsz.out, List.drop_eq_nil_of_le (by omega)]; rfl), hb⟩

end Go.Proofs.YtmnmnofjeoanjaaDoor
namespace Go.Proofs.YtmnmnofjeoanjaaDoor
open Go.Sort Go.ChangeShapes Go.WideShapes Go.ChangeAt Go.RowKit Go.Lb

set_option maxHeartbeats 400000 in
theorem toRow_c (x : R) (sv : Value) (w : World) {lo hi : Nat} (hx : RdV w lo hi sv x.l) (hhi : hi ≤ w.heap.size) (hn : x.l.length ≤ 1048576) :
    Calls Tryd.prog 72 #[.agg #[.int .i64 x.id, sv]] w fun e w' => ∃ v, e = .returned (.agg #[.int .i64 x.id, v]) ∧ Own 31 3 w' w.heap.size w'.heap.size v x.l.length (x.l.flatMap V.cells) ∧ Below w.heap.size w w' := by
  have hC := fun (W : World) (h : Below w.heap.size w W) => toValS_c x.l sv W (hx.below h hhi) (Nat.le_trans hhi h.size) hn
  have HC := Lib.hid hC
  clear hC
  go_enter Tryd.func72, Tryd.ntmps72
  go_wp2_with fail
  refine (HC.out _ ?_).mono ?_
  · repeat (first | exact Below.refl _ _ | refine Below.setCell ?_ (by simp <;> omega) _ | refine Below.alloc ?_ (by simp <;> omega) _)
  rintro e w1 ⟨v, rfl, hown, hb1⟩
  have hc := (bcell hb1).1
  have hf := (bcell hb1).2
  have hz := hb1.size
  simp at hz
  have z0 : w.heap.size < w1.heap.size := by omega
  have z1 : w.heap.size + 1 < w1.heap.size := by omega
  have z2 : w.heap.size + 1 + 1 < w1.heap.size := by omega
  have Hown := Lib.hid hown
  have Hb1 := Lib.hid (below_a3 hb1)
  obtain ⟨A, c, rfl, -, -, -⟩ := hown.cells
  clear hown hb1
  go_wp2_with fail
  refine bodyPost_ret (v := .agg #[.int .i64 x.id, .slice A x.l.length c]) ?_ rfl ⟨_, rfl, ?_, ?_⟩
  · simp [results, Tryd.results72, go_sem, hc]
  · have h := Hown.out
    simp only [World.size_alloc] at h
    refine Own.more (lo := w.heap.size + 1 + 1 + 1) (hi := w1.heap.size) ?_ (by omega) (Nat.le_of_eq (by simp [World.setCell]))
    exact ((h.set (by omega) _).set (by omega) _).set (by omega) _
  · iterate 3 refine Below.setCell ?_ (by simp <;> omega) _
    exact Hb1.out
set_option maxHeartbeats 400000 in
theorem eqRow_c (x : R) (sv : Value) (y : R) (sv' : Value) (w : World) {l1 h1 l2 h2 : Nat} (hx : RdV w l1 h1 sv x.l) (hh1 : h1 ≤ w.heap.size) (hy : RdV w l2 h2 sv' y.l) (hh2 : h2 ≤ w.heap.size) :
    Calls Tryd.prog 74 #[.agg #[.int .i64 x.id, sv], .agg #[.int .i64 y.id, sv']] w fun e w' => e = .returned (.bool (eqd x y)) ∧ Below w.heap.size w w' := by
  have hE : eqd x y = (x.id == y.id && eqd x.l y.l) := by
    obtain ⟨a, b⟩ := x
    obtain ⟨c, d⟩ := y
    unfold eqd
    rw [Bool.eq_iff_iff]
    simp
  have HE := Lib.hid hE
  clear hE
  have up := up_a2 w (.cells #[.int .i64 x.id, sv] 83) (.cells #[.int .i64 y.id, sv'] 83)
  have hc := eqValS_c x.l sv y.l sv' _ (hx.below up hh1) (by simp only [World.size_alloc]; omega) (hy.below up hh2) (by simp only [World.size_alloc]; omega)
  by_cases hi : x.id = y.id
  · have hd : (x.id != y.id) = false := by simp [hi]
    have HE := Lib.hid (show eqd x y = eqd x.l y.l by rw [HE.out, hi]; simp)
    clear hi
    go_enter Tryd.func74, Tryd.ntmps74
    go_wp2_with fail
    refine hc.mono ?_
    rintro e w1 ⟨rfl, hb1⟩
    cases h1 : eqd x.l y.l
    · rw [h1] at HE
      go_wp2_with fail
      go_ret
      exact ⟨ret_bool HE.out.symm, below_a2 hb1⟩
    · rw [h1] at HE
      go_wp2_with fail
      go_ret
      exact ⟨ret_bool HE.out.symm, below_a2 hb1⟩
  · have hd : (x.id != y.id) = true := by simp [hi]
    have HE := Lib.hid (show eqd x y = false by rw [HE.out]; simp [hi])
    clear hi hc
    go_enter Tryd.func74, Tryd.ntmps74
    go_wp2_with fail
    go_ret
    exact ⟨ret_bool HE.out.symm, up⟩

end Go.Proofs.YtmnmnofjeoanjaaDoor
namespace Go.Proofs.YtmnmnofjeoanjaaDoor
open Go.Sort Go.ChangeShapes Go.WideShapes Go.ChangeAt Go.RowKit Go.Lb

set_option maxHeartbeats 1000000 in
theorem eqRowS_c (xs : List R) (x : Value) (ys : List R) (y : Value) (w : World) {l1 h1 l2 h2 : Nat} (hx : RdR w l1 h1 x xs) (hh1 : h1 ≤ w.heap.size) (hy : RdR w l2 h2 y ys) (hh2 : h2 ≤ w.heap.size) :
    Calls Tryd.prog 59 #[x, y] w fun e w' => e = .returned (.bool (eqd xs ys)) ∧ Below w.heap.size w w' := by
  obtain ⟨A, c, rfl, hl, hl2⟩ := hx.form
  obtain ⟨A', c', rfl, hl', hl2'⟩ := hy.form
  by_cases hlen : xs.length = ys.length
  · have Hlen := Lib.hid hlen
    have hlb : ((xs.length : Int) != (ys.length : Int)) = false := by simp [hlen]
    rw [← hlen] at hl'
    clear hlen
    go_enter Tryd.func59, Tryd.ntmps59
    go_wp2_with fail
    go_loopw [5] (fun i wr => ∃ (k : Nat), i = .int .i64 k ∧ k ≤ xs.length ∧ xs.take k = ys.take k ∧ Below w.heap.size w wr) (fun i _ => xs.length - (intOf i).toNat)
    case atStart => exact ⟨0, by simp, by omega, by simp, Below.refl _ _⟩
    case round =>
      obtain ⟨k, rfl, hk, htk, hb⟩ := hrel
      have Htk := Lib.hid htk
      clear htk
      by_cases hkl : k < xs.length
      · obtain ⟨b, off, u, sv, rfl, -, hbl, huk, e0, e1, hr⟩ := (hx.below hb hh1).at hkl
        obtain ⟨b', off', u', sv', rfl, -, hbl', huk', e0', e1', hr'⟩ := (hy.below hb hh2).at (Hlen.out ▸ hkl)
        have Hs := Lib.hid (eq_of_drop Hlen.out Htk.out huk huk')
        have hkl' : k < ys.length := Hlen.out ▸ hkl
        clear huk huk'
        have hbs := hb.size
        have hC := Lib.hid (fun W (h : Below wr.heap.size wr W) => eqRow_c u sv u' sv' W (hr.below h (by omega)) (Nat.le_trans (by omega) h.size) (hr'.below h (by omega)) (Nat.le_trans (by omega) h.size))
        clear hr hr'
        by_cases hu : u = u'
        · have hd : eqd u u' = true := eqd_of hu
          rw [hd] at hC
          have Hs1 := Lib.hid (Hs.out.1 hu)
          clear hu Hs hd
          go_wp2_with fail
          have q_0 := cell_regrown (w := wr) e0
          have q_1 := cell_regrown (w := wr) e1
          have q_2 := cell_regrown (w := wr) e0'
          have q_3 := cell_regrown (w := wr) e1'
          refine wp_region_quiet_below (by kernel_rfl) (by kernel_rfl) ?_
          repeat (go_big_quiet_step (first | (go_at_call 74; exact Calls.regrown_of (hC.out _ (below_regrown _ _ _)))))
          refine wpQuiet_nil ?_
          intro wq hw'
          obtain ⟨⟨dq, osq⟩, hw''⟩ := hw'
          have hbq := below_regrown wr dq osq
          rw [← hw''] at hbq
          clear hw''
          clear q_0 q_1 q_2 q_3
          go_wp2_with fail
          go_roundw
          case rel => exact ⟨k + 1, by go_num, by omega, Hs1.out, hb.trans (hbq.mono hb.size)⟩
          case measure => simp [intOf]; omega
        · have hd : eqd u u' = false := eqd_no hu
          rw [hd] at hC
          have H := Lib.hid (eqd_no (Hs.out.2 hu))
          clear hu Hs hd
          go_wp2_with fail
          have q_0 := cell_regrown (w := wr) e0
          have q_1 := cell_regrown (w := wr) e1
          have q_2 := cell_regrown (w := wr) e0'
          have q_3 := cell_regrown (w := wr) e1'
          refine wp_region_quiet_below (by kernel_rfl) (by kernel_rfl) ?_
          repeat (go_big_quiet_step (first | (go_at_call 74; exact Calls.regrown_of (hC.out _ (below_regrown _ _ _)))))
          refine wpQuiet_nil ?_
          intro wq hw'
          obtain ⟨⟨dq, osq⟩, hw''⟩ := hw'
          have hbq := below_regrown wr dq osq
          rw [← hw''] at hbq
          clear hw''
          clear q_0 q_1 q_2 q_3
          go_wp2_with fail
          go_ret
          exact ⟨ret_bool H.out.symm, hb.trans (hbq.mono hb.size)⟩
      · have H := Lib.hid (show eqd xs ys = true by
          have h := Htk.out
          rw [List.take_of_length_le (by omega), List.take_of_length_le (by have := Hlen.out; omega)] at h
          exact eqd_of h)
        go_wp2_with fail
        go_ret
        exact ⟨ret_bool H.out.symm, hb⟩
  · have hlb : ((xs.length : Int) != (ys.length : Int)) = true := by simp; omega
    have H := Lib.hid (eqd_no fun h : xs = ys => hlen (by rw [h]))
    clear hlen
    go_enter Tryd.func59, Tryd.ntmps59
    go_wp2_with fail
    go_ret
    exact ⟨ret_bool H.out.symm, Below.refl _ _⟩

end Go.Proofs.YtmnmnofjeoanjaaDoor
namespace Go.Proofs.YtmnmnofjeoanjaaDoor
open Go.ChangeShapes Go.WideShapes Go.ChangeAt Go.RowKit Go.Lb

theorem held_V : Tryd.prog.stoodInHeld 31 = false := by kernel_rfl
theorem guard_V : Tryd.prog.eqGuardType Tryd.prog.depth 31 = false := by kernel_rfl
theorem und_V : Tryd.prog.underlying 31 = some (.struct (Tryd.prog.fieldsOf 31)) := by kernel_rfl
theorem eqIn_V (d : Nat) (x y : V) (w : World) : (Op.equalIn (d + 2) 31 (.agg #[.int .i64 x.ty, .int .i64 x.n, .string x.s]) (.agg #[.int .i64 y.ty, .int .i64 y.n, .string y.s])).run Tryd.prog w = .ok (eqd x y) w := by
  rw [run_equalIn_agg w (d + 1) _ _ _ und_V held_V, V.eq_iff]
  cases h1 : x.ty == y.ty <;> cases h2 : x.n == y.n <;> cases h3 : x.s.toList == y.s.toList <;> simp [Program.fieldsOf, Tryd.underlying31, go_sem, h1, h2, h3]
theorem eql_V (x y : V) (w : World) : (binOp .eql 31 (.agg #[.int .i64 x.ty, .int .i64 x.n, .string x.s]) (.agg #[.int .i64 y.ty, .int .i64 y.n, .string y.s])).run Tryd.prog w = .ok (.bool (eqd x y)) w := by
  rw [run_eql_struct w, eqIn_V 9998]
  rfl
theorem neq_V (x y : V) (w : World) : (binOp .neq 31 (.agg #[.int .i64 x.ty, .int .i64 x.n, .string x.s]) (.agg #[.int .i64 y.ty, .int .i64 y.n, .string y.s])).run Tryd.prog w = .ok (.bool (!eqd x y)) w := by
  rw [run_neq_struct w, eqIn_V 9998]
  rfl
end Go.Proofs.YtmnmnofjeoanjaaDoor
namespace Go.Proofs.YtmnmnofjeoanjaaDoor
open Go.Sort Go.ChangeShapes Go.WideShapes Go.ChangeAt Go.RowKit Go.Lb

theorem info_Row : (Tryd.prog.info? 83).map (fun i => (i.zero, i.size, i.bytes)) = some (some (.agg #[.int .i64 0, .slice none 0 0]), 2, 32) := by kernel_rfl
set_option maxHeartbeats 1000000 in
theorem toRowS_c (xs : List R) (x : Value) (w : World) {lo hi : Nat} (hx : RdR w lo hi x xs) (hhi : hi ≤ w.heap.size) (hn : xs.length ≤ 1048576 ∧ cntR xs ≤ 3145728 ∧ lensR xs ≤ 1048576) :
    Calls Tryd.prog 56 #[x] w fun e w' => ∃ v, e = .returned v ∧ OwnR 83 31 w' w.heap.size w'.heap.size v xs ∧ Below w.heap.size w w' := by
  obtain ⟨A, c, rfl, hl, hl2⟩ := hx.form
  obtain ⟨i0, hif, hz0, hz1, hz2⟩ := info_parts info_Row
  have hn1 := hn.1
  have Hn := Lib.hid hn.2.2
  clear hn
  have hmk : ∀ W : World, _ := fun W => make_n (P := Tryd.prog) 50 83 i0 _ Tryd.underlying50 hif hz0 xs.length (by rw [hz2]; omega) (by omega) W
  rw [hz1] at hmk
  clear hz0 hz1 hz2 hif
  go_enter Tryd.func56, Tryd.ntmps56
  go_wp2_with fail
  go_loopw [4] (fun i wr => ∃ (k : Nat) (cur : Array Value) (ps : List (R × Value)), i = .int .i64 k ∧ k ≤ xs.length ∧ wr.heap[w.heap.size]? = some (.cells cur 83 (0, 0)) ∧ cur.size = xs.length * 2 ∧ ps.map Prod.fst = xs.take k ∧ cur.toList.take (k * 2) = ps.flatMap rcell ∧ PartR 31 wr (w.heap.size + 1) wr.heap.size ps ∧ Below w.heap.size w wr) (fun i _ => xs.length - (intOf i).toNat)
  case atStart => exact ⟨0, _, [], by simp, by omega, heap_alloc_new w _, size_madeCells _ _, by simp, by simp, .nil, (Below.refl _ _).alloc (Nat.le_refl _) _⟩
  case round =>
    obtain ⟨k, cur, ps, rfl, hk, hcur, hsz, hps, htk, hpart, hb⟩ := hrel
    have Hc := Lib.hid hcur
    have Hsz := Lib.hid hsz
    have Htk := Lib.hid htk
    have Hps := Lib.hid hps
    have Hpart := Lib.hid hpart
    have hg : w.heap.size < wr.heap.size := (Array.getElem?_eq_some_iff.1 hcur).1
    clear hcur hsz htk hps hpart
    by_cases hkl : k < xs.length
    · obtain ⟨b, off, y, sv, rfl, -, hbl, hyk, e0, e1, hr⟩ := (hx.below hb hhi).at hkl
      have hy := Lib.hid (take_of_get hyk)
      have hyl : y.l.length ≤ 1048576 := Nat.le_trans (len_of_lens (mem_of_get hyk)) Hn.out
      have hbs := hb.size
      clear hyk
      go_wp2_with fail
      refine (toRow_c y sv _ hr (by omega) hyl).mono ?_
      rintro e w1 ⟨nv, rfl, hown, hb1⟩
      have Hc1 := Lib.hid ((hb1.block _ hg).trans Hc.out)
      have Hpart1 := Lib.hid (Hpart.out.snoc hb1 (by omega) hown)
      obtain ⟨A', c', rfl, -, -, -⟩ := hown.cells
      have hs1 := hb1.size
      clear e0 e1 hr hown
      have k0 := cell_of_row w1 w.heap.size (k * 2) cur _ _ Hc1.out
      have k1 := cell_of_row w1 w.heap.size (k * 2 + 1) cur _ _ Hc1.out
      have f0 := fun o => frozen_of_row w1 w.heap.size o cur _ Hc1.out
      rw [Array.getElem?_eq_getElem (by rw [Hsz.out]; omega)] at k0 k1
      go_wp2_with fail
      go_roundw
      case rel =>
        refine ⟨k + 1, _, ps ++ [(y, .slice A' y.l.length c')], by go_num, by omega, set2 Hc1.out, by simpa using Hsz.out, ?_, ?_, ?_, ?_⟩
        rotate_left 2
        · exact PartR.imp (PartR.set (PartR.set Hpart1.out (by omega) _) (by omega) _) (fun _ _ _ => rfl) (Nat.le_of_eq (by simp [World.setCell]))
        · exact ((hb.trans (hb1.mono (Nat.le_of_lt hg))).setCell (Nat.le_refl _) _).setCell (Nat.le_refl _) _
        · rw [hy.out, List.map_append, Hps.out]; rfl
        · simp only [Array.toList_setIfInBounds]
          rw [show (k + 1) * 2 = k * 2 + 2 by omega, take_set2 (by rw [Array.length_toList, Hsz.out]; omega), Htk.out, List.flatMap_append]
          simp [rcell]
      case measure => simp [intOf]; omega
    · go_wp2_with fail
      go_ret
      obtain rfl : k = xs.length := by omega
      have hp := Hps.out
      rw [List.take_length] at hp
      have hpl : ps.length = xs.length := by rw [← hp, List.length_map]
      refine ⟨.slice (some ⟨w.heap.size, 0, none⟩) xs.length xs.length, rfl, ⟨ps, hp, Hpart.out.done (g := w.heap.size) ⟨flat_len rcell 2 rcell_len ps, .inr ⟨w.heap.size, xs.length, cur, by rw [hpl], Nat.zero_le _, Hc.out, by omega, by unfold maxLen; omega, Hsz.out, by rw [hpl]; exact Htk.out⟩⟩ rfl (Nat.le_refl _) (by omega) hg⟩, hb⟩

end Go.Proofs.YtmnmnofjeoanjaaDoor
namespace Go.Proofs.YtmnmnofjeoanjaaDoor
open Go.Sort Go.ChangeShapes Go.WideShapes Go.ChangeAt Go.RowKit Go.Lb

end Go.Proofs.YtmnmnofjeoanjaaDoor
namespace Go.Proofs.YtmnmnofjeoanjaaDoor
open Go.Sort Go.ChangeShapes Go.WideShapes Go.ChangeAt Go.RowKit Go.Lb

end Go.Proofs.YtmnmnofjeoanjaaDoor
namespace Go.Proofs.YtmnmnofjeoanjaaDoor
open Go.Sort Go.ChangeShapes Go.WideShapes Go.ChangeAt Go.RowKit Go.Lb

end Go.Proofs.YtmnmnofjeoanjaaDoor
namespace Go.Proofs.YtmnmnofjeoanjaaDoor
open Go.Sort Go.ChangeShapes Go.WideShapes Go.ChangeAt Go.RowKit Go.Lb

def hasI (l : List Int) (n : Int) : Bool := l.any fun m => m == n
def keepRow (ids : List Int) (r : R) : Bool := !hasI ids r.id
def dropRows (l : List R) (ids : List Int) : List R := l.filter (keepRow ids)
theorem hasI_yes {l : List Int} {n m : Int} {k : Nat} (h : l[k]? = some m) (he : m = n) : hasI l n = true := List.any_eq_true.2 ⟨m, mem_of_get h, by simp [he]⟩
theorem hasI_end {l : List Int} {n : Int} (h : (l.take l.length).any (fun m => m == n) = false) : hasI l n = false := by
  rw [List.take_length] at h
  exact h
theorem drop_step {l : List R} {ids : List Int} {k : Nat} {y : R} (h : l[k]? = some y) : (l.take (k + 1)).filter (keepRow ids) = (l.take k).filter (keepRow ids) ++ (if hasI ids y.id then [] else [y]) := by
  rw [take_of_get h, List.filter_append]
  congr 1
  cases hh : hasI ids y.id <;> simp [keepRow, hh]
theorem lensR_filter (l : List R) (p : R → Bool) : lensR (l.filter p) ≤ lensR l := by
  unfold lensR
  induction l with
  | nil => simp
  | cons a r ih =>
    rw [List.filter_cons]
    split
    · simp only [List.map_cons, List.sum_cons]; omega
    · simp only [List.map_cons, List.sum_cons]; omega
theorem dropRows_bd (l : List R) (ids : List Int) : cntR (dropRows l ids) ≤ cntR l := by
  rw [cntR_eq, cntR_eq]
  have h1 := lensR_filter l (keepRow ids)
  have h2 : (l.filter (keepRow ids)).length ≤ l.length := List.length_filter_le _ _
  unfold dropRows
  omega

end Go.Proofs.YtmnmnofjeoanjaaDoor
namespace Go.Proofs.YtmnmnofjeoanjaaDoor
open Go.Sort Go.ChangeShapes Go.WideShapes Go.ChangeAt Go.RowKit Go.Lb

end Go.Proofs.YtmnmnofjeoanjaaDoor
namespace Go.Proofs.YtmnmnofjeoanjaaDoor
open Go.ChangeShapes Go.WideShapes Go.ChangeAt Go.RowKit Go.Lb
end Go.Proofs.YtmnmnofjeoanjaaDoor
namespace Go.Proofs.YtmnmnofjeoanjaaDoor
open Go.ChangeShapes Go.WideShapes Go.ChangeAt Go.RowKit Go.Lb

theorem law_big (code : List UInt8) (x : Value) (w : World) {lo hi : Nat} (hx : RdB w lo hi x code) :
    Calls Tryd.prog 22 #[x] w fun e w' => e = .returned (.bool (decide (1048576 < (code.length : Int)))) ∧ w = w' := by
  obtain ⟨A, c, rfl, hl, hl2⟩ := hx.form
  clear hx
  go_enter Tryd.func22, Tryd.ntmps22
  go_wp2_with fail
  go_ret
  exact ⟨rfl, rfl⟩
end Go.Proofs.YtmnmnofjeoanjaaDoor
