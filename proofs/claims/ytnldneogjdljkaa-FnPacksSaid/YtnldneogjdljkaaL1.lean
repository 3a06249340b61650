/- The laws' helpers for values: contracts. -/
import Derived.Test.YtnldneogjdljkaaMem
namespace Go.Proofs.Ytnldneogjdljkaa
open Go.ChangeShapes Go.WideShapes Go.ChangeAt Go.RowKit Go.Lb

def szV (k : Nat) (left : Int) : Int := if left - k < 0 then -1 else left - k
theorem szV_le (k : Nat) (left : Int) (h0 : 0 ≤ left) (h : left ≤ 1048576) : szV k left ≤ 1048576 := by unfold szV; split <;> omega

def szVal (x : V) (left : Int) : Int := szV x.s.size left
theorem szVal_le (x : V) (left : Int) (h0 : 0 ≤ left) (h : left ≤ 1048576) : szVal x left ≤ 1048576 := szV_le _ _ h0 h
theorem szVal_bd (x : V) (left : Int) (h0 : 0 ≤ left) (h : left ≤ 1048576) : ¬ szVal x left < 0 → x.s.size ≤ 1048576 := by unfold szVal szV; split <;> omega
theorem szVal_c (x : V) (left : Int) (w : World) (hs : x.s.size ≤ maxLen) (h0 : 0 ≤ left) (h1 : left ≤ 1048576) :
    Calls Try.prog 83 #[.agg #[.int .i64 x.ty, .int .i64 x.n, .string x.s], .int .i64 left] w fun e w' => e = .returned (.int .i64 (szVal x left)) ∧ Below w.heap.size w w' := by
  unfold maxLen at hs
  by_cases h : left - x.s.size < 0
  · have H := Lib.hid (show szVal x left = -1 by simp [szVal, szV, h])
    go_enter Try.func83, Try.ntmps83
    go_wp2
    go_ret
    exact ⟨ret_int H.out.symm, (Below.refl _ _).alloc (Nat.le_refl _) _⟩
  · have H := Lib.hid (show szVal x left = left - x.s.size by simp [szVal, szV, h])
    go_enter Try.func83, Try.ntmps83
    go_wp2
    go_ret
    exact ⟨ret_int H.out.symm, (Below.refl _ _).alloc (Nat.le_refl _) _⟩

def szVs : List V → Int → Int
  | [], l => l
  | v :: r, l => if szVal v l < 0 then -1 else szVs r (szVal v l)
theorem szVs_neg {x : V} {r : List V} {m : Int} (h : szVal x m < 0) : szVs (x :: r) m = -1 := by rw [szVs, if_pos h]
theorem szVs_pos {x : V} {r : List V} {m : Int} (h : ¬ szVal x m < 0) : szVs (x :: r) m = szVs r (szVal x m) := by rw [szVs, if_neg h]
def szValS (l : List V) (left : Int) : Int := if left - l.length < 0 then -1 else szVs l (left - l.length)
theorem szVs_le : ∀ (l : List V) (left : Int), 0 ≤ left → left ≤ 1048576 → szVs l left ≤ 1048576
  | [], left, _, h => h
  | x :: r, left, h0, h => by
    by_cases hn : szVal x left < 0
    · rw [szVs_neg hn]; omega
    · rw [szVs_pos hn]; exact szVs_le r _ (by omega) (szVal_le x left h0 h)
theorem szValS_le (l : List V) (left : Int) (h0 : 0 ≤ left) (h : left ≤ 1048576) : szValS l left ≤ 1048576 := by
  unfold szValS
  split
  · omega
  · exact szVs_le _ _ (by omega) (by omega)
theorem szValS_bd (l : List V) (left : Int) (h0 : 0 ≤ left) (h : left ≤ 1048576) : ¬ szValS l left < 0 → l.length ≤ 1048576 := by
  unfold szValS
  split <;> omega

set_option maxHeartbeats 400000 in
theorem szValS_c (xs : List V) (x : Value) (left : Int) (w : World) {lo hi : Nat} (hx : RdV w lo hi x xs) (hhi : hi ≤ w.heap.size) (hs : ∀ v ∈ xs, v.s.size ≤ maxLen) (h0 : 0 ≤ left) (h1 : left ≤ 1048576) :
    Calls Try.prog 36 #[x, .int .i64 left] w fun e w' => e = .returned (.int .i64 (szValS xs left)) ∧ Below w.heap.size w w' := by
  obtain ⟨A, c, rfl, hl, hl2⟩ := hx.form
  have hs' := Lib.hid hs
  clear hs
  by_cases hlt : left - xs.length < 0
  · have H := Lib.hid (show szValS xs left = -1 by simp [szValS, hlt])
    go_enter Try.func36, Try.ntmps36
    go_wp2_with fail
    go_ret
    exact ⟨ret_int H.out.symm, Below.refl _ _⟩
  · have H := Lib.hid (show szValS xs left = szVs xs (left - xs.length) by simp [szValS, hlt])
    go_enter Try.func36, Try.ntmps36
    go_wp2_with fail
    go_loopw [5, 1] (fun i l wr => ∃ (k : Nat) (m : Int), i = .int .i64 k ∧ k ≤ xs.length ∧ l = .int .i64 m ∧ 0 ≤ m ∧ m ≤ 1048576 ∧ szValS xs left = szVs (xs.drop k) m ∧ Below w.heap.size w wr) (fun i _ _ => xs.length - (intOf i).toNat)
    case atStart => exact ⟨0, left - xs.length, by simp, by omega, rfl, by omega, by omega, by simpa using H.out, Below.refl _ _⟩
    case round =>
      obtain ⟨k, m, rfl, hk, rfl, hm0, hm1, hsz, hb⟩ := hrel
      have Hsz := Lib.hid hsz
      clear hsz
      by_cases hkl : k < xs.length
      · obtain ⟨b, off, x, rfl, -, hbl, hxk, e0, e1, e2⟩ := (hx.below hb hhi).at hkl
        have hd := Lib.hid (drop_of_get hxk)
        have hss := hs'.out x (mem_of_get hxk)
        clear hxk
        go_wp2_with fail
        refine (szVal_c x _ _ hss hm0 hm1).mono ?_
        rintro e w1 ⟨rfl, hb1⟩
        have hsv := szVal_le x m hm0 hm1
        clear e0 e1 e2
        by_cases hneg : szVal x m < 0
        · have h := Lib.hid (szVs_neg (r := xs.drop (k + 1)) hneg)
          go_wp2_with fail
          go_ret
          exact ⟨ret_int (by rw [Hsz.out, hd.out, h.out]), hb.trans (hb1.mono hb.size)⟩
        · have h := Lib.hid (szVs_pos (r := xs.drop (k + 1)) hneg)
          go_wp2_with fail
          go_roundw
          case rel => exact ⟨k + 1, _, by go_num, by omega, rfl, by omega, hsv, by rw [Hsz.out, hd.out, h.out], hb.trans (hb1.mono hb.size)⟩
          case measure => simp [intOf]; omega
      · go_wp2_with fail
        go_ret
        exact ⟨ret_int (by rw [Hsz.out, List.drop_eq_nil_of_le (by omega)]; rfl), hb⟩

theorem toVal_c (x : V) (w : World) :
    Calls Try.prog 85 #[.agg #[.int .i64 x.ty, .int .i64 x.n, .string x.s]] w fun e w' => e = .returned (.agg #[.int .i64 x.ty, .int .i64 x.n, .string x.s]) ∧ Below w.heap.size w w' := by
  go_enter Try.func85, Try.ntmps85
  go_wp2
  refine bodyPost_ret (v := .agg #[.int .i64 x.ty, .int .i64 x.n, .string x.s]) ?_ rfl ⟨rfl, ?_⟩
  · simp [results, Try.results85, go_sem]
  · repeat (first | exact Below.refl _ _ | refine Below.alloc ?_ (by simp; try omega) _)

theorem V.eq_iff (x y : V) : eqd x y = (x.ty == y.ty && (x.n == y.n && x.s.toList == y.s.toList)) := by
  unfold eqd
  rw [Bool.eq_iff_iff]
  simp only [decide_eq_true_eq, Bool.and_eq_true, beq_iff_eq, ByteArray.toList_eq]
  obtain ⟨a, b, ⟨⟨c⟩⟩⟩ := x
  obtain ⟨a', b', ⟨⟨c'⟩⟩⟩ := y
  simp

theorem eqVal_c (x y : V) (w : World) :
    Calls Try.prog 86 #[.agg #[.int .i64 x.ty, .int .i64 x.n, .string x.s], .agg #[.int .i64 y.ty, .int .i64 y.n, .string y.s]] w fun e w' => e = .returned (.bool (eqd x y)) ∧ Below w.heap.size w w' := by
  have H := Lib.hid (V.eq_iff x y)
  go_enter Try.func86, Try.ntmps86
  go_wp2
  all_goals
    go_ret
    exact ⟨ret_bool (by rw [H.out]; simp_all [bne]), by repeat (first | exact Below.refl _ _ | refine Below.alloc ?_ (by simp) _)⟩

end Go.Proofs.Ytnldneogjdljkaa
