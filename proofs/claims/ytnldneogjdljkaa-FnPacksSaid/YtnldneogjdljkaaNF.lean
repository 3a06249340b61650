/- Widths and bits of numbers: contracts. -/
import Derived.Test.YtnldneogjdljkaaCB
import Derived.Test.YtnldneogjdljkaaND
import Derived.Test.YtnldneogjdljkaaSh
import Derived.Deep.CutRange
namespace Go.Lb
open Go.RowKit
theorem bitLenAux_bl : ∀ (f x : Nat), x < 2 ^ f → Lib.bitLenAux f x = bl x
  | 0, x, h => by
    have : x = 0 := by simp at h; exact h
    subst this
    rw [bl_zero]
    rfl
  | f + 1, x, h => by
    unfold Lib.bitLenAux
    split
    · rename_i h0
      subst h0
      exact bl_zero.symm
    · rename_i h0
      rw [bitLenAux_bl f (x / 2) (by rw [Nat.pow_succ] at h; omega), bl_pos h0]
      omega
theorem bitLen_bl {x : Nat} (h : x ≤ 2147483647) : Lib.bitLen x = bl x := bitLenAux_bl 64 x (by omega)
theorem bits_and_one (k : IntKind) (hk : k = .i64 ∨ k = .u8) {x : Nat} (h : x < 2 ^ 8) : bits .and k (x : Int) 1 = ((x % 2 : Nat) : Int) := by
  rcases hk with rfl | rfl
  · exact (bits_mask .i64 62 (by decide) (fun n h0 h1 => by rw [IntKind.wrap_i64]; omega) 1 (by decide) (x : Int) (by omega) (by omega)).trans (by simp)
  · exact (bits_mask .u8 8 (by decide) wraps_u8 1 (by decide) (x : Int) (by omega) (by omega)).trans (by simp)
theorem bit_div (c : UInt8) (t : Nat) : ((c.toNat / 2 ^ t % 2 : Nat) : Int) = if bitB c t then 1 else 0 := by
  unfold bitB
  rw [Nat.testBit_eq_decide_div_mod_eq]
  have := Nat.mod_two_eq_zero_or_one (c.toNat / 2 ^ t)
  by_cases h : c.toNat / 2 ^ t % 2 = 1
  · simp [h]
  · have h0 : c.toNat / 2 ^ t % 2 = 0 := by omega
    simp [h0]
theorem bitAt_neg {b : List UInt8} {n : Int} (h : n < 0) : bitAt b n = 0 := by rw [bitAt, if_pos h]
theorem bitAt_far {b : List UInt8} {n : Nat} (h : b.length ≤ n / 8) : bitAt b (n : Int) = 0 := by
  rw [bitAt, if_neg (by omega), Int.toNat_natCast, bitL_far (by omega)]
  rfl
theorem bitAt_in {b : List UInt8} {n : Nat} {c : UInt8} (h : b[n / 8]? = some c) : bitAt b (n : Int) = ((c.toNat / 2 ^ (n % 8) % 2 : Nat) : Int) := by
  rw [bitAt, if_neg (by omega), Int.toNat_natCast, bitL, List.getD_eq_getElem?_getD, h, bit_div]
  rfl
theorem bitAt_01 (b : List UInt8) (n : Int) : bitAt b n = 0 ∨ bitAt b n = 1 := by
  unfold bitAt
  split
  · exact .inl rfl
  · split
    · exact .inr rfl
    · exact .inl rfl
theorem byte_div_lt (c : UInt8) (t : Nat) : c.toNat / 2 ^ t < 2 ^ 8 := Nat.lt_of_le_of_lt (Nat.div_le_self _ _) c.toNat_lt
theorem bytesFor_yes {k w : Nat} (h1 : inR (k : Int) 0 64 = true) (h2 : inR (w : Int) 0 31 = true) : bytesFor k w = ((k : Int) * w + 7) / 8 := by rw [bytesFor, h1, h2]; rfl
theorem bytesFor_no {k w : Int} (h : (inR k 0 64 && inR w 0 31) = false) : bytesFor k w = 0 := by rw [bytesFor, h]; rfl
theorem mul_le_1984 {k w : Nat} (h1 : k ≤ 64) (h2 : w ≤ 31) : (k : Int) * w ≤ 1984 ∧ 0 ≤ (k : Int) * w := by
  have := Nat.mul_le_mul h1 h2
  rw [← Int.natCast_mul]
  omega
theorem widthOf_yes {n : Int} (h : inR n 1 2147483647 = true) : widthOf n = bl n.toNat := by rw [widthOf, if_pos h]
theorem widthOf_no {n : Int} (h : inR n 1 2147483647 = false) : widthOf n = 0 := by rw [widthOf, if_neg (by simp [h])]
theorem packOk_not {l : List Int} {w : Int} {i : Nat} {n : Int} (h : l[i]? = some n) (hf : fitsW w n = false) : packOk l w = false := by
  rw [packOk, Bool.and_eq_false_iff]
  right
  rw [Bool.eq_false_iff]
  intro h3
  rw [List.all_eq_true] at h3
  rw [h3 n (mem_of_get h)] at hf
  cases hf
theorem allf_step {q : List Int} {i : Nat} {n : Int} {p : Int → Bool} (h : q[i]? = some n) (h1 : (q.take i).all p = true) (h2 : p n = true) : (q.take (i + 1)).all p = true := by
  rw [take_of_get h, List.all_append, h1]
  simp [h2]
end Go.Lb
namespace Go.Proofs.Ytnldneogjdljkaa
open Go.Sort Go.ChangeShapes Go.WideShapes Go.ChangeAt Go.RowKit Go.Lb
set_option maxHeartbeats 2000000 in
set_option maxRecDepth 20000 in
theorem q_spec_BytesFor (k v : Int) (w : World) :
    Calls Try.prog 28 #[.int .i64 k, .int .i64 v] w fun e w' => e = .returned (.int .i64 (bytesFor k v)) ∧ w = w' := by
  have hQ := q_spec_l1In k 0 64 w
  have hR := q_spec_l1In v 0 31 w
  cases h1 : inR k 0 64
  · rw [h1] at hQ
    have HQ := Lib.hid hQ
    have H := Lib.hid (bytesFor_no (k := k) (w := v) (by rw [h1]; rfl))
    clear h1 hQ hR
    go_enter Try.func28, Try.ntmps28
    go_wp2_with fail
    refine HQ.out.mono ?_
    rintro e w1 ⟨rfl, rfl⟩
    go_wp2_with fail
    go_ret
    exact ⟨ret_int H.out.symm, rfl⟩
  · rw [h1] at hQ
    have HQ := Lib.hid hQ
    cases h2 : inR v 0 31
    · rw [h2] at hR
      have HR := Lib.hid hR
      have H := Lib.hid (bytesFor_no (k := k) (w := v) (by rw [h1, h2]; rfl))
      clear h1 h2 hQ hR
      go_enter Try.func28, Try.ntmps28
      go_wp2_with fail
      refine HQ.out.mono ?_
      rintro e w1 ⟨rfl, rfl⟩
      go_wp2_with fail
      refine HR.out.mono ?_
      rintro e w1 ⟨rfl, rfl⟩
      go_wp2_with fail
      go_ret
      exact ⟨ret_int H.out.symm, rfl⟩
    · rw [h2] at hR
      have HR := Lib.hid hR
      have e1 := inR_yes h1
      have e2 := inR_yes h2
      obtain ⟨k, rfl⟩ := Int.eq_ofNat_of_zero_le e1.1
      obtain ⟨v, rfl⟩ := Int.eq_ofNat_of_zero_le e2.1
      obtain ⟨m1, m0⟩ := mul_le_1984 (show k ≤ 64 by omega) (show v ≤ 31 by omega)
      have H := Lib.hid (bytesFor_yes h1 h2)
      clear h1 h2 hQ hR e1 e2
      go_enter Try.func28, Try.ntmps28
      go_wp2_with fail
      refine HQ.out.mono ?_
      rintro e w1 ⟨rfl, rfl⟩
      go_wp2_with fail
      refine HR.out.mono ?_
      rintro e w1 ⟨rfl, rfl⟩
      go_wp2_with fail
      go_ret
      exact ⟨ret_int (by rw [H.out]), rfl⟩
set_option maxHeartbeats 2000000 in
set_option maxRecDepth 20000 in
theorem q_spec_BitAt (l : List UInt8) (x : Value) (n : Int) (w : World) {lo hi : Nat} (hx : RdB w lo hi x l) (hn : n ≤ 1000000000000) :
    Calls Try.prog 29 #[x, .int .i64 n] w fun e w' => e = .returned (.int .i64 (bitAt l n)) ∧ w = w' := by
  obtain ⟨A, c, rfl, hl, hl2⟩ := hx.form
  by_cases h0 : n < 0
  · have H := Lib.hid (bitAt_neg (b := l) h0)
    go_enter Try.func29, Try.ntmps29
    go_wp2_with fail
    go_ret
    exact ⟨ret_int H.out.symm, rfl⟩
  obtain ⟨n, rfl⟩ := Int.eq_ofNat_of_zero_le (show 0 ≤ n by omega)
  clear h0
  by_cases h1 : l.length ≤ n / 8
  · have H := Lib.hid (bitAt_far (b := l) h1)
    have hd : decide ((l.length : Int) ≤ (n : Int) / 8) = true := decide_eq_true (by omega)
    clear h1
    go_enter Try.func29, Try.ntmps29
    go_wp2_with fail
    go_ret
    exact ⟨ret_int H.out.symm, rfl⟩
  · have hd : decide ((l.length : Int) ≤ (n : Int) / 8) = false := decide_eq_false (by omega)
    have h2 : n / 8 < l.length := by omega
    obtain ⟨b, off, k, rfl, -, -, hk, e0⟩ := hx.at h2
    have H := Lib.hid (bitAt_in hk)
    have hm : n % 8 < 8 := Nat.mod_lt _ (by decide)
    have hk256 := k.toNat_lt
    clear hk h1
    go_enter Try.func29, Try.ntmps29
    go_wp2_with fail
    go_ret
    refine ⟨ret_int ?_, rfl⟩
    rw [H.out]
    have e := bits_and_one .i64 (.inl rfl) (byte_div_lt k (n % 8))
    rw [show ((k.toNat / 2 ^ (n % 8) : Nat) : Int) = (k.toNat : Int) / 2 ^ (n % 8) by simp] at e
    rw [e]

set_option maxHeartbeats 2000000 in
set_option maxRecDepth 20000 in
theorem q_impl_BytesFor (k v : Int) (w : World) :
    Calls Try.prog 21 #[.int .i64 k, .int .i64 v] w fun e w' => e = .returned (.int .i64 (bytesFor k v)) ∧ w = w' := by
  have hQ := q_impl_within k 0 64 w
  have hR := q_impl_within v 0 31 w
  cases h1 : inR k 0 64
  · rw [h1] at hQ
    have HQ := Lib.hid hQ
    have H := Lib.hid (bytesFor_no (k := k) (w := v) (by rw [h1]; rfl))
    clear h1 hQ hR
    go_enter Try.func21, Try.ntmps21
    go_wp2_with fail
    refine HQ.out.mono ?_
    rintro e w1 ⟨rfl, rfl⟩
    go_wp2_with fail
    go_ret
    exact ⟨ret_int H.out.symm, rfl⟩
  · rw [h1] at hQ
    have HQ := Lib.hid hQ
    cases h2 : inR v 0 31
    · rw [h2] at hR
      have HR := Lib.hid hR
      have H := Lib.hid (bytesFor_no (k := k) (w := v) (by rw [h1, h2]; rfl))
      clear h1 h2 hQ hR
      go_enter Try.func21, Try.ntmps21
      go_wp2_with fail
      refine HQ.out.mono ?_
      rintro e w1 ⟨rfl, rfl⟩
      go_wp2_with fail
      refine HR.out.mono ?_
      rintro e w1 ⟨rfl, rfl⟩
      go_wp2_with fail
      go_ret
      exact ⟨ret_int H.out.symm, rfl⟩
    · rw [h2] at hR
      have HR := Lib.hid hR
      have e1 := inR_yes h1
      have e2 := inR_yes h2
      obtain ⟨k, rfl⟩ := Int.eq_ofNat_of_zero_le e1.1
      obtain ⟨v, rfl⟩ := Int.eq_ofNat_of_zero_le e2.1
      obtain ⟨m1, m0⟩ := mul_le_1984 (show k ≤ 64 by omega) (show v ≤ 31 by omega)
      have H := Lib.hid (bytesFor_yes h1 h2)
      clear h1 h2 hQ hR e1 e2
      go_enter Try.func21, Try.ntmps21
      go_wp2_with fail
      refine HQ.out.mono ?_
      rintro e w1 ⟨rfl, rfl⟩
      go_wp2_with fail
      refine HR.out.mono ?_
      rintro e w1 ⟨rfl, rfl⟩
      go_wp2_with fail
      go_ret
      exact ⟨ret_int (by rw [H.out]), rfl⟩
set_option maxHeartbeats 2000000 in
set_option maxRecDepth 20000 in
theorem q_impl_BitAt (l : List UInt8) (x : Value) (n : Int) (w : World) {lo hi : Nat} (hx : RdB w lo hi x l) (hn : n ≤ 1000000000000) :
    Calls Try.prog 19 #[x, .int .i64 n] w fun e w' => e = .returned (.int .i64 (bitAt l n)) ∧ w = w' := by
  obtain ⟨A, c, rfl, hl, hl2⟩ := hx.form
  by_cases h0 : n < 0
  · have H := Lib.hid (bitAt_neg (b := l) h0)
    go_enter Try.func19, Try.ntmps19
    go_wp2_with fail
    go_ret
    exact ⟨ret_int H.out.symm, rfl⟩
  obtain ⟨n, rfl⟩ := Int.eq_ofNat_of_zero_le (show 0 ≤ n by omega)
  clear h0
  by_cases h1 : l.length ≤ n / 8
  · have H := Lib.hid (bitAt_far (b := l) h1)
    have hd : decide ((l.length : Int) ≤ (n : Int) / 8) = true := decide_eq_true (by omega)
    clear h1
    go_enter Try.func19, Try.ntmps19
    go_wp2_with fail
    go_ret
    exact ⟨ret_int H.out.symm, rfl⟩
  · have hd : decide ((l.length : Int) ≤ (n : Int) / 8) = false := decide_eq_false (by omega)
    have h2 : n / 8 < l.length := by omega
    obtain ⟨b, off, k, rfl, -, -, hk, e0⟩ := hx.at h2
    have H := Lib.hid (bitAt_in hk)
    have hm : n % 8 < 8 := Nat.mod_lt _ (by decide)
    have hk256 := k.toNat_lt
    clear hk h1
    go_enter Try.func19, Try.ntmps19
    go_wp2_with fail
    go_ret
    refine ⟨ret_int ?_, rfl⟩
    rw [H.out]
    have e := bits_and_one .u8 (.inr rfl) (byte_div_lt k (n % 8))
    rw [show ((k.toNat / 2 ^ (n % 8) : Nat) : Int) = (k.toNat : Int) / 2 ^ (n % 8) by simp] at e
    rw [e]
    exact wrap64_in (by omega) (by omega)
set_option maxHeartbeats 2000000 in
set_option maxRecDepth 20000 in
theorem q_impl_WidthOf (n : Int) (w : World) :
    Calls Try.prog 17 #[.int .i64 n] w fun e w' => e = .returned (.int .i64 (widthOf n)) ∧ w = w' := by
  have hQ := q_impl_within n 1 2147483647 w
  cases h1 : inR n 1 2147483647
  · rw [h1] at hQ
    have HQ := Lib.hid hQ
    have H := Lib.hid (widthOf_no h1)
    clear h1 hQ
    go_enter Try.func17, Try.ntmps17
    go_wp2_with fail
    refine HQ.out.mono ?_
    rintro e w1 ⟨rfl, rfl⟩
    go_wp2_with fail
    go_ret
    exact ⟨ret_int (by rw [H.out]; rfl), rfl⟩
  · rw [h1] at hQ
    have HQ := Lib.hid hQ
    have e1 := inR_yes h1
    obtain ⟨k, rfl⟩ := Int.eq_ofNat_of_zero_le (show 0 ≤ n by omega)
    have H := Lib.hid (show widthOf (k : Int) = Lib.bitLen k by rw [widthOf_yes h1, Int.toNat_natCast, bitLen_bl (by omega)])
    have HL := Lib.hid (Go.Proofs.Try.bits_Len (k : Int) w (by omega) (by omega))
    clear h1 hQ
    go_enter Try.func17, Try.ntmps17
    go_wp2_with fail
    refine HQ.out.mono ?_
    rintro e w1 ⟨rfl, rfl⟩
    go_wp2_with fail
    refine HL.out.mono ?_
    rintro e w1 ⟨rfl, rfl⟩
    go_wp2_with fail
    go_ret
    exact ⟨ret_int (by rw [H.out]), rfl⟩
set_option maxHeartbeats 2000000 in
set_option maxRecDepth 20000 in
theorem q_spec_WidthOf (n : Int) (w : World) :
    Calls Try.prog 27 #[.int .i64 n] w fun e w' => e = .returned (.int .i64 (widthOf n)) ∧ w = w' := by
  have hQ := q_spec_l1In n 0 2147483647 w
  cases h1 : inR n 0 2147483647
  · rw [h1] at hQ
    have HQ := Lib.hid hQ
    have H := Lib.hid (widthOf_no (n := n) (inR_not (by have := inR_no h1; omega)))
    clear h1 hQ
    go_enter Try.func27, Try.ntmps27
    go_wp2_with fail
    refine HQ.out.mono ?_
    rintro e w1 ⟨rfl, rfl⟩
    go_wp2_with fail
    go_ret
    exact ⟨ret_int (by rw [H.out]; rfl), rfl⟩
  · rw [h1] at hQ
    have HQ := Lib.hid hQ
    have e1 := inR_yes h1
    obtain ⟨k, rfl⟩ := Int.eq_ofNat_of_zero_le e1.1
    have H := Lib.hid (show widthOf (k : Int) = bl k by
      by_cases h0 : k = 0
      · subst h0
        rw [bl_zero]
        exact widthOf_no (inR_not (by omega))
      · rw [widthOf_yes (inR_of (by omega) (by omega)), Int.toNat_natCast])
    have hbl := bl_max (show k < 2147483648 by omega)
    have Hbl := Lib.hid hbl
    clear h1 hQ hbl
    go_enter Try.func27, Try.ntmps27
    go_wp2_with fail
    refine HQ.out.mono ?_
    rintro e w1 ⟨rfl, rfl⟩
    go_wp2_with fail
    go_loop [3, 4] (fun v x => ∃ (j y : Nat), Hid (x = .int .i64 y ∧ v = .int .i64 j ∧ y ≤ 2147483647 ∧ j + bl y = bl k)) (fun _ x => (intOf x).toNat)
    case atStart => exact ⟨0, k, Lib.hid ⟨rfl, rfl, by omega, by omega⟩⟩
    case round =>
      obtain ⟨j, y, hrel⟩ := hrel
      obtain ⟨rfl, rfl, hy, hj⟩ := hrel.out
      have hj31 : j ≤ 31 := by have := Hbl.out; omega
      have Hj := Lib.hid hj
      clear hrel hj
      by_cases h0 : 0 < y
      · have Hj2 := Lib.hid (show j + 1 + bl (y / 2) = bl k by rw [← Hj.out, bl_pos (show y ≠ 0 by omega)]; omega)
        go_wp2_with fail
        go_round
        case rel => exact ⟨j + 1, y / 2, Lib.hid ⟨by simp, by go_num, by omega, Hj2.out⟩⟩
        case measure => simp [intOf]; omega
      · obtain rfl : y = 0 := by omega
        have Hj2 := Lib.hid (show bl k = j by have h := Hj.out; rw [bl_zero] at h; exact h.symm)
        clear hy h0
        go_wp2_with fail
        go_ret
        exact ⟨ret_int (by rw [H.out, Hj2.out]), rfl⟩
set_option maxHeartbeats 2000000 in
set_option maxRecDepth 20000 in
theorem q_spec_WidthFor (q : List Int) (x : Value) (w : World) {lo hi : Nat} (hx : RdI w lo hi x q) :
    Calls Try.prog 16 #[x] w fun e w' => e = .returned (.int .i64 (widthFor q)) ∧ w = w' := by
  obtain ⟨A, c, rfl, hl, hl2⟩ := hx.form
  go_enter Try.func16, Try.ntmps16
  go_wp2_with fail
  go_loop [3, 4] (fun v i => ∃ j : Nat, Hid (i = .int .i64 j ∧ v = .int .i64 (widthFor (q.take j)) ∧ j ≤ q.length)) (fun _ i => q.length - (intOf i).toNat)
  case atStart => exact ⟨0, Lib.hid ⟨rfl, rfl, by omega⟩⟩
  case round =>
    obtain ⟨j, hrel⟩ := hrel
    obtain ⟨rfl, rfl, hj⟩ := hrel.out
    clear hrel
    by_cases hjl : j < q.length
    · obtain ⟨b, off, n, rfl, -, -, hn, e0⟩ := hx.at hjl
      have HS := Lib.hid (widthFor_step hn)
      have HQ := Lib.hid (q_spec_WidthOf n w)
      clear hn
      generalize widthFor (q.take j) = a at HS ⊢
      generalize widthOf n = d at HS HQ
      by_cases hd : a < d
      · have HS2 := Lib.hid (show widthFor (q.take (j + 1)) = d by rw [HS.out]; omega)
        have hd' : decide ((a : Int) < (d : Int)) = true := decide_eq_true (by omega)
        clear HS
        go_wp2_with fail
        refine HQ.out.mono ?_
        rintro e w1 ⟨rfl, rfl⟩
        go_wp2_with fail
        refine HQ.out.mono ?_
        rintro e w1 ⟨rfl, rfl⟩
        go_wp2_with fail
        go_round
        case rel => exact ⟨j + 1, Lib.hid ⟨by go_num, by rw [HS2.out], by omega⟩⟩
        case measure => simp [intOf]; omega
      · have HS2 := Lib.hid (show widthFor (q.take (j + 1)) = a by rw [HS.out]; omega)
        have hd' : decide ((a : Int) < (d : Int)) = false := decide_eq_false (by omega)
        clear HS
        go_wp2_with fail
        refine HQ.out.mono ?_
        rintro e w1 ⟨rfl, rfl⟩
        go_wp2_with fail
        go_round
        case rel => exact ⟨j + 1, Lib.hid ⟨by go_num, by rw [HS2.out], by omega⟩⟩
        case measure => simp [intOf]; omega
    · obtain rfl : j = q.length := by omega
      have HS2 := Lib.hid (show widthFor (q.take q.length) = widthFor q by rw [List.take_length])
      go_wp2_with fail
      go_ret
      exact ⟨ret_int (by rw [← HS2.out]), rfl⟩
set_option maxHeartbeats 2000000 in
set_option maxRecDepth 20000 in
theorem q_impl_WidthFor (q : List Int) (x : Value) (w : World) {lo hi : Nat} (hx : RdI w lo hi x q) :
    Calls Try.prog 15 #[x] w fun e w' => e = .returned (.int .i64 (widthFor q)) ∧ w = w' := by
  obtain ⟨A, c, rfl, hl, hl2⟩ := hx.form
  go_enter Try.func15, Try.ntmps15
  go_wp2_with fail
  go_loop [3, 8] (fun v i => ∃ j : Nat, Hid (i = .int .i64 j ∧ v = .int .i64 (widthFor (q.take j)) ∧ j ≤ q.length)) (fun _ i => q.length - (intOf i).toNat)
  case atStart => exact ⟨0, Lib.hid ⟨rfl, rfl, by omega⟩⟩
  case round =>
    obtain ⟨j, hrel⟩ := hrel
    obtain ⟨rfl, rfl, hj⟩ := hrel.out
    clear hrel
    by_cases hjl : j < q.length
    · obtain ⟨b, off, n, rfl, -, -, hn, e0⟩ := hx.at hjl
      have HS := Lib.hid (widthFor_step hn)
      have HQ := Lib.hid (q_impl_WidthOf n w)
      clear hn
      generalize widthFor (q.take j) = a at HS ⊢
      generalize widthOf n = d at HS HQ
      go_wp2_with fail
      refine HQ.out.mono ?_
      rintro e w1 ⟨rfl, rfl⟩
      go_wp2_with fail
      go_round
      case rel => exact ⟨j + 1, Lib.hid ⟨by go_num, by rw [HS.out]; congr 1; omega, by omega⟩⟩
      case measure => simp [intOf]; omega
    · obtain rfl : j = q.length := by omega
      have HS2 := Lib.hid (show widthFor (q.take q.length) = widthFor q by rw [List.take_length])
      go_wp2_with fail
      go_ret
      exact ⟨ret_int (by rw [← HS2.out]), rfl⟩
set_option maxHeartbeats 2000000 in
set_option maxRecDepth 20000 in
theorem q_spec_l2Fits (q : List Int) (x : Value) (v : Int) (w : World) {lo hi : Nat} (hx : RdI w lo hi x q) :
    Calls Try.prog 68 #[x, .int .i64 v] w fun e w' => e = .returned (.bool (packOk q v)) ∧ w = w' := by
  obtain ⟨A, c, rfl, hl, hl2⟩ := hx.form
  go_enter Try.func68, Try.ntmps68
  go_wp2_with fail
  go_loop [5] (fun i => ∃ j : Nat, Hid (i = .int .i64 j ∧ (q.take j).all (fitsW v) = true ∧ j ≤ q.length)) (fun i => q.length - (intOf i).toNat)
  case atStart => exact ⟨0, Lib.hid ⟨rfl, rfl, by omega⟩⟩
  case round =>
    obtain ⟨j, hrel⟩ := hrel
    obtain ⟨rfl, hall, hj⟩ := hrel.out
    have Hall := Lib.hid hall
    clear hrel hall
    by_cases hjl : j < q.length
    · obtain ⟨b, off, n, rfl, -, -, hn, e0⟩ := hx.at hjl
      have Hn := Lib.hid hn
      clear hn
      have hQ := q_spec_l1In n 0 2147483647 w
      cases h1 : inR n 0 2147483647
      · rw [h1] at hQ
        have HQ := Lib.hid hQ
        have H := Lib.hid (packOk_not (w := v) Hn.out (by rw [fitsW, h1]; rfl))
        clear h1 hQ
        go_wp2_with fail
        refine HQ.out.mono ?_
        rintro e w1 ⟨rfl, rfl⟩
        go_wp2_with fail
        go_ret
        exact ⟨ret_bool H.out.symm, rfl⟩
      · rw [h1] at hQ
        have HQ := Lib.hid hQ
        have HW := Lib.hid (q_spec_WidthOf n w)
        by_cases h2 : (widthOf n : Int) ≤ v
        · have Hall' := Lib.hid (allf_step Hn.out Hall.out (by rw [fitsW, h1, decide_eq_true h2]; rfl))
          have hd : decide (v < (widthOf n : Int)) = false := decide_eq_false (by omega)
          clear h1 hQ
          generalize widthOf n = d at *
          go_wp2_with fail
          refine HQ.out.mono ?_
          rintro e w1 ⟨rfl, rfl⟩
          go_wp2_with fail
          refine HW.out.mono ?_
          rintro e w1 ⟨rfl, rfl⟩
          go_wp2_with fail
          go_round
          case rel => exact ⟨j + 1, Lib.hid ⟨by go_num, Hall'.out, by omega⟩⟩
          case measure => simp [intOf]; omega
        · have H := Lib.hid (packOk_not (w := v) Hn.out (by rw [fitsW, h1, decide_eq_false h2]; rfl))
          have hd : decide (v < (widthOf n : Int)) = true := decide_eq_true (by omega)
          clear h1 hQ
          generalize widthOf n = d at *
          go_wp2_with fail
          refine HQ.out.mono ?_
          rintro e w1 ⟨rfl, rfl⟩
          go_wp2_with fail
          refine HW.out.mono ?_
          rintro e w1 ⟨rfl, rfl⟩
          go_wp2_with fail
          go_ret
          exact ⟨ret_bool H.out.symm, rfl⟩
    · obtain rfl : j = q.length := by omega
      have H := Lib.hid (show packOk q v = inR v 0 31 by
        have h := Hall.out
        rw [List.take_length] at h
        rw [packOk, h, Bool.and_true])
      have HQ := Lib.hid (q_spec_l1In v 0 31 w)
      go_wp2_with fail
      refine HQ.out.mono ?_
      rintro e w1 ⟨rfl, rfl⟩
      go_wp2_with fail
      go_ret
      exact ⟨ret_bool H.out.symm, rfl⟩
end Go.Proofs.Ytnldneogjdljkaa
