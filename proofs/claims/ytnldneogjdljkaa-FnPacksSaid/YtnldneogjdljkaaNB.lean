/- Varints: contracts. -/
import Derived.Test.YtnldneogjdljkaaCN
import Derived.Test.YtnldneogjdljkaaApp
import Derived.Test.YtnldneogjdljkaaS8
import Derived.Laws.BitsLemmas
namespace Go.Lb
open Go.RowKit
def bc (l : List UInt8) : List Value := l.map fun x => Value.int .u8 (x.toNat : Int)
theorem bc_app (a b : List UInt8) : bc (a ++ b) = bc a ++ bc b := by simp [bc]
theorem bc_one (l : List UInt8) : ∀ u ∈ bc l, u.oneCell' = true := fun u hu => by
  obtain ⟨x, -, rfl⟩ := List.mem_map.1 hu
  rfl
theorem bc_flat (l : List UInt8) : (l.flatMap fun x => [Value.int .u8 (x.toNat : Int)]) = bc l := by
  induction l with
  | nil => rfl
  | cons a l ih => rw [List.flatMap_cons, ih]; rfl
theorem bc_len (l : List UInt8) : (bc l).length = l.length * 1 := by simp [bc]
theorem RdB.spread {w : World} {l : List UInt8} {lo hi n c : Nat} {A : Option Addr} (h : RdB w lo hi (.slice A n c) l) :
    n = l.length ∧ (A = none → l.length = 0) ∧ ∀ ad, A = some ad → ∀ j u, (bc l)[j]? = some u → w.cell? (ad.add j) = some u := by rw [← bc_flat]; exact h.news
theorem u8_of {x : Nat} (h : x < 256) : (x : Int) = ((UInt8.ofNat x).toNat : Int) := by rw [byte_of_nat h]
theorem zigzag_yes {n : Int} (h : isNum n = true) : zigzag n = zig n := by rw [zigzag, if_pos h]
theorem zigzag_no {n : Int} (h : isNum n = false) : zigzag n = 0 := by rw [zigzag, if_neg (by simp [h])]
theorem zig_neg {n : Int} (h : n < 0) : zig n = -2 * n - 1 := by rw [zig, if_pos h]
theorem zig_pos {n : Int} (h : ¬ n < 0) : zig n = 2 * n := by rw [zig, if_neg h]
theorem zagzigQ_yes {n : Int} (h : inR n 0 2000000000 = true) : zagzigQ n = zagzig n := by rw [zagzigQ, if_pos h]
theorem zagzigQ_no {n : Int} (h : inR n 0 2000000000 = false) : zagzigQ n = 0 := by rw [zagzigQ, if_neg (by simp [h])]
theorem zagzig_odd {n : Int} (h : n % 2 = 1) : zagzig n = -((n + 1) / 2) := by rw [zagzig, if_pos h]
theorem zagzig_even {n : Int} (h : ¬ n % 2 = 1) : zagzig n = n / 2 := by rw [zagzig, if_neg h]
end Go.Lb
namespace Go.Proofs.Ytnldneogjdljkaa
open Go.Sort Go.ChangeShapes Go.WideShapes Go.ChangeAt Go.RowKit Go.Lb

theorem info_u8 : (Try.prog.info? 5).map (fun i => (i.zero, i.size, i.bytes)) = some (some (.int .u8 0), 1, 1) := by kernel_rfl
theorem info_i64 : (Try.prog.info? 3).map (fun i => (i.zero, i.size, i.bytes)) = some (some (.int .i64 0), 1, 8) := by kernel_rfl

set_option maxHeartbeats 1000000 in
theorem q_spec_ZigZag (n : Int) (w : World) :
    Calls Try.prog 101 #[.int .i64 n] w fun e w' => e = .returned (.int .i64 (zigzag n)) ∧ w = w' := by
  have hQ := q_spec_l1Right n w
  cases h : isNum n
  · rw [h] at hQ
    have H := Lib.hid (zigzag_no h)
    clear h
    replace hQ := Lib.hid hQ
    go_enter Try.func101, Try.ntmps101
    go_wp2_with fail
    refine hQ.out.mono ?_
    rintro e w1 ⟨rfl, rfl⟩
    go_wp2_with fail
    go_ret
    exact ⟨ret_int H.out.symm, rfl⟩
  · rw [h] at hQ
    obtain ⟨h0, h1⟩ := isNum_yes h
    have H := Lib.hid (zigzag_yes h)
    clear h
    replace hQ := Lib.hid hQ
    by_cases hn : n < 0
    · have H2 := Lib.hid (zig_neg hn)
      go_enter Try.func101, Try.ntmps101
      go_wp2_with fail
      refine hQ.out.mono ?_
      rintro e w1 ⟨rfl, rfl⟩
      go_wp2_with fail
      go_ret
      exact ⟨ret_int (by rw [H.out, H2.out]), rfl⟩
    · have H2 := Lib.hid (zig_pos hn)
      go_enter Try.func101, Try.ntmps101
      go_wp2_with fail
      refine hQ.out.mono ?_
      rintro e w1 ⟨rfl, rfl⟩
      go_wp2_with fail
      go_ret
      exact ⟨ret_int (by rw [H.out, H2.out]), rfl⟩
set_option maxHeartbeats 1000000 in
theorem q_spec_ZagZig (n : Int) (w : World) :
    Calls Try.prog 103 #[.int .i64 n] w fun e w' => e = .returned (.int .i64 (zagzigQ n)) ∧ w = w' := by
  have hQ := q_spec_l1In n 0 2000000000 w
  cases h : inR n 0 2000000000
  · rw [h] at hQ
    have H := Lib.hid (zagzigQ_no h)
    clear h
    replace hQ := Lib.hid hQ
    go_enter Try.func103, Try.ntmps103
    go_wp2_with fail
    refine hQ.out.mono ?_
    rintro e w1 ⟨rfl, rfl⟩
    go_wp2_with fail
    go_ret
    exact ⟨ret_int H.out.symm, rfl⟩
  · rw [h] at hQ
    obtain ⟨h0, h1⟩ := inR_yes h
    have H := Lib.hid (zagzigQ_yes h)
    clear h
    replace hQ := Lib.hid hQ
    obtain ⟨k, rfl⟩ := Int.eq_ofNat_of_zero_le h0
    by_cases hn : (k : Int) % 2 = 1
    · have H2 := Lib.hid (zagzig_odd hn)
      have hd : ((k : Int) % 2 == 1) = true := by simp [hn]
      clear hn
      go_enter Try.func103, Try.ntmps103
      go_wp2_with fail
      refine hQ.out.mono ?_
      rintro e w1 ⟨rfl, rfl⟩
      go_wp2_with fail
      go_ret
      exact ⟨ret_int (by rw [H.out, H2.out, Int.tdiv_eq_ediv_of_nonneg (by omega)]; unfold wrap64; omega), rfl⟩
    · have H2 := Lib.hid (zagzig_even hn)
      have hd : ((k : Int) % 2 == 1) = false := by simp [hn]
      clear hn
      go_enter Try.func103, Try.ntmps103
      go_wp2_with fail
      refine hQ.out.mono ?_
      rintro e w1 ⟨rfl, rfl⟩
      go_wp2_with fail
      go_ret
      exact ⟨ret_int (by rw [H.out, H2.out]), rfl⟩
set_option maxHeartbeats 1000000 in
theorem q_impl_ZigZag (n : Int) (w : World) :
    Calls Try.prog 100 #[.int .i64 n] w fun e w' => e = .returned (.int .i64 (zigzag n)) ∧ w = w' := by
  have hQ := q_impl_isNum n w
  cases h : isNum n
  · rw [h] at hQ
    have H := Lib.hid (zigzag_no h)
    clear h
    replace hQ := Lib.hid hQ
    go_enter Try.func100, Try.ntmps100
    go_wp2_with fail
    refine hQ.out.mono ?_
    rintro e w1 ⟨rfl, rfl⟩
    go_wp2_with fail
    go_ret
    exact ⟨ret_int H.out.symm, rfl⟩
  · rw [h] at hQ
    obtain ⟨h0, h1⟩ := isNum_yes h
    have H := Lib.hid (zigzag_yes h)
    clear h
    replace hQ := Lib.hid hQ
    by_cases hn : n < 0
    · have H2 := Lib.hid (zig_neg hn)
      go_enter Try.func100, Try.ntmps100
      go_wp2_with fail
      refine hQ.out.mono ?_
      rintro e w1 ⟨rfl, rfl⟩
      go_wp2_with fail
      go_ret
      exact ⟨ret_int (by rw [H.out, H2.out]), rfl⟩
    · have H2 := Lib.hid (zig_pos hn)
      go_enter Try.func100, Try.ntmps100
      go_wp2_with fail
      refine hQ.out.mono ?_
      rintro e w1 ⟨rfl, rfl⟩
      go_wp2_with fail
      go_ret
      exact ⟨ret_int (by rw [H.out, H2.out]), rfl⟩
set_option maxHeartbeats 1000000 in
theorem q_impl_ZagZig (n : Int) (w : World) :
    Calls Try.prog 102 #[.int .i64 n] w fun e w' => e = .returned (.int .i64 (zagzigQ n)) ∧ w = w' := by
  have hQ := q_impl_within n 0 2000000000 w
  cases h : inR n 0 2000000000
  · rw [h] at hQ
    have H := Lib.hid (zagzigQ_no h)
    clear h
    replace hQ := Lib.hid hQ
    go_enter Try.func102, Try.ntmps102
    go_wp2_with fail
    refine hQ.out.mono ?_
    rintro e w1 ⟨rfl, rfl⟩
    go_wp2_with fail
    go_ret
    exact ⟨ret_int H.out.symm, rfl⟩
  · rw [h] at hQ
    obtain ⟨h0, h1⟩ := inR_yes h
    have H := Lib.hid (zagzigQ_yes h)
    clear h
    replace hQ := Lib.hid hQ
    obtain ⟨k, rfl⟩ := Int.eq_ofNat_of_zero_le h0
    by_cases hn : (k : Int) % 2 = 1
    · have H2 := Lib.hid (zagzig_odd hn)
      have hd : ((k : Int) % 2 == 1) = true := by simp [hn]
      clear hn
      go_enter Try.func102, Try.ntmps102
      go_wp2_with fail
      refine hQ.out.mono ?_
      rintro e w1 ⟨rfl, rfl⟩
      go_wp2_with fail
      go_ret
      exact ⟨ret_int (by rw [H.out, H2.out, Int.tdiv_eq_ediv_of_nonneg (by omega)]; unfold wrap64; omega), rfl⟩
    · have H2 := Lib.hid (zagzig_even hn)
      have hd : ((k : Int) % 2 == 1) = false := by simp [hn]
      clear hn
      go_enter Try.func102, Try.ntmps102
      go_wp2_with fail
      refine hQ.out.mono ?_
      rintro e w1 ⟨rfl, rfl⟩
      go_wp2_with fail
      go_ret
      exact ⟨ret_int (by rw [H.out, H2.out]), rfl⟩
end Go.Proofs.Ytnldneogjdljkaa
