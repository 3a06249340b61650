/- Varints read: contracts. -/
import Derived.Test.YtnldneogjdljkaaNB
import Derived.Deep.CutRange
namespace Go.Lb
open Go.RowKit
theorem rv_cons {c : UInt8} {r : List UInt8} {i x : Nat} (h : i < 5) : rv (c :: r) i x = if 128 ≤ c.toNat then rv r (i + 1) (x + c.toNat % 128 * 128 ^ i)
    else if (0 < i ∧ c.toNat = 0) ∨ 2000000000 < x + c.toNat % 128 * 128 ^ i then none
    else some (zagzig ((x + c.toNat % 128 * 128 ^ i : Nat) : Int), i + 1) := by rw [rv, if_neg (by omega)]
theorem rv_five {r : List UInt8} {x : Nat} : rv r 5 x = none := by cases r <;> simp [rv]
theorem rv_nil {i x : Nat} : rv [] i x = none := by simp [rv]
theorem pow128 (j : Nat) : (2 : Int) ^ (7 * j) = ((128 ^ j : Nat) : Int) := by
  rw [show (128 ^ j : Nat) = 2 ^ (7 * j) by rw [Nat.pow_mul]]
  simp
theorem p128_le {j : Nat} (h : j < 5) : 128 ^ j ≤ 268435456 := Nat.pow_le_pow_right (by decide) (show j ≤ 4 by omega)
theorem wrap64_in {n : Int} (h0 : 0 ≤ n) (h1 : n ≤ 9223372036854775807) : wrap64 n = n := by unfold wrap64; omega
theorem sh_step {j y z : Nat} {k : UInt8} (hj : j < 5) (hy : y < 128 ^ j) (hz : y + k.toNat % 128 * 128 ^ j = z) : wrap64 ((k.toNat % 128 : Nat) * 2 ^ (7 * j) : Int) = ((k.toNat % 128 * 128 ^ j : Nat) : Int) ∧ z < 128 ^ (j + 1) ∧ z ≤ 34359738368 := by
  have h1 := p128_le hj
  have h2 : k.toNat % 128 ≤ 127 := by omega
  have h3 := Nat.mul_le_mul_right (128 ^ j) h2
  refine ⟨?_, ?_, ?_⟩
  · rw [pow128, ← Int.natCast_mul]
    exact wrap64_in (by omega) (by omega)
  · rw [Nat.pow_succ]; omega
  · omega
theorem or_step {j y z : Nat} {k : UInt8} (hj : j < 5) (hy : y < 128 ^ j) (hz : y + k.toNat % 128 * 128 ^ j = z) : bits .or .i64 (y : Int) (wrap64 (bits .and .i64 (k.toNat : Int) 127 * 2 ^ (7 * j))) = (z : Int) := by
  have hk := k.toNat_lt
  have hw : ∀ n : Int, 0 ≤ n → n < 2 ^ 62 → IntKind.i64.wrap n = n := fun n h0 h1 => by rw [IntKind.wrap_i64]; omega
  have h127 : bits .and .i64 (k.toNat : Int) 127 = ((k.toNat % 128 : Nat) : Int) := (bits_mask .i64 62 (by decide) hw 7 (by decide) (k.toNat : Int) (by omega) (by omega)).trans (by simp)
  obtain ⟨h1, h2, h3⟩ := sh_step hj hy hz
  have h4 := p128_le hj
  rw [h127, h1, (bits_nat .i64 62 (by decide) hw y _ (by omega) (by omega)).2, Nat.or_comm, show (k.toNat % 128 * 128 ^ j : Nat) = 2 ^ (7 * j) * (k.toNat % 128) by rw [Nat.mul_comm, Nat.pow_mul],
    ← Nat.two_pow_add_eq_or_of_lt (show y < 2 ^ (7 * j) by rw [Nat.pow_mul]; exact hy), ← hz]
  congr 1
  rw [Nat.pow_mul, Nat.add_comm, Nat.mul_comm]
theorem add_step {j y z : Nat} {k : UInt8} (hj : j < 5) (hy : y < 128 ^ j) (hz : y + k.toNat % 128 * 128 ^ j = z) : wrap64 ((y : Int) + wrap64 ((k.toNat : Int) % 128 * 2 ^ (7 * j))) = (z : Int) := by
  obtain ⟨h1, h2, h3⟩ := sh_step hj hy hz
  rw [show ((k.toNat : Int) % 128) = ((k.toNat % 128 : Nat) : Int) by omega, h1, ← Int.natCast_add, hz]
  exact wrap64_in (by omega) (by omega)
end Go.Lb
namespace Go.Proofs.Ytnldneogjdljkaa
open Go.Sort Go.ChangeShapes Go.WideShapes Go.ChangeAt Go.RowKit Go.Lb
set_option maxHeartbeats 4000000 in
set_option maxRecDepth 20000 in
theorem q0_spec_GetNum (l : List UInt8) (x : Value) (p : Nat) (w : World) {lo hi : Nat} (hx : RdB w lo hi x l) (hp : p ≤ l.length) :
    Calls Try.prog 81 #[x, .int .i64 p] w fun e w' => e = .returned (.tuple #[.int .i64 (getNum l p).1, .int .i64 (getNum l p).2.1, .bool (getNum l p).2.2]) ∧ w = w' := by
  obtain ⟨A, c, rfl, hl, hl2⟩ := hx.form
  have hQ := q_spec_l1In p 0 l.length w
  rw [inR_of (by omega) (by omega)] at hQ
  go_enter Try.func81, Try.ntmps81
  go_wp2_with fail
  refine hQ.mono ?_
  clear hQ
  rintro e w1 ⟨rfl, rfl⟩
  go_wp2_with fail
  go_loop [7, 8] (fun x i => ∃ (j y : Nat), Hid (i = .int .i64 j ∧ x = .int .i64 y ∧ j ≤ 5 ∧ p + j ≤ l.length ∧ y < 128 ^ j ∧ rdNum (l.drop p) = rv (l.drop (p + j)) j y)) (fun _ i => 5 - (intOf i).toNat)
  case atStart => exact ⟨0, 0, Lib.hid ⟨rfl, rfl, by omega, by omega, by simp, rfl⟩⟩
  case round =>
    obtain ⟨j, y, hrel⟩ := hrel
    obtain ⟨rfl, rfl, hj, hpj, hy, hr⟩ := hrel.out
    clear hrel
    have Hr := Lib.hid hr
    have Hy := Lib.hid hy
    clear hr hy
    by_cases h5 : j < 5
    · by_cases hlp : p + j < l.length
      · obtain ⟨b, off, k, rfl, -, -, hck, e0⟩ := hx.at hlp
        have hk := k.toNat_lt
        have hk2 : (k.toNat : Int) < 256 := by omega
        have Hd := Lib.hid (drop_of_get hck)
        clear hck
        have h6 : (j : Int) < (l.length : Int) - p := by omega
        have h7 : (p : Int) + j < (l.length : Int) := by omega
        go_upto_region 9 with fail
        obtain ⟨z, hz⟩ : ∃ z, y + k.toNat % 128 * 128 ^ j = z := ⟨_, rfl⟩
        rw [or_step h5 Hy.out hz]
        obtain ⟨-, hz1, hz2⟩ := sh_step h5 Hy.out hz
        have Hz := Lib.hid hz
        have Hz1 := Lib.hid hz1
        clear hz hz1
        by_cases hc : 128 ≤ k.toNat
        · have hcd : decide (128 ≤ (k.toNat : Int)) = true := decide_eq_true (by omega)
          have hcd2 : decide (127 < (k.toNat : Int)) = true := decide_eq_true (by omega)
          have Hr2 := Lib.hid (show rdNum (l.drop p) = rv (l.drop (p + (j + 1))) (j + 1) z by rw [Hr.out, Hd.out, rv_cons h5, if_pos hc, Hz.out, Nat.add_assoc])
          go_wp2_with fail
          go_round
          case rel => exact ⟨j + 1, z, Lib.hid ⟨by go_num, rfl, by omega, by omega, Hz1.out, Hr2.out⟩⟩
          case measure => simp [intOf]; omega
        · have Hr2 := Lib.hid (show rdNum (l.drop p) = if (0 < j ∧ k.toNat = 0) ∨ 2000000000 < z then none else some (zagzig (z : Int), j + 1) by rw [Hr.out, Hd.out, rv_cons h5, if_neg hc, Hz.out])
          have hc' : ¬ 127 < k.toNat := by omega
          have hcd : decide (128 ≤ (k.toNat : Int)) = false := decide_eq_false (by omega)
          have hcd2 : decide (127 < (k.toNat : Int)) = false := decide_eq_false (by omega)
          by_cases h1 : 2000000000 < z
          · have HG := Lib.hid (getNum_none (by rw [Hr2.out, if_pos (.inr h1)]))
            clear Hr2
            have hzd : decide (2000000000 < (z : Int)) = true := decide_eq_true (by omega)
            by_cases h2 : 0 < j
            · by_cases h3 : k.toNat = 0
              · have hkd : ((k.toNat : Int) == 0) = true := by simp [h3]
                clear h3
                go_wp2_with fail
                refine bodyPost_ret (v := .tuple #[.int .i64 0, .int .i64 0, .bool false]) (by simp [results, Try.results81, go_sem]) rfl ⟨by rw [HG.out], rfl⟩
              · have hkd : ((k.toNat : Int) == 0) = false := by simp [h3]
                go_wp2_with fail
                refine bodyPost_ret (v := .tuple #[.int .i64 0, .int .i64 0, .bool false]) (by simp [results, Try.results81, go_sem]) rfl ⟨by rw [HG.out], rfl⟩
            · go_wp2_with fail
              refine bodyPost_ret (v := .tuple #[.int .i64 0, .int .i64 0, .bool false]) (by simp [results, Try.results81, go_sem]) rfl ⟨by rw [HG.out], rfl⟩
          · have hzd : decide (2000000000 < (z : Int)) = false := decide_eq_false (by omega)
            by_cases h2 : 0 < j ∧ k.toNat = 0
            · have HG := Lib.hid (getNum_none (by rw [Hr2.out, if_pos (.inl h2)]))
              obtain ⟨h2, h3⟩ := h2
              have hkd : ((k.toNat : Int) == 0) = true := by simp [h3]
              clear Hr2 h3
              go_wp2_with fail
              refine bodyPost_ret (v := .tuple #[.int .i64 0, .int .i64 0, .bool false]) (by simp [results, Try.results81, go_sem]) rfl ⟨by rw [HG.out], rfl⟩
            · have HG := Lib.hid (getNum_some (by rw [Hr2.out, if_neg (by omega)]))
              have hZ := q_spec_ZagZig z w
              rw [zagzigQ_yes (inR_of (by omega) (by omega))] at hZ
              have HZ := Lib.hid hZ
              clear Hr2 hZ
              by_cases h3 : 0 < j
              · have h4 : ¬ k.toNat = 0 := fun e => h2 ⟨h3, e⟩
                have hkd : ((k.toNat : Int) == 0) = false := by simp [h4]
                clear h2
                go_wp2_with fail
                refine HZ.out.mono ?_
                rintro e w1 ⟨rfl, rfl⟩
                go_wp2_with fail
                refine bodyPost_ret (v := .tuple #[.int .i64 (zagzig z), .int .i64 ((p + (j + 1) : Nat) : Int), .bool true]) (by simp [results, Try.results81, go_sem, Int.add_assoc]) rfl ⟨by rw [HG.out], rfl⟩
              · clear h2
                by_cases h4 : k.toNat = 0
                all_goals
                  go_wp2_with fail
                  refine HZ.out.mono ?_
                  rintro e w1 ⟨rfl, rfl⟩
                  go_wp2_with fail
                  refine bodyPost_ret (v := .tuple #[.int .i64 (zagzig z), .int .i64 ((p + (j + 1) : Nat) : Int), .bool true]) (by simp [results, Try.results81, go_sem, Int.add_assoc]) rfl ⟨by rw [HG.out], rfl⟩
      · have HG := Lib.hid (getNum_none (show rdNum (l.drop p) = none by rw [Hr.out, List.drop_eq_nil_of_le (by omega), rv_nil]))
        have h6 : ¬ (j : Int) < (l.length : Int) - p := by omega
        have h7 : ¬ (p : Int) + j < (l.length : Int) := by omega
        go_wp2_with fail
        refine bodyPost_ret (v := .tuple #[.int .i64 0, .int .i64 0, .bool false]) (by simp [results, Try.results81, go_sem]) rfl ⟨by rw [HG.out], rfl⟩
    · obtain rfl : j = 5 := by omega
      have HG := Lib.hid (getNum_none (show rdNum (l.drop p) = none by rw [Hr.out, rv_five]))
      clear hj h5
      go_wp2_with fail
      refine bodyPost_ret (v := .tuple #[.int .i64 0, .int .i64 0, .bool false]) (by simp [results, Try.results81, go_sem]) rfl ⟨by rw [HG.out], rfl⟩
set_option maxHeartbeats 4000000 in
theorem q_spec_GetNum (l : List UInt8) (x : Value) (p : Int) (w : World) {lo hi : Nat} (hx : RdB w lo hi x l) :
    Calls Try.prog 81 #[x, .int .i64 p] w fun e w' => e = .returned (.tuple #[.int .i64 (getNum l p).1, .int .i64 (getNum l p).2.1, .bool (getNum l p).2.2]) ∧ w = w' := by
  by_cases h : 0 ≤ p ∧ p ≤ (l.length : Int)
  · obtain ⟨k, rfl⟩ := Int.eq_ofNat_of_zero_le h.1
    exact q0_spec_GetNum l x k w hx (by omega)
  · have HG := Lib.hid (show getNum l p = (0, 0, false) by
      by_cases h0 : p < 0
      · exact getNum_neg h0
      · obtain ⟨k, rfl⟩ := Int.eq_ofNat_of_zero_le (show 0 ≤ p by omega)
        exact getNum_none (by rw [List.drop_eq_nil_of_le (by omega)]; rfl))
    obtain ⟨A, c, rfl, hl, hl2⟩ := hx.form
    have hQ := q_spec_l1In p 0 l.length w
    rw [inR_not (by omega)] at hQ
    clear h
    go_enter Try.func81, Try.ntmps81
    go_wp2_with fail
    refine hQ.mono ?_
    clear hQ
    rintro e w1 ⟨rfl, rfl⟩
    go_wp2_with fail
    refine bodyPost_ret (v := .tuple #[.int .i64 0, .int .i64 0, .bool false]) (by simp [results, Try.results81, go_sem]) rfl ⟨by rw [HG.out], rfl⟩
set_option maxHeartbeats 4000000 in
set_option maxRecDepth 20000 in
theorem q0_impl_GetNum (l : List UInt8) (x : Value) (p : Nat) (w : World) {lo hi : Nat} (hx : RdB w lo hi x l) (hp : p < l.length) :
    Calls Try.prog 80 #[x, .int .i64 p] w fun e w' => e = .returned (.tuple #[.int .i64 (getNum l p).1, .int .i64 (getNum l p).2.1, .bool (getNum l p).2.2]) ∧ w = w' := by
  obtain ⟨A, c, rfl, hl, hl2⟩ := hx.form
  have hp0 : decide ((p : Int) < 0) = false := decide_eq_false (by omega)
  have hp1 : decide ((l.length : Int) ≤ p) = false := decide_eq_false (by omega)
  go_enter Try.func80, Try.ntmps80
  go_wp2_with fail
  go_loop [7, 8] (fun x i => ∃ (j y : Nat), Hid (i = .int .i64 j ∧ x = .int .i64 y ∧ j ≤ 5 ∧ p + j ≤ l.length ∧ y < 128 ^ j ∧ rdNum (l.drop p) = rv (l.drop (p + j)) j y)) (fun _ i => 5 - (intOf i).toNat)
  case atStart => exact ⟨0, 0, Lib.hid ⟨rfl, rfl, by omega, by omega, by simp, rfl⟩⟩
  case round =>
    obtain ⟨j, y, hrel⟩ := hrel
    obtain ⟨rfl, rfl, hj, hpj, hy, hr⟩ := hrel.out
    clear hrel
    have Hr := Lib.hid hr
    have Hy := Lib.hid hy
    clear hr hy
    by_cases h5 : j < 5
    · by_cases hlp : p + j < l.length
      · obtain ⟨b, off, k, rfl, -, -, hck, e0⟩ := hx.at hlp
        have hk := k.toNat_lt
        have hk2 : (k.toNat : Int) < 256 := by omega
        have Hd := Lib.hid (drop_of_get hck)
        clear hck
        have h6 : (j : Int) < (l.length : Int) - p := by omega
        have h7 : (p : Int) + j < (l.length : Int) := by omega
        go_upto_region 9 with fail
        obtain ⟨z, hz⟩ : ∃ z, y + k.toNat % 128 * 128 ^ j = z := ⟨_, rfl⟩
        rw [add_step h5 Hy.out hz]
        obtain ⟨-, hz1, hz2⟩ := sh_step h5 Hy.out hz
        have Hz := Lib.hid hz
        have Hz1 := Lib.hid hz1
        clear hz hz1
        by_cases hc : 128 ≤ k.toNat
        · have hcd : decide (128 ≤ (k.toNat : Int)) = true := decide_eq_true (by omega)
          have hcd2 : decide (127 < (k.toNat : Int)) = true := decide_eq_true (by omega)
          have Hr2 := Lib.hid (show rdNum (l.drop p) = rv (l.drop (p + (j + 1))) (j + 1) z by rw [Hr.out, Hd.out, rv_cons h5, if_pos hc, Hz.out, Nat.add_assoc])
          go_wp2_with fail
          go_round
          case rel => exact ⟨_, _, _, _, _, ⟨j + 1, z, Lib.hid ⟨by go_num, rfl, by omega, by omega, Hz1.out, Hr2.out⟩⟩, rfl, rfl, rfl, rfl, rfl⟩
          case measure => simp [intOf]; omega
        · have Hr2 := Lib.hid (show rdNum (l.drop p) = if (0 < j ∧ k.toNat = 0) ∨ 2000000000 < z then none else some (zagzig (z : Int), j + 1) by rw [Hr.out, Hd.out, rv_cons h5, if_neg hc, Hz.out])
          have hc' : ¬ 127 < k.toNat := by omega
          have hcd : decide (128 ≤ (k.toNat : Int)) = false := decide_eq_false (by omega)
          have hcd2 : decide (127 < (k.toNat : Int)) = false := decide_eq_false (by omega)
          by_cases h1 : 2000000000 < z
          · have HG := Lib.hid (getNum_none (by rw [Hr2.out, if_pos (.inr h1)]))
            clear Hr2
            have hzd : decide (2000000000 < (z : Int)) = true := decide_eq_true (by omega)
            by_cases h2 : 0 < j
            · by_cases h3 : k.toNat = 0
              · have hkd : ((k.toNat : Int) == 0) = true := by simp [h3]
                clear h3
                go_wp2_with fail
                refine bodyPost_ret (v := .tuple #[.int .i64 0, .int .i64 0, .bool false]) (by simp [results, Try.results80, go_sem]) rfl ⟨by rw [HG.out], rfl⟩
              · have hkd : ((k.toNat : Int) == 0) = false := by simp [h3]
                go_wp2_with fail
                refine bodyPost_ret (v := .tuple #[.int .i64 0, .int .i64 0, .bool false]) (by simp [results, Try.results80, go_sem]) rfl ⟨by rw [HG.out], rfl⟩
            · go_wp2_with fail
              refine bodyPost_ret (v := .tuple #[.int .i64 0, .int .i64 0, .bool false]) (by simp [results, Try.results80, go_sem]) rfl ⟨by rw [HG.out], rfl⟩
          · have hzd : decide (2000000000 < (z : Int)) = false := decide_eq_false (by omega)
            by_cases h2 : 0 < j ∧ k.toNat = 0
            · have HG := Lib.hid (getNum_none (by rw [Hr2.out, if_pos (.inl h2)]))
              obtain ⟨h2, h3⟩ := h2
              have hkd : ((k.toNat : Int) == 0) = true := by simp [h3]
              clear Hr2 h3
              go_wp2_with fail
              refine bodyPost_ret (v := .tuple #[.int .i64 0, .int .i64 0, .bool false]) (by simp [results, Try.results80, go_sem]) rfl ⟨by rw [HG.out], rfl⟩
            · have HG := Lib.hid (getNum_some (by rw [Hr2.out, if_neg (by omega)]))
              have hZ := q_impl_ZagZig z w
              rw [zagzigQ_yes (inR_of (by omega) (by omega))] at hZ
              have HZ := Lib.hid hZ
              clear Hr2 hZ
              by_cases h3 : 0 < j
              · have h4 : ¬ k.toNat = 0 := fun e => h2 ⟨h3, e⟩
                have hkd : ((k.toNat : Int) == 0) = false := by simp [h4]
                clear h2
                go_wp2_with fail
                refine HZ.out.mono ?_
                rintro e w1 ⟨rfl, rfl⟩
                go_wp2_with fail
                refine bodyPost_ret (v := .tuple #[.int .i64 (zagzig z), .int .i64 ((p + (j + 1) : Nat) : Int), .bool true]) (by simp [results, Try.results80, go_sem, Int.add_assoc]) rfl ⟨by rw [HG.out], rfl⟩
              · clear h2
                by_cases h4 : k.toNat = 0
                all_goals
                  go_wp2_with fail
                  refine HZ.out.mono ?_
                  rintro e w1 ⟨rfl, rfl⟩
                  go_wp2_with fail
                  refine bodyPost_ret (v := .tuple #[.int .i64 (zagzig z), .int .i64 ((p + (j + 1) : Nat) : Int), .bool true]) (by simp [results, Try.results80, go_sem, Int.add_assoc]) rfl ⟨by rw [HG.out], rfl⟩
      · have HG := Lib.hid (getNum_none (show rdNum (l.drop p) = none by rw [Hr.out, List.drop_eq_nil_of_le (by omega), rv_nil]))
        have h6 : ¬ (j : Int) < (l.length : Int) - p := by omega
        have h7 : ¬ (p : Int) + j < (l.length : Int) := by omega
        go_wp2_with fail
        refine bodyPost_ret (v := .tuple #[.int .i64 0, .int .i64 0, .bool false]) (by simp [results, Try.results80, go_sem]) rfl ⟨by rw [HG.out], rfl⟩
    · obtain rfl : j = 5 := by omega
      have HG := Lib.hid (getNum_none (show rdNum (l.drop p) = none by rw [Hr.out, rv_five]))
      clear hj h5
      go_wp2_with fail
      refine bodyPost_ret (v := .tuple #[.int .i64 0, .int .i64 0, .bool false]) (by simp [results, Try.results80, go_sem]) rfl ⟨by rw [HG.out], rfl⟩
set_option maxHeartbeats 4000000 in
theorem q_impl_GetNum (l : List UInt8) (x : Value) (p : Int) (w : World) {lo hi : Nat} (hx : RdB w lo hi x l) :
    Calls Try.prog 80 #[x, .int .i64 p] w fun e w' => e = .returned (.tuple #[.int .i64 (getNum l p).1, .int .i64 (getNum l p).2.1, .bool (getNum l p).2.2]) ∧ w = w' := by
  by_cases h : 0 ≤ p ∧ p < (l.length : Int)
  · obtain ⟨k, rfl⟩ := Int.eq_ofNat_of_zero_le h.1
    exact q0_impl_GetNum l x k w hx (by omega)
  · have HG := Lib.hid (show getNum l p = (0, 0, false) by
      by_cases h0 : p < 0
      · exact getNum_neg h0
      · obtain ⟨k, rfl⟩ := Int.eq_ofNat_of_zero_le (show 0 ≤ p by omega)
        exact getNum_none (by rw [List.drop_eq_nil_of_le (by omega)]; rfl))
    obtain ⟨A, c, rfl, hl, hl2⟩ := hx.form
    by_cases h0 : p < 0
    · clear h
      go_enter Try.func80, Try.ntmps80
      go_wp2_with fail
      refine bodyPost_ret (v := .tuple #[.int .i64 0, .int .i64 0, .bool false]) (by simp [results, Try.results80, go_sem]) rfl ⟨by rw [HG.out], rfl⟩
    · have h1 : (l.length : Int) ≤ p := by omega
      clear h
      go_enter Try.func80, Try.ntmps80
      go_wp2_with fail
      refine bodyPost_ret (v := .tuple #[.int .i64 0, .int .i64 0, .bool false]) (by simp [results, Try.results80, go_sem]) rfl ⟨by rw [HG.out], rfl⟩
end Go.Proofs.Ytnldneogjdljkaa
