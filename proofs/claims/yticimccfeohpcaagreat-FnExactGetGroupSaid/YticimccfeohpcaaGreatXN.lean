/- Varints read: contracts. -/
import Derived.Test.YticimccfeohpcaaGreatXA
import Derived.Deep.CutRange
import Derived.Test.YticimccfeohpcaaGreatXV
import Derived.Test.YticimccfeohpcaaGreatSh
import Derived.OrdersHeld
import Derived.StillTail
namespace Go.Lb
open Go.RowKit
theorem rv_cons {c : UInt8} {r : List UInt8} {i x : Nat} (h : i < 5) : rv (c :: r) i x = if 128 ≤ c.toNat then rv r (i + 1) (x + c.toNat % 128 * 128 ^ i)
    else if (0 < i ∧ c.toNat = 0) ∨ 2000000000 < x + c.toNat % 128 * 128 ^ i then none
    else some (zagzig ((x + c.toNat % 128 * 128 ^ i : Nat) : Int), i + 1) := by rw [rv, if_neg (by omega)]
theorem rv_five {r : List UInt8} {x : Nat} : rv r 5 x = none := by cases r <;> simp [rv]
theorem rv_nil {i x : Nat} : rv [] i x = none := by simp [rv]
theorem pow128 (j : Nat) : (2 : Int) ^ (7 * j) = ((128 ^ j : Nat) : Int) := by
  rw [show (128 ^ j : Nat) = 2 ^ (7 * j) by rw [Nat.pow_mul]]
  simp
theorem p128_le {j : Nat} (h : j < 5) : 128 ^ j ≤ 268435456 := Nat.pow_le_pow_right (by decide) (show j ≤ 4 by omega)
theorem wrap64_in {n : Int} (h0 : 0 ≤ n) (h1 : n ≤ 9223372036854775807) : wrap64 n = n := by unfold wrap64; omega
theorem sh_step {j y z : Nat} {k : UInt8} (hj : j < 5) (hy : y < 128 ^ j) (hz : y + k.toNat % 128 * 128 ^ j = z) : wrap64 ((k.toNat % 128 : Nat) * 2 ^ (7 * j) : Int) = ((k.toNat % 128 * 128 ^ j : Nat) : Int) ∧ z < 128 ^ (j + 1) ∧ z ≤ 34359738368 := by
  have h1 := p128_le hj
  have h2 : k.toNat % 128 ≤ 127 := by omega
  have h3 := Nat.mul_le_mul_right (128 ^ j) h2
  refine ⟨?_, ?_, ?_⟩
  · rw [pow128, ← Int.natCast_mul]
    exact wrap64_in (by omega) (by omega)
  · rw [Nat.pow_succ]; omega
  · omega
theorem or_step {j y z : Nat} {k : UInt8} (hj : j < 5) (hy : y < 128 ^ j) (hz : y + k.toNat % 128 * 128 ^ j = z) : bits .or .i64 (y : Int) (wrap64 (bits .and .i64 (k.toNat : Int) 127 * 2 ^ (7 * j))) = (z : Int) := by
  have hk := k.toNat_lt
  have hw : ∀ n : Int, 0 ≤ n → n < 2 ^ 62 → IntKind.i64.wrap n = n := fun n h0 h1 => by rw [IntKind.wrap_i64]; omega
  have h127 : bits .and .i64 (k.toNat : Int) 127 = ((k.toNat % 128 : Nat) : Int) := (bits_mask .i64 62 (by decide) hw 7 (by decide) (k.toNat : Int) (by omega) (by omega)).trans (by simp)
  obtain ⟨h1, h2, h3⟩ := sh_step hj hy hz
  have h4 := p128_le hj
  rw [h127, h1, (bits_nat .i64 62 (by decide) hw y _ (by omega) (by omega)).2, Nat.or_comm, show (k.toNat % 128 * 128 ^ j : Nat) = 2 ^ (7 * j) * (k.toNat % 128) by rw [Nat.mul_comm, Nat.pow_mul],
    ← Nat.two_pow_add_eq_or_of_lt (show y < 2 ^ (7 * j) by rw [Nat.pow_mul]; exact hy), ← hz]
  congr 1
  rw [Nat.pow_mul, Nat.add_comm, Nat.mul_comm]
theorem add_step {j y z : Nat} {k : UInt8} (hj : j < 5) (hy : y < 128 ^ j) (hz : y + k.toNat % 128 * 128 ^ j = z) : wrap64 ((y : Int) + wrap64 ((k.toNat : Int) % 128 * 2 ^ (7 * j))) = (z : Int) := by
  obtain ⟨h1, h2, h3⟩ := sh_step hj hy hz
  rw [show ((k.toNat : Int) % 128) = ((k.toNat % 128 : Nat) : Int) by omega, h1, ← Int.natCast_add, hz]
  exact wrap64_in (by omega) (by omega)
end Go.Lb
namespace Go.Proofs.YticimccfeohpcaaGreat
open Go.Sort Go.ChangeShapes Go.WideShapes Go.ChangeAt Go.RowKit Go.Lb
set_option maxHeartbeats 4000000 in
set_option maxRecDepth 20000 in
theorem q0_spec_GetNum (l : List UInt8) (x : Value) (p : Nat) (w : World) {lo hi : Nat} (hx : RdB w lo hi x l) (hp : p ≤ l.length) :
    Calls Tryz.prog 73 #[x, .int .i64 p] w fun e w' => e = .returned (.tuple #[.int .i64 (getNum l p).1, .int .i64 (getNum l p).2.1, .bool (getNum l p).2.2]) ∧ w = w' := by
  obtain ⟨A, c, rfl, hl, hl2⟩ := hx.form
  have hQ := q_spec_l1In p 0 l.length w
  rw [inR_of (by omega) (by omega)] at hQ
  go_enter Tryz.func73, Tryz.ntmps73
  go_wp2_with fail
  refine hQ.mono ?_
  clear hQ
  rintro e w1 ⟨rfl, rfl⟩
  go_wp2_with fail
  go_loop [7, 8] (fun x i => ∃ (j y : Nat), Hid (i = .int .i64 j ∧ x = .int .i64 y ∧ j ≤ 5 ∧ p + j ≤ l.length ∧ y < 128 ^ j ∧ rdNum (l.drop p) = rv (l.drop (p + j)) j y)) (fun _ i => 5 - (intOf i).toNat)
  case atStart => exact ⟨0, 0, Lib.hid ⟨rfl, rfl, by omega, by omega, by simp, rfl⟩⟩
  case round =>
    obtain ⟨j, y, hrel⟩ := hrel
    obtain ⟨rfl, rfl, hj, hpj, hy, hr⟩ := hrel.out
    clear hrel
    have Hr := Lib.hid hr
    have Hy := Lib.hid hy
    clear hr hy
    by_cases h5 : j < 5
    · by_cases hlp : p + j < l.length
      · obtain ⟨b, off, k, rfl, -, -, hck, e0⟩ := hx.at hlp
        have hk := k.toNat_lt
        have hk2 : (k.toNat : Int) < 256 := by omega
        have Hd := Lib.hid (drop_of_get hck)
        clear hck
        have h6 : (j : Int) < (l.length : Int) - p := by omega
        have h7 : (p : Int) + j < (l.length : Int) := by omega
        go_upto_region 9 with fail
        obtain ⟨z, hz⟩ : ∃ z, y + k.toNat % 128 * 128 ^ j = z := ⟨_, rfl⟩
        rw [or_step h5 Hy.out hz]
        obtain ⟨-, hz1, hz2⟩ := sh_step h5 Hy.out hz
        have Hz := Lib.hid hz
        have Hz1 := Lib.hid hz1
        clear hz hz1
        by_cases hc : 128 ≤ k.toNat
        · have hcd : decide (128 ≤ (k.toNat : Int)) = true := decide_eq_true (by omega)
          have hcd2 : decide (127 < (k.toNat : Int)) = true := decide_eq_true (by omega)
          have Hr2 := Lib.hid (show rdNum (l.drop p) = rv (l.drop (p + (j + 1))) (j + 1) z by rw [Hr.out, Hd.out, rv_cons h5, if_pos hc, Hz.out, Nat.add_assoc])
          go_wp2_with fail
          go_round
          case rel => exact ⟨j + 1, z, Lib.hid ⟨by go_num, rfl, by omega, by omega, Hz1.out, Hr2.out⟩⟩
          case measure => simp [intOf]; omega
        · have Hr2 := Lib.hid (show rdNum (l.drop p) = if (0 < j ∧ k.toNat = 0) ∨ 2000000000 < z then none else some (zagzig (z : Int), j + 1) by rw [Hr.out, Hd.out, rv_cons h5, if_neg hc, Hz.out])
          have hc' : ¬ 127 < k.toNat := by omega
          have hcd : decide (128 ≤ (k.toNat : Int)) = false := decide_eq_false (by omega)
          have hcd2 : decide (127 < (k.toNat : Int)) = false := decide_eq_false (by omega)
          by_cases h1 : 2000000000 < z
          · have HG := Lib.hid (getNum_none (by rw [Hr2.out, if_pos (.inr h1)]))
            clear Hr2
            have hzd : decide (2000000000 < (z : Int)) = true := decide_eq_true (by omega)
            by_cases h2 : 0 < j
            · by_cases h3 : k.toNat = 0
              · have hkd : ((k.toNat : Int) == 0) = true := by simp [h3]
                clear h3
                go_wp2_with fail
                refine bodyPost_ret (v := .tuple #[.int .i64 0, .int .i64 0, .bool false]) (by simp [results, Tryz.results73, go_sem]) rfl ⟨by rw [HG.out], rfl⟩
              · have hkd : ((k.toNat : Int) == 0) = false := by simp [h3]
                go_wp2_with fail
                refine bodyPost_ret (v := .tuple #[.int .i64 0, .int .i64 0, .bool false]) (by simp [results, Tryz.results73, go_sem]) rfl ⟨by rw [HG.out], rfl⟩
            · go_wp2_with fail
              refine bodyPost_ret (v := .tuple #[.int .i64 0, .int .i64 0, .bool false]) (by simp [results, Tryz.results73, go_sem]) rfl ⟨by rw [HG.out], rfl⟩
          · have hzd : decide (2000000000 < (z : Int)) = false := decide_eq_false (by omega)
            by_cases h2 : 0 < j ∧ k.toNat = 0
            · have HG := Lib.hid (getNum_none (by rw [Hr2.out, if_pos (.inl h2)]))
              obtain ⟨h2, h3⟩ := h2
              have hkd : ((k.toNat : Int) == 0) = true := by simp [h3]
              clear Hr2 h3
              go_wp2_with fail
              refine bodyPost_ret (v := .tuple #[.int .i64 0, .int .i64 0, .bool false]) (by simp [results, Tryz.results73, go_sem]) rfl ⟨by rw [HG.out], rfl⟩
            · have HG := Lib.hid (getNum_some (by rw [Hr2.out, if_neg (by omega)]))
              have hZ := q_spec_ZagZig z w
              rw [zagzigQ_yes (inR_of (by omega) (by omega))] at hZ
              have HZ := Lib.hid hZ
              clear Hr2 hZ
              by_cases h3 : 0 < j
              · have h4 : ¬ k.toNat = 0 := fun e => h2 ⟨h3, e⟩
                have hkd : ((k.toNat : Int) == 0) = false := by simp [h4]
                clear h2
                go_wp2_with fail
                refine HZ.out.mono ?_
                rintro e w1 ⟨rfl, rfl⟩
                go_wp2_with fail
                refine bodyPost_ret (v := .tuple #[.int .i64 (zagzig z), .int .i64 ((p + (j + 1) : Nat) : Int), .bool true]) (by simp [results, Tryz.results73, go_sem, Int.add_assoc]) rfl ⟨by rw [HG.out], rfl⟩
              · clear h2
                by_cases h4 : k.toNat = 0
                all_goals
                  go_wp2_with fail
                  refine HZ.out.mono ?_
                  rintro e w1 ⟨rfl, rfl⟩
                  go_wp2_with fail
                  refine bodyPost_ret (v := .tuple #[.int .i64 (zagzig z), .int .i64 ((p + (j + 1) : Nat) : Int), .bool true]) (by simp [results, Tryz.results73, go_sem, Int.add_assoc]) rfl ⟨by rw [HG.out], rfl⟩
      · have HG := Lib.hid (getNum_none (show rdNum (l.drop p) = none by rw [Hr.out, List.drop_eq_nil_of_le (by omega), rv_nil]))
        have h6 : ¬ (j : Int) < (l.length : Int) - p := by omega
        have h7 : ¬ (p : Int) + j < (l.length : Int) := by omega
        go_wp2_with fail
        refine bodyPost_ret (v := .tuple #[.int .i64 0, .int .i64 0, .bool false]) (by simp [results, Tryz.results73, go_sem]) rfl ⟨by rw [HG.out], rfl⟩
    · obtain rfl : j = 5 := by omega
      have HG := Lib.hid (getNum_none (show rdNum (l.drop p) = none by rw [Hr.out, rv_five]))
      clear hj h5
      go_wp2_with fail
      refine bodyPost_ret (v := .tuple #[.int .i64 0, .int .i64 0, .bool false]) (by simp [results, Tryz.results73, go_sem]) rfl ⟨by rw [HG.out], rfl⟩
set_option maxHeartbeats 4000000 in
theorem q_spec_GetNum (l : List UInt8) (x : Value) (p : Int) (w : World) {lo hi : Nat} (hx : RdB w lo hi x l) :
    Calls Tryz.prog 73 #[x, .int .i64 p] w fun e w' => e = .returned (.tuple #[.int .i64 (getNum l p).1, .int .i64 (getNum l p).2.1, .bool (getNum l p).2.2]) ∧ w = w' := by
  by_cases h : 0 ≤ p ∧ p ≤ (l.length : Int)
  · obtain ⟨k, rfl⟩ := Int.eq_ofNat_of_zero_le h.1
    exact q0_spec_GetNum l x k w hx (by omega)
  · have HG := Lib.hid (show getNum l p = (0, 0, false) by
      by_cases h0 : p < 0
      · exact getNum_neg h0
      · obtain ⟨k, rfl⟩ := Int.eq_ofNat_of_zero_le (show 0 ≤ p by omega)
        exact getNum_none (by rw [List.drop_eq_nil_of_le (by omega)]; rfl))
    obtain ⟨A, c, rfl, hl, hl2⟩ := hx.form
    have hQ := q_spec_l1In p 0 l.length w
    rw [inR_not (by omega)] at hQ
    clear h
    go_enter Tryz.func73, Tryz.ntmps73
    go_wp2_with fail
    refine hQ.mono ?_
    clear hQ
    rintro e w1 ⟨rfl, rfl⟩
    go_wp2_with fail
    refine bodyPost_ret (v := .tuple #[.int .i64 0, .int .i64 0, .bool false]) (by simp [results, Tryz.results73, go_sem]) rfl ⟨by rw [HG.out], rfl⟩
set_option maxHeartbeats 4000000 in
set_option maxRecDepth 20000 in
theorem q0_impl_GetNum (l : List UInt8) (x : Value) (p : Nat) (w : World) {lo hi : Nat} (hx : RdB w lo hi x l) (hp : p < l.length) :
    Calls Tryz.prog 77 #[x, .int .i64 p] w fun e w' => e = .returned (.tuple #[.int .i64 (getNum l p).1, .int .i64 (getNum l p).2.1, .bool (getNum l p).2.2]) ∧ w = w' := by
  obtain ⟨A, c, rfl, hl, hl2⟩ := hx.form
  have hp0 : decide ((p : Int) < 0) = false := decide_eq_false (by omega)
  have hp1 : decide ((l.length : Int) ≤ p) = false := decide_eq_false (by omega)
  go_enter Tryz.func77, Tryz.ntmps77
  go_wp2_with fail
  go_loop [7, 8] (fun x i => ∃ (j y : Nat), Hid (i = .int .i64 j ∧ x = .int .i64 y ∧ j ≤ 5 ∧ p + j ≤ l.length ∧ y < 128 ^ j ∧ rdNum (l.drop p) = rv (l.drop (p + j)) j y)) (fun _ i => 5 - (intOf i).toNat)
  case atStart => exact ⟨0, 0, Lib.hid ⟨rfl, rfl, by omega, by omega, by simp, rfl⟩⟩
  case round =>
    obtain ⟨j, y, hrel⟩ := hrel
    obtain ⟨rfl, rfl, hj, hpj, hy, hr⟩ := hrel.out
    clear hrel
    have Hr := Lib.hid hr
    have Hy := Lib.hid hy
    clear hr hy
    by_cases h5 : j < 5
    · by_cases hlp : p + j < l.length
      · obtain ⟨b, off, k, rfl, -, -, hck, e0⟩ := hx.at hlp
        have hk := k.toNat_lt
        have hk2 : (k.toNat : Int) < 256 := by omega
        have Hd := Lib.hid (drop_of_get hck)
        clear hck
        have h6 : (j : Int) < (l.length : Int) - p := by omega
        have h7 : (p : Int) + j < (l.length : Int) := by omega
        go_upto_region 9 with fail
        obtain ⟨z, hz⟩ : ∃ z, y + k.toNat % 128 * 128 ^ j = z := ⟨_, rfl⟩
        rw [add_step h5 Hy.out hz]
        obtain ⟨-, hz1, hz2⟩ := sh_step h5 Hy.out hz
        have Hz := Lib.hid hz
        have Hz1 := Lib.hid hz1
        clear hz hz1
        by_cases hc : 128 ≤ k.toNat
        · have hcd : decide (128 ≤ (k.toNat : Int)) = true := decide_eq_true (by omega)
          have hcd2 : decide (127 < (k.toNat : Int)) = true := decide_eq_true (by omega)
          have Hr2 := Lib.hid (show rdNum (l.drop p) = rv (l.drop (p + (j + 1))) (j + 1) z by rw [Hr.out, Hd.out, rv_cons h5, if_pos hc, Hz.out, Nat.add_assoc])
          go_wp2_with fail
          go_round
          case rel => exact ⟨_, _, _, _, _, ⟨j + 1, z, Lib.hid ⟨by go_num, rfl, by omega, by omega, Hz1.out, Hr2.out⟩⟩, rfl, rfl, rfl, rfl, rfl⟩
          case measure => simp [intOf]; omega
        · have Hr2 := Lib.hid (show rdNum (l.drop p) = if (0 < j ∧ k.toNat = 0) ∨ 2000000000 < z then none else some (zagzig (z : Int), j + 1) by rw [Hr.out, Hd.out, rv_cons h5, if_neg hc, Hz.out])
          have hc' : ¬ 127 < k.toNat := by omega
          have hcd : decide (128 ≤ (k.toNat : Int)) = false := decide_eq_false (by omega)
          have hcd2 : decide (127 < (k.toNat : Int)) = false := decide_eq_false (by omega)
          by_cases h1 : 2000000000 < z
          · have HG := Lib.hid (getNum_none (by rw [Hr2.out, if_pos (.inr h1)]))
            clear Hr2
            have hzd : decide (2000000000 < (z : Int)) = true := decide_eq_true (by omega)
            by_cases h2 : 0 < j
            · by_cases h3 : k.toNat = 0
              · have hkd : ((k.toNat : Int) == 0) = true := by simp [h3]
                clear h3
                go_wp2_with fail
                refine bodyPost_ret (v := .tuple #[.int .i64 0, .int .i64 0, .bool false]) (by simp [results, Tryz.results77, go_sem]) rfl ⟨by rw [HG.out], rfl⟩
              · have hkd : ((k.toNat : Int) == 0) = false := by simp [h3]
                go_wp2_with fail
                refine bodyPost_ret (v := .tuple #[.int .i64 0, .int .i64 0, .bool false]) (by simp [results, Tryz.results77, go_sem]) rfl ⟨by rw [HG.out], rfl⟩
            · go_wp2_with fail
              refine bodyPost_ret (v := .tuple #[.int .i64 0, .int .i64 0, .bool false]) (by simp [results, Tryz.results77, go_sem]) rfl ⟨by rw [HG.out], rfl⟩
          · have hzd : decide (2000000000 < (z : Int)) = false := decide_eq_false (by omega)
            by_cases h2 : 0 < j ∧ k.toNat = 0
            · have HG := Lib.hid (getNum_none (by rw [Hr2.out, if_pos (.inl h2)]))
              obtain ⟨h2, h3⟩ := h2
              have hkd : ((k.toNat : Int) == 0) = true := by simp [h3]
              clear Hr2 h3
              go_wp2_with fail
              refine bodyPost_ret (v := .tuple #[.int .i64 0, .int .i64 0, .bool false]) (by simp [results, Tryz.results77, go_sem]) rfl ⟨by rw [HG.out], rfl⟩
            · have HG := Lib.hid (getNum_some (by rw [Hr2.out, if_neg (by omega)]))
              have hZ := q_impl_ZagZig z w
              rw [zagzigQ_yes (inR_of (by omega) (by omega))] at hZ
              have HZ := Lib.hid hZ
              clear Hr2 hZ
              by_cases h3 : 0 < j
              · have h4 : ¬ k.toNat = 0 := fun e => h2 ⟨h3, e⟩
                have hkd : ((k.toNat : Int) == 0) = false := by simp [h4]
                clear h2
                go_wp2_with fail
                refine HZ.out.mono ?_
                rintro e w1 ⟨rfl, rfl⟩
                go_wp2_with fail
                refine bodyPost_ret (v := .tuple #[.int .i64 (zagzig z), .int .i64 ((p + (j + 1) : Nat) : Int), .bool true]) (by simp [results, Tryz.results77, go_sem, Int.add_assoc]) rfl ⟨by rw [HG.out], rfl⟩
              · clear h2
                by_cases h4 : k.toNat = 0
                all_goals
                  go_wp2_with fail
                  refine HZ.out.mono ?_
                  rintro e w1 ⟨rfl, rfl⟩
                  go_wp2_with fail
                  refine bodyPost_ret (v := .tuple #[.int .i64 (zagzig z), .int .i64 ((p + (j + 1) : Nat) : Int), .bool true]) (by simp [results, Tryz.results77, go_sem, Int.add_assoc]) rfl ⟨by rw [HG.out], rfl⟩
      · have HG := Lib.hid (getNum_none (show rdNum (l.drop p) = none by rw [Hr.out, List.drop_eq_nil_of_le (by omega), rv_nil]))
        have h6 : ¬ (j : Int) < (l.length : Int) - p := by omega
        have h7 : ¬ (p : Int) + j < (l.length : Int) := by omega
        go_wp2_with fail
        refine bodyPost_ret (v := .tuple #[.int .i64 0, .int .i64 0, .bool false]) (by simp [results, Tryz.results77, go_sem]) rfl ⟨by rw [HG.out], rfl⟩
    · obtain rfl : j = 5 := by omega
      have HG := Lib.hid (getNum_none (show rdNum (l.drop p) = none by rw [Hr.out, rv_five]))
      clear hj h5
      go_wp2_with fail
      refine bodyPost_ret (v := .tuple #[.int .i64 0, .int .i64 0, .bool false]) (by simp [results, Tryz.results77, go_sem]) rfl ⟨by rw [HG.out], rfl⟩
set_option maxHeartbeats 4000000 in
theorem q_impl_GetNum (l : List UInt8) (x : Value) (p : Int) (w : World) {lo hi : Nat} (hx : RdB w lo hi x l) :
    Calls Tryz.prog 77 #[x, .int .i64 p] w fun e w' => e = .returned (.tuple #[.int .i64 (getNum l p).1, .int .i64 (getNum l p).2.1, .bool (getNum l p).2.2]) ∧ w = w' := by
  by_cases h : 0 ≤ p ∧ p < (l.length : Int)
  · obtain ⟨k, rfl⟩ := Int.eq_ofNat_of_zero_le h.1
    exact q0_impl_GetNum l x k w hx (by omega)
  · have HG := Lib.hid (show getNum l p = (0, 0, false) by
      by_cases h0 : p < 0
      · exact getNum_neg h0
      · obtain ⟨k, rfl⟩ := Int.eq_ofNat_of_zero_le (show 0 ≤ p by omega)
        exact getNum_none (by rw [List.drop_eq_nil_of_le (by omega)]; rfl))
    obtain ⟨A, c, rfl, hl, hl2⟩ := hx.form
    by_cases h0 : p < 0
    · clear h
      go_enter Tryz.func77, Tryz.ntmps77
      go_wp2_with fail
      refine bodyPost_ret (v := .tuple #[.int .i64 0, .int .i64 0, .bool false]) (by simp [results, Tryz.results77, go_sem]) rfl ⟨by rw [HG.out], rfl⟩
    · have h1 : (l.length : Int) ≤ p := by omega
      clear h
      go_enter Tryz.func77, Tryz.ntmps77
      go_wp2_with fail
      refine bodyPost_ret (v := .tuple #[.int .i64 0, .int .i64 0, .bool false]) (by simp [results, Tryz.results77, go_sem]) rfl ⟨by rw [HG.out], rfl⟩
end Go.Proofs.YticimccfeohpcaaGreat
namespace Go.Lb
open Go.RowKit
theorem bitLenAux_bl : ∀ (f x : Nat), x < 2 ^ f → Lib.bitLenAux f x = bl x
  | 0, x, h => by
    have : x = 0 := by simp at h; exact h
    subst this
    rw [bl_zero]
    rfl
  | f + 1, x, h => by
    unfold Lib.bitLenAux
    split
    · rename_i h0
      subst h0
      exact bl_zero.symm
    · rename_i h0
      rw [bitLenAux_bl f (x / 2) (by rw [Nat.pow_succ] at h; omega), bl_pos h0]
      omega
theorem bitLen_bl {x : Nat} (h : x ≤ 2147483647) : Lib.bitLen x = bl x := bitLenAux_bl 64 x (by omega)
theorem bits_and_one (k : IntKind) (hk : k = .i64 ∨ k = .u8) {x : Nat} (h : x < 2 ^ 8) : bits .and k (x : Int) 1 = ((x % 2 : Nat) : Int) := by
  rcases hk with rfl | rfl
  · exact (bits_mask .i64 62 (by decide) (fun n h0 h1 => by rw [IntKind.wrap_i64]; omega) 1 (by decide) (x : Int) (by omega) (by omega)).trans (by simp)
  · exact (bits_mask .u8 8 (by decide) wraps_u8 1 (by decide) (x : Int) (by omega) (by omega)).trans (by simp)
theorem bit_div (c : UInt8) (t : Nat) : ((c.toNat / 2 ^ t % 2 : Nat) : Int) = if bitB c t then 1 else 0 := by
  unfold bitB
  rw [Nat.testBit_eq_decide_div_mod_eq]
  have := Nat.mod_two_eq_zero_or_one (c.toNat / 2 ^ t)
  by_cases h : c.toNat / 2 ^ t % 2 = 1
  · simp [h]
  · have h0 : c.toNat / 2 ^ t % 2 = 0 := by omega
    simp [h0]
theorem bitAt_neg {b : List UInt8} {n : Int} (h : n < 0) : bitAt b n = 0 := by rw [bitAt, if_pos h]
theorem bitAt_far {b : List UInt8} {n : Nat} (h : b.length ≤ n / 8) : bitAt b (n : Int) = 0 := by
  rw [bitAt, if_neg (by omega), Int.toNat_natCast, bitL_far (by omega)]
  rfl
theorem bitAt_in {b : List UInt8} {n : Nat} {c : UInt8} (h : b[n / 8]? = some c) : bitAt b (n : Int) = ((c.toNat / 2 ^ (n % 8) % 2 : Nat) : Int) := by
  rw [bitAt, if_neg (by omega), Int.toNat_natCast, bitL, List.getD_eq_getElem?_getD, h, bit_div]
  rfl
theorem bitAt_01 (b : List UInt8) (n : Int) : bitAt b n = 0 ∨ bitAt b n = 1 := by
  unfold bitAt
  split
  · exact .inl rfl
  · split
    · exact .inr rfl
    · exact .inl rfl
theorem byte_div_lt (c : UInt8) (t : Nat) : c.toNat / 2 ^ t < 2 ^ 8 := Nat.lt_of_le_of_lt (Nat.div_le_self _ _) c.toNat_lt
theorem bytesFor_yes {k w : Nat} (h1 : inR (k : Int) 0 64 = true) (h2 : inR (w : Int) 0 31 = true) : bytesFor k w = ((k : Int) * w + 7) / 8 := by rw [bytesFor, h1, h2]; rfl
theorem bytesFor_no {k w : Int} (h : (inR k 0 64 && inR w 0 31) = false) : bytesFor k w = 0 := by rw [bytesFor, h]; rfl
theorem mul_le_1984 {k w : Nat} (h1 : k ≤ 64) (h2 : w ≤ 31) : (k : Int) * w ≤ 1984 ∧ 0 ≤ (k : Int) * w := by
  have := Nat.mul_le_mul h1 h2
  rw [← Int.natCast_mul]
  omega
theorem widthOf_yes {n : Int} (h : inR n 1 2147483647 = true) : widthOf n = bl n.toNat := by rw [widthOf, if_pos h]
theorem widthOf_no {n : Int} (h : inR n 1 2147483647 = false) : widthOf n = 0 := by rw [widthOf, if_neg (by simp [h])]
theorem packOk_not {l : List Int} {w : Int} {i : Nat} {n : Int} (h : l[i]? = some n) (hf : fitsW w n = false) : packOk l w = false := by
  rw [packOk, Bool.and_eq_false_iff]
  right
  rw [Bool.eq_false_iff]
  intro h3
  rw [List.all_eq_true] at h3
  rw [h3 n (mem_of_get h)] at hf
  cases hf
theorem allf_step {q : List Int} {i : Nat} {n : Int} {p : Int → Bool} (h : q[i]? = some n) (h1 : (q.take i).all p = true) (h2 : p n = true) : (q.take (i + 1)).all p = true := by
  rw [take_of_get h, List.all_append, h1]
  simp [h2]
end Go.Lb
namespace Go.Proofs.YticimccfeohpcaaGreat
open Go.Sort Go.ChangeShapes Go.WideShapes Go.ChangeAt Go.RowKit Go.Lb
set_option maxHeartbeats 2000000 in
set_option maxRecDepth 20000 in
theorem q_spec_BytesFor (k v : Int) (w : World) :
    Calls Tryz.prog 164 #[.int .i64 k, .int .i64 v] w fun e w' => e = .returned (.int .i64 (bytesFor k v)) ∧ w = w' := by
  have hQ := q_spec_l1In k 0 64 w
  have hR := q_spec_l1In v 0 31 w
  cases h1 : inR k 0 64
  · rw [h1] at hQ
    have HQ := Lib.hid hQ
    have H := Lib.hid (bytesFor_no (k := k) (w := v) (by rw [h1]; rfl))
    clear h1 hQ hR
    go_enter Tryz.func164, Tryz.ntmps164
    go_wp2_with fail
    refine HQ.out.mono ?_
    rintro e w1 ⟨rfl, rfl⟩
    go_wp2_with fail
    go_ret
    exact ⟨ret_int H.out.symm, rfl⟩
  · rw [h1] at hQ
    have HQ := Lib.hid hQ
    cases h2 : inR v 0 31
    · rw [h2] at hR
      have HR := Lib.hid hR
      have H := Lib.hid (bytesFor_no (k := k) (w := v) (by rw [h1, h2]; rfl))
      clear h1 h2 hQ hR
      go_enter Tryz.func164, Tryz.ntmps164
      go_wp2_with fail
      refine HQ.out.mono ?_
      rintro e w1 ⟨rfl, rfl⟩
      go_wp2_with fail
      refine HR.out.mono ?_
      rintro e w1 ⟨rfl, rfl⟩
      go_wp2_with fail
      go_ret
      exact ⟨ret_int H.out.symm, rfl⟩
    · rw [h2] at hR
      have HR := Lib.hid hR
      have e1 := inR_yes h1
      have e2 := inR_yes h2
      obtain ⟨k, rfl⟩ := Int.eq_ofNat_of_zero_le e1.1
      obtain ⟨v, rfl⟩ := Int.eq_ofNat_of_zero_le e2.1
      obtain ⟨m1, m0⟩ := mul_le_1984 (show k ≤ 64 by omega) (show v ≤ 31 by omega)
      have H := Lib.hid (bytesFor_yes h1 h2)
      clear h1 h2 hQ hR e1 e2
      go_enter Tryz.func164, Tryz.ntmps164
      go_wp2_with fail
      refine HQ.out.mono ?_
      rintro e w1 ⟨rfl, rfl⟩
      go_wp2_with fail
      refine HR.out.mono ?_
      rintro e w1 ⟨rfl, rfl⟩
      go_wp2_with fail
      go_ret
      exact ⟨ret_int (by rw [H.out]), rfl⟩
set_option maxHeartbeats 2000000 in
set_option maxRecDepth 20000 in
theorem q_spec_BitAt (l : List UInt8) (x : Value) (n : Int) (w : World) {lo hi : Nat} (hx : RdB w lo hi x l) (hn : n ≤ 1000000000000) :
    Calls Tryz.prog 165 #[x, .int .i64 n] w fun e w' => e = .returned (.int .i64 (bitAt l n)) ∧ w = w' := by
  obtain ⟨A, c, rfl, hl, hl2⟩ := hx.form
  by_cases h0 : n < 0
  · have H := Lib.hid (bitAt_neg (b := l) h0)
    go_enter Tryz.func165, Tryz.ntmps165
    go_wp2_with fail
    go_ret
    exact ⟨ret_int H.out.symm, rfl⟩
  obtain ⟨n, rfl⟩ := Int.eq_ofNat_of_zero_le (show 0 ≤ n by omega)
  clear h0
  by_cases h1 : l.length ≤ n / 8
  · have H := Lib.hid (bitAt_far (b := l) h1)
    have hd : decide ((l.length : Int) ≤ (n : Int) / 8) = true := decide_eq_true (by omega)
    clear h1
    go_enter Tryz.func165, Tryz.ntmps165
    go_wp2_with fail
    go_ret
    exact ⟨ret_int H.out.symm, rfl⟩
  · have hd : decide ((l.length : Int) ≤ (n : Int) / 8) = false := decide_eq_false (by omega)
    have h2 : n / 8 < l.length := by omega
    obtain ⟨b, off, k, rfl, -, -, hk, e0⟩ := hx.at h2
    have H := Lib.hid (bitAt_in hk)
    have hm : n % 8 < 8 := Nat.mod_lt _ (by decide)
    have hk256 := k.toNat_lt
    clear hk h1
    go_enter Tryz.func165, Tryz.ntmps165
    go_wp2_with fail
    go_ret
    refine ⟨ret_int ?_, rfl⟩
    rw [H.out]
    have e := bits_and_one .i64 (.inl rfl) (byte_div_lt k (n % 8))
    rw [show ((k.toNat / 2 ^ (n % 8) : Nat) : Int) = (k.toNat : Int) / 2 ^ (n % 8) by simp] at e
    rw [e]

set_option maxHeartbeats 2000000 in
set_option maxRecDepth 20000 in
theorem q_impl_BytesFor (k v : Int) (w : World) :
    Calls Tryz.prog 166 #[.int .i64 k, .int .i64 v] w fun e w' => e = .returned (.int .i64 (bytesFor k v)) ∧ w = w' := by
  have hQ := q_impl_within k 0 64 w
  have hR := q_impl_within v 0 31 w
  cases h1 : inR k 0 64
  · rw [h1] at hQ
    have HQ := Lib.hid hQ
    have H := Lib.hid (bytesFor_no (k := k) (w := v) (by rw [h1]; rfl))
    clear h1 hQ hR
    go_enter Tryz.func166, Tryz.ntmps166
    go_wp2_with fail
    refine HQ.out.mono ?_
    rintro e w1 ⟨rfl, rfl⟩
    go_wp2_with fail
    go_ret
    exact ⟨ret_int H.out.symm, rfl⟩
  · rw [h1] at hQ
    have HQ := Lib.hid hQ
    cases h2 : inR v 0 31
    · rw [h2] at hR
      have HR := Lib.hid hR
      have H := Lib.hid (bytesFor_no (k := k) (w := v) (by rw [h1, h2]; rfl))
      clear h1 h2 hQ hR
      go_enter Tryz.func166, Tryz.ntmps166
      go_wp2_with fail
      refine HQ.out.mono ?_
      rintro e w1 ⟨rfl, rfl⟩
      go_wp2_with fail
      refine HR.out.mono ?_
      rintro e w1 ⟨rfl, rfl⟩
      go_wp2_with fail
      go_ret
      exact ⟨ret_int H.out.symm, rfl⟩
    · rw [h2] at hR
      have HR := Lib.hid hR
      have e1 := inR_yes h1
      have e2 := inR_yes h2
      obtain ⟨k, rfl⟩ := Int.eq_ofNat_of_zero_le e1.1
      obtain ⟨v, rfl⟩ := Int.eq_ofNat_of_zero_le e2.1
      obtain ⟨m1, m0⟩ := mul_le_1984 (show k ≤ 64 by omega) (show v ≤ 31 by omega)
      have H := Lib.hid (bytesFor_yes h1 h2)
      clear h1 h2 hQ hR e1 e2
      go_enter Tryz.func166, Tryz.ntmps166
      go_wp2_with fail
      refine HQ.out.mono ?_
      rintro e w1 ⟨rfl, rfl⟩
      go_wp2_with fail
      refine HR.out.mono ?_
      rintro e w1 ⟨rfl, rfl⟩
      go_wp2_with fail
      go_ret
      exact ⟨ret_int (by rw [H.out]), rfl⟩
set_option maxHeartbeats 2000000 in
set_option maxRecDepth 20000 in
theorem q_impl_BitAt (l : List UInt8) (x : Value) (n : Int) (w : World) {lo hi : Nat} (hx : RdB w lo hi x l) (hn : n ≤ 1000000000000) :
    Calls Tryz.prog 167 #[x, .int .i64 n] w fun e w' => e = .returned (.int .i64 (bitAt l n)) ∧ w = w' := by
  obtain ⟨A, c, rfl, hl, hl2⟩ := hx.form
  by_cases h0 : n < 0
  · have H := Lib.hid (bitAt_neg (b := l) h0)
    go_enter Tryz.func167, Tryz.ntmps167
    go_wp2_with fail
    go_ret
    exact ⟨ret_int H.out.symm, rfl⟩
  obtain ⟨n, rfl⟩ := Int.eq_ofNat_of_zero_le (show 0 ≤ n by omega)
  clear h0
  by_cases h1 : l.length ≤ n / 8
  · have H := Lib.hid (bitAt_far (b := l) h1)
    have hd : decide ((l.length : Int) ≤ (n : Int) / 8) = true := decide_eq_true (by omega)
    clear h1
    go_enter Tryz.func167, Tryz.ntmps167
    go_wp2_with fail
    go_ret
    exact ⟨ret_int H.out.symm, rfl⟩
  · have hd : decide ((l.length : Int) ≤ (n : Int) / 8) = false := decide_eq_false (by omega)
    have h2 : n / 8 < l.length := by omega
    obtain ⟨b, off, k, rfl, -, -, hk, e0⟩ := hx.at h2
    have H := Lib.hid (bitAt_in hk)
    have hm : n % 8 < 8 := Nat.mod_lt _ (by decide)
    have hk256 := k.toNat_lt
    clear hk h1
    go_enter Tryz.func167, Tryz.ntmps167
    go_wp2_with fail
    go_ret
    refine ⟨ret_int ?_, rfl⟩
    rw [H.out]
    have e := bits_and_one .u8 (.inr rfl) (byte_div_lt k (n % 8))
    rw [show ((k.toNat / 2 ^ (n % 8) : Nat) : Int) = (k.toNat : Int) / 2 ^ (n % 8) by simp] at e
    rw [e]
    exact wrap64_in (by omega) (by omega)
set_option maxHeartbeats 2000000 in
set_option maxRecDepth 20000 in
theorem q_impl_WidthOf (n : Int) (w : World) :
    Calls Tryz.prog 132 #[.int .i64 n] w fun e w' => e = .returned (.int .i64 (widthOf n)) ∧ w = w' := by
  have hQ := q_impl_within n 1 2147483647 w
  cases h1 : inR n 1 2147483647
  · rw [h1] at hQ
    have HQ := Lib.hid hQ
    have H := Lib.hid (widthOf_no h1)
    clear h1 hQ
    go_enter Tryz.func132, Tryz.ntmps132
    go_wp2_with fail
    refine HQ.out.mono ?_
    rintro e w1 ⟨rfl, rfl⟩
    go_wp2_with fail
    go_ret
    exact ⟨ret_int (by rw [H.out]; rfl), rfl⟩
  · rw [h1] at hQ
    have HQ := Lib.hid hQ
    have e1 := inR_yes h1
    obtain ⟨k, rfl⟩ := Int.eq_ofNat_of_zero_le (show 0 ≤ n by omega)
    have H := Lib.hid (show widthOf (k : Int) = Lib.bitLen k by rw [widthOf_yes h1, Int.toNat_natCast, bitLen_bl (by omega)])
    have HL := Lib.hid (Go.Proofs.Tryz.bits_Len (k : Int) w (by omega) (by omega))
    clear h1 hQ
    go_enter Tryz.func132, Tryz.ntmps132
    go_wp2_with fail
    refine HQ.out.mono ?_
    rintro e w1 ⟨rfl, rfl⟩
    go_wp2_with fail
    refine HL.out.mono ?_
    rintro e w1 ⟨rfl, rfl⟩
    go_wp2_with fail
    go_ret
    exact ⟨ret_int (by rw [H.out]), rfl⟩
set_option maxHeartbeats 2000000 in
set_option maxRecDepth 20000 in
theorem q_spec_WidthOf (n : Int) (w : World) :
    Calls Tryz.prog 124 #[.int .i64 n] w fun e w' => e = .returned (.int .i64 (widthOf n)) ∧ w = w' := by
  have hQ := q_spec_l1In n 0 2147483647 w
  cases h1 : inR n 0 2147483647
  · rw [h1] at hQ
    have HQ := Lib.hid hQ
    have H := Lib.hid (widthOf_no (n := n) (inR_not (by have := inR_no h1; omega)))
    clear h1 hQ
    go_enter Tryz.func124, Tryz.ntmps124
    go_wp2_with fail
    refine HQ.out.mono ?_
    rintro e w1 ⟨rfl, rfl⟩
    go_wp2_with fail
    go_ret
    exact ⟨ret_int (by rw [H.out]; rfl), rfl⟩
  · rw [h1] at hQ
    have HQ := Lib.hid hQ
    have e1 := inR_yes h1
    obtain ⟨k, rfl⟩ := Int.eq_ofNat_of_zero_le e1.1
    have H := Lib.hid (show widthOf (k : Int) = bl k by
      by_cases h0 : k = 0
      · subst h0
        rw [bl_zero]
        exact widthOf_no (inR_not (by omega))
      · rw [widthOf_yes (inR_of (by omega) (by omega)), Int.toNat_natCast])
    have hbl := bl_max (show k < 2147483648 by omega)
    have Hbl := Lib.hid hbl
    clear h1 hQ hbl
    go_enter Tryz.func124, Tryz.ntmps124
    go_wp2_with fail
    refine HQ.out.mono ?_
    rintro e w1 ⟨rfl, rfl⟩
    go_wp2_with fail
    go_loop [3, 4] (fun v x => ∃ (j y : Nat), Hid (x = .int .i64 y ∧ v = .int .i64 j ∧ y ≤ 2147483647 ∧ j + bl y = bl k)) (fun _ x => (intOf x).toNat)
    case atStart => exact ⟨0, k, Lib.hid ⟨rfl, rfl, by omega, by omega⟩⟩
    case round =>
      obtain ⟨j, y, hrel⟩ := hrel
      obtain ⟨rfl, rfl, hy, hj⟩ := hrel.out
      have hj31 : j ≤ 31 := by have := Hbl.out; omega
      have Hj := Lib.hid hj
      clear hrel hj
      by_cases h0 : 0 < y
      · have Hj2 := Lib.hid (show j + 1 + bl (y / 2) = bl k by rw [← Hj.out, bl_pos (show y ≠ 0 by omega)]; omega)
        go_wp2_with fail
        go_round
        case rel => exact ⟨j + 1, y / 2, Lib.hid ⟨by simp, by go_num, by omega, Hj2.out⟩⟩
        case measure => simp [intOf]; omega
      · obtain rfl : y = 0 := by omega
        have Hj2 := Lib.hid (show bl k = j by have h := Hj.out; rw [bl_zero] at h; exact h.symm)
        clear hy h0
        go_wp2_with fail
        go_ret
        exact ⟨ret_int (by rw [H.out, Hj2.out]), rfl⟩
set_option maxHeartbeats 2000000 in
set_option maxRecDepth 20000 in
theorem q_spec_WidthFor (q : List Int) (x : Value) (w : World) {lo hi : Nat} (hx : RdI w lo hi x q) :
    Calls Tryz.prog 150 #[x] w fun e w' => e = .returned (.int .i64 (widthFor q)) ∧ w = w' := by
  obtain ⟨A, c, rfl, hl, hl2⟩ := hx.form
  go_enter Tryz.func150, Tryz.ntmps150
  go_wp2_with fail
  go_loop [3, 4] (fun v i => ∃ j : Nat, Hid (i = .int .i64 j ∧ v = .int .i64 (widthFor (q.take j)) ∧ j ≤ q.length)) (fun _ i => q.length - (intOf i).toNat)
  case atStart => exact ⟨0, Lib.hid ⟨rfl, rfl, by omega⟩⟩
  case round =>
    obtain ⟨j, hrel⟩ := hrel
    obtain ⟨rfl, rfl, hj⟩ := hrel.out
    clear hrel
    by_cases hjl : j < q.length
    · obtain ⟨b, off, n, rfl, -, -, hn, e0⟩ := hx.at hjl
      have HS := Lib.hid (widthFor_step hn)
      have HQ := Lib.hid (q_spec_WidthOf n w)
      clear hn
      generalize widthFor (q.take j) = a at HS ⊢
      generalize widthOf n = d at HS HQ
      by_cases hd : a < d
      · have HS2 := Lib.hid (show widthFor (q.take (j + 1)) = d by rw [HS.out]; omega)
        have hd' : decide ((a : Int) < (d : Int)) = true := decide_eq_true (by omega)
        clear HS
        go_wp2_with fail
        refine HQ.out.mono ?_
        rintro e w1 ⟨rfl, rfl⟩
        go_wp2_with fail
        refine HQ.out.mono ?_
        rintro e w1 ⟨rfl, rfl⟩
        go_wp2_with fail
        go_round
        case rel => exact ⟨j + 1, Lib.hid ⟨by go_num, by rw [HS2.out], by omega⟩⟩
        case measure => simp [intOf]; omega
      · have HS2 := Lib.hid (show widthFor (q.take (j + 1)) = a by rw [HS.out]; omega)
        have hd' : decide ((a : Int) < (d : Int)) = false := decide_eq_false (by omega)
        clear HS
        go_wp2_with fail
        refine HQ.out.mono ?_
        rintro e w1 ⟨rfl, rfl⟩
        go_wp2_with fail
        go_round
        case rel => exact ⟨j + 1, Lib.hid ⟨by go_num, by rw [HS2.out], by omega⟩⟩
        case measure => simp [intOf]; omega
    · obtain rfl : j = q.length := by omega
      have HS2 := Lib.hid (show widthFor (q.take q.length) = widthFor q by rw [List.take_length])
      go_wp2_with fail
      go_ret
      exact ⟨ret_int (by rw [← HS2.out]), rfl⟩
set_option maxHeartbeats 2000000 in
set_option maxRecDepth 20000 in
theorem q_impl_WidthFor (q : List Int) (x : Value) (w : World) {lo hi : Nat} (hx : RdI w lo hi x q) :
    Calls Tryz.prog 143 #[x] w fun e w' => e = .returned (.int .i64 (widthFor q)) ∧ w = w' := by
  obtain ⟨A, c, rfl, hl, hl2⟩ := hx.form
  go_enter Tryz.func143, Tryz.ntmps143
  go_wp2_with fail
  go_loop [3, 8] (fun v i => ∃ j : Nat, Hid (i = .int .i64 j ∧ v = .int .i64 (widthFor (q.take j)) ∧ j ≤ q.length)) (fun _ i => q.length - (intOf i).toNat)
  case atStart => exact ⟨0, Lib.hid ⟨rfl, rfl, by omega⟩⟩
  case round =>
    obtain ⟨j, hrel⟩ := hrel
    obtain ⟨rfl, rfl, hj⟩ := hrel.out
    clear hrel
    by_cases hjl : j < q.length
    · obtain ⟨b, off, n, rfl, -, -, hn, e0⟩ := hx.at hjl
      have HS := Lib.hid (widthFor_step hn)
      have HQ := Lib.hid (q_impl_WidthOf n w)
      clear hn
      generalize widthFor (q.take j) = a at HS ⊢
      generalize widthOf n = d at HS HQ
      go_wp2_with fail
      refine HQ.out.mono ?_
      rintro e w1 ⟨rfl, rfl⟩
      go_wp2_with fail
      go_round
      case rel => exact ⟨j + 1, Lib.hid ⟨by go_num, by rw [HS.out]; congr 1; omega, by omega⟩⟩
      case measure => simp [intOf]; omega
    · obtain rfl : j = q.length := by omega
      have HS2 := Lib.hid (show widthFor (q.take q.length) = widthFor q by rw [List.take_length])
      go_wp2_with fail
      go_ret
      exact ⟨ret_int (by rw [← HS2.out]), rfl⟩
set_option maxHeartbeats 2000000 in
set_option maxRecDepth 20000 in
theorem q_spec_l2Fits (q : List Int) (x : Value) (v : Int) (w : World) {lo hi : Nat} (hx : RdI w lo hi x q) :
    Calls Tryz.prog 179 #[x, .int .i64 v] w fun e w' => e = .returned (.bool (packOk q v)) ∧ w = w' := by
  obtain ⟨A, c, rfl, hl, hl2⟩ := hx.form
  go_enter Tryz.func179, Tryz.ntmps179
  go_wp2_with fail
  go_loop [5] (fun i => ∃ j : Nat, Hid (i = .int .i64 j ∧ (q.take j).all (fitsW v) = true ∧ j ≤ q.length)) (fun i => q.length - (intOf i).toNat)
  case atStart => exact ⟨0, Lib.hid ⟨rfl, rfl, by omega⟩⟩
  case round =>
    obtain ⟨j, hrel⟩ := hrel
    obtain ⟨rfl, hall, hj⟩ := hrel.out
    have Hall := Lib.hid hall
    clear hrel hall
    by_cases hjl : j < q.length
    · obtain ⟨b, off, n, rfl, -, -, hn, e0⟩ := hx.at hjl
      have Hn := Lib.hid hn
      clear hn
      have hQ := q_spec_l1In n 0 2147483647 w
      cases h1 : inR n 0 2147483647
      · rw [h1] at hQ
        have HQ := Lib.hid hQ
        have H := Lib.hid (packOk_not (w := v) Hn.out (by rw [fitsW, h1]; rfl))
        clear h1 hQ
        go_wp2_with fail
        refine HQ.out.mono ?_
        rintro e w1 ⟨rfl, rfl⟩
        go_wp2_with fail
        go_ret
        exact ⟨ret_bool H.out.symm, rfl⟩
      · rw [h1] at hQ
        have HQ := Lib.hid hQ
        have HW := Lib.hid (q_spec_WidthOf n w)
        by_cases h2 : (widthOf n : Int) ≤ v
        · have Hall' := Lib.hid (allf_step Hn.out Hall.out (by rw [fitsW, h1, decide_eq_true h2]; rfl))
          have hd : decide (v < (widthOf n : Int)) = false := decide_eq_false (by omega)
          clear h1 hQ
          generalize widthOf n = d at *
          go_wp2_with fail
          refine HQ.out.mono ?_
          rintro e w1 ⟨rfl, rfl⟩
          go_wp2_with fail
          refine HW.out.mono ?_
          rintro e w1 ⟨rfl, rfl⟩
          go_wp2_with fail
          go_round
          case rel => exact ⟨j + 1, Lib.hid ⟨by go_num, Hall'.out, by omega⟩⟩
          case measure => simp [intOf]; omega
        · have H := Lib.hid (packOk_not (w := v) Hn.out (by rw [fitsW, h1, decide_eq_false h2]; rfl))
          have hd : decide (v < (widthOf n : Int)) = true := decide_eq_true (by omega)
          clear h1 hQ
          generalize widthOf n = d at *
          go_wp2_with fail
          refine HQ.out.mono ?_
          rintro e w1 ⟨rfl, rfl⟩
          go_wp2_with fail
          refine HW.out.mono ?_
          rintro e w1 ⟨rfl, rfl⟩
          go_wp2_with fail
          go_ret
          exact ⟨ret_bool H.out.symm, rfl⟩
    · obtain rfl : j = q.length := by omega
      have H := Lib.hid (show packOk q v = inR v 0 31 by
        have h := Hall.out
        rw [List.take_length] at h
        rw [packOk, h, Bool.and_true])
      have HQ := Lib.hid (q_spec_l1In v 0 31 w)
      go_wp2_with fail
      refine HQ.out.mono ?_
      rintro e w1 ⟨rfl, rfl⟩
      go_wp2_with fail
      go_ret
      exact ⟨ret_bool H.out.symm, rfl⟩
end Go.Proofs.YticimccfeohpcaaGreat
namespace Go.Proofs.YticimccfeohpcaaGreat
open Go.Sort Go.ChangeShapes Go.WideShapes Go.ChangeAt Go.RowKit Go.Lb

set_option maxHeartbeats 1000000 in
theorem impl_cloneBytes (l : List UInt8) (x : Value) (w : World) {lo hi : Nat} (hx : RdB w lo hi x l) (hhi : hi ≤ w.heap.size) (hn : l.length ≤ 1099511627776) :
    Calls Tryz.prog 116 #[x] w fun e w' => ∃ v, e = .returned v ∧ Own 5 1 w' w.heap.size w'.heap.size v l.length (bc l) ∧ Below w.heap.size w w' := by
  obtain ⟨A, c, rfl, hl, hl2⟩ := hx.form
  obtain ⟨i0, hif, hz0, hz1, hz2⟩ := info_parts info_u8
  replace hif := Lib.hid hif
  replace hz0 := Lib.hid hz0
  replace hz1 := Lib.hid hz1
  replace hz2 := Lib.hid hz2
  have hN := Lib.hid ((hx.below (up_a1 w (.cells #[] 5)) hhi).spread)
  have own0 := World.ownsRow_made w (base := w.heap.size) (e := 5) (size := 1) #[] 0 (Nat.le_refl _) (by decide) rfl
  go_enter Tryz.func116, Tryz.ntmps116
  go_wp2_with (at_builtin; refine wpl_spread rfl _ _ 34 rfl w.heap.size 5 i0 _ 1 1 Tryz.underlying34 hif.out hz0.out hz1.out hz2.out rfl (by decide) (by decide) own0 rfl rfl (bc_len l) hN.out.2.1 hN.out.2.2 (bc_one l) (by omega) (by simp) ?_)
  intro v' w1 hown hgrow _
  have hb := below_app ((Below.refl w.heap.size w).alloc (Nat.le_refl _) _) own0 hgrow (Nat.le_refl _)
  try simp only [Nat.zero_add, List.nil_append] at hown
  clear hgrow own0
  go_wp2_with fail
  go_ret
  exact ⟨_, rfl, .new hown, hb⟩
set_option maxHeartbeats 4000000 in
set_option maxRecDepth 20000 in
theorem spec_PutNum (l : List UInt8) (x : Value) (n : Int) (w : World) {lo hi : Nat} (hx : RdB w lo hi x l) (hhi : hi ≤ w.heap.size) (hn : l.length ≤ 1000000000000) :
    Calls Tryz.prog 68 #[x, .int .i64 n] w fun e w' => ∃ v, e = .returned v ∧ Own 5 1 w' w.heap.size w'.heap.size v (l ++ numB n).length (bc (l ++ numB n)) ∧ Below w.heap.size w w' := by
  obtain ⟨A, c, rfl, hl, hl2⟩ := hx.form
  obtain ⟨i0, hif, hz0, hz1, hz2⟩ := info_parts info_u8
  replace hif := Lib.hid hif
  replace hz0 := Lib.hid hz0
  replace hz1 := Lib.hid hz1
  replace hz2 := Lib.hid hz2
  have hN := Lib.hid ((hx.below (up_a1 w (.cells #[] 5)) hhi).spread)
  have own0 := World.ownsRow_made w (base := w.heap.size) (e := 5) (size := 1) #[] 0 (Nat.le_refl _) (by decide) rfl
  go_enter Tryz.func68, Tryz.ntmps68
  go_wp2_with (at_builtin; refine wpl_spread rfl _ _ 34 rfl w.heap.size 5 i0 _ 1 1 Tryz.underlying34 hif.out hz0.out hz1.out hz2.out rfl (by decide) (by decide) own0 rfl rfl (bc_len l) hN.out.2.1 hN.out.2.2 (bc_one l) (by omega) (by simp) ?_)
  intro v' w1 hown hgrow _
  have hb := below_app ((Below.refl w.heap.size w).alloc (Nat.le_refl _) _) own0 hgrow (Nat.le_refl _)
  try simp only [Nat.zero_add, List.nil_append] at hown
  clear hgrow own0
  have hQ := fun W => q_spec_l1Right n W
  have hZ := fun W => q_spec_ZigZag n W
  cases h : isNum n
  · simp only [h] at hQ
    have H := Lib.hid (show l ++ numB n = l by rw [numB_no h, List.append_nil])
    clear h hZ
    replace hQ := Lib.hid hQ
    go_wp2_with fail
    refine (hQ.out _).mono ?_
    rintro e w2 ⟨rfl, rfl⟩
    go_wp2_with fail
    go_ret
    exact ⟨_, rfl, by rw [H.out]; exact .new hown, hb⟩
  · simp only [h] at hQ
    have hz := zig_in h
    simp only [zigzag_yes h] at hZ
    obtain ⟨z, hzz⟩ := Int.eq_ofNat_of_zero_le hz.1
    rw [hzz] at hZ hz
    have H := Lib.hid (show numB n = vb z by rw [numB_yes h, hzz, Int.toNat_natCast])
    have Hlen := numB_len n
    clear h hzz
    replace hQ := Lib.hid hQ
    replace hZ := Lib.hid hZ
    go_wp2_with fail
    refine (hQ.out _).mono ?_
    rintro e w2 ⟨rfl, rfl⟩
    go_wp2_with fail
    refine (hZ.out _).mono ?_
    rintro e w2 ⟨rfl, rfl⟩
    go_wp2_with fail
    go_loopw [5, 6] (fun o x wr => ∃ (acc : List UInt8) (k : Nat), Hid (x = .int .i64 k ∧ k ≤ 2000000000 ∧ acc ++ vb k = l ++ numB n ∧ wr.ownsRow w.heap.size 5 1 o acc.length (bc acc) ∧ Below w.heap.size w wr)) (fun _ x _ => (intOf x).toNat)
    case atStart => exact ⟨l, z, Lib.hid ⟨rfl, by omega, by rw [H.out], hown, hb⟩⟩
    case round =>
      obtain ⟨acc, k, hrel⟩ := hrel
      obtain ⟨rfl, hk, heq, hown, hb⟩ := hrel.out
      have hlen := congrArg List.length heq
      simp only [List.length_append] at hlen
      have Heq := Lib.hid heq
      clear heq hrel
      have hbs := hb.size
      obtain ⟨Av, cv, rfl, -, -, -⟩ := (Own.new hown).cells
      by_cases hkb : 128 ≤ k
      · have He := Lib.hid (show (acc ++ [UInt8.ofNat (k % 128 + 128)]) ++ vb (k / 128) = l ++ numB n by rw [← Heq.out, vb_big hkb]; simp)
        go_wp2_with (at_builtin; refine wpl_app rfl _ _ 34 rfl w.heap.size 5 i0 _ 1 1 Tryz.underlying34 hif.out hz0.out hz1.out hz2.out rfl (by decide) (by decide) (hown.alloc _) rfl (heap_alloc_new _ _) rfl rfl (by simp [Value.oneCell']) (by omega) (by simp; omega) ?_)
        intro v' w3 hown' hgrow hnb
        have hb3 := Below.grown (hb.alloc hb.size _) hgrow (fun g hg => (hown.lt g hg).1) (Nat.le_refl _)
        have HO := Lib.hid (show w3.ownsRow w.heap.size 5 1 v' (acc ++ [UInt8.ofNat (k % 128 + 128)]).length (bc (acc ++ [UInt8.ofNat (k % 128 + 128)])) by
          have v1 : (128 : Int) + (k : Int) % 128 = ((UInt8.ofNat (k % 128 + 128)).toNat : Int) := by rw [byte_of_nat (by omega)]; omega
          have v2 : (k : Int) % 128 + 128 = ((UInt8.ofNat (k % 128 + 128)).toNat : Int) := by rw [byte_of_nat (by omega)]; omega
          rw [bc_app, List.length_append]
          first
            | (rw [v1] at hown'; exact hown')
            | (rw [v2] at hown'; exact hown'))
        clear hown' hgrow hnb hown
        go_wp2_with fail
        go_roundw
        case rel => exact ⟨acc ++ [UInt8.ofNat (k % 128 + 128)], k / 128, Lib.hid ⟨by simp, by omega, He.out, HO.out, hb3⟩⟩
        case measure => simp [intOf]; omega
      · have He := Lib.hid (show acc ++ [UInt8.ofNat k] = l ++ numB n by rw [← Heq.out, vb_small (by omega)])
        go_wp2_with (at_builtin; refine wpl_app rfl _ _ 34 rfl w.heap.size 5 i0 _ 1 1 Tryz.underlying34 hif.out hz0.out hz1.out hz2.out rfl (by decide) (by decide) (hown.alloc _) rfl (heap_alloc_new _ _) rfl rfl (by simp [Value.oneCell']) (by omega) (by simp; omega) ?_)
        intro v' w3 hown' hgrow hnb
        have hb3 := Below.grown (hb.alloc hb.size _) hgrow (fun g hg => (hown.lt g hg).1) (Nat.le_refl _)
        have HO := Lib.hid (show w3.ownsRow w.heap.size 5 1 v' (acc ++ [UInt8.ofNat k]).length (bc (acc ++ [UInt8.ofNat k])) by
          rw [bc_app, List.length_append]
          simpa [bc, byte_of_nat (show k < 256 by omega), IntKind.wrap_u8] using hown')
        clear hown' hgrow hnb hown
        go_wp2_with fail
        go_ret
        exact ⟨_, rfl, by rw [← He.out]; exact .new HO.out, hb3⟩
set_option maxHeartbeats 4000000 in
set_option maxRecDepth 20000 in
theorem impl_PutNum (l : List UInt8) (x : Value) (n : Int) (w : World) {lo hi : Nat} (hx : RdB w lo hi x l) (hhi : hi ≤ w.heap.size) (hn : l.length ≤ 1000000000000) :
    Calls Tryz.prog 70 #[x, .int .i64 n] w fun e w' => ∃ v, e = .returned v ∧ Own 5 1 w' w.heap.size w'.heap.size v (l ++ numB n).length (bc (l ++ numB n)) ∧ Below w.heap.size w w' := by
  obtain ⟨A, c, rfl, hl, hl2⟩ := hx.form
  obtain ⟨i0, hif, hz0, hz1, hz2⟩ := info_parts info_u8
  replace hif := Lib.hid hif
  replace hz0 := Lib.hid hz0
  replace hz1 := Lib.hid hz1
  replace hz2 := Lib.hid hz2
  have hN := Lib.hid ((hx.below (up_a1 w (.cells #[] 5)) hhi).spread)
  have own0 := World.ownsRow_made w (base := w.heap.size) (e := 5) (size := 1) #[] 0 (Nat.le_refl _) (by decide) rfl
  go_enter Tryz.func70, Tryz.ntmps70
  have hC := impl_cloneBytes l (.slice A l.length c) w hx hhi (by omega)
  clear own0 hN
  go_wp2_with fail
  refine hC.mono ?_
  clear hC
  rintro e w1 ⟨v', rfl, hown', hb⟩
  have hown := hown'.1
  clear hown' 
  have hQ := fun W => q_impl_isNum n W
  have hZ := fun W => q_impl_ZigZag n W
  cases h : isNum n
  · simp only [h] at hQ
    have H := Lib.hid (show l ++ numB n = l by rw [numB_no h, List.append_nil])
    clear h hZ
    replace hQ := Lib.hid hQ
    go_wp2_with fail
    refine (hQ.out _).mono ?_
    rintro e w2 ⟨rfl, rfl⟩
    go_wp2_with fail
    go_ret
    exact ⟨_, rfl, by rw [H.out]; exact .new hown, hb⟩
  · simp only [h] at hQ
    have hz := zig_in h
    simp only [zigzag_yes h] at hZ
    obtain ⟨z, hzz⟩ := Int.eq_ofNat_of_zero_le hz.1
    rw [hzz] at hZ hz
    have H := Lib.hid (show numB n = vb z by rw [numB_yes h, hzz, Int.toNat_natCast])
    have Hlen := numB_len n
    clear h hzz
    replace hQ := Lib.hid hQ
    replace hZ := Lib.hid hZ
    go_wp2_with fail
    refine (hQ.out _).mono ?_
    rintro e w2 ⟨rfl, rfl⟩
    go_wp2_with fail
    refine (hZ.out _).mono ?_
    rintro e w2 ⟨rfl, rfl⟩
    go_wp2_with fail
    go_loopw [5, 6] (fun o x wr => ∃ (acc : List UInt8) (k : Nat), Hid (x = .int .i64 k ∧ k ≤ 2000000000 ∧ acc ++ vb k = l ++ numB n ∧ wr.ownsRow w.heap.size 5 1 o acc.length (bc acc) ∧ Below w.heap.size w wr)) (fun _ x _ => (intOf x).toNat)
    case atStart => exact ⟨l, z, Lib.hid ⟨rfl, by omega, by rw [H.out], hown, hb⟩⟩
    case round =>
      obtain ⟨acc, k, hrel⟩ := hrel
      obtain ⟨rfl, hk, heq, hown, hb⟩ := hrel.out
      have hlen := congrArg List.length heq
      simp only [List.length_append] at hlen
      have Heq := Lib.hid heq
      clear heq hrel
      have hbs := hb.size
      obtain ⟨Av, cv, rfl, -, -, -⟩ := (Own.new hown).cells
      by_cases hkb : 128 ≤ k
      · have He := Lib.hid (show (acc ++ [UInt8.ofNat (k % 128 + 128)]) ++ vb (k / 128) = l ++ numB n by rw [← Heq.out, vb_big hkb]; simp)
        go_wp2_with (at_builtin; refine wpl_app rfl _ _ 34 rfl w.heap.size 5 i0 _ 1 1 Tryz.underlying34 hif.out hz0.out hz1.out hz2.out rfl (by decide) (by decide) (hown.alloc _) rfl (heap_alloc_new _ _) rfl rfl (by simp [Value.oneCell']) (by omega) (by simp; omega) ?_)
        intro v' w3 hown' hgrow hnb
        have hb3 := Below.grown (hb.alloc hb.size _) hgrow (fun g hg => (hown.lt g hg).1) (Nat.le_refl _)
        have HO := Lib.hid (show w3.ownsRow w.heap.size 5 1 v' (acc ++ [UInt8.ofNat (k % 128 + 128)]).length (bc (acc ++ [UInt8.ofNat (k % 128 + 128)])) by
          have v1 : (128 : Int) + (k : Int) % 128 = ((UInt8.ofNat (k % 128 + 128)).toNat : Int) := by rw [byte_of_nat (by omega)]; omega
          have v2 : (k : Int) % 128 + 128 = ((UInt8.ofNat (k % 128 + 128)).toNat : Int) := by rw [byte_of_nat (by omega)]; omega
          rw [bc_app, List.length_append]
          first
            | (rw [v1] at hown'; exact hown')
            | (rw [v2] at hown'; exact hown'))
        clear hown' hgrow hnb hown
        go_wp2_with fail
        go_roundw
        case rel => exact ⟨acc ++ [UInt8.ofNat (k % 128 + 128)], k / 128, Lib.hid ⟨by simp, by omega, He.out, HO.out, hb3⟩⟩
        case measure => simp [intOf]; omega
      · have He := Lib.hid (show acc ++ [UInt8.ofNat k] = l ++ numB n by rw [← Heq.out, vb_small (by omega)])
        go_wp2_with (at_builtin; refine wpl_app rfl _ _ 34 rfl w.heap.size 5 i0 _ 1 1 Tryz.underlying34 hif.out hz0.out hz1.out hz2.out rfl (by decide) (by decide) (hown.alloc _) rfl (heap_alloc_new _ _) rfl rfl (by simp [Value.oneCell']) (by omega) (by simp; omega) ?_)
        intro v' w3 hown' hgrow hnb
        have hb3 := Below.grown (hb.alloc hb.size _) hgrow (fun g hg => (hown.lt g hg).1) (Nat.le_refl _)
        have HO := Lib.hid (show w3.ownsRow w.heap.size 5 1 v' (acc ++ [UInt8.ofNat k]).length (bc (acc ++ [UInt8.ofNat k])) by
          rw [bc_app, List.length_append]
          simpa [bc, byte_of_nat (show k < 256 by omega), IntKind.wrap_u8] using hown')
        clear hown' hgrow hnb hown
        go_wp2_with fail
        go_ret
        exact ⟨_, rfl, by rw [← He.out]; exact .new HO.out, hb3⟩
end Go.Proofs.YticimccfeohpcaaGreat
namespace Go.Lb
open Go.RowKit
theorem Own.rdBc {w : World} {e lo hi : Nat} {v : Value} {l : List UInt8} (h : Own e 1 w lo hi v l.length (bc l)) : RdB w lo hi v l := h.rdB
theorem numsB_yes {l : List Int} (h : l.all isNum = true) (hl : l.length ≤ 1000000) : numsB l = numB l.length ++ l.flatMap numB := by
  rw [numsB, if_pos (by simp [numsOk, h]; omega)]
theorem numsB_no {l : List Int} (h : l.all isNum = false) : numsB l = [] := by
  rw [numsB, if_neg (by simp only [numsOk, h, Bool.and_false]; decide)]
theorem flat_take {q : List Int} {i : Nat} {n : Int} (h : q[i]? = some n) : (q.take (i + 1)).flatMap numB = (q.take i).flatMap numB ++ numB n := by
  rw [take_of_get h, List.flatMap_append]
  simp
theorem all_step {q : List Int} {i : Nat} {n : Int} (h : q[i]? = some n) (h1 : (q.take i).all isNum = true) (h2 : isNum n = true) : (q.take (i + 1)).all isNum = true := by
  rw [take_of_get h, List.all_append, h1]
  simp [h2]
theorem all_not {q : List Int} {i : Nat} {n : Int} (h : q[i]? = some n) (h2 : isNum n = false) : q.all isNum = false := by
  rw [Bool.eq_false_iff]
  intro h3
  rw [List.all_eq_true] at h3
  rw [h3 n (mem_of_get h)] at h2
  cases h2
theorem flat_len5 (q : List Int) : (q.flatMap numB).length ≤ 5 * q.length := by
  induction q with
  | nil => simp
  | cons a q ih =>
    have := numB_len a
    simp only [List.flatMap_cons, List.length_append, List.length_cons]
    omega
def getNums (l : List UInt8) (p : Int) : List Int × Int × Bool := if p < 0 then ([], 0, false) else match rdNums (l.drop p.toNat) with
  | none => ([], 0, false)
  | some (q, k) => (q, p + k, true)
theorem getNums_neg {l : List UInt8} {p : Int} (h : p < 0) : getNums l p = ([], 0, false) := by rw [getNums, if_pos h]
theorem getNums_none {l : List UInt8} {p : Nat} (h : rdNums (l.drop p) = none) : getNums l (p : Int) = ([], 0, false) := by rw [getNums, if_neg (by omega), Int.toNat_natCast, h]
theorem getNums_some {l : List UInt8} {p : Nat} {q : List Int} {k : Nat} (h : rdNums (l.drop p) = some (q, k)) : getNums l (p : Int) = (q, ((p + k : Nat) : Int), true) := by rw [getNums, if_neg (by omega), Int.toNat_natCast, h]; rfl
theorem rdNums_none {s : List UInt8} (h : rdNum s = none) : rdNums s = none := by simp only [rdNums, h]
theorem rdNums_big {s : List UInt8} {n : Int} {m : Nat} (h : rdNum s = some (n, m)) (hn : inR n 0 64 = false) : rdNums s = none := by simp only [rdNums, h, hn]; rfl
theorem rdNums_some {s : List UInt8} {k m : Nat} (h : rdNum s = some ((k : Int), m)) (hn : inR (k : Int) 0 64 = true) : rdNums s = (rdL rdNum k (s.drop m)).map fun p => (p.1, m + p.2) := by simp only [rdNums, h, hn]; rfl
theorem own_ints_none (w : World) (e lo hi : Nat) : Own e 1 w lo hi (.slice none 0 0) 0 [] := ⟨⟨by simp, .inl ⟨rfl, rfl⟩⟩, fun g hg => by simp [Value.ownBlock] at hg⟩
end Go.Lb
namespace Go.Proofs.YticimccfeohpcaaGreat
open Go.Sort Go.ChangeShapes Go.WideShapes Go.ChangeAt Go.RowKit Go.Lb
set_option maxHeartbeats 4000000 in
set_option maxRecDepth 20000 in
theorem spec_PutNums (l : List UInt8) (x : Value) (q : List Int) (y : Value) (w : World) {l1 h1 l2 h2 : Nat} (hx : RdB w l1 h1 x l) (hh1 : h1 ≤ w.heap.size) (hy : RdI w l2 h2 y q) (hh2 : h2 ≤ w.heap.size) (hn : l.length ≤ 100000000000) (hq : q.length ≤ 1000000) :
    Calls Tryz.prog 66 #[x, y] w fun e w' => ∃ v, e = .returned v ∧ Own 5 1 w' w.heap.size w'.heap.size v (l ++ numsB q).length (bc (l ++ numsB q)) ∧ Below w.heap.size w w' := by
  obtain ⟨A, c, rfl, hl, hl2⟩ := hx.form
  obtain ⟨A2, c2, rfl, hl3, hl4⟩ := hy.form
  obtain ⟨i0, hif, hz0, hz1, hz2⟩ := info_parts info_u8
  replace hif := Lib.hid hif
  replace hz0 := Lib.hid hz0
  replace hz1 := Lib.hid hz1
  replace hz2 := Lib.hid hz2
  have hfl := flat_len5 q
  go_enter Tryz.func66, Tryz.ntmps66
  go_wp2_with fail
  refine (spec_PutNum l _ q.length w hx hh1 (by omega)).mono ?_
  rintro e w1 ⟨v, rfl, hown, hb⟩
  generalize hr1 : l ++ numB (q.length : Int) = r1 at hown
  have Hr1 := Lib.hid hr1
  clear hr1
  obtain ⟨Av, cv, rfl, -, -, -⟩ := hown.cells
  go_wp2_with fail
  go_loopw [5, 6] (fun o i wr => ∃ (j : Nat) (acc : List UInt8), Hid (i = .int .i64 j ∧ j ≤ q.length ∧ (q.take j).all Lb.isNum = true ∧ acc = l ++ (numB q.length ++ (q.take j).flatMap numB) ∧ Own 5 1 wr w.heap.size wr.heap.size o acc.length (bc acc) ∧ Below w.heap.size w wr)) (fun _ i _ => q.length - (intOf i).toNat)
  case atStart => exact ⟨0, r1, Lib.hid ⟨rfl, by omega, rfl, by rw [← Hr1.out]; simp, hown, hb⟩⟩
  case round =>
    obtain ⟨j, acc, hrel⟩ := hrel
    obtain ⟨rfl, hj, hall, hacc, hown, hb⟩ := hrel.out
    obtain ⟨Ao, co, rfl, -, -, -⟩ := hown.cells
    have Hacc := Lib.hid hacc
    have hcl : ((q.take j).flatMap numB).length ≤ 5 * 1000000 := Nat.le_trans (flat_len5 _) (by rw [List.length_take]; omega)
    have hnl := numB_len q.length
    have hal : acc.length ≤ 200000000000 := by rw [hacc]; simp only [List.length_append]; omega
    clear hacc hcl hnl
    have Hown := Lib.hid hown
    have Hall := Lib.hid hall
    clear hown hall hrel
    have hbs := hb.size
    by_cases hjl : j < q.length
    · obtain ⟨b, off, n, rfl, -, hbl, hjk, e0⟩ := (hy.below hb hh2).at hjl
      have Hj := Lib.hid hjk
      clear hjk
      have hQ := q_spec_l1Right n wr
      cases hI : Lb.isNum n
      · rw [hI] at hQ
        have HR := Lib.hid (show l ++ numsB q = l by rw [numsB_no (all_not Hj.out hI), List.append_nil])
        have hN := Lib.hid (((hx.below hb hh1).below (up_a1 wr (.cells #[] 5)) (by omega)).spread)
        have own0 := World.ownsRow_made wr (base := w.heap.size) (e := 5) (size := 1) #[] 0 hb.size (by decide) rfl
        have HQ := Lib.hid hQ
        clear hI hQ
        go_wp2_with fail
        refine HQ.out.mono ?_
        rintro e w2 ⟨rfl, rfl⟩
        go_wp2_with (at_builtin; refine wpl_spread rfl _ _ 34 rfl w.heap.size 5 i0 _ 1 1 Tryz.underlying34 hif.out hz0.out hz1.out hz2.out rfl (by decide) (by decide) own0 rfl rfl (bc_len l) hN.out.2.1 hN.out.2.2 (bc_one l) (by omega) (by simp; omega) ?_)
        intro v' w3 hown' hgrow _
        have hb3 := below_app (hb.alloc hb.size _) own0 hgrow (Nat.le_refl _)
        try simp only [Nat.zero_add, List.nil_append] at hown'
        clear hgrow own0
        go_wp2_with fail
        go_ret
        exact ⟨_, rfl, by rw [HR.out]; exact .new hown', hb3⟩
      · rw [hI] at hQ
        have Hall' := Lib.hid (all_step Hj.out Hall.out hI)
        have HQ := Lib.hid hQ
        clear hI hQ
        go_wp2_with fail
        refine HQ.out.mono ?_
        rintro e w2 ⟨rfl, rfl⟩
        go_wp2_with fail
        refine (spec_PutNum acc _ n wr Hown.out.rdBc (Nat.le_refl _) (by omega)).mono ?_
        rintro e w3 ⟨v', rfl, hown', hb'⟩
        generalize hr2 : acc ++ numB n = r2 at hown'
        have Hr2 := Lib.hid hr2
        clear hr2
        obtain ⟨A', c', rfl, -, -, -⟩ := hown'.cells
        have HO := Lib.hid (hown'.more hbs (Nat.le_refl _))
        have hb3 := hb.trans (hb'.mono hbs)
        have HE := Lib.hid (show r2 = l ++ (numB q.length ++ (q.take (j + 1)).flatMap numB) by rw [← Hr2.out, Hacc.out, flat_take Hj.out]; simp)
        clear hown' hb'
        go_wp2_with fail
        go_roundw
        case rel => exact ⟨j + 1, r2, Lib.hid ⟨by go_num, by omega, Hall'.out, HE.out, HO.out, hb3⟩⟩
        case measure => simp [intOf]; omega
    · obtain rfl : j = q.length := by omega
      have Hall2 := Lib.hid (show q.all Lb.isNum = true by have h := Hall.out; rwa [List.take_length] at h)
      have HR := Lib.hid (show l ++ numsB q = acc by rw [Hacc.out, numsB_yes Hall2.out hq, List.take_length])
      go_wp2_with fail
      go_ret
      exact ⟨_, rfl, by rw [HR.out]; exact Hown.out, hb⟩
set_option maxHeartbeats 4000000 in
set_option maxRecDepth 20000 in
theorem impl_PutNums (l : List UInt8) (x : Value) (q : List Int) (y : Value) (w : World) {l1 h1 l2 h2 : Nat} (hx : RdB w l1 h1 x l) (hh1 : h1 ≤ w.heap.size) (hy : RdI w l2 h2 y q) (hh2 : h2 ≤ w.heap.size) (hn : l.length ≤ 100000000000) (hq : q.length ≤ 1000000) :
    Calls Tryz.prog 69 #[x, y] w fun e w' => ∃ v, e = .returned v ∧ Own 5 1 w' w.heap.size w'.heap.size v (l ++ numsB q).length (bc (l ++ numsB q)) ∧ Below w.heap.size w w' := by
  obtain ⟨A, c, rfl, hl, hl2⟩ := hx.form
  obtain ⟨A2, c2, rfl, hl3, hl4⟩ := hy.form
  have hfl := flat_len5 q
  go_enter Tryz.func69, Tryz.ntmps69
  go_wp2_with fail
  refine (impl_cloneBytes l _ w hx hh1 (by omega)).mono ?_
  rintro e w1 ⟨v, rfl, hown, hb⟩
  obtain ⟨Av, cv, rfl, -, -, -⟩ := hown.cells
  have hnb : decide (1000000000 < (q.length : Int)) = false := decide_eq_false (by omega)
  have Hown := Lib.hid hown
  clear hown
  go_wp2_with fail
  go_loopw [18] (fun i wr => ∃ j : Nat, Hid (i = .int .i64 j ∧ j ≤ q.length ∧ (q.take j).all Lb.isNum = true ∧ wr = w1)) (fun i _ => q.length - (intOf i).toNat)
  case atStart => exact ⟨0, Lib.hid ⟨rfl, by omega, rfl, rfl⟩⟩
  case round =>
    obtain ⟨j, hrel⟩ := hrel
    obtain ⟨rfl, hj, hall, hww⟩ := hrel.out
    subst hww
    have Hall := Lib.hid hall
    clear hall hrel
    have hbs := hb.size
    by_cases hjl : j < q.length
    · obtain ⟨b, off, n, rfl, -, hbl, hjk, e0⟩ := (hy.below hb hh2).at hjl
      have Hj := Lib.hid hjk
      clear hjk
      have hQ := q_impl_isNum n wr
      cases hI : Lb.isNum n
      · rw [hI] at hQ
        have HR := Lib.hid (show l ++ numsB q = l by rw [numsB_no (all_not Hj.out hI), List.append_nil])
        have HQ := Lib.hid hQ
        clear hI hQ
        go_wp2_with fail
        refine HQ.out.mono ?_
        rintro e w2 ⟨rfl, rfl⟩
        go_wp2_with fail
        go_ret
        exact ⟨_, rfl, by rw [HR.out]; exact Hown.out, hb⟩
      · rw [hI] at hQ
        have Hall' := Lib.hid (all_step Hj.out Hall.out hI)
        have HQ := Lib.hid hQ
        clear hI hQ
        go_wp2_with fail
        refine HQ.out.mono ?_
        rintro e w2 ⟨rfl, rfl⟩
        go_wp2_with fail
        go_roundw
        case rel => exact ⟨j + 1, Lib.hid ⟨by go_num, by omega, Hall'.out, by first | rfl | trivial⟩⟩
        case measure => simp [intOf]; omega
    · obtain rfl : j = q.length := by omega
      have Hall2 := Lib.hid (show q.all Lb.isNum = true by have h := Hall.out; rwa [List.take_length] at h)
      clear Hall
      go_wp2_with fail
      refine (impl_PutNum l _ q.length wr Hown.out.rdBc (Nat.le_refl _) (by omega)).mono ?_
      rintro e w2 ⟨v2, rfl, hown2, hb2⟩
      generalize hr1 : l ++ numB (q.length : Int) = r1 at hown2
      have Hr1 := Lib.hid hr1
      clear hr1
      obtain ⟨Av2, cv2, rfl, -, -, -⟩ := hown2.cells
      have hb2' := hb.trans (hb2.mono hbs)
      have Hown2 := Lib.hid (hown2.more hbs (Nat.le_refl _))
      clear hown2 hb2
      go_wp2_with fail
      go_loopw [5, 33] (fun o i wr => ∃ (j : Nat) (acc : List UInt8), Hid (i = .int .i64 j ∧ j ≤ q.length ∧ (q.take j).all Lb.isNum = true ∧ acc = l ++ (numB q.length ++ (q.take j).flatMap numB) ∧ Own 5 1 wr w.heap.size wr.heap.size o acc.length (bc acc) ∧ Below w.heap.size w wr)) (fun _ i _ => q.length - (intOf i).toNat)
      case atStart => exact ⟨0, r1, Lib.hid ⟨rfl, by omega, rfl, by rw [← Hr1.out]; simp, Hown2.out, hb2'⟩⟩
      case round =>
        obtain ⟨j, acc, hrel⟩ := hrel
        obtain ⟨rfl, hj, -, hacc, hown, hb⟩ := hrel.out
        obtain ⟨Ao, co, rfl, -, -, -⟩ := hown.cells
        have Hacc := Lib.hid hacc
        have hcl : ((q.take j).flatMap numB).length ≤ 5 * 1000000 := Nat.le_trans (flat_len5 _) (by rw [List.length_take]; omega)
        have hnl := numB_len q.length
        have hal : acc.length ≤ 200000000000 := by rw [hacc]; simp only [List.length_append]; omega
        clear hacc hcl hnl
        have Hown := Lib.hid hown
        clear hown hrel
        have hbs := hb.size
        by_cases hjl : j < q.length
        · obtain ⟨b, off, n, rfl, -, hbl, hjk, e0⟩ := (hy.below hb hh2).at hjl
          have Hj := Lib.hid hjk
          clear hjk
          have Hall' := Lib.hid (show (q.take (j + 1)).all Lb.isNum = true by
            have h := Hall2.out
            rw [List.all_eq_true] at h ⊢
            exact fun a ha => h a (List.mem_of_mem_take ha))
          go_wp2_with fail
          refine (impl_PutNum acc _ n _ Hown.out.rdBc (Nat.le_refl _) (by omega)).mono ?_
          rintro e w3 ⟨v', rfl, hown', hb'⟩
          generalize hr2 : acc ++ numB n = r2 at hown'
          have Hr2 := Lib.hid hr2
          clear hr2
          obtain ⟨A', c', rfl, -, -, -⟩ := hown'.cells
          have HO := Lib.hid (hown'.more hbs (Nat.le_refl _))
          have hb3 := hb.trans (hb'.mono hbs)
          have HE := Lib.hid (show r2 = l ++ (numB q.length ++ (q.take (j + 1)).flatMap numB) by rw [← Hr2.out, Hacc.out, flat_take Hj.out]; simp)
          clear hown' hb'
          go_wp2_with fail
          go_roundw
          case rel => exact ⟨j + 1, r2, Lib.hid ⟨by go_num, by omega, Hall'.out, HE.out, HO.out, hb3⟩⟩
          case measure => simp [intOf]; omega
        · obtain rfl : j = q.length := by omega
          have HR := Lib.hid (show l ++ numsB q = acc by rw [Hacc.out, numsB_yes Hall2.out hq, List.take_length])
          go_wp2_with fail
          go_ret
          exact ⟨_, rfl, by rw [HR.out]; exact Hown.out, hb⟩
set_option maxHeartbeats 4000000 in
set_option maxRecDepth 20000 in
theorem spec_GetNums (l : List UInt8) (x : Value) (p : Int) (w : World) {lo hi : Nat} (hx : RdB w lo hi x l) (hhi : hi ≤ w.heap.size) :
    Calls Tryz.prog 71 #[x, .int .i64 p] w fun e w' => ∃ v, e = .returned (.tuple #[v, .int .i64 (getNums l p).2.1, .bool (getNums l p).2.2]) ∧ Own 3 1 w' w.heap.size w'.heap.size v (getNums l p).1.length ((getNums l p).1.map (.int .i64)) ∧ Below w.heap.size w w' := by
  obtain ⟨A, c, rfl, hl, hl2⟩ := hx.form
  obtain ⟨j0, jif, jz0, jz1, jz2⟩ := info_parts info_i64
  replace jif := Lib.hid jif
  replace jz0 := Lib.hid jz0
  replace jz1 := Lib.hid jz1
  replace jz2 := Lib.hid jz2
  have hb0 : Below w.heap.size w w := Below.refl _ _
  have HG1 := Lib.hid (q_spec_GetNum l _ p w hx)
  by_cases hp : p < 0
  · have HG := Lib.hid (getNums_neg (l := l) hp)
    have HT := Lib.hid (by have h := HG1.out; rw [getNum_neg hp] at h; exact h)
    clear HG1 hp
    go_enter Tryz.func71, Tryz.ntmps71
    go_wp2_with fail
    refine HT.out.mono ?_
    rintro e w1 ⟨rfl, rfl⟩
    go_wp2_with fail
    refine bodyPost_ret (v := .tuple #[.slice (some ⟨w.heap.size, 0, none⟩) 0 0, .int .i64 0, .bool false]) (by simp [results, Tryz.results71, go_sem]) rfl ⟨_, by rw [HG.out], ?_, hb0.alloc hb0.size _⟩
    rw [HG.out]
    exact .new (World.ownsRow_made w (base := w.heap.size) (e := 3) (size := 1) #[] 0 hb0.size (by decide) rfl)
  obtain ⟨p, rfl⟩ := Int.eq_ofNat_of_zero_le (show 0 ≤ p by omega)
  clear hp
  cases hr : rdNum (l.drop p) with
  | none =>
    have HG := Lib.hid (getNums_none (rdNums_none hr))
    have HT := Lib.hid (by have h := HG1.out; rw [getNum_none hr] at h; exact h)
    clear HG1 hr
    go_enter Tryz.func71, Tryz.ntmps71
    go_wp2_with fail
    refine HT.out.mono ?_
    rintro e w1 ⟨rfl, rfl⟩
    go_wp2_with fail
    refine bodyPost_ret (v := .tuple #[.slice (some ⟨w.heap.size, 0, none⟩) 0 0, .int .i64 0, .bool false]) (by simp [results, Tryz.results71, go_sem]) rfl ⟨_, by rw [HG.out], ?_, hb0.alloc hb0.size _⟩
    rw [HG.out]
    exact .new (World.ownsRow_made w (base := w.heap.size) (e := 3) (size := 1) #[] 0 hb0.size (by decide) rfl)
  | some nm =>
    obtain ⟨n, m0⟩ := nm
    have HT := Lib.hid (by have h := HG1.out; rw [getNum_some hr] at h; exact h)
    clear HG1
    have hI := q_spec_l1In n 0 64 w
    cases hin : inR n 0 64
    · rw [hin] at hI
      have HI := Lib.hid hI
      have HG := Lib.hid (getNums_none (rdNums_big hr hin))
      clear hr hin hI
      go_enter Tryz.func71, Tryz.ntmps71
      go_wp2_with fail
      refine HT.out.mono ?_
      rintro e w1 ⟨rfl, rfl⟩
      go_wp2_with fail
      refine HI.out.mono ?_
      rintro e w1 ⟨rfl, rfl⟩
      go_wp2_with fail
      refine bodyPost_ret (v := .tuple #[.slice (some ⟨w.heap.size, 0, none⟩) 0 0, .int .i64 0, .bool false]) (by simp [results, Tryz.results71, go_sem]) rfl ⟨_, by rw [HG.out], ?_, hb0.alloc hb0.size _⟩
      rw [HG.out]
      exact .new (World.ownsRow_made w (base := w.heap.size) (e := 3) (size := 1) #[] 0 hb0.size (by decide) rfl)
    · rw [hin] at hI
      have HI := Lib.hid hI
      have hn := inR_yes hin
      obtain ⟨k, rfl⟩ := Int.eq_ofNat_of_zero_le hn.1
      have hk64 : k ≤ 64 := by omega
      have HS := Lib.hid (rdNums_some hr hin)
      clear hr hin hI hn
      go_enter Tryz.func71, Tryz.ntmps71
      go_wp2_with fail
      refine HT.out.mono ?_
      rintro e w1 ⟨rfl, rfl⟩
      go_wp2_with fail
      refine HI.out.mono ?_
      rintro e w1 ⟨rfl, rfl⟩
      have own0 := World.ownsRow_made w (base := w.heap.size) (e := 3) (size := 1) #[] 0 (Nat.le_refl _) (by decide) rfl
      go_wp2_with fail
      go_loopw [8, 10, 11] (fun a o i wr => ∃ (j m : Nat) (q : List Int), Hid (i = .int .i64 j ∧ a = .int .i64 ((p + m0 + m : Nat) : Int) ∧ RdSt rdNum k (l.drop (p + m0)) j q m ∧ wr.ownsRow w.heap.size 3 1 o j (q.map (.int .i64)) ∧ Below w.heap.size w wr)) (fun _ _ i _ => k - (intOf i).toNat)
      case atStart => exact ⟨0, 0, [], Lib.hid ⟨rfl, rfl, RdSt.start _ _, own0, up_a1 _ _⟩⟩
      case round =>
        obtain ⟨j, m, q, hrel⟩ := hrel
        obtain ⟨rfl, rfl, hst, hown, hb⟩ := hrel.out
        clear hrel
        have hj : j ≤ k := hst.1
        have HST := Lib.hid hst
        clear hst
        have hbs := hb.size
        obtain ⟨Ao, co, rfl, -, -, -⟩ := (Own.new hown).cells
        have HG1 := Lib.hid (q_spec_GetNum l _ ((p + m0 + m : Nat) : Int) wr (hx.below hb hhi))
        by_cases hjk : j < k
        · cases hr : rdNum (l.drop (p + m0 + m)) with
          | none =>
            have HG := Lib.hid (getNums_none (show rdNums (l.drop p) = none by rw [HS.out, List.drop_drop, HST.out.bad hjk (by rw [List.drop_drop]; exact hr)]; rfl))
            have HT := Lib.hid (by have h := HG1.out; rw [getNum_none hr] at h; exact h)
            clear HG1 hr
            go_wp2_with fail
            refine HT.out.mono ?_
            rintro e w1 ⟨rfl, rfl⟩
            go_wp2_with fail
            refine bodyPost_ret (v := .tuple #[.slice (some ⟨wr.heap.size, 0, none⟩) 0 0, .int .i64 0, .bool false]) (by simp [results, Tryz.results71, go_sem]) rfl ⟨_, by rw [HG.out], ?_, hb.alloc hb.size _⟩
            rw [HG.out]
            exact .new (World.ownsRow_made wr (base := w.heap.size) (e := 3) (size := 1) #[] 0 hb.size (by decide) rfl)
          | some nm =>
            obtain ⟨n, d⟩ := nm
            have HT := Lib.hid (by have h := HG1.out; rw [getNum_some hr] at h; exact h)
            have HST2 := Lib.hid (HST.out.next hjk (by rw [List.drop_drop]; exact hr))
            clear HG1 hr
            go_wp2_with fail
            refine HT.out.mono ?_
            rintro e w1 ⟨rfl, rfl⟩
            go_wp2_with (at_builtin; refine wpl_app rfl _ _ 22 rfl w.heap.size 3 j0 _ 1 8 Tryz.underlying22 jif.out jz0.out jz1.out jz2.out rfl (by decide) (by decide) (hown.alloc _) rfl (heap_alloc_new _ _) rfl rfl (by simp [Value.oneCell']) (by omega) (by simp; omega) ?_)
            intro v' w3 hown' hgrow hnb
            have hb3 := Below.grown (hb.alloc hb.size _) hgrow (fun g hg => (hown.lt g hg).1) (Nat.le_refl _)
            have HO := Lib.hid (show w3.ownsRow w.heap.size 3 1 v' (j + 1) ((q ++ [n]).map (.int .i64)) by rw [List.map_append]; exact hown')
            clear hown' hgrow hnb hown
            go_wp2_with fail
            go_roundw
            case rel => exact ⟨j + 1, m + d, q ++ [n], Lib.hid ⟨by go_num, by go_num, HST2.out, HO.out, hb3⟩⟩
            case measure => simp [intOf]; omega
        · obtain rfl : j = k := by omega
          have HG := Lib.hid (getNums_some (show rdNums (l.drop p) = some (q, m0 + m) by rw [HS.out, List.drop_drop, HST.out.done]; rfl))
          have HL := Lib.hid HST.out.2.1
          go_wp2_with fail
          refine bodyPost_ret (v := .tuple #[.slice Ao j co, .int .i64 ((p + (m0 + m) : Nat) : Int), .bool true]) (by simp [results, Tryz.results71, go_sem, Int.add_assoc]) rfl ⟨_, by rw [HG.out], ?_, hb⟩
          rw [HG.out]
          show Own _ 1 _ _ _ _ q.length _
          rw [HL.out]
          exact .new hown
set_option maxHeartbeats 4000000 in
set_option maxRecDepth 20000 in
theorem impl_GetNums (l : List UInt8) (x : Value) (p : Int) (w : World) {lo hi : Nat} (hx : RdB w lo hi x l) (hhi : hi ≤ w.heap.size) :
    Calls Tryz.prog 75 #[x, .int .i64 p] w fun e w' => ∃ v, e = .returned (.tuple #[v, .int .i64 (getNums l p).2.1, .bool (getNums l p).2.2]) ∧ Own 3 1 w' w.heap.size w'.heap.size v (getNums l p).1.length ((getNums l p).1.map (.int .i64)) ∧ Below w.heap.size w w' := by
  obtain ⟨A, c, rfl, hl, hl2⟩ := hx.form
  obtain ⟨j0, jif, jz0, jz1, jz2⟩ := info_parts info_i64
  replace jif := Lib.hid jif
  replace jz0 := Lib.hid jz0
  replace jz1 := Lib.hid jz1
  replace jz2 := Lib.hid jz2
  have hb0 : Below w.heap.size w w := Below.refl _ _
  have HG1 := Lib.hid (q_impl_GetNum l _ p w hx)
  by_cases hp : p < 0
  · have HG := Lib.hid (getNums_neg (l := l) hp)
    have HT := Lib.hid (by have h := HG1.out; rw [getNum_neg hp] at h; exact h)
    clear HG1 hp
    go_enter Tryz.func75, Tryz.ntmps75
    go_wp2_with fail
    refine HT.out.mono ?_
    rintro e w1 ⟨rfl, rfl⟩
    go_wp2_with fail
    refine bodyPost_ret (v := .tuple #[.slice none 0 0, .int .i64 0, .bool false]) (by simp [results, Tryz.results75, go_sem]) rfl ⟨_, by rw [HG.out], ?_, hb0⟩
    rw [HG.out]
    exact own_ints_none _ _ _ _
  obtain ⟨p, rfl⟩ := Int.eq_ofNat_of_zero_le (show 0 ≤ p by omega)
  clear hp
  cases hr : rdNum (l.drop p) with
  | none =>
    have HG := Lib.hid (getNums_none (rdNums_none hr))
    have HT := Lib.hid (by have h := HG1.out; rw [getNum_none hr] at h; exact h)
    clear HG1 hr
    go_enter Tryz.func75, Tryz.ntmps75
    go_wp2_with fail
    refine HT.out.mono ?_
    rintro e w1 ⟨rfl, rfl⟩
    go_wp2_with fail
    refine bodyPost_ret (v := .tuple #[.slice none 0 0, .int .i64 0, .bool false]) (by simp [results, Tryz.results75, go_sem]) rfl ⟨_, by rw [HG.out], ?_, hb0⟩
    rw [HG.out]
    exact own_ints_none _ _ _ _
  | some nm =>
    obtain ⟨n, m0⟩ := nm
    have HT := Lib.hid (by have h := HG1.out; rw [getNum_some hr] at h; exact h)
    clear HG1
    have hI := q_impl_within n 0 64 w
    cases hin : inR n 0 64
    · rw [hin] at hI
      have HI := Lib.hid hI
      have HG := Lib.hid (getNums_none (rdNums_big hr hin))
      clear hr hin hI
      go_enter Tryz.func75, Tryz.ntmps75
      go_wp2_with fail
      refine HT.out.mono ?_
      rintro e w1 ⟨rfl, rfl⟩
      go_wp2_with fail
      refine HI.out.mono ?_
      rintro e w1 ⟨rfl, rfl⟩
      go_wp2_with fail
      refine bodyPost_ret (v := .tuple #[.slice none 0 0, .int .i64 0, .bool false]) (by simp [results, Tryz.results75, go_sem]) rfl ⟨_, by rw [HG.out], ?_, hb0⟩
      rw [HG.out]
      exact own_ints_none _ _ _ _
    · rw [hin] at hI
      have HI := Lib.hid hI
      have hn := inR_yes hin
      obtain ⟨k, rfl⟩ := Int.eq_ofNat_of_zero_le hn.1
      have hk64 : k ≤ 64 := by omega
      have HS := Lib.hid (rdNums_some hr hin)
      clear hr hin hI hn
      go_enter Tryz.func75, Tryz.ntmps75
      go_wp2_with fail
      refine HT.out.mono ?_
      rintro e w1 ⟨rfl, rfl⟩
      go_wp2_with fail
      refine HI.out.mono ?_
      rintro e w1 ⟨rfl, rfl⟩
      have own0 := World.ownsRow_made w (base := w.heap.size) (e := 3) (size := 1) #[] 0 (Nat.le_refl _) (by decide) rfl
      go_wp2_with fail
      go_loopw [1, 9, 10] (fun a o i wr => ∃ (j m : Nat) (q : List Int), Hid (i = .int .i64 j ∧ a = .int .i64 ((p + m0 + m : Nat) : Int) ∧ RdSt rdNum k (l.drop (p + m0)) j q m ∧ wr.ownsRow w.heap.size 3 1 o j (q.map (.int .i64)) ∧ Below w.heap.size w wr)) (fun _ _ i _ => k - (intOf i).toNat)
      case atStart => exact ⟨0, 0, [], Lib.hid ⟨rfl, rfl, RdSt.start _ _, own0, up_a1 _ _⟩⟩
      case round =>
        obtain ⟨j, m, q, hrel⟩ := hrel
        obtain ⟨rfl, rfl, hst, hown, hb⟩ := hrel.out
        clear hrel
        have hj : j ≤ k := hst.1
        have HST := Lib.hid hst
        clear hst
        have hbs := hb.size
        obtain ⟨Ao, co, rfl, -, -, -⟩ := (Own.new hown).cells
        have HG1 := Lib.hid (q_impl_GetNum l _ ((p + m0 + m : Nat) : Int) wr (hx.below hb hhi))
        by_cases hjk : j < k
        · cases hr : rdNum (l.drop (p + m0 + m)) with
          | none =>
            have HG := Lib.hid (getNums_none (show rdNums (l.drop p) = none by rw [HS.out, List.drop_drop, HST.out.bad hjk (by rw [List.drop_drop]; exact hr)]; rfl))
            have HT := Lib.hid (by have h := HG1.out; rw [getNum_none hr] at h; exact h)
            clear HG1 hr
            go_wp2_with fail
            refine HT.out.mono ?_
            rintro e w1 ⟨rfl, rfl⟩
            go_wp2_with fail
            refine bodyPost_ret (v := .tuple #[.slice none 0 0, .int .i64 0, .bool false]) (by simp [results, Tryz.results75, go_sem]) rfl ⟨_, by rw [HG.out], ?_, hb⟩
            rw [HG.out]
            exact own_ints_none _ _ _ _
          | some nm =>
            obtain ⟨n, d⟩ := nm
            have HT := Lib.hid (by have h := HG1.out; rw [getNum_some hr] at h; exact h)
            have HST2 := Lib.hid (HST.out.next hjk (by rw [List.drop_drop]; exact hr))
            clear HG1 hr
            go_wp2_with fail
            refine HT.out.mono ?_
            rintro e w1 ⟨rfl, rfl⟩
            go_wp2_with (at_builtin; refine wpl_app rfl _ _ 22 rfl w.heap.size 3 j0 _ 1 8 Tryz.underlying22 jif.out jz0.out jz1.out jz2.out rfl (by decide) (by decide) (hown.alloc _) rfl (heap_alloc_new _ _) rfl rfl (by simp [Value.oneCell']) (by omega) (by simp; omega) ?_)
            intro v' w3 hown' hgrow hnb
            have hb3 := Below.grown (hb.alloc hb.size _) hgrow (fun g hg => (hown.lt g hg).1) (Nat.le_refl _)
            have HO := Lib.hid (show w3.ownsRow w.heap.size 3 1 v' (j + 1) ((q ++ [n]).map (.int .i64)) by rw [List.map_append]; exact hown')
            clear hown' hgrow hnb hown
            go_wp2_with fail
            go_roundw
            case rel => exact ⟨j + 1, m + d, q ++ [n], Lib.hid ⟨by go_num, by go_num, HST2.out, HO.out, hb3⟩⟩
            case measure => simp [intOf]; omega
        · obtain rfl : j = k := by omega
          have HG := Lib.hid (getNums_some (show rdNums (l.drop p) = some (q, m0 + m) by rw [HS.out, List.drop_drop, HST.out.done]; rfl))
          have HL := Lib.hid HST.out.2.1
          go_wp2_with fail
          refine bodyPost_ret (v := .tuple #[.slice Ao j co, .int .i64 ((p + (m0 + m) : Nat) : Int), .bool true]) (by simp [results, Tryz.results75, go_sem, Int.add_assoc]) rfl ⟨_, by rw [HG.out], ?_, hb⟩
          rw [HG.out]
          show Own _ 1 _ _ _ _ q.length _
          rw [HL.out]
          exact .new hown
end Go.Proofs.YticimccfeohpcaaGreat
namespace Go.Lb
open Go

section
variable {P : Program} {ops : Array Oper} {Q : Exit → Act → World → Prop} {md : Region.Mode} {S : World → Prop} {n : Nat}
/-- Whatever order is picked from here on, and S holds behind every operation but number n. -/
def wpAnyT (P : Program) (md : Region.Mode) (ops : Array Oper) (Q : Exit → Act → World → Prop) (S : World → Prop) (n : Nat) : Nat → Array Bool → Act → World → Prop
  | 0, listed, a, w => Region.ready md ops listed = [] ∧ Q .normal a w
  | fuel + 1, listed, a, w =>
    (Region.ready md ops listed = [] → Q .normal a w) ∧
    ∀ i ∈ Region.ready md ops listed, wpOp P ops Q i (fun a' w' => (i ≠ n → S w') ∧ wpAnyT P md ops Q S n fuel (listed.setIfInBounds i true) a' w') a w
theorem wpAny_of_T : ∀ (fuel : Nat) (listed : Array Bool) (a : Act) (w : World), wpAnyT P md ops Q S n fuel listed a w → wpAny P md ops Q fuel listed a w
  | 0, _, _, _, h => h
  | fuel + 1, _, _, _, h => ⟨h.1, fun i hi => wpOp_mono (fun a' w' h' => wpAny_of_T fuel _ a' w' h'.2) (h.2 i hi)⟩
theorem wpAnyT_first {i : Nat} {oi : Oper} {v : Value} (hi : ops[i]? = some oi) (hsel : ∀ (j : Nat) (o : Oper) cs b, ops[j]? = some o → o.op ≠ .select cs b)
    (hQ : ∀ c a w, Q (.panic c) (a.put oi.dst v) w → Q (.panic c) a w) (hn : Region.waitsFor md ops n i = true) :
    ∀ (fuel : Nat) (listed : Array Bool) (a : Act) (w : World),
      (∀ j oj, ops[j]? = some oj → j ≠ i → listed.getD j true = false → (∀ e ∈ oj.after, Region.binds md e = true → e.on ≠ i) → oi.apart ops oj = true) →
      i ∈ Region.ready md ops listed → YieldsIf P ops S oi v a → S w →
      wpAnyT P md ops Q S n fuel (listed.setIfInBounds i true) (a.put oi.dst v) w → wpAnyT P md ops Q S n (fuel + 1) listed a w := by
  intro fuel
  induction fuel with
  | zero =>
    intro listed a w _ hr hy hS H
    refine ⟨fun h => (by rw [h] at hr; cases hr), fun j hj => ?_⟩
    by_cases hji : j = i
    · subst hji; exact hy.wpOp hi hS ⟨fun _ => hS, H⟩
    · have := ready_mono hj hji
      rw [H.1] at this
      cases this
  | succ fuel ih =>
    intro listed a w hfree hr hy hS H
    refine ⟨fun h => (by rw [h] at hr; cases hr), fun j hj => ?_⟩
    by_cases hji : j = i
    · subst hji; exact hy.wpOp hi hS ⟨fun _ => hS, H⟩
    · have h1 := H.2 j (ready_mono hj hji)
      obtain ⟨hjun, oj, hoj, hall⟩ := mem_ready.1 hj
      have hnot : ∀ e ∈ oj.after, Region.binds md e = true → e.on ≠ i := fun e he hb heq => by
        have h1 := hall e he hb
        have h0 := (mem_ready.1 hr).1
        rw [heq] at h1
        rcases Nat.lt_or_ge i listed.size with h' | h'
        · simp [h'] at h0 h1; rw [h0] at h1; cases h1
        · simp [Array.getElem?_eq_none h'] at h1
      have hjn : j ≠ n := fun e0 => by
        obtain ⟨on, hon, e, he, hb, heq⟩ := Region.waitsFor_spec hn
        rw [← e0] at hon
        have : oj = on := Option.some.inj (hoj.symm.trans hon)
        subst this
        exact hnot e he hb heq
      have h2 := wpOp_putIf hoj (hfree j oj hoj hji hjun hnot) (fun cs b => hsel i oi cs b hi) (fun cs b => hsel j oj cs b hoj) hQ hy h1
      have hfree' : ∀ k ok, ops[k]? = some ok → k ≠ i → (listed.setIfInBounds j true).getD k true = false →
          (∀ e ∈ ok.after, Region.binds md e = true → e.on ≠ i) → oi.apart ops ok = true := fun k ok hk hki hun hno => by
        refine hfree k ok hk hki ?_ hno
        by_cases hjk : j = k
        · subst hjk; exact hjun
        · rw [getD_set_ne true hjk] at hun; exact hun
      refine wpOp_mono (fun a' w' h3 => ⟨h3.2.1, ih (listed.setIfInBounds j true) a' w' hfree' (ready_mono hr (Ne.symm hji)) h3.1 (h3.2.1 hjn) ?_⟩) h2
      rw [Array.setIfInBounds_comm _ _ hji]
      exact h3.2.2
theorem drop_head {i : Nat} {oi : Oper} {l : List Oper} (h : ops.toList.drop i = oi :: l) : ops[i]? = some oi := by
  have h1 := congrArg (fun l : List Oper => l[0]?) h
  simpa using h1
/-- Take number i first. -/
theorem wpAnyT_take {i : Nat} {oi : Oper} {l : List Oper} {v : Value} {fuel : Nat} {listed : Array Bool} {a : Act} {w : World} (hi : ops.toList.drop i = oi :: l)
    (hs : Region.noSelect ops = true) (hf : Region.free md ops listed i = true) (hr : (Region.ready md ops listed).contains i = true) (hn : Region.waitsFor md ops n i = true)
    (hQ : ∀ c a w, Q (.panic c) (a.put oi.dst v) w → Q (.panic c) a w) (hy : YieldsIf P ops S oi v a) (hS : S w)
    (h : wpAnyT P md ops Q S n fuel (listed.setIfInBounds i true) (a.put oi.dst v) w) : wpAnyT P md ops Q S n (fuel + 1) listed a w :=
  wpAnyT_first (drop_head hi) (Region.noSelect_spec hs) hQ hn fuel listed a w (Region.free_spec (drop_head hi) hf) (by simpa using hr) hy hS h
/-- One alone may come up. -/
theorem wpAnyT_one {k : Nat} {o : Oper} {l : List Oper} {fuel : Nat} {listed : Array Bool} {a : Act} {w : World} (hr : Region.ready md ops listed = [k]) (ho : ops.toList.drop k = o :: l) (hg : o.guard = none)
    (h : ∀ (K : Act → World → Prop), RowKit.Hid (∀ a' w', (k ≠ n → S w') → wpAnyT P md ops Q S n fuel (listed.setIfInBounds k true) a' w' → K a' w') → if Region.wanted o (yielded ops a.tmps) = true then Oper.wp P o a w K Q else False) : wpAnyT P md ops Q S n (fuel + 1) listed a w := by
  refine ⟨fun h0 => (by rw [hr] at h0; cases h0), fun i hi => ?_⟩
  rw [hr] at hi
  obtain rfl : i = k := by simpa using hi
  unfold wpOp
  simp only [drop_head ho]
  have hw : Region.wanted o (yielded ops a.tmps) = true := by simp [Region.wanted, hg]
  rw [if_pos hw]
  have h1 := h (fun a' w' => (i ≠ n → S w') ∧ wpAnyT P md ops Q S n fuel (listed.setIfInBounds i true) a' w') (Lib.hid fun _ _ h1 h2 => ⟨h1, h2⟩)
  rw [if_pos hw] at h1
  exact .inl h1
/-- Two may come up. -/
theorem wpAnyT_two {k k2 : Nat} {o o2 : Oper} {l l2 : List Oper} {fuel : Nat} {listed : Array Bool} {a : Act} {w : World} (hr : Region.ready md ops listed = [k, k2]) (ho : ops.toList.drop k = o :: l) (hg : o.guard = none) (ho2 : ops.toList.drop k2 = o2 :: l2) (hg2 : o2.guard = none)
    (h : ∀ (K : Act → World → Prop), RowKit.Hid (∀ a' w', (k ≠ n → S w') → wpAnyT P md ops Q S n fuel (listed.setIfInBounds k true) a' w' → K a' w') → if Region.wanted o (yielded ops a.tmps) = true then Oper.wp P o a w K Q else False)
    (h2 : ∀ (K : Act → World → Prop), RowKit.Hid (∀ a' w', (k2 ≠ n → S w') → wpAnyT P md ops Q S n fuel (listed.setIfInBounds k2 true) a' w' → K a' w') → if Region.wanted o2 (yielded ops a.tmps) = true then Oper.wp P o2 a w K Q else False) : wpAnyT P md ops Q S n (fuel + 1) listed a w := by
  refine ⟨fun h0 => (by rw [hr] at h0; cases h0), fun i hi => ?_⟩
  rw [hr] at hi
  rcases List.mem_cons.1 hi with e | hi
  · subst e
    unfold wpOp
    simp only [drop_head ho]
    have hw : Region.wanted o (yielded ops a.tmps) = true := by simp [Region.wanted, hg]
    rw [if_pos hw]
    have h1 := h (fun a' w' => (i ≠ n → S w') ∧ wpAnyT P md ops Q S n fuel (listed.setIfInBounds i true) a' w') (Lib.hid fun _ _ h1 h2 => ⟨h1, h2⟩)
    rw [if_pos hw] at h1
    exact .inl h1
  · obtain rfl : i = k2 := by simpa using hi
    unfold wpOp
    simp only [drop_head ho2]
    have hw : Region.wanted o2 (yielded ops a.tmps) = true := by simp [Region.wanted, hg2]
    rw [if_pos hw]
    have h1 := h2 (fun a' w' => (i ≠ n → S w') ∧ wpAnyT P md ops Q S n fuel (listed.setIfInBounds i true) a' w') (Lib.hid fun _ _ h1 h2 => ⟨h1, h2⟩)
    rw [if_pos hw] at h1
    exact .inl h1
/-- All have come up. -/
theorem wpAnyT_done {listed : Array Bool} {a : Act} {w : World} (hr : Region.ready md ops listed = []) (h : Q .normal a w) :
    ∀ fuel, wpAnyT P md ops Q S n fuel listed a w
  | 0 => ⟨hr, h⟩
  | _ + 1 => ⟨fun _ => h, by rw [hr]; simp⟩
theorem wp_region_T {id : Nat} {a : Act} {w : World} (hm : P.follows .mixedOrders = true)
    (h : wpAnyT P .any ops Q S n ops.size (Array.replicate ops.size false) a w.drew) : (Code.region id ops true).wp P Q a w :=
  wp_region_any hm (wpAny_of_T _ _ _ _ h)
end
end Go.Lb
namespace Go.Lb
open Go.RowKit
theorem owns_form1 {w : World} {base e N : Nat} {v : Value} {xs : List Value} (h : w.ownsRow base e 1 v N xs) (hN : 0 < N) : ∃ g cap, v = .slice (some ⟨g, 0, none⟩) N cap ∧ base ≤ g ∧ g < w.heap.size ∧ N ≤ cap ∧ cap ≤ 9223372036854775807 ∧ (∀ j u, xs[j]? = some u → w.cell? ⟨g, j, none⟩ = some u) ∧ ∀ o, w.frozen? ⟨g, o, none⟩ = false := by
  rcases h.2 with ⟨e1, e2⟩ | ⟨g, cap, cur, rfl, hb, hg, hnc, hcm, hsz, htk⟩
  · omega
  · refine ⟨g, cap, rfl, hb, (Array.getElem?_eq_some_iff.1 hg).1, hnc, by unfold maxLen at hcm; omega, fun j u hj => ?_, fun o => frozen_of_row w g o cur _ hg⟩
    have hl := (List.getElem?_eq_some_iff.1 hj).1
    rw [cell_of_row w g _ cur _ _ hg, ← Array.getElem?_toList]
    rw [← htk, List.getElem?_take] at hj
    split at hj
    · exact hj
    · cases hj
theorem owns_put1 {w : World} {base e g N c idx : Nat} {xs : List Value} {u : Value} (h : w.ownsRow base e 1 (.slice (some ⟨g, 0, none⟩) N c) N xs) : (w.setCell ⟨g, idx, none⟩ u).ownsRow base e 1 (.slice (some ⟨g, 0, none⟩) N c) N (xs.set idx u) := by
  refine ⟨by rw [List.length_set]; exact h.1, ?_⟩
  rcases h.2 with ⟨e1, e2⟩ | ⟨g', cap, cur, e1, hb, hg, hnc, hcm, hsz, htk⟩
  · cases e1
  · injection e1 with e1 e2 e3
    injection e1 with e1
    injection e1 with e1
    subst e1 e3
    refine .inr ⟨g, c, _, rfl, hb, set1 hg, hnc, hcm, by simpa using hsz, ?_⟩
    simp only [Array.toList_setIfInBounds]
    rw [List.take_set, htk]
theorem bc_set (l : List UInt8) (i : Nat) (c : UInt8) : (bc l).set i (.int .u8 (c.toNat : Int)) = bc (l.set i c) := by simp [bc, List.map_set]
theorem bc_get {l : List UInt8} {i : Nat} {c : UInt8} (h : l[i]? = some c) : (bc l)[i]? = some (.int .u8 (c.toNat : Int)) := by simp [bc, h]
theorem bitsOf_at {q : List Int} {v i t x : Nat} (h : q[i]? = some (x : Int)) (ht : t < v) : bitsOf q v (i * v + t) = x.testBit t := by
  have hd : (i * v + t) / v = i := by rw [Nat.mul_comm, Nat.mul_add_div (by omega), Nat.div_eq_of_lt ht]; rfl
  have hr : (i * v + t) % v = t := by rw [Nat.mul_comm, Nat.mul_add_mod, Nat.mod_eq_of_lt ht]
  rw [bitsOf, hd, hr, List.getD_eq_getElem?_getD, h]
  rfl
theorem bit_of (x t : Nat) (hx : x ≤ 2147483647) : bits .and .i64 ((x : Int) / 2 ^ t) 1 = ((x.testBit t).toNat : Int) := by
  have hlt : x / 2 ^ t ≤ 2147483647 := Nat.le_trans (Nat.div_le_self _ _) hx
  rw [show (x : Int) / 2 ^ t = ((x / 2 ^ t : Nat) : Int) by simp, Nat.testBit_eq_decide_div_mod_eq]
  generalize x / 2 ^ t = y at hlt ⊢
  refine (bits_mask .i64 62 (by decide) (fun n h0 h1 => by rw [IntKind.wrap_i64]; omega) 1 (by decide) (y : Int) (by omega) (by omega)).trans ?_
  rw [show (y : Int) % 2 ^ 1 = ((y % 2 : Nat) : Int) by simp]
  rcases Nat.mod_two_eq_zero_or_one y with h1 | h1 <;> rw [h1] <;> rfl
theorem p7_le {t : Nat} (h : t < 8) : 2 ^ t ≤ 128 := Nat.pow_le_pow_right (by decide) (show t ≤ 7 by omega)
theorem wrap_pow {m : Nat} (h : m < 8) : IntKind.u8.wrap (2 ^ m) = ((2 ^ m : Nat) : Int) := by
  have h1 := p7_le h
  rw [show (2 : Int) ^ m = ((2 ^ m : Nat) : Int) by simp]
  generalize 2 ^ m = y at *
  exact wraps_u8 _ (by omega) (by omega)
theorem wrap_mul {be m : Nat} (h : be * 2 ^ m ≤ 128) : IntKind.u8.wrap (IntKind.i64.wrap ((be : Int) * 2 ^ m)) = ((be * 2 ^ m : Nat) : Int) := by
  rw [show (be : Int) * 2 ^ m = ((be * 2 ^ m : Nat) : Int) by simp]
  generalize be * 2 ^ m = y at *
  rw [show IntKind.i64.wrap (y : Int) = (y : Int) by rw [IntKind.wrap_i64]; omega]
  exact wraps_u8 _ (by omega) (by omega)
theorem or_u8 (old : UInt8) {y : Nat} (hy : y ≤ 128) : bits .or .u8 (old.toNat : Int) (y : Int) = ((UInt8.ofNat (old.toNat ||| y)).toNat : Int) := by
  have ho := old.toNat_lt
  rw [byte_of_nat (Nat.or_lt_two_pow (n := 8) ho (by omega))]
  exact (bits_nat .u8 8 (by decide) wraps_u8 old.toNat y ho (by omega)).2
theorem or_old (old : UInt8) {y : Nat} (hy : y ≤ 128) : (UInt8.ofNat (old.toNat ||| y)).toNat = old.toNat ||| y := byte_of_nat (Nat.or_lt_two_pow (n := 8) old.toNat_lt (by omega))
theorem pack_next (N : Nat) : (N + 1 + 7) / 8 = N / 8 + 1 := by omega
theorem owns_full (w : World) (base e N : Nat) (cur : Array Value) (hb : base ≤ w.heap.size) (hm : N ≤ maxLen) (hs : cur.size = N * 1) : (w.alloc (.cells cur e)).ownsRow base e 1 (.slice (some ⟨w.heap.size, 0, none⟩) N N) N cur.toList :=
  ⟨by rw [Array.length_toList]; exact hs, .inr ⟨w.heap.size, N, cur, rfl, hb, heap_alloc_new w _, Nat.le_refl _, hm, hs, by rw [← hs, List.take_of_length_le (by simp)]⟩⟩
theorem made_pack (f : Nat → Bool) (M : Nat) : (madeCells #[Value.int .u8 0] M).toList = bc (packM f M 0) := by
  rw [toList_madeCells_one, packM_zero, bc, List.map_replicate]
  rfl
theorem packB_yes {l : List Int} {v : Nat} (h : packOk l v = true) : packB l v = packM (bitsOf l v) ((l.length * v + 7) / 8) (l.length * v) := by rw [packB, if_pos h, Int.toNat_natCast]
theorem packB_no {l : List Int} {v : Int} (h : packOk l v = false) : packB l v = [] := by rw [packB, if_neg (by simp [h])]
theorem bc_packM_len (f : Nat → Bool) (m n : Nat) : (packM f m n).length = m := packM_len f m n
end Go.Lb
namespace Go.Proofs.YticimccfeohpcaaGreat
open Go.Sort Go.ChangeShapes Go.WideShapes Go.ChangeAt Go.RowKit Go.Lb
set_option maxHeartbeats 4000000 in
set_option maxRecDepth 20000 in
theorem spec_PackBits (q : List Int) (x : Value) (v : Int) (w : World) {lo hi : Nat} (hx : RdI w lo hi x q) (hhi : hi ≤ w.heap.size) (hq : q.length ≤ 1000000) :
    Calls Tryz.prog 148 #[x, .int .i64 v] w fun e w' => ∃ r, e = .returned r ∧ Own 5 1 w' w.heap.size w'.heap.size r (packB q v).length (bc (packB q v)) ∧ Below w.heap.size w w' := by
  obtain ⟨A, c, rfl, hl, hl2⟩ := hx.form
  obtain ⟨i0, hif, hz0, hz1, hz2⟩ := info_parts info_u8
  replace hif := Lib.hid hif
  replace hz0 := Lib.hid hz0
  replace hz1 := Lib.hid hz1
  replace hz2 := Lib.hid hz2
  have hb0 := up_a1 w (.cells #[] 5)
  have own0 := World.ownsRow_made w (base := w.heap.size) (e := 5) (size := 1) #[] 0 (Nat.le_refl _) (by decide) rfl
  have hQ := q_spec_l2Fits q _ v (w.alloc (.cells #[] 5)) (hx.below hb0 hhi)
  cases hok : packOk q v
  · rw [hok] at hQ
    have HQ := Lib.hid hQ
    have HP := Lib.hid (packB_no hok)
    clear hok hQ
    go_enter Tryz.func148, Tryz.ntmps148
    go_wp2_with fail
    refine HQ.out.mono ?_
    rintro e w1 ⟨rfl, rfl⟩
    go_wp2_with fail
    go_ret
    exact ⟨_, rfl, by rw [HP.out]; exact .new own0, hb0⟩
  rw [hok] at hQ
  have HQ := Lib.hid hQ
  clear hQ
  have hv := packOk_w hok
  obtain ⟨v, rfl⟩ := Int.eq_ofNat_of_zero_le hv.1
  have hv31 : v ≤ 31 := by omega
  have HP := Lib.hid (packB_yes hok)
  have HM := Lib.hid (fun n hn => packOk_mem (n := n) hok hn)
  clear hok hv
  go_enter Tryz.func148, Tryz.ntmps148
  go_wp2_with fail
  refine HQ.out.mono ?_
  rintro e w1 ⟨rfl, rfl⟩
  go_wp2_with fail
  go_loopw [5, 6, 7] (fun o n i wr => ∃ j N : Nat, Hid (i = .int .i64 j ∧ n = .int .i64 N ∧ N = j * v ∧ j ≤ q.length ∧ wr.ownsRow w.heap.size 5 1 o ((N + 7) / 8) (bc (packM (bitsOf q v) ((N + 7) / 8) N)) ∧ Below w.heap.size w wr)) (fun _ _ i _ => q.length - (intOf i).toNat)
  case atStart => exact ⟨0, 0, Lib.hid ⟨rfl, rfl, by simp, by omega, own0, hb0⟩⟩
  case round =>
    obtain ⟨i, N, hrel⟩ := hrel
    obtain ⟨rfl, rfl, hN, hi, hown, hb⟩ := hrel.out
    clear hrel
    have HN := Lib.hid hN
    clear hN
    obtain ⟨Ao, co, rfl, -, -, -⟩ := (Own.new hown).cells
    have Hown := Lib.hid hown
    clear hown
    by_cases hiq : i < q.length
    · obtain ⟨b, off, x, rfl, -, -, hxi, -⟩ := hx.at hiq
      obtain ⟨⟨x0, x1⟩, -⟩ := HM.out x (mem_of_get hxi)
      obtain ⟨x, rfl⟩ := Int.eq_ofNat_of_zero_le x0
      have Hxi := Lib.hid hxi
      clear hxi
      go_wp2_with fail
      go_loopw [5, 6, 8] (fun o n k wr => ∃ t N : Nat, Hid (k = .int .i64 t ∧ n = .int .i64 N ∧ N = i * v + t ∧ t ≤ v ∧ wr.ownsRow w.heap.size 5 1 o ((N + 7) / 8) (bc (packM (bitsOf q v) ((N + 7) / 8) N)) ∧ Below w.heap.size w wr)) (fun _ _ k _ => v - (intOf k).toNat)
      case atStart => exact ⟨0, N, Lib.hid ⟨rfl, rfl, by rw [HN.out]; rfl, by omega, Hown.out, hb⟩⟩
      case round =>
        clear Hown hb HN
        obtain ⟨t, N, hrel⟩ := hrel
        obtain ⟨rfl, rfl, hN, ht, hown, hb⟩ := hrel.out
        clear hrel
        have hbs := hb.size
        by_cases htv : t < v
        · have hNb : N ≤ 31000031 := by
            have := Nat.mul_le_mul (show i ≤ 1000000 by omega) hv31
            omega
          have HF := Lib.hid (show bitsOf q v N = x.testBit t by rw [hN]; exact bitsOf_at Hxi.out htv)
          have HN := Lib.hid hN
          clear hN
          have hand := bit_of x t (by omega)
          have Hand := Lib.hid hand
          clear hand
          by_cases h8 : N % 8 = 0
          · have h8' : (N + 7) / 8 = N / 8 := by omega
            have hd : ((N : Int) % 8 == 0) = true := by simp; omega
            rw [h8'] at hown
            clear h8
            obtain ⟨Ao, co, rfl, -, -, -⟩ := (Own.new hown).cells
            go_wp2_with (at_builtin; refine wpl_app rfl _ _ 34 rfl w.heap.size 5 i0 _ 1 1 Tryz.underlying34 hif.out hz0.out hz1.out hz2.out rfl (by decide) (by decide) (hown.alloc _) rfl (heap_alloc_new _ _) rfl rfl (by simp [Value.oneCell']) (by omega) (by simp; omega) ?_)
            intro v' w3 hown' hgrow hnb
            have hb3 := Below.grown (hb.alloc hb.size _) hgrow (fun g hg => (hown.lt g hg).1) (Nat.le_refl _)
            have hownW : w3.ownsRow w.heap.size 5 1 v' (N / 8 + 1) (bc (packM (bitsOf q v) (N / 8 + 1) N)) := by
              rw [← packM_more (by omega), bc_app]
              exact hown'
            clear hown' hgrow hnb hown h8'
            obtain ⟨d, hd8⟩ : ∃ d, N / 8 = d := ⟨_, rfl⟩
            obtain ⟨m, hm8⟩ : ∃ m, N % 8 = m := ⟨_, rfl⟩
            have hm7 : m < 8 := by omega
            have hw8 : IntKind.i64.wrap ((N : Int) / 8) = (d : Int) := by rw [IntKind.wrap_i64]; omega
            have hw9 : (N : Int).tmod 8 = (m : Int) := by rw [Int.tmod_eq_emod_of_nonneg (by omega)]; omega
            have hdd2 : (d : Int) < (d : Int) + 1 := by omega
            have hm0 : (0 : Int) ≤ (m : Int) := by omega
            have hm9 : (m : Int) ≤ 8 := by omega
            have hNd := pack_next N
            rw [hd8] at hownW hNd
            obtain ⟨g, cap, rfl, hgl, hgh, hcap, hcap2, hcells, hfz⟩ := owns_form1 hownW (by omega)
            obtain ⟨old, hold⟩ : ∃ old, (packM (bitsOf q v) (d + 1) N)[N / 8]? = some old := ⟨_, packM_get _ (by omega)⟩
            have HND := Lib.hid hNd
            have Hd8 := Lib.hid hd8
            have Hm8 := Lib.hid hm8
            have hN8 : N < 8 * (d + 1) := by omega
            have hold2 := hold
            rw [hd8] at hold2
            clear hd8 hm8 hNd
            have c0 := hcells _ _ (bc_get hold2)
            have Hold := Lib.hid hold
            have HownW := Lib.hid hownW
            clear hcells hold hold2 hownW
            obtain ⟨b', off', x', e', -, hbh, hxk, e0⟩ := (hx.below hb3 hhi).at hiq
            injection e' with e'
            injection e' with e1 e2
            subst e1 e2
            obtain rfl : (x : Int) = x' := by have h := Hxi.out; rw [hxk] at h; injection h with h; exact h.symm
            clear hxk
            have hdd : d < d + 1 := by omega
            cases hbit : x.testBit t
            · have hand := Hand.out
              rw [hbit] at hand
              have HS := Lib.hid (packM_skip (f := bitsOf q v) (m := d + 1) (HF.out.trans hbit))
              have hand2 : bits .and .i64 ((x : Int) / 2 ^ t) 1 = 0 := hand
              clear hbit hand
              go_wp2_with fail
              go_roundw
              case rel => exact ⟨t + 1, N + 1, Lib.hid ⟨by go_num, by go_num, by rw [HN.out]; omega, by omega, by rw [HND.out, HS.out]; exact HownW.out, hb3⟩⟩
              case measure => simp [intOf]; omega
            · have hand := Hand.out
              rw [hbit] at hand
              have hand2 : bits .and .i64 ((x : Int) / 2 ^ t) 1 = 1 := hand
              have HF1 := Lib.hid (HF.out.trans hbit)
              clear hbit hand
              go_upto_region 14 with fail
              refine wp_region_T (S := fun w' => w'.cell? ⟨g, d, none⟩ = some (.int .u8 (old.toNat : Int))) (n := 13) (by kernel_rfl) ?_
              generalize hX0 : w3.drew = X0
              have HB0 : Below w3.heap.size w3 X0 := hX0 ▸ (Below.refl _ _).drew
              have s0 : w3.heap.size ≤ X0.heap.size := HB0.size
              have x0 := cell_keep c0 HB0
              clear hX0
              have F0 : X0.cell? ⟨g, d, none⟩ = some (.int .u8 (old.toNat : Int)) := x0
              refine wpAnyT_take (i := 0) (oi := _) (v := ?_) rfl (by kernel_rfl) (by kernel_rfl) (by kernel_rfl) (by kernel_rfl) (fun _ _ _ h => h) (Or.inl ⟨by rfl, ?_⟩) F0 ?_
              rotate_left
              · (intro w' hSw; (try dsimp only at hSw); go_simp) <;> with_reducible rfl
              try simp only [Act.put, List.setIfInBounds_toArray, List.set_cons_zero, List.set_cons_succ]
              refine wpAnyT_take (i := 1) (oi := _) (v := ?_) rfl (by kernel_rfl) (by kernel_rfl) (by kernel_rfl) (by kernel_rfl) (fun _ _ _ h => h) (Or.inl ⟨by rfl, ?_⟩) F0 ?_
              rotate_left
              · (intro w' hSw; (try dsimp only at hSw); go_simp) <;> with_reducible rfl
              try simp only [Act.put, List.setIfInBounds_toArray, List.set_cons_zero, List.set_cons_succ]
              refine wpAnyT_take (i := 2) (oi := _) (v := ?_) rfl (by kernel_rfl) (by kernel_rfl) (by kernel_rfl) (by kernel_rfl) (fun _ _ _ h => h) (Or.inl ⟨by rfl, ?_⟩) F0 ?_
              rotate_left
              · (intro w' hSw; (try dsimp only at hSw); go_simp) <;> with_reducible rfl
              try simp only [Act.put, List.setIfInBounds_toArray, List.set_cons_zero, List.set_cons_succ]
              refine wpAnyT_take (i := 3) (oi := _) (v := ?_) rfl (by kernel_rfl) (by kernel_rfl) (by kernel_rfl) (by kernel_rfl) (fun _ _ _ h => h) (Or.inl ⟨by rfl, ?_⟩) F0 ?_
              rotate_left
              · (intro w' hSw; (try dsimp only at hSw); go_simp) <;> with_reducible rfl
              try simp only [Act.put, List.setIfInBounds_toArray, List.set_cons_zero, List.set_cons_succ]
              refine wpAnyT_take (i := 4) (oi := _) (v := ?_) rfl (by kernel_rfl) (by kernel_rfl) (by kernel_rfl) (by kernel_rfl) (fun _ _ _ h => h) (Or.inl ⟨by rfl, ?_⟩) F0 ?_
              rotate_left
              · (intro w' hSw; (try dsimp only at hSw); go_simp) <;> with_reducible rfl
              try simp only [Act.put, List.setIfInBounds_toArray, List.set_cons_zero, List.set_cons_succ]
              refine wpAnyT_take (i := 5) (oi := _) (v := ?_) rfl (by kernel_rfl) (by kernel_rfl) (by kernel_rfl) (by kernel_rfl) (fun _ _ _ h => h) (Or.inl ⟨by rfl, ?_⟩) F0 ?_
              rotate_left
              · (intro w' hSw; (try dsimp only at hSw); go_simp) <;> with_reducible rfl
              try simp only [Act.put, List.setIfInBounds_toArray, List.set_cons_zero, List.set_cons_succ]
              refine wpAnyT_take (i := 6) (oi := _) (v := ?_) rfl (by kernel_rfl) (by kernel_rfl) (by kernel_rfl) (by kernel_rfl) (fun _ _ _ h => h) (Or.inl ⟨by rfl, ?_⟩) F0 ?_
              rotate_left
              · (intro w' hSw; (try dsimp only at hSw); go_simp) <;> with_reducible rfl
              try simp only [Act.put, List.setIfInBounds_toArray, List.set_cons_zero, List.set_cons_succ]
              refine wpAnyT_take (i := 7) (oi := _) (v := ?_) rfl (by kernel_rfl) (by kernel_rfl) (by kernel_rfl) (by kernel_rfl) (fun _ _ _ h => h) (Or.inl ⟨by rfl, ?_⟩) F0 ?_
              rotate_left
              · (intro w' hSw; (try dsimp only at hSw); go_simp) <;> with_reducible rfl
              try simp only [Act.put, List.setIfInBounds_toArray, List.set_cons_zero, List.set_cons_succ]
              refine wpAnyT_take (i := 8) (oi := _) (v := ?_) rfl (by kernel_rfl) (by kernel_rfl) (by kernel_rfl) (by kernel_rfl) (fun _ _ _ h => h) (Or.inl ⟨by rfl, ?_⟩) F0 ?_
              rotate_left
              · (intro w' hSw; (try dsimp only at hSw); go_simp) <;> with_reducible rfl
              try simp only [Act.put, List.setIfInBounds_toArray, List.set_cons_zero, List.set_cons_succ]
              refine wpAnyT_take (i := 9) (oi := _) (v := ?_) rfl (by kernel_rfl) (by kernel_rfl) (by kernel_rfl) (by kernel_rfl) (fun _ _ _ h => h) (Or.inl ⟨by rfl, ?_⟩) F0 ?_
              rotate_left
              · (intro w' hSw; (try dsimp only at hSw); go_simp) <;> with_reducible rfl
              try simp only [Act.put, List.setIfInBounds_toArray, List.set_cons_zero, List.set_cons_succ]
              refine wpAnyT_take (i := 10) (oi := _) (v := ?_) rfl (by kernel_rfl) (by kernel_rfl) (by kernel_rfl) (by kernel_rfl) (fun _ _ _ h => h) (Or.inl ⟨by rfl, ?_⟩) F0 ?_
              rotate_left
              · (intro w' hSw; (try dsimp only at hSw); go_simp) <;> with_reducible rfl
              try simp only [Act.put, List.setIfInBounds_toArray, List.set_cons_zero, List.set_cons_succ]
              refine wpAnyT_take (i := 11) (oi := _) (v := ?_) rfl (by kernel_rfl) (by kernel_rfl) (by kernel_rfl) (by kernel_rfl) (fun _ _ _ h => h) (Or.inl ⟨by rfl, ?_⟩) F0 ?_
              rotate_left
              · (intro w' hSw; (try dsimp only at hSw); go_simp) <;> with_reducible rfl
              try simp only [Act.put, List.setIfInBounds_toArray, List.set_cons_zero, List.set_cons_succ]
              have hp8 := p7_le hm7
              obtain ⟨cc, hcc⟩ : ∃ cc, UInt8.ofNat (old.toNat ||| 2 ^ m) = cc := ⟨_, rfl⟩
              have EX : bits .or .u8 (old.toNat : Int) (IntKind.u8.wrap (2 ^ m)) = (cc.toNat : Int) := by
                rw [wrap_pow hm7, ← hcc]
                exact or_u8 old hp8
              rw [EX]
              have HS := Lib.hid (show packM (bitsOf q v) (d + 1) (N + 1) = (packM (bitsOf q v) (d + 1) N).set d cc by
                have h := packM_set (c := cc) hN8 Hold.out (by rw [HF1.out, if_pos rfl, Hm8.out, ← hcc]; exact or_old old hp8)
                rwa [Hd8.out] at h)
              clear hcc EX hp8
              have pf : ∀ o, X0.frozen? ⟨g, o, none⟩ = false := fun o => ((bcell HB0).2 g o hgh).trans (hfz o)
              have HO := Lib.hid (show (X0.setCell ⟨g, d, none⟩ (.int .u8 (cc.toNat : Int))).ownsRow w.heap.size 5 1 (.slice (some ⟨g, 0, none⟩) (d + 1) cap) ((N + 1 + 7) / 8) (bc (packM (bitsOf q v) ((N + 1 + 7) / 8) (N + 1))) by
                rw [HND.out, HS.out, ← bc_set]
                exact owns_put1 (owns_below HownW.out HB0))
              have hbF := Below.setCell (p := ⟨g, d, none⟩) (hb3.trans (HB0.mono hb3.size)) hgl (.int .u8 (cc.toNat : Int))
              refine wpAnyT_one (k := 12) (o := _) (by kernel_rfl) rfl rfl ?_
              intro K hK
              go_simp
              refine hK.out _ _ (fun _ => x0) ?_
              clear hK
              try simp only [Act.put, List.setIfInBounds_toArray, List.set_cons_zero, List.set_cons_succ]
              refine wpAnyT_one (k := 13) (o := _) (by kernel_rfl) rfl rfl ?_
              intro K hK
              go_simp
              refine hK.out _ _ (fun h => absurd rfl h) ?_
              clear hK
              refine wpAnyT_done (by kernel_rfl) ?_ _
              go_wp2_with fail
              go_roundw
              case rel => exact ⟨t + 1, N + 1, Lib.hid ⟨by go_num, by go_num, by rw [HN.out]; omega, by omega, HO.out, hbF⟩⟩
              case measure => simp [intOf]; omega
          · have h8' : (N + 7) / 8 = N / 8 + 1 := by omega
            have hd : ((N : Int) % 8 == 0) = false := by simp; omega
            rw [h8'] at hown
            have hownW := hown
            clear hown h8'
            obtain ⟨d, hd8⟩ : ∃ d, N / 8 = d := ⟨_, rfl⟩
            obtain ⟨m, hm8⟩ : ∃ m, N % 8 = m := ⟨_, rfl⟩
            have hm7 : m < 8 := by omega
            have hw8 : IntKind.i64.wrap ((N : Int) / 8) = (d : Int) := by rw [IntKind.wrap_i64]; omega
            have hw9 : (N : Int).tmod 8 = (m : Int) := by rw [Int.tmod_eq_emod_of_nonneg (by omega)]; omega
            have hdd2 : (d : Int) < (d : Int) + 1 := by omega
            have hm0 : (0 : Int) ≤ (m : Int) := by omega
            have hm9 : (m : Int) ≤ 8 := by omega
            have hNd := pack_next N
            rw [hd8] at hownW hNd
            obtain ⟨g, cap, rfl, hgl, hgh, hcap, hcap2, hcells, hfz⟩ := owns_form1 hownW (by omega)
            obtain ⟨old, hold⟩ : ∃ old, (packM (bitsOf q v) (d + 1) N)[N / 8]? = some old := ⟨_, packM_get _ (by omega)⟩
            have HND := Lib.hid hNd
            have Hd8 := Lib.hid hd8
            have Hm8 := Lib.hid hm8
            have hN8 : N < 8 * (d + 1) := by omega
            have hold2 := hold
            rw [hd8] at hold2
            have hdm : ((m : Int) == 0) = false := by simp; omega
            clear h8 hd
            clear hd8 hm8 hNd
            have c0 := hcells _ _ (bc_get hold2)
            have Hold := Lib.hid hold
            have HownW := Lib.hid hownW
            clear hcells hold hold2 hownW
            obtain ⟨b', off', x', e', -, hbh, hxk, e0⟩ := (hx.below hb hhi).at hiq
            injection e' with e'
            injection e' with e1 e2
            subst e1 e2
            obtain rfl : (x : Int) = x' := by have h := Hxi.out; rw [hxk] at h; injection h with h; exact h.symm
            clear hxk
            have hdd : d < d + 1 := by omega
            cases hbit : x.testBit t
            · have hand := Hand.out
              rw [hbit] at hand
              have HS := Lib.hid (packM_skip (f := bitsOf q v) (m := d + 1) (HF.out.trans hbit))
              have hand2 : bits .and .i64 ((x : Int) / 2 ^ t) 1 = 0 := hand
              clear hbit hand
              go_wp2_with fail
              go_roundw
              case rel => exact ⟨t + 1, N + 1, Lib.hid ⟨by go_num, by go_num, by rw [HN.out]; omega, by omega, by rw [HND.out, HS.out]; exact HownW.out, hb⟩⟩
              case measure => simp [intOf]; omega
            · have hand := Hand.out
              rw [hbit] at hand
              have hand2 : bits .and .i64 ((x : Int) / 2 ^ t) 1 = 1 := hand
              have HF1 := Lib.hid (HF.out.trans hbit)
              clear hbit hand
              go_upto_region 14 with fail
              refine wp_region_T (S := fun w' => w'.cell? ⟨g, d, none⟩ = some (.int .u8 (old.toNat : Int))) (n := 13) (by kernel_rfl) ?_
              generalize hX0 : wr.drew = X0
              have HB0 : Below wr.heap.size wr X0 := hX0 ▸ (Below.refl _ _).drew
              have s0 : wr.heap.size ≤ X0.heap.size := HB0.size
              have x0 := cell_keep c0 HB0
              clear hX0
              have F0 : X0.cell? ⟨g, d, none⟩ = some (.int .u8 (old.toNat : Int)) := x0
              refine wpAnyT_take (i := 0) (oi := _) (v := ?_) rfl (by kernel_rfl) (by kernel_rfl) (by kernel_rfl) (by kernel_rfl) (fun _ _ _ h => h) (Or.inl ⟨by rfl, ?_⟩) F0 ?_
              rotate_left
              · (intro w' hSw; (try dsimp only at hSw); go_simp) <;> with_reducible rfl
              try simp only [Act.put, List.setIfInBounds_toArray, List.set_cons_zero, List.set_cons_succ]
              refine wpAnyT_take (i := 1) (oi := _) (v := ?_) rfl (by kernel_rfl) (by kernel_rfl) (by kernel_rfl) (by kernel_rfl) (fun _ _ _ h => h) (Or.inl ⟨by rfl, ?_⟩) F0 ?_
              rotate_left
              · (intro w' hSw; (try dsimp only at hSw); go_simp) <;> with_reducible rfl
              try simp only [Act.put, List.setIfInBounds_toArray, List.set_cons_zero, List.set_cons_succ]
              refine wpAnyT_take (i := 2) (oi := _) (v := ?_) rfl (by kernel_rfl) (by kernel_rfl) (by kernel_rfl) (by kernel_rfl) (fun _ _ _ h => h) (Or.inl ⟨by rfl, ?_⟩) F0 ?_
              rotate_left
              · (intro w' hSw; (try dsimp only at hSw); go_simp) <;> with_reducible rfl
              try simp only [Act.put, List.setIfInBounds_toArray, List.set_cons_zero, List.set_cons_succ]
              refine wpAnyT_take (i := 3) (oi := _) (v := ?_) rfl (by kernel_rfl) (by kernel_rfl) (by kernel_rfl) (by kernel_rfl) (fun _ _ _ h => h) (Or.inl ⟨by rfl, ?_⟩) F0 ?_
              rotate_left
              · (intro w' hSw; (try dsimp only at hSw); go_simp) <;> with_reducible rfl
              try simp only [Act.put, List.setIfInBounds_toArray, List.set_cons_zero, List.set_cons_succ]
              refine wpAnyT_take (i := 4) (oi := _) (v := ?_) rfl (by kernel_rfl) (by kernel_rfl) (by kernel_rfl) (by kernel_rfl) (fun _ _ _ h => h) (Or.inl ⟨by rfl, ?_⟩) F0 ?_
              rotate_left
              · (intro w' hSw; (try dsimp only at hSw); go_simp) <;> with_reducible rfl
              try simp only [Act.put, List.setIfInBounds_toArray, List.set_cons_zero, List.set_cons_succ]
              refine wpAnyT_take (i := 5) (oi := _) (v := ?_) rfl (by kernel_rfl) (by kernel_rfl) (by kernel_rfl) (by kernel_rfl) (fun _ _ _ h => h) (Or.inl ⟨by rfl, ?_⟩) F0 ?_
              rotate_left
              · (intro w' hSw; (try dsimp only at hSw); go_simp) <;> with_reducible rfl
              try simp only [Act.put, List.setIfInBounds_toArray, List.set_cons_zero, List.set_cons_succ]
              refine wpAnyT_take (i := 6) (oi := _) (v := ?_) rfl (by kernel_rfl) (by kernel_rfl) (by kernel_rfl) (by kernel_rfl) (fun _ _ _ h => h) (Or.inl ⟨by rfl, ?_⟩) F0 ?_
              rotate_left
              · (intro w' hSw; (try dsimp only at hSw); go_simp) <;> with_reducible rfl
              try simp only [Act.put, List.setIfInBounds_toArray, List.set_cons_zero, List.set_cons_succ]
              refine wpAnyT_take (i := 7) (oi := _) (v := ?_) rfl (by kernel_rfl) (by kernel_rfl) (by kernel_rfl) (by kernel_rfl) (fun _ _ _ h => h) (Or.inl ⟨by rfl, ?_⟩) F0 ?_
              rotate_left
              · (intro w' hSw; (try dsimp only at hSw); go_simp) <;> with_reducible rfl
              try simp only [Act.put, List.setIfInBounds_toArray, List.set_cons_zero, List.set_cons_succ]
              refine wpAnyT_take (i := 8) (oi := _) (v := ?_) rfl (by kernel_rfl) (by kernel_rfl) (by kernel_rfl) (by kernel_rfl) (fun _ _ _ h => h) (Or.inl ⟨by rfl, ?_⟩) F0 ?_
              rotate_left
              · (intro w' hSw; (try dsimp only at hSw); go_simp) <;> with_reducible rfl
              try simp only [Act.put, List.setIfInBounds_toArray, List.set_cons_zero, List.set_cons_succ]
              refine wpAnyT_take (i := 9) (oi := _) (v := ?_) rfl (by kernel_rfl) (by kernel_rfl) (by kernel_rfl) (by kernel_rfl) (fun _ _ _ h => h) (Or.inl ⟨by rfl, ?_⟩) F0 ?_
              rotate_left
              · (intro w' hSw; (try dsimp only at hSw); go_simp) <;> with_reducible rfl
              try simp only [Act.put, List.setIfInBounds_toArray, List.set_cons_zero, List.set_cons_succ]
              refine wpAnyT_take (i := 10) (oi := _) (v := ?_) rfl (by kernel_rfl) (by kernel_rfl) (by kernel_rfl) (by kernel_rfl) (fun _ _ _ h => h) (Or.inl ⟨by rfl, ?_⟩) F0 ?_
              rotate_left
              · (intro w' hSw; (try dsimp only at hSw); go_simp) <;> with_reducible rfl
              try simp only [Act.put, List.setIfInBounds_toArray, List.set_cons_zero, List.set_cons_succ]
              refine wpAnyT_take (i := 11) (oi := _) (v := ?_) rfl (by kernel_rfl) (by kernel_rfl) (by kernel_rfl) (by kernel_rfl) (fun _ _ _ h => h) (Or.inl ⟨by rfl, ?_⟩) F0 ?_
              rotate_left
              · (intro w' hSw; (try dsimp only at hSw); go_simp) <;> with_reducible rfl
              try simp only [Act.put, List.setIfInBounds_toArray, List.set_cons_zero, List.set_cons_succ]
              have hp8 := p7_le hm7
              obtain ⟨cc, hcc⟩ : ∃ cc, UInt8.ofNat (old.toNat ||| 2 ^ m) = cc := ⟨_, rfl⟩
              have EX : bits .or .u8 (old.toNat : Int) (IntKind.u8.wrap (2 ^ m)) = (cc.toNat : Int) := by
                rw [wrap_pow hm7, ← hcc]
                exact or_u8 old hp8
              rw [EX]
              have HS := Lib.hid (show packM (bitsOf q v) (d + 1) (N + 1) = (packM (bitsOf q v) (d + 1) N).set d cc by
                have h := packM_set (c := cc) hN8 Hold.out (by rw [HF1.out, if_pos rfl, Hm8.out, ← hcc]; exact or_old old hp8)
                rwa [Hd8.out] at h)
              clear hcc EX hp8
              have pf : ∀ o, X0.frozen? ⟨g, o, none⟩ = false := fun o => ((bcell HB0).2 g o hgh).trans (hfz o)
              have HO := Lib.hid (show (X0.setCell ⟨g, d, none⟩ (.int .u8 (cc.toNat : Int))).ownsRow w.heap.size 5 1 (.slice (some ⟨g, 0, none⟩) (d + 1) cap) ((N + 1 + 7) / 8) (bc (packM (bitsOf q v) ((N + 1 + 7) / 8) (N + 1))) by
                rw [HND.out, HS.out, ← bc_set]
                exact owns_put1 (owns_below HownW.out HB0))
              have hbF := Below.setCell (p := ⟨g, d, none⟩) (hb.trans (HB0.mono hb.size)) hgl (.int .u8 (cc.toNat : Int))
              refine wpAnyT_one (k := 12) (o := _) (by kernel_rfl) rfl rfl ?_
              intro K hK
              go_simp
              refine hK.out _ _ (fun _ => x0) ?_
              clear hK
              try simp only [Act.put, List.setIfInBounds_toArray, List.set_cons_zero, List.set_cons_succ]
              refine wpAnyT_one (k := 13) (o := _) (by kernel_rfl) rfl rfl ?_
              intro K hK
              go_simp
              refine hK.out _ _ (fun h => absurd rfl h) ?_
              clear hK
              refine wpAnyT_done (by kernel_rfl) ?_ _
              go_wp2_with fail
              go_roundw
              case rel => exact ⟨t + 1, N + 1, Lib.hid ⟨by go_num, by go_num, by rw [HN.out]; omega, by omega, HO.out, hbF⟩⟩
              case measure => simp [intOf]; omega
        · obtain rfl : t = v := by omega
          have HN2 := Lib.hid (show N = (i + 1) * t by rw [hN, Nat.add_mul]; omega)
          have Hown := Lib.hid hown
          obtain ⟨Ao, co, rfl, -, -, -⟩ := (Own.new hown).cells
          clear hN hown
          go_wp2_with fail
          go_roundw
          case rel => exact ⟨i + 1, N, Lib.hid ⟨by go_num, rfl, HN2.out, by omega, Hown.out, hb⟩⟩
          case measure => simp [intOf]; omega
    · obtain rfl : i = q.length := by omega
      go_wp2_with fail
      go_ret
      refine ⟨_, rfl, ?_, hb⟩
      rw [HP.out, packM_len, ← HN.out]
      exact .new Hown.out
set_option maxHeartbeats 4000000 in
set_option maxRecDepth 20000 in
theorem impl_PackBits (q : List Int) (x : Value) (v : Int) (w : World) {lo hi : Nat} (hx : RdI w lo hi x q) (hhi : hi ≤ w.heap.size) (hq : q.length ≤ 1000000) :
    Calls Tryz.prog 141 #[x, .int .i64 v] w fun e w' => ∃ r, e = .returned r ∧ Own 5 1 w' w.heap.size w'.heap.size r (packB q v).length (bc (packB q v)) ∧ Below w.heap.size w w' := by
  obtain ⟨A, c, rfl, hl, hl2⟩ := hx.form
  obtain ⟨i0, hif, hz0, hz1, hz2⟩ := info_parts info_u8
  have hQ := q_impl_within v 0 31 w
  cases hv : inR v 0 31
  · rw [hv] at hQ
    have HQ := Lib.hid hQ
    have HP := Lib.hid (packB_no (l := q) (v := v) (by rw [packOk, hv]; rfl))
    clear hv hQ hif hz0 hz1 hz2
    go_enter Tryz.func141, Tryz.ntmps141
    go_wp2_with fail
    refine HQ.out.mono ?_
    rintro e w1 ⟨rfl, rfl⟩
    go_wp2_with fail
    go_ret
    exact ⟨_, rfl, by rw [HP.out]; exact own_ints_none _ _ _ _, Below.refl _ _⟩
  rw [hv] at hQ
  have HQ := Lib.hid hQ
  clear hQ
  have hv2 := inR_yes hv
  obtain ⟨v, rfl⟩ := Int.eq_ofNat_of_zero_le hv2.1
  have hv31 : v ≤ 31 := by omega
  have Hv := Lib.hid hv
  have hMb : (q.length * v + 7) / 8 ≤ 4000000 := by
    have := Nat.mul_le_mul hq hv31
    omega
  have hMe : ((q.length : Int) * v + 7) / 8 = (((q.length * v + 7) / 8 : Nat) : Int) := by simp
  have hMw : (q.length : Int) * v ≤ 31000000 ∧ 0 ≤ (q.length : Int) * v := by
    have := Nat.mul_le_mul hq hv31
    rw [← Int.natCast_mul]
    omega
  obtain ⟨hMw1, hMw0⟩ := hMw
  have hmk : ∀ W : World, _ := fun W => make_n (P := Tryz.prog) 34 5 i0 _ Tryz.underlying34 hif hz0 ((q.length * v + 7) / 8) (by rw [hz2]; omega) (by omega) W
  rw [hz1, ← hMe] at hmk
  have own0 := owns_full w w.heap.size 5 ((q.length * v + 7) / 8) (madeCells #[Value.int .u8 0] ((q.length * v + 7) / 8)) (Nat.le_refl _) (by unfold maxLen; omega) (by rw [size_madeCells, Nat.mul_one])
  rw [made_pack (bitsOf q v)] at own0
  have hb0 := up_a1 w (.cells (madeCells #[Value.int .u8 0] ((q.length * v + 7) / 8)) 5)
  have HMK := Lib.hid hmk
  have HO0 := Lib.hid own0
  have HB0' := Lib.hid hb0
  clear hv hv2 hif hz0 hz1 hz2 hmk own0 hb0 hMe
  obtain ⟨M, hM⟩ : ∃ M, (q.length * v + 7) / 8 = M := ⟨_, rfl⟩
  rw [hM] at hMb HMK HO0 HB0'
  have HM0 := Lib.hid hM
  clear hM
  go_enter Tryz.func141, Tryz.ntmps141
  go_wp2_with fail
  refine HQ.out.mono ?_
  rintro e w1 ⟨rfl, rfl⟩
  go_wp2_with fail
  go_loop [17] (fun i => ∃ j : Nat, Hid (i = .int .i64 j ∧ (q.take j).all (fitsW v) = true ∧ j ≤ q.length)) (fun i => q.length - (intOf i).toNat)
  case atStart => exact ⟨0, Lib.hid ⟨rfl, rfl, by omega⟩⟩
  case round =>
    obtain ⟨j, hrel⟩ := hrel
    obtain ⟨rfl, hall, hj⟩ := hrel.out
    have Hall := Lib.hid hall
    clear hrel hall
    by_cases hjl : j < q.length
    · obtain ⟨b, off, n, rfl, -, -, hn, e0⟩ := hx.at hjl
      have Hn := Lib.hid hn
      clear hn
      have hQ := q_impl_within n 0 2147483647 w
      cases h1 : inR n 0 2147483647
      · rw [h1] at hQ
        have HQ := Lib.hid hQ
        have HP := Lib.hid (packB_no (packOk_not (w := (v : Int)) Hn.out (by rw [fitsW, h1]; rfl)))
        clear h1 hQ
        go_wp2_with fail
        refine HQ.out.mono ?_
        rintro e w1 ⟨rfl, rfl⟩
        go_wp2_with fail
        go_ret
        exact ⟨_, rfl, by rw [HP.out]; exact own_ints_none _ _ _ _, Below.refl _ _⟩
      · rw [h1] at hQ
        have HQ := Lib.hid hQ
        have HW := Lib.hid (q_impl_WidthOf n w)
        by_cases h2 : (widthOf n : Int) ≤ v
        · have Hall' := Lib.hid (allf_step Hn.out Hall.out (by rw [fitsW, h1, decide_eq_true h2]; rfl))
          have hd : decide ((v : Int) < (widthOf n : Int)) = false := decide_eq_false (by omega)
          clear h1 hQ
          generalize widthOf n = d at *
          go_wp2_with fail
          refine HQ.out.mono ?_
          rintro e w1 ⟨rfl, rfl⟩
          go_wp2_with fail
          refine HW.out.mono ?_
          rintro e w1 ⟨rfl, rfl⟩
          go_wp2_with fail
          go_round
          case rel => exact ⟨j + 1, Lib.hid ⟨by go_num, Hall'.out, by omega⟩⟩
          case measure => simp [intOf]; omega
        · have HP := Lib.hid (packB_no (packOk_not (w := (v : Int)) Hn.out (by rw [fitsW, h1, decide_eq_false h2]; rfl)))
          have hd : decide ((v : Int) < (widthOf n : Int)) = true := decide_eq_true (by omega)
          clear h1 hQ
          generalize widthOf n = d at *
          go_wp2_with fail
          refine HQ.out.mono ?_
          rintro e w1 ⟨rfl, rfl⟩
          go_wp2_with fail
          refine HW.out.mono ?_
          rintro e w1 ⟨rfl, rfl⟩
          go_wp2_with fail
          go_ret
          exact ⟨_, rfl, by rw [HP.out]; exact own_ints_none _ _ _ _, Below.refl _ _⟩
    · obtain rfl : j = q.length := by omega
      have hok : packOk q v = true := by
        have h := Hall.out
        rw [List.take_length] at h
        rw [packOk, h, Hv.out]
        rfl
      have HP := Lib.hid (packB_yes hok)
      have HM := Lib.hid (fun n hn => packOk_mem (n := n) hok hn)
      have hmk := HMK.out
      clear hok Hall Hv HQ
      go_wp2_with fail
      clear hmk
      go_loopw [40] (fun i wr => ∃ j : Nat, Hid (i = .int .i64 j ∧ j ≤ q.length ∧ wr.ownsRow w.heap.size 5 1 (.slice (some ⟨w.heap.size, 0, none⟩) M M) M (bc (packM (bitsOf q v) M (j * v))) ∧ Below w.heap.size w wr)) (fun i _ => q.length - (intOf i).toNat)
      case atStart => exact ⟨0, Lib.hid ⟨rfl, by omega, by rw [Nat.zero_mul]; exact HO0.out, HB0'.out⟩⟩
      case round =>
        obtain ⟨i, hrel⟩ := hrel
        obtain ⟨rfl, hi, hown, hb⟩ := hrel.out
        clear hrel
        have Hown := Lib.hid hown
        clear hown
        by_cases hiq : i < q.length
        · obtain ⟨b, off, x, rfl, -, hbl, hxi, e0⟩ := (hx.below hb hhi).at hiq
          obtain ⟨⟨x0, x1⟩, -⟩ := HM.out x (mem_of_get hxi)
          obtain ⟨x, rfl⟩ := Int.eq_ofNat_of_zero_le x0
          have Hxi := Lib.hid hxi
          clear hxi
          go_wp2_with fail
          clear e0
          go_loopw [10] (fun k wr => ∃ t : Nat, Hid (k = .int .i64 t ∧ t ≤ v ∧ wr.ownsRow w.heap.size 5 1 (.slice (some ⟨w.heap.size, 0, none⟩) M M) M (bc (packM (bitsOf q v) M (i * v + t))) ∧ Below w.heap.size w wr)) (fun k _ => v - (intOf k).toNat)
          case atStart => exact ⟨0, Lib.hid ⟨rfl, by omega, Hown.out, hb⟩⟩
          case round =>
            clear Hown hb
            obtain ⟨t, hrel⟩ := hrel
            obtain ⟨rfl, ht, hown, hb⟩ := hrel.out
            clear hrel
            have hbs := hb.size
            by_cases htv : t < v
            · obtain ⟨N, hN⟩ : ∃ N, i * v + t = N := ⟨_, rfl⟩
              have hNb : N ≤ 31000031 := by
                have := Nat.mul_le_mul (show i ≤ 1000000 by omega) hv31
                omega
              have hNM : N < q.length * v := by
                rw [← hN]
                exact Nat.lt_of_lt_of_le (show i * v + t < (i + 1) * v by rw [Nat.add_mul]; omega) (Nat.mul_le_mul_right _ hiq)
              have hiv : (i : Int) * v ≤ 31000000 ∧ 0 ≤ (i : Int) * v := by
                have := Nat.mul_le_mul (show i ≤ 1000000 by omega) hv31
                rw [← Int.natCast_mul]
                omega
              obtain ⟨hiv1, hiv0⟩ := hiv
              have hNe : (i : Int) * v + t = (N : Int) := by rw [← hN]; simp
              have HF := Lib.hid (show bitsOf q v N = x.testBit t by rw [← hN]; exact bitsOf_at Hxi.out htv)
              have HN := Lib.hid hN
              rw [hN] at hown
              have hand := bit_of x t (by omega)
              obtain ⟨be, hbe⟩ : ∃ be, (x.testBit t).toNat = be := ⟨_, rfl⟩
              have hbe1 : be ≤ 1 := by rw [← hbe]; exact Bool.toNat_le _
              rw [hbe] at hand
              have Hbe := Lib.hid hbe
              obtain ⟨d, hd8⟩ : ∃ d, N / 8 = d := ⟨_, rfl⟩
              obtain ⟨m, hm8⟩ : ∃ m, N % 8 = m := ⟨_, rfl⟩
              have hm7 : m < 8 := by omega
              have hw8 : IntKind.i64.wrap ((N : Int) / 8) = (d : Int) := by rw [IntKind.wrap_i64]; omega
              have hw9 : (N : Int).tmod 8 = (m : Int) := by rw [Int.tmod_eq_emod_of_nonneg (by omega)]; omega
              have hdM : d < M := by have := HM0.out; omega
              have hdd2 : (d : Int) < (M : Int) := by omega
              have hm0 : (0 : Int) ≤ (m : Int) := by omega
              have hm9 : (m : Int) ≤ 64 := by omega
              have ht9 : (t : Int) ≤ 64 := by omega
              obtain ⟨old, hold⟩ : ∃ old, (packM (bitsOf q v) M N)[N / 8]? = some old := ⟨_, packM_get _ (by omega)⟩
              obtain ⟨g, cap, e', hgl, hgh, hcap, hcap2, hcells, hfz⟩ := owns_form1 hown (by omega)
              injection e' with e1 _ ec
              injection e1 with e1
              injection e1 with e1
              subst e1 ec
              have Hd8 := Lib.hid hd8
              have Hm8 := Lib.hid hm8
              have hN8 : N < 8 * M := by omega
              have Hold := Lib.hid hold
              rw [hd8] at hold
              have c0 := hcells _ _ (bc_get hold)
              have HownW := Lib.hid hown
              clear hd8 hm8 hold hcells hown hbe hN hNM
              go_upto_region 17 with fail
              refine wp_region_T (S := fun w' => w'.cell? ⟨w.heap.size, d, none⟩ = some (.int .u8 (old.toNat : Int))) (n := 15) (by kernel_rfl) ?_
              generalize hX0 : wr.drew = X0
              have HB0 : Below wr.heap.size wr X0 := hX0 ▸ (Below.refl _ _).drew
              have s0 : wr.heap.size ≤ X0.heap.size := HB0.size
              have x0 := cell_keep c0 HB0
              clear hX0
              have F0 : X0.cell? ⟨w.heap.size, d, none⟩ = some (.int .u8 (old.toNat : Int)) := x0
              refine wpAnyT_take (i := 0) (oi := _) (v := ?_) rfl (by kernel_rfl) (by kernel_rfl) (by kernel_rfl) (by kernel_rfl) (fun _ _ _ h => h) (Or.inl ⟨by rfl, ?_⟩) F0 ?_
              rotate_left
              · (intro w' hSw; (try dsimp only at hSw); go_simp) <;> with_reducible rfl
              try simp only [Act.put, List.setIfInBounds_toArray, List.set_cons_zero, List.set_cons_succ]
              refine wpAnyT_take (i := 1) (oi := _) (v := ?_) rfl (by kernel_rfl) (by kernel_rfl) (by kernel_rfl) (by kernel_rfl) (fun _ _ _ h => h) (Or.inl ⟨by rfl, ?_⟩) F0 ?_
              rotate_left
              · (intro w' hSw; (try dsimp only at hSw); go_simp) <;> with_reducible rfl
              try simp only [Act.put, List.setIfInBounds_toArray, List.set_cons_zero, List.set_cons_succ]
              refine wpAnyT_take (i := 2) (oi := _) (v := ?_) rfl (by kernel_rfl) (by kernel_rfl) (by kernel_rfl) (by kernel_rfl) (fun _ _ _ h => h) (Or.inl ⟨by rfl, ?_⟩) F0 ?_
              rotate_left
              · (intro w' hSw; (try dsimp only at hSw); go_simp) <;> with_reducible rfl
              try simp only [Act.put, List.setIfInBounds_toArray, List.set_cons_zero, List.set_cons_succ]
              refine wpAnyT_take (i := 3) (oi := _) (v := ?_) rfl (by kernel_rfl) (by kernel_rfl) (by kernel_rfl) (by kernel_rfl) (fun _ _ _ h => h) (Or.inl ⟨by rfl, ?_⟩) F0 ?_
              rotate_left
              · (intro w' hSw; (try dsimp only at hSw); go_simp) <;> with_reducible rfl
              try simp only [Act.put, List.setIfInBounds_toArray, List.set_cons_zero, List.set_cons_succ]
              refine wpAnyT_take (i := 4) (oi := _) (v := ?_) rfl (by kernel_rfl) (by kernel_rfl) (by kernel_rfl) (by kernel_rfl) (fun _ _ _ h => h) (Or.inl ⟨by rfl, ?_⟩) F0 ?_
              rotate_left
              · (intro w' hSw; (try dsimp only at hSw); go_simp) <;> with_reducible rfl
              try simp only [Act.put, List.setIfInBounds_toArray, List.set_cons_zero, List.set_cons_succ]
              refine wpAnyT_take (i := 5) (oi := _) (v := ?_) rfl (by kernel_rfl) (by kernel_rfl) (by kernel_rfl) (by kernel_rfl) (fun _ _ _ h => h) (Or.inl ⟨by rfl, ?_⟩) F0 ?_
              rotate_left
              · (intro w' hSw; (try dsimp only at hSw); go_simp) <;> with_reducible rfl
              try simp only [Act.put, List.setIfInBounds_toArray, List.set_cons_zero, List.set_cons_succ]
              refine wpAnyT_take (i := 6) (oi := _) (v := ?_) rfl (by kernel_rfl) (by kernel_rfl) (by kernel_rfl) (by kernel_rfl) (fun _ _ _ h => h) (Or.inl ⟨by rfl, ?_⟩) F0 ?_
              rotate_left
              · (intro w' hSw; (try dsimp only at hSw); go_simp) <;> with_reducible rfl
              try simp only [Act.put, List.setIfInBounds_toArray, List.set_cons_zero, List.set_cons_succ]
              refine wpAnyT_take (i := 7) (oi := _) (v := ?_) rfl (by kernel_rfl) (by kernel_rfl) (by kernel_rfl) (by kernel_rfl) (fun _ _ _ h => h) (Or.inl ⟨by rfl, ?_⟩) F0 ?_
              rotate_left
              · (intro w' hSw; (try dsimp only at hSw); go_simp) <;> with_reducible rfl
              try simp only [Act.put, List.setIfInBounds_toArray, List.set_cons_zero, List.set_cons_succ]
              refine wpAnyT_take (i := 8) (oi := _) (v := ?_) rfl (by kernel_rfl) (by kernel_rfl) (by kernel_rfl) (by kernel_rfl) (fun _ _ _ h => h) (Or.inl ⟨by rfl, ?_⟩) F0 ?_
              rotate_left
              · (intro w' hSw; (try dsimp only at hSw); go_simp) <;> with_reducible rfl
              try simp only [Act.put, List.setIfInBounds_toArray, List.set_cons_zero, List.set_cons_succ]
              refine wpAnyT_take (i := 9) (oi := _) (v := ?_) rfl (by kernel_rfl) (by kernel_rfl) (by kernel_rfl) (by kernel_rfl) (fun _ _ _ h => h) (Or.inl ⟨by rfl, ?_⟩) F0 ?_
              rotate_left
              · (intro w' hSw; (try dsimp only at hSw); go_simp) <;> with_reducible rfl
              try simp only [Act.put, List.setIfInBounds_toArray, List.set_cons_zero, List.set_cons_succ]
              refine wpAnyT_take (i := 10) (oi := _) (v := ?_) rfl (by kernel_rfl) (by kernel_rfl) (by kernel_rfl) (by kernel_rfl) (fun _ _ _ h => h) (Or.inl ⟨by rfl, ?_⟩) F0 ?_
              rotate_left
              · (intro w' hSw; (try dsimp only at hSw); go_simp) <;> with_reducible rfl
              try simp only [Act.put, List.setIfInBounds_toArray, List.set_cons_zero, List.set_cons_succ]
              refine wpAnyT_take (i := 11) (oi := _) (v := ?_) rfl (by kernel_rfl) (by kernel_rfl) (by kernel_rfl) (by kernel_rfl) (fun _ _ _ h => h) (Or.inl ⟨by rfl, ?_⟩) F0 ?_
              rotate_left
              · (intro w' hSw; (try dsimp only at hSw); go_simp) <;> with_reducible rfl
              try simp only [Act.put, List.setIfInBounds_toArray, List.set_cons_zero, List.set_cons_succ]
              refine wpAnyT_take (i := 12) (oi := _) (v := ?_) rfl (by kernel_rfl) (by kernel_rfl) (by kernel_rfl) (by kernel_rfl) (fun _ _ _ h => h) (Or.inl ⟨by rfl, ?_⟩) F0 ?_
              rotate_left
              · (intro w' hSw; (try dsimp only at hSw); go_simp) <;> with_reducible rfl
              try simp only [Act.put, List.setIfInBounds_toArray, List.set_cons_zero, List.set_cons_succ]
              refine wpAnyT_take (i := 13) (oi := _) (v := ?_) rfl (by kernel_rfl) (by kernel_rfl) (by kernel_rfl) (by kernel_rfl) (fun _ _ _ h => h) (Or.inl ⟨by rfl, ?_⟩) F0 ?_
              rotate_left
              · (intro w' hSw; (try dsimp only at hSw); go_simp) <;> with_reducible rfl
              try simp only [Act.put, List.setIfInBounds_toArray, List.set_cons_zero, List.set_cons_succ]
              have hp8 := p7_le hm7
              have hbm : be * 2 ^ m ≤ 128 := Nat.le_trans (Nat.mul_le_mul_right _ hbe1) (by omega)
              obtain ⟨cc, hcc⟩ : ∃ cc, UInt8.ofNat (old.toNat ||| be * 2 ^ m) = cc := ⟨_, rfl⟩
              have EX : bits .or .u8 (old.toNat : Int) (IntKind.u8.wrap (IntKind.i64.wrap ((be : Int) * 2 ^ m))) = (cc.toNat : Int) := by
                rw [wrap_mul hbm, ← hcc]
                exact or_u8 old hbm
              rw [EX]
              have HS := Lib.hid (show packM (bitsOf q v) M (N + 1) = (packM (bitsOf q v) M N).set d cc by
                have h := packM_set (c := cc) hN8 Hold.out (by
                  rw [HF.out, Hm8.out, ← hcc, or_old old hbm, ← Hbe.out]
                  cases x.testBit t <;> simp)
                rwa [Hd8.out] at h)
              clear hcc EX hp8 hbm
              have pf : ∀ o, X0.frozen? ⟨w.heap.size, o, none⟩ = false := fun o => ((bcell HB0).2 _ o hgh).trans (hfz o)
              have HO := Lib.hid (show (X0.setCell ⟨w.heap.size, d, none⟩ (.int .u8 (cc.toNat : Int))).ownsRow w.heap.size 5 1 (.slice (some ⟨w.heap.size, 0, none⟩) M M) M (bc (packM (bitsOf q v) M (i * v + (t + 1)))) by
                rw [← Nat.add_assoc, HN.out, HS.out, ← bc_set]
                exact owns_put1 (owns_below HownW.out HB0))
              have hbF := Below.setCell (p := ⟨w.heap.size, d, none⟩) (hb.trans (HB0.mono hb.size)) hgl (.int .u8 (cc.toNat : Int))
              refine wpAnyT_one (k := 14) (o := _) (by kernel_rfl) rfl rfl ?_
              intro K hK
              go_simp
              refine hK.out _ _ (fun _ => x0) ?_
              clear hK
              try simp only [Act.put, List.setIfInBounds_toArray, List.set_cons_zero, List.set_cons_succ]
              refine wpAnyT_one (k := 15) (o := _) (by kernel_rfl) rfl rfl ?_
              intro K hK
              go_simp
              refine hK.out _ _ (fun h => absurd rfl h) ?_
              clear hK
              refine wpAnyT_done (by kernel_rfl) ?_ _
              go_wp2_with fail
              go_roundw
              case rel => exact ⟨t + 1, Lib.hid ⟨by go_num, by omega, HO.out, hbF⟩⟩
              case measure => simp [intOf]; omega
            · obtain rfl : t = v := by omega
              have Hown := Lib.hid (show wr.ownsRow w.heap.size 5 1 (.slice (some ⟨w.heap.size, 0, none⟩) M M) M (bc (packM (bitsOf q t) M ((i + 1) * t))) by rw [Nat.add_mul, Nat.one_mul]; exact hown)
              clear hown
              go_wp2_with fail
              go_roundw
              case rel => exact ⟨i + 1, Lib.hid ⟨by go_num, by omega, Hown.out, hb⟩⟩
              case measure => simp [intOf]; omega
        · obtain rfl : i = q.length := by omega
          go_wp2_with fail
          go_ret
          refine ⟨_, rfl, ?_, hb⟩
          rw [HP.out, packM_len, HM0.out]
          exact .new Hown.out
end Go.Proofs.YticimccfeohpcaaGreat
namespace Go.Lb
open Go.RowKit
def clearB (b : List UInt8) (n : Nat) : Bool := (List.range (8 * b.length)).all fun i => decide (i < n) || !bitL b i
theorem clearB_yes {b : List UInt8} {n : Nat} (h : clearB b n = true) : clearFrom b n := fun i h1 h2 => by
  rw [clearB, List.all_eq_true] at h
  have h3 := h i (List.mem_range.2 h2)
  simp only [Bool.or_eq_true, decide_eq_true_eq, Bool.not_eq_true'] at h3
  exact h3.resolve_left (by omega)
theorem clearB_of {b : List UInt8} {n : Nat} (h : clearFrom b n) : clearB b n = true := by
  rw [clearB, List.all_eq_true]
  intro i hi
  by_cases h1 : i < n
  · simp [h1]
  · simp [h i (by omega) (List.mem_range.1 hi)]
theorem clearB_not {b : List UInt8} {n i : Nat} (h1 : n ≤ i) (h2 : i < 8 * b.length) (h3 : bitL b i = true) : clearB b n = false := by
  rw [Bool.eq_false_iff]
  intro h
  rw [clearB_yes h i h1 h2] at h3
  cases h3
def unpackB (b : List UInt8) (v k : Int) : Option (List Int) := if (inR v 0 31 && (inR k 0 64 && (decide ((b.length : Int) = bytesFor k v) && clearB b (k.toNat * v.toNat)))) = true then some (numsAt b v.toNat k.toNat) else none
theorem unpackB_no1 {b : List UInt8} {v k : Int} (h : inR v 0 31 = false) : unpackB b v k = none := by rw [unpackB, h]; rfl
theorem unpackB_no2 {b : List UInt8} {v k : Int} (h : inR k 0 64 = false) : unpackB b v k = none := by rw [unpackB, h]; simp
theorem unpackB_no3 {b : List UInt8} {v k : Int} (h : ¬ (b.length : Int) = bytesFor k v) : unpackB b v k = none := by rw [unpackB, decide_eq_false h]; simp
theorem unpackB_no4 {b : List UInt8} {v k : Nat} (h : clearB b (k * v) = false) : unpackB b v k = none := by rw [unpackB, Int.toNat_natCast, Int.toNat_natCast, h]; simp
theorem unpackB_yes {b : List UInt8} {v k : Nat} (h1 : inR v 0 31 = true) (h2 : inR k 0 64 = true) (h3 : (b.length : Int) = bytesFor k v) (h4 : clearB b (k * v) = true) : unpackB b v k = some (numsAt b v k) := by
  rw [unpackB, Int.toNat_natCast, Int.toNat_natCast, h4, h1, h2, decide_eq_true h3]
  rfl
theorem unpackB_some {b : List UInt8} {v k : Int} {l : List Int} (h : unpackB b v k = some l) : unpackOk b v k ∧ l = numsAt b v.toNat k.toNat := by
  rw [unpackB] at h
  split at h
  · rename_i h1
    simp only [Bool.and_eq_true, decide_eq_true_eq] at h1
    injection h with h
    exact ⟨⟨h1.1, h1.2.1, h1.2.2.1, clearB_yes h1.2.2.2⟩, h.symm⟩
  · cases h
theorem unpackB_of {b : List UInt8} {v k : Int} (h : unpackOk b v k) : unpackB b v k = some (numsAt b v.toNat k.toNat) := by
  rw [unpackB, if_pos]
  simp only [Bool.and_eq_true, decide_eq_true_eq]
  exact ⟨h.1, h.2.1, h.2.2.1, clearB_of h.2.2.2⟩
theorem numsAt_succ (b : List UInt8) (v k : Nat) : numsAt b v (k + 1) = numsAt b v k ++ [numAt b v k] := by simp [numsAt, List.range_succ]
theorem numsAt_len (b : List UInt8) (v k : Nat) : (numsAt b v k).length = k := by simp [numsAt]
theorem bitAt_nat (b : List UInt8) (n : Nat) : bitAt b (n : Int) = ((if bitL b n then 1 else 0 : Nat) : Int) := by
  rw [bitAt, if_neg (by omega), Int.toNat_natCast]
  split <;> rfl
theorem or_bit {x j be : Nat} (hx : x < 2 ^ j) (hj : j < 31) (hb : be ≤ 1) : bits .or .i64 (x : Int) (wrap64 ((be : Int) * 2 ^ j)) = ((be * 2 ^ j + x : Nat) : Int) := by
  have hp : 2 ^ j ≤ 1073741824 := Nat.pow_le_pow_right (by decide) (show j ≤ 30 by omega)
  have hm : be * 2 ^ j ≤ 1073741824 := Nat.le_trans (Nat.mul_le_mul_right _ hb) (by omega)
  have hw : ∀ n : Int, 0 ≤ n → n < 2 ^ 62 → IntKind.i64.wrap n = n := fun n h0 h1 => by rw [IntKind.wrap_i64]; omega
  have e : (be : Int) * 2 ^ j = ((be * 2 ^ j : Nat) : Int) := by simp
  rw [e, wrap64_in (by omega) (by omega), (bits_nat .i64 62 (by decide) hw x _ (by omega) (by omega)).2, Nat.or_comm, Nat.mul_comm, ← Nat.two_pow_add_eq_or_of_lt hx]
theorem natOf_step (g : Nat → Bool) (j : Nat) : natOf g (j + 1) = (if g j then 1 else 0) * 2 ^ j + natOf g j := by
  rw [natOf]
  split <;> simp
end Go.Lb
namespace Go.Proofs.YticimccfeohpcaaGreat
open Go.Sort Go.ChangeShapes Go.WideShapes Go.ChangeAt Go.RowKit Go.Lb
set_option maxHeartbeats 4000000 in
set_option maxRecDepth 20000 in
theorem spec_UnpackBits (b : List UInt8) (x : Value) (v k : Int) (w : World) {lo hi : Nat} (hx : RdB w lo hi x b) (hhi : hi ≤ w.heap.size) (hbl : b.length ≤ 1000000000) :
    Calls Tryz.prog 123 #[x, .int .i64 v, .int .i64 k] w fun e w' => ∃ r, e = .returned (.tuple #[r, .bool (unpackB b v k).isSome]) ∧ Own 3 1 w' w.heap.size w'.heap.size r ((unpackB b v k).getD []).length (((unpackB b v k).getD []).map (.int .i64)) ∧ Below w.heap.size w w' := by
  obtain ⟨A, c, rfl, hl, hl2⟩ := hx.form
  obtain ⟨j0, jif, jz0, jz1, jz2⟩ := info_parts info_i64
  replace jif := Lib.hid jif
  replace jz0 := Lib.hid jz0
  replace jz1 := Lib.hid jz1
  replace jz2 := Lib.hid jz2
  have hb0 : Below w.heap.size w (w.alloc (.cells #[] 3)) := up_a1 w _
  have own0 := World.ownsRow_made w (base := w.heap.size) (e := 3) (size := 1) #[] 0 (Nat.le_refl _) (by decide) rfl
  have hQ := q_spec_l1In k 0 64 (w.alloc (.cells #[] 3))
  have hR := q_spec_l1In v 0 31 (w.alloc (.cells #[] 3))
  have hB := q_spec_BytesFor k v (w.alloc (.cells #[] 3))
  cases h1 : inR k 0 64
  · rw [h1] at hQ
    have HQ := Lib.hid hQ
    have HG := Lib.hid (unpackB_no2 (b := b) (v := v) h1)
    clear h1 hQ hR hB
    go_enter Tryz.func123, Tryz.ntmps123
    go_wp2_with fail
    refine HQ.out.mono ?_
    rintro e w1 ⟨rfl, rfl⟩
    go_wp2_with fail
    refine bodyPost_ret (v := .tuple #[.slice (some ⟨w.heap.size, 0, none⟩) 0 0, .bool false]) (by simp [results, Tryz.results123, go_sem]) rfl ⟨_, by rw [HG.out]; rfl, ?_, hb0⟩
    rw [HG.out]
    exact .new own0
  rw [h1] at hQ
  have HQ := Lib.hid hQ
  clear hQ
  cases h2 : inR v 0 31
  · rw [h2] at hR
    have HR := Lib.hid hR
    have HG := Lib.hid (unpackB_no1 (b := b) (k := k) h2)
    clear h1 h2 hR hB
    go_enter Tryz.func123, Tryz.ntmps123
    go_wp2_with fail
    refine HQ.out.mono ?_
    rintro e w1 ⟨rfl, rfl⟩
    go_wp2_with fail
    refine HR.out.mono ?_
    rintro e w1 ⟨rfl, rfl⟩
    go_wp2_with fail
    refine bodyPost_ret (v := .tuple #[.slice (some ⟨w.heap.size, 0, none⟩) 0 0, .bool false]) (by simp [results, Tryz.results123, go_sem]) rfl ⟨_, by rw [HG.out]; rfl, ?_, hb0⟩
    rw [HG.out]
    exact .new own0
  rw [h2] at hR
  have HR := Lib.hid hR
  clear hR
  by_cases h3 : (b.length : Int) = bytesFor k v
  case neg =>
    have HB := Lib.hid hB
    have HG := Lib.hid (unpackB_no3 h3)
    clear h1 h2 hB
    generalize bytesFor k v = n at HB h3
    have hd : ((b.length : Int) != n) = true := by simp [h3]
    clear h3
    go_enter Tryz.func123, Tryz.ntmps123
    go_wp2_with fail
    refine HQ.out.mono ?_
    rintro e w1 ⟨rfl, rfl⟩
    go_wp2_with fail
    refine HR.out.mono ?_
    rintro e w1 ⟨rfl, rfl⟩
    go_wp2_with fail
    refine HB.out.mono ?_
    rintro e w1 ⟨rfl, rfl⟩
    go_wp2_with fail
    refine bodyPost_ret (v := .tuple #[.slice (some ⟨w.heap.size, 0, none⟩) 0 0, .bool false]) (by simp [results, Tryz.results123, go_sem]) rfl ⟨_, by rw [HG.out]; rfl, ?_, hb0⟩
    rw [HG.out]
    exact .new own0
  rw [← h3] at hB
  have HB := Lib.hid hB
  clear hB
  have e1 := inR_yes h2
  have e2 := inR_yes h1
  obtain ⟨v, rfl⟩ := Int.eq_ofNat_of_zero_le e1.1
  obtain ⟨k, rfl⟩ := Int.eq_ofNat_of_zero_le e2.1
  have hv : v ≤ 31 := by omega
  have hk : k ≤ 64 := by omega
  have hlen : k * v ≤ 8 * b.length := by
    rw [bytesFor_nat hk hv] at h3
    omega
  have hkv := (mul_le_1984 hk hv).1
  have hkv0 := (mul_le_1984 hk hv).2
  have Hlen := Lib.hid hlen
  have HY := Lib.hid (fun h4 => unpackB_yes h2 h1 h3 h4)
  have HN := Lib.hid (fun h4 => unpackB_no4 (b := b) (v := v) (k := k) h4)
  clear h1 h2 h3 e1 e2 hlen
  have hdl : ((b.length : Int) != (b.length : Int)) = false := by simp
  go_enter Tryz.func123, Tryz.ntmps123
  go_wp2_with fail
  refine HQ.out.mono ?_
  rintro e w1 ⟨rfl, rfl⟩
  go_wp2_with fail
  refine HR.out.mono ?_
  rintro e w1 ⟨rfl, rfl⟩
  go_wp2_with fail
  refine HB.out.mono ?_
  rintro e w1 ⟨rfl, rfl⟩
  go_wp2_with fail
  go_loopw [8, 9] (fun o i wr => ∃ (j : Nat), Hid (i = .int .i64 j ∧ j ≤ k ∧ wr.ownsRow w.heap.size 3 1 o j ((numsAt b v j).map (.int .i64)) ∧ Below w.heap.size w wr)) (fun _ i _ => k - (intOf i).toNat)
  case atStart => exact ⟨0, Lib.hid ⟨rfl, by omega, own0, hb0⟩⟩
  case round =>
    obtain ⟨i, hrel⟩ := hrel
    obtain ⟨rfl, hi, hown, hb⟩ := hrel.out
    clear hrel
    have hbs := hb.size
    obtain ⟨Ao, co, rfl, -, -, -⟩ := (Own.new hown).cells
    have hX := hx.below hb hhi
    by_cases hik : i < k
    · have him : (i : Int) * v ≤ 1984 ∧ 0 ≤ (i : Int) * v := mul_le_1984 (by omega) hv
      obtain ⟨him1, him0⟩ := him
      go_wp2_with fail
      go_loop [10, 11] (fun n t => ∃ j : Nat, Hid (t = .int .i64 j ∧ n = .int .i64 (natOf (fun t => bitL b (i * v + t)) j : Nat) ∧ j ≤ v)) (fun _ t => v - (intOf t).toNat)
      case atStart => exact ⟨0, Lib.hid ⟨rfl, rfl, by omega⟩⟩
      case round =>
        obtain ⟨j, hrel⟩ := hrel
        obtain ⟨rfl, rfl, hj⟩ := hrel.out
        clear hrel
        by_cases hjv : j < v
        · have hT := q_spec_BitAt b _ ((i : Int) * v + j) _ hX (by omega)
          rw [show (i : Int) * v + j = ((i * v + j : Nat) : Int) by simp, bitAt_nat] at hT
          rw [show ((i * v + j : Nat) : Int) = (i : Int) * v + j by simp] at hT
          have HS := Lib.hid (natOf_step (fun t => bitL b (i * v + t)) j)
          have hnl := natOf_lt (fun t => bitL b (i * v + t)) j
          generalize natOf (fun t => bitL b (i * v + t)) j = a at HS hnl ⊢
          obtain ⟨be, hbe⟩ : ∃ be : Nat, (if bitL b (i * v + j) then 1 else 0) = be := ⟨_, rfl⟩
          have hbe1 : be ≤ 1 := by rw [← hbe]; split <;> omega
          simp only [hbe] at HS hT
          have HT := Lib.hid hT
          have Hnl := Lib.hid hnl
          clear hT hbe hnl
          go_wp2_with fail
          refine HT.out.mono ?_
          rintro e w1 ⟨rfl, rfl⟩
          go_upto_region 10 with fail
          rw [or_bit Hnl.out (by omega) hbe1]
          have HS2 := Lib.hid (show natOf (fun t => bitL b (i * v + t)) (j + 1) = be * 2 ^ j + a from HS.out)
          clear HS
          generalize be * 2 ^ j + a = a2 at HS2 ⊢
          go_wp2_with fail
          go_round
          case rel => exact ⟨j + 1, Lib.hid ⟨by go_num, by rw [HS2.out], by omega⟩⟩
          case measure => simp [intOf]; omega
        · obtain rfl : j = v := by omega
          have HA := Lib.hid (show ((natOf (fun t => bitL b (i * j + t)) j : Nat) : Int) = numAt b j i from rfl)
          rw [HA.out]
          go_wp2_with (at_builtin; refine wpl_app rfl _ _ 22 rfl w.heap.size 3 j0 _ 1 8 Tryz.underlying22 jif.out jz0.out jz1.out jz2.out rfl (by decide) (by decide) (hown.alloc _) rfl (heap_alloc_new _ _) rfl rfl (by simp [Value.oneCell']) (by omega) (by simp; omega) ?_)
          intro v' w3 hown' hgrow hnb
          have hb3 := Below.grown (hb.alloc hb.size _) hgrow (fun g hg => (hown.lt g hg).1) (Nat.le_refl _)
          have HO := Lib.hid (show w3.ownsRow w.heap.size 3 1 v' (i + 1) ((numsAt b j (i + 1)).map (.int .i64)) by rw [numsAt_succ, List.map_append]; exact hown')
          clear hown' hgrow hnb hown hX
          go_wp2_with fail
          go_roundw
          case rel => exact ⟨i + 1, Lib.hid ⟨by go_num, by omega, HO.out, hb3⟩⟩
          case measure => simp [intOf]; omega
    · obtain rfl : i = k := by omega
      have Hown := Lib.hid hown
      clear hown
      go_wp2_with fail
      go_loop [12] (fun n => ∃ j : Nat, Hid (n = .int .i64 j ∧ i * v ≤ j ∧ j ≤ 8 * b.length ∧ ∀ t, i * v ≤ t → t < j → bitL b t = false)) (fun n => 8 * b.length - (intOf n).toNat)
      case atStart => exact ⟨i * v, Lib.hid ⟨by simp, by omega, Hlen.out, fun t h1 h2 => by omega⟩⟩
      case round =>
        obtain ⟨j, hrel⟩ := hrel
        obtain ⟨rfl, hj0, hj, hz⟩ := hrel.out
        have Hz := Lib.hid hz
        have Hj0 := Lib.hid hj0
        clear hrel hz hj0
        by_cases hjl : j < 8 * b.length
        · have hT := q_spec_BitAt b _ (j : Int) _ hX (by omega)
          rw [bitAt_nat] at hT
          cases hg : bitL b j
          · simp only [hg] at hT
            have HT := Lib.hid hT
            have Hz2 := Lib.hid (show ∀ t, i * v ≤ t → t < j + 1 → bitL b t = false from fun t h1 h2 => by
              rcases Nat.lt_succ_iff_lt_or_eq.1 h2 with h | h
              · exact Hz.out t h1 h
              · rw [h]; exact hg)
            clear hT hg
            go_wp2_with fail
            refine HT.out.mono ?_
            rintro e w1 ⟨rfl, rfl⟩
            go_wp2_with fail
            go_round
            case rel => exact ⟨j + 1, Lib.hid ⟨by go_num, by have := Hj0.out; omega, by omega, Hz2.out⟩⟩
            case measure => simp [intOf]; omega
          · simp only [hg] at hT
            have HT := Lib.hid hT
            have HG := Lib.hid (HN.out (clearB_not Hj0.out hjl hg))
            clear hT hg
            go_wp2_with fail
            refine HT.out.mono ?_
            rintro e w1 ⟨rfl, rfl⟩
            go_wp2_with fail
            refine bodyPost_ret (v := .tuple #[.slice (some ⟨wr.heap.size, 0, none⟩) 0 0, .bool false]) (by simp [results, Tryz.results123, go_sem]) rfl ⟨_, by rw [HG.out]; rfl, ?_, hb.alloc hb.size _⟩
            rw [HG.out]
            exact .new (World.ownsRow_made wr (base := w.heap.size) (e := 3) (size := 1) #[] 0 hb.size (by decide) rfl)
        · obtain rfl : j = 8 * b.length := by omega
          have HG := Lib.hid (HY.out (clearB_of fun t h1 h2 => Hz.out t h1 h2))
          go_wp2_with fail
          refine bodyPost_ret (v := .tuple #[.slice Ao i co, .bool true]) (by simp [results, Tryz.results123, go_sem]) rfl ⟨_, by rw [HG.out]; rfl, ?_, hb⟩
          rw [HG.out]
          show Own _ 1 _ _ _ _ (numsAt b v i).length _
          rw [numsAt_len]
          exact .new Hown.out
set_option maxHeartbeats 4000000 in
set_option maxRecDepth 20000 in
theorem impl_UnpackBits (b : List UInt8) (x : Value) (v k : Int) (w : World) {lo hi : Nat} (hx : RdB w lo hi x b) (hhi : hi ≤ w.heap.size) (hbl : b.length ≤ 1000000000) :
    Calls Tryz.prog 131 #[x, .int .i64 v, .int .i64 k] w fun e w' => ∃ r, e = .returned (.tuple #[r, .bool (unpackB b v k).isSome]) ∧ Own 3 1 w' w.heap.size w'.heap.size r ((unpackB b v k).getD []).length (((unpackB b v k).getD []).map (.int .i64)) ∧ Below w.heap.size w w' := by
  obtain ⟨A, c, rfl, hl, hl2⟩ := hx.form
  obtain ⟨j0, jif, jz0, jz1, jz2⟩ := info_parts info_i64
  replace jif := Lib.hid jif
  replace jz0 := Lib.hid jz0
  replace jz1 := Lib.hid jz1
  replace jz2 := Lib.hid jz2
  have hb0 : Below w.heap.size w w := Below.refl _ _
  have hQ := q_impl_within v 0 31 w
  have hR := q_impl_within k 0 64 w
  have hB := q_impl_BytesFor k v w
  cases h1 : inR v 0 31
  · rw [h1] at hQ
    have HQ := Lib.hid hQ
    have HG := Lib.hid (unpackB_no1 (b := b) (k := k) h1)
    clear h1 hQ hR hB
    go_enter Tryz.func131, Tryz.ntmps131
    go_wp2_with fail
    refine HQ.out.mono ?_
    rintro e w1 ⟨rfl, rfl⟩
    go_wp2_with fail
    refine bodyPost_ret (v := .tuple #[.slice none 0 0, .bool false]) (by simp [results, Tryz.results131, go_sem]) rfl ⟨_, by rw [HG.out]; rfl, ?_, hb0⟩
    rw [HG.out]
    exact own_ints_none _ _ _ _
  rw [h1] at hQ
  have HQ := Lib.hid hQ
  clear hQ
  cases h2 : inR k 0 64
  · rw [h2] at hR
    have HR := Lib.hid hR
    have HG := Lib.hid (unpackB_no2 (b := b) (v := v) h2)
    clear h1 h2 hR hB
    go_enter Tryz.func131, Tryz.ntmps131
    go_wp2_with fail
    refine HQ.out.mono ?_
    rintro e w1 ⟨rfl, rfl⟩
    go_wp2_with fail
    refine HR.out.mono ?_
    rintro e w1 ⟨rfl, rfl⟩
    go_wp2_with fail
    refine bodyPost_ret (v := .tuple #[.slice none 0 0, .bool false]) (by simp [results, Tryz.results131, go_sem]) rfl ⟨_, by rw [HG.out]; rfl, ?_, hb0⟩
    rw [HG.out]
    exact own_ints_none _ _ _ _
  rw [h2] at hR
  have HR := Lib.hid hR
  clear hR
  by_cases h3 : (b.length : Int) = bytesFor k v
  case neg =>
    have HB := Lib.hid hB
    have HG := Lib.hid (unpackB_no3 h3)
    clear h1 h2 hB
    generalize bytesFor k v = n at HB h3
    have hd : ((b.length : Int) != n) = true := by simp [h3]
    clear h3
    go_enter Tryz.func131, Tryz.ntmps131
    go_wp2_with fail
    refine HQ.out.mono ?_
    rintro e w1 ⟨rfl, rfl⟩
    go_wp2_with fail
    refine HR.out.mono ?_
    rintro e w1 ⟨rfl, rfl⟩
    go_wp2_with fail
    refine HB.out.mono ?_
    rintro e w1 ⟨rfl, rfl⟩
    go_wp2_with fail
    refine bodyPost_ret (v := .tuple #[.slice none 0 0, .bool false]) (by simp [results, Tryz.results131, go_sem]) rfl ⟨_, by rw [HG.out]; rfl, ?_, hb0⟩
    rw [HG.out]
    exact own_ints_none _ _ _ _
  rw [← h3] at hB
  have HB := Lib.hid hB
  clear hB
  have e1 := inR_yes h1
  have e2 := inR_yes h2
  obtain ⟨v, rfl⟩ := Int.eq_ofNat_of_zero_le e1.1
  obtain ⟨k, rfl⟩ := Int.eq_ofNat_of_zero_le e2.1
  have hv : v ≤ 31 := by omega
  have hk : k ≤ 64 := by omega
  have hlen : k * v ≤ 8 * b.length := by
    rw [bytesFor_nat hk hv] at h3
    omega
  have hkv := (mul_le_1984 hk hv).1
  have hkv0 := (mul_le_1984 hk hv).2
  have Hlen := Lib.hid hlen
  have HY := Lib.hid (fun h4 => unpackB_yes h1 h2 h3 h4)
  have HN := Lib.hid (fun h4 => unpackB_no4 (b := b) (v := v) (k := k) h4)
  clear h1 h2 h3 e1 e2 hlen
  have hdl : ((b.length : Int) != (b.length : Int)) = false := by simp
  go_enter Tryz.func131, Tryz.ntmps131
  go_wp2_with fail
  refine HQ.out.mono ?_
  rintro e w1 ⟨rfl, rfl⟩
  go_wp2_with fail
  refine HR.out.mono ?_
  rintro e w1 ⟨rfl, rfl⟩
  go_wp2_with fail
  refine HB.out.mono ?_
  rintro e w1 ⟨rfl, rfl⟩
  go_wp2_with fail
  have own0 := World.ownsRow_made w (base := w.heap.size) (e := 3) (size := 1) #[] 0 (Nat.le_refl _) (by decide) rfl
  have hb0 : Below w.heap.size w (w.alloc (.cells #[] 3)) := up_a1 w _
  go_loopw [8, 9] (fun o i wr => ∃ (j : Nat), Hid (i = .int .i64 j ∧ j ≤ k ∧ wr.ownsRow w.heap.size 3 1 o j ((numsAt b v j).map (.int .i64)) ∧ Below w.heap.size w wr)) (fun _ i _ => k - (intOf i).toNat)
  case atStart => exact ⟨0, Lib.hid ⟨rfl, by omega, own0, hb0⟩⟩
  case round =>
    obtain ⟨i, hrel⟩ := hrel
    obtain ⟨rfl, hi, hown, hb⟩ := hrel.out
    clear hrel
    have hbs := hb.size
    obtain ⟨Ao, co, rfl, -, -, -⟩ := (Own.new hown).cells
    have hX := hx.below hb hhi
    by_cases hik : i < k
    · have him : (i : Int) * v ≤ 1984 ∧ 0 ≤ (i : Int) * v := mul_le_1984 (by omega) hv
      obtain ⟨him1, him0⟩ := him
      go_wp2_with fail
      go_loop [10, 11] (fun n t => ∃ j : Nat, Hid (t = .int .i64 j ∧ n = .int .i64 (natOf (fun t => bitL b (i * v + t)) j : Nat) ∧ j ≤ v)) (fun _ t => v - (intOf t).toNat)
      case atStart => exact ⟨0, Lib.hid ⟨rfl, rfl, by omega⟩⟩
      case round =>
        obtain ⟨j, hrel⟩ := hrel
        obtain ⟨rfl, rfl, hj⟩ := hrel.out
        clear hrel
        by_cases hjv : j < v
        · have hT := q_impl_BitAt b _ ((i : Int) * v + j) _ hX (by omega)
          rw [show (i : Int) * v + j = ((i * v + j : Nat) : Int) by simp, bitAt_nat] at hT
          rw [show ((i * v + j : Nat) : Int) = (i : Int) * v + j by simp] at hT
          have HS := Lib.hid (natOf_step (fun t => bitL b (i * v + t)) j)
          have hnl := natOf_lt (fun t => bitL b (i * v + t)) j
          generalize natOf (fun t => bitL b (i * v + t)) j = a at HS hnl ⊢
          obtain ⟨be, hbe⟩ : ∃ be : Nat, (if bitL b (i * v + j) then 1 else 0) = be := ⟨_, rfl⟩
          have hbe1 : be ≤ 1 := by rw [← hbe]; split <;> omega
          simp only [hbe] at HS hT
          have HT := Lib.hid hT
          have Hnl := Lib.hid hnl
          clear hT hbe hnl
          go_wp2_with fail
          refine HT.out.mono ?_
          rintro e w1 ⟨rfl, rfl⟩
          go_upto_region 10 with fail
          rw [or_bit Hnl.out (by omega) hbe1]
          have HS2 := Lib.hid (show natOf (fun t => bitL b (i * v + t)) (j + 1) = be * 2 ^ j + a from HS.out)
          clear HS
          generalize be * 2 ^ j + a = a2 at HS2 ⊢
          go_wp2_with fail
          go_round
          case rel => exact ⟨j + 1, Lib.hid ⟨by go_num, by rw [HS2.out], by omega⟩⟩
          case measure => simp [intOf]; omega
        · obtain rfl : j = v := by omega
          have HA := Lib.hid (show ((natOf (fun t => bitL b (i * j + t)) j : Nat) : Int) = numAt b j i from rfl)
          rw [HA.out]
          go_wp2_with (at_builtin; refine wpl_app rfl _ _ 22 rfl w.heap.size 3 j0 _ 1 8 Tryz.underlying22 jif.out jz0.out jz1.out jz2.out rfl (by decide) (by decide) (hown.alloc _) rfl (heap_alloc_new _ _) rfl rfl (by simp [Value.oneCell']) (by omega) (by simp; omega) ?_)
          intro v' w3 hown' hgrow hnb
          have hb3 := Below.grown (hb.alloc hb.size _) hgrow (fun g hg => (hown.lt g hg).1) (Nat.le_refl _)
          have HO := Lib.hid (show w3.ownsRow w.heap.size 3 1 v' (i + 1) ((numsAt b j (i + 1)).map (.int .i64)) by rw [numsAt_succ, List.map_append]; exact hown')
          clear hown' hgrow hnb hown hX
          go_wp2_with fail
          go_roundw
          case rel => exact ⟨i + 1, Lib.hid ⟨by go_num, by omega, HO.out, hb3⟩⟩
          case measure => simp [intOf]; omega
    · obtain rfl : i = k := by omega
      have Hown := Lib.hid hown
      clear hown
      go_wp2_with fail
      go_loop [12] (fun n => ∃ j : Nat, Hid (n = .int .i64 j ∧ i * v ≤ j ∧ j ≤ 8 * b.length ∧ ∀ t, i * v ≤ t → t < j → bitL b t = false)) (fun n => 8 * b.length - (intOf n).toNat)
      case atStart => exact ⟨i * v, Lib.hid ⟨by simp, by omega, Hlen.out, fun t h1 h2 => by omega⟩⟩
      case round =>
        obtain ⟨j, hrel⟩ := hrel
        obtain ⟨rfl, hj0, hj, hz⟩ := hrel.out
        have Hz := Lib.hid hz
        have Hj0 := Lib.hid hj0
        clear hrel hz hj0
        by_cases hjl : j < 8 * b.length
        · have hT := q_impl_BitAt b _ (j : Int) _ hX (by omega)
          rw [bitAt_nat] at hT
          cases hg : bitL b j
          · simp only [hg] at hT
            have HT := Lib.hid hT
            have Hz2 := Lib.hid (show ∀ t, i * v ≤ t → t < j + 1 → bitL b t = false from fun t h1 h2 => by
              rcases Nat.lt_succ_iff_lt_or_eq.1 h2 with h | h
              · exact Hz.out t h1 h
              · rw [h]; exact hg)
            clear hT hg
            go_wp2_with fail
            refine HT.out.mono ?_
            rintro e w1 ⟨rfl, rfl⟩
            go_wp2_with fail
            go_round
            case rel => exact ⟨j + 1, Lib.hid ⟨by go_num, by have := Hj0.out; omega, by omega, Hz2.out⟩⟩
            case measure => simp [intOf]; omega
          · simp only [hg] at hT
            have HT := Lib.hid hT
            have HG := Lib.hid (HN.out (clearB_not Hj0.out hjl hg))
            clear hT hg
            go_wp2_with fail
            refine HT.out.mono ?_
            rintro e w1 ⟨rfl, rfl⟩
            go_wp2_with fail
            refine bodyPost_ret (v := .tuple #[.slice none 0 0, .bool false]) (by simp [results, Tryz.results131, go_sem]) rfl ⟨_, by rw [HG.out]; rfl, ?_, hb⟩
            rw [HG.out]
            exact own_ints_none _ _ _ _
        · obtain rfl : j = 8 * b.length := by omega
          have HG := Lib.hid (HY.out (clearB_of fun t h1 h2 => Hz.out t h1 h2))
          go_wp2_with fail
          refine bodyPost_ret (v := .tuple #[.slice Ao i co, .bool true]) (by simp [results, Tryz.results131, go_sem]) rfl ⟨_, by rw [HG.out]; rfl, ?_, hb⟩
          rw [HG.out]
          show Own _ 1 _ _ _ _ (numsAt b v i).length _
          rw [numsAt_len]
          exact .new Hown.out
end Go.Proofs.YticimccfeohpcaaGreat
