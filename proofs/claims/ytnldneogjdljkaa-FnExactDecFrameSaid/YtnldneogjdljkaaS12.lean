/- Base: contracts. -/
import Derived.Test.YtnldneogjdljkaaS11
namespace Go.Proofs.Ytnldneogjdljkaa
open Go.Sort Go.ChangeShapes Go.WideShapes Go.ChangeAt Go.RowKit Go.Lb

set_option maxHeartbeats 1000000 in
theorem spec_Base (l : List V) (x : Value) (w : World) {lo hi : Nat} (hx : RdV w lo hi x l) (hhi : hi ≤ w.heap.size) :
    Calls Try.prog 53 #[x] w fun e w' => e = .returned (.int .i64 (baseOf l)) ∧ Below w.heap.size w w' := by
  obtain ⟨A, c, rfl, hl, hl2⟩ := hx.form
  go_enter Try.func53, Try.ntmps53
  go_wp2_with fail
  go_loopw [3, 4] (fun n i wr => ∃ k : Nat, i = .int .i64 k ∧ k ≤ l.length ∧ n = .int .i64 (baseOf (l.take k)) ∧ Below w.heap.size w wr) (fun _ i _ => l.length - (intOf i).toNat)
  case atStart => exact ⟨0, rfl, by omega, by simp [baseOf], Below.refl _ _⟩
  case round =>
    obtain ⟨k, rfl, hk, rfl, hb⟩ := hrel
    by_cases hkl : k < l.length
    · obtain ⟨b, off, y, rfl, -, -, hyk, e0, e1, e2⟩ := (hx.below hb hhi).at hkl
      clear e0 e2
      by_cases h0 : k = 0
      · subst h0
        have H := Lib.hid (baseOf_one hyk)
        clear hyk
        simp only [Nat.zero_mul, Nat.add_zero] at e1
        go_wp2_with fail
        go_roundw
        case rel => exact ⟨1, rfl, by omega, by rw [H.out], hb⟩
        case measure => simp [intOf]; omega
      · have H := Lib.hid (baseOf_step hyk (by omega))
        clear hyk
        generalize baseOf (l.take k) = B at H
        have hk0 : ((k : Int) == 0) = false := by simp [h0]
        by_cases hlt : y.n < B
        · have hd : decide (y.n < B) = true := by simp [hlt]
          have H := Lib.hid (H.out.trans (if_pos hlt))
          clear hlt
          go_wp2_with fail
          go_roundw
          case rel => exact ⟨k + 1, by go_num, by omega, by rw [H.out], hb⟩
          case measure => simp [intOf]; omega
        · have hd : decide (y.n < B) = false := by simp [hlt]
          have H := Lib.hid (H.out.trans (if_neg hlt))
          clear hlt
          go_wp2_with fail
          go_roundw
          case rel => exact ⟨k + 1, by go_num, by omega, by rw [H.out], hb⟩
          case measure => simp [intOf]; omega
    · have hkk : k = l.length := by omega
      go_wp2_with fail
      go_ret
      exact ⟨ret_int (by rw [hkk, List.take_length]), hb⟩

theorem baseOf_self {l : List V} {u : V} (h : l[0]? = some u) : l.foldl lower u.n = baseOf l := by
  cases l with
  | nil => simp at h
  | cons a r => simp at h; subst h; simp [baseOf, lower]
theorem base_next {l : List V} {k : Nat} {y : V} (h : l[k]? = some y) (b : Int) : (l.take (k + 1)).foldl lower b = lower ((l.take k).foldl lower b) y := by
  rw [take_of_get h, List.foldl_append]; rfl
set_option maxHeartbeats 1000000 in
theorem impl_Base (l : List V) (x : Value) (w : World) {lo hi : Nat} (hx : RdV w lo hi x l) (hhi : hi ≤ w.heap.size) :
    Calls Try.prog 52 #[x] w fun e w' => e = .returned (.int .i64 (baseOf l)) ∧ Below w.heap.size w w' := by
  obtain ⟨A, c, rfl, hl, hl2⟩ := hx.form
  by_cases hpos : 0 < l.length
  · obtain ⟨b, off, u, rfl, -, hbl, huk, u0, u1, u2⟩ := hx.at hpos
    simp only [Nat.zero_mul, Nat.add_zero] at u0 u1 u2
    have H0 := Lib.hid (baseOf_self huk)
    clear huk u0 u2
    go_enter Try.func52, Try.ntmps52
    go_wp2_with fail
    go_loopw [3, 15] (fun n i wr => ∃ k : Nat, i = .int .i64 k ∧ k ≤ l.length ∧ n = .int .i64 ((l.take k).foldl lower u.n) ∧ Below w.heap.size w wr) (fun _ i _ => l.length - (intOf i).toNat)
    case atStart => exact ⟨0, rfl, by omega, rfl, Below.refl _ _⟩
    case round =>
      obtain ⟨k, rfl, hk, rfl, hb⟩ := hrel
      by_cases hkl : k < l.length
      · obtain ⟨b', off', y, hA, -, hbl', hyk, e0, e1, e2⟩ := (hx.below hb hhi).at hkl
        injection hA with hA
        injection hA with hA1 hA2
        subst hA1 hA2
        have H := Lib.hid (base_next hyk u.n)
        clear hyk
        generalize (l.take k).foldl lower u.n = B at H
        go_wp2_with fail
        go_roundw
        case rel => exact ⟨k + 1, by go_num, by omega, by rw [H.out]; rfl, hb.trans ((up_a1 _ _).mono hb.size)⟩
        case measure => simp [intOf]; omega
      · have hkk : k = l.length := by omega
        go_wp2_with fail
        go_ret
        exact ⟨ret_int (by rw [hkk, List.take_length, H0.out]), hb⟩
  · have h0 : l.length = 0 := by omega
    have hl0 : l = [] := List.eq_nil_of_length_eq_zero h0
    subst hl0
    go_enter Try.func52, Try.ntmps52
    go_wp2_with fail
    go_ret
    exact ⟨rfl, Below.refl _ _⟩
end Go.Proofs.Ytnldneogjdljkaa
