/- TypeOf: contracts. -/
import Derived.Test.YtnldneogjdljkaaS9
import Derived.Lib.QuietBelow
import Derived.BigQuiet
namespace Go.Proofs.Ytnldneogjdljkaa
open Go.Sort Go.ChangeShapes Go.WideShapes Go.ChangeAt Go.RowKit Go.Lb

theorem typeOf_len {l : List V} (h : inR (l.length : Int) 1 64 = false) : typeOf l = 0 := by
  cases l with
  | nil => rfl
  | cons a r => rw [typeOf, h]; rfl
theorem typeOf_bad {l : List V} {a v : V} {k : Nat} (h0 : l[0]? = some a) (h : l[k]? = some v) (hb : tyBad a v = true) : typeOf l = 0 := by
  cases l with
  | nil => rfl
  | cons x r =>
    simp at h0
    subst h0
    have hx : (x :: r).any (tyBad x) = true := List.any_eq_true.2 ⟨v, List.mem_of_getElem? h, hb⟩
    rw [typeOf, hx]
    simp
theorem typeOf_good {l : List V} {a : V} (h0 : l[0]? = some a) (hr : inR (l.length : Int) 1 64 = true) (h : (l.take l.length).any (tyBad a) = false) : typeOf l = a.ty := by
  cases l with
  | nil => simp at h0
  | cons x r =>
    simp at h0
    subst h0
    rw [List.take_length] at h
    rw [typeOf, hr, h]
    simp

set_option maxHeartbeats 2000000 in
theorem spec_TypeOf (l : List V) (x : Value) (w : World) {lo hi : Nat} (hx : RdV w lo hi x l) (hhi : hi ≤ w.heap.size) (hs : ∀ v ∈ l, v.s.size ≤ maxLen) :
    Calls Try.prog 84 #[x] w fun e w' => e = .returned (.int .i64 (typeOf l)) ∧ Below w.heap.size w w' := by
  obtain ⟨A, c, rfl, hl, hl2⟩ := hx.form
  have Hs := Lib.hid hs
  clear hs
  cases hr : inR (l.length : Int) 1 64
  · have H := Lib.hid (typeOf_len hr)
    go_enter Try.func84, Try.ntmps84
    go_wp2_with fail
    refine (q_spec_l1In _ _ _ _).mono ?_
    rintro e w1 ⟨rfl, rfl⟩
    rw [hr]
    go_wp2_with fail
    go_ret
    exact ⟨ret_int H.out.symm, Below.refl _ _⟩
  · have h1 := inR_yes hr
    have hpos : 0 < l.length := by omega
    obtain ⟨b, off, u, rfl, -, hbl, huk, u0, u1, u2⟩ := hx.at hpos
    simp only [Nat.zero_mul, Nat.add_zero] at u0 u1 u2
    have Hu := Lib.hid huk
    clear huk h1 u1 u2
    go_enter Try.func84, Try.ntmps84
    go_wp2_with fail
    refine (q_spec_l1In _ _ _ _).mono ?_
    rintro e w1 ⟨rfl, rfl⟩
    have Hr := Lib.hid hr
    rw [hr]
    clear hr
    go_wp2_with fail
    go_loopw [3] (fun i wr => ∃ k : Nat, i = .int .i64 k ∧ k ≤ l.length ∧ (l.take k).any (tyBad u) = false ∧ Below w.heap.size w wr) (fun i _ => l.length - (intOf i).toNat)
    case atStart => exact ⟨0, rfl, by omega, by simp, Below.refl _ _⟩
    case round =>
      obtain ⟨k, rfl, hk, hall, hb⟩ := hrel
      have Hall := Lib.hid hall
      clear hall
      have u0' : wr.cell? ⟨b, off, none⟩ = some (.int .i64 u.ty) := (hb.cell (p := ⟨b, _, none⟩) (show b < _ by omega)).trans u0
      by_cases hkl : k < l.length
      · obtain ⟨b', off', y, hA, -, hbl', hyk, e0, e1, e2⟩ := (hx.below hb hhi).at hkl
        injection hA with hA
        injection hA with hA1 hA2
        subst hA1 hA2
        have hsy := Hs.out y (List.mem_of_getElem? hyk)
        have HB := Lib.hid (fun h => typeOf_bad (l := l) Hu.out hyk h)
        have HT := Lib.hid (take_of_get hyk)
        clear hyk
        have u0d := u0'
        cases hv : valOk y
        · have hB : tyBad u y = true := by simp [tyBad, hv]
          go_wp2_with fail
          have q_0 := cell_regrown (w := wr) e0
          have q_1 := cell_regrown (w := wr) e1
          have q_2 := cell_regrown (w := wr) e2
          have q_3 := cell_regrown (w := wr) u0'
          refine wp_region_quiet_below (by kernel_rfl) (by kernel_rfl) ?_
          repeat (go_big_quiet_step (first | (go_at_call 104; exact Calls.regrown_of (spec_ValOk y _ hsy))))
          refine wpQuiet_nil ?_
          intro wq hw'
          obtain ⟨⟨dq, osq⟩, hw''⟩ := hw'
          have hbq := below_regrown wr dq osq
          rw [← hw''] at hbq
          clear hw''
          clear q_0 q_1 q_2 q_3
          go_wp2_with fail
          have hbw := hb.trans (hbq.mono hb.size)
          go_ret
          exact ⟨ret_int (HB.out hB).symm, hbw⟩
        · by_cases hne : y.ty = u.ty
          · have hB : tyBad u y = false := by simp [tyBad, hv, hne]
            have hne2 : (y.ty != u.ty) = false := by simp [hne]
            clear hne
            go_wp2_with fail
            have q_0 := cell_regrown (w := wr) e0
            have q_1 := cell_regrown (w := wr) e1
            have q_2 := cell_regrown (w := wr) e2
            have q_3 := cell_regrown (w := wr) u0'
            refine wp_region_quiet_below (by kernel_rfl) (by kernel_rfl) ?_
            repeat (go_big_quiet_step (first | (go_at_call 104; exact Calls.regrown_of (spec_ValOk y _ hsy))))
            refine wpQuiet_nil ?_
            intro wq hw'
            obtain ⟨⟨dq, osq⟩, hw''⟩ := hw'
            have hbq := below_regrown wr dq osq
            rw [← hw''] at hbq
            clear hw''
            clear q_0 q_1 q_2 q_3
            go_wp2_with fail
            have hbw := hb.trans (hbq.mono hb.size)
            go_round
            case rel => exact ⟨k + 1, by go_num, by omega, by rw [HT.out, List.any_append, Hall.out]; simp [hB], hbw⟩
            case measure => simp [intOf]; omega
          · have hB : tyBad u y = true := by simp [tyBad, hv, hne]
            have hne2 : (y.ty != u.ty) = true := by simp [hne]
            clear hne
            go_wp2_with fail
            have q_0 := cell_regrown (w := wr) e0
            have q_1 := cell_regrown (w := wr) e1
            have q_2 := cell_regrown (w := wr) e2
            have q_3 := cell_regrown (w := wr) u0'
            refine wp_region_quiet_below (by kernel_rfl) (by kernel_rfl) ?_
            repeat (go_big_quiet_step (first | (go_at_call 104; exact Calls.regrown_of (spec_ValOk y _ hsy))))
            refine wpQuiet_nil ?_
            intro wq hw'
            obtain ⟨⟨dq, osq⟩, hw''⟩ := hw'
            have hbq := below_regrown wr dq osq
            rw [← hw''] at hbq
            clear hw''
            clear q_0 q_1 q_2 q_3
            go_wp2_with fail
            have hbw := hb.trans (hbq.mono hb.size)
            go_ret
            exact ⟨ret_int (HB.out hB).symm, hbw⟩
      · have HG := Lib.hid (typeOf_good Hu.out Hr.out (by have h := Hall.out; rwa [show k = l.length by omega] at h))
        go_wp2_with fail
        go_ret
        exact ⟨ret_int HG.out.symm, hb⟩
end Go.Proofs.Ytnldneogjdljkaa
