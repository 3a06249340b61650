/- The laws' own helpers: equal lists are the same; is a number in a list. -/
import Derived.Test.YtaapmimabbmdbaaLR3
import Derived.Test.YtaapmimabbmdbaaS3
import Derived.Test.YtaapmimabbmdbaaS26
namespace Go.Proofs.Ytaapmimabbmdbaa
open Go.Sort Go.ChangeShapes Go.WideShapes Go.ChangeAt Go.RowKit Go.Lb

set_option maxHeartbeats 1000000 in
theorem law_sameVals (xs : List V) (x y : Value) (w : World) {l1 h1 l2 h2 : Nat} (hx : RdV w l1 h1 x xs) (hh1 : h1 ≤ w.heap.size) (hy : RdV w l2 h2 y xs) (hh2 : h2 ≤ w.heap.size) :
    Calls Try.prog 33 #[x, y] w fun e w' => e = .returned (.bool true) ∧ Below w.heap.size w w' := by
  obtain ⟨A, c, rfl, hl, hl2⟩ := hx.form
  obtain ⟨A', c', rfl, hl', hl2'⟩ := hy.form
  have hgd := guard_V
  go_enter Try.func33, Try.ntmps33
  go_wp2_with fail
  go_loopw [5] (fun i wr => ∃ (k : Nat), i = .int .i64 k ∧ k ≤ xs.length ∧ Below w.heap.size w wr) (fun i _ => xs.length - (intOf i).toNat)
  case atStart => exact ⟨0, by simp, by omega, Below.refl _ _⟩
  case round =>
    obtain ⟨k, rfl, hk, hb⟩ := hrel
    by_cases hkl : k < xs.length
    · obtain ⟨b, off, u, rfl, -, hbl, huk, e0, e1, e2⟩ := (hx.below hb hh1).at hkl
      obtain ⟨b', off', u', rfl, -, hbl', huk', e0', e1', e2'⟩ := (hy.below hb hh2).at hkl
      obtain rfl : u = u' := Option.some.inj (huk.symm.trans huk')
      have hne := neq_V u u
      rw [eqd_self] at hne
      clear huk huk'
      go_wp2_with fail
      go_region
      go_wp2_with fail
      go_roundw
      case rel => exact ⟨k + 1, by go_num, by omega, hb.drew⟩
      case measure => simp [intOf]; omega
    · go_wp2_with fail
      go_ret
      exact ⟨rfl, hb⟩
set_option maxHeartbeats 1000000 in
theorem law_sameRows (xs : List R) (x y : Value) (w : World) {l1 h1 l2 h2 : Nat} (hx : RdR w l1 h1 x xs) (hh1 : h1 ≤ w.heap.size) (hy : RdR w l2 h2 y xs) (hh2 : h2 ≤ w.heap.size) :
    Calls Try.prog 30 #[x, y] w fun e w' => e = .returned (.bool true) ∧ Below w.heap.size w w' := by
  obtain ⟨A, c, rfl, hl, hl2⟩ := hx.form
  obtain ⟨A', c', rfl, hl', hl2'⟩ := hy.form
  go_enter Try.func30, Try.ntmps30
  go_wp2_with fail
  go_loopw [5] (fun i wr => ∃ (k : Nat), i = .int .i64 k ∧ k ≤ xs.length ∧ Below w.heap.size w wr) (fun i _ => xs.length - (intOf i).toNat)
  case atStart => exact ⟨0, by simp, by omega, Below.refl _ _⟩
  case round =>
    obtain ⟨k, rfl, hk, hb⟩ := hrel
    by_cases hkl : k < xs.length
    · obtain ⟨b, off, u, sv, rfl, -, hbl, huk, e0, e1, hr⟩ := (hx.below hb hh1).at hkl
      obtain ⟨b', off', u', sv', rfl, -, hbl', huk', e0', e1', hr'⟩ := (hy.below hb hh2).at hkl
      obtain rfl : u = u' := Option.some.inj (huk.symm.trans huk')
      have hbs := hb.size
      have hC := Lib.hid (fun W (h : Below wr.heap.size wr W) => law_sameVals u.l sv sv' W (hr.below h (by omega)) (Nat.le_trans (by omega) h.size) (hr'.below h (by omega)) (Nat.le_trans (by omega) h.size))
      clear hr hr' huk huk'
      go_wp2_with fail
      have q_0 := cell_regrown (w := wr) e0
      have q_1 := cell_regrown (w := wr) e1
      have q_2 := cell_regrown (w := wr) e0'
      have q_3 := cell_regrown (w := wr) e1'
      refine wp_region_quiet_below (by kernel_rfl) (by kernel_rfl) ?_
      repeat (go_big_quiet_step (first | (go_at_call 33; exact Calls.regrown_of (hC.out _ (below_regrown _ _ _)))))
      refine wpQuiet_nil ?_
      intro wq hw'
      obtain ⟨⟨dq, osq⟩, hw''⟩ := hw'
      have hbq := below_regrown wr dq osq
      rw [← hw''] at hbq
      clear hw''
      clear q_0 q_1 q_2 q_3
      go_wp2_with fail
      go_roundw
      case rel => exact ⟨k + 1, by go_num, by omega, hb.trans (hbq.mono hb.size)⟩
      case measure => simp [intOf]; omega
    · go_wp2_with fail
      go_ret
      exact ⟨rfl, hb⟩
theorem q_laws_in (l : List Int) (x : Value) (n : Int) (w : World) {lo hi : Nat} (hx : RdI w lo hi x l) (_hhi : hi ≤ w.heap.size) :
    Calls Try.prog 34 #[x, .int .i64 n] w fun e w' => e = .returned (.bool (hasI l n)) ∧ w = w' := by
  obtain ⟨A, c, rfl, hl, hl2⟩ := hx.form
  go_enter Try.func34, Try.ntmps34
  go_wp2_with fail
  go_loop [5] (fun i => ∃ k : Nat, i = .int .i64 k ∧ k ≤ l.length ∧ (l.take k).any (fun m => m == n) = false) (fun i => l.length - (intOf i).toNat)
  case atStart => exact ⟨0, rfl, by omega, by simp⟩
  case round =>
    obtain ⟨k, rfl, hk, hall⟩ := hrel
    have Hall := Lib.hid hall
    clear hall
    by_cases hkl : k < l.length
    · obtain ⟨b, off, y, rfl, -, hbl, hyk, e0⟩ := hx.at hkl
      by_cases he : y = n
      · have hd : (y == n) = true := by simp [he]
        have H := Lib.hid (hasI_yes hyk he)
        clear hyk he
        go_wp2_with fail
        go_ret
        exact ⟨ret_bool H.out.symm, rfl⟩
      · have hd : (y == n) = false := by simp [he]
        have Ht := Lib.hid (show (l.take (k + 1)).any (fun m => m == n) = false by rw [take_of_get hyk, List.any_append, Hall.out]; simp [he])
        clear hyk he
        go_wp2_with fail
        go_round
        case rel => exact ⟨k + 1, by go_num, by omega, Ht.out⟩
        case measure => simp [intOf]; omega
    · have H := Lib.hid (hasI_end (l := l) (n := n) (by have h := Hall.out; rwa [show k = l.length by omega] at h))
      go_wp2_with fail
      go_ret
      exact ⟨ret_bool H.out.symm, rfl⟩
end Go.Proofs.Ytaapmimabbmdbaa
