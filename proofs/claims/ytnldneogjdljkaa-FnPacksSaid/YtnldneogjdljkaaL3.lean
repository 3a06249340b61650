/- The laws' helper that compares two lists of values: its contract. -/
import Derived.Test.YtnldneogjdljkaaL1
namespace Go.Proofs.Ytnldneogjdljkaa
open Go.ChangeShapes Go.WideShapes Go.ChangeAt Go.RowKit Go.Lb

theorem eq_of_drop {α : Type} [DecidableEq α] {xs ys : List α} {k : Nat} {x y : α} (hl : xs.length = ys.length) (ht : xs.take k = ys.take k) (hx : xs[k]? = some x) (hy : ys[k]? = some y) :
    (x = y → xs.take (k + 1) = ys.take (k + 1)) ∧ (x ≠ y → xs ≠ ys) := by
  refine ⟨fun h => ?_, fun h e => ?_⟩
  · rw [take_of_get hx, take_of_get hy, ht, h]
  · subst e
    rw [hx] at hy
    exact h (by injection hy)

theorem keep6 {w W w1 : World} {b o b' o' : Nat} {u0 u1 u2 u0' u1' u2' : Value} (hb : b < w.heap.size) (hb' : b' < w.heap.size)
    (h : (W.cell? ⟨b, o, none⟩ = some u0 ∧ W.cell? ⟨b, o + 1, none⟩ = some u1 ∧ W.cell? ⟨b, o + 2, none⟩ = some u2) ∧ (W.cell? ⟨b', o', none⟩ = some u0' ∧ W.cell? ⟨b', o' + 1, none⟩ = some u1' ∧ W.cell? ⟨b', o' + 2, none⟩ = some u2') ∧ Below w.heap.size w W) (h1 : Below W.heap.size W w1) :
    (w1.cell? ⟨b, o, none⟩ = some u0 ∧ w1.cell? ⟨b, o + 1, none⟩ = some u1 ∧ w1.cell? ⟨b, o + 2, none⟩ = some u2) ∧ (w1.cell? ⟨b', o', none⟩ = some u0' ∧ w1.cell? ⟨b', o' + 1, none⟩ = some u1' ∧ w1.cell? ⟨b', o' + 2, none⟩ = some u2') ∧ Below w.heap.size w w1 := by
  obtain ⟨⟨h2, h3, h4⟩, ⟨h5, h6, h7⟩, h8⟩ := h
  have hs := h8.size
  have k : ∀ o, w1.cell? ⟨b, o, none⟩ = W.cell? ⟨b, o, none⟩ := fun o => h1.cell (p := ⟨b, o, none⟩) (by show b < _; omega)
  have k' : ∀ o, w1.cell? ⟨b', o, none⟩ = W.cell? ⟨b', o, none⟩ := fun o => h1.cell (p := ⟨b', o, none⟩) (by show b' < _; omega)
  simp only [k, k']
  exact ⟨⟨h2, h3, h4⟩, ⟨h5, h6, h7⟩, h8.trans (h1.mono hs)⟩

set_option maxHeartbeats 1000000 in
theorem eqValS_c (xs : List V) (x : Value) (ys : List V) (y : Value) (w : World) {l1 h1 l2 h2 : Nat} (hx : RdV w l1 h1 x xs) (hh1 : h1 ≤ w.heap.size) (hy : RdV w l2 h2 y ys) (hh2 : h2 ≤ w.heap.size) :
    Calls Try.prog 41 #[x, y] w fun e w' => e = .returned (.bool (eqd xs ys)) ∧ Below w.heap.size w w' := by
  obtain ⟨A, c, rfl, hl, hl2⟩ := hx.form
  obtain ⟨A', c', rfl, hl', hl2'⟩ := hy.form
  by_cases hlen : xs.length = ys.length
  · have Hlen := Lib.hid hlen
    have hlb : ((xs.length : Int) != (ys.length : Int)) = false := by simp [hlen]
    rw [← hlen] at hl'
    clear hlen
    go_enter Try.func41, Try.ntmps41
    go_wp2_with fail
    go_loopw [5] (fun i wr => ∃ (k : Nat), i = .int .i64 k ∧ k ≤ xs.length ∧ xs.take k = ys.take k ∧ Below w.heap.size w wr) (fun i _ => xs.length - (intOf i).toNat)
    case atStart => exact ⟨0, by simp, by omega, by simp, Below.refl _ _⟩
    case round =>
      obtain ⟨k, rfl, hk, htk, hb⟩ := hrel
      have Htk := Lib.hid htk
      clear htk
      by_cases hkl : k < xs.length
      · obtain ⟨b, off, u, rfl, -, hbl, huk, e0, e1, e2⟩ := (hx.below hb hh1).at hkl
        obtain ⟨b', off', u', rfl, -, hbl', huk', e0', e1', e2'⟩ := (hy.below hb hh2).at (Hlen.out ▸ hkl)
        have Hs := Lib.hid (eq_of_drop Hlen.out Htk.out huk huk')
        have hkl' : k < ys.length := Hlen.out ▸ hkl
        clear huk huk'
        go_wp2_with fail
        go_region_held3 (fun w' => (w'.cell? ⟨b, off + k * 3, none⟩ = some (.int .i64 u.ty) ∧ w'.cell? ⟨b, off + k * 3 + 1, none⟩ = some (.int .i64 u.n) ∧ w'.cell? ⟨b, off + k * 3 + 2, none⟩ = some (.string u.s)) ∧ (w'.cell? ⟨b', off' + k * 3, none⟩ = some (.int .i64 u'.ty) ∧ w'.cell? ⟨b', off' + k * 3 + 1, none⟩ = some (.int .i64 u'.n) ∧ w'.cell? ⟨b', off' + k * 3 + 2, none⟩ = some (.string u'.s)) ∧ Below w.heap.size w w') (first | exact ⟨⟨e0, e1, e2⟩, ⟨e0', e1', e2'⟩, hb.drew⟩ | exact keep6 (Nat.lt_of_lt_of_le hbl hh1) (Nat.lt_of_lt_of_le hbl' hh2) ‹_› hb1) (first | (go_at_call 86; refine (eqVal_c u u' _).mono ?_; rintro e w1 ⟨rfl, hb1⟩))
        have hb2 : Below w.heap.size w w1 := hb.drew.trans (hb1.mono hb.size)
        clear e0 e1 e2 e0' e1' e2'
        by_cases hu : u = u'
        · have hd : eqd u u' = true := eqd_of hu
          have Hs1 := Lib.hid (Hs.out.1 hu)
          clear hu Hs
          simp only [hd, Bool.not_true]
          go_wp2_with fail
          go_roundw
          case rel => exact ⟨k + 1, by go_num, by omega, Hs1.out, hb2⟩
          case measure => simp [intOf]; omega
        · have hd : eqd u u' = false := eqd_no hu
          have H := Lib.hid (eqd_no (Hs.out.2 hu))
          clear hu Hs
          simp only [hd, Bool.not_false]
          go_wp2_with fail
          go_ret
          exact ⟨ret_bool H.out.symm, hb2⟩
      · have H := Lib.hid (show eqd xs ys = true by
          have h := Htk.out
          rw [List.take_of_length_le (by omega), List.take_of_length_le (by have := Hlen.out; omega)] at h
          exact eqd_of h)
        go_wp2_with fail
        go_ret
        exact ⟨ret_bool H.out.symm, hb⟩
  · have hlb : ((xs.length : Int) != (ys.length : Int)) = true := by simp; omega
    have H := Lib.hid (eqd_no fun h : xs = ys => hlen (by rw [h]))
    clear hlen
    go_enter Try.func41, Try.ntmps41
    go_wp2_with fail
    go_ret
    exact ⟨ret_bool H.out.symm, Below.refl _ _⟩
end Go.Proofs.Ytnldneogjdljkaa
