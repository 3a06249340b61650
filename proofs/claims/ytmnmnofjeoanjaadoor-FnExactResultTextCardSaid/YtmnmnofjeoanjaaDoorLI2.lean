/- The laws' helpers for lists of numbers: copies, sizes: contracts. -/
import Derived.Test.YtmnmnofjeoanjaaDoorLI
namespace Go.Proofs.YtmnmnofjeoanjaaDoor
open Go.ChangeShapes Go.WideShapes Go.ChangeAt Go.RowKit Go.Lb

theorem info_intL : (Tryd.prog.info? 3).map (fun i => (i.zero, i.size, i.bytes)) = some (some (.int .i64 0), 1, 8) := by kernel_rfl
set_option maxHeartbeats 400000 in
theorem toIntS_c (xs : List Int) (x : Value) (w : World) {lo hi : Nat} (hx : RdI w lo hi x xs) (hhi : hi ≤ w.heap.size) (hn : xs.length ≤ 1048576) :
    Calls Tryd.prog 55 #[x] w fun e w' => ∃ v, e = .returned v ∧ Own 3 1 w' w.heap.size w'.heap.size v xs.length (xs.map (Value.int .i64)) ∧ Below w.heap.size w w' := by
  obtain ⟨A, c, rfl, hl, hl2⟩ := hx.form
  obtain ⟨i0, hi, hz0, hz1, hz2⟩ := info_parts info_intL
  have hmk : ∀ W : World, _ := fun W => make_n (P := Tryd.prog) 38 3 i0 _ Tryd.underlying38 hi hz0 xs.length (by rw [hz2]; omega) (by omega) W
  rw [hz1] at hmk
  clear hz0 hz1 hz2 hi
  go_enter Tryd.func55, Tryd.ntmps55
  go_wp2_with fail
  go_loopw [4] (fun i wr => ∃ (k : Nat) (cur : Array Value), i = .int .i64 k ∧ k ≤ xs.length ∧ wr.heap[w.heap.size]? = some (.cells cur 3 (0, 0)) ∧ cur.size = xs.length * 1 ∧ cur.toList.take (k * 1) = (xs.take k).map (Value.int .i64) ∧ Below w.heap.size w wr) (fun i _ => xs.length - (intOf i).toNat)
  case atStart => exact ⟨0, _, by simp, by omega, heap_alloc_new w _, by rw [size_madeCells, Nat.mul_one], by simp, (Below.refl _ _).alloc (Nat.le_refl _) _⟩
  case round =>
    obtain ⟨k, cur, rfl, hk, hcur, hsz, htk, hb⟩ := hrel
    have Hc := Lib.hid hcur
    have Hsz := Lib.hid hsz
    have Htk := Lib.hid htk
    clear hcur hsz htk
    by_cases hkl : k < xs.length
    · obtain ⟨b, off, y, rfl, -, hbl, hyk, e0⟩ := (hx.below hb hhi).at hkl
      have hy := Lib.hid (take_of_get hyk)
      clear hyk
      have k0 := cell_of_row wr w.heap.size k cur _ _ Hc.out
      have f0 := fun o => frozen_of_row wr w.heap.size o cur _ Hc.out
      rw [Array.getElem?_eq_getElem (by rw [Hsz.out]; omega)] at k0
      go_wp2_with fail
      go_roundw
      case rel =>
        refine ⟨k + 1, _, by go_num, by omega, set1 Hc.out, by simpa using Hsz.out, ?_, hb.setCell (Nat.le_refl _) _⟩
        simp only [Array.toList_setIfInBounds]
        rw [show (k + 1) * 1 = k + 1 by omega, take_set1 (by rw [Array.length_toList, Hsz.out]; omega), hy.out, List.map_append, ← Htk.out, Nat.mul_one]
        rfl
      case measure => simp [intOf]; omega
    · go_wp2_with fail
      go_ret
      obtain rfl : k = xs.length := by omega
      refine ⟨_, rfl, .new ⟨by simp, .inr ⟨_, _, cur, rfl, Nat.le_refl _, Hc.out, Nat.le_refl _, by unfold maxLen; omega, Hsz.out, ?_⟩⟩, hb⟩
      rw [Htk.out, List.take_length]
def szIntS (l : List Int) (left : Int) : Int := if left - l.length < 0 then -1 else left - l.length
theorem szIntS_le (l : List Int) (left : Int) (_h0 : 0 ≤ left) (h : left ≤ 1048576) : szIntS l left ≤ 1048576 := by unfold szIntS; split <;> omega
theorem szIntS_bd (l : List Int) (left : Int) (_h0 : 0 ≤ left) (h : left ≤ 1048576) : ¬ szIntS l left < 0 → l.length ≤ 1048576 := by unfold szIntS; split <;> omega
theorem szIntS_c (l : List Int) (x : Value) (left : Int) (w : World) {lo hi : Nat} (hx : RdI w lo hi x l) (_hhi : hi ≤ w.heap.size) (h0 : 0 ≤ left) (h1 : left ≤ 1048576) :
    Calls Tryd.prog 52 #[x, .int .i64 left] w fun e w' => e = .returned (.int .i64 (szIntS l left)) ∧ Below w.heap.size w w' := by
  obtain ⟨A, c, rfl, hl, hl2⟩ := hx.form
  have H := Lib.hid (show szIntS l left = if left - l.length < 0 then -1 else left - l.length from rfl)
  by_cases h : left - l.length < 0
  · have H := Lib.hid (H.out.trans (if_pos h))
    go_enter Tryd.func52, Tryd.ntmps52
    go_wp2_with fail
    go_ret
    exact ⟨ret_int H.out.symm, Below.refl _ _⟩
  · have H := Lib.hid (H.out.trans (if_neg h))
    go_enter Tryd.func52, Tryd.ntmps52
    go_wp2_with fail
    go_ret
    exact ⟨ret_int H.out.symm, Below.refl _ _⟩
end Go.Proofs.YtmnmnofjeoanjaaDoor
