/- The laws' helpers for lists of values: contracts. -/
import Derived.Test.YtnldneogjdljkaaL1
namespace Go.Proofs.Ytnldneogjdljkaa
open Go.ChangeShapes Go.WideShapes Go.ChangeAt Go.RowKit Go.Lb

theorem info_val : (Try.prog.info? 87).map (fun i => (i.zero, i.size, i.bytes)) = some (some (.agg #[.int .i64 0, .int .i64 0, .string ⟨#[]⟩]), 3, 32) := by kernel_rfl

set_option maxHeartbeats 400000 in
theorem toValS_c (xs : List V) (x : Value) (w : World) {lo hi : Nat} (hx : RdV w lo hi x xs) (hhi : hi ≤ w.heap.size) (hn : xs.length ≤ 1048576) :
    Calls Try.prog 38 #[x] w fun e w' => ∃ v, e = .returned v ∧ Own 87 3 w' w.heap.size w'.heap.size v xs.length (xs.flatMap V.cells) ∧ Below w.heap.size w w' := by
  obtain ⟨A, c, rfl, hl, hl2⟩ := hx.form
  obtain ⟨i0, hi, hz0, hz1, hz2⟩ := info_parts info_val
  have hmk : ∀ W : World, _ := fun W => make_n (P := Try.prog) 51 87 i0 _ Try.underlying51 hi hz0 xs.length (by rw [hz2]; omega) (by omega) W
  rw [hz1] at hmk
  clear hz0 hz1 hz2 hi
  go_enter Try.func38, Try.ntmps38
  go_wp2_with fail
  go_loopw [4] (fun i wr => ∃ (k : Nat) (cur : Array Value), i = .int .i64 k ∧ k ≤ xs.length ∧ wr.heap[w.heap.size]? = some (.cells cur 87 (0, 0)) ∧ cur.size = xs.length * 3 ∧ cur.toList.take (k * 3) = (xs.take k).flatMap V.cells ∧ Below w.heap.size w wr) (fun i _ => xs.length - (intOf i).toNat)
  case atStart => exact ⟨0, _, by simp, by omega, heap_alloc_new w _, size_madeCells _ _, by simp, (Below.refl _ _).alloc (Nat.le_refl _) _⟩
  case round =>
    obtain ⟨k, cur, rfl, hk, hcur, hsz, htk, hb⟩ := hrel
    have Hc := Lib.hid hcur
    have Hsz := Lib.hid hsz
    have Htk := Lib.hid htk
    clear hcur hsz htk
    by_cases hkl : k < xs.length
    · obtain ⟨b, off, y, rfl, -, hbl, hyk, e0, e1, e2⟩ := (hx.below hb hhi).at hkl
      have hy := Lib.hid (take_of_get hyk)
      clear hyk
      go_wp2_with fail
      refine (toVal_c y _).mono ?_
      rintro e w1 ⟨rfl, hb1⟩
      have hg : w.heap.size < wr.heap.size := (Array.getElem?_eq_some_iff.1 Hc.out).1
      have Hc1 := Lib.hid ((hb1.block _ hg).trans Hc.out)
      clear e0 e1 e2
      have k0 := cell_of_row w1 w.heap.size (k * 3) cur _ _ Hc1.out
      have k1 := cell_of_row w1 w.heap.size (k * 3 + 1) cur _ _ Hc1.out
      have k2 := cell_of_row w1 w.heap.size (k * 3 + 2) cur _ _ Hc1.out
      have f0 := fun o => frozen_of_row w1 w.heap.size o cur _ Hc1.out
      rw [Array.getElem?_eq_getElem (by rw [Hsz.out]; omega)] at k0 k1 k2
      go_wp2_with fail
      go_roundw
      case rel =>
        refine ⟨k + 1, _, by go_num, by omega, set3 Hc1.out, by simpa using Hsz.out, ?_, ?_⟩
        · simp only [Array.toList_setIfInBounds]
          rw [show (k + 1) * 3 = k * 3 + 3 by omega, take_set3 (by rw [Array.length_toList, Hsz.out]; omega), Htk.out, hy.out, List.flatMap_append]
          simp [V.cells]
        · exact (((hb.trans (hb1.mono (Nat.le_of_lt hg))).setCell (Nat.le_refl _) _).setCell (Nat.le_refl _) _).setCell (Nat.le_refl _) _
      case measure => simp [intOf]; omega
    · go_wp2_with fail
      go_ret
      obtain rfl : k = xs.length := by omega
      refine ⟨_, rfl, .new ⟨by rw [flat_len _ 3 V.cells_len], .inr ⟨_, _, cur, rfl, Nat.le_refl _, Hc.out, Nat.le_refl _, by unfold maxLen; omega, Hsz.out, ?_⟩⟩, hb⟩
      rw [Htk.out, List.take_length]
end Go.Proofs.Ytnldneogjdljkaa
