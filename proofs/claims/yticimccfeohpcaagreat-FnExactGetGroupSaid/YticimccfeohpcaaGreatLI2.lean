/- The laws' helpers for lists of numbers: copies, sizes: contracts. -/
import Derived.Test.YticimccfeohpcaaGreatLI
namespace Go.Proofs.YticimccfeohpcaaGreat
open Go.ChangeShapes Go.WideShapes Go.ChangeAt Go.RowKit Go.Lb

theorem info_intL : (Tryz.prog.info? 3).map (fun i => (i.zero, i.size, i.bytes)) = some (some (.int .i64 0), 1, 8) := by kernel_rfl
set_option maxHeartbeats 400000 in
theorem toIntS_c (xs : List Int) (x : Value) (w : World) {lo hi : Nat} (hx : RdI w lo hi x xs) (hhi : hi ≤ w.heap.size) (hn : xs.length ≤ 1048576) :
    Calls Tryz.prog 13 #[x] w fun e w' => ∃ v, e = .returned v ∧ Own 3 1 w' w.heap.size w'.heap.size v xs.length (xs.map (Value.int .i64)) ∧ Below w.heap.size w w' := by
  obtain ⟨A, c, rfl, hl, hl2⟩ := hx.form
  obtain ⟨i0, hi, hz0, hz1, hz2⟩ := info_parts info_intL
  have hmk : ∀ W : World, _ := fun W => make_n (P := Tryz.prog) 22 3 i0 _ Tryz.underlying22 hi hz0 xs.length (by rw [hz2]; omega) (by omega) W
  rw [hz1] at hmk
  clear hz0 hz1 hz2 hi
  go_enter Tryz.func13, Tryz.ntmps13
  go_wp2_with fail
  go_loopw [4] (fun i wr => ∃ (k : Nat) (cur : Array Value), i = .int .i64 k ∧ k ≤ xs.length ∧ wr.heap[w.heap.size]? = some (.cells cur 3 (0, 0)) ∧ cur.size = xs.length * 1 ∧ cur.toList.take (k * 1) = (xs.take k).map (Value.int .i64) ∧ Below w.heap.size w wr) (fun i _ => xs.length - (intOf i).toNat)
  case atStart => exact ⟨0, _, by simp, by omega, heap_alloc_new w _, by rw [size_madeCells, Nat.mul_one], by simp, (Below.refl _ _).alloc (Nat.le_refl _) _⟩
  case round =>
    obtain ⟨k, cur, rfl, hk, hcur, hsz, htk, hb⟩ := hrel
    have Hc := Lib.hid hcur
    have Hsz := Lib.hid hsz
    have Htk := Lib.hid htk
    clear hcur hsz htk
    by_cases hkl : k < xs.length
    · obtain ⟨b, off, y, rfl, -, hbl, hyk, e0⟩ := (hx.below hb hhi).at hkl
      have hy := Lib.hid (take_of_get hyk)
      clear hyk
      have k0 := cell_of_row wr w.heap.size k cur _ _ Hc.out
      have f0 := fun o => frozen_of_row wr w.heap.size o cur _ Hc.out
      rw [Array.getElem?_eq_getElem (by rw [Hsz.out]; omega)] at k0
      go_wp2_with fail
      go_roundw
      case rel =>
        refine ⟨k + 1, _, by go_num, by omega, set1 Hc.out, by simpa using Hsz.out, ?_, hb.setCell (Nat.le_refl _) _⟩
        simp only [Array.toList_setIfInBounds]
        rw [show (k + 1) * 1 = k + 1 by omega, take_set1 (by rw [Array.length_toList, Hsz.out]; omega), hy.out, List.map_append, ← Htk.out, Nat.mul_one]
        rfl
      case measure => simp [intOf]; omega
    · go_wp2_with fail
      go_ret
      obtain rfl : k = xs.length := by omega
      refine ⟨_, rfl, .new ⟨by simp, .inr ⟨_, _, cur, rfl, Nat.le_refl _, Hc.out, Nat.le_refl _, by unfold maxLen; omega, Hsz.out, ?_⟩⟩, hb⟩
      rw [Htk.out, List.take_length]
end Go.Proofs.YticimccfeohpcaaGreat
