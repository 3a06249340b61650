/- The laws' helpers for lists of rows (and slots): copies: contracts. -/
import Derived.Test.YtgjjkodlmhmjgaaLR3
namespace Go.Proofs.Ytgjjkodlmhmjgaa
open Go.Sort Go.ChangeShapes Go.WideShapes Go.ChangeAt Go.RowKit Go.Lb

theorem info_Row : (Try.prog.info? 111).map (fun i => (i.zero, i.size, i.bytes)) = some (some (.agg #[.int .i64 0, .slice none 0 0]), 2, 32) := by kernel_rfl
theorem info_Slot : (Try.prog.info? 128).map (fun i => (i.zero, i.size, i.bytes)) = some (some (.agg #[.int .i64 0, .slice none 0 0]), 2, 32) := by kernel_rfl
set_option maxHeartbeats 1000000 in
theorem toRowS_c (xs : List R) (x : Value) (w : World) {lo hi : Nat} (hx : RdR w lo hi x xs) (hhi : hi ≤ w.heap.size) (hn : xs.length ≤ 1048576 ∧ cntR xs ≤ 3145728 ∧ lensR xs ≤ 1048576) :
    Calls Try.prog 18 #[x] w fun e w' => ∃ v, e = .returned v ∧ OwnR 111 39 w' w.heap.size w'.heap.size v xs ∧ Below w.heap.size w w' := by
  obtain ⟨A, c, rfl, hl, hl2⟩ := hx.form
  obtain ⟨i0, hif, hz0, hz1, hz2⟩ := info_parts info_Row
  have hn1 := hn.1
  have Hn := Lib.hid hn.2.2
  clear hn
  have hmk : ∀ W : World, _ := fun W => make_n (P := Try.prog) 27 111 i0 _ Try.underlying27 hif hz0 xs.length (by rw [hz2]; omega) (by omega) W
  rw [hz1] at hmk
  clear hz0 hz1 hz2 hif
  go_enter Try.func18, Try.ntmps18
  go_wp2_with fail
  go_loopw [4] (fun i wr => ∃ (k : Nat) (cur : Array Value) (ps : List (R × Value)), i = .int .i64 k ∧ k ≤ xs.length ∧ wr.heap[w.heap.size]? = some (.cells cur 111 (0, 0)) ∧ cur.size = xs.length * 2 ∧ ps.map Prod.fst = xs.take k ∧ cur.toList.take (k * 2) = ps.flatMap rcell ∧ PartR 39 wr (w.heap.size + 1) wr.heap.size ps ∧ Below w.heap.size w wr) (fun i _ => xs.length - (intOf i).toNat)
  case atStart => exact ⟨0, _, [], by simp, by omega, heap_alloc_new w _, size_madeCells _ _, by simp, by simp, .nil, (Below.refl _ _).alloc (Nat.le_refl _) _⟩
  case round =>
    obtain ⟨k, cur, ps, rfl, hk, hcur, hsz, hps, htk, hpart, hb⟩ := hrel
    have Hc := Lib.hid hcur
    have Hsz := Lib.hid hsz
    have Htk := Lib.hid htk
    have Hps := Lib.hid hps
    have Hpart := Lib.hid hpart
    have hg : w.heap.size < wr.heap.size := (Array.getElem?_eq_some_iff.1 hcur).1
    clear hcur hsz htk hps hpart
    by_cases hkl : k < xs.length
    · obtain ⟨b, off, y, sv, rfl, -, hbl, hyk, e0, e1, hr⟩ := (hx.below hb hhi).at hkl
      have hy := Lib.hid (take_of_get hyk)
      have hyl : y.l.length ≤ 1048576 := Nat.le_trans (len_of_lens (mem_of_get hyk)) Hn.out
      have hbs := hb.size
      clear hyk
      go_wp2_with fail
      refine (toRow_c y sv _ hr (by omega) hyl).mono ?_
      rintro e w1 ⟨nv, rfl, hown, hb1⟩
      have Hc1 := Lib.hid ((hb1.block _ hg).trans Hc.out)
      have Hpart1 := Lib.hid (Hpart.out.snoc hb1 (by omega) hown)
      obtain ⟨A', c', rfl, -, -, -⟩ := hown.cells
      have hs1 := hb1.size
      clear e0 e1 hr hown
      have k0 := cell_of_row w1 w.heap.size (k * 2) cur _ _ Hc1.out
      have k1 := cell_of_row w1 w.heap.size (k * 2 + 1) cur _ _ Hc1.out
      have f0 := fun o => frozen_of_row w1 w.heap.size o cur _ Hc1.out
      rw [Array.getElem?_eq_getElem (by rw [Hsz.out]; omega)] at k0 k1
      go_wp2_with fail
      go_roundw
      case rel =>
        refine ⟨k + 1, _, ps ++ [(y, .slice A' y.l.length c')], by go_num, by omega, set2 Hc1.out, by simpa using Hsz.out, ?_, ?_, ?_, ?_⟩
        rotate_left 2
        · exact PartR.imp (PartR.set (PartR.set Hpart1.out (by omega) _) (by omega) _) (fun _ _ _ => rfl) (Nat.le_of_eq (by simp [World.setCell]))
        · exact ((hb.trans (hb1.mono (Nat.le_of_lt hg))).setCell (Nat.le_refl _) _).setCell (Nat.le_refl _) _
        · rw [hy.out, List.map_append, Hps.out]; rfl
        · simp only [Array.toList_setIfInBounds]
          rw [show (k + 1) * 2 = k * 2 + 2 by omega, take_set2 (by rw [Array.length_toList, Hsz.out]; omega), Htk.out, List.flatMap_append]
          simp [rcell]
      case measure => simp [intOf]; omega
    · go_wp2_with fail
      go_ret
      obtain rfl : k = xs.length := by omega
      have hp := Hps.out
      rw [List.take_length] at hp
      have hpl : ps.length = xs.length := by rw [← hp, List.length_map]
      refine ⟨.slice (some ⟨w.heap.size, 0, none⟩) xs.length xs.length, rfl, ⟨ps, hp, Hpart.out.done (g := w.heap.size) ⟨flat_len rcell 2 rcell_len ps, .inr ⟨w.heap.size, xs.length, cur, by rw [hpl], Nat.zero_le _, Hc.out, by omega, by unfold maxLen; omega, Hsz.out, by rw [hpl]; exact Htk.out⟩⟩ rfl (Nat.le_refl _) (by omega) hg⟩, hb⟩
set_option maxHeartbeats 1000000 in
theorem toSlotS_c (xs : List R) (x : Value) (w : World) {lo hi : Nat} (hx : RdR w lo hi x xs) (hhi : hi ≤ w.heap.size) (hn : xs.length ≤ 1048576 ∧ cntR xs ≤ 3145728 ∧ lensR xs ≤ 1048576) :
    Calls Try.prog 96 #[x] w fun e w' => ∃ v, e = .returned v ∧ OwnR 128 39 w' w.heap.size w'.heap.size v xs ∧ Below w.heap.size w w' := by
  obtain ⟨A, c, rfl, hl, hl2⟩ := hx.form
  obtain ⟨i0, hif, hz0, hz1, hz2⟩ := info_parts info_Slot
  have hn1 := hn.1
  have Hn := Lib.hid hn.2.2
  clear hn
  have hmk : ∀ W : World, _ := fun W => make_n (P := Try.prog) 58 128 i0 _ Try.underlying58 hif hz0 xs.length (by rw [hz2]; omega) (by omega) W
  rw [hz1] at hmk
  clear hz0 hz1 hz2 hif
  go_enter Try.func96, Try.ntmps96
  go_wp2_with fail
  go_loopw [4] (fun i wr => ∃ (k : Nat) (cur : Array Value) (ps : List (R × Value)), i = .int .i64 k ∧ k ≤ xs.length ∧ wr.heap[w.heap.size]? = some (.cells cur 128 (0, 0)) ∧ cur.size = xs.length * 2 ∧ ps.map Prod.fst = xs.take k ∧ cur.toList.take (k * 2) = ps.flatMap rcell ∧ PartR 39 wr (w.heap.size + 1) wr.heap.size ps ∧ Below w.heap.size w wr) (fun i _ => xs.length - (intOf i).toNat)
  case atStart => exact ⟨0, _, [], by simp, by omega, heap_alloc_new w _, size_madeCells _ _, by simp, by simp, .nil, (Below.refl _ _).alloc (Nat.le_refl _) _⟩
  case round =>
    obtain ⟨k, cur, ps, rfl, hk, hcur, hsz, hps, htk, hpart, hb⟩ := hrel
    have Hc := Lib.hid hcur
    have Hsz := Lib.hid hsz
    have Htk := Lib.hid htk
    have Hps := Lib.hid hps
    have Hpart := Lib.hid hpart
    have hg : w.heap.size < wr.heap.size := (Array.getElem?_eq_some_iff.1 hcur).1
    clear hcur hsz htk hps hpart
    by_cases hkl : k < xs.length
    · obtain ⟨b, off, y, sv, rfl, -, hbl, hyk, e0, e1, hr⟩ := (hx.below hb hhi).at hkl
      have hy := Lib.hid (take_of_get hyk)
      have hyl : y.l.length ≤ 1048576 := Nat.le_trans (len_of_lens (mem_of_get hyk)) Hn.out
      have hbs := hb.size
      clear hyk
      go_wp2_with fail
      refine (toSlot_c y sv _ hr (by omega) hyl).mono ?_
      rintro e w1 ⟨nv, rfl, hown, hb1⟩
      have Hc1 := Lib.hid ((hb1.block _ hg).trans Hc.out)
      have Hpart1 := Lib.hid (Hpart.out.snoc hb1 (by omega) hown)
      obtain ⟨A', c', rfl, -, -, -⟩ := hown.cells
      have hs1 := hb1.size
      clear e0 e1 hr hown
      have k0 := cell_of_row w1 w.heap.size (k * 2) cur _ _ Hc1.out
      have k1 := cell_of_row w1 w.heap.size (k * 2 + 1) cur _ _ Hc1.out
      have f0 := fun o => frozen_of_row w1 w.heap.size o cur _ Hc1.out
      rw [Array.getElem?_eq_getElem (by rw [Hsz.out]; omega)] at k0 k1
      go_wp2_with fail
      go_roundw
      case rel =>
        refine ⟨k + 1, _, ps ++ [(y, .slice A' y.l.length c')], by go_num, by omega, set2 Hc1.out, by simpa using Hsz.out, ?_, ?_, ?_, ?_⟩
        rotate_left 2
        · exact PartR.imp (PartR.set (PartR.set Hpart1.out (by omega) _) (by omega) _) (fun _ _ _ => rfl) (Nat.le_of_eq (by simp [World.setCell]))
        · exact ((hb.trans (hb1.mono (Nat.le_of_lt hg))).setCell (Nat.le_refl _) _).setCell (Nat.le_refl _) _
        · rw [hy.out, List.map_append, Hps.out]; rfl
        · simp only [Array.toList_setIfInBounds]
          rw [show (k + 1) * 2 = k * 2 + 2 by omega, take_set2 (by rw [Array.length_toList, Hsz.out]; omega), Htk.out, List.flatMap_append]
          simp [rcell]
      case measure => simp [intOf]; omega
    · go_wp2_with fail
      go_ret
      obtain rfl : k = xs.length := by omega
      have hp := Hps.out
      rw [List.take_length] at hp
      have hpl : ps.length = xs.length := by rw [← hp, List.length_map]
      refine ⟨.slice (some ⟨w.heap.size, 0, none⟩) xs.length xs.length, rfl, ⟨ps, hp, Hpart.out.done (g := w.heap.size) ⟨flat_len rcell 2 rcell_len ps, .inr ⟨w.heap.size, xs.length, cur, by rw [hpl], Nat.zero_le _, Hc.out, by omega, by unfold maxLen; omega, Hsz.out, by rw [hpl]; exact Htk.out⟩⟩ rfl (Nat.le_refl _) (by omega) hg⟩, hb⟩

end Go.Proofs.Ytgjjkodlmhmjgaa
