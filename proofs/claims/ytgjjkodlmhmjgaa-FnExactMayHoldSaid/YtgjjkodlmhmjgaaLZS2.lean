/- The laws' helpers for lists of zones: sizes, copies: contracts; such an argument opened. -/
import Derived.Test.YtgjjkodlmhmjgaaLZS
import Derived.Test.YtgjjkodlmhmjgaaOpenV
import Derived.Test.YtgjjkodlmhmjgaaLR1
namespace Go.Lb
def ZsOk (l : List Z) : Prop := ∀ z ∈ l, z.lo.s.size ≤ maxLen ∧ z.hi.s.size ≤ maxLen
end Go.Lb
namespace Go.Proofs.Ytgjjkodlmhmjgaa
open Go.Sort Go.ChangeShapes Go.WideShapes Go.ChangeAt Go.RowKit Go.Lb

set_option maxHeartbeats 1000000 in
theorem szZoneS_c (l : List Z) (x : Value) (left : Int) (w : World) {lo hi : Nat} (hx : RdZ w lo hi x l) (hhi : hi ≤ w.heap.size) (hs : ZsOk l) (h0 : 0 ≤ left) (h1 : left ≤ 1048576) :
    Calls Try.prog 57 #[x, .int .i64 left] w fun e w' => ∃ m : Int, e = .returned (.int .i64 m) ∧ m ≤ 1048576 ∧ (0 ≤ m → l.length ≤ 1048576) ∧ Below w.heap.size w w' := by
  obtain ⟨A, c, rfl, hl, hl2⟩ := hx.form
  have Hs := Lib.hid hs
  clear hs
  by_cases hlt : left - l.length < 0
  · go_enter Try.func57, Try.ntmps57
    go_wp2_with fail
    go_ret
    exact ⟨-1, rfl, by omega, fun h => by omega, Below.refl _ _⟩
  · go_enter Try.func57, Try.ntmps57
    go_wp2_with fail
    go_loopw [5, 1] (fun i q wr => ∃ (k : Nat) (m : Int), i = .int .i64 k ∧ k ≤ l.length ∧ q = .int .i64 m ∧ 0 ≤ m ∧ m ≤ 1048576 ∧ Below w.heap.size w wr) (fun i _ _ => l.length - (intOf i).toNat)
    case atStart => exact ⟨0, left - l.length, by simp, by omega, rfl, by omega, by omega, Below.refl _ _⟩
    case round =>
      obtain ⟨k, m, rfl, hk, rfl, hm0, hm1, hb⟩ := hrel
      by_cases hkl : k < l.length
      · obtain ⟨b, off, z, rfl, -, hbl, hzk, e0, e1, e2, e3, e4, e5⟩ := (hx.below hb hhi).at hkl
        have hss := Hs.out z (mem_of_get hzk)
        have hle := szZone_le z m hm0 hm1
        clear hzk
        go_wp2_with fail
        refine (szZone_c z m _ hss.1 hss.2 hm0 hm1).mono ?_
        rintro e w1 ⟨rfl, hb1⟩
        clear e0 e1 e2 e3 e4 e5
        generalize szZone z m = q at *
        by_cases hneg : q < 0
        · go_wp2_with fail
          go_ret
          exact ⟨-1, rfl, by omega, fun h => by omega, hb.trans (hb1.mono hb.size)⟩
        · go_wp2_with fail
          go_roundw
          case rel => exact ⟨k + 1, q, by go_num, by omega, rfl, by omega, by omega, hb.trans (hb1.mono hb.size)⟩
          case measure => simp [intOf]; omega
      · go_wp2_with fail
        go_ret
        exact ⟨m, rfl, by omega, fun _ => by omega, hb⟩
theorem info_Zone : (Try.prog.info? 141).map (fun i => (i.zero, i.size, i.bytes)) = some (some (.agg #[.int .i64 0, .int .i64 0, .string ⟨#[]⟩, .int .i64 0, .int .i64 0, .string ⟨#[]⟩]), 6, 64) := by kernel_rfl
set_option maxRecDepth 20000 in
set_option maxHeartbeats 1000000 in
theorem toZoneS_c (xs : List Z) (x : Value) (w : World) {lo hi : Nat} (hx : RdZ w lo hi x xs) (hhi : hi ≤ w.heap.size) (hn : xs.length ≤ 1048576) :
    Calls Try.prog 59 #[x] w fun e w' => ∃ v, e = .returned v ∧ Own 141 6 w' w.heap.size w'.heap.size v xs.length (xs.flatMap Z.cells) ∧ Below w.heap.size w w' := by
  obtain ⟨A, c, rfl, hl, hl2⟩ := hx.form
  obtain ⟨i0, hi, hz0, hz1, hz2⟩ := info_parts info_Zone
  have hmk : ∀ W : World, _ := fun W => make_n (P := Try.prog) 73 141 i0 _ Try.underlying73 hi hz0 xs.length (by rw [hz2]; omega) (by omega) W
  rw [hz1] at hmk
  clear hz0 hz1 hz2 hi
  go_enter Try.func59, Try.ntmps59
  go_wp2_with fail
  go_loopw [4] (fun i wr => ∃ (k : Nat) (cur : Array Value), i = .int .i64 k ∧ k ≤ xs.length ∧ wr.heap[w.heap.size]? = some (.cells cur 141 (0, 0)) ∧ cur.size = xs.length * 6 ∧ cur.toList.take (k * 6) = (xs.take k).flatMap Z.cells ∧ Below w.heap.size w wr) (fun i _ => xs.length - (intOf i).toNat)
  case atStart => exact ⟨0, _, by simp, by omega, heap_alloc_new w _, size_madeCells _ _, by simp, (Below.refl _ _).alloc (Nat.le_refl _) _⟩
  case round =>
    obtain ⟨k, cur, rfl, hk, hcur, hsz, htk, hb⟩ := hrel
    have Hc := Lib.hid hcur
    have Hsz := Lib.hid hsz
    have Htk := Lib.hid htk
    have hg : w.heap.size < wr.heap.size := (Array.getElem?_eq_some_iff.1 hcur).1
    clear hcur hsz htk
    by_cases hkl : k < xs.length
    · obtain ⟨b, off, y, rfl, -, hbl, hyk, e0, e1, e2, e3, e4, e5⟩ := (hx.below hb hhi).at hkl
      have hy := Lib.hid (take_of_get hyk)
      clear hyk
      go_wp2_with fail
      refine (toZone_c y _).mono ?_
      rintro e w1 ⟨rfl, hb1⟩
      have Hc1 := Lib.hid ((hb1.block _ hg).trans Hc.out)
      clear e0 e1 e2 e3 e4 e5
      have k0 := cell_of_row w1 w.heap.size (k * 6) cur _ _ Hc1.out
      have k1 := cell_of_row w1 w.heap.size (k * 6 + 1) cur _ _ Hc1.out
      have k2 := cell_of_row w1 w.heap.size (k * 6 + 2) cur _ _ Hc1.out
      have k3 := cell_of_row w1 w.heap.size (k * 6 + 3) cur _ _ Hc1.out
      have k4 := cell_of_row w1 w.heap.size (k * 6 + 4) cur _ _ Hc1.out
      have k5 := cell_of_row w1 w.heap.size (k * 6 + 5) cur _ _ Hc1.out
      have f0 := fun o => frozen_of_row w1 w.heap.size o cur _ Hc1.out
      rw [Array.getElem?_eq_getElem (by rw [Hsz.out]; omega)] at k0 k1 k2 k3 k4 k5
      go_wp2_with fail
      go_roundw
      case rel =>
        refine ⟨k + 1, _, by go_num, by omega, set1 (set1 (set1 (set1 (set1 (set1 Hc1.out))))), by simpa using Hsz.out, ?_, ?_⟩
        · simp only [Array.toList_setIfInBounds]
          rw [show (k + 1) * 6 = k * 6 + 6 by omega]
          refine (take_set6 (by rw [Array.length_toList, Hsz.out]; omega)).trans ?_
          rw [Htk.out, hy.out, List.flatMap_append]
          simp [Z.cells, V.cells]
        · iterate 6 refine Below.setCell ?_ (by simp) _
          exact hb.trans (hb1.mono (Nat.le_of_lt hg))
      case measure => simp [intOf]; omega
    · go_wp2_with fail
      go_ret
      obtain rfl : k = xs.length := by omega
      refine ⟨_, rfl, .new ⟨by rw [flat_len _ 6 Z.cells_len], .inr ⟨_, _, cur, rfl, Nat.le_refl _, Hc.out, Nat.le_refl _, by unfold maxLen; omega, Hsz.out, ?_⟩⟩, hb⟩
      rw [Htk.out, List.take_length]
section
variable {H : Type} {enc : TypeId × Value → H} {w : World} {base : Nat} {spare : Nat → Bool} {held : Bool}
set_option maxRecDepth 20000 in
theorem open_Zs {v : Value} {d : DataW H} {p : List MemPlace} {r : Reach} (hv : Value.okWide Try.prog w r base 87 v) (h : DataW.Trod enc Try.prog w 0 spare held 87 v d p) : ∃ l : List Z, RdZ w 0 w.heap.size v l ∧ ZsOk l := by
  have hC : Try.prog.cellsOf 147 = 6 := by kernel_rfl
  obtain ⟨a, len, cap, rfl⟩ := okWide_slice Try.underlying87 hv
  obtain ⟨fuel, hf⟩ := h
  obtain ⟨l, hl⟩ := @open_list H enc Try.prog w 0 spare held Z 87 147 6 (fun z cs => cs = z.lo.cells ++ z.hi.cells ∧ z.lo.s.size ≤ maxLen ∧ z.hi.s.size ≤ maxLen) Try.underlying87 hC (by omega) (fun h => trod_Z h) _ _ _ hf
  refine ⟨l, hl.imp (Nat.le_refl _) (Nat.le_refl _) fun k b o _ _ ⟨z, cs, hz, ⟨hcs, _, _⟩, hc⟩ => ⟨z, hz, ?_, ?_⟩, fun z hz => ?_⟩
  · subst hcs
    exact ⟨hc 0 _ rfl, hc 1 _ rfl, hc 2 _ rfl⟩
  · subst hcs
    exact ⟨hc 3 _ rfl, hc 4 _ rfl, hc 5 _ rfl⟩
  · obtain ⟨k, hk, e⟩ := List.getElem_of_mem hz
    obtain ⟨A, c, -, -, -, h4⟩ := hl
    obtain ⟨b, off, -, -, -, z', cs, hz', ⟨-, h1, h2⟩, -⟩ := h4 k hk
    rw [List.getElem?_eq_getElem hk, e] at hz'
    injection hz' with hz'
    subst hz'
    exact ⟨h1, h2⟩
end
end Go.Proofs.Ytgjjkodlmhmjgaa
