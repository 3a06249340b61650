/- The reference's ZoneOf: its contract. -/
import Derived.Test.YtidmlfjolhnnfaaGreatDoorS1
import Derived.Deep.DeepCutAuto
namespace Go.Proofs.YtidmlfjolhnnfaaGreatDoor
open Go.ChangeShapes Go.WideShapes Go.ChangeAt Go.RowKit Go.Lb

theorem foldz_snoc (l : List V) (k : Nat) (x : V) (h : l[k]? = some x) (hk : 0 < k) : zoneOf (l.take (k + 1)) = zstep (zoneOf (l.take k)) x := by
  rw [take_of_get h]
  cases hl : l.take k with
  | nil =>
    have h1 := congrArg List.length hl
    have h2 := (List.getElem?_eq_some_iff.1 h).1
    rw [List.length_take, List.length_nil] at h1
    omega
  | cons a r => simp [zoneOf, List.foldl_append]
theorem foldz_one (l : List V) (x : V) (h : l[0]? = some x) : zoneOf (l.take 1) = ⟨x, x⟩ := by
  rw [take_of_get h]; simp [zoneOf]

set_option maxHeartbeats 2000000 in
theorem spec_ZoneOf (l : List V) (x : Value) (w : World) {lo hi : Nat} (hx : RdV w lo hi x l) (hhi : hi ≤ w.heap.size) :
    Calls Tryz.prog 28 #[x] w fun e w' => e = .returned (.agg #[.int .i64 (zoneOf l).lo.ty, .int .i64 (zoneOf l).lo.n, .string (zoneOf l).lo.s, .int .i64 (zoneOf l).hi.ty, .int .i64 (zoneOf l).hi.n, .string (zoneOf l).hi.s]) ∧ Below w.heap.size w w' := by
  obtain ⟨A, c, rfl, hl, hl2⟩ := hx.form
  go_enter Tryz.func28, Tryz.ntmps28
  go_wp2_with fail
  go_loopw [4] (fun i wr => ∃ (k : Nat) (z : Z), i = .int .i64 k ∧ k ≤ l.length ∧ z = zoneOf (l.take k) ∧ wr.heap[w.heap.size]? = some (.cells #[.int .i64 0, .int .i64 0, .string ⟨#[]⟩, .int .i64 0, .int .i64 0, .string ⟨#[]⟩] 53 (0, 0)) ∧ wr.heap[w.heap.size + 1]? = some (.cells #[.int .i64 z.lo.ty, .int .i64 z.lo.n, .string z.lo.s, .int .i64 z.hi.ty, .int .i64 z.hi.n, .string z.hi.s] 53 (0, 0)) ∧ Below w.heap.size w wr) (fun i _ => l.length - (intOf i).toNat)
  case atStart =>
    refine ⟨0, zoneOf (l.take 0), rfl, by omega, rfl, ?_, ?_, ?_⟩
    · exact (Below.heap_alloc _ _ _ (by simp)).trans (heap_alloc_new w _)
    · have h := heap_alloc_new (w.alloc (.cells #[.int .i64 0, .int .i64 0, .string ⟨#[]⟩, .int .i64 0, .int .i64 0, .string ⟨#[]⟩] 53)) (.cells #[.int .i64 0, .int .i64 0, .string ⟨#[]⟩, .int .i64 0, .int .i64 0, .string ⟨#[]⟩] 53)
      rw [World.size_alloc] at h
      exact h
    · exact ((Below.refl _ _).alloc (Nat.le_refl _) _).alloc (by simp) _
  case round =>
    obtain ⟨k, z, rfl, hk, hz, hr, hzb, hb⟩ := hrel
    have Hz := Lib.hid hz
    have Hr := Lib.hid hr
    have Hzb := Lib.hid hzb
    clear hz hr hzb
    have r0 := fun o => cell_of_row wr w.heap.size o _ _ _ Hr.out
    have rf := fun o => frozen_of_row wr w.heap.size o _ _ Hr.out
    have s0 := fun o => cell_of_row wr (w.heap.size + 1) o _ _ _ Hzb.out
    have sf := fun o => frozen_of_row wr (w.heap.size + 1) o _ _ Hzb.out
    by_cases hkl : k < l.length
    · obtain ⟨b, off, y, rfl, -, hbl, hyk, e0, e1, e2⟩ := (hx.below hb hhi).at hkl
      have hg : w.heap.size + 1 < wr.heap.size := (Array.getElem?_eq_some_iff.1 Hzb.out).1
      by_cases hk0 : k = 0
      · subst hk0
        simp only [Nat.zero_mul, Nat.add_zero] at e0 e1 e2
        have hy := Lib.hid hyk
        clear hyk
        go_wp2_with fail
        go_quiet (fail)
        go_wp2_with fail
        go_quiet (fail)
        go_wp2_with fail
        go_roundw
        case rel =>
          have hzz := foldz_one l y hy.out
          refine ⟨1, ⟨y, y⟩, rfl, by omega, hzz.symm, ?_, ?_, ?_⟩
          · iterate 6 refine (heap_setCell_other _ ⟨w.heap.size + 1, _, none⟩ _ _ (by simp)).trans ?_
            exact Hr.out
          · exact heap_setCell_same _ _ _ _ _ _ (heap_setCell_same _ _ _ _ _ _ (heap_setCell_same _ _ _ _ _ _ (heap_setCell_same _ _ _ _ _ _ (heap_setCell_same _ _ _ _ _ _ (heap_setCell_same _ _ _ _ _ _ Hzb.out)))))
          · iterate 3 refine Below.setCell (p := ⟨w.heap.size + 1, _, none⟩) ?_ (Nat.le_add_right _ _) _
            refine below_drewN' ?_ _
            iterate 3 refine Below.setCell (p := ⟨w.heap.size + 1, _, none⟩) ?_ (Nat.le_add_right _ _) _
            exact below_drewN' hb _
        case measure => simp [intOf]; omega
      · have hkb : ((k : Int) == 0) = false := by simp; omega
        have hk0 := Lib.hid hk0
        have hy := Lib.hid (foldz_snoc l k y hyk (by have := hk0.out; omega))
        have Hyk := Lib.hid hyk
        clear hyk
        go_wp2_with fail
        go_region_held3 (fun w' => (w'.cell? ⟨b, off + k * 3, none⟩ = some (.int .i64 y.ty) ∧ w'.cell? ⟨b, off + k * 3 + 1, none⟩ = some (.int .i64 y.n) ∧ w'.cell? ⟨b, off + k * 3 + 2, none⟩ = some (.string y.s)) ∧ (w'.cell? ⟨w.heap.size + 1, 0, none⟩ = some (.int .i64 z.lo.ty) ∧ w'.cell? ⟨w.heap.size + 1, 1, none⟩ = some (.int .i64 z.lo.n) ∧ w'.cell? ⟨w.heap.size + 1, 2, none⟩ = some (.string z.lo.s)) ∧ Below wr.heap.size wr w') (first | exact ⟨⟨e0, e1, e2⟩, ⟨s0 0, s0 1, s0 2⟩, (Below.refl _ _).drew⟩ | exact keep6' (b' := w.heap.size + 1) (by omega) (by omega) ‹_› hb1) (first | (go_at_call 50; refine (spec_LessVal y z.lo _).mono ?_; rintro e w1 ⟨rfl, hb1⟩))
        have hb2 : Below w.heap.size w w1 := hb.trans (Below.mono (Below.undrew hb1) hb.size)
        have Hr1 := Lib.hid ((hb1.block w.heap.size (by show _ < wr.heap.size; omega)).trans Hr.out)
        have Hz1 := Lib.hid ((hb1.block (w.heap.size + 1) hg).trans Hzb.out)
        have hg1 : w.heap.size + 1 < w1.heap.size := (Array.getElem?_eq_some_iff.1 Hz1.out).1
        have hlo := Lib.hid (show (zstep z y).lo = if less y z.lo then y else z.lo from rfl)
        have hhi2 := Lib.hid (show (zstep z y).hi = if less z.hi y then y else z.hi from rfl)
        have d0 := (hb1.cell (p := ⟨b, off + k * 3, none⟩) (show b < wr.heap.size by omega)).trans e0
        have d1 := (hb1.cell (p := ⟨b, off + k * 3 + 1, none⟩) (show b < wr.heap.size by omega)).trans e1
        have d2 := (hb1.cell (p := ⟨b, off + k * 3 + 2, none⟩) (show b < wr.heap.size by omega)).trans e2
        clear e0 e1 e2 s0 sf r0 rf
        go_upto_if 22 with (fail)
        go_cut [] (fun wx => wx.heap[w.heap.size]? = some (.cells #[.int .i64 0, .int .i64 0, .string ⟨#[]⟩, .int .i64 0, .int .i64 0, .string ⟨#[]⟩] 53 (0, 0)) ∧ wx.heap[w.heap.size + 1]? = some (.cells #[.int .i64 (zstep z y).lo.ty, .int .i64 (zstep z y).lo.n, .string (zstep z y).lo.s, .int .i64 z.hi.ty, .int .i64 z.hi.n, .string z.hi.s] 53 (0, 0)) ∧ Below w.heap.size w wx)
        case first =>
          have s1 := fun o => cell_of_row w1 (w.heap.size + 1) o _ _ _ Hz1.out
          have sf1 := fun o => frozen_of_row w1 (w.heap.size + 1) o _ _ Hz1.out
          cases hlt : less y z.lo
          · rw [hlt] at hlo
            go_wp2_with fail
            go_meet
            case rel =>
              rw [show (zstep z y).lo = z.lo from hlo.out]
              exact ⟨Hr1.out, Hz1.out, hb2⟩
          · rw [hlt] at hlo
            go_wp2_with fail
            go_meet
            case rel =>
              rw [show (zstep z y).lo = y from hlo.out]
              refine ⟨?_, heap_setCell_same _ _ _ _ _ _ (heap_setCell_same _ _ _ _ _ _ (heap_setCell_same _ _ _ _ _ _ Hz1.out)), ?_⟩
              · iterate 3 refine (heap_setCell_other _ ⟨w.heap.size + 1, _, none⟩ _ _ (by simp)).trans ?_
                exact Hr1.out
              · iterate 3 refine Below.setCell (p := ⟨w.heap.size + 1, _, none⟩) ?_ (Nat.le_add_right _ _) _
                exact hb2
        case rest =>
          obtain ⟨hr2, hz2, hb3⟩ := hcut
          have Hr2 := Lib.hid hr2
          have Hz2 := Lib.hid hz2
          clear hr2 hz2 d0 d1 d2 Hr1 Hz1 hb1 hb2 Hr Hzb hg hb
          obtain ⟨b', off', y', hA, -, hbl', hyk', e0, e1, e2⟩ := (hx.below hb3 hhi).at hkl
          injection hA with hA
          injection hA with hA1 hA2
          subst hA1 hA2
          obtain rfl : y' = y := by have h := Hyk.out; rw [hyk'] at h; injection h
          clear hyk'
          have hg : w.heap.size + 1 < wc.heap.size := (Array.getElem?_eq_some_iff.1 Hz2.out).1
          have s1 := fun o => cell_of_row wc (w.heap.size + 1) o _ _ _ Hz2.out
          go_wp2_with fail
          go_region_held3 (fun w' => (w'.cell? ⟨b, off + k * 3, none⟩ = some (.int .i64 y'.ty) ∧ w'.cell? ⟨b, off + k * 3 + 1, none⟩ = some (.int .i64 y'.n) ∧ w'.cell? ⟨b, off + k * 3 + 2, none⟩ = some (.string y'.s)) ∧ (w'.cell? ⟨w.heap.size + 1, 3, none⟩ = some (.int .i64 z.hi.ty) ∧ w'.cell? ⟨w.heap.size + 1, 4, none⟩ = some (.int .i64 z.hi.n) ∧ w'.cell? ⟨w.heap.size + 1, 5, none⟩ = some (.string z.hi.s)) ∧ Below wc.heap.size wc w') (first | exact ⟨⟨e0, e1, e2⟩, ⟨s1 3, s1 4, s1 5⟩, (Below.refl _ _).drew⟩ | exact keep6' (b' := w.heap.size + 1) (by omega) (by omega) ‹_› hb1) (first | (go_at_call 50; refine (spec_LessVal z.hi y' _).mono ?_; rintro e w1 ⟨rfl, hb1⟩))
          have hb4 : Below w.heap.size w w1 := hb3.trans (Below.mono (Below.undrew hb1) hb3.size)
          have Hr1 := Lib.hid ((hb1.block w.heap.size (by show _ < wc.heap.size; omega)).trans Hr2.out)
          have Hz1 := Lib.hid ((hb1.block (w.heap.size + 1) hg).trans Hz2.out)
          have d0 := (hb1.cell (p := ⟨b, off + k * 3, none⟩) (show b < wc.heap.size by omega)).trans e0
          have d1 := (hb1.cell (p := ⟨b, off + k * 3 + 1, none⟩) (show b < wc.heap.size by omega)).trans e1
          have d2 := (hb1.cell (p := ⟨b, off + k * 3 + 2, none⟩) (show b < wc.heap.size by omega)).trans e2
          clear e0 e1 e2 s1
          have s1 := fun o => cell_of_row w1 (w.heap.size + 1) o _ _ _ Hz1.out
          have sf1 := fun o => frozen_of_row w1 (w.heap.size + 1) o _ _ Hz1.out
          have hez := Lib.hid (show Z.mk (zstep z y').lo (zstep z y').hi = zstep z y' from rfl)
          cases hlt : less z.hi y'
          · rw [hlt] at hhi2
            go_wp2_with fail
            go_roundw
            case rel =>
              refine ⟨k + 1, zstep z y', by go_num, by omega, by rw [hy.out, Hz.out], Hr1.out, ?_, hb4⟩
              rw [show (zstep z y').hi = z.hi from hhi2.out]
              exact Hz1.out
            case measure => simp [intOf]; omega
          · rw [hlt] at hhi2
            go_wp2_with fail
            go_roundw
            case rel =>
              refine ⟨k + 1, zstep z y', by go_num, by omega, by rw [hy.out, Hz.out], ?_, ?_, ?_⟩
              · iterate 3 refine (heap_setCell_other _ ⟨w.heap.size + 1, _, none⟩ _ _ (by simp)).trans ?_
                exact Hr1.out
              · rw [show (zstep z y').hi = y' from hhi2.out]
                exact heap_setCell_same _ _ _ _ _ _ (heap_setCell_same _ _ _ _ _ _ (heap_setCell_same _ _ _ _ _ _ Hz1.out))
              · iterate 3 refine Below.setCell (p := ⟨w.heap.size + 1, _, none⟩) ?_ (Nat.le_add_right _ _) _
                exact hb4
            case measure => simp [intOf]; omega
    · go_wp2_with fail
      refine bodyPost_ret (v := .agg #[.int .i64 z.lo.ty, .int .i64 z.lo.n, .string z.lo.s, .int .i64 z.hi.ty, .int .i64 z.hi.n, .string z.hi.s]) (by simp [results, Tryz.results28, go_sem, r0]) rfl ⟨by rw [Hz.out, List.take_of_length_le (by omega)], ?_⟩
      iterate 6 refine Below.setCell (B := w.heap.size) (p := ⟨w.heap.size, _, none⟩) ?_ (show w.heap.size ≤ w.heap.size from Nat.le_refl _) _
      exact hb
end Go.Proofs.YtidmlfjolhnnfaaGreatDoor
