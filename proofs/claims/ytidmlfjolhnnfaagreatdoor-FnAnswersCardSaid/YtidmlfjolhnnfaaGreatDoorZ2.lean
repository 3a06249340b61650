/- The program's ZoneOf: its contract. -/
import Derived.Test.YtidmlfjolhnnfaaGreatDoorS1
import Derived.Deep.DeepCutAuto
import Derived.RegionTactic
namespace Go.Proofs.YtidmlfjolhnnfaaGreatDoor
open Go.ChangeShapes Go.WideShapes Go.ChangeAt Go.RowKit Go.Lb

theorem zstep_self (x : V) : zstep ⟨x, x⟩ x = ⟨x, x⟩ := by simp [zstep]
theorem zone_eq (l : List V) (x : V) (h : l[0]? = some x) : l.foldl zstep ⟨x, x⟩ = zoneOf l := by
  cases l with
  | nil => simp at h
  | cons a r =>
    simp at h
    subst h
    simp [zoneOf, zstep_self]

set_option maxHeartbeats 2000000 in
theorem impl_ZoneOf (l : List V) (x : Value) (w : World) {lo hi : Nat} (hx : RdV w lo hi x l) (hhi : hi ≤ w.heap.size) :
    Calls Tryz.prog 20 #[x] w fun e w' => e = .returned (.agg #[.int .i64 (zoneOf l).lo.ty, .int .i64 (zoneOf l).lo.n, .string (zoneOf l).lo.s, .int .i64 (zoneOf l).hi.ty, .int .i64 (zoneOf l).hi.n, .string (zoneOf l).hi.s]) ∧ Below w.heap.size w w' := by
  obtain ⟨A, c, rfl, hl, hl2⟩ := hx.form
  by_cases h0 : l.length = 0
  · obtain rfl : l = [] := List.eq_nil_of_length_eq_zero h0
    go_enter Tryz.func20, Tryz.ntmps20
    go_wp2_with fail
    refine bodyPost_ret (v := .agg #[.int .i64 0, .int .i64 0, .string ⟨#[]⟩, .int .i64 0, .int .i64 0, .string ⟨#[]⟩]) (by simp [results, Tryz.results20, go_sem]) rfl ⟨rfl, ?_⟩
    exact (Below.refl _ _).alloc (Nat.le_refl _) _
  · have hb0 : ((l.length : Int) == 0) = false := by simp; intro h; exact h0 (by simp [h])
    have hpos : 0 < l.length := by omega
    clear h0
    obtain ⟨b, off, u, rfl, -, hbl, huk, e0, e1, e2⟩ := hx.at hpos
    simp only [Nat.zero_mul, Nat.add_zero] at e0 e1 e2
    have Huk := Lib.hid huk
    clear huk
    have hbw : b < w.heap.size := by omega
    have hne : b ≠ w.heap.size := by omega
    go_enter Tryz.func20, Tryz.ntmps20
    go_wp2_with fail
    go_region
    go_wp2_with fail
    go_loopw [19] (fun i wr => ∃ (k : Nat) (z : Z), i = .int .i64 k ∧ k ≤ l.length ∧ z = (l.take k).foldl zstep ⟨u, u⟩ ∧ wr.heap[w.heap.size]? = some (.cells #[.int .i64 0, .int .i64 0, .string ⟨#[]⟩, .int .i64 0, .int .i64 0, .string ⟨#[]⟩] 53 (0, 0)) ∧ wr.heap[w.heap.size + 1]? = some (.cells #[.int .i64 z.lo.ty, .int .i64 z.lo.n, .string z.lo.s, .int .i64 z.hi.ty, .int .i64 z.hi.n, .string z.hi.s] 53 (0, 0)) ∧ Below w.heap.size w wr) (fun i _ => l.length - (intOf i).toNat)
    case atStart =>
      refine ⟨0, ⟨u, u⟩, rfl, by omega, by simp, ?_, ?_, ?_⟩
      · exact (Below.heap_alloc _ _ _ (by simp)).trans (heap_alloc_new w _)
      · have h := heap_alloc_new (w.alloc (.cells #[.int .i64 0, .int .i64 0, .string ⟨#[]⟩, .int .i64 0, .int .i64 0, .string ⟨#[]⟩] 53)) (.cells #[.int .i64 u.ty, .int .i64 u.n, .string u.s, .int .i64 u.ty, .int .i64 u.n, .string u.s] 53)
        rw [World.size_alloc] at h
        exact h
      · exact (((Below.refl _ _).alloc (Nat.le_refl _) _).alloc (by simp) _).drew
    case round =>
      clear e0 e1 e2
      obtain ⟨k, z, rfl, hk, hz, hr, hzb, hb⟩ := hrel
      have Hz := Lib.hid hz
      have Hr := Lib.hid hr
      have Hzb := Lib.hid hzb
      clear hz hr hzb
      have hg : w.heap.size + 1 < wr.heap.size := (Array.getElem?_eq_some_iff.1 Hzb.out).1
      by_cases hkl : k < l.length
      · obtain ⟨b', off', y, hA, -, hbl', hyk, e0, e1, e2⟩ := (hx.below hb hhi).at hkl
        injection hA with hA
        injection hA with hA1 hA2
        subst hA1 hA2
        have hfold := Lib.hid (show (l.take (k + 1)).foldl zstep ⟨u, u⟩ = zstep ((l.take k).foldl zstep ⟨u, u⟩) y by rw [take_of_get hyk, List.foldl_append]; rfl)
        clear hyk
        have hlo := Lib.hid (show (zstep z y).lo = if less y z.lo then y else z.lo from rfl)
        have hhi2 := Lib.hid (show (zstep z y).hi = if less z.hi y then y else z.hi from rfl)
        have s0 := fun o => cell_of_row wr (w.heap.size + 1) o _ _ _ Hzb.out
        have sf := fun o => frozen_of_row wr (w.heap.size + 1) o _ _ Hzb.out
        have hnz : w.heap.size + 1 ≠ wr.heap.size := by omega
        have hnb : b ≠ wr.heap.size := by omega
        have hbr : b < wr.heap.size := by omega
        go_wp2_with fail
        refine (impl_LessVal y z.lo _).mono ?_
        rintro e w1 ⟨rfl, hb1⟩
        have z1 : wr.heap.size < w1.heap.size := by have h := hb1.size; simp only [World.size_alloc] at h; omega
        have Hr1 := Lib.hid ((hb1.block w.heap.size (by simp only [World.size_alloc]; omega)).trans ((Below.heap_alloc _ _ _ (by omega)).trans Hr.out))
        have Hz1 := Lib.hid ((hb1.block (w.heap.size + 1) (by simp only [World.size_alloc]; omega)).trans ((Below.heap_alloc _ _ _ (by omega)).trans Hzb.out))
        have Hv1 := Lib.hid ((hb1.block wr.heap.size (by simp)).trans (heap_alloc_new wr _))
        have hb2 : Below w.heap.size w w1 := hb.trans (Below.mono (below_a1 hb1) hb.size)
        clear e0 e1 e2 s0 sf hb1
        go_upto_if 26 with (fail)
        go_cut [] (fun wx => wx.heap[w.heap.size]? = some (.cells #[.int .i64 0, .int .i64 0, .string ⟨#[]⟩, .int .i64 0, .int .i64 0, .string ⟨#[]⟩] 53 (0, 0)) ∧ wx.heap[w.heap.size + 1]? = some (.cells #[.int .i64 (zstep z y).lo.ty, .int .i64 (zstep z y).lo.n, .string (zstep z y).lo.s, .int .i64 z.hi.ty, .int .i64 z.hi.n, .string z.hi.s] 53 (0, 0)) ∧ wx.heap[wr.heap.size]? = some (.cells #[.int .i64 y.ty, .int .i64 y.n, .string y.s] 25 (0, 0)) ∧ Below w.heap.size w wx)
        case first =>
          have s1 := fun o => cell_of_row w1 (w.heap.size + 1) o _ _ _ Hz1.out
          have sf1 := fun o => frozen_of_row w1 (w.heap.size + 1) o _ _ Hz1.out
          have v1 := fun o => cell_of_row w1 wr.heap.size o _ _ _ Hv1.out
          cases hlt : less y z.lo
          · rw [hlt] at hlo
            go_wp2_with fail
            go_meet
            case rel =>
              rw [show (zstep z y).lo = z.lo from hlo.out]
              exact ⟨Hr1.out, Hz1.out, Hv1.out, hb2⟩
          · rw [hlt] at hlo
            go_wp2_with fail
            go_meet
            case rel =>
              rw [show (zstep z y).lo = y from hlo.out]
              refine ⟨?_, heap_setCell_same _ _ _ _ _ _ (heap_setCell_same _ _ _ _ _ _ (heap_setCell_same _ _ _ _ _ _ Hz1.out)), ?_, ?_⟩
              · iterate 3 refine (heap_setCell_other _ ⟨w.heap.size + 1, _, none⟩ _ _ (by simp)).trans ?_
                exact Hr1.out
              · iterate 3 refine (heap_setCell_other _ ⟨w.heap.size + 1, _, none⟩ _ _ (by simp; omega)).trans ?_
                exact Hv1.out
              · iterate 3 refine Below.setCell (p := ⟨w.heap.size + 1, _, none⟩) ?_ (Nat.le_add_right _ _) _
                exact hb2
        case rest =>
          obtain ⟨hr2, hz2, hv2, hb3⟩ := hcut
          have Hr2 := Lib.hid hr2
          have Hz2 := Lib.hid hz2
          have Hv2 := Lib.hid hv2
          clear hr2 hz2 hv2 Hr1 Hz1 Hv1 hb2 Hr Hzb
          have z2 : wr.heap.size < wc.heap.size := (Array.getElem?_eq_some_iff.1 Hv2.out).1
          have s1 := fun o => cell_of_row wc (w.heap.size + 1) o _ _ _ Hz2.out
          have v1 := fun o => cell_of_row wc wr.heap.size o _ _ _ Hv2.out
          go_wp2_with fail
          refine (impl_LessVal z.hi y _).mono ?_
          rintro e w3 ⟨rfl, hb4⟩
          have Hr3 := Lib.hid ((hb4.block w.heap.size (by omega)).trans Hr2.out)
          have Hz3 := Lib.hid ((hb4.block (w.heap.size + 1) (by omega)).trans Hz2.out)
          have Hv3 := Lib.hid ((hb4.block wr.heap.size (by omega)).trans Hv2.out)
          have hb5 : Below w.heap.size w w3 := hb3.trans (hb4.mono hb3.size)
          clear s1 v1
          have s3 := fun o => cell_of_row w3 (w.heap.size + 1) o _ _ _ Hz3.out
          have sf3 := fun o => frozen_of_row w3 (w.heap.size + 1) o _ _ Hz3.out
          have v3 := fun o => cell_of_row w3 wr.heap.size o _ _ _ Hv3.out
          have hez := Lib.hid (show Z.mk (zstep z y).lo (zstep z y).hi = zstep z y from rfl)
          cases hlt : less z.hi y
          · rw [hlt] at hhi2
            go_wp2_with fail
            go_roundw
            case rel =>
              refine ⟨k + 1, zstep z y, by go_num, by omega, by rw [hfold.out, Hz.out], Hr3.out, ?_, hb5⟩
              rw [show (zstep z y).hi = z.hi from hhi2.out]
              exact Hz3.out
            case measure => simp [intOf]; omega
          · rw [hlt] at hhi2
            go_wp2_with fail
            go_roundw
            case rel =>
              refine ⟨k + 1, zstep z y, by go_num, by omega, by rw [hfold.out, Hz.out], ?_, ?_, ?_⟩
              · iterate 3 refine (heap_setCell_other _ ⟨w.heap.size + 1, _, none⟩ _ _ (by simp)).trans ?_
                exact Hr3.out
              · rw [show (zstep z y).hi = y from hhi2.out]
                exact heap_setCell_same _ _ _ _ _ _ (heap_setCell_same _ _ _ _ _ _ (heap_setCell_same _ _ _ _ _ _ Hz3.out))
              · iterate 3 refine Below.setCell (p := ⟨w.heap.size + 1, _, none⟩) ?_ (Nat.le_add_right _ _) _
                exact hb5
            case measure => simp [intOf]; omega
      · have r0 := fun o => cell_of_row wr w.heap.size o _ _ _ Hr.out
        have rf := fun o => frozen_of_row wr w.heap.size o _ _ Hr.out
        have s0 := fun o => cell_of_row wr (w.heap.size + 1) o _ _ _ Hzb.out
        have hzz := Lib.hid (show z = zoneOf l by rw [Hz.out, List.take_of_length_le (by omega)]; exact zone_eq l u Huk.out)
        go_wp2_with fail
        refine bodyPost_ret (v := .agg #[.int .i64 z.lo.ty, .int .i64 z.lo.n, .string z.lo.s, .int .i64 z.hi.ty, .int .i64 z.hi.n, .string z.hi.s]) (by simp [results, Tryz.results20, go_sem, r0]) rfl ⟨by rw [hzz.out], ?_⟩
        iterate 6 refine Below.setCell (B := w.heap.size) (p := ⟨w.heap.size, _, none⟩) ?_ (show w.heap.size ≤ w.heap.size from Nat.le_refl _) _
        exact hb
end Go.Proofs.YtidmlfjolhnnfaaGreatDoor
