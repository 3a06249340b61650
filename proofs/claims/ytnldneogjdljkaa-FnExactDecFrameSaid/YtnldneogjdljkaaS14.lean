/- Offsets of the program: contract. -/
import Derived.Test.YtnldneogjdljkaaS13
namespace Go.Proofs.Ytnldneogjdljkaa
open Go.Sort Go.ChangeShapes Go.WideShapes Go.ChangeAt Go.RowKit Go.Lb

set_option maxHeartbeats 1000000 in
set_option maxRecDepth 20000 in
theorem impl_Offsets (l : List V) (x : Value) (w : World) {lo hi : Nat} (hx : RdV w lo hi x l) (hhi : hi ≤ w.heap.size) (hs : ∀ v ∈ l, v.s.size ≤ maxLen) :
    Calls Try.prog 50 #[x] w fun e w' => ∃ v, e = .returned v ∧ Own 3 1 w' w.heap.size w'.heap.size v (offsets l).length ((offsets l).map (.int .i64)) ∧ Below w.heap.size w w' := by
  obtain ⟨A, c, rfl, hl, hl2⟩ := hx.form
  obtain ⟨i0, hif, hz0, hz1, hz2⟩ := info_parts info_int
  have hif := Lib.hid hif
  have hz0 := Lib.hid hz0
  have hz1 := Lib.hid hz1
  have hz2 := Lib.hid hz2
  have up := up_a1 w (.cells #[] 3)
  have hx1 := hx.below up hhi
  have hT := impl_TypeOf l _ _ hx1 (by simp; omega) hs
  go_enter Try.func50, Try.ntmps50
  go_wp2_with fail
  refine hT.mono ?_
  rintro e w1 ⟨rfl, hb1⟩
  have hb1' := below_a1 hb1
  have own0 := owns_below (World.ownsRow_made w (base := w.heap.size) (e := 3) (size := 1) #[] 0 (Nat.le_refl _) (by decide) rfl) hb1
  by_cases h1 : typeOf l = 1
  · have Hin := Lib.hid (ints_in h1)
    have hbi := base_in h1
    have h64 := typeOf_len64 h1 (by omega)
    have HO := Lib.hid (offsets_yes h1)
    have HB := Lib.hid (fun W (h : Below w.heap.size w W) => impl_Base l _ W (hx.below h hhi) (Nat.le_trans hhi h.size))
    rw [h1]
    clear h1 up hx1 hT hb1
    generalize baseOf l = B at HO hbi HB
    go_wp2_with fail
    go_loopw [3, 13] (fun o i wr => ∃ k : Nat, i = .int .i64 k ∧ k ≤ l.length ∧ wr.ownsRow w.heap.size 3 1 o k (offCells B (l.take k)) ∧ Below w.heap.size w wr) (fun _ i _ => l.length - (intOf i).toNat)
    case atStart => exact ⟨0, rfl, by omega, own0, hb1'⟩
    case round =>
      obtain ⟨k, rfl, hk, hown, hb⟩ := hrel
      by_cases hkl : k < l.length
      · obtain ⟨b, off, y, rfl, -, -, hyk, e0, e1, e2⟩ := (hx.below hb hhi).at hkl
        have Hy := Lib.hid (take_of_get hyk)
        have hyb := Hin.out y (mem_of_get hyk)
        clear hyk
        have n1 := box_new wr #[.int .i64 y.ty, .int .i64 y.n, .string y.s] 87 1
        simp only [List.getElem?_toArray, List.getElem?_cons_zero, List.getElem?_cons_succ] at n1
        have hown1 := hown.alloc (.cells #[.int .i64 y.ty, .int .i64 y.n, .string y.s] 87)
        have hb0 := hb.alloc hb.size (.cells #[.int .i64 y.ty, .int .i64 y.n, .string y.s] 87)
        go_wp2_with fail
        have hne : ∀ g, u3.ownBlock = some g → g ≠ wr.heap.size := fun g h => Nat.ne_of_lt (hown.lt g h).2
        go_region_held3 (fun w' => w'.cell? ⟨wr.heap.size, 1, none⟩ = some (.int .i64 y.n)) (first | exact n1 | exact cell_keep ‹_› hb1 | exact cell_keep ‹_› (up_a1 _ _) | exact cell_app ‹_› hgrow hne) (first | (go_at_call 52; ((with_reducible refine (HB.out _ hb0.drew).mono ?_); rintro e w1 ⟨rfl, hb1⟩)) | (refine step_app rfl _ _ 24 rfl w.heap.size 3 i0 (.int .i64 0) 1 8 Try.underlying24 hif.out hz0.out hz1.out hz2.out rfl (by decide) (by decide) ((owns_below (owns_drew hown1) hb1).alloc _) rfl (heap_alloc_new _ _) rfl rfl (by simp [Value.oneCell']) (by omega) (by have := hb0.size; have := hb1.size; simp at *; omega) ?_; intro v' w3 hown' hgrow _))
        have hb3 := below_app (((hb0.drew.trans (hb1.mono hb0.size)).alloc (Nat.le_trans hb0.size hb1.size) _)) ((owns_below (owns_drew hown1) hb1).alloc _) hgrow (Nat.le_refl _)
        have hown' := hown'
        rw [IntWalk.i64_in _ (show -9223372036854775808 ≤ y.n - B ∧ y.n - B ≤ 9223372036854775807 by omega), ← offCells_snoc Hy.out] at hown'
        rw [IntWalk.i64_in _ (show -9223372036854775808 ≤ y.n - B ∧ y.n - B ≤ 9223372036854775807 by omega)] at hgrow
        clear hgrow hown hown1
        go_wp2_with fail
        go_roundw
        case rel => exact ⟨k + 1, by go_num, by omega, hown', hb3⟩
        case measure => simp [intOf]; omega
      · go_wp2_with fail
        go_ret
        obtain rfl : k = l.length := by omega
        rw [List.take_length] at hown
        refine ⟨_, rfl, ?_, hb⟩
        have := offsets_cells HO.out
        rw [this.1, this.2]
        exact .new hown
  · have HO := Lib.hid (offsets_no h1)
    have hd : (typeOf l != 1) = true := by simp [h1]
    generalize typeOf l = T at hd
    clear h1
    go_wp2_with fail
    go_ret
    refine ⟨_, rfl, ?_, hb1'⟩
    rw [HO.out]
    exact .new own0
end Go.Proofs.Ytnldneogjdljkaa
