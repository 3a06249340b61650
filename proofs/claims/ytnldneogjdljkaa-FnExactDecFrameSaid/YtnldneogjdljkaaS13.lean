/- Offsets: contracts. -/
import Derived.Test.YtnldneogjdljkaaS12
namespace Go.Proofs.Ytnldneogjdljkaa
open Go.Sort Go.ChangeShapes Go.WideShapes Go.ChangeAt Go.RowKit Go.Lb

theorem info_int : (Try.prog.info? 3).map (fun i => (i.zero, i.size, i.bytes)) = some (some (.int .i64 0), 1, 8) := by kernel_rfl

theorem offsets_no {l : List V} (h : typeOf l ≠ 1) : offsets l = [] := by simp [offsets, h]
theorem offsets_yes {l : List V} (h : typeOf l = 1) : offsets l = l.map (fun v => v.n - baseOf l) := by simp [offsets, h]

set_option maxHeartbeats 1000000 in
theorem spec_Offsets (l : List V) (x : Value) (w : World) {lo hi : Nat} (hx : RdV w lo hi x l) (hhi : hi ≤ w.heap.size) (hs : ∀ v ∈ l, v.s.size ≤ maxLen) :
    Calls Try.prog 51 #[x] w fun e w' => ∃ v, e = .returned v ∧ Own 3 1 w' w.heap.size w'.heap.size v (offsets l).length ((offsets l).map (.int .i64)) ∧ Below w.heap.size w w' := by
  obtain ⟨A, c, rfl, hl, hl2⟩ := hx.form
  obtain ⟨i0, hi, hz0, hz1, hz2⟩ := info_parts info_int
  have hi := Lib.hid hi
  have hz0 := Lib.hid hz0
  have hz1 := Lib.hid hz1
  have hz2 := Lib.hid hz2
  have up := up_a1 w (.cells #[] 3)
  have hx1 := hx.below up hhi
  have hT := spec_TypeOf l _ _ hx1 (by simp; omega) hs
  go_enter Try.func51, Try.ntmps51
  go_wp2_with fail
  refine hT.mono ?_
  rintro e w1 ⟨rfl, hb1⟩
  have hb1' := below_a1 hb1
  have own0 := owns_below (World.ownsRow_made w (base := w.heap.size) (e := 3) (size := 1) #[] 0 (Nat.le_refl _) (by decide) rfl) hb1
  by_cases h1 : typeOf l = 1
  · have Hin := Lib.hid (ints_in h1)
    have hbi := base_in h1
    have h64 := typeOf_len64 h1 (by omega)
    have HO := Lib.hid (offsets_yes h1)
    rw [h1]
    clear h1
    go_wp2_with fail
    refine (spec_Base l _ w1 (hx.below hb1' hhi) (Nat.le_trans hhi hb1'.size)).mono ?_
    rintro e w2 ⟨rfl, hb2⟩
    have own1 := owns_below own0 hb2
    have hb2' := hb1'.trans (hb2.mono hb1'.size)
    clear own0 hb1 hb2 hb1' up hx1 hT
    generalize baseOf l = B at HO hbi
    go_wp2_with fail
    go_loopw [3, 5] (fun o i wr => ∃ k : Nat, i = .int .i64 k ∧ k ≤ l.length ∧ wr.ownsRow w.heap.size 3 1 o k (offCells B (l.take k)) ∧ Below w.heap.size w wr) (fun _ i _ => l.length - (intOf i).toNat)
    case atStart => exact ⟨0, rfl, by omega, own1, hb2'⟩
    case round =>
      obtain ⟨k, rfl, hk, hown, hb⟩ := hrel
      by_cases hkl : k < l.length
      · obtain ⟨b, off, y, rfl, -, -, hyk, e0, e1, e2⟩ := (hx.below hb hhi).at hkl
        have Hy := Lib.hid (take_of_get hyk)
        have hyb := Hin.out y (mem_of_get hyk)
        clear hyk e0 e2
        go_wp2_with (at_builtin; refine wpl_app rfl _ _ 24 rfl w.heap.size 3 i0 (.int .i64 0) 1 8 Try.underlying24 hi.out hz0.out hz1.out hz2.out rfl (by decide) (by decide) (hown.alloc _) rfl (heap_alloc_new _ _) rfl rfl (by simp [Value.oneCell']) (by omega) (by have := hb.size; simp; omega) ?_)
        intro v' w3 hown' hgrow _
        rw [← offCells_snoc Hy.out] at hown'
        have hb3 := below_app (hb.alloc hb.size _) (hown.alloc _) hgrow (Nat.le_refl _)
        clear hgrow hown
        go_wp2_with fail
        go_roundw
        case rel => exact ⟨k + 1, by go_num, by omega, hown', hb3⟩
        case measure => simp [intOf]; omega
      · go_wp2_with fail
        go_ret
        obtain rfl : k = l.length := by omega
        rw [List.take_length] at hown
        refine ⟨_, rfl, ?_, hb⟩
        have := offsets_cells HO.out
        rw [this.1, this.2]
        exact .new hown
  · have HO := Lib.hid (offsets_no h1)
    have hd : (typeOf l != 1) = true := by simp [h1]
    generalize typeOf l = T at hd
    clear h1
    go_wp2_with fail
    go_ret
    refine ⟨_, rfl, ?_, hb1'⟩
    rw [HO.out]
    exact .new own0
end Go.Proofs.Ytnldneogjdljkaa
