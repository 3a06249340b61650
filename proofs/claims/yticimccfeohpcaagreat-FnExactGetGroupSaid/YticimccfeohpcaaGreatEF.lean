/- The dictionary of some values: the program's contract. -/
import Derived.Test.YticimccfeohpcaaGreatEE
import Derived.Test.YticimccfeohpcaaGreatXL
import Derived.Test.YticimccfeohpcaaGreatSh2
namespace Go.Lb
open Go.Shelf Go.Proofs Go.Sort
def cmpV (a b : V) : Int := if less a b then -1 else if less b a then 1 else 0
theorem cmp_lt (a b : V) : ltOf cmpV a b = less a b := by
  unfold ltOf cmpV
  cases h1 : less a b
  · cases h2 : less b a <;> simp
  · simp
theorem cmp_swo : SWO (ltOf cmpV) where
  irrefl x := by rw [cmp_lt]; exact less_irrefl x
  trans x y z h1 h2 := by rw [cmp_lt] at *; exact less_trans h1 h2
  ntrans x y z h1 h2 := by
    rw [cmp_lt] at *
    cases h3 : less x z
    · rfl
    · cases h4 : less y z
      · rw [less_of_less_of_le h3 h4] at h1; cases h1
      · rw [h4] at h2; cases h2
end Go.Lb
namespace Go.Proofs.YticimccfeohpcaaGreat
open Go.Sort Go.ChangeShapes Go.WideShapes Go.ChangeAt Go.RowKit Go.Shelf Go.Lb
theorem impl_LessVal_x (x y : V) (w : World) :
    Calls Tryz.prog 185 #[.agg #[.int .i64 x.ty, .int .i64 x.n, .string x.s], .agg #[.int .i64 y.ty, .int .i64 y.n, .string y.s]] w fun e w' => e = .returned (.bool (less x y)) ∧ w' = (w.alloc (.cells #[.int .i64 x.ty, .int .i64 x.n, .string x.s] 83)).alloc (.cells #[.int .i64 y.ty, .int .i64 y.n, .string y.s] 83) := by
  go_enter Tryz.func185, Tryz.ntmps185
  go_wp2
  all_goals
    go_ret
    exact ⟨ret_bool (by simp_all [less, bne]), rfl⟩
set_option maxHeartbeats 1000000 in
theorem impl_compareVals (x y : V) (w : World) :
    Calls Tryz.prog 174 #[.agg #[.int .i64 x.ty, .int .i64 x.n, .string x.s], .agg #[.int .i64 y.ty, .int .i64 y.n, .string y.s]] w fun e w' => e = .returned (.int .i64 (cmpV x y)) ∧ ∃ q os', w' = grow (w.drewN q) os' := by
  obtain ⟨W1, hW1⟩ : ∃ W1, (w.alloc (.cells #[.int .i64 x.ty, .int .i64 x.n, .string x.s] 83)).alloc (.cells #[.int .i64 y.ty, .int .i64 y.n, .string y.s] 83) = W1 := ⟨_, rfl⟩
  have g1 := heap_alloc_new (w.alloc (.cells #[.int .i64 x.ty, .int .i64 x.n, .string x.s] 83)) (.cells #[.int .i64 y.ty, .int .i64 y.n, .string y.s] 83)
  have g0 := ((up_a1 (w.alloc (.cells #[.int .i64 x.ty, .int .i64 x.n, .string x.s] 83)) (.cells #[.int .i64 y.ty, .int .i64 y.n, .string y.s] 83)).block w.heap.size (by simp)).trans (heap_alloc_new w (.cells #[.int .i64 x.ty, .int .i64 x.n, .string x.s] 83))
  simp only [World.size_alloc] at g1
  rw [hW1] at g0 g1
  have HG1 : ∃ os, W1 = grow w os := ⟨_, by rw [← hW1, alloc_eq_grow, alloc_eq_grow, grow_grow]⟩
  have x0 := cell_of_row W1 _ 0 _ _ _ g0
  have x1 := cell_of_row W1 _ 1 _ _ _ g0
  have x2 := cell_of_row W1 _ 2 _ _ _ g0
  have y0 := cell_of_row W1 _ 0 _ _ _ g1
  have y1 := cell_of_row W1 _ 1 _ _ _ g1
  have y2 := cell_of_row W1 _ 2 _ _ _ g1
  simp only [List.getElem?_toArray, List.getElem?_cons_zero, List.getElem?_cons_succ] at x0 x1 x2 y0 y1 y2
  have HL := impl_LessVal_x x y W1
  have hb2 : Below W1.heap.size W1 ((W1.alloc (.cells #[.int .i64 x.ty, .int .i64 x.n, .string x.s] 83)).alloc (.cells #[.int .i64 y.ty, .int .i64 y.n, .string y.s] 83)) := up_a2 W1 _ _
  have HG2 : ∃ os, (W1.alloc (.cells #[.int .i64 x.ty, .int .i64 x.n, .string x.s] 83)).alloc (.cells #[.int .i64 y.ty, .int .i64 y.n, .string y.s] 83) = grow W1 os := ⟨_, by rw [alloc_eq_grow, alloc_eq_grow, grow_grow]⟩
  obtain ⟨W2, hW2⟩ : ∃ W2, (W1.alloc (.cells #[.int .i64 x.ty, .int .i64 x.n, .string x.s] 83)).alloc (.cells #[.int .i64 y.ty, .int .i64 y.n, .string y.s] 83) = W2 := ⟨_, rfl⟩
  rw [hW2] at HL hb2 HG2
  have HW1 := Lib.hid hW1
  have HH1 := Lib.hid HG1
  have HH2 := Lib.hid HG2
  clear g0 g1 hW1 hW2 HG1 HG2
  cases h1 : less x y
  · rw [h1] at HL
    have z0 := cell_keep x0 hb2
    have z1 := cell_keep x1 hb2
    have z2 := cell_keep x2 hb2
    have v0 := cell_keep y0 hb2
    have v1 := cell_keep y1 hb2
    have v2 := cell_keep y2 hb2
    have HL2 := impl_LessVal_x y x W2
    have HG3 : ∃ os, (W2.alloc (.cells #[.int .i64 y.ty, .int .i64 y.n, .string y.s] 83)).alloc (.cells #[.int .i64 x.ty, .int .i64 x.n, .string x.s] 83) = grow W2 os := ⟨_, by rw [alloc_eq_grow, alloc_eq_grow, grow_grow]⟩
    obtain ⟨W3, hW3⟩ : ∃ W3, (W2.alloc (.cells #[.int .i64 y.ty, .int .i64 y.n, .string y.s] 83)).alloc (.cells #[.int .i64 x.ty, .int .i64 x.n, .string x.s] 83) = W3 := ⟨_, rfl⟩
    rw [hW3] at HL2 HG3
    have HH3 := Lib.hid HG3
    have HLx := Lib.hid HL
    clear hW3 HG3 HL hb2
    have hC : cmpV x y = if less y x = true then 1 else 0 := by unfold cmpV; rw [h1]; rfl
    cases h2 : less y x
    all_goals
      rw [h2] at HL2 hC
      simp at hC
      have HC := Lib.hid hC
      have HLy := Lib.hid HL2
      clear h1 h2 HL2 hC
      go_enter Tryz.func174, Tryz.ntmps174
      go_wp2_with fail
      rw [HW1.out]
      refine HLx.out.mono ?_
      rintro e w2 ⟨rfl, rfl⟩
      go_wp2_with fail
      refine HLy.out.mono ?_
      rintro e w3 ⟨rfl, rfl⟩
      go_wp2_with fail
      go_ret
      refine ⟨ret_int HC.out.symm, 0, ?_⟩
      obtain ⟨o1, h1⟩ := HH1.out
      obtain ⟨o2, h2⟩ := HH2.out
      obtain ⟨o3, h3⟩ := HH3.out
      exact ⟨_, by rw [h3, h2, h1, grow_grow, grow_grow]; rfl⟩
  · rw [h1] at HL
    have HC := Lib.hid (show cmpV x y = -1 by unfold cmpV; rw [h1]; rfl)
    have HLx := Lib.hid HL
    clear h1 HL hb2
    go_enter Tryz.func174, Tryz.ntmps174
    go_wp2_with fail
    rw [HW1.out]
    refine HLx.out.mono ?_
    rintro e w2 ⟨rfl, rfl⟩
    go_wp2_with fail
    go_ret
    refine ⟨ret_int HC.out.symm, 0, ?_⟩
    obtain ⟨o1, h1⟩ := HH1.out
    obtain ⟨o2, h2⟩ := HH2.out
    exact ⟨_, by rw [h2, h1, grow_grow]; rfl⟩
theorem slices_Compact_nil (w : World) :
    Calls Tryz.prog 175 #[.slice none 0 0] w fun e w' => e = .returned (.slice none 0 0) ∧ w = w' := by
  go_enter Tryz.func175, Tryz.ntmps175
  go_wp2_with fail
  go_ret
  exact ⟨rfl, rfl⟩
set_option maxHeartbeats 1000000 in
set_option maxRecDepth 20000 in
theorem impl_Dict (l : List V) (x : Value) (w : World) {lo hi : Nat} (hx : RdV w lo hi x l) (hhi : hi ≤ w.heap.size) (hn : l.length ≤ 1000000000) :
    Calls Tryz.prog 139 #[x] w fun e w' => ∃ r, e = .returned r ∧ Own 83 3 w' w.heap.size w'.heap.size r (dictOf l).length ((dictOf l).flatMap V.cells) ∧ Below w.heap.size w w' := by
  obtain ⟨A, c, rfl, hl, hl2⟩ := hx.form
  have HC := Lib.hid (impl_cloneVals l _ w hx hhi (by omega))
  have HE := Lib.hid (comp_sortV l)
  have hsl : (sortV l).length = l.length := (sortV_perm l).length_eq
  go_enter Tryz.func139, Tryz.ntmps139
  go_wp2_with fail
  refine HC.out.mono ?_
  rintro e w1 ⟨v, rfl, ho, hb1⟩
  have hs1 := hb1.size
  rcases ho.1.2 with ⟨rfl, h0⟩ | ⟨g, cap, cur, rfl, hbg, hg, -⟩
  · have h1 := ho.1.1
    have hl0 : l = [] := by
      have := flat_len V.cells 3 V.cells_len l
      exact List.eq_nil_of_length_eq_zero (by rw [h0] at this; simp at this; omega)
    subst hl0
    have hcon := AnyF.slices_SortFunc_none Tryz.sortV none 0 (.func (.func 174) #[] #[]) w1
    change Calls Tryz.prog 173 _ _ _ at hcon
    have HCon := Lib.hid hcon
    have HN := Lib.hid (slices_Compact_nil w1)
    have Ho := Lib.hid ho
    clear hcon ho
    go_wp2_with fail
    refine HCon.out.mono ?_
    rintro e w2 ⟨rfl, rfl⟩
    go_wp2_with fail
    refine HN.out.mono ?_
    rintro e w3 ⟨rfl, rfl⟩
    go_wp2_with fail
    go_ret
    exact ⟨_, rfl, Ho.out, hb1⟩
  · have eg : ∀ args w, (callFunc 174 args).run Tryz.prog w = .ok (.enter 174 args) w := enters_of Tryz.func174 (by kernel_rfl) rfl
    have hgl := (Array.getElem?_eq_some_iff.1 hg).1
    have hcon := AnyQ.slices_SortFunc_total Tryz.sortV 3 Tryz.isAgg83 Tryz.sizeOf83 V.cells V.cells_len (fun x v hv => by simp [V.cells] at hv; rcases hv with rfl | rfl | rfl <;> rfl) cmpV cmp_swo 174 #[] g 0 cap l.toArray w1 eg (fun _ _ _ _ x y => impl_compareVals x y _) (holdsK_own ho.1) hgl (by simp; omega) (fun a b h1 h2 => by rw [cmp_lt] at h1 h2; exact less_tri h1 h2)
    simp only [List.size_toArray] at hcon
    change Calls Tryz.prog 173 _ _ _ at hcon
    have HCon := Lib.hid hcon
    have Ho := Lib.hid ho.1
    clear hcon ho
    go_wp2_with fail
    refine HCon.out.mono ?_
    rintro e w2 ⟨rfl, n, os, hw2⟩
    have hst : (l.toArray.toList.mergeSort fun x y => !ltOf cmpV y x) = sortV l := by
      unfold sortV
      congr 1
      funext a b
      rw [cmp_lt]
    rw [hst] at hw2
    have HO2 : w2.ownsRow w.heap.size 83 3 (.slice (some ⟨g, 0, none⟩) l.length cap) l.length ((sortV l).flatMap V.cells) := hw2 ▸ owns_sorted Ho.out hsl n os
    have HB2 : Below w.heap.size w w2 := hw2 ▸ below_sorted hb1 hbg hs1 n os _
    have hs2 := HB2.size
    have hK := slices_CompactV (sortV l) g cap w.heap.size w2 (by rw [hsl]; exact HO2) hs2 (by omega)
    rw [HE.out, hsl] at hK
    have HK := Lib.hid hK
    clear hw2 hst HO2 hK Ho HCon hb1
    go_wp2_with fail
    refine HK.out.mono ?_
    rintro e w3 ⟨rfl, ho3, hb3⟩
    have HO3 := Lib.hid (Own.new ho3)
    have HB3 := Lib.hid (HB2.trans hb3)
    clear ho3 hb3 HB2
    go_wp2_with fail
    go_ret
    exact ⟨_, rfl, HO3.out, HB3.out⟩
end Go.Proofs.YticimccfeohpcaaGreat
