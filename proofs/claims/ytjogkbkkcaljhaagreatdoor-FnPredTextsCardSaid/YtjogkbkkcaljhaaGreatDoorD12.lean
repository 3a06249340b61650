/- Draws: columns, the values of a row. -/
import Derived.Test.YtjogkbkkcaljhaaGreatDoorXD
namespace Go.Proofs.YtjogkbkkcaljhaaGreatDoor
open Go.Sort Go.ChangeShapes Go.WideShapes Go.ChangeAt Go.RowKit Go.Lb

theorem alloc_old {w : World} {o x : Obj} {k : Nat} (h : w.heap[k]? = some x) : (w.alloc o).heap[k]? = some x := ((up_a1 w o).block k (Array.getElem?_eq_some_iff.1 h).1).trans h
theorem heap_new_at {w : World} {o : Obj} {n : Nat} (h : w.heap.size = n) : (w.alloc o).heap[n]? = some o := h ▸ heap_alloc_new w o
set_option maxRecDepth 20000 in
set_option maxHeartbeats 4000000 in
theorem spec_l4Vals (cols : List Int) (x : Value) (w : World) (g : Nat) (hd : Dr w g) {hi : Nat} (hx : RdI w (g + 1) hi x cols) (hhi : hi ≤ w.heap.size) (hm : cols.length ≤ 1000) :
    Calls Tryz.prog 61 #[.pointer (some ⟨g, 0, none⟩), x] w (DrP w g fun v w' => ∃ l : List V, GoodL w.heap.size w' v l ∧ l.length = cols.length) := by
  have hlt := hd.lt
  obtain ⟨A, c, rfl, hl, hl2⟩ := hx.form
  obtain ⟨i0, hif, hz0, hz1, hz2⟩ := info_parts info_V
  have hif := Lib.hid hif
  have hz0 := Lib.hid hz0
  have hz1 := Lib.hid hz1
  have hz2 := Lib.hid hz2
  have own0 := Lib.hid (World.ownsRow_made w (base := w.heap.size) (e := 24) (size := 3) #[] 0 (Nat.le_refl _) (by decide) rfl)
  go_enter Tryz.func61, Tryz.ntmps61
  go_wp2_with fail
  have hd1 := dr_new hd #[] 24
  go_loopw [5, 6] (fun o i wr => ∃ (q : Nat) (xs : List V), i = .int .i64 q ∧ q ≤ cols.length ∧ (xs.length ≤ q ∧ q ≤ xs.length) ∧ (∀ x ∈ xs, x.s.size ≤ 100) ∧ wr.ownsRow w.heap.size 24 3 o xs.length (xs.flatMap V.cells) ∧ Chg g (g + 1) w wr ∧ Dr wr g) (fun _ i _ => cols.length - (intOf i).toNat)
  case atStart => exact ⟨0, [], rfl, by omega, ⟨by simp, by simp⟩, by simp, own0.out, chg_new g w #[] 24, hd1⟩
  case round =>
    obtain ⟨q, xs, rfl, hq, hqx, hsm, hown, hch, hd⟩ := hrel
    clear own0
    have Hsm := Lib.hid hsm
    clear hsm
    have hcs := hch.size
    by_cases hql : q < cols.length
    · obtain ⟨b, off, y, rfl, -, hbl, hyk, e0⟩ := (hx.same (.of_chg hch (.inr (Nat.le_refl _)) hhi)).at hql
      clear hyk
      by_cases hty : y = 1
      · subst hty
        go_wp2_with fail
        refine (spec_l3Int _ g hd).mono ?_
        rintro e w2 ⟨_, rfl, ⟨x, rfl, hx⟩, hch2, hd2⟩
        have hown2 := owns_chg hown hch2 hlt
        have hch3 := hch.trans hch2
        have hcs3 := hch3.size
        clear hown hch hch2 hd e0
        go_wp2_with (at_builtin; refine wpl_app rfl _ _ 85 rfl w.heap.size 24 i0 _ 3 32 Tryz.underlying85 hif.out hz0.out hz1.out hz2.out rfl (by decide) (by decide) (hown2.alloc _) rfl (heap_alloc_new _ _) rfl rfl (by simp [Value.oneCell']) (by omega) (by simp; omega) ?_)
        intro v' w3 hown' hgrow hnb
        obtain ⟨h1, h2, h3⟩ := app_good hlt hown2 hch3 hd2 hown' hgrow
        have H1 := Lib.hid h1
        clear hown' hgrow hnb hown2 h1 hd2 hch3
        go_wp2_with fail
        go_roundw
        case rel => exact ⟨q + 1, xs ++ [x], by go_num, by omega, ⟨by simp; omega, by simp; omega⟩, small_snoc Hsm.out hx, H1.out, h2, h3⟩
        case measure => simp [intOf]; omega
      · have b0 : (y == 1) = false := by simp [hty]
        go_wp2_with fail
        refine (spec_l3Text _ g hd).mono ?_
        rintro e w2 ⟨_, rfl, ⟨x, rfl, hx⟩, hch2, hd2⟩
        have hown2 := owns_chg hown hch2 hlt
        have hch3 := hch.trans hch2
        have hcs3 := hch3.size
        clear hown hch hch2 hd e0
        go_wp2_with (at_builtin; refine wpl_app rfl _ _ 85 rfl w.heap.size 24 i0 _ 3 32 Tryz.underlying85 hif.out hz0.out hz1.out hz2.out rfl (by decide) (by decide) (hown2.alloc _) rfl (heap_alloc_new _ _) rfl rfl (by simp [Value.oneCell']) (by omega) (by simp; omega) ?_)
        intro v' w3 hown' hgrow hnb
        obtain ⟨h1, h2, h3⟩ := app_good hlt hown2 hch3 hd2 hown' hgrow
        have H1 := Lib.hid h1
        clear hown' hgrow hnb hown2 h1 hd2 hch3
        go_wp2_with fail
        go_roundw
        case rel => exact ⟨q + 1, xs ++ [x], by go_num, by omega, ⟨by simp; omega, by simp; omega⟩, small_snoc Hsm.out hx, H1.out, h2, h3⟩
        case measure => simp [intOf]; omega
    · go_wp2_with fail
      go_ret
      exact ⟨_, rfl, ⟨xs, ⟨.new hown, Hsm.out⟩, by omega⟩, hch, hd⟩
set_option maxRecDepth 20000 in
set_option maxHeartbeats 4000000 in
theorem spec_l4Cols (w : World) (g : Nat) (hd : Dr w g) :
    Calls Tryz.prog 29 #[.pointer (some ⟨g, 0, none⟩)] w (DrP w g fun v w' => ∃ cols : List Int, RdI w' w.heap.size w'.heap.size v cols ∧ cols.length ≤ 3) := by
  have hlt := hd.lt
  have hsz : (((((((w.alloc (.cells #[.int .i64 1] 3)).alloc (.cells #[.int .i64 2] 3)).alloc (.cells #[.int .i64 1, .int .i64 2] 3)).alloc (.cells #[.int .i64 1, .int .i64 1] 3)).alloc (.cells #[.int .i64 2, .int .i64 1] 3)).alloc (.cells #[.int .i64 1, .int .i64 2, .int .i64 1] 3)).alloc (.cells #[.slice (some ⟨w.heap.size, 0, none⟩) 1 1, .slice (some ⟨w.heap.size + 1, 0, none⟩) 1 1, .slice (some ⟨w.heap.size + 1 + 1, 0, none⟩) 2 2, .slice (some ⟨w.heap.size + 1 + 1 + 1, 0, none⟩) 2 2, .slice (some ⟨w.heap.size + 1 + 1 + 1 + 1, 0, none⟩) 2 2, .slice (some ⟨w.heap.size + 1 + 1 + 1 + 1 + 1, 0, none⟩) 3 3] 22)).heap.size = w.heap.size + 7 := by simp
  have G0 : (((((((w.alloc (.cells #[.int .i64 1] 3)).alloc (.cells #[.int .i64 2] 3)).alloc (.cells #[.int .i64 1, .int .i64 2] 3)).alloc (.cells #[.int .i64 1, .int .i64 1] 3)).alloc (.cells #[.int .i64 2, .int .i64 1] 3)).alloc (.cells #[.int .i64 1, .int .i64 2, .int .i64 1] 3)).alloc (.cells #[.slice (some ⟨w.heap.size, 0, none⟩) 1 1, .slice (some ⟨w.heap.size + 1, 0, none⟩) 1 1, .slice (some ⟨w.heap.size + 1 + 1, 0, none⟩) 2 2, .slice (some ⟨w.heap.size + 1 + 1 + 1, 0, none⟩) 2 2, .slice (some ⟨w.heap.size + 1 + 1 + 1 + 1, 0, none⟩) 2 2, .slice (some ⟨w.heap.size + 1 + 1 + 1 + 1 + 1, 0, none⟩) 3 3] 22)).heap[w.heap.size]? = some (.cells #[.int .i64 1] 3) := by
    iterate 6 refine alloc_old ?_
    exact heap_new_at (by simp)
  have G0 := Lib.hid G0
  have G1 : (((((((w.alloc (.cells #[.int .i64 1] 3)).alloc (.cells #[.int .i64 2] 3)).alloc (.cells #[.int .i64 1, .int .i64 2] 3)).alloc (.cells #[.int .i64 1, .int .i64 1] 3)).alloc (.cells #[.int .i64 2, .int .i64 1] 3)).alloc (.cells #[.int .i64 1, .int .i64 2, .int .i64 1] 3)).alloc (.cells #[.slice (some ⟨w.heap.size, 0, none⟩) 1 1, .slice (some ⟨w.heap.size + 1, 0, none⟩) 1 1, .slice (some ⟨w.heap.size + 1 + 1, 0, none⟩) 2 2, .slice (some ⟨w.heap.size + 1 + 1 + 1, 0, none⟩) 2 2, .slice (some ⟨w.heap.size + 1 + 1 + 1 + 1, 0, none⟩) 2 2, .slice (some ⟨w.heap.size + 1 + 1 + 1 + 1 + 1, 0, none⟩) 3 3] 22)).heap[w.heap.size + 1]? = some (.cells #[.int .i64 2] 3) := by
    iterate 5 refine alloc_old ?_
    exact heap_new_at (by simp)
  have G1 := Lib.hid G1
  have G2 : (((((((w.alloc (.cells #[.int .i64 1] 3)).alloc (.cells #[.int .i64 2] 3)).alloc (.cells #[.int .i64 1, .int .i64 2] 3)).alloc (.cells #[.int .i64 1, .int .i64 1] 3)).alloc (.cells #[.int .i64 2, .int .i64 1] 3)).alloc (.cells #[.int .i64 1, .int .i64 2, .int .i64 1] 3)).alloc (.cells #[.slice (some ⟨w.heap.size, 0, none⟩) 1 1, .slice (some ⟨w.heap.size + 1, 0, none⟩) 1 1, .slice (some ⟨w.heap.size + 1 + 1, 0, none⟩) 2 2, .slice (some ⟨w.heap.size + 1 + 1 + 1, 0, none⟩) 2 2, .slice (some ⟨w.heap.size + 1 + 1 + 1 + 1, 0, none⟩) 2 2, .slice (some ⟨w.heap.size + 1 + 1 + 1 + 1 + 1, 0, none⟩) 3 3] 22)).heap[w.heap.size + 1 + 1]? = some (.cells #[.int .i64 1, .int .i64 2] 3) := by
    iterate 4 refine alloc_old ?_
    exact heap_new_at (by simp)
  have G2 := Lib.hid G2
  have G3 : (((((((w.alloc (.cells #[.int .i64 1] 3)).alloc (.cells #[.int .i64 2] 3)).alloc (.cells #[.int .i64 1, .int .i64 2] 3)).alloc (.cells #[.int .i64 1, .int .i64 1] 3)).alloc (.cells #[.int .i64 2, .int .i64 1] 3)).alloc (.cells #[.int .i64 1, .int .i64 2, .int .i64 1] 3)).alloc (.cells #[.slice (some ⟨w.heap.size, 0, none⟩) 1 1, .slice (some ⟨w.heap.size + 1, 0, none⟩) 1 1, .slice (some ⟨w.heap.size + 1 + 1, 0, none⟩) 2 2, .slice (some ⟨w.heap.size + 1 + 1 + 1, 0, none⟩) 2 2, .slice (some ⟨w.heap.size + 1 + 1 + 1 + 1, 0, none⟩) 2 2, .slice (some ⟨w.heap.size + 1 + 1 + 1 + 1 + 1, 0, none⟩) 3 3] 22)).heap[w.heap.size + 1 + 1 + 1]? = some (.cells #[.int .i64 1, .int .i64 1] 3) := by
    iterate 3 refine alloc_old ?_
    exact heap_new_at (by simp)
  have G3 := Lib.hid G3
  have G4 : (((((((w.alloc (.cells #[.int .i64 1] 3)).alloc (.cells #[.int .i64 2] 3)).alloc (.cells #[.int .i64 1, .int .i64 2] 3)).alloc (.cells #[.int .i64 1, .int .i64 1] 3)).alloc (.cells #[.int .i64 2, .int .i64 1] 3)).alloc (.cells #[.int .i64 1, .int .i64 2, .int .i64 1] 3)).alloc (.cells #[.slice (some ⟨w.heap.size, 0, none⟩) 1 1, .slice (some ⟨w.heap.size + 1, 0, none⟩) 1 1, .slice (some ⟨w.heap.size + 1 + 1, 0, none⟩) 2 2, .slice (some ⟨w.heap.size + 1 + 1 + 1, 0, none⟩) 2 2, .slice (some ⟨w.heap.size + 1 + 1 + 1 + 1, 0, none⟩) 2 2, .slice (some ⟨w.heap.size + 1 + 1 + 1 + 1 + 1, 0, none⟩) 3 3] 22)).heap[w.heap.size + 1 + 1 + 1 + 1]? = some (.cells #[.int .i64 2, .int .i64 1] 3) := by
    iterate 2 refine alloc_old ?_
    exact heap_new_at (by simp)
  have G4 := Lib.hid G4
  have G5 : (((((((w.alloc (.cells #[.int .i64 1] 3)).alloc (.cells #[.int .i64 2] 3)).alloc (.cells #[.int .i64 1, .int .i64 2] 3)).alloc (.cells #[.int .i64 1, .int .i64 1] 3)).alloc (.cells #[.int .i64 2, .int .i64 1] 3)).alloc (.cells #[.int .i64 1, .int .i64 2, .int .i64 1] 3)).alloc (.cells #[.slice (some ⟨w.heap.size, 0, none⟩) 1 1, .slice (some ⟨w.heap.size + 1, 0, none⟩) 1 1, .slice (some ⟨w.heap.size + 1 + 1, 0, none⟩) 2 2, .slice (some ⟨w.heap.size + 1 + 1 + 1, 0, none⟩) 2 2, .slice (some ⟨w.heap.size + 1 + 1 + 1 + 1, 0, none⟩) 2 2, .slice (some ⟨w.heap.size + 1 + 1 + 1 + 1 + 1, 0, none⟩) 3 3] 22)).heap[w.heap.size + 1 + 1 + 1 + 1 + 1]? = some (.cells #[.int .i64 1, .int .i64 2, .int .i64 1] 3) := by
    iterate 1 refine alloc_old ?_
    exact heap_new_at (by simp)
  have G5 := Lib.hid G5
  have G6 : (((((((w.alloc (.cells #[.int .i64 1] 3)).alloc (.cells #[.int .i64 2] 3)).alloc (.cells #[.int .i64 1, .int .i64 2] 3)).alloc (.cells #[.int .i64 1, .int .i64 1] 3)).alloc (.cells #[.int .i64 2, .int .i64 1] 3)).alloc (.cells #[.int .i64 1, .int .i64 2, .int .i64 1] 3)).alloc (.cells #[.slice (some ⟨w.heap.size, 0, none⟩) 1 1, .slice (some ⟨w.heap.size + 1, 0, none⟩) 1 1, .slice (some ⟨w.heap.size + 1 + 1, 0, none⟩) 2 2, .slice (some ⟨w.heap.size + 1 + 1 + 1, 0, none⟩) 2 2, .slice (some ⟨w.heap.size + 1 + 1 + 1 + 1, 0, none⟩) 2 2, .slice (some ⟨w.heap.size + 1 + 1 + 1 + 1 + 1, 0, none⟩) 3 3] 22)).heap[w.heap.size + 1 + 1 + 1 + 1 + 1 + 1]? = some (.cells #[.slice (some ⟨w.heap.size, 0, none⟩) 1 1, .slice (some ⟨w.heap.size + 1, 0, none⟩) 1 1, .slice (some ⟨w.heap.size + 1 + 1, 0, none⟩) 2 2, .slice (some ⟨w.heap.size + 1 + 1 + 1, 0, none⟩) 2 2, .slice (some ⟨w.heap.size + 1 + 1 + 1 + 1, 0, none⟩) 2 2, .slice (some ⟨w.heap.size + 1 + 1 + 1 + 1 + 1, 0, none⟩) 3 3] 22) := by
    exact heap_new_at (by simp)
  have G6 := Lib.hid G6
  have hdn : Dr (((((((w.alloc (.cells #[.int .i64 1] 3)).alloc (.cells #[.int .i64 2] 3)).alloc (.cells #[.int .i64 1, .int .i64 2] 3)).alloc (.cells #[.int .i64 1, .int .i64 1] 3)).alloc (.cells #[.int .i64 2, .int .i64 1] 3)).alloc (.cells #[.int .i64 1, .int .i64 2, .int .i64 1] 3)).alloc (.cells #[.slice (some ⟨w.heap.size, 0, none⟩) 1 1, .slice (some ⟨w.heap.size + 1, 0, none⟩) 1 1, .slice (some ⟨w.heap.size + 1 + 1, 0, none⟩) 2 2, .slice (some ⟨w.heap.size + 1 + 1 + 1, 0, none⟩) 2 2, .slice (some ⟨w.heap.size + 1 + 1 + 1 + 1, 0, none⟩) 2 2, .slice (some ⟨w.heap.size + 1 + 1 + 1 + 1 + 1, 0, none⟩) 3 3] 22)) g := by
    iterate 7 refine dr_new ?_ _ _
    exact hd
  have hcn : Chg g (g + 1) w (((((((w.alloc (.cells #[.int .i64 1] 3)).alloc (.cells #[.int .i64 2] 3)).alloc (.cells #[.int .i64 1, .int .i64 2] 3)).alloc (.cells #[.int .i64 1, .int .i64 1] 3)).alloc (.cells #[.int .i64 2, .int .i64 1] 3)).alloc (.cells #[.int .i64 1, .int .i64 2, .int .i64 1] 3)).alloc (.cells #[.slice (some ⟨w.heap.size, 0, none⟩) 1 1, .slice (some ⟨w.heap.size + 1, 0, none⟩) 1 1, .slice (some ⟨w.heap.size + 1 + 1, 0, none⟩) 2 2, .slice (some ⟨w.heap.size + 1 + 1 + 1, 0, none⟩) 2 2, .slice (some ⟨w.heap.size + 1 + 1 + 1 + 1, 0, none⟩) 2 2, .slice (some ⟨w.heap.size + 1 + 1 + 1 + 1 + 1, 0, none⟩) 3 3] 22)) := by
    iterate 7 refine Chg.trans ?_ (chg_new g _ _ _)
    exact Chg.refl _ _ _
  go_enter Tryz.func29, Tryz.ntmps29
  go_wp2_with fail
  generalize (((((((w.alloc (.cells #[.int .i64 1] 3)).alloc (.cells #[.int .i64 2] 3)).alloc (.cells #[.int .i64 1, .int .i64 2] 3)).alloc (.cells #[.int .i64 1, .int .i64 1] 3)).alloc (.cells #[.int .i64 2, .int .i64 1] 3)).alloc (.cells #[.int .i64 1, .int .i64 2, .int .i64 1] 3)).alloc (.cells #[.slice (some ⟨w.heap.size, 0, none⟩) 1 1, .slice (some ⟨w.heap.size + 1, 0, none⟩) 1 1, .slice (some ⟨w.heap.size + 1 + 1, 0, none⟩) 2 2, .slice (some ⟨w.heap.size + 1 + 1 + 1, 0, none⟩) 2 2, .slice (some ⟨w.heap.size + 1 + 1 + 1 + 1, 0, none⟩) 2 2, .slice (some ⟨w.heap.size + 1 + 1 + 1 + 1 + 1, 0, none⟩) 3 3] 22)) = W at *
  refine (spec_l1Below 6 W g hdn (by decide)).mono ?_
  rintro e w1 ⟨_, rfl, ⟨k, rfl, hk1, -⟩, hch1, hd1⟩
  have hk : k < 6 := by have := hk1 (by decide); omega
  have hsz1 := hch1.size
  have hcs := hcn.trans hch1
  have T := chg_cell G6.out hch1 (by omega)
  have t0 := cell_of_row w1 (w.heap.size + 1 + 1 + 1 + 1 + 1 + 1) 0 _ _ _ T
  have t1 := cell_of_row w1 (w.heap.size + 1 + 1 + 1 + 1 + 1 + 1) 1 _ _ _ T
  have t2 := cell_of_row w1 (w.heap.size + 1 + 1 + 1 + 1 + 1 + 1) 2 _ _ _ T
  have t3 := cell_of_row w1 (w.heap.size + 1 + 1 + 1 + 1 + 1 + 1) 3 _ _ _ T
  have t4 := cell_of_row w1 (w.heap.size + 1 + 1 + 1 + 1 + 1 + 1) 4 _ _ _ T
  have t5 := cell_of_row w1 (w.heap.size + 1 + 1 + 1 + 1 + 1 + 1) 5 _ _ _ T
  simp only [List.getElem?_toArray, List.getElem?_cons_zero, List.getElem?_cons_succ] at t0 t1 t2 t3 t4 t5
  clear T hk1
  obtain rfl | rfl | rfl | rfl | rfl | rfl : k = 0 ∨ k = 1 ∨ k = 2 ∨ k = 3 ∨ k = 4 ∨ k = 5 := by omega
  · have C := chg_cell G0.out hch1 (by omega)
    go_wp2_with fail
    go_ret
    refine ⟨_, rfl, ⟨[1], ⟨_, _, rfl, Nat.le_refl _, by decide, fun j hj => ⟨_, _, rfl, by omega, by omega, ?_⟩⟩, by decide⟩, hcs, hd1⟩
    have hj' : j < 1 := hj
    refine ⟨_, List.getElem?_eq_getElem hj, ?_⟩
    rw [cell_of_row w1 (w.heap.size) _ _ _ _ C]
    simp only [Nat.zero_add, Nat.mul_one]
    match j, hj' with
    | 0, _ => rfl
  · have C := chg_cell G1.out hch1 (by omega)
    go_wp2_with fail
    go_ret
    refine ⟨_, rfl, ⟨[2], ⟨_, _, rfl, Nat.le_refl _, by decide, fun j hj => ⟨_, _, rfl, by omega, by omega, ?_⟩⟩, by decide⟩, hcs, hd1⟩
    have hj' : j < 1 := hj
    refine ⟨_, List.getElem?_eq_getElem hj, ?_⟩
    rw [cell_of_row w1 (w.heap.size + 1) _ _ _ _ C]
    simp only [Nat.zero_add, Nat.mul_one]
    match j, hj' with
    | 0, _ => rfl
  · have C := chg_cell G2.out hch1 (by omega)
    go_wp2_with fail
    go_ret
    refine ⟨_, rfl, ⟨[1, 2], ⟨_, _, rfl, Nat.le_refl _, by decide, fun j hj => ⟨_, _, rfl, by omega, by omega, ?_⟩⟩, by decide⟩, hcs, hd1⟩
    have hj' : j < 2 := hj
    refine ⟨_, List.getElem?_eq_getElem hj, ?_⟩
    rw [cell_of_row w1 (w.heap.size + 1 + 1) _ _ _ _ C]
    simp only [Nat.zero_add, Nat.mul_one]
    match j, hj' with
    | 0, _ => rfl
    | 1, _ => rfl
  · have C := chg_cell G3.out hch1 (by omega)
    go_wp2_with fail
    go_ret
    refine ⟨_, rfl, ⟨[1, 1], ⟨_, _, rfl, Nat.le_refl _, by decide, fun j hj => ⟨_, _, rfl, by omega, by omega, ?_⟩⟩, by decide⟩, hcs, hd1⟩
    have hj' : j < 2 := hj
    refine ⟨_, List.getElem?_eq_getElem hj, ?_⟩
    rw [cell_of_row w1 (w.heap.size + 1 + 1 + 1) _ _ _ _ C]
    simp only [Nat.zero_add, Nat.mul_one]
    match j, hj' with
    | 0, _ => rfl
    | 1, _ => rfl
  · have C := chg_cell G4.out hch1 (by omega)
    go_wp2_with fail
    go_ret
    refine ⟨_, rfl, ⟨[2, 1], ⟨_, _, rfl, Nat.le_refl _, by decide, fun j hj => ⟨_, _, rfl, by omega, by omega, ?_⟩⟩, by decide⟩, hcs, hd1⟩
    have hj' : j < 2 := hj
    refine ⟨_, List.getElem?_eq_getElem hj, ?_⟩
    rw [cell_of_row w1 (w.heap.size + 1 + 1 + 1 + 1) _ _ _ _ C]
    simp only [Nat.zero_add, Nat.mul_one]
    match j, hj' with
    | 0, _ => rfl
    | 1, _ => rfl
  · have C := chg_cell G5.out hch1 (by omega)
    go_wp2_with fail
    go_ret
    refine ⟨_, rfl, ⟨[1, 2, 1], ⟨_, _, rfl, Nat.le_refl _, by decide, fun j hj => ⟨_, _, rfl, by omega, by omega, ?_⟩⟩, by decide⟩, hcs, hd1⟩
    have hj' : j < 3 := hj
    refine ⟨_, List.getElem?_eq_getElem hj, ?_⟩
    rw [cell_of_row w1 (w.heap.size + 1 + 1 + 1 + 1 + 1) _ _ _ _ C]
    simp only [Nat.zero_add, Nat.mul_one]
    match j, hj' with
    | 0, _ => rfl
    | 1, _ => rfl
    | 2, _ => rfl
end Go.Proofs.YtjogkbkkcaljhaaGreatDoor
