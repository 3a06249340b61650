/- Draws: predicates. -/
import Derived.Test.YtjogkbkkcaljhaaGreatDoorD28
import Derived.Test.YtjogkbkkcaljhaaGreatDoorXG
namespace Go.Proofs.YtjogkbkkcaljhaaGreatDoor
open Go.Sort Go.ChangeShapes Go.WideShapes Go.ChangeAt Go.RowKit Go.Lb
theorem chg_go {g : Nat} {w w1 w2 : World} (h : Chg g (g + 1) w w1) (h2 : Below w1.heap.size w1 w2) : Chg g (g + 1) w w2 := h.trans (.of_below h2)
set_option maxRecDepth 20000 in
set_option maxHeartbeats 4000000 in
theorem spec_l11Cmp1 (cols : List Int) (x : Value) (w : World) (g : Nat) (hd : Dr w g) {hi : Nat} (hx : RdI w (g + 1) hi x cols) (hhi : hi ≤ w.heap.size) (hok : colsOk cols = true) :
    Calls Tryz.prog 60 #[.pointer (some ⟨g, 0, none⟩), x] w (DrP w g fun v _ => ∃ (k : Nat) (op : Int) (y : V), v = .agg #[.int .i64 2, .int .i64 k, .int .i64 op, .int .i64 y.ty, .int .i64 y.n, .string y.s, .slice none 0 0] ∧ Hid (k < cols.length ∧ 1 ≤ op ∧ op ≤ 6 ∧ y.s.size ≤ 100 ∧ valOk y = true ∧ cols[k]? = some y.ty)) := by
  have hlt := hd.lt
  obtain ⟨A, c, rfl, hcl, hcl2⟩ := hx.form
  obtain ⟨hc1, hc3, hct⟩ := colsOk_ty hok
  have Hct := Lib.hid hct
  clear hct hok
  have hd1 := dr_new hd #[.int .i64 0, .int .i64 0, .int .i64 0, .int .i64 0, .int .i64 0, .string ⟨#[]⟩, .slice none 0 0] 27
  have HR := Lib.hid (heap_alloc_new w (.cells #[.int .i64 0, .int .i64 0, .int .i64 0, .int .i64 0, .int .i64 0, .string ⟨#[]⟩, .slice none 0 0] 27))
  have hch := chg_new g w #[.int .i64 0, .int .i64 0, .int .i64 0, .int .i64 0, .int .i64 0, .string ⟨#[]⟩, .slice none 0 0] 27
  have hx1 := hx.below (up_a1 w (.cells #[.int .i64 0, .int .i64 0, .int .i64 0, .int .i64 0, .int .i64 0, .string ⟨#[]⟩, .slice none 0 0] 27)) hhi
  go_enter Tryz.func60, Tryz.ntmps60
  go_wp2_with fail
  refine (spec_l1Below (cols.length : Int) _ g hd1 (by omega)).mono ?_
  rintro e w1 ⟨_, rfl, ⟨k, rfl, hk1, -⟩, hch1, hd2⟩
  have hk : k < cols.length := by have := hk1 (by omega); omega
  have hx2 := hx1.same (.of_chg hch1 (.inr (by omega)) (by simp; omega))
  replace HR := Lib.hid (chg_cell HR.out hch1 hlt)
  replace hch := hch.trans hch1
  clear hk1 hch1 hd1 hx1 hx
  go_wp2_with fail
  refine (spec_l3Int_t w1 g hd2).mono ?_
  rintro e w2 ⟨_, rfl, ⟨y, ⟨rfl, hy⟩, hyo, hyt⟩, hch2, hd3⟩
  have hs1 := hch.size
  have hx3 := hx2.same (.of_chg hch2 (.inr (by omega)) (by omega))
  replace HR := Lib.hid (chg_cell HR.out hch2 hlt)
  replace hch := hch.trans hch2
  have hs2 := hch.size
  have hsp : w.heap.size < w2.heap.size := (Array.getElem?_eq_some_iff.1 HR.out).1
  have hyo := Lib.hid (And.intro hyo hyt)
  have hlt2 := hd3.lt
  have hd4 := dr_new hd3 #[.int .i64 y.ty, .int .i64 y.n, .string y.s] 24
  have HB := Lib.hid (heap_alloc_new w2 (.cells #[.int .i64 y.ty, .int .i64 y.n, .string y.s] 24))
  have hx4 := hx3.below (up_a1 w2 (.cells #[.int .i64 y.ty, .int .i64 y.n, .string y.s] 24)) (by omega)
  replace HR := Lib.hid (alloc_old (o := .cells #[.int .i64 y.ty, .int .i64 y.n, .string y.s] 24) HR.out)
  replace hch := hch.trans (chg_new g w2 #[.int .i64 y.ty, .int .i64 y.n, .string y.s] 24)
  have hsz : (w2.alloc (.cells #[.int .i64 y.ty, .int .i64 y.n, .string y.s] 24)).heap.size = w2.heap.size + 1 := by simp
  clear hd2 hd3 hx2 hx3 hch2 hyt hs2
  obtain ⟨b, off, t, rfl, -, hbl, hck, e0⟩ := hx4.at hk
  have Hck := Lib.hid hck
  have ht12 := Hct.out t (mem_of_get hck)
  clear hck
  by_cases ht : t = 1
  · subst ht
    have HK := Lib.hid (show valOk y = true ∧ cols[k]? = some y.ty from ⟨hyo.out.1, by rw [hyo.out.2]; exact Hck.out⟩)
    have hyz := hy
    clear Hck hyo ht12 hy
    go_wp2_with fail
    have n0 : w2.heap.size ≠ w.heap.size := by omega
    obtain ⟨WX, hWX⟩ : ∃ WX, (w2.alloc (.cells #[.int .i64 y.ty, .int .i64 y.n, .string y.s] 24)) = WX := ⟨_, rfl⟩
    rw [hWX] at HR HB hd4 hch
    try rw [hWX]
    clear hWX
    have q0 := cell_of_row WX (w2.heap.size) 0 _ _ _ HB.out
    have q1 := cell_of_row WX (w2.heap.size) 1 _ _ _ HB.out
    have q2 := cell_of_row WX (w2.heap.size) 2 _ _ _ HB.out
    simp only [List.getElem?_toArray, List.getElem?_cons_zero, List.getElem?_cons_succ] at q0 q1 q2
    have hC := Lib.hid (spec_l1Below 6 WX.drew g hd4.drew (by decide))
    go_region_held3 (fun w' => w'.cell? ⟨w2.heap.size, 0, none⟩ = some (.int .i64 y.ty) ∧ w'.cell? ⟨w2.heap.size, 1, none⟩ = some (.int .i64 y.n) ∧ w'.cell? ⟨w2.heap.size, 2, none⟩ = some (.string y.s)) (first | with_reducible exact ⟨q0, q1, q2⟩ | with_reducible exact ⟨p0, p1, p2⟩ | (with_reducible (refine ⟨?_, ?_, ?_⟩ <;> (repeat (first | apply cell_drew | apply cell_set_ne n0)) <;> assumption)) | go_keep) (first | (go_at_call 58; ((with_reducible refine hC.out.mono ?_); rintro e w6 ⟨_, rfl, ⟨m, rfl, hm1, -⟩, hch6, hd6⟩; have hm : m < 6 := (by have := hm1 (by decide); omega); have hwm : IntKind.i64.wrap (1 + (m : Int)) = 1 + (m : Int) := (IntWalk.i64_in _ ⟨by omega, by omega⟩); have HB6 := chg_cell (w := WX.drew) HB.out hch6 hlt2; have HR6 := chg_cell (w := WX.drew) HR.out hch6 hlt; have p0 := cell_of_row w6 (w2.heap.size) 0 _ _ _ HB6; have p1 := cell_of_row w6 (w2.heap.size) 1 _ _ _ HB6; have p2 := cell_of_row w6 (w2.heap.size) 2 _ _ _ HB6; simp only [List.getElem?_toArray, List.getElem?_cons_zero, List.getElem?_cons_succ] at p0 p1 p2; have r0 := cell_of_row w6 (w.heap.size) 0 _ _ _ HR6; have r1 := cell_of_row w6 (w.heap.size) 1 _ _ _ HR6; have r2 := cell_of_row w6 (w.heap.size) 2 _ _ _ HR6; have r3 := cell_of_row w6 (w.heap.size) 3 _ _ _ HR6; have r4 := cell_of_row w6 (w.heap.size) 4 _ _ _ HR6; have r5 := cell_of_row w6 (w.heap.size) 5 _ _ _ HR6; have r6 := cell_of_row w6 (w.heap.size) 6 _ _ _ HR6; simp only [List.getElem?_toArray, List.getElem?_cons_zero, List.getElem?_cons_succ] at r0 r1 r2 r3 r4 r5 r6; have f0 := fun o => frozen_of_row w6 w.heap.size o _ _ HR6; have hch6 := Lib.hid ((chg_go hch (Below.refl _ _).drew).trans hch6); have hd6 := Lib.hid hd6; clear hm1 HB6 HR6)))
    go_wp2_with fail
    refine bodyPost_ret (v := .agg #[.int .i64 2, .int .i64 k, .int .i64 (1 + (m : Int)), .int .i64 y.ty, .int .i64 y.n, .string y.s, .slice none 0 0]) ?_ rfl ⟨_, rfl, ⟨k, 1 + (m : Int), y, rfl, Lib.hid ⟨hk, by omega, by omega, hyz, HK.out.1, HK.out.2⟩⟩, ?_, ?_⟩
    · simp [results, Tryz.results60, go_sem, r0, r1, r2, r3, r4, r5, r6]
    · iterate 7 refine chg_set ?_ (Nat.le_refl _) _
      exact hch6.out
    · iterate 7 refine Dr.set ?_ (by omega) (by omega) _
      exact hd6.out
  · obtain rfl : t = 2 := by omega
    clear hyo ht12 ht hy
    go_wp2_with fail
    refine (spec_l3Text_t _ g hd4).mono ?_
    rintro e w5 ⟨_, rfl, ⟨z, ⟨rfl, hz⟩, hzo, hzt⟩, hch5, hd5⟩
    have HK := Lib.hid (show valOk z = true ∧ cols[k]? = some z.ty from ⟨hzo, by rw [hzt]; exact Hck.out⟩)
    have hyz := hz
    have HB5 := chg_cell HB.out hch5 hlt2
    have HR5 := chg_cell HR.out hch5 hlt
    replace hch := hch.trans hch5
    have hs5 := hch5.size
    rw [hsz] at hs5
    have r5 := fun o => frozen_of_row w5 w2.heap.size o _ _ HB5
    have HS := Lib.hid (set3 (o := 0) (a := .int .i64 z.ty) (b := .int .i64 z.n) (c := .string z.s) HB5)
    have HRS := Lib.hid ((Below.heap_setCell ((w5.setCell ⟨w2.heap.size, 0, none⟩ (.int .i64 z.ty)).setCell ⟨w2.heap.size, 0 + 1, none⟩ (.int .i64 z.n)) ⟨w2.heap.size, 0 + 2, none⟩ (.string z.s) w.heap.size (by show w.heap.size ≠ w2.heap.size; omega)).trans ((Below.heap_setCell (w5.setCell ⟨w2.heap.size, 0, none⟩ (.int .i64 z.ty)) ⟨w2.heap.size, 0 + 1, none⟩ (.int .i64 z.n) w.heap.size (by show w.heap.size ≠ w2.heap.size; omega)).trans ((Below.heap_setCell w5 ⟨w2.heap.size, 0, none⟩ (.int .i64 z.ty) w.heap.size (by show w.heap.size ≠ w2.heap.size; omega)).trans HR5)))
    have hdS := ((hd5.set (b := w2.heap.size) (o := 0) (by omega) (by omega) (.int .i64 z.ty)).set (b := w2.heap.size) (o := 0 + 1) (by omega) (by omega) (.int .i64 z.n)).set (b := w2.heap.size) (o := 0 + 2) (by omega) (by omega) (.string z.s)
    have hchS := chg_set (b := w2.heap.size) (o := 0 + 2) (chg_set (b := w2.heap.size) (o := 0 + 1) (chg_set (b := w2.heap.size) (o := 0) hch (by omega) (.int .i64 z.ty)) (by omega) (.int .i64 z.n)) (by omega) (.string z.s)
    simp only [List.setIfInBounds_toArray, List.set_cons_succ, List.set_cons_zero, Nat.zero_add] at HS HRS hdS hchS
    have c0 := cell_of_row w5 w2.heap.size 0 _ _ _ HB5
    have c1 := cell_of_row w5 w2.heap.size 1 _ _ _ HB5
    have c2 := cell_of_row w5 w2.heap.size 2 _ _ _ HB5
    simp only [List.getElem?_toArray, List.getElem?_cons_zero, List.getElem?_cons_succ] at c0 c1 c2
    clear hch5 hch hd5 HB5 HR5 hzo hzt HB HR hd4 hz
    go_wp2_with fail
    replace HR := HRS
    replace HB := HS
    replace hch := hchS
    replace hd4 := hdS
    clear HS HRS hchS hdS c0 c1 c2 r5
    have n0 : w2.heap.size ≠ w.heap.size := by omega
    obtain ⟨WX, hWX⟩ : ∃ WX, (((w5.setCell ⟨w2.heap.size, 0, none⟩ (.int .i64 z.ty)).setCell ⟨w2.heap.size, 1, none⟩ (.int .i64 z.n)).setCell ⟨w2.heap.size, 2, none⟩ (.string z.s)) = WX := ⟨_, rfl⟩
    rw [hWX] at HR HB hd4 hch
    try rw [hWX]
    clear hWX
    have q0 := cell_of_row WX (w2.heap.size) 0 _ _ _ HB.out
    have q1 := cell_of_row WX (w2.heap.size) 1 _ _ _ HB.out
    have q2 := cell_of_row WX (w2.heap.size) 2 _ _ _ HB.out
    simp only [List.getElem?_toArray, List.getElem?_cons_zero, List.getElem?_cons_succ] at q0 q1 q2
    have hC := Lib.hid (spec_l1Below 6 WX.drew g hd4.drew (by decide))
    go_region_held3 (fun w' => w'.cell? ⟨w2.heap.size, 0, none⟩ = some (.int .i64 z.ty) ∧ w'.cell? ⟨w2.heap.size, 1, none⟩ = some (.int .i64 z.n) ∧ w'.cell? ⟨w2.heap.size, 2, none⟩ = some (.string z.s)) (first | with_reducible exact ⟨q0, q1, q2⟩ | with_reducible exact ⟨p0, p1, p2⟩ | (with_reducible (refine ⟨?_, ?_, ?_⟩ <;> (repeat (first | apply cell_drew | apply cell_set_ne n0)) <;> assumption)) | go_keep) (first | (go_at_call 58; ((with_reducible refine hC.out.mono ?_); rintro e w6 ⟨_, rfl, ⟨m, rfl, hm1, -⟩, hch6, hd6⟩; have hm : m < 6 := (by have := hm1 (by decide); omega); have hwm : IntKind.i64.wrap (1 + (m : Int)) = 1 + (m : Int) := (IntWalk.i64_in _ ⟨by omega, by omega⟩); have HB6 := chg_cell (w := WX.drew) HB.out hch6 hlt2; have HR6 := chg_cell (w := WX.drew) HR.out hch6 hlt; have p0 := cell_of_row w6 (w2.heap.size) 0 _ _ _ HB6; have p1 := cell_of_row w6 (w2.heap.size) 1 _ _ _ HB6; have p2 := cell_of_row w6 (w2.heap.size) 2 _ _ _ HB6; simp only [List.getElem?_toArray, List.getElem?_cons_zero, List.getElem?_cons_succ] at p0 p1 p2; have r0 := cell_of_row w6 (w.heap.size) 0 _ _ _ HR6; have r1 := cell_of_row w6 (w.heap.size) 1 _ _ _ HR6; have r2 := cell_of_row w6 (w.heap.size) 2 _ _ _ HR6; have r3 := cell_of_row w6 (w.heap.size) 3 _ _ _ HR6; have r4 := cell_of_row w6 (w.heap.size) 4 _ _ _ HR6; have r5 := cell_of_row w6 (w.heap.size) 5 _ _ _ HR6; have r6 := cell_of_row w6 (w.heap.size) 6 _ _ _ HR6; simp only [List.getElem?_toArray, List.getElem?_cons_zero, List.getElem?_cons_succ] at r0 r1 r2 r3 r4 r5 r6; have f0 := fun o => frozen_of_row w6 w.heap.size o _ _ HR6; have hch6 := Lib.hid ((chg_go hch (Below.refl _ _).drew).trans hch6); have hd6 := Lib.hid hd6; clear hm1 HB6 HR6)))
    go_wp2_with fail
    refine bodyPost_ret (v := .agg #[.int .i64 2, .int .i64 k, .int .i64 (1 + (m : Int)), .int .i64 z.ty, .int .i64 z.n, .string z.s, .slice none 0 0]) ?_ rfl ⟨_, rfl, ⟨k, 1 + (m : Int), z, rfl, Lib.hid ⟨hk, by omega, by omega, hyz, HK.out.1, HK.out.2⟩⟩, ?_, ?_⟩
    · simp [results, Tryz.results60, go_sem, r0, r1, r2, r3, r4, r5, r6]
    · iterate 7 refine chg_set ?_ (Nat.le_refl _) _
      exact hch6.out
    · iterate 7 refine Dr.set ?_ (by omega) (by omega) _
      exact hd6.out
end Go.Proofs.YtjogkbkkcaljhaaGreatDoor
