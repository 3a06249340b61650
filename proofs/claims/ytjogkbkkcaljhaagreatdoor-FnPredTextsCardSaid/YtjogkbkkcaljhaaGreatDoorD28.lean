/- Draws: values, rows and columns, with what type they are of. -/
import Derived.Test.YtjogkbkkcaljhaaGreatDoorD13
import Derived.Test.YtjogkbkkcaljhaaGreatDoorYE
namespace Go.Lb
theorem okI {j : Int} (h : -1000000000 ≤ j ∧ j ≤ 1000000000) : valOk ⟨1, j, ByteArray.empty⟩ = true := by
  have : ByteArray.empty.data.toList.isEmpty = true := by rfl
  simp only [valOk, isNum, inR, this, if_true]
  simp
  omega
/-- The values fit these columns. -/
def FitL (cols : List Int) (l : List V) : Prop := cols.length = l.length ∧ ∀ (k : Nat) (ty : Int) (v : V), cols[k]? = some ty → l[k]? = some v → valOk v = true ∧ v.ty = ty
theorem FitL.nil : FitL [] [] := ⟨rfl, fun k ty v h => by simp at h⟩
theorem FitL.snoc {cols : List Int} {l : List V} {q : Nat} {y : Int} {x : V} (h : FitL (cols.take q) l) (hy : cols[q]? = some y) (h1 : valOk x = true) (h2 : x.ty = y) : FitL (cols.take (q + 1)) (l ++ [x]) := by
  have hq := (List.getElem?_eq_some_iff.1 hy).1
  have hl : l.length = q := by have := h.1; rw [List.length_take] at this; omega
  have ht : (cols.take q).length = q := by rw [List.length_take]; omega
  rw [List.take_add_one, hy]
  refine ⟨by simp [ht, hl], fun k ty v e1 e2 => ?_⟩
  simp only [Option.toList_some] at e1
  by_cases hk : k < q
  · rw [List.getElem?_append_left (by omega)] at e1 e2
    exact h.2 k ty v e1 e2
  · rw [List.getElem?_append_right (by omega)] at e1 e2
    rw [ht] at e1
    rw [hl] at e2
    by_cases hk0 : k - q = 0
    · rw [hk0] at e1 e2
      simp only [List.getElem?_cons_zero, Option.some.injEq] at e1 e2
      subst e1 e2
      exact ⟨h1, h2⟩
    · rw [List.getElem?_eq_none (by simp; omega)] at e1
      cases e1
def FitR (cols : List Int) (l : List R) : Prop := ∀ r ∈ l, FitL cols r.l
theorem FitR.snoc {cols : List Int} {l : List R} {r : R} (h : FitR cols l) (h1 : FitL cols r.l) : FitR cols (l ++ [r]) := by
  intro y hy
  rcases List.mem_append.1 hy with h3 | h3
  · exact h y h3
  · obtain rfl := List.mem_singleton.1 h3
    exact h1
end Go.Lb
namespace Go.Proofs.YtjogkbkkcaljhaaGreatDoor
open Go.Sort Go.ChangeShapes Go.WideShapes Go.ChangeAt Go.RowKit Go.Lb
theorem fitsCols_of {cols : List Int} {l : List V} (h : FitL cols l) : fitsCols cols l = true := by
  simp only [fitsCols, Bool.and_eq_true, beq_iff_eq, List.all_eq_true]
  refine ⟨h.1, fun p hp => ?_⟩
  obtain ⟨k, hk, e⟩ := List.mem_iff_getElem.1 hp
  rw [List.length_zip] at hk
  rw [List.getElem_zip] at e
  subst e
  have := h.2 k _ _ (List.getElem?_eq_getElem (by omega)) (List.getElem?_eq_getElem (by omega))
  simp [fitsAt, this.1, this.2]
theorem txts8_ok (x : ByteArray) (h : x ∈ txts8) : valOk ⟨2, 0, x⟩ = true := by
  simp only [txts8, List.mem_cons, List.not_mem_nil, or_false] at h
  rcases h with h | h | h | h | h | h | h | h <;> (subst h; decide)
set_option maxRecDepth 20000 in
set_option maxHeartbeats 4000000 in
theorem spec_l3Int_t (w : World) (g : Nat) (hd : Dr w g) :
    Calls Tryz.prog 82 #[.pointer (some ⟨g, 0, none⟩)] w (DrP w g fun v _ => ∃ x : V, GoodV v x ∧ valOk x = true ∧ x.ty = 1) := by
  have hlt := hd.lt
  have hd1 := dr_new hd #[.int .i64 0, .int .i64 0, .string ByteArray.empty] 24
  have HR := Lib.hid (heap_alloc_new w (.cells #[.int .i64 0, .int .i64 0, .string ByteArray.empty] 24))
  have hc0 := chg_new g w #[.int .i64 0, .int .i64 0, .string ByteArray.empty] 24
  go_enter Tryz.func82, Tryz.ntmps82
  go_wp2_with fail
  refine (spec_l1Once 4 _ g hd1 (by decide)).mono ?_
  rintro e w1 ⟨_, rfl, ⟨b, rfl⟩, hch1, hd1⟩
  replace HR := Lib.hid (chg_cell HR.out hch1 hlt)
  have hc1 := hc0.trans hch1
  clear hc0 hch1
  cases b
  · have hx := rdI_new w1 [0, 1, 2, 3, 7, -1] 3 (by decide)
    have hlt1 := hd1.lt
    have hd2 := dr_new hd1 (([0, 1, 2, 3, 7, -1] : List Int).map (Value.int .i64)).toArray 3
    have hc2 := hc1.trans (chg_new g w1 (([0, 1, 2, 3, 7, -1] : List Int).map (Value.int .i64)).toArray 3)
    replace HR := Lib.hid (chg_cell HR.out (chg_new g w1 (([0, 1, 2, 3, 7, -1] : List Int).map (Value.int .i64)).toArray 3) hlt)
    go_wp2_with fail
    refine (spec_l1Int [0, 1, 2, 3, 7, -1] _ _ g hd2 (RdG.imp hx hlt1 (Nat.le_refl _) fun _ _ _ _ _ h => h) (by simp) (by decide) (by decide)).mono ?_
    rintro e w3 ⟨_, rfl, ⟨j, hj, rfl⟩, hch3, hd3⟩
    have hj9 : -1000000000 ≤ j ∧ j ≤ 1000000000 := by
      simp only [List.mem_cons, List.not_mem_nil, or_false] at hj
      omega
    clear hj
    replace HR := Lib.hid (chg_cell HR.out hch3 hlt)
    have hc3 := hc2.trans hch3
    have r0 := cell_of_row w3 w.heap.size 0 _ _ _ HR.out
    have r1 := cell_of_row w3 w.heap.size 1 _ _ _ HR.out
    have r2 := cell_of_row w3 w.heap.size 2 _ _ _ HR.out
    simp only [List.getElem?_toArray, List.getElem?_cons_zero, List.getElem?_cons_succ] at r0 r1 r2
    have f0 := fun o => frozen_of_row w3 w.heap.size o _ _ HR.out
    go_wp2_with fail
    refine bodyPost_ret (v := .agg #[.int .i64 1, .int .i64 j, .string ByteArray.empty]) ?_ rfl ⟨_, rfl, ⟨⟨1, j, ByteArray.empty⟩, ⟨rfl, by show ByteArray.empty.size ≤ 100; decide⟩, okI hj9, rfl⟩, ?_, ?_⟩
    · simp [results, Tryz.results82, go_sem, r0, r1, r2]; rfl
    · iterate 3 refine chg_set ?_ (Nat.le_refl _) _
      exact hc3
    · iterate 3 refine Dr.set ?_ (by omega) (by omega) _
      exact hd3
  · go_wp2_with fail
    refine (spec_l1Num w1 g hd1).mono ?_
    rintro e w3 ⟨_, rfl, ⟨j, rfl, hj1, hj2⟩, hch3, hd3⟩
    have hj9 : -1000000000 ≤ j ∧ j ≤ 1000000000 := ⟨hj1, hj2⟩
    clear hj1 hj2
    replace HR := Lib.hid (chg_cell HR.out hch3 hlt)
    have hc3 := hc1.trans hch3
    have r0 := cell_of_row w3 w.heap.size 0 _ _ _ HR.out
    have r1 := cell_of_row w3 w.heap.size 1 _ _ _ HR.out
    have r2 := cell_of_row w3 w.heap.size 2 _ _ _ HR.out
    simp only [List.getElem?_toArray, List.getElem?_cons_zero, List.getElem?_cons_succ] at r0 r1 r2
    have f0 := fun o => frozen_of_row w3 w.heap.size o _ _ HR.out
    go_wp2_with fail
    refine bodyPost_ret (v := .agg #[.int .i64 1, .int .i64 j, .string ByteArray.empty]) ?_ rfl ⟨_, rfl, ⟨⟨1, j, ByteArray.empty⟩, ⟨rfl, by show ByteArray.empty.size ≤ 100; decide⟩, okI hj9, rfl⟩, ?_, ?_⟩
    · simp [results, Tryz.results82, go_sem, r0, r1, r2]; rfl
    · iterate 3 refine chg_set ?_ (Nat.le_refl _) _
      exact hc3
    · iterate 3 refine Dr.set ?_ (by omega) (by omega) _
      exact hd3
set_option maxRecDepth 20000 in
set_option maxHeartbeats 4000000 in
theorem spec_l3Text_t (w : World) (g : Nat) (hd : Dr w g) :
    Calls Tryz.prog 83 #[.pointer (some ⟨g, 0, none⟩)] w (DrP w g fun v _ => ∃ x : V, GoodV v x ∧ valOk x = true ∧ x.ty = 2) := by
  have hlt := hd.lt
  have hd1 := dr_new hd #[.int .i64 0, .int .i64 0, .string ⟨#[]⟩] 24
  have HR := Lib.hid (heap_alloc_new w (.cells #[.int .i64 0, .int .i64 0, .string ⟨#[]⟩] 24))
  have hc0 := chg_new g w #[.int .i64 0, .int .i64 0, .string ⟨#[]⟩] 24
  go_enter Tryz.func83, Tryz.ntmps83
  go_wp2_with fail
  have hlt1 := hd1.lt
  have hx := rdT_new (w.alloc (.cells #[.int .i64 0, .int .i64 0, .string ⟨#[]⟩] 24)) txts8 9 (by decide)
  rw [txts8_arr] at hx
  simp only [World.size_alloc] at hx hlt1
  have hd2 := dr_new hd1 #[.string ⟨#[]⟩, .string ⟨#[97]⟩, .string ⟨#[98]⟩, .string ⟨#[97, 98]⟩, .string ⟨#[114, 101, 100]⟩, .string ⟨#[98, 108, 117, 101]⟩, .string ⟨#[103, 114, 101, 101, 110]⟩, .string ⟨#[122, 122, 122, 122, 122, 122]⟩] 9
  have hc2 := hc0.trans (chg_new g _ #[.string ⟨#[]⟩, .string ⟨#[97]⟩, .string ⟨#[98]⟩, .string ⟨#[97, 98]⟩, .string ⟨#[114, 101, 100]⟩, .string ⟨#[98, 108, 117, 101]⟩, .string ⟨#[103, 114, 101, 101, 110]⟩, .string ⟨#[122, 122, 122, 122, 122, 122]⟩] 9)
  replace HR := Lib.hid (chg_cell HR.out (chg_new g _ #[.string ⟨#[]⟩, .string ⟨#[97]⟩, .string ⟨#[98]⟩, .string ⟨#[97, 98]⟩, .string ⟨#[114, 101, 100]⟩, .string ⟨#[98, 108, 117, 101]⟩, .string ⟨#[103, 114, 101, 101, 110]⟩, .string ⟨#[122, 122, 122, 122, 122, 122]⟩] 9) hlt)
  refine (spec_l1Str txts8 _ _ g hd2 (RdG.imp hx hlt1 (Nat.le_refl _) fun _ _ _ _ _ h => h) (by simp) (by decide) (by decide)).mono ?_
  rintro e w3 ⟨_, rfl, ⟨j, hj, rfl⟩, hch3, hd3⟩
  have hjs : j.size ≤ 100 := txts8_le j hj
  have hjo := Lib.hid (txts8_ok j hj)
  clear hj
  replace HR := Lib.hid (chg_cell HR.out hch3 hlt)
  have hc3 := hc2.trans hch3
  have r0 := cell_of_row w3 w.heap.size 0 _ _ _ HR.out
  have r1 := cell_of_row w3 w.heap.size 1 _ _ _ HR.out
  have r2 := cell_of_row w3 w.heap.size 2 _ _ _ HR.out
  simp only [List.getElem?_toArray, List.getElem?_cons_zero, List.getElem?_cons_succ] at r0 r1 r2
  have f0 := fun o => frozen_of_row w3 w.heap.size o _ _ HR.out
  go_wp2_with fail
  refine bodyPost_ret (v := .agg #[.int .i64 2, .int .i64 0, .string j]) ?_ rfl ⟨_, rfl, ⟨⟨2, 0, j⟩, ⟨rfl, hjs⟩, hjo.out, rfl⟩, ?_, ?_⟩
  · simp [results, Tryz.results83, go_sem, r0, r1, r2]
  · iterate 3 refine chg_set ?_ (Nat.le_refl _) _
    exact hc3
  · iterate 3 refine Dr.set ?_ (by omega) (by omega) _
    exact hd3
set_option maxRecDepth 20000 in
set_option maxHeartbeats 4000000 in
theorem spec_l4Vals_t (cols : List Int) (x : Value) (w : World) (g : Nat) (hd : Dr w g) {hi : Nat} (hx : RdI w (g + 1) hi x cols) (hhi : hi ≤ w.heap.size) (hm : cols.length ≤ 1000) (ht : ∀ t ∈ cols, t = 1 ∨ t = 2) :
    Calls Tryz.prog 61 #[.pointer (some ⟨g, 0, none⟩), x] w (DrP w g fun v w' => ∃ l : List V, GoodL w.heap.size w' v l ∧ FitL cols l) := by
  have hlt := hd.lt
  have ht := Lib.hid ht
  obtain ⟨A, c, rfl, hl, hl2⟩ := hx.form
  obtain ⟨i0, hif, hz0, hz1, hz2⟩ := info_parts info_V
  have hif := Lib.hid hif
  have hz0 := Lib.hid hz0
  have hz1 := Lib.hid hz1
  have hz2 := Lib.hid hz2
  have own0 := Lib.hid (World.ownsRow_made w (base := w.heap.size) (e := 24) (size := 3) #[] 0 (Nat.le_refl _) (by decide) rfl)
  go_enter Tryz.func61, Tryz.ntmps61
  go_wp2_with fail
  have hd1 := dr_new hd #[] 24
  go_loopw [5, 6] (fun o i wr => ∃ (q : Nat) (xs : List V), i = .int .i64 q ∧ q ≤ cols.length ∧ (xs.length ≤ q ∧ q ≤ xs.length) ∧ Hid ((∀ x ∈ xs, x.s.size ≤ 100) ∧ FitL (cols.take q) xs) ∧ wr.ownsRow w.heap.size 24 3 o xs.length (xs.flatMap V.cells) ∧ Chg g (g + 1) w wr ∧ Dr wr g) (fun _ i _ => cols.length - (intOf i).toNat)
  case atStart => exact ⟨0, [], rfl, by omega, ⟨by simp, by simp⟩, Lib.hid ⟨by simp, by simpa using FitL.nil⟩, own0.out, chg_new g w #[] 24, hd1⟩
  case round =>
    obtain ⟨q, xs, rfl, hq, hqx, hsm, hown, hch, hd⟩ := hrel
    clear own0
    have Hsm := hsm
    clear hsm
    have hcs := hch.size
    by_cases hql : q < cols.length
    · obtain ⟨b, off, y, rfl, -, hbl, hyk, e0⟩ := (hx.same (.of_chg hch (.inr (Nat.le_refl _)) hhi)).at hql
      have Hyk := Lib.hid hyk
      have Hyt := Lib.hid (ht.out y (mem_of_get hyk))
      clear hyk
      by_cases hty : y = 1
      · subst hty
        go_wp2_with fail
        refine (spec_l3Int_t _ g hd).mono ?_
        rintro e w2 ⟨_, rfl, ⟨x, ⟨rfl, hx⟩, hxo, hxt⟩, hch2, hd2⟩
        have Hxo := Lib.hid (And.intro hxo hxt)
        clear hxo hxt
        have hown2 := owns_chg hown hch2 hlt
        have hch3 := hch.trans hch2
        have hcs3 := hch3.size
        clear hown hch hch2 hd e0
        go_wp2_with (at_builtin; refine wpl_app rfl _ _ 85 rfl w.heap.size 24 i0 _ 3 32 Tryz.underlying85 hif.out hz0.out hz1.out hz2.out rfl (by decide) (by decide) (hown2.alloc _) rfl (heap_alloc_new _ _) rfl rfl (by simp [Value.oneCell']) (by omega) (by simp; omega) ?_)
        intro v' w3 hown' hgrow hnb
        obtain ⟨h1, h2, h3⟩ := app_good hlt hown2 hch3 hd2 hown' hgrow
        have H1 := Lib.hid h1
        clear hown' hgrow hnb hown2 h1 hd2 hch3
        go_wp2_with fail
        go_roundw
        case rel => exact ⟨q + 1, xs ++ [x], by go_num, by omega, ⟨by simp; omega, by simp; omega⟩, Lib.hid ⟨small_snoc Hsm.out.1 hx, Hsm.out.2.snoc Hyk.out Hxo.out.1 Hxo.out.2⟩, H1.out, h2, h3⟩
        case measure => simp [intOf]; omega
      · have b0 : (y == 1) = false := by simp [hty]
        go_wp2_with fail
        refine (spec_l3Text_t _ g hd).mono ?_
        rintro e w2 ⟨_, rfl, ⟨x, ⟨rfl, hx⟩, hxo, hxt⟩, hch2, hd2⟩
        have Hxo := Lib.hid (And.intro hxo hxt)
        clear hxo hxt
        have hown2 := owns_chg hown hch2 hlt
        have hch3 := hch.trans hch2
        have hcs3 := hch3.size
        clear hown hch hch2 hd e0
        go_wp2_with (at_builtin; refine wpl_app rfl _ _ 85 rfl w.heap.size 24 i0 _ 3 32 Tryz.underlying85 hif.out hz0.out hz1.out hz2.out rfl (by decide) (by decide) (hown2.alloc _) rfl (heap_alloc_new _ _) rfl rfl (by simp [Value.oneCell']) (by omega) (by simp; omega) ?_)
        intro v' w3 hown' hgrow hnb
        obtain ⟨h1, h2, h3⟩ := app_good hlt hown2 hch3 hd2 hown' hgrow
        have H1 := Lib.hid h1
        clear hown' hgrow hnb hown2 h1 hd2 hch3
        go_wp2_with fail
        go_roundw
        case rel => exact ⟨q + 1, xs ++ [x], by go_num, by omega, ⟨by simp; omega, by simp; omega⟩, Lib.hid ⟨small_snoc Hsm.out.1 hx, Hsm.out.2.snoc Hyk.out Hxo.out.1 (by have h1 := Hxo.out.2; have h2 := Hyt.out; omega)⟩, H1.out, h2, h3⟩
        case measure => simp [intOf]; omega
    · go_wp2_with fail
      go_ret
      exact ⟨_, rfl, ⟨xs, ⟨.new hown, Hsm.out.1⟩, by have h := Hsm.out.2; rwa [show q = cols.length by omega, List.take_length] at h⟩, hch, hd⟩
set_option maxRecDepth 20000 in
set_option maxHeartbeats 4000000 in
theorem spec_l4Cols_t (w : World) (g : Nat) (hd : Dr w g) :
    Calls Tryz.prog 29 #[.pointer (some ⟨g, 0, none⟩)] w (DrP w g fun v w' => ∃ cols : List Int, RdI w' w.heap.size w'.heap.size v cols ∧ colsOk cols = true ∧ cols.length ≤ 3) := by
  have hlt := hd.lt
  have hsz : (((((((w.alloc (.cells #[.int .i64 1] 3)).alloc (.cells #[.int .i64 2] 3)).alloc (.cells #[.int .i64 1, .int .i64 2] 3)).alloc (.cells #[.int .i64 1, .int .i64 1] 3)).alloc (.cells #[.int .i64 2, .int .i64 1] 3)).alloc (.cells #[.int .i64 1, .int .i64 2, .int .i64 1] 3)).alloc (.cells #[.slice (some ⟨w.heap.size, 0, none⟩) 1 1, .slice (some ⟨w.heap.size + 1, 0, none⟩) 1 1, .slice (some ⟨w.heap.size + 1 + 1, 0, none⟩) 2 2, .slice (some ⟨w.heap.size + 1 + 1 + 1, 0, none⟩) 2 2, .slice (some ⟨w.heap.size + 1 + 1 + 1 + 1, 0, none⟩) 2 2, .slice (some ⟨w.heap.size + 1 + 1 + 1 + 1 + 1, 0, none⟩) 3 3] 22)).heap.size = w.heap.size + 7 := by simp
  have G0 : (((((((w.alloc (.cells #[.int .i64 1] 3)).alloc (.cells #[.int .i64 2] 3)).alloc (.cells #[.int .i64 1, .int .i64 2] 3)).alloc (.cells #[.int .i64 1, .int .i64 1] 3)).alloc (.cells #[.int .i64 2, .int .i64 1] 3)).alloc (.cells #[.int .i64 1, .int .i64 2, .int .i64 1] 3)).alloc (.cells #[.slice (some ⟨w.heap.size, 0, none⟩) 1 1, .slice (some ⟨w.heap.size + 1, 0, none⟩) 1 1, .slice (some ⟨w.heap.size + 1 + 1, 0, none⟩) 2 2, .slice (some ⟨w.heap.size + 1 + 1 + 1, 0, none⟩) 2 2, .slice (some ⟨w.heap.size + 1 + 1 + 1 + 1, 0, none⟩) 2 2, .slice (some ⟨w.heap.size + 1 + 1 + 1 + 1 + 1, 0, none⟩) 3 3] 22)).heap[w.heap.size]? = some (.cells #[.int .i64 1] 3) := by
    iterate 6 refine alloc_old ?_
    exact heap_new_at (by simp)
  have G0 := Lib.hid G0
  have G1 : (((((((w.alloc (.cells #[.int .i64 1] 3)).alloc (.cells #[.int .i64 2] 3)).alloc (.cells #[.int .i64 1, .int .i64 2] 3)).alloc (.cells #[.int .i64 1, .int .i64 1] 3)).alloc (.cells #[.int .i64 2, .int .i64 1] 3)).alloc (.cells #[.int .i64 1, .int .i64 2, .int .i64 1] 3)).alloc (.cells #[.slice (some ⟨w.heap.size, 0, none⟩) 1 1, .slice (some ⟨w.heap.size + 1, 0, none⟩) 1 1, .slice (some ⟨w.heap.size + 1 + 1, 0, none⟩) 2 2, .slice (some ⟨w.heap.size + 1 + 1 + 1, 0, none⟩) 2 2, .slice (some ⟨w.heap.size + 1 + 1 + 1 + 1, 0, none⟩) 2 2, .slice (some ⟨w.heap.size + 1 + 1 + 1 + 1 + 1, 0, none⟩) 3 3] 22)).heap[w.heap.size + 1]? = some (.cells #[.int .i64 2] 3) := by
    iterate 5 refine alloc_old ?_
    exact heap_new_at (by simp)
  have G1 := Lib.hid G1
  have G2 : (((((((w.alloc (.cells #[.int .i64 1] 3)).alloc (.cells #[.int .i64 2] 3)).alloc (.cells #[.int .i64 1, .int .i64 2] 3)).alloc (.cells #[.int .i64 1, .int .i64 1] 3)).alloc (.cells #[.int .i64 2, .int .i64 1] 3)).alloc (.cells #[.int .i64 1, .int .i64 2, .int .i64 1] 3)).alloc (.cells #[.slice (some ⟨w.heap.size, 0, none⟩) 1 1, .slice (some ⟨w.heap.size + 1, 0, none⟩) 1 1, .slice (some ⟨w.heap.size + 1 + 1, 0, none⟩) 2 2, .slice (some ⟨w.heap.size + 1 + 1 + 1, 0, none⟩) 2 2, .slice (some ⟨w.heap.size + 1 + 1 + 1 + 1, 0, none⟩) 2 2, .slice (some ⟨w.heap.size + 1 + 1 + 1 + 1 + 1, 0, none⟩) 3 3] 22)).heap[w.heap.size + 1 + 1]? = some (.cells #[.int .i64 1, .int .i64 2] 3) := by
    iterate 4 refine alloc_old ?_
    exact heap_new_at (by simp)
  have G2 := Lib.hid G2
  have G3 : (((((((w.alloc (.cells #[.int .i64 1] 3)).alloc (.cells #[.int .i64 2] 3)).alloc (.cells #[.int .i64 1, .int .i64 2] 3)).alloc (.cells #[.int .i64 1, .int .i64 1] 3)).alloc (.cells #[.int .i64 2, .int .i64 1] 3)).alloc (.cells #[.int .i64 1, .int .i64 2, .int .i64 1] 3)).alloc (.cells #[.slice (some ⟨w.heap.size, 0, none⟩) 1 1, .slice (some ⟨w.heap.size + 1, 0, none⟩) 1 1, .slice (some ⟨w.heap.size + 1 + 1, 0, none⟩) 2 2, .slice (some ⟨w.heap.size + 1 + 1 + 1, 0, none⟩) 2 2, .slice (some ⟨w.heap.size + 1 + 1 + 1 + 1, 0, none⟩) 2 2, .slice (some ⟨w.heap.size + 1 + 1 + 1 + 1 + 1, 0, none⟩) 3 3] 22)).heap[w.heap.size + 1 + 1 + 1]? = some (.cells #[.int .i64 1, .int .i64 1] 3) := by
    iterate 3 refine alloc_old ?_
    exact heap_new_at (by simp)
  have G3 := Lib.hid G3
  have G4 : (((((((w.alloc (.cells #[.int .i64 1] 3)).alloc (.cells #[.int .i64 2] 3)).alloc (.cells #[.int .i64 1, .int .i64 2] 3)).alloc (.cells #[.int .i64 1, .int .i64 1] 3)).alloc (.cells #[.int .i64 2, .int .i64 1] 3)).alloc (.cells #[.int .i64 1, .int .i64 2, .int .i64 1] 3)).alloc (.cells #[.slice (some ⟨w.heap.size, 0, none⟩) 1 1, .slice (some ⟨w.heap.size + 1, 0, none⟩) 1 1, .slice (some ⟨w.heap.size + 1 + 1, 0, none⟩) 2 2, .slice (some ⟨w.heap.size + 1 + 1 + 1, 0, none⟩) 2 2, .slice (some ⟨w.heap.size + 1 + 1 + 1 + 1, 0, none⟩) 2 2, .slice (some ⟨w.heap.size + 1 + 1 + 1 + 1 + 1, 0, none⟩) 3 3] 22)).heap[w.heap.size + 1 + 1 + 1 + 1]? = some (.cells #[.int .i64 2, .int .i64 1] 3) := by
    iterate 2 refine alloc_old ?_
    exact heap_new_at (by simp)
  have G4 := Lib.hid G4
  have G5 : (((((((w.alloc (.cells #[.int .i64 1] 3)).alloc (.cells #[.int .i64 2] 3)).alloc (.cells #[.int .i64 1, .int .i64 2] 3)).alloc (.cells #[.int .i64 1, .int .i64 1] 3)).alloc (.cells #[.int .i64 2, .int .i64 1] 3)).alloc (.cells #[.int .i64 1, .int .i64 2, .int .i64 1] 3)).alloc (.cells #[.slice (some ⟨w.heap.size, 0, none⟩) 1 1, .slice (some ⟨w.heap.size + 1, 0, none⟩) 1 1, .slice (some ⟨w.heap.size + 1 + 1, 0, none⟩) 2 2, .slice (some ⟨w.heap.size + 1 + 1 + 1, 0, none⟩) 2 2, .slice (some ⟨w.heap.size + 1 + 1 + 1 + 1, 0, none⟩) 2 2, .slice (some ⟨w.heap.size + 1 + 1 + 1 + 1 + 1, 0, none⟩) 3 3] 22)).heap[w.heap.size + 1 + 1 + 1 + 1 + 1]? = some (.cells #[.int .i64 1, .int .i64 2, .int .i64 1] 3) := by
    iterate 1 refine alloc_old ?_
    exact heap_new_at (by simp)
  have G5 := Lib.hid G5
  have G6 : (((((((w.alloc (.cells #[.int .i64 1] 3)).alloc (.cells #[.int .i64 2] 3)).alloc (.cells #[.int .i64 1, .int .i64 2] 3)).alloc (.cells #[.int .i64 1, .int .i64 1] 3)).alloc (.cells #[.int .i64 2, .int .i64 1] 3)).alloc (.cells #[.int .i64 1, .int .i64 2, .int .i64 1] 3)).alloc (.cells #[.slice (some ⟨w.heap.size, 0, none⟩) 1 1, .slice (some ⟨w.heap.size + 1, 0, none⟩) 1 1, .slice (some ⟨w.heap.size + 1 + 1, 0, none⟩) 2 2, .slice (some ⟨w.heap.size + 1 + 1 + 1, 0, none⟩) 2 2, .slice (some ⟨w.heap.size + 1 + 1 + 1 + 1, 0, none⟩) 2 2, .slice (some ⟨w.heap.size + 1 + 1 + 1 + 1 + 1, 0, none⟩) 3 3] 22)).heap[w.heap.size + 1 + 1 + 1 + 1 + 1 + 1]? = some (.cells #[.slice (some ⟨w.heap.size, 0, none⟩) 1 1, .slice (some ⟨w.heap.size + 1, 0, none⟩) 1 1, .slice (some ⟨w.heap.size + 1 + 1, 0, none⟩) 2 2, .slice (some ⟨w.heap.size + 1 + 1 + 1, 0, none⟩) 2 2, .slice (some ⟨w.heap.size + 1 + 1 + 1 + 1, 0, none⟩) 2 2, .slice (some ⟨w.heap.size + 1 + 1 + 1 + 1 + 1, 0, none⟩) 3 3] 22) := by
    exact heap_new_at (by simp)
  have G6 := Lib.hid G6
  have hdn : Dr (((((((w.alloc (.cells #[.int .i64 1] 3)).alloc (.cells #[.int .i64 2] 3)).alloc (.cells #[.int .i64 1, .int .i64 2] 3)).alloc (.cells #[.int .i64 1, .int .i64 1] 3)).alloc (.cells #[.int .i64 2, .int .i64 1] 3)).alloc (.cells #[.int .i64 1, .int .i64 2, .int .i64 1] 3)).alloc (.cells #[.slice (some ⟨w.heap.size, 0, none⟩) 1 1, .slice (some ⟨w.heap.size + 1, 0, none⟩) 1 1, .slice (some ⟨w.heap.size + 1 + 1, 0, none⟩) 2 2, .slice (some ⟨w.heap.size + 1 + 1 + 1, 0, none⟩) 2 2, .slice (some ⟨w.heap.size + 1 + 1 + 1 + 1, 0, none⟩) 2 2, .slice (some ⟨w.heap.size + 1 + 1 + 1 + 1 + 1, 0, none⟩) 3 3] 22)) g := by
    iterate 7 refine dr_new ?_ _ _
    exact hd
  have hcn : Chg g (g + 1) w (((((((w.alloc (.cells #[.int .i64 1] 3)).alloc (.cells #[.int .i64 2] 3)).alloc (.cells #[.int .i64 1, .int .i64 2] 3)).alloc (.cells #[.int .i64 1, .int .i64 1] 3)).alloc (.cells #[.int .i64 2, .int .i64 1] 3)).alloc (.cells #[.int .i64 1, .int .i64 2, .int .i64 1] 3)).alloc (.cells #[.slice (some ⟨w.heap.size, 0, none⟩) 1 1, .slice (some ⟨w.heap.size + 1, 0, none⟩) 1 1, .slice (some ⟨w.heap.size + 1 + 1, 0, none⟩) 2 2, .slice (some ⟨w.heap.size + 1 + 1 + 1, 0, none⟩) 2 2, .slice (some ⟨w.heap.size + 1 + 1 + 1 + 1, 0, none⟩) 2 2, .slice (some ⟨w.heap.size + 1 + 1 + 1 + 1 + 1, 0, none⟩) 3 3] 22)) := by
    iterate 7 refine Chg.trans ?_ (chg_new g _ _ _)
    exact Chg.refl _ _ _
  go_enter Tryz.func29, Tryz.ntmps29
  go_wp2_with fail
  generalize (((((((w.alloc (.cells #[.int .i64 1] 3)).alloc (.cells #[.int .i64 2] 3)).alloc (.cells #[.int .i64 1, .int .i64 2] 3)).alloc (.cells #[.int .i64 1, .int .i64 1] 3)).alloc (.cells #[.int .i64 2, .int .i64 1] 3)).alloc (.cells #[.int .i64 1, .int .i64 2, .int .i64 1] 3)).alloc (.cells #[.slice (some ⟨w.heap.size, 0, none⟩) 1 1, .slice (some ⟨w.heap.size + 1, 0, none⟩) 1 1, .slice (some ⟨w.heap.size + 1 + 1, 0, none⟩) 2 2, .slice (some ⟨w.heap.size + 1 + 1 + 1, 0, none⟩) 2 2, .slice (some ⟨w.heap.size + 1 + 1 + 1 + 1, 0, none⟩) 2 2, .slice (some ⟨w.heap.size + 1 + 1 + 1 + 1 + 1, 0, none⟩) 3 3] 22)) = W at *
  refine (spec_l1Below 6 W g hdn (by decide)).mono ?_
  rintro e w1 ⟨_, rfl, ⟨k, rfl, hk1, -⟩, hch1, hd1⟩
  have hk : k < 6 := by have := hk1 (by decide); omega
  have hsz1 := hch1.size
  have hcs := hcn.trans hch1
  have T := chg_cell G6.out hch1 (by omega)
  have t0 := cell_of_row w1 (w.heap.size + 1 + 1 + 1 + 1 + 1 + 1) 0 _ _ _ T
  have t1 := cell_of_row w1 (w.heap.size + 1 + 1 + 1 + 1 + 1 + 1) 1 _ _ _ T
  have t2 := cell_of_row w1 (w.heap.size + 1 + 1 + 1 + 1 + 1 + 1) 2 _ _ _ T
  have t3 := cell_of_row w1 (w.heap.size + 1 + 1 + 1 + 1 + 1 + 1) 3 _ _ _ T
  have t4 := cell_of_row w1 (w.heap.size + 1 + 1 + 1 + 1 + 1 + 1) 4 _ _ _ T
  have t5 := cell_of_row w1 (w.heap.size + 1 + 1 + 1 + 1 + 1 + 1) 5 _ _ _ T
  simp only [List.getElem?_toArray, List.getElem?_cons_zero, List.getElem?_cons_succ] at t0 t1 t2 t3 t4 t5
  clear T hk1
  obtain rfl | rfl | rfl | rfl | rfl | rfl : k = 0 ∨ k = 1 ∨ k = 2 ∨ k = 3 ∨ k = 4 ∨ k = 5 := by omega
  · have C := chg_cell G0.out hch1 (by omega)
    go_wp2_with fail
    go_ret
    refine ⟨_, rfl, ⟨[1], ⟨_, _, rfl, Nat.le_refl _, by decide, fun j hj => ⟨_, _, rfl, by omega, by omega, ?_⟩⟩, by decide, by decide⟩, hcs, hd1⟩
    have hj' : j < 1 := hj
    refine ⟨_, List.getElem?_eq_getElem hj, ?_⟩
    rw [cell_of_row w1 (w.heap.size) _ _ _ _ C]
    simp only [Nat.zero_add, Nat.mul_one]
    match j, hj' with
    | 0, _ => rfl
  · have C := chg_cell G1.out hch1 (by omega)
    go_wp2_with fail
    go_ret
    refine ⟨_, rfl, ⟨[2], ⟨_, _, rfl, Nat.le_refl _, by decide, fun j hj => ⟨_, _, rfl, by omega, by omega, ?_⟩⟩, by decide, by decide⟩, hcs, hd1⟩
    have hj' : j < 1 := hj
    refine ⟨_, List.getElem?_eq_getElem hj, ?_⟩
    rw [cell_of_row w1 (w.heap.size + 1) _ _ _ _ C]
    simp only [Nat.zero_add, Nat.mul_one]
    match j, hj' with
    | 0, _ => rfl
  · have C := chg_cell G2.out hch1 (by omega)
    go_wp2_with fail
    go_ret
    refine ⟨_, rfl, ⟨[1, 2], ⟨_, _, rfl, Nat.le_refl _, by decide, fun j hj => ⟨_, _, rfl, by omega, by omega, ?_⟩⟩, by decide, by decide⟩, hcs, hd1⟩
    have hj' : j < 2 := hj
    refine ⟨_, List.getElem?_eq_getElem hj, ?_⟩
    rw [cell_of_row w1 (w.heap.size + 1 + 1) _ _ _ _ C]
    simp only [Nat.zero_add, Nat.mul_one]
    match j, hj' with
    | 0, _ => rfl
    | 1, _ => rfl
  · have C := chg_cell G3.out hch1 (by omega)
    go_wp2_with fail
    go_ret
    refine ⟨_, rfl, ⟨[1, 1], ⟨_, _, rfl, Nat.le_refl _, by decide, fun j hj => ⟨_, _, rfl, by omega, by omega, ?_⟩⟩, by decide, by decide⟩, hcs, hd1⟩
    have hj' : j < 2 := hj
    refine ⟨_, List.getElem?_eq_getElem hj, ?_⟩
    rw [cell_of_row w1 (w.heap.size + 1 + 1 + 1) _ _ _ _ C]
    simp only [Nat.zero_add, Nat.mul_one]
    match j, hj' with
    | 0, _ => rfl
    | 1, _ => rfl
  · have C := chg_cell G4.out hch1 (by omega)
    go_wp2_with fail
    go_ret
    refine ⟨_, rfl, ⟨[2, 1], ⟨_, _, rfl, Nat.le_refl _, by decide, fun j hj => ⟨_, _, rfl, by omega, by omega, ?_⟩⟩, by decide, by decide⟩, hcs, hd1⟩
    have hj' : j < 2 := hj
    refine ⟨_, List.getElem?_eq_getElem hj, ?_⟩
    rw [cell_of_row w1 (w.heap.size + 1 + 1 + 1 + 1) _ _ _ _ C]
    simp only [Nat.zero_add, Nat.mul_one]
    match j, hj' with
    | 0, _ => rfl
    | 1, _ => rfl
  · have C := chg_cell G5.out hch1 (by omega)
    go_wp2_with fail
    go_ret
    refine ⟨_, rfl, ⟨[1, 2, 1], ⟨_, _, rfl, Nat.le_refl _, by decide, fun j hj => ⟨_, _, rfl, by omega, by omega, ?_⟩⟩, by decide, by decide⟩, hcs, hd1⟩
    have hj' : j < 3 := hj
    refine ⟨_, List.getElem?_eq_getElem hj, ?_⟩
    rw [cell_of_row w1 (w.heap.size + 1 + 1 + 1 + 1 + 1) _ _ _ _ C]
    simp only [Nat.zero_add, Nat.mul_one]
    match j, hj' with
    | 0, _ => rfl
    | 1, _ => rfl
    | 2, _ => rfl
theorem ids_snoc {l : List R} {r : R} (h : ∀ x ∈ l, 0 ≤ x.id) (h1 : 0 ≤ r.id) : ∀ x ∈ l ++ [r], 0 ≤ x.id := by
  intro y hy
  rcases List.mem_append.1 hy with h3 | h3
  · exact h y h3
  · obtain rfl := List.mem_singleton.1 h3
    exact h1
set_option maxRecDepth 20000 in
set_option maxHeartbeats 4000000 in
theorem spec_l4Rows_t (cols : List Int) (x : Value) (most : Nat) (w : World) (g : Nat) (hd : Dr w g) {hi : Nat} (hx : RdI w (g + 1) hi x cols) (hhi : hi ≤ w.heap.size) (hm : cols.length ≤ 3) (ht : ∀ t ∈ cols, t = 1 ∨ t = 2) (hmo : most ≤ 1000) :
    Calls Tryz.prog 31 #[.pointer (some ⟨g, 0, none⟩), x, .int .i64 most] w (DrP w g fun v w' => ∃ l : List R, OwnR 88 24 w' w.heap.size w'.heap.size v l ∧ l.length ≤ most ∧ SmallR l ∧ FitR cols l ∧ ∀ r ∈ l, 0 ≤ r.id) := by
  have hlt := hd.lt
  have ht := Lib.hid ht
  obtain ⟨A, c, rfl, -, -⟩ := hx.form
  obtain ⟨i0, hif, hz0, hz1, hz2⟩ := info_parts info_Row
  have hif := Lib.hid hif
  have hz0 := Lib.hid hz0
  have hz1 := Lib.hid hz1
  have hz2 := Lib.hid hz2
  have own0 := Lib.hid (World.ownsRow_made w (base := w.heap.size) (e := 88) (size := 2) #[] 0 (Nat.le_refl _) (by decide) rfl)
  have hi1 : IntKind.i64.wrap ((most : Int) + 1) = (most : Int) + 1 := IntWalk.i64_in _ ⟨by omega, by omega⟩
  go_enter Tryz.func31, Tryz.ntmps31
  go_wp2_with fail
  have hd1 := dr_new hd #[] 88
  have hc0 := chg_new g w #[] 88
  refine (spec_l1Below 4 _ g hd1 (by decide)).mono ?_
  rintro e w1 ⟨_, rfl, ⟨id0, rfl, hid0, -⟩, hch1, hd2⟩
  have hid : id0 < 4 := by have := hid0 (by decide); omega
  have hch := hc0.trans hch1
  have own1 := Lib.hid (owns_chg own0.out hch1 hlt)
  clear own0 hid0 hch1 hd1 hd hc0
  go_wp2_with fail
  refine (spec_l1Below ((most : Int) + 1) _ g hd2 (by omega)).mono ?_
  rintro e w2 ⟨_, rfl, ⟨k, rfl, hk1, -⟩, hch1, hd1⟩
  have hk : k ≤ most := by have := hk1 (by omega); omega
  have hch := hch.trans hch1
  have own1 := Lib.hid (owns_chg own1.out hch1 hlt)
  clear hk1 hch1 hd2
  go_wp2_with fail
  go_loopw [7, 8, 9] (fun o d i wr => ∃ (q : Nat) (id : Int) (ps : List (R × Value)), i = .int .i64 q ∧ d = .int .i64 id ∧ 0 ≤ id ∧ id ≤ 4 + 5 * ps.length ∧ ps.length + q ≤ k ∧ Hid (SmallR (ps.map Prod.fst) ∧ FitR cols (ps.map Prod.fst) ∧ ∀ r ∈ ps.map Prod.fst, 0 ≤ r.id) ∧ OwnRp 88 24 wr w.heap.size wr.heap.size o ps ∧ Chg g (g + 1) w wr ∧ Dr wr g) (fun _ _ i _ => (intOf i).toNat)
  case atStart => exact ⟨k, id0, [], rfl, rfl, by omega, by simp; omega, by simp, Lib.hid ⟨by intro r hr; simp at hr, by intro r hr; simp at hr, by intro r hr; simp at hr⟩, .nil own1.out (fun b hb => (own1.out.lt b hb)), hch, hd1⟩
  case round =>
    obtain ⟨q, id, ps, rfl, rfl, hi0, hi4, hq, hsm, hown, hch, hd⟩ := hrel
    clear own1
    have Hsm := hsm
    clear hsm
    have hcs := hch.size
    by_cases hq0 : 0 < q
    · have hdq : decide (0 < (q : Int)) = true := decide_eq_true (by omega)
      go_wp2_with fail
      have hxr := (hx.same (.of_chg hch (.inr (Nat.le_refl _)) hhi))
      refine (spec_l4Vals_t cols _ _ g hd hxr (by omega) (by omega) ht.out).mono ?_
      rintro e w2 ⟨v2, rfl, ⟨l, ⟨hown2, hsm2⟩, hfit⟩, hch2, hd2⟩
      have hll := hfit.1
      have Hfit := Lib.hid hfit
      clear hfit
      have hl4 : l.length ≤ 4 := by omega
      obtain ⟨As, cs, rfl, -, -⟩ := hown2.cells.form
      have hout := rows_out hlt hown hch2
      have Hown := Lib.hid hown
      have Hsm2 := Lib.hid hsm2
      have Hown2 := Lib.hid hown2
      have hcs2 := hch2.size
      clear hown hown2 hsm2 hxr hd hll
      go_wp2_with (at_builtin; refine wpl_app rfl _ _ 38 rfl w.heap.size 88 i0 _ 2 32 Tryz.underlying38 hif.out hz0.out hz1.out hz2.out rfl (by decide) (by decide) (hout.alloc _) rfl (heap_alloc_new _ _) rfl rfl (by simp [Value.oneCell']) (by omega) (by simp; omega) ?_)
      intro v' w3 hown' hgrow hnb
      obtain ⟨h1, h2, h3⟩ := app_goodR hlt hch Hown.out hch2 hd2 Hown2.out hown' hgrow hnb
      have H1 := Lib.hid h1
      clear hown' hgrow hnb hout h1 hd2 hch2 hch
      have hx5 := rdI_new w3 [1, 1, 1, 2, 5] 3 (by decide)
      have hlt3 := h3.lt
      have hd5 := dr_new h3 (([1, 1, 1, 2, 5] : List Int).map (Value.int .i64)).toArray 3
      have hc5 := chg_new g w3 (([1, 1, 1, 2, 5] : List Int).map (Value.int .i64)).toArray 3
      go_wp2_with fail
      refine (spec_l1Int [1, 1, 1, 2, 5] _ _ g hd5 (RdG.imp hx5 hlt3 (Nat.le_refl _) fun _ _ _ _ _ h => h) (by simp) (by decide) (by decide)).mono ?_
      rintro e w5 ⟨_, rfl, ⟨j, hj, rfl⟩, hch5, hd6⟩
      have hj' : 1 ≤ j ∧ j ≤ 5 := by
        simp only [List.mem_cons, List.not_mem_nil, or_false] at hj
        omega
      have hc6 := hc5.trans hch5
      clear hj hx5 hd5
      have hid2 : IntKind.i64.wrap (id + j) = id + j := IntWalk.i64_in _ ⟨by omega, by omega⟩
      go_wp2_with fail
      go_roundw
      case rel => exact ⟨q - 1, _, ps ++ [(⟨id, l⟩, .slice As l.length cs)], by go_num, rfl, by omega, by simp; omega, by simp; omega, Lib.hid ⟨by rw [List.map_append]; exact Hsm.out.1.snoc hl4 Hsm2.out, by rw [List.map_append]; exact Hsm.out.2.1.snoc Hfit.out, by rw [List.map_append]; exact ids_snoc Hsm.out.2.2 hi0⟩, H1.out.imp (fun b h1 h2 => hc6.block b h2 (.inr (by omega))) (Nat.le_refl _) hc6.size, h2.trans hc6, hd6⟩
      case measure => simp [intOf]; omega
    · have hdq : decide (0 < (q : Int)) = false := decide_eq_false (by omega)
      go_wp2_with fail
      go_ret
      exact ⟨_, rfl, ⟨_, ⟨ps, rfl, hown⟩, by simp; omega, Hsm.out⟩, hch, hd⟩
end Go.Proofs.YtjogkbkkcaljhaaGreatDoor
