/- Draws: odd numbers, any value. -/
import Derived.Test.YtaapmimabbmdbaaD7
namespace Go.Proofs.Ytaapmimabbmdbaa
open Go.Sort Go.ChangeShapes Go.WideShapes Go.ChangeAt Go.RowKit Go.Lb

set_option maxRecDepth 20000 in
set_option maxHeartbeats 4000000 in
theorem spec_l1Odd (w : World) (g : Nat) (hd : Dr w g) :
    Calls Try.prog 67 #[.pointer (some ⟨g, 0, none⟩)] w (DrP w g fun v _ => ∃ n : Int, v = .int .i64 n) := by
  go_enter Try.func67, Try.ntmps67
  have hx := rdI_new w [-1, 0, 1, 2, 255, 256, 65535, 2147483647, 2147483648, 4294967295, 4294967296, -2147483648, 9223372036854775807, -9223372036854775808] 3 (by decide)
  have hlt1 := hd.lt
  have hd2 := dr_new hd (([-1, 0, 1, 2, 255, 256, 65535, 2147483647, 2147483648, 4294967295, 4294967296, -2147483648, 9223372036854775807, -9223372036854775808] : List Int).map (Value.int .i64)).toArray 3
  have hc2 := (chg_new g w (([-1, 0, 1, 2, 255, 256, 65535, 2147483647, 2147483648, 4294967295, 4294967296, -2147483648, 9223372036854775807, -9223372036854775808] : List Int).map (Value.int .i64)).toArray 3)
  go_wp2_with fail
  refine (spec_l1Int [-1, 0, 1, 2, 255, 256, 65535, 2147483647, 2147483648, 4294967295, 4294967296, -2147483648, 9223372036854775807, -9223372036854775808] _ _ g hd2 (RdG.imp hx hlt1 (Nat.le_refl _) fun _ _ _ _ _ h => h) (by simp) (by decide) (by decide)).mono ?_
  rintro e w3 ⟨_, rfl, ⟨j, -, rfl⟩, hch3, hd3⟩
  go_wp2_with fail
  go_ret
  exact ⟨_, rfl, ⟨_, rfl⟩, hc2.trans hch3, hd3⟩
set_option maxRecDepth 20000 in
set_option maxHeartbeats 4000000 in
theorem spec_l1Raw (w : World) (g : Nat) (hd : Dr w g) :
    Calls Try.prog 66 #[.pointer (some ⟨g, 0, none⟩)] w (DrP w g fun v _ => ∃ n : Int, v = .int .i64 n) := by
  go_enter Try.func66, Try.ntmps66
  go_wp2_with fail
  refine (spec_l1Once 3 w g hd (by decide)).mono ?_
  rintro e w1 ⟨_, rfl, ⟨b, rfl⟩, hch1, hd1⟩
  cases b
  · have hx := rdI_new w1 [1000000001, -1000000001, 2000000000, 2000000001, 0, -1] 3 (by decide)
    have hlt1 := hd1.lt
    have hd2 := dr_new hd1 (([1000000001, -1000000001, 2000000000, 2000000001, 0, -1] : List Int).map (Value.int .i64)).toArray 3
    have hc2 := (chg_new g w1 (([1000000001, -1000000001, 2000000000, 2000000001, 0, -1] : List Int).map (Value.int .i64)).toArray 3)
    go_wp2_with fail
    refine (spec_l1Int [1000000001, -1000000001, 2000000000, 2000000001, 0, -1] _ _ g hd2 (RdG.imp hx hlt1 (Nat.le_refl _) fun _ _ _ _ _ h => h) (by simp) (by decide) (by decide)).mono ?_
    rintro e w3 ⟨_, rfl, ⟨j, -, rfl⟩, hch3, hd3⟩
    go_wp2_with fail
    go_ret
    exact ⟨_, rfl, ⟨_, rfl⟩, hch1.trans (hc2.trans hch3), hd3⟩
  · go_wp2_with fail
    refine (spec_l1Odd w1 g hd1).mono ?_
    rintro e w3 ⟨_, rfl, ⟨j, rfl⟩, hch3, hd3⟩
    go_wp2_with fail
    go_ret
    exact ⟨_, rfl, ⟨_, rfl⟩, hch1.trans hch3, hd3⟩
def txts5 : List ByteArray := [⟨#[97, 32, 98]⟩, ⟨#[115, 101, 118, 101, 110, 55, 55]⟩, ⟨#[127]⟩, ⟨#[126]⟩, ⟨#[33]⟩]
theorem txts5_arr : (txts5.map Value.string).toArray = #[.string ⟨#[97, 32, 98]⟩, .string ⟨#[115, 101, 118, 101, 110, 55, 55]⟩, .string ⟨#[127]⟩, .string ⟨#[126]⟩, .string ⟨#[33]⟩] := rfl
theorem txts5_le (x : ByteArray) (h : x ∈ txts5) : x.size ≤ 100 := by
  simp only [txts5, List.mem_cons, List.not_mem_nil, or_false] at h
  rcases h with h | h | h | h | h <;> (subst h; decide)
set_option maxRecDepth 20000 in
set_option maxHeartbeats 4000000 in
theorem spec_l3Any (w : World) (g : Nat) (hd : Dr w g) :
    Calls Try.prog 65 #[.pointer (some ⟨g, 0, none⟩)] w (DrP w g fun v _ => ∃ x : V, GoodV v x) := by
  have hlt := hd.lt
  have hd1 := dr_new hd #[.int .i64 0, .int .i64 0, .string ⟨#[]⟩] 25
  have HR := Lib.hid (heap_alloc_new w (.cells #[.int .i64 0, .int .i64 0, .string ⟨#[]⟩] 25))
  have hc0 := chg_new g w #[.int .i64 0, .int .i64 0, .string ⟨#[]⟩] 25
  have hs0 : (w.alloc (.cells #[.int .i64 0, .int .i64 0, .string ⟨#[]⟩] 25)).heap.size = w.heap.size + 1 := by simp
  go_enter Try.func65, Try.ntmps65
  go_wp2_with fail
  generalize (w.alloc (.cells #[.int .i64 0, .int .i64 0, .string ⟨#[]⟩] 25)) = w0 at *
  refine (spec_l3Draw w0 g hd1).mono ?_
  rintro e w1 ⟨_, rfl, ⟨x, rfl, hx⟩, hch1, hd1⟩
  replace HR := Lib.hid (chg_cell HR.out hch1 hlt)
  have hz1 := hch1.size
  have hltx := hd1.lt
  have hc1 := hc0.trans hch1
  clear hc0 hch1 hd
  go_wp2_with fail
  have HX := Lib.hid (heap_alloc_new w1 (.cells #[.int .i64 x.ty, .int .i64 x.n, .string x.s] 25))
  have hR := HR.out
  replace HR := Lib.hid (((up_a1 w1 (.cells #[.int .i64 x.ty, .int .i64 x.n, .string x.s] 25)).block _ (Array.getElem?_eq_some_iff.1 hR).1).trans hR)
  have hd2 := dr_new hd1 #[.int .i64 x.ty, .int .i64 x.n, .string x.s] 25
  have hc2 := hc1.trans (chg_new g w1 #[.int .i64 x.ty, .int .i64 x.n, .string x.s] 25)
  generalize (w1.alloc (.cells #[.int .i64 x.ty, .int .i64 x.n, .string x.s] 25)) = w2 at *
  clear hR hc1 hd1
  refine (spec_l1Below 10 w2 g hd2 (by decide)).mono ?_
  rintro e w4 ⟨_, rfl, ⟨k, rfl, -, -⟩, hc4, hd4⟩
  replace HR := Lib.hid (chg_cell HR.out hc4 hlt)
  replace HX := Lib.hid (chg_cell HX.out hc4 hltx)
  have hc4 := hc2.trans hc4
  clear hc2 hd2
  have hlt4 := hd4.lt
  by_cases h0 : k = 0
  · subst h0
    have hx2 := rdI_new w4 [0, 1, 2, 3] 3 (by decide)
    have hdn := dr_new hd4 (([0, 1, 2, 3] : List Int).map (Value.int .i64)).toArray 3
    have hcn := (chg_new g w4 (([0, 1, 2, 3] : List Int).map (Value.int .i64)).toArray 3)
    go_wp2_with fail
    refine (spec_l1Int [0, 1, 2, 3] _ _ g hdn (RdG.imp hx2 hlt4 (Nat.le_refl _) fun _ _ _ _ _ h => h) (by simp) (by decide) (by decide)).mono ?_
    rintro e w3 ⟨_, rfl, ⟨j, -, rfl⟩, hch3, hd3⟩
    have hc3' := hcn.trans hch3
    have hc2 := hc4
    replace HR := Lib.hid (chg_cell HR.out hc3' hlt)
    replace HX := Lib.hid (chg_cell HX.out hc3' hltx)
    have hc3 := hc2.trans hc3'
    clear hch3 hcn hdn hd4 hx2
    have r0 := cell_of_row w3 (w.heap.size) 0 _ _ _ HR.out
    have r1 := cell_of_row w3 (w.heap.size) 1 _ _ _ HR.out
    have r2 := cell_of_row w3 (w.heap.size) 2 _ _ _ HR.out
    simp only [List.getElem?_toArray, List.getElem?_cons_zero, List.getElem?_cons_succ] at r0 r1 r2
    have x0 := cell_of_row w3 (w1.heap.size) 0 _ _ _ HX.out
    have x1 := cell_of_row w3 (w1.heap.size) 1 _ _ _ HX.out
    have x2 := cell_of_row w3 (w1.heap.size) 2 _ _ _ HX.out
    simp only [List.getElem?_toArray, List.getElem?_cons_zero, List.getElem?_cons_succ] at x0 x1 x2
    have f1 := fun o => frozen_of_row w3 w1.heap.size o _ _ HX.out
    have HS := set1 (o := 0) (a := .int .i64 j) HX.out
    simp only [List.setIfInBounds_toArray, List.set_cons_zero] at HS
    have f0 := fun o => frozen_of_row w3 w.heap.size o _ _ HR.out
    go_wp2_with fail
    refine bodyPost_ret (v := .agg #[.int .i64 j, .int .i64 x.n, .string x.s]) ?_ rfl ⟨_, rfl, ⟨⟨j, x.n, x.s⟩, rfl, hx⟩, ?_, ?_⟩
    · simp [results, Try.results65, go_sem, r0, r1, r2]
    · iterate 4 refine chg_set ?_ (by omega) _
      exact hc3
    · iterate 4 refine Dr.set ?_ (by omega) (by omega) _
      exact hd3
  by_cases h1 : k = 1
  · subst h1
    go_wp2_with fail
    refine (spec_l1Raw w4 g hd4).mono ?_
    rintro e w3 ⟨_, rfl, ⟨j, rfl⟩, hc3', hd3⟩
    have hc2 := hc4
    replace HR := Lib.hid (chg_cell HR.out hc3' hlt)
    replace HX := Lib.hid (chg_cell HX.out hc3' hltx)
    have hc3 := hc2.trans hc3'
    clear hd4
    have r0 := cell_of_row w3 (w.heap.size) 0 _ _ _ HR.out
    have r1 := cell_of_row w3 (w.heap.size) 1 _ _ _ HR.out
    have r2 := cell_of_row w3 (w.heap.size) 2 _ _ _ HR.out
    simp only [List.getElem?_toArray, List.getElem?_cons_zero, List.getElem?_cons_succ] at r0 r1 r2
    have x0 := cell_of_row w3 (w1.heap.size) 0 _ _ _ HX.out
    have x1 := cell_of_row w3 (w1.heap.size) 1 _ _ _ HX.out
    have x2 := cell_of_row w3 (w1.heap.size) 2 _ _ _ HX.out
    simp only [List.getElem?_toArray, List.getElem?_cons_zero, List.getElem?_cons_succ] at x0 x1 x2
    have f1 := fun o => frozen_of_row w3 w1.heap.size o _ _ HX.out
    have HS := set1 (o := 1) (a := .int .i64 j) HX.out
    simp only [List.setIfInBounds_toArray, List.set_cons_succ, List.set_cons_zero] at HS
    have f0 := fun o => frozen_of_row w3 w.heap.size o _ _ HR.out
    go_wp2_with fail
    refine bodyPost_ret (v := .agg #[.int .i64 x.ty, .int .i64 j, .string x.s]) ?_ rfl ⟨_, rfl, ⟨⟨x.ty, j, x.s⟩, rfl, hx⟩, ?_, ?_⟩
    · simp [results, Try.results65, go_sem, r0, r1, r2]
    · iterate 4 refine chg_set ?_ (by omega) _
      exact hc3
    · iterate 4 refine Dr.set ?_ (by omega) (by omega) _
      exact hd3
  by_cases h2 : k = 2
  · subst h2
    have hx2 := rdT_new w4 txts5 9 (by decide)
    have hdn := dr_new hd4 (txts5.map Value.string).toArray 9
    have hcn := (chg_new g w4 (txts5.map Value.string).toArray 9)
    rw [txts5_arr] at hx2 hdn hcn
    go_wp2_with fail
    refine (spec_l1Str txts5 _ _ g hdn (RdG.imp hx2 hlt4 (Nat.le_refl _) fun _ _ _ _ _ h => h) (by simp) (by decide) (by decide)).mono ?_
    rintro e w3 ⟨_, rfl, ⟨j, hj, rfl⟩, hch3, hd3⟩
    have hjs : j.size ≤ 100 := txts5_le j hj
    have hc3' := hcn.trans hch3
    have hc2 := hc4
    replace HR := Lib.hid (chg_cell HR.out hc3' hlt)
    replace HX := Lib.hid (chg_cell HX.out hc3' hltx)
    have hc3 := hc2.trans hc3'
    clear hch3 hcn hdn hd4 hx2 hj
    have r0 := cell_of_row w3 (w.heap.size) 0 _ _ _ HR.out
    have r1 := cell_of_row w3 (w.heap.size) 1 _ _ _ HR.out
    have r2 := cell_of_row w3 (w.heap.size) 2 _ _ _ HR.out
    simp only [List.getElem?_toArray, List.getElem?_cons_zero, List.getElem?_cons_succ] at r0 r1 r2
    have x0 := cell_of_row w3 (w1.heap.size) 0 _ _ _ HX.out
    have x1 := cell_of_row w3 (w1.heap.size) 1 _ _ _ HX.out
    have x2 := cell_of_row w3 (w1.heap.size) 2 _ _ _ HX.out
    simp only [List.getElem?_toArray, List.getElem?_cons_zero, List.getElem?_cons_succ] at x0 x1 x2
    have f1 := fun o => frozen_of_row w3 w1.heap.size o _ _ HX.out
    have HS := set1 (o := 2) (a := .string j) HX.out
    simp only [List.setIfInBounds_toArray, List.set_cons_succ, List.set_cons_zero] at HS
    have f0 := fun o => frozen_of_row w3 w.heap.size o _ _ HR.out
    go_wp2_with fail
    refine bodyPost_ret (v := .agg #[.int .i64 x.ty, .int .i64 x.n, .string j]) ?_ rfl ⟨_, rfl, ⟨⟨x.ty, x.n, j⟩, rfl, hjs⟩, ?_, ?_⟩
    · simp [results, Try.results65, go_sem, r0, r1, r2]
    · iterate 4 refine chg_set ?_ (by omega) _
      exact hc3
    · iterate 4 refine Dr.set ?_ (by omega) (by omega) _
      exact hd3
  · have b0 : ((k : Int) == 0) = false := by simp; omega
    have b1 : ((k : Int) == 1) = false := by simp; omega
    have b2 : ((k : Int) == 2) = false := by simp; omega
    clear h0 h1 h2
    have hc3 := hc4
    have hd3 := hd4
    have r0 := cell_of_row w4 (w.heap.size) 0 _ _ _ HR.out
    have r1 := cell_of_row w4 (w.heap.size) 1 _ _ _ HR.out
    have r2 := cell_of_row w4 (w.heap.size) 2 _ _ _ HR.out
    simp only [List.getElem?_toArray, List.getElem?_cons_zero, List.getElem?_cons_succ] at r0 r1 r2
    have x0 := cell_of_row w4 (w1.heap.size) 0 _ _ _ HX.out
    have x1 := cell_of_row w4 (w1.heap.size) 1 _ _ _ HX.out
    have x2 := cell_of_row w4 (w1.heap.size) 2 _ _ _ HX.out
    simp only [List.getElem?_toArray, List.getElem?_cons_zero, List.getElem?_cons_succ] at x0 x1 x2
    have f0 := fun o => frozen_of_row w4 w.heap.size o _ _ HR.out
    go_wp2_with fail
    refine bodyPost_ret (v := .agg #[.int .i64 x.ty, .int .i64 x.n, .string x.s]) ?_ rfl ⟨_, rfl, ⟨⟨x.ty, x.n, x.s⟩, rfl, hx⟩, ?_, ?_⟩
    · simp [results, Try.results65, go_sem, r0, r1, r2]
    · iterate 3 refine chg_set ?_ (by omega) _
      exact hc3
    · iterate 3 refine Dr.set ?_ (by omega) (by omega) _
      exact hd3
end Go.Proofs.Ytaapmimabbmdbaa
