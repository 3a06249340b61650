/- Draws: texts, values. -/
import Derived.Test.YtnldneogjdljkaaD4
namespace Go.Proofs.Ytnldneogjdljkaa
open Go.Sort Go.ChangeShapes Go.WideShapes Go.ChangeAt Go.RowKit Go.Lb

def txts8 : List ByteArray := [⟨#[]⟩, ⟨#[97]⟩, ⟨#[98]⟩, ⟨#[97, 98]⟩, ⟨#[114, 101, 100]⟩, ⟨#[98, 108, 117, 101]⟩, ⟨#[103, 114, 101, 101, 110]⟩, ⟨#[122, 122, 122, 122, 122, 122]⟩]
theorem txts8_arr : (txts8.map Value.string).toArray = #[.string ⟨#[]⟩, .string ⟨#[97]⟩, .string ⟨#[98]⟩, .string ⟨#[97, 98]⟩, .string ⟨#[114, 101, 100]⟩, .string ⟨#[98, 108, 117, 101]⟩, .string ⟨#[103, 114, 101, 101, 110]⟩, .string ⟨#[122, 122, 122, 122, 122, 122]⟩] := rfl
theorem txts8_le (x : ByteArray) (h : x ∈ txts8) : x.size ≤ 100 := by
  simp only [txts8, List.mem_cons, List.not_mem_nil, or_false] at h
  rcases h with h | h | h | h | h | h | h | h <;> (subst h; decide)
set_option maxRecDepth 20000 in
set_option maxHeartbeats 4000000 in
theorem spec_l3Text (w : World) (g : Nat) (hd : Dr w g) :
    Calls Try.prog 110 #[.pointer (some ⟨g, 0, none⟩)] w (DrP w g fun v _ => ∃ x : V, GoodV v x) := by
  have hlt := hd.lt
  have hd1 := dr_new hd #[.int .i64 0, .int .i64 0, .string ⟨#[]⟩] 87
  have HR := Lib.hid (heap_alloc_new w (.cells #[.int .i64 0, .int .i64 0, .string ⟨#[]⟩] 87))
  have hc0 := chg_new g w #[.int .i64 0, .int .i64 0, .string ⟨#[]⟩] 87
  go_enter Try.func110, Try.ntmps110
  go_wp2_with fail
  have hlt1 := hd1.lt
  have hx := rdT_new (w.alloc (.cells #[.int .i64 0, .int .i64 0, .string ⟨#[]⟩] 87)) txts8 9 (by decide)
  rw [txts8_arr] at hx
  simp only [World.size_alloc] at hx hlt1
  have hd2 := dr_new hd1 #[.string ⟨#[]⟩, .string ⟨#[97]⟩, .string ⟨#[98]⟩, .string ⟨#[97, 98]⟩, .string ⟨#[114, 101, 100]⟩, .string ⟨#[98, 108, 117, 101]⟩, .string ⟨#[103, 114, 101, 101, 110]⟩, .string ⟨#[122, 122, 122, 122, 122, 122]⟩] 9
  have hc2 := hc0.trans (chg_new g _ #[.string ⟨#[]⟩, .string ⟨#[97]⟩, .string ⟨#[98]⟩, .string ⟨#[97, 98]⟩, .string ⟨#[114, 101, 100]⟩, .string ⟨#[98, 108, 117, 101]⟩, .string ⟨#[103, 114, 101, 101, 110]⟩, .string ⟨#[122, 122, 122, 122, 122, 122]⟩] 9)
  replace HR := Lib.hid (chg_cell HR.out (chg_new g _ #[.string ⟨#[]⟩, .string ⟨#[97]⟩, .string ⟨#[98]⟩, .string ⟨#[97, 98]⟩, .string ⟨#[114, 101, 100]⟩, .string ⟨#[98, 108, 117, 101]⟩, .string ⟨#[103, 114, 101, 101, 110]⟩, .string ⟨#[122, 122, 122, 122, 122, 122]⟩] 9) hlt)
  refine (spec_l1Str txts8 _ _ g hd2 (RdG.imp hx hlt1 (Nat.le_refl _) fun _ _ _ _ _ h => h) (by simp) (by decide) (by decide)).mono ?_
  rintro e w3 ⟨_, rfl, ⟨j, hj, rfl⟩, hch3, hd3⟩
  have hjs : j.size ≤ 100 := txts8_le j hj
  clear hj
  replace HR := Lib.hid (chg_cell HR.out hch3 hlt)
  have hc3 := hc2.trans hch3
  have r0 := cell_of_row w3 w.heap.size 0 _ _ _ HR.out
  have r1 := cell_of_row w3 w.heap.size 1 _ _ _ HR.out
  have r2 := cell_of_row w3 w.heap.size 2 _ _ _ HR.out
  simp only [List.getElem?_toArray, List.getElem?_cons_zero, List.getElem?_cons_succ] at r0 r1 r2
  have f0 := fun o => frozen_of_row w3 w.heap.size o _ _ HR.out
  go_wp2_with fail
  refine bodyPost_ret (v := .agg #[.int .i64 2, .int .i64 0, .string j]) ?_ rfl ⟨_, rfl, ⟨⟨2, 0, j⟩, rfl, hjs⟩, ?_, ?_⟩
  · simp [results, Try.results110, go_sem, r0, r1, r2]
  · iterate 3 refine chg_set ?_ (Nat.le_refl _) _
    exact hc3
  · iterate 3 refine Dr.set ?_ (by omega) (by omega) _
    exact hd3
set_option maxRecDepth 20000 in
set_option maxHeartbeats 4000000 in
theorem spec_l3Draw (w : World) (g : Nat) (hd : Dr w g) :
    Calls Try.prog 111 #[.pointer (some ⟨g, 0, none⟩)] w (DrP w g fun v _ => ∃ x : V, GoodV v x) := by
  have hlt := hd.lt
  have hd1 := dr_new hd #[.int .i64 0, .int .i64 0, .string ⟨#[]⟩] 87
  have HR := Lib.hid (heap_alloc_new w (.cells #[.int .i64 0, .int .i64 0, .string ⟨#[]⟩] 87))
  have hc0 := chg_new g w #[.int .i64 0, .int .i64 0, .string ⟨#[]⟩] 87
  go_enter Try.func111, Try.ntmps111
  go_wp2_with fail
  refine (spec_l1Once 2 _ g hd1 (by decide)).mono ?_
  rintro e w1 ⟨_, rfl, ⟨b, rfl⟩, hch1, hd1⟩
  replace HR := Lib.hid (chg_cell HR.out hch1 hlt)
  have hc1 := hc0.trans hch1
  clear hc0 hch1
  cases b
  · go_wp2_with fail
    refine (spec_l3Text w1 g hd1).mono ?_
    rintro e w3 ⟨_, rfl, ⟨x, rfl, hx⟩, hch3, hd3⟩
    replace HR := Lib.hid (chg_cell HR.out hch3 hlt)
    have hc3 := hc1.trans hch3
    have r0 := cell_of_row w3 w.heap.size 0 _ _ _ HR.out
    have r1 := cell_of_row w3 w.heap.size 1 _ _ _ HR.out
    have r2 := cell_of_row w3 w.heap.size 2 _ _ _ HR.out
    simp only [List.getElem?_toArray, List.getElem?_cons_zero, List.getElem?_cons_succ] at r0 r1 r2
    have f0 := fun o => frozen_of_row w3 w.heap.size o _ _ HR.out
    go_wp2_with fail
    refine bodyPost_ret (v := .agg #[.int .i64 x.ty, .int .i64 x.n, .string x.s]) ?_ rfl ⟨_, rfl, ⟨x, rfl, hx⟩, ?_, ?_⟩
    · simp [results, Try.results111, go_sem, r0, r1, r2]
    · iterate 3 refine chg_set ?_ (Nat.le_refl _) _
      exact hc3
    · iterate 3 refine Dr.set ?_ (by omega) (by omega) _
      exact hd3
  · go_wp2_with fail
    refine (spec_l3Int w1 g hd1).mono ?_
    rintro e w3 ⟨_, rfl, ⟨x, rfl, hx⟩, hch3, hd3⟩
    replace HR := Lib.hid (chg_cell HR.out hch3 hlt)
    have hc3 := hc1.trans hch3
    have r0 := cell_of_row w3 w.heap.size 0 _ _ _ HR.out
    have r1 := cell_of_row w3 w.heap.size 1 _ _ _ HR.out
    have r2 := cell_of_row w3 w.heap.size 2 _ _ _ HR.out
    simp only [List.getElem?_toArray, List.getElem?_cons_zero, List.getElem?_cons_succ] at r0 r1 r2
    have f0 := fun o => frozen_of_row w3 w.heap.size o _ _ HR.out
    go_wp2_with fail
    refine bodyPost_ret (v := .agg #[.int .i64 x.ty, .int .i64 x.n, .string x.s]) ?_ rfl ⟨_, rfl, ⟨x, rfl, hx⟩, ?_, ?_⟩
    · simp [results, Try.results111, go_sem, r0, r1, r2]
    · iterate 3 refine chg_set ?_ (Nat.le_refl _) _
      exact hc3
    · iterate 3 refine Dr.set ?_ (by omega) (by omega) _
      exact hd3
end Go.Proofs.Ytnldneogjdljkaa
