/- Draws: numbers, values. -/
import Derived.Test.YtnldneogjdljkaaD3
namespace Go.Proofs.Ytnldneogjdljkaa
open Go.Sort Go.ChangeShapes Go.WideShapes Go.ChangeAt Go.RowKit Go.Lb

theorem dr_new {w : World} {g : Nat} (hd : Dr w g) (cs : Array Value) (t : TypeId) : Dr (w.alloc (.cells cs t)) g := hd.below (up_a1 w _)
theorem chg_new (g : Nat) (w : World) (cs : Array Value) (t : TypeId) : Chg g (g + 1) w (w.alloc (.cells cs t)) := .of_below (up_a1 w _)
set_option maxRecDepth 20000 in
set_option maxHeartbeats 4000000 in
theorem spec_l1Num (w : World) (g : Nat) (hd : Dr w g) :
    Calls Try.prog 98 #[.pointer (some ⟨g, 0, none⟩)] w (DrP w g fun v _ => ∃ n : Int, v = .int .i64 n ∧ -1000000000 ≤ n ∧ n ≤ 1000000000) := by
  go_enter Try.func98, Try.ntmps98
  go_wp2_with fail
  refine (spec_l1Below 5 w g hd (by decide)).mono ?_
  rintro e w1 ⟨_, rfl, ⟨k, rfl, hk1, hk2⟩, hch1, hd1⟩
  clear hk1 hk2
  by_cases h0 : k = 0
  · subst h0
    go_wp2_with fail
    refine (spec_l1Below 300 w1 g hd1 (by decide)).mono ?_
    rintro e w2 ⟨_, rfl, ⟨j, rfl, hj1, hj2⟩, hch2, hd2⟩
    have hj := hj1 (by decide)
    clear hj1 hj2
    go_wp2_with fail
    go_ret
    exact ⟨_, rfl, ⟨_, rfl, by omega, by omega⟩, hch1.trans hch2, hd2⟩
  by_cases h1 : k = 1
  · subst h1
    have hd2 := dr_new hd1 (([0, -1, 1, 63, 64, -64, -65, 8191, 8192, 1000000000, -1000000000, 999999999] : List Int).map (Value.int .i64)).toArray 3
    have hx := rdI_new w1 [0, -1, 1, 63, 64, -64, -65, 8191, 8192, 1000000000, -1000000000, 999999999] 3 (by decide)
    have hc2 := chg_new g w1 (([0, -1, 1, 63, 64, -64, -65, 8191, 8192, 1000000000, -1000000000, 999999999] : List Int).map (Value.int .i64)).toArray 3
    have hlt := hd1.lt
    go_wp2_with fail
    refine (spec_l1Int [0, -1, 1, 63, 64, -64, -65, 8191, 8192, 1000000000, -1000000000, 999999999] _ _ g hd2 (RdG.imp hx hlt (Nat.le_refl _) fun _ _ _ _ _ h => h) (by simp) (by decide) (by decide)).mono ?_
    rintro e w3 ⟨_, rfl, ⟨j, hj, rfl⟩, hch3, hd3⟩
    have hj' : -1000000000 ≤ j ∧ j ≤ 1000000000 := by
      simp only [List.mem_cons, List.not_mem_nil, or_false] at hj
      omega
    clear hj
    go_wp2_with fail
    go_ret
    exact ⟨_, rfl, ⟨_, rfl, by omega, by omega⟩, (hch1.trans hc2).trans hch3, hd3⟩
  by_cases h2 : k = 2
  · subst h2
    go_wp2_with fail
    refine (spec_l1Below 30000 w1 g hd1 (by decide)).mono ?_
    rintro e w2 ⟨_, rfl, ⟨j, rfl, hj1, hj2⟩, hch2, hd2⟩
    have hj := hj1 (by decide)
    clear hj1 hj2
    go_wp2_with fail
    refine (spec_l1Below 30000 w2 g hd2 (by decide)).mono ?_
    rintro e w3 ⟨_, rfl, ⟨i, rfl, hi1, hi2⟩, hch3, hd3⟩
    have hi := hi1 (by decide)
    clear hi1 hi2
    have hm1 : (j : Int) * ((i : Int) - 15000) ≤ 30000 * 15000 := by
      rcases Int.le_total 0 ((i : Int) - 15000) with h | h
      · exact Int.mul_le_mul (by omega) (by omega) h (by omega)
      · have := Int.mul_nonneg (show (0 : Int) ≤ j by omega) (show (0 : Int) ≤ 15000 - i by omega)
        have h2 : (j : Int) * ((i : Int) - 15000) = -((j : Int) * (15000 - i)) := by rw [← Int.mul_neg]; congr 1; omega
        omega
    have hm2 : -(30000 * 15000) ≤ (j : Int) * ((i : Int) - 15000) := by
      rcases Int.le_total 0 ((i : Int) - 15000) with h | h
      · have := Int.mul_nonneg (show (0 : Int) ≤ j by omega) h
        omega
      · have h3 : (j : Int) * (15000 - i) ≤ 30000 * 15000 := Int.mul_le_mul (by omega) (by omega) (by omega) (by omega)
        have h2 : (j : Int) * ((i : Int) - 15000) = -((j : Int) * (15000 - i)) := by rw [← Int.mul_neg]; congr 1; omega
        omega
    go_wp2_with fail
    go_ret
    exact ⟨_, rfl, ⟨_, rfl, by omega, by omega⟩, (hch1.trans hch2).trans hch3, hd3⟩
  · go_wp2_with fail
    refine (spec_l1Below 20 w1 g hd1 (by decide)).mono ?_
    rintro e w2 ⟨_, rfl, ⟨j, rfl, hj1, hj2⟩, hch2, hd2⟩
    have hj := hj1 (by decide)
    clear hj1 hj2
    go_wp2_with fail
    go_ret
    exact ⟨_, rfl, ⟨_, rfl, by omega, by omega⟩, hch1.trans hch2, hd2⟩
theorem Dr.set {w : World} {g b o : Nat} (hd : Dr w g) (hb : b ≠ g) (hg : g ≤ b) (u : Value) : Dr (w.setCell ⟨b, o, none⟩ u) g := by
  obtain ⟨code, A, c, i, h1, hx, hi, hc⟩ := hd
  exact ⟨code, A, c, i, h1, hx.same fun k _ hk => Below.heap_setCell w ⟨b, o, none⟩ u k (by show k ≠ b; omega), hi, (Below.heap_setCell w ⟨b, o, none⟩ u g (by show g ≠ b; omega)).trans hc⟩
theorem chg_set {w w' : World} {g b o : Nat} (h : Chg g (g + 1) w w') (hb : w.heap.size ≤ b) (u : Value) : Chg g (g + 1) w (w'.setCell ⟨b, o, none⟩ u) :=
  ⟨h.os, h.tape, h.output, by simpa [World.setCell] using h.size, fun k hk hne => (Below.heap_setCell w' ⟨b, o, none⟩ u k (by show k ≠ b; omega)).trans (h.block k hk hne)⟩
theorem chg_cell {w w' : World} {g b : Nat} {x : Obj} (hx : w.heap[b]? = some x) (h : Chg g (g + 1) w w') (hb : g < b) : w'.heap[b]? = some x :=
  (h.block b (Array.getElem?_eq_some_iff.1 hx).1 (.inr hb)).trans hx
/-- A value, as it is handed back. -/
def GoodV (v : Value) (x : V) : Prop := v = .agg #[.int .i64 x.ty, .int .i64 x.n, .string x.s] ∧ x.s.size ≤ 100
set_option maxRecDepth 20000 in
set_option maxHeartbeats 4000000 in
theorem spec_l3Int (w : World) (g : Nat) (hd : Dr w g) :
    Calls Try.prog 109 #[.pointer (some ⟨g, 0, none⟩)] w (DrP w g fun v _ => ∃ x : V, GoodV v x) := by
  have hlt := hd.lt
  have hd1 := dr_new hd #[.int .i64 0, .int .i64 0, .string ByteArray.empty] 87
  have HR := Lib.hid (heap_alloc_new w (.cells #[.int .i64 0, .int .i64 0, .string ByteArray.empty] 87))
  have hc0 := chg_new g w #[.int .i64 0, .int .i64 0, .string ByteArray.empty] 87
  go_enter Try.func109, Try.ntmps109
  go_wp2_with fail
  refine (spec_l1Once 4 _ g hd1 (by decide)).mono ?_
  rintro e w1 ⟨_, rfl, ⟨b, rfl⟩, hch1, hd1⟩
  replace HR := Lib.hid (chg_cell HR.out hch1 hlt)
  have hc1 := hc0.trans hch1
  clear hc0 hch1
  cases b
  · have hx := rdI_new w1 [0, 1, 2, 3, 7, -1] 3 (by decide)
    have hlt1 := hd1.lt
    have hd2 := dr_new hd1 (([0, 1, 2, 3, 7, -1] : List Int).map (Value.int .i64)).toArray 3
    have hc2 := hc1.trans (chg_new g w1 (([0, 1, 2, 3, 7, -1] : List Int).map (Value.int .i64)).toArray 3)
    replace HR := Lib.hid (chg_cell HR.out (chg_new g w1 (([0, 1, 2, 3, 7, -1] : List Int).map (Value.int .i64)).toArray 3) hlt)
    go_wp2_with fail
    refine (spec_l1Int [0, 1, 2, 3, 7, -1] _ _ g hd2 (RdG.imp hx hlt1 (Nat.le_refl _) fun _ _ _ _ _ h => h) (by simp) (by decide) (by decide)).mono ?_
    rintro e w3 ⟨_, rfl, ⟨j, hj, rfl⟩, hch3, hd3⟩
    clear hj
    replace HR := Lib.hid (chg_cell HR.out hch3 hlt)
    have hc3 := hc2.trans hch3
    have r0 := cell_of_row w3 w.heap.size 0 _ _ _ HR.out
    have r1 := cell_of_row w3 w.heap.size 1 _ _ _ HR.out
    have r2 := cell_of_row w3 w.heap.size 2 _ _ _ HR.out
    simp only [List.getElem?_toArray, List.getElem?_cons_zero, List.getElem?_cons_succ] at r0 r1 r2
    have f0 := fun o => frozen_of_row w3 w.heap.size o _ _ HR.out
    go_wp2_with fail
    refine bodyPost_ret (v := .agg #[.int .i64 1, .int .i64 j, .string ByteArray.empty]) ?_ rfl ⟨_, rfl, ⟨⟨1, j, ByteArray.empty⟩, rfl, by show ByteArray.empty.size ≤ 100; decide⟩, ?_, ?_⟩
    · simp [results, Try.results109, go_sem, r0, r1, r2]; rfl
    · iterate 3 refine chg_set ?_ (Nat.le_refl _) _
      exact hc3
    · iterate 3 refine Dr.set ?_ (by omega) (by omega) _
      exact hd3
  · go_wp2_with fail
    refine (spec_l1Num w1 g hd1).mono ?_
    rintro e w3 ⟨_, rfl, ⟨j, rfl, hj1, hj2⟩, hch3, hd3⟩
    replace HR := Lib.hid (chg_cell HR.out hch3 hlt)
    have hc3 := hc1.trans hch3
    have r0 := cell_of_row w3 w.heap.size 0 _ _ _ HR.out
    have r1 := cell_of_row w3 w.heap.size 1 _ _ _ HR.out
    have r2 := cell_of_row w3 w.heap.size 2 _ _ _ HR.out
    simp only [List.getElem?_toArray, List.getElem?_cons_zero, List.getElem?_cons_succ] at r0 r1 r2
    have f0 := fun o => frozen_of_row w3 w.heap.size o _ _ HR.out
    go_wp2_with fail
    refine bodyPost_ret (v := .agg #[.int .i64 1, .int .i64 j, .string ByteArray.empty]) ?_ rfl ⟨_, rfl, ⟨⟨1, j, ByteArray.empty⟩, rfl, by show ByteArray.empty.size ≤ 100; decide⟩, ?_, ?_⟩
    · simp [results, Try.results109, go_sem, r0, r1, r2]; rfl
    · iterate 3 refine chg_set ?_ (Nat.le_refl _) _
      exact hc3
    · iterate 3 refine Dr.set ?_ (by omega) (by omega) _
      exact hd3
end Go.Proofs.Ytnldneogjdljkaa
