/- FindRow: contracts. -/
import Derived.Test.YtaapmimabbmdbaaS17
namespace Go.Lb
def findRow (l : List R) (id : Int) : Option R := l.find? fun r => r.id == id
def foundRow (l : List R) (id : Int) : R := (findRow l id).getD ⟨0, []⟩
def hasRow (l : List R) (id : Int) : Bool := (findRow l id).isSome
theorem find_no {l : List R} {id : Int} (h : (l.take l.length).all (fun r => r.id != id) = true) : foundRow l id = ⟨0, []⟩ ∧ hasRow l id = false := by
  rw [List.take_length] at h
  have : findRow l id = none := by
    unfold findRow
    rw [List.find?_eq_none]
    intro x hx
    have := List.all_eq_true.1 h x hx
    simpa using this
  simp [foundRow, hasRow, this]
theorem find_yes {l : List R} {id : Int} {k : Nat} {y : R} (h : (l.take k).all (fun r => r.id != id) = true) (hy : l[k]? = some y) (he : y.id = id) : foundRow l id = y ∧ hasRow l id = true := by
  have h1 : findRow l id = some y := by
    unfold findRow
    have hd : l = l.take k ++ (y :: l.drop (k + 1)) := by rw [← drop_of_get hy, List.take_append_drop]
    rw [hd, List.find?_append]
    have h0 : (l.take k).find? (fun r => r.id == id) = none := by
      rw [List.find?_eq_none]
      intro x hx
      have := List.all_eq_true.1 h x hx
      simpa using this
    rw [h0]
    simp [he]
  simp [foundRow, hasRow, h1]
end Go.Lb
namespace Go.Proofs.Ytaapmimabbmdbaa
open Go.Sort Go.ChangeShapes Go.WideShapes Go.ChangeAt Go.RowKit Go.Lb

set_option maxHeartbeats 1000000 in
theorem spec_FindRow (l : List R) (x : Value) (id : Int) (w : World) {lo hi : Nat} (hx : RdR w lo hi x l) (hhi : hi ≤ w.heap.size) (hn : lensR l ≤ 1048576) :
    Calls Try.prog 29 #[x, .int .i64 id] w fun e w' => ∃ v, e = .returned (.tuple #[.agg #[.int .i64 (foundRow l id).id, v], .bool (hasRow l id)]) ∧ Own 25 3 w' w.heap.size w'.heap.size v (foundRow l id).l.length ((foundRow l id).l.flatMap V.cells) ∧ Below w.heap.size w w' := by
  obtain ⟨A, c, rfl, hl, hl2⟩ := hx.form
  have Hn := Lib.hid hn
  clear hn
  go_enter Try.func29, Try.ntmps29
  go_wp2_with fail
  go_loopw [6] (fun i wr => ∃ k : Nat, i = .int .i64 k ∧ k ≤ l.length ∧ (l.take k).all (fun r => r.id != id) = true ∧ wr.heap[w.heap.size]? = some (.cells #[.int .i64 0, .slice none 0 0] 44) ∧ Below w.heap.size w wr) (fun i _ => l.length - (intOf i).toNat)
  case atStart => exact ⟨0, rfl, by omega, by simp, heap_alloc_new w _, (Below.refl _ _).alloc (Nat.le_refl _) _⟩
  case round =>
    obtain ⟨k, rfl, hk, hall, hc, hb⟩ := hrel
    have Hall := Lib.hid hall
    have hg : w.heap.size < wr.heap.size := (Array.getElem?_eq_some_iff.1 hc).1
    have Hc := Lib.hid hc
    clear hall hc
    by_cases hkl : k < l.length
    · obtain ⟨b, off, y, sv, rfl, -, hbl, hyk, e0, e1, hr⟩ := (hx.below hb hhi).at hkl
      have hbs := hb.size
      by_cases he : y.id = id
      · have H := Lib.hid (find_yes Hall.out hyk he)
        have hyl : y.l.length ≤ 1048576 := Nat.le_trans (len_of_lens (mem_of_get hyk)) Hn.out
        have hd : (y.id == id) = true := by simp [he]
        clear he hyk
        go_wp2_with fail
        refine (spec_l4Copy y sv _ hr (by omega) (by omega)).mono ?_
        rintro e w1 ⟨v, rfl, hown, hb1⟩
        have hc1 := (hb1.block w.heap.size hg).trans Hc.out
        have d0 := cell_of_row w1 _ 0 _ _ _ hc1
        have d1 := cell_of_row w1 _ 1 _ _ _ hc1
        have df := fun o => frozen_of_row w1 _ o _ _ hc1
        obtain ⟨A', c', rfl, -, -, -⟩ := hown.cells
        have Hown := Lib.hid hown
        have hs1 := hb1.size
        have hb2 := hb.trans (hb1.mono hb.size)
        clear hown hc1 hb1 hr e0 e1
        go_wp2_with fail
        refine bodyPost_ret (v := .tuple #[.agg #[.int .i64 y.id, .slice A' y.l.length c'], .bool true]) ?_ rfl ⟨.slice A' y.l.length c', by rw [H.out.1, H.out.2], ?_, ?_⟩
        · simp [results, Try.results29, go_sem, d0, d1]
        · rw [H.out.1]
          refine Own.more (lo := wr.heap.size) (hi := w1.heap.size) ?_ (by omega) (Nat.le_of_eq (by simp [World.setCell]))
          exact (Hown.out.set (by omega) _).set (by omega) _
        · iterate 2 refine Below.setCell ?_ (by simp <;> omega) _
          exact hb2
      · have hd : (y.id == id) = false := by simp [he]
        have Ht := Lib.hid (show (l.take (k + 1)).all (fun r => r.id != id) = true by rw [take_of_get hyk, List.all_append, Hall.out]; simp [he])
        clear he hyk hr
        go_wp2_with fail
        go_roundw
        case rel => exact ⟨k + 1, by go_num, by omega, Ht.out, Hc.out, hb⟩
        case measure => simp [intOf]; omega
    · have H := Lib.hid (find_no (l := l) (id := id) (by have h := Hall.out; rwa [show k = l.length by omega] at h))
      have d0 := cell_of_row wr _ 0 _ _ _ Hc.out
      have d1 := cell_of_row wr _ 1 _ _ _ Hc.out
      have df := fun o => frozen_of_row wr _ o _ _ Hc.out
      go_wp2_with fail
      refine bodyPost_ret (v := .tuple #[.agg #[.int .i64 0, .slice none 0 0], .bool false]) ?_ rfl ⟨.slice none 0 0, by rw [H.out.1, H.out.2], ?_, ?_⟩
      · simp [results, Try.results29, go_sem, d0, d1]
      · rw [H.out.1]
        exact ⟨⟨rfl, .inl ⟨rfl, rfl⟩⟩, fun g h => by cases h⟩
      · iterate 2 refine Below.setCell ?_ (by simp <;> omega) _
        exact hb

set_option maxHeartbeats 1000000 in
theorem impl_FindRow (l : List R) (x : Value) (id : Int) (w : World) {lo hi : Nat} (hx : RdR w lo hi x l) (hhi : hi ≤ w.heap.size) (hn : lensR l ≤ 1048576) :
    Calls Try.prog 28 #[x, .int .i64 id] w fun e w' => ∃ v, e = .returned (.tuple #[.agg #[.int .i64 (foundRow l id).id, v], .bool (hasRow l id)]) ∧ Own 25 3 w' w.heap.size w'.heap.size v (foundRow l id).l.length ((foundRow l id).l.flatMap V.cells) ∧ Below w.heap.size w w' := by
  obtain ⟨A, c, rfl, hl, hl2⟩ := hx.form
  have Hn := Lib.hid hn
  clear hn
  go_enter Try.func28, Try.ntmps28
  go_wp2_with fail
  go_loopw [10] (fun i wr => ∃ k : Nat, i = .int .i64 k ∧ k ≤ l.length ∧ (l.take k).all (fun r => r.id != id) = true ∧ wr.heap[w.heap.size]? = some (.cells #[.int .i64 0, .slice none 0 0] 44) ∧ Below w.heap.size w wr) (fun i _ => l.length - (intOf i).toNat)
  case atStart => exact ⟨0, rfl, by omega, by simp, heap_alloc_new w _, (Below.refl _ _).alloc (Nat.le_refl _) _⟩
  case round =>
    obtain ⟨k, rfl, hk, hall, hc, hb⟩ := hrel
    have Hall := Lib.hid hall
    have hg : w.heap.size < wr.heap.size := (Array.getElem?_eq_some_iff.1 hc).1
    have Hc := Lib.hid hc
    clear hall hc
    by_cases hkl : k < l.length
    · obtain ⟨b, off, y, sv, rfl, -, hbl, hyk, e0, e1, hr⟩ := (hx.below hb hhi).at hkl
      have hbs := hb.size
      obtain ⟨As, cs, rfl, -, -⟩ := hr.form
      by_cases he : y.id = id
      · have H := Lib.hid (find_yes Hall.out hyk he)
        have hyl : y.l.length ≤ 1048576 := Nat.le_trans (len_of_lens (mem_of_get hyk)) Hn.out
        have hd : (y.id == id) = true := by simp [he]
        have up := up_a1 wr (.cells #[.int .i64 y.id, .slice As y.l.length cs] 44)
        have hr1 := hr.below up (by omega)
        clear he hyk
        go_wp2_with fail
        refine (impl_cloneRow y (.slice As y.l.length cs) _ hr1 (by simp only [World.size_alloc]; omega) (by omega)).mono ?_
        rintro e w1 ⟨v, rfl, hown, hb1⟩
        replace hb1 := below_a1 hb1
        have hc1 := (hb1.block w.heap.size hg).trans Hc.out
        have d0 := cell_of_row w1 _ 0 _ _ _ hc1
        have d1 := cell_of_row w1 _ 1 _ _ _ hc1
        have df := fun o => frozen_of_row w1 _ o _ _ hc1
        obtain ⟨A', c', rfl, -, -, -⟩ := hown.cells
        have Hown := Lib.hid (hown.more (lo' := wr.heap.size) (by simp) (Nat.le_refl _))
        have hs1 := hb1.size
        have hb2 := hb.trans (hb1.mono hb.size)
        clear hown hc1 hb1 hr hr1 up e0 e1
        go_wp2_with fail
        refine bodyPost_ret (v := .tuple #[.agg #[.int .i64 y.id, .slice A' y.l.length c'], .bool true]) ?_ rfl ⟨.slice A' y.l.length c', by rw [H.out.1, H.out.2], ?_, ?_⟩
        · simp [results, Try.results28, go_sem, d0, d1]
        · rw [H.out.1]
          refine Own.more (lo := wr.heap.size) (hi := w1.heap.size) ?_ (by omega) (Nat.le_of_eq (by simp [World.setCell]))
          exact (Hown.out.set (by omega) _).set (by omega) _
        · iterate 2 refine Below.setCell ?_ (by simp <;> omega) _
          exact hb2
      · have hd : (y.id == id) = false := by simp [he]
        have Ht := Lib.hid (show (l.take (k + 1)).all (fun r => r.id != id) = true by rw [take_of_get hyk, List.all_append, Hall.out]; simp [he])
        clear he hyk hr
        go_wp2_with fail
        go_roundw
        case rel => exact ⟨k + 1, by go_num, by omega, Ht.out, ((up_a1 wr (.cells #[.int .i64 y.id, .slice As y.l.length cs] 44)).block _ hg).trans Hc.out, hb.trans ((up_a1 wr _).mono hb.size)⟩
        case measure => simp [intOf]; omega
    · have H := Lib.hid (find_no (l := l) (id := id) (by have h := Hall.out; rwa [show k = l.length by omega] at h))
      have d0 := cell_of_row wr _ 0 _ _ _ Hc.out
      have d1 := cell_of_row wr _ 1 _ _ _ Hc.out
      have df := fun o => frozen_of_row wr _ o _ _ Hc.out
      go_wp2_with fail
      refine bodyPost_ret (v := .tuple #[.agg #[.int .i64 0, .slice none 0 0], .bool false]) ?_ rfl ⟨.slice none 0 0, by rw [H.out.1, H.out.2], ?_, ?_⟩
      · simp [results, Try.results28, go_sem, d0, d1]
      · rw [H.out.1]
        exact ⟨⟨rfl, .inl ⟨rfl, rfl⟩⟩, fun g h => by cases h⟩
      · iterate 2 refine Below.setCell ?_ (by simp <;> omega) _
        exact hb
theorem foundRow_len (l : List R) (id : Int) : (foundRow l id).l.length ≤ lensR l := by
  unfold foundRow findRow
  cases h : l.find? (fun r => r.id == id) with
  | none => simp
  | some y => exact len_of_lens (List.mem_of_find?_eq_some h)
end Go.Proofs.Ytaapmimabbmdbaa
