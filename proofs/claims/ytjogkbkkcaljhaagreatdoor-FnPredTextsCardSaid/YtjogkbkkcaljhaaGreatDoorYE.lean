/- Columns, and rows that fit them: contracts. -/
import Derived.Test.YtjogkbkkcaljhaaGreatDoorXV
import Derived.Test.YtjogkbkkcaljhaaGreatDoorXA
namespace Go.Proofs.YtjogkbkkcaljhaaGreatDoor
open Go.Sort Go.ChangeShapes Go.WideShapes Go.ChangeAt Go.RowKit Go.Lb

def colsOk (l : List Int) : Bool := (l.all fun t => inR t 1 2) && inR (l.length : Int) 1 3
def fitsAt (p : Int × V) : Bool := valOk p.2 && (p.2.ty == p.1)
def fitsCols (cols : List Int) (l : List V) : Bool := (cols.length == l.length) && (cols.zip l).all fitsAt
def rowOk (cols : List Int) (r : R) : Bool := decide (0 ≤ r.id) && fitsCols cols r.l
theorem colsOk_no {l : List Int} {k : Nat} {t : Int} (h : l[k]? = some t) (ht : inR t 1 2 = false) : colsOk l = false := by
  have h1 : (l.all fun t => inR t 1 2) = false := by
    rw [List.all_eq_false]
    exact ⟨t, mem_of_get h, by simp [ht]⟩
  simp [colsOk, h1]
theorem colsOk_end {l : List Int} (h : (l.take l.length).all (fun t => inR t 1 2) = true) : colsOk l = inR (l.length : Int) 1 3 := by
  rw [List.take_length] at h
  simp [colsOk, h]
theorem zip_at {cols : List Int} {l : List V} {k : Nat} {c : Int} {y : V} (hc : cols[k]? = some c) (hy : l[k]? = some y) : (cols.zip l)[k]? = some (c, y) := List.getElem?_zip_eq_some.2 ⟨hc, hy⟩
theorem fits_no {cols : List Int} {l : List V} {k : Nat} {c : Int} {y : V} (hc : cols[k]? = some c) (hy : l[k]? = some y) (h : fitsAt (c, y) = false) : fitsCols cols l = false := by
  have h1 : (cols.zip l).all fitsAt = false := by
    rw [List.all_eq_false]
    exact ⟨_, mem_of_get (zip_at hc hy), by simp [h]⟩
  simp [fitsCols, h1]
theorem fits_step {cols : List Int} {l : List V} {k : Nat} {c : Int} {y : V} (hc : cols[k]? = some c) (hy : l[k]? = some y) (h : fitsAt (c, y) = true) (ha : ((cols.zip l).take k).all fitsAt = true) : ((cols.zip l).take (k + 1)).all fitsAt = true := by
  rw [take_of_get (zip_at hc hy), List.all_append, ha]
  simp [h]
theorem fits_end {cols : List Int} {l : List V} (hl : cols.length = l.length) (h : ((cols.zip l).take l.length).all fitsAt = true) : fitsCols cols l = true := by
  rw [List.take_of_length_le (by simp; omega)] at h
  simp [fitsCols, hl, h]
theorem fits_len {cols : List Int} {l : List V} (hl : cols.length ≠ l.length) : fitsCols cols l = false := by simp [fitsCols, hl]

set_option maxHeartbeats 1000000 in
theorem spec_ColsOk (l : List Int) (x : Value) (w : World) {lo hi : Nat} (hx : RdI w lo hi x l) (_hhi : hi ≤ w.heap.size) :
    Calls Tryz.prog 47 #[x] w fun e w' => e = .returned (.bool (colsOk l)) ∧ w = w' := by
  obtain ⟨A, c, rfl, hl, hl2⟩ := hx.form
  go_enter Tryz.func47, Tryz.ntmps47
  go_wp2_with fail
  go_loop [3] (fun i => ∃ k : Nat, i = .int .i64 k ∧ k ≤ l.length ∧ (l.take k).all (fun t => inR t 1 2) = true) (fun i => l.length - (intOf i).toNat)
  case atStart => exact ⟨0, rfl, by omega, by simp⟩
  case round =>
    obtain ⟨k, rfl, hk, hall⟩ := hrel
    have Hall := Lib.hid hall
    clear hall
    by_cases hkl : k < l.length
    · obtain ⟨b, off, y, rfl, -, hbl, hyk, e0⟩ := hx.at hkl
      cases hI : inR y 1 2
      · have H := Lib.hid (colsOk_no hyk hI)
        clear hyk
        go_wp2_with fail
        refine (q_spec_l1In _ _ _ _).mono ?_
        rintro e w1 ⟨rfl, rfl⟩
        rw [hI]
        go_wp2_with fail
        go_ret
        exact ⟨ret_bool H.out.symm, rfl⟩
      · have Ht := Lib.hid (show (l.take (k + 1)).all (fun t => inR t 1 2) = true by rw [take_of_get hyk, List.all_append, Hall.out]; simp [hI])
        clear hyk
        go_wp2_with fail
        refine (q_spec_l1In _ _ _ _).mono ?_
        rintro e w1 ⟨rfl, rfl⟩
        rw [hI]
        go_wp2_with fail
        go_round
        case rel => exact ⟨k + 1, by go_num, by omega, Ht.out⟩
        case measure => simp [intOf]; omega
    · have H := Lib.hid (colsOk_end (l := l) (by have h := Hall.out; rwa [show k = l.length by omega] at h))
      go_wp2_with fail
      refine (q_spec_l1In _ _ _ _).mono ?_
      rintro e w1 ⟨rfl, rfl⟩
      go_wp2_with fail
      go_ret
      exact ⟨ret_bool H.out.symm, rfl⟩
set_option maxHeartbeats 1000000 in
theorem impl_ColsOk (l : List Int) (x : Value) (w : World) {lo hi : Nat} (hx : RdI w lo hi x l) (_hhi : hi ≤ w.heap.size) :
    Calls Tryz.prog 44 #[x] w fun e w' => e = .returned (.bool (colsOk l)) ∧ w = w' := by
  obtain ⟨A, c, rfl, hl, hl2⟩ := hx.form
  go_enter Tryz.func44, Tryz.ntmps44
  go_wp2_with fail
  go_loop [7] (fun i => ∃ k : Nat, i = .int .i64 k ∧ k ≤ l.length ∧ (l.take k).all (fun t => inR t 1 2) = true) (fun i => l.length - (intOf i).toNat)
  case atStart => exact ⟨0, rfl, by omega, by simp⟩
  case round =>
    obtain ⟨k, rfl, hk, hall⟩ := hrel
    have Hall := Lib.hid hall
    clear hall
    by_cases hkl : k < l.length
    · obtain ⟨b, off, y, rfl, -, hbl, hyk, e0⟩ := hx.at hkl
      have HN := Lib.hid (fun h => colsOk_no (l := l) hyk h)
      have HY := Lib.hid (fun (h : inR y 1 2 = true) => (show (l.take (k + 1)).all (fun t => inR t 1 2) = true by rw [take_of_get hyk, List.all_append, Hall.out]; simp [h]))
      clear hyk
      by_cases h1 : y = 1
      · have d1 : (y != 1) = false := by simp [h1]
        have Ht := Lib.hid (HY.out (inR_of (by omega) (by omega)))
        clear h1
        go_wp2_with fail
        go_round
        case rel => exact ⟨k + 1, by go_num, by omega, Ht.out⟩
        case measure => simp [intOf]; omega
      by_cases h2 : y = 2
      · have d1 : (y != 1) = true := by simp [h1]
        have d2 : (y != 2) = false := by simp [h2]
        have Ht := Lib.hid (HY.out (inR_of (by omega) (by omega)))
        clear h1 h2
        go_wp2_with fail
        go_round
        case rel => exact ⟨k + 1, by go_num, by omega, Ht.out⟩
        case measure => simp [intOf]; omega
      · have d1 : (y != 1) = true := by simp [h1]
        have d2 : (y != 2) = true := by simp [h2]
        have H := Lib.hid (HN.out (inR_not (by omega)))
        clear h1 h2
        go_wp2_with fail
        go_ret
        exact ⟨ret_bool H.out.symm, rfl⟩
    · have H := Lib.hid (colsOk_end (l := l) (by have h := Hall.out; rwa [show k = l.length by omega] at h))
      go_wp2_with fail
      refine (q_impl_within _ _ _ _).mono ?_
      rintro e w1 ⟨rfl, rfl⟩
      go_wp2_with fail
      go_ret
      exact ⟨ret_bool H.out.symm, rfl⟩
end Go.Proofs.YtjogkbkkcaljhaaGreatDoor
namespace Go.Proofs.YtjogkbkkcaljhaaGreatDoor
open Go.Sort Go.ChangeShapes Go.WideShapes Go.ChangeAt Go.RowKit Go.Lb

def prevAt (l : List R) (k : Nat) : Option R := if k = 0 then none else l[k - 1]?
def okAt (cols : List Int) (p : Option R) (r : R) : Bool := rowOk cols r && (decide (r.id ≤ 1000000000) && (match p with | none => true | some q => decide (q.id < r.id)))
def okNo (cols : List Int) (l : List R) (k : Nat) : Bool := match l[k]? with | some r => okAt cols (prevAt l k) r | none => true
def rowsOk (cols : List Int) (l : List R) : Bool := colsOk cols && (decide (l.length ≤ 12) && (List.range l.length).all (okNo cols l))
theorem okNo_of {cols : List Int} {l : List R} {k : Nat} {y : R} (h : l[k]? = some y) : okNo cols l k = okAt cols (prevAt l k) y := by simp [okNo, h]
theorem rows_no {cols : List Int} {l : List R} {k : Nat} {y : R} (h : l[k]? = some y) (h1 : okAt cols (prevAt l k) y = false) : rowsOk cols l = false := by
  have hk : k < l.length := (List.getElem?_eq_some_iff.1 h).1
  have h2 : (List.range l.length).all (okNo cols l) = false := by
    rw [List.all_eq_false]
    exact ⟨k, by simpa using hk, by rw [okNo_of h, h1]; simp⟩
  simp [rowsOk, h2]
theorem rows_step {cols : List Int} {l : List R} {k : Nat} {y : R} (h : l[k]? = some y) (h1 : okAt cols (prevAt l k) y = true) (ha : (List.range k).all (okNo cols l) = true) : (List.range (k + 1)).all (okNo cols l) = true := by
  rw [List.range_succ, List.all_append, ha]
  simp [okNo_of h, h1]
theorem rows_end {cols : List Int} {l : List R} (h : (List.range l.length).all (okNo cols l) = true) : rowsOk cols l = (colsOk cols && decide (l.length ≤ 12)) := by simp [rowsOk, h]
theorem prevAt_zero (l : List R) : prevAt l 0 = none := rfl
theorem prevAt_succ (l : List R) (j : Nat) : prevAt l (j + 1) = l[j]? := by simp [prevAt]

end Go.Proofs.YtjogkbkkcaljhaaGreatDoor
