/- The order of values; what lies in a zone. No conditions; nothing here speaks of the program. -/
import Derived.Test.YtjogkbkkcaljhaaGreatDoorXL
import Derived.Test.YtjogkbkkcaljhaaGreatDoorXA
import Derived.Test.YtjogkbkkcaljhaaGreatDoorXD
import Derived.Test.YtjogkbkkcaljhaaGreatDoorS4
import Derived.Test.YtjogkbkkcaljhaaGreatDoorS6
import Derived.Test.YtjogkbkkcaljhaaGreatDoorD28
import Derived.Test.YtjogkbkkcaljhaaGreatDoorYC
import Derived.Test.YtjogkbkkcaljhaaGreatDoorS33
import Derived.Test.YtjogkbkkcaljhaaGreatDoorYA
import Derived.Test.YtjogkbkkcaljhaaGreatDoorD13
namespace Go.Lb
open Go.RowKit

theorem bl_irrefl : ∀ x : List UInt8, Op.bytesLess x x = false
  | [] => rfl
  | a :: x => by simp [Op.bytesLess, bl_irrefl x]
theorem bl_trans : ∀ x y z : List UInt8, Op.bytesLess x y = true → Op.bytesLess y z = true → Op.bytesLess x z = true
  | _, y, [], _, h2 => by cases y <;> simp [Op.bytesLess] at h2
  | x, [], _ :: _, h1, _ => by cases x <;> simp [Op.bytesLess] at h1
  | [], _ :: _, _ :: _, _, _ => by simp [Op.bytesLess]
  | a :: x, b :: y, c :: z, h1, h2 => by
    simp only [Op.bytesLess, Bool.or_eq_true, Bool.and_eq_true, decide_eq_true_eq, beq_iff_eq] at *
    rcases h1 with h1 | ⟨rfl, h1⟩ <;> rcases h2 with h2 | ⟨rfl, h2⟩
    · exact .inl (UInt8.lt_trans h1 h2)
    · exact .inl h1
    · exact .inl h2
    · exact .inr ⟨rfl, bl_trans x y z h1 h2⟩
theorem bl_tri : ∀ x y : List UInt8, Op.bytesLess x y = false → Op.bytesLess y x = false → x = y
  | [], [], _, _ => rfl
  | [], _ :: _, h, _ => by simp [Op.bytesLess] at h
  | _ :: _, [], _, h => by simp [Op.bytesLess] at h
  | a :: x, b :: y, h1, h2 => by
    simp only [Op.bytesLess, Bool.or_eq_false_iff, Bool.and_eq_false_iff, decide_eq_false_iff_not, UInt8.not_lt] at *
    obtain rfl : a = b := UInt8.le_antisymm h2.1 h1.1
    have e1 : Op.bytesLess x y = false := by simpa using h1.2
    have e2 : Op.bytesLess y x = false := by simpa using h2.2
    rw [bl_tri x y e1 e2]
theorem less_irrefl (a : V) : less a a = false := by simp [less, bl_irrefl]
theorem less_trans {a b c : V} (h1 : less a b = true) (h2 : less b c = true) : less a c = true := by
  unfold less at *
  by_cases e1 : a.ty = b.ty <;> by_cases e2 : b.ty = c.ty
  · rw [if_neg (by simp [e1])] at h1
    rw [if_neg (by simp [e2])] at h2
    rw [if_neg (by simp [e1, e2])]
    by_cases f1 : a.n = b.n <;> by_cases f2 : b.n = c.n
    · rw [if_neg (by simp [f1])] at h1
      rw [if_neg (by simp [f2])] at h2
      rw [if_neg (by simp [f1, f2])]
      exact bl_trans _ _ _ h1 h2
    all_goals
      simp [f1] at h1
      simp [f2] at h2
      rw [if_pos (by omega)]
      simp
      omega
  all_goals
    simp [e1] at h1
    simp [e2] at h2
    rw [if_pos (by omega)]
    simp
    omega
theorem ba_eq_of_toList {a b : ByteArray} (h : a.toList = b.toList) : a = b := by
  have h1 := Go.Proofs.YtjogkbkkcaljhaaGreatDoor.V.eq_iff ⟨0, 0, a⟩ ⟨0, 0, b⟩
  simp [eqd, h] at h1
  exact h1
theorem less_tri {a b : V} (h1 : less a b = false) (h2 : less b a = false) : a = b := by
  unfold less at *
  by_cases e1 : a.ty = b.ty
  · rw [if_neg (by simp [e1])] at h1
    rw [if_neg (by simp [e1])] at h2
    by_cases f1 : a.n = b.n
    · rw [if_neg (by simp [f1])] at h1
      rw [if_neg (by simp [f1])] at h2
      have := ba_eq_of_toList (bl_tri _ _ h1 h2)
      cases a; cases b; simp_all
    · rw [if_pos f1] at h1
      rw [if_pos (Ne.symm f1)] at h2
      simp at h1 h2
      omega
  · rw [if_pos e1] at h1
    rw [if_pos (Ne.symm e1)] at h2
    simp at h1 h2
    omega
def le (a b : V) : Prop := less b a = false
theorem le_refl (a : V) : le a a := less_irrefl a
theorem le_trans {a b c : V} (h1 : le a b) (h2 : le b c) : le a c := by
  unfold le at *
  cases h : less c a
  · rfl
  · cases hab : less a b
    · rw [less_tri hab h1] at h
      rw [h] at h2; exact h2
    · rw [less_trans h hab] at h2; exact h2
theorem le_of_less {a b : V} (h : less a b = true) : le a b := by
  unfold le
  cases h2 : less b a
  · rfl
  · have := less_trans h h2
    rw [less_irrefl] at this
    exact this.symm
theorem less_of_le_of_less {a b c : V} (h1 : le a b) (h2 : less b c = true) : less a c = true := by
  cases h : less a c
  · have h3 : le c a := h
    have h4 : le c b := le_trans h3 h1
    unfold le at h4
    rw [h4] at h2; exact h2
  · rfl
theorem less_of_less_of_le {a b c : V} (h1 : less a b = true) (h2 : le b c) : less a c = true := by
  cases h : less a c
  · have h3 : le c a := h
    have h4 : le b a := le_trans h2 h3
    unfold le at h4
    rw [h4] at h1; exact h1
  · rfl
theorem zstep_le (z : Z) (v : V) : le (zstep z v).lo z.lo ∧ le z.hi (zstep z v).hi ∧ le (zstep z v).lo v ∧ le v (zstep z v).hi := by
  unfold zstep
  cases h1 : less v z.lo <;> cases h2 : less z.hi v <;> simp
  · exact ⟨le_refl _, le_refl _, h1, h2⟩
  · exact ⟨le_refl _, le_of_less h2, h1, le_refl _⟩
  · exact ⟨le_of_less h1, le_refl _, le_refl _, h2⟩
  · exact ⟨le_of_less h1, le_of_less h2, le_refl _⟩
theorem fold_le : ∀ (r : List V) (z : Z), le (r.foldl zstep z).lo z.lo ∧ le z.hi (r.foldl zstep z).hi ∧ ∀ x ∈ r, le (r.foldl zstep z).lo x ∧ le x (r.foldl zstep z).hi
  | [], z => ⟨le_refl _, le_refl _, fun _ h => by simp at h⟩
  | v :: r, z => by
    obtain ⟨h1, h2, h3⟩ := fold_le r (zstep z v)
    obtain ⟨k1, k2, k3, k4⟩ := zstep_le z v
    refine ⟨le_trans h1 k1, le_trans k2 h2, fun x hx => ?_⟩
    rcases List.mem_cons.1 hx with rfl | hx
    · exact ⟨le_trans h1 k3, le_trans k4 h2⟩
    · exact h3 x hx
theorem fold_mem : ∀ (r : List V) (z : Z), ((r.foldl zstep z).lo = z.lo ∨ (r.foldl zstep z).lo ∈ r) ∧ ((r.foldl zstep z).hi = z.hi ∨ (r.foldl zstep z).hi ∈ r)
  | [], z => ⟨.inl rfl, .inl rfl⟩
  | v :: r, z => by
    obtain ⟨h1, h2⟩ := fold_mem r (zstep z v)
    refine ⟨?_, ?_⟩
    · rcases h1 with h1 | h1
      · by_cases h : less v z.lo = true
        · exact .inr (by rw [List.foldl_cons, h1]; simp [zstep, h])
        · exact .inl (by rw [List.foldl_cons, h1]; simp [zstep, h])
      · exact .inr (List.mem_cons_of_mem _ h1)
    · rcases h2 with h2 | h2
      · by_cases h : less z.hi v = true
        · exact .inr (by rw [List.foldl_cons, h2]; simp [zstep, h])
        · exact .inl (by rw [List.foldl_cons, h2]; simp [zstep, h])
      · exact .inr (List.mem_cons_of_mem _ h2)
theorem zone_le {l : List V} {x : V} (h : x ∈ l) : le (zoneOf l).lo x ∧ le x (zoneOf l).hi := by
  cases l with
  | nil => simp at h
  | cons v r =>
    obtain ⟨h1, h2, h3⟩ := fold_le r ⟨v, v⟩
    show le (r.foldl zstep ⟨v, v⟩).lo x ∧ le x (r.foldl zstep ⟨v, v⟩).hi
    rcases List.mem_cons.1 h with rfl | h
    · exact ⟨h1, h2⟩
    · exact h3 x h
theorem zone_mem {l : List V} (h : l ≠ []) : (zoneOf l).lo ∈ l ∧ (zoneOf l).hi ∈ l := by
  cases l with
  | nil => exact absurd rfl h
  | cons v r =>
    obtain ⟨h1, h2⟩ := fold_mem r ⟨v, v⟩
    refine ⟨?_, ?_⟩
    · rcases h1 with h1 | h1
      · exact List.mem_cons.2 (.inl h1)
      · exact List.mem_cons.2 (.inr h1)
    · rcases h2 with h2 | h2
      · exact List.mem_cons.2 (.inl h2)
      · exact List.mem_cons.2 (.inr h2)
theorem zone_in {l : List V} {x : V} (h : x ∈ l) : inZone (zoneOf l) x = true := by
  obtain ⟨h1, h2⟩ := zone_le h
  unfold le at h1 h2
  simp [inZone, h1, h2]
/-- A comparison that holds for a value of a zone may hold in the zone. -/
theorem may_of_holds {z : Z} {x v : V} {op : Int} (h1 : le z.lo x) (h2 : le x z.hi) (h : holds1 op x v = true) : mayHold1 op z v = true := by
  unfold holds1 at h
  unfold mayHold1
  by_cases o1 : op = 1
  · rw [if_pos o1] at h ⊢
    exact less_of_le_of_less h1 h
  rw [if_neg o1] at h ⊢
  by_cases o2 : op = 2
  · rw [if_pos o2] at h ⊢
    have h3 : le x v := by simpa [le] using h
    have h4 := le_trans h1 h3
    simpa [le] using h4
  rw [if_neg o2] at h ⊢
  by_cases o3 : op = 3
  · rw [if_pos o3] at h ⊢
    obtain rfl : x = v := by simpa using h
    unfold le at h1 h2
    simp [inZone, h1, h2]
  rw [if_neg o3] at h ⊢
  by_cases o4 : op = 4
  · rw [if_pos o4] at h ⊢
    have hne : x ≠ v := by simpa using h
    simp only [Bool.or_eq_true, Bool.not_eq_true', decide_eq_false_iff_not]
    by_cases e1 : z.lo = v
    · right
      intro e2
      rw [e1] at h1
      rw [e2] at h2
      exact hne (less_tri h1 h2)
    · exact .inl e1
  rw [if_neg o4] at h ⊢
  by_cases o5 : op = 5
  · rw [if_pos o5] at h ⊢
    have h3 : le v x := by simpa [le] using h
    have h4 := le_trans h3 h2
    simpa [le] using h4
  rw [if_neg o5] at h ⊢
  by_cases o6 : op = 6
  · rw [if_pos o6] at h ⊢
    exact less_of_less_of_le h h2
  · rw [if_neg o6] at h
    exact absurd h (by simp)
end Go.Lb
namespace Go.Lb
def opText (n : Int) : ByteArray := if n = 1 then ⟨#[60]⟩ else if n = 2 then ⟨#[60, 61]⟩ else if n = 3 then ⟨#[61]⟩ else if n = 4 then ⟨#[33, 61]⟩ else if n = 5 then ⟨#[62, 61]⟩ else if n = 6 then ⟨#[62]⟩ else ⟨#[]⟩
end Go.Lb
namespace Go.Proofs.YtjogkbkkcaljhaaGreatDoor
open Go.ChangeShapes Go.WideShapes Go.ChangeAt Go.RowKit Go.Lb

set_option maxRecDepth 20000 in
set_option maxHeartbeats 4000000 in
theorem spec_OpText (n : Int) (w : World) :
    Calls Tryz.prog 41 #[.int .i64 n] w fun e w' => e = .returned (.string (opText n)) ∧ Below w.heap.size w w' := by
  by_cases h : 1 ≤ n ∧ n ≤ 6
  · obtain rfl | rfl | rfl | rfl | rfl | rfl : n = 1 ∨ n = 2 ∨ n = 3 ∨ n = 4 ∨ n = 5 ∨ n = 6 := by omega
    all_goals
      clear h
      go_enter Tryz.func41, Tryz.ntmps41
      go_wp2
      go_ret
      exact ⟨ret_string (by simp [opText]), by repeat (first | exact Below.refl _ _ | refine Below.alloc ?_ (by simp) _)⟩
  have H := Lib.hid (show opText n = ⟨#[]⟩ by unfold opText; iterate 6 rw [if_neg (by omega)])
  by_cases g : 1 ≤ n
  · have g2 : ¬ n ≤ 6 := by omega
    clear h
    go_enter Tryz.func41, Tryz.ntmps41
    go_wp2
    go_ret
    exact ⟨ret_string H.out.symm, by repeat (first | exact Below.refl _ _ | refine Below.alloc ?_ (by simp) _)⟩
  · clear h
    go_enter Tryz.func41, Tryz.ntmps41
    go_wp2
    go_ret
    exact ⟨ret_string H.out.symm, by repeat (first | exact Below.refl _ _ | refine Below.alloc ?_ (by simp) _)⟩

set_option maxRecDepth 20000 in
set_option maxHeartbeats 4000000 in
theorem impl_OpText (n : Int) (w : World) :
    Calls Tryz.prog 33 #[.int .i64 n] w fun e w' => e = .returned (.string (opText n)) ∧ Below w.heap.size w w' := by
  by_cases h : 1 ≤ n ∧ n ≤ 6
  · obtain rfl | rfl | rfl | rfl | rfl | rfl : n = 1 ∨ n = 2 ∨ n = 3 ∨ n = 4 ∨ n = 5 ∨ n = 6 := by omega
    all_goals
      clear h
      go_enter Tryz.func33, Tryz.ntmps33
      go_wp2
      go_ret
      exact ⟨ret_string (by simp [opText]), by repeat (first | exact Below.refl _ _ | refine Below.alloc ?_ (by simp) _)⟩
  have H := Lib.hid (show opText n = ⟨#[]⟩ by unfold opText; iterate 6 rw [if_neg (by omega)])
  by_cases g : 1 ≤ n
  · have g2 : ¬ n ≤ 6 := by omega
    clear h
    go_enter Tryz.func33, Tryz.ntmps33
    go_wp2
    go_ret
    exact ⟨ret_string H.out.symm, by repeat (first | exact Below.refl _ _ | refine Below.alloc ?_ (by simp) _)⟩
  · clear h
    go_enter Tryz.func33, Tryz.ntmps33
    go_wp2
    go_ret
    exact ⟨ret_string H.out.symm, by repeat (first | exact Below.refl _ _ | refine Below.alloc ?_ (by simp) _)⟩

end Go.Proofs.YtjogkbkkcaljhaaGreatDoor
namespace Go.Lb
theorem ops_out {op : Int} (h : op < 1 ∨ 6 < op) (a b : V) : opposite op = 0 ∧ holds1 op a b = false := by
  unfold opposite holds1
  iterate 6 rw [if_neg (by omega)]
  iterate 6 rw [if_neg (by omega)]
  exact ⟨rfl, rfl⟩
theorem ops_in {op : Int} (h1 : 1 ≤ op) (h2 : op ≤ 6) (a b : V) : opposite (opposite op) = op ∧ (holds1 op a b != holds1 (opposite op) a b) = true := by
  obtain rfl | rfl | rfl | rfl | rfl | rfl : op = 1 ∨ op = 2 ∨ op = 3 ∨ op = 4 ∨ op = 5 ∨ op = 6 := by omega
  all_goals
    simp [opposite, holds1]
end Go.Lb
namespace Go.Proofs.YtjogkbkkcaljhaaGreatDoor
open Go.Sort Go.ChangeShapes Go.WideShapes Go.ChangeAt Go.RowKit Go.Lb

end Go.Proofs.YtjogkbkkcaljhaaGreatDoor
namespace Go.Proofs.YtjogkbkkcaljhaaGreatDoor
open Go.RowKit Go.Lb
def notP (p : P) : P := .mk 5 0 0 V.zero [p]
theorem holds_not (l : List V) (p : P) : holdsP l (notP p) = !holdsP l p := by
  rw [holdsP_eq]
  simp [notP, P.kind, P.l, notH]
theorem may_not (z : List Z) (p : P) : mayP z (notP p) = failP z p := by
  rw [mayP_eq]
  simp [notP, P.kind, P.l, fstP]
theorem colsOk_ty {cols : List Int} (h : colsOk cols = true) : 1 ≤ cols.length ∧ cols.length ≤ 3 ∧ ∀ t ∈ cols, t = 1 ∨ t = 2 := by
  simp only [colsOk, Bool.and_eq_true, List.all_eq_true] at h
  have h1 := inR_yes h.2
  refine ⟨by omega, by omega, fun t ht => ?_⟩
  have := inR_yes (h.1 t ht)
  omega
theorem fit_at {cols : List Int} {l : List V} {j : Nat} (h : FitL cols l) (hj : j < cols.length) : ∃ x, l[j]? = some x :=
  ⟨_, List.getElem?_eq_getElem (by rw [← h.1]; exact hj)⟩
theorem zones_len {cols : List Int} {l : List R} {r : R} (hf : FitR cols l) (hr : r ∈ l) : (zonesOf l).length = cols.length ∧ ∀ j, j < cols.length → (zonesOf l)[j]? = some (zk l j) := by
  cases l with
  | nil => cases hr
  | cons a t =>
    have ha := (hf a (by simp)).1
    rw [zonesOf_eq (r := a) rfl]
    refine ⟨by simp [ha], fun j hj => ?_⟩
    rw [List.getElem?_map, List.getElem?_range (by omega)]
    rfl
theorem mem_column {l : List R} {r : R} {j : Nat} {x : V} (hr : r ∈ l) (hx : r.l[j]? = some x) : x ∈ column l (j : Int) := by
  rw [column, List.mem_filterMap]
  exact ⟨r, hr, colAt_in hx⟩
theorem sound {cols : List Int} {l : List R} {r : R} (hf : FitR cols l) (hr : r ∈ l) : ∀ (k : Nat) (p : P), deepOk cols k p = true →
    (holdsP r.l p = true → mayP (zonesOf l) p = true) ∧ (holdsP r.l p = false → failP (zonesOf l) p = true)
  | 0, p, h => by cases h
  | k + 1, p, h => by
    rw [deepOk, Bool.and_eq_true] at h
    obtain ⟨h1, h2⟩ := h
    have ih : ∀ x ∈ p.l, (holdsP r.l x = true → mayP (zonesOf l) x = true) ∧ (holdsP r.l x = false → failP (zonesOf l) x = true) := fun x hx => sound hf hr k x (List.all_eq_true.1 h2 x hx)
    rw [holdsP_eq, mayP_eq, failP_eq]
    by_cases k1 : p.kind = 1
    · simp [k1]
    by_cases k2 : p.kind = 2
    · rw [formOk_2 k2] at h1
      simp only [if_neg k1, if_pos k2]
      cases hin : inR p.col 0 ((cols.length : Int) - 1)
      · rw [cmpOk_out hin] at h1; cases h1
      · have hc := inR_yes hin
        obtain ⟨j, hj⟩ := Int.eq_ofNat_of_zero_le hc.1
        have hjl : j < cols.length := by omega
        have hrf := hf r hr
        obtain ⟨x, hx⟩ := fit_at hrf hjl
        obtain ⟨z1, z2⟩ := zones_len hf hr
        have hz := z2 j hjl
        rw [hj] at h1 ⊢
        rw [cmpOk_at (List.getElem?_eq_getElem hjl)] at h1
        simp only [Bool.and_eq_true] at h1
        have hop := inR_yes h1.2.2.1
        rw [cmpAt_in hx, mcmpAt_in hz, fcmpAt_in hz]
        have hle := zone_le (mem_column hr hx)
        refine ⟨fun hh => may_of_holds hle.1 hle.2 hh, fun hh => may_of_holds hle.1 hle.2 ?_⟩
        have := (ops_in hop.1 hop.2 x p.v).2
        rw [hh] at this
        simpa using this
    by_cases k3 : p.kind = 3
    · simp only [if_neg k1, if_neg k2, if_pos k3]
      refine ⟨fun hh => ?_, fun hh => ?_⟩
      · rw [List.all_eq_true] at hh ⊢
        exact fun x hx => (ih x hx).1 (hh x hx)
      · rw [List.all_eq_false] at hh
        obtain ⟨x, hx, hh⟩ := hh
        rw [List.any_eq_true]
        exact ⟨x, hx, (ih x hx).2 (by simpa using hh)⟩
    by_cases k4 : p.kind = 4
    · simp only [if_neg k1, if_neg k2, if_neg k3, if_pos k4]
      refine ⟨fun hh => ?_, fun hh => ?_⟩
      · rw [List.any_eq_true] at hh ⊢
        obtain ⟨x, hx, hh⟩ := hh
        exact ⟨x, hx, (ih x hx).1 hh⟩
      · rw [List.any_eq_false] at hh
        rw [List.all_eq_true]
        exact fun x hx => (ih x hx).2 (by simpa using hh x hx)
    by_cases k5 : p.kind = 5
    · simp only [if_neg k1, if_neg k2, if_neg k3, if_neg k4, if_pos k5]
      cases hl : p.l with
      | nil => simp [notH, fstP]
      | cons x t =>
        have := ih x (by rw [hl]; simp)
        simp only [notH, fstP]
        refine ⟨fun hh => this.2 (by simpa using hh), fun hh => this.1 (by simpa using hh)⟩
    · simp only [if_neg k1, if_neg k2, if_neg k3, if_neg k4, if_neg k5]
      simp
theorem predOk_deep {cols : List Int} {p : P} (h : predOk cols p = true) : colsOk cols = true ∧ deepOk cols 4 p = true ∧ 1 + cntP p.l ≤ 8 := by
  simp only [predOk, Bool.and_eq_true, decide_eq_true_eq] at h
  exact ⟨h.1, h.2.1, by omega⟩
theorem predOk_of {cols : List Int} {p : P} (h1 : colsOk cols = true) (h2 : deepOk cols 4 p = true) (h3 : 1 + cntP p.l ≤ 8) : predOk cols p = true := by
  simp only [predOk, Bool.and_eq_true, decide_eq_true_eq]
  exact ⟨h1, h2, by omega⟩
/-- A comparison of a column with a value of its type is right. -/
theorem predOk_cmp {cols : List Int} {j : Nat} {op : Int} {v : V} (h1 : colsOk cols = true) (hj : j < cols.length) (ho1 : 1 ≤ op) (ho2 : op ≤ 6) (hv : valOk v = true) (ht : v.ty = cols[j]) : predOk cols (.mk 2 j op v []) = true := by
  refine predOk_of h1 ?_ (by simp [P.l, cntP_nil])
  rw [deepOk, formOk_2 rfl]
  simp only [P.col, P.op, P.v, P.l, List.all_nil, Bool.and_true, List.length_nil]
  rw [cmpOk_at (List.getElem?_eq_getElem hj), hv, inR_of ho1 ho2, ht]
  simp
end Go.Proofs.YtjogkbkkcaljhaaGreatDoor
namespace Go.Lb
open Go.RowKit
/-- The parts of predicates alone, each in a stretch of blocks of its own. -/
def PartP (e : TypeId) (w : World) (lo hi : Nat) (ps : List (P × Value)) : Prop := ∃ s t : Nat → Nat, (∀ (k : Nat) (p : P × Value), ps[k]? = some p → OwnP e w (s k) (t k) p.2 p.1.l) ∧ (∀ k, k < ps.length → lo ≤ s k ∧ t k ≤ hi) ∧ ∀ j k, j < k → k < ps.length → t j ≤ s k
section
variable {e : TypeId} {w w' w1 : World} {lo hi lo' hi' : Nat} {ps : List (P × Value)} {v sv : Value} {x : P}
theorem PartP.nil : PartP e w lo hi [] := ⟨fun _ => 0, fun _ => 0, fun k p h => by simp at h, fun k h => by simp at h, fun j k _ h => by simp at h⟩
theorem PartP.imp (h : PartP e w lo hi ps) (hs : Same lo hi w w') (h2 : hi ≤ hi') : PartP e w' lo hi' ps := by
  obtain ⟨s, t, h1, h3, h4⟩ := h
  refine ⟨s, t, fun k p hp => ?_, fun k hk => ⟨(h3 k hk).1, Nat.le_trans (h3 k hk).2 h2⟩, h4⟩
  have hk := (List.getElem?_eq_some_iff.1 hp).1
  exact (h1 k p hp).same (hs.less (h3 k hk).1 (h3 k hk).2)
theorem PartP.snoc (h : PartP e w lo w.heap.size ps) (hb : Below w.heap.size w w1) (hlo : lo ≤ w.heap.size) (hn : OwnP e w1 w.heap.size w1.heap.size sv x.l) : PartP e w1 lo w1.heap.size (ps ++ [(x, sv)]) := by
  obtain ⟨s, t, h1, h3, h4⟩ := h
  refine ⟨fun k => if k < ps.length then s k else w.heap.size, fun k => if k < ps.length then t k else w1.heap.size, fun k p hp => ?_, fun k hk => ?_, fun j k hjk hk => ?_⟩
  · by_cases hk : k < ps.length
    · rw [List.getElem?_append_left hk] at hp
      simp only [if_pos hk]
      exact (h1 k p hp).below hb (h3 k hk).2
    · rw [List.getElem?_append_right (by omega)] at hp
      have h0 : k - ps.length = 0 := by
        have := (List.getElem?_eq_some_iff.1 hp).1
        simp at this; omega
      rw [h0] at hp
      simp only [List.getElem?_cons_zero, Option.some.injEq] at hp
      subst hp
      simp only [if_neg hk]
      exact hn
  · have hs := hb.size
    by_cases hkl : k < ps.length
    · have := h3 k hkl
      simp only [if_pos hkl]; omega
    · simp only [if_neg hkl]; omega
  · simp only [List.length_append, List.length_cons, List.length_nil] at hk
    by_cases hkl : k < ps.length
    · simp only [if_pos hkl, if_pos (show j < ps.length by omega)]
      exact h4 j k hjk hkl
    · simp only [if_neg hkl, if_pos (show j < ps.length by omega)]
      exact (h3 j (by omega)).2
theorem PartP.set (h : PartP e w lo hi ps) {b o : Nat} (hb : b < lo) (u : Value) : PartP e (w.setCell ⟨b, o, none⟩ u) lo hi ps :=
  h.imp (fun k h1 _ => Below.heap_setCell w ⟨b, o, none⟩ u k (by show k ≠ b; omega)) (Nat.le_refl _)
theorem PartP.done {g : Nat} (h : PartP e w lo hi ps) (ho : w.ownsRow 0 e 7 v ps.length (ps.flatMap fun p => p.1.cell p.2)) (hv : v.ownBlock = some g) (h1 : lo' ≤ g) (h2 : g < lo) (h3 : g < hi) : OwnP e w lo' hi v (ps.map Prod.fst) := by
  obtain ⟨s, t, a1, a3, a4⟩ := h
  refine OwnPi.mk lo' hi v ps s t ho (fun b hb => by rw [hv] at hb; injection hb with hb; omega) a1 (fun k hk => ⟨by have := a3 k hk; omega, (a3 k hk).2, fun b hb => ?_⟩) a4
  rw [hv] at hb
  injection hb with hb
  have := a3 k hk
  exact .inl (by omega)
end
theorem take_set7 {l : List Value} {o : Nat} {a b c d e f g : Value} (h : o + 7 ≤ l.length) : (((((((l.set o a).set (o + 1) b).set (o + 2) c).set (o + 3) d).set (o + 4) e).set (o + 5) f).set (o + 6) g).take (o + 7) = l.take o ++ [a, b, c, d, e, f, g] := by
  have h1 := take_set3 (l := (((l.set o a).set (o + 1) b).set (o + 2) c).set (o + 3) d) (o := o + 4) (a := e) (b := f) (c := g) (by simp; omega)
  have h2 := take_set2 (l := (l.set o a).set (o + 1) b) (o := o + 2) (a := c) (b := d) (by simp; omega)
  have h3 := take_set2 (l := l) (o := o) (a := a) (b := b) (by omega)
  rw [h3] at h2
  rw [h2, List.append_assoc, List.append_assoc] at h1
  exact h1
theorem set7 {w : World} {g o : Nat} {cur : Array Value} {e : TypeId} {a b c d f h i : Value} (hh : w.heap[g]? = some (.cells cur e (0, 0))) :
    (((((((w.setCell ⟨g, o, none⟩ a).setCell ⟨g, o + 1, none⟩ b).setCell ⟨g, o + 2, none⟩ c).setCell ⟨g, o + 3, none⟩ d).setCell ⟨g, o + 4, none⟩ f).setCell ⟨g, o + 5, none⟩ h).setCell ⟨g, o + 6, none⟩ i).heap[g]? = some (.cells (((((((cur.setIfInBounds o a).setIfInBounds (o + 1) b).setIfInBounds (o + 2) c).setIfInBounds (o + 3) d).setIfInBounds (o + 4) f).setIfInBounds (o + 5) h).setIfInBounds (o + 6) i) e (0, 0)) :=
  set1 (set1 (set1 (set1 (set1 (set1 (set1 hh))))))
end Go.Lb
namespace Go.Proofs.YtjogkbkkcaljhaaGreatDoor
open Go.Sort Go.ChangeShapes Go.WideShapes Go.ChangeAt Go.RowKit Go.Lb

theorem info_pred : (Tryz.prog.info? 27).map (fun i => (i.zero, i.size, i.bytes)) = some (some (.agg #[.int .i64 0, .int .i64 0, .int .i64 0, .int .i64 0, .int .i64 0, .string ⟨#[]⟩, .slice none 0 0]), 7, 80) := by kernel_rfl
end Go.Proofs.YtjogkbkkcaljhaaGreatDoor
namespace Go.Lb
open Go.RowKit
def pcells (ps : List (P × Value)) : List Value := ps.flatMap fun p => p.1.cell p.2
/-- The row of the list lies in a block of its own; each one's parts lie in a stretch of blocks of their own. -/
structure OwnPs (e : TypeId) (w : World) (lo hi : Nat) (v : Value) (ps : List (P × Value)) (s t : Nat → Nat) : Prop where
  out : w.ownsRow 0 e 7 v ps.length (pcells ps)
  outIn : InR lo hi v.ownBlock
  inn : ∀ (k : Nat) (p : P × Value), ps[k]? = some p → OwnP e w (s k) (t k) p.2 p.1.l
  stay : ∀ k, k < ps.length → lo ≤ s k ∧ t k ≤ hi ∧ ∀ g, v.ownBlock = some g → g < s k ∨ t k ≤ g
  rise : ∀ j k, j < k → k < ps.length → t j ≤ s k
def OwnPx (e : TypeId) (w : World) (lo hi : Nat) (v : Value) (ps : List (P × Value)) : Prop := ∃ s t, OwnPs e w lo hi v ps s t
section
variable {e : TypeId} {w w' w1 : World} {lo hi lo' hi' base : Nat} {ps : List (P × Value)} {v v' sv : Value} {x : P} {l : List P}
theorem OwnPx.own (h : OwnPx e w lo hi v ps) : OwnP e w lo hi v (ps.map Prod.fst) := by
  obtain ⟨s, t, h⟩ := h
  exact OwnPi.mk lo hi v ps s t h.out h.outIn h.inn h.stay h.rise
theorem OwnP.px (h : OwnP e w lo hi v l) : ∃ ps, ps.map Prod.fst = l ∧ OwnPx e w lo hi v ps := by
  unfold OwnP at h
  cases h with
  | mk lo hi v ps s t ho hin hr hst hts => exact ⟨ps, rfl, s, t, ⟨ho, hin, hr, hst, hts⟩⟩
theorem OwnPx.imp (h : OwnPx e w lo hi v ps) (h1 : lo' ≤ lo) (h2 : hi ≤ hi') (hs : Same lo hi w w') : OwnPx e w' lo' hi' v ps := by
  obtain ⟨s, t, a1, a2, a3, a4, a5⟩ := h
  refine ⟨s, t, owns_same a1 fun g hg => hs g (a2 g hg).1 (a2 g hg).2, fun g hg => by have := a2 g hg; omega, fun k p hp => ?_, fun k hk => ?_, a5⟩
  · have hk := (List.getElem?_eq_some_iff.1 hp).1
    have := a4 k hk
    exact (a3 k p hp).same (hs.less this.1 this.2.1)
  · have := a4 k hk
    exact ⟨by omega, by omega, this.2.2⟩
theorem OwnPx.nil (h : w.ownsRow base e 7 v 0 []) (hi' : InR lo hi v.ownBlock) : OwnPx e w lo hi v [] :=
  ⟨fun _ => 0, fun _ => 0, owns_zero h, hi', fun k p h => by simp at h, fun k h => by simp at h, fun j k _ h => by simp at h⟩
/-- One more (what was made in between may have turned other blocks). -/
theorem OwnPs.snoc {s t : Nat → Nat} (h : OwnPs e w lo w.heap.size v ps s t) (hb : Same lo w.heap.size w w1) (s1 : w.heap.size ≤ w1.heap.size) (hlo : lo ≤ w.heap.size)
    {B : Nat} (hin : OwnP e w1 w.heap.size B sv x.l) (hB : B ≤ w1.heap.size) (hout : w'.ownsRow base e 7 v' (ps.length + 1) (pcells ps ++ x.cell sv)) (hg : w1.grownBy w' v.ownBlock)
    (hv : ∀ g, v'.ownBlock = some g → v.ownBlock = some g ∨ w1.heap.size ≤ g) : OwnPs e w' lo w'.heap.size v' (ps ++ [(x, sv)]) (fun k => if k < ps.length then s k else w.heap.size) (fun k => if k < ps.length then t k else B) := by
  obtain ⟨a1, a2, a3, a4, a5⟩ := h
  have s2 := hg.size
  have hold : ∀ k p, ps[k]? = some p → OwnP e w' (s k) (t k) p.2 p.1.l := fun k p hp => by
    have hk := (List.getElem?_eq_some_iff.1 hp).1
    have h4 := a4 k hk
    refine (a3 k p hp).same fun g h1 h2 => ?_
    rw [hg.block g (by omega) (fun e => by rcases h4.2.2 g e.symm with h | h <;> omega)]
    exact hb g (by omega) (by omega)
  have hnew : OwnP e w' w.heap.size B sv x.l := hin.same fun g h1 h2 => hg.block g (by omega) (fun e => by have := a2 g e.symm; omega)
  refine ⟨by rw [List.length_append]; simpa [pcells] using owns_zero hout, fun g hg' => ?_, fun k p hp => ?_, fun k hk => ?_, fun j k hjk hk => ?_⟩
  · refine ⟨?_, (hout.lt g hg').2⟩
    rcases hv g hg' with h1 | h1
    · exact (a2 g h1).1
    · omega
  · by_cases hk : k < ps.length
    · rw [List.getElem?_append_left hk] at hp
      simp only [if_pos hk]
      exact hold k p hp
    · rw [List.getElem?_append_right (by omega)] at hp
      have h0 : k - ps.length = 0 := by
        have := (List.getElem?_eq_some_iff.1 hp).1
        simp at this; omega
      rw [h0] at hp
      simp only [List.getElem?_cons_zero, Option.some.injEq] at hp
      subst hp
      simp only [if_neg hk]
      exact hnew
  · by_cases hkl : k < ps.length
    · have h4 := a4 k hkl
      simp only [if_pos hkl]
      refine ⟨h4.1, by omega, fun g hg' => ?_⟩
      rcases hv g hg' with h1 | h1
      · exact h4.2.2 g h1
      · right; omega
    · simp only [if_neg hkl]
      refine ⟨hlo, by omega, fun g hg' => ?_⟩
      rcases hv g hg' with h1 | h1
      · left; exact (a2 g h1).2
      · right; omega
  · simp only [List.length_append, List.length_cons, List.length_nil] at hk
    by_cases hkl : k < ps.length
    · simp only [if_pos hkl, if_pos (show j < ps.length by omega)]
      exact a5 j k hjk hkl
    · simp only [if_neg hkl, if_pos (show j < ps.length by omega)]
      exact (a4 j (by omega)).2.1
theorem OwnPx.snoc (h : OwnPx e w lo w.heap.size v ps) (hb : Same lo w.heap.size w w1) (s1 : w.heap.size ≤ w1.heap.size) (hlo : lo ≤ w.heap.size)
    {B : Nat} (hin : OwnP e w1 w.heap.size B sv x.l) (hB : B ≤ w1.heap.size) (hout : w'.ownsRow base e 7 v' (ps.length + 1) (pcells ps ++ x.cell sv)) (hg : w1.grownBy w' v.ownBlock)
    (hv : ∀ g, v'.ownBlock = some g → v.ownBlock = some g ∨ w1.heap.size ≤ g) : OwnPx e w' lo w'.heap.size v' (ps ++ [(x, sv)]) := by
  obtain ⟨s, t, h⟩ := h
  exact ⟨_, _, h.snoc hb s1 hlo hin hB hout hg hv⟩
/-- One more, and a cell of a block that is none of these is written. -/
theorem OwnPx.snocG {X hi0 q : Nat} {u : Value} (h : OwnPx e w lo hi0 v ps) (h0 : hi0 ≤ X) (hX : X < w.heap.size) (hb : Same lo w.heap.size w w1) (s1 : w.heap.size ≤ w1.heap.size) (hlo : lo ≤ w.heap.size)
    {B : Nat} (hin : OwnP e w1 w.heap.size B sv x.l) (hB : B ≤ w1.heap.size) (hout : w'.ownsRow base e 7 v' (ps.length + 1) (pcells ps ++ x.cell sv)) (hg : w1.grownBy w' v.ownBlock)
    (hv : ∀ g, v'.ownBlock = some g → v.ownBlock = some g ∨ w1.heap.size ≤ g) : OwnPx e (w'.setCell ⟨X, q, none⟩ u) lo w'.heap.size v' (ps ++ [(x, sv)]) := by
  obtain ⟨s, t, h⟩ := h
  have h1 : OwnPs e w lo w.heap.size v ps s t := ⟨h.out, fun g hg => by have := h.outIn g hg; omega, h.inn, fun k hk => by have := h.stay k hk; exact ⟨this.1, by omega, this.2.2⟩, h.rise⟩
  have h2 := h1.snoc hb s1 hlo hin hB hout hg hv
  have ne : ∀ b, b ≠ X → (w'.setCell ⟨X, q, none⟩ u).heap[b]? = w'.heap[b]? := fun b hb => Below.heap_setCell w' ⟨X, q, none⟩ u b (by show b ≠ X; exact hb)
  refine ⟨_, _, owns_same h2.out fun g hg => ne g fun e => ?_, h2.outIn, fun k p hp => (h2.inn k p hp).same fun b hb1 hb2 => ne b fun e => ?_, h2.stay, h2.rise⟩
  · subst e
    rcases hv g hg with h3 | h3
    · have := h.outIn g h3; omega
    · omega
  · subst e
    by_cases hk : k < ps.length
    · have := h.stay k hk
      simp only [if_pos hk] at hb1 hb2
      omega
    · simp only [if_neg hk] at hb1 hb2
      omega
/-- The first ones alone. -/
theorem owns_take {n m c s : Nat} {A : Option Addr} {xs : List Value} (h : w.ownsRow base e s (.slice A n c) n xs) (hm : m ≤ n) (h0 : 0 < n) : w.ownsRow base e s (.slice A m c) m (xs.take (m * s)) := by
  obtain ⟨h1, h2⟩ := h
  have hle : m * s ≤ n * s := Nat.mul_le_mul_right s hm
  refine ⟨by rw [List.length_take]; omega, ?_⟩
  rcases h2 with ⟨h2, h3⟩ | ⟨g, cap, cur, h2, h3, h4, h5, h6, h7, h8⟩
  · omega
  · injection h2 with e1 e2 e3
    subst e1 e3
    refine .inr ⟨g, c, cur, rfl, h3, h4, by omega, h6, h7, ?_⟩
    rw [← h8, List.take_take, Nat.min_eq_left hle]
theorem OwnPx.take {n m c : Nat} {A : Option Addr} (h : OwnPx e w lo hi (.slice A n c) ps) (hn : ps.length = n) (hm : m ≤ n) (h0 : 0 < n) : OwnPx e w lo hi (.slice A m c) (ps.take m) := by
  obtain ⟨s, t, a1, a2, a3, a4, a5⟩ := h
  have hl : (ps.take m).length = m := by rw [List.length_take]; omega
  have hcut : ∀ (q : List (P × Value)) (k : Nat), k ≤ q.length → (pcells q).take (k * 7) = pcells (q.take k) := by
    intro q
    induction q with
    | nil => intro k hk; simp [pcells]
    | cons a q ih =>
      intro k hk
      cases k with
      | zero => simp [pcells]
      | succ k =>
        have := ih k (by simpa using hk)
        simp only [pcells, List.flatMap_cons, List.take_succ_cons] at this ⊢
        rw [List.take_append, P.cell_len a, show (k + 1) * 7 - 7 = k * 7 by omega, this, List.take_of_length_le (by rw [P.cell_len a]; omega)]
  refine ⟨s, t, ?_, fun g hg => a2 g (by
    cases A with
    | none => simp [Value.ownBlock] at hg
    | some a => exact hg), fun k p hp => ?_, fun k hk => ?_, fun j k hjk hk => a5 j k hjk (by omega)⟩
  · rw [hl, ← hcut ps m (by omega)]
    rw [hn] at a1
    exact owns_take a1 hm h0
  · rw [List.getElem?_take] at hp
    split at hp
    · exact a3 k p hp
    · cases hp
  · have h4 := a4 k (by omega)
    refine ⟨h4.1, h4.2.1, fun g hg => h4.2.2 g (by
      cases A with
      | none => simp [Value.ownBlock] at hg
      | some a => exact hg)⟩
end
end Go.Lb
