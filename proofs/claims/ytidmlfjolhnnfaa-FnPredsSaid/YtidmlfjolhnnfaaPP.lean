/- Predicates as functions: where none may be such by the zones of some rows, none is; a negation holds exactly if its operand does not. No conditions; nothing here speaks of the program. -/
import Derived.Test.YtidmlfjolhnnfaaD28
import Derived.Test.YtidmlfjolhnnfaaS28
import Derived.Test.YtidmlfjolhnnfaaS33
import Derived.Test.YtidmlfjolhnnfaaS36
import Derived.Test.YtidmlfjolhnnfaaZ3
import Derived.Test.YtidmlfjolhnnfaaWOps
namespace Go.Proofs.Ytidmlfjolhnnfaa
open Go.RowKit Go.Lb
def notP (p : P) : P := .mk 5 0 0 V.zero [p]
theorem holds_not (l : List V) (p : P) : holdsP l (notP p) = !holdsP l p := by
  rw [holdsP_eq]
  simp [notP, P.kind, P.l, notH]
theorem may_not (z : List Z) (p : P) : mayP z (notP p) = failP z p := by
  rw [mayP_eq]
  simp [notP, P.kind, P.l, fstP]
theorem colsOk_ty {cols : List Int} (h : colsOk cols = true) : 1 ≤ cols.length ∧ cols.length ≤ 3 ∧ ∀ t ∈ cols, t = 1 ∨ t = 2 := by
  simp only [colsOk, Bool.and_eq_true, List.all_eq_true] at h
  have h1 := inR_yes h.2
  refine ⟨by omega, by omega, fun t ht => ?_⟩
  have := inR_yes (h.1 t ht)
  omega
theorem fit_at {cols : List Int} {l : List V} {j : Nat} (h : FitL cols l) (hj : j < cols.length) : ∃ x, l[j]? = some x :=
  ⟨_, List.getElem?_eq_getElem (by rw [← h.1]; exact hj)⟩
theorem zones_len {cols : List Int} {l : List R} {r : R} (hf : FitR cols l) (hr : r ∈ l) : (zonesOf l).length = cols.length ∧ ∀ j, j < cols.length → (zonesOf l)[j]? = some (zk l j) := by
  cases l with
  | nil => cases hr
  | cons a t =>
    have ha := (hf a (by simp)).1
    rw [zonesOf_eq (r := a) rfl]
    refine ⟨by simp [ha], fun j hj => ?_⟩
    rw [List.getElem?_map, List.getElem?_range (by omega)]
    rfl
theorem mem_column {l : List R} {r : R} {j : Nat} {x : V} (hr : r ∈ l) (hx : r.l[j]? = some x) : x ∈ column l (j : Int) := by
  rw [column, List.mem_filterMap]
  exact ⟨r, hr, colAt_in hx⟩
theorem sound {cols : List Int} {l : List R} {r : R} (hf : FitR cols l) (hr : r ∈ l) : ∀ (k : Nat) (p : P), deepOk cols k p = true →
    (holdsP r.l p = true → mayP (zonesOf l) p = true) ∧ (holdsP r.l p = false → failP (zonesOf l) p = true)
  | 0, p, h => by cases h
  | k + 1, p, h => by
    rw [deepOk, Bool.and_eq_true] at h
    obtain ⟨h1, h2⟩ := h
    have ih : ∀ x ∈ p.l, (holdsP r.l x = true → mayP (zonesOf l) x = true) ∧ (holdsP r.l x = false → failP (zonesOf l) x = true) := fun x hx => sound hf hr k x (List.all_eq_true.1 h2 x hx)
    rw [holdsP_eq, mayP_eq, failP_eq]
    by_cases k1 : p.kind = 1
    · simp [k1]
    by_cases k2 : p.kind = 2
    · rw [formOk_2 k2] at h1
      simp only [if_neg k1, if_pos k2]
      cases hin : inR p.col 0 ((cols.length : Int) - 1)
      · rw [cmpOk_out hin] at h1; cases h1
      · have hc := inR_yes hin
        obtain ⟨j, hj⟩ := Int.eq_ofNat_of_zero_le hc.1
        have hjl : j < cols.length := by omega
        have hrf := hf r hr
        obtain ⟨x, hx⟩ := fit_at hrf hjl
        obtain ⟨z1, z2⟩ := zones_len hf hr
        have hz := z2 j hjl
        rw [hj] at h1 ⊢
        rw [cmpOk_at (List.getElem?_eq_getElem hjl)] at h1
        simp only [Bool.and_eq_true] at h1
        have hop := inR_yes h1.2.2.1
        rw [cmpAt_in hx, mcmpAt_in hz, fcmpAt_in hz]
        have hle := zone_le (mem_column hr hx)
        refine ⟨fun hh => may_of_holds hle.1 hle.2 hh, fun hh => may_of_holds hle.1 hle.2 ?_⟩
        have := (ops_in hop.1 hop.2 x p.v).2
        rw [hh] at this
        simpa using this
    by_cases k3 : p.kind = 3
    · simp only [if_neg k1, if_neg k2, if_pos k3]
      refine ⟨fun hh => ?_, fun hh => ?_⟩
      · rw [List.all_eq_true] at hh ⊢
        exact fun x hx => (ih x hx).1 (hh x hx)
      · rw [List.all_eq_false] at hh
        obtain ⟨x, hx, hh⟩ := hh
        rw [List.any_eq_true]
        exact ⟨x, hx, (ih x hx).2 (by simpa using hh)⟩
    by_cases k4 : p.kind = 4
    · simp only [if_neg k1, if_neg k2, if_neg k3, if_pos k4]
      refine ⟨fun hh => ?_, fun hh => ?_⟩
      · rw [List.any_eq_true] at hh ⊢
        obtain ⟨x, hx, hh⟩ := hh
        exact ⟨x, hx, (ih x hx).1 hh⟩
      · rw [List.any_eq_false] at hh
        rw [List.all_eq_true]
        exact fun x hx => (ih x hx).2 (by simpa using hh x hx)
    by_cases k5 : p.kind = 5
    · simp only [if_neg k1, if_neg k2, if_neg k3, if_neg k4, if_pos k5]
      cases hl : p.l with
      | nil => simp [notH, fstP]
      | cons x t =>
        have := ih x (by rw [hl]; simp)
        simp only [notH, fstP]
        refine ⟨fun hh => this.2 (by simpa using hh), fun hh => this.1 (by simpa using hh)⟩
    · simp only [if_neg k1, if_neg k2, if_neg k3, if_neg k4, if_neg k5]
      simp
theorem predOk_deep {cols : List Int} {p : P} (h : predOk cols p = true) : colsOk cols = true ∧ deepOk cols 4 p = true ∧ 1 + cntP p.l ≤ 8 := by
  simp only [predOk, Bool.and_eq_true, decide_eq_true_eq] at h
  exact ⟨h.1, h.2.1, by omega⟩
theorem predOk_of {cols : List Int} {p : P} (h1 : colsOk cols = true) (h2 : deepOk cols 4 p = true) (h3 : 1 + cntP p.l ≤ 8) : predOk cols p = true := by
  simp only [predOk, Bool.and_eq_true, decide_eq_true_eq]
  exact ⟨h1, h2, by omega⟩
/-- A comparison of a column with a value of its type is right. -/
theorem predOk_cmp {cols : List Int} {j : Nat} {op : Int} {v : V} (h1 : colsOk cols = true) (hj : j < cols.length) (ho1 : 1 ≤ op) (ho2 : op ≤ 6) (hv : valOk v = true) (ht : v.ty = cols[j]) : predOk cols (.mk 2 j op v []) = true := by
  refine predOk_of h1 ?_ (by simp [P.l, cntP_nil])
  rw [deepOk, formOk_2 rfl]
  simp only [P.col, P.op, P.v, P.l, List.all_nil, Bool.and_true, List.length_nil]
  rw [cmpOk_at (List.getElem?_eq_getElem hj), hv, inR_of ho1 ho2, ht]
  simp
end Go.Proofs.Ytidmlfjolhnnfaa
