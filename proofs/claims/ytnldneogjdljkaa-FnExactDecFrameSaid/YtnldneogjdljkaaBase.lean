/- The least number and the offsets of a column: as functions on lists; no conditions. -/
import Derived.Test.YtnldneogjdljkaaApp
namespace Go.Lb
def lower (b : Int) (v : V) : Int := if v.n < b then v.n else b
def baseOf : List V → Int
  | [] => 0
  | a :: r => r.foldl lower a.n
def offsets (l : List V) : List Int := if typeOf l = 1 then l.map (fun v => v.n - baseOf l) else []

theorem baseOf_step {l : List V} {k : Nat} {y : V} (h : l[k]? = some y) (h0 : 0 < k) : baseOf (l.take (k + 1)) = if y.n < baseOf (l.take k) then y.n else baseOf (l.take k) := by
  rw [take_of_get h]
  cases l with
  | nil => simp at h
  | cons a r =>
    cases k with
    | zero => omega
    | succ k =>
      simp [baseOf, List.foldl_append]
      rfl
theorem baseOf_one {l : List V} {y : V} (h : l[0]? = some y) : baseOf (l.take (0 + 1)) = y.n := by
  cases l with
  | nil => simp at h
  | cons a r => simp at h; subst h; simp [baseOf]
theorem foldl_in (r : List V) (b lo hi : Int) (hb : lo ≤ b ∧ b ≤ hi) (h : ∀ v ∈ r, lo ≤ v.n ∧ v.n ≤ hi) : lo ≤ r.foldl lower b ∧ r.foldl lower b ≤ hi := by
  induction r generalizing b with
  | nil => exact hb
  | cons a r ih =>
    refine ih _ ?_ (fun v hv => h v (by simp [hv]))
    have := h a (by simp)
    unfold lower
    split <;> omega
theorem baseOf_in {l : List V} {lo hi : Int} (h0 : lo ≤ 0 ∧ 0 ≤ hi) (h : ∀ v ∈ l, lo ≤ v.n ∧ v.n ≤ hi) : lo ≤ baseOf l ∧ baseOf l ≤ hi := by
  cases l with
  | nil => exact h0
  | cons a r => exact foldl_in r a.n lo hi (h a (by simp)) (fun v hv => h v (by simp [hv]))
theorem typeOf_mem {l : List V} {t : Int} (h : typeOf l = t) (ht : t ≠ 0) : ∀ v ∈ l, valOk v = true ∧ v.ty = t := by
  cases l with
  | nil => simp [typeOf] at h; exact absurd h.symm ht
  | cons a r =>
    simp only [typeOf] at h
    split at h
    · rename_i hc
      intro v hv
      simp only [Bool.and_eq_true, Bool.not_eq_true', List.any_eq_false] at hc
      have := hc.2 v hv
      simp [tyBad] at this
      exact ⟨this.1, this.2.trans h⟩
    · exact absurd h.symm ht
theorem typeOf_len64 {l : List V} {t : Int} (h : typeOf l = t) (ht : t ≠ 0) : l.length ≤ 64 := by
  cases l with
  | nil => simp
  | cons a r =>
    simp only [typeOf] at h
    split at h
    · rename_i hc
      simp only [Bool.and_eq_true] at hc
      have := inR_yes hc.1
      omega
    · exact absurd h.symm ht
theorem valOk_int {v : V} (h : valOk v = true) (ht : v.ty = 1) : -1000000000 ≤ v.n ∧ v.n ≤ 1000000000 := by
  simp only [valOk, ht, if_true, Bool.and_eq_true] at h
  exact inR_yes h.1
theorem ints_in {l : List V} (h : typeOf l = 1) : ∀ v ∈ l, -1000000000 ≤ v.n ∧ v.n ≤ 1000000000 := fun v hv =>
  valOk_int (typeOf_mem h (by omega) v hv).1 (typeOf_mem h (by omega) v hv).2
theorem base_in {l : List V} (h : typeOf l = 1) : -1000000000 ≤ baseOf l ∧ baseOf l ≤ 1000000000 := baseOf_in ⟨by omega, by omega⟩ (ints_in h)
def offCells (B : Int) (l : List V) : List Value := l.map fun v => .int .i64 (v.n - B)
theorem offCells_snoc {B : Int} {a b : List V} {y : V} (h : a = b ++ [y]) : offCells B a = offCells B b ++ [.int .i64 (y.n - B)] := by rw [h]; simp [offCells]
theorem offsets_cells {l : List V} {B : Int} (h : offsets l = l.map (fun v => v.n - B)) : (offsets l).map (Value.int .i64) = offCells B l ∧ (offsets l).length = l.length := by rw [h]; simp [offCells]
theorem offsets_len (l : List V) : (offsets l).length ≤ l.length := by unfold offsets; split <;> simp
end Go.Lb
