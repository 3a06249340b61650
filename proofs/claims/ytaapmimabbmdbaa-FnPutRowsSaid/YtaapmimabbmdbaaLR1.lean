/- The laws' helpers for rows (and slots): sizes, equality, copies of one: contracts. -/
import Derived.Test.YtaapmimabbmdbaaMemR
import Derived.Test.YtaapmimabbmdbaaL2
import Derived.Test.YtaapmimabbmdbaaL3
namespace Go.Proofs.Ytaapmimabbmdbaa
open Go.Sort Go.ChangeShapes Go.WideShapes Go.ChangeAt Go.RowKit Go.Lb

theorem szVal_dec (x : V) (left : Int) (h : ¬ szVal x left < 0) : szVal x left ≤ left := by unfold szVal szV at *; split at h <;> first | omega | (split <;> omega)
theorem szVs_dec : ∀ (l : List V) (left : Int), ¬ szVs l left < 0 → szVs l left ≤ left
  | [], left, _ => Int.le_refl _
  | x :: r, left, h => by
    by_cases hn : szVal x left < 0
    · rw [szVs_neg hn] at h; omega
    · rw [szVs_pos hn] at h ⊢
      exact Int.le_trans (szVs_dec r _ h) (szVal_dec x left hn)
theorem szValS_dec (l : List V) (left : Int) (h : ¬ szValS l left < 0) : szValS l left ≤ left - l.length ∧ 0 ≤ szValS l left := by
  unfold szValS at *
  split at h
  · omega
  · rename_i h1
    rw [if_neg h1]
    exact ⟨szVs_dec _ _ h, by omega⟩
def szR (x : R) (left : Int) : Int := if szValS x.l left < 0 then -1 else szValS x.l left
theorem szR_le (x : R) (left : Int) (h0 : 0 ≤ left) (h : left ≤ 1048576) : szR x left ≤ 1048576 := by
  have := szValS_le x.l left h0 h
  unfold szR
  split <;> omega
theorem szR_dec (x : R) (left : Int) (h : ¬ szR x left < 0) : szR x left ≤ left - x.l.length ∧ 0 ≤ szR x left := by
  unfold szR at *
  split at h
  · omega
  · rename_i h1
    rw [if_neg h1]
    exact szValS_dec _ _ h1
def szRs : List R → Int → Int
  | [], l => l
  | v :: r, l => if szR v l < 0 then -1 else szRs r (szR v l)
theorem szRs_neg {x : R} {r : List R} {m : Int} (h : szR x m < 0) : szRs (x :: r) m = -1 := by rw [szRs, if_pos h]
theorem szRs_pos {x : R} {r : List R} {m : Int} (h : ¬ szR x m < 0) : szRs (x :: r) m = szRs r (szR x m) := by rw [szRs, if_neg h]
def szRowS (l : List R) (left : Int) : Int := if left - l.length < 0 then -1 else szRs l (left - l.length)
theorem szRs_le : ∀ (l : List R) (left : Int), 0 ≤ left → left ≤ 1048576 → szRs l left ≤ 1048576
  | [], left, _, h => h
  | x :: r, left, h0, h => by
    by_cases hn : szR x left < 0
    · rw [szRs_neg hn]; omega
    · rw [szRs_pos hn]; exact szRs_le r _ (by omega) (szR_le x left h0 h)
def lensR (l : List R) : Nat := (l.map fun r => r.l.length).sum
theorem szRs_dec : ∀ (l : List R) (left : Int), ¬ szRs l left < 0 → szRs l left ≤ left - lensR l
  | [], left, _ => by simp [szRs, lensR]
  | x :: r, left, h => by
    by_cases hn : szR x left < 0
    · rw [szRs_neg hn] at h; omega
    · rw [szRs_pos hn] at h ⊢
      have h1 := szRs_dec r _ h
      have h2 := szR_dec x left hn
      simp only [lensR, List.map_cons, List.sum_cons] at *
      omega
theorem szRowS_le (l : List R) (left : Int) (h0 : 0 ≤ left) (h : left ≤ 1048576) : szRowS l left ≤ 1048576 := by
  unfold szRowS
  split
  · omega
  · exact szRs_le _ _ (by omega) (by omega)
theorem cntR_eq (l : List R) : cntR l = l.length + 3 * lensR l := by
  induction l with
  | nil => rfl
  | cons x r ih =>
    simp only [cntR, lensR, List.map_cons, List.sum_cons, List.length_cons] at *
    omega
theorem szRowS_bd (l : List R) (left : Int) (h0 : 0 ≤ left) (h : left ≤ 1048576) : ¬ szRowS l left < 0 → l.length ≤ 1048576 ∧ cntR l ≤ 3145728 ∧ lensR l ≤ 1048576 := by
  intro hn
  have hc := cntR_eq l
  unfold szRowS at hn
  split at hn
  · omega
  · have h1 := szRs_dec _ _ hn
    omega
theorem szR_bd (x : R) (left : Int) (h0 : 0 ≤ left) (h : left ≤ 1048576) : ¬ szR x left < 0 → x.l.length ≤ 1048576 := by
  intro hn
  have := szR_dec x left hn
  omega


end Go.Proofs.Ytaapmimabbmdbaa
