/- Columns as functions on lists of bytes: the shortest way; what is written is read, and what is read was written. No conditions; nothing here speaks of the program. -/
import Derived.Test.YticimccfeohpcaaGreatCR
import Derived.Test.YticimccfeohpcaaGreatCD
import Derived.Test.YticimccfeohpcaaGreatXF
namespace Go.Lb
def encBy (k : Int) (l : List V) : List UInt8 := if k = 0 then encPlain l else if k = 1 then encRuns l else if k = 2 then encDict l else if k = 3 then encFrame l else []
theorem encBy_len (k : Int) (l : List V) : (encBy k l).length ≤ 1000 := by
  have h0 := encPlain_len l
  have h1 := encRuns_len l
  have h2 := encDict_len l
  have h3 := encFrame_len l
  unfold encBy
  repeat' split
  all_goals first | omega | simp
theorem encBy_0 (l : List V) : encBy 0 l = encPlain l := rfl
theorem encBy_1 (l : List V) : encBy 1 l = encRuns l := rfl
theorem encBy_2 (l : List V) : encBy 2 l = encDict l := rfl
theorem encBy_3 (l : List V) : encBy 3 l = encFrame l := rfl
theorem encBy_no {k : Int} (h0 : k ≠ 0) (h1 : k ≠ 1) (h2 : k ≠ 2) (h3 : k ≠ 3) (l : List V) : encBy k l = [] := by rw [encBy, if_neg h0, if_neg h1, if_neg h2, if_neg h3]
def best1 (l : List V) : Int := if (encRuns l).length < (encPlain l).length then 1 else 0
def best2 (l : List V) : Int := if (encDict l).length < (encBy (best1 l) l).length then 2 else best1 l
def best3 (l : List V) : Int := if typeOf l = 1 ∧ (encFrame l).length < (encBy (best2 l) l).length then 3 else best2 l
def bestKind (l : List V) : Int := if typeOf l = 0 then -1 else best3 l
theorem best1_in (l : List V) : best1 l = 0 ∨ best1 l = 1 := by unfold best1; split <;> simp
theorem best2_in (l : List V) : best2 l = 0 ∨ best2 l = 1 ∨ best2 l = 2 := by
  have := best1_in l
  unfold best2
  split <;> omega
theorem best3_in (l : List V) : best3 l = 0 ∨ best3 l = 1 ∨ best3 l = 2 ∨ (best3 l = 3 ∧ typeOf l = 1) := by
  have := best2_in l
  unfold best3
  split
  · rename_i h
    exact .inr (.inr (.inr ⟨rfl, h.1⟩))
  · omega
theorem bestKind_no {l : List V} (h : typeOf l = 0) : bestKind l = -1 := by rw [bestKind, if_pos h]
theorem bestKind_yes {l : List V} (h : typeOf l ≠ 0) : bestKind l = best3 l := by rw [bestKind, if_neg h]
theorem bestKind_in (l : List V) : -1 ≤ bestKind l ∧ bestKind l ≤ 3 := by
  have := best3_in l
  unfold bestKind
  split <;> omega
theorem best1_le (l : List V) : (encBy (best1 l) l).length ≤ (encPlain l).length ∧ (encBy (best1 l) l).length ≤ (encRuns l).length := by
  unfold best1
  split
  · rw [encBy_1]; omega
  · rw [encBy_0]; omega
theorem best2_le (l : List V) : (encBy (best2 l) l).length ≤ (encBy (best1 l) l).length ∧ (encBy (best2 l) l).length ≤ (encDict l).length := by
  unfold best2
  split
  · rw [encBy_2]; omega
  · omega
theorem best3_le (l : List V) : (encBy (best3 l) l).length ≤ (encBy (best2 l) l).length ∧ (typeOf l = 1 → (encBy (best3 l) l).length ≤ (encFrame l).length) := by
  unfold best3
  split
  · rename_i h
    rw [encBy_3]
    exact ⟨by omega, fun _ => Nat.le_refl _⟩
  · rename_i h
    refine ⟨Nat.le_refl _, fun ht => ?_⟩
    rw [not_and] at h
    have := h ht
    omega
/-- No way has fewer bytes. -/
theorem best_le {l : List V} (h : typeOf l ≠ 0) (k : Int) (hk : 0 < (encBy k l).length) : (encBy (bestKind l) l).length ≤ (encBy k l).length := by
  rw [bestKind_yes h]
  have h1 := best1_le l
  have h2 := best2_le l
  have h3 := best3_le l
  by_cases e0 : k = 0
  · subst e0; rw [encBy_0]; omega
  · by_cases e1 : k = 1
    · subst e1; rw [encBy_1]; omega
    · by_cases e2 : k = 2
      · subst e2; rw [encBy_2]; omega
      · by_cases e3 : k = 3
        · subst e3
          rw [encBy_3] at hk ⊢
          exact h3.2 (encFrame_ty fun e => by rw [e] at hk; simp at hk)
        · rw [encBy_no e0 e1 e2 e3] at hk
          simp at hk
def encCol (l : List V) : List UInt8 := if bestKind l < 0 then [] else UInt8.ofNat (bestKind l).toNat :: encBy (bestKind l) l
theorem encCol_no {l : List V} (h : typeOf l = 0) : encCol l = [] := by rw [encCol, bestKind_no h]; rfl
theorem bestKind_pos {l : List V} (h : typeOf l ≠ 0) : 0 ≤ bestKind l := by
  rw [bestKind_yes h]
  have := best3_in l
  omega
theorem encCol_yes {l : List V} (h : typeOf l ≠ 0) : encCol l = UInt8.ofNat (bestKind l).toNat :: encBy (bestKind l) l := by
  have := bestKind_pos h
  rw [encCol, if_neg (by omega)]
theorem encCol_len (l : List V) : (encCol l).length ≤ 1001 := by
  have := encBy_len (bestKind l) l
  unfold encCol
  split
  · simp
  · simp only [List.length_cons]; omega
/-- What is read by a way's number. -/
def decBy (kd : Int) (b : List UInt8) (ty k : Int) : Option (List V) := if kd = 0 then decPlain b ty k else if kd = 1 then decRuns b ty k else if kd = 2 then decDict b ty k else if kd = 3 then decFrame b k else none
def decCol (b : List UInt8) (ty k : Int) : Option (List V) := match b with
  | [] => none
  | c :: r => match decBy (c.toNat : Int) r ty k with
    | none => none
    | some l => if decide (typeOf l = ty) && eqd b (encCol l) then some l else none
theorem decCol_nil (ty k : Int) : decCol [] ty k = none := rfl
theorem decCol_none {c : UInt8} {r : List UInt8} {ty k : Int} (h : decBy (c.toNat : Int) r ty k = none) : decCol (c :: r) ty k = none := by simp only [decCol, h]
theorem decCol_some {c : UInt8} {r : List UInt8} {ty k : Int} {l : List V} (h : decBy (c.toNat : Int) r ty k = some l) : decCol (c :: r) ty k = if decide (typeOf l = ty) && eqd (c :: r) (encCol l) then some l else none := by simp only [decCol, h]
theorem decBy_enc {kd : Int} {b : List UInt8} {ty k : Int} {l : List V} (h : decBy kd b ty k = some l) : encBy kd l = b ∧ (l.length : Int) = k ∧ inR k 1 64 = true ∧ l.length ≤ 64 := by
  unfold decBy at h
  by_cases e0 : kd = 0
  · subst e0
    rw [if_pos rfl] at h
    obtain ⟨g1, g2, g3, g4⟩ := enc_decPlain h
    have := inR_yes g4
    exact ⟨g1, g2, g4, by omega⟩
  · rw [if_neg e0] at h
    by_cases e1 : kd = 1
    · subst e1
      rw [if_pos rfl] at h
      exact enc_decRuns h
    · rw [if_neg e1] at h
      by_cases e2 : kd = 2
      · subst e2
        rw [if_pos rfl] at h
        obtain ⟨g1, g2, g3, g4, -⟩ := enc_decDict h
        exact ⟨g1, g2, g3, g4⟩
      · rw [if_neg e2] at h
        by_cases e3 : kd = 3
        · subst e3
          rw [if_pos rfl] at h
          obtain ⟨g1, g2, g3, g4, -⟩ := enc_decFrame h
          exact ⟨g1, g2, g3, g4⟩
        · rw [if_neg e3] at h
          cases h
theorem enc_decCol {b : List UInt8} {ty k : Int} {l : List V} (h : decCol b ty k = some l) : encCol l = b ∧ (l.length : Int) = k ∧ inR k 1 64 = true ∧ l.length ≤ 64 ∧ typeOf l = ty := by
  cases b with
  | nil => cases h
  | cons c r =>
    cases h1 : decBy (c.toNat : Int) r ty k with
    | none => rw [decCol_none h1] at h; cases h
    | some l' =>
      rw [decCol_some h1] at h
      split at h
      · rename_i hc
        simp only [Bool.and_eq_true, eqd, decide_eq_true_eq] at hc
        injection h with h
        subst h
        obtain ⟨-, g2, g3, g4⟩ := decBy_enc h1
        exact ⟨hc.2.symm, g2, g3, g4, hc.1⟩
      · cases h
theorem dec_encBy {l : List V} (h : typeOf l ≠ 0) : decBy (bestKind l) (encBy (bestKind l) l) (typeOf l) l.length = some l := by
  rw [bestKind_yes h]
  rcases best3_in l with e | e | e | ⟨e, ht⟩
  · rw [e]; exact dec_encPlain h
  · rw [e]; exact dec_encRuns h
  · rw [e]; exact dec_encDict h
  · rw [e]; exact dec_encFrame ht
theorem dec_encCol {l : List V} (h : typeOf l ≠ 0) : decCol (encCol l) (typeOf l) l.length = some l := by
  have h1 := bestKind_pos h
  have h2 := bestKind_in l
  have hb : ((UInt8.ofNat (bestKind l).toNat).toNat : Int) = bestKind l := by rw [byte_of_nat (by omega)]; omega
  rw [encCol_yes h, decCol_some (by rw [hb]; exact dec_encBy h), decide_eq_true rfl, ← encCol_yes h, eqd_self]
  rfl
theorem decCol_len (b : List UInt8) (ty k : Int) : ((decCol b ty k).getD []).length ≤ 64 := by
  cases h : decCol b ty k with
  | none => simp
  | some l => exact (enc_decCol h).2.2.2.1
end Go.Lb
