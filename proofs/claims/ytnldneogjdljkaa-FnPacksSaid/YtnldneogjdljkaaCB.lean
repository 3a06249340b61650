/- Packed bits as functions on lists of bytes: what is packed is unpacked, and what is unpacked was packed. No conditions; nothing here speaks of the program. -/
import Derived.Test.YtnldneogjdljkaaCN
import Derived.Laws.BitsLemmas
namespace Go.Lb
/-- The number with these bits below n. -/
def natOf (g : Nat → Bool) : Nat → Nat
  | 0 => 0
  | n + 1 => (if g n then 2 ^ n else 0) + natOf g n
theorem natOf_lt (g : Nat → Bool) : ∀ n, natOf g n < 2 ^ n
  | 0 => by simp [natOf]
  | n + 1 => by
    have := natOf_lt g n
    rw [natOf, Nat.pow_succ]
    split <;> omega
theorem natOf_bit (g : Nat → Bool) (n i : Nat) : (natOf g n).testBit i = (decide (i < n) && g i) := by
  induction n with
  | zero => simp [natOf]
  | succ n ih =>
    have hl := natOf_lt g n
    rw [natOf]
    by_cases hg : g n = true
    · rw [if_pos hg]
      rcases Nat.lt_trichotomy i n with h | h | h
      · rw [Nat.testBit_two_pow_add_gt h, ih]
        simp [h, Nat.lt_succ_of_lt h]
      · subst h
        rw [Nat.testBit_two_pow_add_eq, Nat.testBit_lt_two_pow hl]
        simp [hg]
      · rw [Nat.testBit_lt_two_pow (i := i) (Nat.lt_of_lt_of_le (show 2 ^ n + natOf g n < 2 ^ (n + 1) by rw [Nat.pow_succ]; omega) (Nat.pow_le_pow_right (by decide) h))]
        simp; omega
    · rw [if_neg hg, Nat.zero_add, ih]
      by_cases h : i = n
      · subst h; simp [hg]
      · have : decide (i < n + 1) = decide (i < n) := by simp only [decide_eq_decide]; omega
        rw [this]
theorem natOf_ext {g h : Nat → Bool} {n : Nat} (e : ∀ i, i < n → g i = h i) : natOf g n = natOf h n := by
  apply Nat.eq_of_testBit_eq
  intro i
  rw [natOf_bit, natOf_bit]
  by_cases hi : i < n
  · simp [hi, e i hi]
  · simp [hi]
theorem natOf_self {x n : Nat} (h : x < 2 ^ n) : natOf x.testBit n = x := by
  apply Nat.eq_of_testBit_eq
  intro i
  rw [natOf_bit]
  by_cases hi : i < n
  · simp [hi]
  · simp [hi]
    exact Nat.testBit_lt_two_pow (Nat.lt_of_lt_of_le h (Nat.pow_le_pow_right (by decide) (by omega)))
theorem getD_in {α : Type} {l : List α} {i : Nat} {d : α} (h : i < l.length) : l.getD i d = l[i] := by
  rw [List.getD_eq_getElem?_getD, List.getElem?_eq_getElem h]
  rfl
def bitB (c : UInt8) (t : Nat) : Bool := c.toNat.testBit t
theorem bitB_high {c : UInt8} {t : Nat} (h : 8 ≤ t) : bitB c t = false := Nat.testBit_lt_two_pow (Nat.lt_of_lt_of_le c.toNat_lt (Nat.pow_le_pow_right (by decide) h))
theorem bitB_ext {a b : UInt8} (h : ∀ t, t < 8 → bitB a t = bitB b t) : a = b := by
  apply UInt8.toNat_inj.1
  apply Nat.eq_of_testBit_eq
  intro i
  by_cases hi : i < 8
  · exact h i hi
  · exact (bitB_high (by omega)).trans (bitB_high (by omega)).symm
def byteOf (g : Nat → Bool) : UInt8 := UInt8.ofNat (natOf g 8)
theorem byteOf_nat (g : Nat → Bool) : (byteOf g).toNat = natOf g 8 := byte_of_nat (natOf_lt g 8)
theorem bitB_byteOf (g : Nat → Bool) (t : Nat) : bitB (byteOf g) t = (decide (t < 8) && g t) := by rw [bitB, byteOf_nat, natOf_bit]
/-- Bit n of some bytes. -/
def bitL (b : List UInt8) (n : Nat) : Bool := bitB (b.getD (n / 8) 0) (n % 8)
theorem bitL_far {b : List UInt8} {n : Nat} (h : 8 * b.length ≤ n) : bitL b n = false := by
  rw [bitL, List.getD_eq_getElem?_getD, List.getElem?_eq_none (by omega)]
  simp [bitB]
theorem bitL_ext {a b : List UInt8} (hl : a.length = b.length) (h : ∀ n, n < 8 * a.length → bitL a n = bitL b n) : a = b := by
  apply List.ext_getElem hl
  intro j h1 h2
  apply bitB_ext
  intro t ht
  have h3 := h (8 * j + t) (by omega)
  simp only [bitL, show (8 * j + t) / 8 = j by omega, show (8 * j + t) % 8 = t by omega] at h3
  rwa [getD_in h1, getD_in h2] at h3
/-- m bytes with the bits f, of which those below n alone. -/
def packM (f : Nat → Bool) (m n : Nat) : List UInt8 := (List.range m).map fun j => byteOf fun t => decide (8 * j + t < n) && f (8 * j + t)
theorem packM_len (f : Nat → Bool) (m n : Nat) : (packM f m n).length = m := by simp [packM]
theorem packM_get (f : Nat → Bool) {m n j : Nat} (h : j < m) : (packM f m n)[j]? = some (byteOf fun t => decide (8 * j + t < n) && f (8 * j + t)) := by simp [packM, h]
theorem packM_bit (f : Nat → Bool) (m n i : Nat) : bitL (packM f m n) i = (decide (i < 8 * m) && (decide (i < n) && f i)) := by
  by_cases h : i < 8 * m
  · have hj : i / 8 < m := by omega
    rw [bitL, List.getD_eq_getElem?_getD, packM_get f hj, Option.getD_some, bitB_byteOf, show 8 * (i / 8) + i % 8 = i by omega]
    simp [h, Nat.mod_lt]
  · rw [bitL_far (by rw [packM_len]; omega)]
    simp [h]
theorem packM_more {f : Nat → Bool} {m n : Nat} (h : n ≤ 8 * m) : packM f m n ++ [0] = packM f (m + 1) n := by
  apply bitL_ext (by simp [packM_len])
  intro i hi
  simp only [List.length_append, packM_len, List.length_cons, List.length_nil] at hi
  rw [packM_bit]
  by_cases h1 : i < 8 * m
  · have : bitL (packM f m n ++ [0]) i = bitL (packM f m n) i := by
      simp only [bitL, List.getD_eq_getElem?_getD]
      rw [List.getElem?_append_left (by rw [packM_len]; omega)]
    rw [this, packM_bit]
    simp [h1, show i < 8 * (m + 1) by omega]
  · have : bitL (packM f m n ++ [0]) i = false := by
      simp only [bitL, List.getD_eq_getElem?_getD]
      rw [List.getElem?_append_right (by rw [packM_len]; omega), packM_len, show i / 8 - m = 0 by omega]
      simp [bitB]
    rw [this, decide_eq_false (show ¬ i < n by omega)]
    simp
/-- One bit more. -/
theorem packM_set {f : Nat → Bool} {m n : Nat} {old c : UInt8} (hn : n < 8 * m) (ho : (packM f m n)[n / 8]? = some old) (hc : c.toNat = old.toNat ||| (if f n then 2 ^ (n % 8) else 0)) : packM f m (n + 1) = (packM f m n).set (n / 8) c := by
  have hb : ∀ t, bitB c t = (bitB old t || (decide (t = n % 8) && f n)) := fun t => by
    rw [bitB, hc, Nat.testBit_or]
    congr 1
    by_cases hf : f n = true
    · rw [if_pos hf, Nat.testBit_two_pow, hf, Bool.and_true]
      exact decide_eq_decide.2 eq_comm
    · simp [hf]
  rw [packM_get f (by omega)] at ho
  injection ho with ho
  apply bitL_ext (by simp [packM_len])
  intro i hi
  rw [packM_len] at hi
  rw [packM_bit]
  by_cases h1 : i / 8 = n / 8
  · have e : bitL ((packM f m n).set (n / 8) c) i = bitB c (i % 8) := by
      rw [bitL, h1, List.getD_eq_getElem?_getD, List.getElem?_set_self (by rw [packM_len]; omega)]
      rfl
    rw [e, hb, ← ho, bitB_byteOf, ← h1, show 8 * (i / 8) + i % 8 = i by omega]
    by_cases h2 : i = n
    · subst h2; simp [hi, Nat.mod_lt]
    · rw [decide_eq_false (show ¬ i % 8 = n % 8 by omega), show decide (i < n + 1) = decide (i < n) by simp only [decide_eq_decide]; omega]
      simp [hi, Nat.mod_lt]
  · have e : bitL ((packM f m n).set (n / 8) c) i = bitL (packM f m n) i := by
      simp only [bitL, List.getD_eq_getElem?_getD]
      rw [List.getElem?_set_ne (by omega)]
    rw [e, packM_bit, show decide (i < n + 1) = decide (i < n) by simp only [decide_eq_decide]; omega]
theorem packM_skip {f : Nat → Bool} {m n : Nat} (h : f n = false) : packM f m (n + 1) = packM f m n := by
  apply bitL_ext (by simp [packM_len])
  intro i _
  rw [packM_bit, packM_bit]
  by_cases h1 : i = n
  · subst h1; simp [h]
  · rw [show decide (i < n + 1) = decide (i < n) by simp only [decide_eq_decide]; omega]
theorem packM_zero (f : Nat → Bool) (m : Nat) : packM f m 0 = List.replicate m 0 := by
  apply bitL_ext (by simp [packM_len])
  intro i hi
  rw [packM_bit]
  simp only [bitL, List.getD_eq_getElem?_getD, List.getElem?_replicate]
  split <;> simp [bitB]

/-- How many halvings till nothing is left. -/
def bl (x : Nat) : Nat := if x = 0 then 0 else bl (x / 2) + 1
termination_by x
decreasing_by omega
theorem bl_zero : bl 0 = 0 := by rw [bl, if_pos rfl]
theorem bl_pos {x : Nat} (h : x ≠ 0) : bl x = bl (x / 2) + 1 := by rw [bl, if_neg h]
theorem bl_le {x w : Nat} : bl x ≤ w ↔ x < 2 ^ w := by
  induction x using Nat.strongRecOn generalizing w with
  | _ x ih =>
    by_cases h : x = 0
    · subst h
      rw [bl_zero]
      simp [Nat.two_pow_pos]
    · rw [bl_pos h]
      cases w with
      | zero => simp; omega
      | succ w =>
        have := ih (x / 2) (by omega) (w := w)
        rw [Nat.pow_succ]
        omega
theorem bl_max {x : Nat} (h : x < 2147483648) : bl x ≤ 31 := bl_le.2 h
def widthOf (n : Int) : Nat := if inR n 1 2147483647 then bl n.toNat else 0
theorem widthOf_le (n : Int) : widthOf n ≤ 31 := by
  unfold widthOf
  split
  · rename_i h
    have := inR_yes h
    exact bl_max (by omega)
  · omega
/-- A number that can be packed in w bits. -/
theorem widthOf_iff {n : Int} {w : Nat} (h : inR n 0 2147483647 = true) : widthOf n ≤ w ↔ n.toNat < 2 ^ w := by
  have hr := inR_yes h
  unfold widthOf
  split
  · exact bl_le
  · rename_i h1
    have := inR_no (Bool.not_eq_true _ ▸ h1)
    rw [show n.toNat = 0 by omega]
    simp [Nat.two_pow_pos]
def widthFor (l : List Int) : Nat := l.foldl (fun w n => max w (widthOf n)) 0
theorem foldl_max_le {l : List Int} {a b : Nat} : l.foldl (fun w n => max w (widthOf n)) a ≤ b ↔ a ≤ b ∧ ∀ n ∈ l, widthOf n ≤ b := by
  induction l generalizing a with
  | nil => simp
  | cons x l ih =>
    rw [List.foldl_cons, ih]
    simp only [List.mem_cons, forall_eq_or_imp]
    rw [Nat.max_le, and_assoc]
theorem widthFor_le (l : List Int) : widthFor l ≤ 31 := foldl_max_le.2 ⟨by omega, fun n _ => widthOf_le n⟩
theorem widthFor_mem {l : List Int} {n : Int} (h : n ∈ l) : widthOf n ≤ widthFor l := (foldl_max_le.1 (Nat.le_refl (widthFor l))).2 n h
theorem widthFor_step {l : List Int} {i : Nat} {n : Int} (h : l[i]? = some n) : widthFor (l.take (i + 1)) = max (widthFor (l.take i)) (widthOf n) := by
  unfold widthFor
  rw [take_of_get h, List.foldl_append]
  rfl

def fitsW (w : Int) (n : Int) : Bool := inR n 0 2147483647 && decide ((widthOf n : Int) ≤ w)
def packOk (l : List Int) (w : Int) : Bool := inR w 0 31 && l.all (fitsW w)
def bitsOf (l : List Int) (w n : Nat) : Bool := ((l.getD (n / w) 0).toNat).testBit (n % w)
def packB (l : List Int) (w : Int) : List UInt8 := if packOk l w then packM (bitsOf l w.toNat) ((l.length * w.toNat + 7) / 8) (l.length * w.toNat) else []
def bytesFor (k w : Int) : Int := if inR k 0 64 && inR w 0 31 then (k * w + 7) / 8 else 0
def bitAt (b : List UInt8) (n : Int) : Int := if n < 0 then 0 else if bitL b n.toNat then 1 else 0
def numAt (b : List UInt8) (w i : Nat) : Int := (natOf (fun j => bitL b (i * w + j)) w : Nat)
def numsAt (b : List UInt8) (w k : Nat) : List Int := (List.range k).map (numAt b w)
def clearFrom (b : List UInt8) (n : Nat) : Prop := ∀ i, n ≤ i → i < 8 * b.length → bitL b i = false
def unpackOk (b : List UInt8) (w k : Int) : Prop := inR w 0 31 = true ∧ inR k 0 64 = true ∧ (b.length : Int) = bytesFor k w ∧ clearFrom b (k.toNat * w.toNat)
theorem packB_len {l : List Int} {w : Int} (h : packOk l w = true) : (packB l w).length = (l.length * w.toNat + 7) / 8 := by rw [packB, if_pos h, packM_len]
theorem packOk_w {l : List Int} {w : Int} (h : packOk l w = true) : 0 ≤ w ∧ w ≤ 31 := by
  simp only [packOk, Bool.and_eq_true] at h
  exact inR_yes h.1
theorem packOk_mem {l : List Int} {w n : Int} (h : packOk l w = true) (hn : n ∈ l) : (0 ≤ n ∧ n ≤ 2147483647) ∧ n.toNat < 2 ^ w.toNat := by
  have hw := packOk_w h
  simp only [packOk, Bool.and_eq_true, List.all_eq_true] at h
  have h1 := h.2 n hn
  simp only [fitsW, Bool.and_eq_true, decide_eq_true_eq] at h1
  exact ⟨inR_yes h1.1, (widthOf_iff h1.1).1 (by omega)⟩
theorem div_lt_of_mul {i w n : Nat} (h : i < n * w) : i / w < n := by
  rcases Nat.eq_zero_or_pos w with h0 | h0
  · subst h0; simp at h
  · exact (Nat.div_lt_iff_lt_mul h0).2 h
/-- What is packed is unpacked. -/
theorem numsAt_pack {l : List Int} {w : Int} (h : packOk l w = true) : numsAt (packB l w) w.toNat l.length = l := by
  apply List.ext_getElem?
  intro i
  simp only [numsAt, List.getElem?_map]
  by_cases hi : i < l.length
  · have hm := packOk_mem h (List.getElem_mem hi)
    rw [List.getElem?_range hi, List.getElem?_eq_getElem hi, Option.map_some, numAt]
    congr 1
    have e : natOf (fun j => bitL (packB l w) (i * w.toNat + j)) w.toNat = (l[i]).toNat := by
      rw [← natOf_self hm.2]
      refine natOf_ext fun j hj => ?_
      have hlt : i * w.toNat + j < l.length * w.toNat := Nat.lt_of_lt_of_le (show i * w.toNat + j < (i + 1) * w.toNat by rw [Nat.add_mul]; omega) (Nat.mul_le_mul_right _ hi)
      have hd : (i * w.toNat + j) / w.toNat = i := by rw [Nat.mul_comm, Nat.mul_add_div (by omega), Nat.div_eq_of_lt hj]; rfl
      have hr : (i * w.toNat + j) % w.toNat = j := by rw [Nat.mul_comm, Nat.mul_add_mod, Nat.mod_eq_of_lt hj]
      rw [packB, if_pos h, packM_bit, bitsOf, hd, hr, getD_in hi]
      simp [hlt]
      omega
    rw [e]
    omega
  · have e1 : (List.range l.length)[i]? = none := List.getElem?_eq_none (by simp; omega)
    have e2 : l[i]? = none := List.getElem?_eq_none (by omega)
    rw [e1, e2]
    rfl
theorem clear_pack {l : List Int} {w : Int} (h : packOk l w = true) : clearFrom (packB l w) (l.length * w.toNat) := fun i h1 _ => by
  rw [packB, if_pos h, packM_bit, decide_eq_false (by omega : ¬ i < l.length * w.toNat)]
  simp
theorem bytesFor_nat {k w : Nat} (hk : k ≤ 64) (hw : w ≤ 31) : bytesFor (k : Int) (w : Int) = (((k * w + 7) / 8 : Nat) : Int) := by
  rw [bytesFor, inR_of (show (0 : Int) ≤ k by omega) (by omega), inR_of (show (0 : Int) ≤ w by omega) (by omega)]
  simp
theorem unpackOk_pack {l : List Int} {w : Int} (h : packOk l w = true) (hl : l.length ≤ 64) : unpackOk (packB l w) w l.length := by
  have hw := packOk_w h
  refine ⟨inR_of hw.1 hw.2, inR_of (by omega) (by omega), ?_, by simpa using clear_pack h⟩
  obtain ⟨n, rfl⟩ := Int.eq_ofNat_of_zero_le hw.1
  have := packB_len h
  rw [this]
  exact (bytesFor_nat hl (by omega)).symm
/-- What is unpacked was packed. -/
theorem pack_unpack {b : List UInt8} {w k : Int} (h : unpackOk b w k) : packOk (numsAt b w.toNat k.toNat) w = true ∧ packB (numsAt b w.toNat k.toNat) w = b ∧ (numsAt b w.toNat k.toNat).length = k.toNat := by
  obtain ⟨h1, h2, h3, h4⟩ := h
  have hw := inR_yes h1
  have hk := inR_yes h2
  obtain ⟨w, rfl⟩ := Int.eq_ofNat_of_zero_le hw.1
  obtain ⟨k, rfl⟩ := Int.eq_ofNat_of_zero_le hk.1
  simp only [Int.toNat_natCast] at *
  rw [bytesFor_nat (by omega) (by omega)] at h3
  have hlen : (numsAt b w k).length = k := by simp [numsAt]
  have hok : packOk (numsAt b w k) w = true := by
    simp only [packOk, Bool.and_eq_true, List.all_eq_true]
    refine ⟨h1, fun n hn => ?_⟩
    simp only [numsAt, List.mem_map] at hn
    obtain ⟨i, -, rfl⟩ := hn
    have hlt := natOf_lt (fun j => bitL b (i * w + j)) w
    have hp : 2 ^ w ≤ 2 ^ 31 := Nat.pow_le_pow_right (by decide) (by omega)
    have hin : inR (numAt b w i) 0 2147483647 = true := inR_of (by unfold numAt; omega) (by unfold numAt; omega)
    simp only [fitsW, Bool.and_eq_true, decide_eq_true_eq]
    refine ⟨hin, ?_⟩
    have := (widthOf_iff (w := w) hin).2 (by simpa [numAt] using hlt)
    omega
  refine ⟨hok, ?_, hlen⟩
  apply bitL_ext (by rw [packB_len hok, hlen]; simp; omega)
  intro i hi
  rw [packB_len hok, hlen, Int.toNat_natCast] at hi
  rw [packB, if_pos hok, packM_bit, hlen, Int.toNat_natCast]
  by_cases h5 : i < k * w
  · have hd := div_lt_of_mul h5
    have hw0 : 0 < w := by
      rcases Nat.eq_zero_or_pos w with h0 | h0
      · subst h0; simp at h5
      · exact h0
    have hm := Nat.mod_lt i hw0
    rw [bitsOf, List.getD_eq_getElem?_getD]
    simp only [numsAt, List.getElem?_map, List.getElem?_range hd, Option.map_some, Option.getD_some, numAt, Int.toNat_natCast, natOf_bit]
    have e : i / w * w + i % w = i := Nat.div_add_mod' i w
    rw [e]
    simp [hi, h5, hm]
  · have := h4 i (by omega) (by omega)
    rw [this]
    simp [h5]
theorem clear_of_none {b : List UInt8} {n : Nat} (h : 8 * b.length ≤ n) : clearFrom b n := fun i h1 h2 => by omega
end Go.Lb
