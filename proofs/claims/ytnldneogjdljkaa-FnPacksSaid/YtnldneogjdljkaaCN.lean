/- Variable-length integers as functions on lists of bytes: what is written is read, and what is read was written. No conditions; nothing here speaks of the program. -/
import Derived.Test.YtnldneogjdljkaaMem
namespace Go.Lb
def zig (n : Int) : Int := if n < 0 then -2 * n - 1 else 2 * n
def zagzig (n : Int) : Int := if n % 2 = 1 then -((n + 1) / 2) else n / 2
def zigzag (n : Int) : Int := if isNum n then zig n else 0
def zagzigQ (n : Int) : Int := if inR n 0 2000000000 then zagzig n else 0
theorem isNum_yes {n : Int} (h : isNum n = true) : -1000000000 ≤ n ∧ n ≤ 1000000000 := inR_yes h
theorem isNum_no {n : Int} (h : isNum n = false) : n < -1000000000 ∨ 1000000000 < n := inR_no h
theorem isNum_of {n : Int} (h : -1000000000 ≤ n ∧ n ≤ 1000000000) : isNum n = true := inR_of h.1 h.2
theorem zig_in {n : Int} (h : isNum n = true) : 0 ≤ zig n ∧ zig n ≤ 2000000000 := by
  have := isNum_yes h
  unfold zig
  split <;> omega
theorem zagzig_zig {n : Int} : zagzig (zig n) = n := by
  unfold zig zagzig
  split <;> split <;> omega
theorem zig_zagzig {n : Int} (h : 0 ≤ n) : zig (zagzig n) = n := by
  unfold zig zagzig
  split <;> split <;> omega
theorem zagzig_in {n : Int} (h0 : 0 ≤ n) (h1 : n ≤ 2000000000) : isNum (zagzig n) = true := by
  refine isNum_of ?_
  unfold zagzig
  split <;> omega
/-- The groups of seven bits. -/
def vb (x : Nat) : List UInt8 := if x < 128 then [UInt8.ofNat x] else UInt8.ofNat (x % 128 + 128) :: vb (x / 128)
termination_by x
decreasing_by omega
theorem vb_small {x : Nat} (h : x < 128) : vb x = [UInt8.ofNat x] := by rw [vb, if_pos h]
theorem vb_big {x : Nat} (h : 128 ≤ x) : vb x = UInt8.ofNat (x % 128 + 128) :: vb (x / 128) := by rw [vb, if_neg (by omega)]
def numB (n : Int) : List UInt8 := if isNum n then vb (zig n).toNat else []
theorem numB_yes {n : Int} (h : isNum n = true) : numB n = vb (zig n).toNat := by rw [numB, if_pos h]
theorem numB_no {n : Int} (h : isNum n = false) : numB n = [] := by rw [numB, if_neg (by simp [h])]
theorem byte_of_nat {x : Nat} (h : x < 256) : (UInt8.ofNat x).toNat = x := by simp; omega
theorem vb_len (x k : Nat) (hk : 1 ≤ k) (h : x < 128 ^ k) : (vb x).length ≤ k := by
  induction k generalizing x with
  | zero => omega
  | succ k ih =>
    by_cases hx : x < 128
    · rw [vb_small hx]; simp
    · rw [vb_big (by omega)]
      simp only [List.length_cons]
      have hk1 : 1 ≤ k := by
        rcases Nat.eq_zero_or_pos k with h0 | h0
        · subst h0; simp at h; omega
        · exact h0
      have := ih (x / 128) hk1 (by rw [Nat.pow_succ] at h; exact Nat.div_lt_of_lt_mul (by rw [Nat.mul_comm]; exact h))
      omega
theorem vb_pos (x : Nat) : 1 ≤ (vb x).length := by
  by_cases hx : x < 128
  · rw [vb_small hx]; simp
  · rw [vb_big (by omega)]; simp
theorem numB_len (n : Int) : (numB n).length ≤ 5 := by
  by_cases h : isNum n = true
  · rw [numB_yes h]
    have := zig_in h
    exact vb_len _ 5 (by omega) (by omega)
  · rw [numB_no (by simpa using h)]; simp
theorem numB_pos {n : Int} (h : isNum n = true) : 1 ≤ (numB n).length := by rw [numB_yes h]; exact vb_pos _

/-- Reading: from group number i on, x is what the groups ahead of it gave. -/
def rv : List UInt8 → Nat → Nat → Option (Int × Nat)
  | [], _, _ => none
  | c :: r, i, x =>
    if 5 ≤ i then none
    else if 128 ≤ c.toNat then rv r (i + 1) (x + c.toNat % 128 * 128 ^ i)
    else if (0 < i ∧ c.toNat = 0) ∨ 2000000000 < x + c.toNat % 128 * 128 ^ i then none
    else some (zagzig ((x + c.toNat % 128 * 128 ^ i : Nat) : Int), i + 1)
def rdNum (s : List UInt8) : Option (Int × Nat) := rv s 0 0
theorem rv_vb (x : Nat) (r : List UInt8) (i y : Nat) (hi : i + (vb x).length ≤ 5) (h0 : i = 0 ∨ x ≠ 0) (hb : y + x * 128 ^ i ≤ 2000000000) :
    rv (vb x ++ r) i y = some (zagzig ((y + x * 128 ^ i : Nat) : Int), i + (vb x).length) := by
  induction x using Nat.strongRecOn generalizing i y with
  | _ x ih =>
    by_cases hx : x < 128
    · rw [vb_small hx] at hi ⊢
      simp only [List.length_cons, List.length_nil] at hi ⊢
      simp only [List.cons_append, List.nil_append, rv, byte_of_nat (show x < 256 by omega)]
      rw [if_neg (by omega), if_neg (by omega), Nat.mod_eq_of_lt hx, if_neg (by omega)]
    · rw [vb_big (by omega)] at hi ⊢
      simp only [List.length_cons] at hi ⊢
      simp only [List.cons_append, rv, byte_of_nat (show x % 128 + 128 < 256 by omega)]
      have hp := vb_pos (x / 128)
      rw [if_neg (by omega), if_pos (by omega)]
      have e1 : (x % 128 + 128) % 128 = x % 128 := by omega
      have e2 : y + x % 128 * 128 ^ i + x / 128 * 128 ^ (i + 1) = y + x * 128 ^ i := by
        have h1 : x / 128 * 128 ^ (i + 1) = (128 * (x / 128)) * 128 ^ i := by rw [Nat.pow_succ, Nat.mul_comm (128 ^ i) 128, ← Nat.mul_assoc, Nat.mul_comm (x / 128) 128]
        rw [h1, Nat.add_assoc, ← Nat.add_mul, Nat.mod_add_div]
      rw [e1, ih (x / 128) (by omega) (i + 1) _ (by omega) (.inr (by omega)) (by rw [e2]; exact hb), e2]
      congr 2
      omega
theorem vb_rv (s : List UInt8) (i y : Nat) {n : Int} {k : Nat} (h : rv s i y = some (n, k)) :
    ∃ x, (i = 0 ∨ x ≠ 0) ∧ y + x * 128 ^ i ≤ 2000000000 ∧ n = zagzig ((y + x * 128 ^ i : Nat) : Int) ∧ k = i + (vb x).length ∧ ∃ r, s = vb x ++ r := by
  induction s generalizing i y with
  | nil => simp [rv] at h
  | cons c r ih =>
    have hc := c.toNat_lt
    simp only [rv] at h
    split at h
    · cases h
    · rename_i h5
      split at h
      · rename_i hc1
        obtain ⟨x, h1, h2, h3, h4, r', h6⟩ := ih _ _ h
        have hx : x ≠ 0 := h1.resolve_left (by omega)
        have e2 : y + c.toNat % 128 * 128 ^ i + x * 128 ^ (i + 1) = y + (c.toNat % 128 + 128 * x) * 128 ^ i := by
          have h1 : x * 128 ^ (i + 1) = (128 * x) * 128 ^ i := by rw [Nat.pow_succ, Nat.mul_comm (128 ^ i) 128, ← Nat.mul_assoc, Nat.mul_comm x 128]
          rw [h1, Nat.add_assoc, ← Nat.add_mul]
        rw [e2] at h2 h3
        have hv : vb (c.toNat % 128 + 128 * x) = c :: vb x := by
          rw [vb_big (by omega), show (c.toNat % 128 + 128 * x) % 128 + 128 = c.toNat by omega, show (c.toNat % 128 + 128 * x) / 128 = x by omega]
          congr 1
          simp
        refine ⟨c.toNat % 128 + 128 * x, .inr (by omega), h2, h3, ?_, r', ?_⟩
        · rw [hv, h4]; simp; omega
        · rw [hv, h6]; rfl
      · rename_i hc1
        split at h
        · cases h
        · rename_i hn
          rw [not_or] at hn
          injection h with h
          injection h with h1 h2
          have e : c.toNat % 128 = c.toNat := by omega
          rw [e] at hn h1
          refine ⟨c.toNat, ?_, by omega, h1.symm, ?_, r, ?_⟩
          · rcases Nat.eq_zero_or_pos i with h0 | h0
            · exact .inl h0
            · exact .inr fun e0 => hn.1 ⟨h0, e0⟩
          · rw [vb_small (by omega)]; simp; omega
          · rw [vb_small (by omega)]; simp
/-- What is written is read. -/
theorem rdNum_num {n : Int} (h : isNum n = true) (r : List UInt8) : rdNum (numB n ++ r) = some (n, (numB n).length) := by
  have hz := zig_in h
  have hl := numB_len n
  rw [numB_yes h] at hl ⊢
  have h1 := rv_vb (zig n).toNat r 0 0 (by omega) (.inl rfl) (by simp; omega)
  rw [rdNum, h1]
  simp only [Nat.zero_add, Nat.pow_zero, Nat.mul_one]
  rw [show (((zig n).toNat : Nat) : Int) = zig n by omega, zagzig_zig]
/-- What is read was written. -/
theorem num_rdNum {s : List UInt8} {n : Int} {k : Nat} (h : rdNum s = some (n, k)) : isNum n = true ∧ s.take k = numB n ∧ k ≤ s.length ∧ k = (numB n).length ∧ s = numB n ++ s.drop k := by
  obtain ⟨x, -, h2, h3, h4, r, h5⟩ := vb_rv s 0 0 h
  simp only [Nat.zero_add, Nat.pow_zero, Nat.mul_one] at h2 h3 h4
  have hn : isNum n = true := by rw [h3]; exact zagzig_in (by omega) (by omega)
  have hb : numB n = vb x := by
    rw [numB_yes hn, h3, zig_zagzig (by omega)]
    simp
  subst h5
  refine ⟨hn, by rw [hb, h4]; simp, by rw [h4]; simp, by rw [hb, h4], by rw [hb, h4]; simp⟩
def getNum (l : List UInt8) (p : Int) : Int × Int × Bool := if p < 0 then (0, 0, false) else match rdNum (l.drop p.toNat) with
  | none => (0, 0, false)
  | some (n, k) => (n, p + k, true)
theorem getNum_neg {l : List UInt8} {p : Int} (h : p < 0) : getNum l p = (0, 0, false) := by rw [getNum, if_pos h]
theorem getNum_none {l : List UInt8} {p : Nat} (h : rdNum (l.drop p) = none) : getNum l (p : Int) = (0, 0, false) := by rw [getNum, if_neg (by omega), Int.toNat_natCast, h]
theorem getNum_some {l : List UInt8} {p : Nat} {n : Int} {k : Nat} (h : rdNum (l.drop p) = some (n, k)) : getNum l (p : Int) = (n, ((p + k : Nat) : Int), true) := by rw [getNum, if_neg (by omega), Int.toNat_natCast, h]; rfl

/-- Some of a kind, one behind the other. -/
def rdL {α : Type} (f : List UInt8 → Option (α × Nat)) : Nat → List UInt8 → Option (List α × Nat)
  | 0, _ => some ([], 0)
  | k + 1, s => match f s with
    | none => none
    | some (a, m) => match rdL f k (s.drop m) with
      | none => none
      | some (l, m') => some (a :: l, m + m')
/-- f reads what enc writes, of what is ok, and nothing else. -/
structure Codec {α : Type} (f : List UInt8 → Option (α × Nat)) (enc : α → List UInt8) (ok : α → Bool) : Prop where
  rd : ∀ a r, ok a = true → f (enc a ++ r) = some (a, (enc a).length)
  wr : ∀ s a k, f s = some (a, k) → ok a = true ∧ k = (enc a).length ∧ s = enc a ++ s.drop k
theorem codec_num : Codec rdNum numB isNum := ⟨fun _ r h => rdNum_num h r, fun _ _ _ h => let ⟨h1, _, _, h4, h5⟩ := num_rdNum h; ⟨h1, h4, h5⟩⟩
section
variable {α : Type} {f : List UInt8 → Option (α × Nat)} {enc : α → List UInt8} {ok : α → Bool}
theorem rdL_rd (h : Codec f enc ok) (l : List α) (r : List UInt8) (hl : l.all ok = true) : rdL f l.length (l.flatMap enc ++ r) = some (l, (l.flatMap enc).length) := by
  induction l with
  | nil => simp [rdL]
  | cons a l ih =>
    simp only [List.all_cons, Bool.and_eq_true] at hl
    simp only [List.length_cons, List.flatMap_cons, List.append_assoc, rdL, h.rd _ _ hl.1, List.drop_left, ih hl.2, List.length_append]
theorem rdL_wr (h : Codec f enc ok) {k : Nat} {s : List UInt8} {l : List α} {m : Nat} (hr : rdL f k s = some (l, m)) : l.length = k ∧ l.all ok = true ∧ m = (l.flatMap enc).length ∧ s = l.flatMap enc ++ s.drop m := by
  induction k generalizing s l m with
  | zero =>
    simp [rdL] at hr
    obtain ⟨rfl, rfl⟩ := hr
    simp
  | succ k ih =>
    simp only [rdL] at hr
    split at hr
    · cases hr
    · rename_i a m1 h1
      split at hr
      · cases hr
      · rename_i l1 m2 h2
        injection hr with hr
        injection hr with e1 e2
        subst e1 e2
        obtain ⟨g1, g2, g3⟩ := h.wr _ _ _ h1
        obtain ⟨g4, g5, g6, g7⟩ := ih h2
        refine ⟨by simp [g4], by simp [g1, g5], by simp [g2, g6], ?_⟩
        rw [List.flatMap_cons, List.append_assoc]
        rw [List.drop_drop] at g7
        rw [← g7]
        exact g3
theorem rdL_le (h : Codec f enc ok) {k : Nat} {s : List UInt8} {l : List α} {m : Nat} (hr : rdL f k s = some (l, m)) : m ≤ s.length := by
  obtain ⟨-, -, g3, g4⟩ := rdL_wr h hr
  rw [g4, List.length_append]
  omega
/-- One step of a reading, for a loop that appends: what has been read stands ahead. -/
theorem rdL_none {k : Nat} {s : List UInt8} (h : f s = none) : rdL f (k + 1) s = none := by simp only [rdL, h]
theorem rdL_some {k : Nat} {s : List UInt8} {a : α} {m : Nat} (h : f s = some (a, m)) : rdL f (k + 1) s = (rdL f k (s.drop m)).map fun p => (a :: p.1, m + p.2) := by
  simp only [rdL, h]
  cases rdL f k (s.drop m) <;> rfl
/-- i of k have been read; l is what they are; the next one lies at m. -/
def RdSt (f : List UInt8 → Option (α × Nat)) (k : Nat) (s : List UInt8) (i : Nat) (l : List α) (m : Nat) : Prop :=
  i ≤ k ∧ l.length = i ∧ rdL f k s = (rdL f (k - i) (s.drop m)).map fun p => (l ++ p.1, m + p.2)
theorem RdSt.start (k : Nat) (s : List UInt8) : RdSt f k s 0 [] 0 := ⟨Nat.zero_le _, rfl, by
  rw [List.drop_zero, Nat.sub_zero]
  cases rdL f k s <;> simp⟩
theorem RdSt.next {k i m j : Nat} {s : List UInt8} {l : List α} {a : α} (h : RdSt f k s i l m) (hi : i < k) (hf : f (s.drop m) = some (a, j)) : RdSt f k s (i + 1) (l ++ [a]) (m + j) := by
  obtain ⟨h1, h2, h3⟩ := h
  refine ⟨by omega, by simp [h2], ?_⟩
  rw [h3, show k - i = (k - (i + 1)) + 1 by omega, rdL_some hf, List.drop_drop, Option.map_map]
  congr 1
  funext p
  simp [Nat.add_assoc]
theorem RdSt.bad {k i m : Nat} {s : List UInt8} {l : List α} (h : RdSt f k s i l m) (hi : i < k) (hf : f (s.drop m) = none) : rdL f k s = none := by
  rw [h.2.2, show k - i = (k - (i + 1)) + 1 by omega, rdL_none hf]; rfl
theorem RdSt.done {k m : Nat} {s : List UInt8} {l : List α} (h : RdSt f k s k l m) : rdL f k s = some (l, m) := by
  rw [h.2.2, Nat.sub_self]; simp [rdL]
end
def numsOk (l : List Int) : Bool := decide (l.length ≤ 1000000000) && l.all isNum
def numsB (l : List Int) : List UInt8 := if numsOk l then numB l.length ++ l.flatMap numB else []
def rdNums (s : List UInt8) : Option (List Int × Nat) := match rdNum s with
  | none => none
  | some (k, m) => if inR k 0 64 then (rdL rdNum k.toNat (s.drop m)).map fun p => (p.1, m + p.2) else none
theorem rdNums_nums {l : List Int} (h : l.all isNum = true) (hl : l.length ≤ 64) (r : List UInt8) : rdNums (numsB l ++ r) = some (l, (numsB l).length) := by
  have hok : numsOk l = true := by simp [numsOk, h]; omega
  have hn : isNum (l.length : Int) = true := isNum_of (by omega)
  rw [numsB, if_pos hok, rdNums, List.append_assoc, rdNum_num hn]
  simp only [inR_of (show (0 : Int) ≤ (l.length : Int) by omega) (show (l.length : Int) ≤ 64 by omega), if_true, Int.toNat_natCast, List.drop_left, rdL_rd codec_num l r h, Option.map_some, List.length_append]
theorem nums_rdNums {s : List UInt8} {l : List Int} {k : Nat} (h : rdNums s = some (l, k)) : l.all isNum = true ∧ l.length ≤ 64 ∧ k = (numsB l).length ∧ s = numsB l ++ s.drop k := by
  simp only [rdNums] at h
  split at h
  · cases h
  · rename_i n m h1
    split at h
    · rename_i h2
      have hr := inR_yes h2
      cases h3 : rdL rdNum n.toNat (s.drop m) with
      | none => rw [h3] at h; cases h
      | some p =>
        obtain ⟨q, m2⟩ := p
        rw [h3] at h
        injection h with h
        injection h with e1 e2
        simp only at e1 e2
        subst e1 e2
        obtain ⟨g1, -, -, g4, g5⟩ := num_rdNum h1
        obtain ⟨f1, f2, f3, f4⟩ := rdL_wr codec_num h3
        have hok : numsOk q = true := by simp only [numsOk, f2, Bool.and_true, decide_eq_true_eq]; omega
        have hl : (q.length : Int) = n := by omega
        have hb : numsB q = numB n ++ q.flatMap numB := by rw [numsB, if_pos hok, hl]
        refine ⟨f2, by omega, by rw [hb, List.length_append, ← g4, ← f3], ?_⟩
        rw [hb, List.append_assoc]
        rw [List.drop_drop] at f4
        rw [← f4]
        exact g5
    · cases h
end Go.Lb
