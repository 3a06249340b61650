/- Groups of rows as functions on lists of bytes: what is written is read, and what is read was written. No conditions; nothing here speaks of the program. -/
import Derived.Test.YticimccfeohpcaaGreatCC
import Derived.Test.YticimccfeohpcaaGreatXN
import Derived.Test.YticimccfeohpcaaGreatS24
import Derived.Test.YticimccfeohpcaaGreatS27
namespace Go.Proofs.YticimccfeohpcaaGreat
open Go.Lb
theorem lgetD {α : Type} {l : List α} {i : Nat} {d : α} (h : i < l.length) : l.getD i d = l[i] := by simp [List.getD, h]
def colB (c : List V) : List UInt8 := numB (encCol c).length ++ encCol c
theorem colB_len (c : List V) : (colB c).length ≤ 1006 := by
  have := numB_len (encCol c).length
  have := encCol_len c
  rw [colB, List.length_append]
  omega
def colsB (n : Nat) (l : List R) : List UInt8 := (List.range n).flatMap fun k : Nat => colB (column l (k : Int))
theorem colsB_step (n : Nat) (l : List R) : colsB (n + 1) l = colsB n l ++ colB (column l (n : Int)) := by simp [colsB, List.range_succ]
theorem colsB_len (n : Nat) (l : List R) : (colsB n l).length ≤ 1006 * n := by
  induction n with
  | zero => simp [colsB]
  | succ n ih =>
    have := colB_len (column l (n : Int))
    rw [colsB_step, List.length_append]
    omega
def idsOf (l : List R) : List Int := l.map R.id
def putGroup (cols : List Int) (l : List R) : List UInt8 := if rowsOk cols l then numsB (idsOf l) ++ (if l.isEmpty then [] else colsB cols.length l) else []
theorem putGroup_no {cols : List Int} {l : List R} (h : rowsOk cols l = false) : putGroup cols l = [] := by rw [putGroup, if_neg (by simp [h])]
theorem putGroup_none {cols : List Int} {l : List R} (h : rowsOk cols l = true) (h0 : l = []) : putGroup cols l = numsB (idsOf l) := by subst h0; rw [putGroup, if_pos h]; simp
theorem putGroup_some {cols : List Int} {l : List R} (h : rowsOk cols l = true) (h0 : l ≠ []) : putGroup cols l = numsB (idsOf l) ++ colsB cols.length l := by
  rw [putGroup, if_pos h, if_neg (by simp [h0])]
theorem rowsOk_parts {cols : List Int} {l : List R} (h : rowsOk cols l = true) : colsOk cols = true ∧ l.length ≤ 12 ∧ ∀ r ∈ l, rowOk cols r = true ∧ r.id ≤ 1000000000 := by
  simp only [rowsOk, Bool.and_eq_true, decide_eq_true_eq, List.all_eq_true, List.mem_range] at h
  refine ⟨h.1, h.2.1, fun r hr => ?_⟩
  obtain ⟨k, hk, e⟩ := List.mem_iff_getElem.1 hr
  have h1 := h.2.2 k hk
  rw [okNo_of (y := r) (by rw [List.getElem?_eq_getElem hk, e])] at h1
  simp only [okAt, Bool.and_eq_true, decide_eq_true_eq] at h1
  exact ⟨h1.1, h1.2.1⟩
theorem colsOk_parts {cols : List Int} (h : colsOk cols = true) : 1 ≤ cols.length ∧ cols.length ≤ 3 ∧ ∀ t ∈ cols, t = 1 ∨ t = 2 := by
  simp only [colsOk, Bool.and_eq_true, List.all_eq_true] at h
  have h1 := inR_yes h.2
  refine ⟨by omega, by omega, fun t ht => ?_⟩
  have := inR_yes (h.1 t ht)
  omega
theorem numsB_len (q : List Int) (h : q.length ≤ 64) : (numsB q).length ≤ 400 := by
  unfold numsB
  split
  · rw [List.length_append]
    have := numB_len q.length
    have := flat_len5 q
    omega
  · simp
theorem putGroup_len (cols : List Int) (l : List R) : (putGroup cols l).length ≤ 4000 := by
  cases h : rowsOk cols l
  · rw [putGroup_no h]; simp
  · obtain ⟨h1, h2, -⟩ := rowsOk_parts h
    obtain ⟨-, h3, -⟩ := colsOk_parts h1
    have h4 := numsB_len (idsOf l) (by simp [idsOf]; omega)
    by_cases h0 : l = []
    · rw [putGroup_none h h0]; omega
    · rw [putGroup_some h h0, List.length_append]
      have := colsB_len cols.length l
      omega
/-- One column, read. -/
def rdCol (n : Nat) (ty : Int) (s : List UInt8) : Option (List V × Nat) := match rdNum s with
  | none => none
  | some (m, p) => if inR m 0 ((s.length : Int) - p) then (match decCol ((s.drop p).take m.toNat) ty n with
      | none => none
      | some l => some (l, p + m.toNat)) else none
theorem rdCol_1 {n : Nat} {ty : Int} {s : List UInt8} (h : rdNum s = none) : rdCol n ty s = none := by simp only [rdCol, h]
theorem rdCol_2 {n : Nat} {ty m : Int} {s : List UInt8} {p : Nat} (h : rdNum s = some (m, p)) (h2 : inR m 0 ((s.length : Int) - p) = false) : rdCol n ty s = none := by
  simp only [rdCol, h]
  rw [if_neg (by simp [h2])]
theorem rdCol_3 {n m : Nat} {ty : Int} {s : List UInt8} {p : Nat} (h : rdNum s = some ((m : Int), p)) (h3 : decCol ((s.drop p).take m) ty n = none) : rdCol n ty s = none := by
  simp only [rdCol, h, Int.toNat_natCast, h3]
  split <;> rfl
theorem rdCol_4 {n m : Nat} {ty : Int} {s : List UInt8} {p : Nat} {l : List V} (h : rdNum s = some ((m : Int), p)) (h2 : inR (m : Int) 0 ((s.length : Int) - p) = true) (h3 : decCol ((s.drop p).take m) ty n = some l) : rdCol n ty s = some (l, p + m) := by
  simp only [rdCol, h, Int.toNat_natCast, h3]
  rw [if_pos h2]
theorem rdCol_wr {n : Nat} {ty : Int} {s : List UInt8} {l : List V} {p : Nat} (h : rdCol n ty s = some (l, p)) : l.length = n ∧ typeOf l = ty ∧ p = (colB l).length ∧ s = colB l ++ s.drop p := by
  cases h1 : rdNum s with
  | none => rw [rdCol_1 h1] at h; cases h
  | some mp =>
    obtain ⟨m, q⟩ := mp
    cases h2 : inR m 0 ((s.length : Int) - q)
    · rw [rdCol_2 h1 h2] at h; cases h
    · have hr := inR_yes h2
      obtain ⟨m, rfl⟩ := Int.eq_ofNat_of_zero_le hr.1
      cases h3 : decCol ((s.drop q).take m) ty n with
      | none => rw [rdCol_3 h1 h3] at h; cases h
      | some l' =>
        rw [rdCol_4 h1 h2 h3] at h
        simp only [Option.some.injEq, Prod.mk.injEq] at h
        obtain ⟨rfl, rfl⟩ := h
        obtain ⟨g1, g2, -, -, g5⟩ := enc_decCol h3
        obtain ⟨-, -, f3, f4, f5⟩ := num_rdNum h1
        have hm : (encCol l').length = m := by rw [g1, List.length_take, List.length_drop]; omega
        refine ⟨by omega, g5, by rw [colB, List.length_append, hm, ← f4], ?_⟩
        rw [colB, hm, List.append_assoc, g1, ← List.drop_drop, List.take_append_drop]
        exact f5
theorem rdCol_rd {n : Nat} {ty : Int} {c : List V} (ht : typeOf c = ty) (h0 : ty ≠ 0) (hn : c.length = n) (r : List UInt8) : rdCol n ty (colB c ++ r) = some (c, (colB c).length) := by
  subst ht hn
  have hl := encCol_len c
  have h1 : rdNum (colB c ++ r) = some (((encCol c).length : Int), (numB (encCol c).length).length) := by
    rw [colB, List.append_assoc]
    exact rdNum_num (isNum_of (by omega)) _
  have h3 : decCol (((colB c ++ r).drop (numB (encCol c).length).length).take (encCol c).length) (typeOf c) c.length = some c := by
    rw [colB, List.append_assoc, List.drop_left, List.take_left]
    exact dec_encCol h0
  rw [rdCol_4 h1 (inR_of (by omega) (by rw [colB, List.length_append, List.length_append]; omega)) h3, colB, List.length_append]
def rdCols (n : Nat) : List Int → List UInt8 → Option (List (List V) × Nat)
  | [], _ => some ([], 0)
  | ty :: r, s => match rdCol n ty s with
    | none => none
    | some (l, p) => match rdCols n r (s.drop p) with
      | none => none
      | some (q, m) => some (l :: q, p + m)
theorem rdCols_none {n : Nat} {ty : Int} {r : List Int} {s : List UInt8} (h : rdCol n ty s = none) : rdCols n (ty :: r) s = none := by simp only [rdCols, h]
theorem rdCols_some {n : Nat} {ty : Int} {r : List Int} {s : List UInt8} {l : List V} {p : Nat} (h : rdCol n ty s = some (l, p)) : rdCols n (ty :: r) s = (rdCols n r (s.drop p)).map fun x => (l :: x.1, p + x.2) := by
  simp only [rdCols, h]
  cases rdCols n r (s.drop p) <;> rfl
/-- The columns ahead have been read: the next one lies at m. -/
def ColSt (n : Nat) (cols : List Int) (s : List UInt8) (j : Nat) (q : List (List V)) (m : Nat) : Prop :=
  j ≤ cols.length ∧ q.length = j ∧ rdCols n cols s = (rdCols n (cols.drop j) (s.drop m)).map fun x => (q ++ x.1, m + x.2)
theorem ColSt.start (n : Nat) (cols : List Int) (s : List UInt8) : ColSt n cols s 0 [] 0 := ⟨Nat.zero_le _, rfl, by
  rw [List.drop_zero, List.drop_zero]
  cases rdCols n cols s <;> simp⟩
theorem ColSt.next {n j m p : Nat} {cols : List Int} {s : List UInt8} {q : List (List V)} {ty : Int} {l : List V} (h : ColSt n cols s j q m) (hj : cols[j]? = some ty) (hf : rdCol n ty (s.drop m) = some (l, p)) : ColSt n cols s (j + 1) (q ++ [l]) (m + p) := by
  obtain ⟨h1, h2, h3⟩ := h
  have hjl := (List.getElem?_eq_some_iff.1 hj).1
  refine ⟨by omega, by simp [h2], ?_⟩
  rw [h3, drop_of_get hj, rdCols_some hf, List.drop_drop, Option.map_map]
  congr 1
  funext x
  simp [Nat.add_assoc]
theorem ColSt.bad {n j m : Nat} {cols : List Int} {s : List UInt8} {q : List (List V)} {ty : Int} (h : ColSt n cols s j q m) (hj : cols[j]? = some ty) (hf : rdCol n ty (s.drop m) = none) : rdCols n cols s = none := by
  rw [h.2.2, drop_of_get hj, rdCols_none hf]; rfl
theorem ColSt.done {n m : Nat} {cols : List Int} {s : List UInt8} {q : List (List V)} (h : ColSt n cols s cols.length q m) : rdCols n cols s = some (q, m) := by
  rw [h.2.2, List.drop_length]; simp [rdCols]
theorem rdCols_wr {n : Nat} : ∀ {cols : List Int} {s : List UInt8} {q : List (List V)} {m : Nat}, rdCols n cols s = some (q, m) →
    q.length = cols.length ∧ m = (q.flatMap colB).length ∧ s = q.flatMap colB ++ s.drop m ∧ ∀ (k : Nat) (c : List V), q[k]? = some c → c.length = n ∧ ∃ ty, cols[k]? = some ty ∧ typeOf c = ty
  | [], s, q, m, h => by
    simp only [rdCols, Option.some.injEq, Prod.mk.injEq] at h
    obtain ⟨rfl, rfl⟩ := h
    simp
  | ty :: cols, s, q, m, h => by
    cases h1 : rdCol n ty s with
    | none => rw [rdCols_none h1] at h; cases h
    | some lp =>
      obtain ⟨l, p⟩ := lp
      rw [rdCols_some h1] at h
      cases h2 : rdCols n cols (s.drop p) with
      | none => rw [h2] at h; cases h
      | some qm =>
        obtain ⟨q', m'⟩ := qm
        rw [h2] at h
        simp only [Option.map_some, Option.some.injEq, Prod.mk.injEq] at h
        obtain ⟨rfl, rfl⟩ := h
        obtain ⟨g1, g2, g3, g4⟩ := rdCol_wr h1
        obtain ⟨f1, f2, f3, f4⟩ := rdCols_wr h2
        refine ⟨by simp [f1], by simp [g3, f2], ?_, fun k c hk => ?_⟩
        · rw [List.flatMap_cons, List.append_assoc]
          rw [List.drop_drop] at f3
          rw [← f3]
          exact g4
        · cases k with
          | zero =>
            simp only [List.getElem?_cons_zero, Option.some.injEq] at hk
            subst hk
            exact ⟨g1, ty, by simp, g2⟩
          | succ k =>
            simp only [List.getElem?_cons_succ] at hk ⊢
            exact f4 k c hk
theorem rdCols_rd {n : Nat} : ∀ {cols : List Int} {q : List (List V)} (r : List UInt8), q.length = cols.length → (∀ (k : Nat) (c : List V), q[k]? = some c → c.length = n ∧ ∃ ty, cols[k]? = some ty ∧ typeOf c = ty ∧ ty ≠ 0) →
    rdCols n cols (q.flatMap colB ++ r) = some (q, (q.flatMap colB).length)
  | [], q, r, hl, _ => by
    obtain rfl : q = [] := List.eq_nil_of_length_eq_zero (by simpa using hl)
    simp [rdCols]
  | ty :: cols, [], r, hl, _ => by simp at hl
  | ty :: cols, c :: q, r, hl, h => by
    obtain ⟨h1, ty', h2, h3, h4⟩ := h 0 c (by simp)
    simp only [List.getElem?_cons_zero, Option.some.injEq] at h2
    subst h2
    have h5 := rdCol_rd h3 h4 h1 (q.flatMap colB ++ r)
    rw [List.flatMap_cons, List.append_assoc, rdCols_some h5, List.drop_left, rdCols_rd r (by simpa using hl) fun k c hk => by
      have := h (k + 1) c (by simpa using hk)
      simpa using this]
    simp
/-- The rows of these numbers and columns. -/
def rowAt (ids : List Int) (q : List (List V)) (i : Nat) : R := ⟨ids.getD i 0, q.map fun c => c.getD i V.zero⟩
def rowsFrom (ids : List Int) (q : List (List V)) : List R := (List.range ids.length).map (rowAt ids q)
theorem rowsFrom_len (ids : List Int) (q : List (List V)) : (rowsFrom ids q).length = ids.length := by simp [rowsFrom]
theorem rowsFrom_at {ids : List Int} {q : List (List V)} {i : Nat} (h : i < ids.length) : (rowsFrom ids q)[i]? = some (rowAt ids q i) := by simp [rowsFrom, h]
theorem rowsFrom_ids (ids : List Int) (q : List (List V)) : idsOf (rowsFrom ids q) = ids := by
  apply List.ext_getElem?
  intro i
  rw [idsOf, List.getElem?_map]
  by_cases h : i < ids.length
  · rw [rowsFrom_at h, Option.map_some, rowAt, List.getElem?_eq_getElem h, lgetD h]
  · rw [List.getElem?_eq_none (by rw [rowsFrom_len]; omega), List.getElem?_eq_none (by omega)]
    rfl
theorem column_of {l : List R} {k : Nat} {f : R → V} (h : ∀ r ∈ l, r.l[k]? = some (f r)) : column l (k : Int) = l.map f := by
  induction l with
  | nil => rfl
  | cons r l ih =>
    have h1 := h r (by simp)
    rw [column, List.filterMap_cons, colAt_in h1]
    simp only [List.map_cons]
    congr 1
    exact ih fun x hx => h x (by simp [hx])
theorem column_from {ids : List Int} {q : List (List V)} {k : Nat} {c : List V} (hk : q[k]? = some c) (hc : c.length = ids.length) : column (rowsFrom ids q) (k : Int) = c := by
  have h : ∀ r ∈ rowsFrom ids q, r.l[k]? = some (r.l.getD k V.zero) := fun r hr => by
    obtain ⟨i, -, rfl⟩ := List.mem_map.1 hr
    rw [List.getD_eq_getElem?_getD]
    simp [rowAt, hk]
  rw [column_of h]
  apply List.ext_getElem?
  intro i
  rw [List.getElem?_map]
  by_cases hi : i < ids.length
  · rw [rowsFrom_at hi, Option.map_some, List.getElem?_eq_getElem (by omega)]
    congr 1
    rw [List.getD_eq_getElem?_getD]
    simp only [rowAt, List.getElem?_map, hk, Option.map_some, Option.getD_some]
    exact lgetD (by omega)
  · rw [List.getElem?_eq_none (by rw [rowsFrom_len]; omega), List.getElem?_eq_none (by omega)]
    rfl
theorem colsB_from {ids : List Int} {q : List (List V)} (h : ∀ c ∈ q, c.length = ids.length) : colsB q.length (rowsFrom ids q) = q.flatMap colB := by
  have key : ∀ n, n ≤ q.length → colsB n (rowsFrom ids q) = (q.take n).flatMap colB := by
    intro n
    induction n with
    | zero => intro _; simp [colsB]
    | succ n ih =>
      intro hn
      have hg : q[n]? = some q[n] := List.getElem?_eq_getElem (by omega)
      rw [colsB_step, ih (by omega), column_from hg (h _ (mem_of_get hg)), take_of_get hg, List.flatMap_append]
      simp
  rw [key q.length (Nat.le_refl _), List.take_length]
def rdBody (cols ids : List Int) (s : List UInt8) : Option (List (List V) × Nat) := if ids.isEmpty then some ([], 0) else rdCols ids.length cols s
def getGroup (cols : List Int) (b : List UInt8) : Option (List R) := match rdNums b with
  | none => none
  | some (ids, p) => if colsOk cols then (match rdBody cols ids (b.drop p) with
      | none => none
      | some (q, m) => if rowsOk cols (rowsFrom ids q) && decide (p + m = b.length) then some (rowsFrom ids q) else none) else none
theorem getG_1 {cols : List Int} {b : List UInt8} (h : rdNums b = none) : getGroup cols b = none := by simp only [getGroup, h]
theorem getG_2 {cols : List Int} {b : List UInt8} (h : colsOk cols = false) : getGroup cols b = none := by
  unfold getGroup
  split
  · rfl
  · rw [if_neg (by simp [h])]
theorem getG_3 {cols ids : List Int} {b : List UInt8} {p : Nat} (h : rdNums b = some (ids, p)) (h3 : rdBody cols ids (b.drop p) = none) : getGroup cols b = none := by
  simp only [getGroup, h, h3]
  split <;> rfl
theorem getG_4 {cols ids : List Int} {b : List UInt8} {p m : Nat} {q : List (List V)} (h : rdNums b = some (ids, p)) (h2 : colsOk cols = true) (h3 : rdBody cols ids (b.drop p) = some (q, m)) :
    getGroup cols b = if rowsOk cols (rowsFrom ids q) && decide (p + m = b.length) then some (rowsFrom ids q) else none := by
  simp only [getGroup, h, h3]
  rw [if_pos h2]
/-- More rows than a group has: nothing is read. -/
theorem getG_many {cols ids : List Int} {b : List UInt8} {p : Nat} (h : rdNums b = some (ids, p)) (hl : 12 < ids.length) : getGroup cols b = none := by
  cases h2 : colsOk cols
  · exact getG_2 h2
  · cases h3 : rdBody cols ids (b.drop p) with
    | none => exact getG_3 h h3
    | some qm =>
      obtain ⟨q, m⟩ := qm
      rw [getG_4 h h2 h3]
      have : rowsOk cols (rowsFrom ids q) = false := by
        rw [rowsOk, rowsFrom_len, decide_eq_false (by omega)]
        simp
      rw [this]
      rfl
/-- What has been read, written again. -/
theorem put_rdBody {cols ids : List Int} {b : List UInt8} {p m : Nat} {q : List (List V)} (h : rdNums b = some (ids, p)) (h3 : rdBody cols ids (b.drop p) = some (q, m)) (hr : rowsOk cols (rowsFrom ids q) = true) :
    putGroup cols (rowsFrom ids q) = b.take (p + m) ∧ p + m ≤ b.length := by
  obtain ⟨-, -, g3, g4⟩ := nums_rdNums h
  have hpl : p ≤ b.length := by rw [g4, List.length_append]; omega
  have htk : b.take p = numsB ids := by
    conv => lhs; rw [g4, g3]
    exact List.take_left
  unfold rdBody at h3
  split at h3
  · rename_i he
    have he : ids = [] := by simpa using he
    simp only [Option.some.injEq, Prod.mk.injEq] at h3
    obtain ⟨rfl, rfl⟩ := h3
    have hn : rowsFrom ids [] = [] := by simp [rowsFrom, he]
    rw [putGroup_none hr hn, rowsFrom_ids, Nat.add_zero]
    exact ⟨htk.symm, hpl⟩
  · rename_i he
    obtain ⟨f1, f2, f3, f4⟩ := rdCols_wr h3
    have hne : rowsFrom ids q ≠ [] := fun e => by
      have := congrArg List.length e
      rw [rowsFrom_len] at this
      simp at this
      exact he (by simp [this])
    have hml : m ≤ b.length - p := by
      have := congrArg List.length f3
      rw [List.length_append, List.length_drop, ← f2] at this
      omega
    have htm : (b.drop p).take m = q.flatMap colB := by
      conv => lhs; rw [f3, f2]
      exact List.take_left
    rw [putGroup_some hr hne, rowsFrom_ids, ← f1, colsB_from (fun c hc => by
      obtain ⟨k, hk, e⟩ := List.mem_iff_getElem.1 hc
      exact (f4 k c (by rw [List.getElem?_eq_getElem hk, e])).1), List.take_add, htk, htm]
    exact ⟨rfl, by omega⟩
theorem put_getGroup {cols : List Int} {b : List UInt8} {l : List R} (h : getGroup cols b = some l) : rowsOk cols l = true ∧ putGroup cols l = b := by
  cases h1 : rdNums b with
  | none => rw [getG_1 h1] at h; cases h
  | some ip =>
    obtain ⟨ids, p⟩ := ip
    cases h2 : colsOk cols
    · rw [getG_2 h2] at h; cases h
    · cases h3 : rdBody cols ids (b.drop p) with
      | none => rw [getG_3 h1 h3] at h; cases h
      | some qm =>
        obtain ⟨q, m⟩ := qm
        rw [getG_4 h1 h2 h3] at h
        split at h
        · rename_i hc
          simp only [Bool.and_eq_true, decide_eq_true_eq] at hc
          injection h with h
          subst h
          refine ⟨hc.1, ?_⟩
          rw [(put_rdBody h1 h3 hc.1).1, hc.2, List.take_length]
        · cases h
/-- What the program asks: the rows' encoding is these bytes. -/
theorem getG_impl {cols ids : List Int} {b : List UInt8} {p m : Nat} {q : List (List V)} (h : rdNums b = some (ids, p)) (h2 : colsOk cols = true) (h3 : rdBody cols ids (b.drop p) = some (q, m)) :
    getGroup cols b = if rowsOk cols (rowsFrom ids q) && eqd (putGroup cols (rowsFrom ids q)) b then some (rowsFrom ids q) else none := by
  rw [getG_4 h h2 h3]
  cases hr : rowsOk cols (rowsFrom ids q)
  · rfl
  · obtain ⟨g1, g2⟩ := put_rdBody h h3 hr
    rw [g1]
    have : decide (p + m = b.length) = eqd (b.take (p + m)) b := by
      unfold eqd
      rw [Bool.eq_iff_iff, decide_eq_true_eq, decide_eq_true_eq]
      constructor
      · intro e; rw [e, List.take_length]
      · intro e
        have := congrArg List.length e
        rw [List.length_take] at this
        omega
    rw [this]
theorem fits_parts {cols : List Int} {l : List V} (h : fitsCols cols l = true) : cols.length = l.length ∧ ∀ (k : Nat) (ty : Int) (v : V), cols[k]? = some ty → l[k]? = some v → valOkT ty v = true := by
  simp only [fitsCols, Bool.and_eq_true, beq_iff_eq, List.all_eq_true] at h
  refine ⟨h.1, fun k ty v h1 h2 => ?_⟩
  have := h.2 _ (mem_of_get (zip_at h1 h2))
  simp only [fitsAt, Bool.and_eq_true, beq_iff_eq] at this
  simp [valOkT, this.1, this.2]
theorem get_putGroup {cols : List Int} {l : List R} (h : rowsOk cols l = true) : getGroup cols (putGroup cols l) = some l := by
  obtain ⟨h1, h2, h3⟩ := rowsOk_parts h
  obtain ⟨c1, c2, c3⟩ := colsOk_parts h1
  have hids : (idsOf l).all isNum = true := by
    rw [List.all_eq_true]
    intro n hn
    obtain ⟨r, hr, rfl⟩ := List.mem_map.1 hn
    obtain ⟨g1, g2⟩ := h3 r hr
    simp only [rowOk, Bool.and_eq_true, decide_eq_true_eq] at g1
    exact isNum_of (by omega)
  have hil : (idsOf l).length = l.length := by simp [idsOf]
  by_cases h0 : l = []
  · subst h0
    have hn := rdNums_nums (l := []) (by rfl) (by simp) []
    rw [List.append_nil] at hn
    have hp := putGroup_none h rfl
    rw [hp, show idsOf [] = [] from rfl, getG_4 hn h1 (show rdBody cols [] _ = some ([], 0) from rfl), Nat.add_zero, decide_eq_true rfl, show rowsFrom [] [] = [] from rfl, h]
    rfl
  · have hfit : ∀ r ∈ l, cols.length = r.l.length ∧ ∀ (k : Nat) (ty : Int) (v : V), cols[k]? = some ty → r.l[k]? = some v → valOkT ty v = true := fun r hr => by
      have := (h3 r hr).1
      simp only [rowOk, Bool.and_eq_true] at this
      exact fits_parts this.2
    have hcol : ∀ k, k < cols.length → column l (k : Int) = l.map fun r => r.l.getD k V.zero := fun k hk => column_of fun r hr => by
      have := (hfit r hr).1
      rw [List.getElem?_eq_getElem (by omega), lgetD (by omega)]
    have hll : 1 ≤ l.length := List.length_pos_iff.2 h0
    have hq : ∀ (k : Nat) (c : List V), ((List.range cols.length).map fun k : Nat => column l (k : Int))[k]? = some c → c.length = l.length ∧ ∃ ty, cols[k]? = some ty ∧ typeOf c = ty ∧ ty ≠ 0 := fun k c hk => by
      rw [List.getElem?_map] at hk
      by_cases hkl : k < cols.length
      · rw [List.getElem?_range hkl, Option.map_some, Option.some.injEq] at hk
        subst hk
        have hty : cols[k]? = some cols[k] := List.getElem?_eq_getElem hkl
        rw [hcol k hkl]
        refine ⟨by simp, _, hty, typeOf_all ?_ (by simpa using hll) (by simp; omega), ?_⟩
        · rw [List.all_eq_true]
          intro v hv
          obtain ⟨r, hr, rfl⟩ := List.mem_map.1 hv
          have hf := hfit r hr
          exact hf.2 k _ _ hty (by rw [List.getElem?_eq_getElem (by omega), lgetD (by omega)])
        · have := c3 _ (mem_of_get hty)
          omega
      · rw [List.getElem?_eq_none (by simp; omega)] at hk
        cases hk
    have hn := rdNums_nums hids (by omega) (colsB cols.length l)
    have hcb : colsB cols.length l = ((List.range cols.length).map fun k : Nat => column l (k : Int)).flatMap colB := by rw [colsB, List.flatMap_map]
    have hbody : rdBody cols (idsOf l) ((putGroup cols l).drop (numsB (idsOf l)).length) = some ((List.range cols.length).map fun k : Nat => column l (k : Int), (colsB cols.length l).length) := by
      rw [putGroup_some h h0, List.drop_left, rdBody, if_neg (by simp [idsOf, h0]), hil]
      have := rdCols_rd (n := l.length) (cols := cols) (q := (List.range cols.length).map fun k : Nat => column l (k : Int)) [] (by simp) hq
      rw [List.append_nil] at this
      rw [hcb]
      exact this
    have hrows : rowsFrom (idsOf l) ((List.range cols.length).map fun k : Nat => column l (k : Int)) = l := by
      apply List.ext_getElem?
      intro i
      by_cases hi : i < l.length
      · rw [rowsFrom_at (by omega), List.getElem?_eq_getElem hi]
        congr 1
        have hr : l[i] ∈ l := List.getElem_mem hi
        obtain ⟨e1, -⟩ := hfit _ hr
        have hid : (idsOf l).getD i 0 = l[i].id := by rw [lgetD (by omega)]; simp [idsOf]
        have hv : ((List.range cols.length).map fun k : Nat => column l (k : Int)).map (fun c => c.getD i V.zero) = l[i].l := by
          rw [List.map_map]
          apply List.ext_getElem?
          intro k
          rw [List.getElem?_map]
          by_cases hk : k < cols.length
          · rw [List.getElem?_range hk, Option.map_some, List.getElem?_eq_getElem (by omega)]
            congr 1
            show (column l (k : Int)).getD i V.zero = _
            rw [hcol k hk, lgetD (by simpa using hi), List.getElem_map, lgetD (by omega)]
          · rw [List.getElem?_eq_none (by simp; omega), List.getElem?_eq_none (by omega)]
            rfl
        rw [rowAt, hid, hv]
      · rw [List.getElem?_eq_none (by rw [rowsFrom_len]; omega), List.getElem?_eq_none (by omega)]
    have hnb : rdNums (putGroup cols l) = some (idsOf l, (numsB (idsOf l)).length) := by
      rw [putGroup_some h h0]
      exact hn
    rw [getG_4 hnb h1 hbody, hrows, h, decide_eq_true (by rw [putGroup_some h h0, List.length_append])]
    rfl
theorem rdNums_nil : rdNums [] = none := rfl
theorem getGroup_nil (cols : List Int) : getGroup cols [] = none := getG_1 rdNums_nil
end Go.Proofs.YticimccfeohpcaaGreat
