/- Numbers and values read back from their text: the plain law. -/
import Derived.Test.YtjogkbkkcaljhaaGreatDoorYB
import Derived.Lib.AtoiTie
import Derived.Lib.IndexMore
import Derived.Test.YtjogkbkkcaljhaaGreatDoorTP
import Derived.Test.YtjogkbkkcaljhaaGreatDoorYA
import Derived.Lib.IndexAny
namespace Go.Proofs.YtjogkbkkcaljhaaGreatDoor
open Go.RowKit Go.Lb
theorem dig_val {d : Nat} (h : d < 10) : Lib.digitVal (UInt8.ofNat (48 + d)) = some d := by
  unfold Lib.digitVal
  have e : (UInt8.ofNat (48 + d)).toNat = 48 + d := by simp; omega
  rw [e, if_pos (by omega)]
  simp
theorem decFrom_app : ∀ (l r : List UInt8) (a m : Nat), Lib.decFrom a l = some m → Lib.decFrom a (l ++ r) = Lib.decFrom m r
  | [], r, a, m, h => by
    simp only [Lib.decFrom, Option.some.injEq] at h
    subst h; rfl
  | b :: l, r, a, m, h => by
    simp only [List.cons_append, Lib.decFrom] at h ⊢
    cases hd : Lib.digitVal b with
    | none => rw [hd] at h; cases h
    | some d =>
      rw [hd] at h
      exact decFrom_app l r _ m h
theorem decFrom_digits (u : Nat) : Lib.decFrom 0 (Lib.decDigits u) = some u := by
  induction u using Nat.strongRecOn with
  | _ u ih =>
    by_cases h : u < 10
    · rw [Lib.decDigits_one h]
      simp only [Lib.decFrom, dig_val h]
      simp
    · rw [Lib.decDigits, dif_neg h, decFrom_app _ _ _ _ (ih (u / 10) (by omega))]
      simp only [Lib.decFrom, dig_val (show u % 10 < 10 by omega), Option.some.injEq]
      omega
theorem decDigits_ne (u : Nat) : Lib.decDigits u ≠ [] := by
  intro e
  have h := Lib.decDigits_length u
  rw [e] at h
  have := Lib.nDigits_pos u
  simp at h
  omega
theorem decNat_digits (u : Nat) : Lib.decNat (Lib.decDigits u) = some u := by
  unfold Lib.decNat
  rw [if_neg (by simp [decDigits_ne]), decFrom_digits]
theorem digits_ch (u : Nat) : ∀ b ∈ Lib.decDigits u, 48 ≤ b.toNat ∧ b.toNat ≤ 57 := by
  induction u using Nat.strongRecOn with
  | _ u ih =>
    have key : ∀ d : Nat, d < 10 → 48 ≤ (UInt8.ofNat (48 + d)).toNat ∧ (UInt8.ofNat (48 + d)).toNat ≤ 57 := fun d hd => by
      have e : (UInt8.ofNat (48 + d)).toNat = 48 + d := by simp; omega
      omega
    intro b hb
    by_cases h : u < 10
    · rw [Lib.decDigits_one h] at hb
      simp only [List.mem_cons, List.not_mem_nil, or_false] at hb
      subst hb
      exact key u h
    · rw [Lib.decDigits, dif_neg h] at hb
      rcases List.mem_append.1 hb with h1 | h1
      · exact ih (u / 10) (by omega) b h1
      · simp only [List.mem_cons, List.not_mem_nil, or_false] at h1
        subst h1
        exact key _ (by omega)
/-- A byte of a number. -/
def NumCh (b : UInt8) : Prop := b.toNat = 45 ∨ (48 ≤ b.toNat ∧ b.toNat ≤ 57)
theorem itoa_ch (n : Int) : ∀ b ∈ Lib.itoa n, NumCh b := by
  intro b hb
  unfold Lib.itoa at hb
  split at hb
  · rcases List.mem_cons.1 hb with h | h
    · subst h; exact .inl rfl
    · exact .inr (digits_ch _ b h)
  · exact .inr (digits_ch _ b hb)
theorem itoa_ne (n : Int) : Lib.itoa n ≠ [] := by
  unfold Lib.itoa
  split
  · simp
  · exact decDigits_ne _
theorem atoi_itoa (n : Int) : Lib.atoi (Lib.itoa n) = some n := by
  unfold Lib.itoa
  split
  · simp only [Lib.atoi]
    rw [if_pos (by decide), decNat_digits]
    simp
    omega
  · have hd := decNat_digits n.toNat
    have hc := digits_ch n.toNat
    cases hl : Lib.decDigits n.toNat with
    | nil => exact absurd hl (decDigits_ne _)
    | cons b r =>
      rw [hl] at hd hc
      have hb := hc b (by simp)
      have e1 : (b == 45) = false := by
        cases h : b == 45
        · rfl
        · rw [beq_iff_eq] at h; subst h; simp at hb
      have e2 : (b == 43) = false := by
        cases h : b == 43
        · rfl
        · rw [beq_iff_eq] at h; subst h; simp at hb
      simp only [Lib.atoi, e1, e2, hd]
      simp
      omega
theorem numText_list (n : Int) : (numText n).data.toList = Lib.itoa n := rfl
theorem numText_inj {m n : Int} (h : numText m = numText n) : m = n := by
  have h1 := congrArg (fun s : ByteArray => Lib.atoi s.data.toList) h
  simp only [numText_list, atoi_itoa, Option.some.injEq] at h1
  exact h1
theorem ba_inj {a b : ByteArray} (h : a.data.toList = b.data.toList) : a = b := ByteArray.ext (Array.toList_inj.1 h)
theorem isNum_in {n : Int} (h : isNum n = true) : -1000000000 ≤ n ∧ n ≤ 1000000000 := inR_yes h
theorem digits_len {u k : Nat} (h : u < 10 ^ k) (hk : 1 ≤ k) : (Lib.decDigits u).length ≤ k := by
  induction u using Nat.strongRecOn generalizing k with
  | _ u ih =>
    by_cases h1 : u < 10
    · rw [Lib.decDigits_one h1]; exact hk
    · rw [Lib.decDigits, dif_neg h1, List.length_append]
      match k, hk with
      | 1, _ => omega
      | k + 2, _ =>
        have := ih (u / 10) (by omega) (k := k + 1) (by rw [Nat.pow_succ] at h; omega) (by omega)
        simp
        omega
theorem itoa_len {n : Int} (h : isNum n = true) : (Lib.itoa n).length ≤ 11 := by
  have h1 := isNum_in h
  unfold Lib.itoa
  split
  · have := digits_len (u := n.natAbs) (k := 10) (by omega) (by omega)
    simp
    omega
  · have := digits_len (u := n.toNat) (k := 10) (by omega) (by omega)
    omega
theorem atoiAll_itoa {n : Int} (h : isNum n = true) : Lib.atoiAll (Lib.itoa n) = .ok n := by
  rw [Lib.atoiAll_short _ (Nat.le_trans (itoa_len h) (by decide)), atoi_itoa]
  rfl
/-- What a number's text is read as. -/
def NumR (s : ByteArray) (n : Int) (ok : Bool) : Prop := (ok = true ∧ isNum n = true ∧ numText n = s) ∨ (ok = false ∧ n = 0 ∧ ∀ m, isNum m = true → numText m ≠ s)
theorem NumR.of {s : ByteArray} {n m : Int} {ok : Bool} (h : NumR s n ok) (hm : isNum m = true) (e : numText m = s) : ok = true ∧ n = m := by
  rcases h with ⟨h1, -, h3⟩ | ⟨-, -, h3⟩
  · exact ⟨h1, numText_inj (h3.trans e.symm)⟩
  · exact absurd e (h3 m hm)
theorem NumR.rng {s : ByteArray} {n : Int} {ok : Bool} (h : NumR s n ok) : -1000000000 ≤ n ∧ n ≤ 1000000000 := by
  rcases h with ⟨-, h2, -⟩ | ⟨-, h2, -⟩
  · exact isNum_in h2
  · omega
theorem valOk_cases {v : V} (h : valOk v = true) : (v.ty = 1 ∧ isNum v.n = true ∧ v.s = ⟨#[]⟩) ∨ (v.ty = 2 ∧ v.n = 0 ∧ v.s.data.toList.all chOk = true ∧ v.s.size ≤ 6) := by
  unfold valOk at h
  split at h
  · rename_i h1
    rw [Bool.and_eq_true] at h
    refine .inl ⟨h1, h.1, ba_inj ?_⟩
    simpa using h.2
  · split at h
    · rename_i h1 h2
      simp only [Bool.and_eq_true, decide_eq_true_eq] at h
      exact .inr ⟨h2, h.2.2, h.1, h.2.1⟩
    · cases h
theorem valText_num {v : V} (h : valOk v = true) (h1 : v.ty = 1) : (valText v).data.toList = Lib.itoa v.n := by rw [valText_1 h h1, numText_list]
theorem valText_txt {v : V} (h : valOk v = true) (h1 : v.ty = 2) : (valText v).data.toList = 39 :: v.s.data.toList := by rw [valText_2 h (by omega)]; simp
theorem chOk_in {b : UInt8} (h : chOk b = true) : (97 ≤ b.toNat ∧ b.toNat ≤ 122) ∨ (48 ≤ b.toNat ∧ b.toNat ≤ 57) := by
  unfold chOk at h
  rw [Bool.or_eq_true] at h
  rcases h with h | h
  · have := inR_yes h; omega
  · have := inR_yes h; omega
/-- A byte of a value's text. -/
def ValCh (b : UInt8) : Prop := b.toNat = 39 ∨ NumCh b ∨ (97 ≤ b.toNat ∧ b.toNat ≤ 122)
theorem valText_ch {v : V} (h : valOk v = true) : ∀ b ∈ (valText v).data.toList, ValCh b := by
  intro b hb
  rcases valOk_cases h with ⟨h1, -, -⟩ | ⟨h1, -, h3, -⟩
  · rw [valText_num h h1] at hb
    exact .inr (.inl (itoa_ch _ b hb))
  · rw [valText_txt h h1] at hb
    rcases List.mem_cons.1 hb with h4 | h4
    · subst h4; exact .inl rfl
    · have := chOk_in (List.all_eq_true.1 h3 b h4)
      rcases this with h5 | h5
      · exact .inr (.inr h5)
      · exact .inr (.inl (.inr h5))
theorem valText_ne {v : V} (h : valOk v = true) : (valText v).data.toList ≠ [] := by
  rcases valOk_cases h with ⟨h1, -⟩ | ⟨h1, -⟩
  · rw [valText_num h h1]; exact itoa_ne _
  · rw [valText_txt h h1]; simp
theorem itoa_no39 {n : Int} {t : List UInt8} (h : Lib.itoa n = 39 :: t) : False := by
  have := itoa_ch n 39 (by rw [h]; simp)
  rcases this with h | h <;> simp at h
theorem valText_inj {u v : V} (hu : valOk u = true) (hv : valOk v = true) (h : valText u = valText v) : u = v := by
  have hl : (valText u).data.toList = (valText v).data.toList := by rw [h]
  rcases valOk_cases hu with ⟨a1, a2, a3⟩ | ⟨a1, a2, a3, -⟩ <;> rcases valOk_cases hv with ⟨b1, b2, b3⟩ | ⟨b1, b2, b3, -⟩
  · rw [valText_num hu a1, valText_num hv b1] at hl
    have hn : u.n = v.n := numText_inj (ba_inj hl)
    cases u; cases v
    simp_all
  · rw [valText_num hu a1, valText_txt hv b1] at hl
    exact (itoa_no39 hl).elim
  · rw [valText_txt hu a1, valText_num hv b1] at hl
    exact (itoa_no39 hl.symm).elim
  · rw [valText_txt hu a1, valText_txt hv b1] at hl
    injection hl with _ hl
    have hs := ba_inj hl
    cases u; cases v
    simp_all
/-- What a value's text is read as. -/
def ValR (s : ByteArray) (v : V) (ok : Bool) : Prop := (ok = true ∧ valOk v = true ∧ valText v = s) ∨ (ok = false ∧ v = V.zero ∧ ∀ u, valOk u = true → valText u ≠ s)
theorem ValR.of {s : ByteArray} {v u : V} {ok : Bool} (h : ValR s v ok) (hu : valOk u = true) (e : valText u = s) : ok = true ∧ v = u := by
  rcases h with ⟨h1, h2, h3⟩ | ⟨-, -, h3⟩
  · exact ⟨h1, valText_inj h2 hu (h3.trans e.symm)⟩
  · exact absurd e (h3 u hu)
theorem ValR.size {s : ByteArray} {v : V} {ok : Bool} (h : ValR s v ok) : v.s.size ≤ 6 := by
  rcases h with ⟨-, h2, -⟩ | ⟨-, h2, -⟩
  · rcases valOk_cases h2 with ⟨-, -, h⟩ | ⟨-, -, -, h⟩
    · rw [h]; exact Nat.zero_le _
    · exact h
  · rw [h2]; exact Nat.zero_le _
end Go.Proofs.YtjogkbkkcaljhaaGreatDoor
namespace Go.Proofs.YtjogkbkkcaljhaaGreatDoor
open Go.RowKit Go.Lb
/-- A byte of an operator. -/
def OpCh (b : UInt8) : Prop := b.toNat = 33 ∨ (60 ≤ b.toNat ∧ b.toNat ≤ 62)
/-- A byte that ends an operand. -/
def StopCh (b : UInt8) : Prop := b.toNat = 44 ∨ b.toNat = 41
theorem op_ch (n : Int) : ∀ b ∈ (opText n).data.toList, OpCh b := by
  unfold opText
  intro b hb
  repeat' split at hb
  all_goals
    simp at hb
    try (rcases hb with rfl | rfl)
    try subst hb
    all_goals first | exact .inl rfl | exact .inr ⟨by decide, by decide⟩
theorem op_ne {n : Int} (h : 1 ≤ n ∧ n ≤ 6) : (opText n).data.toList ≠ [] := by
  obtain rfl | rfl | rfl | rfl | rfl | rfl : n = 1 ∨ n = 2 ∨ n = 3 ∨ n = 4 ∨ n = 5 ∨ n = 6 := by omega
  all_goals decide
theorem op_inj {m n : Int} (hm : 1 ≤ m ∧ m ≤ 6) (hn : 1 ≤ n ∧ n ≤ 6) (h : (opText m).data.toList = (opText n).data.toList) : m = n := by
  obtain rfl | rfl | rfl | rfl | rfl | rfl : m = 1 ∨ m = 2 ∨ m = 3 ∨ m = 4 ∨ m = 5 ∨ m = 6 := by omega
  all_goals
    obtain rfl | rfl | rfl | rfl | rfl | rfl : n = 1 ∨ n = 2 ∨ n = 3 ∨ n = 4 ∨ n = 5 ∨ n = 6 := by omega
    all_goals first | rfl | (exact absurd h (by decide))
theorem num_not_op {b : UInt8} (h : NumCh b) : ¬ OpCh b := by
  unfold NumCh at h; unfold OpCh; omega
theorem val_not_op {b : UInt8} (h : ValCh b) : ¬ OpCh b := by
  unfold ValCh NumCh at h; unfold OpCh; omega
theorem op_not_num {b : UInt8} (h : OpCh b) : ¬ NumCh b := fun h' => num_not_op h' h
theorem op_not_val {b : UInt8} (h : OpCh b) : ¬ ValCh b := fun h' => val_not_op h' h
theorem stop_not_val {b : UInt8} (h : StopCh b) : ¬ ValCh b := by
  unfold StopCh at h; unfold ValCh NumCh; omega
/-- Bytes of one kind up to the first of another: they are told apart in one way. -/
theorem span_eq {P : UInt8 → Prop} : ∀ (l1 l2 X Y : List UInt8), (∀ b ∈ l1, P b) → (∀ b ∈ l2, P b) → (∀ b t, X = b :: t → ¬ P b) → (∀ b t, Y = b :: t → ¬ P b) → l1 ++ X = l2 ++ Y → l1 = l2 ∧ X = Y
  | [], [], X, Y, _, _, _, _, h => ⟨rfl, h⟩
  | [], b :: l2, X, Y, _, h2, hX, _, h => absurd (h2 b (by simp)) (hX b (l2 ++ Y) (by simpa using h))
  | b :: l1, [], X, Y, h1, _, _, hY, h => absurd (h1 b (by simp)) (hY b (l1 ++ X) (by simpa using h.symm))
  | b :: l1, c :: l2, X, Y, h1, h2, hX, hY, h => by
    simp only [List.cons_append, List.cons.injEq] at h
    obtain ⟨rfl, h⟩ := h
    have ih := span_eq l1 l2 X Y (fun x hx => h1 x (by simp [hx])) (fun x hx => h2 x (by simp [hx])) hX hY h
    exact ⟨by rw [ih.1], ih.2⟩
theorem head_app {l r : List UInt8} {b : UInt8} {t : List UInt8} {Q : UInt8 → Prop} (h0 : l ≠ []) (hl : ∀ x ∈ l, Q x) (h : l ++ r = b :: t) : Q b := by
  cases l with
  | nil => exact absurd rfl h0
  | cons a l =>
    simp only [List.cons_append, List.cons.injEq] at h
    exact h.1 ▸ hl a (by simp)
/-- The text of a comparison, in bytes. -/
def cmpL (col op : Int) (v : V) : List UInt8 := 99 :: (Lib.itoa col ++ ((opText op).data.toList ++ (valText v).data.toList))
theorem cmp_unique {c1 c2 o1 o2 : Int} {v1 v2 : V} {r1 r2 : List UInt8} (ho1 : 1 ≤ o1 ∧ o1 ≤ 6) (ho2 : 1 ≤ o2 ∧ o2 ≤ 6) (hv1 : valOk v1 = true) (hv2 : valOk v2 = true)
    (hr1 : ∀ b t, r1 = b :: t → StopCh b) (hr2 : ∀ b t, r2 = b :: t → StopCh b) (h : cmpL c1 o1 v1 ++ r1 = cmpL c2 o2 v2 ++ r2) : c1 = c2 ∧ o1 = o2 ∧ v1 = v2 ∧ r1 = r2 := by
  simp only [cmpL, List.cons_append, List.append_assoc, List.cons.injEq, true_and] at h
  obtain ⟨e1, h⟩ := span_eq (P := NumCh) _ _ _ _ (itoa_ch c1) (itoa_ch c2) (fun b t e => op_not_num (head_app (op_ne ho1) (op_ch o1) e)) (fun b t e => op_not_num (head_app (op_ne ho2) (op_ch o2) e)) h
  obtain ⟨e2, h⟩ := span_eq (P := OpCh) _ _ _ _ (op_ch o1) (op_ch o2) (fun b t e => val_not_op (head_app (valText_ne hv1) (valText_ch hv1) e)) (fun b t e => val_not_op (head_app (valText_ne hv2) (valText_ch hv2) e)) h
  obtain ⟨e3, h⟩ := span_eq (P := ValCh) _ _ _ _ (valText_ch hv1) (valText_ch hv2) (fun b t e => stop_not_val (hr1 b t e)) (fun b t e => stop_not_val (hr2 b t e)) h
  exact ⟨numText_inj (ba_inj e1), op_inj ho1 ho2 e2, valText_inj hv1 hv2 (ba_inj e3), h⟩
theorem cut_yes {s sep a b : List UInt8} (h : Lib.cut s sep = (a, b, true)) : s = a ++ (sep ++ b) := by
  unfold Lib.cut at h
  split at h
  · rename_i h0
    rcases Lib.index_spec s sep with ⟨h1, -⟩ | ⟨i, h1, hi, ho, -⟩
    · omega
    · rw [h1] at h
      simp only [Int.toNat_natCast, Prod.mk.injEq] at h
      obtain ⟨rfl, rfl, -⟩ := h
      unfold Lib.occAt at ho
      obtain ⟨r, hr⟩ := List.isPrefixOf_iff_prefix.1 ho
      have e : s.drop (i + sep.length) = r := by rw [← List.drop_drop, ← hr, List.drop_left]
      rw [e, hr, List.take_append_drop]
  · simp at h
/-- The text is cut at its own operator. -/
theorem cut_cmp {c o : Int} {v : V} (ho : 1 ≤ o ∧ o ≤ 6) : Lib.cut (cmpL c o v) (opText o).data.toList = (99 :: Lib.itoa c, (valText v).data.toList, true) := by
  have e : cmpL c o v = (99 :: Lib.itoa c) ++ ((opText o).data.toList ++ (valText v).data.toList) := by simp [cmpL]
  have hi : Lib.index (cmpL c o v) (opText o).data.toList = ((99 :: Lib.itoa c).length : Int) := by
    refine Lib.index_first ?_ ?_ fun j hj => ?_
    · rw [e, List.length_append]; omega
    · unfold Lib.occAt
      rw [e, List.drop_left]
      exact List.isPrefixOf_iff_prefix.2 ⟨_, rfl⟩
    · cases hoc : Lib.occAt (cmpL c o v) (opText o).data.toList j
      · rfl
      · exfalso
        cases hop : (opText o).data.toList with
        | nil => exact op_ne ho hop
        | cons x t =>
          have hx := Lib.occAt_head hop hoc
          have hxo : OpCh x := op_ch o x (by rw [hop]; simp)
          rw [e, List.getElem?_append_left hj] at hx
          have hm := List.mem_of_getElem? hx
          rcases List.mem_cons.1 hm with h1 | h1
          · subst h1
            unfold OpCh at hxo
            simp at hxo
          · exact num_not_op (itoa_ch c x h1) hxo
  unfold Lib.cut
  rw [hi, if_pos (by omega), Int.toNat_natCast, e, List.take_left, ← List.drop_drop, List.drop_left, List.drop_left]
theorem predT_all {p : P} (h : p.kind = 1) : (predT p).data.toList = [97, 108, 108] := by rw [predT_eq, if_pos h]
theorem predT_cmp {p : P} (h : p.kind = 2) : (predT p).data.toList = cmpL p.col p.op p.v := by
  rw [predT_eq, if_neg (by omega), if_pos h]
  simp [cmpL, numText_list]
/-- The operands of a predicate, and what stands behind them. -/
def bodyL : List P → List UInt8 → List UInt8
  | [], r => 41 :: r
  | [x], r => (predT x).data.toList ++ (41 :: r)
  | x :: y :: t, r => (predT x).data.toList ++ (44 :: bodyL (y :: t) r)
theorem bodyL_join : ∀ (x : P) (l : List P) (r : List UInt8), bodyL (x :: l) r = Lib.join ((x :: l).map fun y => (predT y).data.toList) [44] ++ (41 :: r)
  | x, [], r => by simp [bodyL, Lib.join]
  | x, y :: t, r => by
    rw [bodyL, bodyL_join y t r]
    simp [Lib.join]
theorem predT_body {p : P} (h : p.kind = 3 ∨ p.kind = 4 ∨ p.kind = 5) (h0 : p.l ≠ []) (r : List UInt8) : (predT p).data.toList ++ r = (word p.kind).data.toList ++ bodyL p.l r := by
  cases hl : p.l with
  | nil => exact absurd hl h0
  | cons x t =>
    rw [bodyL_join, ← hl, predT_eq, if_neg (by omega), if_neg (by omega), if_pos h]
    simp
end Go.Proofs.YtjogkbkkcaljhaaGreatDoor
namespace Go.Proofs.YtjogkbkkcaljhaaGreatDoor
open Go.RowKit Go.Lb
theorem P_ext {p q : P} (h1 : p.kind = q.kind) (h2 : p.col = q.col) (h3 : p.op = q.op) (h4 : p.v = q.v) (h5 : p.l = q.l) : p = q := by
  cases p; cases q
  simp only [P.kind, P.col, P.op, P.v, P.l] at h1 h2 h3 h4 h5
  subst h1 h2 h3 h4 h5
  rfl
theorem bare_is {p : P} (h : bareP p = true) : p.col = 0 ∧ p.op = 0 ∧ p.v = V.zero := by
  unfold bareP at h
  simp only [Bool.and_eq_true, beq_iff_eq] at h
  exact ⟨h.1, h.2.1, of_decide_eq_true h.2.2⟩
theorem cmp_form {cols : List Int} {p : P} (h : formOk cols p = true) (hk : p.kind = 2) : valOk p.v = true ∧ (1 ≤ p.op ∧ p.op ≤ 6) ∧ (0 ≤ p.col ∧ p.col ≤ (cols.length : Int) - 1) ∧ p.l = [] := by
  rw [formOk_2 hk] at h
  unfold cmpOk at h
  simp only [Bool.and_eq_true, decide_eq_true_eq] at h
  exact ⟨h.2.1, inR_yes h.2.2.2.1, inR_yes h.1, List.length_eq_zero_iff.1 h.2.2.2.2⟩
theorem all_form {cols : List Int} {p : P} (h : formOk cols p = true) (hk : p.kind = 1) : p = ⟨1, 0, 0, V.zero, []⟩ := by
  rw [formOk_1 hk] at h
  simp only [Bool.and_eq_true, decide_eq_true_eq] at h
  obtain ⟨h1, h2, h3⟩ := bare_is h.1
  exact P_ext hk h1 h2 h3 (List.length_eq_zero_iff.1 h.2)
theorem ops_form {cols : List Int} {p : P} (h : formOk cols p = true) (hk : p.kind = 3 ∨ p.kind = 4 ∨ p.kind = 5) : p = ⟨p.kind, 0, 0, V.zero, p.l⟩ ∧ p.l ≠ [] ∧ p.l.length ≤ 4 := by
  have key : bareP p = true ∧ (1 ≤ p.l.length ∧ p.l.length ≤ 4) := by
    rcases hk with hk | hk | hk
    · rw [formOk_3 hk] at h
      simp only [Bool.and_eq_true] at h
      have := inR_yes h.2
      exact ⟨h.1, by omega, by omega⟩
    · rw [formOk_4 hk] at h
      simp only [Bool.and_eq_true] at h
      have := inR_yes h.2
      exact ⟨h.1, by omega, by omega⟩
    · rw [formOk_5 hk] at h
      simp only [Bool.and_eq_true, decide_eq_true_eq] at h
      exact ⟨h.1, by omega, by omega⟩
  obtain ⟨h1, h2, h3⟩ := bare_is key.1
  exact ⟨P_ext rfl h1 h2 h3 rfl, fun e => by rw [e] at key; simp at key, key.2.2⟩
theorem form_kind {cols : List Int} {p : P} (h : formOk cols p = true) : p.kind = 1 ∨ p.kind = 2 ∨ p.kind = 3 ∨ p.kind = 4 ∨ p.kind = 5 := by
  by_cases h1 : p.kind = 1
  · exact .inl h1
  by_cases h2 : p.kind = 2
  · exact .inr (.inl h2)
  by_cases h3 : p.kind = 3
  · exact .inr (.inr (.inl h3))
  by_cases h4 : p.kind = 4
  · exact .inr (.inr (.inr (.inl h4)))
  by_cases h5 : p.kind = 5
  · exact .inr (.inr (.inr (.inr h5)))
  simp [formOk, h1, h2, h3, h4, h5] at h
theorem deep_form {cols : List Int} {k : Nat} {p : P} (h : deepOk cols (k + 1) p = true) : formOk cols p = true ∧ p.l.all (deepOk cols k) = true := by
  simpa only [deepOk, Bool.and_eq_true] using h
/-- The first bytes tell the kind. -/
theorem pre_all {cols : List Int} {p : P} (h : formOk cols p = true) (r : List UInt8) : ([97, 108, 108] : List UInt8).isPrefixOf ((predT p).data.toList ++ r) = decide (p.kind = 1) := by
  rcases form_kind h with hk | hk | hk | hk | hk
  · rw [predT_all hk, decide_eq_true hk]; rfl
  · rw [predT_cmp hk, decide_eq_false (by omega)]; rfl
  · rw [predT_body (.inl hk) (ops_form h (.inl hk)).2.1, hk, decide_eq_false (by omega)]; rfl
  · rw [predT_body (.inr (.inl hk)) (ops_form h (.inr (.inl hk))).2.1, hk, decide_eq_false (by omega)]; rfl
  · rw [predT_body (.inr (.inr hk)) (ops_form h (.inr (.inr hk))).2.1, hk, decide_eq_false (by omega)]; rfl
theorem pre_self (a r : List UInt8) : a.isPrefixOf (a ++ r) = true := List.isPrefixOf_iff_prefix.2 ⟨r, rfl⟩
theorem pre_word {cols : List Int} {p : P} (h : formOk cols p = true) {n : Int} (hn : n = 3 ∨ n = 4 ∨ n = 5) (r : List UInt8) : (word n).data.toList.isPrefixOf ((predT p).data.toList ++ r) = decide (p.kind = n) := by
  rcases form_kind h with hk | hk | hk | hk | hk
  · rw [predT_all hk, hk]
    rcases hn with rfl | rfl | rfl <;> rfl
  · rw [predT_cmp hk, hk]
    rcases hn with rfl | rfl | rfl <;> rfl
  · rw [predT_body (.inl hk) (ops_form h (.inl hk)).2.1, hk]
    rcases hn with rfl | rfl | rfl <;> first | rfl | exact pre_self _ _
  · rw [predT_body (.inr (.inl hk)) (ops_form h (.inr (.inl hk))).2.1, hk]
    rcases hn with rfl | rfl | rfl <;> first | rfl | exact pre_self _ _
  · rw [predT_body (.inr (.inr hk)) (ops_form h (.inr (.inr hk))).2.1, hk]
    rcases hn with rfl | rfl | rfl <;> first | rfl | exact pre_self _ _
/-- What follows an operand. -/
def StopAt (r : List UInt8) : Prop := ∀ b t, r = b :: t → StopCh b
theorem stop_nil : StopAt [] := fun b t h => by cases h
theorem stop_44 (r : List UInt8) : StopAt (44 :: r) := fun b t h => by
  injection h with h _
  subst h; exact .inl rfl
theorem stop_41 (r : List UInt8) : StopAt (41 :: r) := fun b t h => by
  injection h with h _
  subst h; exact .inr rfl
/-- What a comparison's text is read as: a text of a good one as this one. -/
def CmpR (cols : List Int) (s : ByteArray) (p : P) (ok : Bool) : Prop := ∀ p', p'.kind = 2 → formOk cols p' = true → (predT p').data.toList = s.data.toList → ok = true ∧ p = p'
/-- What the beginning of a text is read as. -/
def PartR (cols : List Int) (k : Nat) (s : List UInt8) (p : P) (rest : List UInt8) (ok : Bool) : Prop := ∀ p' r, deepOk cols k p' = true → StopAt r → s = (predT p').data.toList ++ r → ok = true ∧ p = p' ∧ rest = r
def OpsR (cols : List Int) (k : Nat) (kind : Int) (s : List UInt8) (p : P) (rest : List UInt8) (ok : Bool) : Prop := ∀ l r, l ≠ [] → l.length ≤ 4 → l.all (deepOk cols k) = true → s = bodyL l r → ok = true ∧ p = ⟨kind, 0, 0, V.zero, l⟩ ∧ rest = r
/-- While operands are read: these are read, the rest is ahead. -/
def OpsI (cols : List Int) (k : Nat) (s0 : List UInt8) (ps : List P) (s : List UInt8) : Prop := ∀ l r, l ≠ [] → l.length ≤ 4 → l.all (deepOk cols k) = true → s0 = bodyL l r → ∃ l2, l = ps ++ l2 ∧ l2 ≠ [] ∧ s = bodyL l2 r
theorem OpsI.zero (cols : List Int) (k : Nat) (s : List UInt8) : OpsI cols k s [] s := fun l _ h0 _ _ e => ⟨l, rfl, h0, e⟩
theorem body_cases {l2 : List P} (h : l2 ≠ []) (r : List UInt8) : ∃ x t, l2 = x :: t ∧ ((t = [] ∧ bodyL l2 r = (predT x).data.toList ++ 41 :: r) ∨ (t ≠ [] ∧ bodyL l2 r = (predT x).data.toList ++ 44 :: bodyL t r)) := by
  cases l2 with
  | nil => exact absurd rfl h
  | cons x t =>
    refine ⟨x, t, rfl, ?_⟩
    cases t with
    | nil => exact .inl ⟨rfl, rfl⟩
    | cons y t => exact .inr ⟨by simp, rfl⟩
theorem OpsI.read {cols : List Int} {k : Nat} {s0 s rest : List UInt8} {ps : List P} {q : P} {ok : Bool} (h : OpsI cols k s0 ps s) (hp : PartR cols k s q rest ok) {l : List P} {r : List UInt8} (h0 : l ≠ []) (h4 : l.length ≤ 4) (hl : l.all (deepOk cols k) = true) (e : s0 = bodyL l r) :
    ok = true ∧ ((l = ps ++ [q] ∧ rest = 41 :: r) ∨ ∃ t, t ≠ [] ∧ l = (ps ++ [q]) ++ t ∧ rest = 44 :: bodyL t r) := by
  obtain ⟨l2, e1, e2, e3⟩ := h l r h0 h4 hl e
  obtain ⟨x, t, rfl, ht⟩ := body_cases e2 r
  have hx : deepOk cols k x = true := by
    rw [e1] at hl
    exact List.all_eq_true.1 hl x (by simp)
  rcases ht with ⟨rfl, hb⟩ | ⟨ht, hb⟩
  · obtain ⟨a1, a2, a3⟩ := hp x (41 :: r) hx (stop_41 r) (e3.trans hb)
    subst a2
    exact ⟨a1, .inl ⟨e1, a3⟩⟩
  · obtain ⟨a1, a2, a3⟩ := hp x (44 :: bodyL t r) hx (stop_44 _) (e3.trans hb)
    subst a2
    exact ⟨a1, .inr ⟨t, ht, by rw [e1]; simp, a3⟩⟩
/-- No operand can be read: nothing good stood there. -/
theorem OpsI.no {cols : List Int} {k : Nat} {s0 s rest : List UInt8} {ps : List P} {q : P} {ok : Bool} {kind : Int} (h : OpsI cols k s0 ps s) (hp : PartR cols k s q rest ok) (hn : ok = false ∨ rest = []) (p : P) (rest' : List UInt8) (ok' : Bool) : OpsR cols k kind s0 p rest' ok' := by
  intro l r h0 h4 hl e
  obtain ⟨a1, a2⟩ := h.read hp h0 h4 hl e
  rcases hn with rfl | rfl
  · cases a1
  · rcases a2 with ⟨_, a⟩ | ⟨_, _, _, a⟩ <;> cases a
theorem OpsI.last {cols : List Int} {k : Nat} {s0 s r1 : List UInt8} {ps : List P} {q : P} {ok : Bool} {kind : Int} (h : OpsI cols k s0 ps s) (hp : PartR cols k s q (41 :: r1) ok) : OpsR cols k kind s0 ⟨kind, 0, 0, V.zero, ps ++ [q]⟩ r1 true := by
  intro l r h0 h4 hl e
  obtain ⟨-, a2⟩ := h.read hp h0 h4 hl e
  rcases a2 with ⟨a, b⟩ | ⟨_, _, _, b⟩
  · injection b with _ b
    exact ⟨rfl, by rw [a], b⟩
  · injection b with b _
    exact absurd b (by decide)
theorem OpsI.more {cols : List Int} {k : Nat} {s0 s r1 : List UInt8} {ps : List P} {q : P} {ok : Bool} {b : UInt8} (h : OpsI cols k s0 ps s) (hp : PartR cols k s q (b :: r1) ok) (hb : b ≠ 41) : OpsI cols k s0 (ps ++ [q]) r1 := by
  intro l r h0 h4 hl e
  obtain ⟨-, a2⟩ := h.read hp h0 h4 hl e
  rcases a2 with ⟨_, b'⟩ | ⟨t, ht, a, b'⟩
  · injection b' with b' _
    exact absurd b' hb
  · injection b' with _ b'
    exact ⟨t, a, ht, b'⟩
theorem OpsI.full {cols : List Int} {k : Nat} {s0 s : List UInt8} {ps : List P} {kind : Int} (h : OpsI cols k s0 ps s) (h4 : 4 ≤ ps.length) (p : P) (rest' : List UInt8) (ok' : Bool) : OpsR cols k kind s0 p rest' ok' := by
  intro l r h0 hl4 hl e
  obtain ⟨l2, e1, e2, -⟩ := h l r h0 hl4 hl e
  have : l2.length ≠ 0 := fun h => e2 (List.length_eq_zero_iff.1 h)
  rw [e1, List.length_append] at hl4
  omega
/-- A part of a kind with operands is what its operands are. -/
theorem part_ops {cols : List Int} {k : Nat} {n : Int} {s rest : List UInt8} {p : P} {ok : Bool} {b : List UInt8} (hn : n = 3 ∨ n = 4 ∨ n = 5) (hs : s = (word n).data.toList ++ b) (h : OpsR cols k n b p rest ok) : PartR cols (k + 1) s p rest ok := by
  intro p' r hp' _ e
  obtain ⟨hf, hl⟩ := deep_form hp'
  have hk : p'.kind = n := by
    have h1 := pre_word hf hn r
    rw [← e, hs, pre_self] at h1
    exact of_decide_eq_true h1.symm
  obtain ⟨f1, f2, f3⟩ := ops_form hf (hk ▸ hn)
  have e2 : b = bodyL p'.l r := by
    rw [predT_body (hk ▸ hn) f2, hs, hk] at e
    exact List.append_cancel_left e
  obtain ⟨a1, a2, a3⟩ := h p'.l r f2 f3 hl e2
  exact ⟨a1, by rw [a2, ← hk]; exact f1.symm, a3⟩
theorem part_all {cols : List Int} {k : Nat} {s rest : List UInt8} (hs : s = [97, 108, 108] ++ rest) : PartR cols k s ⟨1, 0, 0, V.zero, []⟩ rest true := by
  intro p' r hp' _ e
  cases k with
  | zero => simp [deepOk] at hp'
  | succ k =>
    obtain ⟨hf, hl⟩ := deep_form hp'
    have hk : p'.kind = 1 := by
      have h1 := pre_all hf r
      rw [← e, hs, pre_self] at h1
      exact of_decide_eq_true h1.symm
    refine ⟨rfl, (all_form hf hk).symm, ?_⟩
    rw [predT_all hk, hs] at e
    exact List.append_cancel_left e
theorem part_zero {cols : List Int} (s : List UInt8) (p : P) (rest : List UInt8) (ok : Bool) : PartR cols 0 s p rest ok := fun p' _ h => by simp [deepOk] at h
theorem cmpL_ch {c o : Int} {v : V} (hv : valOk v = true) : ∀ b ∈ cmpL c o v, ¬ StopCh b := by
  intro b hb hs
  rcases List.mem_cons.1 hb with h | h
  · subst h; unfold StopCh at hs; simp at hs
  · rcases List.mem_append.1 h with h | h
    · have := itoa_ch c b h
      exact stop_not_val hs (.inr (.inl this))
    · rcases List.mem_append.1 h with h | h
      · have h1 := op_ch o b h
        unfold StopCh at hs; unfold OpCh at h1
        omega
      · exact stop_not_val hs (valText_ch hv b h)
/-- Where a comparison ends. -/
theorem cmp_end {c o : Int} {v : V} (hv : valOk v = true) {r : List UInt8} (hr : StopAt r) : (Lib.indexAny (cmpL c o v ++ r) [44, 41] = -1 ∧ r = []) ∨ (Lib.indexAny (cmpL c o v ++ r) [44, 41] = ((cmpL c o v).length : Int)) := by
  have hno : Lib.NoAny (cmpL c o v ++ r) [44, 41] (cmpL c o v).length := fun j b hj hb => by
    rw [List.getElem?_append_left hj] at hb
    have hm := cmpL_ch hv b (List.mem_of_getElem? hb)
    cases hc : ([44, 41] : List UInt8).contains b
    · rfl
    · exfalso
      apply hm
      simp only [List.contains_cons, List.contains_nil, Bool.or_false, Bool.or_eq_true, beq_iff_eq] at hc
      rcases hc with rfl | rfl
      · exact .inl rfl
      · exact .inr rfl
  cases r with
  | nil =>
    left
    refine ⟨Lib.indexAny_none ?_, rfl⟩
    rw [List.append_nil] at hno ⊢
    exact hno
  | cons b t =>
    right
    refine Lib.indexAny_hit (x := b) hno (by rw [List.getElem?_append_right (Nat.le_refl _)]; simp) ?_
    rcases hr b t rfl with h | h
    · have : b = 44 := UInt8.toNat_inj.1 h
      subst this; rfl
    · have : b = 41 := UInt8.toNat_inj.1 h
      subst this; rfl
/-- A part that begins with no word is a comparison. -/
theorem part_cmp {cols : List Int} {k : Nat} {s : List UInt8} {p : P} {ok : Bool} {e : Nat} (h1 : ([97, 108, 108] : List UInt8).isPrefixOf s = false) (h3 : (word 3).data.toList.isPrefixOf s = false) (h4 : (word 4).data.toList.isPrefixOf s = false) (h5 : (word 5).data.toList.isPrefixOf s = false)
    (he : (Lib.indexAny s [44, 41] < 0 ∧ e = s.length) ∨ Lib.indexAny s [44, 41] = (e : Int)) (h : CmpR cols ⟨(s.take e).toArray⟩ p ok) : PartR cols (k + 1) s p (s.drop e) ok := by
  intro p' r hp' hr es
  obtain ⟨hf, hl⟩ := deep_form hp'
  have hk : p'.kind = 2 := by
    have a1 := pre_all hf r
    have a3 := pre_word hf (n := 3) (.inl rfl) r
    have a4 := pre_word hf (n := 4) (.inr (.inl rfl)) r
    have a5 := pre_word hf (n := 5) (.inr (.inr rfl)) r
    rw [← es, h1] at a1
    rw [← es, h3] at a3
    rw [← es, h4] at a4
    rw [← es, h5] at a5
    have b1 := of_decide_eq_false a1.symm
    have b3 := of_decide_eq_false a3.symm
    have b4 := of_decide_eq_false a4.symm
    have b5 := of_decide_eq_false a5.symm
    have := form_kind hf
    omega
  obtain ⟨hv, ho, hc, hl0⟩ := cmp_form hf hk
  rw [predT_cmp hk] at es
  have hE : e = (cmpL p'.col p'.op p'.v).length := by
    have := cmp_end (c := p'.col) (o := p'.op) hv hr
    rw [← es] at this
    rcases this with ⟨t1, t2⟩ | t1
    · rcases he with ⟨t3, t4⟩ | t3
      · rw [t4, es, t2, List.append_nil]
      · omega
    · rcases he with ⟨t3, t4⟩ | t3
      · omega
      · omega
  have e1 : s.take e = cmpL p'.col p'.op p'.v := by rw [es, hE, List.take_left]
  have e2 : s.drop e = r := by rw [es, hE, List.drop_left]
  obtain ⟨a1, a2⟩ := h p' hk hf (by rw [predT_cmp hk]; exact e1.symm)
  exact ⟨a1, a2, e2⟩
end Go.Proofs.YtjogkbkkcaljhaaGreatDoor
