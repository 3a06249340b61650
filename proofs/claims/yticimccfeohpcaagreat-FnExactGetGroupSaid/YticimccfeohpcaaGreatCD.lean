/- Dictionaries of values as functions on lists: what is written is read, and what is read was written. No conditions; nothing here speaks of the program. -/
import Derived.Test.YticimccfeohpcaaGreatXV
import Derived.Test.YticimccfeohpcaaGreatXN
import Derived.Test.YticimccfeohpcaaGreatZ3
namespace Go.Lb
abbrev Lt (a b : V) : Prop := less a b = true
/-- A value comes to its place among those that rise. -/
def dictIns : List V → V → List V
  | [], v => [v]
  | a :: r, v => if less a v then a :: dictIns r v else if a = v then a :: r else v :: a :: r
def dictOf (l : List V) : List V := l.foldl dictIns []
theorem dict_step {l : List V} {i : Nat} {v : V} (h : l[i]? = some v) : dictOf (l.take (i + 1)) = dictIns (dictOf (l.take i)) v := by
  rw [take_of_get h, dictOf, dictOf, List.foldl_append]
  rfl
/-- By the first place whose value is not less. -/
theorem dictIns_at {d : List V} {v : V} {k : Nat} (h1 : ∀ j x, j < k → d[j]? = some x → less x v = true) (h2 : ∀ x, d[k]? = some x → less x v = false) (hk : k ≤ d.length) :
    dictIns d v = if d[k]? = some v then d else d.take k ++ [v] ++ d.drop k := by
  induction d generalizing k with
  | nil =>
    obtain rfl : k = 0 := by simpa using hk
    simp [dictIns]
  | cons a r ih =>
    cases k with
    | zero =>
      have h3 := h2 a (by simp)
      rw [dictIns, if_neg (by simp [h3])]
      by_cases e : a = v
      · simp [e]
      · simp [e]
    | succ k =>
      have h3 := h1 0 a (by omega) (by simp)
      rw [dictIns, if_pos h3, ih (k := k) (fun j x hj hx => h1 (j + 1) x (by omega) (by simpa using hx)) (fun x hx => h2 x (by simpa using hx)) (by simpa using hk)]
      simp only [List.getElem?_cons_succ, List.take_succ_cons, List.drop_succ_cons]
      split <;> simp
theorem mem_dictIns {d : List V} {v x : V} : x ∈ dictIns d v ↔ x = v ∨ x ∈ d := by
  induction d with
  | nil => simp [dictIns]
  | cons a r ih =>
    rw [dictIns]
    split
    · simp only [List.mem_cons, ih]
      constructor
      · rintro (h | h | h)
        · exact .inr (.inl h)
        · exact .inl h
        · exact .inr (.inr h)
      · rintro (h | h | h)
        · exact .inr (.inl h)
        · exact .inl h
        · exact .inr (.inr h)
    · split
      · rename_i h
        subst h
        simp only [List.mem_cons]
        constructor
        · exact .inr
        · rintro (h | h)
          · exact .inl h
          · exact h
      · simp only [List.mem_cons]
theorem mem_foldIns {l d : List V} {x : V} : x ∈ l.foldl dictIns d ↔ x ∈ l ∨ x ∈ d := by
  induction l generalizing d with
  | nil => simp
  | cons a r ih =>
    rw [List.foldl_cons, ih, mem_dictIns, List.mem_cons]
    constructor
    · rintro (h | h | h)
      · exact .inl (.inr h)
      · exact .inl (.inl h)
      · exact .inr h
    · rintro ((h | h) | h)
      · exact .inr (.inl h)
      · exact .inl h
      · exact .inr (.inr h)
theorem mem_dictOf {l : List V} {x : V} : x ∈ dictOf l ↔ x ∈ l := by rw [dictOf, mem_foldIns]; simp
theorem dictIns_pw {d : List V} {v : V} (h : d.Pairwise Lt) : (dictIns d v).Pairwise Lt := by
  induction d with
  | nil => simp [dictIns]
  | cons a r ih =>
    rw [List.pairwise_cons] at h
    rw [dictIns]
    split
    · rename_i h1
      rw [List.pairwise_cons]
      refine ⟨fun x hx => ?_, ih h.2⟩
      rcases mem_dictIns.1 hx with e | hx
      · rw [e]; exact h1
      · exact h.1 x hx
    · rename_i h1
      split
      · exact List.pairwise_cons.2 h
      · rename_i h2
        have h3 : less v a = true := by
          cases h4 : less v a
          · exact absurd (less_tri (by simpa using h1) h4) h2
          · rfl
        rw [List.pairwise_cons]
        refine ⟨fun x hx => ?_, List.pairwise_cons.2 h⟩
        rcases List.mem_cons.1 hx with e | hx
        · rw [e]; exact h3
        · exact less_trans h3 (h.1 x hx)
theorem foldIns_pw {l d : List V} (h : d.Pairwise Lt) : (l.foldl dictIns d).Pairwise Lt := by
  induction l generalizing d with
  | nil => exact h
  | cons a r ih => exact ih (dictIns_pw h)
theorem dictOf_pw (l : List V) : (dictOf l).Pairwise Lt := foldIns_pw List.Pairwise.nil
theorem dictIns_len (d : List V) (v : V) : (dictIns d v).length ≤ d.length + 1 := by
  induction d with
  | nil => simp [dictIns]
  | cons a r ih =>
    rw [dictIns]
    split
    · simp only [List.length_cons]; omega
    · split <;> simp
theorem foldIns_len (l d : List V) : (l.foldl dictIns d).length ≤ l.length + d.length := by
  induction l generalizing d with
  | nil => simp
  | cons a r ih =>
    have := ih (dictIns d a)
    have := dictIns_len d a
    simp only [List.foldl_cons, List.length_cons]
    omega
theorem dictOf_len (l : List V) : (dictOf l).length ≤ l.length := by
  have := foldIns_len l []
  simpa [dictOf] using this
theorem pw_unique : ∀ {a b : List V}, a.Pairwise Lt → b.Pairwise Lt → (∀ x, x ∈ a ↔ x ∈ b) → a = b
  | [], [], _, _, _ => rfl
  | [], y :: b, _, _, h => by have := (h y).2 (by simp); cases this
  | x :: a, [], _, _, h => by have := (h x).1 (by simp); cases this
  | x :: a, y :: b, ha, hb, h => by
    rw [List.pairwise_cons] at ha hb
    have hxy : x = y := by
      rcases List.mem_cons.1 ((h x).1 (by simp)) with e | e
      · exact e
      · rcases List.mem_cons.1 ((h y).2 (by simp)) with e2 | e2
        · exact e2.symm
        · have h1 : less y x = true := hb.1 x e
          have h2 : less x y = true := ha.1 y e2
          have h3 := less_trans h1 h2
          rw [less_irrefl] at h3
          cases h3
    subst hxy
    congr 1
    refine pw_unique ha.2 hb.2 fun z => ⟨fun hz => ?_, fun hz => ?_⟩
    · rcases List.mem_cons.1 ((h z).1 (List.mem_cons_of_mem _ hz)) with e | e
      · subst e
        have h3 : less z z = true := ha.1 z hz
        rw [less_irrefl] at h3
        cases h3
      · exact e
    · rcases List.mem_cons.1 ((h z).2 (List.mem_cons_of_mem _ hz)) with e | e
      · subst e
        have h3 : less z z = true := hb.1 z hz
        rw [less_irrefl] at h3
        cases h3
      · exact e
/-- Of equal neighbours one. -/
def compStep (acc : List V) (v : V) : List V := if acc.getLast? = some v then acc else acc ++ [v]
def compV (l : List V) : List V := l.foldl compStep []
theorem comp_step {l : List V} {i : Nat} {v : V} (h : l[i]? = some v) : compV (l.take (i + 1)) = compStep (compV (l.take i)) v := by
  rw [take_of_get h, compV, compV, List.foldl_append]
  rfl
structure CompOf (l q : List V) : Prop where
  last : q.getLast? = l.getLast?
  mem : ∀ x, x ∈ q ↔ x ∈ l
  len : q.length ≤ l.length
theorem CompOf.step {l q : List V} (h : CompOf l q) (v : V) : CompOf (l ++ [v]) (compStep q v) := by
  unfold compStep
  split
  · rename_i hl
    refine ⟨by rw [hl]; simp, fun x => ?_, by have := h.len; simp; omega⟩
    rw [List.mem_append, List.mem_singleton, ← h.mem]
    constructor
    · exact .inl
    · rintro (h1 | h1)
      · exact h1
      · subst h1
        exact List.mem_of_getLast? hl
  · refine ⟨by simp, fun x => ?_, by have := h.len; simp; omega⟩
    rw [List.mem_append, List.mem_append, h.mem]
theorem compOf_take (l : List V) : ∀ i, i ≤ l.length → CompOf (l.take i) (compV (l.take i))
  | 0, _ => by
    simp only [List.take_zero]
    exact ⟨rfl, fun _ => Iff.rfl, Nat.le_refl _⟩
  | i + 1, h => by
    have hg : l[i]? = some l[i] := List.getElem?_eq_getElem (by omega)
    rw [comp_step hg, take_of_get hg]
    exact (compOf_take l i (by omega)).step _
theorem compOf (l : List V) : CompOf l (compV l) := by
  have h := compOf_take l l.length (Nat.le_refl _)
  rwa [List.take_length] at h
theorem comp_pw_take (l : List V) (hs : l.Pairwise le) : ∀ i, i ≤ l.length → (compV (l.take i)).Pairwise Lt
  | 0, _ => by simp [compV]
  | i + 1, h => by
    have hg : l[i]? = some l[i] := List.getElem?_eq_getElem (by omega)
    have ih := comp_pw_take l hs i (by omega)
    have hc := compOf_take l i (by omega)
    rw [comp_step hg]
    generalize hq : compV (l.take i) = q at ih hc ⊢
    generalize hv : l[i] = v at hg ⊢
    unfold compStep
    split
    · exact ih
    · rename_i hl
      rw [List.pairwise_append]
      refine ⟨ih, by simp, fun x hx y hy => ?_⟩
      obtain rfl := List.mem_singleton.1 hy
      rcases List.eq_nil_or_concat q with e | ⟨p, z, e⟩
      · rw [e] at hx; cases hx
      · rw [List.concat_eq_append] at e
        subst e
        simp only [List.getLast?_append, List.getLast?_singleton, Option.some_or, Option.some.injEq] at hl
        have hzl : z ∈ l.take i := (hc.mem z).1 (by simp)
        have hle : ∀ u ∈ l.take i, le u y := fun u hu => by
          have e2 : l = l.take i ++ y :: l.drop (i + 1) := by rw [← drop_of_get hg, List.take_append_drop]
          rw [e2, List.pairwise_append] at hs
          exact hs.2.2 u hu y (by simp)
        have hzy : less z y = true := by
          cases h4 : less z y
          · exact absurd (less_tri h4 (hle z hzl)) hl
          · rfl
        rcases List.mem_append.1 hx with h1 | h1
        · rw [List.pairwise_append] at ih
          exact less_trans (ih.2.2 x h1 z (by simp)) hzy
        · obtain rfl := List.mem_singleton.1 h1
          exact hzy
/-- Sorted, then of equal neighbours one: the dictionary. -/
theorem comp_sorted {l m : List V} (hp : m.Perm l) (hs : m.Pairwise le) : compV m = dictOf l := by
  have h1 := comp_pw_take m hs m.length (Nat.le_refl _)
  rw [List.take_length] at h1
  refine pw_unique h1 (dictOf_pw l) fun x => ?_
  rw [(compOf m).mem, mem_dictOf]
  exact hp.mem_iff
def sortV (l : List V) : List V := l.mergeSort fun x y => !less y x
theorem sortV_perm (l : List V) : (sortV l).Perm l := List.mergeSort_perm _ _
theorem sortV_le (l : List V) : (sortV l).Pairwise le := by
  have h := List.pairwise_mergeSort (le := fun x y => !less y x) (fun a b c h1 h2 => by
    simp only [Bool.not_eq_true'] at h1 h2 ⊢
    exact le_trans h1 h2) (fun a b => by
      cases h1 : less b a
      · rfl
      · cases h2 : less a b
        · rfl
        · have h3 := less_trans h1 h2
          rw [less_irrefl] at h3
          cases h3) l
  exact h.imp fun h => by
    unfold le
    simpa using h
theorem comp_sortV (l : List V) : compV (sortV l) = dictOf l := comp_sorted (sortV_perm l) (sortV_le l)

/-- The place of a value; -1 if it is not there. -/
def inDictFrom (v : V) : List V → Nat → Int
  | [], _ => -1
  | a :: r, i => if a = v then (i : Int) else inDictFrom v r (i + 1)
def inDict (d : List V) (v : V) : Int := inDictFrom v d 0
theorem inDictFrom_hit {v : V} : ∀ {d : List V} {k : Nat} (i : Nat), d[k]? = some v → (∀ j x, j < k → d[j]? = some x → x ≠ v) → inDictFrom v d i = ((i + k : Nat) : Int)
  | [], k, i, h, _ => by simp at h
  | a :: r, 0, i, h, _ => by
    have e : a = v := by simpa using h
    simp [inDictFrom, e]
  | a :: r, k + 1, i, h, hn => by
    have e : a ≠ v := hn 0 a (by omega) (by simp)
    rw [inDictFrom, if_neg e, inDictFrom_hit (k := k) (i + 1) (by simpa using h) fun j x hj hx => hn (j + 1) x (by omega) (by simpa using hx)]
    omega
theorem inDictFrom_miss {v : V} : ∀ {d : List V} (i : Nat), v ∉ d → inDictFrom v d i = -1
  | [], _, _ => rfl
  | a :: r, i, h => by
    rw [List.mem_cons, not_or] at h
    rw [inDictFrom, if_neg fun e => h.1 e.symm, inDictFrom_miss (i + 1) h.2]
theorem inDict_hit {d : List V} {v : V} {k : Nat} (h : d[k]? = some v) (hn : ∀ j x, j < k → d[j]? = some x → x ≠ v) : inDict d v = k := by rw [inDict, inDictFrom_hit 0 h hn, Nat.zero_add]
theorem inDict_miss {d : List V} {v : V} (h : v ∉ d) : inDict d v = -1 := inDictFrom_miss 0 h
theorem inDict_cases (d : List V) (v : V) : (v ∉ d ∧ inDict d v = -1) ∨ ∃ k : Nat, inDict d v = k ∧ d[k]? = some v := by
  by_cases h : v ∈ d
  · right
    have key : ∀ (d : List V) (i : Nat), v ∈ d → ∃ k : Nat, inDictFrom v d i = ((i + k : Nat) : Int) ∧ d[k]? = some v := by
      intro d
      induction d with
      | nil => intro i h; cases h
      | cons a r ih =>
        intro i h
        by_cases e : a = v
        · exact ⟨0, by simp [inDictFrom, e], by simp [e]⟩
        · have h' : v ∈ r := by
            rcases List.mem_cons.1 h with h | h
            · exact absurd h.symm e
            · exact h
          obtain ⟨k, h1, h2⟩ := ih (i + 1) h'
          exact ⟨k + 1, by rw [inDictFrom, if_neg e, h1]; omega, by simpa using h2⟩
    obtain ⟨k, h1, h2⟩ := key d 0 h
    exact ⟨k, by rw [inDict, h1, Nat.zero_add], h2⟩
  · exact .inl ⟨h, inDict_miss h⟩
def placesP (d : List V) (v : V) : Bool := decide (0 ≤ inDict d v)
def placesQ (d l : List V) : Option (List Int) := if l.all (placesP d) then some (l.map (inDict d)) else none
theorem placesQ_no {d l : List V} {i : Nat} {v : V} (h : l[i]? = some v) (hn : inDict d v < 0) : placesQ d l = none := by
  rw [placesQ, if_neg]
  intro h1
  rw [List.all_eq_true] at h1
  have := h1 v (mem_of_get h)
  simp only [placesP, decide_eq_true_eq] at this
  omega
theorem placesQ_yes {d l : List V} (h : l.all (placesP d) = true) : placesQ d l = some (l.map (inDict d)) := by rw [placesQ, if_pos h]
theorem placesP_mem {d : List V} {v : V} (h : v ∈ d) : placesP d v = true := by
  rcases inDict_cases d v with ⟨h1, -⟩ | ⟨k, h1, -⟩
  · exact absurd h h1
  · simp [placesP, h1]
theorem places_dict (l : List V) : placesQ (dictOf l) l = some (l.map (inDict (dictOf l))) := placesQ_yes (List.all_eq_true.2 fun _ hv => placesP_mem (mem_dictOf.2 hv))
def pickP (d : List V) (i : Int) : Bool := inR i 0 ((d.length : Int) - 1)
def pickV (d : List V) (i : Int) : V := d.getD i.toNat V.zero
def pickedQ (d : List V) (q : List Int) : Option (List V) := if q.all (pickP d) then some (q.map (pickV d)) else none
theorem pickedQ_no {d : List V} {q : List Int} {j : Nat} {i : Int} (h : q[j]? = some i) (hn : pickP d i = false) : pickedQ d q = none := by
  rw [pickedQ, if_neg]
  intro h1
  rw [List.all_eq_true] at h1
  rw [h1 i (mem_of_get h)] at hn
  cases hn
theorem pickedQ_yes {d : List V} {q : List Int} (h : q.all (pickP d) = true) : pickedQ d q = some (q.map (pickV d)) := by rw [pickedQ, if_pos h]
theorem pickedQ_some {d : List V} {q : List Int} {l : List V} (h : pickedQ d q = some l) : l = q.map (pickV d) ∧ q.all (pickP d) = true := by
  rw [pickedQ] at h
  split at h
  · injection h with h
    exact ⟨h.symm, ‹_›⟩
  · cases h
theorem pickV_get {d : List V} {k : Nat} {v : V} (h : d[k]? = some v) : pickV d (k : Int) = v := by
  rw [pickV, Int.toNat_natCast, List.getD_eq_getElem?_getD, h]
  rfl
theorem pickV_mem {d : List V} {i : Int} (h : pickP d i = true) : pickV d i ∈ d := by
  have := inR_yes h
  have hlt : i.toNat < d.length := by omega
  rw [pickV, getD_in hlt]
  exact List.getElem_mem hlt
theorem picked_places {d l : List V} (h : ∀ v ∈ l, v ∈ d) : pickedQ d (l.map (inDict d)) = some l := by
  have key : ∀ v ∈ l, pickP d (inDict d v) = true ∧ pickV d (inDict d v) = v := fun v hv => by
    rcases inDict_cases d v with ⟨h1, -⟩ | ⟨k, h1, h2⟩
    · exact absurd (h v hv) h1
    · have hk := (List.getElem?_eq_some_iff.1 h2).1
      rw [h1]
      exact ⟨inR_of (by omega) (by omega), pickV_get h2⟩
  rw [pickedQ_yes (by
    rw [List.all_eq_true]
    intro i hi
    obtain ⟨v, hv, rfl⟩ := List.mem_map.1 hi
    exact (key v hv).1), List.map_map]
  congr 1
  conv => rhs; rw [← List.map_id l]
  exact List.map_congr_left fun v hv => (key v hv).2
theorem widthOf_mono {n m : Int} (h0 : 0 ≤ n) (h : n ≤ m) (hm : m ≤ 2147483647) : widthOf n ≤ widthOf m := by
  rw [widthOf_iff (inR_of h0 (by omega))]
  have h1 := (widthOf_iff (n := m) (w := widthOf m) (inR_of (by omega) hm)).1 (Nat.le_refl _)
  omega
def dictW (n : Nat) : Nat := widthOf ((n : Int) - 1)
theorem dictW_le (n : Nat) : dictW n ≤ 31 := widthOf_le _
def dictPl (l : List V) : List Int := l.map (inDict (dictOf l))
theorem dictPl_in {l : List V} {i : Int} (h : i ∈ dictPl l) : 0 ≤ i ∧ i ≤ ((dictOf l).length : Int) - 1 := by
  obtain ⟨v, hv, rfl⟩ := List.mem_map.1 h
  rcases inDict_cases (dictOf l) v with ⟨h1, -⟩ | ⟨k, h1, h2⟩
  · exact absurd (mem_dictOf.2 hv) h1
  · have hk := (List.getElem?_eq_some_iff.1 h2).1
    omega
theorem dictPl_ok {l : List V} (hl : l.length ≤ 64) : packOk (dictPl l) (dictW (dictOf l).length) = true := by
  have hd := dictOf_len l
  have hw := dictW_le (dictOf l).length
  rw [packOk, inR_of (by omega) (by omega), Bool.true_and, List.all_eq_true]
  intro i hi
  have hr := dictPl_in hi
  have hm := widthOf_mono hr.1 hr.2 (by omega)
  rw [fitsW, inR_of (by omega) (by omega), decide_eq_true (by unfold dictW; omega)]
  rfl
def encDict (l : List V) : List UInt8 := if typeOf l = 0 then [] else numB (dictOf l).length ++ (dictOf l).flatMap valB ++ packB (dictPl l) (dictW (dictOf l).length)
theorem encDict_no {l : List V} (h : typeOf l = 0) : encDict l = [] := by rw [encDict, if_pos h]
theorem encDict_yes {l : List V} (h : typeOf l ≠ 0) : encDict l = numB (dictOf l).length ++ (dictOf l).flatMap valB ++ packB (dictPl l) (dictW (dictOf l).length) := by rw [encDict, if_neg h]
theorem packB_len_of {q : List Int} {v : Nat} (hv : v ≤ 31) (hl : q.length ≤ 64) : (packB q v).length ≤ 256 := by
  cases h : packOk q v
  · rw [packB_no h]; simp
  · rw [packB_len h, Int.toNat_natCast]
    have h1 := Nat.mul_le_mul hl hv
    omega
theorem encDict_len (l : List V) : (encDict l).length ≤ 800 := by
  by_cases h : typeOf l = 0
  · rw [encDict_no h]; simp
  · rw [encDict_yes h, List.length_append, List.length_append]
    have h64 := typeOf_len64 rfl h
    have := flatV_len (dictOf l)
    have := dictOf_len l
    have := numB_len (dictOf l).length
    have := packB_len_of (q := dictPl l) (dictW_le (dictOf l).length) (by rw [dictPl, List.length_map]; exact h64)
    omega
def decDict (b : List UInt8) (ty k : Int) : Option (List V) := match rdNum b with
  | none => none
  | some (n, p) => if inR n 1 64 then match rdL (rdVal ty) n.toNat (b.drop p) with
      | none => none
      | some (d, m) => match unpackB (b.drop (p + m)) (dictW n.toNat) k with
        | none => none
        | some q => match pickedQ d q with
          | none => none
          | some l => if inR k 1 64 && eqd b (encDict l) then some l else none
    else none
theorem decDict_1 {b : List UInt8} {ty k : Int} (h : rdNum b = none) : decDict b ty k = none := by simp only [decDict, h]
theorem decDict_2 {b : List UInt8} {ty k n : Int} {p : Nat} (h : rdNum b = some (n, p)) (h2 : inR n 1 64 = false) : decDict b ty k = none := by
  simp only [decDict, h]
  rw [if_neg (by simp [h2])]
theorem decDict_3 {b : List UInt8} {ty k : Int} {n p : Nat} (h : rdNum b = some ((n : Int), p)) (h3 : rdL (rdVal ty) n (b.drop p) = none) : decDict b ty k = none := by
  simp only [decDict, h, Int.toNat_natCast, h3]
  split <;> rfl
theorem decDict_4 {b : List UInt8} {ty k : Int} {n p m : Nat} {d : List V} (h : rdNum b = some ((n : Int), p)) (h3 : rdL (rdVal ty) n (b.drop p) = some (d, m)) (h4 : unpackB (b.drop (p + m)) (dictW n) k = none) : decDict b ty k = none := by
  simp only [decDict, h, Int.toNat_natCast, h3, h4]
  split <;> rfl
theorem decDict_5 {b : List UInt8} {ty k : Int} {n p m : Nat} {d : List V} {q : List Int} (h : rdNum b = some ((n : Int), p)) (h3 : rdL (rdVal ty) n (b.drop p) = some (d, m)) (h4 : unpackB (b.drop (p + m)) (dictW n) k = some q) (h5 : pickedQ d q = none) : decDict b ty k = none := by
  simp only [decDict, h, Int.toNat_natCast, h3, h4, h5]
  split <;> rfl
theorem decDict_6 {b : List UInt8} {ty k : Int} {n p m : Nat} {d l : List V} {q : List Int} (h : rdNum b = some ((n : Int), p)) (h2 : inR (n : Int) 1 64 = true) (h3 : rdL (rdVal ty) n (b.drop p) = some (d, m)) (h4 : unpackB (b.drop (p + m)) (dictW n) k = some q) (h5 : pickedQ d q = some l) :
    decDict b ty k = if inR k 1 64 && eqd b (encDict l) then some l else none := by
  simp only [decDict, h, Int.toNat_natCast, h3, h4, h5]
  rw [if_pos h2]
theorem unpackB_k {b : List UInt8} {v k : Int} {q : List Int} (h : unpackB b v k = some q) : (q.length : Int) = k ∧ q.length ≤ 64 := by
  obtain ⟨⟨-, h2, -⟩, rfl⟩ := unpackB_some h
  have hr := inR_yes h2
  simp only [numsAt, List.length_map, List.length_range]
  omega
theorem enc_decDict {b : List UInt8} {ty k : Int} {l : List V} (h : decDict b ty k = some l) : encDict l = b ∧ (l.length : Int) = k ∧ inR k 1 64 = true ∧ l.length ≤ 64 ∧ typeOf l = ty := by
  cases h1 : rdNum b with
  | none => rw [decDict_1 h1] at h; cases h
  | some np =>
    obtain ⟨n, p⟩ := np
    cases h2 : inR n 1 64
    · rw [decDict_2 h1 h2] at h; cases h
    · have hr := inR_yes h2
      obtain ⟨n, rfl⟩ := Int.eq_ofNat_of_zero_le (show 0 ≤ n by omega)
      cases h3 : rdL (rdVal ty) n (b.drop p) with
      | none => rw [decDict_3 h1 h3] at h; cases h
      | some dm =>
        obtain ⟨d, m⟩ := dm
        cases h4 : unpackB (b.drop (p + m)) (dictW n) k with
        | none => rw [decDict_4 h1 h3 h4] at h; cases h
        | some q =>
          cases h5 : pickedQ d q with
          | none => rw [decDict_5 h1 h3 h4 h5] at h; cases h
          | some l' =>
            rw [decDict_6 h1 h2 h3 h4 h5] at h
            split at h
            · rename_i hc
              simp only [Bool.and_eq_true, eqd, decide_eq_true_eq] at hc
              injection h with h
              subst h
              obtain ⟨hq1, hq2⟩ := unpackB_k h4
              obtain ⟨e1, e2⟩ := pickedQ_some h5
              have hlen : l'.length = q.length := by rw [e1, List.length_map]
              have hk := inR_yes hc.1
              obtain ⟨-, g2, -, -⟩ := rdL_wr (codec_val ty) h3
              refine ⟨hc.2.symm, by omega, hc.1, by omega, typeOf_all ?_ (by omega) (by omega)⟩
              rw [List.all_eq_true] at g2 e2 ⊢
              intro v hv
              rw [e1] at hv
              obtain ⟨i, hi, rfl⟩ := List.mem_map.1 hv
              exact g2 _ (pickV_mem (e2 i hi))
            · cases h
/-- More entries than values: nothing is read. -/
theorem decDict_more {b : List UInt8} {ty k : Int} {n p : Nat} (h : rdNum b = some ((n : Int), p)) (hn : k < (n : Int)) : decDict b ty k = none := by
  cases hd : decDict b ty k with
  | none => rfl
  | some l =>
    exfalso
    obtain ⟨g1, g2, g3, g4, -⟩ := enc_decDict hd
    have hk := inR_yes g3
    have ht : typeOf l ≠ 0 := fun e => by
      rw [encDict_no e] at g1
      subst g1
      cases h
    have hl := dictOf_len l
    rw [← g1, encDict_yes ht, List.append_assoc, rdNum_num (isNum_of (by omega))] at h
    simp only [Option.some.injEq, Prod.mk.injEq] at h
    omega
theorem dict_ok {l : List V} (h : typeOf l ≠ 0) : (dictOf l).all (valOkT (typeOf l)) = true := by
  have ha := all_typeOf (l := l) rfl h
  rw [List.all_eq_true] at ha ⊢
  exact fun v hv => ha v (mem_dictOf.1 hv)
theorem dec_encDict {l : List V} (h : typeOf l ≠ 0) : decDict (encDict l) (typeOf l) l.length = some l := by
  have hl := typeOf_len64 rfl h
  have hp := typeOf_pos h
  have hd := dictOf_len l
  have hd1 : 1 ≤ (dictOf l).length := by
    cases l with
    | nil => simp at hp
    | cons a r =>
      have : a ∈ dictOf (a :: r) := mem_dictOf.2 (by simp)
      exact List.length_pos_of_mem this
  have hpl : (dictPl l).length = l.length := by rw [dictPl, List.length_map]
  have h1 : rdNum (encDict l) = some (((dictOf l).length : Int), (numB (dictOf l).length).length) := by
    rw [encDict_yes h, List.append_assoc]
    exact rdNum_num (isNum_of (by omega)) _
  have h2 := rdL_rd (codec_val (typeOf l)) (dictOf l) (packB (dictPl l) (dictW (dictOf l).length)) (dict_ok h)
  have hok := dictPl_ok hl
  have h3 : unpackB (packB (dictPl l) (dictW (dictOf l).length)) (dictW (dictOf l).length) (l.length : Int) = some (dictPl l) := by
    have hu := unpackOk_pack hok (by omega)
    rw [hpl] at hu
    have hn := numsAt_pack hok
    rw [hpl] at hn
    rw [unpackB_of hu]
    exact congrArg some hn
  rw [decDict_6 h1 (inR_of (by omega) (by omega)) (by rw [encDict_yes h, List.append_assoc, List.drop_left]; exact h2)
    (by rw [encDict_yes h, ← List.drop_drop, List.append_assoc, List.drop_left, List.drop_left]; exact h3) (picked_places fun v hv => mem_dictOf.2 hv), inR_of (by omega) (by omega), eqd_self]
  rfl
end Go.Lb
