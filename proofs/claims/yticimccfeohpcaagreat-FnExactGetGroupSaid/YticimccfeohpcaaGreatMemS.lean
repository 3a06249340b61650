/- Rows of values that are sorted, cut, cleared. No conditions; nothing here speaks of the program. -/
import Derived.Test.YticimccfeohpcaaGreatMemU
import Derived.Test.YticimccfeohpcaaGreatCD
import Derived.Shelf.SlSortCmp.NoneTotal
import Derived.Lib.SliceRun
namespace Go.Lb
open Go.RowKit Go.Shelf Go.Proofs Go.Sort
instance : Inhabited V := ⟨V.zero⟩
theorem flatK_list (d : List V) : (flatK V.cells 3 d.toArray).toList = d.flatMap V.cells := by
  have hl := flat_len V.cells 3 V.cells_len d
  apply List.ext_getElem?
  intro t
  by_cases ht : t < d.length * 3
  · have hk : t / 3 < d.length := by omega
    have hg := flat_get V.cells 3 V.cells_len d (t / 3) (t % 3) d[t / 3] (List.getElem?_eq_getElem hk) (Nat.mod_lt _ (by decide))
    rw [Nat.div_add_mod'] at hg
    rw [hg, Array.getElem?_toList, Array.getElem?_eq_getElem (by simpa using ht)]
    have h1 := get_flatK V.cells 3 d.toArray t (by simpa using ht)
    rw [getElem!_pos _ t (by simpa using ht)] at h1
    rw [h1]
    have h2 : d.toArray[t / 3]! = d[t / 3] := by rw [getElem!_pos _ _ (by simpa using hk)]; simp
    rw [h2]
    have h3 : t % 3 < (V.cells d[t / 3]).length := by rw [V.cells_len]; omega
    rw [getElem!_pos (V.cells d[t / 3]) (t % 3) h3, List.getElem?_eq_getElem h3]
  · rw [List.getElem?_eq_none (by rw [Array.length_toList, size_flatK]; simp; omega), List.getElem?_eq_none (by rw [hl]; omega)]
section
variable {w w' : World} {base e N c g m : Nat} {l d : List V}
theorem holdsK_own (h : w.ownsRow base e 3 (.slice (some ⟨g, 0, none⟩) N c) N (l.flatMap V.cells)) : HoldsK V.cells 3 w g 0 l.toArray := by
  intro j hj
  rw [Nat.zero_add]
  have hN : 0 < N := by
    rcases Nat.eq_zero_or_pos N with h0 | h0
    · have h1 := h.1
      rw [flat_len V.cells 3 V.cells_len] at h1
      simp at hj
      omega
    · exact h0
  obtain ⟨g', cap, e1, -, -, -, -, hc, hf⟩ := owns_formS h hN
  injection e1 with e1 e2 e3
  injection e1 with e1
  injection e1 with e1
  subst e1
  refine ⟨hc j _ ?_, hf j⟩
  rw [← flatK_list, Array.getElem?_toList, Array.getElem?_eq_getElem hj, getElem!_pos _ j hj]
  rfl
theorem owns_sorted (h : w.ownsRow base e 3 (.slice (some ⟨g, 0, none⟩) N c) N (l.flatMap V.cells)) (hd : d.length = N) (n : Nat) (os : Array Obj) :
    (sortWorldK V.cells 3 w g 0 n d.toArray os).ownsRow base e 3 (.slice (some ⟨g, 0, none⟩) N c) N (d.flatMap V.cells) := by
  rcases h.2 with ⟨e0, _⟩ | ⟨g', cap', cur, e0, hb, hg, hn, hm, hs, ht⟩
  · cases e0
  · injection e0 with e1 _ e3
    injection e1 with e1
    injection e1 with e1
    subst e1; subst e3
    have hlt := (Array.getElem?_eq_some_iff.1 hg).1
    have hfs : (flatK V.cells 3 d.toArray).size = N * 3 := by simp [hd]
    refine ⟨by rw [flat_len V.cells 3 V.cells_len, hd], .inr ⟨g, c, putCells id 0 (flatK V.cells 3 d.toArray) cur, rfl, hb, ?_, hn, hm, by simpa [putCells] using hs, ?_⟩⟩
    · have h1 : (putRowK V.cells 3 (Sort.ahead w n) g 0 d.toArray).heap[g]? = some (.cells (putCells id 0 (flatK V.cells 3 d.toArray) cur) e (0, 0)) := by
        simp [putRowK, putRow, mapBlock, Sort.ahead, Array.getElem?_modify, hg, onCells]
      have h2 := (Array.getElem?_eq_some_iff.1 h1).1
      unfold sortWorldK grow
      rw [Array.getElem?_append_left h2]
      exact h1
    · rw [← flatK_list]
      apply List.ext_getElem?
      intro j
      rw [List.getElem?_take, Array.getElem?_toList, Array.getElem?_toList]
      by_cases hj : j < N * 3
      · have hjc : j < cur.size := by omega
        simp only [if_pos hj, putCells, Array.getElem?_mapIdx, Array.getElem?_eq_getElem hjc, Option.map_some]
        rw [if_pos (by omega), Array.getElem?_eq_getElem (by omega), Nat.sub_zero, getElem!_pos _ j (by omega)]
        rfl
      · rw [if_neg hj, Array.getElem?_eq_none (by omega)]
theorem below_sorted {B : Nat} {w0 : World} (h : Below B w0 w) (hg : B ≤ g) (hB : B ≤ w.heap.size) (n : Nat) (os : Array Obj) (dk : Array V) : Below B w0 (sortWorldK V.cells 3 w g 0 n dk os) := by
  have h1 : Below B w0 (putRowK V.cells 3 (Sort.ahead w n) g 0 dk) :=
    ⟨h.os, h.tape, h.output, by simpa [putRowK, putRow, mapBlock, Sort.ahead] using h.size, fun k hk => by
      rw [← h.block k hk]
      simp [putRowK, putRow, mapBlock, Sort.ahead, Array.getElem?_modify, show g ≠ k by omega]⟩
  refine ⟨h1.os, h1.tape, h1.output, Nat.le_trans h1.size (by simp [sortWorldK, grow]), fun k hk => ?_⟩
  have h2 := h1.block k hk
  unfold sortWorldK grow
  show ((putRowK V.cells 3 (Sort.ahead w n) g 0 dk).heap ++ os)[k]? = _
  rcases Nat.lt_or_ge k (putRowK V.cells 3 (Sort.ahead w n) g 0 dk).heap.size with h3 | h3
  · rw [Array.getElem?_append_left h3]; exact h2
  · have : (putRowK V.cells 3 (Sort.ahead w n) g 0 dk).heap.size = w.heap.size := by simp [putRowK, putRow, mapBlock, Sort.ahead]
    omega
theorem owns_cutS {s : Nat} {xs : List Value} (h : w.ownsRow base e s (.slice (some ⟨g, 0, none⟩) N c) N xs) (hm : m ≤ N) : w.ownsRow base e s (.slice (some ⟨g, 0, none⟩) m c) m (xs.take (m * s)) := by
  have hl := h.1
  have hms := Nat.mul_le_mul_right s hm
  refine ⟨by rw [List.length_take]; omega, ?_⟩
  rcases h.2 with ⟨e1, -⟩ | ⟨g', cap, cur, e1, hb, hg, hnc, hcm, hsz, htk⟩
  · cases e1
  · injection e1 with e1 e2 e3
    injection e1 with e1
    injection e1 with e1
    subst e1 e3
    refine .inr ⟨g, c, cur, rfl, hb, hg, by omega, hcm, hsz, ?_⟩
    rw [← htk, List.take_take, Nat.min_eq_left hms]
theorem flatC_take (l : List V) (m : Nat) : (l.flatMap V.cells).take (m * 3) = (l.take m).flatMap V.cells := by
  by_cases hm : m ≤ l.length
  · have h1 := List.take_append_drop m l
    have h2 : l.flatMap V.cells = (l.take m).flatMap V.cells ++ (l.drop m).flatMap V.cells := by rw [← List.flatMap_append, h1]
    have h3 := flat_len V.cells 3 V.cells_len (l.take m)
    rw [List.length_take, Nat.min_eq_left hm] at h3
    rw [h2, ← h3]
    exact List.take_left
  · have h3 := flat_len V.cells 3 V.cells_len l
    rw [List.take_of_length_le (by omega), List.take_of_length_le (by omega)]
/-- 'clear' behind the first m elements of a row of the call's own. -/
theorem clear_own {P : Program} {t : TypeId} {z : Value} (ht : P.underlying t = some (.slice e)) (hzv : ∀ w, (zeroValue e).run P w = .ok z w) (hz : z.cells = #[.int .i64 0, .int .i64 0, .string ⟨#[]⟩])
    (h : w.ownsRow base e 3 (.slice (some ⟨g, 0, none⟩) N c) N (l.flatMap V.cells)) (hm : m < N) (k : Nat) :
    ∃ w', (∀ ty, (Builtin.clear_ #[t] ty #[.slice (some ⟨g, m * 3, none⟩) (N - m) k]).run P w = .ok (.tuple #[]) w') ∧ w'.ownsRow base e 3 (.slice (some ⟨g, 0, none⟩) m c) m ((l.take m).flatMap V.cells) ∧ w.grownBy w' (some g) := by
  rcases h.2 with ⟨e1, -⟩ | ⟨g', cap, cur, e1, hb, hg, hnc, hcm, hsz, htk⟩
  · cases e1
  · injection e1 with e1 e2 e3
    injection e1 with e1
    injection e1 with e1
    subst e1 e3
    have hzs : (Builtin.zeroCells z.cells (N - m)).size = (N - m) * 3 := by rw [hz]; simp [Builtin.zeroCells]
    have hz1 : ∀ v ∈ (Builtin.zeroCells z.cells (N - m)).toList, v.oneCell' = true := fun v hv => by
      rw [hz] at hv
      simp only [Builtin.zeroCells, Array.toList_map, List.mem_map] at hv
      obtain ⟨i, -, rfl⟩ := hv
      have : i % 3 < 3 := Nat.mod_lt _ (by decide)
      show (#[Value.int .i64 0, .int .i64 0, .string ⟨#[]⟩][i % 3]!).oneCell' = true
      rcases (by omega : i % 3 = 0 ∨ i % 3 = 1 ∨ i % 3 = 2) with h0 | h0 | h0 <;> rw [h0] <;> rfl
    have hfit : m * 3 + 0 + (Builtin.zeroCells z.cells (N - m)).toList.length ≤ cur.size := by
      rw [Array.length_toList, hzs]
      have := Nat.mul_le_mul_right 3 hnc
      omega
    have hst := run_storeCells_at P g (m * 3) e (Builtin.zeroCells z.cells (N - m)).toList 0 cur w hg hfit hz1
    refine ⟨w.setRow g (cur.toList.take (m * 3 + 0) ++ (Builtin.zeroCells z.cells (N - m)).toList ++ cur.toList.drop (m * 3 + 0 + (Builtin.zeroCells z.cells (N - m)).toList.length)).toArray, fun ty => ?_, ⟨by rw [flat_len V.cells 3 V.cells_len, List.length_take]; have h1 := h.1; rw [flat_len V.cells 3 V.cells_len] at h1; omega, .inr ⟨g, c, _, rfl, hb, setRow_heap w g cur _ e _ hg, by omega, hcm, ?_, ?_⟩⟩, ⟨rfl, rfl, rfl, by simp, fun k _ hk => setRow_other w g k _ (fun e => hk (by simp [e]))⟩⟩
    · obtain ⟨n', hn'⟩ : ∃ n', N - m = n' + 1 := ⟨N - m - 1, by omega⟩
      rw [hn'] at hst ⊢
      simp [Builtin.clear_, run_underlying ht, hzv, hst]
    · simp only [List.size_toArray, List.length_append, List.length_take, List.length_drop, Array.length_toList, Nat.add_zero] at hfit ⊢
      omega
    · rw [← flatC_take, ← htk, List.take_take, Nat.min_eq_left (Nat.mul_le_mul_right 3 (Nat.le_of_lt hm))]
      rw [Nat.add_zero, List.append_assoc, List.take_append_of_le_length (by rw [List.length_take, Array.length_toList]; rw [Array.length_toList] at hfit; omega), List.take_take, Nat.min_self]
theorem flat_set (l : List V) (m : Nat) (v : V) (hm : m < l.length) : (((l.flatMap V.cells).set (m * 3) (.int .i64 v.ty)).set (m * 3 + 1) (.int .i64 v.n)).set (m * 3 + 2) (.string v.s) = (l.set m v).flatMap V.cells := by
  have h1 : l = l.take m ++ l[m] :: l.drop (m + 1) := by
    rw [← drop_of_get (List.getElem?_eq_getElem hm), List.take_append_drop]
  have h2 : l.set m v = l.take m ++ v :: l.drop (m + 1) := by
    rw [List.set_eq_take_append_cons_drop, if_pos hm]
  have h3 := flat_len V.cells 3 V.cells_len (l.take m)
  rw [List.length_take, Nat.min_eq_left (Nat.le_of_lt hm)] at h3
  have h4 : l.flatMap V.cells = (l.take m).flatMap V.cells ++ (V.cells l[m] ++ (l.drop (m + 1)).flatMap V.cells) := by
    conv => lhs; rw [h1]
    rw [List.flatMap_append, List.flatMap_cons]
  rw [h2, h4, List.flatMap_append, List.flatMap_cons]
  generalize (l.take m).flatMap V.cells = a at h3 ⊢
  generalize (l.drop (m + 1)).flatMap V.cells = b
  rw [List.set_append_right _ _ (by omega), List.set_append_right _ _ (by omega), List.set_append_right _ _ (by omega), h3, show m * 3 - m * 3 = 0 by omega, show m * 3 + 1 - m * 3 = 1 by omega, show m * 3 + 2 - m * 3 = 2 by omega]
  rfl
end
/-- Of equal neighbours one, in place: j + 1 have been seen, the first m hold what is kept. -/
structure CInv (l cur : List V) (j m : Nat) : Prop where
  len : cur.length = l.length
  mj : m ≤ j
  jn : j + 1 ≤ l.length
  tk : cur.take m = compV (l.take (j + 1))
  dr : ∀ i, j ≤ i → cur[i]? = l[i]?
theorem comp_last (l : List V) : (compV l).getLast? = l.getLast? := (compOf l).last
theorem comp_next {l : List V} {j : Nat} {a b : V} (ha : l[j]? = some a) (hb : l[j + 1]? = some b) : compV (l.take (j + 2)) = if a = b then compV (l.take (j + 1)) else compV (l.take (j + 1)) ++ [b] := by
  rw [comp_step hb]
  unfold compStep
  rw [comp_last, take_of_get ha]
  simp
theorem CInv.start {l : List V} {k : Nat} {a : V} (h : compV (l.take (k + 1)) = l.take (k + 1)) (ha : l[k]? = some a) (hb : l[k + 1]? = some a) : CInv l l (k + 1) (k + 1) := by
  have hl := (List.getElem?_eq_some_iff.1 hb).1
  exact ⟨rfl, Nat.le_refl _, by omega, by rw [comp_next ha hb, if_pos rfl, h], fun _ _ => rfl⟩
theorem CInv.same {l cur : List V} {j m : Nat} {a : V} (h : CInv l cur j m) (ha : l[j]? = some a) (hb : l[j + 1]? = some a) : CInv l cur (j + 1) m := by
  have hl := (List.getElem?_eq_some_iff.1 hb).1
  exact ⟨h.len, by have := h.mj; omega, by omega, by rw [comp_next ha hb, if_pos rfl]; exact h.tk, fun i hi => h.dr i (by omega)⟩
theorem CInv.diff {l cur : List V} {j m : Nat} {a b : V} (h : CInv l cur j m) (ha : l[j]? = some a) (hb : l[j + 1]? = some b) (hne : a ≠ b) : CInv l (cur.set m b) (j + 1) (m + 1) := by
  have hl := (List.getElem?_eq_some_iff.1 hb).1
  have hmj := h.mj
  have hlen := h.len
  refine ⟨by rw [List.length_set]; exact hlen, by omega, by omega, ?_, fun i hi => ?_⟩
  · rw [comp_next ha hb, if_neg hne, ← h.tk, take_of_get (show (cur.set m b)[m]? = some b from List.getElem?_set_self (by omega))]
    congr 1
    rw [List.take_set_of_le (Nat.le_refl _)]
  · rw [List.getElem?_set_ne (by omega)]
    exact h.dr i (by omega)
theorem comp_fresh {l : List V} {k : Nat} {a b : V} (h : compV (l.take (k + 1)) = l.take (k + 1)) (ha : l[k]? = some a) (hb : l[k + 1]? = some b) (hne : a ≠ b) : compV (l.take (k + 2)) = l.take (k + 2) := by
  rw [comp_next ha hb, if_neg hne, h, take_of_get hb]
theorem comp_one (l : List V) (h : l.length < 2) : compV l = l := by
  match l, h with
  | [], _ => rfl
  | [a], _ => rfl
theorem comp_first {l : List V} (h : 2 ≤ l.length) : compV (l.take 1) = l.take 1 := comp_one _ (by rw [List.length_take]; omega)
end Go.Lb
