/- Valid chunks: contracts. -/
import Derived.Test.YtgjjkodlmhmjgaaS23
namespace Go.Proofs.Ytgjjkodlmhmjgaa
open Go.Sort Go.ChangeShapes Go.WideShapes Go.ChangeAt Go.RowKit Go.Lb

def slotAt (cols : List Int) (next : Int) (k : Nat) (s : R) : Bool := decide (-1 ≤ s.id) && (if s.id = 0 then decide (s.l.length = 0) else decide ((k : Int) < next) && fitsCols cols s.l)
def slotNo (cols : List Int) (c : C) (k : Nat) : Bool := match c.l[k]? with | some s => slotAt cols c.next k s | none => true
def chunkOk (cols : List Int) (c : C) : Bool := (List.range c.l.length).all (slotNo cols c) && (inR (c.l.length : Int) 1 4 && inR c.next 0 (c.l.length : Int))
theorem slotNo_of {cols : List Int} {c : C} {k : Nat} {y : R} (h : c.l[k]? = some y) : slotNo cols c k = slotAt cols c.next k y := by simp [slotNo, h]
theorem chunk_no {cols : List Int} {c : C} {k : Nat} {y : R} (h : c.l[k]? = some y) (h1 : slotAt cols c.next k y = false) : chunkOk cols c = false := by
  have hk : k < c.l.length := (List.getElem?_eq_some_iff.1 h).1
  have h2 : (List.range c.l.length).all (slotNo cols c) = false := by
    rw [List.all_eq_false]
    exact ⟨k, by simpa using hk, by rw [slotNo_of h, h1]; simp⟩
  simp [chunkOk, h2]
theorem chunk_step {cols : List Int} {c : C} {k : Nat} {y : R} (h : c.l[k]? = some y) (h1 : slotAt cols c.next k y = true) (ha : (List.range k).all (slotNo cols c) = true) : (List.range (k + 1)).all (slotNo cols c) = true := by
  rw [List.range_succ, List.all_append, ha]
  simp [slotNo_of h, h1]
theorem chunk_end {cols : List Int} {c : C} (h : (List.range c.l.length).all (slotNo cols c) = true) : chunkOk cols c = (inR (c.l.length : Int) 1 4 && inR c.next 0 (c.l.length : Int)) := by simp [chunkOk, h]
theorem chunk_len {cols : List Int} {c : C} (h : inR (c.l.length : Int) 1 4 = false ∨ inR c.next 0 (c.l.length : Int) = false) : chunkOk cols c = false := by
  unfold chunkOk
  rcases h with h | h <;> rw [h] <;> simp

theorem q_spec_CellOk (n : Int) (w : World) : Calls Try.prog 94 #[.int .i64 n] w fun e w' => e = .returned (.bool (decide (-1 ≤ n))) ∧ w = w' := by
  go_enter Try.func94, Try.ntmps94
  go_wp2
  go_ret
  exact ⟨rfl, rfl⟩
theorem q_impl_CellOk (n : Int) (w : World) : Calls Try.prog 97 #[.int .i64 n] w fun e w' => e = .returned (.bool (decide (-1 ≤ n))) ∧ w = w' := by
  go_enter Try.func97, Try.ntmps97
  go_wp2
  go_ret
  exact ⟨rfl, rfl⟩
set_option maxRecDepth 20000 in
set_option maxHeartbeats 4000000 in
theorem spec_ChunkOk (cols : List Int) (cv : Value) (c : C) (sv : Value) (w : World) {l1 h1 lo hi : Nat} (hc : RdI w l1 h1 cv cols) (hh1 : h1 ≤ w.heap.size) (hx : RdR w lo hi sv c.l) (hhi : hi ≤ w.heap.size) (hs : RsOk c.l) :
    Calls Try.prog 33 #[cv, .agg #[.int .i64 c.next, sv]] w fun e w' => e = .returned (.bool (chunkOk cols c)) ∧ Below w.heap.size w w' := by
  obtain ⟨A, ca, rfl, hl, hl2⟩ := hx.form
  have Hs := Lib.hid hs
  clear hs
  have hb0 := Lib.hid (up_a1 w (.cells #[.int .i64 c.next, .slice A c.l.length ca] 60))
  go_enter Try.func33, Try.ntmps33
  go_wp2_with fail
  go_loopw [5] (fun i wr => ∃ k : Nat, i = .int .i64 k ∧ k ≤ c.l.length ∧ (List.range k).all (slotNo cols c) = true ∧ wr.heap[w.heap.size]? = some (.cells #[.int .i64 c.next, .slice A c.l.length ca] 60) ∧ Below w.heap.size w wr) (fun i _ => c.l.length - (intOf i).toNat)
  case atStart => exact ⟨0, rfl, by omega, by simp, heap_alloc_new w _, hb0.out⟩
  case round =>
    obtain ⟨k, rfl, hk, hall, hcb, hb⟩ := hrel
    have Hall := Lib.hid hall
    have hg : w.heap.size < wr.heap.size := (Array.getElem?_eq_some_iff.1 hcb).1
    have d0 := cell_of_row wr _ 0 _ _ _ hcb
    have d1 := cell_of_row wr _ 1 _ _ _ hcb
    have Hcb := Lib.hid hcb
    clear hall hcb
    by_cases hkl : k < c.l.length
    · obtain ⟨b, off, y, sv', rfl, -, hbl, hyk, e0, e1, hr⟩ := (hx.below hb hhi).at hkl
      obtain ⟨As, cs, rfl, -, -⟩ := hr.form
      have up := up_a1 wr (.cells #[.int .i64 y.id, .slice As y.l.length cs] 128)
      have hbs := hb.size
      have HN := Lib.hid (fun h => chunk_no (cols := cols) hyk h)
      have HY := Lib.hid (fun h => chunk_step (cols := cols) hyk h Hall.out)
      have hF := Lib.hid (spec_FitsCols cols cv y.l (.slice As y.l.length cs) (wr.alloc (.cells #[.int .i64 y.id, .slice As y.l.length cs] 128)) ((hc.below hb hh1).below up (by omega)) (by simp only [World.size_alloc]; omega) (hr.below up (by omega)) (by simp only [World.size_alloc]; omega) (Hs.out y (mem_of_get hyk)))
      clear hyk hr up
      by_cases hm : -1 ≤ y.id
      · have hdm : decide (-1 ≤ y.id) = true := decide_eq_true hm
        by_cases h0 : y.id = 0
        · have hd0 : (y.id == 0) = true := by simp [h0]
          have hd1 : (y.id != 0) = false := by simp [h0]
          by_cases hy0 : y.l.length = 0
          · have hzi : ¬ ((0 : Int) < (y.l.length : Int)) := by omega
            have hzn : ¬ (0 < y.l.length) := by omega
            have Ht := Lib.hid (HY.out (by simp [slotAt, h0, hy0]))
            clear hF h0 hm hy0
            go_wp2_with fail
            refine (q_spec_CellOk _ _).mono ?_
            rintro e w1 ⟨rfl, rfl⟩
            rw [hdm]
            go_wp2_with fail
            go_roundw
            case rel => exact ⟨k + 1, by go_num, by omega, Ht.out, ((up_a1 wr _).block _ hg).trans Hcb.out, hb.trans ((up_a1 wr _).mono hb.size)⟩
            case measure => simp [intOf]; omega
          · have hzi : (0 : Int) < (y.l.length : Int) := by omega
            have hzn : 0 < y.l.length := by omega
            have H := Lib.hid (HN.out (by simp [slotAt, h0]; intro h; exact hy0 (by simp [h])))
            clear hF h0 hm hy0
            go_wp2_with fail
            refine (q_spec_CellOk _ _).mono ?_
            rintro e w1 ⟨rfl, rfl⟩
            rw [hdm]
            go_wp2_with fail
            go_ret
            exact ⟨ret_bool H.out.symm, hb.trans ((up_a1 wr _).mono hb.size)⟩
        · have hd0 : (y.id == 0) = false := by simp [h0]
          have hd1 : (y.id != 0) = true := by simp [h0]
          by_cases hn : (k : Int) < c.next
          · have hdn : decide (c.next ≤ (k : Int)) = false := decide_eq_false (by omega)
            cases hf : fitsCols cols y.l
            · have H := Lib.hid (HN.out (by simp [slotAt, h0, hf]))
              rw [hf] at hF
              clear h0 hm
              go_wp2_with fail
              refine (q_spec_CellOk _ _).mono ?_
              rintro e w1 ⟨rfl, rfl⟩
              rw [hdm]
              go_wp2_with fail
              refine hF.out.mono ?_
              rintro e w1 ⟨rfl, hb1⟩
              go_wp2_with fail
              go_ret
              exact ⟨ret_bool H.out.symm, hb.trans ((below_a1 hb1).mono hb.size)⟩
            · have Ht := Lib.hid (HY.out (by simp [slotAt, h0, hf, hm, hn]))
              rw [hf] at hF
              clear h0 hm
              go_wp2_with fail
              refine (q_spec_CellOk _ _).mono ?_
              rintro e w1 ⟨rfl, rfl⟩
              rw [hdm]
              go_wp2_with fail
              refine hF.out.mono ?_
              rintro e w1 ⟨rfl, hb1⟩
              go_wp2_with fail
              go_roundw
              case rel => exact ⟨k + 1, by go_num, by omega, Ht.out, ((below_a1 hb1).block _ hg).trans Hcb.out, hb.trans ((below_a1 hb1).mono hb.size)⟩
              case measure => simp [intOf]; omega
          · have hdn : decide (c.next ≤ (k : Int)) = true := decide_eq_true (by omega)
            have H := Lib.hid (HN.out (by simp [slotAt, h0, hn]))
            clear hF h0 hm
            go_wp2_with fail
            refine (q_spec_CellOk _ _).mono ?_
            rintro e w1 ⟨rfl, rfl⟩
            rw [hdm]
            go_wp2_with fail
            go_ret
            exact ⟨ret_bool H.out.symm, hb.trans ((up_a1 wr _).mono hb.size)⟩
      · have hdm : decide (-1 ≤ y.id) = false := decide_eq_false hm
        have H := Lib.hid (HN.out (by simp [slotAt, hm]))
        clear hF hm
        go_wp2_with fail
        refine (q_spec_CellOk _ _).mono ?_
        rintro e w1 ⟨rfl, rfl⟩
        rw [hdm]
        go_wp2_with fail
        go_ret
        exact ⟨ret_bool H.out.symm, hb.trans ((up_a1 wr _).mono hb.size)⟩
    · have H := Lib.hid (chunk_end (cols := cols) (c := c) (by have h := Hall.out; rwa [show k = c.l.length by omega] at h))
      go_wp2_with fail
      refine (q_spec_l1In _ _ _ _).mono ?_
      rintro e w1 ⟨rfl, rfl⟩
      cases hI : inR (c.l.length : Int) 1 4
      · rw [hI] at H
        go_wp2_with fail
        go_ret
        exact ⟨ret_bool (by rw [H.out]; rfl), hb⟩
      · rw [hI] at H
        go_wp2_with fail
        refine (q_spec_l1In _ _ _ _).mono ?_
        rintro e w1 ⟨rfl, rfl⟩
        go_wp2_with fail
        go_ret
        exact ⟨ret_bool (by rw [H.out]; rfl), hb⟩
set_option maxRecDepth 20000 in
set_option maxHeartbeats 4000000 in
theorem impl_ChunkOk (cols : List Int) (cv : Value) (c : C) (sv : Value) (w : World) {l1 h1 lo hi : Nat} (hc : RdI w l1 h1 cv cols) (hh1 : h1 ≤ w.heap.size) (hx : RdR w lo hi sv c.l) (hhi : hi ≤ w.heap.size) (hs : RsOk c.l) :
    Calls Try.prog 35 #[cv, .agg #[.int .i64 c.next, sv]] w fun e w' => e = .returned (.bool (chunkOk cols c)) ∧ Below w.heap.size w w' := by
  obtain ⟨A, ca, rfl, hl, hl2⟩ := hx.form
  have Hs := Lib.hid hs
  clear hs
  have hb0 := Lib.hid (up_a1 w (.cells #[.int .i64 c.next, .slice A c.l.length ca] 60))
  cases hI : inR (c.l.length : Int) 1 4
  · have H := Lib.hid (chunk_len (cols := cols) (c := c) (.inl hI))
    go_enter Try.func35, Try.ntmps35
    go_wp2_with fail
    refine (q_impl_within _ _ _ _).mono ?_
    rintro e w1 ⟨rfl, rfl⟩
    rw [hI]
    go_wp2_with fail
    go_ret
    exact ⟨ret_bool H.out.symm, hb0.out⟩
  cases hJ : inR c.next 0 (c.l.length : Int)
  · have H := Lib.hid (chunk_len (cols := cols) (c := c) (.inr hJ))
    go_enter Try.func35, Try.ntmps35
    go_wp2_with fail
    refine (q_impl_within _ _ _ _).mono ?_
    rintro e w1 ⟨rfl, rfl⟩
    rw [hI]
    go_wp2_with fail
    refine (q_impl_within _ _ _ _).mono ?_
    rintro e w1 ⟨rfl, rfl⟩
    rw [hJ]
    go_wp2_with fail
    go_ret
    exact ⟨ret_bool H.out.symm, hb0.out⟩
  have HE := Lib.hid (fun h => (chunk_end (cols := cols) (c := c) h).trans (show _ = true by rw [hI, hJ]; rfl))
  go_enter Try.func35, Try.ntmps35
  go_wp2_with fail
  refine (q_impl_within _ _ _ _).mono ?_
  rintro e w1 ⟨rfl, rfl⟩
  rw [hI]
  go_wp2_with fail
  refine (q_impl_within _ _ _ _).mono ?_
  rintro e w1 ⟨rfl, rfl⟩
  rw [hJ]
  clear hI hJ
  go_wp2_with fail
  go_loopw [24] (fun i wr => ∃ k : Nat, i = .int .i64 k ∧ k ≤ c.l.length ∧ (List.range k).all (slotNo cols c) = true ∧ wr.heap[w.heap.size]? = some (.cells #[.int .i64 c.next, .slice A c.l.length ca] 60) ∧ Below w.heap.size w wr) (fun i _ => c.l.length - (intOf i).toNat)
  case atStart => exact ⟨0, rfl, by omega, by simp, heap_alloc_new w _, hb0.out⟩
  case round =>
    obtain ⟨k, rfl, hk, hall, hcb, hb⟩ := hrel
    have Hall := Lib.hid hall
    have hg : w.heap.size < wr.heap.size := (Array.getElem?_eq_some_iff.1 hcb).1
    have d0 := cell_of_row wr _ 0 _ _ _ hcb
    have Hcb := Lib.hid hcb
    clear hall hcb
    by_cases hkl : k < c.l.length
    · obtain ⟨b, off, y, sv', rfl, -, hbl, hyk, e0, e1, hr⟩ := (hx.below hb hhi).at hkl
      obtain ⟨As, cs, rfl, -, -⟩ := hr.form
      have up := up_a1 wr (.cells #[.int .i64 y.id, .slice As y.l.length cs] 128)
      have hbs := hb.size
      have HN := Lib.hid (fun h => chunk_no (cols := cols) hyk h)
      have HY := Lib.hid (fun h => chunk_step (cols := cols) hyk h Hall.out)
      have hF := Lib.hid (impl_FitsCols cols cv y.l (.slice As y.l.length cs) (wr.alloc (.cells #[.int .i64 y.id, .slice As y.l.length cs] 128)) ((hc.below hb hh1).below up (by omega)) (by simp only [World.size_alloc]; omega) (hr.below up (by omega)) (by simp only [World.size_alloc]; omega) (Hs.out y (mem_of_get hyk)))
      clear hyk hr up
      by_cases hm : -1 ≤ y.id
      · have hdm : decide (-1 ≤ y.id) = true := decide_eq_true hm
        by_cases h0 : y.id = 0
        · have hd0 : (y.id == 0) = true := by simp [h0]
          have hd1 : (y.id != 0) = false := by simp [h0]
          by_cases hn : (k : Int) < c.next
          all_goals
            first
            | have hdn : decide (c.next ≤ (k : Int)) = false := decide_eq_false (by omega)
            | have hdn : decide (c.next ≤ (k : Int)) = true := decide_eq_true (by omega)
            by_cases hy0 : y.l.length = 0
            · have hzi : ¬ ((0 : Int) < (y.l.length : Int)) := by omega
              have hzn : ¬ (0 < y.l.length) := by omega
              have Ht := Lib.hid (HY.out (by simp [slotAt, h0, hy0]))
              clear hF h0 hm hy0
              go_wp2_with fail
              refine (q_impl_CellOk _ _).mono ?_
              rintro e w1 ⟨rfl, rfl⟩
              rw [hdm]
              go_wp2_with fail
              go_roundw
              case rel => exact ⟨k + 1, by go_num, by omega, Ht.out, ((up_a1 wr _).block _ hg).trans Hcb.out, hb.trans ((up_a1 wr _).mono hb.size)⟩
              case measure => simp [intOf]; omega
            · have hzi : (0 : Int) < (y.l.length : Int) := by omega
              have hzn : 0 < y.l.length := by omega
              have H := Lib.hid (HN.out (by simp [slotAt, h0]; intro h; exact hy0 (by simp [h])))
              clear hF h0 hm hy0
              go_wp2_with fail
              refine (q_impl_CellOk _ _).mono ?_
              rintro e w1 ⟨rfl, rfl⟩
              rw [hdm]
              go_wp2_with fail
              go_ret
              exact ⟨ret_bool H.out.symm, hb.trans ((up_a1 wr _).mono hb.size)⟩
        · have hd0 : (y.id == 0) = false := by simp [h0]
          have hd1 : (y.id != 0) = true := by simp [h0]
          by_cases hn : (k : Int) < c.next
          · have hdn : decide (c.next ≤ (k : Int)) = false := decide_eq_false (by omega)
            cases hf : fitsCols cols y.l
            · have H := Lib.hid (HN.out (by simp [slotAt, h0, hf]))
              rw [hf] at hF
              clear h0 hm
              go_wp2_with fail
              refine (q_impl_CellOk _ _).mono ?_
              rintro e w1 ⟨rfl, rfl⟩
              rw [hdm]
              go_wp2_with fail
              refine hF.out.mono ?_
              rintro e w1 ⟨rfl, hb1⟩
              go_wp2_with fail
              go_ret
              exact ⟨ret_bool H.out.symm, hb.trans ((below_a1 hb1).mono hb.size)⟩
            · have Ht := Lib.hid (HY.out (by simp [slotAt, h0, hf, hm, hn]))
              rw [hf] at hF
              clear h0 hm
              go_wp2_with fail
              refine (q_impl_CellOk _ _).mono ?_
              rintro e w1 ⟨rfl, rfl⟩
              rw [hdm]
              go_wp2_with fail
              refine hF.out.mono ?_
              rintro e w1 ⟨rfl, hb1⟩
              go_wp2_with fail
              go_roundw
              case rel => exact ⟨k + 1, by go_num, by omega, Ht.out, ((below_a1 hb1).block _ hg).trans Hcb.out, hb.trans ((below_a1 hb1).mono hb.size)⟩
              case measure => simp [intOf]; omega
          · have hdn : decide (c.next ≤ (k : Int)) = true := decide_eq_true (by omega)
            have H := Lib.hid (HN.out (by simp [slotAt, h0, hn]))
            clear hF h0 hm
            go_wp2_with fail
            refine (q_impl_CellOk _ _).mono ?_
            rintro e w1 ⟨rfl, rfl⟩
            rw [hdm]
            go_wp2_with fail
            go_ret
            exact ⟨ret_bool H.out.symm, hb.trans ((up_a1 wr _).mono hb.size)⟩
      · have hdm : decide (-1 ≤ y.id) = false := decide_eq_false hm
        have H := Lib.hid (HN.out (by simp [slotAt, hm]))
        clear hF hm
        go_wp2_with fail
        refine (q_impl_CellOk _ _).mono ?_
        rintro e w1 ⟨rfl, rfl⟩
        rw [hdm]
        go_wp2_with fail
        go_ret
        exact ⟨ret_bool H.out.symm, hb.trans ((up_a1 wr _).mono hb.size)⟩
    · have H := Lib.hid (HE.out (by have h := Hall.out; rwa [show k = c.l.length by omega] at h))
      go_wp2_with fail
      go_ret
      exact ⟨ret_bool H.out.symm, hb⟩
end Go.Proofs.Ytgjjkodlmhmjgaa
