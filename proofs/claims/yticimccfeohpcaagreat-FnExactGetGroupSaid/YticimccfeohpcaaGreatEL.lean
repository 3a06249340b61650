/- The kinds of the columns of some rows; rows written as a group: contracts. -/
import Derived.Test.YticimccfeohpcaaGreatCG
import Derived.Test.YticimccfeohpcaaGreatS24
import Derived.Test.YticimccfeohpcaaGreatS27
import Derived.Test.YticimccfeohpcaaGreatEJ
namespace Go.Lb
open Go.RowKit
theorem Own.go {w w' : World} {e s lo n : Nat} {v : Value} {xs : List Value} (h : Own e s w lo w.heap.size v n xs) (hb : Below w.heap.size w w') : Own e s w' lo w'.heap.size v n xs := (h.below hb (Nat.le_refl _)).more (Nat.le_refl _) hb.size
end Go.Lb
namespace Go.Proofs.YticimccfeohpcaaGreat
open Go.RowKit Go.Lb
def kindAt (l : List R) (k : Nat) : Int := bestKind (column l (k : Int))
def kindsOf (cols : List Int) (l : List R) : List Int := if rowsOk cols l && !l.isEmpty then (List.range cols.length).map (kindAt l) else []
theorem kindsOf_len (cols : List Int) (l : List R) : (kindsOf cols l).length ≤ 3 := by
  unfold kindsOf
  split
  · rename_i h
    rw [Bool.and_eq_true] at h
    have := (colsOk_parts (rowsOk_parts h.1).1).2.1
    simpa using this
  · simp
theorem kindsOf_yes {cols : List Int} {l : List R} (h : rowsOk cols l = true) (h0 : l ≠ []) : kindsOf cols l = (List.range cols.length).map (kindAt l) := by
  unfold kindsOf
  cases l with
  | nil => exact absurd rfl h0
  | cons a r => rw [h]; rfl
theorem kindsOf_no {cols : List Int} {l : List R} (h : rowsOk cols l = false) : kindsOf cols l = [] := by
  unfold kindsOf
  rw [h]
  rfl
theorem kindsOf_none (cols : List Int) : kindsOf cols [] = [] := by simp [kindsOf]
theorem range_step {β : Type} (f : Nat → β) (j : Nat) : (List.range (j + 1)).map f = (List.range j).map f ++ [f j] := by simp [List.range_succ]
theorem col_small {l : List R} {k : Int} (hs : RsOk l) : ∀ v ∈ column l k, v.s.size ≤ maxLen := by
  intro v hv
  obtain ⟨r, hr, e⟩ := List.mem_filterMap.1 hv
  unfold colAt at e
  split at e
  · exact hs r hr v (List.mem_of_getElem? e)
  · cases e
theorem ids_take {l : List R} {j : Nat} {y : R} (h : l[j]? = some y) : idsOf (l.take (j + 1)) = idsOf (l.take j) ++ [y.id] := by
  unfold idsOf
  rw [take_of_get h, List.map_append]
  rfl
theorem ids_len (l : List R) : (idsOf l).length = l.length := by simp [idsOf]
/-- What stands behind the ids. -/
def colsN (n : Nat) (l : List R) : List UInt8 := if l = [] then [] else colsB n l
theorem colsN_step {n : Nat} {l : List R} (h : l ≠ []) : colsN (n + 1) l = colsN n l ++ colB (column l (n : Int)) := by
  rw [colsN, colsN, if_neg h, if_neg h, colsB_step]
theorem colsN_zero (l : List R) : colsN 0 l = [] := by
  unfold colsN
  split <;> rfl
theorem colsN_none (n : Nat) : colsN n [] = [] := by rw [colsN, if_pos rfl]
theorem putGroup_yes {cols : List Int} {l : List R} (h : rowsOk cols l = true) : putGroup cols l = numsB (idsOf l) ++ colsN cols.length l := by
  by_cases h0 : l = []
  · subst h0
    rw [putGroup_none h rfl, colsN_none, List.append_nil]
  · rw [putGroup_some h h0, colsN, if_neg h0]
end Go.Proofs.YticimccfeohpcaaGreat
namespace Go.Proofs.YticimccfeohpcaaGreat
open Go.Sort Go.ChangeShapes Go.WideShapes Go.ChangeAt Go.RowKit Go.Lb
set_option maxHeartbeats 4000000 in
set_option maxRecDepth 20000 in
theorem spec_KindsOf (cols : List Int) (cv : Value) (l : List R) (x : Value) (w : World) {l1 h1 lo hi : Nat} (hc : RdI w l1 h1 cv cols) (hh1 : h1 ≤ w.heap.size) (hx : RdR w lo hi x l) (hhi : hi ≤ w.heap.size) (hs : RsOk l) :
    Calls Tryz.prog 12 #[cv, x] w fun e w' => ∃ r, e = .returned r ∧ Own 3 1 w' w.heap.size w'.heap.size r (kindsOf cols l).length ((kindsOf cols l).map (.int .i64)) ∧ Below w.heap.size w w' := by
  obtain ⟨A, c, rfl, hl, hl2⟩ := hx.form
  obtain ⟨Ac, cc, rfl, hcl, hcl2⟩ := hc.form
  obtain ⟨j0, jif, jz0, jz1, jz2⟩ := info_parts info_i64
  replace jif := Lib.hid jif
  replace jz0 := Lib.hid jz0
  replace jz1 := Lib.hid jz1
  replace jz2 := Lib.hid jz2
  have hb0 : Below w.heap.size w (w.alloc (.cells #[] 3)) := up_a1 w _
  have own0 := World.ownsRow_made w (base := w.heap.size) (e := 3) (size := 1) #[] 0 (Nat.le_refl _) (by decide) rfl
  have HR := Lib.hid (fun W (h : Below w.heap.size w W) => spec_RowsOk cols _ l _ W (hc.below h hh1) (Nat.le_trans hh1 h.size) (hx.below h hhi) (Nat.le_trans hhi h.size) hs)
  have HC := Lib.hid (fun (k : Int) W (h : Below w.heap.size w W) (hn : l.length ≤ 1048576) => spec_Column l _ k W (hx.below h hhi) (Nat.le_trans hhi h.size) hn)
  have Hsm := Lib.hid (fun k => col_small (k := k) hs)
  clear hs
  cases hok : rowsOk cols l
  · have HE := Lib.hid (kindsOf_no hok)
    rw [hok] at HR
    clear hok
    by_cases hcn : cols = []
    · subst hcn
      have HOw := Lib.hid own0
      have HBw := Lib.hid hb0
      go_enter Tryz.func12, Tryz.ntmps12
      go_wp2_with fail
      go_loopw [5, 6] (fun o i wr => i = .int .i64 0 ∧ o = .slice (some ⟨w.heap.size, 0, none⟩) 0 0 ∧ wr = w.alloc (.cells #[] 3)) (fun _ _ _ => 0)
      case atStart => exact ⟨rfl, rfl, rfl⟩
      case round =>
        obtain ⟨rfl, rfl, rfl⟩ := hrel
        go_wp2_with fail
        go_ret
        exact ⟨_, rfl, by rw [HE.out]; exact (Own.new HOw.out), HBw.out⟩
    · have dk : decide ((0 : Int) < (cols.length : Int)) = true := decide_eq_true (by have := List.length_pos_iff.2 hcn; omega)
      have dkn : 0 < cols.length := List.length_pos_iff.2 hcn
      have HR1 := Lib.hid (HR.out _ hb0)
      go_enter Tryz.func12, Tryz.ntmps12
      go_wp2_with fail
      go_loopw [5, 6] (fun o i wr => i = .int .i64 0 ∧ o = .slice (some ⟨w.heap.size, 0, none⟩) 0 0 ∧ wr = w.alloc (.cells #[] 3)) (fun _ _ _ => 0)
      case atStart => exact ⟨rfl, rfl, rfl⟩
      case round =>
        obtain ⟨rfl, rfl, rfl⟩ := hrel
        go_wp2_with fail
        refine HR1.out.mono ?_
        rintro e w1 ⟨rfl, hb1⟩
        have HOw := Lib.hid (owns_below own0 hb1)
        have HBw := Lib.hid (below_go0 hb0 hb1)
        clear hb0 own0 hb1 HR1
        go_wp2_with fail
        go_ret
        exact ⟨_, rfl, by rw [HE.out]; exact (Own.new HOw.out), HBw.out⟩
  · obtain ⟨hco, hl12, -⟩ := rowsOk_parts hok
    obtain ⟨hc1, hc3, -⟩ := colsOk_parts hco
    rw [hok] at HR
    have HOK := Lib.hid hok
    clear hok hco
    have HR1 := Lib.hid (HR.out _ hb0)
    by_cases hln : l = []
    · have HE := Lib.hid (show kindsOf cols l = [] by rw [hln]; exact kindsOf_none cols)
      have dl : l.length = 0 := by rw [hln]; rfl
      have e1 : decide ((0 : Int) < (l.length : Int)) = false := decide_eq_false (by omega)
      have e1n : ¬ 0 < l.length := by omega
      have e2 : ((l.length : Int) == 0) = true := by simp [dl]
      have dk : decide ((0 : Int) < (cols.length : Int)) = true := decide_eq_true (by omega)
      have dkn : 0 < cols.length := by omega
      clear hln dl
      go_enter Tryz.func12, Tryz.ntmps12
      go_wp2_with fail
      go_loopw [5, 6] (fun o i wr => i = .int .i64 0 ∧ o = .slice (some ⟨w.heap.size, 0, none⟩) 0 0 ∧ wr = w.alloc (.cells #[] 3)) (fun _ _ _ => 0)
      case atStart => exact ⟨rfl, rfl, rfl⟩
      case round =>
        obtain ⟨rfl, rfl, rfl⟩ := hrel
        go_wp2_with fail
        refine HR1.out.mono ?_
        rintro e w1 ⟨rfl, hb1⟩
        have HOw := Lib.hid (owns_below own0 hb1)
        have HBw := Lib.hid (below_go0 hb0 hb1)
        clear hb0 own0 hb1 HR1
        go_wp2_with fail
        go_ret
        exact ⟨_, rfl, by rw [HE.out]; exact (Own.new HOw.out), HBw.out⟩
    · have HE := Lib.hid (kindsOf_yes HOK.out hln)
      have hlp : 0 < l.length := List.length_pos_iff.2 hln
      have e1 : decide ((0 : Int) < (l.length : Int)) = true := decide_eq_true (by omega)
      have e2 : ((l.length : Int) == 0) = false := by simp; omega
      clear hln
      clear HR1
      go_enter Tryz.func12, Tryz.ntmps12
      go_wp2_with fail
      go_loopw [5, 6] (fun o i wr => ∃ (j : Nat) (q : List Int), Hid (i = .int .i64 j ∧ j ≤ cols.length ∧ q.length = j ∧ q = (List.range j).map (kindAt l) ∧ wr.ownsRow w.heap.size 3 1 o j (q.map (.int .i64)) ∧ Below w.heap.size w wr)) (fun _ i _ => cols.length - (intOf i).toNat)
      case atStart => exact ⟨0, [], Lib.hid ⟨rfl, Nat.zero_le _, rfl, rfl, own0, hb0⟩⟩
      case round =>
        obtain ⟨j, q, hrel⟩ := hrel
        obtain ⟨rfl, hj, hql, hq, hown, hb⟩ := hrel.out
        clear own0 hb0
        have Hq := Lib.hid hq
        have Hown := Lib.hid hown
        have Hql := Lib.hid hql
        have hbs := hb.size
        obtain ⟨Ao, co, rfl, -, -, -⟩ := (Own.new hown).cells
        clear hrel hq hown hql
        by_cases hjl : j < cols.length
        · have dj : decide ((j : Int) < (cols.length : Int)) = true := decide_eq_true (by omega)
          have hjn := hjl
          have Hs := Lib.hid (range_step (kindAt l) j)
          have HRj := Lib.hid (HR.out wr hb)
          go_wp2_with fail
          refine HRj.out.mono ?_
          rintro e w1 ⟨rfl, hb1⟩
          have HO1 := Lib.hid (owns_below Hown.out hb1)
          have hb1w := below_go hb hb1
          clear hb1 HRj Hown
          have HCj := Lib.hid (HC.out (j : Int) w1 hb1w (by omega))
          go_wp2_with fail
          refine HCj.out.mono ?_
          rintro e w2 ⟨_, rfl, ho2, hb2⟩
          have hrd := ho2.rdV
          obtain ⟨A2, c2, rfl, -, -⟩ := hrd.form
          have HB2 := Lib.hid (spec_BestKind (column l (j : Int)) _ w2 hrd (Nat.le_refl _) (Hsm.out (j : Int)))
          have HO2 := Lib.hid (owns_below HO1.out hb2)
          have hb2w := below_go hb1w hb2
          have HK := Lib.hid (show bestKind (column l (j : Int)) = kindAt l j from rfl)
          clear hb2 ho2 hrd HCj HO1
          generalize bestKind (column l (j : Int)) = kk at *
          generalize column l (j : Int) = cl at *
          go_wp2_with fail
          refine HB2.out.mono ?_
          rintro e w3 ⟨rfl, hb3⟩
          have HO3 := Lib.hid (owns_below HO2.out hb3)
          have hb3w := below_go hb2w hb3
          have hbs3 := hb3w.size
          clear hb3 HB2 HO2
          go_wp2_with (at_builtin; refine wpl_app rfl _ _ 22 rfl w.heap.size 3 j0 _ 1 8 Tryz.underlying22 jif.out jz0.out jz1.out jz2.out rfl (by decide) (by decide) (HO3.out.alloc _) rfl (heap_alloc_new _ _) rfl rfl (by simp [Value.oneCell']) (by omega) (by simp; omega) ?_)
          intro v4 w4 hown4 hgrow _
          have HB4 := Lib.hid (Below.grown (hb3w.alloc hbs3 _) hgrow (fun g hg => (HO3.out.lt g hg).1) (Nat.le_refl _))
          have HO4 := Lib.hid (show w4.ownsRow w.heap.size 3 1 v4 (j + 1) ((q ++ [kk]).map (.int .i64)) by
            rw [List.map_append]
            exact hown4)
          have HS2 := Lib.hid (show q ++ [kk] = (List.range (j + 1)).map (kindAt l) by rw [Hs.out, HK.out, ← Hq.out])
          clear hown4 hgrow HO3
          go_wp2_with fail
          go_roundw
          case rel => exact ⟨j + 1, q ++ [kk], Lib.hid ⟨by go_num, by omega, by rw [List.length_append, Hql.out]; rfl, HS2.out, HO4.out, HB4.out⟩⟩
          case measure => simp [intOf]; omega
        · obtain rfl : j = cols.length := by omega
          have HEq := Lib.hid (show kindsOf cols l = q by rw [HE.out, Hq.out])
          go_wp2_with fail
          go_ret
          exact ⟨_, rfl, by rw [HEq.out, Hql.out]; exact Own.new Hown.out, hb⟩
set_option maxHeartbeats 4000000 in
set_option maxRecDepth 20000 in
theorem impl_KindsOf (cols : List Int) (cv : Value) (l : List R) (x : Value) (w : World) {l1 h1 lo hi : Nat} (hc : RdI w l1 h1 cv cols) (hh1 : h1 ≤ w.heap.size) (hx : RdR w lo hi x l) (hhi : hi ≤ w.heap.size) (hs : RsOk l) :
    Calls Tryz.prog 15 #[cv, x] w fun e w' => ∃ r, e = .returned r ∧ Own 3 1 w' w.heap.size w'.heap.size r (kindsOf cols l).length ((kindsOf cols l).map (.int .i64)) ∧ Below w.heap.size w w' := by
  obtain ⟨A, c, rfl, hl, hl2⟩ := hx.form
  obtain ⟨Ac, cc, rfl, hcl, hcl2⟩ := hc.form
  obtain ⟨j0, jif, jz0, jz1, jz2⟩ := info_parts info_i64
  replace jif := Lib.hid jif
  replace jz0 := Lib.hid jz0
  replace jz1 := Lib.hid jz1
  replace jz2 := Lib.hid jz2
  have hb0 : Below w.heap.size w (w.alloc (.cells #[] 3)) := up_a1 w _
  have own0 := World.ownsRow_made w (base := w.heap.size) (e := 3) (size := 1) #[] 0 (Nat.le_refl _) (by decide) rfl
  have HR := Lib.hid (fun W (h : Below w.heap.size w W) => impl_RowsOk cols _ l _ W (hc.below h hh1) (Nat.le_trans hh1 h.size) (hx.below h hhi) (Nat.le_trans hhi h.size) hs)
  have HC := Lib.hid (fun (k : Int) W (h : Below w.heap.size w W) (hn : l.length ≤ 1048576) => impl_Column l _ k W (hx.below h hhi) (Nat.le_trans hhi h.size) hn)
  have Hsm := Lib.hid (fun k => col_small (k := k) hs)
  clear hs
  cases hok : rowsOk cols l
  · have HE := Lib.hid (kindsOf_no hok)
    rw [hok] at HR
    clear hok
    have HR1 := Lib.hid (HR.out _ hb0)
    go_enter Tryz.func15, Tryz.ntmps15
    go_wp2_with fail
    refine HR1.out.mono ?_
    rintro e w1 ⟨rfl, hb1⟩
    have HOw := Lib.hid (owns_below own0 hb1)
    have HBw := Lib.hid (below_go0 hb0 hb1)
    clear hb0 own0 hb1 HR1
    go_wp2_with fail
    go_ret
    exact ⟨_, rfl, by rw [HE.out]; exact (Own.new HOw.out), HBw.out⟩
  · obtain ⟨hco, hl12, -⟩ := rowsOk_parts hok
    obtain ⟨hc1, hc3, -⟩ := colsOk_parts hco
    rw [hok] at HR
    have HOK := Lib.hid hok
    clear hok hco
    have HR1 := Lib.hid (HR.out _ hb0)
    by_cases hln : l = []
    · have HE := Lib.hid (show kindsOf cols l = [] by rw [hln]; exact kindsOf_none cols)
      have dl : l.length = 0 := by rw [hln]; rfl
      have e1 : decide ((0 : Int) < (l.length : Int)) = false := decide_eq_false (by omega)
      have e1n : ¬ 0 < l.length := by omega
      have e2 : ((l.length : Int) == 0) = true := by simp [dl]
      have dk : decide ((0 : Int) < (cols.length : Int)) = true := decide_eq_true (by omega)
      have dkn : 0 < cols.length := by omega
      clear hln dl
      go_enter Tryz.func15, Tryz.ntmps15
      go_wp2_with fail
      refine HR1.out.mono ?_
      rintro e w1 ⟨rfl, hb1⟩
      have HOw := Lib.hid (owns_below own0 hb1)
      have HBw := Lib.hid (below_go0 hb0 hb1)
      clear hb0 own0 hb1 HR1
      go_wp2_with fail
      go_ret
      exact ⟨_, rfl, by rw [HE.out]; exact (Own.new HOw.out), HBw.out⟩
    · have HE := Lib.hid (kindsOf_yes HOK.out hln)
      have hlp : 0 < l.length := List.length_pos_iff.2 hln
      have e1 : decide ((0 : Int) < (l.length : Int)) = true := decide_eq_true (by omega)
      have e2 : ((l.length : Int) == 0) = false := by simp; omega
      clear hln
      go_enter Tryz.func15, Tryz.ntmps15
      go_wp2_with fail
      refine HR1.out.mono ?_
      rintro e w1 ⟨rfl, hb1⟩
      have HO1 := Lib.hid (owns_below own0 hb1)
      have hb1w := below_go0 hb0 hb1
      clear hb0 own0 hb1 HR1
      go_wp2_with fail
      go_loopw [5, 6, 20] (fun o u i wr => ∃ (j : Nat) (q : List Int) (u0 : Value), Hid (i = .int .i64 j ∧ u = u0 ∧ j ≤ cols.length ∧ q.length = j ∧ q = (List.range j).map (kindAt l) ∧ wr.ownsRow w.heap.size 3 1 o j (q.map (.int .i64)) ∧ Below w.heap.size w wr)) (fun _ _ i _ => cols.length - (intOf i).toNat)
      case atStart => exact ⟨0, [], _, Lib.hid ⟨rfl, rfl, Nat.zero_le _, rfl, rfl, HO1.out, hb1w⟩⟩
      case round =>
        obtain ⟨j, q, u0, hrel⟩ := hrel
        obtain ⟨rfl, rfl, hj, hql, hq, hown, hb⟩ := hrel.out
        have Hq := Lib.hid hq
        have Hown := Lib.hid hown
        have Hql := Lib.hid hql
        have hbs := hb.size
        obtain ⟨Ao, co, rfl, -, -, -⟩ := (Own.new hown).cells
        clear hrel hq hown hql
        by_cases hjl : j < cols.length
        · have dj : decide ((j : Int) < (cols.length : Int)) = true := decide_eq_true (by omega)
          have hjn := hjl
          have Hs := Lib.hid (range_step (kindAt l) j)
          have HO1 := Hown
          have hb1w := hb
          have HCj := Lib.hid (HC.out (j : Int) wr hb (by omega))
          go_wp2_with fail
          refine HCj.out.mono ?_
          rintro e w2 ⟨_, rfl, ho2, hb2⟩
          have hrd := ho2.rdV
          obtain ⟨A2, c2, rfl, -, -⟩ := hrd.form
          have HB2 := Lib.hid (impl_BestKind (column l (j : Int)) _ w2 hrd (Nat.le_refl _) (Hsm.out (j : Int)))
          have HO2 := Lib.hid (owns_below HO1.out hb2)
          have hb2w := below_go hb1w hb2
          have HK := Lib.hid (show bestKind (column l (j : Int)) = kindAt l j from rfl)
          clear hb2 ho2 hrd HCj HO1
          generalize bestKind (column l (j : Int)) = kk at *
          generalize column l (j : Int) = cl at *
          go_wp2_with fail
          refine HB2.out.mono ?_
          rintro e w3 ⟨rfl, hb3⟩
          have HO3 := Lib.hid (owns_below HO2.out hb3)
          have hb3w := below_go hb2w hb3
          have hbs3 := hb3w.size
          clear hb3 HB2 HO2
          go_wp2_with (at_builtin; refine wpl_app rfl _ _ 22 rfl w.heap.size 3 j0 _ 1 8 Tryz.underlying22 jif.out jz0.out jz1.out jz2.out rfl (by decide) (by decide) (HO3.out.alloc _) rfl (heap_alloc_new _ _) rfl rfl (by simp [Value.oneCell']) (by omega) (by simp; omega) ?_)
          intro v4 w4 hown4 hgrow _
          have HB4 := Lib.hid (Below.grown (hb3w.alloc hbs3 _) hgrow (fun g hg => (HO3.out.lt g hg).1) (Nat.le_refl _))
          have HO4 := Lib.hid (show w4.ownsRow w.heap.size 3 1 v4 (j + 1) ((q ++ [kk]).map (.int .i64)) by
            rw [List.map_append]
            exact hown4)
          have HS2 := Lib.hid (show q ++ [kk] = (List.range (j + 1)).map (kindAt l) by rw [Hs.out, HK.out, ← Hq.out])
          clear hown4 hgrow HO3
          go_wp2_with fail
          go_roundw
          case rel => exact ⟨j + 1, q ++ [kk], _, Lib.hid ⟨by go_num, rfl, by omega, by rw [List.length_append, Hql.out]; rfl, HS2.out, HO4.out, HB4.out⟩⟩
          case measure => simp [intOf]; omega
        · obtain rfl : j = cols.length := by omega
          have HEq := Lib.hid (show kindsOf cols l = q by rw [HE.out, Hq.out])
          go_wp2_with fail
          go_ret
          exact ⟨_, rfl, by rw [HEq.out, Hql.out]; exact Own.new Hown.out, hb⟩
set_option maxHeartbeats 4000000 in
set_option maxRecDepth 20000 in
theorem spec_l13Ids (l : List R) (x : Value) (w : World) {lo hi : Nat} (hx : RdR w lo hi x l) (hhi : hi ≤ w.heap.size) (hn : l.length ≤ 1048576) :
    Calls Tryz.prog 67 #[x] w fun e w' => ∃ r, e = .returned r ∧ Own 3 1 w' w.heap.size w'.heap.size r (idsOf l).length ((idsOf l).map (.int .i64)) ∧ Below w.heap.size w w' := by
  obtain ⟨A, c, rfl, hl, hl2⟩ := hx.form
  obtain ⟨j0, jif, jz0, jz1, jz2⟩ := info_parts info_i64
  replace jif := Lib.hid jif
  replace jz0 := Lib.hid jz0
  replace jz1 := Lib.hid jz1
  replace jz2 := Lib.hid jz2
  have hb0 : Below w.heap.size w (w.alloc (.cells #[] 3)) := up_a1 w _
  have own0 := World.ownsRow_made w (base := w.heap.size) (e := 3) (size := 1) #[] 0 (Nat.le_refl _) (by decide) rfl
  go_enter Tryz.func67, Tryz.ntmps67
  go_wp2_with fail
  go_loopw [3, 4] (fun o i wr => ∃ (j : Nat) (q : List Int), Hid (i = .int .i64 j ∧ j ≤ l.length ∧ q.length = j ∧ q = idsOf (l.take j) ∧ wr.ownsRow w.heap.size 3 1 o j (q.map (.int .i64)) ∧ Below w.heap.size w wr)) (fun _ i _ => l.length - (intOf i).toNat)
  case atStart => exact ⟨0, [], Lib.hid ⟨rfl, Nat.zero_le _, rfl, rfl, own0, hb0⟩⟩
  case round =>
    obtain ⟨j, q, hrel⟩ := hrel
    obtain ⟨rfl, hj, hql, hq, hown, hb⟩ := hrel.out
    have Hq := Lib.hid hq
    have Hown := Lib.hid hown
    have Hql := Lib.hid hql
    have hbs := hb.size
    obtain ⟨Ao, co, rfl, -, -, -⟩ := (Own.new hown).cells
    clear hrel hq hown hql own0 hb0
    by_cases hjl : j < l.length
    · obtain ⟨b, off, y, sv, rfl, -, hbl, hyk, e0, e1, -⟩ := (hx.below hb hhi).at hjl
      have Hs := Lib.hid (ids_take hyk)
      clear hyk e1
      go_wp2_with (at_builtin; refine wpl_app rfl _ _ 22 rfl w.heap.size 3 j0 _ 1 8 Tryz.underlying22 jif.out jz0.out jz1.out jz2.out rfl (by decide) (by decide) (Hown.out.alloc _) rfl (heap_alloc_new _ _) rfl rfl (by simp [Value.oneCell']) (by omega) (by simp; omega) ?_)
      intro v4 w4 hown4 hgrow _
      have HB4 := Lib.hid (Below.grown (hb.alloc hbs _) hgrow (fun g hg => (Hown.out.lt g hg).1) (Nat.le_refl _))
      have HO4 := Lib.hid (show w4.ownsRow w.heap.size 3 1 v4 (j + 1) ((q ++ [y.id]).map (.int .i64)) by
        rw [List.map_append]
        exact hown4)
      have HS2 := Lib.hid (show q ++ [y.id] = idsOf (l.take (j + 1)) by rw [Hs.out, ← Hq.out])
      clear hown4 hgrow
      go_wp2_with fail
      go_roundw
      case rel => exact ⟨j + 1, q ++ [y.id], Lib.hid ⟨by go_num, by omega, by rw [List.length_append, Hql.out]; rfl, HS2.out, HO4.out, HB4.out⟩⟩
      case measure => simp [intOf]; omega
    · obtain rfl : j = l.length := by omega
      have HE := Lib.hid (show idsOf l = q by rw [Hq.out, List.take_length])
      go_wp2_with fail
      go_ret
      exact ⟨_, rfl, by rw [HE.out, Hql.out]; exact Own.new Hown.out, hb⟩
set_option maxHeartbeats 4000000 in
set_option maxRecDepth 20000 in
theorem spec_PutGroup (cols : List Int) (cv : Value) (l : List R) (x : Value) (w : World) {l1 h1 lo hi : Nat} (hc : RdI w l1 h1 cv cols) (hh1 : h1 ≤ w.heap.size) (hx : RdR w lo hi x l) (hhi : hi ≤ w.heap.size) (hs : RsOk l) :
    Calls Tryz.prog 21 #[cv, x] w fun e w' => ∃ r, e = .returned r ∧ Own 5 1 w' w.heap.size w'.heap.size r (putGroup cols l).length (bc (putGroup cols l)) ∧ Below w.heap.size w w' := by
  obtain ⟨A, c, rfl, hl, hl2⟩ := hx.form
  obtain ⟨Ac, cc, rfl, hcl, hcl2⟩ := hc.form
  obtain ⟨i0, hif, hz0, hz1, hz2⟩ := info_parts info_u8
  replace hif := Lib.hid hif
  replace hz0 := Lib.hid hz0
  replace hz1 := Lib.hid hz1
  replace hz2 := Lib.hid hz2
  have HR := Lib.hid (spec_RowsOk cols _ l _ w hc hh1 hx hhi hs)
  have HC := Lib.hid (fun (k : Int) W (h : Below w.heap.size w W) (hn : l.length ≤ 1048576) => spec_Column l _ k W (hx.below h hhi) (Nat.le_trans hhi h.size) hn)
  have Hsm := Lib.hid (fun k => col_small (k := k) hs)
  clear hs
  cases hok : rowsOk cols l
  · have HE := Lib.hid (putGroup_no hok)
    rw [hok] at HR
    clear hok
    go_enter Tryz.func21, Tryz.ntmps21
    go_wp2_with fail
    refine HR.out.mono ?_
    rintro e w1 ⟨rfl, hb1⟩
    have hs1 := hb1.size
    go_wp2_with fail
    go_ret
    exact ⟨_, rfl, by rw [HE.out]; exact .new (World.ownsRow_made w1 (base := w.heap.size) (e := 5) (size := 1) #[] 0 hs1 (by decide) rfl), hb1.alloc hs1 _⟩
  · obtain ⟨hco, hl12, -⟩ := rowsOk_parts hok
    obtain ⟨hc1, hc3, -⟩ := colsOk_parts hco
    rw [hok] at HR
    have HE := Lib.hid (putGroup_yes hok)
    have hil := ids_len l
    have HNl := Lib.hid (numsB_len (idsOf l) (by omega))
    clear hok hco
    go_enter Tryz.func21, Tryz.ntmps21
    go_wp2_with fail
    refine HR.out.mono ?_
    rintro e w1 ⟨rfl, hb1⟩
    clear HR
    go_wp2_with fail
    have hup := up_a1 w1 (.cells #[] 5)
    have hemp : RdB (w1.alloc (.cells #[] 5)) 0 (w1.alloc (.cells #[] 5)).heap.size (.slice (some ⟨w1.heap.size, 0, none⟩) 0 0) [] := rdB_empty _ _ _ _
    have hbw := below_go hb1 hup
    obtain ⟨W0, hW0⟩ : ∃ W0, (w1.alloc (.cells #[] 5)) = W0 := ⟨_, rfl⟩
    rw [hW0] at hup hemp hbw ⊢
    clear hW0 hup hb1
    have HI := Lib.hid (spec_l13Ids l _ W0 (hx.below hbw hhi) (Nat.le_trans hhi hbw.size) (by omega))
    refine HI.out.mono ?_
    rintro e w2 ⟨_, rfl, ho2, hb2⟩
    have hri := ho2.rdI
    obtain ⟨Ai, ci, rfl, -, -⟩ := hri.form
    have hb2w := below_go hbw hb2
    have hP := spec_PutNums [] _ (idsOf l) _ w2 (hemp.below hb2 (Nat.le_refl _)) hb2.size hri (Nat.le_refl _) (by simp) (by omega)
    rw [List.nil_append] at hP
    have HP := Lib.hid hP
    clear hP hri ho2 hb2 hemp HI
    generalize idsOf l = q at *
    obtain ⟨n0, hn0⟩ : ∃ n0, numsB q = n0 := ⟨_, rfl⟩
    rw [hn0] at HP HNl HE
    have hnl := HNl.out
    clear hn0 HNl hil
    go_wp2_with fail
    refine HP.out.mono ?_
    rintro e w4 ⟨v4, rfl, ho4, hb4⟩
    obtain ⟨A4, c4, rfl, -, -, -⟩ := ho4.cells
    have hb4w := below_go hb2w hb4
    have HO4 := Lib.hid (ho4.more (show w.heap.size ≤ w2.heap.size from hb2w.size) (Nat.le_refl _))
    clear hb4 ho4 HP
    go_wp2_with fail
    go_loopw [5, 6, 7] (fun o i u wr => ∃ (j : Nat) (acc : List UInt8) (u0 : Value), Hid (i = .int .i64 j ∧ u = u0 ∧ j ≤ cols.length ∧ (l = [] → j = 0) ∧ acc = n0 ++ colsN j l ∧ Own 5 1 wr w.heap.size wr.heap.size o acc.length (bc acc) ∧ Below w4.heap.size w4 wr)) (fun _ i _ _ => cols.length - (intOf i).toNat)
    case atStart => exact ⟨0, n0, _, Lib.hid ⟨rfl, rfl, by omega, fun _ => rfl, by rw [colsN_zero, List.append_nil], HO4.out, Below.refl _ _⟩⟩
    case round =>
      obtain ⟨j, acc, u0, hrel⟩ := hrel
      obtain ⟨rfl, rfl, hj, hj0, hacc, hown, hbr⟩ := hrel.out
      have Hj0 := Lib.hid hj0
      clear hj0
      obtain ⟨Ao, co, rfl, -, -, -⟩ := hown.cells
      have hal : acc.length ≤ 400 + 1006 * 3 := by
        have h1 := colsB_len j l
        have h2 : 1006 * j ≤ 1006 * 3 := Nat.mul_le_mul_left _ (by omega)
        rw [hacc, List.length_append, colsN]
        split
        · simp; omega
        · omega
      have Hacc := Lib.hid hacc
      have Hown := Lib.hid hown
      have hbw := below_go hb4w hbr
      have hbs := hbr.size
      have Hbr := Lib.hid hbr
      clear hacc hown hrel HO4 hbr
      by_cases hjl : j < cols.length
      · have dj : decide ((j : Int) < (cols.length : Int)) = true := decide_eq_true (by omega)
        by_cases hln : l = []
        · have e1 : decide ((0 : Int) < (l.length : Int)) = false := decide_eq_false (by rw [hln]; simp)
          have h0 := Hj0.out hln
          have HR := Lib.hid (show putGroup cols l = acc by rw [HE.out, Hacc.out, h0, hln, colsN_none, colsN_none])
          have e1n : ¬ 0 < l.length := by rw [hln]; simp
          clear hln h0
          go_wp2_with fail
          go_ret
          exact ⟨_, rfl, by rw [HR.out]; exact Hown.out, hbw⟩
        · have hlp : 0 < l.length := List.length_pos_iff.2 hln
          have e1 : decide ((0 : Int) < (l.length : Int)) = true := decide_eq_true (by omega)
          have Hs := Lib.hid (colsN_step (n := j) hln)
          have HCj := Lib.hid (HC.out (j : Int) wr hbw (by omega))
          have Hln := Lib.hid hln
          clear hln
          go_wp2_with fail
          refine HCj.out.mono ?_
          rintro e w5 ⟨_, rfl, ho5, hb5⟩
          have hrd := ho5.rdV
          obtain ⟨A5, c5, rfl, -, -⟩ := hrd.form
          have HEn := Lib.hid (spec_EncCol (column l (j : Int)) _ w5 hrd (Nat.le_refl _) (Hsm.out (j : Int)))
          have HO5 := Lib.hid (Own.go Hown.out hb5)
          have hb5w := below_go hbw hb5
          have hb5r := below_go Hbr.out hb5
          have HCB := Lib.hid (show colB (column l (j : Int)) = numB (encCol (column l (j : Int))).length ++ encCol (column l (j : Int)) from rfl)
          have hel := encCol_len (column l (j : Int))
          clear hb5 ho5 hrd HCj Hown
          generalize encCol (column l (j : Int)) = en at *
          generalize column l (j : Int) = cl at *
          go_wp2_with fail
          refine HEn.out.mono ?_
          rintro e w6 ⟨_, rfl, ho6, hb6⟩
          obtain ⟨A6, c6, rfl, -, -, -⟩ := ho6.cells
          have Hre := Lib.hid ho6.rdBc
          have HO6 := Lib.hid (HO5.out.go hb6)
          have hb6w := below_go hb5w hb6
          have hb6r := below_go hb5r hb6
          have hP := spec_PutNum acc _ (en.length : Int) w6 HO6.out.rdBc (Nat.le_refl _) (by omega)
          obtain ⟨r1, hr1⟩ : ∃ r1, acc ++ numB (en.length : Int) = r1 := ⟨_, rfl⟩
          rw [hr1] at hP
          have hnb := numB_len (en.length : Int)
          have hr1l : r1.length ≤ 4000 := by rw [← hr1, List.length_append]; omega
          have HE2 := Lib.hid (show r1 ++ en = n0 ++ colsN (j + 1) l by rw [← hr1, Hs.out, HCB.out, Hacc.out]; simp only [List.append_assoc])
          have HP := Lib.hid hP
          have hs6 := hb6w.size
          clear hP hr1 HO5 HO6 hb6 ho6 HEn HCB hnb
          go_wp2_with fail
          refine HP.out.mono ?_
          rintro e w7 ⟨_, rfl, ho7, hb7⟩
          obtain ⟨A7, c7, rfl, -, -, -⟩ := ho7.cells
          have hN := Lib.hid ((Hre.out.below hb7 (Nat.le_refl _)).spread)
          have hb7w := below_go hb6w hb7
          have hb7r := below_go hb6r hb7
          have HO7 := Lib.hid ho7.1
          have hs7 := hb7.size
          have hs64 := hb6r.size
          clear ho7 hb7 HP Hre
          go_wp2_with (at_builtin; refine wpl_spread rfl _ _ 34 rfl w6.heap.size 5 i0 _ 1 1 Tryz.underlying34 hif.out hz0.out hz1.out hz2.out rfl (by decide) (by decide) HO7.out rfl rfl (bc_len en) hN.out.2.1 hN.out.2.2 (bc_one en) (by omega) (by omega) ?_)
          intro v9 w9 hown9 hgrow _
          have HB9 := Lib.hid (Below.grown hb7r hgrow (fun g hg => Nat.le_trans hs64 (HO7.out.lt g hg).1) (Nat.le_refl _))
          have HO9 := Lib.hid (show Own 5 1 w9 w.heap.size w9.heap.size v9 (r1 ++ en).length (bc (r1 ++ en)) by
            rw [bc_app r1, List.length_append]
            exact (Own.new hown9).more hs6 (Nat.le_refl _))
          clear hgrow hown9
          go_wp2_with fail
          go_roundw
          case rel => exact ⟨j + 1, _, _, Lib.hid ⟨by go_num, rfl, by omega, fun h => absurd h Hln.out, HE2.out, HO9.out, HB9.out⟩⟩
          case measure => simp [intOf]; omega
      · obtain rfl : j = cols.length := by omega
        have HRt := Lib.hid (show putGroup cols l = acc by rw [HE.out, Hacc.out])
        go_wp2_with fail
        go_ret
        exact ⟨_, rfl, by rw [HRt.out]; exact Hown.out, hbw⟩
set_option maxHeartbeats 4000000 in
set_option maxRecDepth 20000 in
theorem impl_PutGroup (cols : List Int) (cv : Value) (l : List R) (x : Value) (w : World) {l1 h1 lo hi : Nat} (hc : RdI w l1 h1 cv cols) (hh1 : h1 ≤ w.heap.size) (hx : RdR w lo hi x l) (hhi : hi ≤ w.heap.size) (hs : RsOk l) :
    Calls Tryz.prog 22 #[cv, x] w fun e w' => ∃ r, e = .returned r ∧ Own 5 1 w' w.heap.size w'.heap.size r (putGroup cols l).length (bc (putGroup cols l)) ∧ Below w.heap.size w w' := by
  obtain ⟨A, c, rfl, hl, hl2⟩ := hx.form
  obtain ⟨Ac, cc, rfl, hcl, hcl2⟩ := hc.form
  obtain ⟨i0, hif, hz0, hz1, hz2⟩ := info_parts info_u8
  replace hif := Lib.hid hif
  replace hz0 := Lib.hid hz0
  replace hz1 := Lib.hid hz1
  replace hz2 := Lib.hid hz2
  obtain ⟨j0, jif, jz0, jz1, jz2⟩ := info_parts info_i64
  replace jif := Lib.hid jif
  replace jz0 := Lib.hid jz0
  replace jz1 := Lib.hid jz1
  replace jz2 := Lib.hid jz2
  have HR := Lib.hid (impl_RowsOk cols _ l _ w hc hh1 hx hhi hs)
  have HC := Lib.hid (fun (k : Int) W (h : Below w.heap.size w W) (hn : l.length ≤ 1048576) => impl_Column l _ k W (hx.below h hhi) (Nat.le_trans hhi h.size) hn)
  have Hsm := Lib.hid (fun k => col_small (k := k) hs)
  clear hs
  cases hok : rowsOk cols l
  · have HE := Lib.hid (putGroup_no hok)
    rw [hok] at HR
    clear hok
    go_enter Tryz.func22, Tryz.ntmps22
    go_wp2_with fail
    refine HR.out.mono ?_
    rintro e w1 ⟨rfl, hb1⟩
    have hs1 := hb1.size
    go_wp2_with fail
    go_ret
    exact ⟨_, rfl, by rw [HE.out]; exact own_ints_none _ _ _ _, hb1⟩
  · obtain ⟨hco, hl12, -⟩ := rowsOk_parts hok
    obtain ⟨hc1, hc3, -⟩ := colsOk_parts hco
    rw [hok] at HR
    have HE := Lib.hid (putGroup_yes hok)
    have hil := ids_len l
    have HNl := Lib.hid (numsB_len (idsOf l) (by omega))
    clear hok hco
    go_enter Tryz.func22, Tryz.ntmps22
    go_wp2_with fail
    refine HR.out.mono ?_
    rintro e w1 ⟨rfl, hb1⟩
    clear HR
    go_wp2_with fail
    have hup := up_a1 w1 (.cells #[] 3)
    have own0 := World.ownsRow_made w1 (base := w.heap.size) (e := 3) (size := 1) #[] 0 hb1.size (by decide) rfl
    have hbw := below_go hb1 hup
    clear hup hb1
    go_loopw [5, 18] (fun o i wr => ∃ (j : Nat) (q : List Int), Hid (i = .int .i64 j ∧ j ≤ l.length ∧ q.length = j ∧ q = idsOf (l.take j) ∧ wr.ownsRow w.heap.size 3 1 o j (q.map (.int .i64)) ∧ Below w.heap.size w wr)) (fun _ i _ => l.length - (intOf i).toNat)
    case atStart => exact ⟨0, [], Lib.hid ⟨rfl, Nat.zero_le _, rfl, rfl, own0, hbw⟩⟩
    case round =>
     obtain ⟨j, q, hrel⟩ := hrel
     obtain ⟨rfl, hj, hql, hq, hown, hb⟩ := hrel.out
     have Hq := Lib.hid hq
     have Hown := Lib.hid hown
     have Hql := Lib.hid hql
     have hbs := hb.size
     obtain ⟨Ao, co, rfl, -, -, -⟩ := (Own.new hown).cells
     clear hrel hq hown hql own0 hbw
     by_cases hjl : j < l.length
     · obtain ⟨b, off, y, sv, rfl, -, hbl, hyk, e0, e1, hr⟩ := (hx.below hb hhi).at hjl
       obtain ⟨As, cs, rfl, -, -⟩ := hr.form
       have Hs := Lib.hid (ids_take hyk)
       have n0 := box_new wr #[.int .i64 y.id, .slice As y.l.length cs] 70 0
       simp only [List.getElem?_toArray, List.getElem?_cons_zero] at n0
       have HOx := Lib.hid (Hown.out.alloc (.cells #[.int .i64 y.id, .slice As y.l.length cs] 70))
       have hbx := hb.alloc hbs (.cells #[.int .i64 y.id, .slice As y.l.length cs] 70)
       have hbxs := hbx.size
       have hblk : ((wr.alloc (.cells #[.int .i64 y.id, .slice As y.l.length cs] 70)).alloc (.cells #[.int .i64 y.id] 3)).heap[wr.heap.size + 1]? = some (.cells #[.int .i64 y.id] 3) := by
         have h := heap_alloc_new (wr.alloc (.cells #[.int .i64 y.id, .slice As y.l.length cs] 70)) (.cells #[.int .i64 y.id] 3)
         rw [World.size_alloc] at h
         exact h
       have Hblk := Lib.hid hblk
       clear hyk hblk
       go_wp2_with (at_builtin; refine wpl_app rfl _ _ 22 rfl w.heap.size 3 j0 _ 1 8 Tryz.underlying22 jif.out jz0.out jz1.out jz2.out rfl (by decide) (by decide) (HOx.out.alloc _) rfl Hblk.out rfl rfl (by simp [Value.oneCell']) (by omega) (by simp; omega) ?_)
       intro v4 w4 hown4 hgrow _
       have HB4 := Lib.hid (Below.grown (hbx.alloc hbxs _) hgrow (fun g hg => (HOx.out.lt g hg).1) (Nat.le_refl _))
       have HO4 := Lib.hid (show w4.ownsRow w.heap.size 3 1 v4 (j + 1) ((q ++ [y.id]).map (.int .i64)) by
         rw [List.map_append]
         exact hown4)
       have HS2 := Lib.hid (show q ++ [y.id] = idsOf (l.take (j + 1)) by rw [Hs.out, ← Hq.out])
       clear hown4 hgrow HOx n0
       go_wp2_with fail
       go_roundw
       case rel => exact ⟨j + 1, q ++ [y.id], Lib.hid ⟨by go_num, by omega, by rw [List.length_append, Hql.out]; rfl, HS2.out, HO4.out, HB4.out⟩⟩
       case measure => simp [intOf]; omega
     obtain rfl : j = l.length := by omega
     have HIq := Lib.hid (show q = idsOf l by rw [Hq.out, List.take_length])
     have hri : RdI wr w.heap.size wr.heap.size (.slice Ao l.length co) (idsOf l) := by
       have h := (Own.new (show wr.ownsRow w.heap.size 3 1 (.slice Ao l.length co) q.length (q.map (.int .i64)) by rw [Hql.out]; exact Hown.out))
       have h2 := h.rdI
       rw [HIq.out] at h2
       exact h2
     have hb2w := hb
     have hP := impl_PutNums [] _ (idsOf l) _ wr (rdB_none wr 0 0) (Nat.zero_le _) hri (Nat.le_refl _) (by simp) (by omega)
     rw [List.nil_append] at hP
     have HP := Lib.hid hP
     clear hP hri Hown Hq Hql HIq
     obtain ⟨w2, hw2⟩ : ∃ w2, w2 = wr := ⟨_, rfl⟩
     subst hw2
     clear hbs
     generalize idsOf l = q at *
     obtain ⟨n0, hn0⟩ : ∃ n0, numsB q = n0 := ⟨_, rfl⟩
     rw [hn0] at HP HNl HE
     have hnl := HNl.out
     clear hn0 HNl hil
     go_wp2_with fail
     refine HP.out.mono ?_
     rintro e w4 ⟨v4, rfl, ho4, hb4⟩
     obtain ⟨A4, c4, rfl, -, -, -⟩ := ho4.cells
     have hb4w := below_go hb2w hb4
     have HO4 := Lib.hid (ho4.more (show w.heap.size ≤ w2.heap.size from hb2w.size) (Nat.le_refl _))
     clear hb4 ho4 HP
     go_wp2_with fail
     go_loopw [8, 9, 10, 32] (fun o u u' i wr => ∃ (j : Nat) (acc : List UInt8) (u0 u1 : Value), Hid (i = .int .i64 j ∧ u = u0 ∧ u' = u1 ∧ j ≤ cols.length ∧ acc = n0 ++ colsN j l ∧ Own 5 1 wr w.heap.size wr.heap.size o acc.length (bc acc) ∧ Below w4.heap.size w4 wr)) (fun _ _ _ i _ => cols.length - (intOf i).toNat)
     case atStart => exact ⟨0, n0, _, _, Lib.hid ⟨rfl, rfl, rfl, by omega, by rw [colsN_zero, List.append_nil], HO4.out, Below.refl _ _⟩⟩
     case round =>
       obtain ⟨j, acc, u0, u1, hrel⟩ := hrel
       obtain ⟨rfl, rfl, rfl, hj, hacc, hown, hbr⟩ := hrel.out
       obtain ⟨Ao, co, rfl, -, -, -⟩ := hown.cells
       have hal : acc.length ≤ 400 + 1006 * 3 := by
         have h1 := colsB_len j l
         have h2 : 1006 * j ≤ 1006 * 3 := Nat.mul_le_mul_left _ (by omega)
         rw [hacc, List.length_append, colsN]
         split
         · simp; omega
         · omega
       have Hacc := Lib.hid hacc
       have Hown := Lib.hid hown
       have hbw := below_go hb4w hbr
       have hbs := hbr.size
       have Hbr := Lib.hid hbr
       clear hacc hown hrel HO4 hbr
       by_cases hjl : j < cols.length
       · have dj : decide ((j : Int) < (cols.length : Int)) = true := decide_eq_true (by omega)
         by_cases hln : l = []
         · have e1 : decide ((0 : Int) < (l.length : Int)) = false := decide_eq_false (by rw [hln]; simp)
           have HA2 := Lib.hid (show acc = n0 ++ colsN (j + 1) l by rw [Hacc.out, hln, colsN_none, colsN_none])
           have e1n : ¬ 0 < l.length := by rw [hln]; simp
           clear hln
           go_wp2_with fail
           go_roundw
           case rel => exact ⟨j + 1, acc, _, _, Lib.hid ⟨by go_num, rfl, rfl, by omega, HA2.out, Hown.out, Hbr.out⟩⟩
           case measure => simp [intOf]; omega
         · have hlp : 0 < l.length := List.length_pos_iff.2 hln
           have e1 : decide ((0 : Int) < (l.length : Int)) = true := decide_eq_true (by omega)
           have Hs := Lib.hid (colsN_step (n := j) hln)
           have HCj := Lib.hid (HC.out (j : Int) wr hbw (by omega))
           have Hln := Lib.hid hln
           clear hln
           go_wp2_with fail
           refine HCj.out.mono ?_
           rintro e w5 ⟨_, rfl, ho5, hb5⟩
           have hrd := ho5.rdV
           obtain ⟨A5, c5, rfl, -, -⟩ := hrd.form
           have HEn := Lib.hid (impl_EncCol (column l (j : Int)) _ w5 hrd (Nat.le_refl _) (Hsm.out (j : Int)))
           have HO5 := Lib.hid (Own.go Hown.out hb5)
           have hb5w := below_go hbw hb5
           have hb5r := below_go Hbr.out hb5
           have HCB := Lib.hid (show colB (column l (j : Int)) = numB (encCol (column l (j : Int))).length ++ encCol (column l (j : Int)) from rfl)
           have hel := encCol_len (column l (j : Int))
           clear hb5 ho5 hrd HCj Hown
           generalize encCol (column l (j : Int)) = en at *
           generalize column l (j : Int) = cl at *
           go_wp2_with fail
           refine HEn.out.mono ?_
           rintro e w6 ⟨_, rfl, ho6, hb6⟩
           obtain ⟨A6, c6, rfl, -, -, -⟩ := ho6.cells
           have Hre := Lib.hid ho6.rdBc
           have HO6 := Lib.hid (HO5.out.go hb6)
           have hb6w := below_go hb5w hb6
           have hb6r := below_go hb5r hb6
           have hP := impl_PutNum acc _ (en.length : Int) w6 HO6.out.rdBc (Nat.le_refl _) (by omega)
           obtain ⟨r1, hr1⟩ : ∃ r1, acc ++ numB (en.length : Int) = r1 := ⟨_, rfl⟩
           rw [hr1] at hP
           have hnb := numB_len (en.length : Int)
           have hr1l : r1.length ≤ 4000 := by rw [← hr1, List.length_append]; omega
           have HE2 := Lib.hid (show r1 ++ en = n0 ++ colsN (j + 1) l by rw [← hr1, Hs.out, HCB.out, Hacc.out]; simp only [List.append_assoc])
           have HP := Lib.hid hP
           have hs6 := hb6w.size
           clear hP hr1 HO5 HO6 hb6 ho6 HEn HCB hnb
           go_wp2_with fail
           refine HP.out.mono ?_
           rintro e w7 ⟨_, rfl, ho7, hb7⟩
           obtain ⟨A7, c7, rfl, -, -, -⟩ := ho7.cells
           have hN := Lib.hid ((Hre.out.below hb7 (Nat.le_refl _)).spread)
           have hb7w := below_go hb6w hb7
           have hb7r := below_go hb6r hb7
           have HO7 := Lib.hid ho7.1
           have hs7 := hb7.size
           have hs64 := hb6r.size
           clear ho7 hb7 HP Hre
           go_wp2_with (at_builtin; refine wpl_spread rfl _ _ 34 rfl w6.heap.size 5 i0 _ 1 1 Tryz.underlying34 hif.out hz0.out hz1.out hz2.out rfl (by decide) (by decide) HO7.out rfl rfl (bc_len en) hN.out.2.1 hN.out.2.2 (bc_one en) (by omega) (by omega) ?_)
           intro v9 w9 hown9 hgrow _
           have HB9 := Lib.hid (Below.grown hb7r hgrow (fun g hg => Nat.le_trans hs64 (HO7.out.lt g hg).1) (Nat.le_refl _))
           have HO9 := Lib.hid (show Own 5 1 w9 w.heap.size w9.heap.size v9 (r1 ++ en).length (bc (r1 ++ en)) by
             rw [bc_app r1, List.length_append]
             exact (Own.new hown9).more hs6 (Nat.le_refl _))
           clear hgrow hown9
           go_wp2_with fail
           go_roundw
           case rel => exact ⟨j + 1, _, _, _, Lib.hid ⟨by go_num, rfl, rfl, by omega, HE2.out, HO9.out, HB9.out⟩⟩
           case measure => simp [intOf]; omega
       · obtain rfl : j = cols.length := by omega
         have HRt := Lib.hid (show putGroup cols l = acc by rw [HE.out, Hacc.out])
         go_wp2_with fail
         go_ret
         exact ⟨_, rfl, by rw [HRt.out]; exact Hown.out, hbw⟩
end Go.Proofs.YticimccfeohpcaaGreat
