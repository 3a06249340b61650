/- Places in any dictionary: contracts. -/
import Derived.Test.YticimccfeohpcaaEH
import Derived.Test.YticimccfeohpcaaXF
namespace Go.Lb
theorem plP_step (d : List V) {l : List V} {j : Nat} {y : V} (h : l[j]? = some y) (h1 : (l.take j).all (placesP d) = true) (h2 : placesP d y = true) : (l.take (j + 1)).all (placesP d) = true := by
  rw [take_of_get h, List.all_append, h1]
  simp [h2]
end Go.Lb
namespace Go.Proofs.Yticimccfeohpcaa
open Go.Sort Go.ChangeShapes Go.WideShapes Go.ChangeAt Go.RowKit Go.Lb
set_option maxHeartbeats 4000000 in
set_option maxRecDepth 20000 in
theorem spec_PlacesQ (d l : List V) (x y : Value) (w : World) {lo hi lo' hi' : Nat} (hx : RdV w lo hi x d) (hy : RdV w lo' hi' y l) (hhi : hi ≤ w.heap.size) (hhi' : hi' ≤ w.heap.size) (hn : l.length ≤ 1000000000) :
    Calls Try.prog 76 #[x, y] w fun e w' => ∃ r, e = .returned (.tuple #[r, .bool (placesQ d l).isSome]) ∧ Own 3 1 w' w.heap.size w'.heap.size r ((placesQ d l).getD []).length (((placesQ d l).getD []).map (.int .i64)) ∧ Below w.heap.size w w' := by
  obtain ⟨A, c, rfl, hl, hl2⟩ := hx.form
  obtain ⟨A', c', rfl, hl', hl2'⟩ := hy.form
  obtain ⟨j0, jif, jz0, jz1, jz2⟩ := info_parts info_i64
  replace jif := Lib.hid jif
  replace jz0 := Lib.hid jz0
  replace jz1 := Lib.hid jz1
  replace jz2 := Lib.hid jz2
  have hb0 : Below w.heap.size w (w.alloc (.cells #[] 3)) := up_a1 w _
  have own0 := World.ownsRow_made w (base := w.heap.size) (e := 3) (size := 1) #[] 0 (Nat.le_refl _) (by decide) rfl
  go_enter Try.func76, Try.ntmps76
  go_wp2_with fail
  go_loopw [6, 7, 8] (fun o i u wr => ∃ (j : Nat) (q : List Int) (u0 : Value), Hid (i = .int .i64 j ∧ u = u0 ∧ j ≤ l.length ∧ q.length = j ∧ q = (l.take j).map (inDict d) ∧ (l.take j).all (placesP d) = true ∧ wr.ownsRow w.heap.size 3 1 o j (q.map (.int .i64)) ∧ Below w.heap.size w wr)) (fun _ i _ _ => l.length - (intOf i).toNat)
  case atStart => exact ⟨0, [], _, Lib.hid ⟨rfl, rfl, Nat.zero_le _, rfl, rfl, rfl, own0, hb0⟩⟩
  case round =>
    obtain ⟨j, q, u0, hrel⟩ := hrel
    obtain ⟨rfl, rfl, hj, hql, hq, hall, hown, hb⟩ := hrel.out
    have Hq := Lib.hid hq
    have Hall := Lib.hid hall
    have Hown := Lib.hid hown
    have Hql := Lib.hid hql
    have hbs := hb.size
    obtain ⟨Ao, co, rfl, -, -, -⟩ := (Own.new hown).cells
    clear hrel hq hown own0 hb0 hql hall
    by_cases hjl : j < l.length
    · obtain ⟨b, off, y, rfl, -, hbl, hyk, e0, e1, e2⟩ := (hy.below hb hhi').at hjl
      have Hs := Lib.hid (map_take (inDict d) hyk)
      have hX := hx.below hb hhi
      have hI := spec_InDict d y _ wr hX (by omega)
      have HB := Lib.hid hb
      have hbb := hb
      rcases inDict_cases d y with ⟨-, hk⟩ | ⟨k, hk, -⟩
      · have HN := Lib.hid (placesQ_no hyk (by rw [hk]; decide))
        have dk : decide ((-1 : Int) < 0) = true := rfl
        rw [hk] at hI
        have HI := Lib.hid hI
        clear hI hX hyk hk
        go_wp2_with fail
        refine HI.out.mono ?_
        rintro e w1 ⟨rfl, hb1⟩
        have HB1 := Lib.hid (below_go HB.out hb1)
        have hbs1 := HB1.out.size
        have HOn := Lib.hid (World.ownsRow_made w1 (base := w.heap.size) (e := 3) (size := 1) #[] 0 hbs1 (by decide) rfl)
        have HBn := Lib.hid (HB1.out.alloc hbs1 (.cells #[] 3))
        clear hb1
        go_wp2_with fail
        refine bodyPost_ret (v := .tuple #[.slice (some ⟨w1.heap.size, 0, none⟩) 0 0, .bool false]) (by simp [results, Try.results76, go_sem]) rfl ⟨_, by rw [HN.out]; rfl, ?_, HBn.out⟩
        rw [HN.out]
        exact Own.new HOn.out
      · have dk : decide ((k : Int) < 0) = false := decide_eq_false (by omega)
        have HA := Lib.hid (plP_step d hyk Hall.out (by rw [placesP, hk]; exact decide_eq_true (by omega)))
        rw [hk] at hI
        have HI := Lib.hid hI
        have Hk := Lib.hid hk
        clear hI hX hyk hk
        go_wp2_with fail
        refine HI.out.mono ?_
        rintro e w1 ⟨rfl, hb1⟩
        have HO1 := Lib.hid (owns_below Hown.out hb1)
        have HB1 := Lib.hid (below_go HB.out hb1)
        have hbs1 := HB1.out.size
        clear hb1 HI Hown HB
        go_wp2_with (at_builtin; refine wpl_app rfl _ _ 26 rfl w.heap.size 3 j0 _ 1 8 Try.underlying26 jif.out jz0.out jz1.out jz2.out rfl (by decide) (by decide) (HO1.out.alloc _) rfl (heap_alloc_new _ _) rfl rfl (by simp [Value.oneCell']) (by omega) (by simp; omega) ?_)
        intro v' w3 hown' hgrow hnb
        have HB3 := Lib.hid (Below.grown (HB1.out.alloc HB1.out.size _) hgrow (fun g hg => (HO1.out.lt g hg).1) (Nat.le_refl _))
        have HO3 := Lib.hid (show w3.ownsRow w.heap.size 3 1 v' (j + 1) ((q ++ [(k : Int)]).map (.int .i64)) by
          rw [List.map_append]
          exact hown')
        have HS2 := Lib.hid (show q ++ [(k : Int)] = (l.take (j + 1)).map (inDict d) by rw [Hs.out, Hk.out, ← Hq.out])
        clear hown' hgrow hnb
        go_wp2_with fail
        go_roundw
        case rel => exact ⟨j + 1, q ++ [(k : Int)], _, Lib.hid ⟨by go_num, rfl, by omega, by rw [List.length_append, Hql.out]; rfl, HS2.out, HA.out, HO3.out, HB3.out⟩⟩
        case measure => simp [intOf]; omega
    · obtain rfl : j = l.length := by omega
      have HN := Lib.hid (show placesQ d l = some q by rw [placesQ_yes (by have h := Hall.out; rwa [List.take_length] at h), Hq.out, List.take_length])
      have HOw := Lib.hid (show wr.ownsRow w.heap.size 3 1 (.slice Ao l.length co) q.length (q.map (.int .i64)) by rw [Hql.out]; exact Hown.out)
      go_wp2_with fail
      refine bodyPost_ret (v := .tuple #[.slice Ao l.length co, .bool true]) (by simp [results, Try.results76, go_sem]) rfl ⟨_, by rw [HN.out]; rfl, ?_, hb⟩
      rw [HN.out]
      exact Own.new HOw.out
set_option maxHeartbeats 4000000 in
set_option maxRecDepth 20000 in
theorem impl_PlacesQ (d l : List V) (x y : Value) (w : World) {lo hi lo' hi' : Nat} (hx : RdV w lo hi x d) (hy : RdV w lo' hi' y l) (hhi : hi ≤ w.heap.size) (hhi' : hi' ≤ w.heap.size) (hn : l.length ≤ 1000000000) :
    Calls Try.prog 75 #[x, y] w fun e w' => ∃ r, e = .returned (.tuple #[r, .bool (placesQ d l).isSome]) ∧ Own 3 1 w' w.heap.size w'.heap.size r ((placesQ d l).getD []).length (((placesQ d l).getD []).map (.int .i64)) ∧ Below w.heap.size w w' := by
  obtain ⟨A, c, rfl, hl, hl2⟩ := hx.form
  obtain ⟨A', c', rfl, hl', hl2'⟩ := hy.form
  obtain ⟨j0, jif, jz0, jz1, jz2⟩ := info_parts info_i64
  replace jif := Lib.hid jif
  replace jz0 := Lib.hid jz0
  replace jz1 := Lib.hid jz1
  replace jz2 := Lib.hid jz2
  have hb0 : Below w.heap.size w (w.alloc (.cells #[] 3)) := up_a1 w _
  have own0 := World.ownsRow_made w (base := w.heap.size) (e := 3) (size := 1) #[] 0 (Nat.le_refl _) (by decide) rfl
  go_enter Try.func75, Try.ntmps75
  go_wp2_with fail
  go_loopw [6, 13] (fun o i wr => ∃ (j : Nat) (q : List Int), Hid (i = .int .i64 j ∧ j ≤ l.length ∧ q.length = j ∧ q = (l.take j).map (inDict d) ∧ (l.take j).all (placesP d) = true ∧ wr.ownsRow w.heap.size 3 1 o j (q.map (.int .i64)) ∧ Below w.heap.size w wr)) (fun _ i _ => l.length - (intOf i).toNat)
  case atStart => exact ⟨0, [], Lib.hid ⟨rfl, Nat.zero_le _, rfl, rfl, rfl, own0, hb0⟩⟩
  case round =>
    obtain ⟨j, q, hrel⟩ := hrel
    obtain ⟨rfl, hj, hql, hq, hall, hown, hb⟩ := hrel.out
    have Hq := Lib.hid hq
    have Hall := Lib.hid hall
    have Hown := Lib.hid hown
    have Hql := Lib.hid hql
    have hbs := hb.size
    obtain ⟨Ao, co, rfl, -, -, -⟩ := (Own.new hown).cells
    clear hrel hq hown own0 hb0 hql hall
    by_cases hjl : j < l.length
    · obtain ⟨b, off, y, rfl, -, hbl, hyk, e0, e1, e2⟩ := (hy.below hb hhi').at hjl
      have Hs := Lib.hid (map_take (inDict d) hyk)
      have hX := hx.below hb hhi
      have hup := up_a1 wr (.cells #[.int .i64 y.ty, .int .i64 y.n, .string y.s] 66)
      have hI := impl_InDict d y _ (wr.alloc (.cells #[.int .i64 y.ty, .int .i64 y.n, .string y.s] 66)) (hX.below hup (by omega)) (by have := hup.size; omega)
      have HB := Lib.hid (below_go hb hup)
      replace Hown := Lib.hid (owns_below Hown.out hup)
      have hsz := hup.size
      have n0 := box_new wr #[.int .i64 y.ty, .int .i64 y.n, .string y.s] 66 0
      have n1 := box_new wr #[.int .i64 y.ty, .int .i64 y.n, .string y.s] 66 1
      have n2 := box_new wr #[.int .i64 y.ty, .int .i64 y.n, .string y.s] 66 2
      simp only [List.getElem?_toArray, List.getElem?_cons_zero, List.getElem?_cons_succ] at n0 n1 n2
      obtain ⟨wb, hwb⟩ : ∃ wb, (wr.alloc (.cells #[.int .i64 y.ty, .int .i64 y.n, .string y.s] 66)) = wb := ⟨_, rfl⟩
      rw [hwb] at hI HB Hown hsz n0 n1 n2 hup
      have Hwb := Lib.hid hwb
      clear hwb
      rcases inDict_cases d y with ⟨-, hk⟩ | ⟨k, hk, -⟩
      · have HN := Lib.hid (placesQ_no hyk (by rw [hk]; decide))
        have dk : decide ((-1 : Int) < 0) = true := rfl
        rw [hk] at hI
        have HI := Lib.hid hI
        clear hI hX hyk hk
        go_wp2_with fail
        rw [Hwb.out]
        go_wp2_with fail
        refine HI.out.mono ?_
        rintro e w1 ⟨rfl, hb1⟩
        have HB1 := Lib.hid (below_go HB.out hb1)
        have hbs1 := HB1.out.size
        clear hb1
        go_wp2_with fail
        refine bodyPost_ret (v := .tuple #[.slice none 0 0, .bool false]) (by simp [results, Try.results75, go_sem]) rfl ⟨_, by rw [HN.out]; rfl, ?_, HB1.out⟩
        rw [HN.out]
        exact own_none_s _ _ _ _ _
      · have dk : decide ((k : Int) < 0) = false := decide_eq_false (by omega)
        have HA := Lib.hid (plP_step d hyk Hall.out (by rw [placesP, hk]; exact decide_eq_true (by omega)))
        rw [hk] at hI
        have HI := Lib.hid hI
        have Hk := Lib.hid hk
        clear hI hX hyk hk
        go_wp2_with fail
        rw [Hwb.out]
        go_wp2_with fail
        refine HI.out.mono ?_
        rintro e w1 ⟨rfl, hb1⟩
        have HO1 := Lib.hid (owns_below Hown.out hb1)
        have HB1 := Lib.hid (below_go HB.out hb1)
        have hbs1 := HB1.out.size
        clear hb1 HI Hown HB
        go_wp2_with (at_builtin; refine wpl_app rfl _ _ 26 rfl w.heap.size 3 j0 _ 1 8 Try.underlying26 jif.out jz0.out jz1.out jz2.out rfl (by decide) (by decide) (HO1.out.alloc _) rfl (heap_alloc_new _ _) rfl rfl (by simp [Value.oneCell']) (by omega) (by simp; omega) ?_)
        intro v' w3 hown' hgrow hnb
        have HB3 := Lib.hid (Below.grown (HB1.out.alloc HB1.out.size _) hgrow (fun g hg => (HO1.out.lt g hg).1) (Nat.le_refl _))
        have HO3 := Lib.hid (show w3.ownsRow w.heap.size 3 1 v' (j + 1) ((q ++ [(k : Int)]).map (.int .i64)) by
          rw [List.map_append]
          exact hown')
        have HS2 := Lib.hid (show q ++ [(k : Int)] = (l.take (j + 1)).map (inDict d) by rw [Hs.out, Hk.out, ← Hq.out])
        clear hown' hgrow hnb
        go_wp2_with fail
        go_roundw
        case rel => exact ⟨j + 1, q ++ [(k : Int)], Lib.hid ⟨by go_num, by omega, by rw [List.length_append, Hql.out]; rfl, HS2.out, HA.out, HO3.out, HB3.out⟩⟩
        case measure => simp [intOf]; omega
    · obtain rfl : j = l.length := by omega
      have HN := Lib.hid (show placesQ d l = some q by rw [placesQ_yes (by have h := Hall.out; rwa [List.take_length] at h), Hq.out, List.take_length])
      have HOw := Lib.hid (show wr.ownsRow w.heap.size 3 1 (.slice Ao l.length co) q.length (q.map (.int .i64)) by rw [Hql.out]; exact Hown.out)
      go_wp2_with fail
      refine bodyPost_ret (v := .tuple #[.slice Ao l.length co, .bool true]) (by simp [results, Try.results75, go_sem]) rfl ⟨_, by rw [HN.out]; rfl, ?_, hb⟩
      rw [HN.out]
      exact Own.new HOw.out
end Go.Proofs.Yticimccfeohpcaa
