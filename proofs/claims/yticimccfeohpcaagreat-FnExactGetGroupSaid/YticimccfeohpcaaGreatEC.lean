/- The runs of values: contracts. -/
import Derived.Test.YticimccfeohpcaaGreatMemU
import Derived.Test.YticimccfeohpcaaGreatXL
import Derived.Test.YticimccfeohpcaaGreatXF
import Derived.Test.YticimccfeohpcaaGreatEA
namespace Go.Proofs.YticimccfeohpcaaGreat
open Go.Sort Go.ChangeShapes Go.WideShapes Go.ChangeAt Go.RowKit Go.Lb
theorem below_set47' {B : Nat} {w w' : World} {b o : Nat} {u : Value} (h : Below B w w') (hb : B ≤ b) : Below B w (w'.setCell ⟨b, o, none⟩ u) := Below.setCell h hb u
theorem info_Ru : (Tryz.prog.info? 108).map (fun i => (i.zero, i.size, i.bytes)) = some (some (.agg #[.int .i64 0, .int .i64 0, .string ⟨#[]⟩, .int .i64 0]), 4, 40) := by kernel_rfl
set_option maxHeartbeats 4000000 in
set_option maxRecDepth 20000 in
theorem spec_Runs (l : List V) (x : Value) (w : World) {lo hi : Nat} (hx : RdV w lo hi x l) (hhi : hi ≤ w.heap.size) (hn : l.length ≤ 100000000000) :
    Calls Tryz.prog 145 #[x] w fun e w' => ∃ r, e = .returned r ∧ Own 108 4 w' w.heap.size w'.heap.size r (runs l).length ((runs l).flatMap Ru.cells) ∧ Below w.heap.size w w' := by
  obtain ⟨A, c, rfl, hl, hl2⟩ := hx.form
  obtain ⟨i0, hif, hz0, hz1, hz2⟩ := info_parts info_Ru
  replace hif := Lib.hid hif
  replace hz0 := Lib.hid hz0
  replace hz1 := Lib.hid hz1
  replace hz2 := Lib.hid hz2
  have hgd := guard_V
  have hb0 := up_a1 w (.cells #[] 108)
  have own0 := World.ownsRow_made w (base := w.heap.size) (e := 108) (size := 4) #[] 0 (Nat.le_refl _) (by decide) rfl
  go_enter Tryz.func145, Tryz.ntmps145
  go_wp2_with fail
  go_loopw [3, 4, 5] (fun o i nn wr => ∃ (j : Nat) (q : List Ru) (u : Value), Hid (i = .int .i64 j ∧ nn = u ∧ j ≤ l.length ∧ q = runs (l.take j) ∧ wr.ownsRow w.heap.size 108 4 o q.length (q.flatMap Ru.cells) ∧ Below w.heap.size w wr)) (fun _ i _ _ => l.length - (intOf i).toNat)
  case atStart => exact ⟨0, [], _, Lib.hid ⟨rfl, rfl, by omega, rfl, own0, hb0⟩⟩
  case round =>
      obtain ⟨j, q, u, hrel⟩ := hrel
      obtain ⟨rfl, rfl, hj, hq, hown, hb⟩ := hrel.out
      have Hq := Lib.hid hq
      have hql : q.length ≤ j := by rw [hq]; exact runs_len_take hj
      have Hown := Lib.hid hown
      have hbs := hb.size
      clear hq hown hrel own0 hb0
      by_cases hjl : j < l.length
      · obtain ⟨b, off, y, rfl, -, hbl, hyk, e0, e1, e2⟩ := (hx.below hb hhi).at hjl
        have Hs := Lib.hid (runs_step hyk)
        have Hy := Lib.hid hyk
        clear hyk
        rcases List.eq_nil_or_concat q with rfl | ⟨p, r, hpq⟩
        · have HS2 := Lib.hid (show runs (l.take (j + 1)) = [] ++ [(⟨y, 1⟩ : Ru)] by rw [Hs.out, ← Hq.out, runStep_nil]; rfl)
          obtain ⟨Ao, co, rfl, -, -, -⟩ := (Own.new Hown.out).cells
          simp only [List.length_nil]
          go_wp2_with fail
          refine wp_region_quiet_below (by kernel_rfl) (by kernel_rfl) ?_
          repeat (go_big_quiet_step (fail))
          refine wpQuiet_nil ?_
          intro wq hw'
          obtain ⟨⟨dq, osq⟩, hw''⟩ := hw'
          have hbq := below_regrown wr dq osq
          rw [← hw''] at hbq
          clear hw''
          have x0 := cell_keep e0 hbq
          have x1 := cell_keep e1 hbq
          have x2 := cell_keep e2 hbq
          have HO := Lib.hid (owns_below Hown.out hbq)
          have HBq := Lib.hid (below_go hb hbq)
          have hbqs := hbq.size
          clear hbq e0 e1 e2
          go_wp2_with (at_builtin; refine wpl_app rfl _ _ 106 rfl w.heap.size 108 i0 _ 4 40 Tryz.underlying106 hif.out hz0.out hz1.out hz2.out rfl (by decide) (by decide) (HO.out.alloc _) rfl (heap_alloc_new _ _) rfl rfl (by simp [Value.oneCell']) (by omega) (by have := HBq.out.size; simp; omega) ?_)
          intro v' w3 hown' hgrow hnb
          have HB3 := Lib.hid (Below.grown (HBq.out.alloc HBq.out.size _) hgrow (fun g hg => (HO.out.lt g hg).1) (Nat.le_refl _))
          have HO3 := Lib.hid (show w3.ownsRow w.heap.size 108 4 v' (([] : List Ru) ++ [(⟨y, 1⟩ : Ru)]).length ((([] : List Ru) ++ [(⟨y, 1⟩ : Ru)]).flatMap Ru.cells) by
            rw [List.length_append, List.flatMap_append]
            simpa [Ru.cells, V.cells] using hown')
          clear hown' hgrow hnb
          go_wp2_with fail
          go_roundw
          case rel => exact ⟨j + 1, ([] : List Ru) ++ [(⟨y, 1⟩ : Ru)], _, Lib.hid ⟨by go_num, rfl, by omega, HS2.out.symm, HO3.out, HB3.out⟩⟩
          case measure => simp [intOf]; omega
        · rw [List.concat_eq_append] at hpq
          subst hpq
          obtain ⟨g, cap, eo, hgl, hgh, hcap, hcap2, hcells, hfz⟩ := owns_formS Hown.out (by simp)
          subst eo
          obtain ⟨m, hm⟩ : ∃ m, p.length = m := ⟨_, rfl⟩
          have hml : (p ++ [r]).length = m + 1 := by rw [List.length_append, hm]; rfl
          have hrk := runs_k hj (show r ∈ runs (l.take j) by rw [← Hq.out]; simp)
          have r0 := hcells _ _ (ru_last p r 0 (by omega))
          have r1 := hcells _ _ (ru_last p r 1 (by omega))
          have r2 := hcells _ _ (ru_last p r 2 (by omega))
          have r3 := hcells _ _ (ru_last p r 3 (by omega))
          simp only [Nat.add_zero] at r0
          rw [hm] at r0 r1 r2 r3
          have Hm := Lib.hid hm
          rw [hml] at hcap ⊢
          have HownM := Lib.hid (show wr.ownsRow w.heap.size 108 4 (.slice (some ⟨g, 0, none⟩) (m + 1) cap) (m + 1) ((p ++ [r]).flatMap Ru.cells) by rw [← hml]; exact Hown.out)
          have hmj : m + 1 ≤ j := by rw [hml] at hql; exact hql
          clear hcells hm Hown hml hql
          have HY := eql_V r.v y
          by_cases hry : r.v = y
          · have hd : eqd r.v y = true := eqd_of hry
            rw [hd] at HY
            have HS2 := Lib.hid (show runs (l.take (j + 1)) = p ++ [⟨r.v, r.k + 1⟩] by rw [Hs.out, ← Hq.out, ← hry, runStep_same])
            clear hd hry
            go_wp2_with fail
            have q_0 := cell_regrown (w := wr) r0
            have q_1 := cell_regrown (w := wr) r1
            have q_2 := cell_regrown (w := wr) r2
            have q_3 := cell_regrown (w := wr) e0
            have q_4 := cell_regrown (w := wr) e1
            have q_5 := cell_regrown (w := wr) e2
            refine wp_region_quiet_below (by kernel_rfl) (by kernel_rfl) ?_
            repeat (go_big_quiet_step (fail))
            refine wpQuiet_nil ?_
            intro wq hw'
            obtain ⟨⟨dq, osq⟩, hw''⟩ := hw'
            have hbq := below_regrown wr dq osq
            rw [← hw''] at hbq
            clear hw''
            clear q_0 q_1 q_2 q_3 q_4 q_5
            have y3 := cell_keep r3 hbq
            have y4 := fun o => ((bcell hbq).2 g o hgh).trans (hfz o)
            have HOq := owns_below HownM.out hbq
            have HBq := Lib.hid (below_go hb hbq)
            have hghq : g < wq.heap.size := Nat.lt_of_lt_of_le hgh hbq.size
            clear hbq HY r0 r1 r2 r3 e0 e1 e2
            have HO3 := Lib.hid (show (wq.setCell ⟨g, m * 4 + 3, none⟩ (.int .i64 (r.k + 1))).ownsRow w.heap.size 108 4 (.slice (some ⟨g, 0, none⟩) (m + 1) cap) (p ++ [(⟨r.v, r.k + 1⟩ : Ru)]).length ((p ++ [(⟨r.v, r.k + 1⟩ : Ru)]).flatMap Ru.cells) by
              rw [← ru_set, Hm.out, show (p ++ [(⟨r.v, r.k + 1⟩ : Ru)]).length = m + 1 by rw [List.length_append, Hm.out]; rfl]
              exact owns_putS HOq)
            have HB3 := Lib.hid (below_set47' HBq.out hgl (o := m * 4 + 3) (u := .int .i64 (r.k + 1)))
            clear HOq
            go_wp2_with fail
            go_roundw
            case rel => exact ⟨j + 1, p ++ [(⟨r.v, r.k + 1⟩ : Ru)], _, Lib.hid ⟨by go_num, rfl, by omega, HS2.out.symm, HO3.out, HB3.out⟩⟩
            case measure => simp [intOf]; omega
          · have hd : eqd r.v y = false := eqd_no hry
            rw [hd] at HY
            have HS2 := Lib.hid (show runs (l.take (j + 1)) = p ++ [r] ++ [(⟨y, 1⟩ : Ru)] by rw [Hs.out, ← Hq.out, runStep_else p hry])
            clear hd hry
            go_wp2_with fail
            have q_0 := cell_regrown (w := wr) r0
            have q_1 := cell_regrown (w := wr) r1
            have q_2 := cell_regrown (w := wr) r2
            have q_3 := cell_regrown (w := wr) e0
            have q_4 := cell_regrown (w := wr) e1
            have q_5 := cell_regrown (w := wr) e2
            refine wp_region_quiet_below (by kernel_rfl) (by kernel_rfl) ?_
            repeat (go_big_quiet_step (fail))
            refine wpQuiet_nil ?_
            intro wq hw'
            obtain ⟨⟨dq, osq⟩, hw''⟩ := hw'
            have hbq := below_regrown wr dq osq
            rw [← hw''] at hbq
            clear hw''
            clear q_0 q_1 q_2 q_3 q_4 q_5
            have x0 := cell_keep e0 hbq
            have x1 := cell_keep e1 hbq
            have x2 := cell_keep e2 hbq
            have HO := Lib.hid (owns_below HownM.out hbq)
            have HBq := Lib.hid (below_go hb hbq)
            have hbqs := hbq.size
            have Hml := Lib.hid (show (p ++ [r]).length = m + 1 by rw [List.length_append, Hm.out]; rfl)
            clear hbq e0 e1 e2 r0 r1 r2 r3 HY hfz
            go_wp2_with (at_builtin; refine wpl_app rfl _ _ 106 rfl w.heap.size 108 i0 _ 4 40 Tryz.underlying106 hif.out hz0.out hz1.out hz2.out rfl (by decide) (by decide) (HO.out.alloc _) rfl (heap_alloc_new _ _) rfl rfl (by simp [Value.oneCell']) (by omega) (by have := HBq.out.size; simp; omega) ?_)
            intro v' w3 hown' hgrow hnb
            have HB3 := Lib.hid (Below.grown (HBq.out.alloc HBq.out.size _) hgrow (fun g hg => (HO.out.lt g hg).1) (Nat.le_refl _))
            have HO3 := Lib.hid (show w3.ownsRow w.heap.size 108 4 v' ((p ++ [r]) ++ [(⟨y, 1⟩ : Ru)]).length (((p ++ [r]) ++ [(⟨y, 1⟩ : Ru)]).flatMap Ru.cells) by
              rw [List.length_append, List.flatMap_append, Hml.out]
              simpa [Ru.cells, V.cells] using hown')
            clear hown' hgrow hnb
            go_wp2_with fail
            go_roundw
            case rel => exact ⟨j + 1, (p ++ [r]) ++ [(⟨y, 1⟩ : Ru)], _, Lib.hid ⟨by go_num, rfl, by omega, HS2.out.symm, HO3.out, HB3.out⟩⟩
            case measure => simp [intOf]; omega
      · obtain rfl : j = l.length := by omega
        have HE := Lib.hid (show runs l = q by rw [Hq.out, List.take_length])
        obtain ⟨Ao, co, rfl, -, -, -⟩ := (Own.new Hown.out).cells
        go_wp2_with fail
        go_ret
        exact ⟨_, rfl, by rw [HE.out]; exact .new Hown.out, hb⟩
set_option maxHeartbeats 4000000 in
set_option maxRecDepth 20000 in
theorem impl_Runs (l : List V) (x : Value) (w : World) {lo hi : Nat} (hx : RdV w lo hi x l) (hhi : hi ≤ w.heap.size) (hn : l.length ≤ 100000000000) :
    Calls Tryz.prog 138 #[x] w fun e w' => ∃ r, e = .returned r ∧ Own 108 4 w' w.heap.size w'.heap.size r (runs l).length ((runs l).flatMap Ru.cells) ∧ Below w.heap.size w w' := by
  obtain ⟨A, c, rfl, hl, hl2⟩ := hx.form
  obtain ⟨i0, hif, hz0, hz1, hz2⟩ := info_parts info_Ru
  replace hif := Lib.hid hif
  replace hz0 := Lib.hid hz0
  replace hz1 := Lib.hid hz1
  replace hz2 := Lib.hid hz2
  have hgd := guard_V
  have hb0 := up_a1 w (.cells #[] 108)
  have own0 := World.ownsRow_made w (base := w.heap.size) (e := 108) (size := 4) #[] 0 (Nat.le_refl _) (by decide) rfl
  go_enter Tryz.func138, Tryz.ntmps138
  go_wp2_with fail
  go_loopw [3, 9] (fun o i wr => ∃ (j : Nat) (q : List Ru), Hid (i = .int .i64 j ∧ j ≤ l.length ∧ q = runs (l.take j) ∧ wr.ownsRow w.heap.size 108 4 o q.length (q.flatMap Ru.cells) ∧ Below w.heap.size w wr)) (fun _ i _ => l.length - (intOf i).toNat)
  case atStart => exact ⟨0, [], Lib.hid ⟨rfl, by omega, rfl, own0, hb0⟩⟩
  case round =>
      obtain ⟨j, q, hrel⟩ := hrel
      obtain ⟨rfl, hj, hq, hown, hb⟩ := hrel.out
      have Hq := Lib.hid hq
      have hql : q.length ≤ j := by rw [hq]; exact runs_len_take hj
      have Hown := Lib.hid hown
      have hbs := hb.size
      clear hq hown hrel own0 hb0
      by_cases hjl : j < l.length
      · obtain ⟨b, off, y, rfl, -, hbl, hyk, e0, e1, e2⟩ := (hx.below hb hhi).at hjl
        have Hs := Lib.hid (runs_step hyk)
        have Hy := Lib.hid hyk
        clear hyk
        have hup : Below wr.heap.size wr (wr.alloc (.cells #[.int .i64 y.ty, .int .i64 y.n, .string y.s] 83)) := up_a1 wr _
        have x0 := cell_keep e0 hup
        have x1 := cell_keep e1 hup
        have x2 := cell_keep e2 hup
        have n0 := box_new wr #[.int .i64 y.ty, .int .i64 y.n, .string y.s] 83 0
        have n1 := box_new wr #[.int .i64 y.ty, .int .i64 y.n, .string y.s] 83 1
        have n2 := box_new wr #[.int .i64 y.ty, .int .i64 y.n, .string y.s] 83 2
        simp only [List.getElem?_toArray, List.getElem?_cons_zero, List.getElem?_cons_succ] at n0 n1 n2
        rcases Nat.eq_zero_or_pos j with hj0 | hj0
        · obtain rfl : q = [] := List.eq_nil_of_length_eq_zero (by omega)
          have HS2 := Lib.hid (show runs (l.take (j + 1)) = [] ++ [(⟨y, 1⟩ : Ru)] by rw [Hs.out, ← Hq.out, runStep_nil]; rfl)
          have hd0 : decide ((0 : Int) < (j : Int)) = false := decide_eq_false (by omega)
          have hd1 : decide (0 < j) = false := decide_eq_false (by omega)
          clear hj0
          obtain ⟨Ao, co, rfl, -, -, -⟩ := (Own.new Hown.out).cells
          simp only [List.length_nil]
          go_wp2_with fail
          refine wp_region_quiet_below (by kernel_rfl) (by kernel_rfl) ?_
          repeat (go_big_quiet_step (fail))
          refine wpQuiet_nil ?_
          intro wq hw'
          obtain ⟨⟨dq, osq⟩, hw''⟩ := hw'
          have hbq := below_regrown (wr.alloc (.cells #[.int .i64 y.ty, .int .i64 y.n, .string y.s] 83)) dq osq
          rw [← hw''] at hbq
          clear hw''
          have m0 := cell_keep n0 hbq
          have m1 := cell_keep n1 hbq
          have m2 := cell_keep n2 hbq
          have HO := Lib.hid (owns_below (Hown.out.alloc _) hbq)
          have HBq := Lib.hid (below_go (hb.alloc hbs _) hbq)
          have hbqs := hbq.size
          clear hbq e0 e1 e2 x0 x1 x2 n0 n1 n2 hup
          go_wp2_with (at_builtin; refine wpl_app rfl _ _ 106 rfl w.heap.size 108 i0 _ 4 40 Tryz.underlying106 hif.out hz0.out hz1.out hz2.out rfl (by decide) (by decide) (HO.out.alloc _) rfl (heap_alloc_new _ _) rfl rfl (by simp [Value.oneCell']) (by omega) (by have := HBq.out.size; simp; omega) ?_)
          intro v' w3 hown' hgrow hnb
          have HB3 := Lib.hid (Below.grown (HBq.out.alloc HBq.out.size _) hgrow (fun g hg => (HO.out.lt g hg).1) (Nat.le_refl _))
          have HO3 := Lib.hid (show w3.ownsRow w.heap.size 108 4 v' (([] : List Ru) ++ [(⟨y, 1⟩ : Ru)]).length ((([] : List Ru) ++ [(⟨y, 1⟩ : Ru)]).flatMap Ru.cells) by
            rw [List.length_append, List.flatMap_append]
            simpa [Ru.cells, V.cells] using hown')
          clear hown' hgrow hnb
          go_wp2_with fail
          go_roundw
          case rel => exact ⟨j + 1, ([] : List Ru) ++ [(⟨y, 1⟩ : Ru)], Lib.hid ⟨by go_num, by omega, HS2.out.symm, HO3.out, HB3.out⟩⟩
          case measure => simp [intOf]; omega
        · obtain ⟨j', rfl⟩ : ∃ j', j = j' + 1 := ⟨j - 1, by omega⟩
          obtain ⟨z, hz⟩ : ∃ z, l[j']? = some z := ⟨_, List.getElem?_eq_getElem (by omega)⟩
          obtain ⟨p, r, hpr, hrz⟩ := runs_split hz
          obtain rfl : q = p ++ [r] := by rw [Hq.out, hpr]
          obtain ⟨b', off', z', e', -, hbl', hz', f0, f1, f2⟩ := (hx.below hb hhi).at (show j' < l.length by omega)
          injection e' with e'
          injection e' with e1' e2'
          subst e1' e2'
          obtain rfl : z = z' := by rw [hz] at hz'; injection hz'
          subst hrz
          have y0 := cell_keep f0 hup
          have y1 := cell_keep f1 hup
          have y2 := cell_keep f2 hup
          have hd0 : decide ((0 : Int) < ((j' + 1 : Nat) : Int)) = true := decide_eq_true (by omega)
          clear hz hz' hpr f0 f1 f2
          obtain ⟨g, cap, eo, hgl, hgh, hcap, hcap2, hcells, hfz⟩ := owns_formS Hown.out (by simp)
          subst eo
          obtain ⟨m, hm⟩ : ∃ m, p.length = m := ⟨_, rfl⟩
          have hml : (p ++ [r]).length = m + 1 := by rw [List.length_append, hm]; rfl
          have hrk := runs_k hj (show r ∈ runs (l.take (j' + 1)) by rw [← Hq.out]; simp)
          have r0 := hcells _ _ (ru_last p r 0 (by omega))
          have r1 := hcells _ _ (ru_last p r 1 (by omega))
          have r2 := hcells _ _ (ru_last p r 2 (by omega))
          have r3 := hcells _ _ (ru_last p r 3 (by omega))
          simp only [Nat.add_zero] at r0
          rw [hm] at r0 r1 r2 r3
          have Hm := Lib.hid hm
          rw [hml] at hcap ⊢
          have HownM := Lib.hid (show wr.ownsRow w.heap.size 108 4 (.slice (some ⟨g, 0, none⟩) (m + 1) cap) (m + 1) ((p ++ [r]).flatMap Ru.cells) by rw [← hml]; exact Hown.out)
          have hmj : m + 1 ≤ j' + 1 := by rw [hml] at hql; exact hql
          clear hcells hm Hown hml hql
          have HY := eql_V r.v y
          by_cases hry : r.v = y
          · have hd : eqd r.v y = true := eqd_of hry
            rw [hd] at HY
            have HS2 := Lib.hid (show runs (l.take (j' + 1 + 1)) = p ++ [(⟨r.v, r.k + 1⟩ : Ru)] by rw [Hs.out, ← Hq.out, ← hry, runStep_same])
            clear hd hry
            go_wp2_with fail
            have q_0 := cell_regrown (w := (wr.alloc (.cells #[.int .i64 y.ty, .int .i64 y.n, .string y.s] 83))) y0
            have q_1 := cell_regrown (w := (wr.alloc (.cells #[.int .i64 y.ty, .int .i64 y.n, .string y.s] 83))) y1
            have q_2 := cell_regrown (w := (wr.alloc (.cells #[.int .i64 y.ty, .int .i64 y.n, .string y.s] 83))) y2
            have q_3 := cell_regrown (w := (wr.alloc (.cells #[.int .i64 y.ty, .int .i64 y.n, .string y.s] 83))) n0
            have q_4 := cell_regrown (w := (wr.alloc (.cells #[.int .i64 y.ty, .int .i64 y.n, .string y.s] 83))) n1
            have q_5 := cell_regrown (w := (wr.alloc (.cells #[.int .i64 y.ty, .int .i64 y.n, .string y.s] 83))) n2
            refine wp_region_quiet_below (by kernel_rfl) (by kernel_rfl) ?_
            repeat (go_big_quiet_step (fail))
            refine wpQuiet_nil ?_
            intro wq hw'
            obtain ⟨⟨dq, osq⟩, hw''⟩ := hw'
            have hbq := below_regrown (wr.alloc (.cells #[.int .i64 y.ty, .int .i64 y.n, .string y.s] 83)) dq osq
            rw [← hw''] at hbq
            clear hw''
            clear q_0 q_1 q_2 q_3 q_4 q_5
            have y3 := cell_keep (cell_keep r3 hup) hbq
            have y4 := fun o => ((bcell (below_go0 hup hbq)).2 g o hgh).trans (hfz o)
            have HOq := owns_below HownM.out (below_go0 hup hbq)
            have HBq := Lib.hid (below_go hb (below_go0 hup hbq))
            have hghq : g < wq.heap.size := Nat.lt_of_lt_of_le hgh (below_go0 hup hbq).size
            clear hbq HY r0 r1 r2 r3 e0 e1 e2 x0 x1 x2 n0 n1 n2 y0 y1 y2
            have HO3 := Lib.hid (show (wq.setCell ⟨g, m * 4 + 3, none⟩ (.int .i64 (r.k + 1))).ownsRow w.heap.size 108 4 (.slice (some ⟨g, 0, none⟩) (m + 1) cap) (p ++ [(⟨r.v, r.k + 1⟩ : Ru)]).length ((p ++ [(⟨r.v, r.k + 1⟩ : Ru)]).flatMap Ru.cells) by
              rw [← ru_set, Hm.out, show (p ++ [(⟨r.v, r.k + 1⟩ : Ru)]).length = m + 1 by rw [List.length_append, Hm.out]; rfl]
              exact owns_putS HOq)
            have HB3 := Lib.hid (below_set47' HBq.out hgl (o := m * 4 + 3) (u := .int .i64 (r.k + 1)))
            clear HOq
            go_wp2_with fail
            go_roundw
            case rel => exact ⟨j' + 1 + 1, p ++ [(⟨r.v, r.k + 1⟩ : Ru)], Lib.hid ⟨by go_num, by omega, HS2.out.symm, HO3.out, HB3.out⟩⟩
            case measure => simp [intOf]; omega
          · have hd : eqd r.v y = false := eqd_no hry
            rw [hd] at HY
            have HS2 := Lib.hid (show runs (l.take (j' + 1 + 1)) = p ++ [r] ++ [(⟨y, 1⟩ : Ru)] by rw [Hs.out, ← Hq.out, runStep_else p hry])
            clear hd hry
            go_wp2_with fail
            have q_0 := cell_regrown (w := (wr.alloc (.cells #[.int .i64 y.ty, .int .i64 y.n, .string y.s] 83))) y0
            have q_1 := cell_regrown (w := (wr.alloc (.cells #[.int .i64 y.ty, .int .i64 y.n, .string y.s] 83))) y1
            have q_2 := cell_regrown (w := (wr.alloc (.cells #[.int .i64 y.ty, .int .i64 y.n, .string y.s] 83))) y2
            have q_3 := cell_regrown (w := (wr.alloc (.cells #[.int .i64 y.ty, .int .i64 y.n, .string y.s] 83))) n0
            have q_4 := cell_regrown (w := (wr.alloc (.cells #[.int .i64 y.ty, .int .i64 y.n, .string y.s] 83))) n1
            have q_5 := cell_regrown (w := (wr.alloc (.cells #[.int .i64 y.ty, .int .i64 y.n, .string y.s] 83))) n2
            refine wp_region_quiet_below (by kernel_rfl) (by kernel_rfl) ?_
            repeat (go_big_quiet_step (fail))
            refine wpQuiet_nil ?_
            intro wq hw'
            obtain ⟨⟨dq, osq⟩, hw''⟩ := hw'
            have hbq := below_regrown (wr.alloc (.cells #[.int .i64 y.ty, .int .i64 y.n, .string y.s] 83)) dq osq
            rw [← hw''] at hbq
            clear hw''
            clear q_0 q_1 q_2 q_3 q_4 q_5
            have m0 := cell_keep n0 hbq
            have m1 := cell_keep n1 hbq
            have m2 := cell_keep n2 hbq
            have HO := Lib.hid (owns_below (HownM.out.alloc _) hbq)
            have HBq := Lib.hid (below_go (hb.alloc hbs _) hbq)
            have hbqs := hbq.size
            have Hml := Lib.hid (show (p ++ [r]).length = m + 1 by rw [List.length_append, Hm.out]; rfl)
            clear hbq e0 e1 e2 x0 x1 x2 r0 r1 r2 r3 HY hfz n0 n1 n2 y0 y1 y2 hup
            go_wp2_with (at_builtin; refine wpl_app rfl _ _ 106 rfl w.heap.size 108 i0 _ 4 40 Tryz.underlying106 hif.out hz0.out hz1.out hz2.out rfl (by decide) (by decide) (HO.out.alloc _) rfl (heap_alloc_new _ _) rfl rfl (by simp [Value.oneCell']) (by omega) (by have := HBq.out.size; simp; omega) ?_)
            intro v' w3 hown' hgrow hnb
            have HB3 := Lib.hid (Below.grown (HBq.out.alloc HBq.out.size _) hgrow (fun g hg => (HO.out.lt g hg).1) (Nat.le_refl _))
            have HO3 := Lib.hid (show w3.ownsRow w.heap.size 108 4 v' ((p ++ [r]) ++ [(⟨y, 1⟩ : Ru)]).length (((p ++ [r]) ++ [(⟨y, 1⟩ : Ru)]).flatMap Ru.cells) by
              rw [List.length_append, List.flatMap_append, Hml.out]
              simpa [Ru.cells, V.cells] using hown')
            clear hown' hgrow hnb
            go_wp2_with fail
            go_roundw
            case rel => exact ⟨j' + 1 + 1, (p ++ [r]) ++ [(⟨y, 1⟩ : Ru)], Lib.hid ⟨by go_num, by omega, HS2.out.symm, HO3.out, HB3.out⟩⟩
            case measure => simp [intOf]; omega
      · obtain rfl : j = l.length := by omega
        have HE := Lib.hid (show runs l = q by rw [Hq.out, List.take_length])
        obtain ⟨Ao, co, rfl, -, -, -⟩ := (Own.new Hown.out).cells
        go_wp2_with fail
        go_ret
        exact ⟨_, rfl, by rw [HE.out]; exact .new Hown.out, hb⟩
end Go.Proofs.YticimccfeohpcaaGreat
