/- Of equal neighbours one (slices.Compact at a list of values): the contract. -/
import Derived.Test.YticimccfeohpcaaGreatMemS
import Derived.Test.YticimccfeohpcaaGreatXL
import Derived.Test.YticimccfeohpcaaGreatEA
namespace Go.Proofs.YticimccfeohpcaaGreat
open Go.Sort Go.ChangeShapes Go.WideShapes Go.ChangeAt Go.RowKit Go.Lb
theorem owns_atV {w : World} {base e g N c k : Nat} {l : List V} {x : V} (h : w.ownsRow base e 3 (.slice (some ⟨g, 0, none⟩) N c) N (l.flatMap V.cells)) (hk : l[k]? = some x) :
    w.cell? ⟨g, k * 3, none⟩ = some (.int .i64 x.ty) ∧ w.cell? ⟨g, k * 3 + 1, none⟩ = some (.int .i64 x.n) ∧ w.cell? ⟨g, k * 3 + 2, none⟩ = some (.string x.s) := by
  have hl := h.1
  rw [flat_len V.cells 3 V.cells_len] at hl
  have hkl := (List.getElem?_eq_some_iff.1 hk).1
  have hg : ∀ j, j < 3 → w.cell? ⟨g, k * 3 + j, none⟩ = (V.cells x)[j]? := fun j hj => (h.cellAt _ (by omega)).trans (flat_get V.cells 3 V.cells_len l k j x hk hj)
  exact ⟨hg 0 (by omega), hg 1 (by omega), hg 2 (by omega)⟩
theorem frozen_own {w : World} {base e g N c o : Nat} {xs : List Value} (h : w.ownsRow base e 3 (.slice (some ⟨g, 0, none⟩) N c) N xs) : w.frozen? ⟨g, o, none⟩ = false := by
  rcases h.2 with ⟨e1, -⟩ | ⟨g', cap, cur, e1, hb, hg, -⟩
  · cases e1
  · injection e1 with e1 e2 e3
    injection e1 with e1
    injection e1 with e1
    subst e1
    exact frozen_of_row w g o cur _ hg
theorem zero_V (w : World) : (zeroValue 83).run Tryz.prog w = .ok (.agg #[.int .i64 0, .int .i64 0, .string ⟨#[]⟩]) w := by kernel_rfl
theorem below_grown_g {B g : Nat} {w w1 w' : World} (h : Below B w w1) (hg : w1.grownBy w' (some g)) (hb : B ≤ g) (hB : B ≤ w.heap.size) : Below B w w' :=
  Below.grown h hg (fun b e => by injection e with e; omega) hB
set_option maxHeartbeats 4000000 in
set_option maxRecDepth 20000 in
theorem slices_CompactV (l : List V) (g c base : Nat) (w : World) (h : w.ownsRow base 83 3 (.slice (some ⟨g, 0, none⟩) l.length c) l.length (l.flatMap V.cells)) (hbase : base ≤ w.heap.size) (hn : l.length ≤ 1000000000) :
    Calls Tryz.prog 175 #[.slice (some ⟨g, 0, none⟩) l.length c] w fun e w' => e = .returned (.slice (some ⟨g, 0, none⟩) (compV l).length c) ∧ w'.ownsRow base 83 3 (.slice (some ⟨g, 0, none⟩) (compV l).length c) (compV l).length ((compV l).flatMap V.cells) ∧ Below base w w' := by
  have hgd := guard_V
  by_cases h2 : l.length < 2
  · have HE := Lib.hid (comp_one l h2)
    have hd : decide ((l.length : Int) < 2) = true := decide_eq_true (by omega)
    have H := Lib.hid h
    clear h
    go_enter Tryz.func175, Tryz.ntmps175
    go_wp2_with fail
    go_ret
    exact ⟨by rw [HE.out]; rfl, by rw [HE.out]; exact H.out, Below.refl _ _⟩
  · have hd : decide ((l.length : Int) < 2) = false := decide_eq_false (by omega)
    obtain ⟨g', cap, eg, hgl, hgh, hcap, hcap2, -, -⟩ := owns_formS h (show 0 < l.length by omega)
    injection eg with eg1 eg2 eg3
    injection eg1 with eg1
    injection eg1 with eg1
    subst eg1 eg3
    have H := Lib.hid h
    clear h eg2
    go_enter Tryz.func175, Tryz.ntmps175
    go_wp2_with fail
    go_loopw [3] (fun i wr => ∃ k : Nat, Hid (i = .int .i64 k ∧ 1 ≤ k ∧ k ≤ l.length ∧ compV (l.take k) = l.take k ∧ Below w.heap.size w wr)) (fun i _ => l.length - (intOf i).toNat)
    case atStart => exact ⟨1, Lib.hid ⟨rfl, Nat.le_refl _, by omega, comp_first (by omega), Below.refl _ _⟩⟩
    case round =>
      obtain ⟨k, hrel⟩ := hrel
      obtain ⟨rfl, hk1, hkl, hck, hb⟩ := hrel.out
      obtain ⟨j, rfl⟩ : ∃ j, k = j + 1 := ⟨k - 1, by omega⟩
      have Hck := Lib.hid hck
      have HO := Lib.hid (owns_below H.out hb)
      have hbs := hb.size
      have hgw : g < wr.heap.size := Nat.lt_of_lt_of_le hgh hbs
      clear hrel hck hk1
      by_cases hjl : j + 1 < l.length
      · obtain ⟨a, ha⟩ : ∃ a, l[j]? = some a := ⟨_, List.getElem?_eq_getElem (by omega)⟩
        obtain ⟨y, hy⟩ : ∃ y, l[j + 1]? = some y := ⟨_, List.getElem?_eq_getElem hjl⟩
        have HY := eql_V y a
        obtain ⟨e0, e1, e2⟩ := owns_atV HO.out ha
        obtain ⟨f0, f1, f2⟩ := owns_atV HO.out hy
        by_cases hya : y = a
        · subst hya
          rw [eqd_self] at HY
          have HI := Lib.hid (CInv.start Hck.out ha hy)
          have n1 : ¬ c = j + 1 := by omega
          have i1 : (0 : Int) ≤ ((j + 1 : Nat) : Int) := by omega
          have i2 : ((j + 1 : Nat) : Int) ≤ (c : Int) := by omega
          have i3 : ((j + 1 : Nat) : Int) ≤ (l.length : Int) := by omega
          clear ha hy
          go_wp2_with fail
          have q_0 := cell_regrown (w := wr) e0
          have q_1 := cell_regrown (w := wr) e1
          have q_2 := cell_regrown (w := wr) e2
          have q_3 := cell_regrown (w := wr) f0
          have q_4 := cell_regrown (w := wr) f1
          have q_5 := cell_regrown (w := wr) f2
          refine wp_region_quiet_below (by kernel_rfl) (by kernel_rfl) ?_
          repeat (go_big_quiet_step (fail))
          refine wpQuiet_nil ?_
          intro wq hw'
          obtain ⟨⟨dq, osq⟩, hw''⟩ := hw'
          have hbq := below_regrown wr dq osq
          rw [← hw''] at hbq
          clear hw''
          clear q_0 q_1 q_2 q_3 q_4 q_5
          have HOq := Lib.hid (owns_below HO.out hbq)
          have HBq := Lib.hid (below_go hb hbq)
          have hgq : g < wq.heap.size := Nat.lt_of_lt_of_le hgw hbq.size
          clear hbq e0 e1 e2 f0 f1 f2 HY HO
          go_wp2_with fail
          have hkn : j + 1 + (l.length - (j + 1)) = l.length := by omega
          generalize hk0 : j + 1 = k0 at *
          generalize hn2 : l.length - k0 = n2 at *
          generalize hc2 : c - k0 = c2 at *
          have hc2l : n2 ≤ c2 := by omega
          clear n1 i1 i2 i3
          have HI0 := HI
          obtain ⟨wo, hwo⟩ : ∃ wo, wo = wr := ⟨_, rfl⟩
          subst hwo
          clear hk0 hn2 hc2
          go_loopw [3, 5] (fun a b wr => ∃ (u m : Nat) (cur : List V), Hid (b = .int .i64 ((u + 1 : Nat) : Int) ∧ a = .int .i64 m ∧ u + 1 ≤ n2 ∧ CInv l cur (k0 + u) m ∧ wr.ownsRow base 83 3 (.slice (some ⟨g, 0, none⟩) l.length c) l.length (cur.flatMap V.cells) ∧ Below base wq wr)) (fun _ b _ => n2 - (intOf b).toNat)
          case atStart => exact ⟨0, k0, l, Lib.hid ⟨by simp, rfl, by omega, HI0.out, HOq.out, Below.refl _ _⟩⟩
          case round =>
            obtain ⟨u, m, cur, hrel⟩ := hrel
            obtain ⟨rfl, rfl, hun, hci, hown, hbr⟩ := hrel.out
            have hmj := hci.mj
            have hcl := hci.len
            have HCI := Lib.hid hci
            have HOw := Lib.hid hown
            have hfz := fun o => frozen_own hown (o := o)
            have hgr : g < wr.heap.size := Nat.lt_of_lt_of_le hgq hbr.size
            have hbs2 : base ≤ wr.heap.size := by omega
            clear hrel hci hown HOq HI HI0
            by_cases hul : u + 1 < n2
            · obtain ⟨a, ha⟩ : ∃ a, l[k0 + u]? = some a := ⟨_, List.getElem?_eq_getElem (by omega)⟩
              obtain ⟨z, hz⟩ : ∃ z, l[k0 + u + 1]? = some z := ⟨_, List.getElem?_eq_getElem (by omega)⟩
              have HY := neq_V z a
              obtain ⟨e0, e1, e2⟩ := owns_atV HOw.out ((HCI.out.dr (k0 + u) (Nat.le_refl _)).trans ha)
              obtain ⟨f0, f1, f2⟩ := owns_atV HOw.out ((HCI.out.dr (k0 + u + 1) (by omega)).trans hz)
              rw [show (k0 + u) * 3 = k0 * 3 + u * 3 by omega] at e0 e1 e2
              rw [show (k0 + u + 1) * 3 = k0 * 3 + (u + 1) * 3 by omega] at f0 f1 f2
              by_cases hza : z = a
              · subst hza
                rw [eqd_self] at HY
                have HI2 := Lib.hid (HCI.out.same ha hz)
                clear ha hz
                go_wp2_with fail
                have q_0 := cell_regrown (w := wr) e0
                have q_1 := cell_regrown (w := wr) e1
                have q_2 := cell_regrown (w := wr) e2
                have q_3 := cell_regrown (w := wr) f0
                have q_4 := cell_regrown (w := wr) f1
                have q_5 := cell_regrown (w := wr) f2
                refine wp_region_quiet_below (by kernel_rfl) (by kernel_rfl) ?_
                repeat (go_big_quiet_step (fail))
                refine wpQuiet_nil ?_
                intro wq hw'
                obtain ⟨⟨dq, osq⟩, hw''⟩ := hw'
                have hbq := below_regrown wr dq osq
                rw [← hw''] at hbq
                clear hw''
                clear q_0 q_1 q_2 q_3 q_4 q_5
                have HOr := Lib.hid (owns_below HOw.out hbq)
                have HBr := Lib.hid (hbr.trans (hbq.mono hbs2))
                clear hbq e0 e1 e2 f0 f1 f2 HY HOw
                go_wp2_with fail
                go_roundw
                case rel => exact ⟨u + 1, m, cur, Lib.hid ⟨by go_num, rfl, by omega, HI2.out, HOr.out, HBr.out⟩⟩
                case measure => simp [intOf]; omega
              · have hd2 : eqd z a = false := eqd_no hza
                rw [hd2] at HY
                have HI2 := Lib.hid (HCI.out.diff ha hz (Ne.symm hza))
                have hml : m < l.length := by omega
                have hfs := flat_set cur m z (by omega)
                have Hfs := Lib.hid hfs
                clear ha hz hza hd2 hfs
                go_wp2_with fail
                have q_0 := cell_regrown (w := wr) e0
                have q_1 := cell_regrown (w := wr) e1
                have q_2 := cell_regrown (w := wr) e2
                have q_3 := cell_regrown (w := wr) f0
                have q_4 := cell_regrown (w := wr) f1
                have q_5 := cell_regrown (w := wr) f2
                refine wp_region_quiet_below (by kernel_rfl) (by kernel_rfl) ?_
                repeat (go_big_quiet_step (fail))
                refine wpQuiet_nil ?_
                intro wq hw'
                obtain ⟨⟨dq, osq⟩, hw''⟩ := hw'
                have hbq := below_regrown wr dq osq
                rw [← hw''] at hbq
                clear hw''
                clear q_0 q_1 q_2 q_3 q_4 q_5
                have HOr := owns_below HOw.out hbq
                have HBr := Lib.hid (hbr.trans (hbq.mono hbs2))
                have x0 := cell_keep f0 hbq
                have x1 := cell_keep f1 hbq
                have x2 := cell_keep f2 hbq
                have hfq := fun o => frozen_own HOr (o := o)
                have HO2 := Lib.hid (owns_putS (idx := m * 3 + 2) (u := .string z.s) (owns_putS (idx := m * 3 + 1) (u := .int .i64 z.n) (owns_putS (idx := m * 3) (u := .int .i64 z.ty) HOr)))
                have HB2 := Lib.hid (Below.setCell (p := ⟨g, m * 3 + 2, none⟩) (Below.setCell (p := ⟨g, m * 3 + 1, none⟩) (Below.setCell (p := ⟨g, m * 3, none⟩) HBr.out hgl (.int .i64 z.ty)) hgl (.int .i64 z.n)) hgl (.string z.s))
                obtain ⟨p0, p1, p2⟩ := owns_atV HOr (show cur[m]? = some cur[m] from List.getElem?_eq_getElem (by omega))
                clear hbq e0 e1 e2 f0 f1 f2 HY HOw HOr
                have HO3 := Lib.hid (show (((wq.setCell ⟨g, m * 3, none⟩ (.int .i64 z.ty)).setCell ⟨g, m * 3 + 1, none⟩ (.int .i64 z.n)).setCell ⟨g, m * 3 + 2, none⟩ (.string z.s)).ownsRow base 83 3 (.slice (some ⟨g, 0, none⟩) l.length c) l.length ((cur.set m z).flatMap V.cells) by rw [← Hfs.out]; exact HO2.out)
                clear HO2
                go_wp2_with fail
                go_roundw
                case rel => exact ⟨u + 1, m + 1, cur.set m z, Lib.hid ⟨by go_num, by go_num, by omega, HI2.out, HO3.out, HB2.out⟩⟩
                case measure => simp [intOf]; omega
            · obtain rfl : n2 = u + 1 := by omega
              have hml : m < l.length := by omega
              have HE := Lib.hid (show cur.take m = compV l by
                have h := HCI.out.tk
                rwa [List.take_of_length_le (show l.length ≤ k0 + u + 1 by omega)] at h)
              obtain ⟨w4, hclr, hown4, hgrow4⟩ := clear_own Tryz.underlying42 zero_V rfl HOw.out hml (c - m)
              rw [HE.out] at hown4
              have HO4 := Lib.hid hown4
              have Hml := Lib.hid (show m = (compV l).length by rw [← HE.out, List.length_take]; omega)
              have HB4 := Lib.hid (below_grown_g (hbr) hgrow4 hgl (by omega))
              have i1 : (0 : Int) ≤ (m : Int) := by omega
              have i2 : (m : Int) ≤ (c : Int) := by omega
              have i3 : (m : Int) ≤ (l.length : Int) := by omega
              have n1 : ¬ c = m := by omega
              clear hown4 hgrow4 HE HOw HCI
              go_wp2_with fail
              go_ret
              exact ⟨by rw [← Hml.out]; rfl, by rw [← Hml.out]; exact HO4.out, (HBq.out.mono hbase).trans HB4.out⟩
        · have hd2 : eqd y a = false := eqd_no hya
          rw [hd2] at HY
          have HN := Lib.hid (comp_fresh Hck.out ha hy (Ne.symm hya))
          clear ha hy hya hd2
          go_wp2_with fail
          have q_0 := cell_regrown (w := wr) e0
          have q_1 := cell_regrown (w := wr) e1
          have q_2 := cell_regrown (w := wr) e2
          have q_3 := cell_regrown (w := wr) f0
          have q_4 := cell_regrown (w := wr) f1
          have q_5 := cell_regrown (w := wr) f2
          refine wp_region_quiet_below (by kernel_rfl) (by kernel_rfl) ?_
          repeat (go_big_quiet_step (fail))
          refine wpQuiet_nil ?_
          intro wq hw'
          obtain ⟨⟨dq, osq⟩, hw''⟩ := hw'
          have hbq := below_regrown wr dq osq
          rw [← hw''] at hbq
          clear hw''
          clear q_0 q_1 q_2 q_3 q_4 q_5
          have HBq := Lib.hid (below_go hb hbq)
          clear hbq e0 e1 e2 f0 f1 f2 HY HO
          go_wp2_with fail
          go_roundw
          case rel => exact ⟨j + 1 + 1, Lib.hid ⟨by go_num, by omega, by omega, HN.out, HBq.out⟩⟩
          case measure => simp [intOf]; omega
      · have HE := Lib.hid (show compV l = l by have h := Hck.out; rwa [List.take_of_length_le (by omega)] at h)
        go_wp2_with fail
        go_ret
        exact ⟨by rw [HE.out]; rfl, by rw [HE.out]; exact HO.out, hb.mono hbase⟩
end Go.Proofs.YticimccfeohpcaaGreat
