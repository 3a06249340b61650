/- Values by their dictionary: contracts. -/
import Derived.Test.YticimccfeohpcaaGreatEB
import Derived.Test.YticimccfeohpcaaGreatEH
import Derived.Test.YticimccfeohpcaaGreatXF
namespace Go.Lb
theorem dict_small {l : List V} {v : V} (hs : ∀ v ∈ l, v.s.size ≤ maxLen) (h : v ∈ dictOf l) : v.s.size ≤ maxLen := hs v (mem_dictOf.1 h)
end Go.Lb
namespace Go.Proofs.YticimccfeohpcaaGreat
open Go.Sort Go.ChangeShapes Go.WideShapes Go.ChangeAt Go.RowKit Go.Lb
set_option maxHeartbeats 4000000 in
set_option maxRecDepth 20000 in
theorem spec_EncDict (l : List V) (x : Value) (w : World) {lo hi : Nat} (hx : RdV w lo hi x l) (hhi : hi ≤ w.heap.size) (hs : ∀ v ∈ l, v.s.size ≤ maxLen) :
    Calls Tryz.prog 101 #[x] w fun e w' => ∃ r, e = .returned r ∧ Own 5 1 w' w.heap.size w'.heap.size r (encDict l).length (bc (encDict l)) ∧ Below w.heap.size w w' := by
  obtain ⟨A, c, rfl, hl, hl2⟩ := hx.form
  obtain ⟨i0, hif, hz0, hz1, hz2⟩ := info_parts info_u8
  replace hif := Lib.hid hif
  replace hz0 := Lib.hid hz0
  replace hz1 := Lib.hid hz1
  replace hz2 := Lib.hid hz2
  have hT := spec_TypeOf l _ w hx hhi hs
  by_cases h0 : typeOf l = 0
  · rw [h0] at hT
    have HT := Lib.hid hT
    have HE := Lib.hid (encDict_no h0)
    clear hT h0
    go_enter Tryz.func101, Tryz.ntmps101
    go_wp2_with fail
    refine HT.out.mono ?_
    rintro e w1 ⟨rfl, hb1⟩
    have hs1 := hb1.size
    have own0 := World.ownsRow_made w1 (base := w.heap.size) (e := 5) (size := 1) #[] 0 hs1 (by decide) rfl
    have HO := Lib.hid (Own.new own0)
    have HB := Lib.hid (hb1.alloc hs1 (.cells #[] 5))
    clear own0 hb1
    go_wp2_with fail
    go_ret
    exact ⟨_, rfl, by rw [HE.out]; exact HO.out, HB.out⟩
  · have hd : (typeOf l == 0) = false := by simp [h0]
    have h64 := typeOf_len64 rfl h0
    have HE := Lib.hid (encDict_yes h0)
    obtain ⟨t, ht⟩ : ∃ t, typeOf l = t := ⟨_, rfl⟩
    rw [ht] at hT hd
    have HT := Lib.hid hT
    have hql := Nat.le_trans (dictOf_len l) h64
    have Hsm := Lib.hid (fun (v : V) (h : v ∈ dictOf l) => dict_small hs h)
    have Hm := Lib.hid (fun (v : V) (h : v ∈ l) => mem_dictOf.2 h)
    have hq1 : 1 ≤ (dictOf l).length := by
      have h1 := typeOf_pos h0
      obtain ⟨a, ha⟩ : ∃ a, a ∈ l := ⟨l[0], List.getElem_mem _⟩
      exact List.length_pos_of_mem (mem_dictOf.2 ha)
    have HPl := Lib.hid (show l.map (inDict (dictOf l)) = dictPl l from rfl)
    have HPk := Lib.hid (packB_len_of (q := dictPl l) (dictW_le (dictOf l).length) (by rw [dictPl, List.length_map]; exact h64))
    have hpl64 : (dictPl l).length ≤ 64 := by rw [dictPl, List.length_map]; exact h64
    have hWd : ∀ W, Calls Tryz.prog 124 #[.int .i64 (((dictOf l).length : Int) - 1)] W fun e w' => e = .returned (.int .i64 (dictW (dictOf l).length : Nat)) ∧ W = w' := fun W => q_spec_WidthOf (((dictOf l).length : Int) - 1) W
    have HWd := Lib.hid hWd
    clear hWd
    have hwd := dictW_le (dictOf l).length
    clear hT h0 ht
    generalize dictW (dictOf l).length = wd at *
    generalize dictPl l = pl at *
    have HD := Lib.hid (fun W (h : Below w.heap.size w W) => spec_Dict l _ W (hx.below h hhi) (Nat.le_trans hhi h.size) (by omega))
    generalize hq : dictOf l = q at *
    clear hq
    go_enter Tryz.func101, Tryz.ntmps101
    go_wp2_with fail
    refine HT.out.mono ?_
    rintro e w1 ⟨rfl, hb1⟩
    have HD1 := Lib.hid (HD.out w1 hb1)
    clear HT HD
    go_wp2_with fail
    refine HD1.out.mono ?_
    rintro e w2 ⟨_, rfl, hor, hb2⟩
    have hb2w := below_go hb1 hb2
    have hru := hor.rdV
    obtain ⟨Ar, cr, rfl, hrl, hrm⟩ := hru.form
    have hP := spec_Places q l _ _ w2 hru (hx.below hb2w hhi) (Nat.le_refl _) (Nat.le_trans hhi hb2w.size) Hm.out (by omega)
    rw [HPl.out] at hP
    have HP := Lib.hid hP
    clear hb1 hb2 hor HD1 hP
    go_wp2_with fail
    refine HP.out.mono ?_
    rintro e w3 ⟨_, rfl, hop, hb3⟩
    have hpi := hop.rdI
    obtain ⟨Ap, cp, rfl, hpl, hpm⟩ := hpi.form
    have hb3w := below_go hb2w hb3
    have hru3 := hru.below hb3 (Nat.le_refl _)
    have hs3 := hb3.size
    clear hb3 hop HP hru hb2w
    go_wp2_with fail
    obtain ⟨W0, hW0⟩ : ∃ W0, (w3.alloc (.cells #[] 5)) = W0 := ⟨_, rfl⟩
    have hup : Below w3.heap.size w3 W0 := hW0 ▸ up_a1 w3 _
    have hemp : RdB W0 0 W0.heap.size (.slice (some ⟨w3.heap.size, 0, none⟩) 0 0) [] := rdB_empty _ _ _ _
    rw [hW0]
    clear hW0
    have hru0 := hru3.below hup hs3
    have hpi0 := hpi.below hup (Nat.le_refl _)
    have hb0w := below_go hb3w hup
    have hP0 := spec_PutNum [] _ q.length W0 hemp (Nat.le_refl _) (by simp)
    rw [List.nil_append] at hP0
    have hsz0 := hup.size
    clear hup hru3 hpi hemp hb3w
    obtain ⟨n0, hn0⟩ : ∃ n0, numB (q.length : Int) = n0 := ⟨_, rfl⟩
    have hnl := numB_len (q.length : Int)
    rw [hn0] at hP0 hnl HE
    have HP0 := Lib.hid hP0
    clear hP0 hn0
    refine HP0.out.mono ?_
    rintro e w4 ⟨v4, rfl, ho4, hb4⟩
    obtain ⟨A4, c4, rfl, -, -, -⟩ := ho4.cells
    have hb4w := below_go hb0w hb4
    have hru4 := hru0.below hb4 (Nat.le_trans (Nat.le_trans (Nat.le_refl _) hs3) hsz0)
    have hrh : w2.heap.size ≤ w4.heap.size := Nat.le_trans (Nat.le_trans (Nat.le_trans (Nat.le_refl _) hs3) hsz0) hb4.size
    have hpi4 := hpi0.below hb4 hsz0
    have hph : w3.heap.size ≤ w4.heap.size := Nat.le_trans hsz0 hb4.size
    have HO4 := Lib.hid (ho4.more (show w.heap.size ≤ W0.heap.size from hb0w.size) (Nat.le_refl _))
    clear hb4 ho4 hru0 HP0 hb0w
    go_wp2_with fail
    go_loopw [6, 7] (fun o i wr => ∃ (j : Nat) (acc : List UInt8), Hid (i = .int .i64 j ∧ j ≤ q.length ∧ acc = n0 ++ (q.take j).flatMap valB ∧ Own 5 1 wr w.heap.size wr.heap.size o acc.length (bc acc) ∧ Below w4.heap.size w4 wr)) (fun _ i _ => q.length - (intOf i).toNat)
    case atStart => exact ⟨0, n0, Lib.hid ⟨rfl, by omega, by simp, HO4.out, Below.refl _ _⟩⟩
    case round =>
      obtain ⟨j, acc, hrel⟩ := hrel
      obtain ⟨rfl, hj, hacc, hown, hbr⟩ := hrel.out
      obtain ⟨Ao, co, rfl, -, -, -⟩ := hown.cells
      have hal : acc.length ≤ 1000 := by rw [hacc, List.length_append]; have := flatV_len7 q j hql; omega
      have Hacc := Lib.hid hacc
      have Hown := Lib.hid hown
      have Hbr := Lib.hid hbr
      have hbs := hbr.size
      clear hacc hown hrel HO4 hbr
      by_cases hjl : j < q.length
      · obtain ⟨b, off, y, rfl, -, hbl, hyk, e0, e1, e2⟩ := (hru4.below Hbr.out hrh).at hjl
        have Hy := Lib.hid (flatV_take hyk)
        have hys := Hsm.out y (mem_of_get hyk)
        clear hyk
        go_wp2_with fail
        have hPV := spec_PutVal acc _ y wr Hown.out.rdBc (Nat.le_refl _) (by omega) hys
        have Hup := Lib.hid (Below.refl wr.heap.size wr)
        obtain ⟨r2, hr2⟩ : ∃ r2, acc ++ valB y = r2 := ⟨_, rfl⟩
        rw [hr2] at hPV
        have HP := Lib.hid hPV
        have Hr2 := Lib.hid hr2
        clear hPV hr2
        refine HP.out.mono ?_
        rintro e w5 ⟨v', rfl, ho, hb5⟩
        obtain ⟨A', c', rfl, -, -, -⟩ := ho.cells
        have HO2 := Lib.hid (ho.more (Nat.le_trans (Nat.le_trans hb4w.size hbs) Hup.out.size) (Nat.le_refl _))
        have HB3 := Lib.hid (below_go (below_go Hbr.out Hup.out) hb5)
        have HE2 := Lib.hid (show r2 = n0 ++ (q.take (j + 1)).flatMap valB by rw [← Hr2.out, Hacc.out, Hy.out, List.append_assoc])
        clear ho hb5
        go_wp2_with fail
        go_roundw
        case rel => exact ⟨j + 1, r2, Lib.hid ⟨by go_num, by omega, HE2.out, HO2.out, HB3.out⟩⟩
        case measure => simp [intOf]; omega
      · obtain rfl : j = q.length := by omega
        have HEA := Lib.hid (show encDict l = acc ++ packB pl wd by rw [HE.out, Hacc.out, List.take_length])
        have HBr := Lib.hid (below_go hb4w Hbr.out)
        have hbw := HBr.out.size
        have Hpi := Lib.hid (hpi4.below Hbr.out hph)
        have hph2 : w3.heap.size ≤ wr.heap.size := Nat.le_trans hph hbs
        have hxx := HWd.out wr
        obtain ⟨ws, hws⟩ : ∃ ws, ws = wr := ⟨_, rfl⟩
        have HO6 := Lib.hid (show ws.ownsRow w.heap.size 5 1 (.slice Ao acc.length co) acc.length (bc acc) by rw [hws]; exact Hown.out.1)
        rw [← hws] at HBr Hpi hph2 hxx hbw ⊢
        clear Hown HE hbs hws
        have hPk := spec_PackBits pl _ (wd : Int) ws Hpi.out hph2 (by omega)
        have Hxx := Lib.hid hxx
        have HPK := Lib.hid hPk
        have hpk := HPk.out
        generalize packB pl wd = pk at *
        clear hxx hPk Hacc HPk
        go_wp2_with fail
        refine Hxx.out.mono ?_
        rintro e w7 ⟨rfl, rfl⟩
        go_wp2_with fail
        refine HPK.out.mono ?_
        rintro e w8 ⟨v8, rfl, hown8, hb8⟩
        have hb8w := below_go HBr.out hb8
        have HO8 := Lib.hid (owns_below HO6.out hb8)
        obtain ⟨A8, c8, rfl, -, -, -⟩ := hown8.cells
        have hN := Lib.hid (hown8.rdBc.spread)
        have hs8 := hb8w.size
        clear hb8 hown8 HO6 HPK Hxx
        go_wp2_with (at_builtin; refine wpl_spread rfl _ _ 34 rfl w.heap.size 5 i0 _ 1 1 Tryz.underlying34 hif.out hz0.out hz1.out hz2.out rfl (by decide) (by decide) HO8.out rfl rfl (bc_len pk) hN.out.2.1 hN.out.2.2 (bc_one pk) (by omega) (by omega) ?_)
        intro v9 w9 hown9 hgrow _
        have hb9 := Below.grown hb8w hgrow (fun g hg => (HO8.out.lt g hg).1) (Nat.le_refl _)
        have HO9 := Lib.hid (show w9.ownsRow w.heap.size 5 1 v9 (acc ++ pk).length (bc (acc ++ pk)) by
          rw [bc_app acc, List.length_append]
          exact hown9)
        clear hgrow hown9
        go_wp2_with fail
        go_ret
        exact ⟨_, rfl, by rw [HEA.out]; exact Own.new HO9.out, hb9⟩
set_option maxHeartbeats 4000000 in
set_option maxRecDepth 20000 in
theorem impl_EncDict (l : List V) (x : Value) (w : World) {lo hi : Nat} (hx : RdV w lo hi x l) (hhi : hi ≤ w.heap.size) (hs : ∀ v ∈ l, v.s.size ≤ maxLen) :
    Calls Tryz.prog 98 #[x] w fun e w' => ∃ r, e = .returned r ∧ Own 5 1 w' w.heap.size w'.heap.size r (encDict l).length (bc (encDict l)) ∧ Below w.heap.size w w' := by
  obtain ⟨A, c, rfl, hl, hl2⟩ := hx.form
  obtain ⟨i0, hif, hz0, hz1, hz2⟩ := info_parts info_u8
  replace hif := Lib.hid hif
  replace hz0 := Lib.hid hz0
  replace hz1 := Lib.hid hz1
  replace hz2 := Lib.hid hz2
  have hb0 := up_a1 w (.cells #[] 5)
  have own0 := World.ownsRow_made w (base := w.heap.size) (e := 5) (size := 1) #[] 0 (Nat.le_refl _) (by decide) rfl
  have Own0 := Lib.hid (Own.new own0)
  clear own0
  have hsz0 := hb0.size
  go_enter Tryz.func98, Tryz.ntmps98
  go_wp2_with fail
  obtain ⟨W0, hW0⟩ : ∃ W0, (w.alloc (.cells #[] 5)) = W0 := ⟨_, rfl⟩
  rw [hW0] at hb0 Own0 hsz0 ⊢
  clear hW0
  have hT := impl_TypeOf l _ W0 (hx.below hb0 hhi) (Nat.le_trans hhi hsz0) hs
  by_cases h0 : typeOf l = 0
  · rw [h0] at hT
    have HT := Lib.hid hT
    have HE := Lib.hid (encDict_no h0)
    clear hT h0
    refine HT.out.mono ?_
    rintro e w1 ⟨rfl, hb1⟩
    have HO := Lib.hid ((Own0.out.below hb1 (Nat.le_refl _)).more (Nat.le_refl _) hb1.size)
    have HB := Lib.hid (below_go0 hb0 hb1)
    clear hb1 hb0
    go_wp2_with fail
    go_ret
    exact ⟨_, rfl, by rw [HE.out]; exact HO.out, HB.out⟩
  · have hd : (typeOf l == 0) = false := by simp [h0]
    have h64 := typeOf_len64 rfl h0
    have HE := Lib.hid (encDict_yes h0)
    obtain ⟨t, ht⟩ : ∃ t, typeOf l = t := ⟨_, rfl⟩
    rw [ht] at hT hd
    have HT := Lib.hid hT
    have hql := Nat.le_trans (dictOf_len l) h64
    have Hsm := Lib.hid (fun (v : V) (h : v ∈ dictOf l) => dict_small hs h)
    have Hm := Lib.hid (fun (v : V) (h : v ∈ l) => mem_dictOf.2 h)
    have hq1 : 1 ≤ (dictOf l).length := by
      have h1 := typeOf_pos h0
      obtain ⟨a, ha⟩ : ∃ a, a ∈ l := ⟨l[0], List.getElem_mem _⟩
      exact List.length_pos_of_mem (mem_dictOf.2 ha)
    have HPl := Lib.hid (show l.map (inDict (dictOf l)) = dictPl l from rfl)
    have HPk := Lib.hid (packB_len_of (q := dictPl l) (dictW_le (dictOf l).length) (by rw [dictPl, List.length_map]; exact h64))
    have hpl64 : (dictPl l).length ≤ 64 := by rw [dictPl, List.length_map]; exact h64
    have hWd : ∀ W, Calls Tryz.prog 132 #[.int .i64 (((dictOf l).length : Int) - 1)] W fun e w' => e = .returned (.int .i64 (dictW (dictOf l).length : Nat)) ∧ W = w' := fun W => q_impl_WidthOf (((dictOf l).length : Int) - 1) W
    have HWd := Lib.hid hWd
    clear hWd
    have hwd := dictW_le (dictOf l).length
    clear hT h0 ht
    generalize dictW (dictOf l).length = wd at *
    generalize dictPl l = pl at *
    have HD := Lib.hid (fun W (h : Below w.heap.size w W) => impl_Dict l _ W (hx.below h hhi) (Nat.le_trans hhi h.size) (by omega))
    generalize hq : dictOf l = q at *
    clear hq
    refine HT.out.mono ?_
    rintro e w1 ⟨rfl, hb1⟩
    have hb1w := below_go0 hb0 hb1
    have HD1 := Lib.hid (HD.out w1 hb1w)
    have Own1 := Lib.hid ((Own0.out.below hb1 (Nat.le_refl _)).more (Nat.le_refl _) hb1.size)
    clear HT HD Own0 hb0 hb1
    go_wp2_with fail
    refine HD1.out.mono ?_
    rintro e w2 ⟨_, rfl, hor, hb2⟩
    have hb0w := below_go hb1w hb2
    have hru0 := hor.rdV
    obtain ⟨Ar, cr, rfl, hrl, hrm⟩ := hru0.form
    have hemp := ((Own1.out.below hb2 (Nat.le_refl _)).more (Nat.le_refl _) hb2.size).rdBc (l := [])
    clear hb1w hb2 hor HD1 Own1
    go_wp2_with fail
    have hP0 := impl_PutNum [] _ q.length w2 hemp (Nat.le_refl _) (by simp)
    rw [List.nil_append] at hP0
    obtain ⟨n0, hn0⟩ : ∃ n0, numB (q.length : Int) = n0 := ⟨_, rfl⟩
    have hnl := numB_len (q.length : Int)
    rw [hn0] at hP0 hnl HE
    have HP0 := Lib.hid hP0
    clear hP0 hn0
    refine HP0.out.mono ?_
    rintro e w4 ⟨v4, rfl, ho4, hb4⟩
    obtain ⟨A4, c4, rfl, -, -, -⟩ := ho4.cells
    have hb4w := below_go hb0w hb4
    have hru4 := hru0.below hb4 (Nat.le_refl _)
    have hrh : w2.heap.size ≤ w4.heap.size := Nat.le_trans (Nat.le_refl _) hb4.size
    have HO4 := Lib.hid (ho4.more (show w.heap.size ≤ w2.heap.size from hb0w.size) (Nat.le_refl _))
    clear hb4 ho4 hru0 HP0 hb0w
    go_wp2_with fail
    go_loopw [3, 22] (fun o i wr => ∃ (j : Nat) (acc : List UInt8), Hid (i = .int .i64 j ∧ j ≤ q.length ∧ acc = n0 ++ (q.take j).flatMap valB ∧ Own 5 1 wr w.heap.size wr.heap.size o acc.length (bc acc) ∧ Below w4.heap.size w4 wr)) (fun _ i _ => q.length - (intOf i).toNat)
    case atStart => exact ⟨0, n0, Lib.hid ⟨rfl, by omega, by simp, HO4.out, Below.refl _ _⟩⟩
    case round =>
      obtain ⟨j, acc, hrel⟩ := hrel
      obtain ⟨rfl, hj, hacc, hown, hbr⟩ := hrel.out
      obtain ⟨Ao, co, rfl, -, -, -⟩ := hown.cells
      have hal : acc.length ≤ 1000 := by rw [hacc, List.length_append]; have := flatV_len7 q j hql; omega
      have Hacc := Lib.hid hacc
      have Hown := Lib.hid hown
      have Hbr := Lib.hid hbr
      have hbs := hbr.size
      clear hacc hown hrel HO4 hbr
      by_cases hjl : j < q.length
      · obtain ⟨b, off, y, rfl, -, hbl, hyk, e0, e1, e2⟩ := (hru4.below Hbr.out hrh).at hjl
        have Hy := Lib.hid (flatV_take hyk)
        have hys := Hsm.out y (mem_of_get hyk)
        clear hyk
        go_wp2_with fail
        obtain ⟨wb, hwb⟩ : ∃ wb, (wr.alloc (.cells #[.int .i64 y.ty, .int .i64 y.n, .string y.s] 83)) = wb := ⟨_, rfl⟩
        have hup : Below wr.heap.size wr wb := hwb ▸ up_a1 wr _
        rw [hwb]
        clear hwb
        have Hup := Lib.hid hup
        have hPV := impl_PutVal acc _ y wb (Hown.out.rdBc.below hup (Nat.le_refl _)) hup.size (by omega) hys
        clear hup
        obtain ⟨r2, hr2⟩ : ∃ r2, acc ++ valB y = r2 := ⟨_, rfl⟩
        rw [hr2] at hPV
        have HP := Lib.hid hPV
        have Hr2 := Lib.hid hr2
        clear hPV hr2
        refine HP.out.mono ?_
        rintro e w5 ⟨v', rfl, ho, hb5⟩
        obtain ⟨A', c', rfl, -, -, -⟩ := ho.cells
        have HO2 := Lib.hid (ho.more (Nat.le_trans (Nat.le_trans hb4w.size hbs) Hup.out.size) (Nat.le_refl _))
        have HB3 := Lib.hid (below_go (below_go Hbr.out Hup.out) hb5)
        have HE2 := Lib.hid (show r2 = n0 ++ (q.take (j + 1)).flatMap valB by rw [← Hr2.out, Hacc.out, Hy.out, List.append_assoc])
        clear ho hb5
        go_wp2_with fail
        go_roundw
        case rel => exact ⟨j + 1, r2, Lib.hid ⟨by go_num, by omega, HE2.out, HO2.out, HB3.out⟩⟩
        case measure => simp [intOf]; omega
      · obtain rfl : j = q.length := by omega
        have HEA := Lib.hid (show encDict l = acc ++ packB pl wd by rw [HE.out, Hacc.out, List.take_length])
        have HBr := Lib.hid (below_go hb4w Hbr.out)
        have hbw := HBr.out.size
        have hrr := hru4.below Hbr.out hrh
        have hP := impl_Places q l _ _ wr hrr (hx.below HBr.out hhi) (Nat.le_trans hrh hbs) (Nat.le_trans hhi hbw) Hm.out (by omega)
        rw [HPl.out] at hP
        have HP := Lib.hid hP
        clear hP hrr hru4
        go_wp2_with fail
        refine HP.out.mono ?_
        rintro e ws ⟨_, rfl, hop, hb6⟩
        have hpi := hop.rdI
        obtain ⟨Ap, cp, rfl, hpl, hpm⟩ := hpi.form
        have Hpi := Lib.hid hpi
        have hph2 : ws.heap.size ≤ ws.heap.size := Nat.le_refl _
        have HO6 := Lib.hid (Own.below Hown.out hb6 (Nat.le_refl _)).1
        replace HBr := Lib.hid (below_go HBr.out hb6)
        replace hbw := HBr.out.size
        have hxx := HWd.out ws
        clear hpi hop hb6 HP Hown HE
        have hPk := impl_PackBits pl _ (wd : Int) ws Hpi.out hph2 (by omega)
        have Hxx := Lib.hid hxx
        have HPK := Lib.hid hPk
        have hpk := HPk.out
        generalize packB pl wd = pk at *
        clear hxx hPk Hacc HPk
        go_wp2_with fail
        refine Hxx.out.mono ?_
        rintro e w7 ⟨rfl, rfl⟩
        go_wp2_with fail
        refine HPK.out.mono ?_
        rintro e w8 ⟨v8, rfl, hown8, hb8⟩
        have hb8w := below_go HBr.out hb8
        have HO8 := Lib.hid (owns_below HO6.out hb8)
        obtain ⟨A8, c8, rfl, -, -, -⟩ := hown8.cells
        have hN := Lib.hid (hown8.rdBc.spread)
        have hs8 := hb8w.size
        clear hb8 hown8 HO6 HPK Hxx
        go_wp2_with (at_builtin; refine wpl_spread rfl _ _ 34 rfl w.heap.size 5 i0 _ 1 1 Tryz.underlying34 hif.out hz0.out hz1.out hz2.out rfl (by decide) (by decide) HO8.out rfl rfl (bc_len pk) hN.out.2.1 hN.out.2.2 (bc_one pk) (by omega) (by omega) ?_)
        intro v9 w9 hown9 hgrow _
        have hb9 := Below.grown hb8w hgrow (fun g hg => (HO8.out.lt g hg).1) (Nat.le_refl _)
        have HO9 := Lib.hid (show w9.ownsRow w.heap.size 5 1 v9 (acc ++ pk).length (bc (acc ++ pk)) by
          rw [bc_app acc, List.length_append]
          exact hown9)
        clear hgrow hown9
        go_wp2_with fail
        go_ret
        exact ⟨_, rfl, by rw [HEA.out]; exact Own.new HO9.out, hb9⟩
end Go.Proofs.YticimccfeohpcaaGreat
