/- Draws: columns, and ways to write them. -/
import Derived.Test.YticimccfeohpcaaGreatXA
import Derived.Test.YticimccfeohpcaaGreatXD
import Derived.Test.YticimccfeohpcaaGreatD20
import Derived.Test.YticimccfeohpcaaGreatD21
import Derived.Test.YticimccfeohpcaaGreatEJ
namespace Go.Proofs.YticimccfeohpcaaGreat
open Go.Sort Go.ChangeShapes Go.WideShapes Go.ChangeAt Go.RowKit Go.Lb
set_option maxRecDepth 20000 in
set_option maxHeartbeats 4000000 in
theorem spec_DrawDecCol (code : List UInt8) (x : Value) (w : World) {lo hi : Nat} (hx : RdB w lo hi x code) (hhi : hi ≤ w.heap.size) (hn : code.length ≤ 1048576) :
    Calls Tryz.prog 49 #[x] w fun e w' => ∃ (bv : Value) (b : List UInt8) (i j : Int), e = .returned (.tuple #[bv, .int .i64 i, .int .i64 j]) ∧ RdB w' w.heap.size w'.heap.size bv b ∧ b.length ≤ 2000 ∧ Below w.heap.size w w' := by
  go_enter Tryz.func49, Tryz.ntmps49
  go_wp2_with fail
  refine (spec_l1New code x w hx hhi hn).mono ?_
  rintro e w1 ⟨g, rfl, hg, hb, hd⟩
  have HB := Lib.hid hb
  clear hb hx
  have hlt := hd.lt
  have HC := Lib.hid (spec_l5Draw w1 g hd)
  go_wp2_with fail
  refine HC.out.mono ?_
  rintro e w2 ⟨_, rfl, ⟨l, ⟨hgl, hsm⟩, hl0, hll⟩, hch, hd2⟩
  replace HB := Lib.hid (chg_below HB.out hch hg (Nat.le_refl _))
  have ho := (show Own 83 3 w2 w1.heap.size w2.heap.size _ l.length (l.flatMap V.cells) from hgl).up hlt
  obtain ⟨A2, c2, rfl, -, -⟩ := ho.cells.form
  have RL := Lib.hid ho
  have HS := Lib.hid (small_max hsm)
  clear hch hd HC hlt ho hsm hgl
  have hd := hd2
  clear hd2
  obtain ⟨P, hP⟩ : ∃ P, encCol l = P := ⟨_, rfl⟩
  have hPl := encCol_len l
  rw [hP] at hPl
  have HP := Lib.hid hP
  clear hP
  have hlt := hd.lt
  have HC := Lib.hid (spec_l5Type l _ w2 g hd RL.out.rdV (Nat.lt_succ_self g) (Nat.le_refl _) hl0 (by omega))
  go_wp2_with fail
  refine HC.out.mono ?_
  rintro e w3 ⟨_, rfl, ⟨ty, k, rfl⟩, hch, hd2⟩
  replace RL := Lib.hid (RL.out.dgo hch)
  replace HB := Lib.hid (chg_below HB.out hch hg (Nat.le_refl _))
  clear hch hd HC hlt
  have hd := hd2
  clear hd2
  have hlt := hd.lt
  have HC := Lib.hid (by have h := spec_EncCol l _ w3 RL.out.rdV (Nat.le_refl _) HS.out; rw [HP.out] at h; exact h)
  go_wp2_with fail
  refine HC.out.mono ?_
  rintro e w4 ⟨_, rfl, ho, hb⟩
  replace RL := Lib.hid (RL.out.dgb hb)
  replace HB := Lib.hid (below_go HB.out hb)
  have hd2 := hd.below hb
  replace ho := ho.up hlt
  obtain ⟨A5, c5, rfl, -, -⟩ := ho.cells.form
  have RP := Lib.hid ho
  clear ho hb hd HC hlt
  have hd := hd2
  clear hd2
  have HC := Lib.hid (spec_l1Once 5 w4 g hd (by decide))
  go_wp2_with fail
  refine HC.out.mono ?_
  rintro e w5 ⟨_, rfl, ⟨on, rfl⟩, hch, hd2⟩
  replace RL := Lib.hid (RL.out.dgo hch)
  replace RP := Lib.hid (RP.out.dgo hch)
  replace HB := Lib.hid (chg_below HB.out hch hg (Nat.le_refl _))
  clear hch hd HC
  have hd := hd2
  clear hd2
  cases on
  · go_wp2_with fail
    have hlt := hd.lt
    have HC := Lib.hid (spec_l1Bent P _ w5 g hd RP.out.rdBc (Nat.le_refl _) (by omega))
    refine HC.out.mono ?_
    rintro e wz ⟨_, rfl, ⟨l9, hgl, hl9⟩, hch, hd2⟩
    replace HB := Lib.hid (chg_below HB.out hch hg (Nat.le_refl _))
    have ho := (show Own 5 1 wz w5.heap.size wz.heap.size _ l9.length (bc l9) from hgl).up hlt
    obtain ⟨A9, c9, rfl, -, -⟩ := ho.cells.form
    have hrd := ho.rdBc.more (show w.heap.size ≤ g + 1 by omega) (Nat.le_refl _)
    clear hch hd HC ho hgl RP
    go_wp2_with fail
    refine bodyPost_ret (v := .tuple #[.slice A9 l9.length c9, .int .i64 ty, .int .i64 k]) (by simp [results, Tryz.results49, go_sem]) rfl ⟨_, l9, _, _, rfl, hrd, by omega, HB.out⟩
  · obtain ⟨i0, hif, hz0, hz1, hz2⟩ := info_parts info_u8
    replace hif := Lib.hid hif
    replace hz0 := Lib.hid hz0
    replace hz1 := Lib.hid hz1
    replace hz2 := Lib.hid hz2
    have HC := Lib.hid (spec_l1Below 5 w5 g hd (by decide))
    clear RP
    go_wp2_with fail
    refine HC.out.mono ?_
    rintro e w6 ⟨_, rfl, ⟨n, rfl, hk1, -⟩, hch, hd2⟩
    have hn5 := hk1 (by decide)
    replace RL := Lib.hid (RL.out.dgo hch)
    replace HB := Lib.hid (chg_below HB.out hch hg (Nat.le_refl _))
    clear hch hd HC hk1
    have hd := hd2
    clear hd2
    obtain ⟨c0, hc0⟩ : ∃ c0 : UInt8, UInt8.ofNat n = c0 := ⟨_, rfl⟩
    have hcw : (n : Int) = (c0.toNat : Int) := by rw [← hc0, byte_of_nat (by omega)]
    have Hcw := Lib.hid hcw
    have hup := up_a1 w6 (.cells #[.int .u8 (n : Int)] 5)
    have own0 := owns_full w6 (g + 1) 5 1 #[.int .u8 (n : Int)] hd.lt (by decide) rfl
    obtain ⟨W0, hW0⟩ : ∃ W0, (w6.alloc (.cells #[.int .u8 (n : Int)] 5)) = W0 := ⟨_, rfl⟩
    rw [hW0] at hup own0
    have hd2 := hd.below hup
    replace RL := Lib.hid (RL.out.dgb hup)
    replace HB := Lib.hid (below_go HB.out hup)
    have Own0 := Lib.hid own0
    have HW0 := Lib.hid hW0
    have hbl := encBy_len (n : Int) l
    have HC := Lib.hid (spec_EncBy (n : Int) l _ W0 RL.out.rdV (Nat.le_refl _) HS.out)
    clear hup own0 hc0 hcw hd hW0
    have hd := hd2
    clear hd2
    generalize encBy (n : Int) l = pk at *
    have hlt := hd.lt
    go_wp2_with fail
    rw [HW0.out]
    refine HC.out.mono ?_
    rintro e w7 ⟨_, rfl, ho, hb⟩
    replace HB := Lib.hid (below_go HB.out hb)
    have hd2 := hd.below hb
    have HO8 := Lib.hid (owns_below Own0.out hb)
    obtain ⟨A7, c7, rfl, -, -, -⟩ := ho.cells
    have hN := Lib.hid (ho.rdBc.spread)
    have hlt7 := hd2.lt
    clear ho hb hd HC hlt Own0
    go_wp2_with (at_builtin; refine wpl_spread rfl _ _ 34 rfl (g + 1) 5 i0 _ 1 1 Tryz.underlying34 hif.out hz0.out hz1.out hz2.out rfl (by decide) (by decide) HO8.out rfl rfl (bc_len pk) hN.out.2.1 hN.out.2.2 (bc_one pk) (by omega) (by omega) ?_)
    intro v9 w9 hown9 hgrow _
    have hch9 : Chg (g + 1) w7.heap.size w7 w9 := Chg.of_grown hgrow (fun b e => HO8.out.lt b e)
    have HB9 := Lib.hid (Below.grown HB.out hgrow (fun b hb => by have := (HO8.out.lt b hb).1; omega) (Nat.le_refl _))
    have hd9 : Dr w9 g := hd2.grown hgrow (fun b e => by have := (HO8.out.lt b e).1; omega)
    have ho9 : Own 5 1 w9 (g + 1) w9.heap.size v9 (c0 :: pk).length (bc (c0 :: pk)) := by
      rw [List.length_cons, Nat.add_comm pk.length 1]
      have h := hown9
      rw [Hcw.out] at h
      exact Own.new h
    replace HB := HB9
    have RP := Lib.hid ho9
    obtain ⟨A5, c5, rfl, -, -⟩ := ho9.cells.form
    clear hown9 hgrow hd2 HB9 HO8 hch9 ho9
    have hd := hd9
    clear hd9
    have hPl2 : (c0 :: pk).length ≤ 1001 := by rw [List.length_cons]; omega
    generalize (c0 :: pk) = Z at *
    go_wp2_with fail
    have hlt := hd.lt
    have HC := Lib.hid (spec_l1Bent Z _ w9 g hd RP.out.rdBc (Nat.le_refl _) (by omega))
    refine HC.out.mono ?_
    rintro e wz ⟨_, rfl, ⟨l9, hgl, hl9⟩, hch, hd2⟩
    replace HB := Lib.hid (chg_below HB.out hch hg (Nat.le_refl _))
    have ho := (show Own 5 1 wz w9.heap.size wz.heap.size _ l9.length (bc l9) from hgl).up hlt
    obtain ⟨A9, c9, rfl, -, -⟩ := ho.cells.form
    have hrd := ho.rdBc.more (show w.heap.size ≤ g + 1 by omega) (Nat.le_refl _)
    clear hch hd HC ho hgl RP
    go_wp2_with fail
    refine bodyPost_ret (v := .tuple #[.slice A9 l9.length c9, .int .i64 ty, .int .i64 k]) (by simp [results, Tryz.results49, go_sem]) rfl ⟨_, l9, _, _, rfl, hrd, by omega, HB.out⟩
set_option maxRecDepth 20000 in
set_option maxHeartbeats 4000000 in
theorem spec_DrawKindText (code : List UInt8) (x : Value) (w : World) {lo hi : Nat} (hx : RdB w lo hi x code) (hhi : hi ≤ w.heap.size) (hn : code.length ≤ 1048576) :
    Calls Tryz.prog 50 #[x] w fun e w' => ∃ i : Int, e = .returned (.int .i64 i) ∧ Below w.heap.size w w' := by
  go_enter Tryz.func50, Tryz.ntmps50
  go_wp2_with fail
  refine (spec_l1New code x w hx hhi hn).mono ?_
  rintro e w1 ⟨g, rfl, hg, hb, hd⟩
  have HB := Lib.hid hb
  clear hb hx
  have HC := Lib.hid (spec_l1Below 6 w1 g hd (by decide))
  go_wp2_with fail
  refine HC.out.mono ?_
  rintro e w5 ⟨_, rfl, ⟨k, rfl, hk1, -⟩, hch, hd2⟩
  have hk := hk1 (by decide)
  replace HB := Lib.hid (chg_below HB.out hch hg (Nat.le_refl _))
  clear hch hd HC hk1
  go_wp2_with fail
  go_ret
  exact ⟨_, rfl, HB.out⟩
end Go.Proofs.YticimccfeohpcaaGreat
