/- The law FnExactRowsOk: its walk, out of the contracts of what it calls. -/
import Derived.Test.YtgjjkodlmhmjgaaS24
import Derived.Test.YtgjjkodlmhmjgaaLR6
import Derived.Test.YtgjjkodlmhmjgaaLI2
namespace Go.Proofs.Ytgjjkodlmhmjgaa
open Go.ChangeShapes Go.WideShapes Go.ChangeAt Go.RowKit Go.Lb

set_option maxRecDepth 20000 in
set_option maxHeartbeats 4000000 in
theorem wRowsOk (aCols : List Int) (aCols_s : Value) (aL : List R) (aL_s : Value) (w : World) (H_aCols_s : RdI w 0 w.heap.size aCols_s aCols) (H_aL_s : RdR w 0 w.heap.size aL_s aL) (c0_aL : RsOk aL) :
    Calls Try.prog 3 #[aCols_s, aL_s] w fun e w' => e = .returned (.bool true) ∧ Below w.heap.size w w' := by
  have C0_aL := Lib.hid c0_aL
  clear c0_aL
  have hB : Below w.heap.size w w := Below.refl _ _
  go_enter Try.func3, Try.ntmps3
  obtain ⟨A_aCols_s, k_aCols_s, rfl, lc_aCols, mc_aCols⟩ := H_aCols_s.form
  by_cases T_aCols : aCols.length ≤ 1048576
  rotate_left
  · have D_aCols : decide ((1048576 : Int) < (aCols.length : Int)) = true := decide_eq_true (by omega)
    go_wp2_with fail
    go_ret
    exact ⟨rfl, hB⟩
  have D_aCols : decide ((1048576 : Int) < (aCols.length : Int)) = false := decide_eq_false (by omega)
  go_wp2_with fail
  refine (szRowS_c aL aL_s 1048576 _ (H_aL_s) (by omega) C0_aL.out (by omega) (by omega)).mono ?_
  rintro e w1 ⟨rfl, hb⟩
  have b0 : Below w.heap.size w w1 := hb
  have z0 := b0.size
  replace H_aCols_s := H_aCols_s.below b0 (by omega)
  replace H_aL_s := H_aL_s.below b0 (by omega)
  replace hB := hB.trans (b0.mono hB.size)
  clear hb b0
  have L0 := szRowS_le aL 1048576 (by omega) (by omega)
  have T_aL := szRowS_bd aL 1048576 (by omega) (by omega)
  generalize szRowS aL 1048576 = m0 at *
  by_cases h0 : m0 < 0
  · go_wp2_with fail
    go_ret
    exact ⟨rfl, hB⟩
  replace T_aL := T_aL h0
  go_wp2_with fail
  refine (toIntS_c aCols (.slice A_aCols_s aCols.length k_aCols_s) _ (H_aCols_s) (by omega) T_aCols).mono ?_
  rintro e w2 ⟨n1, rfl, H_n1, hb⟩
  have b1 : Below w1.heap.size w1 w2 := hb
  have z1 := b1.size
  replace H_aCols_s := H_aCols_s.below b1 (by omega)
  replace H_aL_s := H_aL_s.below b1 (by omega)
  replace hB := hB.trans (b1.mono hB.size)
  clear hb b1
  go_wp2_with fail
  refine (toRowS_c aL aL_s _ (H_aL_s) (by omega) T_aL).mono ?_
  rintro e w3 ⟨n2, rfl, H_n2, hb⟩
  have b2 : Below w2.heap.size w2 w3 := hb
  have z2 := b2.size
  replace H_aCols_s := H_aCols_s.below b2 (by omega)
  replace H_aL_s := H_aL_s.below b2 (by omega)
  replace H_n1 := H_n1.below b2 (by omega)
  replace hB := hB.trans (b2.mono hB.size)
  clear hb b2
  go_wp2_with fail
  refine (spec_RowsOk aCols n1 aL n2 _ (H_n1.rdI) (by omega) (H_n2.rdR) (by omega) C0_aL.out ).mono ?_
  rintro e w4 ⟨rfl, hb⟩
  have b3 : Below w3.heap.size w3 w4 := hb
  have z3 := b3.size
  replace H_aCols_s := H_aCols_s.below b3 (by omega)
  replace H_aL_s := H_aL_s.below b3 (by omega)
  replace H_n1 := H_n1.below b3 (by omega)
  replace H_n2 := H_n2.below b3 (by omega)
  replace hB := hB.trans (b3.mono hB.size)
  clear hb b3
  go_wp2_with fail
  refine (toIntS_c aCols (.slice A_aCols_s aCols.length k_aCols_s) _ (H_aCols_s) (by omega) T_aCols).mono ?_
  rintro e w5 ⟨n4, rfl, H_n4, hb⟩
  have b4 : Below w4.heap.size w4 w5 := hb
  have z4 := b4.size
  replace H_aCols_s := H_aCols_s.below b4 (by omega)
  replace H_aL_s := H_aL_s.below b4 (by omega)
  replace H_n1 := H_n1.below b4 (by omega)
  replace H_n2 := H_n2.below b4 (by omega)
  replace hB := hB.trans (b4.mono hB.size)
  clear hb b4
  go_wp2_with fail
  refine (toRowS_c aL aL_s _ (H_aL_s) (by omega) T_aL).mono ?_
  rintro e w6 ⟨n5, rfl, H_n5, hb⟩
  have b5 : Below w5.heap.size w5 w6 := hb
  have z5 := b5.size
  replace H_aCols_s := H_aCols_s.below b5 (by omega)
  replace H_aL_s := H_aL_s.below b5 (by omega)
  replace H_n1 := H_n1.below b5 (by omega)
  replace H_n2 := H_n2.below b5 (by omega)
  replace H_n4 := H_n4.below b5 (by omega)
  replace hB := hB.trans (b5.mono hB.size)
  clear hb b5
  go_wp2_with fail
  refine (impl_RowsOk aCols n4 aL n5 _ (H_n4.rdI) (by omega) (H_n5.rdR) (by omega) C0_aL.out ).mono ?_
  rintro e w7 ⟨rfl, hb⟩
  have b6 : Below w6.heap.size w6 w7 := hb
  have z6 := b6.size
  replace H_aCols_s := H_aCols_s.below b6 (by omega)
  replace H_aL_s := H_aL_s.below b6 (by omega)
  replace H_n1 := H_n1.below b6 (by omega)
  replace H_n2 := H_n2.below b6 (by omega)
  replace H_n4 := H_n4.below b6 (by omega)
  replace H_n5 := H_n5.below b6 (by omega)
  replace hB := hB.trans (b6.mono hB.size)
  clear hb b6
  go_wp2_with fail
  refine (toIntS_c aCols (.slice A_aCols_s aCols.length k_aCols_s) _ (H_aCols_s) (by omega) T_aCols).mono ?_
  rintro e w8 ⟨n7, rfl, H_n7, hb⟩
  have b7 : Below w7.heap.size w7 w8 := hb
  have z7 := b7.size
  replace H_aCols_s := H_aCols_s.below b7 (by omega)
  replace H_aL_s := H_aL_s.below b7 (by omega)
  replace H_n1 := H_n1.below b7 (by omega)
  replace H_n2 := H_n2.below b7 (by omega)
  replace H_n4 := H_n4.below b7 (by omega)
  replace H_n5 := H_n5.below b7 (by omega)
  replace hB := hB.trans (b7.mono hB.size)
  clear hb b7
  go_wp2_with fail
  refine (eqIntS_c aCols n4 aCols n7 _ (H_n4.rdI) (by omega) (H_n7.rdI) (by omega)).mono ?_
  rintro e w9 ⟨rfl, hb⟩
  have b8 : Below w8.heap.size w8 w9 := hb
  have z8 := b8.size
  replace H_aCols_s := H_aCols_s.below b8 (by omega)
  replace H_aL_s := H_aL_s.below b8 (by omega)
  replace H_n1 := H_n1.below b8 (by omega)
  replace H_n2 := H_n2.below b8 (by omega)
  replace H_n4 := H_n4.below b8 (by omega)
  replace H_n5 := H_n5.below b8 (by omega)
  replace H_n7 := H_n7.below b8 (by omega)
  replace hB := hB.trans (b8.mono hB.size)
  clear hb b8
  simp only [eqd_self]
  go_wp2_with fail
  refine (toRowS_c aL aL_s _ (H_aL_s) (by omega) T_aL).mono ?_
  rintro e w10 ⟨n9, rfl, H_n9, hb⟩
  have b9 : Below w9.heap.size w9 w10 := hb
  have z9 := b9.size
  replace H_aCols_s := H_aCols_s.below b9 (by omega)
  replace H_aL_s := H_aL_s.below b9 (by omega)
  replace H_n1 := H_n1.below b9 (by omega)
  replace H_n2 := H_n2.below b9 (by omega)
  replace H_n4 := H_n4.below b9 (by omega)
  replace H_n5 := H_n5.below b9 (by omega)
  replace H_n7 := H_n7.below b9 (by omega)
  replace hB := hB.trans (b9.mono hB.size)
  clear hb b9
  go_wp2_with fail
  refine (eqRowS_c aL n5 aL n9 _ (H_n5.rdR) (by omega) (H_n9.rdR) (by omega)).mono ?_
  rintro e w11 ⟨rfl, hb⟩
  have b10 : Below w10.heap.size w10 w11 := hb
  have z10 := b10.size
  replace H_aCols_s := H_aCols_s.below b10 (by omega)
  replace H_aL_s := H_aL_s.below b10 (by omega)
  replace H_n1 := H_n1.below b10 (by omega)
  replace H_n2 := H_n2.below b10 (by omega)
  replace H_n4 := H_n4.below b10 (by omega)
  replace H_n5 := H_n5.below b10 (by omega)
  replace H_n7 := H_n7.below b10 (by omega)
  replace H_n9 := H_n9.below b10 (by omega)
  replace hB := hB.trans (b10.mono hB.size)
  clear hb b10
  simp only [eqd_self]
  go_wp2_with fail
  go_ret
  exact ⟨rfl, hB⟩

end Go.Proofs.Ytgjjkodlmhmjgaa
