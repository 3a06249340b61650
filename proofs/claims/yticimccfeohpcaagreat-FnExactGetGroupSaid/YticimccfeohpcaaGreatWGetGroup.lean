/- The law FnExactGetGroup: its walk, out of the contracts of what it calls. -/
import Derived.Test.YticimccfeohpcaaGreatES
import Derived.Test.YticimccfeohpcaaGreatET
import Derived.Test.YticimccfeohpcaaGreatGG
import Derived.Test.YticimccfeohpcaaGreatLR6
import Derived.Test.YticimccfeohpcaaGreatLI2
import Derived.Test.YticimccfeohpcaaGreatXL
import Derived.Test.YticimccfeohpcaaGreatL4
import Derived.Test.YticimccfeohpcaaGreatL5
import Derived.Test.YticimccfeohpcaaGreatLY
namespace Go.Proofs.YticimccfeohpcaaGreat
open Go.ChangeShapes Go.WideShapes Go.ChangeAt Go.RowKit Go.Lb

set_option maxRecDepth 20000 in
set_option maxHeartbeats 4000000 in
theorem wGetGroup (aCols : List Int) (aCols_s : Value) (aB : List UInt8) (aB_s : Value) (w : World) (H_aCols_s : RdI w 0 w.heap.size aCols_s aCols) (H_aB_s : RdB w 0 w.heap.size aB_s aB) :
    Calls Tryz.prog 5 #[aCols_s, aB_s] w fun e w' => e = .returned (.bool true) ∧ Below w.heap.size w w' := by
  have O0 := getGroup_len aCols aB
  have hB : Below w.heap.size w w := Below.refl _ _
  go_enter Tryz.func5, Tryz.ntmps5
  obtain ⟨A_aCols_s, k_aCols_s, rfl, lc_aCols, mc_aCols⟩ := H_aCols_s.form
  by_cases T_aCols : aCols.length ≤ 1048576
  rotate_left
  · have D_aCols : decide ((1048576 : Int) < (aCols.length : Int)) = true := decide_eq_true (by omega)
    go_wp2_with fail
    go_ret
    exact ⟨rfl, hB⟩
  have D_aCols : decide ((1048576 : Int) < (aCols.length : Int)) = false := decide_eq_false (by omega)
  obtain ⟨A_aB_s, k_aB_s, rfl, lc_aB, mc_aB⟩ := H_aB_s.form
  by_cases T_aB : aB.length ≤ 1048576
  rotate_left
  · have D_aB : decide ((1048576 : Int) < (aB.length : Int)) = true := decide_eq_true (by omega)
    go_wp2_with fail
    go_ret
    exact ⟨rfl, hB⟩
  have D_aB : decide ((1048576 : Int) < (aB.length : Int)) = false := decide_eq_false (by omega)
  go_wp2_with fail
  refine (toIntS_c aCols (.slice A_aCols_s aCols.length k_aCols_s) _ (H_aCols_s) (by omega) T_aCols).mono ?_
  rintro e w1 ⟨n0, rfl, H_n0, hb⟩
  have b0 : Below w.heap.size w w1 := hb
  have z0 := b0.size
  replace H_aCols_s := H_aCols_s.below b0 (by omega)
  replace H_aB_s := H_aB_s.below b0 (by omega)
  replace hB := hB.trans (b0.mono hB.size)
  clear hb b0
  go_wp2_with fail
  refine (toByteS_c aB (.slice A_aB_s aB.length k_aB_s) _ (H_aB_s) (by omega) T_aB).mono ?_
  rintro e w2 ⟨n1, rfl, H_n1, hb⟩
  have b1 : Below w1.heap.size w1 w2 := hb
  have z1 := b1.size
  replace H_aCols_s := H_aCols_s.below b1 (by omega)
  replace H_aB_s := H_aB_s.below b1 (by omega)
  replace H_n0 := H_n0.below b1 (by omega)
  replace hB := hB.trans (b1.mono hB.size)
  clear hb b1
  go_wp2_with fail
  refine (spec_GetGroup aCols n0 aB n1 _ (H_n0.rdI) (by omega) (H_n1.rdBc) (by omega)  (by omega)).mono ?_
  rintro e w3 ⟨n2q, rfl, H_n2q, hb⟩
  have b2 : Below w2.heap.size w2 w3 := hb
  have z2 := b2.size
  replace H_aCols_s := H_aCols_s.below b2 (by omega)
  replace H_aB_s := H_aB_s.below b2 (by omega)
  replace H_n0 := H_n0.below b2 (by omega)
  replace H_n1 := H_n1.below b2 (by omega)
  replace hB := hB.trans (b2.mono hB.size)
  clear hb b2
  go_wp2_with fail
  refine (toIntS_c aCols (.slice A_aCols_s aCols.length k_aCols_s) _ (H_aCols_s) (by omega) T_aCols).mono ?_
  rintro e w4 ⟨n3, rfl, H_n3, hb⟩
  have b3 : Below w3.heap.size w3 w4 := hb
  have z3 := b3.size
  replace H_aCols_s := H_aCols_s.below b3 (by omega)
  replace H_aB_s := H_aB_s.below b3 (by omega)
  replace H_n0 := H_n0.below b3 (by omega)
  replace H_n1 := H_n1.below b3 (by omega)
  replace H_n2q := H_n2q.below b3 (by omega)
  replace hB := hB.trans (b3.mono hB.size)
  clear hb b3
  go_wp2_with fail
  refine (toByteS_c aB (.slice A_aB_s aB.length k_aB_s) _ (H_aB_s) (by omega) T_aB).mono ?_
  rintro e w5 ⟨n4, rfl, H_n4, hb⟩
  have b4 : Below w4.heap.size w4 w5 := hb
  have z4 := b4.size
  replace H_aCols_s := H_aCols_s.below b4 (by omega)
  replace H_aB_s := H_aB_s.below b4 (by omega)
  replace H_n0 := H_n0.below b4 (by omega)
  replace H_n1 := H_n1.below b4 (by omega)
  replace H_n2q := H_n2q.below b4 (by omega)
  replace H_n3 := H_n3.below b4 (by omega)
  replace hB := hB.trans (b4.mono hB.size)
  clear hb b4
  go_wp2_with fail
  refine (impl_GetGroup aCols n3 aB n4 _ (H_n3.rdI) (by omega) (H_n4.rdBc) (by omega)  (by omega)).mono ?_
  rintro e w6 ⟨n5q, rfl, H_n5q, hb⟩
  have b5 : Below w5.heap.size w5 w6 := hb
  have z5 := b5.size
  replace H_aCols_s := H_aCols_s.below b5 (by omega)
  replace H_aB_s := H_aB_s.below b5 (by omega)
  replace H_n0 := H_n0.below b5 (by omega)
  replace H_n1 := H_n1.below b5 (by omega)
  replace H_n2q := H_n2q.below b5 (by omega)
  replace H_n3 := H_n3.below b5 (by omega)
  replace H_n4 := H_n4.below b5 (by omega)
  replace hB := hB.trans (b5.mono hB.size)
  clear hb b5
  go_wp2_with fail
  refine (eqRowS_c (((getGroup aCols aB).getD [])) n5q (((getGroup aCols aB).getD [])) n2q _ (H_n5q.rdR) (by omega) (H_n2q.rdR) (by omega)).mono ?_
  rintro e w7 ⟨rfl, hb⟩
  have b6 : Below w6.heap.size w6 w7 := hb
  have z6 := b6.size
  replace H_aCols_s := H_aCols_s.below b6 (by omega)
  replace H_aB_s := H_aB_s.below b6 (by omega)
  replace H_n0 := H_n0.below b6 (by omega)
  replace H_n1 := H_n1.below b6 (by omega)
  replace H_n2q := H_n2q.below b6 (by omega)
  replace H_n3 := H_n3.below b6 (by omega)
  replace H_n4 := H_n4.below b6 (by omega)
  replace H_n5q := H_n5q.below b6 (by omega)
  replace hB := hB.trans (b6.mono hB.size)
  clear hb b6
  try simp only [eqd_self]
  go_wp2_with fail
  refine (toIntS_c aCols (.slice A_aCols_s aCols.length k_aCols_s) _ (H_aCols_s) (by omega) T_aCols).mono ?_
  rintro e w8 ⟨n7, rfl, H_n7, hb⟩
  have b7 : Below w7.heap.size w7 w8 := hb
  have z7 := b7.size
  replace H_aCols_s := H_aCols_s.below b7 (by omega)
  replace H_aB_s := H_aB_s.below b7 (by omega)
  replace H_n0 := H_n0.below b7 (by omega)
  replace H_n1 := H_n1.below b7 (by omega)
  replace H_n2q := H_n2q.below b7 (by omega)
  replace H_n3 := H_n3.below b7 (by omega)
  replace H_n4 := H_n4.below b7 (by omega)
  replace H_n5q := H_n5q.below b7 (by omega)
  replace hB := hB.trans (b7.mono hB.size)
  clear hb b7
  go_wp2_with fail
  refine (eqIntS_c aCols n3 aCols n7 _ (H_n3.rdI) (by omega) (H_n7.rdI) (by omega)).mono ?_
  rintro e w9 ⟨rfl, hb⟩
  have b8 : Below w8.heap.size w8 w9 := hb
  have z8 := b8.size
  replace H_aCols_s := H_aCols_s.below b8 (by omega)
  replace H_aB_s := H_aB_s.below b8 (by omega)
  replace H_n0 := H_n0.below b8 (by omega)
  replace H_n1 := H_n1.below b8 (by omega)
  replace H_n2q := H_n2q.below b8 (by omega)
  replace H_n3 := H_n3.below b8 (by omega)
  replace H_n4 := H_n4.below b8 (by omega)
  replace H_n5q := H_n5q.below b8 (by omega)
  replace H_n7 := H_n7.below b8 (by omega)
  replace hB := hB.trans (b8.mono hB.size)
  clear hb b8
  try simp only [eqd_self]
  go_wp2_with fail
  refine (toByteS_c aB (.slice A_aB_s aB.length k_aB_s) _ (H_aB_s) (by omega) T_aB).mono ?_
  rintro e w10 ⟨n9, rfl, H_n9, hb⟩
  have b9 : Below w9.heap.size w9 w10 := hb
  have z9 := b9.size
  replace H_aCols_s := H_aCols_s.below b9 (by omega)
  replace H_aB_s := H_aB_s.below b9 (by omega)
  replace H_n0 := H_n0.below b9 (by omega)
  replace H_n1 := H_n1.below b9 (by omega)
  replace H_n2q := H_n2q.below b9 (by omega)
  replace H_n3 := H_n3.below b9 (by omega)
  replace H_n4 := H_n4.below b9 (by omega)
  replace H_n5q := H_n5q.below b9 (by omega)
  replace H_n7 := H_n7.below b9 (by omega)
  replace hB := hB.trans (b9.mono hB.size)
  clear hb b9
  go_wp2_with fail
  refine (eqByteS_c aB n4 aB n9 _ (H_n4.rdBc) (by omega) (H_n9.rdBc) (by omega)).mono ?_
  rintro e w11 ⟨rfl, hb⟩
  have b10 : Below w10.heap.size w10 w11 := hb
  have z10 := b10.size
  replace H_aCols_s := H_aCols_s.below b10 (by omega)
  replace H_aB_s := H_aB_s.below b10 (by omega)
  replace H_n0 := H_n0.below b10 (by omega)
  replace H_n1 := H_n1.below b10 (by omega)
  replace H_n2q := H_n2q.below b10 (by omega)
  replace H_n3 := H_n3.below b10 (by omega)
  replace H_n4 := H_n4.below b10 (by omega)
  replace H_n5q := H_n5q.below b10 (by omega)
  replace H_n7 := H_n7.below b10 (by omega)
  replace H_n9 := H_n9.below b10 (by omega)
  replace hB := hB.trans (b10.mono hB.size)
  clear hb b10
  try simp only [eqd_self]
  go_wp2_with fail
  refine (markIntS_c n3 aCols 1 _ H_n3 (by omega) (by omega)).mono ?_
  rintro e w12 ⟨rfl, H_n3m, hb⟩
  clear H_n3
  have z11 := hb.size
  replace H_aCols_s := H_aCols_s.same (.of_chg hb (by omega) (by omega))
  replace H_aB_s := H_aB_s.same (.of_chg hb (by omega) (by omega))
  replace H_n0 := H_n0.same (.of_chg hb (by omega) (by omega))
  replace H_n1 := H_n1.same (.of_chg hb (by omega) (by omega))
  replace H_n2q := H_n2q.same (.of_chg hb (by omega) (by omega))
  replace H_n4 := H_n4.same (.of_chg hb (by omega) (by omega))
  replace H_n5q := H_n5q.same (.of_chg hb (by omega) (by omega))
  replace H_n7 := H_n7.same (.of_chg hb (by omega) (by omega))
  replace H_n9 := H_n9.same (.of_chg hb (by omega) (by omega))
  replace hB := hB.trans (hb.below (by omega) (by omega))
  clear hb
  have H_n3 := H_n3m
  clear H_n3m
  go_wp2_with fail
  refine (markByteS_c n4 aB (1 + ((aCols).length : Nat)) _ H_n4 (by omega) (by omega)).mono ?_
  rintro e w13 ⟨rfl, H_n4m, hb⟩
  clear H_n4
  have z12 := hb.size
  replace H_aCols_s := H_aCols_s.same (.of_chg hb (by omega) (by omega))
  replace H_aB_s := H_aB_s.same (.of_chg hb (by omega) (by omega))
  replace H_n0 := H_n0.same (.of_chg hb (by omega) (by omega))
  replace H_n1 := H_n1.same (.of_chg hb (by omega) (by omega))
  replace H_n2q := H_n2q.same (.of_chg hb (by omega) (by omega))
  replace H_n3 := H_n3.same (.of_chg hb (by omega) (by omega))
  replace H_n5q := H_n5q.same (.of_chg hb (by omega) (by omega))
  replace H_n7 := H_n7.same (.of_chg hb (by omega) (by omega))
  replace H_n9 := H_n9.same (.of_chg hb (by omega) (by omega))
  replace hB := hB.trans (hb.below (by omega) (by omega))
  clear hb
  have H_n4 := H_n4m
  clear H_n4m
  go_wp2_with fail
  refine (eqRowS_c (((getGroup aCols aB).getD [])) n5q (((getGroup aCols aB).getD [])) n2q _ (H_n5q.rdR) (by omega) (H_n2q.rdR) (by omega)).mono ?_
  rintro e w14 ⟨rfl, hb⟩
  have b13 : Below w13.heap.size w13 w14 := hb
  have z13 := b13.size
  replace H_aCols_s := H_aCols_s.below b13 (by omega)
  replace H_aB_s := H_aB_s.below b13 (by omega)
  replace H_n0 := H_n0.below b13 (by omega)
  replace H_n1 := H_n1.below b13 (by omega)
  replace H_n2q := H_n2q.below b13 (by omega)
  replace H_n3 := H_n3.below b13 (by omega)
  replace H_n4 := H_n4.below b13 (by omega)
  replace H_n5q := H_n5q.below b13 (by omega)
  replace H_n7 := H_n7.below b13 (by omega)
  replace H_n9 := H_n9.below b13 (by omega)
  replace hB := hB.trans (b13.mono hB.size)
  clear hb b13
  try simp only [eqd_self]
  go_wp2_with fail
  refine (markRowS_c n5q (((getGroup aCols aB).getD [])) 1 _ H_n5q (by omega) (by omega)).mono ?_
  rintro e w15 ⟨rfl, H_n5qm, hb⟩
  clear H_n5q
  have z14 := hb.size
  replace H_aCols_s := H_aCols_s.same (.of_chg hb (by omega) (by omega))
  replace H_aB_s := H_aB_s.same (.of_chg hb (by omega) (by omega))
  replace H_n0 := H_n0.same (.of_chg hb (by omega) (by omega))
  replace H_n1 := H_n1.same (.of_chg hb (by omega) (by omega))
  replace H_n2q := H_n2q.same (.of_chg hb (by omega) (by omega))
  replace H_n3 := H_n3.same (.of_chg hb (by omega) (by omega))
  replace H_n4 := H_n4.same (.of_chg hb (by omega) (by omega))
  replace H_n7 := H_n7.same (.of_chg hb (by omega) (by omega))
  replace H_n9 := H_n9.same (.of_chg hb (by omega) (by omega))
  replace hB := hB.trans (hb.below (by omega) (by omega))
  clear hb
  have H_n5q := H_n5qm
  clear H_n5qm
  go_wp2_with fail
  refine (heldRowS_c n5q (((getGroup aCols aB).getD [])) 1 _ H_n5q (by omega) (by omega) (by omega)).mono ?_
  rintro e w16 ⟨rfl, hb⟩
  have b15 : Below w15.heap.size w15 w16 := hb
  have z15 := b15.size
  replace H_aCols_s := H_aCols_s.below b15 (by omega)
  replace H_aB_s := H_aB_s.below b15 (by omega)
  replace H_n0 := H_n0.below b15 (by omega)
  replace H_n1 := H_n1.below b15 (by omega)
  replace H_n2q := H_n2q.below b15 (by omega)
  replace H_n3 := H_n3.below b15 (by omega)
  replace H_n4 := H_n4.below b15 (by omega)
  replace H_n5q := H_n5q.below b15 (by omega)
  replace H_n7 := H_n7.below b15 (by omega)
  replace H_n9 := H_n9.below b15 (by omega)
  replace hB := hB.trans (b15.mono hB.size)
  clear hb b15
  go_wp2_with fail
  refine (toIntS_c aCols (.slice A_aCols_s aCols.length k_aCols_s) _ (H_aCols_s) (by omega) T_aCols).mono ?_
  rintro e w17 ⟨n16, rfl, H_n16, hb⟩
  have b16 : Below w16.heap.size w16 w17 := hb
  have z16 := b16.size
  replace H_aCols_s := H_aCols_s.below b16 (by omega)
  replace H_aB_s := H_aB_s.below b16 (by omega)
  replace H_n0 := H_n0.below b16 (by omega)
  replace H_n1 := H_n1.below b16 (by omega)
  replace H_n2q := H_n2q.below b16 (by omega)
  replace H_n3 := H_n3.below b16 (by omega)
  replace H_n4 := H_n4.below b16 (by omega)
  replace H_n5q := H_n5q.below b16 (by omega)
  replace H_n7 := H_n7.below b16 (by omega)
  replace H_n9 := H_n9.below b16 (by omega)
  replace hB := hB.trans (b16.mono hB.size)
  clear hb b16
  go_wp2_with fail
  refine (toByteS_c aB (.slice A_aB_s aB.length k_aB_s) _ (H_aB_s) (by omega) T_aB).mono ?_
  rintro e w18 ⟨n17, rfl, H_n17, hb⟩
  have b17 : Below w17.heap.size w17 w18 := hb
  have z17 := b17.size
  replace H_aCols_s := H_aCols_s.below b17 (by omega)
  replace H_aB_s := H_aB_s.below b17 (by omega)
  replace H_n0 := H_n0.below b17 (by omega)
  replace H_n1 := H_n1.below b17 (by omega)
  replace H_n2q := H_n2q.below b17 (by omega)
  replace H_n3 := H_n3.below b17 (by omega)
  replace H_n4 := H_n4.below b17 (by omega)
  replace H_n5q := H_n5q.below b17 (by omega)
  replace H_n7 := H_n7.below b17 (by omega)
  replace H_n9 := H_n9.below b17 (by omega)
  replace H_n16 := H_n16.below b17 (by omega)
  replace hB := hB.trans (b17.mono hB.size)
  clear hb b17
  go_wp2_with fail
  refine (impl_GetGroup aCols n16 aB n17 _ (H_n16.rdI) (by omega) (H_n17.rdBc) (by omega)  (by omega)).mono ?_
  rintro e w19 ⟨n18q, rfl, H_n18q, hb⟩
  have b18 : Below w18.heap.size w18 w19 := hb
  have z18 := b18.size
  replace H_aCols_s := H_aCols_s.below b18 (by omega)
  replace H_aB_s := H_aB_s.below b18 (by omega)
  replace H_n0 := H_n0.below b18 (by omega)
  replace H_n1 := H_n1.below b18 (by omega)
  replace H_n2q := H_n2q.below b18 (by omega)
  replace H_n3 := H_n3.below b18 (by omega)
  replace H_n4 := H_n4.below b18 (by omega)
  replace H_n5q := H_n5q.below b18 (by omega)
  replace H_n7 := H_n7.below b18 (by omega)
  replace H_n9 := H_n9.below b18 (by omega)
  replace H_n16 := H_n16.below b18 (by omega)
  replace H_n17 := H_n17.below b18 (by omega)
  replace hB := hB.trans (b18.mono hB.size)
  clear hb b18
  go_wp2_with fail
  refine (eqRowS_c (((getGroup aCols aB).getD [])) n18q (((getGroup aCols aB).getD [])) n2q _ (H_n18q.rdR) (by omega) (H_n2q.rdR) (by omega)).mono ?_
  rintro e w20 ⟨rfl, hb⟩
  have b19 : Below w19.heap.size w19 w20 := hb
  have z19 := b19.size
  replace H_aCols_s := H_aCols_s.below b19 (by omega)
  replace H_aB_s := H_aB_s.below b19 (by omega)
  replace H_n0 := H_n0.below b19 (by omega)
  replace H_n1 := H_n1.below b19 (by omega)
  replace H_n2q := H_n2q.below b19 (by omega)
  replace H_n3 := H_n3.below b19 (by omega)
  replace H_n4 := H_n4.below b19 (by omega)
  replace H_n5q := H_n5q.below b19 (by omega)
  replace H_n7 := H_n7.below b19 (by omega)
  replace H_n9 := H_n9.below b19 (by omega)
  replace H_n16 := H_n16.below b19 (by omega)
  replace H_n17 := H_n17.below b19 (by omega)
  replace H_n18q := H_n18q.below b19 (by omega)
  replace hB := hB.trans (b19.mono hB.size)
  clear hb b19
  try simp only [eqd_self]
  go_wp2_with fail
  refine (heldRowS_c n5q (((getGroup aCols aB).getD [])) 1 _ H_n5q (by omega) (by omega) (by omega)).mono ?_
  rintro e w21 ⟨rfl, hb⟩
  have b20 : Below w20.heap.size w20 w21 := hb
  have z20 := b20.size
  replace H_aCols_s := H_aCols_s.below b20 (by omega)
  replace H_aB_s := H_aB_s.below b20 (by omega)
  replace H_n0 := H_n0.below b20 (by omega)
  replace H_n1 := H_n1.below b20 (by omega)
  replace H_n2q := H_n2q.below b20 (by omega)
  replace H_n3 := H_n3.below b20 (by omega)
  replace H_n4 := H_n4.below b20 (by omega)
  replace H_n5q := H_n5q.below b20 (by omega)
  replace H_n7 := H_n7.below b20 (by omega)
  replace H_n9 := H_n9.below b20 (by omega)
  replace H_n16 := H_n16.below b20 (by omega)
  replace H_n17 := H_n17.below b20 (by omega)
  replace H_n18q := H_n18q.below b20 (by omega)
  replace hB := hB.trans (b20.mono hB.size)
  clear hb b20
  go_wp2_with fail
  go_ret
  exact ⟨rfl, hB⟩

end Go.Proofs.YticimccfeohpcaaGreat
