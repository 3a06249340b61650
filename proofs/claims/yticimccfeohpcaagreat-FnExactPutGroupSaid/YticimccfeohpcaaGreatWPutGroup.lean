/- The law FnExactPutGroup: its walk, out of the contracts of what it calls. -/
import Derived.Test.YticimccfeohpcaaGreatEL
import Derived.Test.YticimccfeohpcaaGreatLR6
import Derived.Test.YticimccfeohpcaaGreatLI2
import Derived.Test.YticimccfeohpcaaGreatXL
import Derived.Test.YticimccfeohpcaaGreatL4
import Derived.Test.YticimccfeohpcaaGreatL5
import Derived.Test.YticimccfeohpcaaGreatLY
namespace Go.Proofs.YticimccfeohpcaaGreat
open Go.ChangeShapes Go.WideShapes Go.ChangeAt Go.RowKit Go.Lb

set_option maxRecDepth 20000 in
set_option maxHeartbeats 4000000 in
theorem wPutGroup (aCols : List Int) (aCols_s : Value) (aL : List R) (aL_s : Value) (w : World) (H_aCols_s : RdI w 0 w.heap.size aCols_s aCols) (H_aL_s : RdR w 0 w.heap.size aL_s aL) (c0_aL : RsOk aL) :
    Calls Tryz.prog 4 #[aCols_s, aL_s] w fun e w' => e = .returned (.bool true) ∧ Below w.heap.size w w' := by
  have C0_aL := Lib.hid c0_aL
  clear c0_aL
  have O0 := putGroup_len aCols aL
  have hB : Below w.heap.size w w := Below.refl _ _
  go_enter Tryz.func4, Tryz.ntmps4
  obtain ⟨A_aCols_s, k_aCols_s, rfl, lc_aCols, mc_aCols⟩ := H_aCols_s.form
  by_cases T_aCols : aCols.length ≤ 1048576
  rotate_left
  · have D_aCols : decide ((1048576 : Int) < (aCols.length : Int)) = true := decide_eq_true (by omega)
    go_wp2_with fail
    go_ret
    exact ⟨rfl, hB⟩
  have D_aCols : decide ((1048576 : Int) < (aCols.length : Int)) = false := decide_eq_false (by omega)
  go_wp2_with fail
  refine (szRowS_c aL aL_s 1048576 _ (H_aL_s) (by omega) C0_aL.out (by omega) (by omega)).mono ?_
  rintro e w1 ⟨rfl, hb⟩
  have b0 : Below w.heap.size w w1 := hb
  have z0 := b0.size
  replace H_aCols_s := H_aCols_s.below b0 (by omega)
  replace H_aL_s := H_aL_s.below b0 (by omega)
  replace hB := hB.trans (b0.mono hB.size)
  clear hb b0
  have L0 := szRowS_le aL 1048576 (by omega) (by omega)
  have T_aL := szRowS_bd aL 1048576 (by omega) (by omega)
  generalize szRowS aL 1048576 = m0 at *
  by_cases h0 : m0 < 0
  · go_wp2_with fail
    go_ret
    exact ⟨rfl, hB⟩
  replace T_aL := T_aL h0
  go_wp2_with fail
  refine (toIntS_c aCols (.slice A_aCols_s aCols.length k_aCols_s) _ (H_aCols_s) (by omega) T_aCols).mono ?_
  rintro e w2 ⟨n1, rfl, H_n1, hb⟩
  have b1 : Below w1.heap.size w1 w2 := hb
  have z1 := b1.size
  replace H_aCols_s := H_aCols_s.below b1 (by omega)
  replace H_aL_s := H_aL_s.below b1 (by omega)
  replace hB := hB.trans (b1.mono hB.size)
  clear hb b1
  go_wp2_with fail
  refine (toRowS_c aL aL_s _ (H_aL_s) (by omega) T_aL).mono ?_
  rintro e w3 ⟨n2, rfl, H_n2, hb⟩
  have b2 : Below w2.heap.size w2 w3 := hb
  have z2 := b2.size
  replace H_aCols_s := H_aCols_s.below b2 (by omega)
  replace H_aL_s := H_aL_s.below b2 (by omega)
  replace H_n1 := H_n1.below b2 (by omega)
  replace hB := hB.trans (b2.mono hB.size)
  clear hb b2
  go_wp2_with fail
  refine (spec_PutGroup aCols n1 aL n2 _ (H_n1.rdI) (by omega) (H_n2.rdR) (by omega) C0_aL.out ).mono ?_
  rintro e w4 ⟨n3q, rfl, H_n3q, hb⟩
  have b3 : Below w3.heap.size w3 w4 := hb
  have z3 := b3.size
  replace H_aCols_s := H_aCols_s.below b3 (by omega)
  replace H_aL_s := H_aL_s.below b3 (by omega)
  replace H_n1 := H_n1.below b3 (by omega)
  replace H_n2 := H_n2.below b3 (by omega)
  replace hB := hB.trans (b3.mono hB.size)
  clear hb b3
  go_wp2_with fail
  refine (toIntS_c aCols (.slice A_aCols_s aCols.length k_aCols_s) _ (H_aCols_s) (by omega) T_aCols).mono ?_
  rintro e w5 ⟨n4, rfl, H_n4, hb⟩
  have b4 : Below w4.heap.size w4 w5 := hb
  have z4 := b4.size
  replace H_aCols_s := H_aCols_s.below b4 (by omega)
  replace H_aL_s := H_aL_s.below b4 (by omega)
  replace H_n1 := H_n1.below b4 (by omega)
  replace H_n2 := H_n2.below b4 (by omega)
  replace H_n3q := H_n3q.below b4 (by omega)
  replace hB := hB.trans (b4.mono hB.size)
  clear hb b4
  go_wp2_with fail
  refine (toRowS_c aL aL_s _ (H_aL_s) (by omega) T_aL).mono ?_
  rintro e w6 ⟨n5, rfl, H_n5, hb⟩
  have b5 : Below w5.heap.size w5 w6 := hb
  have z5 := b5.size
  replace H_aCols_s := H_aCols_s.below b5 (by omega)
  replace H_aL_s := H_aL_s.below b5 (by omega)
  replace H_n1 := H_n1.below b5 (by omega)
  replace H_n2 := H_n2.below b5 (by omega)
  replace H_n3q := H_n3q.below b5 (by omega)
  replace H_n4 := H_n4.below b5 (by omega)
  replace hB := hB.trans (b5.mono hB.size)
  clear hb b5
  go_wp2_with fail
  refine (impl_PutGroup aCols n4 aL n5 _ (H_n4.rdI) (by omega) (H_n5.rdR) (by omega) C0_aL.out ).mono ?_
  rintro e w7 ⟨n6q, rfl, H_n6q, hb⟩
  have b6 : Below w6.heap.size w6 w7 := hb
  have z6 := b6.size
  replace H_aCols_s := H_aCols_s.below b6 (by omega)
  replace H_aL_s := H_aL_s.below b6 (by omega)
  replace H_n1 := H_n1.below b6 (by omega)
  replace H_n2 := H_n2.below b6 (by omega)
  replace H_n3q := H_n3q.below b6 (by omega)
  replace H_n4 := H_n4.below b6 (by omega)
  replace H_n5 := H_n5.below b6 (by omega)
  replace hB := hB.trans (b6.mono hB.size)
  clear hb b6
  go_wp2_with fail
  refine (eqByteS_c ((putGroup aCols aL)) n6q ((putGroup aCols aL)) n3q _ (H_n6q.rdBc) (by omega) (H_n3q.rdBc) (by omega)).mono ?_
  rintro e w8 ⟨rfl, hb⟩
  have b7 : Below w7.heap.size w7 w8 := hb
  have z7 := b7.size
  replace H_aCols_s := H_aCols_s.below b7 (by omega)
  replace H_aL_s := H_aL_s.below b7 (by omega)
  replace H_n1 := H_n1.below b7 (by omega)
  replace H_n2 := H_n2.below b7 (by omega)
  replace H_n3q := H_n3q.below b7 (by omega)
  replace H_n4 := H_n4.below b7 (by omega)
  replace H_n5 := H_n5.below b7 (by omega)
  replace H_n6q := H_n6q.below b7 (by omega)
  replace hB := hB.trans (b7.mono hB.size)
  clear hb b7
  try simp only [eqd_self]
  go_wp2_with fail
  refine (toIntS_c aCols (.slice A_aCols_s aCols.length k_aCols_s) _ (H_aCols_s) (by omega) T_aCols).mono ?_
  rintro e w9 ⟨n8, rfl, H_n8, hb⟩
  have b8 : Below w8.heap.size w8 w9 := hb
  have z8 := b8.size
  replace H_aCols_s := H_aCols_s.below b8 (by omega)
  replace H_aL_s := H_aL_s.below b8 (by omega)
  replace H_n1 := H_n1.below b8 (by omega)
  replace H_n2 := H_n2.below b8 (by omega)
  replace H_n3q := H_n3q.below b8 (by omega)
  replace H_n4 := H_n4.below b8 (by omega)
  replace H_n5 := H_n5.below b8 (by omega)
  replace H_n6q := H_n6q.below b8 (by omega)
  replace hB := hB.trans (b8.mono hB.size)
  clear hb b8
  go_wp2_with fail
  refine (eqIntS_c aCols n4 aCols n8 _ (H_n4.rdI) (by omega) (H_n8.rdI) (by omega)).mono ?_
  rintro e w10 ⟨rfl, hb⟩
  have b9 : Below w9.heap.size w9 w10 := hb
  have z9 := b9.size
  replace H_aCols_s := H_aCols_s.below b9 (by omega)
  replace H_aL_s := H_aL_s.below b9 (by omega)
  replace H_n1 := H_n1.below b9 (by omega)
  replace H_n2 := H_n2.below b9 (by omega)
  replace H_n3q := H_n3q.below b9 (by omega)
  replace H_n4 := H_n4.below b9 (by omega)
  replace H_n5 := H_n5.below b9 (by omega)
  replace H_n6q := H_n6q.below b9 (by omega)
  replace H_n8 := H_n8.below b9 (by omega)
  replace hB := hB.trans (b9.mono hB.size)
  clear hb b9
  try simp only [eqd_self]
  go_wp2_with fail
  refine (toRowS_c aL aL_s _ (H_aL_s) (by omega) T_aL).mono ?_
  rintro e w11 ⟨n10, rfl, H_n10, hb⟩
  have b10 : Below w10.heap.size w10 w11 := hb
  have z10 := b10.size
  replace H_aCols_s := H_aCols_s.below b10 (by omega)
  replace H_aL_s := H_aL_s.below b10 (by omega)
  replace H_n1 := H_n1.below b10 (by omega)
  replace H_n2 := H_n2.below b10 (by omega)
  replace H_n3q := H_n3q.below b10 (by omega)
  replace H_n4 := H_n4.below b10 (by omega)
  replace H_n5 := H_n5.below b10 (by omega)
  replace H_n6q := H_n6q.below b10 (by omega)
  replace H_n8 := H_n8.below b10 (by omega)
  replace hB := hB.trans (b10.mono hB.size)
  clear hb b10
  go_wp2_with fail
  refine (eqRowS_c aL n5 aL n10 _ (H_n5.rdR) (by omega) (H_n10.rdR) (by omega)).mono ?_
  rintro e w12 ⟨rfl, hb⟩
  have b11 : Below w11.heap.size w11 w12 := hb
  have z11 := b11.size
  replace H_aCols_s := H_aCols_s.below b11 (by omega)
  replace H_aL_s := H_aL_s.below b11 (by omega)
  replace H_n1 := H_n1.below b11 (by omega)
  replace H_n2 := H_n2.below b11 (by omega)
  replace H_n3q := H_n3q.below b11 (by omega)
  replace H_n4 := H_n4.below b11 (by omega)
  replace H_n5 := H_n5.below b11 (by omega)
  replace H_n6q := H_n6q.below b11 (by omega)
  replace H_n8 := H_n8.below b11 (by omega)
  replace H_n10 := H_n10.below b11 (by omega)
  replace hB := hB.trans (b11.mono hB.size)
  clear hb b11
  try simp only [eqd_self]
  go_wp2_with fail
  refine (markIntS_c n4 aCols 1 _ H_n4 (by omega) (by omega)).mono ?_
  rintro e w13 ⟨rfl, H_n4m, hb⟩
  clear H_n4
  have z12 := hb.size
  replace H_aCols_s := H_aCols_s.same (.of_chg hb (by omega) (by omega))
  replace H_aL_s := H_aL_s.same (.of_chg hb (by omega) (by omega))
  replace H_n1 := H_n1.same (.of_chg hb (by omega) (by omega))
  replace H_n2 := H_n2.same (.of_chg hb (by omega) (by omega))
  replace H_n3q := H_n3q.same (.of_chg hb (by omega) (by omega))
  replace H_n5 := H_n5.same (.of_chg hb (by omega) (by omega))
  replace H_n6q := H_n6q.same (.of_chg hb (by omega) (by omega))
  replace H_n8 := H_n8.same (.of_chg hb (by omega) (by omega))
  replace H_n10 := H_n10.same (.of_chg hb (by omega) (by omega))
  replace hB := hB.trans (hb.below (by omega) (by omega))
  clear hb
  have H_n4 := H_n4m
  clear H_n4m
  go_wp2_with fail
  refine (markRowS_c n5 aL (1 + ((aCols).length : Nat)) _ H_n5 (by omega) (by omega)).mono ?_
  rintro e w14 ⟨rfl, H_n5m, hb⟩
  clear H_n5
  have z13 := hb.size
  replace H_aCols_s := H_aCols_s.same (.of_chg hb (by omega) (by omega))
  replace H_aL_s := H_aL_s.same (.of_chg hb (by omega) (by omega))
  replace H_n1 := H_n1.same (.of_chg hb (by omega) (by omega))
  replace H_n2 := H_n2.same (.of_chg hb (by omega) (by omega))
  replace H_n3q := H_n3q.same (.of_chg hb (by omega) (by omega))
  replace H_n4 := H_n4.same (.of_chg hb (by omega) (by omega))
  replace H_n6q := H_n6q.same (.of_chg hb (by omega) (by omega))
  replace H_n8 := H_n8.same (.of_chg hb (by omega) (by omega))
  replace H_n10 := H_n10.same (.of_chg hb (by omega) (by omega))
  replace hB := hB.trans (hb.below (by omega) (by omega))
  clear hb
  have H_n5 := H_n5m
  clear H_n5m
  go_wp2_with fail
  refine (eqByteS_c ((putGroup aCols aL)) n6q ((putGroup aCols aL)) n3q _ (H_n6q.rdBc) (by omega) (H_n3q.rdBc) (by omega)).mono ?_
  rintro e w15 ⟨rfl, hb⟩
  have b14 : Below w14.heap.size w14 w15 := hb
  have z14 := b14.size
  replace H_aCols_s := H_aCols_s.below b14 (by omega)
  replace H_aL_s := H_aL_s.below b14 (by omega)
  replace H_n1 := H_n1.below b14 (by omega)
  replace H_n2 := H_n2.below b14 (by omega)
  replace H_n3q := H_n3q.below b14 (by omega)
  replace H_n4 := H_n4.below b14 (by omega)
  replace H_n5 := H_n5.below b14 (by omega)
  replace H_n6q := H_n6q.below b14 (by omega)
  replace H_n8 := H_n8.below b14 (by omega)
  replace H_n10 := H_n10.below b14 (by omega)
  replace hB := hB.trans (b14.mono hB.size)
  clear hb b14
  try simp only [eqd_self]
  go_wp2_with fail
  refine (markByteS_c n6q ((putGroup aCols aL)) 1 _ H_n6q (by omega) (by omega)).mono ?_
  rintro e w16 ⟨rfl, H_n6qm, hb⟩
  clear H_n6q
  have z15 := hb.size
  replace H_aCols_s := H_aCols_s.same (.of_chg hb (by omega) (by omega))
  replace H_aL_s := H_aL_s.same (.of_chg hb (by omega) (by omega))
  replace H_n1 := H_n1.same (.of_chg hb (by omega) (by omega))
  replace H_n2 := H_n2.same (.of_chg hb (by omega) (by omega))
  replace H_n3q := H_n3q.same (.of_chg hb (by omega) (by omega))
  replace H_n4 := H_n4.same (.of_chg hb (by omega) (by omega))
  replace H_n5 := H_n5.same (.of_chg hb (by omega) (by omega))
  replace H_n8 := H_n8.same (.of_chg hb (by omega) (by omega))
  replace H_n10 := H_n10.same (.of_chg hb (by omega) (by omega))
  replace hB := hB.trans (hb.below (by omega) (by omega))
  clear hb
  have H_n6q := H_n6qm
  clear H_n6qm
  go_wp2_with fail
  refine (heldByteS_c n6q ((putGroup aCols aL)) 1 _ H_n6q (by omega) (by omega) (by omega)).mono ?_
  rintro e w17 ⟨rfl, hb⟩
  have b16 : Below w16.heap.size w16 w17 := hb
  have z16 := b16.size
  replace H_aCols_s := H_aCols_s.below b16 (by omega)
  replace H_aL_s := H_aL_s.below b16 (by omega)
  replace H_n1 := H_n1.below b16 (by omega)
  replace H_n2 := H_n2.below b16 (by omega)
  replace H_n3q := H_n3q.below b16 (by omega)
  replace H_n4 := H_n4.below b16 (by omega)
  replace H_n5 := H_n5.below b16 (by omega)
  replace H_n6q := H_n6q.below b16 (by omega)
  replace H_n8 := H_n8.below b16 (by omega)
  replace H_n10 := H_n10.below b16 (by omega)
  replace hB := hB.trans (b16.mono hB.size)
  clear hb b16
  go_wp2_with fail
  refine (toIntS_c aCols (.slice A_aCols_s aCols.length k_aCols_s) _ (H_aCols_s) (by omega) T_aCols).mono ?_
  rintro e w18 ⟨n17, rfl, H_n17, hb⟩
  have b17 : Below w17.heap.size w17 w18 := hb
  have z17 := b17.size
  replace H_aCols_s := H_aCols_s.below b17 (by omega)
  replace H_aL_s := H_aL_s.below b17 (by omega)
  replace H_n1 := H_n1.below b17 (by omega)
  replace H_n2 := H_n2.below b17 (by omega)
  replace H_n3q := H_n3q.below b17 (by omega)
  replace H_n4 := H_n4.below b17 (by omega)
  replace H_n5 := H_n5.below b17 (by omega)
  replace H_n6q := H_n6q.below b17 (by omega)
  replace H_n8 := H_n8.below b17 (by omega)
  replace H_n10 := H_n10.below b17 (by omega)
  replace hB := hB.trans (b17.mono hB.size)
  clear hb b17
  go_wp2_with fail
  refine (toRowS_c aL aL_s _ (H_aL_s) (by omega) T_aL).mono ?_
  rintro e w19 ⟨n18, rfl, H_n18, hb⟩
  have b18 : Below w18.heap.size w18 w19 := hb
  have z18 := b18.size
  replace H_aCols_s := H_aCols_s.below b18 (by omega)
  replace H_aL_s := H_aL_s.below b18 (by omega)
  replace H_n1 := H_n1.below b18 (by omega)
  replace H_n2 := H_n2.below b18 (by omega)
  replace H_n3q := H_n3q.below b18 (by omega)
  replace H_n4 := H_n4.below b18 (by omega)
  replace H_n5 := H_n5.below b18 (by omega)
  replace H_n6q := H_n6q.below b18 (by omega)
  replace H_n8 := H_n8.below b18 (by omega)
  replace H_n10 := H_n10.below b18 (by omega)
  replace H_n17 := H_n17.below b18 (by omega)
  replace hB := hB.trans (b18.mono hB.size)
  clear hb b18
  go_wp2_with fail
  refine (impl_PutGroup aCols n17 aL n18 _ (H_n17.rdI) (by omega) (H_n18.rdR) (by omega) C0_aL.out ).mono ?_
  rintro e w20 ⟨n19q, rfl, H_n19q, hb⟩
  have b19 : Below w19.heap.size w19 w20 := hb
  have z19 := b19.size
  replace H_aCols_s := H_aCols_s.below b19 (by omega)
  replace H_aL_s := H_aL_s.below b19 (by omega)
  replace H_n1 := H_n1.below b19 (by omega)
  replace H_n2 := H_n2.below b19 (by omega)
  replace H_n3q := H_n3q.below b19 (by omega)
  replace H_n4 := H_n4.below b19 (by omega)
  replace H_n5 := H_n5.below b19 (by omega)
  replace H_n6q := H_n6q.below b19 (by omega)
  replace H_n8 := H_n8.below b19 (by omega)
  replace H_n10 := H_n10.below b19 (by omega)
  replace H_n17 := H_n17.below b19 (by omega)
  replace H_n18 := H_n18.below b19 (by omega)
  replace hB := hB.trans (b19.mono hB.size)
  clear hb b19
  go_wp2_with fail
  refine (eqByteS_c ((putGroup aCols aL)) n19q ((putGroup aCols aL)) n3q _ (H_n19q.rdBc) (by omega) (H_n3q.rdBc) (by omega)).mono ?_
  rintro e w21 ⟨rfl, hb⟩
  have b20 : Below w20.heap.size w20 w21 := hb
  have z20 := b20.size
  replace H_aCols_s := H_aCols_s.below b20 (by omega)
  replace H_aL_s := H_aL_s.below b20 (by omega)
  replace H_n1 := H_n1.below b20 (by omega)
  replace H_n2 := H_n2.below b20 (by omega)
  replace H_n3q := H_n3q.below b20 (by omega)
  replace H_n4 := H_n4.below b20 (by omega)
  replace H_n5 := H_n5.below b20 (by omega)
  replace H_n6q := H_n6q.below b20 (by omega)
  replace H_n8 := H_n8.below b20 (by omega)
  replace H_n10 := H_n10.below b20 (by omega)
  replace H_n17 := H_n17.below b20 (by omega)
  replace H_n18 := H_n18.below b20 (by omega)
  replace H_n19q := H_n19q.below b20 (by omega)
  replace hB := hB.trans (b20.mono hB.size)
  clear hb b20
  try simp only [eqd_self]
  go_wp2_with fail
  refine (heldByteS_c n6q ((putGroup aCols aL)) 1 _ H_n6q (by omega) (by omega) (by omega)).mono ?_
  rintro e w22 ⟨rfl, hb⟩
  have b21 : Below w21.heap.size w21 w22 := hb
  have z21 := b21.size
  replace H_aCols_s := H_aCols_s.below b21 (by omega)
  replace H_aL_s := H_aL_s.below b21 (by omega)
  replace H_n1 := H_n1.below b21 (by omega)
  replace H_n2 := H_n2.below b21 (by omega)
  replace H_n3q := H_n3q.below b21 (by omega)
  replace H_n4 := H_n4.below b21 (by omega)
  replace H_n5 := H_n5.below b21 (by omega)
  replace H_n6q := H_n6q.below b21 (by omega)
  replace H_n8 := H_n8.below b21 (by omega)
  replace H_n10 := H_n10.below b21 (by omega)
  replace H_n17 := H_n17.below b21 (by omega)
  replace H_n18 := H_n18.below b21 (by omega)
  replace H_n19q := H_n19q.below b21 (by omega)
  replace hB := hB.trans (b21.mono hB.size)
  clear hb b21
  go_wp2_with fail
  go_ret
  exact ⟨rfl, hB⟩

end Go.Proofs.YticimccfeohpcaaGreat
