/- The law FnExactDecCol: its walk, out of the contracts of what it calls. -/
import Derived.Test.YticimccfeohpcaaGreatEQ
import Derived.Test.YticimccfeohpcaaGreatXL
import Derived.Test.YticimccfeohpcaaGreatL4
import Derived.Test.YticimccfeohpcaaGreatL5
import Derived.Test.YticimccfeohpcaaGreatLY
namespace Go.Proofs.YticimccfeohpcaaGreat
open Go.ChangeShapes Go.WideShapes Go.ChangeAt Go.RowKit Go.Lb

set_option maxRecDepth 20000 in
set_option maxHeartbeats 4000000 in
theorem wDecCol (aB : List UInt8) (aB_s : Value) (aTy : Int) (aK : Int) (w : World) (H_aB_s : RdB w 0 w.heap.size aB_s aB) :
    Calls Tryz.prog 6 #[aB_s, .int .i64 aTy, .int .i64 aK] w fun e w' => e = .returned (.bool true) ∧ Below w.heap.size w w' := by
  have O0 := decCol_len aB aTy aK
  have hB : Below w.heap.size w w := Below.refl _ _
  go_enter Tryz.func6, Tryz.ntmps6
  obtain ⟨A_aB_s, k_aB_s, rfl, lc_aB, mc_aB⟩ := H_aB_s.form
  by_cases T_aB : aB.length ≤ 1048576
  rotate_left
  · have D_aB : decide ((1048576 : Int) < (aB.length : Int)) = true := decide_eq_true (by omega)
    go_wp2_with fail
    go_ret
    exact ⟨rfl, hB⟩
  have D_aB : decide ((1048576 : Int) < (aB.length : Int)) = false := decide_eq_false (by omega)
  go_wp2_with fail
  refine (toByteS_c aB (.slice A_aB_s aB.length k_aB_s) _ (H_aB_s) (by omega) T_aB).mono ?_
  rintro e w1 ⟨n0, rfl, H_n0, hb⟩
  have b0 : Below w.heap.size w w1 := hb
  have z0 := b0.size
  replace H_aB_s := H_aB_s.below b0 (by omega)
  replace hB := hB.trans (b0.mono hB.size)
  clear hb b0
  go_wp2_with fail
  refine (spec_DecCol aB n0 aTy aK _ (H_n0.rdBc) (by omega)  (by omega)).mono ?_
  rintro e w2 ⟨n1q, rfl, H_n1q, hb⟩
  have b1 : Below w1.heap.size w1 w2 := hb
  have z1 := b1.size
  replace H_aB_s := H_aB_s.below b1 (by omega)
  replace H_n0 := H_n0.below b1 (by omega)
  replace hB := hB.trans (b1.mono hB.size)
  clear hb b1
  go_wp2_with fail
  refine (toByteS_c aB (.slice A_aB_s aB.length k_aB_s) _ (H_aB_s) (by omega) T_aB).mono ?_
  rintro e w3 ⟨n2, rfl, H_n2, hb⟩
  have b2 : Below w2.heap.size w2 w3 := hb
  have z2 := b2.size
  replace H_aB_s := H_aB_s.below b2 (by omega)
  replace H_n0 := H_n0.below b2 (by omega)
  replace H_n1q := H_n1q.below b2 (by omega)
  replace hB := hB.trans (b2.mono hB.size)
  clear hb b2
  go_wp2_with fail
  refine (impl_DecCol aB n2 aTy aK _ (H_n2.rdBc) (by omega)  (by omega)).mono ?_
  rintro e w4 ⟨n3q, rfl, H_n3q, hb⟩
  have b3 : Below w3.heap.size w3 w4 := hb
  have z3 := b3.size
  replace H_aB_s := H_aB_s.below b3 (by omega)
  replace H_n0 := H_n0.below b3 (by omega)
  replace H_n1q := H_n1q.below b3 (by omega)
  replace H_n2 := H_n2.below b3 (by omega)
  replace hB := hB.trans (b3.mono hB.size)
  clear hb b3
  go_wp2_with fail
  refine (eqValS_c (((decCol aB aTy aK).getD [])) n3q (((decCol aB aTy aK).getD [])) n1q _ (H_n3q.rdV) (by omega) (H_n1q.rdV) (by omega)).mono ?_
  rintro e w5 ⟨rfl, hb⟩
  have b4 : Below w4.heap.size w4 w5 := hb
  have z4 := b4.size
  replace H_aB_s := H_aB_s.below b4 (by omega)
  replace H_n0 := H_n0.below b4 (by omega)
  replace H_n1q := H_n1q.below b4 (by omega)
  replace H_n2 := H_n2.below b4 (by omega)
  replace H_n3q := H_n3q.below b4 (by omega)
  replace hB := hB.trans (b4.mono hB.size)
  clear hb b4
  try simp only [eqd_self]
  go_wp2_with fail
  refine (toByteS_c aB (.slice A_aB_s aB.length k_aB_s) _ (H_aB_s) (by omega) T_aB).mono ?_
  rintro e w6 ⟨n5, rfl, H_n5, hb⟩
  have b5 : Below w5.heap.size w5 w6 := hb
  have z5 := b5.size
  replace H_aB_s := H_aB_s.below b5 (by omega)
  replace H_n0 := H_n0.below b5 (by omega)
  replace H_n1q := H_n1q.below b5 (by omega)
  replace H_n2 := H_n2.below b5 (by omega)
  replace H_n3q := H_n3q.below b5 (by omega)
  replace hB := hB.trans (b5.mono hB.size)
  clear hb b5
  go_wp2_with fail
  refine (eqByteS_c aB n2 aB n5 _ (H_n2.rdBc) (by omega) (H_n5.rdBc) (by omega)).mono ?_
  rintro e w7 ⟨rfl, hb⟩
  have b6 : Below w6.heap.size w6 w7 := hb
  have z6 := b6.size
  replace H_aB_s := H_aB_s.below b6 (by omega)
  replace H_n0 := H_n0.below b6 (by omega)
  replace H_n1q := H_n1q.below b6 (by omega)
  replace H_n2 := H_n2.below b6 (by omega)
  replace H_n3q := H_n3q.below b6 (by omega)
  replace H_n5 := H_n5.below b6 (by omega)
  replace hB := hB.trans (b6.mono hB.size)
  clear hb b6
  try simp only [eqd_self]
  go_wp2_with fail
  refine (markByteS_c n2 aB 1 _ H_n2 (by omega) (by omega)).mono ?_
  rintro e w8 ⟨rfl, H_n2m, hb⟩
  clear H_n2
  have z7 := hb.size
  replace H_aB_s := H_aB_s.same (.of_chg hb (by omega) (by omega))
  replace H_n0 := H_n0.same (.of_chg hb (by omega) (by omega))
  replace H_n1q := H_n1q.same (.of_chg hb (by omega) (by omega))
  replace H_n3q := H_n3q.same (.of_chg hb (by omega) (by omega))
  replace H_n5 := H_n5.same (.of_chg hb (by omega) (by omega))
  replace hB := hB.trans (hb.below (by omega) (by omega))
  clear hb
  have H_n2 := H_n2m
  clear H_n2m
  go_wp2_with fail
  refine (eqValS_c (((decCol aB aTy aK).getD [])) n3q (((decCol aB aTy aK).getD [])) n1q _ (H_n3q.rdV) (by omega) (H_n1q.rdV) (by omega)).mono ?_
  rintro e w9 ⟨rfl, hb⟩
  have b8 : Below w8.heap.size w8 w9 := hb
  have z8 := b8.size
  replace H_aB_s := H_aB_s.below b8 (by omega)
  replace H_n0 := H_n0.below b8 (by omega)
  replace H_n1q := H_n1q.below b8 (by omega)
  replace H_n2 := H_n2.below b8 (by omega)
  replace H_n3q := H_n3q.below b8 (by omega)
  replace H_n5 := H_n5.below b8 (by omega)
  replace hB := hB.trans (b8.mono hB.size)
  clear hb b8
  try simp only [eqd_self]
  go_wp2_with fail
  refine (markValS_c n3q (((decCol aB aTy aK).getD [])) 1 _ H_n3q (by omega) (by omega)).mono ?_
  rintro e w10 ⟨rfl, H_n3qm, hb⟩
  clear H_n3q
  have z9 := hb.size
  replace H_aB_s := H_aB_s.same (.of_chg hb (by omega) (by omega))
  replace H_n0 := H_n0.same (.of_chg hb (by omega) (by omega))
  replace H_n1q := H_n1q.same (.of_chg hb (by omega) (by omega))
  replace H_n2 := H_n2.same (.of_chg hb (by omega) (by omega))
  replace H_n5 := H_n5.same (.of_chg hb (by omega) (by omega))
  replace hB := hB.trans (hb.below (by omega) (by omega))
  clear hb
  have H_n3q := H_n3qm
  clear H_n3qm
  go_wp2_with fail
  refine (heldValS_c n3q (((decCol aB aTy aK).getD [])) 1 _ H_n3q (by omega) (by omega) (by omega)).mono ?_
  rintro e w11 ⟨rfl, hb⟩
  have b10 : Below w10.heap.size w10 w11 := hb
  have z10 := b10.size
  replace H_aB_s := H_aB_s.below b10 (by omega)
  replace H_n0 := H_n0.below b10 (by omega)
  replace H_n1q := H_n1q.below b10 (by omega)
  replace H_n2 := H_n2.below b10 (by omega)
  replace H_n3q := H_n3q.below b10 (by omega)
  replace H_n5 := H_n5.below b10 (by omega)
  replace hB := hB.trans (b10.mono hB.size)
  clear hb b10
  go_wp2_with fail
  refine (toByteS_c aB (.slice A_aB_s aB.length k_aB_s) _ (H_aB_s) (by omega) T_aB).mono ?_
  rintro e w12 ⟨n11, rfl, H_n11, hb⟩
  have b11 : Below w11.heap.size w11 w12 := hb
  have z11 := b11.size
  replace H_aB_s := H_aB_s.below b11 (by omega)
  replace H_n0 := H_n0.below b11 (by omega)
  replace H_n1q := H_n1q.below b11 (by omega)
  replace H_n2 := H_n2.below b11 (by omega)
  replace H_n3q := H_n3q.below b11 (by omega)
  replace H_n5 := H_n5.below b11 (by omega)
  replace hB := hB.trans (b11.mono hB.size)
  clear hb b11
  go_wp2_with fail
  refine (impl_DecCol aB n11 aTy aK _ (H_n11.rdBc) (by omega)  (by omega)).mono ?_
  rintro e w13 ⟨n12q, rfl, H_n12q, hb⟩
  have b12 : Below w12.heap.size w12 w13 := hb
  have z12 := b12.size
  replace H_aB_s := H_aB_s.below b12 (by omega)
  replace H_n0 := H_n0.below b12 (by omega)
  replace H_n1q := H_n1q.below b12 (by omega)
  replace H_n2 := H_n2.below b12 (by omega)
  replace H_n3q := H_n3q.below b12 (by omega)
  replace H_n5 := H_n5.below b12 (by omega)
  replace H_n11 := H_n11.below b12 (by omega)
  replace hB := hB.trans (b12.mono hB.size)
  clear hb b12
  go_wp2_with fail
  refine (eqValS_c (((decCol aB aTy aK).getD [])) n12q (((decCol aB aTy aK).getD [])) n1q _ (H_n12q.rdV) (by omega) (H_n1q.rdV) (by omega)).mono ?_
  rintro e w14 ⟨rfl, hb⟩
  have b13 : Below w13.heap.size w13 w14 := hb
  have z13 := b13.size
  replace H_aB_s := H_aB_s.below b13 (by omega)
  replace H_n0 := H_n0.below b13 (by omega)
  replace H_n1q := H_n1q.below b13 (by omega)
  replace H_n2 := H_n2.below b13 (by omega)
  replace H_n3q := H_n3q.below b13 (by omega)
  replace H_n5 := H_n5.below b13 (by omega)
  replace H_n11 := H_n11.below b13 (by omega)
  replace H_n12q := H_n12q.below b13 (by omega)
  replace hB := hB.trans (b13.mono hB.size)
  clear hb b13
  try simp only [eqd_self]
  go_wp2_with fail
  refine (heldValS_c n3q (((decCol aB aTy aK).getD [])) 1 _ H_n3q (by omega) (by omega) (by omega)).mono ?_
  rintro e w15 ⟨rfl, hb⟩
  have b14 : Below w14.heap.size w14 w15 := hb
  have z14 := b14.size
  replace H_aB_s := H_aB_s.below b14 (by omega)
  replace H_n0 := H_n0.below b14 (by omega)
  replace H_n1q := H_n1q.below b14 (by omega)
  replace H_n2 := H_n2.below b14 (by omega)
  replace H_n3q := H_n3q.below b14 (by omega)
  replace H_n5 := H_n5.below b14 (by omega)
  replace H_n11 := H_n11.below b14 (by omega)
  replace H_n12q := H_n12q.below b14 (by omega)
  replace hB := hB.trans (b14.mono hB.size)
  clear hb b14
  go_wp2_with fail
  go_ret
  exact ⟨rfl, hB⟩

end Go.Proofs.YticimccfeohpcaaGreat
