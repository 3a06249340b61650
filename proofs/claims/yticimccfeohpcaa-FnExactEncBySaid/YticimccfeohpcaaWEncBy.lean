/- The law FnExactEncBy: its walk, out of the contracts of what it calls. -/
import Derived.Test.YticimccfeohpcaaEJ
import Derived.Test.YticimccfeohpcaaXL
import Derived.Test.YticimccfeohpcaaL4
import Derived.Test.YticimccfeohpcaaL5
import Derived.Test.YticimccfeohpcaaLY
namespace Go.Proofs.Yticimccfeohpcaa
open Go.ChangeShapes Go.WideShapes Go.ChangeAt Go.RowKit Go.Lb

set_option maxRecDepth 20000 in
set_option maxHeartbeats 4000000 in
theorem wEncBy (aKind : Int) (aL : List V) (aL_s : Value) (w : World) (H_aL_s : RdV w 0 w.heap.size aL_s aL) (c0_aL : ∀ v ∈ aL, v.s.size ≤ maxLen) :
    Calls Try.prog 7 #[.int .i64 aKind, aL_s] w fun e w' => e = .returned (.bool true) ∧ Below w.heap.size w w' := by
  have C0_aL := Lib.hid c0_aL
  clear c0_aL
  have O0 := encBy_len aKind aL
  have hB : Below w.heap.size w w := Below.refl _ _
  go_enter Try.func7, Try.ntmps7
  go_wp2_with fail
  refine (szValS_c aL aL_s 1048576 _ (H_aL_s) (by omega) C0_aL.out (by omega) (by omega)).mono ?_
  rintro e w1 ⟨rfl, hb⟩
  have b0 : Below w.heap.size w w1 := hb
  have z0 := b0.size
  replace H_aL_s := H_aL_s.below b0 (by omega)
  replace hB := hB.trans (b0.mono hB.size)
  clear hb b0
  have L0 := szValS_le aL 1048576 (by omega) (by omega)
  have T_aL := szValS_bd aL 1048576 (by omega) (by omega)
  generalize szValS aL 1048576 = m0 at *
  by_cases h0 : m0 < 0
  · go_wp2_with fail
    go_ret
    exact ⟨rfl, hB⟩
  replace T_aL := T_aL h0
  go_wp2_with fail
  refine (toValS_c aL aL_s _ (H_aL_s) (by omega) T_aL).mono ?_
  rintro e w2 ⟨n1, rfl, H_n1, hb⟩
  have b1 : Below w1.heap.size w1 w2 := hb
  have z1 := b1.size
  replace H_aL_s := H_aL_s.below b1 (by omega)
  replace hB := hB.trans (b1.mono hB.size)
  clear hb b1
  go_wp2_with fail
  refine (spec_EncBy aKind aL n1 _ (H_n1.rdV) (by omega) C0_aL.out ).mono ?_
  rintro e w3 ⟨n2q, rfl, H_n2q, hb⟩
  have b2 : Below w2.heap.size w2 w3 := hb
  have z2 := b2.size
  replace H_aL_s := H_aL_s.below b2 (by omega)
  replace H_n1 := H_n1.below b2 (by omega)
  replace hB := hB.trans (b2.mono hB.size)
  clear hb b2
  go_wp2_with fail
  refine (toValS_c aL aL_s _ (H_aL_s) (by omega) T_aL).mono ?_
  rintro e w4 ⟨n3, rfl, H_n3, hb⟩
  have b3 : Below w3.heap.size w3 w4 := hb
  have z3 := b3.size
  replace H_aL_s := H_aL_s.below b3 (by omega)
  replace H_n1 := H_n1.below b3 (by omega)
  replace H_n2q := H_n2q.below b3 (by omega)
  replace hB := hB.trans (b3.mono hB.size)
  clear hb b3
  go_wp2_with fail
  refine (impl_EncBy aKind aL n3 _ (H_n3.rdV) (by omega) C0_aL.out ).mono ?_
  rintro e w5 ⟨n4q, rfl, H_n4q, hb⟩
  have b4 : Below w4.heap.size w4 w5 := hb
  have z4 := b4.size
  replace H_aL_s := H_aL_s.below b4 (by omega)
  replace H_n1 := H_n1.below b4 (by omega)
  replace H_n2q := H_n2q.below b4 (by omega)
  replace H_n3 := H_n3.below b4 (by omega)
  replace hB := hB.trans (b4.mono hB.size)
  clear hb b4
  go_wp2_with fail
  refine (eqByteS_c ((encBy aKind aL)) n4q ((encBy aKind aL)) n2q _ (H_n4q.rdBc) (by omega) (H_n2q.rdBc) (by omega)).mono ?_
  rintro e w6 ⟨rfl, hb⟩
  have b5 : Below w5.heap.size w5 w6 := hb
  have z5 := b5.size
  replace H_aL_s := H_aL_s.below b5 (by omega)
  replace H_n1 := H_n1.below b5 (by omega)
  replace H_n2q := H_n2q.below b5 (by omega)
  replace H_n3 := H_n3.below b5 (by omega)
  replace H_n4q := H_n4q.below b5 (by omega)
  replace hB := hB.trans (b5.mono hB.size)
  clear hb b5
  try simp only [eqd_self]
  go_wp2_with fail
  refine (toValS_c aL aL_s _ (H_aL_s) (by omega) T_aL).mono ?_
  rintro e w7 ⟨n6, rfl, H_n6, hb⟩
  have b6 : Below w6.heap.size w6 w7 := hb
  have z6 := b6.size
  replace H_aL_s := H_aL_s.below b6 (by omega)
  replace H_n1 := H_n1.below b6 (by omega)
  replace H_n2q := H_n2q.below b6 (by omega)
  replace H_n3 := H_n3.below b6 (by omega)
  replace H_n4q := H_n4q.below b6 (by omega)
  replace hB := hB.trans (b6.mono hB.size)
  clear hb b6
  go_wp2_with fail
  refine (eqValS_c aL n3 aL n6 _ (H_n3.rdV) (by omega) (H_n6.rdV) (by omega)).mono ?_
  rintro e w8 ⟨rfl, hb⟩
  have b7 : Below w7.heap.size w7 w8 := hb
  have z7 := b7.size
  replace H_aL_s := H_aL_s.below b7 (by omega)
  replace H_n1 := H_n1.below b7 (by omega)
  replace H_n2q := H_n2q.below b7 (by omega)
  replace H_n3 := H_n3.below b7 (by omega)
  replace H_n4q := H_n4q.below b7 (by omega)
  replace H_n6 := H_n6.below b7 (by omega)
  replace hB := hB.trans (b7.mono hB.size)
  clear hb b7
  try simp only [eqd_self]
  go_wp2_with fail
  refine (markValS_c n3 aL 1 _ H_n3 (by omega) (by omega)).mono ?_
  rintro e w9 ⟨rfl, H_n3m, hb⟩
  clear H_n3
  have z8 := hb.size
  replace H_aL_s := H_aL_s.same (.of_chg hb (by omega) (by omega))
  replace H_n1 := H_n1.same (.of_chg hb (by omega) (by omega))
  replace H_n2q := H_n2q.same (.of_chg hb (by omega) (by omega))
  replace H_n4q := H_n4q.same (.of_chg hb (by omega) (by omega))
  replace H_n6 := H_n6.same (.of_chg hb (by omega) (by omega))
  replace hB := hB.trans (hb.below (by omega) (by omega))
  clear hb
  have H_n3 := H_n3m
  clear H_n3m
  go_wp2_with fail
  refine (eqByteS_c ((encBy aKind aL)) n4q ((encBy aKind aL)) n2q _ (H_n4q.rdBc) (by omega) (H_n2q.rdBc) (by omega)).mono ?_
  rintro e w10 ⟨rfl, hb⟩
  have b9 : Below w9.heap.size w9 w10 := hb
  have z9 := b9.size
  replace H_aL_s := H_aL_s.below b9 (by omega)
  replace H_n1 := H_n1.below b9 (by omega)
  replace H_n2q := H_n2q.below b9 (by omega)
  replace H_n3 := H_n3.below b9 (by omega)
  replace H_n4q := H_n4q.below b9 (by omega)
  replace H_n6 := H_n6.below b9 (by omega)
  replace hB := hB.trans (b9.mono hB.size)
  clear hb b9
  try simp only [eqd_self]
  go_wp2_with fail
  refine (markByteS_c n4q ((encBy aKind aL)) 1 _ H_n4q (by omega) (by omega)).mono ?_
  rintro e w11 ⟨rfl, H_n4qm, hb⟩
  clear H_n4q
  have z10 := hb.size
  replace H_aL_s := H_aL_s.same (.of_chg hb (by omega) (by omega))
  replace H_n1 := H_n1.same (.of_chg hb (by omega) (by omega))
  replace H_n2q := H_n2q.same (.of_chg hb (by omega) (by omega))
  replace H_n3 := H_n3.same (.of_chg hb (by omega) (by omega))
  replace H_n6 := H_n6.same (.of_chg hb (by omega) (by omega))
  replace hB := hB.trans (hb.below (by omega) (by omega))
  clear hb
  have H_n4q := H_n4qm
  clear H_n4qm
  go_wp2_with fail
  refine (heldByteS_c n4q ((encBy aKind aL)) 1 _ H_n4q (by omega) (by omega) (by omega)).mono ?_
  rintro e w12 ⟨rfl, hb⟩
  have b11 : Below w11.heap.size w11 w12 := hb
  have z11 := b11.size
  replace H_aL_s := H_aL_s.below b11 (by omega)
  replace H_n1 := H_n1.below b11 (by omega)
  replace H_n2q := H_n2q.below b11 (by omega)
  replace H_n3 := H_n3.below b11 (by omega)
  replace H_n4q := H_n4q.below b11 (by omega)
  replace H_n6 := H_n6.below b11 (by omega)
  replace hB := hB.trans (b11.mono hB.size)
  clear hb b11
  go_wp2_with fail
  refine (toValS_c aL aL_s _ (H_aL_s) (by omega) T_aL).mono ?_
  rintro e w13 ⟨n12, rfl, H_n12, hb⟩
  have b12 : Below w12.heap.size w12 w13 := hb
  have z12 := b12.size
  replace H_aL_s := H_aL_s.below b12 (by omega)
  replace H_n1 := H_n1.below b12 (by omega)
  replace H_n2q := H_n2q.below b12 (by omega)
  replace H_n3 := H_n3.below b12 (by omega)
  replace H_n4q := H_n4q.below b12 (by omega)
  replace H_n6 := H_n6.below b12 (by omega)
  replace hB := hB.trans (b12.mono hB.size)
  clear hb b12
  go_wp2_with fail
  refine (impl_EncBy aKind aL n12 _ (H_n12.rdV) (by omega) C0_aL.out ).mono ?_
  rintro e w14 ⟨n13q, rfl, H_n13q, hb⟩
  have b13 : Below w13.heap.size w13 w14 := hb
  have z13 := b13.size
  replace H_aL_s := H_aL_s.below b13 (by omega)
  replace H_n1 := H_n1.below b13 (by omega)
  replace H_n2q := H_n2q.below b13 (by omega)
  replace H_n3 := H_n3.below b13 (by omega)
  replace H_n4q := H_n4q.below b13 (by omega)
  replace H_n6 := H_n6.below b13 (by omega)
  replace H_n12 := H_n12.below b13 (by omega)
  replace hB := hB.trans (b13.mono hB.size)
  clear hb b13
  go_wp2_with fail
  refine (eqByteS_c ((encBy aKind aL)) n13q ((encBy aKind aL)) n2q _ (H_n13q.rdBc) (by omega) (H_n2q.rdBc) (by omega)).mono ?_
  rintro e w15 ⟨rfl, hb⟩
  have b14 : Below w14.heap.size w14 w15 := hb
  have z14 := b14.size
  replace H_aL_s := H_aL_s.below b14 (by omega)
  replace H_n1 := H_n1.below b14 (by omega)
  replace H_n2q := H_n2q.below b14 (by omega)
  replace H_n3 := H_n3.below b14 (by omega)
  replace H_n4q := H_n4q.below b14 (by omega)
  replace H_n6 := H_n6.below b14 (by omega)
  replace H_n12 := H_n12.below b14 (by omega)
  replace H_n13q := H_n13q.below b14 (by omega)
  replace hB := hB.trans (b14.mono hB.size)
  clear hb b14
  try simp only [eqd_self]
  go_wp2_with fail
  refine (heldByteS_c n4q ((encBy aKind aL)) 1 _ H_n4q (by omega) (by omega) (by omega)).mono ?_
  rintro e w16 ⟨rfl, hb⟩
  have b15 : Below w15.heap.size w15 w16 := hb
  have z15 := b15.size
  replace H_aL_s := H_aL_s.below b15 (by omega)
  replace H_n1 := H_n1.below b15 (by omega)
  replace H_n2q := H_n2q.below b15 (by omega)
  replace H_n3 := H_n3.below b15 (by omega)
  replace H_n4q := H_n4q.below b15 (by omega)
  replace H_n6 := H_n6.below b15 (by omega)
  replace H_n12 := H_n12.below b15 (by omega)
  replace H_n13q := H_n13q.below b15 (by omega)
  replace hB := hB.trans (b15.mono hB.size)
  clear hb b15
  go_wp2_with fail
  go_ret
  exact ⟨rfl, hB⟩

end Go.Proofs.Yticimccfeohpcaa
