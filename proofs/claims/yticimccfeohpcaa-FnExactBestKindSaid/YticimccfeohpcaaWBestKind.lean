/- The law FnExactBestKind: its walk, out of the contracts of what it calls. -/
import Derived.Test.YticimccfeohpcaaEJ
import Derived.Test.YticimccfeohpcaaXL
import Derived.Test.YticimccfeohpcaaL4
import Derived.Test.YticimccfeohpcaaL5
import Derived.Test.YticimccfeohpcaaLY
namespace Go.Proofs.Yticimccfeohpcaa
open Go.ChangeShapes Go.WideShapes Go.ChangeAt Go.RowKit Go.Lb

set_option maxRecDepth 20000 in
set_option maxHeartbeats 4000000 in
theorem wBestKind (aL : List V) (aL_s : Value) (w : World) (H_aL_s : RdV w 0 w.heap.size aL_s aL) (c0_aL : ∀ v ∈ aL, v.s.size ≤ maxLen) :
    Calls Try.prog 8 #[aL_s] w fun e w' => e = .returned (.bool true) ∧ Below w.heap.size w w' := by
  have C0_aL := Lib.hid c0_aL
  clear c0_aL
  have hB : Below w.heap.size w w := Below.refl _ _
  go_enter Try.func8, Try.ntmps8
  go_wp2_with fail
  refine (szValS_c aL aL_s 1048576 _ (H_aL_s) (by omega) C0_aL.out (by omega) (by omega)).mono ?_
  rintro e w1 ⟨rfl, hb⟩
  have b0 : Below w.heap.size w w1 := hb
  have z0 := b0.size
  replace H_aL_s := H_aL_s.below b0 (by omega)
  replace hB := hB.trans (b0.mono hB.size)
  clear hb b0
  have L0 := szValS_le aL 1048576 (by omega) (by omega)
  have T_aL := szValS_bd aL 1048576 (by omega) (by omega)
  generalize szValS aL 1048576 = m0 at *
  by_cases h0 : m0 < 0
  · go_wp2_with fail
    go_ret
    exact ⟨rfl, hB⟩
  replace T_aL := T_aL h0
  go_wp2_with fail
  refine (toValS_c aL aL_s _ (H_aL_s) (by omega) T_aL).mono ?_
  rintro e w2 ⟨n1, rfl, H_n1, hb⟩
  have b1 : Below w1.heap.size w1 w2 := hb
  have z1 := b1.size
  replace H_aL_s := H_aL_s.below b1 (by omega)
  replace hB := hB.trans (b1.mono hB.size)
  clear hb b1
  go_wp2_with fail
  refine (spec_BestKind aL n1 _ (H_n1.rdV) (by omega) C0_aL.out ).mono ?_
  rintro e w3 ⟨rfl, hb⟩
  have b2 : Below w2.heap.size w2 w3 := hb
  have z2 := b2.size
  replace H_aL_s := H_aL_s.below b2 (by omega)
  replace H_n1 := H_n1.below b2 (by omega)
  replace hB := hB.trans (b2.mono hB.size)
  clear hb b2
  go_wp2_with fail
  refine (toValS_c aL aL_s _ (H_aL_s) (by omega) T_aL).mono ?_
  rintro e w4 ⟨n3, rfl, H_n3, hb⟩
  have b3 : Below w3.heap.size w3 w4 := hb
  have z3 := b3.size
  replace H_aL_s := H_aL_s.below b3 (by omega)
  replace H_n1 := H_n1.below b3 (by omega)
  replace hB := hB.trans (b3.mono hB.size)
  clear hb b3
  go_wp2_with fail
  refine (impl_BestKind aL n3 _ (H_n3.rdV) (by omega) C0_aL.out ).mono ?_
  rintro e w5 ⟨rfl, hb⟩
  have b4 : Below w4.heap.size w4 w5 := hb
  have z4 := b4.size
  replace H_aL_s := H_aL_s.below b4 (by omega)
  replace H_n1 := H_n1.below b4 (by omega)
  replace H_n3 := H_n3.below b4 (by omega)
  replace hB := hB.trans (b4.mono hB.size)
  clear hb b4
  go_wp2_with fail
  refine (toValS_c aL aL_s _ (H_aL_s) (by omega) T_aL).mono ?_
  rintro e w6 ⟨n5, rfl, H_n5, hb⟩
  have b5 : Below w5.heap.size w5 w6 := hb
  have z5 := b5.size
  replace H_aL_s := H_aL_s.below b5 (by omega)
  replace H_n1 := H_n1.below b5 (by omega)
  replace H_n3 := H_n3.below b5 (by omega)
  replace hB := hB.trans (b5.mono hB.size)
  clear hb b5
  go_wp2_with fail
  refine (eqValS_c aL n3 aL n5 _ (H_n3.rdV) (by omega) (H_n5.rdV) (by omega)).mono ?_
  rintro e w7 ⟨rfl, hb⟩
  have b6 : Below w6.heap.size w6 w7 := hb
  have z6 := b6.size
  replace H_aL_s := H_aL_s.below b6 (by omega)
  replace H_n1 := H_n1.below b6 (by omega)
  replace H_n3 := H_n3.below b6 (by omega)
  replace H_n5 := H_n5.below b6 (by omega)
  replace hB := hB.trans (b6.mono hB.size)
  clear hb b6
  try simp only [eqd_self]
  go_wp2_with fail
  go_ret
  exact ⟨rfl, hB⟩

end Go.Proofs.Yticimccfeohpcaa
