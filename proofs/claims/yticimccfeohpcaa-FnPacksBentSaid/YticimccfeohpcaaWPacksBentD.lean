/- The law FnPacksBent: the walk. Packed bits that are bent. No conditions. -/
import Derived.Test.YticimccfeohpcaaXA
import Derived.Test.YticimccfeohpcaaD18
import Derived.Test.YticimccfeohpcaaD22
import Derived.Test.YticimccfeohpcaaXN
import Derived.Test.YticimccfeohpcaaXL
namespace Go.Proofs.Yticimccfeohpcaa
open Go.Sort Go.ChangeShapes Go.WideShapes Go.ChangeAt Go.RowKit Go.Lb
theorem pack_of_unpack {b : List UInt8} {v k : Int} {l : List Int} (h : unpackB b v k = some l) : packB l v = b ∧ (l.length : Int) = k ∧ l.length ≤ 64 := by
  obtain ⟨hu, rfl⟩ := unpackB_some h
  obtain ⟨h1, h2, h3⟩ := pack_unpack hu
  have hr := inR_yes hu.2.1
  refine ⟨h2, by omega, by omega⟩
set_option maxRecDepth 20000 in
set_option maxHeartbeats 4000000 in
theorem wPacksBent (code : List UInt8) (x : Value) (w : World) (hx : RdB w 0 w.heap.size x code) :
    Calls Try.prog 3 #[x] w fun e w' => e = .returned (.bool true) ∧ Below w.heap.size w w' := by
  go_enter Try.func3, Try.ntmps3
  go_wp2_with fail
  refine (law_big code _ w hx).mono ?_
  rintro e w1 ⟨rfl, rfl⟩
  by_cases hbg : 1048576 < (code.length : Int)
  · have hd := decide_eq_true hbg
    go_wp2_with fail
    go_ret
    exact ⟨rfl, Below.refl _ _⟩
  have hd := decide_eq_false hbg
  have hcl : code.length ≤ 1048576 := by omega
  have RC := Lib.hid hx
  have HB := Lib.hid (Below.refl w.heap.size w)
  go_wp2_with fail
  clear hbg hd hx
  have hC := spec_DrawUnpackBits code _ w RC.out (Nat.le_refl _) hcl
  have HC := Lib.hid hC
  clear hC
  refine HC.out.mono ?_
  rintro e w1 ⟨_, b, v, k, rfl, hrd, hbl, hb⟩
  replace RC := Lib.hid (RC.out.go hb)
  replace HB := Lib.hid (below_go HB.out hb)
  have hr := hrd.top (Nat.le_refl _)
  obtain ⟨A2, c2, rfl, -, -⟩ := hr.form
  have RB := Lib.hid hr
  clear hr
  clear hb HC
  obtain ⟨U, hU⟩ : ∃ U, unpackB b v k = U := ⟨_, rfl⟩
  have HU := Lib.hid hU
  clear hU
  obtain ⟨L, hL⟩ : ∃ L, U.getD [] = L := ⟨_, rfl⟩
  have HL := Lib.hid hL
  obtain ⟨ok, hok⟩ : ∃ ok, U.isSome = ok := ⟨_, rfl⟩
  have HO := Lib.hid hok
  have hbb : (ok != ok) = false := by simp
  clear hL hok
  have hC := impl_UnpackBits b _ v k w1 RB.out (Nat.le_refl _) (by omega)
  rw [HU.out] at hC
  rw [HL.out] at hC
  rw [HO.out] at hC
  have HC := Lib.hid hC
  clear hC
  go_wp2_with fail
  refine HC.out.mono ?_
  rintro e w2 ⟨_, rfl, ho, hb⟩
  replace RC := Lib.hid (RC.out.go hb)
  replace RB := Lib.hid (RB.out.go hb)
  replace HB := Lib.hid (below_go HB.out hb)
  have hr := ho.topI
  obtain ⟨A4, c4, rfl, -, -⟩ := hr.form
  have RL := Lib.hid hr
  clear hr ho
  clear hb HC
  have hC := spec_UnpackBits b _ v k w2 RB.out (Nat.le_refl _) (by omega)
  rw [HU.out] at hC
  rw [HL.out] at hC
  rw [HO.out] at hC
  have HC := Lib.hid hC
  clear hC
  go_wp2_with fail
  refine HC.out.mono ?_
  rintro e w3 ⟨_, rfl, ho, hb⟩
  replace RC := Lib.hid (RC.out.go hb)
  replace RB := Lib.hid (RB.out.go hb)
  replace RL := Lib.hid (RL.out.go hb)
  replace HB := Lib.hid (below_go HB.out hb)
  have hr := ho.topI
  obtain ⟨A6, c6, rfl, -, -⟩ := hr.form
  have RM := Lib.hid hr
  clear hr ho
  clear hb HC
  have hC := spec_DrawWidthOf code _ w3 RC.out (Nat.le_refl _) hcl
  have HC := Lib.hid hC
  clear hC
  go_wp2_with fail
  refine HC.out.mono ?_
  rintro e w4 ⟨n, rfl, hb⟩
  replace RC := Lib.hid (RC.out.go hb)
  replace RB := Lib.hid (RB.out.go hb)
  replace RL := Lib.hid (RL.out.go hb)
  replace RM := Lib.hid (RM.out.go hb)
  replace HB := Lib.hid (below_go HB.out hb)
  clear hb HC
  have hC := spec_DrawBytesFor code _ w4 RC.out (Nat.le_refl _) hcl
  have HC := Lib.hid hC
  clear hC
  go_wp2_with fail
  refine HC.out.mono ?_
  rintro e w5 ⟨p, q, rfl, hb⟩
  replace RC := Lib.hid (RC.out.go hb)
  replace RB := Lib.hid (RB.out.go hb)
  replace RL := Lib.hid (RL.out.go hb)
  replace RM := Lib.hid (RM.out.go hb)
  replace HB := Lib.hid (below_go HB.out hb)
  clear hb HC
  have hC := spec_DrawBitAt code _ w5 RC.out (Nat.le_refl _) hcl
  have HC := Lib.hid hC
  clear hC
  go_wp2_with fail
  refine HC.out.mono ?_
  rintro e w6 ⟨_, c, i, rfl, hrd, hcl3, hi0, hi1, hb⟩
  replace RC := Lib.hid (RC.out.go hb)
  replace RB := Lib.hid (RB.out.go hb)
  replace RL := Lib.hid (RL.out.go hb)
  replace RM := Lib.hid (RM.out.go hb)
  replace HB := Lib.hid (below_go HB.out hb)
  have hr := hrd.top (Nat.le_refl _)
  obtain ⟨A10, c10, rfl, -, -⟩ := hr.form
  have RD := Lib.hid hr
  clear hr
  clear hb HC
  have hC := law_sameInts L _ L _ w6 RL.out (Nat.le_refl _) RM.out (Nat.le_refl _)
  rw [eqd_self] at hC
  have HC := Lib.hid hC
  clear hC
  go_wp2_with fail
  refine HC.out.mono ?_
  rintro e w7 ⟨rfl, hb⟩
  replace RC := Lib.hid (RC.out.go hb)
  replace RB := Lib.hid (RB.out.go hb)
  replace RL := Lib.hid (RL.out.go hb)
  replace RM := Lib.hid (RM.out.go hb)
  replace RD := Lib.hid (RD.out.go hb)
  replace HB := Lib.hid (below_go HB.out hb)
  clear hb HC
  obtain ⟨a1, h1⟩ : ∃ a, widthOf n = a := ⟨_, rfl⟩
  obtain ⟨a2, h2⟩ : ∃ a, bytesFor p q = a := ⟨_, rfl⟩
  obtain ⟨a3, h3⟩ : ∃ a, bitAt c i = a := ⟨_, rfl⟩
  have H1 := Lib.hid h1
  have H2 := Lib.hid h2
  have H3 := Lib.hid h3
  have e1 : ((a1 : Int) != (a1 : Int)) = false := by simp
  have e2 : (a2 != a2) = false := by simp
  have e3 : (a3 != a3) = false := by simp
  clear h1 h2 h3
  have hC := q_impl_WidthOf n w7
  rw [H1.out] at hC
  have HC := Lib.hid hC
  clear hC
  go_wp2_with fail
  refine HC.out.mono ?_
  rintro e we ⟨rfl, rfl⟩
  clear HC
  have hC := q_spec_WidthOf n w7
  rw [H1.out] at hC
  have HC := Lib.hid hC
  clear hC
  go_wp2_with fail
  refine HC.out.mono ?_
  rintro e we ⟨rfl, rfl⟩
  clear HC
  have hC := q_impl_BytesFor p q w7
  rw [H2.out] at hC
  have HC := Lib.hid hC
  clear hC
  go_wp2_with fail
  refine HC.out.mono ?_
  rintro e we ⟨rfl, rfl⟩
  clear HC
  have hC := q_spec_BytesFor p q w7
  rw [H2.out] at hC
  have HC := Lib.hid hC
  clear hC
  go_wp2_with fail
  refine HC.out.mono ?_
  rintro e we ⟨rfl, rfl⟩
  clear HC
  have hC := q_impl_BitAt c _ i w7 RD.out (by omega)
  rw [H3.out] at hC
  have HC := Lib.hid hC
  clear hC
  go_wp2_with fail
  refine HC.out.mono ?_
  rintro e we ⟨rfl, rfl⟩
  clear HC
  have hC := q_spec_BitAt c _ i w7 RD.out (by omega)
  rw [H3.out] at hC
  have HC := Lib.hid hC
  clear hC
  go_wp2_with fail
  refine HC.out.mono ?_
  rintro e we ⟨rfl, rfl⟩
  clear HC
  cases U with
  | none =>
    obtain rfl : ok = false := HO.out.symm
    go_wp2_with fail
    go_ret
    exact ⟨rfl, HB.out⟩
  | some l =>
    obtain rfl : ok = true := HO.out.symm
    obtain rfl : l = L := HL.out
    obtain ⟨g1, g2, g3⟩ := pack_of_unpack HU.out
    have G1 := Lib.hid g1
    have hk : ((l.length : Int) == k) = true := by simp [g2]
    have hk2 := Lib.hid g2
    clear g1 g2
    have hC := impl_PackBits l _ v w7 RL.out (Nat.le_refl _) (by omega)
    rw [G1.out] at hC
    have HC := Lib.hid hC
    clear hC
    go_wp2_with fail
    refine HC.out.mono ?_
    rintro e w8 ⟨_, rfl, ho, hb⟩
    replace RC := Lib.hid (RC.out.go hb)
    replace RB := Lib.hid (RB.out.go hb)
    replace RL := Lib.hid (RL.out.go hb)
    replace RM := Lib.hid (RM.out.go hb)
    replace RD := Lib.hid (RD.out.go hb)
    replace HB := Lib.hid (below_go HB.out hb)
    have hr := ho.topB
    obtain ⟨A19, c19, rfl, -, -⟩ := hr.form
    have RP := Lib.hid hr
    clear hr ho
    clear hb HC
    have hC := law_same b _ b _ w8 RP.out (Nat.le_refl _) RB.out (Nat.le_refl _)
    rw [eqd_self] at hC
    have HC := Lib.hid hC
    clear hC
    go_wp2_with fail
    refine HC.out.mono ?_
    rintro e w9 ⟨rfl, hb⟩
    replace RC := Lib.hid (RC.out.go hb)
    replace RB := Lib.hid (RB.out.go hb)
    replace RL := Lib.hid (RL.out.go hb)
    replace RM := Lib.hid (RM.out.go hb)
    replace RD := Lib.hid (RD.out.go hb)
    replace RP := Lib.hid (RP.out.go hb)
    replace HB := Lib.hid (below_go HB.out hb)
    clear hb HC
    go_wp2_with fail
    go_ret
    exact ⟨rfl, HB.out⟩
end Go.Proofs.Yticimccfeohpcaa
