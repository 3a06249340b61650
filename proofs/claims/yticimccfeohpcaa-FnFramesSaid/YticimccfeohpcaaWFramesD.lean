/- The law FnFrames: the walk. Integers come back of their frame of reference. No conditions. -/
import Derived.Test.YticimccfeohpcaaXA
import Derived.Test.YticimccfeohpcaaXD
import Derived.Test.YticimccfeohpcaaXF
import Derived.Test.YticimccfeohpcaaXV
import Derived.Test.YticimccfeohpcaaXL
namespace Go.Proofs.Yticimccfeohpcaa
open Go.Sort Go.ChangeShapes Go.WideShapes Go.ChangeAt Go.RowKit Go.Lb
theorem hasI_mem {l : List Int} {n : Int} (h : n ∈ l) : hasI l n = true := List.any_eq_true.2 ⟨n, h, by simp⟩
set_option maxRecDepth 20000 in
set_option maxHeartbeats 4000000 in
theorem wFrames (code : List UInt8) (x : Value) (w : World) (hx : RdB w 0 w.heap.size x code) :
    Calls Try.prog 5 #[x] w fun e w' => e = .returned (.bool true) ∧ Below w.heap.size w w' := by
  go_enter Try.func5, Try.ntmps5
  go_wp2_with fail
  refine (law_big code _ w hx).mono ?_
  rintro e w1 ⟨rfl, rfl⟩
  by_cases hbg : 1048576 < (code.length : Int)
  · have hd := decide_eq_true hbg
    go_wp2_with fail
    go_ret
    exact ⟨rfl, Below.refl _ _⟩
  have hd := decide_eq_false hbg
  have hcl : code.length ≤ 1048576 := by omega
  have RC := Lib.hid hx
  have HB := Lib.hid (Below.refl w.heap.size w)
  go_wp2_with fail
  clear hbg hd hx
  have hC := spec_DrawEncFrame code _ w RC.out (Nat.le_refl _) hcl
  have HC := Lib.hid hC
  clear hC
  refine HC.out.mono ?_
  rintro e w1 ⟨v, l, rfl, hrd, hll, hsm, hb⟩
  replace RC := Lib.hid (RC.out.go hb)
  replace HB := Lib.hid (below_go HB.out hb)
  have hr := hrd.top (Nat.le_refl _)
  obtain ⟨A2, c2, rfl, -, -⟩ := hr.form
  have RL := Lib.hid hr
  clear hr
  have HS := Lib.hid (small_max hsm)
  clear hsm hrd
  clear hb HC
  obtain ⟨P, hP⟩ : ∃ P, encFrame l = P := ⟨_, rfl⟩
  obtain ⟨O, hO⟩ : ∃ O, offsets l = O := ⟨_, rfl⟩
  have HP := Lib.hid hP
  have HO := Lib.hid hO
  have hPl := encFrame_len l
  rw [hP] at hPl
  have hOl := offsets_len l
  rw [hO] at hOl
  clear hP hO
  obtain ⟨B, hB⟩ : ∃ B, baseOf l = B := ⟨_, rfl⟩
  have HBase := Lib.hid hB
  have hbb : (B != B) = false := by simp
  obtain ⟨M, hM⟩ : ∃ M, mostOf O = M := ⟨_, rfl⟩
  have HM := Lib.hid hM
  have hmm : (M != M) = false := by simp
  clear hB hM
  have hC := impl_EncFrame l _ w1 RL.out (Nat.le_refl _) HS.out
  rw [HP.out] at hC
  have HC := Lib.hid hC
  clear hC
  go_wp2_with fail
  refine HC.out.mono ?_
  rintro e w2 ⟨_, rfl, ho, hb⟩
  replace RC := Lib.hid (RC.out.go hb)
  replace RL := Lib.hid (RL.out.go hb)
  replace HB := Lib.hid (below_go HB.out hb)
  have hr := ho.topB
  obtain ⟨A4, c4, rfl, -, -⟩ := hr.form
  have RP := Lib.hid hr
  clear hr ho
  clear hb HC
  have hC := impl_Offsets l _ w2 RL.out (Nat.le_refl _) HS.out
  rw [HO.out] at hC
  have HC := Lib.hid hC
  clear hC
  go_wp2_with fail
  refine HC.out.mono ?_
  rintro e w3 ⟨_, rfl, ho, hb⟩
  replace RC := Lib.hid (RC.out.go hb)
  replace RL := Lib.hid (RL.out.go hb)
  replace RP := Lib.hid (RP.out.go hb)
  replace HB := Lib.hid (below_go HB.out hb)
  have hr := ho.topI
  obtain ⟨A6, c6, rfl, -, -⟩ := hr.form
  have RO := Lib.hid hr
  clear hr ho
  clear hb HC
  have hC := spec_EncFrame l _ w3 RL.out (Nat.le_refl _) HS.out
  rw [HP.out] at hC
  have HC := Lib.hid hC
  clear hC
  go_wp2_with fail
  refine HC.out.mono ?_
  rintro e w4 ⟨_, rfl, ho, hb⟩
  replace RC := Lib.hid (RC.out.go hb)
  replace RL := Lib.hid (RL.out.go hb)
  replace RP := Lib.hid (RP.out.go hb)
  replace RO := Lib.hid (RO.out.go hb)
  replace HB := Lib.hid (below_go HB.out hb)
  have hr := ho.topB
  obtain ⟨A8, c8, rfl, -, -⟩ := hr.form
  have RP2 := Lib.hid hr
  clear hr ho
  clear hb HC
  have hC := law_same P _ P _ w4 RP.out (Nat.le_refl _) RP2.out (Nat.le_refl _)
  rw [eqd_self] at hC
  have HC := Lib.hid hC
  clear hC
  go_wp2_with fail
  refine HC.out.mono ?_
  rintro e w5 ⟨rfl, hb⟩
  replace RC := Lib.hid (RC.out.go hb)
  replace RL := Lib.hid (RL.out.go hb)
  replace RP := Lib.hid (RP.out.go hb)
  replace RO := Lib.hid (RO.out.go hb)
  replace RP2 := Lib.hid (RP2.out.go hb)
  replace HB := Lib.hid (below_go HB.out hb)
  clear hb HC
  have hC := spec_Offsets l _ w5 RL.out (Nat.le_refl _) HS.out
  rw [HO.out] at hC
  have HC := Lib.hid hC
  clear hC
  go_wp2_with fail
  refine HC.out.mono ?_
  rintro e w6 ⟨_, rfl, ho, hb⟩
  replace RC := Lib.hid (RC.out.go hb)
  replace RL := Lib.hid (RL.out.go hb)
  replace RP := Lib.hid (RP.out.go hb)
  replace RO := Lib.hid (RO.out.go hb)
  replace RP2 := Lib.hid (RP2.out.go hb)
  replace HB := Lib.hid (below_go HB.out hb)
  have hr := ho.topI
  obtain ⟨A11, c11, rfl, -, -⟩ := hr.form
  have RO2 := Lib.hid hr
  clear hr ho
  clear hb HC
  have hC := law_sameInts O _ O _ w6 RO.out (Nat.le_refl _) RO2.out (Nat.le_refl _)
  rw [eqd_self] at hC
  have HC := Lib.hid hC
  clear hC
  go_wp2_with fail
  refine HC.out.mono ?_
  rintro e w7 ⟨rfl, hb⟩
  replace RC := Lib.hid (RC.out.go hb)
  replace RL := Lib.hid (RL.out.go hb)
  replace RP := Lib.hid (RP.out.go hb)
  replace RO := Lib.hid (RO.out.go hb)
  replace RP2 := Lib.hid (RP2.out.go hb)
  replace RO2 := Lib.hid (RO2.out.go hb)
  replace HB := Lib.hid (below_go HB.out hb)
  clear hb HC
  clear RP2 RO2
  have hC := impl_Base l _ w7 RL.out (Nat.le_refl _)
  rw [HBase.out] at hC
  have HC := Lib.hid hC
  clear hC
  go_wp2_with fail
  refine HC.out.mono ?_
  rintro e w8 ⟨rfl, hb⟩
  replace RC := Lib.hid (RC.out.go hb)
  replace RL := Lib.hid (RL.out.go hb)
  replace RP := Lib.hid (RP.out.go hb)
  replace RO := Lib.hid (RO.out.go hb)
  replace HB := Lib.hid (below_go HB.out hb)
  clear hb HC
  have hC := spec_Base l _ w8 RL.out (Nat.le_refl _)
  rw [HBase.out] at hC
  have HC := Lib.hid hC
  clear hC
  go_wp2_with fail
  refine HC.out.mono ?_
  rintro e w9 ⟨rfl, hb⟩
  replace RC := Lib.hid (RC.out.go hb)
  replace RL := Lib.hid (RL.out.go hb)
  replace RP := Lib.hid (RP.out.go hb)
  replace RO := Lib.hid (RO.out.go hb)
  replace HB := Lib.hid (below_go HB.out hb)
  clear hb HC
  have hC := impl_Reach l _ w9 RL.out (Nat.le_refl _) HS.out
  rw [HO.out] at hC
  rw [HM.out] at hC
  have HC := Lib.hid hC
  clear hC
  go_wp2_with fail
  refine HC.out.mono ?_
  rintro e w10 ⟨rfl, hb⟩
  replace RC := Lib.hid (RC.out.go hb)
  replace RL := Lib.hid (RL.out.go hb)
  replace RP := Lib.hid (RP.out.go hb)
  replace RO := Lib.hid (RO.out.go hb)
  replace HB := Lib.hid (below_go HB.out hb)
  clear hb HC
  have hC := spec_Reach l _ w10 RL.out (Nat.le_refl _) HS.out
  rw [HO.out] at hC
  rw [HM.out] at hC
  have HC := Lib.hid hC
  clear hC
  go_wp2_with fail
  refine HC.out.mono ?_
  rintro e w11 ⟨rfl, hb⟩
  replace RC := Lib.hid (RC.out.go hb)
  replace RL := Lib.hid (RL.out.go hb)
  replace RP := Lib.hid (RP.out.go hb)
  replace RO := Lib.hid (RO.out.go hb)
  replace HB := Lib.hid (below_go HB.out hb)
  clear hb HC
  by_cases ht : typeOf l = 1
  · have H1 := Lib.hid ht
    clear ht
    have hC := impl_TypeOf l _ w11 RL.out (Nat.le_refl _) HS.out
    rw [H1.out] at hC
    have HC := Lib.hid hC
    clear hC
    go_wp2_with fail
    refine HC.out.mono ?_
    rintro e w12 ⟨rfl, hb⟩
    replace RC := Lib.hid (RC.out.go hb)
    replace RL := Lib.hid (RL.out.go hb)
    replace RP := Lib.hid (RP.out.go hb)
    replace RO := Lib.hid (RO.out.go hb)
    replace HB := Lib.hid (below_go HB.out hb)
    clear hb HC
    have hlen := typeOf_len64 H1.out (by decide)
    have hC := impl_Base l _ w12 RL.out (Nat.le_refl _)
    rw [HBase.out] at hC
    have HC := Lib.hid hC
    clear hC
    go_wp2_with fail
    refine HC.out.mono ?_
    rintro e w13 ⟨rfl, hb⟩
    replace RC := Lib.hid (RC.out.go hb)
    replace RL := Lib.hid (RL.out.go hb)
    replace RP := Lib.hid (RP.out.go hb)
    replace RO := Lib.hid (RO.out.go hb)
    replace HB := Lib.hid (below_go HB.out hb)
    clear hb HC
    have hC := impl_Raised B O _ w13 RO.out (Nat.le_refl _) (by omega)
    rw [show raisedQ B O = some l by rw [← HBase.out, ← HO.out]; exact raised_offsets H1.out] at hC
    simp only [Option.isSome_some, Option.getD_some] at hC
    have HC := Lib.hid hC
    clear hC
    go_wp2_with fail
    refine HC.out.mono ?_
    rintro e w14 ⟨_, rfl, ho, hb⟩
    replace RC := Lib.hid (RC.out.go hb)
    replace RL := Lib.hid (RL.out.go hb)
    replace RP := Lib.hid (RP.out.go hb)
    replace RO := Lib.hid (RO.out.go hb)
    replace HB := Lib.hid (below_go HB.out hb)
    have hr := ho.topV
    obtain ⟨A20, c20, rfl, -, -⟩ := hr.form
    have RX := Lib.hid hr
    clear hr ho
    clear hb HC
    have hC := impl_DecFrame P _ l.length w14 RP.out (Nat.le_refl _) (by omega)
    rw [show decFrame P l.length = some l by rw [← HP.out]; exact dec_encFrame H1.out] at hC
    simp only [Option.isSome_some, Option.getD_some] at hC
    have HC := Lib.hid hC
    clear hC
    go_wp2_with fail
    refine HC.out.mono ?_
    rintro e w15 ⟨_, rfl, ho, hb⟩
    replace RC := Lib.hid (RC.out.go hb)
    replace RL := Lib.hid (RL.out.go hb)
    replace RP := Lib.hid (RP.out.go hb)
    replace RO := Lib.hid (RO.out.go hb)
    replace RX := Lib.hid (RX.out.go hb)
    replace HB := Lib.hid (below_go HB.out hb)
    have hr := ho.topV
    obtain ⟨A22, c22, rfl, -, -⟩ := hr.form
    have RY := Lib.hid hr
    clear hr ho
    clear hb HC
    have hC := law_sameVals l _ _ w15 RX.out (Nat.le_refl _) RL.out (Nat.le_refl _)
    have HC := Lib.hid hC
    clear hC
    go_wp2_with fail
    refine HC.out.mono ?_
    rintro e w16 ⟨rfl, hb⟩
    replace RC := Lib.hid (RC.out.go hb)
    replace RL := Lib.hid (RL.out.go hb)
    replace RP := Lib.hid (RP.out.go hb)
    replace RO := Lib.hid (RO.out.go hb)
    replace RX := Lib.hid (RX.out.go hb)
    replace RY := Lib.hid (RY.out.go hb)
    replace HB := Lib.hid (below_go HB.out hb)
    clear hb HC
    have hC := law_sameVals l _ _ w16 RY.out (Nat.le_refl _) RL.out (Nat.le_refl _)
    have HC := Lib.hid hC
    clear hC
    go_wp2_with fail
    refine HC.out.mono ?_
    rintro e w17 ⟨rfl, hb⟩
    replace RC := Lib.hid (RC.out.go hb)
    replace RL := Lib.hid (RL.out.go hb)
    replace RP := Lib.hid (RP.out.go hb)
    replace RO := Lib.hid (RO.out.go hb)
    replace RX := Lib.hid (RX.out.go hb)
    replace RY := Lib.hid (RY.out.go hb)
    replace HB := Lib.hid (below_go HB.out hb)
    clear hb HC
    have hC := q_laws_in O _ 0 w17 RO.out (Nat.le_refl _)
    rw [show hasI O 0 = true by rw [← HO.out]; exact hasI_mem (zero_offsets H1.out)] at hC
    have HC := Lib.hid hC
    clear hC
    go_wp2_with fail
    refine HC.out.mono ?_
    rintro e we ⟨rfl, rfl⟩
    clear HC
    have hC := impl_Reach l _ w17 RL.out (Nat.le_refl _) HS.out
    rw [HO.out] at hC
    rw [HM.out] at hC
    have HC := Lib.hid hC
    clear hC
    go_wp2_with fail
    refine HC.out.mono ?_
    rintro e w18 ⟨rfl, hb⟩
    replace RC := Lib.hid (RC.out.go hb)
    replace RL := Lib.hid (RL.out.go hb)
    replace RP := Lib.hid (RP.out.go hb)
    replace RO := Lib.hid (RO.out.go hb)
    replace RX := Lib.hid (RX.out.go hb)
    replace RY := Lib.hid (RY.out.go hb)
    replace HB := Lib.hid (below_go HB.out hb)
    clear hb HC
    have hC := q_laws_in O _ M w18 RO.out (Nat.le_refl _)
    rw [show hasI O M = true by rw [← HM.out, ← HO.out]; exact hasI_mem (most_offsets H1.out)] at hC
    have HC := Lib.hid hC
    clear hC
    go_wp2_with fail
    refine HC.out.mono ?_
    rintro e we ⟨rfl, rfl⟩
    clear HC
    go_wp2_with fail
    go_ret
    exact ⟨rfl, HB.out⟩
  · obtain rfl : P = [] := by rw [← HP.out]; exact encFrame_no ht
    obtain rfl : O = [] := by rw [← HO.out]; exact offsets_no ht
    obtain ⟨t, hte⟩ : ∃ t, typeOf l = t := ⟨_, rfl⟩
    have hd : (t != 1) = true := by simp [← hte, ht]
    have Hte := Lib.hid hte
    clear ht hte
    have hC := impl_TypeOf l _ w11 RL.out (Nat.le_refl _) HS.out
    rw [Hte.out] at hC
    have HC := Lib.hid hC
    clear hC
    go_wp2_with fail
    refine HC.out.mono ?_
    rintro e w12 ⟨rfl, hb⟩
    replace RC := Lib.hid (RC.out.go hb)
    replace RL := Lib.hid (RL.out.go hb)
    replace RP := Lib.hid (RP.out.go hb)
    replace RO := Lib.hid (RO.out.go hb)
    replace HB := Lib.hid (below_go HB.out hb)
    clear hb HC
    go_wp2_with fail
    go_ret
    exact ⟨rfl, HB.out⟩
end Go.Proofs.Yticimccfeohpcaa
