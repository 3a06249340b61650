/- The law FnGroups: the walk. Rows come back of their encoding. No conditions. -/
import Derived.Test.YticimccfeohpcaaGreatXA
import Derived.Test.YticimccfeohpcaaGreatD31
import Derived.Test.YticimccfeohpcaaGreatCG
import Derived.Test.YticimccfeohpcaaGreatEL
import Derived.Test.YticimccfeohpcaaGreatES
import Derived.Test.YticimccfeohpcaaGreatXL
import Derived.Test.YticimccfeohpcaaGreatS24
namespace Go.Proofs.YticimccfeohpcaaGreat
open Go.Sort Go.ChangeShapes Go.WideShapes Go.ChangeAt Go.RowKit Go.Lb
set_option maxRecDepth 20000 in
set_option maxHeartbeats 4000000 in
theorem wGroups (code : List UInt8) (x : Value) (w : World) (hx : RdB w 0 w.heap.size x code) :
    Calls Tryz.prog 9 #[x] w fun e w' => e = .returned (.bool true) ∧ Below w.heap.size w w' := by
  go_enter Tryz.func9, Tryz.ntmps9
  go_wp2_with fail
  refine (law_big code _ w hx).mono ?_
  rintro e w1 ⟨rfl, rfl⟩
  by_cases hbg : 1048576 < (code.length : Int)
  · have hd := decide_eq_true hbg
    go_wp2_with fail
    go_ret
    exact ⟨rfl, Below.refl _ _⟩
  have hd := decide_eq_false hbg
  have hcl : code.length ≤ 1048576 := by omega
  have RC := Lib.hid hx
  have HB := Lib.hid (Below.refl w.heap.size w)
  go_wp2_with fail
  clear hbg hd hx
  have hC := spec_DrawPutGroup code _ w RC.out (Nat.le_refl _) hcl
  have HC := Lib.hid hC
  clear hC
  refine HC.out.mono ?_
  rintro e w1 ⟨cv, lv, cols, l, rfl, hrc, hcl3, hrd, hll, hsm, hb⟩
  replace RC := Lib.hid (RC.out.go hb)
  replace HB := Lib.hid (below_go HB.out hb)
  have hr := hrc.top (Nat.le_refl _)
  obtain ⟨A2, c2, rfl, -, -⟩ := hr.form
  have RK := Lib.hid hr
  clear hr
  have hr := hrd.top (Nat.le_refl _)
  obtain ⟨A3, c3, rfl, -, -⟩ := hr.form
  have RL := Lib.hid hr
  clear hr
  have HS := Lib.hid (rsok_small hsm)
  clear hsm hrd hrc
  clear hb HC
  obtain ⟨P, hP⟩ : ∃ P, putGroup cols l = P := ⟨_, rfl⟩
  have HP := Lib.hid hP
  have hPl := putGroup_len cols l
  rw [hP] at hPl
  obtain ⟨K, hK⟩ : ∃ K, kindsOf cols l = K := ⟨_, rfl⟩
  have HK := Lib.hid hK
  clear hP hK
  have hC := impl_PutGroup cols _ l _ w1 RK.out (Nat.le_refl _) RL.out (Nat.le_refl _) HS.out
  rw [HP.out] at hC
  have HC := Lib.hid hC
  clear hC
  go_wp2_with fail
  refine HC.out.mono ?_
  rintro e w2 ⟨_, rfl, ho, hb⟩
  replace RC := Lib.hid (RC.out.go hb)
  replace RK := Lib.hid (RK.out.go hb)
  replace RL := Lib.hid (RL.out.go hb)
  replace HB := Lib.hid (below_go HB.out hb)
  have hr := ho.topB
  obtain ⟨A5, c5, rfl, -, -⟩ := hr.form
  have RP := Lib.hid hr
  clear hr ho
  clear hb HC
  cases hro : rowsOk cols l
  · have HRO := Lib.hid hro
    have hPe : P = [] := by rw [← HP.out]; exact putGroup_no hro
    subst hPe
    have HG := Lib.hid (getGroup_nil cols)
    clear hro
    have hC := impl_GetGroup cols _ ([] : List UInt8) _ w2 RK.out (Nat.le_refl _) RP.out (Nat.le_refl _) (by omega)
    rw [HG.out] at hC
    have HC := Lib.hid hC
    clear hC
    go_wp2_with fail
    refine HC.out.mono ?_
    rintro e w3 ⟨_, rfl, ho, hb⟩
    replace RC := Lib.hid (RC.out.go hb)
    replace RK := Lib.hid (RK.out.go hb)
    replace RL := Lib.hid (RL.out.go hb)
    replace RP := Lib.hid (RP.out.go hb)
    replace HB := Lib.hid (below_go HB.out hb)
    clear ho
    clear hb HC
    have hC := spec_PutGroup cols _ l _ w3 RK.out (Nat.le_refl _) RL.out (Nat.le_refl _) HS.out
    rw [HP.out] at hC
    have HC := Lib.hid hC
    clear hC
    go_wp2_with fail
    refine HC.out.mono ?_
    rintro e w4 ⟨_, rfl, ho, hb⟩
    replace RC := Lib.hid (RC.out.go hb)
    replace RK := Lib.hid (RK.out.go hb)
    replace RL := Lib.hid (RL.out.go hb)
    replace RP := Lib.hid (RP.out.go hb)
    replace HB := Lib.hid (below_go HB.out hb)
    have hr := ho.topB
    obtain ⟨A8, c8, rfl, -, -⟩ := hr.form
    have RP2 := Lib.hid hr
    clear hr ho
    clear hb HC
    have hC := law_same ([] : List UInt8) _ ([] : List UInt8) _ w4 RP.out (Nat.le_refl _) RP2.out (Nat.le_refl _)
    rw [eqd_self] at hC
    have HC := Lib.hid hC
    clear hC
    go_wp2_with fail
    refine HC.out.mono ?_
    rintro e w5 ⟨rfl, hb⟩
    replace RC := Lib.hid (RC.out.go hb)
    replace RK := Lib.hid (RK.out.go hb)
    replace RL := Lib.hid (RL.out.go hb)
    replace RP := Lib.hid (RP.out.go hb)
    replace RP2 := Lib.hid (RP2.out.go hb)
    replace HB := Lib.hid (below_go HB.out hb)
    clear hb HC
    clear RP2
    have hC := impl_RowsOk cols _ l _ w5 RK.out (Nat.le_refl _) RL.out (Nat.le_refl _) HS.out
    rw [HRO.out] at hC
    have HC := Lib.hid hC
    clear hC
    go_wp2_with fail
    refine HC.out.mono ?_
    rintro e w6 ⟨rfl, hb⟩
    replace RC := Lib.hid (RC.out.go hb)
    replace RK := Lib.hid (RK.out.go hb)
    replace RL := Lib.hid (RL.out.go hb)
    replace RP := Lib.hid (RP.out.go hb)
    replace HB := Lib.hid (below_go HB.out hb)
    clear hb HC
    have hC := spec_RowsOk cols _ l _ w6 RK.out (Nat.le_refl _) RL.out (Nat.le_refl _) HS.out
    rw [HRO.out] at hC
    have HC := Lib.hid hC
    clear hC
    go_wp2_with fail
    refine HC.out.mono ?_
    rintro e w7 ⟨rfl, hb⟩
    replace RC := Lib.hid (RC.out.go hb)
    replace RK := Lib.hid (RK.out.go hb)
    replace RL := Lib.hid (RL.out.go hb)
    replace RP := Lib.hid (RP.out.go hb)
    replace HB := Lib.hid (below_go HB.out hb)
    clear hb HC
    have hC := impl_KindsOf cols _ l _ w7 RK.out (Nat.le_refl _) RL.out (Nat.le_refl _) HS.out
    rw [HK.out] at hC
    have HC := Lib.hid hC
    clear hC
    go_wp2_with fail
    refine HC.out.mono ?_
    rintro e w8 ⟨_, rfl, ho, hb⟩
    replace RC := Lib.hid (RC.out.go hb)
    replace RK := Lib.hid (RK.out.go hb)
    replace RL := Lib.hid (RL.out.go hb)
    replace RP := Lib.hid (RP.out.go hb)
    replace HB := Lib.hid (below_go HB.out hb)
    have hr := ho.topI
    obtain ⟨A13, c13, rfl, -, -⟩ := hr.form
    have RQ := Lib.hid hr
    clear hr ho
    clear hb HC
    have hC := spec_KindsOf cols _ l _ w8 RK.out (Nat.le_refl _) RL.out (Nat.le_refl _) HS.out
    rw [HK.out] at hC
    have HC := Lib.hid hC
    clear hC
    go_wp2_with fail
    refine HC.out.mono ?_
    rintro e w9 ⟨_, rfl, ho, hb⟩
    replace RC := Lib.hid (RC.out.go hb)
    replace RK := Lib.hid (RK.out.go hb)
    replace RL := Lib.hid (RL.out.go hb)
    replace RP := Lib.hid (RP.out.go hb)
    replace RQ := Lib.hid (RQ.out.go hb)
    replace HB := Lib.hid (below_go HB.out hb)
    have hr := ho.topI
    obtain ⟨A15, c15, rfl, -, -⟩ := hr.form
    have RQ2 := Lib.hid hr
    clear hr ho
    clear hb HC
    have hC := law_sameInts K _ K _ w9 RQ.out (Nat.le_refl _) RQ2.out (Nat.le_refl _)
    rw [eqd_self] at hC
    have HC := Lib.hid hC
    clear hC
    go_wp2_with fail
    refine HC.out.mono ?_
    rintro e w10 ⟨rfl, hb⟩
    replace RC := Lib.hid (RC.out.go hb)
    replace RK := Lib.hid (RK.out.go hb)
    replace RL := Lib.hid (RL.out.go hb)
    replace RP := Lib.hid (RP.out.go hb)
    replace RQ := Lib.hid (RQ.out.go hb)
    replace RQ2 := Lib.hid (RQ2.out.go hb)
    replace HB := Lib.hid (below_go HB.out hb)
    clear hb HC
    clear RQ RQ2
    have hC := impl_RowsOk cols _ l _ w10 RK.out (Nat.le_refl _) RL.out (Nat.le_refl _) HS.out
    rw [HRO.out] at hC
    have HC := Lib.hid hC
    clear hC
    go_wp2_with fail
    refine HC.out.mono ?_
    rintro e w11 ⟨rfl, hb⟩
    replace RC := Lib.hid (RC.out.go hb)
    replace RK := Lib.hid (RK.out.go hb)
    replace RL := Lib.hid (RL.out.go hb)
    replace RP := Lib.hid (RP.out.go hb)
    replace HB := Lib.hid (below_go HB.out hb)
    clear hb HC
    go_wp2_with fail
    go_ret
    exact ⟨rfl, HB.out⟩
  · have HRO := Lib.hid hro
    have HG := Lib.hid (show getGroup cols P = some l by rw [← HP.out]; exact get_putGroup hro)
    clear hro
    have hC := impl_GetGroup cols _ P _ w2 RK.out (Nat.le_refl _) RP.out (Nat.le_refl _) (by omega)
    rw [HG.out] at hC
    have HC := Lib.hid hC
    clear hC
    go_wp2_with fail
    refine HC.out.mono ?_
    rintro e w3 ⟨_, rfl, ho, hb⟩
    replace RC := Lib.hid (RC.out.go hb)
    replace RK := Lib.hid (RK.out.go hb)
    replace RL := Lib.hid (RL.out.go hb)
    replace RP := Lib.hid (RP.out.go hb)
    replace HB := Lib.hid (below_go HB.out hb)
    have hr := ho.topR
    obtain ⟨A19, c19, rfl, -, -⟩ := hr.form
    have RX := Lib.hid hr
    clear hr
    clear ho
    clear hb HC
    have hC := spec_PutGroup cols _ l _ w3 RK.out (Nat.le_refl _) RL.out (Nat.le_refl _) HS.out
    rw [HP.out] at hC
    have HC := Lib.hid hC
    clear hC
    go_wp2_with fail
    refine HC.out.mono ?_
    rintro e w4 ⟨_, rfl, ho, hb⟩
    replace RC := Lib.hid (RC.out.go hb)
    replace RK := Lib.hid (RK.out.go hb)
    replace RL := Lib.hid (RL.out.go hb)
    replace RP := Lib.hid (RP.out.go hb)
    replace RX := Lib.hid (RX.out.go hb)
    replace HB := Lib.hid (below_go HB.out hb)
    have hr := ho.topB
    obtain ⟨A21, c21, rfl, -, -⟩ := hr.form
    have RP2 := Lib.hid hr
    clear hr ho
    clear hb HC
    have hC := law_same P _ P _ w4 RP.out (Nat.le_refl _) RP2.out (Nat.le_refl _)
    rw [eqd_self] at hC
    have HC := Lib.hid hC
    clear hC
    go_wp2_with fail
    refine HC.out.mono ?_
    rintro e w5 ⟨rfl, hb⟩
    replace RC := Lib.hid (RC.out.go hb)
    replace RK := Lib.hid (RK.out.go hb)
    replace RL := Lib.hid (RL.out.go hb)
    replace RP := Lib.hid (RP.out.go hb)
    replace RX := Lib.hid (RX.out.go hb)
    replace RP2 := Lib.hid (RP2.out.go hb)
    replace HB := Lib.hid (below_go HB.out hb)
    clear hb HC
    clear RP2
    have hC := impl_RowsOk cols _ l _ w5 RK.out (Nat.le_refl _) RL.out (Nat.le_refl _) HS.out
    rw [HRO.out] at hC
    have HC := Lib.hid hC
    clear hC
    go_wp2_with fail
    refine HC.out.mono ?_
    rintro e w6 ⟨rfl, hb⟩
    replace RC := Lib.hid (RC.out.go hb)
    replace RK := Lib.hid (RK.out.go hb)
    replace RL := Lib.hid (RL.out.go hb)
    replace RP := Lib.hid (RP.out.go hb)
    replace RX := Lib.hid (RX.out.go hb)
    replace HB := Lib.hid (below_go HB.out hb)
    clear hb HC
    have hC := spec_RowsOk cols _ l _ w6 RK.out (Nat.le_refl _) RL.out (Nat.le_refl _) HS.out
    rw [HRO.out] at hC
    have HC := Lib.hid hC
    clear hC
    go_wp2_with fail
    refine HC.out.mono ?_
    rintro e w7 ⟨rfl, hb⟩
    replace RC := Lib.hid (RC.out.go hb)
    replace RK := Lib.hid (RK.out.go hb)
    replace RL := Lib.hid (RL.out.go hb)
    replace RP := Lib.hid (RP.out.go hb)
    replace RX := Lib.hid (RX.out.go hb)
    replace HB := Lib.hid (below_go HB.out hb)
    clear hb HC
    have hC := impl_KindsOf cols _ l _ w7 RK.out (Nat.le_refl _) RL.out (Nat.le_refl _) HS.out
    rw [HK.out] at hC
    have HC := Lib.hid hC
    clear hC
    go_wp2_with fail
    refine HC.out.mono ?_
    rintro e w8 ⟨_, rfl, ho, hb⟩
    replace RC := Lib.hid (RC.out.go hb)
    replace RK := Lib.hid (RK.out.go hb)
    replace RL := Lib.hid (RL.out.go hb)
    replace RP := Lib.hid (RP.out.go hb)
    replace RX := Lib.hid (RX.out.go hb)
    replace HB := Lib.hid (below_go HB.out hb)
    have hr := ho.topI
    obtain ⟨A26, c26, rfl, -, -⟩ := hr.form
    have RQ := Lib.hid hr
    clear hr ho
    clear hb HC
    have hC := spec_KindsOf cols _ l _ w8 RK.out (Nat.le_refl _) RL.out (Nat.le_refl _) HS.out
    rw [HK.out] at hC
    have HC := Lib.hid hC
    clear hC
    go_wp2_with fail
    refine HC.out.mono ?_
    rintro e w9 ⟨_, rfl, ho, hb⟩
    replace RC := Lib.hid (RC.out.go hb)
    replace RK := Lib.hid (RK.out.go hb)
    replace RL := Lib.hid (RL.out.go hb)
    replace RP := Lib.hid (RP.out.go hb)
    replace RX := Lib.hid (RX.out.go hb)
    replace RQ := Lib.hid (RQ.out.go hb)
    replace HB := Lib.hid (below_go HB.out hb)
    have hr := ho.topI
    obtain ⟨A28, c28, rfl, -, -⟩ := hr.form
    have RQ2 := Lib.hid hr
    clear hr ho
    clear hb HC
    have hC := law_sameInts K _ K _ w9 RQ.out (Nat.le_refl _) RQ2.out (Nat.le_refl _)
    rw [eqd_self] at hC
    have HC := Lib.hid hC
    clear hC
    go_wp2_with fail
    refine HC.out.mono ?_
    rintro e w10 ⟨rfl, hb⟩
    replace RC := Lib.hid (RC.out.go hb)
    replace RK := Lib.hid (RK.out.go hb)
    replace RL := Lib.hid (RL.out.go hb)
    replace RP := Lib.hid (RP.out.go hb)
    replace RX := Lib.hid (RX.out.go hb)
    replace RQ := Lib.hid (RQ.out.go hb)
    replace RQ2 := Lib.hid (RQ2.out.go hb)
    replace HB := Lib.hid (below_go HB.out hb)
    clear hb HC
    clear RQ RQ2
    have hC := impl_RowsOk cols _ l _ w10 RK.out (Nat.le_refl _) RL.out (Nat.le_refl _) HS.out
    rw [HRO.out] at hC
    have HC := Lib.hid hC
    clear hC
    go_wp2_with fail
    refine HC.out.mono ?_
    rintro e w11 ⟨rfl, hb⟩
    replace RC := Lib.hid (RC.out.go hb)
    replace RK := Lib.hid (RK.out.go hb)
    replace RL := Lib.hid (RL.out.go hb)
    replace RP := Lib.hid (RP.out.go hb)
    replace RX := Lib.hid (RX.out.go hb)
    replace HB := Lib.hid (below_go HB.out hb)
    clear hb HC
    have hC := law_sameRows l _ _ w11 RX.out (Nat.le_refl _) RL.out (Nat.le_refl _)
    have HC := Lib.hid hC
    clear hC
    go_wp2_with fail
    refine HC.out.mono ?_
    rintro e w12 ⟨rfl, hb⟩
    replace RC := Lib.hid (RC.out.go hb)
    replace RK := Lib.hid (RK.out.go hb)
    replace RL := Lib.hid (RL.out.go hb)
    replace RP := Lib.hid (RP.out.go hb)
    replace RX := Lib.hid (RX.out.go hb)
    replace HB := Lib.hid (below_go HB.out hb)
    clear hb HC
    go_wp2_with fail
    go_ret
    exact ⟨rfl, HB.out⟩
end Go.Proofs.YticimccfeohpcaaGreat
