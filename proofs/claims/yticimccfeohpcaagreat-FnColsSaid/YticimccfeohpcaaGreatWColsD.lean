/- The law FnCols: the walk. A column comes back of its encoding; no kind has a shorter one. No conditions. -/
import Derived.Test.YticimccfeohpcaaGreatXA
import Derived.Test.YticimccfeohpcaaGreatXD
import Derived.Test.YticimccfeohpcaaGreatCC
import Derived.Test.YticimccfeohpcaaGreatEJ
import Derived.Test.YticimccfeohpcaaGreatEQ
import Derived.Test.YticimccfeohpcaaGreatXL
import Derived.Test.YticimccfeohpcaaGreatXV
namespace Go.Proofs.YticimccfeohpcaaGreat
open Go.Sort Go.ChangeShapes Go.WideShapes Go.ChangeAt Go.RowKit Go.Lb
set_option maxRecDepth 20000 in
set_option maxHeartbeats 4000000 in
theorem wCols (code : List UInt8) (x : Value) (w : World) (hx : RdB w 0 w.heap.size x code) :
    Calls Tryz.prog 7 #[x] w fun e w' => e = .returned (.bool true) ∧ Below w.heap.size w w' := by
  go_enter Tryz.func7, Tryz.ntmps7
  go_wp2_with fail
  refine (law_big code _ w hx).mono ?_
  rintro e w1 ⟨rfl, rfl⟩
  by_cases hbg : 1048576 < (code.length : Int)
  · have hd := decide_eq_true hbg
    go_wp2_with fail
    go_ret
    exact ⟨rfl, Below.refl _ _⟩
  have hd := decide_eq_false hbg
  have hcl : code.length ≤ 1048576 := by omega
  have RC := Lib.hid hx
  have HB := Lib.hid (Below.refl w.heap.size w)
  go_wp2_with fail
  clear hbg hd hx
  have hC := spec_DrawEncCol code _ w RC.out (Nat.le_refl _) hcl
  have HC := Lib.hid hC
  clear hC
  refine HC.out.mono ?_
  rintro e w1 ⟨v, l, rfl, hrd, hll, hsm, hb⟩
  replace RC := Lib.hid (RC.out.go hb)
  replace HB := Lib.hid (below_go HB.out hb)
  have hr := hrd.top (Nat.le_refl _)
  obtain ⟨A2, c2, rfl, -, -⟩ := hr.form
  have RL := Lib.hid hr
  clear hr
  have HS := Lib.hid (small_max hsm)
  clear hsm hrd
  clear hb HC
  obtain ⟨P, hP⟩ : ∃ P, encCol l = P := ⟨_, rfl⟩
  have HP := Lib.hid hP
  have hPl := encCol_len l
  rw [hP] at hPl
  obtain ⟨K, hK⟩ : ∃ K, bestKind l = K := ⟨_, rfl⟩
  have HK := Lib.hid hK
  have hkk : (K != K) = false := by simp
  obtain ⟨Z, hZ⟩ : ∃ Z : Int, ((encPlain l).length : Int) - (P.length : Int) = Z := ⟨_, rfl⟩
  have HZ := Lib.hid hZ
  have hzz : (Z != Z) = false := by simp
  clear hP hK hZ
  have hC := impl_EncCol l _ w1 RL.out (Nat.le_refl _) HS.out
  rw [HP.out] at hC
  have HC := Lib.hid hC
  clear hC
  go_wp2_with fail
  refine HC.out.mono ?_
  rintro e w2 ⟨_, rfl, ho, hb⟩
  replace RC := Lib.hid (RC.out.go hb)
  replace RL := Lib.hid (RL.out.go hb)
  replace HB := Lib.hid (below_go HB.out hb)
  have hr := ho.topB
  obtain ⟨A4, c4, rfl, -, -⟩ := hr.form
  have RP := Lib.hid hr
  clear hr ho
  clear hb HC
  have hC := spec_DrawEncBy code _ w2 RC.out (Nat.le_refl _) hcl
  have HC := Lib.hid hC
  clear hC
  go_wp2_with fail
  refine HC.out.mono ?_
  rintro e w3 ⟨v2, m, n, rfl, hrd, hml, hsm, hb⟩
  replace RC := Lib.hid (RC.out.go hb)
  replace RL := Lib.hid (RL.out.go hb)
  replace RP := Lib.hid (RP.out.go hb)
  replace HB := Lib.hid (below_go HB.out hb)
  have hr := hrd.top (Nat.le_refl _)
  obtain ⟨A6, c6, rfl, -, -⟩ := hr.form
  have RM := Lib.hid hr
  clear hr
  have HSM := Lib.hid (small_max hsm)
  clear hsm hrd
  clear hb HC
  obtain ⟨Q, hQ⟩ : ∃ Q, encBy n m = Q := ⟨_, rfl⟩
  have HQ := Lib.hid hQ
  have hQl := encBy_len n m
  rw [hQ] at hQl
  clear hQ
  have hC := spec_EncCol l _ w3 RL.out (Nat.le_refl _) HS.out
  rw [HP.out] at hC
  have HC := Lib.hid hC
  clear hC
  go_wp2_with fail
  refine HC.out.mono ?_
  rintro e w4 ⟨_, rfl, ho, hb⟩
  replace RC := Lib.hid (RC.out.go hb)
  replace RL := Lib.hid (RL.out.go hb)
  replace RP := Lib.hid (RP.out.go hb)
  replace RM := Lib.hid (RM.out.go hb)
  replace HB := Lib.hid (below_go HB.out hb)
  have hr := ho.topB
  obtain ⟨A8, c8, rfl, -, -⟩ := hr.form
  have RP2 := Lib.hid hr
  clear hr ho
  clear hb HC
  have hC := law_same P _ P _ w4 RP.out (Nat.le_refl _) RP2.out (Nat.le_refl _)
  rw [eqd_self] at hC
  have HC := Lib.hid hC
  clear hC
  go_wp2_with fail
  refine HC.out.mono ?_
  rintro e w5 ⟨rfl, hb⟩
  replace RC := Lib.hid (RC.out.go hb)
  replace RL := Lib.hid (RL.out.go hb)
  replace RP := Lib.hid (RP.out.go hb)
  replace RM := Lib.hid (RM.out.go hb)
  replace RP2 := Lib.hid (RP2.out.go hb)
  replace HB := Lib.hid (below_go HB.out hb)
  clear hb HC
  clear RP2
  have hC := impl_BestKind l _ w5 RL.out (Nat.le_refl _) HS.out
  rw [HK.out] at hC
  have HC := Lib.hid hC
  clear hC
  go_wp2_with fail
  refine HC.out.mono ?_
  rintro e w6 ⟨rfl, hb⟩
  replace RC := Lib.hid (RC.out.go hb)
  replace RL := Lib.hid (RL.out.go hb)
  replace RP := Lib.hid (RP.out.go hb)
  replace RM := Lib.hid (RM.out.go hb)
  replace HB := Lib.hid (below_go HB.out hb)
  clear hb HC
  have hC := spec_BestKind l _ w6 RL.out (Nat.le_refl _) HS.out
  rw [HK.out] at hC
  have HC := Lib.hid hC
  clear hC
  go_wp2_with fail
  refine HC.out.mono ?_
  rintro e w7 ⟨rfl, hb⟩
  replace RC := Lib.hid (RC.out.go hb)
  replace RL := Lib.hid (RL.out.go hb)
  replace RP := Lib.hid (RP.out.go hb)
  replace RM := Lib.hid (RM.out.go hb)
  replace HB := Lib.hid (below_go HB.out hb)
  clear hb HC
  have hC := impl_EncBy n m _ w7 RM.out (Nat.le_refl _) HSM.out
  rw [HQ.out] at hC
  have HC := Lib.hid hC
  clear hC
  go_wp2_with fail
  refine HC.out.mono ?_
  rintro e w8 ⟨_, rfl, ho, hb⟩
  replace RC := Lib.hid (RC.out.go hb)
  replace RL := Lib.hid (RL.out.go hb)
  replace RP := Lib.hid (RP.out.go hb)
  replace RM := Lib.hid (RM.out.go hb)
  replace HB := Lib.hid (below_go HB.out hb)
  have hr := ho.topB
  obtain ⟨A13, c13, rfl, -, -⟩ := hr.form
  have RQ := Lib.hid hr
  clear hr ho
  clear hb HC
  have hC := spec_EncBy n m _ w8 RM.out (Nat.le_refl _) HSM.out
  rw [HQ.out] at hC
  have HC := Lib.hid hC
  clear hC
  go_wp2_with fail
  refine HC.out.mono ?_
  rintro e w9 ⟨_, rfl, ho, hb⟩
  replace RC := Lib.hid (RC.out.go hb)
  replace RL := Lib.hid (RL.out.go hb)
  replace RP := Lib.hid (RP.out.go hb)
  replace RM := Lib.hid (RM.out.go hb)
  replace RQ := Lib.hid (RQ.out.go hb)
  replace HB := Lib.hid (below_go HB.out hb)
  have hr := ho.topB
  obtain ⟨A15, c15, rfl, -, -⟩ := hr.form
  have RQ2 := Lib.hid hr
  clear hr ho
  clear hb HC
  have hC := law_same Q _ Q _ w9 RQ.out (Nat.le_refl _) RQ2.out (Nat.le_refl _)
  rw [eqd_self] at hC
  have HC := Lib.hid hC
  clear hC
  go_wp2_with fail
  refine HC.out.mono ?_
  rintro e w10 ⟨rfl, hb⟩
  replace RC := Lib.hid (RC.out.go hb)
  replace RL := Lib.hid (RL.out.go hb)
  replace RP := Lib.hid (RP.out.go hb)
  replace RM := Lib.hid (RM.out.go hb)
  replace RQ := Lib.hid (RQ.out.go hb)
  replace RQ2 := Lib.hid (RQ2.out.go hb)
  replace HB := Lib.hid (below_go HB.out hb)
  clear hb HC
  clear RQ2 RQ
  have hC := impl_Saved l _ w10 RL.out (Nat.le_refl _) HS.out
  rw [HP.out] at hC
  rw [HZ.out] at hC
  have HC := Lib.hid hC
  clear hC
  go_wp2_with fail
  refine HC.out.mono ?_
  rintro e w11 ⟨rfl, hb⟩
  replace RC := Lib.hid (RC.out.go hb)
  replace RL := Lib.hid (RL.out.go hb)
  replace RP := Lib.hid (RP.out.go hb)
  replace RM := Lib.hid (RM.out.go hb)
  replace HB := Lib.hid (below_go HB.out hb)
  clear hb HC
  have hC := spec_Saved l _ w11 RL.out (Nat.le_refl _) HS.out
  rw [HP.out] at hC
  rw [HZ.out] at hC
  have HC := Lib.hid hC
  clear hC
  go_wp2_with fail
  refine HC.out.mono ?_
  rintro e w12 ⟨rfl, hb⟩
  replace RC := Lib.hid (RC.out.go hb)
  replace RL := Lib.hid (RL.out.go hb)
  replace RP := Lib.hid (RP.out.go hb)
  replace RM := Lib.hid (RM.out.go hb)
  replace HB := Lib.hid (below_go HB.out hb)
  clear hb HC
  by_cases ht : typeOf l = 0
  · have H1 := Lib.hid ht
    have hPe := Lib.hid (show P = [] by rw [← HP.out]; exact encCol_no ht)
    have hKe := Lib.hid (show K = -1 by rw [← HK.out]; exact bestKind_no ht)
    obtain rfl := hPe.out
    obtain rfl := hKe.out
    clear ht hPe hKe
    have hC := impl_TypeOf l _ w12 RL.out (Nat.le_refl _) HS.out
    rw [H1.out] at hC
    have HC := Lib.hid hC
    clear hC
    go_wp2_with fail
    refine HC.out.mono ?_
    rintro e w13 ⟨rfl, hb⟩
    replace RC := Lib.hid (RC.out.go hb)
    replace RL := Lib.hid (RL.out.go hb)
    replace RP := Lib.hid (RP.out.go hb)
    replace RM := Lib.hid (RM.out.go hb)
    replace HB := Lib.hid (below_go HB.out hb)
    clear hb HC
    have hC := impl_BestKind l _ w13 RL.out (Nat.le_refl _) HS.out
    rw [HK.out] at hC
    have HC := Lib.hid hC
    clear hC
    go_wp2_with fail
    refine HC.out.mono ?_
    rintro e w14 ⟨rfl, hb⟩
    replace RC := Lib.hid (RC.out.go hb)
    replace RL := Lib.hid (RL.out.go hb)
    replace RP := Lib.hid (RP.out.go hb)
    replace RM := Lib.hid (RM.out.go hb)
    replace HB := Lib.hid (below_go HB.out hb)
    clear hb HC
    go_wp2_with fail
    go_ret
    exact ⟨rfl, HB.out⟩
  · have Ht := Lib.hid ht
    obtain ⟨t, hte⟩ : ∃ t, typeOf l = t := ⟨_, rfl⟩
    have hd : (t == 0) = false := by simp [← hte, ht]
    have Hte := Lib.hid hte
    have hl64 := typeOf_len64 rfl ht
    have HBst := Lib.hid (best_le ht)
    have HPe := Lib.hid (show P.length = (encBy (bestKind l) l).length + 1 by rw [← HP.out, encCol_yes ht, List.length_cons])
    have HDec := Lib.hid (show decCol P t l.length = some l by rw [← HP.out, ← hte]; exact dec_encCol ht)
    clear ht hte
    have hC := impl_TypeOf l _ w12 RL.out (Nat.le_refl _) HS.out
    rw [Hte.out] at hC
    have HC := Lib.hid hC
    clear hC
    go_wp2_with fail
    refine HC.out.mono ?_
    rintro e w13 ⟨rfl, hb⟩
    replace RC := Lib.hid (RC.out.go hb)
    replace RL := Lib.hid (RL.out.go hb)
    replace RP := Lib.hid (RP.out.go hb)
    replace RM := Lib.hid (RM.out.go hb)
    replace HB := Lib.hid (below_go HB.out hb)
    clear hb HC
    have HEB := Lib.hid (fun (k : Int) W (h : Below w13.heap.size w13 W) => impl_EncBy k l _ W (RL.out.below h (Nat.le_refl _)) h.size HS.out)
    have HEL := Lib.hid (fun k => encBy_len k l)
    go_wp2_with fail
    go_loopw [8] (fun i wr => ∃ j : Nat, Hid (i = .int .i64 j ∧ j ≤ 4 ∧ Below w13.heap.size w13 wr)) (fun i _ => 4 - (intOf i).toNat)
    case atStart => exact ⟨0, Lib.hid ⟨rfl, by omega, Below.refl _ _⟩⟩
    case round =>
      obtain ⟨j, hrel⟩ := hrel
      obtain ⟨rfl, hj, hbr⟩ := hrel.out
      clear hrel
      by_cases hj4 : j ≤ 3
      · have d0 : decide ((j : Int) ≤ 3) = true := decide_eq_true (by omega)
        have hE := HEB.out (j : Int) wr hbr
        have hel := HEL.out (j : Int)
        have hbest := HBst.out (j : Int)
        obtain ⟨x, hx⟩ : ∃ x, encBy (j : Int) l = x := ⟨_, rfl⟩
        rw [hx] at hE hel hbest
        have hp1 := HPe.out
        have hxp : x.length = 0 ∨ (0 < x.length ∧ P.length ≤ x.length + 1) := by
          rcases Nat.eq_zero_or_pos x.length with h | h
          · exact .inl h
          · exact .inr ⟨h, by have := hbest h; omega⟩
        have HE := Lib.hid hE
        clear hE hbest hx hp1
        go_wp2_with fail
        refine HE.out.mono ?_
        rintro e w2 ⟨_, rfl, ho, hb2⟩
        obtain ⟨Ax, cx, rfl, -, -, -⟩ := ho.cells
        have HBr := Lib.hid (below_go hbr hb2)
        clear ho hb2 hbr HE
        rcases hxp with hxp | ⟨hxp, hxq⟩
        · have d1 : decide ((0 : Int) < (x.length : Int)) = false := decide_eq_false (by omega)
          have d1n : ¬ 0 < x.length := by omega
          clear hxp
          go_wp2_with fail
          go_roundw
          case rel => exact ⟨j + 1, Lib.hid ⟨by go_num, by omega, HBr.out⟩⟩
          case measure => simp [intOf]; omega
        · have d1 : decide ((0 : Int) < (x.length : Int)) = true := decide_eq_true (by omega)
          have d2 : decide ((x.length : Int) + 1 < (P.length : Int)) = false := decide_eq_false (by omega)
          have d2n : ¬ x.length + 1 < P.length := by omega
          go_wp2_with fail
          all_goals first | (exfalso; omega) | skip
          go_roundw
          case rel => exact ⟨j + 1, Lib.hid ⟨by go_num, by omega, HBr.out⟩⟩
          case measure => simp [intOf]; omega
      · obtain rfl : j = 4 := by omega
        have hD := impl_DecCol P _ t (l.length : Int) wr (RP.out.below hbr (Nat.le_refl _)) hbr.size (by omega)
        rw [HDec.out] at hD
        have HD := Lib.hid (show Calls Tryz.prog 31 _ wr fun e w' => ∃ r, e = .returned (.tuple #[r, .bool true]) ∧ Own 83 3 w' wr.heap.size w'.heap.size r l.length (l.flatMap V.cells) ∧ Below wr.heap.size wr w' from hD)
        clear hD
        go_wp2_with fail
        refine HD.out.mono ?_
        rintro e w2 ⟨_, rfl, ho, hb2⟩
        have hry := ho.topV
        obtain ⟨Ay, cy, rfl, -, -⟩ := hry.form
        have hb2w := below_go hbr hb2
        have hS := law_sameVals l _ _ w2 hry (Nat.le_refl _) (RL.out.below hb2w (Nat.le_refl _)) hb2w.size
        have HS2 := Lib.hid hS
        have HB2 := Lib.hid (below_go HB.out hb2w)
        clear hS ho hry hb2 hb2w hbr HD
        go_wp2_with fail
        refine HS2.out.mono ?_
        rintro e w3 ⟨rfl, hb3⟩
        have HB3 := Lib.hid (below_go HB2.out hb3)
        clear hb3
        go_wp2_with fail
        go_ret
        exact ⟨rfl, HB3.out⟩
end Go.Proofs.YticimccfeohpcaaGreat
