/- The law FnColsBent: the walk. Columns that are bent. No conditions. -/
import Derived.Test.YticimccfeohpcaaGreatXA
import Derived.Test.YticimccfeohpcaaGreatD10
import Derived.Test.YticimccfeohpcaaGreatD26
import Derived.Test.YticimccfeohpcaaGreatCC
import Derived.Test.YticimccfeohpcaaGreatEJ
import Derived.Test.YticimccfeohpcaaGreatEQ
import Derived.Test.YticimccfeohpcaaGreatS7
import Derived.Test.YticimccfeohpcaaGreatXL
import Derived.Test.YticimccfeohpcaaGreatXV
namespace Go.Proofs.YticimccfeohpcaaGreat
open Go.Sort Go.ChangeShapes Go.WideShapes Go.ChangeAt Go.RowKit Go.Lb
theorem encCol_plain (v : List V) : (encCol v).length ≤ (encPlain v).length + 1 := by
  by_cases h : typeOf v = 0
  · rw [encCol_no h]
    simp
  · rw [encCol_yes h, List.length_cons, bestKind_yes h]
    have h1 := (best1_le v).1
    have h2 := (best2_le v).1
    have h3 := (best3_le v).1
    omega
theorem decCol_small {b : List UInt8} {ty k : Int} {l : List V} (h : decCol b ty k = some l) : ∀ v ∈ l, v.s.size ≤ maxLen := by
  cases b with
  | nil => cases h
  | cons c r =>
    cases h1 : decBy (c.toNat : Int) r ty k with
    | none => rw [decCol_none h1] at h; cases h
    | some l' =>
      rw [decCol_some h1] at h
      split at h
      · injection h with h
        subst h
        exact decBy_small h1
      · cases h
set_option maxRecDepth 20000 in
set_option maxHeartbeats 4000000 in
theorem wColsBent (code : List UInt8) (x : Value) (w : World) (hx : RdB w 0 w.heap.size x code) :
    Calls Tryz.prog 8 #[x] w fun e w' => e = .returned (.bool true) ∧ Below w.heap.size w w' := by
  go_enter Tryz.func8, Tryz.ntmps8
  go_wp2_with fail
  refine (law_big code _ w hx).mono ?_
  rintro e w1 ⟨rfl, rfl⟩
  by_cases hbg : 1048576 < (code.length : Int)
  · have hd := decide_eq_true hbg
    go_wp2_with fail
    go_ret
    exact ⟨rfl, Below.refl _ _⟩
  have hd := decide_eq_false hbg
  have hcl : code.length ≤ 1048576 := by omega
  have RC := Lib.hid hx
  have HB := Lib.hid (Below.refl w.heap.size w)
  go_wp2_with fail
  clear hbg hd hx
  have hC := spec_DrawDecCol code _ w RC.out (Nat.le_refl _) hcl
  have HC := Lib.hid hC
  clear hC
  refine HC.out.mono ?_
  rintro e w1 ⟨_, b, ty, k, rfl, hrd, hbl, hb⟩
  replace RC := Lib.hid (RC.out.go hb)
  replace HB := Lib.hid (below_go HB.out hb)
  have hr := hrd.top (Nat.le_refl _)
  obtain ⟨A2, c2, rfl, -, -⟩ := hr.form
  have RB := Lib.hid hr
  clear hr
  clear hb HC
  obtain ⟨U, hU⟩ : ∃ U, decCol b ty k = U := ⟨_, rfl⟩
  have HU := Lib.hid hU
  obtain ⟨L, hL⟩ : ∃ L, U.getD [] = L := ⟨_, rfl⟩
  have HL := Lib.hid hL
  obtain ⟨ok, hok⟩ : ∃ ok, U.isSome = ok := ⟨_, rfl⟩
  have Hok := Lib.hid hok
  have hbok : (ok != ok) = false := by simp
  clear hU hL hok
  have hC := impl_DecCol b _ ty k w1 RB.out (Nat.le_refl _) (by omega)
  rw [HU.out] at hC
  rw [HL.out] at hC
  rw [Hok.out] at hC
  have HC := Lib.hid hC
  clear hC
  go_wp2_with fail
  refine HC.out.mono ?_
  rintro e w2 ⟨_, rfl, ho, hb⟩
  replace RC := Lib.hid (RC.out.go hb)
  replace RB := Lib.hid (RB.out.go hb)
  replace HB := Lib.hid (below_go HB.out hb)
  have hr := ho.topV
  obtain ⟨A4, c4, rfl, -, -⟩ := hr.form
  have RL := Lib.hid hr
  clear hr ho
  clear hb HC
  have hC := spec_DecCol b _ ty k w2 RB.out (Nat.le_refl _) (by omega)
  rw [HU.out] at hC
  rw [HL.out] at hC
  rw [Hok.out] at hC
  have HC := Lib.hid hC
  clear hC
  go_wp2_with fail
  refine HC.out.mono ?_
  rintro e w3 ⟨_, rfl, ho, hb⟩
  replace RC := Lib.hid (RC.out.go hb)
  replace RB := Lib.hid (RB.out.go hb)
  replace RL := Lib.hid (RL.out.go hb)
  replace HB := Lib.hid (below_go HB.out hb)
  have hr := ho.topV
  obtain ⟨A6, c6, rfl, -, -⟩ := hr.form
  have RM := Lib.hid hr
  clear hr ho
  clear hb HC
  have hC := spec_DrawKindText code _ w3 RC.out (Nat.le_refl _) hcl
  have HC := Lib.hid hC
  clear hC
  go_wp2_with fail
  refine HC.out.mono ?_
  rintro e w4 ⟨n, rfl, hb⟩
  replace RC := Lib.hid (RC.out.go hb)
  replace RB := Lib.hid (RB.out.go hb)
  replace RL := Lib.hid (RL.out.go hb)
  replace RM := Lib.hid (RM.out.go hb)
  replace HB := Lib.hid (below_go HB.out hb)
  clear hb HC
  have hC := spec_DrawVals code _ w4 RC.out (Nat.le_refl _) hcl
  have HC := Lib.hid hC
  clear hC
  go_wp2_with fail
  refine HC.out.mono ?_
  rintro e w5 ⟨_, v, rfl, hrd, hv0, hvl, hsm, hb⟩
  replace RC := Lib.hid (RC.out.go hb)
  replace RB := Lib.hid (RB.out.go hb)
  replace RL := Lib.hid (RL.out.go hb)
  replace RM := Lib.hid (RM.out.go hb)
  replace HB := Lib.hid (below_go HB.out hb)
  have hr := hrd.top (Nat.le_refl _)
  obtain ⟨A9, c9, rfl, -, -⟩ := hr.form
  have RV := Lib.hid hr
  clear hr
  have HSV := Lib.hid (small_max hsm)
  clear hsm hrd
  clear hb HC
  obtain ⟨T, hT⟩ : ∃ T, kindText n = T := ⟨_, rfl⟩
  have HT := Lib.hid hT
  obtain ⟨EC, hEC⟩ : ∃ E, encCol v = E := ⟨_, rfl⟩
  obtain ⟨EP, hEP⟩ : ∃ E, encPlain v = E := ⟨_, rfl⟩
  have hle := encCol_plain v
  have he1 := encCol_len v
  have he2 := encPlain_len v
  rw [hEC] at hle he1
  rw [hEP] at hle he2
  have HEC := Lib.hid hEC
  have HEP := Lib.hid hEP
  have hc1 : decide ((EP.length : Int) + 1 < (EC.length : Int)) = false := decide_eq_false (by omega)
  have hc2 : ¬ EP.length + 1 < EC.length := by omega
  clear hT hEC hEP
  have hC := law_sameVals L _ _ w5 RL.out (Nat.le_refl _) RM.out (Nat.le_refl _)
  have HC := Lib.hid hC
  clear hC
  go_wp2_with fail
  refine HC.out.mono ?_
  rintro e w6 ⟨rfl, hb⟩
  replace RC := Lib.hid (RC.out.go hb)
  replace RB := Lib.hid (RB.out.go hb)
  replace RL := Lib.hid (RL.out.go hb)
  replace RM := Lib.hid (RM.out.go hb)
  replace RV := Lib.hid (RV.out.go hb)
  replace HB := Lib.hid (below_go HB.out hb)
  clear hb HC
  have hC := impl_KindText n w6
  rw [HT.out] at hC
  have HC := Lib.hid hC
  clear hC
  go_wp2_with fail
  refine HC.out.mono ?_
  rintro e w7 ⟨rfl, hb⟩
  replace RC := Lib.hid (RC.out.go hb)
  replace RB := Lib.hid (RB.out.go hb)
  replace RL := Lib.hid (RL.out.go hb)
  replace RM := Lib.hid (RM.out.go hb)
  replace RV := Lib.hid (RV.out.go hb)
  replace HB := Lib.hid (below_go HB.out hb)
  clear hb HC
  have hC := spec_KindText n w7
  rw [HT.out] at hC
  have HC := Lib.hid hC
  clear hC
  go_wp2_with fail
  refine HC.out.mono ?_
  rintro e w8 ⟨rfl, hb⟩
  replace RC := Lib.hid (RC.out.go hb)
  replace RB := Lib.hid (RB.out.go hb)
  replace RL := Lib.hid (RL.out.go hb)
  replace RM := Lib.hid (RM.out.go hb)
  replace RV := Lib.hid (RV.out.go hb)
  replace HB := Lib.hid (below_go HB.out hb)
  clear hb HC
  have hC := impl_EncCol v _ w8 RV.out (Nat.le_refl _) HSV.out
  rw [HEC.out] at hC
  have HC := Lib.hid hC
  clear hC
  go_wp2_with fail
  refine HC.out.mono ?_
  rintro e w9 ⟨_, rfl, ho, hb⟩
  replace RC := Lib.hid (RC.out.go hb)
  replace RB := Lib.hid (RB.out.go hb)
  replace RL := Lib.hid (RL.out.go hb)
  replace RM := Lib.hid (RM.out.go hb)
  replace RV := Lib.hid (RV.out.go hb)
  replace HB := Lib.hid (below_go HB.out hb)
  have hr := ho.topB
  obtain ⟨A14, c14, rfl, -, -⟩ := hr.form
  have RC1 := Lib.hid hr
  clear hr ho
  clear hb HC
  have hC := impl_EncPlain v _ w9 RV.out (Nat.le_refl _) HSV.out
  rw [HEP.out] at hC
  have HC := Lib.hid hC
  clear hC
  go_wp2_with fail
  refine HC.out.mono ?_
  rintro e w10 ⟨_, rfl, ho, hb⟩
  replace RC := Lib.hid (RC.out.go hb)
  replace RB := Lib.hid (RB.out.go hb)
  replace RL := Lib.hid (RL.out.go hb)
  replace RM := Lib.hid (RM.out.go hb)
  replace RV := Lib.hid (RV.out.go hb)
  replace RC1 := Lib.hid (RC1.out.go hb)
  replace HB := Lib.hid (below_go HB.out hb)
  have hr := ho.topB
  obtain ⟨A16, c16, rfl, -, -⟩ := hr.form
  have RC2 := Lib.hid hr
  clear hr ho
  clear hb HC
  clear RC1 RC2
  cases U with
  | none =>
    obtain rfl : ok = false := Hok.out.symm
    go_wp2_with fail
    all_goals first | (exfalso; omega) | skip
    go_ret
    exact ⟨rfl, HB.out⟩
  | some l =>
    obtain rfl : ok = true := Hok.out.symm
    obtain rfl : l = L := HL.out
    obtain ⟨g1, g2, -, g4, g5⟩ := enc_decCol HU.out
    have G1 := Lib.hid g1
    have G5 := Lib.hid g5
    have hk : ((l.length : Int) == k) = true := by simp [g2]
    have HS := Lib.hid (show ∀ v ∈ l, v.s.size ≤ maxLen from decCol_small HU.out)
    clear g1 g2 g4 g5
    go_wp2_with fail
    all_goals first | (exfalso; omega) | skip
    have hC := impl_EncCol l _ w10 RL.out (Nat.le_refl _) HS.out
    rw [G1.out] at hC
    have HC := Lib.hid hC
    clear hC
    refine HC.out.mono ?_
    rintro e w11 ⟨_, rfl, ho, hb⟩
    replace RC := Lib.hid (RC.out.go hb)
    replace RB := Lib.hid (RB.out.go hb)
    replace RL := Lib.hid (RL.out.go hb)
    replace RM := Lib.hid (RM.out.go hb)
    replace RV := Lib.hid (RV.out.go hb)
    replace HB := Lib.hid (below_go HB.out hb)
    have hr := ho.topB
    obtain ⟨A18, c18, rfl, -, -⟩ := hr.form
    have RP := Lib.hid hr
    clear hr ho
    clear hb HC
    have hC := law_same b _ b _ w11 RP.out (Nat.le_refl _) RB.out (Nat.le_refl _)
    rw [eqd_self] at hC
    have HC := Lib.hid hC
    clear hC
    go_wp2_with fail
    refine HC.out.mono ?_
    rintro e w12 ⟨rfl, hb⟩
    replace RC := Lib.hid (RC.out.go hb)
    replace RB := Lib.hid (RB.out.go hb)
    replace RL := Lib.hid (RL.out.go hb)
    replace RM := Lib.hid (RM.out.go hb)
    replace RV := Lib.hid (RV.out.go hb)
    replace RP := Lib.hid (RP.out.go hb)
    replace HB := Lib.hid (below_go HB.out hb)
    clear hb HC
    have hC := impl_TypeOf l _ w12 RL.out (Nat.le_refl _) HS.out
    rw [G5.out] at hC
    have HC := Lib.hid hC
    clear hC
    go_wp2_with fail
    refine HC.out.mono ?_
    rintro e w13 ⟨rfl, hb⟩
    replace RC := Lib.hid (RC.out.go hb)
    replace RB := Lib.hid (RB.out.go hb)
    replace RL := Lib.hid (RL.out.go hb)
    replace RM := Lib.hid (RM.out.go hb)
    replace RV := Lib.hid (RV.out.go hb)
    replace RP := Lib.hid (RP.out.go hb)
    replace HB := Lib.hid (below_go HB.out hb)
    clear hb HC
    go_wp2_with fail
    go_ret
    exact ⟨rfl, HB.out⟩
end Go.Proofs.YticimccfeohpcaaGreat
