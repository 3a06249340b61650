/- The law FnFramesBent: the walk. Frames that are bent. No conditions. -/
import Derived.Test.YticimccfeohpcaaXA
import Derived.Test.YticimccfeohpcaaD24
import Derived.Test.YticimccfeohpcaaD25
import Derived.Test.YticimccfeohpcaaXN
import Derived.Test.YticimccfeohpcaaXF
import Derived.Test.YticimccfeohpcaaXL
namespace Go.Proofs.Yticimccfeohpcaa
open Go.Sort Go.ChangeShapes Go.WideShapes Go.ChangeAt Go.RowKit Go.Lb
theorem typeOf_small {l : List V} (h : typeOf l ≠ 0) : ∀ v ∈ l, v.s.size ≤ maxLen := fun v hv => by
  have h1 := (typeOf_mem rfl h v hv).1
  rcases valOk_ty h1 with ht | ht
  · rw [(valOk_1 h1 ht).2]
    show (ByteArray.mk #[]).size ≤ maxLen
    decide
  · have h2 := (valOk_2 h1 ht).1
    simp only [txtOk, Bool.and_eq_true, decide_eq_true_eq] at h2
    have : v.s.size = v.s.data.toList.length := by rw [Array.length_toList]; rfl
    unfold maxLen
    omega
set_option maxRecDepth 20000 in
set_option maxHeartbeats 4000000 in
theorem wFramesBent (code : List UInt8) (x : Value) (w : World) (hx : RdB w 0 w.heap.size x code) :
    Calls Try.prog 6 #[x] w fun e w' => e = .returned (.bool true) ∧ Below w.heap.size w w' := by
  go_enter Try.func6, Try.ntmps6
  go_wp2_with fail
  refine (law_big code _ w hx).mono ?_
  rintro e w1 ⟨rfl, rfl⟩
  by_cases hbg : 1048576 < (code.length : Int)
  · have hd := decide_eq_true hbg
    go_wp2_with fail
    go_ret
    exact ⟨rfl, Below.refl _ _⟩
  have hd := decide_eq_false hbg
  have hcl : code.length ≤ 1048576 := by omega
  have RC := Lib.hid hx
  have HB := Lib.hid (Below.refl w.heap.size w)
  go_wp2_with fail
  clear hbg hd hx
  have hC := spec_DrawDecFrame code _ w RC.out (Nat.le_refl _) hcl
  have HC := Lib.hid hC
  clear hC
  refine HC.out.mono ?_
  rintro e w1 ⟨_, b, k, rfl, hrd, hbl, hb⟩
  replace RC := Lib.hid (RC.out.go hb)
  replace HB := Lib.hid (below_go HB.out hb)
  have hr := hrd.top (Nat.le_refl _)
  obtain ⟨A2, c2, rfl, -, -⟩ := hr.form
  have RB := Lib.hid hr
  clear hr
  clear hb HC
  obtain ⟨U, hU⟩ : ∃ U, decFrame b k = U := ⟨_, rfl⟩
  have HU := Lib.hid hU
  obtain ⟨L, hL⟩ : ∃ L, U.getD [] = L := ⟨_, rfl⟩
  have HL := Lib.hid hL
  obtain ⟨ok, hok⟩ : ∃ ok, U.isSome = ok := ⟨_, rfl⟩
  have Hok := Lib.hid hok
  have hbok : (ok != ok) = false := by simp
  clear hU hL hok
  have hC := impl_DecFrame b _ k w1 RB.out (Nat.le_refl _) (by omega)
  rw [HU.out] at hC
  rw [HL.out] at hC
  rw [Hok.out] at hC
  have HC := Lib.hid hC
  clear hC
  go_wp2_with fail
  refine HC.out.mono ?_
  rintro e w2 ⟨_, rfl, ho, hb⟩
  replace RC := Lib.hid (RC.out.go hb)
  replace RB := Lib.hid (RB.out.go hb)
  replace HB := Lib.hid (below_go HB.out hb)
  have hr := ho.topV
  obtain ⟨A4, c4, rfl, -, -⟩ := hr.form
  have RL := Lib.hid hr
  clear hr ho
  clear hb HC
  have hC := spec_DecFrame b _ k w2 RB.out (Nat.le_refl _) (by omega)
  rw [HU.out] at hC
  rw [HL.out] at hC
  rw [Hok.out] at hC
  have HC := Lib.hid hC
  clear hC
  go_wp2_with fail
  refine HC.out.mono ?_
  rintro e w3 ⟨_, rfl, ho, hb⟩
  replace RC := Lib.hid (RC.out.go hb)
  replace RB := Lib.hid (RB.out.go hb)
  replace RL := Lib.hid (RL.out.go hb)
  replace HB := Lib.hid (below_go HB.out hb)
  have hr := ho.topV
  obtain ⟨A6, c6, rfl, -, -⟩ := hr.form
  have RM := Lib.hid hr
  clear hr ho
  clear hb HC
  have hC := spec_DrawRaised code _ w3 RC.out (Nat.le_refl _) hcl
  have HC := Lib.hid hC
  clear hC
  go_wp2_with fail
  refine HC.out.mono ?_
  rintro e w4 ⟨_, q, n, rfl, hrd, hql, hb⟩
  replace RC := Lib.hid (RC.out.go hb)
  replace RB := Lib.hid (RB.out.go hb)
  replace RL := Lib.hid (RL.out.go hb)
  replace RM := Lib.hid (RM.out.go hb)
  replace HB := Lib.hid (below_go HB.out hb)
  have hr := hrd.top (Nat.le_refl _)
  obtain ⟨A8, c8, rfl, -, -⟩ := hr.form
  have RQ := Lib.hid hr
  clear hr
  clear hb HC
  obtain ⟨U2, hU⟩ : ∃ U, raisedQ n q = U := ⟨_, rfl⟩
  have HU2 := Lib.hid hU
  obtain ⟨L2, hL⟩ : ∃ L, U2.getD [] = L := ⟨_, rfl⟩
  have HL2 := Lib.hid hL
  obtain ⟨ok2, hok⟩ : ∃ ok, U2.isSome = ok := ⟨_, rfl⟩
  have Hok2 := Lib.hid hok
  have hbok2 : (ok2 != ok2) = false := by simp
  clear hU hL hok
  have hC := impl_Raised n q _ w4 RQ.out (Nat.le_refl _) (by omega)
  rw [HU2.out] at hC
  rw [HL2.out] at hC
  rw [Hok2.out] at hC
  have HC := Lib.hid hC
  clear hC
  go_wp2_with fail
  refine HC.out.mono ?_
  rintro e w5 ⟨_, rfl, ho, hb⟩
  replace RC := Lib.hid (RC.out.go hb)
  replace RB := Lib.hid (RB.out.go hb)
  replace RL := Lib.hid (RL.out.go hb)
  replace RM := Lib.hid (RM.out.go hb)
  replace RQ := Lib.hid (RQ.out.go hb)
  replace HB := Lib.hid (below_go HB.out hb)
  have hr := ho.topV
  obtain ⟨A10, c10, rfl, -, -⟩ := hr.form
  have RX := Lib.hid hr
  clear hr ho
  clear hb HC
  have hC := spec_Raised n q _ w5 RQ.out (Nat.le_refl _) (by omega)
  rw [HU2.out] at hC
  rw [HL2.out] at hC
  rw [Hok2.out] at hC
  have HC := Lib.hid hC
  clear hC
  go_wp2_with fail
  refine HC.out.mono ?_
  rintro e w6 ⟨_, rfl, ho, hb⟩
  replace RC := Lib.hid (RC.out.go hb)
  replace RB := Lib.hid (RB.out.go hb)
  replace RL := Lib.hid (RL.out.go hb)
  replace RM := Lib.hid (RM.out.go hb)
  replace RQ := Lib.hid (RQ.out.go hb)
  replace RX := Lib.hid (RX.out.go hb)
  replace HB := Lib.hid (below_go HB.out hb)
  have hr := ho.topV
  obtain ⟨A12, c12, rfl, -, -⟩ := hr.form
  have RY := Lib.hid hr
  clear hr ho
  clear hb HC
  have hC := law_sameVals L _ _ w6 RL.out (Nat.le_refl _) RM.out (Nat.le_refl _)
  have HC := Lib.hid hC
  clear hC
  go_wp2_with fail
  refine HC.out.mono ?_
  rintro e w7 ⟨rfl, hb⟩
  replace RC := Lib.hid (RC.out.go hb)
  replace RB := Lib.hid (RB.out.go hb)
  replace RL := Lib.hid (RL.out.go hb)
  replace RM := Lib.hid (RM.out.go hb)
  replace RQ := Lib.hid (RQ.out.go hb)
  replace RX := Lib.hid (RX.out.go hb)
  replace RY := Lib.hid (RY.out.go hb)
  replace HB := Lib.hid (below_go HB.out hb)
  clear hb HC
  have hC := law_sameVals L2 _ _ w7 RX.out (Nat.le_refl _) RY.out (Nat.le_refl _)
  have HC := Lib.hid hC
  clear hC
  go_wp2_with fail
  refine HC.out.mono ?_
  rintro e w8 ⟨rfl, hb⟩
  replace RC := Lib.hid (RC.out.go hb)
  replace RB := Lib.hid (RB.out.go hb)
  replace RL := Lib.hid (RL.out.go hb)
  replace RM := Lib.hid (RM.out.go hb)
  replace RQ := Lib.hid (RQ.out.go hb)
  replace RX := Lib.hid (RX.out.go hb)
  replace RY := Lib.hid (RY.out.go hb)
  replace HB := Lib.hid (below_go HB.out hb)
  clear hb HC
  cases U with
  | none =>
    obtain rfl : ok = false := Hok.out.symm
    go_wp2_with fail
    go_ret
    exact ⟨rfl, HB.out⟩
  | some l =>
    obtain rfl : ok = true := Hok.out.symm
    obtain rfl : l = L := HL.out
    obtain ⟨g1, g2, -, g4, g5⟩ := enc_decFrame HU.out
    have G1 := Lib.hid g1
    have hk : ((l.length : Int) == k) = true := by simp [g2]
    have HS := Lib.hid (show ∀ v ∈ l, v.s.size ≤ maxLen from typeOf_small (by omega))
    clear g1 g2 g4 g5
    have hC := impl_EncFrame l _ w8 RL.out (Nat.le_refl _) HS.out
    rw [G1.out] at hC
    have HC := Lib.hid hC
    clear hC
    go_wp2_with fail
    refine HC.out.mono ?_
    rintro e w9 ⟨_, rfl, ho, hb⟩
    replace RC := Lib.hid (RC.out.go hb)
    replace RB := Lib.hid (RB.out.go hb)
    replace RL := Lib.hid (RL.out.go hb)
    replace RM := Lib.hid (RM.out.go hb)
    replace RQ := Lib.hid (RQ.out.go hb)
    replace RX := Lib.hid (RX.out.go hb)
    replace RY := Lib.hid (RY.out.go hb)
    replace HB := Lib.hid (below_go HB.out hb)
    have hr := ho.topB
    obtain ⟨A16, c16, rfl, -, -⟩ := hr.form
    have RP := Lib.hid hr
    clear hr ho
    clear hb HC
    have hC := law_same b _ b _ w9 RP.out (Nat.le_refl _) RB.out (Nat.le_refl _)
    rw [eqd_self] at hC
    have HC := Lib.hid hC
    clear hC
    go_wp2_with fail
    refine HC.out.mono ?_
    rintro e w10 ⟨rfl, hb⟩
    replace RC := Lib.hid (RC.out.go hb)
    replace RB := Lib.hid (RB.out.go hb)
    replace RL := Lib.hid (RL.out.go hb)
    replace RM := Lib.hid (RM.out.go hb)
    replace RQ := Lib.hid (RQ.out.go hb)
    replace RX := Lib.hid (RX.out.go hb)
    replace RY := Lib.hid (RY.out.go hb)
    replace RP := Lib.hid (RP.out.go hb)
    replace HB := Lib.hid (below_go HB.out hb)
    clear hb HC
    go_wp2_with fail
    go_ret
    exact ⟨rfl, HB.out⟩
end Go.Proofs.Yticimccfeohpcaa
