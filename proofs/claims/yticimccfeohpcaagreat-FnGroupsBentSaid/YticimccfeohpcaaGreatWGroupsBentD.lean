/- The law FnGroupsBent: the walk. Bytes that are read as rows are those rows'. No conditions. -/
import Derived.Test.YticimccfeohpcaaGreatXA
import Derived.Test.YticimccfeohpcaaGreatD36
import Derived.Test.YticimccfeohpcaaGreatCG
import Derived.Test.YticimccfeohpcaaGreatEL
import Derived.Test.YticimccfeohpcaaGreatES
import Derived.Test.YticimccfeohpcaaGreatET
import Derived.Test.YticimccfeohpcaaGreatXL
import Derived.Test.YticimccfeohpcaaGreatS24
namespace Go.Proofs.YticimccfeohpcaaGreat
open Go.Sort Go.ChangeShapes Go.WideShapes Go.ChangeAt Go.RowKit Go.Lb
theorem valOk_small {v : V} (h : valOk v = true) : v.s.size ≤ 6 := by
  have e : v.s.size = v.s.data.toList.length := rfl
  rw [e]
  unfold valOk at h
  split at h
  · simp only [Bool.and_eq_true, List.isEmpty_iff] at h
    rw [h.2]
    simp
  · split at h
    · simp only [Bool.and_eq_true, decide_eq_true_eq] at h
      exact h.2.1
    · cases h
theorem getGroup_small {cols : List Int} {b : List UInt8} {l : List R} (h : getGroup cols b = some l) : RsOk l := by
  intro r hr v hv
  obtain ⟨-, -, h3⟩ := rowsOk_parts (put_getGroup h).1
  obtain ⟨g1, -⟩ := h3 r hr
  simp only [rowOk, Bool.and_eq_true] at g1
  obtain ⟨f1, f2⟩ := fits_parts g1.2
  obtain ⟨k, hk⟩ := List.getElem?_of_mem hv
  have hkl := (List.getElem?_eq_some_iff.1 hk).1
  have hz := f2 k (cols[k]'(by omega)) v (List.getElem?_eq_getElem (by omega)) hk
  simp only [valOkT, Bool.and_eq_true] at hz
  exact Nat.le_trans (valOk_small hz.1) (by decide)
set_option maxRecDepth 20000 in
set_option maxHeartbeats 4000000 in
theorem wGroupsBent (code : List UInt8) (x : Value) (w : World) (hx : RdB w 0 w.heap.size x code) :
    Calls Tryz.prog 10 #[x] w fun e w' => e = .returned (.bool true) ∧ Below w.heap.size w w' := by
  go_enter Tryz.func10, Tryz.ntmps10
  go_wp2_with fail
  refine (law_big code _ w hx).mono ?_
  rintro e w1 ⟨rfl, rfl⟩
  by_cases hbg : 1048576 < (code.length : Int)
  · have hd := decide_eq_true hbg
    go_wp2_with fail
    go_ret
    exact ⟨rfl, Below.refl _ _⟩
  have hd := decide_eq_false hbg
  have hcl : code.length ≤ 1048576 := by omega
  have RC := Lib.hid hx
  have HB := Lib.hid (Below.refl w.heap.size w)
  go_wp2_with fail
  clear hbg hd hx
  have hC := spec_DrawGetGroup code _ w RC.out (Nat.le_refl _) hcl
  have HC := Lib.hid hC
  clear hC
  refine HC.out.mono ?_
  rintro e w1 ⟨_, _, cols, b, rfl, hrc, hrb, hbl, hb⟩
  replace RC := Lib.hid (RC.out.go hb)
  replace HB := Lib.hid (below_go HB.out hb)
  have hr := hrc.top (Nat.le_refl _)
  obtain ⟨A2, c2, rfl, -, -⟩ := hr.form
  have RK := Lib.hid hr
  clear hr
  have hr := hrb.top (Nat.le_refl _)
  obtain ⟨A3, c3, rfl, -, -⟩ := hr.form
  have RB := Lib.hid hr
  clear hr
  clear hrc hrb
  clear hb HC
  obtain ⟨U, hU⟩ : ∃ U, getGroup cols b = U := ⟨_, rfl⟩
  have HU := Lib.hid hU
  obtain ⟨L, hL⟩ : ∃ L, U.getD [] = L := ⟨_, rfl⟩
  have HL := Lib.hid hL
  obtain ⟨ok, hok⟩ : ∃ ok, U.isSome = ok := ⟨_, rfl⟩
  have Hok := Lib.hid hok
  have hbok : (ok != ok) = false := by simp
  clear hU hL hok
  have hC := impl_GetGroup cols _ b _ w1 RK.out (Nat.le_refl _) RB.out (Nat.le_refl _) (by omega)
  rw [HU.out] at hC
  rw [HL.out] at hC
  rw [Hok.out] at hC
  have HC := Lib.hid hC
  clear hC
  go_wp2_with fail
  refine HC.out.mono ?_
  rintro e w2 ⟨_, rfl, ho, hb⟩
  replace RC := Lib.hid (RC.out.go hb)
  replace RK := Lib.hid (RK.out.go hb)
  replace RB := Lib.hid (RB.out.go hb)
  replace HB := Lib.hid (below_go HB.out hb)
  have hr := ho.topR
  obtain ⟨A5, c5, rfl, -, -⟩ := hr.form
  have RX := Lib.hid hr
  clear hr
  clear ho
  clear hb HC
  have hC := spec_GetGroup cols _ b _ w2 RK.out (Nat.le_refl _) RB.out (Nat.le_refl _) (by omega)
  rw [HU.out] at hC
  rw [HL.out] at hC
  rw [Hok.out] at hC
  have HC := Lib.hid hC
  clear hC
  go_wp2_with fail
  refine HC.out.mono ?_
  rintro e w3 ⟨_, rfl, ho, hb⟩
  replace RC := Lib.hid (RC.out.go hb)
  replace RK := Lib.hid (RK.out.go hb)
  replace RB := Lib.hid (RB.out.go hb)
  replace RX := Lib.hid (RX.out.go hb)
  replace HB := Lib.hid (below_go HB.out hb)
  have hr := ho.topR
  obtain ⟨A7, c7, rfl, -, -⟩ := hr.form
  have RY := Lib.hid hr
  clear hr
  clear ho
  clear hb HC
  have hC := law_sameRows L _ _ w3 RX.out (Nat.le_refl _) RY.out (Nat.le_refl _)
  have HC := Lib.hid hC
  clear hC
  go_wp2_with fail
  refine HC.out.mono ?_
  rintro e w4 ⟨rfl, hb⟩
  replace RC := Lib.hid (RC.out.go hb)
  replace RK := Lib.hid (RK.out.go hb)
  replace RB := Lib.hid (RB.out.go hb)
  replace RX := Lib.hid (RX.out.go hb)
  replace RY := Lib.hid (RY.out.go hb)
  replace HB := Lib.hid (below_go HB.out hb)
  clear hb HC
  clear RY
  cases U with
  | none =>
    obtain rfl : ok = false := Hok.out.symm
    go_wp2_with fail
    go_ret
    exact ⟨rfl, HB.out⟩
  | some l =>
    obtain rfl : ok = true := Hok.out.symm
    obtain rfl : l = L := HL.out
    have HRO := Lib.hid (put_getGroup HU.out).1
    have HPO := Lib.hid (put_getGroup HU.out).2
    have HS := Lib.hid (getGroup_small HU.out)
    have hC := impl_RowsOk cols _ l _ w4 RK.out (Nat.le_refl _) RX.out (Nat.le_refl _) HS.out
    rw [HRO.out] at hC
    have HC := Lib.hid hC
    clear hC
    go_wp2_with fail
    refine HC.out.mono ?_
    rintro e w5 ⟨rfl, hb⟩
    replace RC := Lib.hid (RC.out.go hb)
    replace RK := Lib.hid (RK.out.go hb)
    replace RB := Lib.hid (RB.out.go hb)
    replace RX := Lib.hid (RX.out.go hb)
    replace HB := Lib.hid (below_go HB.out hb)
    clear hb HC
    have hC := impl_PutGroup cols _ l _ w5 RK.out (Nat.le_refl _) RX.out (Nat.le_refl _) HS.out
    rw [HPO.out] at hC
    have HC := Lib.hid hC
    clear hC
    go_wp2_with fail
    refine HC.out.mono ?_
    rintro e w6 ⟨_, rfl, ho, hb⟩
    replace RC := Lib.hid (RC.out.go hb)
    replace RK := Lib.hid (RK.out.go hb)
    replace RB := Lib.hid (RB.out.go hb)
    replace RX := Lib.hid (RX.out.go hb)
    replace HB := Lib.hid (below_go HB.out hb)
    have hr := ho.topB
    obtain ⟨A11, c11, rfl, -, -⟩ := hr.form
    have RP := Lib.hid hr
    clear hr ho
    clear hb HC
    have hC := law_same b _ b _ w6 RP.out (Nat.le_refl _) RB.out (Nat.le_refl _)
    rw [eqd_self] at hC
    have HC := Lib.hid hC
    clear hC
    go_wp2_with fail
    refine HC.out.mono ?_
    rintro e w7 ⟨rfl, hb⟩
    replace RC := Lib.hid (RC.out.go hb)
    replace RK := Lib.hid (RK.out.go hb)
    replace RB := Lib.hid (RB.out.go hb)
    replace RX := Lib.hid (RX.out.go hb)
    replace RP := Lib.hid (RP.out.go hb)
    replace HB := Lib.hid (below_go HB.out hb)
    clear hb HC
    go_wp2_with fail
    go_ret
    exact ⟨rfl, HB.out⟩
end Go.Proofs.YticimccfeohpcaaGreat
