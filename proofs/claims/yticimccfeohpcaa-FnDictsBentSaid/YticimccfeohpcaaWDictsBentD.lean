/- The law FnDictsBent: the walk. Dictionaries that are bent. No conditions. -/
import Derived.Test.YticimccfeohpcaaXA
import Derived.Test.YticimccfeohpcaaD26
import Derived.Test.YticimccfeohpcaaD27
import Derived.Test.YticimccfeohpcaaEI
import Derived.Test.YticimccfeohpcaaEO
import Derived.Test.YticimccfeohpcaaER
import Derived.Test.YticimccfeohpcaaXL
import Derived.Test.YticimccfeohpcaaXV
namespace Go.Proofs.Yticimccfeohpcaa
open Go.Sort Go.ChangeShapes Go.WideShapes Go.ChangeAt Go.RowKit Go.Lb
structure Bx3 (w : World) (b : Nat) (v : V) : Prop where
  c0 : w.cell? ⟨b, 0, none⟩ = some (.int .i64 v.ty)
  c1 : w.cell? ⟨b, 1, none⟩ = some (.int .i64 v.n)
  c2 : w.cell? ⟨b, 2, none⟩ = some (.string v.s)
theorem Bx3.go {w w' : World} {b : Nat} {v : V} (h : Bx3 w b v) (hb : Below w.heap.size w w') : Bx3 w' b v := ⟨cell_keep h.c0 hb, cell_keep h.c1 hb, cell_keep h.c2 hb⟩
theorem decDict_small2 {b : List UInt8} {ty k : Int} {l : List V} (h : decDict b ty k = some l) : ∀ v ∈ l, v.s.size ≤ maxLen := by
  cases h1 : rdNum b with
  | none => rw [decDict_1 h1] at h; cases h
  | some np =>
    obtain ⟨n, p⟩ := np
    cases h2 : inR n 1 64
    · rw [decDict_2 h1 h2] at h; cases h
    · obtain ⟨n, rfl⟩ := Int.eq_ofNat_of_zero_le (show 0 ≤ n by have := inR_yes h2; omega)
      cases h3 : rdL (rdVal ty) n (b.drop p) with
      | none => rw [decDict_3 h1 h3] at h; cases h
      | some x =>
        obtain ⟨d, m⟩ := x
        cases h4 : unpackB (b.drop (p + m)) (dictW n) k with
        | none => rw [decDict_4 h1 h3 h4] at h; cases h
        | some q =>
          cases h5 : pickedQ d q with
          | none => rw [decDict_5 h1 h3 h4 h5] at h; cases h
          | some L =>
            rw [decDict_6 h1 h2 h3 h4 h5] at h
            split at h
            · injection h with h
              subst h
              have g := gvL_small (ty := ty) (k := n) (s := b.drop p)
              rw [h3] at g
              have g2 := picked_small (q := q) g
              rw [show (pickedQ (gvL (some (d, m))) q) = pickedQ d q from rfl, h5] at g2
              exact g2
            · cases h
set_option maxRecDepth 20000 in
set_option maxHeartbeats 4000000 in
theorem wDictsBent (code : List UInt8) (x : Value) (w : World) (hx : RdB w 0 w.heap.size x code) :
    Calls Try.prog 11 #[x] w fun e w' => e = .returned (.bool true) ∧ Below w.heap.size w w' := by
  go_enter Try.func11, Try.ntmps11
  go_wp2_with fail
  refine (law_big code _ w hx).mono ?_
  rintro e w1 ⟨rfl, rfl⟩
  by_cases hbg : 1048576 < (code.length : Int)
  · have hd := decide_eq_true hbg
    go_wp2_with fail
    go_ret
    exact ⟨rfl, Below.refl _ _⟩
  have hd := decide_eq_false hbg
  have hcl : code.length ≤ 1048576 := by omega
  have RC := Lib.hid hx
  have HB := Lib.hid (Below.refl w.heap.size w)
  go_wp2_with fail
  clear hbg hd hx
  have hC := spec_DrawDecDict code _ w RC.out (Nat.le_refl _) hcl
  have HC := Lib.hid hC
  clear hC
  refine HC.out.mono ?_
  rintro e w1 ⟨_, b, ty, k, rfl, hrd, hbl, hb⟩
  replace RC := Lib.hid (RC.out.go hb)
  replace HB := Lib.hid (below_go HB.out hb)
  have hr := hrd.top (Nat.le_refl _)
  obtain ⟨A2, c2, rfl, -, -⟩ := hr.form
  have RB := Lib.hid hr
  clear hr
  clear hb HC
  obtain ⟨U, hU⟩ : ∃ U, decDict b ty k = U := ⟨_, rfl⟩
  have HU := Lib.hid hU
  obtain ⟨L, hL⟩ : ∃ L, U.getD [] = L := ⟨_, rfl⟩
  have HL := Lib.hid hL
  obtain ⟨ok, hok⟩ : ∃ ok, U.isSome = ok := ⟨_, rfl⟩
  have Hok := Lib.hid hok
  have hbok : (ok != ok) = false := by simp
  clear hU hL hok
  have hC := impl_DecDict b _ ty k w1 RB.out (Nat.le_refl _) (by omega)
  rw [HU.out] at hC
  rw [HL.out] at hC
  rw [Hok.out] at hC
  have HC := Lib.hid hC
  clear hC
  go_wp2_with fail
  refine HC.out.mono ?_
  rintro e w2 ⟨_, rfl, ho, hb⟩
  replace RC := Lib.hid (RC.out.go hb)
  replace RB := Lib.hid (RB.out.go hb)
  replace HB := Lib.hid (below_go HB.out hb)
  have hr := ho.topV
  obtain ⟨A4, c4, rfl, -, -⟩ := hr.form
  have RL := Lib.hid hr
  clear hr ho
  clear hb HC
  have hC := spec_DecDict b _ ty k w2 RB.out (Nat.le_refl _) (by omega)
  rw [HU.out] at hC
  rw [HL.out] at hC
  rw [Hok.out] at hC
  have HC := Lib.hid hC
  clear hC
  go_wp2_with fail
  refine HC.out.mono ?_
  rintro e w3 ⟨_, rfl, ho, hb⟩
  replace RC := Lib.hid (RC.out.go hb)
  replace RB := Lib.hid (RB.out.go hb)
  replace RL := Lib.hid (RL.out.go hb)
  replace HB := Lib.hid (below_go HB.out hb)
  have hr := ho.topV
  obtain ⟨A6, c6, rfl, -, -⟩ := hr.form
  have RM := Lib.hid hr
  clear hr ho
  clear hb HC
  have hC := spec_DrawInDict code _ w3 RC.out (Nat.le_refl _) hcl
  have HC := Lib.hid hC
  clear hC
  go_wp2_with fail
  refine HC.out.mono ?_
  rintro e w4 ⟨_, d, v, rfl, hrd, hdl, hb⟩
  replace RC := Lib.hid (RC.out.go hb)
  replace RB := Lib.hid (RB.out.go hb)
  replace RL := Lib.hid (RL.out.go hb)
  replace RM := Lib.hid (RM.out.go hb)
  replace HB := Lib.hid (below_go HB.out hb)
  have hr := hrd.top (Nat.le_refl _)
  obtain ⟨A8, c8, rfl, -, -⟩ := hr.form
  have RD := Lib.hid hr
  clear hr
  clear hb HC
  have hup := up_a1 w4 (.cells #[.int .i64 v.ty, .int .i64 v.n, .string v.s] 66)
  have hbx : Bx3 (w4.alloc (.cells #[.int .i64 v.ty, .int .i64 v.n, .string v.s] 66)) w4.heap.size v := ⟨box_new _ _ _ 0, box_new _ _ _ 1, box_new _ _ _ 2⟩
  obtain ⟨w5, hwx⟩ : ∃ W, w4.alloc (.cells #[.int .i64 v.ty, .int .i64 v.n, .string v.s] 66) = W := ⟨_, rfl⟩
  rw [hwx] at hup hbx
  have Hwx := Lib.hid hwx
  have BX := Lib.hid hbx
  obtain ⟨bx, hbxe⟩ : ∃ z, w4.heap.size = z := ⟨_, rfl⟩
  rw [hbxe] at BX
  have Hbxe := Lib.hid hbxe
  clear hwx hbx hbxe
  replace RC := Lib.hid (RC.out.go hup)
  replace RB := Lib.hid (RB.out.go hup)
  replace RL := Lib.hid (RL.out.go hup)
  replace RM := Lib.hid (RM.out.go hup)
  replace RD := Lib.hid (RD.out.go hup)
  replace HB := Lib.hid (below_go HB.out hup)
  clear hup
  go_wp2_with fail
  rw [Hwx.out, Hbxe.out]
  have hC := spec_DrawPicked code _ w5 RC.out (Nat.le_refl _) hcl
  have HC := Lib.hid hC
  clear hC
  refine HC.out.mono ?_
  rintro e w6 ⟨_, _, e1, q, rfl, hrd, hrq, hel, hql, hb⟩
  replace RC := Lib.hid (RC.out.go hb)
  replace RB := Lib.hid (RB.out.go hb)
  replace RL := Lib.hid (RL.out.go hb)
  replace RM := Lib.hid (RM.out.go hb)
  replace RD := Lib.hid (RD.out.go hb)
  replace BX := Lib.hid (BX.out.go hb)
  replace HB := Lib.hid (below_go HB.out hb)
  have hr := hrd.top (Nat.le_refl _)
  obtain ⟨A10, c10, rfl, -, -⟩ := hr.form
  have RE := Lib.hid hr
  clear hr
  have hr := hrq.top (Nat.le_refl _)
  obtain ⟨A11, c11, rfl, -, -⟩ := hr.form
  have RQ := Lib.hid hr
  clear hr
  clear hb HC
  obtain ⟨U2, hU⟩ : ∃ U, pickedQ e1 q = U := ⟨_, rfl⟩
  have HU2 := Lib.hid hU
  obtain ⟨L2, hL⟩ : ∃ L, U2.getD [] = L := ⟨_, rfl⟩
  have HL2 := Lib.hid hL
  obtain ⟨ok2, hok⟩ : ∃ ok, U2.isSome = ok := ⟨_, rfl⟩
  have Hok2 := Lib.hid hok
  have hbok2 : (ok2 != ok2) = false := by simp
  clear hU hL hok
  have hC := impl_Picked e1 q _ _ w6 RE.out RQ.out (Nat.le_refl _) (Nat.le_refl _) (by omega)
  rw [HU2.out] at hC
  rw [HL2.out] at hC
  rw [Hok2.out] at hC
  have HC := Lib.hid hC
  clear hC
  go_wp2_with fail
  refine HC.out.mono ?_
  rintro e w7 ⟨_, rfl, ho, hb⟩
  replace RC := Lib.hid (RC.out.go hb)
  replace RB := Lib.hid (RB.out.go hb)
  replace RL := Lib.hid (RL.out.go hb)
  replace RM := Lib.hid (RM.out.go hb)
  replace RD := Lib.hid (RD.out.go hb)
  replace BX := Lib.hid (BX.out.go hb)
  replace RE := Lib.hid (RE.out.go hb)
  replace RQ := Lib.hid (RQ.out.go hb)
  replace HB := Lib.hid (below_go HB.out hb)
  have hr := ho.topV
  obtain ⟨A13, c13, rfl, -, -⟩ := hr.form
  have RX := Lib.hid hr
  clear hr ho
  clear hb HC
  have hC := spec_Picked e1 q _ _ w7 RE.out RQ.out (Nat.le_refl _) (Nat.le_refl _) (by omega)
  rw [HU2.out] at hC
  rw [HL2.out] at hC
  rw [Hok2.out] at hC
  have HC := Lib.hid hC
  clear hC
  go_wp2_with fail
  refine HC.out.mono ?_
  rintro e w8 ⟨_, rfl, ho, hb⟩
  replace RC := Lib.hid (RC.out.go hb)
  replace RB := Lib.hid (RB.out.go hb)
  replace RL := Lib.hid (RL.out.go hb)
  replace RM := Lib.hid (RM.out.go hb)
  replace RD := Lib.hid (RD.out.go hb)
  replace BX := Lib.hid (BX.out.go hb)
  replace RE := Lib.hid (RE.out.go hb)
  replace RQ := Lib.hid (RQ.out.go hb)
  replace RX := Lib.hid (RX.out.go hb)
  replace HB := Lib.hid (below_go HB.out hb)
  have hr := ho.topV
  obtain ⟨A15, c15, rfl, -, -⟩ := hr.form
  have RY := Lib.hid hr
  clear hr ho
  clear hb HC
  have hC := spec_DrawPlaces code _ w8 RC.out (Nat.le_refl _) hcl
  have HC := Lib.hid hC
  clear hC
  go_wp2_with fail
  refine HC.out.mono ?_
  rintro e w9 ⟨_, _, f, u, rfl, hrd, hrl, hfl, hul, hb⟩
  replace RC := Lib.hid (RC.out.go hb)
  replace RB := Lib.hid (RB.out.go hb)
  replace RL := Lib.hid (RL.out.go hb)
  replace RM := Lib.hid (RM.out.go hb)
  replace RD := Lib.hid (RD.out.go hb)
  replace BX := Lib.hid (BX.out.go hb)
  replace RE := Lib.hid (RE.out.go hb)
  replace RQ := Lib.hid (RQ.out.go hb)
  replace RX := Lib.hid (RX.out.go hb)
  replace RY := Lib.hid (RY.out.go hb)
  replace HB := Lib.hid (below_go HB.out hb)
  have hr := hrd.top (Nat.le_refl _)
  obtain ⟨A17, c17, rfl, -, -⟩ := hr.form
  have RF := Lib.hid hr
  clear hr
  have hr := hrl.top (Nat.le_refl _)
  obtain ⟨A18, c18, rfl, -, -⟩ := hr.form
  have RU := Lib.hid hr
  clear hr
  clear hb HC
  obtain ⟨U3, hU⟩ : ∃ U, placesQ f u = U := ⟨_, rfl⟩
  have HU3 := Lib.hid hU
  obtain ⟨L3, hL⟩ : ∃ L, U3.getD [] = L := ⟨_, rfl⟩
  have HL3 := Lib.hid hL
  obtain ⟨ok3, hok⟩ : ∃ ok, U3.isSome = ok := ⟨_, rfl⟩
  have Hok3 := Lib.hid hok
  have hbok3 : (ok3 != ok3) = false := by simp
  clear hU hL hok
  have hC := impl_PlacesQ f u _ _ w9 RF.out RU.out (Nat.le_refl _) (Nat.le_refl _) (by omega)
  rw [HU3.out] at hC
  rw [HL3.out] at hC
  rw [Hok3.out] at hC
  have HC := Lib.hid hC
  clear hC
  go_wp2_with fail
  refine HC.out.mono ?_
  rintro e w10 ⟨_, rfl, ho, hb⟩
  replace RC := Lib.hid (RC.out.go hb)
  replace RB := Lib.hid (RB.out.go hb)
  replace RL := Lib.hid (RL.out.go hb)
  replace RM := Lib.hid (RM.out.go hb)
  replace RD := Lib.hid (RD.out.go hb)
  replace BX := Lib.hid (BX.out.go hb)
  replace RE := Lib.hid (RE.out.go hb)
  replace RQ := Lib.hid (RQ.out.go hb)
  replace RX := Lib.hid (RX.out.go hb)
  replace RY := Lib.hid (RY.out.go hb)
  replace RF := Lib.hid (RF.out.go hb)
  replace RU := Lib.hid (RU.out.go hb)
  replace HB := Lib.hid (below_go HB.out hb)
  have hr := ho.topI
  obtain ⟨A20, c20, rfl, -, -⟩ := hr.form
  have RP := Lib.hid hr
  clear hr ho
  clear hb HC
  have hC := spec_PlacesQ f u _ _ w10 RF.out RU.out (Nat.le_refl _) (Nat.le_refl _) (by omega)
  rw [HU3.out] at hC
  rw [HL3.out] at hC
  rw [Hok3.out] at hC
  have HC := Lib.hid hC
  clear hC
  go_wp2_with fail
  refine HC.out.mono ?_
  rintro e w11 ⟨_, rfl, ho, hb⟩
  replace RC := Lib.hid (RC.out.go hb)
  replace RB := Lib.hid (RB.out.go hb)
  replace RL := Lib.hid (RL.out.go hb)
  replace RM := Lib.hid (RM.out.go hb)
  replace RD := Lib.hid (RD.out.go hb)
  replace BX := Lib.hid (BX.out.go hb)
  replace RE := Lib.hid (RE.out.go hb)
  replace RQ := Lib.hid (RQ.out.go hb)
  replace RX := Lib.hid (RX.out.go hb)
  replace RY := Lib.hid (RY.out.go hb)
  replace RF := Lib.hid (RF.out.go hb)
  replace RU := Lib.hid (RU.out.go hb)
  replace RP := Lib.hid (RP.out.go hb)
  replace HB := Lib.hid (below_go HB.out hb)
  have hr := ho.topI
  obtain ⟨A22, c22, rfl, -, -⟩ := hr.form
  have RS := Lib.hid hr
  clear hr ho
  clear hb HC
  obtain ⟨r, hr⟩ : ∃ r, inDict d v = r := ⟨_, rfl⟩
  have hrr : (r != r) = false := by simp
  have HS1 := Lib.hid (fun W (h : Below w11.heap.size w11 W) => law_sameVals L _ _ W (RL.out.below h (Nat.le_refl _)) h.size (RM.out.below h (Nat.le_refl _)) h.size)
  have HS2 := Lib.hid (fun W (h : Below w11.heap.size w11 W) => law_sameVals L2 _ _ W (RX.out.below h (Nat.le_refl _)) h.size (RY.out.below h (Nat.le_refl _)) h.size)
  have HS3 := Lib.hid (fun W (h : Below w11.heap.size w11 W) => (by have h2 := law_sameInts L3 _ L3 _ W (RP.out.below h (Nat.le_refl _)) h.size (RS.out.below h (Nat.le_refl _)) h.size; rw [eqd_self] at h2; exact h2))
  have HI1 := Lib.hid (fun W (h : Below w11.heap.size w11 W) => (by have h2 := impl_InDict d v _ W (RD.out.below h (Nat.le_refl _)) h.size; rw [hr] at h2; exact h2))
  have HI2 := Lib.hid (fun W (h : Below w11.heap.size w11 W) => (by have h2 := spec_InDict d v _ W (RD.out.below h (Nat.le_refl _)) h.size; rw [hr] at h2; exact h2))
  clear hr
  obtain ⟨c0, c1, c2⟩ := BX.out
  go_wp2_with fail
  go_region_held3 (fun w' => w'.cell? ⟨bx, 0, none⟩ = some (.int .i64 v.ty) ∧ w'.cell? ⟨bx, 1, none⟩ = some (.int .i64 v.n) ∧ w'.cell? ⟨bx, 2, none⟩ = some (.string v.s)) (first | exact ⟨c0, c1, c2⟩ | exact ⟨cell_keep c0 B1, cell_keep c1 B1, cell_keep c2 B1⟩ | exact ⟨cell_keep c0 B2, cell_keep c1 B2, cell_keep c2 B2⟩ | exact ⟨cell_keep c0 B3, cell_keep c1 B3, cell_keep c2 B3⟩ | exact ⟨cell_keep c0 B4, cell_keep c1 B4, cell_keep c2 B4⟩ | exact ⟨cell_keep c0 B5, cell_keep c1 B5, cell_keep c2 B5⟩ | go_keep) (first
    | (go_at_call 46; ((with_reducible refine (HS1.out _ (Below.refl _ _).drew).mono ?_); rintro e wu ⟨rfl, hbu⟩; have B1 : Below w11.heap.size w11 wu := Below.undrew hbu))
    | (go_at_call 77; ((with_reducible refine (HI1.out _ B1).mono ?_); rintro e wv ⟨rfl, hbv⟩; have B2 := below_go B1 hbv))
    | (go_at_call 78; ((with_reducible refine (HI2.out _ B2).mono ?_); rintro e wx ⟨rfl, hbx⟩; have B3 := below_go B2 hbx))
    | (go_at_call 46; ((with_reducible refine (HS2.out _ B3).mono ?_); rintro e wy ⟨rfl, hby⟩; have B4 := below_go B3 hby))
    | (go_at_call 19; ((with_reducible refine (HS3.out _ B4).mono ?_); rintro e wz ⟨rfl, hbz⟩; have B5 := below_go B4 hbz))
    | fail)
  replace RC := Lib.hid (RC.out.go B5)
  replace RB := Lib.hid (RB.out.go B5)
  replace RL := Lib.hid (RL.out.go B5)
  replace HB := Lib.hid (below_go HB.out B5)
  clear HS1 HS2 HS3 HI1 HI2 RM RX RY RP RS RD RE RQ RF RU BX c0 c1 c2
  have HWZ := Lib.hid (rfl : wz = wz)
  obtain ⟨w100, hwz⟩ : ∃ W, W = wz := ⟨_, rfl⟩
  subst hwz
  cases U with
  | none =>
    obtain rfl : ok = false := Hok.out.symm
    go_wp2_with fail
    go_ret
    exact ⟨rfl, HB.out⟩
  | some l =>
    obtain rfl : ok = true := Hok.out.symm
    obtain rfl : l = L := HL.out
    obtain ⟨g1, g2, -, g4, g5⟩ := enc_decDict HU.out
    have G1 := Lib.hid g1
    have G5 := Lib.hid g5
    have hk : ((l.length : Int) == k) = true := by simp [g2]
    have HS := Lib.hid (show ∀ v ∈ l, v.s.size ≤ maxLen from decDict_small2 HU.out)
    clear g1 g2 g4 g5
    have hC := impl_EncDict l _ w100 RL.out (Nat.le_refl _) HS.out
    rw [G1.out] at hC
    have HC := Lib.hid hC
    clear hC
    go_wp2_with fail
    refine HC.out.mono ?_
    rintro e w101 ⟨_, rfl, ho, hb⟩
    replace RC := Lib.hid (RC.out.go hb)
    replace RB := Lib.hid (RB.out.go hb)
    replace RL := Lib.hid (RL.out.go hb)
    replace HB := Lib.hid (below_go HB.out hb)
    have hr := ho.topB
    obtain ⟨A24, c24, rfl, -, -⟩ := hr.form
    have RP := Lib.hid hr
    clear hr ho
    clear hb HC
    have hC := law_same b _ b _ w101 RP.out (Nat.le_refl _) RB.out (Nat.le_refl _)
    rw [eqd_self] at hC
    have HC := Lib.hid hC
    clear hC
    go_wp2_with fail
    refine HC.out.mono ?_
    rintro e w102 ⟨rfl, hb⟩
    replace RC := Lib.hid (RC.out.go hb)
    replace RB := Lib.hid (RB.out.go hb)
    replace RL := Lib.hid (RL.out.go hb)
    replace RP := Lib.hid (RP.out.go hb)
    replace HB := Lib.hid (below_go HB.out hb)
    clear hb HC
    have hC := impl_TypeOf l _ w102 RL.out (Nat.le_refl _) HS.out
    rw [G5.out] at hC
    have HC := Lib.hid hC
    clear hC
    go_wp2_with fail
    refine HC.out.mono ?_
    rintro e w103 ⟨rfl, hb⟩
    replace RC := Lib.hid (RC.out.go hb)
    replace RB := Lib.hid (RB.out.go hb)
    replace RL := Lib.hid (RL.out.go hb)
    replace RP := Lib.hid (RP.out.go hb)
    replace HB := Lib.hid (below_go HB.out hb)
    clear hb HC
    go_wp2_with fail
    go_ret
    exact ⟨rfl, HB.out⟩
end Go.Proofs.Yticimccfeohpcaa
