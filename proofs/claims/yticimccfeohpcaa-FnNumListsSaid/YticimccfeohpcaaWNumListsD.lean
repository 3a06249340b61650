/- The law FnNumLists: the walk. Lists of integers. No conditions. -/
import Derived.Test.YticimccfeohpcaaXA
import Derived.Test.YticimccfeohpcaaD22
import Derived.Test.YticimccfeohpcaaD23
import Derived.Test.YticimccfeohpcaaXN
import Derived.Test.YticimccfeohpcaaXL
namespace Go.Proofs.Yticimccfeohpcaa
open Go.Sort Go.ChangeShapes Go.WideShapes Go.ChangeAt Go.RowKit Go.Lb
theorem getNums_yes {y : List UInt8} {i nx : Int} {q : List Int} (h : getNums y i = (q, nx, true)) : ∃ i' m p : Nat, i = (i' : Int) ∧ nx = (p : Int) ∧ i' + m = p ∧ rdNums (y.drop i') = some (q, m) := by
  by_cases hi : i < 0
  · rw [getNums_neg hi] at h; cases h
  · obtain ⟨i', rfl⟩ := Int.eq_ofNat_of_zero_le (show 0 ≤ i by omega)
    cases hr : rdNums (y.drop i') with
    | none => rw [getNums_none hr] at h; cases h
    | some p =>
      obtain ⟨q', m⟩ := p
      rw [getNums_some hr] at h
      simp only [Prod.mk.injEq] at h
      obtain ⟨rfl, rfl, -⟩ := h
      exact ⟨i', m, i' + m, rfl, rfl, rfl, hr⟩
theorem numsB_pos {q : List Int} (h : q.all Lb.isNum = true) (h2 : q.length ≤ 64) : 1 ≤ (numsB q).length := by
  rw [numsB_yes h (by omega), List.length_append]
  have := numB_pos (n := (q.length : Int)) (isNum_of (by omega))
  omega
theorem rdB_take {w : World} {lo hi n c k : Nat} {A : Option Addr} {l : List UInt8} (h : RdB w lo hi (.slice A n c) l) (hk : k ≤ l.length) : RdB w lo hi (.slice A k c) (l.take k) := by
  obtain ⟨A', c', e, hn, hc, hE⟩ := h
  injection e with e1 e2 e3
  subst e1 e3
  refine ⟨A, c, by rw [List.length_take, Nat.min_eq_left hk], by rw [List.length_take]; omega, hc, fun j hj => ?_⟩
  rw [List.length_take] at hj
  obtain ⟨b, off, h1, h2, h3, x, hx, hv⟩ := hE j (by omega)
  exact ⟨b, off, h1, h2, h3, x, by rw [List.getElem?_take, if_pos (by omega)]; exact hx, hv⟩
set_option maxRecDepth 20000 in
set_option maxHeartbeats 4000000 in
theorem wNumLists (code : List UInt8) (x : Value) (w : World) (hx : RdB w 0 w.heap.size x code) :
    Calls Try.prog 4 #[x] w fun e w' => e = .returned (.bool true) ∧ Below w.heap.size w w' := by
  go_enter Try.func4, Try.ntmps4
  go_wp2_with fail
  refine (law_big code _ w hx).mono ?_
  rintro e w1 ⟨rfl, rfl⟩
  by_cases hbg : 1048576 < (code.length : Int)
  · have hd := decide_eq_true hbg
    go_wp2_with fail
    go_ret
    exact ⟨rfl, Below.refl _ _⟩
  have hd := decide_eq_false hbg
  have hcl : code.length ≤ 1048576 := by omega
  have RC := Lib.hid hx
  have HB := Lib.hid (Below.refl w.heap.size w)
  go_wp2_with fail
  clear hbg hd hx
  have hC := spec_DrawPutNums code _ w RC.out (Nat.le_refl _) hcl
  have HC := Lib.hid hC
  clear hC
  refine HC.out.mono ?_
  rintro e w1 ⟨_, _, b, l, rfl, hrd, hbl, hrl, hll, hb⟩
  replace RC := Lib.hid (RC.out.go hb)
  replace HB := Lib.hid (below_go HB.out hb)
  have hr := hrd.top (Nat.le_refl _)
  obtain ⟨A2, c2, rfl, -, -⟩ := hr.form
  have RB := Lib.hid hr
  clear hr
  have hr := hrl.top (Nat.le_refl _)
  obtain ⟨A3, c3, rfl, -, -⟩ := hr.form
  have RL := Lib.hid hr
  clear hr
  clear hb HC
  obtain ⟨P, hP⟩ : ∃ P, b ++ numsB l = P := ⟨_, rfl⟩
  have HP := Lib.hid hP
  clear hP
  have hC := impl_PutNums b _ l _ w1 RB.out (Nat.le_refl _) RL.out (Nat.le_refl _) (by omega) (by omega)
  rw [HP.out] at hC
  have HC := Lib.hid hC
  clear hC
  go_wp2_with fail
  refine HC.out.mono ?_
  rintro e w2 ⟨_, rfl, ho, hb⟩
  replace RC := Lib.hid (RC.out.go hb)
  replace RB := Lib.hid (RB.out.go hb)
  replace RL := Lib.hid (RL.out.go hb)
  replace HB := Lib.hid (below_go HB.out hb)
  have hr := ho.topB
  obtain ⟨A5, c5, rfl, -, -⟩ := hr.form
  have RP := Lib.hid hr
  clear hr ho
  clear hb HC
  have hC := spec_DrawGetNums code _ w2 RC.out (Nat.le_refl _) hcl
  have HC := Lib.hid hC
  clear hC
  go_wp2_with fail
  refine HC.out.mono ?_
  rintro e w3 ⟨_, y, i, rfl, hrd, hyl, hb⟩
  replace RC := Lib.hid (RC.out.go hb)
  replace RB := Lib.hid (RB.out.go hb)
  replace RL := Lib.hid (RL.out.go hb)
  replace RP := Lib.hid (RP.out.go hb)
  replace HB := Lib.hid (below_go HB.out hb)
  have hr := hrd.top (Nat.le_refl _)
  obtain ⟨A7, c7, rfl, -, -⟩ := hr.form
  have RY := Lib.hid hr
  clear hr
  clear hb HC
  obtain ⟨q, hq⟩ : ∃ q, (getNums y i).1 = q := ⟨_, rfl⟩
  obtain ⟨nx, hnx⟩ : ∃ n, (getNums y i).2.1 = n := ⟨_, rfl⟩
  obtain ⟨ok, hok⟩ : ∃ ok, (getNums y i).2.2 = ok := ⟨_, rfl⟩
  have HG := Lib.hid (show getNums y i = (q, nx, ok) by rw [← hq, ← hnx, ← hok])
  have Hq := Lib.hid hq
  have Hnx := Lib.hid hnx
  have Hok := Lib.hid hok
  have en : (nx != nx) = false := by simp
  have eo : (ok != ok) = false := by simp
  clear hq hnx hok
  have hC := impl_GetNums y _ i w3 RY.out (Nat.le_refl _)
  rw [Hq.out] at hC
  rw [Hnx.out] at hC
  rw [Hok.out] at hC
  have HC := Lib.hid hC
  clear hC
  go_wp2_with fail
  refine HC.out.mono ?_
  rintro e w4 ⟨_, rfl, ho, hb⟩
  replace RC := Lib.hid (RC.out.go hb)
  replace RB := Lib.hid (RB.out.go hb)
  replace RL := Lib.hid (RL.out.go hb)
  replace RP := Lib.hid (RP.out.go hb)
  replace RY := Lib.hid (RY.out.go hb)
  replace HB := Lib.hid (below_go HB.out hb)
  have hr := ho.topI
  obtain ⟨A9, c9, rfl, -, -⟩ := hr.form
  have RQ := Lib.hid hr
  clear hr ho
  clear hb HC
  have hC := spec_GetNums y _ i w4 RY.out (Nat.le_refl _)
  rw [Hq.out] at hC
  rw [Hnx.out] at hC
  rw [Hok.out] at hC
  have HC := Lib.hid hC
  clear hC
  go_wp2_with fail
  refine HC.out.mono ?_
  rintro e w5 ⟨_, rfl, ho, hb⟩
  replace RC := Lib.hid (RC.out.go hb)
  replace RB := Lib.hid (RB.out.go hb)
  replace RL := Lib.hid (RL.out.go hb)
  replace RP := Lib.hid (RP.out.go hb)
  replace RY := Lib.hid (RY.out.go hb)
  replace RQ := Lib.hid (RQ.out.go hb)
  replace HB := Lib.hid (below_go HB.out hb)
  have hr := ho.topI
  obtain ⟨A11, c11, rfl, -, -⟩ := hr.form
  have RQ2 := Lib.hid hr
  clear hr ho
  clear hb HC
  have hC := spec_PutNums b _ l _ w5 RB.out (Nat.le_refl _) RL.out (Nat.le_refl _) (by omega) (by omega)
  rw [HP.out] at hC
  have HC := Lib.hid hC
  clear hC
  go_wp2_with fail
  refine HC.out.mono ?_
  rintro e w6 ⟨_, rfl, ho, hb⟩
  replace RC := Lib.hid (RC.out.go hb)
  replace RB := Lib.hid (RB.out.go hb)
  replace RL := Lib.hid (RL.out.go hb)
  replace RP := Lib.hid (RP.out.go hb)
  replace RY := Lib.hid (RY.out.go hb)
  replace RQ := Lib.hid (RQ.out.go hb)
  replace RQ2 := Lib.hid (RQ2.out.go hb)
  replace HB := Lib.hid (below_go HB.out hb)
  have hr := ho.topB
  obtain ⟨A13, c13, rfl, -, -⟩ := hr.form
  have RP2 := Lib.hid hr
  clear hr ho
  clear hb HC
  have hC := law_same P _ P _ w6 RP.out (Nat.le_refl _) RP2.out (Nat.le_refl _)
  rw [eqd_self] at hC
  have HC := Lib.hid hC
  clear hC
  go_wp2_with fail
  refine HC.out.mono ?_
  rintro e w7 ⟨rfl, hb⟩
  replace RC := Lib.hid (RC.out.go hb)
  replace RB := Lib.hid (RB.out.go hb)
  replace RL := Lib.hid (RL.out.go hb)
  replace RP := Lib.hid (RP.out.go hb)
  replace RY := Lib.hid (RY.out.go hb)
  replace RQ := Lib.hid (RQ.out.go hb)
  replace RQ2 := Lib.hid (RQ2.out.go hb)
  replace RP2 := Lib.hid (RP2.out.go hb)
  replace HB := Lib.hid (below_go HB.out hb)
  clear hb HC
  have hC := law_sameInts q _ q _ w7 RQ.out (Nat.le_refl _) RQ2.out (Nat.le_refl _)
  rw [eqd_self] at hC
  have HC := Lib.hid hC
  clear hC
  go_wp2_with fail
  refine HC.out.mono ?_
  rintro e w8 ⟨rfl, hb⟩
  replace RC := Lib.hid (RC.out.go hb)
  replace RB := Lib.hid (RB.out.go hb)
  replace RL := Lib.hid (RL.out.go hb)
  replace RP := Lib.hid (RP.out.go hb)
  replace RY := Lib.hid (RY.out.go hb)
  replace RQ := Lib.hid (RQ.out.go hb)
  replace RQ2 := Lib.hid (RQ2.out.go hb)
  replace RP2 := Lib.hid (RP2.out.go hb)
  replace HB := Lib.hid (below_go HB.out hb)
  clear hb HC
  clear RP2 RQ2
  go_wp2_with fail
  go_loop [14] (fun i => ∃ j : Nat, Hid (i = .int .i64 j ∧ j ≤ l.length ∧ (l.take j).all Lb.isNum = true)) (fun i => l.length - (intOf i).toNat)
  case atStart => exact ⟨0, Lib.hid ⟨rfl, by omega, rfl⟩⟩
  case round =>
    obtain ⟨j, hrel⟩ := hrel
    obtain ⟨rfl, hj, hall⟩ := hrel.out
    have Hall := Lib.hid hall
    clear hrel hall
    by_cases hjl : j < l.length
    · obtain ⟨b1, off1, n, rfl, -, -, hn, e0⟩ := RL.out.at hjl
      have Hn := Lib.hid hn
      clear hn
      have hbad : isNum n = false → P = b := fun h => by rw [← HP.out, numsB_no (all_not Hn.out h), List.append_nil]
      by_cases h1 : n < -1000000000
      · obtain rfl : P = b := hbad (inR_not (.inl h1))
        clear hbad
        have hC := law_same P _ P _ w8 RP.out (Nat.le_refl _) RB.out (Nat.le_refl _)
        rw [eqd_self] at hC
        have HC := Lib.hid hC
        clear hC
        go_wp2_with fail
        refine HC.out.mono ?_
        rintro e w9 ⟨rfl, hb⟩
        replace RC := Lib.hid (RC.out.go hb)
        replace RB := Lib.hid (RB.out.go hb)
        replace RL := Lib.hid (RL.out.go hb)
        replace RP := Lib.hid (RP.out.go hb)
        replace RY := Lib.hid (RY.out.go hb)
        replace RQ := Lib.hid (RQ.out.go hb)
        replace HB := Lib.hid (below_go HB.out hb)
        clear hb HC
        go_wp2_with fail
        go_ret
        exact ⟨rfl, HB.out⟩
      by_cases h2 : 1000000000 < n
      · obtain rfl : P = b := hbad (inR_not (.inr h2))
        clear hbad
        have hC := law_same P _ P _ w8 RP.out (Nat.le_refl _) RB.out (Nat.le_refl _)
        rw [eqd_self] at hC
        have HC := Lib.hid hC
        clear hC
        go_wp2_with fail
        refine HC.out.mono ?_
        rintro e w9 ⟨rfl, hb⟩
        replace RC := Lib.hid (RC.out.go hb)
        replace RB := Lib.hid (RB.out.go hb)
        replace RL := Lib.hid (RL.out.go hb)
        replace RP := Lib.hid (RP.out.go hb)
        replace RY := Lib.hid (RY.out.go hb)
        replace RQ := Lib.hid (RQ.out.go hb)
        replace HB := Lib.hid (below_go HB.out hb)
        clear hb HC
        go_wp2_with fail
        go_ret
        exact ⟨rfl, HB.out⟩
      have Hall' := Lib.hid (all_step Hn.out Hall.out (isNum_of (by omega)))
      clear hbad
      go_wp2_with fail
      go_round
      case rel => exact ⟨j + 1, Lib.hid ⟨by go_num, by omega, Hall'.out⟩⟩
      case measure => simp [intOf]; omega
    · obtain rfl : j = l.length := by omega
      have Ha := Lib.hid (show l.all Lb.isNum = true by have h := Hall.out; rwa [List.take_length] at h)
      clear Hall
      have hdr : P.drop b.length = numsB l := by rw [← HP.out]; exact List.drop_left
      have hpl : P.length = b.length + (numsB l).length := by rw [← HP.out, List.length_append]
      have hgn : getNums P (b.length : Int) = (l, (P.length : Int), true) := by
        have h := rdNums_nums Ha.out (by omega) []
        rw [List.append_nil] at h
        rw [getNums_some (by rw [hdr]; exact h), hpl]
      have HGN := Lib.hid hgn
      clear hdr hpl hgn
      have hC := impl_GetNums P _ b.length w8 RP.out (Nat.le_refl _)
      rw [HGN.out] at hC
      have HC := Lib.hid hC
      clear hC
      go_wp2_with fail
      refine HC.out.mono ?_
      rintro e w9 ⟨_, rfl, ho, hb⟩
      replace RC := Lib.hid (RC.out.go hb)
      replace RB := Lib.hid (RB.out.go hb)
      replace RL := Lib.hid (RL.out.go hb)
      replace RP := Lib.hid (RP.out.go hb)
      replace RY := Lib.hid (RY.out.go hb)
      replace RQ := Lib.hid (RQ.out.go hb)
      replace HB := Lib.hid (below_go HB.out hb)
      have hr := ho.topI
      obtain ⟨A19, c19, rfl, -, -⟩ := hr.form
      have RM := Lib.hid hr
      clear hr ho
      clear hb HC
      have epp : ((P.length : Int) == (P.length : Int)) = true := by simp
      have HS := Lib.hid (fun (W : World) (h : Below w9.heap.size w9 W) => (by have h2 := law_sameInts l _ l _ W (RM.out.go h) (Nat.le_refl _) (RL.out.go h) (Nat.le_refl _); rw [eqd_self] at h2; exact h2 : Calls Try.prog 19 _ W fun e w' => e = .returned (.bool true) ∧ Below W.heap.size W w'))
      have epp : ((P.length : Int) == (P.length : Int)) = true := by simp
      clear HGN Ha
      cases ok
      · have tok : True := trivial
        go_wp2_with fail
        refine wp_region_quiet_below (by kernel_rfl) (by kernel_rfl) ?_
        repeat (go_big_quiet_step (first | (go_at_call 19; exact Calls.regrown_of (HS.out _ (below_regrown _ _ _)))))
        refine wpQuiet_nil ?_
        intro wq hw'
        obtain ⟨⟨dq, osq⟩, hw''⟩ := hw'
        have hbq := below_regrown w9 dq osq
        rw [← hw''] at hbq
        clear hw''
        go_wp2_with fail
        go_ret
        exact ⟨rfl, below_go HB.out hbq⟩
      · obtain ⟨i, m, p, rfl, rfl, hp, hr⟩ := getNums_yes HG.out
        obtain ⟨r1, r2, r3, r4⟩ := nums_rdNums hr
        have hil : i + m ≤ y.length := by
          have h1 := congrArg List.length r4
          rw [List.length_append, List.length_drop, List.length_drop, ← r3] at h1
          by_cases hm : m = 0
          · rw [r4, r3] at hr
            have h0 := numsB_pos r1 r2
            omega
          · omega
        have e1 : (y.drop i).take m = numsB q := by
          rw [r4, r3]
          exact List.take_left
        have E1 := Lib.hid (show y.take i ++ numsB q = y.take p by rw [← hp, List.take_add, e1])
        rw [hp] at hil
        have hip : i ≤ y.length := by omega
        obtain ⟨Ay, cy, ey, hy1, hy2⟩ := RY.out.form
        injection ey with ey1 ey2 ey3
        rw [← ey3] at hy1 hy2
        clear ey1 ey2 ey3
        have hI := fun W (h : Below w9.heap.size w9 W) => impl_PutNums (y.take i) _ q _ W ((rdB_take RY.out hip).go h) (Nat.le_refl _) (RQ.out.go h) (Nat.le_refl _) (by rw [List.length_take]; omega) (by omega)
        simp only [E1.out] at hI
        have HI := Lib.hid hI
        obtain ⟨T, hT⟩ : ∃ T, y.take p = T := ⟨_, rfl⟩
        have HTk := Lib.hid hT
        simp only [hT] at hI
        clear hT HI
        have HI := Lib.hid hI
        have hE : ∀ (W : World) (v : Value), Below w9.heap.size w9 W → RdB W 0 W.heap.size v T → Calls Try.prog 26 #[v, .slice A7 p c7] W fun e w' => e = .returned (.bool true) ∧ Below W.heap.size W w' := fun W v h hv => by
          have h2 := law_same T v T (.slice A7 p c7) W hv (Nat.le_refl _) (by have h5 := (rdB_take RY.out hil).go h; rw [HTk.out] at h5; exact h5) (Nat.le_refl _)
          rw [eqd_self] at h2
          exact h2
        have HE := Lib.hid hE
        have f0 : (0 : Int) ≤ (i : Int) := by omega
        have f1 : (i : Int) ≤ (c7 : Int) := by omega
        have f2 : (0 : Int) ≤ (p : Int) := by omega
        have f3 : (p : Int) ≤ (c7 : Int) := by omega
        have Hip := Lib.hid hp
        have Hlt := Lib.hid (show (y.take p).length = p by rw [List.length_take]; omega)
        have Hli := Lib.hid (show (y.take i).length = i by rw [List.length_take]; omega)
        clear r1 r2 r3 r4 hr hI hp e1 hE
        go_upto_region 16 with fail
        go_region_held3 (fun w' => Below w9.heap.size w9 w') (first | exact (Below.refl _ _).drew | exact B3 | exact B2 | exact B1 | go_keep) (first | (go_at_call 19; ((with_reducible refine (HS.out _ (Below.refl _ _).drew).mono ?_); rintro e wu ⟨rfl, hbu⟩; have B1 : Below w9.heap.size w9 wu := Below.undrew hbu)) | (go_at_call 29; ((with_reducible refine (HI.out _ B1).mono ?_); rintro e wv ⟨_, rfl, ho, hbv⟩; have B2 := below_go B1 hbv; have hr := ho.topB; obtain ⟨Az, cz, rfl, -, -⟩ := hr.form)) | (go_at_call 26; ((with_reducible refine (HE.out _ _ B2 hr).mono ?_); rintro e wz ⟨rfl, hbz⟩; have B3 := below_go B2 hbz)))
        go_wp2_with fail
        go_ret
        exact ⟨rfl, below_go HB.out B3⟩
end Go.Proofs.Yticimccfeohpcaa
