/- The law FnPacks returns true for every input: the walk. -/
import Derived.Test.YtnldneogjdljkaaD17
import Derived.Test.YtnldneogjdljkaaNH
import Derived.Test.YtnldneogjdljkaaNG
import Derived.Test.YtnldneogjdljkaaS48
import Derived.Test.YtnldneogjdljkaaS40
namespace Go.Lb
open Go.RowKit
theorem packB_len8 (l : List Int) (v : Int) (hl : l.length ≤ 8) : (packB l v).length ≤ 100 := by
  unfold packB
  split
  · rename_i h
    rw [packM_len]
    have hv := packOk_w h
    have := Nat.mul_le_mul hl (show v.toNat ≤ 31 by omega)
    omega
  · simp
theorem packB_outw {l : List Int} {v : Int} (h : v < 0 ∨ 31 < v) : packB l v = [] := packB_no (by rw [packOk, inR_not h]; rfl)
theorem unpack_packB {l : List Int} {v : Nat} (h : packOk l v = true) (hl : l.length ≤ 64) : unpackB (packB l v) v l.length = some l := by
  rw [unpackB_of (unpackOk_pack h hl), Int.toNat_natCast]
  congr 1
  have := numsAt_pack h
  simpa using this
theorem bytes_packB {l : List Int} {v : Nat} (h : packOk l v = true) (hl : l.length ≤ 64) : ((packB l v).length : Int) = bytesFor l.length v := by
  obtain ⟨-, -, h3, -⟩ := unpackOk_pack h hl
  exact h3
theorem bit0_packB {l : List Int} {v i n : Nat} (h : packOk l v = true) (hi : l[i]? = some (n : Int)) (hv : 0 < v) : bitAt (packB l v) ((i : Int) * v) = ((n.testBit 0).toNat : Int) := by
  rw [show (i : Int) * v = ((i * v : Nat) : Int) by simp, bitAt_nat, packB_yes h, packM_bit]
  have hil := (List.getElem?_eq_some_iff.1 hi).1
  have h1 : i * v < l.length * v := Nat.mul_lt_mul_of_pos_right hil hv
  have h2 := bitsOf_at (t := 0) hi hv
  rw [Nat.add_zero] at h2
  rw [h2, decide_eq_true h1, decide_eq_true (show i * v < 8 * ((l.length * v + 7) / 8) by omega)]
  cases n.testBit 0 <;> rfl
end Go.Lb
namespace Go.Proofs.Ytnldneogjdljkaa
open Go.Sort Go.ChangeShapes Go.WideShapes Go.ChangeAt Go.RowKit Go.Lb

set_option maxRecDepth 20000 in
set_option maxHeartbeats 4000000 in
theorem wPacks (code : List UInt8) (x : Value) (w : World) (hx : RdB w 0 w.heap.size x code) :
    Calls Try.prog 3 #[x] w fun e w' => e = .returned (.bool true) ∧ Below w.heap.size w w' := by
  go_enter Try.func3, Try.ntmps3
  go_wp2_with fail
  refine (law_big code _ w hx).mono ?_
  rintro e w1 ⟨rfl, rfl⟩
  by_cases hbg : 1048576 < (code.length : Int)
  · have hd := decide_eq_true hbg
    go_wp2_with fail
    go_ret
    exact ⟨rfl, Below.refl _ _⟩
  have hd := decide_eq_false hbg
  have hcl : code.length ≤ 1048576 := by omega
  go_wp2_with fail
  clear hbg hd
  refine (spec_DrawPackBits code _ w hx (Nat.le_refl _) hcl).mono ?_
  rintro e w1 ⟨_, l, v, rfl, hrd, hl8, hsm, hv0, hv1, hb1⟩
  obtain ⟨A, c, rfl, -, -⟩ := hrd.form
  have Hsm := Lib.hid hsm
  have hs1 := hb1.size
  have hI := impl_PackBits l _ v w1 hrd (Nat.le_refl _) (by omega)
  have hPl := packB_len8 l v hl8
  have hS := fun W (h : Below w1.heap.size w1 W) => spec_PackBits l _ v W (hrd.below h (Nat.le_refl _)) h.size (by omega)
  obtain ⟨P, hP⟩ : ∃ P, packB l v = P := ⟨_, rfl⟩
  rw [hP] at hI hPl
  simp only [hP] at hS
  have HP := Lib.hid hP
  have HI := Lib.hid hI
  have HS := Lib.hid hS
  clear hsm hI hS hP hx
  go_wp2_with fail
  refine HI.out.mono ?_
  rintro e w2 ⟨_, rfl, hob, hb2⟩
  have hrd2 := hrd.below hb2 (Nat.le_refl _)
  have hrb2 := hob.rdBc
  obtain ⟨Ab, cb, rfl, -, -⟩ := hrb2.form
  have hb2w := hb1.trans (hb2.mono hb1.size)
  have hs2 := hb2.size
  have HS2 := Lib.hid (HS.out w2 hb2)
  clear hob hb2 HS HI
  go_wp2_with fail
  refine HS2.out.mono ?_
  rintro e w3 ⟨_, rfl, hos, hb3⟩
  have hrd3 := hrd2.below hb3 (by omega)
  have hrb3 := hrb2.below hb3 (Nat.le_refl _)
  have hrs3 := hos.rdBc
  obtain ⟨As, cs, rfl, -, -⟩ := hrs3.form
  have hb3w := hb2w.trans (hb3.mono hb2w.size)
  have hs3 := hb3.size
  have hE := law_same P _ P _ w3 hrb3 hs3 hrs3 (Nat.le_refl _)
  rw [eqd_self] at hE
  have HE := Lib.hid hE
  clear hos hb3 HS2 hE
  go_wp2_with fail
  refine HE.out.mono ?_
  rintro e w4 ⟨rfl, hb4⟩
  have hrd4 := hrd3.below hb4 (by omega)
  have hrb4 := hrb3.below hb4 (by omega)
  have hb4w := hb3w.trans (hb4.mono hb3w.size)
  have hs4 := hb4.size
  have HW1 := Lib.hid (q_impl_WidthFor l _ w4 hrd4)
  have HW2 := Lib.hid (q_spec_WidthFor l _ w4 hrd4)
  generalize widthFor l = wd at HW1 HW2
  have hnn : ((wd : Int) != (wd : Int)) = false := by simp
  clear hb4 HE hrb2 hrb3 hrd2 hrd3 hrs3 hrd
  go_wp2_with fail
  refine HW1.out.mono ?_
  rintro e w5 ⟨rfl, rfl⟩
  go_wp2_with fail
  refine HW2.out.mono ?_
  rintro e w5 ⟨rfl, rfl⟩
  go_wp2_with fail
  go_loop [6] (fun i => ∃ j : Nat, Hid (i = .int .i64 j ∧ j ≤ l.length ∧ (l.take j).all (fitsW v) = true)) (fun i => l.length - (intOf i).toNat)
  case atStart => exact ⟨0, Lib.hid ⟨rfl, by omega, rfl⟩⟩
  case round =>
    obtain ⟨j, hrel⟩ := hrel
    obtain ⟨rfl, hj, hall⟩ := hrel.out
    have Hall := Lib.hid hall
    clear hrel hall
    by_cases hjl : j < l.length
    · obtain ⟨b, off, n, rfl, -, -, hn, e0⟩ := hrd4.at hjl
      have Hn := Lib.hid hn
      have hn2 := Hsm.out n (mem_of_get hn)
      obtain ⟨hn0, hn1⟩ := hn2
      have HWo := Lib.hid (q_impl_WidthOf n w4)
      have hwl := widthOf_le n
      clear hn
      have empty : (packOk l v = false ∨ v < 0 ∨ 31 < v) → P = [] := fun h => by
        rcases h with h | h | h
        · rw [← HP.out]; exact packB_no h
        · rw [← HP.out]; exact packB_outw (.inl h)
        · rw [← HP.out]; exact packB_outw (.inr h)
      by_cases h1 : n < 0
      · obtain rfl := empty (.inl (packOk_not Hn.out (by rw [fitsW, inR_not (.inl h1)]; rfl)))
        go_wp2_with fail
        go_ret
        exact ⟨rfl, hb4w⟩
      · by_cases h2 : (widthOf n : Int) ≤ v
        · have hd2 : decide (v < (widthOf n : Int)) = false := decide_eq_false (by omega)
          have Hall' := Lib.hid (allf_step Hn.out Hall.out (by rw [fitsW, inR_of (by omega) (by omega), decide_eq_true h2]; rfl))
          generalize widthOf n = d at *
          by_cases h3 : v < 0
          · omega
          · by_cases h4 : 31 < v
            · obtain rfl := empty (.inr (.inr h4))
              go_wp2_with fail
              refine HWo.out.mono ?_
              rintro e w5 ⟨rfl, rfl⟩
              go_wp2_with fail
              go_ret
              exact ⟨rfl, hb4w⟩
            · clear empty
              go_wp2_with fail
              refine HWo.out.mono ?_
              rintro e w5 ⟨rfl, rfl⟩
              go_wp2_with fail
              go_round
              case rel => exact ⟨j + 1, Lib.hid ⟨by go_num, by omega, Hall'.out⟩⟩
              case measure => simp [intOf]; omega
        · have hd2 : decide (v < (widthOf n : Int)) = true := decide_eq_true (by omega)
          obtain rfl := empty (.inl (packOk_not Hn.out (by rw [fitsW, decide_eq_false h2, Bool.and_false])))
          generalize widthOf n = d at *
          go_wp2_with fail
          refine HWo.out.mono ?_
          rintro e w5 ⟨rfl, rfl⟩
          go_wp2_with fail
          go_ret
          exact ⟨rfl, hb4w⟩
    · obtain rfl : j = l.length := by omega
      have empty : (v < 0 ∨ 31 < v) → P = [] := fun h => by rw [← HP.out]; exact packB_outw h
      by_cases h3 : v < 0
      · obtain rfl := empty (.inl h3)
        go_wp2_with fail
        go_ret
        exact ⟨rfl, hb4w⟩
      by_cases h4 : 31 < v
      · obtain rfl := empty (.inr h4)
        go_wp2_with fail
        go_ret
        exact ⟨rfl, hb4w⟩
      clear empty
      obtain ⟨v, rfl⟩ := Int.eq_ofNat_of_zero_le (show 0 ≤ v by omega)
      have hok : packOk l v = true := by
        have h := Hall.out
        rw [List.take_length] at h
        rw [packOk, h, inR_of (by omega) (by omega)]
        rfl
      have hU := impl_UnpackBits P _ (v : Int) (l.length : Int) w4 hrb4 (by omega) (by omega)
      rw [show unpackB P v l.length = some l from HP.out ▸ unpack_packB hok (by omega)] at hU
      simp only [Option.isSome_some, Option.getD_some] at hU
      have HU := Lib.hid hU
      have HB := Lib.hid (show (P.length : Int) = bytesFor l.length v by rw [← HP.out]; exact bytes_packB hok (by omega))
      have HBit := Lib.hid (show ∀ (i n : Nat), l[i]? = some (n : Int) → 0 < v → bitAt P ((i : Int) * v) = ((n.testBit 0).toNat : Int) from fun i n hi hv => by rw [← HP.out]; exact bit0_packB hok hi hv)
      have HNN := Lib.hid (fun n hn => (packOk_mem (n := n) hok hn).1)
      have hv31 : v ≤ 31 := by omega
      clear hok hU Hall h3 h4 HP hv0 hv1
      go_wp2_with fail
      refine HU.out.mono ?_
      rintro e w5 ⟨_, rfl, hou, hb5⟩
      have hrd5 := hrd4.below hb5 (by omega)
      have hrb5 := hrb4.below hb5 (by omega)
      have hri := hou.rdI
      obtain ⟨Ar, cr, rfl, -, -⟩ := hri.form
      have hb5w := hb4w.trans (hb5.mono hb4w.size)
      have hs5 := hb5.size
      clear hb5 hou HU hrd4 hrb4
      go_wp2_with fail
      go_loopw [9] (fun i wr => ∃ j : Nat, Hid (i = .int .i64 j ∧ j ≤ l.length ∧ Below w5.heap.size w5 wr)) (fun i _ => l.length - (intOf i).toNat)
      case atStart => exact ⟨0, Lib.hid ⟨rfl, by omega, Below.refl _ _⟩⟩
      case round =>
        obtain ⟨j, hrel⟩ := hrel
        obtain ⟨rfl, hj, hb⟩ := hrel.out
        clear hrel
        have hsr := hb.size
        have hsi := law_sameInts l _ l _ wr (hri.below hb (by omega)) (by omega) (hrd5.below hb (by omega)) (by omega)
        rw [eqd_self] at hsi
        have HSI := Lib.hid hsi
        have hBF := fun W => q_impl_BytesFor (l.length : Int) (v : Int) W
        simp only [← HB.out] at hBF
        have hpp : ((P.length : Int) == (P.length : Int)) = true := by simp
        clear hsi
        by_cases hjl : j < l.length
        · by_cases hvp : 0 < v
          · obtain ⟨b, off, n, rfl, -, hbl, hn, e0⟩ := (hrd5.below hb (by omega)).at hjl
            have hn0 := HNN.out n (mem_of_get hn)
            obtain ⟨n, rfl⟩ := Int.eq_ofNat_of_zero_le hn0.1
            have hand : bits .and .i64 (n : Int) 1 = ((n.testBit 0).toNat : Int) := by
              have h := bit_of n 0 (by omega)
              simpa using h
            have hjv := mul_le_1984 (show j ≤ 64 by omega) hv31
            obtain ⟨hjv1, hjv0⟩ := hjv
            have hC := fun W (h : Below wr.heap.size wr W) => q_impl_BitAt P _ ((j : Int) * v) W ((hrb5.below hb (by omega)).below h (by omega)) (by omega)
            simp only [HBit.out j n hn hvp] at hC
            generalize (n.testBit 0).toNat = be at hand hC
            have HC := Lib.hid (show ∀ W, Below wr.heap.size wr W → Calls Try.prog 19 _ W fun e w' => e = .returned (.int .i64 (be : Int)) ∧ Below W.heap.size W w' from fun W h => (hC W h).mono fun _ _ ⟨h1, h2⟩ => ⟨h1, h2 ▸ Below.refl _ _⟩)
            have hne : ((be : Int) != (be : Int)) = false := by simp
            clear hn hn0 hC hBF
            go_wp2_with fail
            have q_0 := cell_regrown (w := wr) e0
            refine wp_region_quiet_below (by kernel_rfl) (by kernel_rfl) ?_
            repeat (go_big_quiet_step (first | (go_at_call 19; exact Calls.regrown_of (HC.out _ (below_regrown _ _ _)))))
            refine wpQuiet_nil ?_
            intro wq hw'
            obtain ⟨⟨dq, osq⟩, hw''⟩ := hw'
            have hbq := below_regrown wr dq osq
            rw [← hw''] at hbq
            clear hw''
            clear q_0
            go_wp2_with fail
            go_roundw
            case rel => exact ⟨j + 1, Lib.hid ⟨by go_num, by omega, hb.trans (hbq.mono hb.size)⟩⟩
            case measure => simp [intOf]; omega
          · obtain rfl : v = 0 := by omega
            go_wp2_with fail
            refine HSI.out.mono ?_
            rintro e w6 ⟨rfl, hb6⟩
            have HBF := Lib.hid (hBF w6)
            clear HSI
            go_wp2_with fail
            refine HBF.out.mono ?_
            rintro e w7 ⟨rfl, rfl⟩
            go_wp2_with fail
            go_ret
            exact ⟨rfl, hb5w.trans ((hb.mono hb5w.size).trans (hb6.mono (Nat.le_trans hb5w.size hb.size)))⟩
        · obtain rfl : j = l.length := by omega
          go_wp2_with fail
          refine HSI.out.mono ?_
          rintro e w6 ⟨rfl, hb6⟩
          have HBF := Lib.hid (hBF w6)
          clear HSI
          go_wp2_with fail
          refine HBF.out.mono ?_
          rintro e w7 ⟨rfl, rfl⟩
          go_wp2_with fail
          go_ret
          exact ⟨rfl, hb5w.trans ((hb.mono hb5w.size).trans (hb6.mono (Nat.le_trans hb5w.size hb.size)))⟩
end Go.Proofs.Ytnldneogjdljkaa
