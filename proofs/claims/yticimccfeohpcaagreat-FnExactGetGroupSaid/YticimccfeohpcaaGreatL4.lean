/- The laws' markers: contracts. -/
import Derived.Test.YticimccfeohpcaaGreatXL
namespace Go.Proofs.YticimccfeohpcaaGreat
open Go.ChangeShapes Go.WideShapes Go.ChangeAt Go.RowKit Go.Lb

def dig8 (j : Nat) : UInt8 := UInt8.ofNat (48 + j % 10)
theorem dig8_nat (j : Nat) : (dig8 j).toNat = 48 + j % 10 := by unfold dig8; simp; omega
def mtD (k : Nat) (acc : List UInt8) : List UInt8 :=
  if k = 0 then acc else mtD (k / 10) (dig8 k :: acc)
termination_by k
decreasing_by omega
theorem mtD_zero (acc : List UInt8) : mtD 0 acc = acc := by rw [mtD]; simp
theorem mtD_step {k : Nat} (h : k ≠ 0) (acc : List UInt8) : mtD k acc = mtD (k / 10) (dig8 k :: acc) := by rw [mtD, if_neg h]
def mkText (k : Int) : ByteArray := if k ≤ 0 then ⟨#[109, 48]⟩ else ⟨(109 :: mtD k.toNat []).toArray⟩

set_option maxRecDepth 20000 in
set_option maxHeartbeats 1000000 in
theorem markText_c (k : Int) (w : World) (hk : k ≤ 10000000000000) :
    Calls Tryz.prog 92 #[.int .i64 k] w fun e w' => e = .returned (.string (mkText k)) ∧ Below w.heap.size w w' := by
  by_cases h0 : k ≤ 0
  · have H := Lib.hid (show mkText k = ⟨#[109, 48]⟩ by simp [mkText, h0])
    go_enter Tryz.func92, Tryz.ntmps92
    go_wp2_with fail
    go_ret
    exact ⟨ret_string H.out.symm, Below.refl _ _⟩
  · have H := Lib.hid (show mkText k = ⟨(109 :: mtD k.toNat []).toArray⟩ by simp [mkText, h0])
    go_enter Tryz.func92, Tryz.ntmps92
    go_wp2_with fail
    go_loopw [0, 3] (fun i s wr => ∃ (j : Nat) (acc : List UInt8), i = .int .i64 j ∧ acc.length + j ≤ 10000000000000 ∧ s = .string ⟨acc.toArray⟩ ∧ mtD k.toNat [] = mtD j acc ∧ Below w.heap.size w wr) (fun i _ _ => (intOf i).toNat)
    case atStart => exact ⟨k.toNat, [], by rw [Int.toNat_of_nonneg (by omega)], by simp; omega, rfl, rfl, Below.refl _ _⟩
    case round =>
      obtain ⟨j, acc, rfl, hj, rfl, hmt, hb⟩ := hrel
      have Hm := Lib.hid hmt
      clear hmt
      by_cases hj0 : 0 < j
      · have hcv : (convert 34 9 (.slice (some ⟨wr.heap.size, 0, none⟩) 1 1)).run Tryz.prog (wr.alloc (.cells #[Value.int .u8 (48 + (j : Int) % 10)] 5)) = .ok (.string ⟨#[dig8 j]⟩) (wr.alloc (.cells #[Value.int .u8 (48 + (j : Int) % 10)] 5)) :=
          conv_bytes Tryz.underlying34 Tryz.underlying5 Tryz.underlying9 _ _ 0 1 1 [dig8 j] rfl (fun i x hx => by
            match i, hx with
            | 0, hx =>
              simp at hx
              subst hx
              have e : ((dig8 j).toNat : Int) = 48 + (j : Int) % 10 := by rw [dig8_nat]; omega
              rw [e]
              exact cell_of_row _ _ 0 _ _ _ (heap_alloc_new wr _))
        have Hs := Lib.hid (mtD_step (show j ≠ 0 by omega) acc)
        go_wp2_with fail
        go_roundw
        case rel => exact ⟨j / 10, dig8 j :: acc, by go_num, by simp; omega, congrArg Value.string (ba_append [dig8 j] acc), by rw [Hm.out, Hs.out], hb.alloc hb.size _⟩
        case measure => simp [intOf]; omega
      · go_wp2_with fail
        go_ret
        exact ⟨ret_string (by rw [H.out, Hm.out, show j = 0 by omega, mtD_zero]; exact ba_append [109] acc), hb⟩
def markV (k : Int) (i : Nat) : List Value := [.int .i64 (k + 3 * i), .int .i64 (k + 3 * i + 1), .string (mkText (k + 3 * i + 2))]
def marksV (k : Int) (n : Nat) : List Value := (List.range n).flatMap (markV k)
theorem marksV_succ (k : Int) (n : Nat) : marksV k (n + 1) = marksV k n ++ markV k n := by simp [marksV, List.range_succ]
theorem marksV_len (k : Int) (n : Nat) : (marksV k n).length = n * 3 := by unfold marksV; rw [flat_len _ 3 (fun _ => rfl), List.length_range]
theorem marksV_get (k : Int) (n i j : Nat) (hi : i < n) (hj : j < 3) : (marksV k n)[i * 3 + j]? = (markV k i)[j]? := flat_get _ 3 (fun _ => rfl) _ i j i (by simp [hi]) hj

set_option maxRecDepth 20000 in
set_option maxHeartbeats 1000000 in
theorem markVs_c (x : Value) (n : Nat) (cs : List Value) (k : Int) (w : World) {lo hi : Nat} (hown : Own 83 3 w lo hi x n cs) (hk0 : 1 ≤ k) (hk : k + 3 * n ≤ 10000000000000) :
    Calls Tryz.prog 33 #[x, .int .i64 k] w fun e w' => e = .returned (.int .i64 (k + 3 * n)) ∧ Own 83 3 w' lo hi x n (marksV k n) ∧ Chg lo hi w w' := by
  have hx := hown.1
  have hlt := Lib.hid hown.2
  clear hown
  rcases hx.2 with ⟨rfl, rfl⟩ | ⟨g, cap, cur, rfl, hlo, hcur, hnc, hcm, hsz, -⟩
  · go_enter Tryz.func33, Tryz.ntmps33
    go_wp2_with fail
    go_loop [5, 1] (fun i q => i = .int .i64 0 ∧ q = .int .i64 k) (fun _ _ => 0)
    case atStart => exact ⟨rfl, rfl⟩
    case round =>
      obtain ⟨rfl, rfl⟩ := hrel
      go_wp2_with fail
      go_ret
      exact ⟨by simp, ⟨⟨rfl, .inl ⟨rfl, rfl⟩⟩, hlt.out⟩, Chg.refl _ _ _⟩
  · unfold maxLen at hcm
    have Hcm := Lib.hid (show cap ≤ maxLen by unfold maxLen; omega)
    have Hcur := Lib.hid hcur
    have Hsz := Lib.hid hsz
    clear hcur hsz hx
    go_enter Tryz.func33, Tryz.ntmps33
    go_wp2_with fail
    go_loopw [5, 1] (fun i q wr => ∃ (j : Nat) (cu : Array Value), i = .int .i64 j ∧ j ≤ n ∧ q = .int .i64 (k + 3 * j) ∧ wr.heap[g]? = some (.cells cu 83 (0, 0)) ∧ cu.size = cap * 3 ∧ cu.toList.take (j * 3) = marksV k j ∧ w.grownBy wr (some g)) (fun i _ _ => n - (intOf i).toNat)
    case atStart => exact ⟨0, cur, by simp, by omega, by simp, Hcur.out, Hsz.out, by simp [marksV], World.grownBy.refl w _⟩
    case round =>
      obtain ⟨j, cu, rfl, hj, rfl, hcu, hcs, htk, hg⟩ := hrel
      have Hcu := Lib.hid hcu
      have Hcs := Lib.hid hcs
      have Htk := Lib.hid htk
      clear hcu hcs htk
      by_cases hjn : j < n
      · have k0 := cell_of_row wr g (j * 3) cu _ _ Hcu.out
        have k1 := cell_of_row wr g (j * 3 + 1) cu _ _ Hcu.out
        have f0 := fun o => frozen_of_row wr g o cu _ Hcu.out
        rw [Array.getElem?_eq_getElem (by rw [Hcs.out]; omega)] at k0 k1
        go_wp2_with fail
        refine (markText_c _ _ (by omega)).mono ?_
        rintro e w1 ⟨rfl, hb1⟩
        have hgl : g < wr.heap.size := (Array.getElem?_eq_some_iff.1 Hcu.out).1
        have Hc1 := Lib.hid ((hb1.block g (by simpa [World.setCell] using hgl)).trans (set2 (o := j * 3) (p := j * 3 + 1) (a := .int .i64 (k + 3 * j)) (b := .int .i64 (k + 3 * j + 1)) Hcu.out))
        have hg1 := grown_below (grown_set (grown_set hg (j * 3) (.int .i64 (k + 3 * j))) (j * 3 + 1) (.int .i64 (k + 3 * j + 1))) hb1
        clear k0 k1 f0
        have k2 := cell_of_row w1 g (j * 3 + 2) _ _ _ Hc1.out
        have f2 := frozen_of_row w1 g (j * 3 + 2) _ _ Hc1.out
        rw [Array.getElem?_eq_getElem (by simp only [Array.size_setIfInBounds]; rw [Hcs.out]; omega)] at k2
        go_wp2_with fail
        go_roundw
        case rel =>
          refine ⟨j + 1, _, by go_num, by omega, congrArg (Value.int .i64) (by omega), set1 Hc1.out, by simpa using Hcs.out, ?_, grown_set hg1 _ _⟩
          rw [show k + 3 * (j : Int) + 1 + 1 = k + 3 * j + 2 by omega]
          simp only [Array.toList_setIfInBounds]
          rw [show (j + 1) * 3 = j * 3 + 3 by omega, take_set3 (by rw [Array.length_toList, Hcs.out]; omega), Htk.out, marksV_succ]
          rfl
        case measure => simp [intOf]; omega
      · obtain rfl : j = n := by omega
        go_wp2_with fail
        go_ret
        exact ⟨rfl, ⟨⟨marksV_len _ _, .inr ⟨g, cap, cu, rfl, hlo, Hcu.out, hnc, Hcm.out, Hcs.out, Htk.out⟩⟩, hlt.out⟩, .of_grown hg fun g' e => by injection e with e; subst e; exact ⟨hlo, hlt.out g rfl⟩⟩
theorem markValS_c (x : Value) (l : List V) (k : Int) (w : World) {lo hi : Nat} (hown : Own 83 3 w lo hi x l.length (l.flatMap V.cells)) (hk0 : 1 ≤ k) (hk : k + 3 * (l.length : Nat) ≤ 10000000000000) :
    Calls Tryz.prog 33 #[x, .int .i64 k] w fun e w' => e = .returned (.int .i64 (k + 3 * (l.length : Nat))) ∧ Own 83 3 w' lo hi x l.length (marksV k l.length) ∧ Chg lo hi w w' := markVs_c x l.length _ k w hown hk0 hk

end Go.Proofs.YticimccfeohpcaaGreat
