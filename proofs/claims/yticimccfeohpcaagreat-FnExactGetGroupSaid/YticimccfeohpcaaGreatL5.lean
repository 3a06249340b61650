/- The laws' helper that looks for the markers: its contract. -/
import Derived.Test.YticimccfeohpcaaGreatL4
namespace Go.Proofs.YticimccfeohpcaaGreat
open Go.ChangeShapes Go.WideShapes Go.ChangeAt Go.RowKit Go.Lb

set_option maxRecDepth 20000 in
set_option maxHeartbeats 1000000 in
theorem heldVs_c (x : Value) (n : Nat) (k : Int) (w : World) {lo hi e : Nat} (hx : Own e 3 w lo hi x n (marksV k n)) (hhi : hi ≤ w.heap.size) (hk0 : 1 ≤ k) (hk : k + 3 * n ≤ 10000000000000) :
    Calls Tryz.prog 34 #[x, .int .i64 k] w fun e w' => e = .returned (.int .i64 (k + 3 * n)) ∧ Below w.heap.size w w' := by
  obtain ⟨A, c, rfl, hnc, hcm, hc⟩ := hx.cells
  unfold maxLen at hcm
  have Hc := Lib.hid hc
  clear hc hx
  go_enter Tryz.func34, Tryz.ntmps34
  go_wp2_with fail
  go_loopw [5, 1] (fun i q wr => ∃ (j : Nat), i = .int .i64 j ∧ j ≤ n ∧ q = .int .i64 (k + 3 * j) ∧ Below w.heap.size w wr) (fun i _ _ => n - (intOf i).toNat)
  case atStart => exact ⟨0, by simp, by omega, by simp, Below.refl _ _⟩
  case round =>
    obtain ⟨j, rfl, hj, rfl, hb⟩ := hrel
    by_cases hjn : j < n
    · obtain ⟨b, off, rfl, -, hbl, he⟩ := Hc.out j hjn
      have e0 : wr.cell? ⟨b, off + j * 3, none⟩ = some (.int .i64 (k + 3 * j)) := (hb.cell (p := ⟨b, _, none⟩) (Nat.lt_of_lt_of_le hbl hhi)).trans ((he 0 (by omega)).trans (marksV_get k n j 0 hjn (by omega)))
      have e1 : wr.cell? ⟨b, off + j * 3 + 1, none⟩ = some (.int .i64 (k + 3 * j + 1)) := (hb.cell (p := ⟨b, _, none⟩) (Nat.lt_of_lt_of_le hbl hhi)).trans ((he 1 (by omega)).trans (marksV_get k n j 1 hjn (by omega)))
      have e2 : wr.cell? ⟨b, off + j * 3 + 2, none⟩ = some (.string (mkText (k + 3 * j + 2))) := (hb.cell (p := ⟨b, _, none⟩) (Nat.lt_of_lt_of_le hbl hhi)).trans ((he 2 (by omega)).trans (marksV_get k n j 2 hjn (by omega)))
      rw [show k + 3 * (j : Int) + 2 = k + 3 * j + 1 + 1 by omega] at e2
      clear he
      go_wp2_with fail
      go_region_held3 (fun w' => w'.cell? ⟨b, off + j * 3 + 2, none⟩ = some (.string (mkText (k + 3 * j + 1 + 1))) ∧ Below w.heap.size w w') (first | exact ⟨e2, hb.drew⟩ | exact ⟨(hb1.cell (p := ⟨b, _, none⟩) (Nat.lt_of_lt_of_le (Nat.lt_of_lt_of_le hbl hhi) hb.size)).trans e2, hb.drew.trans (hb1.mono hb.size)⟩) (first | (go_at_call 92; refine (markText_c _ _ (by omega)).mono ?_; rintro e w1 ⟨rfl, hb1⟩))
      have hb2 : Below w.heap.size w w1 := hb.drew.trans (hb1.mono hb.size)
      clear e0 e1 e2
      go_wp2_with fail
      go_roundw
      case rel => exact ⟨j + 1, by go_num, by omega, congrArg (Value.int .i64) (by omega), hb2⟩
      case measure => simp [intOf]; omega
    · obtain rfl : j = n := by omega
      go_wp2_with fail
      go_ret
      exact ⟨rfl, hb⟩
theorem heldValS_c (x : Value) (l : List V) (k : Int) (w : World) {lo hi e : Nat} (hx : Own e 3 w lo hi x l.length (marksV k l.length)) (hhi : hi ≤ w.heap.size) (hk0 : 1 ≤ k) (hk : k + 3 * (l.length : Nat) ≤ 10000000000000) :
    Calls Tryz.prog 34 #[x, .int .i64 k] w fun e w' => e = .returned (.int .i64 (k + 3 * (l.length : Nat))) ∧ Below w.heap.size w w' := heldVs_c x l.length k w hx hhi hk0 hk

end Go.Proofs.YticimccfeohpcaaGreat
