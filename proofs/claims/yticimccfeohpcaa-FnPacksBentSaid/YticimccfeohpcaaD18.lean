/- Draws: numbers for the laws on packed bits. -/
import Derived.Test.YticimccfeohpcaaD16
import Derived.Test.YticimccfeohpcaaXA
namespace Go.Proofs.Yticimccfeohpcaa
open Go.Sort Go.ChangeShapes Go.WideShapes Go.ChangeAt Go.RowKit Go.Lb
set_option maxRecDepth 20000 in
set_option maxHeartbeats 4000000 in
theorem spec_DrawBytesFor (code : List UInt8) (x : Value) (w : World) {lo hi : Nat} (hx : RdB w lo hi x code) (hhi : hi ≤ w.heap.size) (hn : code.length ≤ 1048576) :
    Calls Try.prog 17 #[x] w fun e w' => ∃ (p q : Int), e = .returned (.tuple #[.int .i64 p, .int .i64 q]) ∧ Below w.heap.size w w' := by
  go_enter Try.func17, Try.ntmps17
  go_wp2_with fail
  refine (spec_l1New code x w hx hhi hn).mono ?_
  rintro e w1 ⟨g, rfl, hg, hb1, hd1⟩
  go_wp2_with fail
  refine (spec_l1Below 68 w1 g hd1 (by decide)).mono ?_
  rintro e w2 ⟨_, rfl, ⟨k, rfl, hk1, -⟩, hch2, hd2⟩
  have hk : k < 68 := by have := hk1 (by decide); omega
  have hb2 := chg_below hb1 hch2 hg (Nat.le_refl _)
  clear hk1 hch2 hb1 hd1
  go_wp2_with fail
  refine (spec_l1Below 34 w2 g hd2 (by decide)).mono ?_
  rintro e w3 ⟨_, rfl, ⟨j, rfl, hj1, -⟩, hch3, hd3⟩
  have hj : j < 34 := by have := hj1 (by decide); omega
  have hb3 := chg_below hb2 hch3 hg (Nat.le_refl _)
  clear hj1 hch3 hb2 hd2
  go_wp2_with fail
  refine bodyPost_ret (v := .tuple #[.int .i64 ((k : Int) - 2), .int .i64 ((j : Int) - 1)]) (by simp [results, Try.results17, go_sem]) rfl ⟨_, _, rfl, hb3⟩
set_option maxRecDepth 20000 in
set_option maxHeartbeats 4000000 in
theorem spec_DrawBitAt (code : List UInt8) (x : Value) (w : World) {lo hi : Nat} (hx : RdB w lo hi x code) (hhi : hi ≤ w.heap.size) (hn : code.length ≤ 1048576) :
    Calls Try.prog 18 #[x] w fun e w' => ∃ (bv : Value) (b : List UInt8) (i : Int), e = .returned (.tuple #[bv, .int .i64 i]) ∧ RdB w' w.heap.size w'.heap.size bv b ∧ b.length ≤ 3 ∧ -2 ≤ i ∧ i ≤ 40 ∧ Below w.heap.size w w' := by
  go_enter Try.func18, Try.ntmps18
  go_wp2_with fail
  refine (spec_l1New code x w hx hhi hn).mono ?_
  rintro e w1 ⟨g, rfl, hg, hb1, hd1⟩
  have hs1 := hb1.size
  go_wp2_with fail
  refine (spec_l1Below 4 w1 g hd1 (by decide)).mono ?_
  rintro e w2 ⟨_, rfl, ⟨k, rfl, hk1, -⟩, hch2, hd2⟩
  have hk : k < 4 := by have := hk1 (by decide); omega
  have hb2 := chg_below hb1 hch2 hg (Nat.le_refl _)
  have hs2 := hch2.size
  have hlt1 := hd1.lt
  clear hk1 hch2 hb1 hd1 hx
  go_wp2_with fail
  refine (spec_l1Bytes k w2 g hd2 (by omega)).mono ?_
  rintro e w3 ⟨_, rfl, ⟨b, hgb, hbl⟩, hch3, hd3⟩
  have hown : Own 5 1 w3 w2.heap.size w3.heap.size _ b.length (bc b) := hgb
  obtain ⟨Ab, cb, rfl, -, -, -⟩ := hown.cells
  have hb3 := chg_below hb2 hch3 hg (Nat.le_refl _)
  have hs3 := hch3.size
  have Hbl := Lib.hid hbl
  have Hown := Lib.hid hown
  clear hch3 hb2 hd2 hgb hown hbl
  go_wp2_with fail
  refine (spec_l1Below 34 w3 g hd3 (by decide)).mono ?_
  rintro e w4 ⟨_, rfl, ⟨j, rfl, hj1, -⟩, hch4, hd4⟩
  have hj : j < 34 := by have := hj1 (by decide); omega
  have hb4 := chg_below hb3 hch4 hg (Nat.le_refl _)
  have hs4 := hch4.size
  have hr4 := (Hown.out.same (.of_chg hch4 (.inr (by omega)) (Nat.le_refl _))).rdB.more (show w.heap.size ≤ w2.heap.size by omega) (show w3.heap.size ≤ w4.heap.size from hs4)
  clear hj1 hch4 hb3 hd3
  go_wp2_with fail
  refine bodyPost_ret (v := .tuple #[.slice Ab b.length cb, .int .i64 ((j : Int) - 2)]) (by simp [results, Try.results18, go_sem]) rfl ⟨_, b, _, rfl, hr4, by have := Hbl.out; omega, by omega, by omega, hb4⟩
set_option maxRecDepth 20000 in
set_option maxHeartbeats 4000000 in
theorem spec_DrawWidthOf (code : List UInt8) (x : Value) (w : World) {lo hi : Nat} (hx : RdB w lo hi x code) (hhi : hi ≤ w.heap.size) (hn : code.length ≤ 1048576) :
    Calls Try.prog 16 #[x] w fun e w' => ∃ n : Int, e = .returned (.int .i64 n) ∧ Below w.heap.size w w' := by
  go_enter Try.func16, Try.ntmps16
  go_wp2_with fail
  refine (spec_l1New code x w hx hhi hn).mono ?_
  rintro e w1 ⟨g, rfl, hg, hb1, hd1⟩
  go_wp2_with fail
  refine (spec_l1Below 70000 w1 g hd1 (by decide)).mono ?_
  rintro e w3 ⟨_, rfl, ⟨k, rfl, hk1, -⟩, hch2, hd2⟩
  have hk : k < 70000 := by have := hk1 (by decide); omega
  have hb2 := chg_below hb1 hch2 hg (Nat.le_refl _)
  clear hk1 hch2 hb1 hd1 hx
  have hx3 := rdI_new w3 [0, 1, 2, 3, 4, 255, 256, 2147483647, 2147483648, -1, (k : Int)] 3 (by simp [maxLen])
  have hlt3 := hd2.lt
  have hd4 := dr_new hd2 (([0, 1, 2, 3, 4, 255, 256, 2147483647, 2147483648, -1, (k : Int)] : List Int).map (Value.int .i64)).toArray 3
  have hc4 := chg_new g w3 (([0, 1, 2, 3, 4, 255, 256, 2147483647, 2147483648, -1, (k : Int)] : List Int).map (Value.int .i64)).toArray 3
  go_wp2_with fail
  refine (spec_l1Int [0, 1, 2, 3, 4, 255, 256, 2147483647, 2147483648, -1, (k : Int)] _ _ g hd4 (RdG.imp hx3 hlt3 (Nat.le_refl _) fun _ _ _ _ _ h => h) (by simp) (by simp) (by simp)).mono ?_
  rintro e w5 ⟨_, rfl, ⟨j, hj, rfl⟩, hch5, hd5⟩
  have hb5 := chg_below hb2 (hc4.trans hch5) hg (Nat.le_refl _)
  clear hj hch5 hc4 hd4 hx3
  go_wp2_with fail
  go_ret
  exact ⟨_, rfl, hb5⟩
end Go.Proofs.Yticimccfeohpcaa
