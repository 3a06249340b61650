/- Draws: the cursor, and what is drawn by it. -/
import Derived.Test.YtnldneogjdljkaaApp
import Derived.Test.YtnldneogjdljkaaOpen
import Derived.Test.YtnldneogjdljkaaFrame
import Derived.Laws.BitsLemmas
namespace Go.Proofs.Ytnldneogjdljkaa
open Go.Sort Go.ChangeShapes Go.WideShapes Go.ChangeAt Go.RowKit Go.Lb

/-- The cursor lies in block g: it reads some bytes below g. -/
def Dr (w : World) (g : Nat) : Prop := ∃ (code : List UInt8) (A : Option Addr) (c i : Nat) (h : Int), RdB w 0 g (.slice A code.length c) code ∧ i ≤ code.length ∧ w.heap[g]? = some (.cells #[.slice A code.length c, .int .i64 i, .int .i64 h] 96)
@[reducible] def DrP (w : World) (g : Nat) (Good : Value → World → Prop) : Ending → World → Prop := fun e w' => ∃ v, e = .returned v ∧ Good v w' ∧ Chg g (g + 1) w w' ∧ Dr w' g
theorem Dr.lt {w : World} {g : Nat} (h : Dr w g) : g < w.heap.size := by
  obtain ⟨_, _, _, _, _, _, _, h⟩ := h
  exact (Array.getElem?_eq_some_iff.1 h).1
theorem Dr.below {w w' : World} {g : Nat} (h : Dr w g) (hb : Below w.heap.size w w') : Dr w' g := by
  have hl := h.lt
  obtain ⟨code, A, c, i, h1, hx, hi, hc⟩ := h
  exact ⟨code, A, c, i, h1, hx.below hb (Nat.le_of_lt hl), hi, (hb.block g hl).trans hc⟩
theorem bits_and_le (x m : Int) (h0 : 0 ≤ m) (h1 : m < 9223372036854775808) : 0 ≤ bits .and .i64 x m ∧ bits .and .i64 x m ≤ m := by
  obtain ⟨n, rfl⟩ := Int.eq_ofNat_of_zero_le h0
  have h2 : ((BitVec.ofInt 64 x) &&& (BitVec.ofInt 64 (n : Int))).toNat ≤ n := by
    rw [BitVec.toNat_and]
    refine Nat.le_trans Nat.and_le_right ?_
    rw [BitVec.ofInt_natCast, BitVec.toNat_ofNat]
    exact Nat.mod_le _ _
  have h3 : bits .and .i64 x (n : Int) = IntKind.i64.wrap (((BitVec.ofInt 64 x) &&& (BitVec.ofInt 64 (n : Int))).toNat : Int) := rfl
  rw [h3]
  generalize ((BitVec.ofInt 64 x) &&& (BitVec.ofInt 64 (n : Int))).toNat = k at *
  have h4 : IntKind.i64.wrap (k : Int) = k := by
    simp [IntKind.wrap, IntKind.bits, IntKind.signed]
    omega
  rw [h4]
  omega
set_option maxRecDepth 20000 in
set_option maxHeartbeats 4000000 in
theorem spec_l1Byte (w : World) (g : Nat) (hd : Dr w g) :
    Calls Try.prog 95 #[.pointer (some ⟨g, 0, none⟩)] w (DrP w g fun v _ => ∃ n : Int, v = .int .i64 n ∧ 0 ≤ n ∧ n ≤ 255) := by
  have hl := hd.lt
  obtain ⟨code, A, c, i, h, hx, hi, hc⟩ := hd
  have hx0 := hx
  have d0 := cell_of_row w _ 0 _ _ _ hc
  have d1 := cell_of_row w _ 1 _ _ _ hc
  have d2 := cell_of_row w _ 2 _ _ _ hc
  simp only [List.getElem?_toArray, List.getElem?_cons_zero, List.getElem?_cons_succ] at d0 d1 d2
  have f0 := fun o => frozen_of_row w g o _ _ hc
  have Hc := Lib.hid hc
  clear hc
  go_enter Try.func95, Try.ntmps95
  go_wp2_with fail
  have hs1 := Lib.hid (set1 (o := 2) (a := .int .i64 (RowKit.wrap64 (RowKit.wrap64 (h * 6364136223846793005) + 1442695040888963407))) Hc.out)
  generalize hE : RowKit.wrap64 (RowKit.wrap64 (h * 6364136223846793005) + 1442695040888963407) = E at *
  have hch : Chg g (g + 1) w (w.setCell ⟨g, 2, none⟩ (.int .i64 E)) := ⟨rfl, rfl, rfl, by simp [World.setCell], fun k hk hne => Below.heap_setCell w ⟨g, 2, none⟩ _ k (by show k ≠ g; omega)⟩
  generalize w.setCell ⟨g, 2, none⟩ (.int .i64 E) = w1 at *
  have hc1 := hs1.out
  simp only [List.setIfInBounds_toArray, List.set_cons_succ, List.set_cons_zero] at hc1
  have d0 := cell_of_row w1 _ 0 _ _ _ hc1
  have d1 := cell_of_row w1 _ 1 _ _ _ hc1
  have d2 := cell_of_row w1 _ 2 _ _ _ hc1
  simp only [List.getElem?_toArray, List.getElem?_cons_zero, List.getElem?_cons_succ] at d0 d1 d2
  have f1 := fun o => frozen_of_row w1 g o _ _ hc1
  have Hc1 := Lib.hid hc1
  clear hc1 hE
  have q_0 := cell_regrown (w := w1) d2
  refine wp_region_quiet_below (by kernel_rfl) (by kernel_rfl) ?_
  repeat (go_big_quiet_step (fail))
  refine wpQuiet_nil ?_
  intro wq hw'
  obtain ⟨⟨dq, osq⟩, hw''⟩ := hw'
  have hbq := below_regrown w1 dq osq
  rw [← hw''] at hbq
  clear hw''
  clear q_0
  rename World => w2
  have hch := hch.trans (.of_below hbq)
  have hl1 : g < w1.heap.size := (Array.getElem?_eq_some_iff.1 Hc1.out).1
  have hc2 := (hbq.block g hl1).trans Hc1.out
  have hx := hx.same (.of_chg hch (.inl (Nat.le_refl _)) (Nat.le_of_lt hl))
  clear hbq d0 d1 d2 f0 f1 Hc Hc1 hs1
  have d0 := cell_of_row w2 _ 0 _ _ _ hc2
  have d1 := cell_of_row w2 _ 1 _ _ _ hc2
  simp only [List.getElem?_toArray, List.getElem?_cons_zero, List.getElem?_cons_succ] at d0 d1
  have Hc2 := Lib.hid hc2
  clear hc2
  generalize hX : bits BinOp.and .i64 _ 255 = X
  have hX1 : 0 ≤ X ∧ X ≤ 255 := hX ▸ bits_and_le _ 255 (by decide) (by decide)
  clear hX
  obtain ⟨A', c', hA, hl2, hl3⟩ := hx.form
  injection hA with hA1 hA2 hA3
  subst hA1 hA3
  by_cases hic : i < code.length
  · obtain ⟨b, off, y, rfl, -, hby, hyk, e0⟩ := hx.at hic
    have hy : (y.toNat : Int) ≤ 255 := by have := y.toNat_lt; omega
    have hd : decide ((i : Int) < (code.length : Int)) = true := decide_eq_true (by omega)
    clear hyk
    go_wp2_with fail
    have q_0 := cell_regrown (w := w2) d0
    have q_1 := cell_regrown (w := w2) d1
    refine wp_region_quiet_below (by kernel_rfl) (by kernel_rfl) ?_
    repeat (go_big_quiet_step (fail))
    refine wpQuiet_nil ?_
    intro wq hw'
    obtain ⟨⟨dq, osq⟩, hw''⟩ := hw'
    have hbq := below_regrown w2 dq osq
    rw [← hw''] at hbq
    clear hw''
    clear q_0 q_1
    rename World => w3
    have hch := hch.trans (.of_below hbq)
    have hg2 : g < w2.heap.size := (Array.getElem?_eq_some_iff.1 Hc2.out).1
    have hc3 := (hbq.block g hg2).trans Hc2.out
    have e0' := (hbq.cell (p := ⟨b, off + i, none⟩) (by show b < _; omega)).trans e0
    clear hbq d0 d1 e0 Hc2
    have d0 := cell_of_row w3 _ 0 _ _ _ hc3
    have d1 := cell_of_row w3 _ 1 _ _ _ hc3
    simp only [List.getElem?_toArray, List.getElem?_cons_zero, List.getElem?_cons_succ] at d0 d1
    have Hc3 := Lib.hid hc3
    clear hc3
    go_wp2_with fail
    have q_0 := cell_regrown (w := w3) d0
    have q_1 := cell_regrown (w := w3) d1
    have q_2 := cell_regrown (w := w3) e0'
    refine wp_region_quiet_below (by kernel_rfl) (by kernel_rfl) ?_
    repeat (go_big_quiet_step (fail))
    refine wpQuiet_nil ?_
    intro wq hw'
    obtain ⟨⟨dq, osq⟩, hw''⟩ := hw'
    have hbq := below_regrown w3 dq osq
    rw [← hw''] at hbq
    clear hw''
    clear q_0 q_1 q_2
    rename World => w4
    have hch := hch.trans (.of_below hbq)
    have hg3 : g < w3.heap.size := (Array.getElem?_eq_some_iff.1 Hc3.out).1
    have hc4 := (hbq.block g hg3).trans Hc3.out
    clear hbq d0 d1 e0' Hc3
    have d1 := cell_of_row w4 _ 1 _ _ _ hc4
    simp only [List.getElem?_toArray, List.getElem?_cons_zero, List.getElem?_cons_succ] at d1
    have f1 := fun o => frozen_of_row w4 g o _ _ hc4
    have Hc4 := Lib.hid hc4
    clear hc4
    generalize hY : bits BinOp.and .i64 _ 255 = Y
    have hY1 : 0 ≤ Y ∧ Y ≤ 255 := hY ▸ bits_and_le _ 255 (by decide) (by decide)
    clear hY
    go_wp2_with fail
    have hc5 := set1 (o := 1) (a := .int .i64 ((i + 1 : Nat) : Int)) Hc4.out
    simp only [List.setIfInBounds_toArray, List.set_cons_succ, List.set_cons_zero] at hc5
    have hw5 : Chg g (g + 1) w4 (w4.setCell ⟨g, 1, none⟩ (.int .i64 ((i + 1 : Nat) : Int))) := ⟨rfl, rfl, rfl, by simp [World.setCell], fun k hk hne => Below.heap_setCell w4 ⟨g, 1, none⟩ _ k (by show k ≠ g; omega)⟩
    go_ret
    exact ⟨_, rfl, ⟨Y, rfl, hY1⟩, hch.trans hw5, code, _, c, i + 1, E, hx0.same (.of_chg (hch.trans hw5) (.inl (Nat.le_refl _)) (Nat.le_of_lt hl)), by omega, hc5⟩
  · have hd : decide ((i : Int) < (code.length : Int)) = false := decide_eq_false (by omega)
    go_wp2_with fail
    have q_0 := cell_regrown (w := w2) d0
    have q_1 := cell_regrown (w := w2) d1
    refine wp_region_quiet_below (by kernel_rfl) (by kernel_rfl) ?_
    repeat (go_big_quiet_step (fail))
    refine wpQuiet_nil ?_
    intro wq hw'
    obtain ⟨⟨dq, osq⟩, hw''⟩ := hw'
    have hbq := below_regrown w2 dq osq
    rw [← hw''] at hbq
    clear hw''
    clear q_0 q_1
    rename World => w3
    have hch := hch.trans (.of_below hbq)
    have hg2 : g < w2.heap.size := (Array.getElem?_eq_some_iff.1 Hc2.out).1
    have hc3 := (hbq.block g hg2).trans Hc2.out
    clear hbq d0 d1 Hc2
    go_wp2_with fail
    go_ret
    exact ⟨_, rfl, ⟨X, rfl, hX1⟩, hch, code, _, c, i, E, hx0.same (.of_chg hch (.inl (Nat.le_refl _)) (Nat.le_of_lt hl)), hi, hc3⟩
end Go.Proofs.Ytnldneogjdljkaa
