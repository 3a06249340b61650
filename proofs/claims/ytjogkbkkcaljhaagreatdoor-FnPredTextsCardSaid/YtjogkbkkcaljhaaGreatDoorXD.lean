/- Draws: the cursor, and what is drawn by it. -/
import Derived.Test.YtjogkbkkcaljhaaGreatDoorXA
import Derived.Laws.BitsLemmas
namespace Go.Proofs.YtjogkbkkcaljhaaGreatDoor
open Go.Sort Go.ChangeShapes Go.WideShapes Go.ChangeAt Go.RowKit Go.Lb

/-- The cursor lies in block g: it reads some bytes below g. -/
def Dr (w : World) (g : Nat) : Prop := ∃ (code : List UInt8) (A : Option Addr) (c i : Nat) (h : Int), RdB w 0 g (.slice A code.length c) code ∧ i ≤ code.length ∧ w.heap[g]? = some (.cells #[.slice A code.length c, .int .i64 i, .int .i64 h] 81)
@[reducible] def DrP (w : World) (g : Nat) (Good : Value → World → Prop) : Ending → World → Prop := fun e w' => ∃ v, e = .returned v ∧ Good v w' ∧ Chg g (g + 1) w w' ∧ Dr w' g
theorem Dr.lt {w : World} {g : Nat} (h : Dr w g) : g < w.heap.size := by
  obtain ⟨_, _, _, _, _, _, _, h⟩ := h
  exact (Array.getElem?_eq_some_iff.1 h).1
theorem Dr.below {w w' : World} {g : Nat} (h : Dr w g) (hb : Below w.heap.size w w') : Dr w' g := by
  have hl := h.lt
  obtain ⟨code, A, c, i, h1, hx, hi, hc⟩ := h
  exact ⟨code, A, c, i, h1, hx.below hb (Nat.le_of_lt hl), hi, (hb.block g hl).trans hc⟩
theorem bits_and_le (x m : Int) (h0 : 0 ≤ m) (h1 : m < 9223372036854775808) : 0 ≤ bits .and .i64 x m ∧ bits .and .i64 x m ≤ m := by
  obtain ⟨n, rfl⟩ := Int.eq_ofNat_of_zero_le h0
  have h2 : ((BitVec.ofInt 64 x) &&& (BitVec.ofInt 64 (n : Int))).toNat ≤ n := by
    rw [BitVec.toNat_and]
    refine Nat.le_trans Nat.and_le_right ?_
    rw [BitVec.ofInt_natCast, BitVec.toNat_ofNat]
    exact Nat.mod_le _ _
  have h3 : bits .and .i64 x (n : Int) = IntKind.i64.wrap (((BitVec.ofInt 64 x) &&& (BitVec.ofInt 64 (n : Int))).toNat : Int) := rfl
  rw [h3]
  generalize ((BitVec.ofInt 64 x) &&& (BitVec.ofInt 64 (n : Int))).toNat = k at *
  have h4 : IntKind.i64.wrap (k : Int) = k := by
    simp [IntKind.wrap, IntKind.bits, IntKind.signed]
    omega
  rw [h4]
  omega
set_option maxRecDepth 20000 in
set_option maxHeartbeats 4000000 in
theorem spec_l1Byte (w : World) (g : Nat) (hd : Dr w g) :
    Calls Tryz.prog 81 #[.pointer (some ⟨g, 0, none⟩)] w (DrP w g fun v _ => ∃ n : Int, v = .int .i64 n ∧ 0 ≤ n ∧ n ≤ 255) := by
  have hl := hd.lt
  obtain ⟨code, A, c, i, h, hx, hi, hc⟩ := hd
  have hx0 := hx
  have d0 := cell_of_row w _ 0 _ _ _ hc
  have d1 := cell_of_row w _ 1 _ _ _ hc
  have d2 := cell_of_row w _ 2 _ _ _ hc
  simp only [List.getElem?_toArray, List.getElem?_cons_zero, List.getElem?_cons_succ] at d0 d1 d2
  have f0 := fun o => frozen_of_row w g o _ _ hc
  have Hc := Lib.hid hc
  clear hc
  go_enter Tryz.func81, Tryz.ntmps81
  go_wp2_with fail
  have hs1 := Lib.hid (set1 (o := 2) (a := .int .i64 (RowKit.wrap64 (RowKit.wrap64 (h * 6364136223846793005) + 1442695040888963407))) Hc.out)
  generalize hE : RowKit.wrap64 (RowKit.wrap64 (h * 6364136223846793005) + 1442695040888963407) = E at *
  have hch : Chg g (g + 1) w (w.setCell ⟨g, 2, none⟩ (.int .i64 E)) := ⟨rfl, rfl, rfl, by simp [World.setCell], fun k hk hne => Below.heap_setCell w ⟨g, 2, none⟩ _ k (by show k ≠ g; omega)⟩
  generalize w.setCell ⟨g, 2, none⟩ (.int .i64 E) = w1 at *
  have hc1 := hs1.out
  simp only [List.setIfInBounds_toArray, List.set_cons_succ, List.set_cons_zero] at hc1
  have d0 := cell_of_row w1 _ 0 _ _ _ hc1
  have d1 := cell_of_row w1 _ 1 _ _ _ hc1
  have d2 := cell_of_row w1 _ 2 _ _ _ hc1
  simp only [List.getElem?_toArray, List.getElem?_cons_zero, List.getElem?_cons_succ] at d0 d1 d2
  have f1 := fun o => frozen_of_row w1 g o _ _ hc1
  have Hc1 := Lib.hid hc1
  clear hc1 hE
  have q_0 := cell_regrown (w := w1) d2
  refine wp_region_quiet_below (by kernel_rfl) (by kernel_rfl) ?_
  repeat (go_big_quiet_step (fail))
  refine wpQuiet_nil ?_
  intro wq hw'
  obtain ⟨⟨dq, osq⟩, hw''⟩ := hw'
  have hbq := below_regrown w1 dq osq
  rw [← hw''] at hbq
  clear hw''
  clear q_0
  rename World => w2
  have hch := hch.trans (.of_below hbq)
  have hl1 : g < w1.heap.size := (Array.getElem?_eq_some_iff.1 Hc1.out).1
  have hc2 := (hbq.block g hl1).trans Hc1.out
  have hx := hx.same (.of_chg hch (.inl (Nat.le_refl _)) (Nat.le_of_lt hl))
  clear hbq d0 d1 d2 f0 f1 Hc Hc1 hs1
  have d0 := cell_of_row w2 _ 0 _ _ _ hc2
  have d1 := cell_of_row w2 _ 1 _ _ _ hc2
  simp only [List.getElem?_toArray, List.getElem?_cons_zero, List.getElem?_cons_succ] at d0 d1
  have Hc2 := Lib.hid hc2
  clear hc2
  generalize hX : bits BinOp.and .i64 _ 255 = X
  have hX1 : 0 ≤ X ∧ X ≤ 255 := hX ▸ bits_and_le _ 255 (by decide) (by decide)
  clear hX
  obtain ⟨A', c', hA, hl2, hl3⟩ := hx.form
  injection hA with hA1 hA2 hA3
  subst hA1 hA3
  by_cases hic : i < code.length
  · obtain ⟨b, off, y, rfl, -, hby, hyk, e0⟩ := hx.at hic
    have hy : (y.toNat : Int) ≤ 255 := by have := y.toNat_lt; omega
    have hd : decide ((i : Int) < (code.length : Int)) = true := decide_eq_true (by omega)
    clear hyk
    go_wp2_with fail
    have q_0 := cell_regrown (w := w2) d0
    have q_1 := cell_regrown (w := w2) d1
    refine wp_region_quiet_below (by kernel_rfl) (by kernel_rfl) ?_
    repeat (go_big_quiet_step (fail))
    refine wpQuiet_nil ?_
    intro wq hw'
    obtain ⟨⟨dq, osq⟩, hw''⟩ := hw'
    have hbq := below_regrown w2 dq osq
    rw [← hw''] at hbq
    clear hw''
    clear q_0 q_1
    rename World => w3
    have hch := hch.trans (.of_below hbq)
    have hg2 : g < w2.heap.size := (Array.getElem?_eq_some_iff.1 Hc2.out).1
    have hc3 := (hbq.block g hg2).trans Hc2.out
    have e0' := (hbq.cell (p := ⟨b, off + i, none⟩) (by show b < _; omega)).trans e0
    clear hbq d0 d1 e0 Hc2
    have d0 := cell_of_row w3 _ 0 _ _ _ hc3
    have d1 := cell_of_row w3 _ 1 _ _ _ hc3
    simp only [List.getElem?_toArray, List.getElem?_cons_zero, List.getElem?_cons_succ] at d0 d1
    have Hc3 := Lib.hid hc3
    clear hc3
    go_wp2_with fail
    have q_0 := cell_regrown (w := w3) d0
    have q_1 := cell_regrown (w := w3) d1
    have q_2 := cell_regrown (w := w3) e0'
    refine wp_region_quiet_below (by kernel_rfl) (by kernel_rfl) ?_
    repeat (go_big_quiet_step (fail))
    refine wpQuiet_nil ?_
    intro wq hw'
    obtain ⟨⟨dq, osq⟩, hw''⟩ := hw'
    have hbq := below_regrown w3 dq osq
    rw [← hw''] at hbq
    clear hw''
    clear q_0 q_1 q_2
    rename World => w4
    have hch := hch.trans (.of_below hbq)
    have hg3 : g < w3.heap.size := (Array.getElem?_eq_some_iff.1 Hc3.out).1
    have hc4 := (hbq.block g hg3).trans Hc3.out
    clear hbq d0 d1 e0' Hc3
    have d1 := cell_of_row w4 _ 1 _ _ _ hc4
    simp only [List.getElem?_toArray, List.getElem?_cons_zero, List.getElem?_cons_succ] at d1
    have f1 := fun o => frozen_of_row w4 g o _ _ hc4
    have Hc4 := Lib.hid hc4
    clear hc4
    generalize hY : bits BinOp.and .i64 _ 255 = Y
    have hY1 : 0 ≤ Y ∧ Y ≤ 255 := hY ▸ bits_and_le _ 255 (by decide) (by decide)
    clear hY
    go_wp2_with fail
    have hc5 := set1 (o := 1) (a := .int .i64 ((i + 1 : Nat) : Int)) Hc4.out
    simp only [List.setIfInBounds_toArray, List.set_cons_succ, List.set_cons_zero] at hc5
    have hw5 : Chg g (g + 1) w4 (w4.setCell ⟨g, 1, none⟩ (.int .i64 ((i + 1 : Nat) : Int))) := ⟨rfl, rfl, rfl, by simp [World.setCell], fun k hk hne => Below.heap_setCell w4 ⟨g, 1, none⟩ _ k (by show k ≠ g; omega)⟩
    go_ret
    exact ⟨_, rfl, ⟨Y, rfl, hY1⟩, hch.trans hw5, code, _, c, i + 1, E, hx0.same (.of_chg (hch.trans hw5) (.inl (Nat.le_refl _)) (Nat.le_of_lt hl)), by omega, hc5⟩
  · have hd : decide ((i : Int) < (code.length : Int)) = false := decide_eq_false (by omega)
    go_wp2_with fail
    have q_0 := cell_regrown (w := w2) d0
    have q_1 := cell_regrown (w := w2) d1
    refine wp_region_quiet_below (by kernel_rfl) (by kernel_rfl) ?_
    repeat (go_big_quiet_step (fail))
    refine wpQuiet_nil ?_
    intro wq hw'
    obtain ⟨⟨dq, osq⟩, hw''⟩ := hw'
    have hbq := below_regrown w2 dq osq
    rw [← hw''] at hbq
    clear hw''
    clear q_0 q_1
    rename World => w3
    have hch := hch.trans (.of_below hbq)
    have hg2 : g < w2.heap.size := (Array.getElem?_eq_some_iff.1 Hc2.out).1
    have hc3 := (hbq.block g hg2).trans Hc2.out
    clear hbq d0 d1 Hc2
    go_wp2_with fail
    go_ret
    exact ⟨_, rfl, ⟨X, rfl, hX1⟩, hch, code, _, c, i, E, hx0.same (.of_chg hch (.inl (Nat.le_refl _)) (Nat.le_of_lt hl)), hi, hc3⟩
end Go.Proofs.YtjogkbkkcaljhaaGreatDoor
namespace Go.Proofs.YtjogkbkkcaljhaaGreatDoor
open Go.Sort Go.ChangeShapes Go.WideShapes Go.ChangeAt Go.RowKit Go.Lb

set_option maxRecDepth 20000 in
set_option maxHeartbeats 4000000 in
theorem spec_l1Below (n : Int) (w : World) (g : Nat) (hd : Dr w g) (hn : n ≤ 1000000000) :
    Calls Tryz.prog 58 #[.pointer (some ⟨g, 0, none⟩), .int .i64 n] w (DrP w g fun v _ => ∃ k : Nat, v = .int .i64 k ∧ (0 < n → (k : Int) < n) ∧ (n ≤ 0 → k = 0)) := by
  go_enter Tryz.func58, Tryz.ntmps58
  by_cases h0 : n ≤ 0
  · go_wp2_with fail
    go_ret
    exact ⟨_, rfl, ⟨0, rfl, by omega, fun _ => rfl⟩, Chg.refl _ _ _, hd⟩
  by_cases h1 : n ≤ 256
  · go_wp2_with fail
    refine (spec_l1Byte w g hd).mono ?_
    rintro e w1 ⟨_, rfl, ⟨x, rfl, hx0, hx1⟩, hch, hd1⟩
    have hr0 := Int.emod_nonneg x (show n ≠ 0 by omega)
    have hr1 := Int.emod_lt_of_pos x (show 0 < n by omega)
    go_wp2_with fail
    go_ret

    refine ⟨_, rfl, ⟨(x % n).toNat, ?_, by omega, by omega⟩, hch, hd1⟩
    rw [Int.toNat_of_nonneg hr0]; rfl
  · go_wp2_with fail
    refine (spec_l1Byte w g hd).mono ?_
    rintro e w1 ⟨_, rfl, ⟨x, rfl, hx0, hx1⟩, hch, hd1⟩
    go_wp2_with fail
    refine (spec_l1Byte w1 g hd1).mono ?_
    rintro e w2 ⟨_, rfl, ⟨y, rfl, hy0, hy1⟩, hch2, hd2⟩
    go_wp2_with fail
    refine (spec_l1Byte w2 g hd2).mono ?_
    rintro e w3 ⟨_, rfl, ⟨z, rfl, hz0, hz1⟩, hch3, hd3⟩
    have hr0 := Int.emod_nonneg (x * 65536 + y * 256 + z) (show n ≠ 0 by omega)
    have hr1 := Int.emod_lt_of_pos (x * 65536 + y * 256 + z) (show 0 < n by omega)
    go_wp2_with fail
    go_ret
    refine ⟨_, rfl, ⟨((x * 65536 + y * 256 + z) % n).toNat, ?_, by omega, by omega⟩, (hch.trans hch2).trans hch3, hd3⟩
    rw [Int.toNat_of_nonneg hr0]; rfl
set_option maxRecDepth 20000 in
set_option maxHeartbeats 4000000 in
theorem spec_l1Once (n : Int) (w : World) (g : Nat) (hd : Dr w g) (hn : n ≤ 1000000000) :
    Calls Tryz.prog 39 #[.pointer (some ⟨g, 0, none⟩), .int .i64 n] w (DrP w g fun v _ => ∃ b : Bool, v = .bool b) := by
  go_enter Tryz.func39, Tryz.ntmps39
  go_wp2_with fail
  refine (spec_l1Below n w g hd hn).mono ?_
  rintro e w1 ⟨_, rfl, ⟨k, rfl, hk1, hk2⟩, hch, hd1⟩
  clear hk1 hk2
  go_wp2_with fail
  go_ret
  exact ⟨_, rfl, ⟨_, rfl⟩, hch, hd1⟩
theorem rdI_new (w : World) (xs : List Int) (t : TypeId) (h : xs.length ≤ maxLen) : RdI (w.alloc (.cells (xs.map (Value.int .i64)).toArray t)) w.heap.size (w.heap.size + 1) (.slice (some ⟨w.heap.size, 0, none⟩) xs.length xs.length) xs := by
  refine ⟨_, _, rfl, Nat.le_refl _, h, fun k hk => ⟨_, _, rfl, Nat.le_refl _, Nat.lt_succ_self _, xs[k], List.getElem?_eq_getElem hk, ?_⟩⟩
  have h := box_new w (xs.map (Value.int .i64)).toArray t k
  rw [Nat.zero_add, Nat.mul_one, h]
  simp [hk]
/-- A list of texts that is read. -/
def RdT (w : World) (lo hi : Nat) (v : Value) (l : List ByteArray) : Prop := RdG lo hi 1 v l.length fun k b o => ∃ x, l[k]? = some x ∧ w.cell? ⟨b, o, none⟩ = some (.string x)
theorem RdT.same {w w' : World} {lo hi : Nat} {v : Value} {l : List ByteArray} (h : RdT w lo hi v l) (hs : Same lo hi w w') : RdT w' lo hi v l := h.imp (Nat.le_refl _) (Nat.le_refl _) fun _ _ _ hl hh ⟨x, hx, hv⟩ => ⟨x, hx, (hs.cell hl hh).trans hv⟩
theorem RdT.at {w : World} {lo hi n c k : Nat} {A : Option Addr} {l : List ByteArray} (h : RdT w lo hi (.slice A n c) l) (hk : k < n) : ∃ b off x, A = some ⟨b, off, none⟩ ∧ lo ≤ b ∧ b < hi ∧ l[k]? = some x ∧ w.cell? ⟨b, off + k, none⟩ = some (.string x) := by
  obtain ⟨A', c', e, hn, hc, hE⟩ := h
  injection e with e1 e2 e3
  subst e1 e2
  obtain ⟨b, off, ha, hl, hh, x, hx, h0⟩ := hE k hk
  exact ⟨b, off, x, ha, hl, hh, hx, by simpa using h0⟩
theorem rdT_new (w : World) (xs : List ByteArray) (t : TypeId) (h : xs.length ≤ maxLen) : RdT (w.alloc (.cells (xs.map Value.string).toArray t)) w.heap.size (w.heap.size + 1) (.slice (some ⟨w.heap.size, 0, none⟩) xs.length xs.length) xs := by
  refine ⟨_, _, rfl, Nat.le_refl _, h, fun k hk => ⟨_, _, rfl, Nat.le_refl _, Nat.lt_succ_self _, xs[k], List.getElem?_eq_getElem hk, ?_⟩⟩
  have h := box_new w (xs.map Value.string).toArray t k
  rw [Nat.zero_add, Nat.mul_one, h]
  simp [hk]
set_option maxRecDepth 20000 in
set_option maxHeartbeats 4000000 in
theorem spec_l1Int (xs : List Int) (x : Value) (w : World) (g : Nat) (hd : Dr w g) {hi : Nat} (hx : RdI w (g + 1) hi x xs) (hhi : hi ≤ w.heap.size) (h0 : 0 < xs.length) (h1 : xs.length ≤ 1000) :
    Calls Tryz.prog 62 #[.pointer (some ⟨g, 0, none⟩), x] w (DrP w g fun v _ => ∃ n, n ∈ xs ∧ v = .int .i64 n) := by
  obtain ⟨A, c, rfl, hl, hl2⟩ := hx.form
  go_enter Tryz.func62, Tryz.ntmps62
  go_wp2_with fail
  refine (spec_l1Below xs.length w g hd (by omega)).mono ?_
  rintro e w1 ⟨_, rfl, ⟨k, rfl, hk1, hk2⟩, hch, hd1⟩
  have hkl : k < xs.length := by have := hk1 (by omega); omega
  clear hk1 hk2
  obtain ⟨b, off, y, rfl, -, hbl, hyk, e0⟩ := (hx.same (.of_chg hch (.inr (Nat.le_refl _)) hhi)).at hkl
  have hm := Lib.hid (List.mem_of_getElem? hyk)
  clear hyk
  go_wp2_with fail
  go_ret
  exact ⟨_, rfl, ⟨y, hm.out, rfl⟩, hch, hd1⟩
set_option maxRecDepth 20000 in
set_option maxHeartbeats 4000000 in
theorem spec_l1Str (xs : List ByteArray) (x : Value) (w : World) (g : Nat) (hd : Dr w g) {hi : Nat} (hx : RdT w (g + 1) hi x xs) (hhi : hi ≤ w.heap.size) (h0 : 0 < xs.length) (h1 : xs.length ≤ 1000) :
    Calls Tryz.prog 68 #[.pointer (some ⟨g, 0, none⟩), x] w (DrP w g fun v _ => ∃ n, n ∈ xs ∧ v = .string n) := by
  obtain ⟨A, c, rfl, hl, hl2⟩ := hx.form
  go_enter Tryz.func68, Tryz.ntmps68
  go_wp2_with fail
  refine (spec_l1Below xs.length w g hd (by omega)).mono ?_
  rintro e w1 ⟨_, rfl, ⟨k, rfl, hk1, hk2⟩, hch, hd1⟩
  have hkl : k < xs.length := by have := hk1 (by omega); omega
  clear hk1 hk2
  obtain ⟨b, off, y, rfl, -, hbl, hyk, e0⟩ := (hx.same (.of_chg hch (.inr (Nat.le_refl _)) hhi)).at hkl
  have hm := Lib.hid (List.mem_of_getElem? hyk)
  clear hyk
  go_wp2_with fail
  go_ret
  exact ⟨_, rfl, ⟨y, hm.out, rfl⟩, hch, hd1⟩
end Go.Proofs.YtjogkbkkcaljhaaGreatDoor
namespace Go.Proofs.YtjogkbkkcaljhaaGreatDoor
open Go.Sort Go.ChangeShapes Go.WideShapes Go.ChangeAt Go.RowKit Go.Lb

set_option maxRecDepth 20000 in
set_option maxHeartbeats 4000000 in
theorem spec_l1New (code : List UInt8) (x : Value) (w : World) {lo hi : Nat} (hx : RdB w lo hi x code) (hhi : hi ≤ w.heap.size) (hn : code.length ≤ 1048576) :
    Calls Tryz.prog 28 #[x] w fun e w' => ∃ g, e = .returned (.pointer (some ⟨g, 0, none⟩)) ∧ w.heap.size ≤ g ∧ Below w.heap.size w w' ∧ Dr w' g := by
  obtain ⟨A, c, rfl, hl, hl2⟩ := hx.form
  have hx0 := Lib.hid hx
  go_enter Tryz.func28, Tryz.ntmps28
  go_wp2_with fail
  go_loopw [4, 3] (fun i h wr => ∃ (k : Nat) (h' : Int), i = .int .i64 k ∧ k ≤ code.length ∧ h = .int .i64 h' ∧ 0 ≤ h' ∧ h' ≤ 1073741823 ∧ Below w.heap.size w wr) (fun i _ _ => code.length - (intOf i).toNat)
  case atStart => exact ⟨0, _, rfl, by omega, rfl, by omega, by omega, Below.refl _ _⟩
  case round =>
    obtain ⟨k, h', rfl, hk, rfl, hh0, hh1, hb⟩ := hrel
    by_cases hkl : k < code.length ∧ k < 4000
    · obtain ⟨hk1, hk2⟩ := hkl
      obtain ⟨b, off, y, rfl, -, hbl, hyk, e0⟩ := (hx.below hb hhi).at hk1
      have hy : (y.toNat : Int) ≤ 255 := by have := y.toNat_lt; omega
      clear hyk
      go_wp2_with fail
      go_roundw
      case rel => exact ⟨k + 1, _, by go_num, by omega, rfl, (bits_and_le _ 1073741823 (by decide) (by decide)).1, (bits_and_le _ 1073741823 (by decide) (by decide)).2, hb⟩
      case measure => simp [intOf]; omega
    · have Hend : ∀ (w' : World), w' = wr.alloc (.cells #[.slice A code.length c, .int .i64 0, .int .i64 h'] 81) → ∃ g, (Value.pointer (some ⟨wr.heap.size, 0, none⟩)) = (.pointer (some ⟨g, 0, none⟩)) ∧ w.heap.size ≤ g ∧ Below w.heap.size w w' ∧ Dr w' g := by
        rintro _ rfl
        exact ⟨_, rfl, hb.size, hb.alloc hb.size _, code, A, c, 0, h', (hx0.out.below (hb.trans ((up_a1 wr _).mono hb.size)) hhi).more (Nat.zero_le _) (by have := hb.size; omega), by omega, heap_alloc_new _ _⟩
      have Hend := Lib.hid Hend
      by_cases hk1 : k < code.length
      · have hk2 : ¬ k < 4000 := fun h => hkl ⟨hk1, h⟩
        go_wp2_with fail
        go_ret
        obtain ⟨g, hg, h1, h2, h3⟩ := Hend.out _ rfl
        exact ⟨g, congrArg _ hg, h1, h2, h3⟩
      · go_wp2_with fail
        go_ret
        obtain ⟨g, hg, h1, h2, h3⟩ := Hend.out _ rfl
        exact ⟨g, congrArg _ hg, h1, h2, h3⟩
end Go.Proofs.YtjogkbkkcaljhaaGreatDoor
namespace Go.Proofs.YtjogkbkkcaljhaaGreatDoor
open Go.Sort Go.ChangeShapes Go.WideShapes Go.ChangeAt Go.RowKit Go.Lb

theorem dr_new {w : World} {g : Nat} (hd : Dr w g) (cs : Array Value) (t : TypeId) : Dr (w.alloc (.cells cs t)) g := hd.below (up_a1 w _)
theorem chg_new (g : Nat) (w : World) (cs : Array Value) (t : TypeId) : Chg g (g + 1) w (w.alloc (.cells cs t)) := .of_below (up_a1 w _)
set_option maxRecDepth 20000 in
set_option maxHeartbeats 4000000 in
theorem spec_l1Num (w : World) (g : Nat) (hd : Dr w g) :
    Calls Tryz.prog 99 #[.pointer (some ⟨g, 0, none⟩)] w (DrP w g fun v _ => ∃ n : Int, v = .int .i64 n ∧ -1000000000 ≤ n ∧ n ≤ 1000000000) := by
  go_enter Tryz.func99, Tryz.ntmps99
  go_wp2_with fail
  refine (spec_l1Below 5 w g hd (by decide)).mono ?_
  rintro e w1 ⟨_, rfl, ⟨k, rfl, hk1, hk2⟩, hch1, hd1⟩
  clear hk1 hk2
  by_cases h0 : k = 0
  · subst h0
    go_wp2_with fail
    refine (spec_l1Below 300 w1 g hd1 (by decide)).mono ?_
    rintro e w2 ⟨_, rfl, ⟨j, rfl, hj1, hj2⟩, hch2, hd2⟩
    have hj := hj1 (by decide)
    clear hj1 hj2
    go_wp2_with fail
    go_ret
    exact ⟨_, rfl, ⟨_, rfl, by omega, by omega⟩, hch1.trans hch2, hd2⟩
  by_cases h1 : k = 1
  · subst h1
    have hd2 := dr_new hd1 (([0, -1, 1, 63, 64, -64, -65, 8191, 8192, 1000000000, -1000000000, 999999999] : List Int).map (Value.int .i64)).toArray 3
    have hx := rdI_new w1 [0, -1, 1, 63, 64, -64, -65, 8191, 8192, 1000000000, -1000000000, 999999999] 3 (by decide)
    have hc2 := chg_new g w1 (([0, -1, 1, 63, 64, -64, -65, 8191, 8192, 1000000000, -1000000000, 999999999] : List Int).map (Value.int .i64)).toArray 3
    have hlt := hd1.lt
    go_wp2_with fail
    refine (spec_l1Int [0, -1, 1, 63, 64, -64, -65, 8191, 8192, 1000000000, -1000000000, 999999999] _ _ g hd2 (RdG.imp hx hlt (Nat.le_refl _) fun _ _ _ _ _ h => h) (by simp) (by decide) (by decide)).mono ?_
    rintro e w3 ⟨_, rfl, ⟨j, hj, rfl⟩, hch3, hd3⟩
    have hj' : -1000000000 ≤ j ∧ j ≤ 1000000000 := by
      simp only [List.mem_cons, List.not_mem_nil, or_false] at hj
      omega
    clear hj
    go_wp2_with fail
    go_ret
    exact ⟨_, rfl, ⟨_, rfl, by omega, by omega⟩, (hch1.trans hc2).trans hch3, hd3⟩
  by_cases h2 : k = 2
  · subst h2
    go_wp2_with fail
    refine (spec_l1Below 30000 w1 g hd1 (by decide)).mono ?_
    rintro e w2 ⟨_, rfl, ⟨j, rfl, hj1, hj2⟩, hch2, hd2⟩
    have hj := hj1 (by decide)
    clear hj1 hj2
    go_wp2_with fail
    refine (spec_l1Below 30000 w2 g hd2 (by decide)).mono ?_
    rintro e w3 ⟨_, rfl, ⟨i, rfl, hi1, hi2⟩, hch3, hd3⟩
    have hi := hi1 (by decide)
    clear hi1 hi2
    have hm1 : (j : Int) * ((i : Int) - 15000) ≤ 30000 * 15000 := by
      rcases Int.le_total 0 ((i : Int) - 15000) with h | h
      · exact Int.mul_le_mul (by omega) (by omega) h (by omega)
      · have := Int.mul_nonneg (show (0 : Int) ≤ j by omega) (show (0 : Int) ≤ 15000 - i by omega)
        have h2 : (j : Int) * ((i : Int) - 15000) = -((j : Int) * (15000 - i)) := by rw [← Int.mul_neg]; congr 1; omega
        omega
    have hm2 : -(30000 * 15000) ≤ (j : Int) * ((i : Int) - 15000) := by
      rcases Int.le_total 0 ((i : Int) - 15000) with h | h
      · have := Int.mul_nonneg (show (0 : Int) ≤ j by omega) h
        omega
      · have h3 : (j : Int) * (15000 - i) ≤ 30000 * 15000 := Int.mul_le_mul (by omega) (by omega) (by omega) (by omega)
        have h2 : (j : Int) * ((i : Int) - 15000) = -((j : Int) * (15000 - i)) := by rw [← Int.mul_neg]; congr 1; omega
        omega
    go_wp2_with fail
    go_ret
    exact ⟨_, rfl, ⟨_, rfl, by omega, by omega⟩, (hch1.trans hch2).trans hch3, hd3⟩
  · go_wp2_with fail
    refine (spec_l1Below 20 w1 g hd1 (by decide)).mono ?_
    rintro e w2 ⟨_, rfl, ⟨j, rfl, hj1, hj2⟩, hch2, hd2⟩
    have hj := hj1 (by decide)
    clear hj1 hj2
    go_wp2_with fail
    go_ret
    exact ⟨_, rfl, ⟨_, rfl, by omega, by omega⟩, hch1.trans hch2, hd2⟩
theorem Dr.set {w : World} {g b o : Nat} (hd : Dr w g) (hb : b ≠ g) (hg : g ≤ b) (u : Value) : Dr (w.setCell ⟨b, o, none⟩ u) g := by
  obtain ⟨code, A, c, i, h1, hx, hi, hc⟩ := hd
  exact ⟨code, A, c, i, h1, hx.same fun k _ hk => Below.heap_setCell w ⟨b, o, none⟩ u k (by show k ≠ b; omega), hi, (Below.heap_setCell w ⟨b, o, none⟩ u g (by show g ≠ b; omega)).trans hc⟩
theorem chg_set {w w' : World} {g b o : Nat} (h : Chg g (g + 1) w w') (hb : w.heap.size ≤ b) (u : Value) : Chg g (g + 1) w (w'.setCell ⟨b, o, none⟩ u) :=
  ⟨h.os, h.tape, h.output, by simpa [World.setCell] using h.size, fun k hk hne => (Below.heap_setCell w' ⟨b, o, none⟩ u k (by show k ≠ b; omega)).trans (h.block k hk hne)⟩
theorem chg_cell {w w' : World} {g b : Nat} {x : Obj} (hx : w.heap[b]? = some x) (h : Chg g (g + 1) w w') (hb : g < b) : w'.heap[b]? = some x :=
  (h.block b (Array.getElem?_eq_some_iff.1 hx).1 (.inr hb)).trans hx
/-- A value, as it is handed back. -/
def GoodV (v : Value) (x : V) : Prop := v = .agg #[.int .i64 x.ty, .int .i64 x.n, .string x.s] ∧ x.s.size ≤ 100
set_option maxRecDepth 20000 in
set_option maxHeartbeats 4000000 in
theorem spec_l3Int (w : World) (g : Nat) (hd : Dr w g) :
    Calls Tryz.prog 82 #[.pointer (some ⟨g, 0, none⟩)] w (DrP w g fun v _ => ∃ x : V, GoodV v x) := by
  have hlt := hd.lt
  have hd1 := dr_new hd #[.int .i64 0, .int .i64 0, .string ByteArray.empty] 24
  have HR := Lib.hid (heap_alloc_new w (.cells #[.int .i64 0, .int .i64 0, .string ByteArray.empty] 24))
  have hc0 := chg_new g w #[.int .i64 0, .int .i64 0, .string ByteArray.empty] 24
  go_enter Tryz.func82, Tryz.ntmps82
  go_wp2_with fail
  refine (spec_l1Once 4 _ g hd1 (by decide)).mono ?_
  rintro e w1 ⟨_, rfl, ⟨b, rfl⟩, hch1, hd1⟩
  replace HR := Lib.hid (chg_cell HR.out hch1 hlt)
  have hc1 := hc0.trans hch1
  clear hc0 hch1
  cases b
  · have hx := rdI_new w1 [0, 1, 2, 3, 7, -1] 3 (by decide)
    have hlt1 := hd1.lt
    have hd2 := dr_new hd1 (([0, 1, 2, 3, 7, -1] : List Int).map (Value.int .i64)).toArray 3
    have hc2 := hc1.trans (chg_new g w1 (([0, 1, 2, 3, 7, -1] : List Int).map (Value.int .i64)).toArray 3)
    replace HR := Lib.hid (chg_cell HR.out (chg_new g w1 (([0, 1, 2, 3, 7, -1] : List Int).map (Value.int .i64)).toArray 3) hlt)
    go_wp2_with fail
    refine (spec_l1Int [0, 1, 2, 3, 7, -1] _ _ g hd2 (RdG.imp hx hlt1 (Nat.le_refl _) fun _ _ _ _ _ h => h) (by simp) (by decide) (by decide)).mono ?_
    rintro e w3 ⟨_, rfl, ⟨j, hj, rfl⟩, hch3, hd3⟩
    clear hj
    replace HR := Lib.hid (chg_cell HR.out hch3 hlt)
    have hc3 := hc2.trans hch3
    have r0 := cell_of_row w3 w.heap.size 0 _ _ _ HR.out
    have r1 := cell_of_row w3 w.heap.size 1 _ _ _ HR.out
    have r2 := cell_of_row w3 w.heap.size 2 _ _ _ HR.out
    simp only [List.getElem?_toArray, List.getElem?_cons_zero, List.getElem?_cons_succ] at r0 r1 r2
    have f0 := fun o => frozen_of_row w3 w.heap.size o _ _ HR.out
    go_wp2_with fail
    refine bodyPost_ret (v := .agg #[.int .i64 1, .int .i64 j, .string ByteArray.empty]) ?_ rfl ⟨_, rfl, ⟨⟨1, j, ByteArray.empty⟩, rfl, by show ByteArray.empty.size ≤ 100; decide⟩, ?_, ?_⟩
    · simp [results, Tryz.results82, go_sem, r0, r1, r2]; rfl
    · iterate 3 refine chg_set ?_ (Nat.le_refl _) _
      exact hc3
    · iterate 3 refine Dr.set ?_ (by omega) (by omega) _
      exact hd3
  · go_wp2_with fail
    refine (spec_l1Num w1 g hd1).mono ?_
    rintro e w3 ⟨_, rfl, ⟨j, rfl, hj1, hj2⟩, hch3, hd3⟩
    replace HR := Lib.hid (chg_cell HR.out hch3 hlt)
    have hc3 := hc1.trans hch3
    have r0 := cell_of_row w3 w.heap.size 0 _ _ _ HR.out
    have r1 := cell_of_row w3 w.heap.size 1 _ _ _ HR.out
    have r2 := cell_of_row w3 w.heap.size 2 _ _ _ HR.out
    simp only [List.getElem?_toArray, List.getElem?_cons_zero, List.getElem?_cons_succ] at r0 r1 r2
    have f0 := fun o => frozen_of_row w3 w.heap.size o _ _ HR.out
    go_wp2_with fail
    refine bodyPost_ret (v := .agg #[.int .i64 1, .int .i64 j, .string ByteArray.empty]) ?_ rfl ⟨_, rfl, ⟨⟨1, j, ByteArray.empty⟩, rfl, by show ByteArray.empty.size ≤ 100; decide⟩, ?_, ?_⟩
    · simp [results, Tryz.results82, go_sem, r0, r1, r2]; rfl
    · iterate 3 refine chg_set ?_ (Nat.le_refl _) _
      exact hc3
    · iterate 3 refine Dr.set ?_ (by omega) (by omega) _
      exact hd3
end Go.Proofs.YtjogkbkkcaljhaaGreatDoor
namespace Go.Proofs.YtjogkbkkcaljhaaGreatDoor
open Go.Sort Go.ChangeShapes Go.WideShapes Go.ChangeAt Go.RowKit Go.Lb

def txts8 : List ByteArray := [⟨#[]⟩, ⟨#[97]⟩, ⟨#[98]⟩, ⟨#[97, 98]⟩, ⟨#[114, 101, 100]⟩, ⟨#[98, 108, 117, 101]⟩, ⟨#[103, 114, 101, 101, 110]⟩, ⟨#[122, 122, 122, 122, 122, 122]⟩]
theorem txts8_arr : (txts8.map Value.string).toArray = #[.string ⟨#[]⟩, .string ⟨#[97]⟩, .string ⟨#[98]⟩, .string ⟨#[97, 98]⟩, .string ⟨#[114, 101, 100]⟩, .string ⟨#[98, 108, 117, 101]⟩, .string ⟨#[103, 114, 101, 101, 110]⟩, .string ⟨#[122, 122, 122, 122, 122, 122]⟩] := rfl
theorem txts8_le (x : ByteArray) (h : x ∈ txts8) : x.size ≤ 100 := by
  simp only [txts8, List.mem_cons, List.not_mem_nil, or_false] at h
  rcases h with h | h | h | h | h | h | h | h <;> (subst h; decide)
set_option maxRecDepth 20000 in
set_option maxHeartbeats 4000000 in
theorem spec_l3Text (w : World) (g : Nat) (hd : Dr w g) :
    Calls Tryz.prog 83 #[.pointer (some ⟨g, 0, none⟩)] w (DrP w g fun v _ => ∃ x : V, GoodV v x) := by
  have hlt := hd.lt
  have hd1 := dr_new hd #[.int .i64 0, .int .i64 0, .string ⟨#[]⟩] 24
  have HR := Lib.hid (heap_alloc_new w (.cells #[.int .i64 0, .int .i64 0, .string ⟨#[]⟩] 24))
  have hc0 := chg_new g w #[.int .i64 0, .int .i64 0, .string ⟨#[]⟩] 24
  go_enter Tryz.func83, Tryz.ntmps83
  go_wp2_with fail
  have hlt1 := hd1.lt
  have hx := rdT_new (w.alloc (.cells #[.int .i64 0, .int .i64 0, .string ⟨#[]⟩] 24)) txts8 9 (by decide)
  rw [txts8_arr] at hx
  simp only [World.size_alloc] at hx hlt1
  have hd2 := dr_new hd1 #[.string ⟨#[]⟩, .string ⟨#[97]⟩, .string ⟨#[98]⟩, .string ⟨#[97, 98]⟩, .string ⟨#[114, 101, 100]⟩, .string ⟨#[98, 108, 117, 101]⟩, .string ⟨#[103, 114, 101, 101, 110]⟩, .string ⟨#[122, 122, 122, 122, 122, 122]⟩] 9
  have hc2 := hc0.trans (chg_new g _ #[.string ⟨#[]⟩, .string ⟨#[97]⟩, .string ⟨#[98]⟩, .string ⟨#[97, 98]⟩, .string ⟨#[114, 101, 100]⟩, .string ⟨#[98, 108, 117, 101]⟩, .string ⟨#[103, 114, 101, 101, 110]⟩, .string ⟨#[122, 122, 122, 122, 122, 122]⟩] 9)
  replace HR := Lib.hid (chg_cell HR.out (chg_new g _ #[.string ⟨#[]⟩, .string ⟨#[97]⟩, .string ⟨#[98]⟩, .string ⟨#[97, 98]⟩, .string ⟨#[114, 101, 100]⟩, .string ⟨#[98, 108, 117, 101]⟩, .string ⟨#[103, 114, 101, 101, 110]⟩, .string ⟨#[122, 122, 122, 122, 122, 122]⟩] 9) hlt)
  refine (spec_l1Str txts8 _ _ g hd2 (RdG.imp hx hlt1 (Nat.le_refl _) fun _ _ _ _ _ h => h) (by simp) (by decide) (by decide)).mono ?_
  rintro e w3 ⟨_, rfl, ⟨j, hj, rfl⟩, hch3, hd3⟩
  have hjs : j.size ≤ 100 := txts8_le j hj
  clear hj
  replace HR := Lib.hid (chg_cell HR.out hch3 hlt)
  have hc3 := hc2.trans hch3
  have r0 := cell_of_row w3 w.heap.size 0 _ _ _ HR.out
  have r1 := cell_of_row w3 w.heap.size 1 _ _ _ HR.out
  have r2 := cell_of_row w3 w.heap.size 2 _ _ _ HR.out
  simp only [List.getElem?_toArray, List.getElem?_cons_zero, List.getElem?_cons_succ] at r0 r1 r2
  have f0 := fun o => frozen_of_row w3 w.heap.size o _ _ HR.out
  go_wp2_with fail
  refine bodyPost_ret (v := .agg #[.int .i64 2, .int .i64 0, .string j]) ?_ rfl ⟨_, rfl, ⟨⟨2, 0, j⟩, rfl, hjs⟩, ?_, ?_⟩
  · simp [results, Tryz.results83, go_sem, r0, r1, r2]
  · iterate 3 refine chg_set ?_ (Nat.le_refl _) _
    exact hc3
  · iterate 3 refine Dr.set ?_ (by omega) (by omega) _
    exact hd3
set_option maxRecDepth 20000 in
set_option maxHeartbeats 4000000 in
theorem spec_l3Draw (w : World) (g : Nat) (hd : Dr w g) :
    Calls Tryz.prog 88 #[.pointer (some ⟨g, 0, none⟩)] w (DrP w g fun v _ => ∃ x : V, GoodV v x) := by
  have hlt := hd.lt
  have hd1 := dr_new hd #[.int .i64 0, .int .i64 0, .string ⟨#[]⟩] 24
  have HR := Lib.hid (heap_alloc_new w (.cells #[.int .i64 0, .int .i64 0, .string ⟨#[]⟩] 24))
  have hc0 := chg_new g w #[.int .i64 0, .int .i64 0, .string ⟨#[]⟩] 24
  go_enter Tryz.func88, Tryz.ntmps88
  go_wp2_with fail
  refine (spec_l1Once 2 _ g hd1 (by decide)).mono ?_
  rintro e w1 ⟨_, rfl, ⟨b, rfl⟩, hch1, hd1⟩
  replace HR := Lib.hid (chg_cell HR.out hch1 hlt)
  have hc1 := hc0.trans hch1
  clear hc0 hch1
  cases b
  · go_wp2_with fail
    refine (spec_l3Text w1 g hd1).mono ?_
    rintro e w3 ⟨_, rfl, ⟨x, rfl, hx⟩, hch3, hd3⟩
    replace HR := Lib.hid (chg_cell HR.out hch3 hlt)
    have hc3 := hc1.trans hch3
    have r0 := cell_of_row w3 w.heap.size 0 _ _ _ HR.out
    have r1 := cell_of_row w3 w.heap.size 1 _ _ _ HR.out
    have r2 := cell_of_row w3 w.heap.size 2 _ _ _ HR.out
    simp only [List.getElem?_toArray, List.getElem?_cons_zero, List.getElem?_cons_succ] at r0 r1 r2
    have f0 := fun o => frozen_of_row w3 w.heap.size o _ _ HR.out
    go_wp2_with fail
    refine bodyPost_ret (v := .agg #[.int .i64 x.ty, .int .i64 x.n, .string x.s]) ?_ rfl ⟨_, rfl, ⟨x, rfl, hx⟩, ?_, ?_⟩
    · simp [results, Tryz.results88, go_sem, r0, r1, r2]
    · iterate 3 refine chg_set ?_ (Nat.le_refl _) _
      exact hc3
    · iterate 3 refine Dr.set ?_ (by omega) (by omega) _
      exact hd3
  · go_wp2_with fail
    refine (spec_l3Int w1 g hd1).mono ?_
    rintro e w3 ⟨_, rfl, ⟨x, rfl, hx⟩, hch3, hd3⟩
    replace HR := Lib.hid (chg_cell HR.out hch3 hlt)
    have hc3 := hc1.trans hch3
    have r0 := cell_of_row w3 w.heap.size 0 _ _ _ HR.out
    have r1 := cell_of_row w3 w.heap.size 1 _ _ _ HR.out
    have r2 := cell_of_row w3 w.heap.size 2 _ _ _ HR.out
    simp only [List.getElem?_toArray, List.getElem?_cons_zero, List.getElem?_cons_succ] at r0 r1 r2
    have f0 := fun o => frozen_of_row w3 w.heap.size o _ _ HR.out
    go_wp2_with fail
    refine bodyPost_ret (v := .agg #[.int .i64 x.ty, .int .i64 x.n, .string x.s]) ?_ rfl ⟨_, rfl, ⟨x, rfl, hx⟩, ?_, ?_⟩
    · simp [results, Tryz.results88, go_sem, r0, r1, r2]
    · iterate 3 refine chg_set ?_ (Nat.le_refl _) _
      exact hc3
    · iterate 3 refine Dr.set ?_ (by omega) (by omega) _
      exact hd3
set_option maxRecDepth 20000 in
set_option maxHeartbeats 4000000 in
theorem spec_l10Op (w : World) (g : Nat) (hd : Dr w g) :
    Calls Tryz.prog 70 #[.pointer (some ⟨g, 0, none⟩)] w (DrP w g fun v _ => ∃ n : Int, v = .int .i64 n ∧ -1 ≤ n ∧ n ≤ 7) := by
  have hlt := hd.lt
  go_enter Tryz.func70, Tryz.ntmps70
  go_wp2_with fail
  refine (spec_l1Once 12 w g hd (by decide)).mono ?_
  rintro e w1 ⟨_, rfl, ⟨b, rfl⟩, hch1, hd1⟩
  cases b
  · go_wp2_with fail
    refine (spec_l1Below 6 w1 g hd1 (by decide)).mono ?_
    rintro e w2 ⟨_, rfl, ⟨j, rfl, hj1, hj2⟩, hch2, hd2⟩
    have hj := hj1 (by decide)
    clear hj1 hj2
    go_wp2_with fail
    go_ret
    exact ⟨_, rfl, ⟨_, rfl, by omega, by omega⟩, hch1.trans hch2, hd2⟩
  · have hx := rdI_new w1 [0, 7, -1] 3 (by decide)
    have hlt1 := hd1.lt
    have hd2 := dr_new hd1 (([0, 7, -1] : List Int).map (Value.int .i64)).toArray 3
    have hc2 := hch1.trans (chg_new g w1 (([0, 7, -1] : List Int).map (Value.int .i64)).toArray 3)
    go_wp2_with fail
    refine (spec_l1Int [0, 7, -1] _ _ g hd2 (RdG.imp hx hlt1 (Nat.le_refl _) fun _ _ _ _ _ h => h) (by simp) (by decide) (by decide)).mono ?_
    rintro e w3 ⟨_, rfl, ⟨j, hj, rfl⟩, hch3, hd3⟩
    have hj' : -1 ≤ j ∧ j ≤ 7 := by
      simp only [List.mem_cons, List.not_mem_nil, or_false] at hj
      omega
    go_wp2_with fail
    go_ret
    exact ⟨_, rfl, ⟨_, rfl, by omega, by omega⟩, hc2.trans hch3, hd3⟩
end Go.Proofs.YtjogkbkkcaljhaaGreatDoor
namespace Go.Proofs.YtjogkbkkcaljhaaGreatDoor
open Go.Sort Go.ChangeShapes Go.WideShapes Go.ChangeAt Go.RowKit Go.Lb

theorem Dr.drew {w : World} {g : Nat} (h : Dr w g) : Dr w.drew g := h.below (Below.refl _ _).drew
theorem chg_below {w w1 w2 : World} {g B : Nat} (hb : Below B w w1) (h : Chg g (g + 1) w1 w2) (hB : B ≤ g) (hw : B ≤ w.heap.size) : Below B w w2 := hb.trans (h.below hB (Nat.le_trans hw hb.size))
theorem below_set {B : Nat} {w w' : World} {b o : Nat} (h : Below B w w') (hb : B ≤ b) (u : Value) : Below B w (w'.setCell ⟨b, o, none⟩ u) := Below.setCell h hb u
theorem cell_drew {w : World} {a : Addr} {x : Option Value} (h : w.cell? a = x) : w.drew.cell? a = x := h
theorem cell_set_ne {w : World} {b o b' o' : Nat} {x : Option Value} {u : Value} (hne : b ≠ b') (h : w.cell? ⟨b, o, none⟩ = x) : (w.setCell ⟨b', o', none⟩ u).cell? ⟨b, o, none⟩ = x := (World.cell?_of_block (a := ⟨b, o, none⟩) (Below.heap_setCell w ⟨b', o', none⟩ u b hne)).trans h
end Go.Proofs.YtjogkbkkcaljhaaGreatDoor
namespace Go.Proofs.YtjogkbkkcaljhaaGreatDoor
open Go.Sort Go.ChangeShapes Go.WideShapes Go.ChangeAt Go.RowKit Go.Lb

theorem info_V : (Tryz.prog.info? 24).map (fun i => (i.zero, i.size, i.bytes)) = some (some (.agg #[.int .i64 0, .int .i64 0, .string ⟨#[]⟩]), 3, 32) := by kernel_rfl
theorem chg_grown {w w' w1 : World} {g : Nat} {row : Option Nat} (h : Chg g (g + 1) w w') (hg : w'.grownBy w1 row) (hr : ∀ b, row = some b → w.heap.size ≤ b) : Chg g (g + 1) w w1 :=
  ⟨hg.os.trans h.os, hg.tape.trans h.tape, hg.output.trans h.output, Nat.le_trans h.size hg.size, fun k hk hne => (hg.block k (Nat.lt_of_lt_of_le hk h.size) (fun e => by have := hr k e.symm; omega)).trans (h.block k hk hne)⟩
theorem Dr.grown {w w1 : World} {g : Nat} {row : Option Nat} (hd : Dr w g) (hg : w.grownBy w1 row) (hr : ∀ b, row = some b → g < b) : Dr w1 g := by
  have hl := hd.lt
  obtain ⟨code, A, c, i, h1, hx, hi, hc⟩ := hd
  exact ⟨code, A, c, i, h1, hx.same (fun k _ hk => hg.block k (by omega) (fun e => by have := hr k e.symm; omega)), hi, (hg.block g hl (fun e => by have := hr g e.symm; omega)).trans hc⟩
theorem owns_chg {w w' : World} {g base e s n : Nat} {v : Value} {xs : List Value} (h : w.ownsRow base e s v n xs) (hc : Chg g (g + 1) w w') (hg : g < base) : w'.ownsRow base e s v n xs :=
  ((Own.new h).same (.of_chg hc (.inr hg) (Nat.le_refl _))).1
/-- A list of values, of the draw's own. -/
def GoodL (B : Nat) (w : World) (v : Value) (l : List V) : Prop := Own 24 3 w B w.heap.size v l.length (l.flatMap V.cells) ∧ ∀ x ∈ l, x.s.size ≤ 100
theorem small_snoc {l : List V} {x : V} (h : ∀ x ∈ l, x.s.size ≤ 100) (hx : x.s.size ≤ 100) : ∀ y ∈ l ++ [x], y.s.size ≤ 100 := by
  intro y hy
  rcases List.mem_append.1 hy with h1 | h1
  · exact h y h1
  · obtain rfl := List.mem_singleton.1 h1
    exact hx
theorem app_good {w w2 w3 : World} {g : Nat} {v v' : Value} {xs : List V} {x : V} {cs : Array Value} {t : TypeId} (hlt : g < w.heap.size) (hown : w2.ownsRow w.heap.size 24 3 v xs.length (xs.flatMap V.cells)) (hch : Chg g (g + 1) w w2) (hd : Dr w2 g)
    (hown' : w3.ownsRow w.heap.size 24 3 v' (xs.length + 1) (xs.flatMap V.cells ++ [.int .i64 x.ty, .int .i64 x.n, .string x.s])) (hgrow : (w2.alloc (.cells cs t)).grownBy w3 v.ownBlock) :
    w3.ownsRow w.heap.size 24 3 v' (xs ++ [x]).length ((xs ++ [x]).flatMap V.cells) ∧ Chg g (g + 1) w w3 ∧ Dr w3 g := by
  have hr : ∀ b, v.ownBlock = some b → w.heap.size ≤ b := fun b hb => (hown.lt b hb).1
  refine ⟨?_, chg_grown (hch.trans (chg_new g w2 cs t)) hgrow hr, (dr_new hd cs t).grown hgrow fun b hb => Nat.lt_of_lt_of_le hlt (hr b hb)⟩
  rw [List.length_append, List.flatMap_append]
  simpa [V.cells] using hown'
end Go.Proofs.YtjogkbkkcaljhaaGreatDoor
namespace Go.Proofs.YtjogkbkkcaljhaaGreatDoor
open Go.Sort Go.ChangeShapes Go.WideShapes Go.ChangeAt Go.RowKit Go.Lb

end Go.Proofs.YtjogkbkkcaljhaaGreatDoor
namespace Go.Proofs.YtjogkbkkcaljhaaGreatDoor
open Go.Sort Go.ChangeShapes Go.WideShapes Go.ChangeAt Go.RowKit Go.Lb

set_option maxRecDepth 20000 in
set_option maxHeartbeats 4000000 in
theorem spec_l1Odd (w : World) (g : Nat) (hd : Dr w g) :
    Calls Tryz.prog 103 #[.pointer (some ⟨g, 0, none⟩)] w (DrP w g fun v _ => ∃ n : Int, v = .int .i64 n) := by
  go_enter Tryz.func103, Tryz.ntmps103
  have hx := rdI_new w [-1, 0, 1, 2, 255, 256, 65535, 2147483647, 2147483648, 4294967295, 4294967296, -2147483648, 9223372036854775807, -9223372036854775808] 3 (by decide)
  have hlt1 := hd.lt
  have hd2 := dr_new hd (([-1, 0, 1, 2, 255, 256, 65535, 2147483647, 2147483648, 4294967295, 4294967296, -2147483648, 9223372036854775807, -9223372036854775808] : List Int).map (Value.int .i64)).toArray 3
  have hc2 := (chg_new g w (([-1, 0, 1, 2, 255, 256, 65535, 2147483647, 2147483648, 4294967295, 4294967296, -2147483648, 9223372036854775807, -9223372036854775808] : List Int).map (Value.int .i64)).toArray 3)
  go_wp2_with fail
  refine (spec_l1Int [-1, 0, 1, 2, 255, 256, 65535, 2147483647, 2147483648, 4294967295, 4294967296, -2147483648, 9223372036854775807, -9223372036854775808] _ _ g hd2 (RdG.imp hx hlt1 (Nat.le_refl _) fun _ _ _ _ _ h => h) (by simp) (by decide) (by decide)).mono ?_
  rintro e w3 ⟨_, rfl, ⟨j, -, rfl⟩, hch3, hd3⟩
  go_wp2_with fail
  go_ret
  exact ⟨_, rfl, ⟨_, rfl⟩, hc2.trans hch3, hd3⟩
set_option maxRecDepth 20000 in
set_option maxHeartbeats 4000000 in
theorem spec_l1Raw (w : World) (g : Nat) (hd : Dr w g) :
    Calls Tryz.prog 89 #[.pointer (some ⟨g, 0, none⟩)] w (DrP w g fun v _ => ∃ n : Int, v = .int .i64 n) := by
  go_enter Tryz.func89, Tryz.ntmps89
  go_wp2_with fail
  refine (spec_l1Once 3 w g hd (by decide)).mono ?_
  rintro e w1 ⟨_, rfl, ⟨b, rfl⟩, hch1, hd1⟩
  cases b
  · have hx := rdI_new w1 [1000000001, -1000000001, 2000000000, 2000000001, 0, -1] 3 (by decide)
    have hlt1 := hd1.lt
    have hd2 := dr_new hd1 (([1000000001, -1000000001, 2000000000, 2000000001, 0, -1] : List Int).map (Value.int .i64)).toArray 3
    have hc2 := (chg_new g w1 (([1000000001, -1000000001, 2000000000, 2000000001, 0, -1] : List Int).map (Value.int .i64)).toArray 3)
    go_wp2_with fail
    refine (spec_l1Int [1000000001, -1000000001, 2000000000, 2000000001, 0, -1] _ _ g hd2 (RdG.imp hx hlt1 (Nat.le_refl _) fun _ _ _ _ _ h => h) (by simp) (by decide) (by decide)).mono ?_
    rintro e w3 ⟨_, rfl, ⟨j, -, rfl⟩, hch3, hd3⟩
    go_wp2_with fail
    go_ret
    exact ⟨_, rfl, ⟨_, rfl⟩, hch1.trans (hc2.trans hch3), hd3⟩
  · go_wp2_with fail
    refine (spec_l1Odd w1 g hd1).mono ?_
    rintro e w3 ⟨_, rfl, ⟨j, rfl⟩, hch3, hd3⟩
    go_wp2_with fail
    go_ret
    exact ⟨_, rfl, ⟨_, rfl⟩, hch1.trans hch3, hd3⟩
def txts5 : List ByteArray := [⟨#[97, 32, 98]⟩, ⟨#[115, 101, 118, 101, 110, 55, 55]⟩, ⟨#[127]⟩, ⟨#[126]⟩, ⟨#[33]⟩]
theorem txts5_arr : (txts5.map Value.string).toArray = #[.string ⟨#[97, 32, 98]⟩, .string ⟨#[115, 101, 118, 101, 110, 55, 55]⟩, .string ⟨#[127]⟩, .string ⟨#[126]⟩, .string ⟨#[33]⟩] := rfl
theorem txts5_le (x : ByteArray) (h : x ∈ txts5) : x.size ≤ 100 := by
  simp only [txts5, List.mem_cons, List.not_mem_nil, or_false] at h
  rcases h with h | h | h | h | h <;> (subst h; decide)
set_option maxRecDepth 20000 in
set_option maxHeartbeats 4000000 in
theorem spec_l3Any (w : World) (g : Nat) (hd : Dr w g) :
    Calls Tryz.prog 69 #[.pointer (some ⟨g, 0, none⟩)] w (DrP w g fun v _ => ∃ x : V, GoodV v x) := by
  have hlt := hd.lt
  have hd1 := dr_new hd #[.int .i64 0, .int .i64 0, .string ⟨#[]⟩] 24
  have HR := Lib.hid (heap_alloc_new w (.cells #[.int .i64 0, .int .i64 0, .string ⟨#[]⟩] 24))
  have hc0 := chg_new g w #[.int .i64 0, .int .i64 0, .string ⟨#[]⟩] 24
  have hs0 : (w.alloc (.cells #[.int .i64 0, .int .i64 0, .string ⟨#[]⟩] 24)).heap.size = w.heap.size + 1 := by simp
  go_enter Tryz.func69, Tryz.ntmps69
  go_wp2_with fail
  generalize (w.alloc (.cells #[.int .i64 0, .int .i64 0, .string ⟨#[]⟩] 24)) = w0 at *
  refine (spec_l3Draw w0 g hd1).mono ?_
  rintro e w1 ⟨_, rfl, ⟨x, rfl, hx⟩, hch1, hd1⟩
  replace HR := Lib.hid (chg_cell HR.out hch1 hlt)
  have hz1 := hch1.size
  have hltx := hd1.lt
  have hc1 := hc0.trans hch1
  clear hc0 hch1 hd
  go_wp2_with fail
  have HX := Lib.hid (heap_alloc_new w1 (.cells #[.int .i64 x.ty, .int .i64 x.n, .string x.s] 24))
  have hR := HR.out
  replace HR := Lib.hid (((up_a1 w1 (.cells #[.int .i64 x.ty, .int .i64 x.n, .string x.s] 24)).block _ (Array.getElem?_eq_some_iff.1 hR).1).trans hR)
  have hd2 := dr_new hd1 #[.int .i64 x.ty, .int .i64 x.n, .string x.s] 24
  have hc2 := hc1.trans (chg_new g w1 #[.int .i64 x.ty, .int .i64 x.n, .string x.s] 24)
  generalize (w1.alloc (.cells #[.int .i64 x.ty, .int .i64 x.n, .string x.s] 24)) = w2 at *
  clear hR hc1 hd1
  refine (spec_l1Below 10 w2 g hd2 (by decide)).mono ?_
  rintro e w4 ⟨_, rfl, ⟨k, rfl, -, -⟩, hc4, hd4⟩
  replace HR := Lib.hid (chg_cell HR.out hc4 hlt)
  replace HX := Lib.hid (chg_cell HX.out hc4 hltx)
  have hc4 := hc2.trans hc4
  clear hc2 hd2
  have hlt4 := hd4.lt
  by_cases h0 : k = 0
  · subst h0
    have hx2 := rdI_new w4 [0, 1, 2, 3] 3 (by decide)
    have hdn := dr_new hd4 (([0, 1, 2, 3] : List Int).map (Value.int .i64)).toArray 3
    have hcn := (chg_new g w4 (([0, 1, 2, 3] : List Int).map (Value.int .i64)).toArray 3)
    go_wp2_with fail
    refine (spec_l1Int [0, 1, 2, 3] _ _ g hdn (RdG.imp hx2 hlt4 (Nat.le_refl _) fun _ _ _ _ _ h => h) (by simp) (by decide) (by decide)).mono ?_
    rintro e w3 ⟨_, rfl, ⟨j, -, rfl⟩, hch3, hd3⟩
    have hc3' := hcn.trans hch3
    have hc2 := hc4
    replace HR := Lib.hid (chg_cell HR.out hc3' hlt)
    replace HX := Lib.hid (chg_cell HX.out hc3' hltx)
    have hc3 := hc2.trans hc3'
    clear hch3 hcn hdn hd4 hx2
    have r0 := cell_of_row w3 (w.heap.size) 0 _ _ _ HR.out
    have r1 := cell_of_row w3 (w.heap.size) 1 _ _ _ HR.out
    have r2 := cell_of_row w3 (w.heap.size) 2 _ _ _ HR.out
    simp only [List.getElem?_toArray, List.getElem?_cons_zero, List.getElem?_cons_succ] at r0 r1 r2
    have x0 := cell_of_row w3 (w1.heap.size) 0 _ _ _ HX.out
    have x1 := cell_of_row w3 (w1.heap.size) 1 _ _ _ HX.out
    have x2 := cell_of_row w3 (w1.heap.size) 2 _ _ _ HX.out
    simp only [List.getElem?_toArray, List.getElem?_cons_zero, List.getElem?_cons_succ] at x0 x1 x2
    have f1 := fun o => frozen_of_row w3 w1.heap.size o _ _ HX.out
    have HS := set1 (o := 0) (a := .int .i64 j) HX.out
    simp only [List.setIfInBounds_toArray, List.set_cons_zero] at HS
    have f0 := fun o => frozen_of_row w3 w.heap.size o _ _ HR.out
    go_wp2_with fail
    refine bodyPost_ret (v := .agg #[.int .i64 j, .int .i64 x.n, .string x.s]) ?_ rfl ⟨_, rfl, ⟨⟨j, x.n, x.s⟩, rfl, hx⟩, ?_, ?_⟩
    · simp [results, Tryz.results69, go_sem, r0, r1, r2]
    · iterate 4 refine chg_set ?_ (by omega) _
      exact hc3
    · iterate 4 refine Dr.set ?_ (by omega) (by omega) _
      exact hd3
  by_cases h1 : k = 1
  · subst h1
    go_wp2_with fail
    refine (spec_l1Raw w4 g hd4).mono ?_
    rintro e w3 ⟨_, rfl, ⟨j, rfl⟩, hc3', hd3⟩
    have hc2 := hc4
    replace HR := Lib.hid (chg_cell HR.out hc3' hlt)
    replace HX := Lib.hid (chg_cell HX.out hc3' hltx)
    have hc3 := hc2.trans hc3'
    clear hd4
    have r0 := cell_of_row w3 (w.heap.size) 0 _ _ _ HR.out
    have r1 := cell_of_row w3 (w.heap.size) 1 _ _ _ HR.out
    have r2 := cell_of_row w3 (w.heap.size) 2 _ _ _ HR.out
    simp only [List.getElem?_toArray, List.getElem?_cons_zero, List.getElem?_cons_succ] at r0 r1 r2
    have x0 := cell_of_row w3 (w1.heap.size) 0 _ _ _ HX.out
    have x1 := cell_of_row w3 (w1.heap.size) 1 _ _ _ HX.out
    have x2 := cell_of_row w3 (w1.heap.size) 2 _ _ _ HX.out
    simp only [List.getElem?_toArray, List.getElem?_cons_zero, List.getElem?_cons_succ] at x0 x1 x2
    have f1 := fun o => frozen_of_row w3 w1.heap.size o _ _ HX.out
    have HS := set1 (o := 1) (a := .int .i64 j) HX.out
    simp only [List.setIfInBounds_toArray, List.set_cons_succ, List.set_cons_zero] at HS
    have f0 := fun o => frozen_of_row w3 w.heap.size o _ _ HR.out
    go_wp2_with fail
    refine bodyPost_ret (v := .agg #[.int .i64 x.ty, .int .i64 j, .string x.s]) ?_ rfl ⟨_, rfl, ⟨⟨x.ty, j, x.s⟩, rfl, hx⟩, ?_, ?_⟩
    · simp [results, Tryz.results69, go_sem, r0, r1, r2]
    · iterate 4 refine chg_set ?_ (by omega) _
      exact hc3
    · iterate 4 refine Dr.set ?_ (by omega) (by omega) _
      exact hd3
  by_cases h2 : k = 2
  · subst h2
    have hx2 := rdT_new w4 txts5 9 (by decide)
    have hdn := dr_new hd4 (txts5.map Value.string).toArray 9
    have hcn := (chg_new g w4 (txts5.map Value.string).toArray 9)
    rw [txts5_arr] at hx2 hdn hcn
    go_wp2_with fail
    refine (spec_l1Str txts5 _ _ g hdn (RdG.imp hx2 hlt4 (Nat.le_refl _) fun _ _ _ _ _ h => h) (by simp) (by decide) (by decide)).mono ?_
    rintro e w3 ⟨_, rfl, ⟨j, hj, rfl⟩, hch3, hd3⟩
    have hjs : j.size ≤ 100 := txts5_le j hj
    have hc3' := hcn.trans hch3
    have hc2 := hc4
    replace HR := Lib.hid (chg_cell HR.out hc3' hlt)
    replace HX := Lib.hid (chg_cell HX.out hc3' hltx)
    have hc3 := hc2.trans hc3'
    clear hch3 hcn hdn hd4 hx2 hj
    have r0 := cell_of_row w3 (w.heap.size) 0 _ _ _ HR.out
    have r1 := cell_of_row w3 (w.heap.size) 1 _ _ _ HR.out
    have r2 := cell_of_row w3 (w.heap.size) 2 _ _ _ HR.out
    simp only [List.getElem?_toArray, List.getElem?_cons_zero, List.getElem?_cons_succ] at r0 r1 r2
    have x0 := cell_of_row w3 (w1.heap.size) 0 _ _ _ HX.out
    have x1 := cell_of_row w3 (w1.heap.size) 1 _ _ _ HX.out
    have x2 := cell_of_row w3 (w1.heap.size) 2 _ _ _ HX.out
    simp only [List.getElem?_toArray, List.getElem?_cons_zero, List.getElem?_cons_succ] at x0 x1 x2
    have f1 := fun o => frozen_of_row w3 w1.heap.size o _ _ HX.out
    have HS := set1 (o := 2) (a := .string j) HX.out
    simp only [List.setIfInBounds_toArray, List.set_cons_succ, List.set_cons_zero] at HS
    have f0 := fun o => frozen_of_row w3 w.heap.size o _ _ HR.out
    go_wp2_with fail
    refine bodyPost_ret (v := .agg #[.int .i64 x.ty, .int .i64 x.n, .string j]) ?_ rfl ⟨_, rfl, ⟨⟨x.ty, x.n, j⟩, rfl, hjs⟩, ?_, ?_⟩
    · simp [results, Tryz.results69, go_sem, r0, r1, r2]
    · iterate 4 refine chg_set ?_ (by omega) _
      exact hc3
    · iterate 4 refine Dr.set ?_ (by omega) (by omega) _
      exact hd3
  · have b0 : ((k : Int) == 0) = false := by simp; omega
    have b1 : ((k : Int) == 1) = false := by simp; omega
    have b2 : ((k : Int) == 2) = false := by simp; omega
    clear h0 h1 h2
    have hc3 := hc4
    have hd3 := hd4
    have r0 := cell_of_row w4 (w.heap.size) 0 _ _ _ HR.out
    have r1 := cell_of_row w4 (w.heap.size) 1 _ _ _ HR.out
    have r2 := cell_of_row w4 (w.heap.size) 2 _ _ _ HR.out
    simp only [List.getElem?_toArray, List.getElem?_cons_zero, List.getElem?_cons_succ] at r0 r1 r2
    have x0 := cell_of_row w4 (w1.heap.size) 0 _ _ _ HX.out
    have x1 := cell_of_row w4 (w1.heap.size) 1 _ _ _ HX.out
    have x2 := cell_of_row w4 (w1.heap.size) 2 _ _ _ HX.out
    simp only [List.getElem?_toArray, List.getElem?_cons_zero, List.getElem?_cons_succ] at x0 x1 x2
    have f0 := fun o => frozen_of_row w4 w.heap.size o _ _ HR.out
    go_wp2_with fail
    refine bodyPost_ret (v := .agg #[.int .i64 x.ty, .int .i64 x.n, .string x.s]) ?_ rfl ⟨_, rfl, ⟨⟨x.ty, x.n, x.s⟩, rfl, hx⟩, ?_, ?_⟩
    · simp [results, Tryz.results69, go_sem, r0, r1, r2]
    · iterate 3 refine chg_set ?_ (by omega) _
      exact hc3
    · iterate 3 refine Dr.set ?_ (by omega) (by omega) _
      exact hd3
end Go.Proofs.YtjogkbkkcaljhaaGreatDoor
namespace Go.Proofs.YtjogkbkkcaljhaaGreatDoor
open Go.Sort Go.ChangeShapes Go.WideShapes Go.ChangeAt Go.RowKit Go.Lb
end Go.Proofs.YtjogkbkkcaljhaaGreatDoor
