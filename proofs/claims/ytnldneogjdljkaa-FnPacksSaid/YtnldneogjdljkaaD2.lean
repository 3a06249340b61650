/- Draws: numbers and texts. -/
import Derived.Test.YtnldneogjdljkaaD1
namespace Go.Proofs.Ytnldneogjdljkaa
open Go.Sort Go.ChangeShapes Go.WideShapes Go.ChangeAt Go.RowKit Go.Lb

set_option maxRecDepth 20000 in
set_option maxHeartbeats 4000000 in
theorem spec_l1Below (n : Int) (w : World) (g : Nat) (hd : Dr w g) (hn : n ≤ 1000000000) :
    Calls Try.prog 65 #[.pointer (some ⟨g, 0, none⟩), .int .i64 n] w (DrP w g fun v _ => ∃ k : Nat, v = .int .i64 k ∧ (0 < n → (k : Int) < n) ∧ (n ≤ 0 → k = 0)) := by
  go_enter Try.func65, Try.ntmps65
  by_cases h0 : n ≤ 0
  · go_wp2_with fail
    go_ret
    exact ⟨_, rfl, ⟨0, rfl, by omega, fun _ => rfl⟩, Chg.refl _ _ _, hd⟩
  by_cases h1 : n ≤ 256
  · go_wp2_with fail
    refine (spec_l1Byte w g hd).mono ?_
    rintro e w1 ⟨_, rfl, ⟨x, rfl, hx0, hx1⟩, hch, hd1⟩
    have hr0 := Int.emod_nonneg x (show n ≠ 0 by omega)
    have hr1 := Int.emod_lt_of_pos x (show 0 < n by omega)
    go_wp2_with fail
    go_ret

    refine ⟨_, rfl, ⟨(x % n).toNat, ?_, by omega, by omega⟩, hch, hd1⟩
    rw [Int.toNat_of_nonneg hr0]; rfl
  · go_wp2_with fail
    refine (spec_l1Byte w g hd).mono ?_
    rintro e w1 ⟨_, rfl, ⟨x, rfl, hx0, hx1⟩, hch, hd1⟩
    go_wp2_with fail
    refine (spec_l1Byte w1 g hd1).mono ?_
    rintro e w2 ⟨_, rfl, ⟨y, rfl, hy0, hy1⟩, hch2, hd2⟩
    go_wp2_with fail
    refine (spec_l1Byte w2 g hd2).mono ?_
    rintro e w3 ⟨_, rfl, ⟨z, rfl, hz0, hz1⟩, hch3, hd3⟩
    have hr0 := Int.emod_nonneg (x * 65536 + y * 256 + z) (show n ≠ 0 by omega)
    have hr1 := Int.emod_lt_of_pos (x * 65536 + y * 256 + z) (show 0 < n by omega)
    go_wp2_with fail
    go_ret
    refine ⟨_, rfl, ⟨((x * 65536 + y * 256 + z) % n).toNat, ?_, by omega, by omega⟩, (hch.trans hch2).trans hch3, hd3⟩
    rw [Int.toNat_of_nonneg hr0]; rfl
set_option maxRecDepth 20000 in
set_option maxHeartbeats 4000000 in
theorem spec_l1Once (n : Int) (w : World) (g : Nat) (hd : Dr w g) (hn : n ≤ 1000000000) :
    Calls Try.prog 74 #[.pointer (some ⟨g, 0, none⟩), .int .i64 n] w (DrP w g fun v _ => ∃ b : Bool, v = .bool b) := by
  go_enter Try.func74, Try.ntmps74
  go_wp2_with fail
  refine (spec_l1Below n w g hd hn).mono ?_
  rintro e w1 ⟨_, rfl, ⟨k, rfl, hk1, hk2⟩, hch, hd1⟩
  clear hk1 hk2
  go_wp2_with fail
  go_ret
  exact ⟨_, rfl, ⟨_, rfl⟩, hch, hd1⟩
theorem rdI_new (w : World) (xs : List Int) (t : TypeId) (h : xs.length ≤ maxLen) : RdI (w.alloc (.cells (xs.map (Value.int .i64)).toArray t)) w.heap.size (w.heap.size + 1) (.slice (some ⟨w.heap.size, 0, none⟩) xs.length xs.length) xs := by
  refine ⟨_, _, rfl, Nat.le_refl _, h, fun k hk => ⟨_, _, rfl, Nat.le_refl _, Nat.lt_succ_self _, xs[k], List.getElem?_eq_getElem hk, ?_⟩⟩
  have h := box_new w (xs.map (Value.int .i64)).toArray t k
  rw [Nat.zero_add, Nat.mul_one, h]
  simp [hk]
/-- A list of texts that is read. -/
def RdT (w : World) (lo hi : Nat) (v : Value) (l : List ByteArray) : Prop := RdG lo hi 1 v l.length fun k b o => ∃ x, l[k]? = some x ∧ w.cell? ⟨b, o, none⟩ = some (.string x)
theorem RdT.same {w w' : World} {lo hi : Nat} {v : Value} {l : List ByteArray} (h : RdT w lo hi v l) (hs : Same lo hi w w') : RdT w' lo hi v l := h.imp (Nat.le_refl _) (Nat.le_refl _) fun _ _ _ hl hh ⟨x, hx, hv⟩ => ⟨x, hx, (hs.cell hl hh).trans hv⟩
theorem RdT.at {w : World} {lo hi n c k : Nat} {A : Option Addr} {l : List ByteArray} (h : RdT w lo hi (.slice A n c) l) (hk : k < n) : ∃ b off x, A = some ⟨b, off, none⟩ ∧ lo ≤ b ∧ b < hi ∧ l[k]? = some x ∧ w.cell? ⟨b, off + k, none⟩ = some (.string x) := by
  obtain ⟨A', c', e, hn, hc, hE⟩ := h
  injection e with e1 e2 e3
  subst e1 e2
  obtain ⟨b, off, ha, hl, hh, x, hx, h0⟩ := hE k hk
  exact ⟨b, off, x, ha, hl, hh, hx, by simpa using h0⟩
theorem rdT_new (w : World) (xs : List ByteArray) (t : TypeId) (h : xs.length ≤ maxLen) : RdT (w.alloc (.cells (xs.map Value.string).toArray t)) w.heap.size (w.heap.size + 1) (.slice (some ⟨w.heap.size, 0, none⟩) xs.length xs.length) xs := by
  refine ⟨_, _, rfl, Nat.le_refl _, h, fun k hk => ⟨_, _, rfl, Nat.le_refl _, Nat.lt_succ_self _, xs[k], List.getElem?_eq_getElem hk, ?_⟩⟩
  have h := box_new w (xs.map Value.string).toArray t k
  rw [Nat.zero_add, Nat.mul_one, h]
  simp [hk]
set_option maxRecDepth 20000 in
set_option maxHeartbeats 4000000 in
theorem spec_l1Int (xs : List Int) (x : Value) (w : World) (g : Nat) (hd : Dr w g) {hi : Nat} (hx : RdI w (g + 1) hi x xs) (hhi : hi ≤ w.heap.size) (h0 : 0 < xs.length) (h1 : xs.length ≤ 1000) :
    Calls Try.prog 66 #[.pointer (some ⟨g, 0, none⟩), x] w (DrP w g fun v _ => ∃ n, n ∈ xs ∧ v = .int .i64 n) := by
  obtain ⟨A, c, rfl, hl, hl2⟩ := hx.form
  go_enter Try.func66, Try.ntmps66
  go_wp2_with fail
  refine (spec_l1Below xs.length w g hd (by omega)).mono ?_
  rintro e w1 ⟨_, rfl, ⟨k, rfl, hk1, hk2⟩, hch, hd1⟩
  have hkl : k < xs.length := by have := hk1 (by omega); omega
  clear hk1 hk2
  obtain ⟨b, off, y, rfl, -, hbl, hyk, e0⟩ := (hx.same (.of_chg hch (.inr (Nat.le_refl _)) hhi)).at hkl
  have hm := Lib.hid (List.mem_of_getElem? hyk)
  clear hyk
  go_wp2_with fail
  go_ret
  exact ⟨_, rfl, ⟨y, hm.out, rfl⟩, hch, hd1⟩
set_option maxRecDepth 20000 in
set_option maxHeartbeats 4000000 in
theorem spec_l1Str (xs : List ByteArray) (x : Value) (w : World) (g : Nat) (hd : Dr w g) {hi : Nat} (hx : RdT w (g + 1) hi x xs) (hhi : hi ≤ w.heap.size) (h0 : 0 < xs.length) (h1 : xs.length ≤ 1000) :
    Calls Try.prog 112 #[.pointer (some ⟨g, 0, none⟩), x] w (DrP w g fun v _ => ∃ n, n ∈ xs ∧ v = .string n) := by
  obtain ⟨A, c, rfl, hl, hl2⟩ := hx.form
  go_enter Try.func112, Try.ntmps112
  go_wp2_with fail
  refine (spec_l1Below xs.length w g hd (by omega)).mono ?_
  rintro e w1 ⟨_, rfl, ⟨k, rfl, hk1, hk2⟩, hch, hd1⟩
  have hkl : k < xs.length := by have := hk1 (by omega); omega
  clear hk1 hk2
  obtain ⟨b, off, y, rfl, -, hbl, hyk, e0⟩ := (hx.same (.of_chg hch (.inr (Nat.le_refl _)) hhi)).at hkl
  have hm := Lib.hid (List.mem_of_getElem? hyk)
  clear hyk
  go_wp2_with fail
  go_ret
  exact ⟨_, rfl, ⟨y, hm.out, rfl⟩, hch, hd1⟩
end Go.Proofs.Ytnldneogjdljkaa
