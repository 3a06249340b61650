/- Draws: a cursor made, values. -/
import Derived.Test.YtnldneogjdljkaaD2
namespace Go.Proofs.Ytnldneogjdljkaa
open Go.Sort Go.ChangeShapes Go.WideShapes Go.ChangeAt Go.RowKit Go.Lb

set_option maxRecDepth 20000 in
set_option maxHeartbeats 4000000 in
theorem spec_l1New (code : List UInt8) (x : Value) (w : World) {lo hi : Nat} (hx : RdB w lo hi x code) (hhi : hi ≤ w.heap.size) (hn : code.length ≤ 1048576) :
    Calls Try.prog 63 #[x] w fun e w' => ∃ g, e = .returned (.pointer (some ⟨g, 0, none⟩)) ∧ w.heap.size ≤ g ∧ Below w.heap.size w w' ∧ Dr w' g := by
  obtain ⟨A, c, rfl, hl, hl2⟩ := hx.form
  have hx0 := Lib.hid hx
  go_enter Try.func63, Try.ntmps63
  go_wp2_with fail
  go_loopw [4, 3] (fun i h wr => ∃ (k : Nat) (h' : Int), i = .int .i64 k ∧ k ≤ code.length ∧ h = .int .i64 h' ∧ 0 ≤ h' ∧ h' ≤ 1073741823 ∧ Below w.heap.size w wr) (fun i _ _ => code.length - (intOf i).toNat)
  case atStart => exact ⟨0, _, rfl, by omega, rfl, by omega, by omega, Below.refl _ _⟩
  case round =>
    obtain ⟨k, h', rfl, hk, rfl, hh0, hh1, hb⟩ := hrel
    by_cases hkl : k < code.length ∧ k < 4000
    · obtain ⟨hk1, hk2⟩ := hkl
      obtain ⟨b, off, y, rfl, -, hbl, hyk, e0⟩ := (hx.below hb hhi).at hk1
      have hy : (y.toNat : Int) ≤ 255 := by have := y.toNat_lt; omega
      clear hyk
      go_wp2_with fail
      go_roundw
      case rel => exact ⟨k + 1, _, by go_num, by omega, rfl, (bits_and_le _ 1073741823 (by decide) (by decide)).1, (bits_and_le _ 1073741823 (by decide) (by decide)).2, hb⟩
      case measure => simp [intOf]; omega
    · have Hend : ∀ (w' : World), w' = wr.alloc (.cells #[.slice A code.length c, .int .i64 0, .int .i64 h'] 96) → ∃ g, (Value.pointer (some ⟨wr.heap.size, 0, none⟩)) = (.pointer (some ⟨g, 0, none⟩)) ∧ w.heap.size ≤ g ∧ Below w.heap.size w w' ∧ Dr w' g := by
        rintro _ rfl
        exact ⟨_, rfl, hb.size, hb.alloc hb.size _, code, A, c, 0, h', (hx0.out.below (hb.trans ((up_a1 wr _).mono hb.size)) hhi).more (Nat.zero_le _) (by have := hb.size; omega), by omega, heap_alloc_new _ _⟩
      have Hend := Lib.hid Hend
      by_cases hk1 : k < code.length
      · have hk2 : ¬ k < 4000 := fun h => hkl ⟨hk1, h⟩
        go_wp2_with fail
        go_ret
        obtain ⟨g, hg, h1, h2, h3⟩ := Hend.out _ rfl
        exact ⟨g, congrArg _ hg, h1, h2, h3⟩
      · go_wp2_with fail
        go_ret
        obtain ⟨g, hg, h1, h2, h3⟩ := Hend.out _ rfl
        exact ⟨g, congrArg _ hg, h1, h2, h3⟩
end Go.Proofs.Ytnldneogjdljkaa
