/- The laws' byte of a code at a place: its contract. -/
import Derived.Test.YtidmlfjolhnnfaaGreatDoorXL
namespace Go.Proofs.YtidmlfjolhnnfaaGreatDoor
open Go.Sort Go.ChangeShapes Go.WideShapes Go.ChangeAt Go.RowKit Go.Lb
set_option maxHeartbeats 1000000 in
theorem law_at (code : List UInt8) (x : Value) (w : World) {lo hi : Nat} (hx : RdB w lo hi x code) (_hhi : hi ≤ w.heap.size) (hn : code.length ≤ 1048576) :
    Calls Tryz.prog 6 #[x, .int .i64 4] w fun e w' => ∃ n : Nat, e = .returned (.int .i64 n) ∧ n < 256 ∧ w' = w := by
  obtain ⟨A, c, rfl, -, -⟩ := hx.form
  by_cases h : 4 < code.length
  · obtain ⟨b, off, u, rfl, -, hbl, hu, e0⟩ := hx.at h
    have hd : decide ((4 : Int) < (code.length : Int)) = true := decide_eq_true (by omega)
    have hu4 := u.toNat_lt
    have hw : IntKind.i64.wrap (u.toNat : Int) = (u.toNat : Int) := IntWalk.i64_in _ ⟨by omega, by omega⟩
    clear hu
    go_enter Tryz.func6, Tryz.ntmps6
    go_wp2_with fail
    go_ret
    exact ⟨u.toNat, rfl, by omega, rfl⟩
  · have hd : decide ((4 : Int) < (code.length : Int)) = false := decide_eq_false (by omega)
    have hw1 : IntKind.i64.wrap ((code.length : Int) * 7) = (code.length : Int) * 7 := IntWalk.i64_in _ ⟨by omega, by omega⟩
    have hw2 : IntKind.i64.wrap (124 + (code.length : Int) * 7) = 124 + (code.length : Int) * 7 := IntWalk.i64_in _ ⟨by omega, by omega⟩
    go_enter Tryz.func6, Tryz.ntmps6
    go_wp2_with fail
    go_ret
    exact ⟨(124 + code.length * 7) % 256, ret_int (by omega), by omega, rfl⟩
end Go.Proofs.YtidmlfjolhnnfaaGreatDoor
