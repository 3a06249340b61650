/- The law FnExactZoneOf: its walk, out of the contracts of what it calls. -/
import Derived.Test.YtphbkghokhlnbaaZ1
import Derived.Test.YtphbkghokhlnbaaZ2
import Derived.Test.YtphbkghokhlnbaaLZ
import Derived.Test.YtphbkghokhlnbaaL2
import Derived.Test.YtphbkghokhlnbaaL3
namespace Go.Proofs.Ytphbkghokhlnbaa
open Go.ChangeShapes Go.WideShapes Go.ChangeAt Go.RowKit Go.Lb

set_option maxRecDepth 20000 in
set_option maxHeartbeats 4000000 in
theorem wZoneOf (aL : List V) (aL_s : Value) (w : World) (H_aL_s : RdV w 0 w.heap.size aL_s aL) (c0_aL : ∀ v ∈ aL, v.s.size ≤ maxLen) :
    Calls Try.prog 8 #[aL_s] w fun e w' => e = .returned (.bool true) ∧ Below w.heap.size w w' := by
  have C0_aL := Lib.hid c0_aL
  clear c0_aL
  have hB : Below w.heap.size w w := Below.refl _ _
  go_enter Try.func8, Try.ntmps8
  go_wp2_with fail
  refine (szValS_c aL aL_s 1048576 _ (H_aL_s) (by omega) C0_aL.out (by omega) (by omega)).mono ?_
  rintro e w1 ⟨rfl, hb⟩
  have b0 : Below w.heap.size w w1 := hb
  have z0 := b0.size
  replace H_aL_s := H_aL_s.below b0 (by omega)
  replace hB := hB.trans (b0.mono hB.size)
  clear hb b0
  have L0 := szValS_le aL 1048576 (by omega) (by omega)
  have T_aL := szValS_bd aL 1048576 (by omega) (by omega)
  generalize szValS aL 1048576 = m0 at *
  by_cases h0 : m0 < 0
  · go_wp2_with fail
    go_ret
    exact ⟨rfl, hB⟩
  replace T_aL := T_aL h0
  go_wp2_with fail
  refine (toValS_c aL aL_s _ (H_aL_s) (by omega) T_aL).mono ?_
  rintro e w2 ⟨n1, rfl, H_n1, hb⟩
  have b1 : Below w1.heap.size w1 w2 := hb
  have z1 := b1.size
  replace H_aL_s := H_aL_s.below b1 (by omega)
  replace hB := hB.trans (b1.mono hB.size)
  clear hb b1
  go_wp2_with fail
  refine (spec_ZoneOf aL n1 _ (H_n1.rdV) (by omega) ).mono ?_
  rintro e w3 ⟨rfl, hb⟩
  have b2 : Below w2.heap.size w2 w3 := hb
  have z2 := b2.size
  replace H_aL_s := H_aL_s.below b2 (by omega)
  replace H_n1 := H_n1.below b2 (by omega)
  replace hB := hB.trans (b2.mono hB.size)
  clear hb b2
  go_wp2_with fail
  refine (toValS_c aL aL_s _ (RdV.below (H_aL_s) (up_a1 w3 _ ) (by omega)) (by simp only [World.size_alloc]; omega) T_aL).mono ?_
  rintro e w4 ⟨n3, rfl, H_n3, hb⟩
  replace H_n3 := H_n3.more (lo' := w3.heap.size) (by simp <;> omega) (Nat.le_refl _)
  have b3 : Below w3.heap.size w3 w4 := below_a1 hb
  have z3 : w3.heap.size + 1 ≤ w4.heap.size := by have h := hb.size; simpa [Nat.add_assoc] using h
  replace H_aL_s := H_aL_s.below b3 (by omega)
  replace H_n1 := H_n1.below b3 (by omega)
  have X_w0 : ∀ o, w4.cell? ⟨w3.heap.size, o, none⟩ = (#[.int .i64 (zoneOf aL).lo.ty, .int .i64 (zoneOf aL).lo.n, .string (zoneOf aL).lo.s, .int .i64 (zoneOf aL).hi.ty, .int .i64 (zoneOf aL).hi.n, .string (zoneOf aL).hi.s] : Array Value)[o]? := by
    intro o
    have h := box_new w3 #[.int .i64 (zoneOf aL).lo.ty, .int .i64 (zoneOf aL).lo.n, .string (zoneOf aL).lo.s, .int .i64 (zoneOf aL).hi.ty, .int .i64 (zoneOf aL).hi.n, .string (zoneOf aL).hi.s] 34 o
    replace h := (hb.cell (p := ⟨_, o, none⟩) (by simp <;> omega)).trans h
    simpa [Nat.add_assoc] using h
  have Y_w0 : w3.heap.size < w4.heap.size := by omega
  replace hB := hB.trans (b3.mono hB.size)
  clear hb b3
  go_wp2_with fail
  refine (impl_ZoneOf aL n3 _ (H_n3.rdV) (by omega) ).mono ?_
  rintro e w5 ⟨rfl, hb⟩
  have b4 : Below w4.heap.size w4 w5 := hb
  have z4 := b4.size
  replace H_aL_s := H_aL_s.below b4 (by omega)
  replace H_n1 := H_n1.below b4 (by omega)
  replace H_n3 := H_n3.below b4 (by omega)
  replace X_w0 := box_keep X_w0 b4 (by omega)
  replace Y_w0 : w3.heap.size < w5.heap.size := by omega
  replace hB := hB.trans (b4.mono hB.size)
  clear hb b4
  go_wp2_with fail
  refine (eqZone_c ((zoneOf aL)) ((zoneOf aL)) _ ).mono ?_
  rintro e w6 ⟨rfl, hb⟩
  have b5 : Below w5.heap.size w5 w6 := below_a1 hb
  have z5 : w5.heap.size + 1 ≤ w6.heap.size := by have h := hb.size; simpa [Nat.add_assoc] using h
  replace H_aL_s := H_aL_s.below b5 (by omega)
  replace H_n1 := H_n1.below b5 (by omega)
  replace H_n3 := H_n3.below b5 (by omega)
  replace X_w0 := box_keep X_w0 b5 (by omega)
  replace Y_w0 : w3.heap.size < w6.heap.size := by omega
  have X_g0 : ∀ o, w6.cell? ⟨w5.heap.size, o, none⟩ = (#[.int .i64 (zoneOf aL).lo.ty, .int .i64 (zoneOf aL).lo.n, .string (zoneOf aL).lo.s, .int .i64 (zoneOf aL).hi.ty, .int .i64 (zoneOf aL).hi.n, .string (zoneOf aL).hi.s] : Array Value)[o]? := by
    intro o
    have h := box_new w5 #[.int .i64 (zoneOf aL).lo.ty, .int .i64 (zoneOf aL).lo.n, .string (zoneOf aL).lo.s, .int .i64 (zoneOf aL).hi.ty, .int .i64 (zoneOf aL).hi.n, .string (zoneOf aL).hi.s] 34 o
    replace h := (hb.cell (p := ⟨_, o, none⟩) (by simp <;> omega)).trans h
    simpa [Nat.add_assoc] using h
  have Y_g0 : w5.heap.size < w6.heap.size := by omega
  replace hB := hB.trans (b5.mono hB.size)
  clear hb b5
  simp only [eqd_self]
  go_wp2_with fail
  refine (toValS_c aL aL_s _ (H_aL_s) (by omega) T_aL).mono ?_
  rintro e w7 ⟨n6, rfl, H_n6, hb⟩
  have b6 : Below w6.heap.size w6 w7 := hb
  have z6 := b6.size
  replace H_aL_s := H_aL_s.below b6 (by omega)
  replace H_n1 := H_n1.below b6 (by omega)
  replace H_n3 := H_n3.below b6 (by omega)
  replace X_w0 := box_keep X_w0 b6 (by omega)
  replace Y_w0 : w3.heap.size < w7.heap.size := by omega
  replace X_g0 := box_keep X_g0 b6 (by omega)
  replace Y_g0 : w5.heap.size < w7.heap.size := by omega
  replace hB := hB.trans (b6.mono hB.size)
  clear hb b6
  go_wp2_with fail
  refine (eqValS_c aL n3 aL n6 _ (H_n3.rdV) (by omega) (H_n6.rdV) (by omega)).mono ?_
  rintro e w8 ⟨rfl, hb⟩
  have b7 : Below w7.heap.size w7 w8 := hb
  have z7 := b7.size
  replace H_aL_s := H_aL_s.below b7 (by omega)
  replace H_n1 := H_n1.below b7 (by omega)
  replace H_n3 := H_n3.below b7 (by omega)
  replace H_n6 := H_n6.below b7 (by omega)
  replace X_w0 := box_keep X_w0 b7 (by omega)
  replace Y_w0 : w3.heap.size < w8.heap.size := by omega
  replace X_g0 := box_keep X_g0 b7 (by omega)
  replace Y_g0 : w5.heap.size < w8.heap.size := by omega
  replace hB := hB.trans (b7.mono hB.size)
  clear hb b7
  simp only [eqd_self]
  go_wp2_with fail
  go_ret
  exact ⟨rfl, hB⟩

end Go.Proofs.Ytphbkghokhlnbaa
