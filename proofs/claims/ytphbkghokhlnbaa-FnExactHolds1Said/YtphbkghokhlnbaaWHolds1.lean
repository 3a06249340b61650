/- The law FnExactHolds1: its walk, out of the contracts of what it calls. -/
import Derived.Test.YtphbkghokhlnbaaS4
namespace Go.Proofs.Ytphbkghokhlnbaa
open Go.ChangeShapes Go.WideShapes Go.ChangeAt Go.RowKit Go.Lb

set_option maxRecDepth 20000 in
set_option maxHeartbeats 4000000 in
theorem wHolds1 (aOp : Int) (aA : V) (aB : V) (w : World) (c0_aA : aA.s.size ≤ maxLen) (c0_aB : aB.s.size ≤ maxLen) :
    Calls Try.prog 6 #[.int .i64 aOp, .agg #[.int .i64 aA.ty, .int .i64 aA.n, .string aA.s], .agg #[.int .i64 aB.ty, .int .i64 aB.n, .string aB.s]] w fun e w' => e = .returned (.bool true) ∧ Below w.heap.size w w' := by
  have hB : Below w.heap.size w w := Below.refl _ _
  go_enter Try.func6, Try.ntmps6
  go_wp2_with fail
  refine (szVal_c aA 1048576 _  c0_aA (by omega) (by omega)).mono ?_
  rintro e w1 ⟨rfl, hb⟩
  have b0 : Below w.heap.size w w1 := below_a2 hb
  have z0 : w.heap.size + 2 ≤ w1.heap.size := by have h := hb.size; simpa [Nat.add_assoc] using h
  have X_aA : ∀ o, w1.cell? ⟨w.heap.size, o, none⟩ = (#[.int .i64 aA.ty, .int .i64 aA.n, .string aA.s] : Array Value)[o]? := by
    intro o
    have h := box_new w #[.int .i64 aA.ty, .int .i64 aA.n, .string aA.s] 26 o
    replace h := (World.cell?_alloc_lt (w.alloc (.cells #[.int .i64 aA.ty, .int .i64 aA.n, .string aA.s] 26)) (.cells #[.int .i64 aB.ty, .int .i64 aB.n, .string aB.s] 26) ⟨_, o, none⟩ (by simp <;> omega)).trans h
    replace h := (hb.cell (p := ⟨_, o, none⟩) (by simp <;> omega)).trans h
    simpa [Nat.add_assoc] using h
  have X_aB : ∀ o, w1.cell? ⟨w.heap.size + 1, o, none⟩ = (#[.int .i64 aB.ty, .int .i64 aB.n, .string aB.s] : Array Value)[o]? := by
    intro o
    have h := box_new (w.alloc (.cells #[.int .i64 aA.ty, .int .i64 aA.n, .string aA.s] 26)) #[.int .i64 aB.ty, .int .i64 aB.n, .string aB.s] 26 o
    replace h := (hb.cell (p := ⟨_, o, none⟩) (by simp <;> omega)).trans h
    simpa [Nat.add_assoc] using h
  replace hB := hB.trans (b0.mono hB.size)
  clear hb b0
  have L0 := szVal_le aA 1048576 (by omega) (by omega)
  have T_aA := szVal_bd aA 1048576 (by omega) (by omega)
  generalize szVal aA 1048576 = m0 at *
  by_cases h0 : m0 < 0
  · go_wp2_with fail
    go_ret
    exact ⟨rfl, hB⟩
  replace T_aA := T_aA h0
  go_wp2_with fail
  refine (szVal_c aB m0 _  c0_aB (by omega) L0).mono ?_
  rintro e w2 ⟨rfl, hb⟩
  have b1 : Below w1.heap.size w1 w2 := hb
  have z1 := b1.size
  replace X_aA := box_keep X_aA b1 (by omega)
  replace X_aB := box_keep X_aB b1 (by omega)
  replace hB := hB.trans (b1.mono hB.size)
  clear hb b1
  have L1 := szVal_le aB m0 (by omega) L0
  have T_aB := szVal_bd aB m0 (by omega) L0
  generalize szVal aB m0 = m1 at *
  by_cases h1 : m1 < 0
  · go_wp2_with fail
    go_ret
    exact ⟨rfl, hB⟩
  replace T_aB := T_aB h1
  have kS : ∀ A A' : World, (A.cell? ⟨w.heap.size, 0, none⟩ = some (.int .i64 aA.ty) ∧ A.cell? ⟨w.heap.size, 1, none⟩ = some (.int .i64 aA.n) ∧ A.cell? ⟨w.heap.size, 2, none⟩ = some (.string aA.s) ∧ A.cell? ⟨w.heap.size + 1, 0, none⟩ = some (.int .i64 aB.ty) ∧ A.cell? ⟨w.heap.size + 1, 1, none⟩ = some (.int .i64 aB.n) ∧ A.cell? ⟨w.heap.size + 1, 2, none⟩ = some (.string aB.s) ∧ Below w2.heap.size w2 A) → Below A.heap.size A A' → (A'.cell? ⟨w.heap.size, 0, none⟩ = some (.int .i64 aA.ty) ∧ A'.cell? ⟨w.heap.size, 1, none⟩ = some (.int .i64 aA.n) ∧ A'.cell? ⟨w.heap.size, 2, none⟩ = some (.string aA.s) ∧ A'.cell? ⟨w.heap.size + 1, 0, none⟩ = some (.int .i64 aB.ty) ∧ A'.cell? ⟨w.heap.size + 1, 1, none⟩ = some (.int .i64 aB.n) ∧ A'.cell? ⟨w.heap.size + 1, 2, none⟩ = some (.string aB.s) ∧ Below w2.heap.size w2 A') := by
    intro A A' h hb
    obtain ⟨h0, h1, h2, h3, h4, h5, hq⟩ := h
    have hs := hq.size
    exact ⟨(hb.cell (p := ⟨w.heap.size, 0, none⟩) (show w.heap.size < _ by omega)).trans h0, (hb.cell (p := ⟨w.heap.size, 1, none⟩) (show w.heap.size < _ by omega)).trans h1, (hb.cell (p := ⟨w.heap.size, 2, none⟩) (show w.heap.size < _ by omega)).trans h2, (hb.cell (p := ⟨w.heap.size + 1, 0, none⟩) (show w.heap.size + 1 < _ by omega)).trans h3, (hb.cell (p := ⟨w.heap.size + 1, 1, none⟩) (show w.heap.size + 1 < _ by omega)).trans h4, (hb.cell (p := ⟨w.heap.size + 1, 2, none⟩) (show w.heap.size + 1 < _ by omega)).trans h5, hq.trans (hb.mono hs)⟩
  have toB : ∀ A : World, (A.cell? ⟨w.heap.size, 0, none⟩ = some (.int .i64 aA.ty) ∧ A.cell? ⟨w.heap.size, 1, none⟩ = some (.int .i64 aA.n) ∧ A.cell? ⟨w.heap.size, 2, none⟩ = some (.string aA.s) ∧ A.cell? ⟨w.heap.size + 1, 0, none⟩ = some (.int .i64 aB.ty) ∧ A.cell? ⟨w.heap.size + 1, 1, none⟩ = some (.int .i64 aB.n) ∧ A.cell? ⟨w.heap.size + 1, 2, none⟩ = some (.string aB.s) ∧ Below w2.heap.size w2 A) → Below w2.heap.size w2 A := fun A h => h.2.2.2.2.2.2
  go_wp2_with fail
  go_region_held3 (fun w' => w'.cell? ⟨w.heap.size, 0, none⟩ = some (.int .i64 aA.ty) ∧ w'.cell? ⟨w.heap.size, 1, none⟩ = some (.int .i64 aA.n) ∧ w'.cell? ⟨w.heap.size, 2, none⟩ = some (.string aA.s) ∧ w'.cell? ⟨w.heap.size + 1, 0, none⟩ = some (.int .i64 aB.ty) ∧ w'.cell? ⟨w.heap.size + 1, 1, none⟩ = some (.int .i64 aB.n) ∧ w'.cell? ⟨w.heap.size + 1, 2, none⟩ = some (.string aB.s) ∧ Below w2.heap.size w2 w') (first | exact ⟨X_aA 0, X_aA 1, X_aA 2, X_aB 0, X_aB 1, X_aB 2, (Below.refl _ _).drew⟩ | (refine kS _ _ ?_ hq1; assumption) | (refine kS _ _ ?_ hq2; assumption) | (refine kS _ _ ?_ hq3; assumption)) (first
    | (go_at_call 23; ((with_reducible refine (toVal_c aA _  ).mono ?_); rintro e w3 ⟨rfl, hq1⟩))
    | (go_at_call 23; ((with_reducible refine (toVal_c aB _  ).mono ?_); rintro e w4 ⟨rfl, hq2⟩))
    | (go_at_call 25; ((with_reducible refine (spec_Holds1 aOp aA aB _  ).mono ?_); rintro e w5 ⟨rfl, hq3⟩)))
  clear kS toB
  replace hq1 := Below.undrew hq1
  have b2 : Below w2.heap.size w2 w3 := hq1
  have z2 := b2.size
  replace X_aA := box_keep X_aA b2 (by omega)
  replace X_aB := box_keep X_aB b2 (by omega)
  replace hB := hB.trans (b2.mono hB.size)
  clear hq1 b2
  have b3 : Below w3.heap.size w3 w4 := hq2
  have z3 := b3.size
  replace X_aA := box_keep X_aA b3 (by omega)
  replace X_aB := box_keep X_aB b3 (by omega)
  replace hB := hB.trans (b3.mono hB.size)
  clear hq2 b3
  have b4 : Below w4.heap.size w4 w5 := hq3
  have z4 := b4.size
  replace X_aA := box_keep X_aA b4 (by omega)
  replace X_aB := box_keep X_aB b4 (by omega)
  replace hB := hB.trans (b4.mono hB.size)
  clear hq3 b4
  have kS : ∀ A A' : World, (A.cell? ⟨w.heap.size, 0, none⟩ = some (.int .i64 aA.ty) ∧ A.cell? ⟨w.heap.size, 1, none⟩ = some (.int .i64 aA.n) ∧ A.cell? ⟨w.heap.size, 2, none⟩ = some (.string aA.s) ∧ A.cell? ⟨w.heap.size + 1, 0, none⟩ = some (.int .i64 aB.ty) ∧ A.cell? ⟨w.heap.size + 1, 1, none⟩ = some (.int .i64 aB.n) ∧ A.cell? ⟨w.heap.size + 1, 2, none⟩ = some (.string aB.s) ∧ Below w5.heap.size w5 A) → Below A.heap.size A A' → (A'.cell? ⟨w.heap.size, 0, none⟩ = some (.int .i64 aA.ty) ∧ A'.cell? ⟨w.heap.size, 1, none⟩ = some (.int .i64 aA.n) ∧ A'.cell? ⟨w.heap.size, 2, none⟩ = some (.string aA.s) ∧ A'.cell? ⟨w.heap.size + 1, 0, none⟩ = some (.int .i64 aB.ty) ∧ A'.cell? ⟨w.heap.size + 1, 1, none⟩ = some (.int .i64 aB.n) ∧ A'.cell? ⟨w.heap.size + 1, 2, none⟩ = some (.string aB.s) ∧ Below w5.heap.size w5 A') := by
    intro A A' h hb
    obtain ⟨h0, h1, h2, h3, h4, h5, hq⟩ := h
    have hs := hq.size
    exact ⟨(hb.cell (p := ⟨w.heap.size, 0, none⟩) (show w.heap.size < _ by omega)).trans h0, (hb.cell (p := ⟨w.heap.size, 1, none⟩) (show w.heap.size < _ by omega)).trans h1, (hb.cell (p := ⟨w.heap.size, 2, none⟩) (show w.heap.size < _ by omega)).trans h2, (hb.cell (p := ⟨w.heap.size + 1, 0, none⟩) (show w.heap.size + 1 < _ by omega)).trans h3, (hb.cell (p := ⟨w.heap.size + 1, 1, none⟩) (show w.heap.size + 1 < _ by omega)).trans h4, (hb.cell (p := ⟨w.heap.size + 1, 2, none⟩) (show w.heap.size + 1 < _ by omega)).trans h5, hq.trans (hb.mono hs)⟩
  have toB : ∀ A : World, (A.cell? ⟨w.heap.size, 0, none⟩ = some (.int .i64 aA.ty) ∧ A.cell? ⟨w.heap.size, 1, none⟩ = some (.int .i64 aA.n) ∧ A.cell? ⟨w.heap.size, 2, none⟩ = some (.string aA.s) ∧ A.cell? ⟨w.heap.size + 1, 0, none⟩ = some (.int .i64 aB.ty) ∧ A.cell? ⟨w.heap.size + 1, 1, none⟩ = some (.int .i64 aB.n) ∧ A.cell? ⟨w.heap.size + 1, 2, none⟩ = some (.string aB.s) ∧ Below w5.heap.size w5 A) → Below w5.heap.size w5 A := fun A h => h.2.2.2.2.2.2
  go_wp2_with fail
  go_region_held3 (fun w' => w'.cell? ⟨w.heap.size, 0, none⟩ = some (.int .i64 aA.ty) ∧ w'.cell? ⟨w.heap.size, 1, none⟩ = some (.int .i64 aA.n) ∧ w'.cell? ⟨w.heap.size, 2, none⟩ = some (.string aA.s) ∧ w'.cell? ⟨w.heap.size + 1, 0, none⟩ = some (.int .i64 aB.ty) ∧ w'.cell? ⟨w.heap.size + 1, 1, none⟩ = some (.int .i64 aB.n) ∧ w'.cell? ⟨w.heap.size + 1, 2, none⟩ = some (.string aB.s) ∧ Below w5.heap.size w5 w') (first | exact ⟨X_aA 0, X_aA 1, X_aA 2, X_aB 0, X_aB 1, X_aB 2, (Below.refl _ _).drew⟩ | (refine kS _ _ ?_ hq1; assumption) | (refine kS _ _ ?_ hq2; assumption) | (refine kS _ _ ?_ hq3; assumption)) (first
    | (go_at_call 23; ((with_reducible refine (toVal_c aA _  ).mono ?_); rintro e w6 ⟨rfl, hq1⟩))
    | (go_at_call 23; ((with_reducible refine (toVal_c aB _  ).mono ?_); rintro e w7 ⟨rfl, hq2⟩))
    | (go_at_call 26; ((with_reducible refine (impl_Holds1 aOp aA aB _  ).mono ?_); rintro e w8 ⟨rfl, hq3⟩)))
  clear kS toB
  replace hq1 := Below.undrew hq1
  have b5 : Below w5.heap.size w5 w6 := hq1
  have z5 := b5.size
  replace X_aA := box_keep X_aA b5 (by omega)
  replace X_aB := box_keep X_aB b5 (by omega)
  replace hB := hB.trans (b5.mono hB.size)
  clear hq1 b5
  have b6 : Below w6.heap.size w6 w7 := hq2
  have z6 := b6.size
  replace X_aA := box_keep X_aA b6 (by omega)
  replace X_aB := box_keep X_aB b6 (by omega)
  replace hB := hB.trans (b6.mono hB.size)
  clear hq2 b6
  have b7 : Below w7.heap.size w7 w8 := hq3
  have z7 := b7.size
  replace X_aA := box_keep X_aA b7 (by omega)
  replace X_aB := box_keep X_aB b7 (by omega)
  replace hB := hB.trans (b7.mono hB.size)
  clear hq3 b7
  go_wp2_with fail
  go_ret
  exact ⟨rfl, hB⟩

end Go.Proofs.Ytphbkghokhlnbaa
