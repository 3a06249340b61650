/- The law FnExactMayHold1: its walk, out of the contracts of what it calls. -/
import Derived.Test.YtphbkghokhlnbaaS5
import Derived.Test.YtphbkghokhlnbaaLZ
namespace Go.Proofs.Ytphbkghokhlnbaa
open Go.ChangeShapes Go.WideShapes Go.ChangeAt Go.RowKit Go.Lb

set_option maxRecDepth 20000 in
set_option maxHeartbeats 4000000 in
theorem wMayHold1 (aOp : Int) (aZ : Z) (aV : V) (w : World) (c0_aZ : aZ.lo.s.size ≤ maxLen) (c1_aZ : aZ.hi.s.size ≤ maxLen) (c0_aV : aV.s.size ≤ maxLen) :
    Calls Try.prog 7 #[.int .i64 aOp, .agg #[.int .i64 aZ.lo.ty, .int .i64 aZ.lo.n, .string aZ.lo.s, .int .i64 aZ.hi.ty, .int .i64 aZ.hi.n, .string aZ.hi.s], .agg #[.int .i64 aV.ty, .int .i64 aV.n, .string aV.s]] w fun e w' => e = .returned (.bool true) ∧ Below w.heap.size w w' := by
  have hB : Below w.heap.size w w := Below.refl _ _
  go_enter Try.func7, Try.ntmps7
  go_wp2_with fail
  refine (szZone_c aZ 1048576 _  c0_aZ c1_aZ (by omega) (by omega)).mono ?_
  rintro e w1 ⟨rfl, hb⟩
  have b0 : Below w.heap.size w w1 := below_a2 hb
  have z0 : w.heap.size + 2 ≤ w1.heap.size := by have h := hb.size; simpa [Nat.add_assoc] using h
  have X_aZ : ∀ o, w1.cell? ⟨w.heap.size, o, none⟩ = (#[.int .i64 aZ.lo.ty, .int .i64 aZ.lo.n, .string aZ.lo.s, .int .i64 aZ.hi.ty, .int .i64 aZ.hi.n, .string aZ.hi.s] : Array Value)[o]? := by
    intro o
    have h := box_new w #[.int .i64 aZ.lo.ty, .int .i64 aZ.lo.n, .string aZ.lo.s, .int .i64 aZ.hi.ty, .int .i64 aZ.hi.n, .string aZ.hi.s] 28 o
    replace h := (World.cell?_alloc_lt (w.alloc (.cells #[.int .i64 aZ.lo.ty, .int .i64 aZ.lo.n, .string aZ.lo.s, .int .i64 aZ.hi.ty, .int .i64 aZ.hi.n, .string aZ.hi.s] 28)) (.cells #[.int .i64 aV.ty, .int .i64 aV.n, .string aV.s] 26) ⟨_, o, none⟩ (by simp <;> omega)).trans h
    replace h := (hb.cell (p := ⟨_, o, none⟩) (by simp <;> omega)).trans h
    simpa [Nat.add_assoc] using h
  have X_aV : ∀ o, w1.cell? ⟨w.heap.size + 1, o, none⟩ = (#[.int .i64 aV.ty, .int .i64 aV.n, .string aV.s] : Array Value)[o]? := by
    intro o
    have h := box_new (w.alloc (.cells #[.int .i64 aZ.lo.ty, .int .i64 aZ.lo.n, .string aZ.lo.s, .int .i64 aZ.hi.ty, .int .i64 aZ.hi.n, .string aZ.hi.s] 28)) #[.int .i64 aV.ty, .int .i64 aV.n, .string aV.s] 26 o
    replace h := (hb.cell (p := ⟨_, o, none⟩) (by simp <;> omega)).trans h
    simpa [Nat.add_assoc] using h
  replace hB := hB.trans (b0.mono hB.size)
  clear hb b0
  have L0 := szZone_le aZ 1048576 (by omega) (by omega)
  have T_aZ := szZone_bd aZ 1048576 (by omega) (by omega)
  generalize szZone aZ 1048576 = m0 at *
  by_cases h0 : m0 < 0
  · go_wp2_with fail
    go_ret
    exact ⟨rfl, hB⟩
  replace T_aZ := T_aZ h0
  go_wp2_with fail
  refine (szVal_c aV m0 _  c0_aV (by omega) L0).mono ?_
  rintro e w2 ⟨rfl, hb⟩
  have b1 : Below w1.heap.size w1 w2 := hb
  have z1 := b1.size
  replace X_aZ := box_keep X_aZ b1 (by omega)
  replace X_aV := box_keep X_aV b1 (by omega)
  replace hB := hB.trans (b1.mono hB.size)
  clear hb b1
  have L1 := szVal_le aV m0 (by omega) L0
  have T_aV := szVal_bd aV m0 (by omega) L0
  generalize szVal aV m0 = m1 at *
  by_cases h1 : m1 < 0
  · go_wp2_with fail
    go_ret
    exact ⟨rfl, hB⟩
  replace T_aV := T_aV h1
  have kS : ∀ A A' : World, (A.cell? ⟨w.heap.size, 0, none⟩ = some (.int .i64 aZ.lo.ty) ∧ A.cell? ⟨w.heap.size, 1, none⟩ = some (.int .i64 aZ.lo.n) ∧ A.cell? ⟨w.heap.size, 2, none⟩ = some (.string aZ.lo.s) ∧ A.cell? ⟨w.heap.size, 3, none⟩ = some (.int .i64 aZ.hi.ty) ∧ A.cell? ⟨w.heap.size, 4, none⟩ = some (.int .i64 aZ.hi.n) ∧ A.cell? ⟨w.heap.size, 5, none⟩ = some (.string aZ.hi.s) ∧ A.cell? ⟨w.heap.size + 1, 0, none⟩ = some (.int .i64 aV.ty) ∧ A.cell? ⟨w.heap.size + 1, 1, none⟩ = some (.int .i64 aV.n) ∧ A.cell? ⟨w.heap.size + 1, 2, none⟩ = some (.string aV.s) ∧ Below w2.heap.size w2 A) → Below A.heap.size A A' → (A'.cell? ⟨w.heap.size, 0, none⟩ = some (.int .i64 aZ.lo.ty) ∧ A'.cell? ⟨w.heap.size, 1, none⟩ = some (.int .i64 aZ.lo.n) ∧ A'.cell? ⟨w.heap.size, 2, none⟩ = some (.string aZ.lo.s) ∧ A'.cell? ⟨w.heap.size, 3, none⟩ = some (.int .i64 aZ.hi.ty) ∧ A'.cell? ⟨w.heap.size, 4, none⟩ = some (.int .i64 aZ.hi.n) ∧ A'.cell? ⟨w.heap.size, 5, none⟩ = some (.string aZ.hi.s) ∧ A'.cell? ⟨w.heap.size + 1, 0, none⟩ = some (.int .i64 aV.ty) ∧ A'.cell? ⟨w.heap.size + 1, 1, none⟩ = some (.int .i64 aV.n) ∧ A'.cell? ⟨w.heap.size + 1, 2, none⟩ = some (.string aV.s) ∧ Below w2.heap.size w2 A') := by
    intro A A' h hb
    obtain ⟨h0, h1, h2, h3, h4, h5, h6, h7, h8, hq⟩ := h
    have hs := hq.size
    exact ⟨(hb.cell (p := ⟨w.heap.size, 0, none⟩) (show w.heap.size < _ by omega)).trans h0, (hb.cell (p := ⟨w.heap.size, 1, none⟩) (show w.heap.size < _ by omega)).trans h1, (hb.cell (p := ⟨w.heap.size, 2, none⟩) (show w.heap.size < _ by omega)).trans h2, (hb.cell (p := ⟨w.heap.size, 3, none⟩) (show w.heap.size < _ by omega)).trans h3, (hb.cell (p := ⟨w.heap.size, 4, none⟩) (show w.heap.size < _ by omega)).trans h4, (hb.cell (p := ⟨w.heap.size, 5, none⟩) (show w.heap.size < _ by omega)).trans h5, (hb.cell (p := ⟨w.heap.size + 1, 0, none⟩) (show w.heap.size + 1 < _ by omega)).trans h6, (hb.cell (p := ⟨w.heap.size + 1, 1, none⟩) (show w.heap.size + 1 < _ by omega)).trans h7, (hb.cell (p := ⟨w.heap.size + 1, 2, none⟩) (show w.heap.size + 1 < _ by omega)).trans h8, hq.trans (hb.mono hs)⟩
  have toB : ∀ A : World, (A.cell? ⟨w.heap.size, 0, none⟩ = some (.int .i64 aZ.lo.ty) ∧ A.cell? ⟨w.heap.size, 1, none⟩ = some (.int .i64 aZ.lo.n) ∧ A.cell? ⟨w.heap.size, 2, none⟩ = some (.string aZ.lo.s) ∧ A.cell? ⟨w.heap.size, 3, none⟩ = some (.int .i64 aZ.hi.ty) ∧ A.cell? ⟨w.heap.size, 4, none⟩ = some (.int .i64 aZ.hi.n) ∧ A.cell? ⟨w.heap.size, 5, none⟩ = some (.string aZ.hi.s) ∧ A.cell? ⟨w.heap.size + 1, 0, none⟩ = some (.int .i64 aV.ty) ∧ A.cell? ⟨w.heap.size + 1, 1, none⟩ = some (.int .i64 aV.n) ∧ A.cell? ⟨w.heap.size + 1, 2, none⟩ = some (.string aV.s) ∧ Below w2.heap.size w2 A) → Below w2.heap.size w2 A := fun A h => h.2.2.2.2.2.2.2.2.2
  go_wp2_with fail
  go_region_held3 (fun w' => w'.cell? ⟨w.heap.size, 0, none⟩ = some (.int .i64 aZ.lo.ty) ∧ w'.cell? ⟨w.heap.size, 1, none⟩ = some (.int .i64 aZ.lo.n) ∧ w'.cell? ⟨w.heap.size, 2, none⟩ = some (.string aZ.lo.s) ∧ w'.cell? ⟨w.heap.size, 3, none⟩ = some (.int .i64 aZ.hi.ty) ∧ w'.cell? ⟨w.heap.size, 4, none⟩ = some (.int .i64 aZ.hi.n) ∧ w'.cell? ⟨w.heap.size, 5, none⟩ = some (.string aZ.hi.s) ∧ w'.cell? ⟨w.heap.size + 1, 0, none⟩ = some (.int .i64 aV.ty) ∧ w'.cell? ⟨w.heap.size + 1, 1, none⟩ = some (.int .i64 aV.n) ∧ w'.cell? ⟨w.heap.size + 1, 2, none⟩ = some (.string aV.s) ∧ Below w2.heap.size w2 w') (first | exact ⟨X_aZ 0, X_aZ 1, X_aZ 2, X_aZ 3, X_aZ 4, X_aZ 5, X_aV 0, X_aV 1, X_aV 2, (Below.refl _ _).drew⟩ | (refine kS _ _ ?_ hq1; assumption) | (refine kS _ _ ?_ hq2; assumption) | (refine kS _ _ ?_ hq3; assumption)) (first
    | (go_at_call 22; ((with_reducible refine (toZone_c aZ _  ).mono ?_); rintro e w3 ⟨rfl, hq1⟩))
    | (go_at_call 23; ((with_reducible refine (toVal_c aV _  ).mono ?_); rintro e w4 ⟨rfl, hq2⟩))
    | (go_at_call 27; ((with_reducible refine (spec_MayHold1 aOp aZ aV _  ).mono ?_); rintro e w5 ⟨rfl, hq3⟩)))
  clear kS toB
  replace hq1 := Below.undrew hq1
  have b2 : Below w2.heap.size w2 w3 := hq1
  have z2 := b2.size
  replace X_aZ := box_keep X_aZ b2 (by omega)
  replace X_aV := box_keep X_aV b2 (by omega)
  replace hB := hB.trans (b2.mono hB.size)
  clear hq1 b2
  have b3 : Below w3.heap.size w3 w4 := hq2
  have z3 := b3.size
  replace X_aZ := box_keep X_aZ b3 (by omega)
  replace X_aV := box_keep X_aV b3 (by omega)
  replace hB := hB.trans (b3.mono hB.size)
  clear hq2 b3
  have b4 : Below w4.heap.size w4 w5 := hq3
  have z4 := b4.size
  replace X_aZ := box_keep X_aZ b4 (by omega)
  replace X_aV := box_keep X_aV b4 (by omega)
  replace hB := hB.trans (b4.mono hB.size)
  clear hq3 b4
  have kS : ∀ A A' : World, (A.cell? ⟨w.heap.size, 0, none⟩ = some (.int .i64 aZ.lo.ty) ∧ A.cell? ⟨w.heap.size, 1, none⟩ = some (.int .i64 aZ.lo.n) ∧ A.cell? ⟨w.heap.size, 2, none⟩ = some (.string aZ.lo.s) ∧ A.cell? ⟨w.heap.size, 3, none⟩ = some (.int .i64 aZ.hi.ty) ∧ A.cell? ⟨w.heap.size, 4, none⟩ = some (.int .i64 aZ.hi.n) ∧ A.cell? ⟨w.heap.size, 5, none⟩ = some (.string aZ.hi.s) ∧ A.cell? ⟨w.heap.size + 1, 0, none⟩ = some (.int .i64 aV.ty) ∧ A.cell? ⟨w.heap.size + 1, 1, none⟩ = some (.int .i64 aV.n) ∧ A.cell? ⟨w.heap.size + 1, 2, none⟩ = some (.string aV.s) ∧ Below w5.heap.size w5 A) → Below A.heap.size A A' → (A'.cell? ⟨w.heap.size, 0, none⟩ = some (.int .i64 aZ.lo.ty) ∧ A'.cell? ⟨w.heap.size, 1, none⟩ = some (.int .i64 aZ.lo.n) ∧ A'.cell? ⟨w.heap.size, 2, none⟩ = some (.string aZ.lo.s) ∧ A'.cell? ⟨w.heap.size, 3, none⟩ = some (.int .i64 aZ.hi.ty) ∧ A'.cell? ⟨w.heap.size, 4, none⟩ = some (.int .i64 aZ.hi.n) ∧ A'.cell? ⟨w.heap.size, 5, none⟩ = some (.string aZ.hi.s) ∧ A'.cell? ⟨w.heap.size + 1, 0, none⟩ = some (.int .i64 aV.ty) ∧ A'.cell? ⟨w.heap.size + 1, 1, none⟩ = some (.int .i64 aV.n) ∧ A'.cell? ⟨w.heap.size + 1, 2, none⟩ = some (.string aV.s) ∧ Below w5.heap.size w5 A') := by
    intro A A' h hb
    obtain ⟨h0, h1, h2, h3, h4, h5, h6, h7, h8, hq⟩ := h
    have hs := hq.size
    exact ⟨(hb.cell (p := ⟨w.heap.size, 0, none⟩) (show w.heap.size < _ by omega)).trans h0, (hb.cell (p := ⟨w.heap.size, 1, none⟩) (show w.heap.size < _ by omega)).trans h1, (hb.cell (p := ⟨w.heap.size, 2, none⟩) (show w.heap.size < _ by omega)).trans h2, (hb.cell (p := ⟨w.heap.size, 3, none⟩) (show w.heap.size < _ by omega)).trans h3, (hb.cell (p := ⟨w.heap.size, 4, none⟩) (show w.heap.size < _ by omega)).trans h4, (hb.cell (p := ⟨w.heap.size, 5, none⟩) (show w.heap.size < _ by omega)).trans h5, (hb.cell (p := ⟨w.heap.size + 1, 0, none⟩) (show w.heap.size + 1 < _ by omega)).trans h6, (hb.cell (p := ⟨w.heap.size + 1, 1, none⟩) (show w.heap.size + 1 < _ by omega)).trans h7, (hb.cell (p := ⟨w.heap.size + 1, 2, none⟩) (show w.heap.size + 1 < _ by omega)).trans h8, hq.trans (hb.mono hs)⟩
  have toB : ∀ A : World, (A.cell? ⟨w.heap.size, 0, none⟩ = some (.int .i64 aZ.lo.ty) ∧ A.cell? ⟨w.heap.size, 1, none⟩ = some (.int .i64 aZ.lo.n) ∧ A.cell? ⟨w.heap.size, 2, none⟩ = some (.string aZ.lo.s) ∧ A.cell? ⟨w.heap.size, 3, none⟩ = some (.int .i64 aZ.hi.ty) ∧ A.cell? ⟨w.heap.size, 4, none⟩ = some (.int .i64 aZ.hi.n) ∧ A.cell? ⟨w.heap.size, 5, none⟩ = some (.string aZ.hi.s) ∧ A.cell? ⟨w.heap.size + 1, 0, none⟩ = some (.int .i64 aV.ty) ∧ A.cell? ⟨w.heap.size + 1, 1, none⟩ = some (.int .i64 aV.n) ∧ A.cell? ⟨w.heap.size + 1, 2, none⟩ = some (.string aV.s) ∧ Below w5.heap.size w5 A) → Below w5.heap.size w5 A := fun A h => h.2.2.2.2.2.2.2.2.2
  go_wp2_with fail
  go_region_held3 (fun w' => w'.cell? ⟨w.heap.size, 0, none⟩ = some (.int .i64 aZ.lo.ty) ∧ w'.cell? ⟨w.heap.size, 1, none⟩ = some (.int .i64 aZ.lo.n) ∧ w'.cell? ⟨w.heap.size, 2, none⟩ = some (.string aZ.lo.s) ∧ w'.cell? ⟨w.heap.size, 3, none⟩ = some (.int .i64 aZ.hi.ty) ∧ w'.cell? ⟨w.heap.size, 4, none⟩ = some (.int .i64 aZ.hi.n) ∧ w'.cell? ⟨w.heap.size, 5, none⟩ = some (.string aZ.hi.s) ∧ w'.cell? ⟨w.heap.size + 1, 0, none⟩ = some (.int .i64 aV.ty) ∧ w'.cell? ⟨w.heap.size + 1, 1, none⟩ = some (.int .i64 aV.n) ∧ w'.cell? ⟨w.heap.size + 1, 2, none⟩ = some (.string aV.s) ∧ Below w5.heap.size w5 w') (first | exact ⟨X_aZ 0, X_aZ 1, X_aZ 2, X_aZ 3, X_aZ 4, X_aZ 5, X_aV 0, X_aV 1, X_aV 2, (Below.refl _ _).drew⟩ | (refine kS _ _ ?_ hq1; assumption) | (refine kS _ _ ?_ hq2; assumption) | (refine kS _ _ ?_ hq3; assumption)) (first
    | (go_at_call 22; ((with_reducible refine (toZone_c aZ _  ).mono ?_); rintro e w6 ⟨rfl, hq1⟩))
    | (go_at_call 23; ((with_reducible refine (toVal_c aV _  ).mono ?_); rintro e w7 ⟨rfl, hq2⟩))
    | (go_at_call 28; ((with_reducible refine (impl_MayHold1 aOp aZ aV _  ).mono ?_); rintro e w8 ⟨rfl, hq3⟩)))
  clear kS toB
  replace hq1 := Below.undrew hq1
  have b5 : Below w5.heap.size w5 w6 := hq1
  have z5 := b5.size
  replace X_aZ := box_keep X_aZ b5 (by omega)
  replace X_aV := box_keep X_aV b5 (by omega)
  replace hB := hB.trans (b5.mono hB.size)
  clear hq1 b5
  have b6 : Below w6.heap.size w6 w7 := hq2
  have z6 := b6.size
  replace X_aZ := box_keep X_aZ b6 (by omega)
  replace X_aV := box_keep X_aV b6 (by omega)
  replace hB := hB.trans (b6.mono hB.size)
  clear hq2 b6
  have b7 : Below w7.heap.size w7 w8 := hq3
  have z7 := b7.size
  replace X_aZ := box_keep X_aZ b7 (by omega)
  replace X_aV := box_keep X_aV b7 (by omega)
  replace hB := hB.trans (b7.mono hB.size)
  clear hq3 b7
  go_wp2_with fail
  go_ret
  exact ⟨rfl, hB⟩

end Go.Proofs.Ytphbkghokhlnbaa
