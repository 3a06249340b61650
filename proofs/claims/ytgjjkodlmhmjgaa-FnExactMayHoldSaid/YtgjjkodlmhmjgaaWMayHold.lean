/- The law FnExactMayHold: its walk, out of the contracts of what it calls. -/
import Derived.Test.YtgjjkodlmhmjgaaS33
import Derived.Test.YtgjjkodlmhmjgaaLP1
import Derived.Test.YtgjjkodlmhmjgaaLP2
import Derived.Test.YtgjjkodlmhmjgaaLP3
import Derived.Test.YtgjjkodlmhmjgaaLZS2
namespace Go.Proofs.Ytgjjkodlmhmjgaa
open Go.ChangeShapes Go.WideShapes Go.ChangeAt Go.RowKit Go.Lb

set_option maxRecDepth 20000 in
set_option maxHeartbeats 4000000 in
theorem wMayHold (aP : P) (aP_l : Value) (aZ : List Z) (aZ_s : Value) (w : World) (H_aP_l : RdP w 0 w.heap.size aP_l (aP.l)) (c0_aP : POk aP) (H_aZ_s : RdZ w 0 w.heap.size aZ_s aZ) (c0_aZ : ZsOk aZ) :
    Calls Try.prog 11 #[.agg #[.int .i64 aP.kind, .int .i64 aP.col, .int .i64 aP.op, .int .i64 aP.v.ty, .int .i64 aP.v.n, .string aP.v.s, aP_l], aZ_s] w fun e w' => e = .returned (.bool true) ∧ Below w.heap.size w w' := by
  have C0_aP := Lib.hid c0_aP
  clear c0_aP
  have C0_aZ := Lib.hid c0_aZ
  clear c0_aZ
  have hB : Below w.heap.size w w := Below.refl _ _
  go_enter Try.func11, Try.ntmps11
  go_wp2_with fail
  refine (szPred_c aP aP_l 1048576 _ (RdP.below (H_aP_l) (up_a1 w _ ) (by omega)) (by simp only [World.size_alloc]; omega) C0_aP.out (by omega) (by omega)).mono ?_
  rintro e w1 ⟨m0, rfl, L0, T_aP, hb⟩
  have b0 : Below w.heap.size w w1 := below_a1 hb
  have z0 : w.heap.size + 1 ≤ w1.heap.size := by have h := hb.size; simpa [Nat.add_assoc] using h
  replace H_aP_l := H_aP_l.below b0 (by omega)
  replace H_aZ_s := H_aZ_s.below b0 (by omega)
  have X_aP : ∀ o, w1.cell? ⟨w.heap.size, o, none⟩ = (#[.int .i64 aP.kind, .int .i64 aP.col, .int .i64 aP.op, .int .i64 aP.v.ty, .int .i64 aP.v.n, .string aP.v.s, aP_l] : Array Value)[o]? := by
    intro o
    have h := box_new w #[.int .i64 aP.kind, .int .i64 aP.col, .int .i64 aP.op, .int .i64 aP.v.ty, .int .i64 aP.v.n, .string aP.v.s, aP_l] 36 o
    replace h := (hb.cell (p := ⟨_, o, none⟩) (by simp <;> omega)).trans h
    simpa [Nat.add_assoc] using h
  have Y_aP : w.heap.size < w1.heap.size := by omega
  replace hB := hB.trans (b0.mono hB.size)
  clear hb b0
  by_cases h0 : m0 < 0
  · go_wp2_with fail
    go_ret
    exact ⟨rfl, hB⟩
  replace T_aP := T_aP (by omega)
  go_wp2_with fail
  refine (szZoneS_c aZ aZ_s m0 _ (H_aZ_s) (by omega) C0_aZ.out (by omega) L0).mono ?_
  rintro e w2 ⟨m1, rfl, L1, T_aZ, hb⟩
  have b1 : Below w1.heap.size w1 w2 := hb
  have z1 := b1.size
  replace H_aP_l := H_aP_l.below b1 (by omega)
  replace H_aZ_s := H_aZ_s.below b1 (by omega)
  replace X_aP := box_keep X_aP b1 (by omega)
  replace Y_aP : w.heap.size < w2.heap.size := by omega
  replace hB := hB.trans (b1.mono hB.size)
  clear hb b1
  by_cases h1 : m1 < 0
  · go_wp2_with fail
    go_ret
    exact ⟨rfl, hB⟩
  replace T_aZ := T_aZ (by omega)
  go_wp2_with fail
  refine (toPred_c aP aP_l _ (H_aP_l) (by omega) T_aP).mono ?_
  rintro e w3 ⟨n2l, rfl, H_n2l, hb⟩
  have b2 : Below w2.heap.size w2 w3 := hb
  have z2 := b2.size
  replace H_aP_l := H_aP_l.below b2 (by omega)
  replace H_aZ_s := H_aZ_s.below b2 (by omega)
  replace X_aP := box_keep X_aP b2 (by omega)
  replace Y_aP : w.heap.size < w3.heap.size := by omega
  replace hB := hB.trans (b2.mono hB.size)
  clear hb b2
  obtain ⟨A_n2l, k_n2l, rfl, -, -⟩ := (H_n2l.rdP).form
  go_wp2_with fail
  refine (toZoneS_c aZ aZ_s _ (H_aZ_s) (by omega) T_aZ).mono ?_
  rintro e w4 ⟨n3, rfl, H_n3, hb⟩
  have b3 : Below w3.heap.size w3 w4 := hb
  have z3 := b3.size
  replace H_aP_l := H_aP_l.below b3 (by omega)
  replace H_aZ_s := H_aZ_s.below b3 (by omega)
  replace H_n2l := H_n2l.below b3 (by omega)
  replace X_aP := box_keep X_aP b3 (by omega)
  replace Y_aP : w.heap.size < w4.heap.size := by omega
  replace hB := hB.trans (b3.mono hB.size)
  clear hb b3
  go_wp2_with fail
  refine (spec_MayHold aP (.slice A_n2l (aP.l).length k_n2l) aZ n3 _ (H_n2l.rdP) (by omega) (H_n3.rdZ) (by omega)  ).mono ?_
  rintro e w5 ⟨rfl, hb⟩
  have b4 : Below w4.heap.size w4 w5 := hb
  have z4 := b4.size
  replace H_aP_l := H_aP_l.below b4 (by omega)
  replace H_aZ_s := H_aZ_s.below b4 (by omega)
  replace H_n2l := H_n2l.below b4 (by omega)
  replace H_n3 := H_n3.below b4 (by omega)
  replace X_aP := box_keep X_aP b4 (by omega)
  replace Y_aP : w.heap.size < w5.heap.size := by omega
  replace hB := hB.trans (b4.mono hB.size)
  clear hb b4
  go_wp2_with fail
  refine (toPred_c aP aP_l _ (H_aP_l) (by omega) T_aP).mono ?_
  rintro e w6 ⟨n5l, rfl, H_n5l, hb⟩
  have b5 : Below w5.heap.size w5 w6 := hb
  have z5 := b5.size
  replace H_aP_l := H_aP_l.below b5 (by omega)
  replace H_aZ_s := H_aZ_s.below b5 (by omega)
  replace H_n2l := H_n2l.below b5 (by omega)
  replace H_n3 := H_n3.below b5 (by omega)
  replace X_aP := box_keep X_aP b5 (by omega)
  replace Y_aP : w.heap.size < w6.heap.size := by omega
  replace hB := hB.trans (b5.mono hB.size)
  clear hb b5
  obtain ⟨A_n5l, k_n5l, rfl, -, -⟩ := (H_n5l.rdP).form
  go_wp2_with fail
  refine (toZoneS_c aZ aZ_s _ (RdZ.below (H_aZ_s) (up_a1 w6 _ ) (by omega)) (by simp only [World.size_alloc]; omega) T_aZ).mono ?_
  rintro e w7 ⟨n6, rfl, H_n6, hb⟩
  replace H_n6 := H_n6.more (lo' := w6.heap.size + 1) (by simp <;> omega) (Nat.le_refl _)
  have b6 : Below w6.heap.size w6 w7 := below_a1 hb
  have z6 : w6.heap.size + 1 ≤ w7.heap.size := by have h := hb.size; simpa [Nat.add_assoc] using h
  replace H_aP_l := H_aP_l.below b6 (by omega)
  replace H_aZ_s := H_aZ_s.below b6 (by omega)
  replace H_n2l := H_n2l.below b6 (by omega)
  replace H_n3 := H_n3.below b6 (by omega)
  replace H_n5l := H_n5l.below b6 (by omega)
  replace X_aP := box_keep X_aP b6 (by omega)
  replace Y_aP : w.heap.size < w7.heap.size := by omega
  have X_x0 : ∀ o, w7.cell? ⟨w6.heap.size, o, none⟩ = (#[.int .i64 aP.kind, .int .i64 aP.col, .int .i64 aP.op, .int .i64 aP.v.ty, .int .i64 aP.v.n, .string aP.v.s, (.slice A_n5l (aP.l).length k_n5l)] : Array Value)[o]? := by
    intro o
    have h := box_new w6 #[.int .i64 aP.kind, .int .i64 aP.col, .int .i64 aP.op, .int .i64 aP.v.ty, .int .i64 aP.v.n, .string aP.v.s, (.slice A_n5l (aP.l).length k_n5l)] 42 o
    replace h := (hb.cell (p := ⟨_, o, none⟩) (by simp <;> omega)).trans h
    simpa [Nat.add_assoc] using h
  have Y_x0 : w6.heap.size < w7.heap.size := by omega
  replace hB := hB.trans (b6.mono hB.size)
  clear hb b6
  go_wp2_with fail
  refine (impl_MayHold aP (.slice A_n5l (aP.l).length k_n5l) aZ n6 _ (H_n5l.rdP) (by omega) (H_n6.rdZ) (by omega)  ).mono ?_
  rintro e w8 ⟨rfl, hb⟩
  have b7 : Below w7.heap.size w7 w8 := hb
  have z7 := b7.size
  replace H_aP_l := H_aP_l.below b7 (by omega)
  replace H_aZ_s := H_aZ_s.below b7 (by omega)
  replace H_n2l := H_n2l.below b7 (by omega)
  replace H_n3 := H_n3.below b7 (by omega)
  replace H_n5l := H_n5l.below b7 (by omega)
  replace H_n6 := H_n6.below b7 (by omega)
  replace X_aP := box_keep X_aP b7 (by omega)
  replace Y_aP : w.heap.size < w8.heap.size := by omega
  replace X_x0 := box_keep X_x0 b7 (by omega)
  replace Y_x0 : w6.heap.size < w8.heap.size := by omega
  replace hB := hB.trans (b7.mono hB.size)
  clear hb b7
  have kS : ∀ A A' : World, (A.cell? ⟨w.heap.size, 0, none⟩ = some (.int .i64 aP.kind) ∧ A.cell? ⟨w.heap.size, 1, none⟩ = some (.int .i64 aP.col) ∧ A.cell? ⟨w.heap.size, 2, none⟩ = some (.int .i64 aP.op) ∧ A.cell? ⟨w.heap.size, 3, none⟩ = some (.int .i64 aP.v.ty) ∧ A.cell? ⟨w.heap.size, 4, none⟩ = some (.int .i64 aP.v.n) ∧ A.cell? ⟨w.heap.size, 5, none⟩ = some (.string aP.v.s) ∧ A.cell? ⟨w.heap.size, 6, none⟩ = some (aP_l) ∧ A.cell? ⟨w6.heap.size, 0, none⟩ = some (.int .i64 aP.kind) ∧ A.cell? ⟨w6.heap.size, 1, none⟩ = some (.int .i64 aP.col) ∧ A.cell? ⟨w6.heap.size, 2, none⟩ = some (.int .i64 aP.op) ∧ A.cell? ⟨w6.heap.size, 3, none⟩ = some (.int .i64 aP.v.ty) ∧ A.cell? ⟨w6.heap.size, 4, none⟩ = some (.int .i64 aP.v.n) ∧ A.cell? ⟨w6.heap.size, 5, none⟩ = some (.string aP.v.s) ∧ A.cell? ⟨w6.heap.size, 6, none⟩ = some ((.slice A_n5l (aP.l).length k_n5l)) ∧ Below w8.heap.size w8 A) → Below A.heap.size A A' → (A'.cell? ⟨w.heap.size, 0, none⟩ = some (.int .i64 aP.kind) ∧ A'.cell? ⟨w.heap.size, 1, none⟩ = some (.int .i64 aP.col) ∧ A'.cell? ⟨w.heap.size, 2, none⟩ = some (.int .i64 aP.op) ∧ A'.cell? ⟨w.heap.size, 3, none⟩ = some (.int .i64 aP.v.ty) ∧ A'.cell? ⟨w.heap.size, 4, none⟩ = some (.int .i64 aP.v.n) ∧ A'.cell? ⟨w.heap.size, 5, none⟩ = some (.string aP.v.s) ∧ A'.cell? ⟨w.heap.size, 6, none⟩ = some (aP_l) ∧ A'.cell? ⟨w6.heap.size, 0, none⟩ = some (.int .i64 aP.kind) ∧ A'.cell? ⟨w6.heap.size, 1, none⟩ = some (.int .i64 aP.col) ∧ A'.cell? ⟨w6.heap.size, 2, none⟩ = some (.int .i64 aP.op) ∧ A'.cell? ⟨w6.heap.size, 3, none⟩ = some (.int .i64 aP.v.ty) ∧ A'.cell? ⟨w6.heap.size, 4, none⟩ = some (.int .i64 aP.v.n) ∧ A'.cell? ⟨w6.heap.size, 5, none⟩ = some (.string aP.v.s) ∧ A'.cell? ⟨w6.heap.size, 6, none⟩ = some ((.slice A_n5l (aP.l).length k_n5l)) ∧ Below w8.heap.size w8 A') := by
    intro A A' h hb
    obtain ⟨h0, h1, h2, h3, h4, h5, h6, h7, h8, h9, h10, h11, h12, h13, hq⟩ := h
    have hs := hq.size
    exact ⟨(hb.cell (p := ⟨w.heap.size, 0, none⟩) (show w.heap.size < _ by omega)).trans h0, (hb.cell (p := ⟨w.heap.size, 1, none⟩) (show w.heap.size < _ by omega)).trans h1, (hb.cell (p := ⟨w.heap.size, 2, none⟩) (show w.heap.size < _ by omega)).trans h2, (hb.cell (p := ⟨w.heap.size, 3, none⟩) (show w.heap.size < _ by omega)).trans h3, (hb.cell (p := ⟨w.heap.size, 4, none⟩) (show w.heap.size < _ by omega)).trans h4, (hb.cell (p := ⟨w.heap.size, 5, none⟩) (show w.heap.size < _ by omega)).trans h5, (hb.cell (p := ⟨w.heap.size, 6, none⟩) (show w.heap.size < _ by omega)).trans h6, (hb.cell (p := ⟨w6.heap.size, 0, none⟩) (show w6.heap.size < _ by omega)).trans h7, (hb.cell (p := ⟨w6.heap.size, 1, none⟩) (show w6.heap.size < _ by omega)).trans h8, (hb.cell (p := ⟨w6.heap.size, 2, none⟩) (show w6.heap.size < _ by omega)).trans h9, (hb.cell (p := ⟨w6.heap.size, 3, none⟩) (show w6.heap.size < _ by omega)).trans h10, (hb.cell (p := ⟨w6.heap.size, 4, none⟩) (show w6.heap.size < _ by omega)).trans h11, (hb.cell (p := ⟨w6.heap.size, 5, none⟩) (show w6.heap.size < _ by omega)).trans h12, (hb.cell (p := ⟨w6.heap.size, 6, none⟩) (show w6.heap.size < _ by omega)).trans h13, hq.trans (hb.mono hs)⟩
  have toB : ∀ A : World, (A.cell? ⟨w.heap.size, 0, none⟩ = some (.int .i64 aP.kind) ∧ A.cell? ⟨w.heap.size, 1, none⟩ = some (.int .i64 aP.col) ∧ A.cell? ⟨w.heap.size, 2, none⟩ = some (.int .i64 aP.op) ∧ A.cell? ⟨w.heap.size, 3, none⟩ = some (.int .i64 aP.v.ty) ∧ A.cell? ⟨w.heap.size, 4, none⟩ = some (.int .i64 aP.v.n) ∧ A.cell? ⟨w.heap.size, 5, none⟩ = some (.string aP.v.s) ∧ A.cell? ⟨w.heap.size, 6, none⟩ = some (aP_l) ∧ A.cell? ⟨w6.heap.size, 0, none⟩ = some (.int .i64 aP.kind) ∧ A.cell? ⟨w6.heap.size, 1, none⟩ = some (.int .i64 aP.col) ∧ A.cell? ⟨w6.heap.size, 2, none⟩ = some (.int .i64 aP.op) ∧ A.cell? ⟨w6.heap.size, 3, none⟩ = some (.int .i64 aP.v.ty) ∧ A.cell? ⟨w6.heap.size, 4, none⟩ = some (.int .i64 aP.v.n) ∧ A.cell? ⟨w6.heap.size, 5, none⟩ = some (.string aP.v.s) ∧ A.cell? ⟨w6.heap.size, 6, none⟩ = some ((.slice A_n5l (aP.l).length k_n5l)) ∧ Below w8.heap.size w8 A) → Below w8.heap.size w8 A := fun A h => h.2.2.2.2.2.2.2.2.2.2.2.2.2.2
  go_wp2_with fail
  go_region_held3 (fun w' => w'.cell? ⟨w.heap.size, 0, none⟩ = some (.int .i64 aP.kind) ∧ w'.cell? ⟨w.heap.size, 1, none⟩ = some (.int .i64 aP.col) ∧ w'.cell? ⟨w.heap.size, 2, none⟩ = some (.int .i64 aP.op) ∧ w'.cell? ⟨w.heap.size, 3, none⟩ = some (.int .i64 aP.v.ty) ∧ w'.cell? ⟨w.heap.size, 4, none⟩ = some (.int .i64 aP.v.n) ∧ w'.cell? ⟨w.heap.size, 5, none⟩ = some (.string aP.v.s) ∧ w'.cell? ⟨w.heap.size, 6, none⟩ = some (aP_l) ∧ w'.cell? ⟨w6.heap.size, 0, none⟩ = some (.int .i64 aP.kind) ∧ w'.cell? ⟨w6.heap.size, 1, none⟩ = some (.int .i64 aP.col) ∧ w'.cell? ⟨w6.heap.size, 2, none⟩ = some (.int .i64 aP.op) ∧ w'.cell? ⟨w6.heap.size, 3, none⟩ = some (.int .i64 aP.v.ty) ∧ w'.cell? ⟨w6.heap.size, 4, none⟩ = some (.int .i64 aP.v.n) ∧ w'.cell? ⟨w6.heap.size, 5, none⟩ = some (.string aP.v.s) ∧ w'.cell? ⟨w6.heap.size, 6, none⟩ = some ((.slice A_n5l (aP.l).length k_n5l)) ∧ Below w8.heap.size w8 w') (first | exact ⟨X_aP 0, X_aP 1, X_aP 2, X_aP 3, X_aP 4, X_aP 5, X_aP 6, X_x0 0, X_x0 1, X_x0 2, X_x0 3, X_x0 4, X_x0 5, X_x0 6, (Below.refl _ _).drew⟩ | (refine kS _ _ ?_ hq1; assumption) | (refine kS _ _ ?_ hq2; assumption)) (first
    | (go_at_call 24; ((with_reducible refine (toPred_c aP aP_l _ ((H_aP_l).below (toB _ (by assumption)) (by omega)) (by have h := (toB _ (by assumption)).size; omega) T_aP).mono ?_); rintro e w9 ⟨r80l, rfl, H_r80l, hq1⟩; obtain ⟨A_r80l, k_r80l, rfl, -, -⟩ := (H_r80l.rdP).form))
    | (go_at_call 26; ((with_reducible refine (eqPred_c aP (.slice A_n5l (aP.l).length k_n5l) aP (.slice A_r80l (aP.l).length k_r80l) _ ((H_n5l.rdP).below (toB _ (by assumption)) (by omega)) (by have h := (toB _ (by assumption)).size; omega) (H_r80l.rdP) (by first | exact Nat.le_refl _ | (omega))).mono ?_); rintro e w10 ⟨rfl, hq2⟩)))
  clear kS toB
  replace hq1 := Below.undrew hq1
  have b8 : Below w8.heap.size w8 w9 := hq1
  have z8 := b8.size
  replace H_aP_l := H_aP_l.below b8 (by omega)
  replace H_aZ_s := H_aZ_s.below b8 (by omega)
  replace H_n2l := H_n2l.below b8 (by omega)
  replace H_n3 := H_n3.below b8 (by omega)
  replace H_n5l := H_n5l.below b8 (by omega)
  replace H_n6 := H_n6.below b8 (by omega)
  replace X_aP := box_keep X_aP b8 (by omega)
  replace Y_aP : w.heap.size < w9.heap.size := by omega
  replace X_x0 := box_keep X_x0 b8 (by omega)
  replace Y_x0 : w6.heap.size < w9.heap.size := by omega
  replace hB := hB.trans (b8.mono hB.size)
  clear hq1 b8
  have b9 : Below w9.heap.size w9 w10 := hq2
  have z9 := b9.size
  replace H_aP_l := H_aP_l.below b9 (by omega)
  replace H_aZ_s := H_aZ_s.below b9 (by omega)
  replace H_n2l := H_n2l.below b9 (by omega)
  replace H_n3 := H_n3.below b9 (by omega)
  replace H_n5l := H_n5l.below b9 (by omega)
  replace H_n6 := H_n6.below b9 (by omega)
  replace H_r80l := H_r80l.below b9 (by omega)
  replace X_aP := box_keep X_aP b9 (by omega)
  replace Y_aP : w.heap.size < w10.heap.size := by omega
  replace X_x0 := box_keep X_x0 b9 (by omega)
  replace Y_x0 : w6.heap.size < w10.heap.size := by omega
  replace hB := hB.trans (b9.mono hB.size)
  clear hq2 b9
  try simp only [eqd_self]
  go_wp2_with fail
  refine (toZoneS_c aZ aZ_s _ (H_aZ_s) (by omega) T_aZ).mono ?_
  rintro e w11 ⟨n10, rfl, H_n10, hb⟩
  have b10 : Below w10.heap.size w10 w11 := hb
  have z10 := b10.size
  replace H_aP_l := H_aP_l.below b10 (by omega)
  replace H_aZ_s := H_aZ_s.below b10 (by omega)
  replace H_n2l := H_n2l.below b10 (by omega)
  replace H_n3 := H_n3.below b10 (by omega)
  replace H_n5l := H_n5l.below b10 (by omega)
  replace H_n6 := H_n6.below b10 (by omega)
  replace H_r80l := H_r80l.below b10 (by omega)
  replace X_aP := box_keep X_aP b10 (by omega)
  replace Y_aP : w.heap.size < w11.heap.size := by omega
  replace X_x0 := box_keep X_x0 b10 (by omega)
  replace Y_x0 : w6.heap.size < w11.heap.size := by omega
  replace hB := hB.trans (b10.mono hB.size)
  clear hb b10
  go_wp2_with fail
  refine (eqZoneS_c aZ n6 aZ n10 _ (H_n6.rdZ) (by omega) (H_n10.rdZ) (by omega)).mono ?_
  rintro e w12 ⟨rfl, hb⟩
  have b11 : Below w11.heap.size w11 w12 := hb
  have z11 := b11.size
  replace H_aP_l := H_aP_l.below b11 (by omega)
  replace H_aZ_s := H_aZ_s.below b11 (by omega)
  replace H_n2l := H_n2l.below b11 (by omega)
  replace H_n3 := H_n3.below b11 (by omega)
  replace H_n5l := H_n5l.below b11 (by omega)
  replace H_n6 := H_n6.below b11 (by omega)
  replace H_r80l := H_r80l.below b11 (by omega)
  replace H_n10 := H_n10.below b11 (by omega)
  replace X_aP := box_keep X_aP b11 (by omega)
  replace Y_aP : w.heap.size < w12.heap.size := by omega
  replace X_x0 := box_keep X_x0 b11 (by omega)
  replace Y_x0 : w6.heap.size < w12.heap.size := by omega
  replace hB := hB.trans (b11.mono hB.size)
  clear hb b11
  try simp only [eqd_self]
  go_wp2_with fail
  go_ret
  exact ⟨rfl, hB⟩

end Go.Proofs.Ytgjjkodlmhmjgaa
