/- The law FnExactPredOk: its walk, out of the contracts of what it calls. -/
import Derived.Test.YtgjjkodlmhmjgaaS36
import Derived.Test.YtgjjkodlmhmjgaaLP1
import Derived.Test.YtgjjkodlmhmjgaaLP2
import Derived.Test.YtgjjkodlmhmjgaaLP3
import Derived.Test.YtgjjkodlmhmjgaaLI2
namespace Go.Proofs.Ytgjjkodlmhmjgaa
open Go.ChangeShapes Go.WideShapes Go.ChangeAt Go.RowKit Go.Lb

set_option maxRecDepth 20000 in
set_option maxHeartbeats 4000000 in
theorem wPredOk (aCols : List Int) (aCols_s : Value) (aP : P) (aP_l : Value) (w : World) (H_aCols_s : RdI w 0 w.heap.size aCols_s aCols) (H_aP_l : RdP w 0 w.heap.size aP_l (aP.l)) (c0_aP : POk aP) :
    Calls Try.prog 4 #[aCols_s, .agg #[.int .i64 aP.kind, .int .i64 aP.col, .int .i64 aP.op, .int .i64 aP.v.ty, .int .i64 aP.v.n, .string aP.v.s, aP_l]] w fun e w' => e = .returned (.bool true) ∧ Below w.heap.size w w' := by
  have C0_aP := Lib.hid c0_aP
  clear c0_aP
  have hB : Below w.heap.size w w := Below.refl _ _
  go_enter Try.func4, Try.ntmps4
  obtain ⟨A_aCols_s, k_aCols_s, rfl, lc_aCols, mc_aCols⟩ := H_aCols_s.form
  by_cases T_aCols : aCols.length ≤ 1048576
  rotate_left
  · have D_aCols : decide ((1048576 : Int) < (aCols.length : Int)) = true := decide_eq_true (by omega)
    go_wp2_with fail
    go_ret
    exact ⟨rfl, hB.trans ((up_a1 w _ ).mono hB.size)⟩
  have D_aCols : decide ((1048576 : Int) < (aCols.length : Int)) = false := decide_eq_false (by omega)
  go_wp2_with fail
  refine (szPred_c aP aP_l 1048576 _ (RdP.below (H_aP_l) (up_a1 w _ ) (by omega)) (by simp only [World.size_alloc]; omega) C0_aP.out (by omega) (by omega)).mono ?_
  rintro e w1 ⟨m0, rfl, L0, T_aP, hb⟩
  have b0 : Below w.heap.size w w1 := below_a1 hb
  have z0 : w.heap.size + 1 ≤ w1.heap.size := by have h := hb.size; simpa [Nat.add_assoc] using h
  replace H_aCols_s := H_aCols_s.below b0 (by omega)
  replace H_aP_l := H_aP_l.below b0 (by omega)
  have X_aP : ∀ o, w1.cell? ⟨w.heap.size, o, none⟩ = (#[.int .i64 aP.kind, .int .i64 aP.col, .int .i64 aP.op, .int .i64 aP.v.ty, .int .i64 aP.v.n, .string aP.v.s, aP_l] : Array Value)[o]? := by
    intro o
    have h := box_new w #[.int .i64 aP.kind, .int .i64 aP.col, .int .i64 aP.op, .int .i64 aP.v.ty, .int .i64 aP.v.n, .string aP.v.s, aP_l] 36 o
    replace h := (hb.cell (p := ⟨_, o, none⟩) (by simp <;> omega)).trans h
    simpa [Nat.add_assoc] using h
  have Y_aP : w.heap.size < w1.heap.size := by omega
  replace hB := hB.trans (b0.mono hB.size)
  clear hb b0
  by_cases h0 : m0 < 0
  · go_wp2_with fail
    go_ret
    exact ⟨rfl, hB⟩
  replace T_aP := T_aP (by omega)
  have kS : ∀ A A' : World, (A.cell? ⟨w.heap.size, 0, none⟩ = some (.int .i64 aP.kind) ∧ A.cell? ⟨w.heap.size, 1, none⟩ = some (.int .i64 aP.col) ∧ A.cell? ⟨w.heap.size, 2, none⟩ = some (.int .i64 aP.op) ∧ A.cell? ⟨w.heap.size, 3, none⟩ = some (.int .i64 aP.v.ty) ∧ A.cell? ⟨w.heap.size, 4, none⟩ = some (.int .i64 aP.v.n) ∧ A.cell? ⟨w.heap.size, 5, none⟩ = some (.string aP.v.s) ∧ A.cell? ⟨w.heap.size, 6, none⟩ = some (aP_l) ∧ Below w1.heap.size w1 A) → Below A.heap.size A A' → (A'.cell? ⟨w.heap.size, 0, none⟩ = some (.int .i64 aP.kind) ∧ A'.cell? ⟨w.heap.size, 1, none⟩ = some (.int .i64 aP.col) ∧ A'.cell? ⟨w.heap.size, 2, none⟩ = some (.int .i64 aP.op) ∧ A'.cell? ⟨w.heap.size, 3, none⟩ = some (.int .i64 aP.v.ty) ∧ A'.cell? ⟨w.heap.size, 4, none⟩ = some (.int .i64 aP.v.n) ∧ A'.cell? ⟨w.heap.size, 5, none⟩ = some (.string aP.v.s) ∧ A'.cell? ⟨w.heap.size, 6, none⟩ = some (aP_l) ∧ Below w1.heap.size w1 A') := by
    intro A A' h hb
    obtain ⟨h0, h1, h2, h3, h4, h5, h6, hq⟩ := h
    have hs := hq.size
    exact ⟨(hb.cell (p := ⟨w.heap.size, 0, none⟩) (show w.heap.size < _ by omega)).trans h0, (hb.cell (p := ⟨w.heap.size, 1, none⟩) (show w.heap.size < _ by omega)).trans h1, (hb.cell (p := ⟨w.heap.size, 2, none⟩) (show w.heap.size < _ by omega)).trans h2, (hb.cell (p := ⟨w.heap.size, 3, none⟩) (show w.heap.size < _ by omega)).trans h3, (hb.cell (p := ⟨w.heap.size, 4, none⟩) (show w.heap.size < _ by omega)).trans h4, (hb.cell (p := ⟨w.heap.size, 5, none⟩) (show w.heap.size < _ by omega)).trans h5, (hb.cell (p := ⟨w.heap.size, 6, none⟩) (show w.heap.size < _ by omega)).trans h6, hq.trans (hb.mono hs)⟩
  have toB : ∀ A : World, (A.cell? ⟨w.heap.size, 0, none⟩ = some (.int .i64 aP.kind) ∧ A.cell? ⟨w.heap.size, 1, none⟩ = some (.int .i64 aP.col) ∧ A.cell? ⟨w.heap.size, 2, none⟩ = some (.int .i64 aP.op) ∧ A.cell? ⟨w.heap.size, 3, none⟩ = some (.int .i64 aP.v.ty) ∧ A.cell? ⟨w.heap.size, 4, none⟩ = some (.int .i64 aP.v.n) ∧ A.cell? ⟨w.heap.size, 5, none⟩ = some (.string aP.v.s) ∧ A.cell? ⟨w.heap.size, 6, none⟩ = some (aP_l) ∧ Below w1.heap.size w1 A) → Below w1.heap.size w1 A := fun A h => h.2.2.2.2.2.2.2
  have HkS := Lib.hid kS
  have HtoB := Lib.hid toB
  clear kS toB
  go_wp2_with fail
  have hX_aP := Lib.hid X_aP
  clear X_aP
  go_region_held3 (fun w' => w'.cell? ⟨w.heap.size, 0, none⟩ = some (.int .i64 aP.kind) ∧ w'.cell? ⟨w.heap.size, 1, none⟩ = some (.int .i64 aP.col) ∧ w'.cell? ⟨w.heap.size, 2, none⟩ = some (.int .i64 aP.op) ∧ w'.cell? ⟨w.heap.size, 3, none⟩ = some (.int .i64 aP.v.ty) ∧ w'.cell? ⟨w.heap.size, 4, none⟩ = some (.int .i64 aP.v.n) ∧ w'.cell? ⟨w.heap.size, 5, none⟩ = some (.string aP.v.s) ∧ w'.cell? ⟨w.heap.size, 6, none⟩ = some (aP_l) ∧ Below w1.heap.size w1 w') (first | exact ⟨hX_aP.out 0, hX_aP.out 1, hX_aP.out 2, hX_aP.out 3, hX_aP.out 4, hX_aP.out 5, hX_aP.out 6, (Below.refl _ _).drew⟩ | (refine HkS.out _ _ ?_ hq1; assumption) | (refine HkS.out _ _ ?_ hq2; assumption) | (refine HkS.out _ _ ?_ hq3; assumption)) (first
    | (go_at_call 17; ((with_reducible refine (toIntS_c aCols (.slice A_aCols_s aCols.length k_aCols_s) _ ((H_aCols_s).below (HtoB.out _ (by assumption)) (by omega)) (by have h := (HtoB.out _ (by assumption)).size; omega) T_aCols).mono ?_); rintro e w2 ⟨r10, rfl, H_r10, hq1⟩))
    | (go_at_call 24; ((with_reducible refine (toPred_c aP aP_l _ ((H_aP_l).below (HtoB.out _ (by assumption)) (by omega)) (by have h := (HtoB.out _ (by assumption)).size; omega) T_aP).mono ?_); rintro e w3 ⟨r11l, rfl, H_r11l, hq2⟩; obtain ⟨A_r11l, k_r11l, rfl, -, -⟩ := (H_r11l.rdP).form))
    | (go_at_call 23; ((with_reducible refine (spec_PredOk aCols r10 aP (.slice A_r11l (aP.l).length k_r11l) _ ((H_r10.rdI.below hq2 (Nat.le_refl _))) (by first | exact Nat.le_refl _ | (have hz2 := hq2.size; omega)) (H_r11l.rdP) (by first | exact Nat.le_refl _ | (omega)) C0_aP.out T_aP.2).mono ?_); rintro e w4 ⟨rfl, hq3⟩)))
  clear HkS HtoB
  have X_aP := hX_aP.out
  clear hX_aP
  replace hq1 := Below.undrew hq1
  replace H_r10 := H_r10.more (lo' := w1.heap.size) (Nat.le_refl _) (Nat.le_refl _)
  have b1 : Below w1.heap.size w1 w2 := hq1
  have z1 := b1.size
  replace H_aCols_s := H_aCols_s.below b1 (by omega)
  replace H_aP_l := H_aP_l.below b1 (by omega)
  replace X_aP := box_keep X_aP b1 (by omega)
  replace Y_aP : w.heap.size < w2.heap.size := by omega
  replace hB := hB.trans (b1.mono hB.size)
  clear hq1 b1
  have b2 : Below w2.heap.size w2 w3 := hq2
  have z2 := b2.size
  replace H_aCols_s := H_aCols_s.below b2 (by omega)
  replace H_aP_l := H_aP_l.below b2 (by omega)
  replace H_r10 := H_r10.below b2 (by omega)
  replace X_aP := box_keep X_aP b2 (by omega)
  replace Y_aP : w.heap.size < w3.heap.size := by omega
  replace hB := hB.trans (b2.mono hB.size)
  clear hq2 b2
  have b3 : Below w3.heap.size w3 w4 := hq3
  have z3 := b3.size
  replace H_aCols_s := H_aCols_s.below b3 (by omega)
  replace H_aP_l := H_aP_l.below b3 (by omega)
  replace H_r10 := H_r10.below b3 (by omega)
  replace H_r11l := H_r11l.below b3 (by omega)
  replace X_aP := box_keep X_aP b3 (by omega)
  replace Y_aP : w.heap.size < w4.heap.size := by omega
  replace hB := hB.trans (b3.mono hB.size)
  clear hq3 b3
  go_wp2_with fail
  refine (toIntS_c aCols (.slice A_aCols_s aCols.length k_aCols_s) _ (H_aCols_s) (by omega) T_aCols).mono ?_
  rintro e w5 ⟨n4, rfl, H_n4, hb⟩
  have b4 : Below w4.heap.size w4 w5 := hb
  have z4 := b4.size
  replace H_aCols_s := H_aCols_s.below b4 (by omega)
  replace H_aP_l := H_aP_l.below b4 (by omega)
  replace H_r10 := H_r10.below b4 (by omega)
  replace H_r11l := H_r11l.below b4 (by omega)
  replace X_aP := box_keep X_aP b4 (by omega)
  replace Y_aP : w.heap.size < w5.heap.size := by omega
  replace hB := hB.trans (b4.mono hB.size)
  clear hb b4
  go_wp2_with fail
  refine (toPred_c aP aP_l _ (H_aP_l) (by omega) T_aP).mono ?_
  rintro e w6 ⟨n5l, rfl, H_n5l, hb⟩
  have b5 : Below w5.heap.size w5 w6 := hb
  have z5 := b5.size
  replace H_aCols_s := H_aCols_s.below b5 (by omega)
  replace H_aP_l := H_aP_l.below b5 (by omega)
  replace H_r10 := H_r10.below b5 (by omega)
  replace H_r11l := H_r11l.below b5 (by omega)
  replace H_n4 := H_n4.below b5 (by omega)
  replace X_aP := box_keep X_aP b5 (by omega)
  replace Y_aP : w.heap.size < w6.heap.size := by omega
  replace hB := hB.trans (b5.mono hB.size)
  clear hb b5
  obtain ⟨A_n5l, k_n5l, rfl, -, -⟩ := (H_n5l.rdP).form
  go_wp2_with fail
  refine (impl_PredOk aCols n4 aP (.slice A_n5l (aP.l).length k_n5l) _ (RdI.below (H_n4.rdI) (up_a1 w6 _ ) (by omega)) (by simp only [World.size_alloc]; omega) (RdP.below (H_n5l.rdP) (up_a1 w6 _ ) (by omega)) (by simp only [World.size_alloc]; omega) C0_aP.out T_aP.2).mono ?_
  rintro e w7 ⟨rfl, hb⟩
  have b6 : Below w6.heap.size w6 w7 := below_a1 hb
  have z6 : w6.heap.size + 1 ≤ w7.heap.size := by have h := hb.size; simpa [Nat.add_assoc] using h
  replace H_aCols_s := H_aCols_s.below b6 (by omega)
  replace H_aP_l := H_aP_l.below b6 (by omega)
  replace H_r10 := H_r10.below b6 (by omega)
  replace H_r11l := H_r11l.below b6 (by omega)
  replace H_n4 := H_n4.below b6 (by omega)
  replace H_n5l := H_n5l.below b6 (by omega)
  replace X_aP := box_keep X_aP b6 (by omega)
  replace Y_aP : w.heap.size < w7.heap.size := by omega
  have X_x1 : ∀ o, w7.cell? ⟨w6.heap.size, o, none⟩ = (#[.int .i64 aP.kind, .int .i64 aP.col, .int .i64 aP.op, .int .i64 aP.v.ty, .int .i64 aP.v.n, .string aP.v.s, (.slice A_n5l (aP.l).length k_n5l)] : Array Value)[o]? := by
    intro o
    have h := box_new w6 #[.int .i64 aP.kind, .int .i64 aP.col, .int .i64 aP.op, .int .i64 aP.v.ty, .int .i64 aP.v.n, .string aP.v.s, (.slice A_n5l (aP.l).length k_n5l)] 42 o
    replace h := (hb.cell (p := ⟨_, o, none⟩) (by simp <;> omega)).trans h
    simpa [Nat.add_assoc] using h
  have Y_x1 : w6.heap.size < w7.heap.size := by omega
  replace hB := hB.trans (b6.mono hB.size)
  clear hb b6
  go_wp2_with fail
  refine (toIntS_c aCols (.slice A_aCols_s aCols.length k_aCols_s) _ (H_aCols_s) (by omega) T_aCols).mono ?_
  rintro e w8 ⟨n7, rfl, H_n7, hb⟩
  have b7 : Below w7.heap.size w7 w8 := hb
  have z7 := b7.size
  replace H_aCols_s := H_aCols_s.below b7 (by omega)
  replace H_aP_l := H_aP_l.below b7 (by omega)
  replace H_r10 := H_r10.below b7 (by omega)
  replace H_r11l := H_r11l.below b7 (by omega)
  replace H_n4 := H_n4.below b7 (by omega)
  replace H_n5l := H_n5l.below b7 (by omega)
  replace X_aP := box_keep X_aP b7 (by omega)
  replace Y_aP : w.heap.size < w8.heap.size := by omega
  replace X_x1 := box_keep X_x1 b7 (by omega)
  replace Y_x1 : w6.heap.size < w8.heap.size := by omega
  replace hB := hB.trans (b7.mono hB.size)
  clear hb b7
  go_wp2_with fail
  refine (eqIntS_c aCols n4 aCols n7 _ (H_n4.rdI) (by omega) (H_n7.rdI) (by omega)).mono ?_
  rintro e w9 ⟨rfl, hb⟩
  have b8 : Below w8.heap.size w8 w9 := hb
  have z8 := b8.size
  replace H_aCols_s := H_aCols_s.below b8 (by omega)
  replace H_aP_l := H_aP_l.below b8 (by omega)
  replace H_r10 := H_r10.below b8 (by omega)
  replace H_r11l := H_r11l.below b8 (by omega)
  replace H_n4 := H_n4.below b8 (by omega)
  replace H_n5l := H_n5l.below b8 (by omega)
  replace H_n7 := H_n7.below b8 (by omega)
  replace X_aP := box_keep X_aP b8 (by omega)
  replace Y_aP : w.heap.size < w9.heap.size := by omega
  replace X_x1 := box_keep X_x1 b8 (by omega)
  replace Y_x1 : w6.heap.size < w9.heap.size := by omega
  replace hB := hB.trans (b8.mono hB.size)
  clear hb b8
  try simp only [eqd_self]
  have kS : ∀ A A' : World, (A.cell? ⟨w.heap.size, 0, none⟩ = some (.int .i64 aP.kind) ∧ A.cell? ⟨w.heap.size, 1, none⟩ = some (.int .i64 aP.col) ∧ A.cell? ⟨w.heap.size, 2, none⟩ = some (.int .i64 aP.op) ∧ A.cell? ⟨w.heap.size, 3, none⟩ = some (.int .i64 aP.v.ty) ∧ A.cell? ⟨w.heap.size, 4, none⟩ = some (.int .i64 aP.v.n) ∧ A.cell? ⟨w.heap.size, 5, none⟩ = some (.string aP.v.s) ∧ A.cell? ⟨w.heap.size, 6, none⟩ = some (aP_l) ∧ A.cell? ⟨w6.heap.size, 0, none⟩ = some (.int .i64 aP.kind) ∧ A.cell? ⟨w6.heap.size, 1, none⟩ = some (.int .i64 aP.col) ∧ A.cell? ⟨w6.heap.size, 2, none⟩ = some (.int .i64 aP.op) ∧ A.cell? ⟨w6.heap.size, 3, none⟩ = some (.int .i64 aP.v.ty) ∧ A.cell? ⟨w6.heap.size, 4, none⟩ = some (.int .i64 aP.v.n) ∧ A.cell? ⟨w6.heap.size, 5, none⟩ = some (.string aP.v.s) ∧ A.cell? ⟨w6.heap.size, 6, none⟩ = some ((.slice A_n5l (aP.l).length k_n5l)) ∧ Below w9.heap.size w9 A) → Below A.heap.size A A' → (A'.cell? ⟨w.heap.size, 0, none⟩ = some (.int .i64 aP.kind) ∧ A'.cell? ⟨w.heap.size, 1, none⟩ = some (.int .i64 aP.col) ∧ A'.cell? ⟨w.heap.size, 2, none⟩ = some (.int .i64 aP.op) ∧ A'.cell? ⟨w.heap.size, 3, none⟩ = some (.int .i64 aP.v.ty) ∧ A'.cell? ⟨w.heap.size, 4, none⟩ = some (.int .i64 aP.v.n) ∧ A'.cell? ⟨w.heap.size, 5, none⟩ = some (.string aP.v.s) ∧ A'.cell? ⟨w.heap.size, 6, none⟩ = some (aP_l) ∧ A'.cell? ⟨w6.heap.size, 0, none⟩ = some (.int .i64 aP.kind) ∧ A'.cell? ⟨w6.heap.size, 1, none⟩ = some (.int .i64 aP.col) ∧ A'.cell? ⟨w6.heap.size, 2, none⟩ = some (.int .i64 aP.op) ∧ A'.cell? ⟨w6.heap.size, 3, none⟩ = some (.int .i64 aP.v.ty) ∧ A'.cell? ⟨w6.heap.size, 4, none⟩ = some (.int .i64 aP.v.n) ∧ A'.cell? ⟨w6.heap.size, 5, none⟩ = some (.string aP.v.s) ∧ A'.cell? ⟨w6.heap.size, 6, none⟩ = some ((.slice A_n5l (aP.l).length k_n5l)) ∧ Below w9.heap.size w9 A') := by
    intro A A' h hb
    obtain ⟨h0, h1, h2, h3, h4, h5, h6, h7, h8, h9, h10, h11, h12, h13, hq⟩ := h
    have hs := hq.size
    exact ⟨(hb.cell (p := ⟨w.heap.size, 0, none⟩) (show w.heap.size < _ by omega)).trans h0, (hb.cell (p := ⟨w.heap.size, 1, none⟩) (show w.heap.size < _ by omega)).trans h1, (hb.cell (p := ⟨w.heap.size, 2, none⟩) (show w.heap.size < _ by omega)).trans h2, (hb.cell (p := ⟨w.heap.size, 3, none⟩) (show w.heap.size < _ by omega)).trans h3, (hb.cell (p := ⟨w.heap.size, 4, none⟩) (show w.heap.size < _ by omega)).trans h4, (hb.cell (p := ⟨w.heap.size, 5, none⟩) (show w.heap.size < _ by omega)).trans h5, (hb.cell (p := ⟨w.heap.size, 6, none⟩) (show w.heap.size < _ by omega)).trans h6, (hb.cell (p := ⟨w6.heap.size, 0, none⟩) (show w6.heap.size < _ by omega)).trans h7, (hb.cell (p := ⟨w6.heap.size, 1, none⟩) (show w6.heap.size < _ by omega)).trans h8, (hb.cell (p := ⟨w6.heap.size, 2, none⟩) (show w6.heap.size < _ by omega)).trans h9, (hb.cell (p := ⟨w6.heap.size, 3, none⟩) (show w6.heap.size < _ by omega)).trans h10, (hb.cell (p := ⟨w6.heap.size, 4, none⟩) (show w6.heap.size < _ by omega)).trans h11, (hb.cell (p := ⟨w6.heap.size, 5, none⟩) (show w6.heap.size < _ by omega)).trans h12, (hb.cell (p := ⟨w6.heap.size, 6, none⟩) (show w6.heap.size < _ by omega)).trans h13, hq.trans (hb.mono hs)⟩
  have toB : ∀ A : World, (A.cell? ⟨w.heap.size, 0, none⟩ = some (.int .i64 aP.kind) ∧ A.cell? ⟨w.heap.size, 1, none⟩ = some (.int .i64 aP.col) ∧ A.cell? ⟨w.heap.size, 2, none⟩ = some (.int .i64 aP.op) ∧ A.cell? ⟨w.heap.size, 3, none⟩ = some (.int .i64 aP.v.ty) ∧ A.cell? ⟨w.heap.size, 4, none⟩ = some (.int .i64 aP.v.n) ∧ A.cell? ⟨w.heap.size, 5, none⟩ = some (.string aP.v.s) ∧ A.cell? ⟨w.heap.size, 6, none⟩ = some (aP_l) ∧ A.cell? ⟨w6.heap.size, 0, none⟩ = some (.int .i64 aP.kind) ∧ A.cell? ⟨w6.heap.size, 1, none⟩ = some (.int .i64 aP.col) ∧ A.cell? ⟨w6.heap.size, 2, none⟩ = some (.int .i64 aP.op) ∧ A.cell? ⟨w6.heap.size, 3, none⟩ = some (.int .i64 aP.v.ty) ∧ A.cell? ⟨w6.heap.size, 4, none⟩ = some (.int .i64 aP.v.n) ∧ A.cell? ⟨w6.heap.size, 5, none⟩ = some (.string aP.v.s) ∧ A.cell? ⟨w6.heap.size, 6, none⟩ = some ((.slice A_n5l (aP.l).length k_n5l)) ∧ Below w9.heap.size w9 A) → Below w9.heap.size w9 A := fun A h => h.2.2.2.2.2.2.2.2.2.2.2.2.2.2
  have HkS := Lib.hid kS
  have HtoB := Lib.hid toB
  clear kS toB
  go_wp2_with fail
  have hX_aP := Lib.hid X_aP
  have hX_x1 := Lib.hid X_x1
  clear X_aP X_x1
  go_region_held3 (fun w' => w'.cell? ⟨w.heap.size, 0, none⟩ = some (.int .i64 aP.kind) ∧ w'.cell? ⟨w.heap.size, 1, none⟩ = some (.int .i64 aP.col) ∧ w'.cell? ⟨w.heap.size, 2, none⟩ = some (.int .i64 aP.op) ∧ w'.cell? ⟨w.heap.size, 3, none⟩ = some (.int .i64 aP.v.ty) ∧ w'.cell? ⟨w.heap.size, 4, none⟩ = some (.int .i64 aP.v.n) ∧ w'.cell? ⟨w.heap.size, 5, none⟩ = some (.string aP.v.s) ∧ w'.cell? ⟨w.heap.size, 6, none⟩ = some (aP_l) ∧ w'.cell? ⟨w6.heap.size, 0, none⟩ = some (.int .i64 aP.kind) ∧ w'.cell? ⟨w6.heap.size, 1, none⟩ = some (.int .i64 aP.col) ∧ w'.cell? ⟨w6.heap.size, 2, none⟩ = some (.int .i64 aP.op) ∧ w'.cell? ⟨w6.heap.size, 3, none⟩ = some (.int .i64 aP.v.ty) ∧ w'.cell? ⟨w6.heap.size, 4, none⟩ = some (.int .i64 aP.v.n) ∧ w'.cell? ⟨w6.heap.size, 5, none⟩ = some (.string aP.v.s) ∧ w'.cell? ⟨w6.heap.size, 6, none⟩ = some ((.slice A_n5l (aP.l).length k_n5l)) ∧ Below w9.heap.size w9 w') (first | exact ⟨hX_aP.out 0, hX_aP.out 1, hX_aP.out 2, hX_aP.out 3, hX_aP.out 4, hX_aP.out 5, hX_aP.out 6, hX_x1.out 0, hX_x1.out 1, hX_x1.out 2, hX_x1.out 3, hX_x1.out 4, hX_x1.out 5, hX_x1.out 6, (Below.refl _ _).drew⟩ | (refine HkS.out _ _ ?_ hq1; assumption) | (refine HkS.out _ _ ?_ hq2; assumption)) (first
    | (go_at_call 24; ((with_reducible refine (toPred_c aP aP_l _ ((H_aP_l).below (HtoB.out _ (by assumption)) (by omega)) (by have h := (HtoB.out _ (by assumption)).size; omega) T_aP).mono ?_); rintro e w10 ⟨r90l, rfl, H_r90l, hq1⟩; obtain ⟨A_r90l, k_r90l, rfl, -, -⟩ := (H_r90l.rdP).form))
    | (go_at_call 26; ((with_reducible refine (eqPred_c aP (.slice A_n5l (aP.l).length k_n5l) aP (.slice A_r90l (aP.l).length k_r90l) _ ((H_n5l.rdP).below (HtoB.out _ (by assumption)) (by omega)) (by have h := (HtoB.out _ (by assumption)).size; omega) (H_r90l.rdP) (by first | exact Nat.le_refl _ | (omega))).mono ?_); rintro e w11 ⟨rfl, hq2⟩)))
  clear HkS HtoB
  have X_aP := hX_aP.out
  have X_x1 := hX_x1.out
  clear hX_aP hX_x1
  replace hq1 := Below.undrew hq1
  replace H_r90l := H_r90l.more (lo' := w9.heap.size) (Nat.le_refl _) (Nat.le_refl _)
  have b9 : Below w9.heap.size w9 w10 := hq1
  have z9 := b9.size
  replace H_aCols_s := H_aCols_s.below b9 (by omega)
  replace H_aP_l := H_aP_l.below b9 (by omega)
  replace H_r10 := H_r10.below b9 (by omega)
  replace H_r11l := H_r11l.below b9 (by omega)
  replace H_n4 := H_n4.below b9 (by omega)
  replace H_n5l := H_n5l.below b9 (by omega)
  replace H_n7 := H_n7.below b9 (by omega)
  replace X_aP := box_keep X_aP b9 (by omega)
  replace Y_aP : w.heap.size < w10.heap.size := by omega
  replace X_x1 := box_keep X_x1 b9 (by omega)
  replace Y_x1 : w6.heap.size < w10.heap.size := by omega
  replace hB := hB.trans (b9.mono hB.size)
  clear hq1 b9
  have b10 : Below w10.heap.size w10 w11 := hq2
  have z10 := b10.size
  replace H_aCols_s := H_aCols_s.below b10 (by omega)
  replace H_aP_l := H_aP_l.below b10 (by omega)
  replace H_r10 := H_r10.below b10 (by omega)
  replace H_r11l := H_r11l.below b10 (by omega)
  replace H_n4 := H_n4.below b10 (by omega)
  replace H_n5l := H_n5l.below b10 (by omega)
  replace H_n7 := H_n7.below b10 (by omega)
  replace H_r90l := H_r90l.below b10 (by omega)
  replace X_aP := box_keep X_aP b10 (by omega)
  replace Y_aP : w.heap.size < w11.heap.size := by omega
  replace X_x1 := box_keep X_x1 b10 (by omega)
  replace Y_x1 : w6.heap.size < w11.heap.size := by omega
  replace hB := hB.trans (b10.mono hB.size)
  clear hq2 b10
  try simp only [eqd_self]
  go_wp2_with fail
  go_ret
  exact ⟨rfl, hB⟩

end Go.Proofs.Ytgjjkodlmhmjgaa
