/- The law FnExactPredText: its walk, out of the contracts of what it calls. -/
import Derived.Test.YtmnmnofjeoanjaaDoorTP2
import Derived.Test.YtmnmnofjeoanjaaDoorLP1
import Derived.Test.YtmnmnofjeoanjaaDoorLP2
import Derived.Test.YtmnmnofjeoanjaaDoorLP3
namespace Go.Proofs.YtmnmnofjeoanjaaDoor
open Go.ChangeShapes Go.WideShapes Go.ChangeAt Go.RowKit Go.Lb

set_option maxRecDepth 20000 in
set_option maxHeartbeats 4000000 in
theorem wPredText (aP : P) (aP_l : Value) (w : World) (H_aP_l : RdP w 0 w.heap.size aP_l (aP.l)) (c0_aP : POk aP) (e0_aP : PInOk aP) (htPow : Pow w) :
    Calls Tryd.prog 4 #[.agg #[.int .i64 aP.kind, .int .i64 aP.col, .int .i64 aP.op, .int .i64 aP.v.ty, .int .i64 aP.v.n, .string aP.v.s, aP_l]] w fun e w' => e = .returned (.bool true) ∧ Below w.heap.size w w' := by
  have C0_aP := Lib.hid c0_aP
  clear c0_aP
  have E0_aP := Lib.hid e0_aP
  clear e0_aP
  have HTP := Lib.hid htPow
  clear htPow
  have hB : Below w.heap.size w w := Below.refl _ _
  go_enter Tryd.func4, Tryd.ntmps4
  go_wp2_with fail
  refine (szPred_c aP aP_l 1048576 _ (RdP.below (H_aP_l) (up_a1 w _ ) (by omega)) (by simp only [World.size_alloc]; omega) C0_aP.out (by omega) (by omega)).mono ?_
  rintro e w1 ⟨m0, rfl, L0, T_aP, hb⟩
  have b0 : Below w.heap.size w w1 := below_a1 hb
  have z0 : w.heap.size + 1 ≤ w1.heap.size := by have h := hb.size; simpa [Nat.add_assoc] using h
  replace H_aP_l := H_aP_l.below b0 (by omega)
  have X_aP : ∀ o, w1.cell? ⟨w.heap.size, o, none⟩ = (#[.int .i64 aP.kind, .int .i64 aP.col, .int .i64 aP.op, .int .i64 aP.v.ty, .int .i64 aP.v.n, .string aP.v.s, aP_l] : Array Value)[o]? := by
    intro o
    have h := box_new w #[.int .i64 aP.kind, .int .i64 aP.col, .int .i64 aP.op, .int .i64 aP.v.ty, .int .i64 aP.v.n, .string aP.v.s, aP_l] 28 o
    replace h := (hb.cell (p := ⟨_, o, none⟩) (by simp <;> omega)).trans h
    simpa [Nat.add_assoc] using h
  have Y_aP : w.heap.size < w1.heap.size := by omega
  replace hB := hB.trans (b0.mono hB.size)
  clear hb b0
  by_cases h0 : m0 < 0
  · go_wp2_with fail
    go_ret
    exact ⟨rfl, hB⟩
  replace T_aP := T_aP (by omega)
  go_wp2_with fail
  refine (toPred_c aP aP_l _ (H_aP_l) (by omega) T_aP).mono ?_
  rintro e w2 ⟨n1l, rfl, H_n1l, hb⟩
  have b1 : Below w1.heap.size w1 w2 := hb
  have z1 := b1.size
  replace H_aP_l := H_aP_l.below b1 (by omega)
  replace X_aP := box_keep X_aP b1 (by omega)
  replace Y_aP : w.heap.size < w2.heap.size := by omega
  replace hB := hB.trans (b1.mono hB.size)
  clear hb b1
  obtain ⟨A_n1l, k_n1l, rfl, -, -⟩ := (H_n1l.rdP).form
  go_wp2_with fail
  refine (spec_PredText aP (.slice A_n1l (aP.l).length k_n1l) _ (H_n1l.rdP) (by omega) C0_aP.out E0_aP.out T_aP.2 (by first | exact pow_below (pow_below HTP.out hB) (HtoB.out _ (by assumption)) | exact pow_below HTP.out hB | exact pow_below (pow_below HTP.out hB) (up_a1 _ _))).mono ?_
  rintro e w3 ⟨rfl, hb⟩
  have b2 : Below w2.heap.size w2 w3 := hb
  have z2 := b2.size
  replace H_aP_l := H_aP_l.below b2 (by omega)
  replace H_n1l := H_n1l.below b2 (by omega)
  replace X_aP := box_keep X_aP b2 (by omega)
  replace Y_aP : w.heap.size < w3.heap.size := by omega
  replace hB := hB.trans (b2.mono hB.size)
  clear hb b2
  go_wp2_with fail
  refine (toPred_c aP aP_l _ (H_aP_l) (by omega) T_aP).mono ?_
  rintro e w4 ⟨n3l, rfl, H_n3l, hb⟩
  have b3 : Below w3.heap.size w3 w4 := hb
  have z3 := b3.size
  replace H_aP_l := H_aP_l.below b3 (by omega)
  replace H_n1l := H_n1l.below b3 (by omega)
  replace X_aP := box_keep X_aP b3 (by omega)
  replace Y_aP : w.heap.size < w4.heap.size := by omega
  replace hB := hB.trans (b3.mono hB.size)
  clear hb b3
  obtain ⟨A_n3l, k_n3l, rfl, -, -⟩ := (H_n3l.rdP).form
  go_wp2_with fail
  refine (impl_PredText aP (.slice A_n3l (aP.l).length k_n3l) _ (RdP.below (H_n3l.rdP) (up_a1 w4 _ ) (by omega)) (by simp only [World.size_alloc]; omega) C0_aP.out E0_aP.out T_aP.2 (by first | exact pow_below (pow_below HTP.out hB) (HtoB.out _ (by assumption)) | exact pow_below HTP.out hB | exact pow_below (pow_below HTP.out hB) (up_a1 _ _))).mono ?_
  rintro e w5 ⟨rfl, hb⟩
  have b4 : Below w4.heap.size w4 w5 := below_a1 hb
  have z4 : w4.heap.size + 1 ≤ w5.heap.size := by have h := hb.size; simpa [Nat.add_assoc] using h
  replace H_aP_l := H_aP_l.below b4 (by omega)
  replace H_n1l := H_n1l.below b4 (by omega)
  replace H_n3l := H_n3l.below b4 (by omega)
  replace X_aP := box_keep X_aP b4 (by omega)
  replace Y_aP : w.heap.size < w5.heap.size := by omega
  have X_x0 : ∀ o, w5.cell? ⟨w4.heap.size, o, none⟩ = (#[.int .i64 aP.kind, .int .i64 aP.col, .int .i64 aP.op, .int .i64 aP.v.ty, .int .i64 aP.v.n, .string aP.v.s, (.slice A_n3l (aP.l).length k_n3l)] : Array Value)[o]? := by
    intro o
    have h := box_new w4 #[.int .i64 aP.kind, .int .i64 aP.col, .int .i64 aP.op, .int .i64 aP.v.ty, .int .i64 aP.v.n, .string aP.v.s, (.slice A_n3l (aP.l).length k_n3l)] 34 o
    replace h := (hb.cell (p := ⟨_, o, none⟩) (by simp <;> omega)).trans h
    simpa [Nat.add_assoc] using h
  have Y_x0 : w4.heap.size < w5.heap.size := by omega
  replace hB := hB.trans (b4.mono hB.size)
  clear hb b4
  have kS : ∀ A A' : World, (A.cell? ⟨w.heap.size, 0, none⟩ = some (.int .i64 aP.kind) ∧ A.cell? ⟨w.heap.size, 1, none⟩ = some (.int .i64 aP.col) ∧ A.cell? ⟨w.heap.size, 2, none⟩ = some (.int .i64 aP.op) ∧ A.cell? ⟨w.heap.size, 3, none⟩ = some (.int .i64 aP.v.ty) ∧ A.cell? ⟨w.heap.size, 4, none⟩ = some (.int .i64 aP.v.n) ∧ A.cell? ⟨w.heap.size, 5, none⟩ = some (.string aP.v.s) ∧ A.cell? ⟨w.heap.size, 6, none⟩ = some (aP_l) ∧ A.cell? ⟨w4.heap.size, 0, none⟩ = some (.int .i64 aP.kind) ∧ A.cell? ⟨w4.heap.size, 1, none⟩ = some (.int .i64 aP.col) ∧ A.cell? ⟨w4.heap.size, 2, none⟩ = some (.int .i64 aP.op) ∧ A.cell? ⟨w4.heap.size, 3, none⟩ = some (.int .i64 aP.v.ty) ∧ A.cell? ⟨w4.heap.size, 4, none⟩ = some (.int .i64 aP.v.n) ∧ A.cell? ⟨w4.heap.size, 5, none⟩ = some (.string aP.v.s) ∧ A.cell? ⟨w4.heap.size, 6, none⟩ = some ((.slice A_n3l (aP.l).length k_n3l)) ∧ Below w5.heap.size w5 A) → Below A.heap.size A A' → (A'.cell? ⟨w.heap.size, 0, none⟩ = some (.int .i64 aP.kind) ∧ A'.cell? ⟨w.heap.size, 1, none⟩ = some (.int .i64 aP.col) ∧ A'.cell? ⟨w.heap.size, 2, none⟩ = some (.int .i64 aP.op) ∧ A'.cell? ⟨w.heap.size, 3, none⟩ = some (.int .i64 aP.v.ty) ∧ A'.cell? ⟨w.heap.size, 4, none⟩ = some (.int .i64 aP.v.n) ∧ A'.cell? ⟨w.heap.size, 5, none⟩ = some (.string aP.v.s) ∧ A'.cell? ⟨w.heap.size, 6, none⟩ = some (aP_l) ∧ A'.cell? ⟨w4.heap.size, 0, none⟩ = some (.int .i64 aP.kind) ∧ A'.cell? ⟨w4.heap.size, 1, none⟩ = some (.int .i64 aP.col) ∧ A'.cell? ⟨w4.heap.size, 2, none⟩ = some (.int .i64 aP.op) ∧ A'.cell? ⟨w4.heap.size, 3, none⟩ = some (.int .i64 aP.v.ty) ∧ A'.cell? ⟨w4.heap.size, 4, none⟩ = some (.int .i64 aP.v.n) ∧ A'.cell? ⟨w4.heap.size, 5, none⟩ = some (.string aP.v.s) ∧ A'.cell? ⟨w4.heap.size, 6, none⟩ = some ((.slice A_n3l (aP.l).length k_n3l)) ∧ Below w5.heap.size w5 A') := by
    intro A A' h hb
    obtain ⟨h0, h1, h2, h3, h4, h5, h6, h7, h8, h9, h10, h11, h12, h13, hq⟩ := h
    have hs := hq.size
    exact ⟨(hb.cell (p := ⟨w.heap.size, 0, none⟩) (show w.heap.size < _ by omega)).trans h0, (hb.cell (p := ⟨w.heap.size, 1, none⟩) (show w.heap.size < _ by omega)).trans h1, (hb.cell (p := ⟨w.heap.size, 2, none⟩) (show w.heap.size < _ by omega)).trans h2, (hb.cell (p := ⟨w.heap.size, 3, none⟩) (show w.heap.size < _ by omega)).trans h3, (hb.cell (p := ⟨w.heap.size, 4, none⟩) (show w.heap.size < _ by omega)).trans h4, (hb.cell (p := ⟨w.heap.size, 5, none⟩) (show w.heap.size < _ by omega)).trans h5, (hb.cell (p := ⟨w.heap.size, 6, none⟩) (show w.heap.size < _ by omega)).trans h6, (hb.cell (p := ⟨w4.heap.size, 0, none⟩) (show w4.heap.size < _ by omega)).trans h7, (hb.cell (p := ⟨w4.heap.size, 1, none⟩) (show w4.heap.size < _ by omega)).trans h8, (hb.cell (p := ⟨w4.heap.size, 2, none⟩) (show w4.heap.size < _ by omega)).trans h9, (hb.cell (p := ⟨w4.heap.size, 3, none⟩) (show w4.heap.size < _ by omega)).trans h10, (hb.cell (p := ⟨w4.heap.size, 4, none⟩) (show w4.heap.size < _ by omega)).trans h11, (hb.cell (p := ⟨w4.heap.size, 5, none⟩) (show w4.heap.size < _ by omega)).trans h12, (hb.cell (p := ⟨w4.heap.size, 6, none⟩) (show w4.heap.size < _ by omega)).trans h13, hq.trans (hb.mono hs)⟩
  have toB : ∀ A : World, (A.cell? ⟨w.heap.size, 0, none⟩ = some (.int .i64 aP.kind) ∧ A.cell? ⟨w.heap.size, 1, none⟩ = some (.int .i64 aP.col) ∧ A.cell? ⟨w.heap.size, 2, none⟩ = some (.int .i64 aP.op) ∧ A.cell? ⟨w.heap.size, 3, none⟩ = some (.int .i64 aP.v.ty) ∧ A.cell? ⟨w.heap.size, 4, none⟩ = some (.int .i64 aP.v.n) ∧ A.cell? ⟨w.heap.size, 5, none⟩ = some (.string aP.v.s) ∧ A.cell? ⟨w.heap.size, 6, none⟩ = some (aP_l) ∧ A.cell? ⟨w4.heap.size, 0, none⟩ = some (.int .i64 aP.kind) ∧ A.cell? ⟨w4.heap.size, 1, none⟩ = some (.int .i64 aP.col) ∧ A.cell? ⟨w4.heap.size, 2, none⟩ = some (.int .i64 aP.op) ∧ A.cell? ⟨w4.heap.size, 3, none⟩ = some (.int .i64 aP.v.ty) ∧ A.cell? ⟨w4.heap.size, 4, none⟩ = some (.int .i64 aP.v.n) ∧ A.cell? ⟨w4.heap.size, 5, none⟩ = some (.string aP.v.s) ∧ A.cell? ⟨w4.heap.size, 6, none⟩ = some ((.slice A_n3l (aP.l).length k_n3l)) ∧ Below w5.heap.size w5 A) → Below w5.heap.size w5 A := fun A h => h.2.2.2.2.2.2.2.2.2.2.2.2.2.2
  have HkS := Lib.hid kS
  have HtoB := Lib.hid toB
  clear kS toB
  go_wp2_with fail
  have hX_aP := Lib.hid X_aP
  have hX_x0 := Lib.hid X_x0
  clear X_aP X_x0
  go_region_held3 (fun w' => w'.cell? ⟨w.heap.size, 0, none⟩ = some (.int .i64 aP.kind) ∧ w'.cell? ⟨w.heap.size, 1, none⟩ = some (.int .i64 aP.col) ∧ w'.cell? ⟨w.heap.size, 2, none⟩ = some (.int .i64 aP.op) ∧ w'.cell? ⟨w.heap.size, 3, none⟩ = some (.int .i64 aP.v.ty) ∧ w'.cell? ⟨w.heap.size, 4, none⟩ = some (.int .i64 aP.v.n) ∧ w'.cell? ⟨w.heap.size, 5, none⟩ = some (.string aP.v.s) ∧ w'.cell? ⟨w.heap.size, 6, none⟩ = some (aP_l) ∧ w'.cell? ⟨w4.heap.size, 0, none⟩ = some (.int .i64 aP.kind) ∧ w'.cell? ⟨w4.heap.size, 1, none⟩ = some (.int .i64 aP.col) ∧ w'.cell? ⟨w4.heap.size, 2, none⟩ = some (.int .i64 aP.op) ∧ w'.cell? ⟨w4.heap.size, 3, none⟩ = some (.int .i64 aP.v.ty) ∧ w'.cell? ⟨w4.heap.size, 4, none⟩ = some (.int .i64 aP.v.n) ∧ w'.cell? ⟨w4.heap.size, 5, none⟩ = some (.string aP.v.s) ∧ w'.cell? ⟨w4.heap.size, 6, none⟩ = some ((.slice A_n3l (aP.l).length k_n3l)) ∧ Below w5.heap.size w5 w') (first | exact ⟨hX_aP.out 0, hX_aP.out 1, hX_aP.out 2, hX_aP.out 3, hX_aP.out 4, hX_aP.out 5, hX_aP.out 6, hX_x0.out 0, hX_x0.out 1, hX_x0.out 2, hX_x0.out 3, hX_x0.out 4, hX_x0.out 5, hX_x0.out 6, (Below.refl _ _).drew⟩ | (refine HkS.out _ _ ?_ hq1; assumption) | (refine HkS.out _ _ ?_ hq2; assumption)) (first
    | (go_at_call 11; ((with_reducible refine (toPred_c aP aP_l _ ((H_aP_l).below (HtoB.out _ (by assumption)) (by omega)) (by have h := (HtoB.out _ (by assumption)).size; omega) T_aP).mono ?_); rintro e w6 ⟨r50l, rfl, H_r50l, hq1⟩; obtain ⟨A_r50l, k_r50l, rfl, -, -⟩ := (H_r50l.rdP).form))
    | (go_at_call 13; ((with_reducible refine (eqPred_c aP (.slice A_n3l (aP.l).length k_n3l) aP (.slice A_r50l (aP.l).length k_r50l) _ ((H_n3l.rdP).below (HtoB.out _ (by assumption)) (by omega)) (by have h := (HtoB.out _ (by assumption)).size; omega) (H_r50l.rdP) (by first | exact Nat.le_refl _ | (omega))).mono ?_); rintro e w7 ⟨rfl, hq2⟩)))
  clear HkS HtoB
  have X_aP := hX_aP.out
  have X_x0 := hX_x0.out
  clear hX_aP hX_x0
  replace hq1 := Below.undrew hq1
  replace H_r50l := H_r50l.more (lo' := w5.heap.size) (Nat.le_refl _) (Nat.le_refl _)
  have b5 : Below w5.heap.size w5 w6 := hq1
  have z5 := b5.size
  replace H_aP_l := H_aP_l.below b5 (by omega)
  replace H_n1l := H_n1l.below b5 (by omega)
  replace H_n3l := H_n3l.below b5 (by omega)
  replace X_aP := box_keep X_aP b5 (by omega)
  replace Y_aP : w.heap.size < w6.heap.size := by omega
  replace X_x0 := box_keep X_x0 b5 (by omega)
  replace Y_x0 : w4.heap.size < w6.heap.size := by omega
  replace hB := hB.trans (b5.mono hB.size)
  clear hq1 b5
  have b6 : Below w6.heap.size w6 w7 := hq2
  have z6 := b6.size
  replace H_aP_l := H_aP_l.below b6 (by omega)
  replace H_n1l := H_n1l.below b6 (by omega)
  replace H_n3l := H_n3l.below b6 (by omega)
  replace H_r50l := H_r50l.below b6 (by omega)
  replace X_aP := box_keep X_aP b6 (by omega)
  replace Y_aP : w.heap.size < w7.heap.size := by omega
  replace X_x0 := box_keep X_x0 b6 (by omega)
  replace Y_x0 : w4.heap.size < w7.heap.size := by omega
  replace hB := hB.trans (b6.mono hB.size)
  clear hq2 b6
  try simp only [eqd_self]
  go_wp2_with fail
  go_ret
  exact ⟨rfl, hB⟩

end Go.Proofs.YtmnmnofjeoanjaaDoor
