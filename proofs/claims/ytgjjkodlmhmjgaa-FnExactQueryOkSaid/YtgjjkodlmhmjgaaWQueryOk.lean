/- The law FnExactQueryOk: its walk, out of the contracts of what it calls. -/
import Derived.Test.YtgjjkodlmhmjgaaS43
import Derived.Test.YtgjjkodlmhmjgaaLQ2
import Derived.Test.YtgjjkodlmhmjgaaLI2
namespace Go.Proofs.Ytgjjkodlmhmjgaa
open Go.ChangeShapes Go.WideShapes Go.ChangeAt Go.RowKit Go.Lb

set_option maxRecDepth 20000 in
set_option maxHeartbeats 4000000 in
theorem wQueryOk (aCols : List Int) (aCols_s : Value) (aQ : Q) (aQ_p : Value) (aQ_o : Value) (w : World) (H_aCols_s : RdI w 0 w.heap.size aCols_s aCols) (H_aQ_p : RdP w 0 w.heap.size aQ_p (aQ.p.l)) (H_aQ_o : RdI w 0 w.heap.size aQ_o (aQ.out)) (c0_aQ : POk aQ.p) :
    Calls Try.prog 10 #[aCols_s, .agg #[.int .i64 aQ.kind, .int .i64 aQ.p.kind, .int .i64 aQ.p.col, .int .i64 aQ.p.op, .int .i64 aQ.p.v.ty, .int .i64 aQ.p.v.n, .string aQ.p.v.s, aQ_p, .int .i64 aQ.col, aQ_o]] w fun e w' => e = .returned (.bool true) ∧ Below w.heap.size w w' := by
  have C0_aQ := Lib.hid c0_aQ
  clear c0_aQ
  have hB : Below w.heap.size w w := Below.refl _ _
  go_enter Try.func10, Try.ntmps10
  obtain ⟨A_aCols_s, k_aCols_s, rfl, lc_aCols, mc_aCols⟩ := H_aCols_s.form
  by_cases T_aCols : aCols.length ≤ 1048576
  rotate_left
  · have D_aCols : decide ((1048576 : Int) < (aCols.length : Int)) = true := decide_eq_true (by omega)
    go_wp2_with fail
    go_ret
    exact ⟨rfl, hB.trans ((up_a1 w _ ).mono hB.size)⟩
  have D_aCols : decide ((1048576 : Int) < (aCols.length : Int)) = false := decide_eq_false (by omega)
  go_wp2_with fail
  refine (szQuery_c aQ aQ_p aQ_o 1048576 _ (RdP.below (H_aQ_p) (up_a1 w _ ) (by omega)) (by simp only [World.size_alloc]; omega) (RdI.below (H_aQ_o) (up_a1 w _ ) (by omega)) (by simp only [World.size_alloc]; omega) C0_aQ.out (by omega) (by omega)).mono ?_
  rintro e w1 ⟨m0, rfl, L0, T_aQ, hb⟩
  have b0 : Below w.heap.size w w1 := below_a1 hb
  have z0 : w.heap.size + 1 ≤ w1.heap.size := by have h := hb.size; simpa [Nat.add_assoc] using h
  replace H_aCols_s := H_aCols_s.below b0 (by omega)
  replace H_aQ_p := H_aQ_p.below b0 (by omega)
  replace H_aQ_o := H_aQ_o.below b0 (by omega)
  have X_aQ : ∀ o, w1.cell? ⟨w.heap.size, o, none⟩ = (#[.int .i64 aQ.kind, .int .i64 aQ.p.kind, .int .i64 aQ.p.col, .int .i64 aQ.p.op, .int .i64 aQ.p.v.ty, .int .i64 aQ.p.v.n, .string aQ.p.v.s, aQ_p, .int .i64 aQ.col, aQ_o] : Array Value)[o]? := by
    intro o
    have h := box_new w #[.int .i64 aQ.kind, .int .i64 aQ.p.kind, .int .i64 aQ.p.col, .int .i64 aQ.p.op, .int .i64 aQ.p.v.ty, .int .i64 aQ.p.v.n, .string aQ.p.v.s, aQ_p, .int .i64 aQ.col, aQ_o] 79 o
    replace h := (hb.cell (p := ⟨_, o, none⟩) (by simp <;> omega)).trans h
    simpa [Nat.add_assoc] using h
  have Y_aQ : w.heap.size < w1.heap.size := by omega
  replace hB := hB.trans (b0.mono hB.size)
  clear hb b0
  by_cases h0 : m0 < 0
  · go_wp2_with fail
    go_ret
    exact ⟨rfl, hB⟩
  replace T_aQ := T_aQ (by omega)
  have kS : ∀ A A' : World, (A.cell? ⟨w.heap.size, 0, none⟩ = some (.int .i64 aQ.kind) ∧ A.cell? ⟨w.heap.size, 1, none⟩ = some (.int .i64 aQ.p.kind) ∧ A.cell? ⟨w.heap.size, 2, none⟩ = some (.int .i64 aQ.p.col) ∧ A.cell? ⟨w.heap.size, 3, none⟩ = some (.int .i64 aQ.p.op) ∧ A.cell? ⟨w.heap.size, 4, none⟩ = some (.int .i64 aQ.p.v.ty) ∧ A.cell? ⟨w.heap.size, 5, none⟩ = some (.int .i64 aQ.p.v.n) ∧ A.cell? ⟨w.heap.size, 6, none⟩ = some (.string aQ.p.v.s) ∧ A.cell? ⟨w.heap.size, 7, none⟩ = some (aQ_p) ∧ A.cell? ⟨w.heap.size, 8, none⟩ = some (.int .i64 aQ.col) ∧ A.cell? ⟨w.heap.size, 9, none⟩ = some (aQ_o) ∧ Below w1.heap.size w1 A) → Below A.heap.size A A' → (A'.cell? ⟨w.heap.size, 0, none⟩ = some (.int .i64 aQ.kind) ∧ A'.cell? ⟨w.heap.size, 1, none⟩ = some (.int .i64 aQ.p.kind) ∧ A'.cell? ⟨w.heap.size, 2, none⟩ = some (.int .i64 aQ.p.col) ∧ A'.cell? ⟨w.heap.size, 3, none⟩ = some (.int .i64 aQ.p.op) ∧ A'.cell? ⟨w.heap.size, 4, none⟩ = some (.int .i64 aQ.p.v.ty) ∧ A'.cell? ⟨w.heap.size, 5, none⟩ = some (.int .i64 aQ.p.v.n) ∧ A'.cell? ⟨w.heap.size, 6, none⟩ = some (.string aQ.p.v.s) ∧ A'.cell? ⟨w.heap.size, 7, none⟩ = some (aQ_p) ∧ A'.cell? ⟨w.heap.size, 8, none⟩ = some (.int .i64 aQ.col) ∧ A'.cell? ⟨w.heap.size, 9, none⟩ = some (aQ_o) ∧ Below w1.heap.size w1 A') := by
    intro A A' h hb
    obtain ⟨h0, h1, h2, h3, h4, h5, h6, h7, h8, h9, hq⟩ := h
    have hs := hq.size
    exact ⟨(hb.cell (p := ⟨w.heap.size, 0, none⟩) (show w.heap.size < _ by omega)).trans h0, (hb.cell (p := ⟨w.heap.size, 1, none⟩) (show w.heap.size < _ by omega)).trans h1, (hb.cell (p := ⟨w.heap.size, 2, none⟩) (show w.heap.size < _ by omega)).trans h2, (hb.cell (p := ⟨w.heap.size, 3, none⟩) (show w.heap.size < _ by omega)).trans h3, (hb.cell (p := ⟨w.heap.size, 4, none⟩) (show w.heap.size < _ by omega)).trans h4, (hb.cell (p := ⟨w.heap.size, 5, none⟩) (show w.heap.size < _ by omega)).trans h5, (hb.cell (p := ⟨w.heap.size, 6, none⟩) (show w.heap.size < _ by omega)).trans h6, (hb.cell (p := ⟨w.heap.size, 7, none⟩) (show w.heap.size < _ by omega)).trans h7, (hb.cell (p := ⟨w.heap.size, 8, none⟩) (show w.heap.size < _ by omega)).trans h8, (hb.cell (p := ⟨w.heap.size, 9, none⟩) (show w.heap.size < _ by omega)).trans h9, hq.trans (hb.mono hs)⟩
  have toB : ∀ A : World, (A.cell? ⟨w.heap.size, 0, none⟩ = some (.int .i64 aQ.kind) ∧ A.cell? ⟨w.heap.size, 1, none⟩ = some (.int .i64 aQ.p.kind) ∧ A.cell? ⟨w.heap.size, 2, none⟩ = some (.int .i64 aQ.p.col) ∧ A.cell? ⟨w.heap.size, 3, none⟩ = some (.int .i64 aQ.p.op) ∧ A.cell? ⟨w.heap.size, 4, none⟩ = some (.int .i64 aQ.p.v.ty) ∧ A.cell? ⟨w.heap.size, 5, none⟩ = some (.int .i64 aQ.p.v.n) ∧ A.cell? ⟨w.heap.size, 6, none⟩ = some (.string aQ.p.v.s) ∧ A.cell? ⟨w.heap.size, 7, none⟩ = some (aQ_p) ∧ A.cell? ⟨w.heap.size, 8, none⟩ = some (.int .i64 aQ.col) ∧ A.cell? ⟨w.heap.size, 9, none⟩ = some (aQ_o) ∧ Below w1.heap.size w1 A) → Below w1.heap.size w1 A := fun A h => h.2.2.2.2.2.2.2.2.2.2
  have HkS := Lib.hid kS
  have HtoB := Lib.hid toB
  clear kS toB
  go_wp2_with fail
  have hX_aQ := Lib.hid X_aQ
  clear X_aQ
  go_region_held3 (fun w' => w'.cell? ⟨w.heap.size, 0, none⟩ = some (.int .i64 aQ.kind) ∧ w'.cell? ⟨w.heap.size, 1, none⟩ = some (.int .i64 aQ.p.kind) ∧ w'.cell? ⟨w.heap.size, 2, none⟩ = some (.int .i64 aQ.p.col) ∧ w'.cell? ⟨w.heap.size, 3, none⟩ = some (.int .i64 aQ.p.op) ∧ w'.cell? ⟨w.heap.size, 4, none⟩ = some (.int .i64 aQ.p.v.ty) ∧ w'.cell? ⟨w.heap.size, 5, none⟩ = some (.int .i64 aQ.p.v.n) ∧ w'.cell? ⟨w.heap.size, 6, none⟩ = some (.string aQ.p.v.s) ∧ w'.cell? ⟨w.heap.size, 7, none⟩ = some (aQ_p) ∧ w'.cell? ⟨w.heap.size, 8, none⟩ = some (.int .i64 aQ.col) ∧ w'.cell? ⟨w.heap.size, 9, none⟩ = some (aQ_o) ∧ Below w1.heap.size w1 w') (first | exact ⟨hX_aQ.out 0, hX_aQ.out 1, hX_aQ.out 2, hX_aQ.out 3, hX_aQ.out 4, hX_aQ.out 5, hX_aQ.out 6, hX_aQ.out 7, hX_aQ.out 8, hX_aQ.out 9, (Below.refl _ _).drew⟩ | (refine HkS.out _ _ ?_ hq1; assumption) | (refine HkS.out _ _ ?_ hq2; assumption) | (refine HkS.out _ _ ?_ hq3; assumption)) (first
    | (go_at_call 17; ((with_reducible refine (toIntS_c aCols (.slice A_aCols_s aCols.length k_aCols_s) _ ((H_aCols_s).below (HtoB.out _ (by assumption)) (by omega)) (by have h := (HtoB.out _ (by assumption)).size; omega) T_aCols).mono ?_); rintro e w2 ⟨r10, rfl, H_r10, hq1⟩))
    | (go_at_call 54; ((with_reducible refine (toQuery_c aQ aQ_p aQ_o _ ((H_aQ_p).below (HtoB.out _ (by assumption)) (by omega)) (by have h := (HtoB.out _ (by assumption)).size; omega) ((H_aQ_o).below (HtoB.out _ (by assumption)) (by omega)) (by have h := (HtoB.out _ (by assumption)).size; omega) T_aQ).mono ?_); rintro e w3 ⟨M_r11p, r11p, r11o, rfl, H_r11p, H_r11o, ma_r11p, mb_r11p, hq2⟩; obtain ⟨A_r11p, k_r11p, rfl, -, -⟩ := (H_r11p.rdP).form; obtain ⟨A_r11o, k_r11o, rfl, -, -⟩ := (H_r11o.rdI).form))
    | (go_at_call 53; ((with_reducible refine (spec_QueryOk aCols r10 aQ (.slice A_r11p (aQ.p.l).length k_r11p) (.slice A_r11o (aQ.out).length k_r11o) _ ((H_r10.rdI.below hq2 (Nat.le_refl _))) (by first | exact Nat.le_refl _ | (have hz2 := hq2.size; omega)) (H_r11p.rdP) (by first | exact Nat.le_refl _ | (omega)) (H_r11o.rdI) (by first | exact Nat.le_refl _ | (omega)) C0_aQ.out T_aQ.1.2).mono ?_); rintro e w4 ⟨rfl, hq3⟩)))
  clear HkS HtoB
  have X_aQ := hX_aQ.out
  clear hX_aQ
  replace hq1 := Below.undrew hq1
  replace H_r10 := H_r10.more (lo' := w1.heap.size) (Nat.le_refl _) (Nat.le_refl _)
  have b1 : Below w1.heap.size w1 w2 := hq1
  have z1 := b1.size
  replace H_aCols_s := H_aCols_s.below b1 (by omega)
  replace H_aQ_p := H_aQ_p.below b1 (by omega)
  replace H_aQ_o := H_aQ_o.below b1 (by omega)
  replace X_aQ := box_keep X_aQ b1 (by omega)
  replace Y_aQ : w.heap.size < w2.heap.size := by omega
  replace hB := hB.trans (b1.mono hB.size)
  clear hq1 b1
  have b2 : Below w2.heap.size w2 w3 := hq2
  have z2 := b2.size
  replace H_aCols_s := H_aCols_s.below b2 (by omega)
  replace H_aQ_p := H_aQ_p.below b2 (by omega)
  replace H_aQ_o := H_aQ_o.below b2 (by omega)
  replace H_r10 := H_r10.below b2 (by omega)
  replace X_aQ := box_keep X_aQ b2 (by omega)
  replace Y_aQ : w.heap.size < w3.heap.size := by omega
  replace hB := hB.trans (b2.mono hB.size)
  clear hq2 b2
  have b3 : Below w3.heap.size w3 w4 := hq3
  have z3 := b3.size
  replace H_aCols_s := H_aCols_s.below b3 (by omega)
  replace H_aQ_p := H_aQ_p.below b3 (by omega)
  replace H_aQ_o := H_aQ_o.below b3 (by omega)
  replace H_r10 := H_r10.below b3 (by omega)
  replace H_r11p := H_r11p.below b3 (by omega)
  replace H_r11o := H_r11o.below b3 (by omega)
  replace X_aQ := box_keep X_aQ b3 (by omega)
  replace Y_aQ : w.heap.size < w4.heap.size := by omega
  replace hB := hB.trans (b3.mono hB.size)
  clear hq3 b3
  go_wp2_with fail
  refine (toIntS_c aCols (.slice A_aCols_s aCols.length k_aCols_s) _ (H_aCols_s) (by omega) T_aCols).mono ?_
  rintro e w5 ⟨n4, rfl, H_n4, hb⟩
  have b4 : Below w4.heap.size w4 w5 := hb
  have z4 := b4.size
  replace H_aCols_s := H_aCols_s.below b4 (by omega)
  replace H_aQ_p := H_aQ_p.below b4 (by omega)
  replace H_aQ_o := H_aQ_o.below b4 (by omega)
  replace H_r10 := H_r10.below b4 (by omega)
  replace H_r11p := H_r11p.below b4 (by omega)
  replace H_r11o := H_r11o.below b4 (by omega)
  replace X_aQ := box_keep X_aQ b4 (by omega)
  replace Y_aQ : w.heap.size < w5.heap.size := by omega
  replace hB := hB.trans (b4.mono hB.size)
  clear hb b4
  go_wp2_with fail
  refine (toQuery_c aQ aQ_p aQ_o _ (H_aQ_p) (by omega) (H_aQ_o) (by omega) T_aQ).mono ?_
  rintro e w6 ⟨M_n5p, n5p, n5o, rfl, H_n5p, H_n5o, ma_n5p, mb_n5p, hb⟩
  have b5 : Below w5.heap.size w5 w6 := hb
  have z5 := b5.size
  replace H_aCols_s := H_aCols_s.below b5 (by omega)
  replace H_aQ_p := H_aQ_p.below b5 (by omega)
  replace H_aQ_o := H_aQ_o.below b5 (by omega)
  replace H_r10 := H_r10.below b5 (by omega)
  replace H_r11p := H_r11p.below b5 (by omega)
  replace H_r11o := H_r11o.below b5 (by omega)
  replace H_n4 := H_n4.below b5 (by omega)
  replace X_aQ := box_keep X_aQ b5 (by omega)
  replace Y_aQ : w.heap.size < w6.heap.size := by omega
  replace hB := hB.trans (b5.mono hB.size)
  clear hb b5
  obtain ⟨A_n5p, k_n5p, rfl, -, -⟩ := (H_n5p.rdP).form
  obtain ⟨A_n5o, k_n5o, rfl, -, -⟩ := (H_n5o.rdI).form
  go_wp2_with fail
  refine (impl_QueryOk aCols n4 aQ (.slice A_n5p (aQ.p.l).length k_n5p) (.slice A_n5o (aQ.out).length k_n5o) _ (RdI.below (H_n4.rdI) (up_a1 w6 _ ) (by omega)) (by simp only [World.size_alloc]; omega) (RdP.below (H_n5p.rdP) (up_a1 w6 _ ) (by omega)) (by simp only [World.size_alloc]; omega) (RdI.below (H_n5o.rdI) (up_a1 w6 _ ) (by omega)) (by simp only [World.size_alloc]; omega) C0_aQ.out T_aQ.1.2).mono ?_
  rintro e w7 ⟨rfl, hb⟩
  have b6 : Below w6.heap.size w6 w7 := below_a1 hb
  have z6 : w6.heap.size + 1 ≤ w7.heap.size := by have h := hb.size; simpa [Nat.add_assoc] using h
  replace H_aCols_s := H_aCols_s.below b6 (by omega)
  replace H_aQ_p := H_aQ_p.below b6 (by omega)
  replace H_aQ_o := H_aQ_o.below b6 (by omega)
  replace H_r10 := H_r10.below b6 (by omega)
  replace H_r11p := H_r11p.below b6 (by omega)
  replace H_r11o := H_r11o.below b6 (by omega)
  replace H_n4 := H_n4.below b6 (by omega)
  replace H_n5p := H_n5p.below b6 (by omega)
  replace H_n5o := H_n5o.below b6 (by omega)
  replace X_aQ := box_keep X_aQ b6 (by omega)
  replace Y_aQ : w.heap.size < w7.heap.size := by omega
  have X_x1 : ∀ o, w7.cell? ⟨w6.heap.size, o, none⟩ = (#[.int .i64 aQ.kind, .int .i64 aQ.p.kind, .int .i64 aQ.p.col, .int .i64 aQ.p.op, .int .i64 aQ.p.v.ty, .int .i64 aQ.p.v.n, .string aQ.p.v.s, (.slice A_n5p (aQ.p.l).length k_n5p), .int .i64 aQ.col, (.slice A_n5o (aQ.out).length k_n5o)] : Array Value)[o]? := by
    intro o
    have h := box_new w6 #[.int .i64 aQ.kind, .int .i64 aQ.p.kind, .int .i64 aQ.p.col, .int .i64 aQ.p.op, .int .i64 aQ.p.v.ty, .int .i64 aQ.p.v.n, .string aQ.p.v.s, (.slice A_n5p (aQ.p.l).length k_n5p), .int .i64 aQ.col, (.slice A_n5o (aQ.out).length k_n5o)] 83 o
    replace h := (hb.cell (p := ⟨_, o, none⟩) (by simp <;> omega)).trans h
    simpa [Nat.add_assoc] using h
  have Y_x1 : w6.heap.size < w7.heap.size := by omega
  replace hB := hB.trans (b6.mono hB.size)
  clear hb b6
  go_wp2_with fail
  refine (toIntS_c aCols (.slice A_aCols_s aCols.length k_aCols_s) _ (H_aCols_s) (by omega) T_aCols).mono ?_
  rintro e w8 ⟨n7, rfl, H_n7, hb⟩
  have b7 : Below w7.heap.size w7 w8 := hb
  have z7 := b7.size
  replace H_aCols_s := H_aCols_s.below b7 (by omega)
  replace H_aQ_p := H_aQ_p.below b7 (by omega)
  replace H_aQ_o := H_aQ_o.below b7 (by omega)
  replace H_r10 := H_r10.below b7 (by omega)
  replace H_r11p := H_r11p.below b7 (by omega)
  replace H_r11o := H_r11o.below b7 (by omega)
  replace H_n4 := H_n4.below b7 (by omega)
  replace H_n5p := H_n5p.below b7 (by omega)
  replace H_n5o := H_n5o.below b7 (by omega)
  replace X_aQ := box_keep X_aQ b7 (by omega)
  replace Y_aQ : w.heap.size < w8.heap.size := by omega
  replace X_x1 := box_keep X_x1 b7 (by omega)
  replace Y_x1 : w6.heap.size < w8.heap.size := by omega
  replace hB := hB.trans (b7.mono hB.size)
  clear hb b7
  go_wp2_with fail
  refine (eqIntS_c aCols n4 aCols n7 _ (H_n4.rdI) (by omega) (H_n7.rdI) (by omega)).mono ?_
  rintro e w9 ⟨rfl, hb⟩
  have b8 : Below w8.heap.size w8 w9 := hb
  have z8 := b8.size
  replace H_aCols_s := H_aCols_s.below b8 (by omega)
  replace H_aQ_p := H_aQ_p.below b8 (by omega)
  replace H_aQ_o := H_aQ_o.below b8 (by omega)
  replace H_r10 := H_r10.below b8 (by omega)
  replace H_r11p := H_r11p.below b8 (by omega)
  replace H_r11o := H_r11o.below b8 (by omega)
  replace H_n4 := H_n4.below b8 (by omega)
  replace H_n5p := H_n5p.below b8 (by omega)
  replace H_n5o := H_n5o.below b8 (by omega)
  replace H_n7 := H_n7.below b8 (by omega)
  replace X_aQ := box_keep X_aQ b8 (by omega)
  replace Y_aQ : w.heap.size < w9.heap.size := by omega
  replace X_x1 := box_keep X_x1 b8 (by omega)
  replace Y_x1 : w6.heap.size < w9.heap.size := by omega
  replace hB := hB.trans (b8.mono hB.size)
  clear hb b8
  try simp only [eqd_self]
  have kS : ∀ A A' : World, (A.cell? ⟨w.heap.size, 0, none⟩ = some (.int .i64 aQ.kind) ∧ A.cell? ⟨w.heap.size, 1, none⟩ = some (.int .i64 aQ.p.kind) ∧ A.cell? ⟨w.heap.size, 2, none⟩ = some (.int .i64 aQ.p.col) ∧ A.cell? ⟨w.heap.size, 3, none⟩ = some (.int .i64 aQ.p.op) ∧ A.cell? ⟨w.heap.size, 4, none⟩ = some (.int .i64 aQ.p.v.ty) ∧ A.cell? ⟨w.heap.size, 5, none⟩ = some (.int .i64 aQ.p.v.n) ∧ A.cell? ⟨w.heap.size, 6, none⟩ = some (.string aQ.p.v.s) ∧ A.cell? ⟨w.heap.size, 7, none⟩ = some (aQ_p) ∧ A.cell? ⟨w.heap.size, 8, none⟩ = some (.int .i64 aQ.col) ∧ A.cell? ⟨w.heap.size, 9, none⟩ = some (aQ_o) ∧ A.cell? ⟨w6.heap.size, 0, none⟩ = some (.int .i64 aQ.kind) ∧ A.cell? ⟨w6.heap.size, 1, none⟩ = some (.int .i64 aQ.p.kind) ∧ A.cell? ⟨w6.heap.size, 2, none⟩ = some (.int .i64 aQ.p.col) ∧ A.cell? ⟨w6.heap.size, 3, none⟩ = some (.int .i64 aQ.p.op) ∧ A.cell? ⟨w6.heap.size, 4, none⟩ = some (.int .i64 aQ.p.v.ty) ∧ A.cell? ⟨w6.heap.size, 5, none⟩ = some (.int .i64 aQ.p.v.n) ∧ A.cell? ⟨w6.heap.size, 6, none⟩ = some (.string aQ.p.v.s) ∧ A.cell? ⟨w6.heap.size, 7, none⟩ = some ((.slice A_n5p (aQ.p.l).length k_n5p)) ∧ A.cell? ⟨w6.heap.size, 8, none⟩ = some (.int .i64 aQ.col) ∧ A.cell? ⟨w6.heap.size, 9, none⟩ = some ((.slice A_n5o (aQ.out).length k_n5o)) ∧ Below w9.heap.size w9 A) → Below A.heap.size A A' → (A'.cell? ⟨w.heap.size, 0, none⟩ = some (.int .i64 aQ.kind) ∧ A'.cell? ⟨w.heap.size, 1, none⟩ = some (.int .i64 aQ.p.kind) ∧ A'.cell? ⟨w.heap.size, 2, none⟩ = some (.int .i64 aQ.p.col) ∧ A'.cell? ⟨w.heap.size, 3, none⟩ = some (.int .i64 aQ.p.op) ∧ A'.cell? ⟨w.heap.size, 4, none⟩ = some (.int .i64 aQ.p.v.ty) ∧ A'.cell? ⟨w.heap.size, 5, none⟩ = some (.int .i64 aQ.p.v.n) ∧ A'.cell? ⟨w.heap.size, 6, none⟩ = some (.string aQ.p.v.s) ∧ A'.cell? ⟨w.heap.size, 7, none⟩ = some (aQ_p) ∧ A'.cell? ⟨w.heap.size, 8, none⟩ = some (.int .i64 aQ.col) ∧ A'.cell? ⟨w.heap.size, 9, none⟩ = some (aQ_o) ∧ A'.cell? ⟨w6.heap.size, 0, none⟩ = some (.int .i64 aQ.kind) ∧ A'.cell? ⟨w6.heap.size, 1, none⟩ = some (.int .i64 aQ.p.kind) ∧ A'.cell? ⟨w6.heap.size, 2, none⟩ = some (.int .i64 aQ.p.col) ∧ A'.cell? ⟨w6.heap.size, 3, none⟩ = some (.int .i64 aQ.p.op) ∧ A'.cell? ⟨w6.heap.size, 4, none⟩ = some (.int .i64 aQ.p.v.ty) ∧ A'.cell? ⟨w6.heap.size, 5, none⟩ = some (.int .i64 aQ.p.v.n) ∧ A'.cell? ⟨w6.heap.size, 6, none⟩ = some (.string aQ.p.v.s) ∧ A'.cell? ⟨w6.heap.size, 7, none⟩ = some ((.slice A_n5p (aQ.p.l).length k_n5p)) ∧ A'.cell? ⟨w6.heap.size, 8, none⟩ = some (.int .i64 aQ.col) ∧ A'.cell? ⟨w6.heap.size, 9, none⟩ = some ((.slice A_n5o (aQ.out).length k_n5o)) ∧ Below w9.heap.size w9 A') := by
    intro A A' h hb
    obtain ⟨h0, h1, h2, h3, h4, h5, h6, h7, h8, h9, h10, h11, h12, h13, h14, h15, h16, h17, h18, h19, hq⟩ := h
    have hs := hq.size
    exact ⟨(hb.cell (p := ⟨w.heap.size, 0, none⟩) (show w.heap.size < _ by omega)).trans h0, (hb.cell (p := ⟨w.heap.size, 1, none⟩) (show w.heap.size < _ by omega)).trans h1, (hb.cell (p := ⟨w.heap.size, 2, none⟩) (show w.heap.size < _ by omega)).trans h2, (hb.cell (p := ⟨w.heap.size, 3, none⟩) (show w.heap.size < _ by omega)).trans h3, (hb.cell (p := ⟨w.heap.size, 4, none⟩) (show w.heap.size < _ by omega)).trans h4, (hb.cell (p := ⟨w.heap.size, 5, none⟩) (show w.heap.size < _ by omega)).trans h5, (hb.cell (p := ⟨w.heap.size, 6, none⟩) (show w.heap.size < _ by omega)).trans h6, (hb.cell (p := ⟨w.heap.size, 7, none⟩) (show w.heap.size < _ by omega)).trans h7, (hb.cell (p := ⟨w.heap.size, 8, none⟩) (show w.heap.size < _ by omega)).trans h8, (hb.cell (p := ⟨w.heap.size, 9, none⟩) (show w.heap.size < _ by omega)).trans h9, (hb.cell (p := ⟨w6.heap.size, 0, none⟩) (show w6.heap.size < _ by omega)).trans h10, (hb.cell (p := ⟨w6.heap.size, 1, none⟩) (show w6.heap.size < _ by omega)).trans h11, (hb.cell (p := ⟨w6.heap.size, 2, none⟩) (show w6.heap.size < _ by omega)).trans h12, (hb.cell (p := ⟨w6.heap.size, 3, none⟩) (show w6.heap.size < _ by omega)).trans h13, (hb.cell (p := ⟨w6.heap.size, 4, none⟩) (show w6.heap.size < _ by omega)).trans h14, (hb.cell (p := ⟨w6.heap.size, 5, none⟩) (show w6.heap.size < _ by omega)).trans h15, (hb.cell (p := ⟨w6.heap.size, 6, none⟩) (show w6.heap.size < _ by omega)).trans h16, (hb.cell (p := ⟨w6.heap.size, 7, none⟩) (show w6.heap.size < _ by omega)).trans h17, (hb.cell (p := ⟨w6.heap.size, 8, none⟩) (show w6.heap.size < _ by omega)).trans h18, (hb.cell (p := ⟨w6.heap.size, 9, none⟩) (show w6.heap.size < _ by omega)).trans h19, hq.trans (hb.mono hs)⟩
  have toB : ∀ A : World, (A.cell? ⟨w.heap.size, 0, none⟩ = some (.int .i64 aQ.kind) ∧ A.cell? ⟨w.heap.size, 1, none⟩ = some (.int .i64 aQ.p.kind) ∧ A.cell? ⟨w.heap.size, 2, none⟩ = some (.int .i64 aQ.p.col) ∧ A.cell? ⟨w.heap.size, 3, none⟩ = some (.int .i64 aQ.p.op) ∧ A.cell? ⟨w.heap.size, 4, none⟩ = some (.int .i64 aQ.p.v.ty) ∧ A.cell? ⟨w.heap.size, 5, none⟩ = some (.int .i64 aQ.p.v.n) ∧ A.cell? ⟨w.heap.size, 6, none⟩ = some (.string aQ.p.v.s) ∧ A.cell? ⟨w.heap.size, 7, none⟩ = some (aQ_p) ∧ A.cell? ⟨w.heap.size, 8, none⟩ = some (.int .i64 aQ.col) ∧ A.cell? ⟨w.heap.size, 9, none⟩ = some (aQ_o) ∧ A.cell? ⟨w6.heap.size, 0, none⟩ = some (.int .i64 aQ.kind) ∧ A.cell? ⟨w6.heap.size, 1, none⟩ = some (.int .i64 aQ.p.kind) ∧ A.cell? ⟨w6.heap.size, 2, none⟩ = some (.int .i64 aQ.p.col) ∧ A.cell? ⟨w6.heap.size, 3, none⟩ = some (.int .i64 aQ.p.op) ∧ A.cell? ⟨w6.heap.size, 4, none⟩ = some (.int .i64 aQ.p.v.ty) ∧ A.cell? ⟨w6.heap.size, 5, none⟩ = some (.int .i64 aQ.p.v.n) ∧ A.cell? ⟨w6.heap.size, 6, none⟩ = some (.string aQ.p.v.s) ∧ A.cell? ⟨w6.heap.size, 7, none⟩ = some ((.slice A_n5p (aQ.p.l).length k_n5p)) ∧ A.cell? ⟨w6.heap.size, 8, none⟩ = some (.int .i64 aQ.col) ∧ A.cell? ⟨w6.heap.size, 9, none⟩ = some ((.slice A_n5o (aQ.out).length k_n5o)) ∧ Below w9.heap.size w9 A) → Below w9.heap.size w9 A := fun A h => h.2.2.2.2.2.2.2.2.2.2.2.2.2.2.2.2.2.2.2.2
  have HkS := Lib.hid kS
  have HtoB := Lib.hid toB
  clear kS toB
  go_wp2_with fail
  have hX_aQ := Lib.hid X_aQ
  have hX_x1 := Lib.hid X_x1
  clear X_aQ X_x1
  go_region_held3 (fun w' => w'.cell? ⟨w.heap.size, 0, none⟩ = some (.int .i64 aQ.kind) ∧ w'.cell? ⟨w.heap.size, 1, none⟩ = some (.int .i64 aQ.p.kind) ∧ w'.cell? ⟨w.heap.size, 2, none⟩ = some (.int .i64 aQ.p.col) ∧ w'.cell? ⟨w.heap.size, 3, none⟩ = some (.int .i64 aQ.p.op) ∧ w'.cell? ⟨w.heap.size, 4, none⟩ = some (.int .i64 aQ.p.v.ty) ∧ w'.cell? ⟨w.heap.size, 5, none⟩ = some (.int .i64 aQ.p.v.n) ∧ w'.cell? ⟨w.heap.size, 6, none⟩ = some (.string aQ.p.v.s) ∧ w'.cell? ⟨w.heap.size, 7, none⟩ = some (aQ_p) ∧ w'.cell? ⟨w.heap.size, 8, none⟩ = some (.int .i64 aQ.col) ∧ w'.cell? ⟨w.heap.size, 9, none⟩ = some (aQ_o) ∧ w'.cell? ⟨w6.heap.size, 0, none⟩ = some (.int .i64 aQ.kind) ∧ w'.cell? ⟨w6.heap.size, 1, none⟩ = some (.int .i64 aQ.p.kind) ∧ w'.cell? ⟨w6.heap.size, 2, none⟩ = some (.int .i64 aQ.p.col) ∧ w'.cell? ⟨w6.heap.size, 3, none⟩ = some (.int .i64 aQ.p.op) ∧ w'.cell? ⟨w6.heap.size, 4, none⟩ = some (.int .i64 aQ.p.v.ty) ∧ w'.cell? ⟨w6.heap.size, 5, none⟩ = some (.int .i64 aQ.p.v.n) ∧ w'.cell? ⟨w6.heap.size, 6, none⟩ = some (.string aQ.p.v.s) ∧ w'.cell? ⟨w6.heap.size, 7, none⟩ = some ((.slice A_n5p (aQ.p.l).length k_n5p)) ∧ w'.cell? ⟨w6.heap.size, 8, none⟩ = some (.int .i64 aQ.col) ∧ w'.cell? ⟨w6.heap.size, 9, none⟩ = some ((.slice A_n5o (aQ.out).length k_n5o)) ∧ Below w9.heap.size w9 w') (first | exact ⟨hX_aQ.out 0, hX_aQ.out 1, hX_aQ.out 2, hX_aQ.out 3, hX_aQ.out 4, hX_aQ.out 5, hX_aQ.out 6, hX_aQ.out 7, hX_aQ.out 8, hX_aQ.out 9, hX_x1.out 0, hX_x1.out 1, hX_x1.out 2, hX_x1.out 3, hX_x1.out 4, hX_x1.out 5, hX_x1.out 6, hX_x1.out 7, hX_x1.out 8, hX_x1.out 9, (Below.refl _ _).drew⟩ | (refine HkS.out _ _ ?_ hq1; assumption) | (refine HkS.out _ _ ?_ hq2; assumption)) (first
    | (go_at_call 54; ((with_reducible refine (toQuery_c aQ aQ_p aQ_o _ ((H_aQ_p).below (HtoB.out _ (by assumption)) (by omega)) (by have h := (HtoB.out _ (by assumption)).size; omega) ((H_aQ_o).below (HtoB.out _ (by assumption)) (by omega)) (by have h := (HtoB.out _ (by assumption)).size; omega) T_aQ).mono ?_); rintro e w10 ⟨M_r90p, r90p, r90o, rfl, H_r90p, H_r90o, ma_r90p, mb_r90p, hq1⟩; obtain ⟨A_r90p, k_r90p, rfl, -, -⟩ := (H_r90p.rdP).form; obtain ⟨A_r90o, k_r90o, rfl, -, -⟩ := (H_r90o.rdI).form))
    | (go_at_call 56; ((with_reducible refine (eqQuery_c aQ (.slice A_n5p (aQ.p.l).length k_n5p) (.slice A_n5o (aQ.out).length k_n5o) aQ (.slice A_r90p (aQ.p.l).length k_r90p) (.slice A_r90o (aQ.out).length k_r90o) _ ((H_n5p.rdP).below (HtoB.out _ (by assumption)) (by omega)) (by have h := (HtoB.out _ (by assumption)).size; omega) ((H_n5o.rdI).below (HtoB.out _ (by assumption)) (by omega)) (by have h := (HtoB.out _ (by assumption)).size; omega) (H_r90p.rdP) (by first | exact Nat.le_refl _ | (omega)) (H_r90o.rdI) (by first | exact Nat.le_refl _ | (omega))).mono ?_); rintro e w11 ⟨rfl, hq2⟩)))
  clear HkS HtoB
  have X_aQ := hX_aQ.out
  have X_x1 := hX_x1.out
  clear hX_aQ hX_x1
  replace hq1 := Below.undrew hq1
  replace H_r90p := H_r90p.more (lo' := w9.heap.size) (Nat.le_refl _) (Nat.le_refl _)
  replace ma_r90p : w9.heap.size ≤ M_r90p := ma_r90p
  have b9 : Below w9.heap.size w9 w10 := hq1
  have z9 := b9.size
  replace H_aCols_s := H_aCols_s.below b9 (by omega)
  replace H_aQ_p := H_aQ_p.below b9 (by omega)
  replace H_aQ_o := H_aQ_o.below b9 (by omega)
  replace H_r10 := H_r10.below b9 (by omega)
  replace H_r11p := H_r11p.below b9 (by omega)
  replace H_r11o := H_r11o.below b9 (by omega)
  replace H_n4 := H_n4.below b9 (by omega)
  replace H_n5p := H_n5p.below b9 (by omega)
  replace H_n5o := H_n5o.below b9 (by omega)
  replace H_n7 := H_n7.below b9 (by omega)
  replace X_aQ := box_keep X_aQ b9 (by omega)
  replace Y_aQ : w.heap.size < w10.heap.size := by omega
  replace X_x1 := box_keep X_x1 b9 (by omega)
  replace Y_x1 : w6.heap.size < w10.heap.size := by omega
  replace hB := hB.trans (b9.mono hB.size)
  clear hq1 b9
  have b10 : Below w10.heap.size w10 w11 := hq2
  have z10 := b10.size
  replace H_aCols_s := H_aCols_s.below b10 (by omega)
  replace H_aQ_p := H_aQ_p.below b10 (by omega)
  replace H_aQ_o := H_aQ_o.below b10 (by omega)
  replace H_r10 := H_r10.below b10 (by omega)
  replace H_r11p := H_r11p.below b10 (by omega)
  replace H_r11o := H_r11o.below b10 (by omega)
  replace H_n4 := H_n4.below b10 (by omega)
  replace H_n5p := H_n5p.below b10 (by omega)
  replace H_n5o := H_n5o.below b10 (by omega)
  replace H_n7 := H_n7.below b10 (by omega)
  replace H_r90p := H_r90p.below b10 (by omega)
  replace H_r90o := H_r90o.below b10 (by omega)
  replace X_aQ := box_keep X_aQ b10 (by omega)
  replace Y_aQ : w.heap.size < w11.heap.size := by omega
  replace X_x1 := box_keep X_x1 b10 (by omega)
  replace Y_x1 : w6.heap.size < w11.heap.size := by omega
  replace hB := hB.trans (b10.mono hB.size)
  clear hq2 b10
  try simp only [eqd_self]
  go_wp2_with fail
  go_ret
  exact ⟨rfl, hB⟩

end Go.Proofs.Ytgjjkodlmhmjgaa
