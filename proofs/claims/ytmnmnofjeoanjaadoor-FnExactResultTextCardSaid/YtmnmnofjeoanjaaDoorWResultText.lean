/- The law FnExactResultText: its walk, out of the contracts of what it calls. -/
import Derived.Test.YtmnmnofjeoanjaaDoorTS2
import Derived.Test.YtmnmnofjeoanjaaDoorLQ2
import Derived.Test.YtmnmnofjeoanjaaDoorLRes
import Derived.Test.YtmnmnofjeoanjaaDoorLR6
namespace Go.Proofs.YtmnmnofjeoanjaaDoor
open Go.ChangeShapes Go.WideShapes Go.ChangeAt Go.RowKit Go.Lb

set_option maxRecDepth 20000 in
set_option maxHeartbeats 4000000 in
theorem wResultText (aQ : Q) (aQ_p : Value) (aQ_o : Value) (aR : Res) (aR_l : Value) (w : World) (H_aQ_p : RdP w 0 w.heap.size aQ_p (aQ.p.l)) (H_aQ_o : RdI w 0 w.heap.size aQ_o (aQ.out)) (c0_aQ : POk aQ.p) (H_aR_l : RdR w 0 w.heap.size aR_l (aR.rows)) (c0_aR : RsOk aR.rows) (c1_aR : aR.v.s.size ≤ maxLen) (e0_aR : IdsInOk aR.rows) (e1_aR : NOk aR.n) (htPow : Pow w) :
    Calls Tryd.prog 5 #[.agg #[.int .i64 aQ.kind, .int .i64 aQ.p.kind, .int .i64 aQ.p.col, .int .i64 aQ.p.op, .int .i64 aQ.p.v.ty, .int .i64 aQ.p.v.n, .string aQ.p.v.s, aQ_p, .int .i64 aQ.col, aQ_o], .agg #[aR_l, .int .i64 aR.n, .bool aR.has, .int .i64 aR.v.ty, .int .i64 aR.v.n, .string aR.v.s]] w fun e w' => e = .returned (.bool true) ∧ Below w.heap.size w w' := by
  have C0_aQ := Lib.hid c0_aQ
  clear c0_aQ
  have C0_aR := Lib.hid c0_aR
  clear c0_aR
  have E0_aR := Lib.hid e0_aR
  clear e0_aR
  have E1_aR := Lib.hid e1_aR
  clear e1_aR
  have HTP := Lib.hid htPow
  clear htPow
  have hB : Below w.heap.size w w := Below.refl _ _
  go_enter Tryd.func5, Tryd.ntmps5
  go_wp2_with fail
  refine (szQuery_c aQ aQ_p aQ_o 1048576 _ (RdP.below (H_aQ_p) (up_a2 w _ _ ) (by omega)) (by simp only [World.size_alloc]; omega) (RdI.below (H_aQ_o) (up_a2 w _ _ ) (by omega)) (by simp only [World.size_alloc]; omega) C0_aQ.out (by omega) (by omega)).mono ?_
  rintro e w1 ⟨m0, rfl, L0, T_aQ, hb⟩
  have b0 : Below w.heap.size w w1 := below_a2 hb
  have z0 : w.heap.size + 2 ≤ w1.heap.size := by have h := hb.size; simpa [Nat.add_assoc] using h
  replace H_aQ_p := H_aQ_p.below b0 (by omega)
  replace H_aQ_o := H_aQ_o.below b0 (by omega)
  replace H_aR_l := H_aR_l.below b0 (by omega)
  have X_aQ : ∀ o, w1.cell? ⟨w.heap.size, o, none⟩ = (#[.int .i64 aQ.kind, .int .i64 aQ.p.kind, .int .i64 aQ.p.col, .int .i64 aQ.p.op, .int .i64 aQ.p.v.ty, .int .i64 aQ.p.v.n, .string aQ.p.v.s, aQ_p, .int .i64 aQ.col, aQ_o] : Array Value)[o]? := by
    intro o
    have h := box_new w #[.int .i64 aQ.kind, .int .i64 aQ.p.kind, .int .i64 aQ.p.col, .int .i64 aQ.p.op, .int .i64 aQ.p.v.ty, .int .i64 aQ.p.v.n, .string aQ.p.v.s, aQ_p, .int .i64 aQ.col, aQ_o] 40 o
    replace h := (World.cell?_alloc_lt (w.alloc (.cells #[.int .i64 aQ.kind, .int .i64 aQ.p.kind, .int .i64 aQ.p.col, .int .i64 aQ.p.op, .int .i64 aQ.p.v.ty, .int .i64 aQ.p.v.n, .string aQ.p.v.s, aQ_p, .int .i64 aQ.col, aQ_o] 40)) (.cells #[aR_l, .int .i64 aR.n, .bool aR.has, .int .i64 aR.v.ty, .int .i64 aR.v.n, .string aR.v.s] 43) ⟨_, o, none⟩ (by simp <;> omega)).trans h
    replace h := (hb.cell (p := ⟨_, o, none⟩) (by simp <;> omega)).trans h
    simpa [Nat.add_assoc] using h
  have Y_aQ : w.heap.size < w1.heap.size := by omega
  have X_aR : ∀ o, w1.cell? ⟨w.heap.size + 1, o, none⟩ = (#[aR_l, .int .i64 aR.n, .bool aR.has, .int .i64 aR.v.ty, .int .i64 aR.v.n, .string aR.v.s] : Array Value)[o]? := by
    intro o
    have h := box_new (w.alloc (.cells #[.int .i64 aQ.kind, .int .i64 aQ.p.kind, .int .i64 aQ.p.col, .int .i64 aQ.p.op, .int .i64 aQ.p.v.ty, .int .i64 aQ.p.v.n, .string aQ.p.v.s, aQ_p, .int .i64 aQ.col, aQ_o] 40)) #[aR_l, .int .i64 aR.n, .bool aR.has, .int .i64 aR.v.ty, .int .i64 aR.v.n, .string aR.v.s] 43 o
    replace h := (hb.cell (p := ⟨_, o, none⟩) (by simp <;> omega)).trans h
    simpa [Nat.add_assoc] using h
  have Y_aR : w.heap.size + 1 < w1.heap.size := by omega
  replace hB := hB.trans (b0.mono hB.size)
  clear hb b0
  by_cases h0 : m0 < 0
  · go_wp2_with fail
    go_ret
    exact ⟨rfl, hB⟩
  replace T_aQ := T_aQ (by omega)
  go_wp2_with fail
  refine (szResult_c aR aR_l m0 _ (H_aR_l) (by omega) C0_aR.out c1_aR (by omega) L0).mono ?_
  rintro e w2 ⟨rfl, hb⟩
  have b1 : Below w1.heap.size w1 w2 := hb
  have z1 := b1.size
  replace H_aQ_p := H_aQ_p.below b1 (by omega)
  replace H_aQ_o := H_aQ_o.below b1 (by omega)
  replace H_aR_l := H_aR_l.below b1 (by omega)
  replace X_aQ := box_keep X_aQ b1 (by omega)
  replace Y_aQ : w.heap.size < w2.heap.size := by omega
  replace X_aR := box_keep X_aR b1 (by omega)
  replace Y_aR : w.heap.size + 1 < w2.heap.size := by omega
  replace hB := hB.trans (b1.mono hB.size)
  clear hb b1
  have L1 := szResult_le aR m0 (by omega) L0
  have T_aR := szResult_bd aR m0 (by omega) L0
  generalize szResult aR m0 = m1 at *
  by_cases h1 : m1 < 0
  · go_wp2_with fail
    go_ret
    exact ⟨rfl, hB⟩
  replace T_aR := T_aR h1
  have kS : ∀ A A' : World, (A.cell? ⟨w.heap.size, 0, none⟩ = some (.int .i64 aQ.kind) ∧ A.cell? ⟨w.heap.size, 1, none⟩ = some (.int .i64 aQ.p.kind) ∧ A.cell? ⟨w.heap.size, 2, none⟩ = some (.int .i64 aQ.p.col) ∧ A.cell? ⟨w.heap.size, 3, none⟩ = some (.int .i64 aQ.p.op) ∧ A.cell? ⟨w.heap.size, 4, none⟩ = some (.int .i64 aQ.p.v.ty) ∧ A.cell? ⟨w.heap.size, 5, none⟩ = some (.int .i64 aQ.p.v.n) ∧ A.cell? ⟨w.heap.size, 6, none⟩ = some (.string aQ.p.v.s) ∧ A.cell? ⟨w.heap.size, 7, none⟩ = some (aQ_p) ∧ A.cell? ⟨w.heap.size, 8, none⟩ = some (.int .i64 aQ.col) ∧ A.cell? ⟨w.heap.size, 9, none⟩ = some (aQ_o) ∧ A.cell? ⟨w.heap.size + 1, 0, none⟩ = some (aR_l) ∧ A.cell? ⟨w.heap.size + 1, 1, none⟩ = some (.int .i64 aR.n) ∧ A.cell? ⟨w.heap.size + 1, 2, none⟩ = some (.bool aR.has) ∧ A.cell? ⟨w.heap.size + 1, 3, none⟩ = some (.int .i64 aR.v.ty) ∧ A.cell? ⟨w.heap.size + 1, 4, none⟩ = some (.int .i64 aR.v.n) ∧ A.cell? ⟨w.heap.size + 1, 5, none⟩ = some (.string aR.v.s) ∧ Below w2.heap.size w2 A) → Below A.heap.size A A' → (A'.cell? ⟨w.heap.size, 0, none⟩ = some (.int .i64 aQ.kind) ∧ A'.cell? ⟨w.heap.size, 1, none⟩ = some (.int .i64 aQ.p.kind) ∧ A'.cell? ⟨w.heap.size, 2, none⟩ = some (.int .i64 aQ.p.col) ∧ A'.cell? ⟨w.heap.size, 3, none⟩ = some (.int .i64 aQ.p.op) ∧ A'.cell? ⟨w.heap.size, 4, none⟩ = some (.int .i64 aQ.p.v.ty) ∧ A'.cell? ⟨w.heap.size, 5, none⟩ = some (.int .i64 aQ.p.v.n) ∧ A'.cell? ⟨w.heap.size, 6, none⟩ = some (.string aQ.p.v.s) ∧ A'.cell? ⟨w.heap.size, 7, none⟩ = some (aQ_p) ∧ A'.cell? ⟨w.heap.size, 8, none⟩ = some (.int .i64 aQ.col) ∧ A'.cell? ⟨w.heap.size, 9, none⟩ = some (aQ_o) ∧ A'.cell? ⟨w.heap.size + 1, 0, none⟩ = some (aR_l) ∧ A'.cell? ⟨w.heap.size + 1, 1, none⟩ = some (.int .i64 aR.n) ∧ A'.cell? ⟨w.heap.size + 1, 2, none⟩ = some (.bool aR.has) ∧ A'.cell? ⟨w.heap.size + 1, 3, none⟩ = some (.int .i64 aR.v.ty) ∧ A'.cell? ⟨w.heap.size + 1, 4, none⟩ = some (.int .i64 aR.v.n) ∧ A'.cell? ⟨w.heap.size + 1, 5, none⟩ = some (.string aR.v.s) ∧ Below w2.heap.size w2 A') := by
    intro A A' h hb
    obtain ⟨h0, h1, h2, h3, h4, h5, h6, h7, h8, h9, h10, h11, h12, h13, h14, h15, hq⟩ := h
    have hs := hq.size
    exact ⟨(hb.cell (p := ⟨w.heap.size, 0, none⟩) (show w.heap.size < _ by omega)).trans h0, (hb.cell (p := ⟨w.heap.size, 1, none⟩) (show w.heap.size < _ by omega)).trans h1, (hb.cell (p := ⟨w.heap.size, 2, none⟩) (show w.heap.size < _ by omega)).trans h2, (hb.cell (p := ⟨w.heap.size, 3, none⟩) (show w.heap.size < _ by omega)).trans h3, (hb.cell (p := ⟨w.heap.size, 4, none⟩) (show w.heap.size < _ by omega)).trans h4, (hb.cell (p := ⟨w.heap.size, 5, none⟩) (show w.heap.size < _ by omega)).trans h5, (hb.cell (p := ⟨w.heap.size, 6, none⟩) (show w.heap.size < _ by omega)).trans h6, (hb.cell (p := ⟨w.heap.size, 7, none⟩) (show w.heap.size < _ by omega)).trans h7, (hb.cell (p := ⟨w.heap.size, 8, none⟩) (show w.heap.size < _ by omega)).trans h8, (hb.cell (p := ⟨w.heap.size, 9, none⟩) (show w.heap.size < _ by omega)).trans h9, (hb.cell (p := ⟨w.heap.size + 1, 0, none⟩) (show w.heap.size + 1 < _ by omega)).trans h10, (hb.cell (p := ⟨w.heap.size + 1, 1, none⟩) (show w.heap.size + 1 < _ by omega)).trans h11, (hb.cell (p := ⟨w.heap.size + 1, 2, none⟩) (show w.heap.size + 1 < _ by omega)).trans h12, (hb.cell (p := ⟨w.heap.size + 1, 3, none⟩) (show w.heap.size + 1 < _ by omega)).trans h13, (hb.cell (p := ⟨w.heap.size + 1, 4, none⟩) (show w.heap.size + 1 < _ by omega)).trans h14, (hb.cell (p := ⟨w.heap.size + 1, 5, none⟩) (show w.heap.size + 1 < _ by omega)).trans h15, hq.trans (hb.mono hs)⟩
  have toB : ∀ A : World, (A.cell? ⟨w.heap.size, 0, none⟩ = some (.int .i64 aQ.kind) ∧ A.cell? ⟨w.heap.size, 1, none⟩ = some (.int .i64 aQ.p.kind) ∧ A.cell? ⟨w.heap.size, 2, none⟩ = some (.int .i64 aQ.p.col) ∧ A.cell? ⟨w.heap.size, 3, none⟩ = some (.int .i64 aQ.p.op) ∧ A.cell? ⟨w.heap.size, 4, none⟩ = some (.int .i64 aQ.p.v.ty) ∧ A.cell? ⟨w.heap.size, 5, none⟩ = some (.int .i64 aQ.p.v.n) ∧ A.cell? ⟨w.heap.size, 6, none⟩ = some (.string aQ.p.v.s) ∧ A.cell? ⟨w.heap.size, 7, none⟩ = some (aQ_p) ∧ A.cell? ⟨w.heap.size, 8, none⟩ = some (.int .i64 aQ.col) ∧ A.cell? ⟨w.heap.size, 9, none⟩ = some (aQ_o) ∧ A.cell? ⟨w.heap.size + 1, 0, none⟩ = some (aR_l) ∧ A.cell? ⟨w.heap.size + 1, 1, none⟩ = some (.int .i64 aR.n) ∧ A.cell? ⟨w.heap.size + 1, 2, none⟩ = some (.bool aR.has) ∧ A.cell? ⟨w.heap.size + 1, 3, none⟩ = some (.int .i64 aR.v.ty) ∧ A.cell? ⟨w.heap.size + 1, 4, none⟩ = some (.int .i64 aR.v.n) ∧ A.cell? ⟨w.heap.size + 1, 5, none⟩ = some (.string aR.v.s) ∧ Below w2.heap.size w2 A) → Below w2.heap.size w2 A := fun A h => h.2.2.2.2.2.2.2.2.2.2.2.2.2.2.2.2
  have HkS := Lib.hid kS
  have HtoB := Lib.hid toB
  clear kS toB
  go_wp2_with fail
  have hX_aQ := Lib.hid X_aQ
  have hX_aR := Lib.hid X_aR
  clear X_aQ X_aR
  go_region_held3 (fun w' => w'.cell? ⟨w.heap.size, 0, none⟩ = some (.int .i64 aQ.kind) ∧ w'.cell? ⟨w.heap.size, 1, none⟩ = some (.int .i64 aQ.p.kind) ∧ w'.cell? ⟨w.heap.size, 2, none⟩ = some (.int .i64 aQ.p.col) ∧ w'.cell? ⟨w.heap.size, 3, none⟩ = some (.int .i64 aQ.p.op) ∧ w'.cell? ⟨w.heap.size, 4, none⟩ = some (.int .i64 aQ.p.v.ty) ∧ w'.cell? ⟨w.heap.size, 5, none⟩ = some (.int .i64 aQ.p.v.n) ∧ w'.cell? ⟨w.heap.size, 6, none⟩ = some (.string aQ.p.v.s) ∧ w'.cell? ⟨w.heap.size, 7, none⟩ = some (aQ_p) ∧ w'.cell? ⟨w.heap.size, 8, none⟩ = some (.int .i64 aQ.col) ∧ w'.cell? ⟨w.heap.size, 9, none⟩ = some (aQ_o) ∧ w'.cell? ⟨w.heap.size + 1, 0, none⟩ = some (aR_l) ∧ w'.cell? ⟨w.heap.size + 1, 1, none⟩ = some (.int .i64 aR.n) ∧ w'.cell? ⟨w.heap.size + 1, 2, none⟩ = some (.bool aR.has) ∧ w'.cell? ⟨w.heap.size + 1, 3, none⟩ = some (.int .i64 aR.v.ty) ∧ w'.cell? ⟨w.heap.size + 1, 4, none⟩ = some (.int .i64 aR.v.n) ∧ w'.cell? ⟨w.heap.size + 1, 5, none⟩ = some (.string aR.v.s) ∧ Below w2.heap.size w2 w') (first | exact ⟨hX_aQ.out 0, hX_aQ.out 1, hX_aQ.out 2, hX_aQ.out 3, hX_aQ.out 4, hX_aQ.out 5, hX_aQ.out 6, hX_aQ.out 7, hX_aQ.out 8, hX_aQ.out 9, hX_aR.out 0, hX_aR.out 1, hX_aR.out 2, hX_aR.out 3, hX_aR.out 4, hX_aR.out 5, (Below.refl _ _).drew⟩ | (refine HkS.out _ _ ?_ hq1; assumption) | (refine HkS.out _ _ ?_ hq2; assumption) | (refine HkS.out _ _ ?_ hq3; assumption)) (first
    | (go_at_call 17; ((with_reducible refine (toQuery_c aQ aQ_p aQ_o _ ((H_aQ_p).below (HtoB.out _ (by assumption)) (by omega)) (by have h := (HtoB.out _ (by assumption)).size; omega) ((H_aQ_o).below (HtoB.out _ (by assumption)) (by omega)) (by have h := (HtoB.out _ (by assumption)).size; omega) T_aQ).mono ?_); rintro e w3 ⟨M_r20p, r20p, r20o, rfl, H_r20p, H_r20o, ma_r20p, mb_r20p, hq1⟩; obtain ⟨A_r20p, k_r20p, rfl, -, -⟩ := (H_r20p.rdP).form; obtain ⟨A_r20o, k_r20o, rfl, -, -⟩ := (H_r20o.rdI).form))
    | (go_at_call 18; ((with_reducible refine (toResult_c aR aR_l _ ((H_aR_l).below (HtoB.out _ (by assumption)) (by omega)) (by have h := (HtoB.out _ (by assumption)).size; omega) T_aR).mono ?_); rintro e w4 ⟨r21l, rfl, H_r21l, hq2⟩; obtain ⟨A_r21l, k_r21l, rfl, -, -⟩ := (H_r21l.rdR).form))
    | (go_at_call 16; ((with_reducible refine (spec_ResultText aQ (.slice A_r20p (aQ.p.l).length k_r20p) (.slice A_r20o (aQ.out).length k_r20o) aR (.slice A_r21l (aR.rows).length k_r21l) _ ((H_r20p.rdP.below hq2 mb_r20p)) (by first | exact Nat.le_refl _ | (have hz2 := hq2.size; omega)) ((H_r20o.rdI.below hq2 (Nat.le_refl _))) (by first | exact Nat.le_refl _ | (have hz2 := hq2.size; omega)) (H_r21l.rdR) (by first | exact Nat.le_refl _ | (omega)) C0_aQ.out C0_aR.out c1_aR E0_aR.out E1_aR.out ⟨T_aR.1, T_aR.2.2⟩ (by first | exact pow_below (pow_below HTP.out hB) (HtoB.out _ (by assumption)) | exact pow_below HTP.out hB | exact pow_below (pow_below HTP.out hB) (up_a1 _ _))).mono ?_); rintro e w5 ⟨rfl, hq3⟩)))
  clear HkS HtoB
  have X_aQ := hX_aQ.out
  have X_aR := hX_aR.out
  clear hX_aQ hX_aR
  replace hq1 := Below.undrew hq1
  replace H_r20p := H_r20p.more (lo' := w2.heap.size) (Nat.le_refl _) (Nat.le_refl _)
  replace ma_r20p : w2.heap.size ≤ M_r20p := ma_r20p
  have b2 : Below w2.heap.size w2 w3 := hq1
  have z2 := b2.size
  replace H_aQ_p := H_aQ_p.below b2 (by omega)
  replace H_aQ_o := H_aQ_o.below b2 (by omega)
  replace H_aR_l := H_aR_l.below b2 (by omega)
  replace X_aQ := box_keep X_aQ b2 (by omega)
  replace Y_aQ : w.heap.size < w3.heap.size := by omega
  replace X_aR := box_keep X_aR b2 (by omega)
  replace Y_aR : w.heap.size + 1 < w3.heap.size := by omega
  replace hB := hB.trans (b2.mono hB.size)
  clear hq1 b2
  have b3 : Below w3.heap.size w3 w4 := hq2
  have z3 := b3.size
  replace H_aQ_p := H_aQ_p.below b3 (by omega)
  replace H_aQ_o := H_aQ_o.below b3 (by omega)
  replace H_aR_l := H_aR_l.below b3 (by omega)
  replace H_r20p := H_r20p.below b3 (by omega)
  replace H_r20o := H_r20o.below b3 (by omega)
  replace X_aQ := box_keep X_aQ b3 (by omega)
  replace Y_aQ : w.heap.size < w4.heap.size := by omega
  replace X_aR := box_keep X_aR b3 (by omega)
  replace Y_aR : w.heap.size + 1 < w4.heap.size := by omega
  replace hB := hB.trans (b3.mono hB.size)
  clear hq2 b3
  have b4 : Below w4.heap.size w4 w5 := hq3
  have z4 := b4.size
  replace H_aQ_p := H_aQ_p.below b4 (by omega)
  replace H_aQ_o := H_aQ_o.below b4 (by omega)
  replace H_aR_l := H_aR_l.below b4 (by omega)
  replace H_r20p := H_r20p.below b4 (by omega)
  replace H_r20o := H_r20o.below b4 (by omega)
  replace H_r21l := H_r21l.below b4 (by omega)
  replace X_aQ := box_keep X_aQ b4 (by omega)
  replace Y_aQ : w.heap.size < w5.heap.size := by omega
  replace X_aR := box_keep X_aR b4 (by omega)
  replace Y_aR : w.heap.size + 1 < w5.heap.size := by omega
  replace hB := hB.trans (b4.mono hB.size)
  clear hq3 b4
  go_wp2_with fail
  refine (toQuery_c aQ aQ_p aQ_o _ (H_aQ_p) (by omega) (H_aQ_o) (by omega) T_aQ).mono ?_
  rintro e w6 ⟨M_n5p, n5p, n5o, rfl, H_n5p, H_n5o, ma_n5p, mb_n5p, hb⟩
  have b5 : Below w5.heap.size w5 w6 := hb
  have z5 := b5.size
  replace H_aQ_p := H_aQ_p.below b5 (by omega)
  replace H_aQ_o := H_aQ_o.below b5 (by omega)
  replace H_aR_l := H_aR_l.below b5 (by omega)
  replace H_r20p := H_r20p.below b5 (by omega)
  replace H_r20o := H_r20o.below b5 (by omega)
  replace H_r21l := H_r21l.below b5 (by omega)
  replace X_aQ := box_keep X_aQ b5 (by omega)
  replace Y_aQ : w.heap.size < w6.heap.size := by omega
  replace X_aR := box_keep X_aR b5 (by omega)
  replace Y_aR : w.heap.size + 1 < w6.heap.size := by omega
  replace hB := hB.trans (b5.mono hB.size)
  clear hb b5
  obtain ⟨A_n5p, k_n5p, rfl, -, -⟩ := (H_n5p.rdP).form
  obtain ⟨A_n5o, k_n5o, rfl, -, -⟩ := (H_n5o.rdI).form
  go_wp2_with fail
  refine (toResult_c aR aR_l _ (RdR.below (H_aR_l) (up_a1 w6 _ ) (by omega)) (by simp only [World.size_alloc]; omega) T_aR).mono ?_
  rintro e w7 ⟨n6l, rfl, H_n6l, hb⟩
  replace H_n6l := H_n6l.more (lo' := w6.heap.size + 1) (by simp <;> omega) (Nat.le_refl _)
  have b6 : Below w6.heap.size w6 w7 := below_a1 hb
  have z6 : w6.heap.size + 1 ≤ w7.heap.size := by have h := hb.size; simpa [Nat.add_assoc] using h
  replace H_aQ_p := H_aQ_p.below b6 (by omega)
  replace H_aQ_o := H_aQ_o.below b6 (by omega)
  replace H_aR_l := H_aR_l.below b6 (by omega)
  replace H_r20p := H_r20p.below b6 (by omega)
  replace H_r20o := H_r20o.below b6 (by omega)
  replace H_r21l := H_r21l.below b6 (by omega)
  replace H_n5p := H_n5p.below b6 (by omega)
  replace H_n5o := H_n5o.below b6 (by omega)
  replace X_aQ := box_keep X_aQ b6 (by omega)
  replace Y_aQ : w.heap.size < w7.heap.size := by omega
  replace X_aR := box_keep X_aR b6 (by omega)
  replace Y_aR : w.heap.size + 1 < w7.heap.size := by omega
  have X_x0 : ∀ o, w7.cell? ⟨w6.heap.size, o, none⟩ = (#[.int .i64 aQ.kind, .int .i64 aQ.p.kind, .int .i64 aQ.p.col, .int .i64 aQ.p.op, .int .i64 aQ.p.v.ty, .int .i64 aQ.p.v.n, .string aQ.p.v.s, (.slice A_n5p (aQ.p.l).length k_n5p), .int .i64 aQ.col, (.slice A_n5o (aQ.out).length k_n5o)] : Array Value)[o]? := by
    intro o
    have h := box_new w6 #[.int .i64 aQ.kind, .int .i64 aQ.p.kind, .int .i64 aQ.p.col, .int .i64 aQ.p.op, .int .i64 aQ.p.v.ty, .int .i64 aQ.p.v.n, .string aQ.p.v.s, (.slice A_n5p (aQ.p.l).length k_n5p), .int .i64 aQ.col, (.slice A_n5o (aQ.out).length k_n5o)] 48 o
    replace h := (hb.cell (p := ⟨_, o, none⟩) (by simp <;> omega)).trans h
    simpa [Nat.add_assoc] using h
  have Y_x0 : w6.heap.size < w7.heap.size := by omega
  replace hB := hB.trans (b6.mono hB.size)
  clear hb b6
  obtain ⟨A_n6l, k_n6l, rfl, -, -⟩ := (H_n6l.rdR).form
  go_wp2_with fail
  refine (impl_ResultText aQ (.slice A_n5p (aQ.p.l).length k_n5p) (.slice A_n5o (aQ.out).length k_n5o) aR (.slice A_n6l (aR.rows).length k_n6l) _ (RdP.below (H_n5p.rdP) (up_a1 w7 _ ) (by omega)) (by simp only [World.size_alloc]; omega) (RdI.below (H_n5o.rdI) (up_a1 w7 _ ) (by omega)) (by simp only [World.size_alloc]; omega) (RdR.below (H_n6l.rdR) (up_a1 w7 _ ) (by omega)) (by simp only [World.size_alloc]; omega) C0_aQ.out C0_aR.out c1_aR E0_aR.out E1_aR.out ⟨T_aR.1, T_aR.2.2⟩ (by first | exact pow_below (pow_below HTP.out hB) (HtoB.out _ (by assumption)) | exact pow_below HTP.out hB | exact pow_below (pow_below HTP.out hB) (up_a1 _ _))).mono ?_
  rintro e w8 ⟨rfl, hb⟩
  have b7 : Below w7.heap.size w7 w8 := below_a1 hb
  have z7 : w7.heap.size + 1 ≤ w8.heap.size := by have h := hb.size; simpa [Nat.add_assoc] using h
  replace H_aQ_p := H_aQ_p.below b7 (by omega)
  replace H_aQ_o := H_aQ_o.below b7 (by omega)
  replace H_aR_l := H_aR_l.below b7 (by omega)
  replace H_r20p := H_r20p.below b7 (by omega)
  replace H_r20o := H_r20o.below b7 (by omega)
  replace H_r21l := H_r21l.below b7 (by omega)
  replace H_n5p := H_n5p.below b7 (by omega)
  replace H_n5o := H_n5o.below b7 (by omega)
  replace H_n6l := H_n6l.below b7 (by omega)
  replace X_aQ := box_keep X_aQ b7 (by omega)
  replace Y_aQ : w.heap.size < w8.heap.size := by omega
  replace X_aR := box_keep X_aR b7 (by omega)
  replace Y_aR : w.heap.size + 1 < w8.heap.size := by omega
  replace X_x0 := box_keep X_x0 b7 (by omega)
  replace Y_x0 : w6.heap.size < w8.heap.size := by omega
  have X_x1 : ∀ o, w8.cell? ⟨w7.heap.size, o, none⟩ = (#[(.slice A_n6l (aR.rows).length k_n6l), .int .i64 aR.n, .bool aR.has, .int .i64 aR.v.ty, .int .i64 aR.v.n, .string aR.v.s] : Array Value)[o]? := by
    intro o
    have h := box_new w7 #[(.slice A_n6l (aR.rows).length k_n6l), .int .i64 aR.n, .bool aR.has, .int .i64 aR.v.ty, .int .i64 aR.v.n, .string aR.v.s] 52 o
    replace h := (hb.cell (p := ⟨_, o, none⟩) (by simp <;> omega)).trans h
    simpa [Nat.add_assoc] using h
  have Y_x1 : w7.heap.size < w8.heap.size := by omega
  replace hB := hB.trans (b7.mono hB.size)
  clear hb b7
  have kS : ∀ A A' : World, (A.cell? ⟨w.heap.size, 0, none⟩ = some (.int .i64 aQ.kind) ∧ A.cell? ⟨w.heap.size, 1, none⟩ = some (.int .i64 aQ.p.kind) ∧ A.cell? ⟨w.heap.size, 2, none⟩ = some (.int .i64 aQ.p.col) ∧ A.cell? ⟨w.heap.size, 3, none⟩ = some (.int .i64 aQ.p.op) ∧ A.cell? ⟨w.heap.size, 4, none⟩ = some (.int .i64 aQ.p.v.ty) ∧ A.cell? ⟨w.heap.size, 5, none⟩ = some (.int .i64 aQ.p.v.n) ∧ A.cell? ⟨w.heap.size, 6, none⟩ = some (.string aQ.p.v.s) ∧ A.cell? ⟨w.heap.size, 7, none⟩ = some (aQ_p) ∧ A.cell? ⟨w.heap.size, 8, none⟩ = some (.int .i64 aQ.col) ∧ A.cell? ⟨w.heap.size, 9, none⟩ = some (aQ_o) ∧ A.cell? ⟨w6.heap.size, 0, none⟩ = some (.int .i64 aQ.kind) ∧ A.cell? ⟨w6.heap.size, 1, none⟩ = some (.int .i64 aQ.p.kind) ∧ A.cell? ⟨w6.heap.size, 2, none⟩ = some (.int .i64 aQ.p.col) ∧ A.cell? ⟨w6.heap.size, 3, none⟩ = some (.int .i64 aQ.p.op) ∧ A.cell? ⟨w6.heap.size, 4, none⟩ = some (.int .i64 aQ.p.v.ty) ∧ A.cell? ⟨w6.heap.size, 5, none⟩ = some (.int .i64 aQ.p.v.n) ∧ A.cell? ⟨w6.heap.size, 6, none⟩ = some (.string aQ.p.v.s) ∧ A.cell? ⟨w6.heap.size, 7, none⟩ = some ((.slice A_n5p (aQ.p.l).length k_n5p)) ∧ A.cell? ⟨w6.heap.size, 8, none⟩ = some (.int .i64 aQ.col) ∧ A.cell? ⟨w6.heap.size, 9, none⟩ = some ((.slice A_n5o (aQ.out).length k_n5o)) ∧ Below w8.heap.size w8 A) → Below A.heap.size A A' → (A'.cell? ⟨w.heap.size, 0, none⟩ = some (.int .i64 aQ.kind) ∧ A'.cell? ⟨w.heap.size, 1, none⟩ = some (.int .i64 aQ.p.kind) ∧ A'.cell? ⟨w.heap.size, 2, none⟩ = some (.int .i64 aQ.p.col) ∧ A'.cell? ⟨w.heap.size, 3, none⟩ = some (.int .i64 aQ.p.op) ∧ A'.cell? ⟨w.heap.size, 4, none⟩ = some (.int .i64 aQ.p.v.ty) ∧ A'.cell? ⟨w.heap.size, 5, none⟩ = some (.int .i64 aQ.p.v.n) ∧ A'.cell? ⟨w.heap.size, 6, none⟩ = some (.string aQ.p.v.s) ∧ A'.cell? ⟨w.heap.size, 7, none⟩ = some (aQ_p) ∧ A'.cell? ⟨w.heap.size, 8, none⟩ = some (.int .i64 aQ.col) ∧ A'.cell? ⟨w.heap.size, 9, none⟩ = some (aQ_o) ∧ A'.cell? ⟨w6.heap.size, 0, none⟩ = some (.int .i64 aQ.kind) ∧ A'.cell? ⟨w6.heap.size, 1, none⟩ = some (.int .i64 aQ.p.kind) ∧ A'.cell? ⟨w6.heap.size, 2, none⟩ = some (.int .i64 aQ.p.col) ∧ A'.cell? ⟨w6.heap.size, 3, none⟩ = some (.int .i64 aQ.p.op) ∧ A'.cell? ⟨w6.heap.size, 4, none⟩ = some (.int .i64 aQ.p.v.ty) ∧ A'.cell? ⟨w6.heap.size, 5, none⟩ = some (.int .i64 aQ.p.v.n) ∧ A'.cell? ⟨w6.heap.size, 6, none⟩ = some (.string aQ.p.v.s) ∧ A'.cell? ⟨w6.heap.size, 7, none⟩ = some ((.slice A_n5p (aQ.p.l).length k_n5p)) ∧ A'.cell? ⟨w6.heap.size, 8, none⟩ = some (.int .i64 aQ.col) ∧ A'.cell? ⟨w6.heap.size, 9, none⟩ = some ((.slice A_n5o (aQ.out).length k_n5o)) ∧ Below w8.heap.size w8 A') := by
    intro A A' h hb
    obtain ⟨h0, h1, h2, h3, h4, h5, h6, h7, h8, h9, h10, h11, h12, h13, h14, h15, h16, h17, h18, h19, hq⟩ := h
    have hs := hq.size
    exact ⟨(hb.cell (p := ⟨w.heap.size, 0, none⟩) (show w.heap.size < _ by omega)).trans h0, (hb.cell (p := ⟨w.heap.size, 1, none⟩) (show w.heap.size < _ by omega)).trans h1, (hb.cell (p := ⟨w.heap.size, 2, none⟩) (show w.heap.size < _ by omega)).trans h2, (hb.cell (p := ⟨w.heap.size, 3, none⟩) (show w.heap.size < _ by omega)).trans h3, (hb.cell (p := ⟨w.heap.size, 4, none⟩) (show w.heap.size < _ by omega)).trans h4, (hb.cell (p := ⟨w.heap.size, 5, none⟩) (show w.heap.size < _ by omega)).trans h5, (hb.cell (p := ⟨w.heap.size, 6, none⟩) (show w.heap.size < _ by omega)).trans h6, (hb.cell (p := ⟨w.heap.size, 7, none⟩) (show w.heap.size < _ by omega)).trans h7, (hb.cell (p := ⟨w.heap.size, 8, none⟩) (show w.heap.size < _ by omega)).trans h8, (hb.cell (p := ⟨w.heap.size, 9, none⟩) (show w.heap.size < _ by omega)).trans h9, (hb.cell (p := ⟨w6.heap.size, 0, none⟩) (show w6.heap.size < _ by omega)).trans h10, (hb.cell (p := ⟨w6.heap.size, 1, none⟩) (show w6.heap.size < _ by omega)).trans h11, (hb.cell (p := ⟨w6.heap.size, 2, none⟩) (show w6.heap.size < _ by omega)).trans h12, (hb.cell (p := ⟨w6.heap.size, 3, none⟩) (show w6.heap.size < _ by omega)).trans h13, (hb.cell (p := ⟨w6.heap.size, 4, none⟩) (show w6.heap.size < _ by omega)).trans h14, (hb.cell (p := ⟨w6.heap.size, 5, none⟩) (show w6.heap.size < _ by omega)).trans h15, (hb.cell (p := ⟨w6.heap.size, 6, none⟩) (show w6.heap.size < _ by omega)).trans h16, (hb.cell (p := ⟨w6.heap.size, 7, none⟩) (show w6.heap.size < _ by omega)).trans h17, (hb.cell (p := ⟨w6.heap.size, 8, none⟩) (show w6.heap.size < _ by omega)).trans h18, (hb.cell (p := ⟨w6.heap.size, 9, none⟩) (show w6.heap.size < _ by omega)).trans h19, hq.trans (hb.mono hs)⟩
  have toB : ∀ A : World, (A.cell? ⟨w.heap.size, 0, none⟩ = some (.int .i64 aQ.kind) ∧ A.cell? ⟨w.heap.size, 1, none⟩ = some (.int .i64 aQ.p.kind) ∧ A.cell? ⟨w.heap.size, 2, none⟩ = some (.int .i64 aQ.p.col) ∧ A.cell? ⟨w.heap.size, 3, none⟩ = some (.int .i64 aQ.p.op) ∧ A.cell? ⟨w.heap.size, 4, none⟩ = some (.int .i64 aQ.p.v.ty) ∧ A.cell? ⟨w.heap.size, 5, none⟩ = some (.int .i64 aQ.p.v.n) ∧ A.cell? ⟨w.heap.size, 6, none⟩ = some (.string aQ.p.v.s) ∧ A.cell? ⟨w.heap.size, 7, none⟩ = some (aQ_p) ∧ A.cell? ⟨w.heap.size, 8, none⟩ = some (.int .i64 aQ.col) ∧ A.cell? ⟨w.heap.size, 9, none⟩ = some (aQ_o) ∧ A.cell? ⟨w6.heap.size, 0, none⟩ = some (.int .i64 aQ.kind) ∧ A.cell? ⟨w6.heap.size, 1, none⟩ = some (.int .i64 aQ.p.kind) ∧ A.cell? ⟨w6.heap.size, 2, none⟩ = some (.int .i64 aQ.p.col) ∧ A.cell? ⟨w6.heap.size, 3, none⟩ = some (.int .i64 aQ.p.op) ∧ A.cell? ⟨w6.heap.size, 4, none⟩ = some (.int .i64 aQ.p.v.ty) ∧ A.cell? ⟨w6.heap.size, 5, none⟩ = some (.int .i64 aQ.p.v.n) ∧ A.cell? ⟨w6.heap.size, 6, none⟩ = some (.string aQ.p.v.s) ∧ A.cell? ⟨w6.heap.size, 7, none⟩ = some ((.slice A_n5p (aQ.p.l).length k_n5p)) ∧ A.cell? ⟨w6.heap.size, 8, none⟩ = some (.int .i64 aQ.col) ∧ A.cell? ⟨w6.heap.size, 9, none⟩ = some ((.slice A_n5o (aQ.out).length k_n5o)) ∧ Below w8.heap.size w8 A) → Below w8.heap.size w8 A := fun A h => h.2.2.2.2.2.2.2.2.2.2.2.2.2.2.2.2.2.2.2.2
  have HkS := Lib.hid kS
  have HtoB := Lib.hid toB
  clear kS toB
  go_wp2_with fail
  have hX_aQ := Lib.hid X_aQ
  have hX_aR := Lib.hid X_aR
  have hX_x0 := Lib.hid X_x0
  have hX_x1 := Lib.hid X_x1
  clear X_aQ X_aR X_x0 X_x1
  go_region_held3 (fun w' => w'.cell? ⟨w.heap.size, 0, none⟩ = some (.int .i64 aQ.kind) ∧ w'.cell? ⟨w.heap.size, 1, none⟩ = some (.int .i64 aQ.p.kind) ∧ w'.cell? ⟨w.heap.size, 2, none⟩ = some (.int .i64 aQ.p.col) ∧ w'.cell? ⟨w.heap.size, 3, none⟩ = some (.int .i64 aQ.p.op) ∧ w'.cell? ⟨w.heap.size, 4, none⟩ = some (.int .i64 aQ.p.v.ty) ∧ w'.cell? ⟨w.heap.size, 5, none⟩ = some (.int .i64 aQ.p.v.n) ∧ w'.cell? ⟨w.heap.size, 6, none⟩ = some (.string aQ.p.v.s) ∧ w'.cell? ⟨w.heap.size, 7, none⟩ = some (aQ_p) ∧ w'.cell? ⟨w.heap.size, 8, none⟩ = some (.int .i64 aQ.col) ∧ w'.cell? ⟨w.heap.size, 9, none⟩ = some (aQ_o) ∧ w'.cell? ⟨w6.heap.size, 0, none⟩ = some (.int .i64 aQ.kind) ∧ w'.cell? ⟨w6.heap.size, 1, none⟩ = some (.int .i64 aQ.p.kind) ∧ w'.cell? ⟨w6.heap.size, 2, none⟩ = some (.int .i64 aQ.p.col) ∧ w'.cell? ⟨w6.heap.size, 3, none⟩ = some (.int .i64 aQ.p.op) ∧ w'.cell? ⟨w6.heap.size, 4, none⟩ = some (.int .i64 aQ.p.v.ty) ∧ w'.cell? ⟨w6.heap.size, 5, none⟩ = some (.int .i64 aQ.p.v.n) ∧ w'.cell? ⟨w6.heap.size, 6, none⟩ = some (.string aQ.p.v.s) ∧ w'.cell? ⟨w6.heap.size, 7, none⟩ = some ((.slice A_n5p (aQ.p.l).length k_n5p)) ∧ w'.cell? ⟨w6.heap.size, 8, none⟩ = some (.int .i64 aQ.col) ∧ w'.cell? ⟨w6.heap.size, 9, none⟩ = some ((.slice A_n5o (aQ.out).length k_n5o)) ∧ Below w8.heap.size w8 w') (first | exact ⟨hX_aQ.out 0, hX_aQ.out 1, hX_aQ.out 2, hX_aQ.out 3, hX_aQ.out 4, hX_aQ.out 5, hX_aQ.out 6, hX_aQ.out 7, hX_aQ.out 8, hX_aQ.out 9, hX_x0.out 0, hX_x0.out 1, hX_x0.out 2, hX_x0.out 3, hX_x0.out 4, hX_x0.out 5, hX_x0.out 6, hX_x0.out 7, hX_x0.out 8, hX_x0.out 9, (Below.refl _ _).drew⟩ | (refine HkS.out _ _ ?_ hq1; assumption) | (refine HkS.out _ _ ?_ hq2; assumption)) (first
    | (go_at_call 17; ((with_reducible refine (toQuery_c aQ aQ_p aQ_o _ ((H_aQ_p).below (HtoB.out _ (by assumption)) (by omega)) (by have h := (HtoB.out _ (by assumption)).size; omega) ((H_aQ_o).below (HtoB.out _ (by assumption)) (by omega)) (by have h := (HtoB.out _ (by assumption)).size; omega) T_aQ).mono ?_); rintro e w9 ⟨M_r80p, r80p, r80o, rfl, H_r80p, H_r80o, ma_r80p, mb_r80p, hq1⟩; obtain ⟨A_r80p, k_r80p, rfl, -, -⟩ := (H_r80p.rdP).form; obtain ⟨A_r80o, k_r80o, rfl, -, -⟩ := (H_r80o.rdI).form))
    | (go_at_call 20; ((with_reducible refine (eqQuery_c aQ (.slice A_n5p (aQ.p.l).length k_n5p) (.slice A_n5o (aQ.out).length k_n5o) aQ (.slice A_r80p (aQ.p.l).length k_r80p) (.slice A_r80o (aQ.out).length k_r80o) _ ((H_n5p.rdP).below (HtoB.out _ (by assumption)) (by omega)) (by have h := (HtoB.out _ (by assumption)).size; omega) ((H_n5o.rdI).below (HtoB.out _ (by assumption)) (by omega)) (by have h := (HtoB.out _ (by assumption)).size; omega) (H_r80p.rdP) (by first | exact Nat.le_refl _ | (omega)) (H_r80o.rdI) (by first | exact Nat.le_refl _ | (omega))).mono ?_); rintro e w10 ⟨rfl, hq2⟩)))
  clear HkS HtoB
  have X_aQ := hX_aQ.out
  have X_aR := hX_aR.out
  have X_x0 := hX_x0.out
  have X_x1 := hX_x1.out
  clear hX_aQ hX_aR hX_x0 hX_x1
  replace hq1 := Below.undrew hq1
  replace H_r80p := H_r80p.more (lo' := w8.heap.size) (Nat.le_refl _) (Nat.le_refl _)
  replace ma_r80p : w8.heap.size ≤ M_r80p := ma_r80p
  have b8 : Below w8.heap.size w8 w9 := hq1
  have z8 := b8.size
  replace H_aQ_p := H_aQ_p.below b8 (by omega)
  replace H_aQ_o := H_aQ_o.below b8 (by omega)
  replace H_aR_l := H_aR_l.below b8 (by omega)
  replace H_r20p := H_r20p.below b8 (by omega)
  replace H_r20o := H_r20o.below b8 (by omega)
  replace H_r21l := H_r21l.below b8 (by omega)
  replace H_n5p := H_n5p.below b8 (by omega)
  replace H_n5o := H_n5o.below b8 (by omega)
  replace H_n6l := H_n6l.below b8 (by omega)
  replace X_aQ := box_keep X_aQ b8 (by omega)
  replace Y_aQ : w.heap.size < w9.heap.size := by omega
  replace X_aR := box_keep X_aR b8 (by omega)
  replace Y_aR : w.heap.size + 1 < w9.heap.size := by omega
  replace X_x0 := box_keep X_x0 b8 (by omega)
  replace Y_x0 : w6.heap.size < w9.heap.size := by omega
  replace X_x1 := box_keep X_x1 b8 (by omega)
  replace Y_x1 : w7.heap.size < w9.heap.size := by omega
  replace hB := hB.trans (b8.mono hB.size)
  clear hq1 b8
  have b9 : Below w9.heap.size w9 w10 := hq2
  have z9 := b9.size
  replace H_aQ_p := H_aQ_p.below b9 (by omega)
  replace H_aQ_o := H_aQ_o.below b9 (by omega)
  replace H_aR_l := H_aR_l.below b9 (by omega)
  replace H_r20p := H_r20p.below b9 (by omega)
  replace H_r20o := H_r20o.below b9 (by omega)
  replace H_r21l := H_r21l.below b9 (by omega)
  replace H_n5p := H_n5p.below b9 (by omega)
  replace H_n5o := H_n5o.below b9 (by omega)
  replace H_n6l := H_n6l.below b9 (by omega)
  replace H_r80p := H_r80p.below b9 (by omega)
  replace H_r80o := H_r80o.below b9 (by omega)
  replace X_aQ := box_keep X_aQ b9 (by omega)
  replace Y_aQ : w.heap.size < w10.heap.size := by omega
  replace X_aR := box_keep X_aR b9 (by omega)
  replace Y_aR : w.heap.size + 1 < w10.heap.size := by omega
  replace X_x0 := box_keep X_x0 b9 (by omega)
  replace Y_x0 : w6.heap.size < w10.heap.size := by omega
  replace X_x1 := box_keep X_x1 b9 (by omega)
  replace Y_x1 : w7.heap.size < w10.heap.size := by omega
  replace hB := hB.trans (b9.mono hB.size)
  clear hq2 b9
  try simp only [eqd_self]
  have kS : ∀ A A' : World, (A.cell? ⟨w.heap.size + 1, 0, none⟩ = some (aR_l) ∧ A.cell? ⟨w.heap.size + 1, 1, none⟩ = some (.int .i64 aR.n) ∧ A.cell? ⟨w.heap.size + 1, 2, none⟩ = some (.bool aR.has) ∧ A.cell? ⟨w.heap.size + 1, 3, none⟩ = some (.int .i64 aR.v.ty) ∧ A.cell? ⟨w.heap.size + 1, 4, none⟩ = some (.int .i64 aR.v.n) ∧ A.cell? ⟨w.heap.size + 1, 5, none⟩ = some (.string aR.v.s) ∧ A.cell? ⟨w7.heap.size, 0, none⟩ = some ((.slice A_n6l (aR.rows).length k_n6l)) ∧ A.cell? ⟨w7.heap.size, 1, none⟩ = some (.int .i64 aR.n) ∧ A.cell? ⟨w7.heap.size, 2, none⟩ = some (.bool aR.has) ∧ A.cell? ⟨w7.heap.size, 3, none⟩ = some (.int .i64 aR.v.ty) ∧ A.cell? ⟨w7.heap.size, 4, none⟩ = some (.int .i64 aR.v.n) ∧ A.cell? ⟨w7.heap.size, 5, none⟩ = some (.string aR.v.s) ∧ Below w10.heap.size w10 A) → Below A.heap.size A A' → (A'.cell? ⟨w.heap.size + 1, 0, none⟩ = some (aR_l) ∧ A'.cell? ⟨w.heap.size + 1, 1, none⟩ = some (.int .i64 aR.n) ∧ A'.cell? ⟨w.heap.size + 1, 2, none⟩ = some (.bool aR.has) ∧ A'.cell? ⟨w.heap.size + 1, 3, none⟩ = some (.int .i64 aR.v.ty) ∧ A'.cell? ⟨w.heap.size + 1, 4, none⟩ = some (.int .i64 aR.v.n) ∧ A'.cell? ⟨w.heap.size + 1, 5, none⟩ = some (.string aR.v.s) ∧ A'.cell? ⟨w7.heap.size, 0, none⟩ = some ((.slice A_n6l (aR.rows).length k_n6l)) ∧ A'.cell? ⟨w7.heap.size, 1, none⟩ = some (.int .i64 aR.n) ∧ A'.cell? ⟨w7.heap.size, 2, none⟩ = some (.bool aR.has) ∧ A'.cell? ⟨w7.heap.size, 3, none⟩ = some (.int .i64 aR.v.ty) ∧ A'.cell? ⟨w7.heap.size, 4, none⟩ = some (.int .i64 aR.v.n) ∧ A'.cell? ⟨w7.heap.size, 5, none⟩ = some (.string aR.v.s) ∧ Below w10.heap.size w10 A') := by
    intro A A' h hb
    obtain ⟨h0, h1, h2, h3, h4, h5, h6, h7, h8, h9, h10, h11, hq⟩ := h
    have hs := hq.size
    exact ⟨(hb.cell (p := ⟨w.heap.size + 1, 0, none⟩) (show w.heap.size + 1 < _ by omega)).trans h0, (hb.cell (p := ⟨w.heap.size + 1, 1, none⟩) (show w.heap.size + 1 < _ by omega)).trans h1, (hb.cell (p := ⟨w.heap.size + 1, 2, none⟩) (show w.heap.size + 1 < _ by omega)).trans h2, (hb.cell (p := ⟨w.heap.size + 1, 3, none⟩) (show w.heap.size + 1 < _ by omega)).trans h3, (hb.cell (p := ⟨w.heap.size + 1, 4, none⟩) (show w.heap.size + 1 < _ by omega)).trans h4, (hb.cell (p := ⟨w.heap.size + 1, 5, none⟩) (show w.heap.size + 1 < _ by omega)).trans h5, (hb.cell (p := ⟨w7.heap.size, 0, none⟩) (show w7.heap.size < _ by omega)).trans h6, (hb.cell (p := ⟨w7.heap.size, 1, none⟩) (show w7.heap.size < _ by omega)).trans h7, (hb.cell (p := ⟨w7.heap.size, 2, none⟩) (show w7.heap.size < _ by omega)).trans h8, (hb.cell (p := ⟨w7.heap.size, 3, none⟩) (show w7.heap.size < _ by omega)).trans h9, (hb.cell (p := ⟨w7.heap.size, 4, none⟩) (show w7.heap.size < _ by omega)).trans h10, (hb.cell (p := ⟨w7.heap.size, 5, none⟩) (show w7.heap.size < _ by omega)).trans h11, hq.trans (hb.mono hs)⟩
  have toB : ∀ A : World, (A.cell? ⟨w.heap.size + 1, 0, none⟩ = some (aR_l) ∧ A.cell? ⟨w.heap.size + 1, 1, none⟩ = some (.int .i64 aR.n) ∧ A.cell? ⟨w.heap.size + 1, 2, none⟩ = some (.bool aR.has) ∧ A.cell? ⟨w.heap.size + 1, 3, none⟩ = some (.int .i64 aR.v.ty) ∧ A.cell? ⟨w.heap.size + 1, 4, none⟩ = some (.int .i64 aR.v.n) ∧ A.cell? ⟨w.heap.size + 1, 5, none⟩ = some (.string aR.v.s) ∧ A.cell? ⟨w7.heap.size, 0, none⟩ = some ((.slice A_n6l (aR.rows).length k_n6l)) ∧ A.cell? ⟨w7.heap.size, 1, none⟩ = some (.int .i64 aR.n) ∧ A.cell? ⟨w7.heap.size, 2, none⟩ = some (.bool aR.has) ∧ A.cell? ⟨w7.heap.size, 3, none⟩ = some (.int .i64 aR.v.ty) ∧ A.cell? ⟨w7.heap.size, 4, none⟩ = some (.int .i64 aR.v.n) ∧ A.cell? ⟨w7.heap.size, 5, none⟩ = some (.string aR.v.s) ∧ Below w10.heap.size w10 A) → Below w10.heap.size w10 A := fun A h => h.2.2.2.2.2.2.2.2.2.2.2.2
  have HkS := Lib.hid kS
  have HtoB := Lib.hid toB
  clear kS toB
  go_wp2_with fail
  have hX_aQ := Lib.hid X_aQ
  have hX_aR := Lib.hid X_aR
  have hX_x0 := Lib.hid X_x0
  have hX_x1 := Lib.hid X_x1
  clear X_aQ X_aR X_x0 X_x1
  go_region_held3 (fun w' => w'.cell? ⟨w.heap.size + 1, 0, none⟩ = some (aR_l) ∧ w'.cell? ⟨w.heap.size + 1, 1, none⟩ = some (.int .i64 aR.n) ∧ w'.cell? ⟨w.heap.size + 1, 2, none⟩ = some (.bool aR.has) ∧ w'.cell? ⟨w.heap.size + 1, 3, none⟩ = some (.int .i64 aR.v.ty) ∧ w'.cell? ⟨w.heap.size + 1, 4, none⟩ = some (.int .i64 aR.v.n) ∧ w'.cell? ⟨w.heap.size + 1, 5, none⟩ = some (.string aR.v.s) ∧ w'.cell? ⟨w7.heap.size, 0, none⟩ = some ((.slice A_n6l (aR.rows).length k_n6l)) ∧ w'.cell? ⟨w7.heap.size, 1, none⟩ = some (.int .i64 aR.n) ∧ w'.cell? ⟨w7.heap.size, 2, none⟩ = some (.bool aR.has) ∧ w'.cell? ⟨w7.heap.size, 3, none⟩ = some (.int .i64 aR.v.ty) ∧ w'.cell? ⟨w7.heap.size, 4, none⟩ = some (.int .i64 aR.v.n) ∧ w'.cell? ⟨w7.heap.size, 5, none⟩ = some (.string aR.v.s) ∧ Below w10.heap.size w10 w') (first | exact ⟨hX_aR.out 0, hX_aR.out 1, hX_aR.out 2, hX_aR.out 3, hX_aR.out 4, hX_aR.out 5, hX_x1.out 0, hX_x1.out 1, hX_x1.out 2, hX_x1.out 3, hX_x1.out 4, hX_x1.out 5, (Below.refl _ _).drew⟩ | (refine HkS.out _ _ ?_ hq1; assumption) | (refine HkS.out _ _ ?_ hq2; assumption)) (first
    | (go_at_call 18; ((with_reducible refine (toResult_c aR aR_l _ ((H_aR_l).below (HtoB.out _ (by assumption)) (by omega)) (by have h := (HtoB.out _ (by assumption)).size; omega) T_aR).mono ?_); rintro e w11 ⟨r100l, rfl, H_r100l, hq1⟩; obtain ⟨A_r100l, k_r100l, rfl, -, -⟩ := (H_r100l.rdR).form))
    | (go_at_call 21; ((with_reducible refine (eqResult_c aR (.slice A_n6l (aR.rows).length k_n6l) aR (.slice A_r100l (aR.rows).length k_r100l) _ ((H_n6l.rdR).below (HtoB.out _ (by assumption)) (by omega)) (by have h := (HtoB.out _ (by assumption)).size; omega) (H_r100l.rdR) (by first | exact Nat.le_refl _ | (omega))).mono ?_); rintro e w12 ⟨rfl, hq2⟩)))
  clear HkS HtoB
  have X_aQ := hX_aQ.out
  have X_aR := hX_aR.out
  have X_x0 := hX_x0.out
  have X_x1 := hX_x1.out
  clear hX_aQ hX_aR hX_x0 hX_x1
  replace hq1 := Below.undrew hq1
  replace H_r100l := H_r100l.more (lo' := w10.heap.size) (Nat.le_refl _) (Nat.le_refl _)
  have b10 : Below w10.heap.size w10 w11 := hq1
  have z10 := b10.size
  replace H_aQ_p := H_aQ_p.below b10 (by omega)
  replace H_aQ_o := H_aQ_o.below b10 (by omega)
  replace H_aR_l := H_aR_l.below b10 (by omega)
  replace H_r20p := H_r20p.below b10 (by omega)
  replace H_r20o := H_r20o.below b10 (by omega)
  replace H_r21l := H_r21l.below b10 (by omega)
  replace H_n5p := H_n5p.below b10 (by omega)
  replace H_n5o := H_n5o.below b10 (by omega)
  replace H_n6l := H_n6l.below b10 (by omega)
  replace H_r80p := H_r80p.below b10 (by omega)
  replace H_r80o := H_r80o.below b10 (by omega)
  replace X_aQ := box_keep X_aQ b10 (by omega)
  replace Y_aQ : w.heap.size < w11.heap.size := by omega
  replace X_aR := box_keep X_aR b10 (by omega)
  replace Y_aR : w.heap.size + 1 < w11.heap.size := by omega
  replace X_x0 := box_keep X_x0 b10 (by omega)
  replace Y_x0 : w6.heap.size < w11.heap.size := by omega
  replace X_x1 := box_keep X_x1 b10 (by omega)
  replace Y_x1 : w7.heap.size < w11.heap.size := by omega
  replace hB := hB.trans (b10.mono hB.size)
  clear hq1 b10
  have b11 : Below w11.heap.size w11 w12 := hq2
  have z11 := b11.size
  replace H_aQ_p := H_aQ_p.below b11 (by omega)
  replace H_aQ_o := H_aQ_o.below b11 (by omega)
  replace H_aR_l := H_aR_l.below b11 (by omega)
  replace H_r20p := H_r20p.below b11 (by omega)
  replace H_r20o := H_r20o.below b11 (by omega)
  replace H_r21l := H_r21l.below b11 (by omega)
  replace H_n5p := H_n5p.below b11 (by omega)
  replace H_n5o := H_n5o.below b11 (by omega)
  replace H_n6l := H_n6l.below b11 (by omega)
  replace H_r80p := H_r80p.below b11 (by omega)
  replace H_r80o := H_r80o.below b11 (by omega)
  replace H_r100l := H_r100l.below b11 (by omega)
  replace X_aQ := box_keep X_aQ b11 (by omega)
  replace Y_aQ : w.heap.size < w12.heap.size := by omega
  replace X_aR := box_keep X_aR b11 (by omega)
  replace Y_aR : w.heap.size + 1 < w12.heap.size := by omega
  replace X_x0 := box_keep X_x0 b11 (by omega)
  replace Y_x0 : w6.heap.size < w12.heap.size := by omega
  replace X_x1 := box_keep X_x1 b11 (by omega)
  replace Y_x1 : w7.heap.size < w12.heap.size := by omega
  replace hB := hB.trans (b11.mono hB.size)
  clear hq2 b11
  try simp only [eqd_self]
  go_wp2_with fail
  go_ret
  exact ⟨rfl, hB⟩

end Go.Proofs.YtmnmnofjeoanjaaDoor
