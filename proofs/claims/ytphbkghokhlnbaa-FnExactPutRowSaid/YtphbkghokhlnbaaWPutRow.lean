/- The law FnExactPutRow: its walk, out of the contracts of what it calls. -/
import Derived.Test.YtphbkghokhlnbaaS38
import Derived.Test.YtphbkghokhlnbaaLR6
namespace Go.Proofs.Ytphbkghokhlnbaa
open Go.ChangeShapes Go.WideShapes Go.ChangeAt Go.RowKit Go.Lb

set_option maxRecDepth 20000 in
set_option maxHeartbeats 4000000 in
theorem wPutRow (aL : List R) (aL_s : Value) (aR : R) (aR_l : Value) (w : World) (H_aL_s : RdR w 0 w.heap.size aL_s aL) (c0_aL : RsOk aL) (H_aR_l : RdV w 0 w.heap.size aR_l (aR.l)) (c0_aR : ∀ v ∈ aR.l, v.s.size ≤ maxLen) :
    Calls Try.prog 14 #[aL_s, .agg #[.int .i64 aR.id, aR_l]] w fun e w' => e = .returned (.bool true) ∧ Below w.heap.size w w' := by
  have C0_aL := Lib.hid c0_aL
  clear c0_aL
  have C0_aR := Lib.hid c0_aR
  clear c0_aR
  have O0 := putRow_bd aL aR
  have hB : Below w.heap.size w w := Below.refl _ _
  go_enter Try.func14, Try.ntmps14
  go_wp2_with fail
  refine (szRowS_c aL aL_s 1048576 _ (RdR.below (H_aL_s) (up_a1 w _ ) (by omega)) (by simp only [World.size_alloc]; omega) C0_aL.out (by omega) (by omega)).mono ?_
  rintro e w1 ⟨rfl, hb⟩
  have b0 : Below w.heap.size w w1 := below_a1 hb
  have z0 : w.heap.size + 1 ≤ w1.heap.size := by have h := hb.size; simpa [Nat.add_assoc] using h
  replace H_aL_s := H_aL_s.below b0 (by omega)
  replace H_aR_l := H_aR_l.below b0 (by omega)
  have X_aR : ∀ o, w1.cell? ⟨w.heap.size, o, none⟩ = (#[.int .i64 aR.id, aR_l] : Array Value)[o]? := by
    intro o
    have h := box_new w #[.int .i64 aR.id, aR_l] 90 o
    replace h := (hb.cell (p := ⟨_, o, none⟩) (by simp <;> omega)).trans h
    simpa [Nat.add_assoc] using h
  have Y_aR : w.heap.size < w1.heap.size := by omega
  replace hB := hB.trans (b0.mono hB.size)
  clear hb b0
  have L0 := szRowS_le aL 1048576 (by omega) (by omega)
  have T_aL := szRowS_bd aL 1048576 (by omega) (by omega)
  generalize szRowS aL 1048576 = m0 at *
  by_cases h0 : m0 < 0
  · go_wp2_with fail
    go_ret
    exact ⟨rfl, hB⟩
  replace T_aL := T_aL h0
  go_wp2_with fail
  refine (szRow_c aR aR_l m0 _ (H_aR_l) (by omega) C0_aR.out (by omega) L0).mono ?_
  rintro e w2 ⟨rfl, hb⟩
  have b1 : Below w1.heap.size w1 w2 := hb
  have z1 := b1.size
  replace H_aL_s := H_aL_s.below b1 (by omega)
  replace H_aR_l := H_aR_l.below b1 (by omega)
  replace X_aR := box_keep X_aR b1 (by omega)
  replace Y_aR : w.heap.size < w2.heap.size := by omega
  replace hB := hB.trans (b1.mono hB.size)
  clear hb b1
  have L1 := szR_le aR m0 (by omega) L0
  have T_aR := szR_bd aR m0 (by omega) L0
  generalize szR aR m0 = m1 at *
  by_cases h1 : m1 < 0
  · go_wp2_with fail
    go_ret
    exact ⟨rfl, hB⟩
  replace T_aR := T_aR h1
  have kS : ∀ A A' : World, (A.cell? ⟨w.heap.size, 0, none⟩ = some (.int .i64 aR.id) ∧ A.cell? ⟨w.heap.size, 1, none⟩ = some (aR_l) ∧ Below w2.heap.size w2 A) → Below A.heap.size A A' → (A'.cell? ⟨w.heap.size, 0, none⟩ = some (.int .i64 aR.id) ∧ A'.cell? ⟨w.heap.size, 1, none⟩ = some (aR_l) ∧ Below w2.heap.size w2 A') := by
    intro A A' h hb
    obtain ⟨h0, h1, hq⟩ := h
    have hs := hq.size
    exact ⟨(hb.cell (p := ⟨w.heap.size, 0, none⟩) (show w.heap.size < _ by omega)).trans h0, (hb.cell (p := ⟨w.heap.size, 1, none⟩) (show w.heap.size < _ by omega)).trans h1, hq.trans (hb.mono hs)⟩
  have toB : ∀ A : World, (A.cell? ⟨w.heap.size, 0, none⟩ = some (.int .i64 aR.id) ∧ A.cell? ⟨w.heap.size, 1, none⟩ = some (aR_l) ∧ Below w2.heap.size w2 A) → Below w2.heap.size w2 A := fun A h => h.2.2
  have HkS := Lib.hid kS
  have HtoB := Lib.hid toB
  clear kS toB
  go_wp2_with fail
  have hX_aR := Lib.hid X_aR
  clear X_aR
  go_region_held3 (fun w' => w'.cell? ⟨w.heap.size, 0, none⟩ = some (.int .i64 aR.id) ∧ w'.cell? ⟨w.heap.size, 1, none⟩ = some (aR_l) ∧ Below w2.heap.size w2 w') (first | exact ⟨hX_aR.out 0, hX_aR.out 1, (Below.refl _ _).drew⟩ | (refine HkS.out _ _ ?_ hq1; assumption) | (refine HkS.out _ _ ?_ hq2; assumption) | (refine HkS.out _ _ ?_ hq3; assumption)) (first
    | (go_at_call 46; ((with_reducible refine (toRowS_c aL aL_s _ ((H_aL_s).below (HtoB.out _ (by assumption)) (by omega)) (by have h := (HtoB.out _ (by assumption)).size; omega) T_aL).mono ?_); rintro e w3 ⟨r20, rfl, H_r20, hq1⟩))
    | (go_at_call 66; ((with_reducible refine (toRow_c aR aR_l _ ((H_aR_l).below (HtoB.out _ (by assumption)) (by omega)) (by have h := (HtoB.out _ (by assumption)).size; omega) T_aR).mono ?_); rintro e w4 ⟨r21l, rfl, H_r21l, hq2⟩; obtain ⟨A_r21l, k_r21l, rfl, -, -⟩ := (H_r21l.rdV).form))
    | (go_at_call 65; ((with_reducible refine (spec_PutRow aL r20 aR (.slice A_r21l (aR.l).length k_r21l) _ ((H_r20.rdR.below hq2 (Nat.le_refl _))) (by first | exact Nat.le_refl _ | (have hz2 := hq2.size; omega)) (H_r21l.rdV) (by first | exact Nat.le_refl _ | (omega))  ⟨T_aL.1, T_aL.2.2⟩ T_aR).mono ?_); rintro e w5 ⟨r22q, rfl, H_r22q, hq3⟩)))
  clear HkS HtoB
  have X_aR := hX_aR.out
  clear hX_aR
  replace hq1 := Below.undrew hq1
  replace H_r20 := H_r20.more (lo' := w2.heap.size) (Nat.le_refl _) (Nat.le_refl _)
  have b2 : Below w2.heap.size w2 w3 := hq1
  have z2 := b2.size
  replace H_aL_s := H_aL_s.below b2 (by omega)
  replace H_aR_l := H_aR_l.below b2 (by omega)
  replace X_aR := box_keep X_aR b2 (by omega)
  replace Y_aR : w.heap.size < w3.heap.size := by omega
  replace hB := hB.trans (b2.mono hB.size)
  clear hq1 b2
  have b3 : Below w3.heap.size w3 w4 := hq2
  have z3 := b3.size
  replace H_aL_s := H_aL_s.below b3 (by omega)
  replace H_aR_l := H_aR_l.below b3 (by omega)
  replace H_r20 := H_r20.below b3 (by omega)
  replace X_aR := box_keep X_aR b3 (by omega)
  replace Y_aR : w.heap.size < w4.heap.size := by omega
  replace hB := hB.trans (b3.mono hB.size)
  clear hq2 b3
  have b4 : Below w4.heap.size w4 w5 := hq3
  have z4 := b4.size
  replace H_aL_s := H_aL_s.below b4 (by omega)
  replace H_aR_l := H_aR_l.below b4 (by omega)
  replace H_r20 := H_r20.below b4 (by omega)
  replace H_r21l := H_r21l.below b4 (by omega)
  replace X_aR := box_keep X_aR b4 (by omega)
  replace Y_aR : w.heap.size < w5.heap.size := by omega
  replace hB := hB.trans (b4.mono hB.size)
  clear hq3 b4
  go_wp2_with fail
  refine (toRowS_c aL aL_s _ (H_aL_s) (by omega) T_aL).mono ?_
  rintro e w6 ⟨n5, rfl, H_n5, hb⟩
  have b5 : Below w5.heap.size w5 w6 := hb
  have z5 := b5.size
  replace H_aL_s := H_aL_s.below b5 (by omega)
  replace H_aR_l := H_aR_l.below b5 (by omega)
  replace H_r20 := H_r20.below b5 (by omega)
  replace H_r21l := H_r21l.below b5 (by omega)
  replace H_r22q := H_r22q.below b5 (by omega)
  replace X_aR := box_keep X_aR b5 (by omega)
  replace Y_aR : w.heap.size < w6.heap.size := by omega
  replace hB := hB.trans (b5.mono hB.size)
  clear hb b5
  go_wp2_with fail
  refine (toRow_c aR aR_l _ (H_aR_l) (by omega) T_aR).mono ?_
  rintro e w7 ⟨n6l, rfl, H_n6l, hb⟩
  have b6 : Below w6.heap.size w6 w7 := hb
  have z6 := b6.size
  replace H_aL_s := H_aL_s.below b6 (by omega)
  replace H_aR_l := H_aR_l.below b6 (by omega)
  replace H_r20 := H_r20.below b6 (by omega)
  replace H_r21l := H_r21l.below b6 (by omega)
  replace H_r22q := H_r22q.below b6 (by omega)
  replace H_n5 := H_n5.below b6 (by omega)
  replace X_aR := box_keep X_aR b6 (by omega)
  replace Y_aR : w.heap.size < w7.heap.size := by omega
  replace hB := hB.trans (b6.mono hB.size)
  clear hb b6
  obtain ⟨A_n6l, k_n6l, rfl, -, -⟩ := (H_n6l.rdV).form
  go_wp2_with fail
  refine (impl_PutRow aL n5 aR (.slice A_n6l (aR.l).length k_n6l) _ (RdR.below (H_n5.rdR) (up_a1 w7 _ ) (by omega)) (by simp only [World.size_alloc]; omega) (RdV.below (H_n6l.rdV) (up_a1 w7 _ ) (by omega)) (by simp only [World.size_alloc]; omega)  ⟨T_aL.1, T_aL.2.2⟩ T_aR).mono ?_
  rintro e w8 ⟨n7q, rfl, H_n7q, hb⟩
  replace H_n7q := H_n7q.more (lo' := w7.heap.size + 1) (by simp <;> omega) (Nat.le_refl _)
  have b7 : Below w7.heap.size w7 w8 := below_a1 hb
  have z7 : w7.heap.size + 1 ≤ w8.heap.size := by have h := hb.size; simpa [Nat.add_assoc] using h
  replace H_aL_s := H_aL_s.below b7 (by omega)
  replace H_aR_l := H_aR_l.below b7 (by omega)
  replace H_r20 := H_r20.below b7 (by omega)
  replace H_r21l := H_r21l.below b7 (by omega)
  replace H_r22q := H_r22q.below b7 (by omega)
  replace H_n5 := H_n5.below b7 (by omega)
  replace H_n6l := H_n6l.below b7 (by omega)
  replace X_aR := box_keep X_aR b7 (by omega)
  replace Y_aR : w.heap.size < w8.heap.size := by omega
  have X_x1 : ∀ o, w8.cell? ⟨w7.heap.size, o, none⟩ = (#[.int .i64 aR.id, (.slice A_n6l (aR.l).length k_n6l)] : Array Value)[o]? := by
    intro o
    have h := box_new w7 #[.int .i64 aR.id, (.slice A_n6l (aR.l).length k_n6l)] 66 o
    replace h := (hb.cell (p := ⟨_, o, none⟩) (by simp <;> omega)).trans h
    simpa [Nat.add_assoc] using h
  have Y_x1 : w7.heap.size < w8.heap.size := by omega
  replace hB := hB.trans (b7.mono hB.size)
  clear hb b7
  go_wp2_with fail
  refine (eqRowS_c ((putRow aL aR)) n7q ((putRow aL aR)) r22q _ (H_n7q.rdR) (by omega) (H_r22q.rdR) (by omega)).mono ?_
  rintro e w9 ⟨rfl, hb⟩
  have b8 : Below w8.heap.size w8 w9 := hb
  have z8 := b8.size
  replace H_aL_s := H_aL_s.below b8 (by omega)
  replace H_aR_l := H_aR_l.below b8 (by omega)
  replace H_r20 := H_r20.below b8 (by omega)
  replace H_r21l := H_r21l.below b8 (by omega)
  replace H_r22q := H_r22q.below b8 (by omega)
  replace H_n5 := H_n5.below b8 (by omega)
  replace H_n6l := H_n6l.below b8 (by omega)
  replace H_n7q := H_n7q.below b8 (by omega)
  replace X_aR := box_keep X_aR b8 (by omega)
  replace Y_aR : w.heap.size < w9.heap.size := by omega
  replace X_x1 := box_keep X_x1 b8 (by omega)
  replace Y_x1 : w7.heap.size < w9.heap.size := by omega
  replace hB := hB.trans (b8.mono hB.size)
  clear hb b8
  try simp only [eqd_self]
  go_wp2_with fail
  refine (toRowS_c aL aL_s _ (H_aL_s) (by omega) T_aL).mono ?_
  rintro e w10 ⟨n9, rfl, H_n9, hb⟩
  have b9 : Below w9.heap.size w9 w10 := hb
  have z9 := b9.size
  replace H_aL_s := H_aL_s.below b9 (by omega)
  replace H_aR_l := H_aR_l.below b9 (by omega)
  replace H_r20 := H_r20.below b9 (by omega)
  replace H_r21l := H_r21l.below b9 (by omega)
  replace H_r22q := H_r22q.below b9 (by omega)
  replace H_n5 := H_n5.below b9 (by omega)
  replace H_n6l := H_n6l.below b9 (by omega)
  replace H_n7q := H_n7q.below b9 (by omega)
  replace X_aR := box_keep X_aR b9 (by omega)
  replace Y_aR : w.heap.size < w10.heap.size := by omega
  replace X_x1 := box_keep X_x1 b9 (by omega)
  replace Y_x1 : w7.heap.size < w10.heap.size := by omega
  replace hB := hB.trans (b9.mono hB.size)
  clear hb b9
  go_wp2_with fail
  refine (eqRowS_c aL n5 aL n9 _ (H_n5.rdR) (by omega) (H_n9.rdR) (by omega)).mono ?_
  rintro e w11 ⟨rfl, hb⟩
  have b10 : Below w10.heap.size w10 w11 := hb
  have z10 := b10.size
  replace H_aL_s := H_aL_s.below b10 (by omega)
  replace H_aR_l := H_aR_l.below b10 (by omega)
  replace H_r20 := H_r20.below b10 (by omega)
  replace H_r21l := H_r21l.below b10 (by omega)
  replace H_r22q := H_r22q.below b10 (by omega)
  replace H_n5 := H_n5.below b10 (by omega)
  replace H_n6l := H_n6l.below b10 (by omega)
  replace H_n7q := H_n7q.below b10 (by omega)
  replace H_n9 := H_n9.below b10 (by omega)
  replace X_aR := box_keep X_aR b10 (by omega)
  replace Y_aR : w.heap.size < w11.heap.size := by omega
  replace X_x1 := box_keep X_x1 b10 (by omega)
  replace Y_x1 : w7.heap.size < w11.heap.size := by omega
  replace hB := hB.trans (b10.mono hB.size)
  clear hb b10
  try simp only [eqd_self]
  have kS : ∀ A A' : World, (A.cell? ⟨w.heap.size, 0, none⟩ = some (.int .i64 aR.id) ∧ A.cell? ⟨w.heap.size, 1, none⟩ = some (aR_l) ∧ A.cell? ⟨w7.heap.size, 0, none⟩ = some (.int .i64 aR.id) ∧ A.cell? ⟨w7.heap.size, 1, none⟩ = some ((.slice A_n6l (aR.l).length k_n6l)) ∧ Below w11.heap.size w11 A) → Below A.heap.size A A' → (A'.cell? ⟨w.heap.size, 0, none⟩ = some (.int .i64 aR.id) ∧ A'.cell? ⟨w.heap.size, 1, none⟩ = some (aR_l) ∧ A'.cell? ⟨w7.heap.size, 0, none⟩ = some (.int .i64 aR.id) ∧ A'.cell? ⟨w7.heap.size, 1, none⟩ = some ((.slice A_n6l (aR.l).length k_n6l)) ∧ Below w11.heap.size w11 A') := by
    intro A A' h hb
    obtain ⟨h0, h1, h2, h3, hq⟩ := h
    have hs := hq.size
    exact ⟨(hb.cell (p := ⟨w.heap.size, 0, none⟩) (show w.heap.size < _ by omega)).trans h0, (hb.cell (p := ⟨w.heap.size, 1, none⟩) (show w.heap.size < _ by omega)).trans h1, (hb.cell (p := ⟨w7.heap.size, 0, none⟩) (show w7.heap.size < _ by omega)).trans h2, (hb.cell (p := ⟨w7.heap.size, 1, none⟩) (show w7.heap.size < _ by omega)).trans h3, hq.trans (hb.mono hs)⟩
  have toB : ∀ A : World, (A.cell? ⟨w.heap.size, 0, none⟩ = some (.int .i64 aR.id) ∧ A.cell? ⟨w.heap.size, 1, none⟩ = some (aR_l) ∧ A.cell? ⟨w7.heap.size, 0, none⟩ = some (.int .i64 aR.id) ∧ A.cell? ⟨w7.heap.size, 1, none⟩ = some ((.slice A_n6l (aR.l).length k_n6l)) ∧ Below w11.heap.size w11 A) → Below w11.heap.size w11 A := fun A h => h.2.2.2.2
  have HkS := Lib.hid kS
  have HtoB := Lib.hid toB
  clear kS toB
  go_wp2_with fail
  have hX_aR := Lib.hid X_aR
  have hX_x1 := Lib.hid X_x1
  clear X_aR X_x1
  go_region_held3 (fun w' => w'.cell? ⟨w.heap.size, 0, none⟩ = some (.int .i64 aR.id) ∧ w'.cell? ⟨w.heap.size, 1, none⟩ = some (aR_l) ∧ w'.cell? ⟨w7.heap.size, 0, none⟩ = some (.int .i64 aR.id) ∧ w'.cell? ⟨w7.heap.size, 1, none⟩ = some ((.slice A_n6l (aR.l).length k_n6l)) ∧ Below w11.heap.size w11 w') (first | exact ⟨hX_aR.out 0, hX_aR.out 1, hX_x1.out 0, hX_x1.out 1, (Below.refl _ _).drew⟩ | (refine HkS.out _ _ ?_ hq1; assumption) | (refine HkS.out _ _ ?_ hq2; assumption)) (first
    | (go_at_call 66; ((with_reducible refine (toRow_c aR aR_l _ ((H_aR_l).below (HtoB.out _ (by assumption)) (by omega)) (by have h := (HtoB.out _ (by assumption)).size; omega) T_aR).mono ?_); rintro e w12 ⟨r110l, rfl, H_r110l, hq1⟩; obtain ⟨A_r110l, k_r110l, rfl, -, -⟩ := (H_r110l.rdV).form))
    | (go_at_call 48; ((with_reducible refine (eqRow_c aR (.slice A_n6l (aR.l).length k_n6l) aR (.slice A_r110l (aR.l).length k_r110l) _ ((H_n6l.rdV).below (HtoB.out _ (by assumption)) (by omega)) (by have h := (HtoB.out _ (by assumption)).size; omega) (H_r110l.rdV) (by first | exact Nat.le_refl _ | (omega))).mono ?_); rintro e w13 ⟨rfl, hq2⟩)))
  clear HkS HtoB
  have X_aR := hX_aR.out
  have X_x1 := hX_x1.out
  clear hX_aR hX_x1
  replace hq1 := Below.undrew hq1
  replace H_r110l := H_r110l.more (lo' := w11.heap.size) (Nat.le_refl _) (Nat.le_refl _)
  have b11 : Below w11.heap.size w11 w12 := hq1
  have z11 := b11.size
  replace H_aL_s := H_aL_s.below b11 (by omega)
  replace H_aR_l := H_aR_l.below b11 (by omega)
  replace H_r20 := H_r20.below b11 (by omega)
  replace H_r21l := H_r21l.below b11 (by omega)
  replace H_r22q := H_r22q.below b11 (by omega)
  replace H_n5 := H_n5.below b11 (by omega)
  replace H_n6l := H_n6l.below b11 (by omega)
  replace H_n7q := H_n7q.below b11 (by omega)
  replace H_n9 := H_n9.below b11 (by omega)
  replace X_aR := box_keep X_aR b11 (by omega)
  replace Y_aR : w.heap.size < w12.heap.size := by omega
  replace X_x1 := box_keep X_x1 b11 (by omega)
  replace Y_x1 : w7.heap.size < w12.heap.size := by omega
  replace hB := hB.trans (b11.mono hB.size)
  clear hq1 b11
  have b12 : Below w12.heap.size w12 w13 := hq2
  have z12 := b12.size
  replace H_aL_s := H_aL_s.below b12 (by omega)
  replace H_aR_l := H_aR_l.below b12 (by omega)
  replace H_r20 := H_r20.below b12 (by omega)
  replace H_r21l := H_r21l.below b12 (by omega)
  replace H_r22q := H_r22q.below b12 (by omega)
  replace H_n5 := H_n5.below b12 (by omega)
  replace H_n6l := H_n6l.below b12 (by omega)
  replace H_n7q := H_n7q.below b12 (by omega)
  replace H_n9 := H_n9.below b12 (by omega)
  replace H_r110l := H_r110l.below b12 (by omega)
  replace X_aR := box_keep X_aR b12 (by omega)
  replace Y_aR : w.heap.size < w13.heap.size := by omega
  replace X_x1 := box_keep X_x1 b12 (by omega)
  replace Y_x1 : w7.heap.size < w13.heap.size := by omega
  replace hB := hB.trans (b12.mono hB.size)
  clear hq2 b12
  try simp only [eqd_self]
  go_wp2_with fail
  refine (markRowS_c n5 aL 1 _ H_n5 (by omega) (by omega)).mono ?_
  rintro e w14 ⟨rfl, H_n5m, hb⟩
  clear H_n5
  have z13 := hb.size
  replace H_aL_s := H_aL_s.same (.of_chg hb (by omega) (by omega))
  replace H_aR_l := H_aR_l.same (.of_chg hb (by omega) (by omega))
  replace H_r20 := H_r20.same (.of_chg hb (by omega) (by omega))
  replace H_r21l := H_r21l.same (.of_chg hb (by omega) (by omega))
  replace H_r22q := H_r22q.same (.of_chg hb (by omega) (by omega))
  replace H_n6l := H_n6l.same (.of_chg hb (by omega) (by omega))
  replace H_n7q := H_n7q.same (.of_chg hb (by omega) (by omega))
  replace H_n9 := H_n9.same (.of_chg hb (by omega) (by omega))
  replace H_r110l := H_r110l.same (.of_chg hb (by omega) (by omega))
  replace X_aR := box_chg X_aR hb (by omega) (by omega)
  replace Y_aR : w.heap.size < w14.heap.size := by omega
  replace X_x1 := box_chg X_x1 hb (by omega) (by omega)
  replace Y_x1 : w7.heap.size < w14.heap.size := by omega
  replace hB := hB.trans (hb.below (by omega) (by omega))
  clear hb
  have H_n5 := H_n5m
  clear H_n5m
  go_wp2_with fail
  refine (markRow_c aR (.slice A_n6l (aR.l).length k_n6l) (1 + (cntR (aL) : Nat)) _ H_n6l (by omega) (by omega) (by omega)).mono ?_
  rintro e w15 ⟨rfl, H_n6lm, hb⟩
  clear H_n6l
  have z14 := hb.size
  replace H_aL_s := H_aL_s.same (.of_chg hb (by omega) (by omega))
  replace H_aR_l := H_aR_l.same (.of_chg hb (by omega) (by omega))
  replace H_r20 := H_r20.same (.of_chg hb (by omega) (by omega))
  replace H_r21l := H_r21l.same (.of_chg hb (by omega) (by omega))
  replace H_r22q := H_r22q.same (.of_chg hb (by omega) (by omega))
  replace H_n5 := H_n5.same (.of_chg hb (by omega) (by omega))
  replace H_n7q := H_n7q.same (.of_chg hb (by omega) (by omega))
  replace H_n9 := H_n9.same (.of_chg hb (by omega) (by omega))
  replace H_r110l := H_r110l.same (.of_chg hb (by omega) (by omega))
  replace X_aR := box_chg X_aR hb (by omega) (by omega)
  replace Y_aR : w.heap.size < w15.heap.size := by omega
  replace X_x1 := box_chg X_x1 hb (by omega) (by omega)
  replace Y_x1 : w7.heap.size < w15.heap.size := by omega
  replace hB := hB.trans (hb.below (by omega) (by omega))
  clear hb
  have H_n6l := H_n6lm
  clear H_n6lm
  go_wp2_with fail
  refine (eqRowS_c ((putRow aL aR)) n7q ((putRow aL aR)) r22q _ (H_n7q.rdR) (by omega) (H_r22q.rdR) (by omega)).mono ?_
  rintro e w16 ⟨rfl, hb⟩
  have b15 : Below w15.heap.size w15 w16 := hb
  have z15 := b15.size
  replace H_aL_s := H_aL_s.below b15 (by omega)
  replace H_aR_l := H_aR_l.below b15 (by omega)
  replace H_r20 := H_r20.below b15 (by omega)
  replace H_r21l := H_r21l.below b15 (by omega)
  replace H_r22q := H_r22q.below b15 (by omega)
  replace H_n5 := H_n5.below b15 (by omega)
  replace H_n6l := H_n6l.below b15 (by omega)
  replace H_n7q := H_n7q.below b15 (by omega)
  replace H_n9 := H_n9.below b15 (by omega)
  replace H_r110l := H_r110l.below b15 (by omega)
  replace X_aR := box_keep X_aR b15 (by omega)
  replace Y_aR : w.heap.size < w16.heap.size := by omega
  replace X_x1 := box_keep X_x1 b15 (by omega)
  replace Y_x1 : w7.heap.size < w16.heap.size := by omega
  replace hB := hB.trans (b15.mono hB.size)
  clear hb b15
  try simp only [eqd_self]
  go_wp2_with fail
  refine (markRowS_c n7q ((putRow aL aR)) 1 _ H_n7q (by omega) (by omega)).mono ?_
  rintro e w17 ⟨rfl, H_n7qm, hb⟩
  clear H_n7q
  have z16 := hb.size
  replace H_aL_s := H_aL_s.same (.of_chg hb (by omega) (by omega))
  replace H_aR_l := H_aR_l.same (.of_chg hb (by omega) (by omega))
  replace H_r20 := H_r20.same (.of_chg hb (by omega) (by omega))
  replace H_r21l := H_r21l.same (.of_chg hb (by omega) (by omega))
  replace H_r22q := H_r22q.same (.of_chg hb (by omega) (by omega))
  replace H_n5 := H_n5.same (.of_chg hb (by omega) (by omega))
  replace H_n6l := H_n6l.same (.of_chg hb (by omega) (by omega))
  replace H_n9 := H_n9.same (.of_chg hb (by omega) (by omega))
  replace H_r110l := H_r110l.same (.of_chg hb (by omega) (by omega))
  replace X_aR := box_chg X_aR hb (by omega) (by omega)
  replace Y_aR : w.heap.size < w17.heap.size := by omega
  replace X_x1 := box_chg X_x1 hb (by omega) (by omega)
  replace Y_x1 : w7.heap.size < w17.heap.size := by omega
  replace hB := hB.trans (hb.below (by omega) (by omega))
  clear hb
  have H_n7q := H_n7qm
  clear H_n7qm
  go_wp2_with fail
  refine (heldRowS_c n7q ((putRow aL aR)) 1 _ H_n7q (by omega) (by omega) (by omega)).mono ?_
  rintro e w18 ⟨rfl, hb⟩
  have b17 : Below w17.heap.size w17 w18 := hb
  have z17 := b17.size
  replace H_aL_s := H_aL_s.below b17 (by omega)
  replace H_aR_l := H_aR_l.below b17 (by omega)
  replace H_r20 := H_r20.below b17 (by omega)
  replace H_r21l := H_r21l.below b17 (by omega)
  replace H_r22q := H_r22q.below b17 (by omega)
  replace H_n5 := H_n5.below b17 (by omega)
  replace H_n6l := H_n6l.below b17 (by omega)
  replace H_n7q := H_n7q.below b17 (by omega)
  replace H_n9 := H_n9.below b17 (by omega)
  replace H_r110l := H_r110l.below b17 (by omega)
  replace X_aR := box_keep X_aR b17 (by omega)
  replace Y_aR : w.heap.size < w18.heap.size := by omega
  replace X_x1 := box_keep X_x1 b17 (by omega)
  replace Y_x1 : w7.heap.size < w18.heap.size := by omega
  replace hB := hB.trans (b17.mono hB.size)
  clear hb b17
  have kS : ∀ A A' : World, (A.cell? ⟨w.heap.size, 0, none⟩ = some (.int .i64 aR.id) ∧ A.cell? ⟨w.heap.size, 1, none⟩ = some (aR_l) ∧ Below w18.heap.size w18 A) → Below A.heap.size A A' → (A'.cell? ⟨w.heap.size, 0, none⟩ = some (.int .i64 aR.id) ∧ A'.cell? ⟨w.heap.size, 1, none⟩ = some (aR_l) ∧ Below w18.heap.size w18 A') := by
    intro A A' h hb
    obtain ⟨h0, h1, hq⟩ := h
    have hs := hq.size
    exact ⟨(hb.cell (p := ⟨w.heap.size, 0, none⟩) (show w.heap.size < _ by omega)).trans h0, (hb.cell (p := ⟨w.heap.size, 1, none⟩) (show w.heap.size < _ by omega)).trans h1, hq.trans (hb.mono hs)⟩
  have toB : ∀ A : World, (A.cell? ⟨w.heap.size, 0, none⟩ = some (.int .i64 aR.id) ∧ A.cell? ⟨w.heap.size, 1, none⟩ = some (aR_l) ∧ Below w18.heap.size w18 A) → Below w18.heap.size w18 A := fun A h => h.2.2
  have HkS := Lib.hid kS
  have HtoB := Lib.hid toB
  clear kS toB
  go_wp2_with fail
  have hX_aR := Lib.hid X_aR
  have hX_x1 := Lib.hid X_x1
  clear X_aR X_x1
  go_region_held3 (fun w' => w'.cell? ⟨w.heap.size, 0, none⟩ = some (.int .i64 aR.id) ∧ w'.cell? ⟨w.heap.size, 1, none⟩ = some (aR_l) ∧ Below w18.heap.size w18 w') (first | exact ⟨hX_aR.out 0, hX_aR.out 1, (Below.refl _ _).drew⟩ | (refine HkS.out _ _ ?_ hq1; assumption) | (refine HkS.out _ _ ?_ hq2; assumption) | (refine HkS.out _ _ ?_ hq3; assumption)) (first
    | (go_at_call 46; ((with_reducible refine (toRowS_c aL aL_s _ ((H_aL_s).below (HtoB.out _ (by assumption)) (by omega)) (by have h := (HtoB.out _ (by assumption)).size; omega) T_aL).mono ?_); rintro e w19 ⟨r180, rfl, H_r180, hq1⟩))
    | (go_at_call 66; ((with_reducible refine (toRow_c aR aR_l _ ((H_aR_l).below (HtoB.out _ (by assumption)) (by omega)) (by have h := (HtoB.out _ (by assumption)).size; omega) T_aR).mono ?_); rintro e w20 ⟨r181l, rfl, H_r181l, hq2⟩; obtain ⟨A_r181l, k_r181l, rfl, -, -⟩ := (H_r181l.rdV).form))
    | (go_at_call 67; ((with_reducible refine (impl_PutRow aL r180 aR (.slice A_r181l (aR.l).length k_r181l) _ ((H_r180.rdR.below hq2 (Nat.le_refl _))) (by first | exact Nat.le_refl _ | (have hz2 := hq2.size; omega)) (H_r181l.rdV) (by first | exact Nat.le_refl _ | (omega))  ⟨T_aL.1, T_aL.2.2⟩ T_aR).mono ?_); rintro e w21 ⟨r182q, rfl, H_r182q, hq3⟩)))
  clear HkS HtoB
  have X_aR := hX_aR.out
  have X_x1 := hX_x1.out
  clear hX_aR hX_x1
  replace hq1 := Below.undrew hq1
  replace H_r180 := H_r180.more (lo' := w18.heap.size) (Nat.le_refl _) (Nat.le_refl _)
  have b18 : Below w18.heap.size w18 w19 := hq1
  have z18 := b18.size
  replace H_aL_s := H_aL_s.below b18 (by omega)
  replace H_aR_l := H_aR_l.below b18 (by omega)
  replace H_r20 := H_r20.below b18 (by omega)
  replace H_r21l := H_r21l.below b18 (by omega)
  replace H_r22q := H_r22q.below b18 (by omega)
  replace H_n5 := H_n5.below b18 (by omega)
  replace H_n6l := H_n6l.below b18 (by omega)
  replace H_n7q := H_n7q.below b18 (by omega)
  replace H_n9 := H_n9.below b18 (by omega)
  replace H_r110l := H_r110l.below b18 (by omega)
  replace X_aR := box_keep X_aR b18 (by omega)
  replace Y_aR : w.heap.size < w19.heap.size := by omega
  replace X_x1 := box_keep X_x1 b18 (by omega)
  replace Y_x1 : w7.heap.size < w19.heap.size := by omega
  replace hB := hB.trans (b18.mono hB.size)
  clear hq1 b18
  have b19 : Below w19.heap.size w19 w20 := hq2
  have z19 := b19.size
  replace H_aL_s := H_aL_s.below b19 (by omega)
  replace H_aR_l := H_aR_l.below b19 (by omega)
  replace H_r20 := H_r20.below b19 (by omega)
  replace H_r21l := H_r21l.below b19 (by omega)
  replace H_r22q := H_r22q.below b19 (by omega)
  replace H_n5 := H_n5.below b19 (by omega)
  replace H_n6l := H_n6l.below b19 (by omega)
  replace H_n7q := H_n7q.below b19 (by omega)
  replace H_n9 := H_n9.below b19 (by omega)
  replace H_r110l := H_r110l.below b19 (by omega)
  replace H_r180 := H_r180.below b19 (by omega)
  replace X_aR := box_keep X_aR b19 (by omega)
  replace Y_aR : w.heap.size < w20.heap.size := by omega
  replace X_x1 := box_keep X_x1 b19 (by omega)
  replace Y_x1 : w7.heap.size < w20.heap.size := by omega
  replace hB := hB.trans (b19.mono hB.size)
  clear hq2 b19
  have b20 : Below w20.heap.size w20 w21 := hq3
  have z20 := b20.size
  replace H_aL_s := H_aL_s.below b20 (by omega)
  replace H_aR_l := H_aR_l.below b20 (by omega)
  replace H_r20 := H_r20.below b20 (by omega)
  replace H_r21l := H_r21l.below b20 (by omega)
  replace H_r22q := H_r22q.below b20 (by omega)
  replace H_n5 := H_n5.below b20 (by omega)
  replace H_n6l := H_n6l.below b20 (by omega)
  replace H_n7q := H_n7q.below b20 (by omega)
  replace H_n9 := H_n9.below b20 (by omega)
  replace H_r110l := H_r110l.below b20 (by omega)
  replace H_r180 := H_r180.below b20 (by omega)
  replace H_r181l := H_r181l.below b20 (by omega)
  replace X_aR := box_keep X_aR b20 (by omega)
  replace Y_aR : w.heap.size < w21.heap.size := by omega
  replace X_x1 := box_keep X_x1 b20 (by omega)
  replace Y_x1 : w7.heap.size < w21.heap.size := by omega
  replace hB := hB.trans (b20.mono hB.size)
  clear hq3 b20
  go_wp2_with fail
  refine (eqRowS_c ((putRow aL aR)) r182q ((putRow aL aR)) r22q _ (H_r182q.rdR) (by omega) (H_r22q.rdR) (by omega)).mono ?_
  rintro e w22 ⟨rfl, hb⟩
  have b21 : Below w21.heap.size w21 w22 := hb
  have z21 := b21.size
  replace H_aL_s := H_aL_s.below b21 (by omega)
  replace H_aR_l := H_aR_l.below b21 (by omega)
  replace H_r20 := H_r20.below b21 (by omega)
  replace H_r21l := H_r21l.below b21 (by omega)
  replace H_r22q := H_r22q.below b21 (by omega)
  replace H_n5 := H_n5.below b21 (by omega)
  replace H_n6l := H_n6l.below b21 (by omega)
  replace H_n7q := H_n7q.below b21 (by omega)
  replace H_n9 := H_n9.below b21 (by omega)
  replace H_r110l := H_r110l.below b21 (by omega)
  replace H_r180 := H_r180.below b21 (by omega)
  replace H_r181l := H_r181l.below b21 (by omega)
  replace H_r182q := H_r182q.below b21 (by omega)
  replace X_aR := box_keep X_aR b21 (by omega)
  replace Y_aR : w.heap.size < w22.heap.size := by omega
  replace X_x1 := box_keep X_x1 b21 (by omega)
  replace Y_x1 : w7.heap.size < w22.heap.size := by omega
  replace hB := hB.trans (b21.mono hB.size)
  clear hb b21
  try simp only [eqd_self]
  go_wp2_with fail
  refine (heldRowS_c n7q ((putRow aL aR)) 1 _ H_n7q (by omega) (by omega) (by omega)).mono ?_
  rintro e w23 ⟨rfl, hb⟩
  have b22 : Below w22.heap.size w22 w23 := hb
  have z22 := b22.size
  replace H_aL_s := H_aL_s.below b22 (by omega)
  replace H_aR_l := H_aR_l.below b22 (by omega)
  replace H_r20 := H_r20.below b22 (by omega)
  replace H_r21l := H_r21l.below b22 (by omega)
  replace H_r22q := H_r22q.below b22 (by omega)
  replace H_n5 := H_n5.below b22 (by omega)
  replace H_n6l := H_n6l.below b22 (by omega)
  replace H_n7q := H_n7q.below b22 (by omega)
  replace H_n9 := H_n9.below b22 (by omega)
  replace H_r110l := H_r110l.below b22 (by omega)
  replace H_r180 := H_r180.below b22 (by omega)
  replace H_r181l := H_r181l.below b22 (by omega)
  replace H_r182q := H_r182q.below b22 (by omega)
  replace X_aR := box_keep X_aR b22 (by omega)
  replace Y_aR : w.heap.size < w23.heap.size := by omega
  replace X_x1 := box_keep X_x1 b22 (by omega)
  replace Y_x1 : w7.heap.size < w23.heap.size := by omega
  replace hB := hB.trans (b22.mono hB.size)
  clear hb b22
  go_wp2_with fail
  go_ret
  exact ⟨rfl, hB⟩

end Go.Proofs.Ytphbkghokhlnbaa
