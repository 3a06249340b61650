/- The law FnExactSameResult: its walk, out of the contracts of what it calls. -/
import Derived.Test.YtphbkghokhlnbaaS21
import Derived.Test.YtphbkghokhlnbaaLRes
namespace Go.Proofs.Ytphbkghokhlnbaa
open Go.ChangeShapes Go.WideShapes Go.ChangeAt Go.RowKit Go.Lb

set_option maxRecDepth 20000 in
set_option maxHeartbeats 4000000 in
theorem wSameResult (aA : Res) (aA_l : Value) (aB : Res) (aB_l : Value) (w : World) (H_aA_l : RdR w 0 w.heap.size aA_l (aA.rows)) (c0_aA : RsOk aA.rows) (c1_aA : aA.v.s.size ≤ maxLen) (H_aB_l : RdR w 0 w.heap.size aB_l (aB.rows)) (c0_aB : RsOk aB.rows) (c1_aB : aB.v.s.size ≤ maxLen) :
    Calls Try.prog 12 #[.agg #[aA_l, .int .i64 aA.n, .bool aA.has, .int .i64 aA.v.ty, .int .i64 aA.v.n, .string aA.v.s], .agg #[aB_l, .int .i64 aB.n, .bool aB.has, .int .i64 aB.v.ty, .int .i64 aB.v.n, .string aB.v.s]] w fun e w' => e = .returned (.bool true) ∧ Below w.heap.size w w' := by
  have C0_aA := Lib.hid c0_aA
  clear c0_aA
  have C0_aB := Lib.hid c0_aB
  clear c0_aB
  have hB : Below w.heap.size w w := Below.refl _ _
  go_enter Try.func12, Try.ntmps12
  go_wp2_with fail
  refine (szResult_c aA aA_l 1048576 _ (RdR.below (H_aA_l) (up_a2 w _ _ ) (by omega)) (by simp only [World.size_alloc]; omega) C0_aA.out c1_aA (by omega) (by omega)).mono ?_
  rintro e w1 ⟨rfl, hb⟩
  have b0 : Below w.heap.size w w1 := below_a2 hb
  have z0 : w.heap.size + 2 ≤ w1.heap.size := by have h := hb.size; simpa [Nat.add_assoc] using h
  replace H_aA_l := H_aA_l.below b0 (by omega)
  replace H_aB_l := H_aB_l.below b0 (by omega)
  have X_aA : ∀ o, w1.cell? ⟨w.heap.size, o, none⟩ = (#[aA_l, .int .i64 aA.n, .bool aA.has, .int .i64 aA.v.ty, .int .i64 aA.v.n, .string aA.v.s] : Array Value)[o]? := by
    intro o
    have h := box_new w #[aA_l, .int .i64 aA.n, .bool aA.has, .int .i64 aA.v.ty, .int .i64 aA.v.n, .string aA.v.s] 77 o
    replace h := (World.cell?_alloc_lt (w.alloc (.cells #[aA_l, .int .i64 aA.n, .bool aA.has, .int .i64 aA.v.ty, .int .i64 aA.v.n, .string aA.v.s] 77)) (.cells #[aB_l, .int .i64 aB.n, .bool aB.has, .int .i64 aB.v.ty, .int .i64 aB.v.n, .string aB.v.s] 77) ⟨_, o, none⟩ (by simp <;> omega)).trans h
    replace h := (hb.cell (p := ⟨_, o, none⟩) (by simp <;> omega)).trans h
    simpa [Nat.add_assoc] using h
  have Y_aA : w.heap.size < w1.heap.size := by omega
  have X_aB : ∀ o, w1.cell? ⟨w.heap.size + 1, o, none⟩ = (#[aB_l, .int .i64 aB.n, .bool aB.has, .int .i64 aB.v.ty, .int .i64 aB.v.n, .string aB.v.s] : Array Value)[o]? := by
    intro o
    have h := box_new (w.alloc (.cells #[aA_l, .int .i64 aA.n, .bool aA.has, .int .i64 aA.v.ty, .int .i64 aA.v.n, .string aA.v.s] 77)) #[aB_l, .int .i64 aB.n, .bool aB.has, .int .i64 aB.v.ty, .int .i64 aB.v.n, .string aB.v.s] 77 o
    replace h := (hb.cell (p := ⟨_, o, none⟩) (by simp <;> omega)).trans h
    simpa [Nat.add_assoc] using h
  have Y_aB : w.heap.size + 1 < w1.heap.size := by omega
  replace hB := hB.trans (b0.mono hB.size)
  clear hb b0
  have L0 := szResult_le aA 1048576 (by omega) (by omega)
  have T_aA := szResult_bd aA 1048576 (by omega) (by omega)
  generalize szResult aA 1048576 = m0 at *
  by_cases h0 : m0 < 0
  · go_wp2_with fail
    go_ret
    exact ⟨rfl, hB⟩
  replace T_aA := T_aA h0
  go_wp2_with fail
  refine (szResult_c aB aB_l m0 _ (H_aB_l) (by omega) C0_aB.out c1_aB (by omega) L0).mono ?_
  rintro e w2 ⟨rfl, hb⟩
  have b1 : Below w1.heap.size w1 w2 := hb
  have z1 := b1.size
  replace H_aA_l := H_aA_l.below b1 (by omega)
  replace H_aB_l := H_aB_l.below b1 (by omega)
  replace X_aA := box_keep X_aA b1 (by omega)
  replace Y_aA : w.heap.size < w2.heap.size := by omega
  replace X_aB := box_keep X_aB b1 (by omega)
  replace Y_aB : w.heap.size + 1 < w2.heap.size := by omega
  replace hB := hB.trans (b1.mono hB.size)
  clear hb b1
  have L1 := szResult_le aB m0 (by omega) L0
  have T_aB := szResult_bd aB m0 (by omega) L0
  generalize szResult aB m0 = m1 at *
  by_cases h1 : m1 < 0
  · go_wp2_with fail
    go_ret
    exact ⟨rfl, hB⟩
  replace T_aB := T_aB h1
  have kS : ∀ A A' : World, (A.cell? ⟨w.heap.size, 0, none⟩ = some (aA_l) ∧ A.cell? ⟨w.heap.size, 1, none⟩ = some (.int .i64 aA.n) ∧ A.cell? ⟨w.heap.size, 2, none⟩ = some (.bool aA.has) ∧ A.cell? ⟨w.heap.size, 3, none⟩ = some (.int .i64 aA.v.ty) ∧ A.cell? ⟨w.heap.size, 4, none⟩ = some (.int .i64 aA.v.n) ∧ A.cell? ⟨w.heap.size, 5, none⟩ = some (.string aA.v.s) ∧ A.cell? ⟨w.heap.size + 1, 0, none⟩ = some (aB_l) ∧ A.cell? ⟨w.heap.size + 1, 1, none⟩ = some (.int .i64 aB.n) ∧ A.cell? ⟨w.heap.size + 1, 2, none⟩ = some (.bool aB.has) ∧ A.cell? ⟨w.heap.size + 1, 3, none⟩ = some (.int .i64 aB.v.ty) ∧ A.cell? ⟨w.heap.size + 1, 4, none⟩ = some (.int .i64 aB.v.n) ∧ A.cell? ⟨w.heap.size + 1, 5, none⟩ = some (.string aB.v.s) ∧ Below w2.heap.size w2 A) → Below A.heap.size A A' → (A'.cell? ⟨w.heap.size, 0, none⟩ = some (aA_l) ∧ A'.cell? ⟨w.heap.size, 1, none⟩ = some (.int .i64 aA.n) ∧ A'.cell? ⟨w.heap.size, 2, none⟩ = some (.bool aA.has) ∧ A'.cell? ⟨w.heap.size, 3, none⟩ = some (.int .i64 aA.v.ty) ∧ A'.cell? ⟨w.heap.size, 4, none⟩ = some (.int .i64 aA.v.n) ∧ A'.cell? ⟨w.heap.size, 5, none⟩ = some (.string aA.v.s) ∧ A'.cell? ⟨w.heap.size + 1, 0, none⟩ = some (aB_l) ∧ A'.cell? ⟨w.heap.size + 1, 1, none⟩ = some (.int .i64 aB.n) ∧ A'.cell? ⟨w.heap.size + 1, 2, none⟩ = some (.bool aB.has) ∧ A'.cell? ⟨w.heap.size + 1, 3, none⟩ = some (.int .i64 aB.v.ty) ∧ A'.cell? ⟨w.heap.size + 1, 4, none⟩ = some (.int .i64 aB.v.n) ∧ A'.cell? ⟨w.heap.size + 1, 5, none⟩ = some (.string aB.v.s) ∧ Below w2.heap.size w2 A') := by
    intro A A' h hb
    obtain ⟨h0, h1, h2, h3, h4, h5, h6, h7, h8, h9, h10, h11, hq⟩ := h
    have hs := hq.size
    exact ⟨(hb.cell (p := ⟨w.heap.size, 0, none⟩) (show w.heap.size < _ by omega)).trans h0, (hb.cell (p := ⟨w.heap.size, 1, none⟩) (show w.heap.size < _ by omega)).trans h1, (hb.cell (p := ⟨w.heap.size, 2, none⟩) (show w.heap.size < _ by omega)).trans h2, (hb.cell (p := ⟨w.heap.size, 3, none⟩) (show w.heap.size < _ by omega)).trans h3, (hb.cell (p := ⟨w.heap.size, 4, none⟩) (show w.heap.size < _ by omega)).trans h4, (hb.cell (p := ⟨w.heap.size, 5, none⟩) (show w.heap.size < _ by omega)).trans h5, (hb.cell (p := ⟨w.heap.size + 1, 0, none⟩) (show w.heap.size + 1 < _ by omega)).trans h6, (hb.cell (p := ⟨w.heap.size + 1, 1, none⟩) (show w.heap.size + 1 < _ by omega)).trans h7, (hb.cell (p := ⟨w.heap.size + 1, 2, none⟩) (show w.heap.size + 1 < _ by omega)).trans h8, (hb.cell (p := ⟨w.heap.size + 1, 3, none⟩) (show w.heap.size + 1 < _ by omega)).trans h9, (hb.cell (p := ⟨w.heap.size + 1, 4, none⟩) (show w.heap.size + 1 < _ by omega)).trans h10, (hb.cell (p := ⟨w.heap.size + 1, 5, none⟩) (show w.heap.size + 1 < _ by omega)).trans h11, hq.trans (hb.mono hs)⟩
  have toB : ∀ A : World, (A.cell? ⟨w.heap.size, 0, none⟩ = some (aA_l) ∧ A.cell? ⟨w.heap.size, 1, none⟩ = some (.int .i64 aA.n) ∧ A.cell? ⟨w.heap.size, 2, none⟩ = some (.bool aA.has) ∧ A.cell? ⟨w.heap.size, 3, none⟩ = some (.int .i64 aA.v.ty) ∧ A.cell? ⟨w.heap.size, 4, none⟩ = some (.int .i64 aA.v.n) ∧ A.cell? ⟨w.heap.size, 5, none⟩ = some (.string aA.v.s) ∧ A.cell? ⟨w.heap.size + 1, 0, none⟩ = some (aB_l) ∧ A.cell? ⟨w.heap.size + 1, 1, none⟩ = some (.int .i64 aB.n) ∧ A.cell? ⟨w.heap.size + 1, 2, none⟩ = some (.bool aB.has) ∧ A.cell? ⟨w.heap.size + 1, 3, none⟩ = some (.int .i64 aB.v.ty) ∧ A.cell? ⟨w.heap.size + 1, 4, none⟩ = some (.int .i64 aB.v.n) ∧ A.cell? ⟨w.heap.size + 1, 5, none⟩ = some (.string aB.v.s) ∧ Below w2.heap.size w2 A) → Below w2.heap.size w2 A := fun A h => h.2.2.2.2.2.2.2.2.2.2.2.2
  go_wp2_with fail
  go_region_held3 (fun w' => w'.cell? ⟨w.heap.size, 0, none⟩ = some (aA_l) ∧ w'.cell? ⟨w.heap.size, 1, none⟩ = some (.int .i64 aA.n) ∧ w'.cell? ⟨w.heap.size, 2, none⟩ = some (.bool aA.has) ∧ w'.cell? ⟨w.heap.size, 3, none⟩ = some (.int .i64 aA.v.ty) ∧ w'.cell? ⟨w.heap.size, 4, none⟩ = some (.int .i64 aA.v.n) ∧ w'.cell? ⟨w.heap.size, 5, none⟩ = some (.string aA.v.s) ∧ w'.cell? ⟨w.heap.size + 1, 0, none⟩ = some (aB_l) ∧ w'.cell? ⟨w.heap.size + 1, 1, none⟩ = some (.int .i64 aB.n) ∧ w'.cell? ⟨w.heap.size + 1, 2, none⟩ = some (.bool aB.has) ∧ w'.cell? ⟨w.heap.size + 1, 3, none⟩ = some (.int .i64 aB.v.ty) ∧ w'.cell? ⟨w.heap.size + 1, 4, none⟩ = some (.int .i64 aB.v.n) ∧ w'.cell? ⟨w.heap.size + 1, 5, none⟩ = some (.string aB.v.s) ∧ Below w2.heap.size w2 w') (first | exact ⟨X_aA 0, X_aA 1, X_aA 2, X_aA 3, X_aA 4, X_aA 5, X_aB 0, X_aB 1, X_aB 2, X_aB 3, X_aB 4, X_aB 5, (Below.refl _ _).drew⟩ | (refine kS _ _ ?_ hq1; assumption) | (refine kS _ _ ?_ hq2; assumption) | (refine kS _ _ ?_ hq3; assumption)) (first
    | (go_at_call 55; ((with_reducible refine (toResult_c aA aA_l _ ((H_aA_l).below (toB _ (by assumption)) (by omega)) (by have h := (toB _ (by assumption)).size; omega) T_aA).mono ?_); rintro e w3 ⟨r20l, rfl, H_r20l, hq1⟩; obtain ⟨A_r20l, k_r20l, rfl, -, -⟩ := (H_r20l.rdR).form))
    | (go_at_call 55; ((with_reducible refine (toResult_c aB aB_l _ ((H_aB_l).below (toB _ (by assumption)) (by omega)) (by have h := (toB _ (by assumption)).size; omega) T_aB).mono ?_); rintro e w4 ⟨r21l, rfl, H_r21l, hq2⟩; obtain ⟨A_r21l, k_r21l, rfl, -, -⟩ := (H_r21l.rdR).form))
    | (go_at_call 54; ((with_reducible refine (spec_SameResult aA (.slice A_r20l (aA.rows).length k_r20l) aB (.slice A_r21l (aB.rows).length k_r21l) _ ((H_r20l.rdR.below hq2 (Nat.le_refl _))) (by first | exact Nat.le_refl _ | (have hz2 := hq2.size; omega)) (H_r21l.rdR) (by first | exact Nat.le_refl _ | (omega))  ).mono ?_); rintro e w5 ⟨rfl, hq3⟩)))
  clear kS toB
  replace hq1 := Below.undrew hq1
  have b2 : Below w2.heap.size w2 w3 := hq1
  have z2 := b2.size
  replace H_aA_l := H_aA_l.below b2 (by omega)
  replace H_aB_l := H_aB_l.below b2 (by omega)
  replace X_aA := box_keep X_aA b2 (by omega)
  replace Y_aA : w.heap.size < w3.heap.size := by omega
  replace X_aB := box_keep X_aB b2 (by omega)
  replace Y_aB : w.heap.size + 1 < w3.heap.size := by omega
  replace hB := hB.trans (b2.mono hB.size)
  clear hq1 b2
  have b3 : Below w3.heap.size w3 w4 := hq2
  have z3 := b3.size
  replace H_aA_l := H_aA_l.below b3 (by omega)
  replace H_aB_l := H_aB_l.below b3 (by omega)
  replace H_r20l := H_r20l.below b3 (by omega)
  replace X_aA := box_keep X_aA b3 (by omega)
  replace Y_aA : w.heap.size < w4.heap.size := by omega
  replace X_aB := box_keep X_aB b3 (by omega)
  replace Y_aB : w.heap.size + 1 < w4.heap.size := by omega
  replace hB := hB.trans (b3.mono hB.size)
  clear hq2 b3
  have b4 : Below w4.heap.size w4 w5 := hq3
  have z4 := b4.size
  replace H_aA_l := H_aA_l.below b4 (by omega)
  replace H_aB_l := H_aB_l.below b4 (by omega)
  replace H_r20l := H_r20l.below b4 (by omega)
  replace H_r21l := H_r21l.below b4 (by omega)
  replace X_aA := box_keep X_aA b4 (by omega)
  replace Y_aA : w.heap.size < w5.heap.size := by omega
  replace X_aB := box_keep X_aB b4 (by omega)
  replace Y_aB : w.heap.size + 1 < w5.heap.size := by omega
  replace hB := hB.trans (b4.mono hB.size)
  clear hq3 b4
  go_wp2_with fail
  refine (toResult_c aA aA_l _ (H_aA_l) (by omega) T_aA).mono ?_
  rintro e w6 ⟨n5l, rfl, H_n5l, hb⟩
  have b5 : Below w5.heap.size w5 w6 := hb
  have z5 := b5.size
  replace H_aA_l := H_aA_l.below b5 (by omega)
  replace H_aB_l := H_aB_l.below b5 (by omega)
  replace H_r20l := H_r20l.below b5 (by omega)
  replace H_r21l := H_r21l.below b5 (by omega)
  replace X_aA := box_keep X_aA b5 (by omega)
  replace Y_aA : w.heap.size < w6.heap.size := by omega
  replace X_aB := box_keep X_aB b5 (by omega)
  replace Y_aB : w.heap.size + 1 < w6.heap.size := by omega
  replace hB := hB.trans (b5.mono hB.size)
  clear hb b5
  obtain ⟨A_n5l, k_n5l, rfl, -, -⟩ := (H_n5l.rdR).form
  go_wp2_with fail
  refine (toResult_c aB aB_l _ (RdR.below (H_aB_l) (up_a1 w6 _ ) (by omega)) (by simp only [World.size_alloc]; omega) T_aB).mono ?_
  rintro e w7 ⟨n6l, rfl, H_n6l, hb⟩
  replace H_n6l := H_n6l.more (lo' := w6.heap.size + 1) (by simp <;> omega) (Nat.le_refl _)
  have b6 : Below w6.heap.size w6 w7 := below_a1 hb
  have z6 : w6.heap.size + 1 ≤ w7.heap.size := by have h := hb.size; simpa [Nat.add_assoc] using h
  replace H_aA_l := H_aA_l.below b6 (by omega)
  replace H_aB_l := H_aB_l.below b6 (by omega)
  replace H_r20l := H_r20l.below b6 (by omega)
  replace H_r21l := H_r21l.below b6 (by omega)
  replace H_n5l := H_n5l.below b6 (by omega)
  replace X_aA := box_keep X_aA b6 (by omega)
  replace Y_aA : w.heap.size < w7.heap.size := by omega
  replace X_aB := box_keep X_aB b6 (by omega)
  replace Y_aB : w.heap.size + 1 < w7.heap.size := by omega
  have X_x0 : ∀ o, w7.cell? ⟨w6.heap.size, o, none⟩ = (#[(.slice A_n5l (aA.rows).length k_n5l), .int .i64 aA.n, .bool aA.has, .int .i64 aA.v.ty, .int .i64 aA.v.n, .string aA.v.s] : Array Value)[o]? := by
    intro o
    have h := box_new w6 #[(.slice A_n5l (aA.rows).length k_n5l), .int .i64 aA.n, .bool aA.has, .int .i64 aA.v.ty, .int .i64 aA.v.n, .string aA.v.s] 81 o
    replace h := (hb.cell (p := ⟨_, o, none⟩) (by simp <;> omega)).trans h
    simpa [Nat.add_assoc] using h
  have Y_x0 : w6.heap.size < w7.heap.size := by omega
  replace hB := hB.trans (b6.mono hB.size)
  clear hb b6
  obtain ⟨A_n6l, k_n6l, rfl, -, -⟩ := (H_n6l.rdR).form
  go_wp2_with fail
  refine (impl_SameResult aA (.slice A_n5l (aA.rows).length k_n5l) aB (.slice A_n6l (aB.rows).length k_n6l) _ (RdR.below (H_n5l.rdR) (up_a1 w7 _ ) (by omega)) (by simp only [World.size_alloc]; omega) (RdR.below (H_n6l.rdR) (up_a1 w7 _ ) (by omega)) (by simp only [World.size_alloc]; omega)  ).mono ?_
  rintro e w8 ⟨rfl, hb⟩
  have b7 : Below w7.heap.size w7 w8 := below_a1 hb
  have z7 : w7.heap.size + 1 ≤ w8.heap.size := by have h := hb.size; simpa [Nat.add_assoc] using h
  replace H_aA_l := H_aA_l.below b7 (by omega)
  replace H_aB_l := H_aB_l.below b7 (by omega)
  replace H_r20l := H_r20l.below b7 (by omega)
  replace H_r21l := H_r21l.below b7 (by omega)
  replace H_n5l := H_n5l.below b7 (by omega)
  replace H_n6l := H_n6l.below b7 (by omega)
  replace X_aA := box_keep X_aA b7 (by omega)
  replace Y_aA : w.heap.size < w8.heap.size := by omega
  replace X_aB := box_keep X_aB b7 (by omega)
  replace Y_aB : w.heap.size + 1 < w8.heap.size := by omega
  replace X_x0 := box_keep X_x0 b7 (by omega)
  replace Y_x0 : w6.heap.size < w8.heap.size := by omega
  have X_x1 : ∀ o, w8.cell? ⟨w7.heap.size, o, none⟩ = (#[(.slice A_n6l (aB.rows).length k_n6l), .int .i64 aB.n, .bool aB.has, .int .i64 aB.v.ty, .int .i64 aB.v.n, .string aB.v.s] : Array Value)[o]? := by
    intro o
    have h := box_new w7 #[(.slice A_n6l (aB.rows).length k_n6l), .int .i64 aB.n, .bool aB.has, .int .i64 aB.v.ty, .int .i64 aB.v.n, .string aB.v.s] 81 o
    replace h := (hb.cell (p := ⟨_, o, none⟩) (by simp <;> omega)).trans h
    simpa [Nat.add_assoc] using h
  have Y_x1 : w7.heap.size < w8.heap.size := by omega
  replace hB := hB.trans (b7.mono hB.size)
  clear hb b7
  have kS : ∀ A A' : World, (A.cell? ⟨w.heap.size, 0, none⟩ = some (aA_l) ∧ A.cell? ⟨w.heap.size, 1, none⟩ = some (.int .i64 aA.n) ∧ A.cell? ⟨w.heap.size, 2, none⟩ = some (.bool aA.has) ∧ A.cell? ⟨w.heap.size, 3, none⟩ = some (.int .i64 aA.v.ty) ∧ A.cell? ⟨w.heap.size, 4, none⟩ = some (.int .i64 aA.v.n) ∧ A.cell? ⟨w.heap.size, 5, none⟩ = some (.string aA.v.s) ∧ A.cell? ⟨w6.heap.size, 0, none⟩ = some ((.slice A_n5l (aA.rows).length k_n5l)) ∧ A.cell? ⟨w6.heap.size, 1, none⟩ = some (.int .i64 aA.n) ∧ A.cell? ⟨w6.heap.size, 2, none⟩ = some (.bool aA.has) ∧ A.cell? ⟨w6.heap.size, 3, none⟩ = some (.int .i64 aA.v.ty) ∧ A.cell? ⟨w6.heap.size, 4, none⟩ = some (.int .i64 aA.v.n) ∧ A.cell? ⟨w6.heap.size, 5, none⟩ = some (.string aA.v.s) ∧ Below w8.heap.size w8 A) → Below A.heap.size A A' → (A'.cell? ⟨w.heap.size, 0, none⟩ = some (aA_l) ∧ A'.cell? ⟨w.heap.size, 1, none⟩ = some (.int .i64 aA.n) ∧ A'.cell? ⟨w.heap.size, 2, none⟩ = some (.bool aA.has) ∧ A'.cell? ⟨w.heap.size, 3, none⟩ = some (.int .i64 aA.v.ty) ∧ A'.cell? ⟨w.heap.size, 4, none⟩ = some (.int .i64 aA.v.n) ∧ A'.cell? ⟨w.heap.size, 5, none⟩ = some (.string aA.v.s) ∧ A'.cell? ⟨w6.heap.size, 0, none⟩ = some ((.slice A_n5l (aA.rows).length k_n5l)) ∧ A'.cell? ⟨w6.heap.size, 1, none⟩ = some (.int .i64 aA.n) ∧ A'.cell? ⟨w6.heap.size, 2, none⟩ = some (.bool aA.has) ∧ A'.cell? ⟨w6.heap.size, 3, none⟩ = some (.int .i64 aA.v.ty) ∧ A'.cell? ⟨w6.heap.size, 4, none⟩ = some (.int .i64 aA.v.n) ∧ A'.cell? ⟨w6.heap.size, 5, none⟩ = some (.string aA.v.s) ∧ Below w8.heap.size w8 A') := by
    intro A A' h hb
    obtain ⟨h0, h1, h2, h3, h4, h5, h6, h7, h8, h9, h10, h11, hq⟩ := h
    have hs := hq.size
    exact ⟨(hb.cell (p := ⟨w.heap.size, 0, none⟩) (show w.heap.size < _ by omega)).trans h0, (hb.cell (p := ⟨w.heap.size, 1, none⟩) (show w.heap.size < _ by omega)).trans h1, (hb.cell (p := ⟨w.heap.size, 2, none⟩) (show w.heap.size < _ by omega)).trans h2, (hb.cell (p := ⟨w.heap.size, 3, none⟩) (show w.heap.size < _ by omega)).trans h3, (hb.cell (p := ⟨w.heap.size, 4, none⟩) (show w.heap.size < _ by omega)).trans h4, (hb.cell (p := ⟨w.heap.size, 5, none⟩) (show w.heap.size < _ by omega)).trans h5, (hb.cell (p := ⟨w6.heap.size, 0, none⟩) (show w6.heap.size < _ by omega)).trans h6, (hb.cell (p := ⟨w6.heap.size, 1, none⟩) (show w6.heap.size < _ by omega)).trans h7, (hb.cell (p := ⟨w6.heap.size, 2, none⟩) (show w6.heap.size < _ by omega)).trans h8, (hb.cell (p := ⟨w6.heap.size, 3, none⟩) (show w6.heap.size < _ by omega)).trans h9, (hb.cell (p := ⟨w6.heap.size, 4, none⟩) (show w6.heap.size < _ by omega)).trans h10, (hb.cell (p := ⟨w6.heap.size, 5, none⟩) (show w6.heap.size < _ by omega)).trans h11, hq.trans (hb.mono hs)⟩
  have toB : ∀ A : World, (A.cell? ⟨w.heap.size, 0, none⟩ = some (aA_l) ∧ A.cell? ⟨w.heap.size, 1, none⟩ = some (.int .i64 aA.n) ∧ A.cell? ⟨w.heap.size, 2, none⟩ = some (.bool aA.has) ∧ A.cell? ⟨w.heap.size, 3, none⟩ = some (.int .i64 aA.v.ty) ∧ A.cell? ⟨w.heap.size, 4, none⟩ = some (.int .i64 aA.v.n) ∧ A.cell? ⟨w.heap.size, 5, none⟩ = some (.string aA.v.s) ∧ A.cell? ⟨w6.heap.size, 0, none⟩ = some ((.slice A_n5l (aA.rows).length k_n5l)) ∧ A.cell? ⟨w6.heap.size, 1, none⟩ = some (.int .i64 aA.n) ∧ A.cell? ⟨w6.heap.size, 2, none⟩ = some (.bool aA.has) ∧ A.cell? ⟨w6.heap.size, 3, none⟩ = some (.int .i64 aA.v.ty) ∧ A.cell? ⟨w6.heap.size, 4, none⟩ = some (.int .i64 aA.v.n) ∧ A.cell? ⟨w6.heap.size, 5, none⟩ = some (.string aA.v.s) ∧ Below w8.heap.size w8 A) → Below w8.heap.size w8 A := fun A h => h.2.2.2.2.2.2.2.2.2.2.2.2
  go_wp2_with fail
  go_region_held3 (fun w' => w'.cell? ⟨w.heap.size, 0, none⟩ = some (aA_l) ∧ w'.cell? ⟨w.heap.size, 1, none⟩ = some (.int .i64 aA.n) ∧ w'.cell? ⟨w.heap.size, 2, none⟩ = some (.bool aA.has) ∧ w'.cell? ⟨w.heap.size, 3, none⟩ = some (.int .i64 aA.v.ty) ∧ w'.cell? ⟨w.heap.size, 4, none⟩ = some (.int .i64 aA.v.n) ∧ w'.cell? ⟨w.heap.size, 5, none⟩ = some (.string aA.v.s) ∧ w'.cell? ⟨w6.heap.size, 0, none⟩ = some ((.slice A_n5l (aA.rows).length k_n5l)) ∧ w'.cell? ⟨w6.heap.size, 1, none⟩ = some (.int .i64 aA.n) ∧ w'.cell? ⟨w6.heap.size, 2, none⟩ = some (.bool aA.has) ∧ w'.cell? ⟨w6.heap.size, 3, none⟩ = some (.int .i64 aA.v.ty) ∧ w'.cell? ⟨w6.heap.size, 4, none⟩ = some (.int .i64 aA.v.n) ∧ w'.cell? ⟨w6.heap.size, 5, none⟩ = some (.string aA.v.s) ∧ Below w8.heap.size w8 w') (first | exact ⟨X_aA 0, X_aA 1, X_aA 2, X_aA 3, X_aA 4, X_aA 5, X_x0 0, X_x0 1, X_x0 2, X_x0 3, X_x0 4, X_x0 5, (Below.refl _ _).drew⟩ | (refine kS _ _ ?_ hq1; assumption) | (refine kS _ _ ?_ hq2; assumption)) (first
    | (go_at_call 55; ((with_reducible refine (toResult_c aA aA_l _ ((H_aA_l).below (toB _ (by assumption)) (by omega)) (by have h := (toB _ (by assumption)).size; omega) T_aA).mono ?_); rintro e w9 ⟨r80l, rfl, H_r80l, hq1⟩; obtain ⟨A_r80l, k_r80l, rfl, -, -⟩ := (H_r80l.rdR).form))
    | (go_at_call 57; ((with_reducible refine (eqResult_c aA (.slice A_n5l (aA.rows).length k_n5l) aA (.slice A_r80l (aA.rows).length k_r80l) _ ((H_n5l.rdR).below (toB _ (by assumption)) (by omega)) (by have h := (toB _ (by assumption)).size; omega) (H_r80l.rdR) (by first | exact Nat.le_refl _ | (omega))).mono ?_); rintro e w10 ⟨rfl, hq2⟩)))
  clear kS toB
  replace hq1 := Below.undrew hq1
  have b8 : Below w8.heap.size w8 w9 := hq1
  have z8 := b8.size
  replace H_aA_l := H_aA_l.below b8 (by omega)
  replace H_aB_l := H_aB_l.below b8 (by omega)
  replace H_r20l := H_r20l.below b8 (by omega)
  replace H_r21l := H_r21l.below b8 (by omega)
  replace H_n5l := H_n5l.below b8 (by omega)
  replace H_n6l := H_n6l.below b8 (by omega)
  replace X_aA := box_keep X_aA b8 (by omega)
  replace Y_aA : w.heap.size < w9.heap.size := by omega
  replace X_aB := box_keep X_aB b8 (by omega)
  replace Y_aB : w.heap.size + 1 < w9.heap.size := by omega
  replace X_x0 := box_keep X_x0 b8 (by omega)
  replace Y_x0 : w6.heap.size < w9.heap.size := by omega
  replace X_x1 := box_keep X_x1 b8 (by omega)
  replace Y_x1 : w7.heap.size < w9.heap.size := by omega
  replace hB := hB.trans (b8.mono hB.size)
  clear hq1 b8
  have b9 : Below w9.heap.size w9 w10 := hq2
  have z9 := b9.size
  replace H_aA_l := H_aA_l.below b9 (by omega)
  replace H_aB_l := H_aB_l.below b9 (by omega)
  replace H_r20l := H_r20l.below b9 (by omega)
  replace H_r21l := H_r21l.below b9 (by omega)
  replace H_n5l := H_n5l.below b9 (by omega)
  replace H_n6l := H_n6l.below b9 (by omega)
  replace H_r80l := H_r80l.below b9 (by omega)
  replace X_aA := box_keep X_aA b9 (by omega)
  replace Y_aA : w.heap.size < w10.heap.size := by omega
  replace X_aB := box_keep X_aB b9 (by omega)
  replace Y_aB : w.heap.size + 1 < w10.heap.size := by omega
  replace X_x0 := box_keep X_x0 b9 (by omega)
  replace Y_x0 : w6.heap.size < w10.heap.size := by omega
  replace X_x1 := box_keep X_x1 b9 (by omega)
  replace Y_x1 : w7.heap.size < w10.heap.size := by omega
  replace hB := hB.trans (b9.mono hB.size)
  clear hq2 b9
  simp only [eqd_self]
  have kS : ∀ A A' : World, (A.cell? ⟨w.heap.size + 1, 0, none⟩ = some (aB_l) ∧ A.cell? ⟨w.heap.size + 1, 1, none⟩ = some (.int .i64 aB.n) ∧ A.cell? ⟨w.heap.size + 1, 2, none⟩ = some (.bool aB.has) ∧ A.cell? ⟨w.heap.size + 1, 3, none⟩ = some (.int .i64 aB.v.ty) ∧ A.cell? ⟨w.heap.size + 1, 4, none⟩ = some (.int .i64 aB.v.n) ∧ A.cell? ⟨w.heap.size + 1, 5, none⟩ = some (.string aB.v.s) ∧ A.cell? ⟨w7.heap.size, 0, none⟩ = some ((.slice A_n6l (aB.rows).length k_n6l)) ∧ A.cell? ⟨w7.heap.size, 1, none⟩ = some (.int .i64 aB.n) ∧ A.cell? ⟨w7.heap.size, 2, none⟩ = some (.bool aB.has) ∧ A.cell? ⟨w7.heap.size, 3, none⟩ = some (.int .i64 aB.v.ty) ∧ A.cell? ⟨w7.heap.size, 4, none⟩ = some (.int .i64 aB.v.n) ∧ A.cell? ⟨w7.heap.size, 5, none⟩ = some (.string aB.v.s) ∧ Below w10.heap.size w10 A) → Below A.heap.size A A' → (A'.cell? ⟨w.heap.size + 1, 0, none⟩ = some (aB_l) ∧ A'.cell? ⟨w.heap.size + 1, 1, none⟩ = some (.int .i64 aB.n) ∧ A'.cell? ⟨w.heap.size + 1, 2, none⟩ = some (.bool aB.has) ∧ A'.cell? ⟨w.heap.size + 1, 3, none⟩ = some (.int .i64 aB.v.ty) ∧ A'.cell? ⟨w.heap.size + 1, 4, none⟩ = some (.int .i64 aB.v.n) ∧ A'.cell? ⟨w.heap.size + 1, 5, none⟩ = some (.string aB.v.s) ∧ A'.cell? ⟨w7.heap.size, 0, none⟩ = some ((.slice A_n6l (aB.rows).length k_n6l)) ∧ A'.cell? ⟨w7.heap.size, 1, none⟩ = some (.int .i64 aB.n) ∧ A'.cell? ⟨w7.heap.size, 2, none⟩ = some (.bool aB.has) ∧ A'.cell? ⟨w7.heap.size, 3, none⟩ = some (.int .i64 aB.v.ty) ∧ A'.cell? ⟨w7.heap.size, 4, none⟩ = some (.int .i64 aB.v.n) ∧ A'.cell? ⟨w7.heap.size, 5, none⟩ = some (.string aB.v.s) ∧ Below w10.heap.size w10 A') := by
    intro A A' h hb
    obtain ⟨h0, h1, h2, h3, h4, h5, h6, h7, h8, h9, h10, h11, hq⟩ := h
    have hs := hq.size
    exact ⟨(hb.cell (p := ⟨w.heap.size + 1, 0, none⟩) (show w.heap.size + 1 < _ by omega)).trans h0, (hb.cell (p := ⟨w.heap.size + 1, 1, none⟩) (show w.heap.size + 1 < _ by omega)).trans h1, (hb.cell (p := ⟨w.heap.size + 1, 2, none⟩) (show w.heap.size + 1 < _ by omega)).trans h2, (hb.cell (p := ⟨w.heap.size + 1, 3, none⟩) (show w.heap.size + 1 < _ by omega)).trans h3, (hb.cell (p := ⟨w.heap.size + 1, 4, none⟩) (show w.heap.size + 1 < _ by omega)).trans h4, (hb.cell (p := ⟨w.heap.size + 1, 5, none⟩) (show w.heap.size + 1 < _ by omega)).trans h5, (hb.cell (p := ⟨w7.heap.size, 0, none⟩) (show w7.heap.size < _ by omega)).trans h6, (hb.cell (p := ⟨w7.heap.size, 1, none⟩) (show w7.heap.size < _ by omega)).trans h7, (hb.cell (p := ⟨w7.heap.size, 2, none⟩) (show w7.heap.size < _ by omega)).trans h8, (hb.cell (p := ⟨w7.heap.size, 3, none⟩) (show w7.heap.size < _ by omega)).trans h9, (hb.cell (p := ⟨w7.heap.size, 4, none⟩) (show w7.heap.size < _ by omega)).trans h10, (hb.cell (p := ⟨w7.heap.size, 5, none⟩) (show w7.heap.size < _ by omega)).trans h11, hq.trans (hb.mono hs)⟩
  have toB : ∀ A : World, (A.cell? ⟨w.heap.size + 1, 0, none⟩ = some (aB_l) ∧ A.cell? ⟨w.heap.size + 1, 1, none⟩ = some (.int .i64 aB.n) ∧ A.cell? ⟨w.heap.size + 1, 2, none⟩ = some (.bool aB.has) ∧ A.cell? ⟨w.heap.size + 1, 3, none⟩ = some (.int .i64 aB.v.ty) ∧ A.cell? ⟨w.heap.size + 1, 4, none⟩ = some (.int .i64 aB.v.n) ∧ A.cell? ⟨w.heap.size + 1, 5, none⟩ = some (.string aB.v.s) ∧ A.cell? ⟨w7.heap.size, 0, none⟩ = some ((.slice A_n6l (aB.rows).length k_n6l)) ∧ A.cell? ⟨w7.heap.size, 1, none⟩ = some (.int .i64 aB.n) ∧ A.cell? ⟨w7.heap.size, 2, none⟩ = some (.bool aB.has) ∧ A.cell? ⟨w7.heap.size, 3, none⟩ = some (.int .i64 aB.v.ty) ∧ A.cell? ⟨w7.heap.size, 4, none⟩ = some (.int .i64 aB.v.n) ∧ A.cell? ⟨w7.heap.size, 5, none⟩ = some (.string aB.v.s) ∧ Below w10.heap.size w10 A) → Below w10.heap.size w10 A := fun A h => h.2.2.2.2.2.2.2.2.2.2.2.2
  go_wp2_with fail
  go_region_held3 (fun w' => w'.cell? ⟨w.heap.size + 1, 0, none⟩ = some (aB_l) ∧ w'.cell? ⟨w.heap.size + 1, 1, none⟩ = some (.int .i64 aB.n) ∧ w'.cell? ⟨w.heap.size + 1, 2, none⟩ = some (.bool aB.has) ∧ w'.cell? ⟨w.heap.size + 1, 3, none⟩ = some (.int .i64 aB.v.ty) ∧ w'.cell? ⟨w.heap.size + 1, 4, none⟩ = some (.int .i64 aB.v.n) ∧ w'.cell? ⟨w.heap.size + 1, 5, none⟩ = some (.string aB.v.s) ∧ w'.cell? ⟨w7.heap.size, 0, none⟩ = some ((.slice A_n6l (aB.rows).length k_n6l)) ∧ w'.cell? ⟨w7.heap.size, 1, none⟩ = some (.int .i64 aB.n) ∧ w'.cell? ⟨w7.heap.size, 2, none⟩ = some (.bool aB.has) ∧ w'.cell? ⟨w7.heap.size, 3, none⟩ = some (.int .i64 aB.v.ty) ∧ w'.cell? ⟨w7.heap.size, 4, none⟩ = some (.int .i64 aB.v.n) ∧ w'.cell? ⟨w7.heap.size, 5, none⟩ = some (.string aB.v.s) ∧ Below w10.heap.size w10 w') (first | exact ⟨X_aB 0, X_aB 1, X_aB 2, X_aB 3, X_aB 4, X_aB 5, X_x1 0, X_x1 1, X_x1 2, X_x1 3, X_x1 4, X_x1 5, (Below.refl _ _).drew⟩ | (refine kS _ _ ?_ hq1; assumption) | (refine kS _ _ ?_ hq2; assumption)) (first
    | (go_at_call 55; ((with_reducible refine (toResult_c aB aB_l _ ((H_aB_l).below (toB _ (by assumption)) (by omega)) (by have h := (toB _ (by assumption)).size; omega) T_aB).mono ?_); rintro e w11 ⟨r100l, rfl, H_r100l, hq1⟩; obtain ⟨A_r100l, k_r100l, rfl, -, -⟩ := (H_r100l.rdR).form))
    | (go_at_call 57; ((with_reducible refine (eqResult_c aB (.slice A_n6l (aB.rows).length k_n6l) aB (.slice A_r100l (aB.rows).length k_r100l) _ ((H_n6l.rdR).below (toB _ (by assumption)) (by omega)) (by have h := (toB _ (by assumption)).size; omega) (H_r100l.rdR) (by first | exact Nat.le_refl _ | (omega))).mono ?_); rintro e w12 ⟨rfl, hq2⟩)))
  clear kS toB
  replace hq1 := Below.undrew hq1
  have b10 : Below w10.heap.size w10 w11 := hq1
  have z10 := b10.size
  replace H_aA_l := H_aA_l.below b10 (by omega)
  replace H_aB_l := H_aB_l.below b10 (by omega)
  replace H_r20l := H_r20l.below b10 (by omega)
  replace H_r21l := H_r21l.below b10 (by omega)
  replace H_n5l := H_n5l.below b10 (by omega)
  replace H_n6l := H_n6l.below b10 (by omega)
  replace H_r80l := H_r80l.below b10 (by omega)
  replace X_aA := box_keep X_aA b10 (by omega)
  replace Y_aA : w.heap.size < w11.heap.size := by omega
  replace X_aB := box_keep X_aB b10 (by omega)
  replace Y_aB : w.heap.size + 1 < w11.heap.size := by omega
  replace X_x0 := box_keep X_x0 b10 (by omega)
  replace Y_x0 : w6.heap.size < w11.heap.size := by omega
  replace X_x1 := box_keep X_x1 b10 (by omega)
  replace Y_x1 : w7.heap.size < w11.heap.size := by omega
  replace hB := hB.trans (b10.mono hB.size)
  clear hq1 b10
  have b11 : Below w11.heap.size w11 w12 := hq2
  have z11 := b11.size
  replace H_aA_l := H_aA_l.below b11 (by omega)
  replace H_aB_l := H_aB_l.below b11 (by omega)
  replace H_r20l := H_r20l.below b11 (by omega)
  replace H_r21l := H_r21l.below b11 (by omega)
  replace H_n5l := H_n5l.below b11 (by omega)
  replace H_n6l := H_n6l.below b11 (by omega)
  replace H_r80l := H_r80l.below b11 (by omega)
  replace H_r100l := H_r100l.below b11 (by omega)
  replace X_aA := box_keep X_aA b11 (by omega)
  replace Y_aA : w.heap.size < w12.heap.size := by omega
  replace X_aB := box_keep X_aB b11 (by omega)
  replace Y_aB : w.heap.size + 1 < w12.heap.size := by omega
  replace X_x0 := box_keep X_x0 b11 (by omega)
  replace Y_x0 : w6.heap.size < w12.heap.size := by omega
  replace X_x1 := box_keep X_x1 b11 (by omega)
  replace Y_x1 : w7.heap.size < w12.heap.size := by omega
  replace hB := hB.trans (b11.mono hB.size)
  clear hq2 b11
  simp only [eqd_self]
  go_wp2_with fail
  go_ret
  exact ⟨rfl, hB⟩

end Go.Proofs.Ytphbkghokhlnbaa
