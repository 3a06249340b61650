/- The law FnExactChunkOk: its walk, out of the contracts of what it calls. -/
import Derived.Test.YtgjjkodlmhmjgaaS25
import Derived.Test.YtgjjkodlmhmjgaaLC
import Derived.Test.YtgjjkodlmhmjgaaLI2
namespace Go.Proofs.Ytgjjkodlmhmjgaa
open Go.ChangeShapes Go.WideShapes Go.ChangeAt Go.RowKit Go.Lb

set_option maxRecDepth 20000 in
set_option maxHeartbeats 4000000 in
theorem wChunkOk (aCols : List Int) (aCols_s : Value) (aC : C) (aC_l : Value) (w : World) (H_aCols_s : RdI w 0 w.heap.size aCols_s aCols) (H_aC_l : RdR w 0 w.heap.size aC_l (aC.l)) (c0_aC : RsOk aC.l) :
    Calls Try.prog 6 #[aCols_s, .agg #[.int .i64 aC.next, aC_l]] w fun e w' => e = .returned (.bool true) ∧ Below w.heap.size w w' := by
  have C0_aC := Lib.hid c0_aC
  clear c0_aC
  have hB : Below w.heap.size w w := Below.refl _ _
  go_enter Try.func6, Try.ntmps6
  obtain ⟨A_aCols_s, k_aCols_s, rfl, lc_aCols, mc_aCols⟩ := H_aCols_s.form
  by_cases T_aCols : aCols.length ≤ 1048576
  rotate_left
  · have D_aCols : decide ((1048576 : Int) < (aCols.length : Int)) = true := decide_eq_true (by omega)
    go_wp2_with fail
    go_ret
    exact ⟨rfl, hB.trans ((up_a1 w _ ).mono hB.size)⟩
  have D_aCols : decide ((1048576 : Int) < (aCols.length : Int)) = false := decide_eq_false (by omega)
  go_wp2_with fail
  refine (szChunk_c aC aC_l 1048576 _ (RdR.below (H_aC_l) (up_a1 w _ ) (by omega)) (by simp only [World.size_alloc]; omega) C0_aC.out (by omega) (by omega)).mono ?_
  rintro e w1 ⟨rfl, hb⟩
  have b0 : Below w.heap.size w w1 := below_a1 hb
  have z0 : w.heap.size + 1 ≤ w1.heap.size := by have h := hb.size; simpa [Nat.add_assoc] using h
  replace H_aCols_s := H_aCols_s.below b0 (by omega)
  replace H_aC_l := H_aC_l.below b0 (by omega)
  have X_aC : ∀ o, w1.cell? ⟨w.heap.size, o, none⟩ = (#[.int .i64 aC.next, aC_l] : Array Value)[o]? := by
    intro o
    have h := box_new w #[.int .i64 aC.next, aC_l] 55 o
    replace h := (hb.cell (p := ⟨_, o, none⟩) (by simp <;> omega)).trans h
    simpa [Nat.add_assoc] using h
  have Y_aC : w.heap.size < w1.heap.size := by omega
  replace hB := hB.trans (b0.mono hB.size)
  clear hb b0
  have L0 := szChunk_le aC 1048576 (by omega) (by omega)
  have T_aC := szChunk_bd aC 1048576 (by omega) (by omega)
  generalize szChunk aC 1048576 = m0 at *
  by_cases h0 : m0 < 0
  · go_wp2_with fail
    go_ret
    exact ⟨rfl, hB⟩
  replace T_aC := T_aC h0
  have kS : ∀ A A' : World, (A.cell? ⟨w.heap.size, 0, none⟩ = some (.int .i64 aC.next) ∧ A.cell? ⟨w.heap.size, 1, none⟩ = some (aC_l) ∧ Below w1.heap.size w1 A) → Below A.heap.size A A' → (A'.cell? ⟨w.heap.size, 0, none⟩ = some (.int .i64 aC.next) ∧ A'.cell? ⟨w.heap.size, 1, none⟩ = some (aC_l) ∧ Below w1.heap.size w1 A') := by
    intro A A' h hb
    obtain ⟨h0, h1, hq⟩ := h
    have hs := hq.size
    exact ⟨(hb.cell (p := ⟨w.heap.size, 0, none⟩) (show w.heap.size < _ by omega)).trans h0, (hb.cell (p := ⟨w.heap.size, 1, none⟩) (show w.heap.size < _ by omega)).trans h1, hq.trans (hb.mono hs)⟩
  have toB : ∀ A : World, (A.cell? ⟨w.heap.size, 0, none⟩ = some (.int .i64 aC.next) ∧ A.cell? ⟨w.heap.size, 1, none⟩ = some (aC_l) ∧ Below w1.heap.size w1 A) → Below w1.heap.size w1 A := fun A h => h.2.2
  go_wp2_with fail
  go_region_held3 (fun w' => w'.cell? ⟨w.heap.size, 0, none⟩ = some (.int .i64 aC.next) ∧ w'.cell? ⟨w.heap.size, 1, none⟩ = some (aC_l) ∧ Below w1.heap.size w1 w') (first | exact ⟨X_aC 0, X_aC 1, (Below.refl _ _).drew⟩ | (refine kS _ _ ?_ hq1; assumption) | (refine kS _ _ ?_ hq2; assumption) | (refine kS _ _ ?_ hq3; assumption)) (first
    | (go_at_call 17; ((with_reducible refine (toIntS_c aCols (.slice A_aCols_s aCols.length k_aCols_s) _ ((H_aCols_s).below (toB _ (by assumption)) (by omega)) (by have h := (toB _ (by assumption)).size; omega) T_aCols).mono ?_); rintro e w2 ⟨r10, rfl, H_r10, hq1⟩))
    | (go_at_call 34; ((with_reducible refine (toChunk_c aC aC_l _ ((H_aC_l).below (toB _ (by assumption)) (by omega)) (by have h := (toB _ (by assumption)).size; omega) T_aC).mono ?_); rintro e w3 ⟨r11l, rfl, H_r11l, hq2⟩; obtain ⟨A_r11l, k_r11l, rfl, -, -⟩ := (H_r11l.rdR).form))
    | (go_at_call 33; ((with_reducible refine (spec_ChunkOk aCols r10 aC (.slice A_r11l (aC.l).length k_r11l) _ ((H_r10.rdI.below hq2 (Nat.le_refl _))) (by first | exact Nat.le_refl _ | (have hz2 := hq2.size; omega)) (H_r11l.rdR) (by first | exact Nat.le_refl _ | (omega)) C0_aC.out ).mono ?_); rintro e w4 ⟨rfl, hq3⟩)))
  clear kS toB
  replace hq1 := Below.undrew hq1
  have b1 : Below w1.heap.size w1 w2 := hq1
  have z1 := b1.size
  replace H_aCols_s := H_aCols_s.below b1 (by omega)
  replace H_aC_l := H_aC_l.below b1 (by omega)
  replace X_aC := box_keep X_aC b1 (by omega)
  replace Y_aC : w.heap.size < w2.heap.size := by omega
  replace hB := hB.trans (b1.mono hB.size)
  clear hq1 b1
  have b2 : Below w2.heap.size w2 w3 := hq2
  have z2 := b2.size
  replace H_aCols_s := H_aCols_s.below b2 (by omega)
  replace H_aC_l := H_aC_l.below b2 (by omega)
  replace H_r10 := H_r10.below b2 (by omega)
  replace X_aC := box_keep X_aC b2 (by omega)
  replace Y_aC : w.heap.size < w3.heap.size := by omega
  replace hB := hB.trans (b2.mono hB.size)
  clear hq2 b2
  have b3 : Below w3.heap.size w3 w4 := hq3
  have z3 := b3.size
  replace H_aCols_s := H_aCols_s.below b3 (by omega)
  replace H_aC_l := H_aC_l.below b3 (by omega)
  replace H_r10 := H_r10.below b3 (by omega)
  replace H_r11l := H_r11l.below b3 (by omega)
  replace X_aC := box_keep X_aC b3 (by omega)
  replace Y_aC : w.heap.size < w4.heap.size := by omega
  replace hB := hB.trans (b3.mono hB.size)
  clear hq3 b3
  go_wp2_with fail
  refine (toIntS_c aCols (.slice A_aCols_s aCols.length k_aCols_s) _ (H_aCols_s) (by omega) T_aCols).mono ?_
  rintro e w5 ⟨n4, rfl, H_n4, hb⟩
  have b4 : Below w4.heap.size w4 w5 := hb
  have z4 := b4.size
  replace H_aCols_s := H_aCols_s.below b4 (by omega)
  replace H_aC_l := H_aC_l.below b4 (by omega)
  replace H_r10 := H_r10.below b4 (by omega)
  replace H_r11l := H_r11l.below b4 (by omega)
  replace X_aC := box_keep X_aC b4 (by omega)
  replace Y_aC : w.heap.size < w5.heap.size := by omega
  replace hB := hB.trans (b4.mono hB.size)
  clear hb b4
  go_wp2_with fail
  refine (toChunk_c aC aC_l _ (H_aC_l) (by omega) T_aC).mono ?_
  rintro e w6 ⟨n5l, rfl, H_n5l, hb⟩
  have b5 : Below w5.heap.size w5 w6 := hb
  have z5 := b5.size
  replace H_aCols_s := H_aCols_s.below b5 (by omega)
  replace H_aC_l := H_aC_l.below b5 (by omega)
  replace H_r10 := H_r10.below b5 (by omega)
  replace H_r11l := H_r11l.below b5 (by omega)
  replace H_n4 := H_n4.below b5 (by omega)
  replace X_aC := box_keep X_aC b5 (by omega)
  replace Y_aC : w.heap.size < w6.heap.size := by omega
  replace hB := hB.trans (b5.mono hB.size)
  clear hb b5
  obtain ⟨A_n5l, k_n5l, rfl, -, -⟩ := (H_n5l.rdR).form
  go_wp2_with fail
  refine (impl_ChunkOk aCols n4 aC (.slice A_n5l (aC.l).length k_n5l) _ (RdI.below (H_n4.rdI) (up_a1 w6 _ ) (by omega)) (by simp only [World.size_alloc]; omega) (RdR.below (H_n5l.rdR) (up_a1 w6 _ ) (by omega)) (by simp only [World.size_alloc]; omega) C0_aC.out ).mono ?_
  rintro e w7 ⟨rfl, hb⟩
  have b6 : Below w6.heap.size w6 w7 := below_a1 hb
  have z6 : w6.heap.size + 1 ≤ w7.heap.size := by have h := hb.size; simpa [Nat.add_assoc] using h
  replace H_aCols_s := H_aCols_s.below b6 (by omega)
  replace H_aC_l := H_aC_l.below b6 (by omega)
  replace H_r10 := H_r10.below b6 (by omega)
  replace H_r11l := H_r11l.below b6 (by omega)
  replace H_n4 := H_n4.below b6 (by omega)
  replace H_n5l := H_n5l.below b6 (by omega)
  replace X_aC := box_keep X_aC b6 (by omega)
  replace Y_aC : w.heap.size < w7.heap.size := by omega
  have X_x1 : ∀ o, w7.cell? ⟨w6.heap.size, o, none⟩ = (#[.int .i64 aC.next, (.slice A_n5l (aC.l).length k_n5l)] : Array Value)[o]? := by
    intro o
    have h := box_new w6 #[.int .i64 aC.next, (.slice A_n5l (aC.l).length k_n5l)] 60 o
    replace h := (hb.cell (p := ⟨_, o, none⟩) (by simp <;> omega)).trans h
    simpa [Nat.add_assoc] using h
  have Y_x1 : w6.heap.size < w7.heap.size := by omega
  replace hB := hB.trans (b6.mono hB.size)
  clear hb b6
  go_wp2_with fail
  refine (toIntS_c aCols (.slice A_aCols_s aCols.length k_aCols_s) _ (H_aCols_s) (by omega) T_aCols).mono ?_
  rintro e w8 ⟨n7, rfl, H_n7, hb⟩
  have b7 : Below w7.heap.size w7 w8 := hb
  have z7 := b7.size
  replace H_aCols_s := H_aCols_s.below b7 (by omega)
  replace H_aC_l := H_aC_l.below b7 (by omega)
  replace H_r10 := H_r10.below b7 (by omega)
  replace H_r11l := H_r11l.below b7 (by omega)
  replace H_n4 := H_n4.below b7 (by omega)
  replace H_n5l := H_n5l.below b7 (by omega)
  replace X_aC := box_keep X_aC b7 (by omega)
  replace Y_aC : w.heap.size < w8.heap.size := by omega
  replace X_x1 := box_keep X_x1 b7 (by omega)
  replace Y_x1 : w6.heap.size < w8.heap.size := by omega
  replace hB := hB.trans (b7.mono hB.size)
  clear hb b7
  go_wp2_with fail
  refine (eqIntS_c aCols n4 aCols n7 _ (H_n4.rdI) (by omega) (H_n7.rdI) (by omega)).mono ?_
  rintro e w9 ⟨rfl, hb⟩
  have b8 : Below w8.heap.size w8 w9 := hb
  have z8 := b8.size
  replace H_aCols_s := H_aCols_s.below b8 (by omega)
  replace H_aC_l := H_aC_l.below b8 (by omega)
  replace H_r10 := H_r10.below b8 (by omega)
  replace H_r11l := H_r11l.below b8 (by omega)
  replace H_n4 := H_n4.below b8 (by omega)
  replace H_n5l := H_n5l.below b8 (by omega)
  replace H_n7 := H_n7.below b8 (by omega)
  replace X_aC := box_keep X_aC b8 (by omega)
  replace Y_aC : w.heap.size < w9.heap.size := by omega
  replace X_x1 := box_keep X_x1 b8 (by omega)
  replace Y_x1 : w6.heap.size < w9.heap.size := by omega
  replace hB := hB.trans (b8.mono hB.size)
  clear hb b8
  simp only [eqd_self]
  have kS : ∀ A A' : World, (A.cell? ⟨w.heap.size, 0, none⟩ = some (.int .i64 aC.next) ∧ A.cell? ⟨w.heap.size, 1, none⟩ = some (aC_l) ∧ A.cell? ⟨w6.heap.size, 0, none⟩ = some (.int .i64 aC.next) ∧ A.cell? ⟨w6.heap.size, 1, none⟩ = some ((.slice A_n5l (aC.l).length k_n5l)) ∧ Below w9.heap.size w9 A) → Below A.heap.size A A' → (A'.cell? ⟨w.heap.size, 0, none⟩ = some (.int .i64 aC.next) ∧ A'.cell? ⟨w.heap.size, 1, none⟩ = some (aC_l) ∧ A'.cell? ⟨w6.heap.size, 0, none⟩ = some (.int .i64 aC.next) ∧ A'.cell? ⟨w6.heap.size, 1, none⟩ = some ((.slice A_n5l (aC.l).length k_n5l)) ∧ Below w9.heap.size w9 A') := by
    intro A A' h hb
    obtain ⟨h0, h1, h2, h3, hq⟩ := h
    have hs := hq.size
    exact ⟨(hb.cell (p := ⟨w.heap.size, 0, none⟩) (show w.heap.size < _ by omega)).trans h0, (hb.cell (p := ⟨w.heap.size, 1, none⟩) (show w.heap.size < _ by omega)).trans h1, (hb.cell (p := ⟨w6.heap.size, 0, none⟩) (show w6.heap.size < _ by omega)).trans h2, (hb.cell (p := ⟨w6.heap.size, 1, none⟩) (show w6.heap.size < _ by omega)).trans h3, hq.trans (hb.mono hs)⟩
  have toB : ∀ A : World, (A.cell? ⟨w.heap.size, 0, none⟩ = some (.int .i64 aC.next) ∧ A.cell? ⟨w.heap.size, 1, none⟩ = some (aC_l) ∧ A.cell? ⟨w6.heap.size, 0, none⟩ = some (.int .i64 aC.next) ∧ A.cell? ⟨w6.heap.size, 1, none⟩ = some ((.slice A_n5l (aC.l).length k_n5l)) ∧ Below w9.heap.size w9 A) → Below w9.heap.size w9 A := fun A h => h.2.2.2.2
  go_wp2_with fail
  go_region_held3 (fun w' => w'.cell? ⟨w.heap.size, 0, none⟩ = some (.int .i64 aC.next) ∧ w'.cell? ⟨w.heap.size, 1, none⟩ = some (aC_l) ∧ w'.cell? ⟨w6.heap.size, 0, none⟩ = some (.int .i64 aC.next) ∧ w'.cell? ⟨w6.heap.size, 1, none⟩ = some ((.slice A_n5l (aC.l).length k_n5l)) ∧ Below w9.heap.size w9 w') (first | exact ⟨X_aC 0, X_aC 1, X_x1 0, X_x1 1, (Below.refl _ _).drew⟩ | (refine kS _ _ ?_ hq1; assumption) | (refine kS _ _ ?_ hq2; assumption)) (first
    | (go_at_call 34; ((with_reducible refine (toChunk_c aC aC_l _ ((H_aC_l).below (toB _ (by assumption)) (by omega)) (by have h := (toB _ (by assumption)).size; omega) T_aC).mono ?_); rintro e w10 ⟨r90l, rfl, H_r90l, hq1⟩; obtain ⟨A_r90l, k_r90l, rfl, -, -⟩ := (H_r90l.rdR).form))
    | (go_at_call 36; ((with_reducible refine (eqChunk_c aC (.slice A_n5l (aC.l).length k_n5l) aC (.slice A_r90l (aC.l).length k_r90l) _ ((H_n5l.rdR).below (toB _ (by assumption)) (by omega)) (by have h := (toB _ (by assumption)).size; omega) (H_r90l.rdR) (by first | exact Nat.le_refl _ | (omega))).mono ?_); rintro e w11 ⟨rfl, hq2⟩)))
  clear kS toB
  replace hq1 := Below.undrew hq1
  have b9 : Below w9.heap.size w9 w10 := hq1
  have z9 := b9.size
  replace H_aCols_s := H_aCols_s.below b9 (by omega)
  replace H_aC_l := H_aC_l.below b9 (by omega)
  replace H_r10 := H_r10.below b9 (by omega)
  replace H_r11l := H_r11l.below b9 (by omega)
  replace H_n4 := H_n4.below b9 (by omega)
  replace H_n5l := H_n5l.below b9 (by omega)
  replace H_n7 := H_n7.below b9 (by omega)
  replace X_aC := box_keep X_aC b9 (by omega)
  replace Y_aC : w.heap.size < w10.heap.size := by omega
  replace X_x1 := box_keep X_x1 b9 (by omega)
  replace Y_x1 : w6.heap.size < w10.heap.size := by omega
  replace hB := hB.trans (b9.mono hB.size)
  clear hq1 b9
  have b10 : Below w10.heap.size w10 w11 := hq2
  have z10 := b10.size
  replace H_aCols_s := H_aCols_s.below b10 (by omega)
  replace H_aC_l := H_aC_l.below b10 (by omega)
  replace H_r10 := H_r10.below b10 (by omega)
  replace H_r11l := H_r11l.below b10 (by omega)
  replace H_n4 := H_n4.below b10 (by omega)
  replace H_n5l := H_n5l.below b10 (by omega)
  replace H_n7 := H_n7.below b10 (by omega)
  replace H_r90l := H_r90l.below b10 (by omega)
  replace X_aC := box_keep X_aC b10 (by omega)
  replace Y_aC : w.heap.size < w11.heap.size := by omega
  replace X_x1 := box_keep X_x1 b10 (by omega)
  replace Y_x1 : w6.heap.size < w11.heap.size := by omega
  replace hB := hB.trans (b10.mono hB.size)
  clear hq2 b10
  simp only [eqd_self]
  go_wp2_with fail
  go_ret
  exact ⟨rfl, hB⟩

end Go.Proofs.Ytgjjkodlmhmjgaa
