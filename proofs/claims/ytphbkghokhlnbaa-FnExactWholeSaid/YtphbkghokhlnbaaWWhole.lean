/- The law FnExactWhole: its walk, out of the contracts of what it calls. -/
import Derived.Test.YtphbkghokhlnbaaS20
import Derived.Test.YtphbkghokhlnbaaLC
namespace Go.Proofs.Ytphbkghokhlnbaa
open Go.ChangeShapes Go.WideShapes Go.ChangeAt Go.RowKit Go.Lb

set_option maxRecDepth 20000 in
set_option maxHeartbeats 4000000 in
theorem wWhole (aC : C) (aC_l : Value) (aTs : Int) (w : World) (H_aC_l : RdR w 0 w.heap.size aC_l (aC.l)) (c0_aC : RsOk aC.l) :
    Calls Try.prog 10 #[.agg #[.int .i64 aC.next, aC_l], .int .i64 aTs] w fun e w' => e = .returned (.bool true) ∧ Below w.heap.size w w' := by
  have C0_aC := Lib.hid c0_aC
  clear c0_aC
  have hB : Below w.heap.size w w := Below.refl _ _
  go_enter Try.func10, Try.ntmps10
  go_wp2_with fail
  refine (szChunk_c aC aC_l 1048576 _ (RdR.below (H_aC_l) (up_a1 w _ ) (by omega)) (by simp only [World.size_alloc]; omega) C0_aC.out (by omega) (by omega)).mono ?_
  rintro e w1 ⟨rfl, hb⟩
  have b0 : Below w.heap.size w w1 := below_a1 hb
  have z0 : w.heap.size + 1 ≤ w1.heap.size := by have h := hb.size; simpa [Nat.add_assoc] using h
  replace H_aC_l := H_aC_l.below b0 (by omega)
  have X_aC : ∀ o, w1.cell? ⟨w.heap.size, o, none⟩ = (#[.int .i64 aC.next, aC_l] : Array Value)[o]? := by
    intro o
    have h := box_new w #[.int .i64 aC.next, aC_l] 58 o
    replace h := (hb.cell (p := ⟨_, o, none⟩) (by simp <;> omega)).trans h
    simpa [Nat.add_assoc] using h
  have Y_aC : w.heap.size < w1.heap.size := by omega
  replace hB := hB.trans (b0.mono hB.size)
  clear hb b0
  have L0 := szChunk_le aC 1048576 (by omega) (by omega)
  have T_aC := szChunk_bd aC 1048576 (by omega) (by omega)
  generalize szChunk aC 1048576 = m0 at *
  by_cases h0 : m0 < 0
  · go_wp2_with fail
    go_ret
    exact ⟨rfl, hB⟩
  replace T_aC := T_aC h0
  go_wp2_with fail
  refine (toChunk_c aC aC_l _ (H_aC_l) (by omega) T_aC).mono ?_
  rintro e w2 ⟨n1l, rfl, H_n1l, hb⟩
  have b1 : Below w1.heap.size w1 w2 := hb
  have z1 := b1.size
  replace H_aC_l := H_aC_l.below b1 (by omega)
  replace X_aC := box_keep X_aC b1 (by omega)
  replace Y_aC : w.heap.size < w2.heap.size := by omega
  replace hB := hB.trans (b1.mono hB.size)
  clear hb b1
  obtain ⟨A_n1l, k_n1l, rfl, -, -⟩ := (H_n1l.rdR).form
  go_wp2_with fail
  refine (spec_Whole aC (.slice A_n1l (aC.l).length k_n1l) aTs _ (H_n1l.rdR) (by omega)  ).mono ?_
  rintro e w3 ⟨rfl, hb⟩
  have b2 : Below w2.heap.size w2 w3 := hb
  have z2 := b2.size
  replace H_aC_l := H_aC_l.below b2 (by omega)
  replace H_n1l := H_n1l.below b2 (by omega)
  replace X_aC := box_keep X_aC b2 (by omega)
  replace Y_aC : w.heap.size < w3.heap.size := by omega
  replace hB := hB.trans (b2.mono hB.size)
  clear hb b2
  go_wp2_with fail
  refine (toChunk_c aC aC_l _ (H_aC_l) (by omega) T_aC).mono ?_
  rintro e w4 ⟨n3l, rfl, H_n3l, hb⟩
  have b3 : Below w3.heap.size w3 w4 := hb
  have z3 := b3.size
  replace H_aC_l := H_aC_l.below b3 (by omega)
  replace H_n1l := H_n1l.below b3 (by omega)
  replace X_aC := box_keep X_aC b3 (by omega)
  replace Y_aC : w.heap.size < w4.heap.size := by omega
  replace hB := hB.trans (b3.mono hB.size)
  clear hb b3
  obtain ⟨A_n3l, k_n3l, rfl, -, -⟩ := (H_n3l.rdR).form
  go_wp2_with fail
  refine (impl_Whole aC (.slice A_n3l (aC.l).length k_n3l) aTs _ (RdR.below (H_n3l.rdR) (up_a1 w4 _ ) (by omega)) (by simp only [World.size_alloc]; omega)  ).mono ?_
  rintro e w5 ⟨rfl, hb⟩
  have b4 : Below w4.heap.size w4 w5 := below_a1 hb
  have z4 : w4.heap.size + 1 ≤ w5.heap.size := by have h := hb.size; simpa [Nat.add_assoc] using h
  replace H_aC_l := H_aC_l.below b4 (by omega)
  replace H_n1l := H_n1l.below b4 (by omega)
  replace H_n3l := H_n3l.below b4 (by omega)
  replace X_aC := box_keep X_aC b4 (by omega)
  replace Y_aC : w.heap.size < w5.heap.size := by omega
  have X_x0 : ∀ o, w5.cell? ⟨w4.heap.size, o, none⟩ = (#[.int .i64 aC.next, (.slice A_n3l (aC.l).length k_n3l)] : Array Value)[o]? := by
    intro o
    have h := box_new w4 #[.int .i64 aC.next, (.slice A_n3l (aC.l).length k_n3l)] 52 o
    replace h := (hb.cell (p := ⟨_, o, none⟩) (by simp <;> omega)).trans h
    simpa [Nat.add_assoc] using h
  have Y_x0 : w4.heap.size < w5.heap.size := by omega
  replace hB := hB.trans (b4.mono hB.size)
  clear hb b4
  have kS : ∀ A A' : World, (A.cell? ⟨w.heap.size, 0, none⟩ = some (.int .i64 aC.next) ∧ A.cell? ⟨w.heap.size, 1, none⟩ = some (aC_l) ∧ A.cell? ⟨w4.heap.size, 0, none⟩ = some (.int .i64 aC.next) ∧ A.cell? ⟨w4.heap.size, 1, none⟩ = some ((.slice A_n3l (aC.l).length k_n3l)) ∧ Below w5.heap.size w5 A) → Below A.heap.size A A' → (A'.cell? ⟨w.heap.size, 0, none⟩ = some (.int .i64 aC.next) ∧ A'.cell? ⟨w.heap.size, 1, none⟩ = some (aC_l) ∧ A'.cell? ⟨w4.heap.size, 0, none⟩ = some (.int .i64 aC.next) ∧ A'.cell? ⟨w4.heap.size, 1, none⟩ = some ((.slice A_n3l (aC.l).length k_n3l)) ∧ Below w5.heap.size w5 A') := by
    intro A A' h hb
    obtain ⟨h0, h1, h2, h3, hq⟩ := h
    have hs := hq.size
    exact ⟨(hb.cell (p := ⟨w.heap.size, 0, none⟩) (show w.heap.size < _ by omega)).trans h0, (hb.cell (p := ⟨w.heap.size, 1, none⟩) (show w.heap.size < _ by omega)).trans h1, (hb.cell (p := ⟨w4.heap.size, 0, none⟩) (show w4.heap.size < _ by omega)).trans h2, (hb.cell (p := ⟨w4.heap.size, 1, none⟩) (show w4.heap.size < _ by omega)).trans h3, hq.trans (hb.mono hs)⟩
  have toB : ∀ A : World, (A.cell? ⟨w.heap.size, 0, none⟩ = some (.int .i64 aC.next) ∧ A.cell? ⟨w.heap.size, 1, none⟩ = some (aC_l) ∧ A.cell? ⟨w4.heap.size, 0, none⟩ = some (.int .i64 aC.next) ∧ A.cell? ⟨w4.heap.size, 1, none⟩ = some ((.slice A_n3l (aC.l).length k_n3l)) ∧ Below w5.heap.size w5 A) → Below w5.heap.size w5 A := fun A h => h.2.2.2.2
  go_wp2_with fail
  go_region_held3 (fun w' => w'.cell? ⟨w.heap.size, 0, none⟩ = some (.int .i64 aC.next) ∧ w'.cell? ⟨w.heap.size, 1, none⟩ = some (aC_l) ∧ w'.cell? ⟨w4.heap.size, 0, none⟩ = some (.int .i64 aC.next) ∧ w'.cell? ⟨w4.heap.size, 1, none⟩ = some ((.slice A_n3l (aC.l).length k_n3l)) ∧ Below w5.heap.size w5 w') (first | exact ⟨X_aC 0, X_aC 1, X_x0 0, X_x0 1, (Below.refl _ _).drew⟩ | (refine kS _ _ ?_ hq1; assumption) | (refine kS _ _ ?_ hq2; assumption)) (first
    | (go_at_call 42; ((with_reducible refine (toChunk_c aC aC_l _ ((H_aC_l).below (toB _ (by assumption)) (by omega)) (by have h := (toB _ (by assumption)).size; omega) T_aC).mono ?_); rintro e w6 ⟨r50l, rfl, H_r50l, hq1⟩; obtain ⟨A_r50l, k_r50l, rfl, -, -⟩ := (H_r50l.rdR).form))
    | (go_at_call 37; ((with_reducible refine (eqChunk_c aC (.slice A_n3l (aC.l).length k_n3l) aC (.slice A_r50l (aC.l).length k_r50l) _ ((H_n3l.rdR).below (toB _ (by assumption)) (by omega)) (by have h := (toB _ (by assumption)).size; omega) (H_r50l.rdR) (by first | exact Nat.le_refl _ | (omega))).mono ?_); rintro e w7 ⟨rfl, hq2⟩)))
  clear kS toB
  replace hq1 := Below.undrew hq1
  have b5 : Below w5.heap.size w5 w6 := hq1
  have z5 := b5.size
  replace H_aC_l := H_aC_l.below b5 (by omega)
  replace H_n1l := H_n1l.below b5 (by omega)
  replace H_n3l := H_n3l.below b5 (by omega)
  replace X_aC := box_keep X_aC b5 (by omega)
  replace Y_aC : w.heap.size < w6.heap.size := by omega
  replace X_x0 := box_keep X_x0 b5 (by omega)
  replace Y_x0 : w4.heap.size < w6.heap.size := by omega
  replace hB := hB.trans (b5.mono hB.size)
  clear hq1 b5
  have b6 : Below w6.heap.size w6 w7 := hq2
  have z6 := b6.size
  replace H_aC_l := H_aC_l.below b6 (by omega)
  replace H_n1l := H_n1l.below b6 (by omega)
  replace H_n3l := H_n3l.below b6 (by omega)
  replace H_r50l := H_r50l.below b6 (by omega)
  replace X_aC := box_keep X_aC b6 (by omega)
  replace Y_aC : w.heap.size < w7.heap.size := by omega
  replace X_x0 := box_keep X_x0 b6 (by omega)
  replace Y_x0 : w4.heap.size < w7.heap.size := by omega
  replace hB := hB.trans (b6.mono hB.size)
  clear hq2 b6
  simp only [eqd_self]
  go_wp2_with fail
  go_ret
  exact ⟨rfl, hB⟩

end Go.Proofs.Ytphbkghokhlnbaa
