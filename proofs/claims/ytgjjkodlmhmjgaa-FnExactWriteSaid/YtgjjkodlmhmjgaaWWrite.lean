/- The law FnExactWrite: its walk, out of the contracts of what it calls. -/
import Derived.Test.YtgjjkodlmhmjgaaS46
import Derived.Test.YtgjjkodlmhmjgaaLC
import Derived.Test.YtgjjkodlmhmjgaaL2
import Derived.Test.YtgjjkodlmhmjgaaL3
namespace Go.Proofs.Ytgjjkodlmhmjgaa
open Go.ChangeShapes Go.WideShapes Go.ChangeAt Go.RowKit Go.Lb

set_option maxRecDepth 20000 in
set_option maxHeartbeats 4000000 in
theorem wWrite (aC : C) (aC_l : Value) (aI : Int) (aL : List V) (aL_s : Value) (w : World) (H_aC_l : RdR w 0 w.heap.size aC_l (aC.l)) (c0_aC : RsOk aC.l) (H_aL_s : RdV w 0 w.heap.size aL_s aL) (c0_aL : ∀ v ∈ aL, v.s.size ≤ maxLen) :
    Calls Try.prog 8 #[.agg #[.int .i64 aC.next, aC_l], .int .i64 aI, aL_s] w fun e w' => e = .returned (.bool true) ∧ Below w.heap.size w w' := by
  have C0_aC := Lib.hid c0_aC
  clear c0_aC
  have C0_aL := Lib.hid c0_aL
  clear c0_aL
  have O0 := wrote_bd aC aI aL
  have hB : Below w.heap.size w w := Below.refl _ _
  go_enter Try.func8, Try.ntmps8
  go_wp2_with fail
  refine (szChunk_c aC aC_l 1048576 _ (RdR.below (H_aC_l) (up_a1 w _ ) (by omega)) (by simp only [World.size_alloc]; omega) C0_aC.out (by omega) (by omega)).mono ?_
  rintro e w1 ⟨rfl, hb⟩
  have b0 : Below w.heap.size w w1 := below_a1 hb
  have z0 : w.heap.size + 1 ≤ w1.heap.size := by have h := hb.size; simpa [Nat.add_assoc] using h
  replace H_aC_l := H_aC_l.below b0 (by omega)
  replace H_aL_s := H_aL_s.below b0 (by omega)
  have X_aC : ∀ o, w1.cell? ⟨w.heap.size, o, none⟩ = (#[.int .i64 aC.next, aC_l] : Array Value)[o]? := by
    intro o
    have h := box_new w #[.int .i64 aC.next, aC_l] 55 o
    replace h := (hb.cell (p := ⟨_, o, none⟩) (by simp <;> omega)).trans h
    simpa [Nat.add_assoc] using h
  have Y_aC : w.heap.size < w1.heap.size := by omega
  replace hB := hB.trans (b0.mono hB.size)
  clear hb b0
  have L0 := szChunk_le aC 1048576 (by omega) (by omega)
  have T_aC := szChunk_bd aC 1048576 (by omega) (by omega)
  generalize szChunk aC 1048576 = m0 at *
  by_cases h0 : m0 < 0
  · go_wp2_with fail
    go_ret
    exact ⟨rfl, hB⟩
  replace T_aC := T_aC h0
  go_wp2_with fail
  refine (szValS_c aL aL_s m0 _ (H_aL_s) (by omega) C0_aL.out (by omega) L0).mono ?_
  rintro e w2 ⟨rfl, hb⟩
  have b1 : Below w1.heap.size w1 w2 := hb
  have z1 := b1.size
  replace H_aC_l := H_aC_l.below b1 (by omega)
  replace H_aL_s := H_aL_s.below b1 (by omega)
  replace X_aC := box_keep X_aC b1 (by omega)
  replace Y_aC : w.heap.size < w2.heap.size := by omega
  replace hB := hB.trans (b1.mono hB.size)
  clear hb b1
  have L1 := szValS_le aL m0 (by omega) L0
  have T_aL := szValS_bd aL m0 (by omega) L0
  generalize szValS aL m0 = m1 at *
  by_cases h1 : m1 < 0
  · go_wp2_with fail
    go_ret
    exact ⟨rfl, hB⟩
  replace T_aL := T_aL h1
  go_wp2_with fail
  refine (toChunk_c aC aC_l _ (H_aC_l) (by omega) T_aC).mono ?_
  rintro e w3 ⟨n2l, rfl, H_n2l, hb⟩
  have b2 : Below w2.heap.size w2 w3 := hb
  have z2 := b2.size
  replace H_aC_l := H_aC_l.below b2 (by omega)
  replace H_aL_s := H_aL_s.below b2 (by omega)
  replace X_aC := box_keep X_aC b2 (by omega)
  replace Y_aC : w.heap.size < w3.heap.size := by omega
  replace hB := hB.trans (b2.mono hB.size)
  clear hb b2
  obtain ⟨A_n2l, k_n2l, rfl, -, -⟩ := (H_n2l.rdR).form
  go_wp2_with fail
  refine (toValS_c aL aL_s _ (H_aL_s) (by omega) T_aL).mono ?_
  rintro e w4 ⟨n3, rfl, H_n3, hb⟩
  have b3 : Below w3.heap.size w3 w4 := hb
  have z3 := b3.size
  replace H_aC_l := H_aC_l.below b3 (by omega)
  replace H_aL_s := H_aL_s.below b3 (by omega)
  replace H_n2l := H_n2l.below b3 (by omega)
  replace X_aC := box_keep X_aC b3 (by omega)
  replace Y_aC : w.heap.size < w4.heap.size := by omega
  replace hB := hB.trans (b3.mono hB.size)
  clear hb b3
  go_wp2_with fail
  refine (spec_Write aC (.slice A_n2l (aC.l).length k_n2l) aI aL n3 _ (H_n2l.rdR) (by omega) (H_n3.rdV) (by omega)  ⟨T_aC.1, T_aC.2.2⟩ T_aL).mono ?_
  rintro e w5 ⟨n4lq, rfl, H_n4lq, hb⟩
  have b4 : Below w4.heap.size w4 w5 := hb
  have z4 := b4.size
  replace H_aC_l := H_aC_l.below b4 (by omega)
  replace H_aL_s := H_aL_s.below b4 (by omega)
  replace H_n2l := H_n2l.below b4 (by omega)
  replace H_n3 := H_n3.below b4 (by omega)
  replace X_aC := box_keep X_aC b4 (by omega)
  replace Y_aC : w.heap.size < w5.heap.size := by omega
  replace hB := hB.trans (b4.mono hB.size)
  clear hb b4
  obtain ⟨A_n4lq, k_n4lq, rfl, -, -⟩ := (H_n4lq.rdR).form
  go_wp2_with fail
  refine (toChunk_c aC aC_l _ (RdR.below (H_aC_l) (up_a1 w5 _ ) (by omega)) (by simp only [World.size_alloc]; omega) T_aC).mono ?_
  rintro e w6 ⟨n5l, rfl, H_n5l, hb⟩
  replace H_n5l := H_n5l.more (lo' := w5.heap.size + 1) (by simp <;> omega) (Nat.le_refl _)
  have b5 : Below w5.heap.size w5 w6 := below_a1 hb
  have z5 : w5.heap.size + 1 ≤ w6.heap.size := by have h := hb.size; simpa [Nat.add_assoc] using h
  replace H_aC_l := H_aC_l.below b5 (by omega)
  replace H_aL_s := H_aL_s.below b5 (by omega)
  replace H_n2l := H_n2l.below b5 (by omega)
  replace H_n3 := H_n3.below b5 (by omega)
  replace H_n4lq := H_n4lq.below b5 (by omega)
  replace X_aC := box_keep X_aC b5 (by omega)
  replace Y_aC : w.heap.size < w6.heap.size := by omega
  have X_w0 : ∀ o, w6.cell? ⟨w5.heap.size, o, none⟩ = (#[.int .i64 (wrote aC aI aL).next, (.slice A_n4lq ((wrote aC aI aL).l).length k_n4lq)] : Array Value)[o]? := by
    intro o
    have h := box_new w5 #[.int .i64 (wrote aC aI aL).next, (.slice A_n4lq ((wrote aC aI aL).l).length k_n4lq)] 60 o
    replace h := (hb.cell (p := ⟨_, o, none⟩) (by simp <;> omega)).trans h
    simpa [Nat.add_assoc] using h
  have Y_w0 : w5.heap.size < w6.heap.size := by omega
  replace hB := hB.trans (b5.mono hB.size)
  clear hb b5
  obtain ⟨A_n5l, k_n5l, rfl, -, -⟩ := (H_n5l.rdR).form
  go_wp2_with fail
  refine (toValS_c aL aL_s _ (RdV.below (H_aL_s) (up_a1 w6 _ ) (by omega)) (by simp only [World.size_alloc]; omega) T_aL).mono ?_
  rintro e w7 ⟨n6, rfl, H_n6, hb⟩
  replace H_n6 := H_n6.more (lo' := w6.heap.size + 1) (by simp <;> omega) (Nat.le_refl _)
  have b6 : Below w6.heap.size w6 w7 := below_a1 hb
  have z6 : w6.heap.size + 1 ≤ w7.heap.size := by have h := hb.size; simpa [Nat.add_assoc] using h
  replace H_aC_l := H_aC_l.below b6 (by omega)
  replace H_aL_s := H_aL_s.below b6 (by omega)
  replace H_n2l := H_n2l.below b6 (by omega)
  replace H_n3 := H_n3.below b6 (by omega)
  replace H_n4lq := H_n4lq.below b6 (by omega)
  replace H_n5l := H_n5l.below b6 (by omega)
  replace X_aC := box_keep X_aC b6 (by omega)
  replace Y_aC : w.heap.size < w7.heap.size := by omega
  replace X_w0 := box_keep X_w0 b6 (by omega)
  replace Y_w0 : w5.heap.size < w7.heap.size := by omega
  have X_x0 : ∀ o, w7.cell? ⟨w6.heap.size, o, none⟩ = (#[.int .i64 aC.next, (.slice A_n5l (aC.l).length k_n5l)] : Array Value)[o]? := by
    intro o
    have h := box_new w6 #[.int .i64 aC.next, (.slice A_n5l (aC.l).length k_n5l)] 60 o
    replace h := (hb.cell (p := ⟨_, o, none⟩) (by simp <;> omega)).trans h
    simpa [Nat.add_assoc] using h
  have Y_x0 : w6.heap.size < w7.heap.size := by omega
  replace hB := hB.trans (b6.mono hB.size)
  clear hb b6
  go_wp2_with fail
  refine (impl_Write aC (.slice A_n5l (aC.l).length k_n5l) aI aL n6 _ (H_n5l.rdR) (by omega) (H_n6.rdV) (by omega)  ⟨T_aC.1, T_aC.2.2⟩ T_aL).mono ?_
  rintro e w8 ⟨n7lq, rfl, H_n7lq, hb⟩
  have b7 : Below w7.heap.size w7 w8 := hb
  have z7 := b7.size
  replace H_aC_l := H_aC_l.below b7 (by omega)
  replace H_aL_s := H_aL_s.below b7 (by omega)
  replace H_n2l := H_n2l.below b7 (by omega)
  replace H_n3 := H_n3.below b7 (by omega)
  replace H_n4lq := H_n4lq.below b7 (by omega)
  replace H_n5l := H_n5l.below b7 (by omega)
  replace H_n6 := H_n6.below b7 (by omega)
  replace X_aC := box_keep X_aC b7 (by omega)
  replace Y_aC : w.heap.size < w8.heap.size := by omega
  replace X_w0 := box_keep X_w0 b7 (by omega)
  replace Y_w0 : w5.heap.size < w8.heap.size := by omega
  replace X_x0 := box_keep X_x0 b7 (by omega)
  replace Y_x0 : w6.heap.size < w8.heap.size := by omega
  replace hB := hB.trans (b7.mono hB.size)
  clear hb b7
  obtain ⟨A_n7lq, k_n7lq, rfl, -, -⟩ := (H_n7lq.rdR).form
  go_wp2_with fail
  refine (eqChunk_c ((wrote aC aI aL)) (.slice A_n7lq ((wrote aC aI aL).l).length k_n7lq) ((wrote aC aI aL)) (.slice A_n4lq ((wrote aC aI aL).l).length k_n4lq) _ (RdR.below (H_n7lq.rdR) (up_a1 w8 _ ) (by omega)) (by simp only [World.size_alloc]; omega) (RdR.below (H_n4lq.rdR) (up_a1 w8 _ ) (by omega)) (by simp only [World.size_alloc]; omega)).mono ?_
  rintro e w9 ⟨rfl, hb⟩
  have b8 : Below w8.heap.size w8 w9 := below_a1 hb
  have z8 : w8.heap.size + 1 ≤ w9.heap.size := by have h := hb.size; simpa [Nat.add_assoc] using h
  replace H_aC_l := H_aC_l.below b8 (by omega)
  replace H_aL_s := H_aL_s.below b8 (by omega)
  replace H_n2l := H_n2l.below b8 (by omega)
  replace H_n3 := H_n3.below b8 (by omega)
  replace H_n4lq := H_n4lq.below b8 (by omega)
  replace H_n5l := H_n5l.below b8 (by omega)
  replace H_n6 := H_n6.below b8 (by omega)
  replace H_n7lq := H_n7lq.below b8 (by omega)
  replace X_aC := box_keep X_aC b8 (by omega)
  replace Y_aC : w.heap.size < w9.heap.size := by omega
  replace X_w0 := box_keep X_w0 b8 (by omega)
  replace Y_w0 : w5.heap.size < w9.heap.size := by omega
  replace X_x0 := box_keep X_x0 b8 (by omega)
  replace Y_x0 : w6.heap.size < w9.heap.size := by omega
  have X_g0 : ∀ o, w9.cell? ⟨w8.heap.size, o, none⟩ = (#[.int .i64 (wrote aC aI aL).next, (.slice A_n7lq ((wrote aC aI aL).l).length k_n7lq)] : Array Value)[o]? := by
    intro o
    have h := box_new w8 #[.int .i64 (wrote aC aI aL).next, (.slice A_n7lq ((wrote aC aI aL).l).length k_n7lq)] 60 o
    replace h := (hb.cell (p := ⟨_, o, none⟩) (by simp <;> omega)).trans h
    simpa [Nat.add_assoc] using h
  have Y_g0 : w8.heap.size < w9.heap.size := by omega
  replace hB := hB.trans (b8.mono hB.size)
  clear hb b8
  try simp only [eqd_self]
  have kS : ∀ A A' : World, (A.cell? ⟨w.heap.size, 0, none⟩ = some (.int .i64 aC.next) ∧ A.cell? ⟨w.heap.size, 1, none⟩ = some (aC_l) ∧ A.cell? ⟨w6.heap.size, 0, none⟩ = some (.int .i64 aC.next) ∧ A.cell? ⟨w6.heap.size, 1, none⟩ = some ((.slice A_n5l (aC.l).length k_n5l)) ∧ Below w9.heap.size w9 A) → Below A.heap.size A A' → (A'.cell? ⟨w.heap.size, 0, none⟩ = some (.int .i64 aC.next) ∧ A'.cell? ⟨w.heap.size, 1, none⟩ = some (aC_l) ∧ A'.cell? ⟨w6.heap.size, 0, none⟩ = some (.int .i64 aC.next) ∧ A'.cell? ⟨w6.heap.size, 1, none⟩ = some ((.slice A_n5l (aC.l).length k_n5l)) ∧ Below w9.heap.size w9 A') := by
    intro A A' h hb
    obtain ⟨h0, h1, h2, h3, hq⟩ := h
    have hs := hq.size
    exact ⟨(hb.cell (p := ⟨w.heap.size, 0, none⟩) (show w.heap.size < _ by omega)).trans h0, (hb.cell (p := ⟨w.heap.size, 1, none⟩) (show w.heap.size < _ by omega)).trans h1, (hb.cell (p := ⟨w6.heap.size, 0, none⟩) (show w6.heap.size < _ by omega)).trans h2, (hb.cell (p := ⟨w6.heap.size, 1, none⟩) (show w6.heap.size < _ by omega)).trans h3, hq.trans (hb.mono hs)⟩
  have toB : ∀ A : World, (A.cell? ⟨w.heap.size, 0, none⟩ = some (.int .i64 aC.next) ∧ A.cell? ⟨w.heap.size, 1, none⟩ = some (aC_l) ∧ A.cell? ⟨w6.heap.size, 0, none⟩ = some (.int .i64 aC.next) ∧ A.cell? ⟨w6.heap.size, 1, none⟩ = some ((.slice A_n5l (aC.l).length k_n5l)) ∧ Below w9.heap.size w9 A) → Below w9.heap.size w9 A := fun A h => h.2.2.2.2
  have HkS := Lib.hid kS
  have HtoB := Lib.hid toB
  clear kS toB
  go_wp2_with fail
  have hX_aC := Lib.hid X_aC
  have hX_w0 := Lib.hid X_w0
  have hX_x0 := Lib.hid X_x0
  have hX_g0 := Lib.hid X_g0
  clear X_aC X_w0 X_x0 X_g0
  go_region_held3 (fun w' => w'.cell? ⟨w.heap.size, 0, none⟩ = some (.int .i64 aC.next) ∧ w'.cell? ⟨w.heap.size, 1, none⟩ = some (aC_l) ∧ w'.cell? ⟨w6.heap.size, 0, none⟩ = some (.int .i64 aC.next) ∧ w'.cell? ⟨w6.heap.size, 1, none⟩ = some ((.slice A_n5l (aC.l).length k_n5l)) ∧ Below w9.heap.size w9 w') (first | exact ⟨hX_aC.out 0, hX_aC.out 1, hX_x0.out 0, hX_x0.out 1, (Below.refl _ _).drew⟩ | (refine HkS.out _ _ ?_ hq1; assumption) | (refine HkS.out _ _ ?_ hq2; assumption)) (first
    | (go_at_call 34; ((with_reducible refine (toChunk_c aC aC_l _ ((H_aC_l).below (HtoB.out _ (by assumption)) (by omega)) (by have h := (HtoB.out _ (by assumption)).size; omega) T_aC).mono ?_); rintro e w10 ⟨r90l, rfl, H_r90l, hq1⟩; obtain ⟨A_r90l, k_r90l, rfl, -, -⟩ := (H_r90l.rdR).form))
    | (go_at_call 36; ((with_reducible refine (eqChunk_c aC (.slice A_n5l (aC.l).length k_n5l) aC (.slice A_r90l (aC.l).length k_r90l) _ ((H_n5l.rdR).below (HtoB.out _ (by assumption)) (by omega)) (by have h := (HtoB.out _ (by assumption)).size; omega) (H_r90l.rdR) (by first | exact Nat.le_refl _ | (omega))).mono ?_); rintro e w11 ⟨rfl, hq2⟩)))
  clear HkS HtoB
  have X_aC := hX_aC.out
  have X_w0 := hX_w0.out
  have X_x0 := hX_x0.out
  have X_g0 := hX_g0.out
  clear hX_aC hX_w0 hX_x0 hX_g0
  replace hq1 := Below.undrew hq1
  replace H_r90l := H_r90l.more (lo' := w9.heap.size) (Nat.le_refl _) (Nat.le_refl _)
  have b9 : Below w9.heap.size w9 w10 := hq1
  have z9 := b9.size
  replace H_aC_l := H_aC_l.below b9 (by omega)
  replace H_aL_s := H_aL_s.below b9 (by omega)
  replace H_n2l := H_n2l.below b9 (by omega)
  replace H_n3 := H_n3.below b9 (by omega)
  replace H_n4lq := H_n4lq.below b9 (by omega)
  replace H_n5l := H_n5l.below b9 (by omega)
  replace H_n6 := H_n6.below b9 (by omega)
  replace H_n7lq := H_n7lq.below b9 (by omega)
  replace X_aC := box_keep X_aC b9 (by omega)
  replace Y_aC : w.heap.size < w10.heap.size := by omega
  replace X_w0 := box_keep X_w0 b9 (by omega)
  replace Y_w0 : w5.heap.size < w10.heap.size := by omega
  replace X_x0 := box_keep X_x0 b9 (by omega)
  replace Y_x0 : w6.heap.size < w10.heap.size := by omega
  replace X_g0 := box_keep X_g0 b9 (by omega)
  replace Y_g0 : w8.heap.size < w10.heap.size := by omega
  replace hB := hB.trans (b9.mono hB.size)
  clear hq1 b9
  have b10 : Below w10.heap.size w10 w11 := hq2
  have z10 := b10.size
  replace H_aC_l := H_aC_l.below b10 (by omega)
  replace H_aL_s := H_aL_s.below b10 (by omega)
  replace H_n2l := H_n2l.below b10 (by omega)
  replace H_n3 := H_n3.below b10 (by omega)
  replace H_n4lq := H_n4lq.below b10 (by omega)
  replace H_n5l := H_n5l.below b10 (by omega)
  replace H_n6 := H_n6.below b10 (by omega)
  replace H_n7lq := H_n7lq.below b10 (by omega)
  replace H_r90l := H_r90l.below b10 (by omega)
  replace X_aC := box_keep X_aC b10 (by omega)
  replace Y_aC : w.heap.size < w11.heap.size := by omega
  replace X_w0 := box_keep X_w0 b10 (by omega)
  replace Y_w0 : w5.heap.size < w11.heap.size := by omega
  replace X_x0 := box_keep X_x0 b10 (by omega)
  replace Y_x0 : w6.heap.size < w11.heap.size := by omega
  replace X_g0 := box_keep X_g0 b10 (by omega)
  replace Y_g0 : w8.heap.size < w11.heap.size := by omega
  replace hB := hB.trans (b10.mono hB.size)
  clear hq2 b10
  try simp only [eqd_self]
  go_wp2_with fail
  refine (toValS_c aL aL_s _ (H_aL_s) (by omega) T_aL).mono ?_
  rintro e w12 ⟨n11, rfl, H_n11, hb⟩
  have b11 : Below w11.heap.size w11 w12 := hb
  have z11 := b11.size
  replace H_aC_l := H_aC_l.below b11 (by omega)
  replace H_aL_s := H_aL_s.below b11 (by omega)
  replace H_n2l := H_n2l.below b11 (by omega)
  replace H_n3 := H_n3.below b11 (by omega)
  replace H_n4lq := H_n4lq.below b11 (by omega)
  replace H_n5l := H_n5l.below b11 (by omega)
  replace H_n6 := H_n6.below b11 (by omega)
  replace H_n7lq := H_n7lq.below b11 (by omega)
  replace H_r90l := H_r90l.below b11 (by omega)
  replace X_aC := box_keep X_aC b11 (by omega)
  replace Y_aC : w.heap.size < w12.heap.size := by omega
  replace X_w0 := box_keep X_w0 b11 (by omega)
  replace Y_w0 : w5.heap.size < w12.heap.size := by omega
  replace X_x0 := box_keep X_x0 b11 (by omega)
  replace Y_x0 : w6.heap.size < w12.heap.size := by omega
  replace X_g0 := box_keep X_g0 b11 (by omega)
  replace Y_g0 : w8.heap.size < w12.heap.size := by omega
  replace hB := hB.trans (b11.mono hB.size)
  clear hb b11
  go_wp2_with fail
  refine (eqValS_c aL n6 aL n11 _ (H_n6.rdV) (by omega) (H_n11.rdV) (by omega)).mono ?_
  rintro e w13 ⟨rfl, hb⟩
  have b12 : Below w12.heap.size w12 w13 := hb
  have z12 := b12.size
  replace H_aC_l := H_aC_l.below b12 (by omega)
  replace H_aL_s := H_aL_s.below b12 (by omega)
  replace H_n2l := H_n2l.below b12 (by omega)
  replace H_n3 := H_n3.below b12 (by omega)
  replace H_n4lq := H_n4lq.below b12 (by omega)
  replace H_n5l := H_n5l.below b12 (by omega)
  replace H_n6 := H_n6.below b12 (by omega)
  replace H_n7lq := H_n7lq.below b12 (by omega)
  replace H_r90l := H_r90l.below b12 (by omega)
  replace H_n11 := H_n11.below b12 (by omega)
  replace X_aC := box_keep X_aC b12 (by omega)
  replace Y_aC : w.heap.size < w13.heap.size := by omega
  replace X_w0 := box_keep X_w0 b12 (by omega)
  replace Y_w0 : w5.heap.size < w13.heap.size := by omega
  replace X_x0 := box_keep X_x0 b12 (by omega)
  replace Y_x0 : w6.heap.size < w13.heap.size := by omega
  replace X_g0 := box_keep X_g0 b12 (by omega)
  replace Y_g0 : w8.heap.size < w13.heap.size := by omega
  replace hB := hB.trans (b12.mono hB.size)
  clear hb b12
  try simp only [eqd_self]
  go_wp2_with fail
  refine (markChunk_c aC (.slice A_n5l (aC.l).length k_n5l) 1 _ H_n5l (by omega) (by omega) (by omega)).mono ?_
  rintro e w14 ⟨rfl, H_n5lm, hb⟩
  clear H_n5l
  have z13 := hb.size
  replace H_aC_l := H_aC_l.same (.of_chg hb (by omega) (by omega))
  replace H_aL_s := H_aL_s.same (.of_chg hb (by omega) (by omega))
  replace H_n2l := H_n2l.same (.of_chg hb (by omega) (by omega))
  replace H_n3 := H_n3.same (.of_chg hb (by omega) (by omega))
  replace H_n4lq := H_n4lq.same (.of_chg hb (by omega) (by omega))
  replace H_n6 := H_n6.same (.of_chg hb (by omega) (by omega))
  replace H_n7lq := H_n7lq.same (.of_chg hb (by omega) (by omega))
  replace H_r90l := H_r90l.same (.of_chg hb (by omega) (by omega))
  replace H_n11 := H_n11.same (.of_chg hb (by omega) (by omega))
  replace X_aC := box_chg X_aC hb (by omega) (by omega)
  replace Y_aC : w.heap.size < w14.heap.size := by omega
  replace X_w0 := box_chg X_w0 hb (by omega) (by omega)
  replace Y_w0 : w5.heap.size < w14.heap.size := by omega
  replace X_x0 := box_chg X_x0 hb (by omega) (by omega)
  replace Y_x0 : w6.heap.size < w14.heap.size := by omega
  replace X_g0 := box_chg X_g0 hb (by omega) (by omega)
  replace Y_g0 : w8.heap.size < w14.heap.size := by omega
  replace hB := hB.trans (hb.below (by omega) (by omega))
  clear hb
  have H_n5l := H_n5lm
  clear H_n5lm
  go_wp2_with fail
  refine (markValS_c n6 aL (1 + (cntR (aC).l : Nat)) _ H_n6 (by omega) (by omega)).mono ?_
  rintro e w15 ⟨rfl, H_n6m, hb⟩
  clear H_n6
  have z14 := hb.size
  replace H_aC_l := H_aC_l.same (.of_chg hb (by omega) (by omega))
  replace H_aL_s := H_aL_s.same (.of_chg hb (by omega) (by omega))
  replace H_n2l := H_n2l.same (.of_chg hb (by omega) (by omega))
  replace H_n3 := H_n3.same (.of_chg hb (by omega) (by omega))
  replace H_n4lq := H_n4lq.same (.of_chg hb (by omega) (by omega))
  replace H_n5l := H_n5l.same (.of_chg hb (by omega) (by omega))
  replace H_n7lq := H_n7lq.same (.of_chg hb (by omega) (by omega))
  replace H_r90l := H_r90l.same (.of_chg hb (by omega) (by omega))
  replace H_n11 := H_n11.same (.of_chg hb (by omega) (by omega))
  replace X_aC := box_chg X_aC hb (by omega) (by omega)
  replace Y_aC : w.heap.size < w15.heap.size := by omega
  replace X_w0 := box_chg X_w0 hb (by omega) (by omega)
  replace Y_w0 : w5.heap.size < w15.heap.size := by omega
  replace X_x0 := box_chg X_x0 hb (by omega) (by omega)
  replace Y_x0 : w6.heap.size < w15.heap.size := by omega
  replace X_g0 := box_chg X_g0 hb (by omega) (by omega)
  replace Y_g0 : w8.heap.size < w15.heap.size := by omega
  replace hB := hB.trans (hb.below (by omega) (by omega))
  clear hb
  have H_n6 := H_n6m
  clear H_n6m
  go_wp2_with fail
  refine (eqChunk_c ((wrote aC aI aL)) (.slice A_n7lq ((wrote aC aI aL).l).length k_n7lq) ((wrote aC aI aL)) (.slice A_n4lq ((wrote aC aI aL).l).length k_n4lq) _ (H_n7lq.rdR) (by omega) (H_n4lq.rdR) (by omega)).mono ?_
  rintro e w16 ⟨rfl, hb⟩
  have b15 : Below w15.heap.size w15 w16 := hb
  have z15 := b15.size
  replace H_aC_l := H_aC_l.below b15 (by omega)
  replace H_aL_s := H_aL_s.below b15 (by omega)
  replace H_n2l := H_n2l.below b15 (by omega)
  replace H_n3 := H_n3.below b15 (by omega)
  replace H_n4lq := H_n4lq.below b15 (by omega)
  replace H_n5l := H_n5l.below b15 (by omega)
  replace H_n6 := H_n6.below b15 (by omega)
  replace H_n7lq := H_n7lq.below b15 (by omega)
  replace H_r90l := H_r90l.below b15 (by omega)
  replace H_n11 := H_n11.below b15 (by omega)
  replace X_aC := box_keep X_aC b15 (by omega)
  replace Y_aC : w.heap.size < w16.heap.size := by omega
  replace X_w0 := box_keep X_w0 b15 (by omega)
  replace Y_w0 : w5.heap.size < w16.heap.size := by omega
  replace X_x0 := box_keep X_x0 b15 (by omega)
  replace Y_x0 : w6.heap.size < w16.heap.size := by omega
  replace X_g0 := box_keep X_g0 b15 (by omega)
  replace Y_g0 : w8.heap.size < w16.heap.size := by omega
  replace hB := hB.trans (b15.mono hB.size)
  clear hb b15
  try simp only [eqd_self]
  go_wp2_with fail
  refine (markChunk_c ((wrote aC aI aL)) (.slice A_n7lq ((wrote aC aI aL).l).length k_n7lq) 1 _ H_n7lq (by omega) (by omega) (by omega)).mono ?_
  rintro e w17 ⟨rfl, H_n7lqm, hb⟩
  clear H_n7lq
  have z16 := hb.size
  replace H_aC_l := H_aC_l.same (.of_chg hb (by omega) (by omega))
  replace H_aL_s := H_aL_s.same (.of_chg hb (by omega) (by omega))
  replace H_n2l := H_n2l.same (.of_chg hb (by omega) (by omega))
  replace H_n3 := H_n3.same (.of_chg hb (by omega) (by omega))
  replace H_n4lq := H_n4lq.same (.of_chg hb (by omega) (by omega))
  replace H_n5l := H_n5l.same (.of_chg hb (by omega) (by omega))
  replace H_n6 := H_n6.same (.of_chg hb (by omega) (by omega))
  replace H_r90l := H_r90l.same (.of_chg hb (by omega) (by omega))
  replace H_n11 := H_n11.same (.of_chg hb (by omega) (by omega))
  replace X_aC := box_chg X_aC hb (by omega) (by omega)
  replace Y_aC : w.heap.size < w17.heap.size := by omega
  replace X_w0 := box_chg X_w0 hb (by omega) (by omega)
  replace Y_w0 : w5.heap.size < w17.heap.size := by omega
  replace X_x0 := box_chg X_x0 hb (by omega) (by omega)
  replace Y_x0 : w6.heap.size < w17.heap.size := by omega
  replace X_g0 := box_chg X_g0 hb (by omega) (by omega)
  replace Y_g0 : w8.heap.size < w17.heap.size := by omega
  replace hB := hB.trans (hb.below (by omega) (by omega))
  clear hb
  have H_n7lq := H_n7lqm
  clear H_n7lqm
  go_wp2_with fail
  refine (heldChunk_c ((wrote aC aI aL)) (.slice A_n7lq ((wrote aC aI aL).l).length k_n7lq) 1 _ H_n7lq (by omega) (by omega) (by omega)).mono ?_
  rintro e w18 ⟨rfl, hb⟩
  have b17 : Below w17.heap.size w17 w18 := hb
  have z17 := b17.size
  replace H_aC_l := H_aC_l.below b17 (by omega)
  replace H_aL_s := H_aL_s.below b17 (by omega)
  replace H_n2l := H_n2l.below b17 (by omega)
  replace H_n3 := H_n3.below b17 (by omega)
  replace H_n4lq := H_n4lq.below b17 (by omega)
  replace H_n5l := H_n5l.below b17 (by omega)
  replace H_n6 := H_n6.below b17 (by omega)
  replace H_n7lq := H_n7lq.below b17 (by omega)
  replace H_r90l := H_r90l.below b17 (by omega)
  replace H_n11 := H_n11.below b17 (by omega)
  replace X_aC := box_keep X_aC b17 (by omega)
  replace Y_aC : w.heap.size < w18.heap.size := by omega
  replace X_w0 := box_keep X_w0 b17 (by omega)
  replace Y_w0 : w5.heap.size < w18.heap.size := by omega
  replace X_x0 := box_keep X_x0 b17 (by omega)
  replace Y_x0 : w6.heap.size < w18.heap.size := by omega
  replace X_g0 := box_keep X_g0 b17 (by omega)
  replace Y_g0 : w8.heap.size < w18.heap.size := by omega
  replace hB := hB.trans (b17.mono hB.size)
  clear hb b17
  go_wp2_with fail
  refine (toChunk_c aC aC_l _ (H_aC_l) (by omega) T_aC).mono ?_
  rintro e w19 ⟨n18l, rfl, H_n18l, hb⟩
  have b18 : Below w18.heap.size w18 w19 := hb
  have z18 := b18.size
  replace H_aC_l := H_aC_l.below b18 (by omega)
  replace H_aL_s := H_aL_s.below b18 (by omega)
  replace H_n2l := H_n2l.below b18 (by omega)
  replace H_n3 := H_n3.below b18 (by omega)
  replace H_n4lq := H_n4lq.below b18 (by omega)
  replace H_n5l := H_n5l.below b18 (by omega)
  replace H_n6 := H_n6.below b18 (by omega)
  replace H_n7lq := H_n7lq.below b18 (by omega)
  replace H_r90l := H_r90l.below b18 (by omega)
  replace H_n11 := H_n11.below b18 (by omega)
  replace X_aC := box_keep X_aC b18 (by omega)
  replace Y_aC : w.heap.size < w19.heap.size := by omega
  replace X_w0 := box_keep X_w0 b18 (by omega)
  replace Y_w0 : w5.heap.size < w19.heap.size := by omega
  replace X_x0 := box_keep X_x0 b18 (by omega)
  replace Y_x0 : w6.heap.size < w19.heap.size := by omega
  replace X_g0 := box_keep X_g0 b18 (by omega)
  replace Y_g0 : w8.heap.size < w19.heap.size := by omega
  replace hB := hB.trans (b18.mono hB.size)
  clear hb b18
  obtain ⟨A_n18l, k_n18l, rfl, -, -⟩ := (H_n18l.rdR).form
  go_wp2_with fail
  refine (toValS_c aL aL_s _ (H_aL_s) (by omega) T_aL).mono ?_
  rintro e w20 ⟨n19, rfl, H_n19, hb⟩
  have b19 : Below w19.heap.size w19 w20 := hb
  have z19 := b19.size
  replace H_aC_l := H_aC_l.below b19 (by omega)
  replace H_aL_s := H_aL_s.below b19 (by omega)
  replace H_n2l := H_n2l.below b19 (by omega)
  replace H_n3 := H_n3.below b19 (by omega)
  replace H_n4lq := H_n4lq.below b19 (by omega)
  replace H_n5l := H_n5l.below b19 (by omega)
  replace H_n6 := H_n6.below b19 (by omega)
  replace H_n7lq := H_n7lq.below b19 (by omega)
  replace H_r90l := H_r90l.below b19 (by omega)
  replace H_n11 := H_n11.below b19 (by omega)
  replace H_n18l := H_n18l.below b19 (by omega)
  replace X_aC := box_keep X_aC b19 (by omega)
  replace Y_aC : w.heap.size < w20.heap.size := by omega
  replace X_w0 := box_keep X_w0 b19 (by omega)
  replace Y_w0 : w5.heap.size < w20.heap.size := by omega
  replace X_x0 := box_keep X_x0 b19 (by omega)
  replace Y_x0 : w6.heap.size < w20.heap.size := by omega
  replace X_g0 := box_keep X_g0 b19 (by omega)
  replace Y_g0 : w8.heap.size < w20.heap.size := by omega
  replace hB := hB.trans (b19.mono hB.size)
  clear hb b19
  go_wp2_with fail
  refine (impl_Write aC (.slice A_n18l (aC.l).length k_n18l) aI aL n19 _ (H_n18l.rdR) (by omega) (H_n19.rdV) (by omega)  ⟨T_aC.1, T_aC.2.2⟩ T_aL).mono ?_
  rintro e w21 ⟨n20lq, rfl, H_n20lq, hb⟩
  have b20 : Below w20.heap.size w20 w21 := hb
  have z20 := b20.size
  replace H_aC_l := H_aC_l.below b20 (by omega)
  replace H_aL_s := H_aL_s.below b20 (by omega)
  replace H_n2l := H_n2l.below b20 (by omega)
  replace H_n3 := H_n3.below b20 (by omega)
  replace H_n4lq := H_n4lq.below b20 (by omega)
  replace H_n5l := H_n5l.below b20 (by omega)
  replace H_n6 := H_n6.below b20 (by omega)
  replace H_n7lq := H_n7lq.below b20 (by omega)
  replace H_r90l := H_r90l.below b20 (by omega)
  replace H_n11 := H_n11.below b20 (by omega)
  replace H_n18l := H_n18l.below b20 (by omega)
  replace H_n19 := H_n19.below b20 (by omega)
  replace X_aC := box_keep X_aC b20 (by omega)
  replace Y_aC : w.heap.size < w21.heap.size := by omega
  replace X_w0 := box_keep X_w0 b20 (by omega)
  replace Y_w0 : w5.heap.size < w21.heap.size := by omega
  replace X_x0 := box_keep X_x0 b20 (by omega)
  replace Y_x0 : w6.heap.size < w21.heap.size := by omega
  replace X_g0 := box_keep X_g0 b20 (by omega)
  replace Y_g0 : w8.heap.size < w21.heap.size := by omega
  replace hB := hB.trans (b20.mono hB.size)
  clear hb b20
  obtain ⟨A_n20lq, k_n20lq, rfl, -, -⟩ := (H_n20lq.rdR).form
  go_wp2_with fail
  refine (eqChunk_c ((wrote aC aI aL)) (.slice A_n20lq ((wrote aC aI aL).l).length k_n20lq) ((wrote aC aI aL)) (.slice A_n4lq ((wrote aC aI aL).l).length k_n4lq) _ (RdR.below (H_n20lq.rdR) (up_a1 w21 _ ) (by omega)) (by simp only [World.size_alloc]; omega) (RdR.below (H_n4lq.rdR) (up_a1 w21 _ ) (by omega)) (by simp only [World.size_alloc]; omega)).mono ?_
  rintro e w22 ⟨rfl, hb⟩
  have b21 : Below w21.heap.size w21 w22 := below_a1 hb
  have z21 : w21.heap.size + 1 ≤ w22.heap.size := by have h := hb.size; simpa [Nat.add_assoc] using h
  replace H_aC_l := H_aC_l.below b21 (by omega)
  replace H_aL_s := H_aL_s.below b21 (by omega)
  replace H_n2l := H_n2l.below b21 (by omega)
  replace H_n3 := H_n3.below b21 (by omega)
  replace H_n4lq := H_n4lq.below b21 (by omega)
  replace H_n5l := H_n5l.below b21 (by omega)
  replace H_n6 := H_n6.below b21 (by omega)
  replace H_n7lq := H_n7lq.below b21 (by omega)
  replace H_r90l := H_r90l.below b21 (by omega)
  replace H_n11 := H_n11.below b21 (by omega)
  replace H_n18l := H_n18l.below b21 (by omega)
  replace H_n19 := H_n19.below b21 (by omega)
  replace H_n20lq := H_n20lq.below b21 (by omega)
  replace X_aC := box_keep X_aC b21 (by omega)
  replace Y_aC : w.heap.size < w22.heap.size := by omega
  replace X_w0 := box_keep X_w0 b21 (by omega)
  replace Y_w0 : w5.heap.size < w22.heap.size := by omega
  replace X_x0 := box_keep X_x0 b21 (by omega)
  replace Y_x0 : w6.heap.size < w22.heap.size := by omega
  replace X_g0 := box_keep X_g0 b21 (by omega)
  replace Y_g0 : w8.heap.size < w22.heap.size := by omega
  have X_h0 : ∀ o, w22.cell? ⟨w21.heap.size, o, none⟩ = (#[.int .i64 (wrote aC aI aL).next, (.slice A_n20lq ((wrote aC aI aL).l).length k_n20lq)] : Array Value)[o]? := by
    intro o
    have h := box_new w21 #[.int .i64 (wrote aC aI aL).next, (.slice A_n20lq ((wrote aC aI aL).l).length k_n20lq)] 60 o
    replace h := (hb.cell (p := ⟨_, o, none⟩) (by simp <;> omega)).trans h
    simpa [Nat.add_assoc] using h
  have Y_h0 : w21.heap.size < w22.heap.size := by omega
  replace hB := hB.trans (b21.mono hB.size)
  clear hb b21
  try simp only [eqd_self]
  go_wp2_with fail
  refine (heldChunk_c ((wrote aC aI aL)) (.slice A_n7lq ((wrote aC aI aL).l).length k_n7lq) 1 _ H_n7lq (by omega) (by omega) (by omega)).mono ?_
  rintro e w23 ⟨rfl, hb⟩
  have b22 : Below w22.heap.size w22 w23 := hb
  have z22 := b22.size
  replace H_aC_l := H_aC_l.below b22 (by omega)
  replace H_aL_s := H_aL_s.below b22 (by omega)
  replace H_n2l := H_n2l.below b22 (by omega)
  replace H_n3 := H_n3.below b22 (by omega)
  replace H_n4lq := H_n4lq.below b22 (by omega)
  replace H_n5l := H_n5l.below b22 (by omega)
  replace H_n6 := H_n6.below b22 (by omega)
  replace H_n7lq := H_n7lq.below b22 (by omega)
  replace H_r90l := H_r90l.below b22 (by omega)
  replace H_n11 := H_n11.below b22 (by omega)
  replace H_n18l := H_n18l.below b22 (by omega)
  replace H_n19 := H_n19.below b22 (by omega)
  replace H_n20lq := H_n20lq.below b22 (by omega)
  replace X_aC := box_keep X_aC b22 (by omega)
  replace Y_aC : w.heap.size < w23.heap.size := by omega
  replace X_w0 := box_keep X_w0 b22 (by omega)
  replace Y_w0 : w5.heap.size < w23.heap.size := by omega
  replace X_x0 := box_keep X_x0 b22 (by omega)
  replace Y_x0 : w6.heap.size < w23.heap.size := by omega
  replace X_g0 := box_keep X_g0 b22 (by omega)
  replace Y_g0 : w8.heap.size < w23.heap.size := by omega
  replace X_h0 := box_keep X_h0 b22 (by omega)
  replace Y_h0 : w21.heap.size < w23.heap.size := by omega
  replace hB := hB.trans (b22.mono hB.size)
  clear hb b22
  go_wp2_with fail
  go_ret
  exact ⟨rfl, hB⟩

end Go.Proofs.Ytgjjkodlmhmjgaa
