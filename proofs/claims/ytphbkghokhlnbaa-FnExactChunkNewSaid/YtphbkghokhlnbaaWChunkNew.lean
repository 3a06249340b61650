/- The law FnExactChunkNew: its walk, out of the contracts of what it calls. -/
import Derived.Test.YtphbkghokhlnbaaS22
import Derived.Test.YtphbkghokhlnbaaLC
namespace Go.Proofs.Ytphbkghokhlnbaa
open Go.ChangeShapes Go.WideShapes Go.ChangeAt Go.RowKit Go.Lb

set_option maxRecDepth 20000 in
set_option maxHeartbeats 4000000 in
theorem wChunkNew (aN : Int) (w : World)  :
    Calls Try.prog 9 #[.int .i64 aN] w fun e w' => e = .returned (.bool true) ∧ Below w.heap.size w w' := by
  have O0 := newChunk_cnt aN
  have hB : Below w.heap.size w w := Below.refl _ _
  go_enter Try.func9, Try.ntmps9
  go_wp2_with fail
  refine (spec_ChunkNew aN _   ).mono ?_
  rintro e w1 ⟨n0lq, rfl, H_n0lq, hb⟩
  have b0 : Below w.heap.size w w1 := hb
  have z0 := b0.size
  replace hB := hB.trans (b0.mono hB.size)
  clear hb b0
  obtain ⟨A_n0lq, k_n0lq, rfl, -, -⟩ := (H_n0lq.rdR).form
  go_wp2_with fail
  refine (impl_ChunkNew aN _   ).mono ?_
  rintro e w2 ⟨n1lq, rfl, H_n1lq, hb⟩
  replace H_n1lq := H_n1lq.more (lo' := w1.heap.size + 1) (by simp <;> omega) (Nat.le_refl _)
  have b1 : Below w1.heap.size w1 w2 := below_a1 hb
  have z1 : w1.heap.size + 1 ≤ w2.heap.size := by have h := hb.size; simpa [Nat.add_assoc] using h
  replace H_n0lq := H_n0lq.below b1 (by omega)
  have X_w0 : ∀ o, w2.cell? ⟨w1.heap.size, o, none⟩ = (#[.int .i64 (newChunk aN).next, (.slice A_n0lq ((newChunk aN).l).length k_n0lq)] : Array Value)[o]? := by
    intro o
    have h := box_new w1 #[.int .i64 (newChunk aN).next, (.slice A_n0lq ((newChunk aN).l).length k_n0lq)] 52 o
    replace h := (hb.cell (p := ⟨_, o, none⟩) (by simp <;> omega)).trans h
    simpa [Nat.add_assoc] using h
  have Y_w0 : w1.heap.size < w2.heap.size := by omega
  replace hB := hB.trans (b1.mono hB.size)
  clear hb b1
  obtain ⟨A_n1lq, k_n1lq, rfl, -, -⟩ := (H_n1lq.rdR).form
  go_wp2_with fail
  refine (eqChunk_c ((newChunk aN)) (.slice A_n1lq ((newChunk aN).l).length k_n1lq) ((newChunk aN)) (.slice A_n0lq ((newChunk aN).l).length k_n0lq) _ (RdR.below (H_n1lq.rdR) (up_a1 w2 _ ) (by omega)) (by simp only [World.size_alloc]; omega) (RdR.below (H_n0lq.rdR) (up_a1 w2 _ ) (by omega)) (by simp only [World.size_alloc]; omega)).mono ?_
  rintro e w3 ⟨rfl, hb⟩
  have b2 : Below w2.heap.size w2 w3 := below_a1 hb
  have z2 : w2.heap.size + 1 ≤ w3.heap.size := by have h := hb.size; simpa [Nat.add_assoc] using h
  replace H_n0lq := H_n0lq.below b2 (by omega)
  replace H_n1lq := H_n1lq.below b2 (by omega)
  replace X_w0 := box_keep X_w0 b2 (by omega)
  replace Y_w0 : w1.heap.size < w3.heap.size := by omega
  have X_g0 : ∀ o, w3.cell? ⟨w2.heap.size, o, none⟩ = (#[.int .i64 (newChunk aN).next, (.slice A_n1lq ((newChunk aN).l).length k_n1lq)] : Array Value)[o]? := by
    intro o
    have h := box_new w2 #[.int .i64 (newChunk aN).next, (.slice A_n1lq ((newChunk aN).l).length k_n1lq)] 52 o
    replace h := (hb.cell (p := ⟨_, o, none⟩) (by simp <;> omega)).trans h
    simpa [Nat.add_assoc] using h
  have Y_g0 : w2.heap.size < w3.heap.size := by omega
  replace hB := hB.trans (b2.mono hB.size)
  clear hb b2
  simp only [eqd_self]
  go_wp2_with fail
  refine (markChunk_c ((newChunk aN)) (.slice A_n1lq ((newChunk aN).l).length k_n1lq) 1 _ H_n1lq (by omega) (by omega) (by omega)).mono ?_
  rintro e w4 ⟨rfl, H_n1lqm, hb⟩
  clear H_n1lq
  have z3 := hb.size
  replace H_n0lq := H_n0lq.same (.of_chg hb (by omega) (by omega))
  replace X_w0 := box_chg X_w0 hb (by omega) (by omega)
  replace Y_w0 : w1.heap.size < w4.heap.size := by omega
  replace X_g0 := box_chg X_g0 hb (by omega) (by omega)
  replace Y_g0 : w2.heap.size < w4.heap.size := by omega
  replace hB := hB.trans (hb.below (by omega) (by omega))
  clear hb
  have H_n1lq := H_n1lqm
  clear H_n1lqm
  go_wp2_with fail
  refine (heldChunk_c ((newChunk aN)) (.slice A_n1lq ((newChunk aN).l).length k_n1lq) 1 _ H_n1lq (by omega) (by omega) (by omega)).mono ?_
  rintro e w5 ⟨rfl, hb⟩
  have b4 : Below w4.heap.size w4 w5 := hb
  have z4 := b4.size
  replace H_n0lq := H_n0lq.below b4 (by omega)
  replace H_n1lq := H_n1lq.below b4 (by omega)
  replace X_w0 := box_keep X_w0 b4 (by omega)
  replace Y_w0 : w1.heap.size < w5.heap.size := by omega
  replace X_g0 := box_keep X_g0 b4 (by omega)
  replace Y_g0 : w2.heap.size < w5.heap.size := by omega
  replace hB := hB.trans (b4.mono hB.size)
  clear hb b4
  go_wp2_with fail
  refine (impl_ChunkNew aN _   ).mono ?_
  rintro e w6 ⟨n5lq, rfl, H_n5lq, hb⟩
  have b5 : Below w5.heap.size w5 w6 := hb
  have z5 := b5.size
  replace H_n0lq := H_n0lq.below b5 (by omega)
  replace H_n1lq := H_n1lq.below b5 (by omega)
  replace X_w0 := box_keep X_w0 b5 (by omega)
  replace Y_w0 : w1.heap.size < w6.heap.size := by omega
  replace X_g0 := box_keep X_g0 b5 (by omega)
  replace Y_g0 : w2.heap.size < w6.heap.size := by omega
  replace hB := hB.trans (b5.mono hB.size)
  clear hb b5
  obtain ⟨A_n5lq, k_n5lq, rfl, -, -⟩ := (H_n5lq.rdR).form
  go_wp2_with fail
  refine (eqChunk_c ((newChunk aN)) (.slice A_n5lq ((newChunk aN).l).length k_n5lq) ((newChunk aN)) (.slice A_n0lq ((newChunk aN).l).length k_n0lq) _ (RdR.below (H_n5lq.rdR) (up_a1 w6 _ ) (by omega)) (by simp only [World.size_alloc]; omega) (RdR.below (H_n0lq.rdR) (up_a1 w6 _ ) (by omega)) (by simp only [World.size_alloc]; omega)).mono ?_
  rintro e w7 ⟨rfl, hb⟩
  have b6 : Below w6.heap.size w6 w7 := below_a1 hb
  have z6 : w6.heap.size + 1 ≤ w7.heap.size := by have h := hb.size; simpa [Nat.add_assoc] using h
  replace H_n0lq := H_n0lq.below b6 (by omega)
  replace H_n1lq := H_n1lq.below b6 (by omega)
  replace H_n5lq := H_n5lq.below b6 (by omega)
  replace X_w0 := box_keep X_w0 b6 (by omega)
  replace Y_w0 : w1.heap.size < w7.heap.size := by omega
  replace X_g0 := box_keep X_g0 b6 (by omega)
  replace Y_g0 : w2.heap.size < w7.heap.size := by omega
  have X_h0 : ∀ o, w7.cell? ⟨w6.heap.size, o, none⟩ = (#[.int .i64 (newChunk aN).next, (.slice A_n5lq ((newChunk aN).l).length k_n5lq)] : Array Value)[o]? := by
    intro o
    have h := box_new w6 #[.int .i64 (newChunk aN).next, (.slice A_n5lq ((newChunk aN).l).length k_n5lq)] 52 o
    replace h := (hb.cell (p := ⟨_, o, none⟩) (by simp <;> omega)).trans h
    simpa [Nat.add_assoc] using h
  have Y_h0 : w6.heap.size < w7.heap.size := by omega
  replace hB := hB.trans (b6.mono hB.size)
  clear hb b6
  simp only [eqd_self]
  go_wp2_with fail
  refine (heldChunk_c ((newChunk aN)) (.slice A_n1lq ((newChunk aN).l).length k_n1lq) 1 _ H_n1lq (by omega) (by omega) (by omega)).mono ?_
  rintro e w8 ⟨rfl, hb⟩
  have b7 : Below w7.heap.size w7 w8 := hb
  have z7 := b7.size
  replace H_n0lq := H_n0lq.below b7 (by omega)
  replace H_n1lq := H_n1lq.below b7 (by omega)
  replace H_n5lq := H_n5lq.below b7 (by omega)
  replace X_w0 := box_keep X_w0 b7 (by omega)
  replace Y_w0 : w1.heap.size < w8.heap.size := by omega
  replace X_g0 := box_keep X_g0 b7 (by omega)
  replace Y_g0 : w2.heap.size < w8.heap.size := by omega
  replace X_h0 := box_keep X_h0 b7 (by omega)
  replace Y_h0 : w6.heap.size < w8.heap.size := by omega
  replace hB := hB.trans (b7.mono hB.size)
  clear hb b7
  go_wp2_with fail
  go_ret
  exact ⟨rfl, hB⟩

end Go.Proofs.Ytphbkghokhlnbaa
