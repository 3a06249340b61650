/- The law FnExactAnswer: its walk, out of the contracts of what it calls. -/
import Derived.Test.YtgjjkodlmhmjgaaJA
import Derived.Test.YtgjjkodlmhmjgaaLQ2
import Derived.Test.YtgjjkodlmhmjgaaLRes
import Derived.Test.YtgjjkodlmhmjgaaLR6
namespace Go.Proofs.Ytgjjkodlmhmjgaa
open Go.ChangeShapes Go.WideShapes Go.ChangeAt Go.RowKit Go.Lb

set_option maxRecDepth 20000 in
set_option maxHeartbeats 4000000 in
theorem wAnswer (aQ : Q) (aQ_p : Value) (aQ_o : Value) (aL : List R) (aL_s : Value) (w : World) (H_aQ_p : RdP w 0 w.heap.size aQ_p (aQ.p.l)) (H_aQ_o : RdI w 0 w.heap.size aQ_o (aQ.out)) (c0_aQ : POk aQ.p) (H_aL_s : RdR w 0 w.heap.size aL_s aL) (c0_aL : RsOk aL) :
    Calls Try.prog 14 #[.agg #[.int .i64 aQ.kind, .int .i64 aQ.p.kind, .int .i64 aQ.p.col, .int .i64 aQ.p.op, .int .i64 aQ.p.v.ty, .int .i64 aQ.p.v.n, .string aQ.p.v.s, aQ_p, .int .i64 aQ.col, aQ_o], aL_s] w fun e w' => e = .returned (.bool true) ∧ Below w.heap.size w w' := by
  have C0_aQ := Lib.hid c0_aQ
  clear c0_aQ
  have C0_aL := Lib.hid c0_aL
  clear c0_aL
  have O0 := answer_bd aQ aL
  have hB : Below w.heap.size w w := Below.refl _ _
  go_enter Try.func14, Try.ntmps14
  go_wp2_with fail
  refine (szQuery_c aQ aQ_p aQ_o 1048576 _ (RdP.below (H_aQ_p) (up_a1 w _ ) (by omega)) (by simp only [World.size_alloc]; omega) (RdI.below (H_aQ_o) (up_a1 w _ ) (by omega)) (by simp only [World.size_alloc]; omega) C0_aQ.out (by omega) (by omega)).mono ?_
  rintro e w1 ⟨m0, rfl, L0, T_aQ, hb⟩
  have b0 : Below w.heap.size w w1 := below_a1 hb
  have z0 : w.heap.size + 1 ≤ w1.heap.size := by have h := hb.size; simpa [Nat.add_assoc] using h
  replace H_aQ_p := H_aQ_p.below b0 (by omega)
  replace H_aQ_o := H_aQ_o.below b0 (by omega)
  replace H_aL_s := H_aL_s.below b0 (by omega)
  have X_aQ : ∀ o, w1.cell? ⟨w.heap.size, o, none⟩ = (#[.int .i64 aQ.kind, .int .i64 aQ.p.kind, .int .i64 aQ.p.col, .int .i64 aQ.p.op, .int .i64 aQ.p.v.ty, .int .i64 aQ.p.v.n, .string aQ.p.v.s, aQ_p, .int .i64 aQ.col, aQ_o] : Array Value)[o]? := by
    intro o
    have h := box_new w #[.int .i64 aQ.kind, .int .i64 aQ.p.kind, .int .i64 aQ.p.col, .int .i64 aQ.p.op, .int .i64 aQ.p.v.ty, .int .i64 aQ.p.v.n, .string aQ.p.v.s, aQ_p, .int .i64 aQ.col, aQ_o] 79 o
    replace h := (hb.cell (p := ⟨_, o, none⟩) (by simp <;> omega)).trans h
    simpa [Nat.add_assoc] using h
  have Y_aQ : w.heap.size < w1.heap.size := by omega
  replace hB := hB.trans (b0.mono hB.size)
  clear hb b0
  by_cases h0 : m0 < 0
  · go_wp2_with fail
    go_ret
    exact ⟨rfl, hB⟩
  replace T_aQ := T_aQ (by omega)
  go_wp2_with fail
  refine (szRowS_c aL aL_s m0 _ (H_aL_s) (by omega) C0_aL.out (by omega) L0).mono ?_
  rintro e w2 ⟨rfl, hb⟩
  have b1 : Below w1.heap.size w1 w2 := hb
  have z1 := b1.size
  replace H_aQ_p := H_aQ_p.below b1 (by omega)
  replace H_aQ_o := H_aQ_o.below b1 (by omega)
  replace H_aL_s := H_aL_s.below b1 (by omega)
  replace X_aQ := box_keep X_aQ b1 (by omega)
  replace Y_aQ : w.heap.size < w2.heap.size := by omega
  replace hB := hB.trans (b1.mono hB.size)
  clear hb b1
  have L1 := szRowS_le aL m0 (by omega) L0
  have T_aL := szRowS_bd aL m0 (by omega) L0
  generalize szRowS aL m0 = m1 at *
  by_cases h1 : m1 < 0
  · go_wp2_with fail
    go_ret
    exact ⟨rfl, hB⟩
  replace T_aL := T_aL h1
  go_wp2_with fail
  refine (toQuery_c aQ aQ_p aQ_o _ (H_aQ_p) (by omega) (H_aQ_o) (by omega) T_aQ).mono ?_
  rintro e w3 ⟨M_n2p, n2p, n2o, rfl, H_n2p, H_n2o, ma_n2p, mb_n2p, hb⟩
  have b2 : Below w2.heap.size w2 w3 := hb
  have z2 := b2.size
  replace H_aQ_p := H_aQ_p.below b2 (by omega)
  replace H_aQ_o := H_aQ_o.below b2 (by omega)
  replace H_aL_s := H_aL_s.below b2 (by omega)
  replace X_aQ := box_keep X_aQ b2 (by omega)
  replace Y_aQ : w.heap.size < w3.heap.size := by omega
  replace hB := hB.trans (b2.mono hB.size)
  clear hb b2
  obtain ⟨A_n2p, k_n2p, rfl, -, -⟩ := (H_n2p.rdP).form
  obtain ⟨A_n2o, k_n2o, rfl, -, -⟩ := (H_n2o.rdI).form
  go_wp2_with fail
  refine (toRowS_c aL aL_s _ (H_aL_s) (by omega) T_aL).mono ?_
  rintro e w4 ⟨n3, rfl, H_n3, hb⟩
  have b3 : Below w3.heap.size w3 w4 := hb
  have z3 := b3.size
  replace H_aQ_p := H_aQ_p.below b3 (by omega)
  replace H_aQ_o := H_aQ_o.below b3 (by omega)
  replace H_aL_s := H_aL_s.below b3 (by omega)
  replace H_n2p := H_n2p.below b3 (by omega)
  replace H_n2o := H_n2o.below b3 (by omega)
  replace X_aQ := box_keep X_aQ b3 (by omega)
  replace Y_aQ : w.heap.size < w4.heap.size := by omega
  replace hB := hB.trans (b3.mono hB.size)
  clear hb b3
  go_wp2_with fail
  refine (spec_Answer aQ (.slice A_n2p (aQ.p.l).length k_n2p) (.slice A_n2o (aQ.out).length k_n2o) aL n3 _ (H_n2p.rdP) (by omega) (H_n2o.rdI) (by omega) (H_n3.rdR) (by omega)  ⟨T_aL.1, T_aL.2.2⟩ T_aQ.2).mono ?_
  rintro e w5 ⟨n4lq, rfl, H_n4lq, hb⟩
  have b4 : Below w4.heap.size w4 w5 := hb
  have z4 := b4.size
  replace H_aQ_p := H_aQ_p.below b4 (by omega)
  replace H_aQ_o := H_aQ_o.below b4 (by omega)
  replace H_aL_s := H_aL_s.below b4 (by omega)
  replace H_n2p := H_n2p.below b4 (by omega)
  replace H_n2o := H_n2o.below b4 (by omega)
  replace H_n3 := H_n3.below b4 (by omega)
  replace X_aQ := box_keep X_aQ b4 (by omega)
  replace Y_aQ : w.heap.size < w5.heap.size := by omega
  replace hB := hB.trans (b4.mono hB.size)
  clear hb b4
  obtain ⟨A_n4lq, k_n4lq, rfl, -, -⟩ := (H_n4lq.rdR).form
  go_wp2_with fail
  refine (toQuery_c aQ aQ_p aQ_o _ (RdP.below (H_aQ_p) (up_a1 w5 _ ) (by omega)) (by simp only [World.size_alloc]; omega) (RdI.below (H_aQ_o) (up_a1 w5 _ ) (by omega)) (by simp only [World.size_alloc]; omega) T_aQ).mono ?_
  rintro e w6 ⟨M_n5p, n5p, n5o, rfl, H_n5p, H_n5o, ma_n5p, mb_n5p, hb⟩
  simp only [World.size_alloc] at ma_n5p
  replace H_n5p := H_n5p.more (lo' := w5.heap.size + 1) (by simp <;> omega) (Nat.le_refl _)
  have b5 : Below w5.heap.size w5 w6 := below_a1 hb
  have z5 : w5.heap.size + 1 ≤ w6.heap.size := by have h := hb.size; simpa [Nat.add_assoc] using h
  replace H_aQ_p := H_aQ_p.below b5 (by omega)
  replace H_aQ_o := H_aQ_o.below b5 (by omega)
  replace H_aL_s := H_aL_s.below b5 (by omega)
  replace H_n2p := H_n2p.below b5 (by omega)
  replace H_n2o := H_n2o.below b5 (by omega)
  replace H_n3 := H_n3.below b5 (by omega)
  replace H_n4lq := H_n4lq.below b5 (by omega)
  replace X_aQ := box_keep X_aQ b5 (by omega)
  replace Y_aQ : w.heap.size < w6.heap.size := by omega
  have X_w0 : ∀ o, w6.cell? ⟨w5.heap.size, o, none⟩ = (#[(.slice A_n4lq ((answer aQ aL).rows).length k_n4lq), .int .i64 (answer aQ aL).n, .bool (answer aQ aL).has, .int .i64 (answer aQ aL).v.ty, .int .i64 (answer aQ aL).v.n, .string (answer aQ aL).v.s] : Array Value)[o]? := by
    intro o
    have h := box_new w5 #[(.slice A_n4lq ((answer aQ aL).rows).length k_n4lq), .int .i64 (answer aQ aL).n, .bool (answer aQ aL).has, .int .i64 (answer aQ aL).v.ty, .int .i64 (answer aQ aL).v.n, .string (answer aQ aL).v.s] 99 o
    replace h := (hb.cell (p := ⟨_, o, none⟩) (by simp <;> omega)).trans h
    simpa [Nat.add_assoc] using h
  have Y_w0 : w5.heap.size < w6.heap.size := by omega
  replace hB := hB.trans (b5.mono hB.size)
  clear hb b5
  obtain ⟨A_n5p, k_n5p, rfl, -, -⟩ := (H_n5p.rdP).form
  obtain ⟨A_n5o, k_n5o, rfl, -, -⟩ := (H_n5o.rdI).form
  go_wp2_with fail
  refine (toRowS_c aL aL_s _ (RdR.below (H_aL_s) (up_a1 w6 _ ) (by omega)) (by simp only [World.size_alloc]; omega) T_aL).mono ?_
  rintro e w7 ⟨n6, rfl, H_n6, hb⟩
  replace H_n6 := H_n6.more (lo' := w6.heap.size + 1) (by simp <;> omega) (Nat.le_refl _)
  have b6 : Below w6.heap.size w6 w7 := below_a1 hb
  have z6 : w6.heap.size + 1 ≤ w7.heap.size := by have h := hb.size; simpa [Nat.add_assoc] using h
  replace H_aQ_p := H_aQ_p.below b6 (by omega)
  replace H_aQ_o := H_aQ_o.below b6 (by omega)
  replace H_aL_s := H_aL_s.below b6 (by omega)
  replace H_n2p := H_n2p.below b6 (by omega)
  replace H_n2o := H_n2o.below b6 (by omega)
  replace H_n3 := H_n3.below b6 (by omega)
  replace H_n4lq := H_n4lq.below b6 (by omega)
  replace H_n5p := H_n5p.below b6 (by omega)
  replace H_n5o := H_n5o.below b6 (by omega)
  replace X_aQ := box_keep X_aQ b6 (by omega)
  replace Y_aQ : w.heap.size < w7.heap.size := by omega
  replace X_w0 := box_keep X_w0 b6 (by omega)
  replace Y_w0 : w5.heap.size < w7.heap.size := by omega
  have X_x0 : ∀ o, w7.cell? ⟨w6.heap.size, o, none⟩ = (#[.int .i64 aQ.kind, .int .i64 aQ.p.kind, .int .i64 aQ.p.col, .int .i64 aQ.p.op, .int .i64 aQ.p.v.ty, .int .i64 aQ.p.v.n, .string aQ.p.v.s, (.slice A_n5p (aQ.p.l).length k_n5p), .int .i64 aQ.col, (.slice A_n5o (aQ.out).length k_n5o)] : Array Value)[o]? := by
    intro o
    have h := box_new w6 #[.int .i64 aQ.kind, .int .i64 aQ.p.kind, .int .i64 aQ.p.col, .int .i64 aQ.p.op, .int .i64 aQ.p.v.ty, .int .i64 aQ.p.v.n, .string aQ.p.v.s, (.slice A_n5p (aQ.p.l).length k_n5p), .int .i64 aQ.col, (.slice A_n5o (aQ.out).length k_n5o)] 83 o
    replace h := (hb.cell (p := ⟨_, o, none⟩) (by simp <;> omega)).trans h
    simpa [Nat.add_assoc] using h
  have Y_x0 : w6.heap.size < w7.heap.size := by omega
  replace hB := hB.trans (b6.mono hB.size)
  clear hb b6
  go_wp2_with fail
  refine (impl_Answer aQ (.slice A_n5p (aQ.p.l).length k_n5p) (.slice A_n5o (aQ.out).length k_n5o) aL n6 _ (H_n5p.rdP) (by omega) (H_n5o.rdI) (by omega) (H_n6.rdR) (by omega)  ⟨T_aL.1, T_aL.2.2⟩ T_aQ.2).mono ?_
  rintro e w8 ⟨n7lq, rfl, H_n7lq, hb⟩
  have b7 : Below w7.heap.size w7 w8 := hb
  have z7 := b7.size
  replace H_aQ_p := H_aQ_p.below b7 (by omega)
  replace H_aQ_o := H_aQ_o.below b7 (by omega)
  replace H_aL_s := H_aL_s.below b7 (by omega)
  replace H_n2p := H_n2p.below b7 (by omega)
  replace H_n2o := H_n2o.below b7 (by omega)
  replace H_n3 := H_n3.below b7 (by omega)
  replace H_n4lq := H_n4lq.below b7 (by omega)
  replace H_n5p := H_n5p.below b7 (by omega)
  replace H_n5o := H_n5o.below b7 (by omega)
  replace H_n6 := H_n6.below b7 (by omega)
  replace X_aQ := box_keep X_aQ b7 (by omega)
  replace Y_aQ : w.heap.size < w8.heap.size := by omega
  replace X_w0 := box_keep X_w0 b7 (by omega)
  replace Y_w0 : w5.heap.size < w8.heap.size := by omega
  replace X_x0 := box_keep X_x0 b7 (by omega)
  replace Y_x0 : w6.heap.size < w8.heap.size := by omega
  replace hB := hB.trans (b7.mono hB.size)
  clear hb b7
  obtain ⟨A_n7lq, k_n7lq, rfl, -, -⟩ := (H_n7lq.rdR).form
  go_wp2_with fail
  refine (eqResult_c ((answer aQ aL)) (.slice A_n7lq ((answer aQ aL).rows).length k_n7lq) ((answer aQ aL)) (.slice A_n4lq ((answer aQ aL).rows).length k_n4lq) _ (RdR.below (H_n7lq.rdR) (up_a1 w8 _ ) (by omega)) (by simp only [World.size_alloc]; omega) (RdR.below (H_n4lq.rdR) (up_a1 w8 _ ) (by omega)) (by simp only [World.size_alloc]; omega)).mono ?_
  rintro e w9 ⟨rfl, hb⟩
  have b8 : Below w8.heap.size w8 w9 := below_a1 hb
  have z8 : w8.heap.size + 1 ≤ w9.heap.size := by have h := hb.size; simpa [Nat.add_assoc] using h
  replace H_aQ_p := H_aQ_p.below b8 (by omega)
  replace H_aQ_o := H_aQ_o.below b8 (by omega)
  replace H_aL_s := H_aL_s.below b8 (by omega)
  replace H_n2p := H_n2p.below b8 (by omega)
  replace H_n2o := H_n2o.below b8 (by omega)
  replace H_n3 := H_n3.below b8 (by omega)
  replace H_n4lq := H_n4lq.below b8 (by omega)
  replace H_n5p := H_n5p.below b8 (by omega)
  replace H_n5o := H_n5o.below b8 (by omega)
  replace H_n6 := H_n6.below b8 (by omega)
  replace H_n7lq := H_n7lq.below b8 (by omega)
  replace X_aQ := box_keep X_aQ b8 (by omega)
  replace Y_aQ : w.heap.size < w9.heap.size := by omega
  replace X_w0 := box_keep X_w0 b8 (by omega)
  replace Y_w0 : w5.heap.size < w9.heap.size := by omega
  replace X_x0 := box_keep X_x0 b8 (by omega)
  replace Y_x0 : w6.heap.size < w9.heap.size := by omega
  have X_g0 : ∀ o, w9.cell? ⟨w8.heap.size, o, none⟩ = (#[(.slice A_n7lq ((answer aQ aL).rows).length k_n7lq), .int .i64 (answer aQ aL).n, .bool (answer aQ aL).has, .int .i64 (answer aQ aL).v.ty, .int .i64 (answer aQ aL).v.n, .string (answer aQ aL).v.s] : Array Value)[o]? := by
    intro o
    have h := box_new w8 #[(.slice A_n7lq ((answer aQ aL).rows).length k_n7lq), .int .i64 (answer aQ aL).n, .bool (answer aQ aL).has, .int .i64 (answer aQ aL).v.ty, .int .i64 (answer aQ aL).v.n, .string (answer aQ aL).v.s] 99 o
    replace h := (hb.cell (p := ⟨_, o, none⟩) (by simp <;> omega)).trans h
    simpa [Nat.add_assoc] using h
  have Y_g0 : w8.heap.size < w9.heap.size := by omega
  replace hB := hB.trans (b8.mono hB.size)
  clear hb b8
  try simp only [eqd_self]
  have kS : ∀ A A' : World, (A.cell? ⟨w.heap.size, 0, none⟩ = some (.int .i64 aQ.kind) ∧ A.cell? ⟨w.heap.size, 1, none⟩ = some (.int .i64 aQ.p.kind) ∧ A.cell? ⟨w.heap.size, 2, none⟩ = some (.int .i64 aQ.p.col) ∧ A.cell? ⟨w.heap.size, 3, none⟩ = some (.int .i64 aQ.p.op) ∧ A.cell? ⟨w.heap.size, 4, none⟩ = some (.int .i64 aQ.p.v.ty) ∧ A.cell? ⟨w.heap.size, 5, none⟩ = some (.int .i64 aQ.p.v.n) ∧ A.cell? ⟨w.heap.size, 6, none⟩ = some (.string aQ.p.v.s) ∧ A.cell? ⟨w.heap.size, 7, none⟩ = some (aQ_p) ∧ A.cell? ⟨w.heap.size, 8, none⟩ = some (.int .i64 aQ.col) ∧ A.cell? ⟨w.heap.size, 9, none⟩ = some (aQ_o) ∧ A.cell? ⟨w6.heap.size, 0, none⟩ = some (.int .i64 aQ.kind) ∧ A.cell? ⟨w6.heap.size, 1, none⟩ = some (.int .i64 aQ.p.kind) ∧ A.cell? ⟨w6.heap.size, 2, none⟩ = some (.int .i64 aQ.p.col) ∧ A.cell? ⟨w6.heap.size, 3, none⟩ = some (.int .i64 aQ.p.op) ∧ A.cell? ⟨w6.heap.size, 4, none⟩ = some (.int .i64 aQ.p.v.ty) ∧ A.cell? ⟨w6.heap.size, 5, none⟩ = some (.int .i64 aQ.p.v.n) ∧ A.cell? ⟨w6.heap.size, 6, none⟩ = some (.string aQ.p.v.s) ∧ A.cell? ⟨w6.heap.size, 7, none⟩ = some ((.slice A_n5p (aQ.p.l).length k_n5p)) ∧ A.cell? ⟨w6.heap.size, 8, none⟩ = some (.int .i64 aQ.col) ∧ A.cell? ⟨w6.heap.size, 9, none⟩ = some ((.slice A_n5o (aQ.out).length k_n5o)) ∧ Below w9.heap.size w9 A) → Below A.heap.size A A' → (A'.cell? ⟨w.heap.size, 0, none⟩ = some (.int .i64 aQ.kind) ∧ A'.cell? ⟨w.heap.size, 1, none⟩ = some (.int .i64 aQ.p.kind) ∧ A'.cell? ⟨w.heap.size, 2, none⟩ = some (.int .i64 aQ.p.col) ∧ A'.cell? ⟨w.heap.size, 3, none⟩ = some (.int .i64 aQ.p.op) ∧ A'.cell? ⟨w.heap.size, 4, none⟩ = some (.int .i64 aQ.p.v.ty) ∧ A'.cell? ⟨w.heap.size, 5, none⟩ = some (.int .i64 aQ.p.v.n) ∧ A'.cell? ⟨w.heap.size, 6, none⟩ = some (.string aQ.p.v.s) ∧ A'.cell? ⟨w.heap.size, 7, none⟩ = some (aQ_p) ∧ A'.cell? ⟨w.heap.size, 8, none⟩ = some (.int .i64 aQ.col) ∧ A'.cell? ⟨w.heap.size, 9, none⟩ = some (aQ_o) ∧ A'.cell? ⟨w6.heap.size, 0, none⟩ = some (.int .i64 aQ.kind) ∧ A'.cell? ⟨w6.heap.size, 1, none⟩ = some (.int .i64 aQ.p.kind) ∧ A'.cell? ⟨w6.heap.size, 2, none⟩ = some (.int .i64 aQ.p.col) ∧ A'.cell? ⟨w6.heap.size, 3, none⟩ = some (.int .i64 aQ.p.op) ∧ A'.cell? ⟨w6.heap.size, 4, none⟩ = some (.int .i64 aQ.p.v.ty) ∧ A'.cell? ⟨w6.heap.size, 5, none⟩ = some (.int .i64 aQ.p.v.n) ∧ A'.cell? ⟨w6.heap.size, 6, none⟩ = some (.string aQ.p.v.s) ∧ A'.cell? ⟨w6.heap.size, 7, none⟩ = some ((.slice A_n5p (aQ.p.l).length k_n5p)) ∧ A'.cell? ⟨w6.heap.size, 8, none⟩ = some (.int .i64 aQ.col) ∧ A'.cell? ⟨w6.heap.size, 9, none⟩ = some ((.slice A_n5o (aQ.out).length k_n5o)) ∧ Below w9.heap.size w9 A') := by
    intro A A' h hb
    obtain ⟨h0, h1, h2, h3, h4, h5, h6, h7, h8, h9, h10, h11, h12, h13, h14, h15, h16, h17, h18, h19, hq⟩ := h
    have hs := hq.size
    exact ⟨(hb.cell (p := ⟨w.heap.size, 0, none⟩) (show w.heap.size < _ by omega)).trans h0, (hb.cell (p := ⟨w.heap.size, 1, none⟩) (show w.heap.size < _ by omega)).trans h1, (hb.cell (p := ⟨w.heap.size, 2, none⟩) (show w.heap.size < _ by omega)).trans h2, (hb.cell (p := ⟨w.heap.size, 3, none⟩) (show w.heap.size < _ by omega)).trans h3, (hb.cell (p := ⟨w.heap.size, 4, none⟩) (show w.heap.size < _ by omega)).trans h4, (hb.cell (p := ⟨w.heap.size, 5, none⟩) (show w.heap.size < _ by omega)).trans h5, (hb.cell (p := ⟨w.heap.size, 6, none⟩) (show w.heap.size < _ by omega)).trans h6, (hb.cell (p := ⟨w.heap.size, 7, none⟩) (show w.heap.size < _ by omega)).trans h7, (hb.cell (p := ⟨w.heap.size, 8, none⟩) (show w.heap.size < _ by omega)).trans h8, (hb.cell (p := ⟨w.heap.size, 9, none⟩) (show w.heap.size < _ by omega)).trans h9, (hb.cell (p := ⟨w6.heap.size, 0, none⟩) (show w6.heap.size < _ by omega)).trans h10, (hb.cell (p := ⟨w6.heap.size, 1, none⟩) (show w6.heap.size < _ by omega)).trans h11, (hb.cell (p := ⟨w6.heap.size, 2, none⟩) (show w6.heap.size < _ by omega)).trans h12, (hb.cell (p := ⟨w6.heap.size, 3, none⟩) (show w6.heap.size < _ by omega)).trans h13, (hb.cell (p := ⟨w6.heap.size, 4, none⟩) (show w6.heap.size < _ by omega)).trans h14, (hb.cell (p := ⟨w6.heap.size, 5, none⟩) (show w6.heap.size < _ by omega)).trans h15, (hb.cell (p := ⟨w6.heap.size, 6, none⟩) (show w6.heap.size < _ by omega)).trans h16, (hb.cell (p := ⟨w6.heap.size, 7, none⟩) (show w6.heap.size < _ by omega)).trans h17, (hb.cell (p := ⟨w6.heap.size, 8, none⟩) (show w6.heap.size < _ by omega)).trans h18, (hb.cell (p := ⟨w6.heap.size, 9, none⟩) (show w6.heap.size < _ by omega)).trans h19, hq.trans (hb.mono hs)⟩
  have toB : ∀ A : World, (A.cell? ⟨w.heap.size, 0, none⟩ = some (.int .i64 aQ.kind) ∧ A.cell? ⟨w.heap.size, 1, none⟩ = some (.int .i64 aQ.p.kind) ∧ A.cell? ⟨w.heap.size, 2, none⟩ = some (.int .i64 aQ.p.col) ∧ A.cell? ⟨w.heap.size, 3, none⟩ = some (.int .i64 aQ.p.op) ∧ A.cell? ⟨w.heap.size, 4, none⟩ = some (.int .i64 aQ.p.v.ty) ∧ A.cell? ⟨w.heap.size, 5, none⟩ = some (.int .i64 aQ.p.v.n) ∧ A.cell? ⟨w.heap.size, 6, none⟩ = some (.string aQ.p.v.s) ∧ A.cell? ⟨w.heap.size, 7, none⟩ = some (aQ_p) ∧ A.cell? ⟨w.heap.size, 8, none⟩ = some (.int .i64 aQ.col) ∧ A.cell? ⟨w.heap.size, 9, none⟩ = some (aQ_o) ∧ A.cell? ⟨w6.heap.size, 0, none⟩ = some (.int .i64 aQ.kind) ∧ A.cell? ⟨w6.heap.size, 1, none⟩ = some (.int .i64 aQ.p.kind) ∧ A.cell? ⟨w6.heap.size, 2, none⟩ = some (.int .i64 aQ.p.col) ∧ A.cell? ⟨w6.heap.size, 3, none⟩ = some (.int .i64 aQ.p.op) ∧ A.cell? ⟨w6.heap.size, 4, none⟩ = some (.int .i64 aQ.p.v.ty) ∧ A.cell? ⟨w6.heap.size, 5, none⟩ = some (.int .i64 aQ.p.v.n) ∧ A.cell? ⟨w6.heap.size, 6, none⟩ = some (.string aQ.p.v.s) ∧ A.cell? ⟨w6.heap.size, 7, none⟩ = some ((.slice A_n5p (aQ.p.l).length k_n5p)) ∧ A.cell? ⟨w6.heap.size, 8, none⟩ = some (.int .i64 aQ.col) ∧ A.cell? ⟨w6.heap.size, 9, none⟩ = some ((.slice A_n5o (aQ.out).length k_n5o)) ∧ Below w9.heap.size w9 A) → Below w9.heap.size w9 A := fun A h => h.2.2.2.2.2.2.2.2.2.2.2.2.2.2.2.2.2.2.2.2
  have HkS := Lib.hid kS
  have HtoB := Lib.hid toB
  clear kS toB
  go_wp2_with fail
  have hX_aQ := Lib.hid X_aQ
  have hX_w0 := Lib.hid X_w0
  have hX_x0 := Lib.hid X_x0
  have hX_g0 := Lib.hid X_g0
  clear X_aQ X_w0 X_x0 X_g0
  go_region_held3 (fun w' => w'.cell? ⟨w.heap.size, 0, none⟩ = some (.int .i64 aQ.kind) ∧ w'.cell? ⟨w.heap.size, 1, none⟩ = some (.int .i64 aQ.p.kind) ∧ w'.cell? ⟨w.heap.size, 2, none⟩ = some (.int .i64 aQ.p.col) ∧ w'.cell? ⟨w.heap.size, 3, none⟩ = some (.int .i64 aQ.p.op) ∧ w'.cell? ⟨w.heap.size, 4, none⟩ = some (.int .i64 aQ.p.v.ty) ∧ w'.cell? ⟨w.heap.size, 5, none⟩ = some (.int .i64 aQ.p.v.n) ∧ w'.cell? ⟨w.heap.size, 6, none⟩ = some (.string aQ.p.v.s) ∧ w'.cell? ⟨w.heap.size, 7, none⟩ = some (aQ_p) ∧ w'.cell? ⟨w.heap.size, 8, none⟩ = some (.int .i64 aQ.col) ∧ w'.cell? ⟨w.heap.size, 9, none⟩ = some (aQ_o) ∧ w'.cell? ⟨w6.heap.size, 0, none⟩ = some (.int .i64 aQ.kind) ∧ w'.cell? ⟨w6.heap.size, 1, none⟩ = some (.int .i64 aQ.p.kind) ∧ w'.cell? ⟨w6.heap.size, 2, none⟩ = some (.int .i64 aQ.p.col) ∧ w'.cell? ⟨w6.heap.size, 3, none⟩ = some (.int .i64 aQ.p.op) ∧ w'.cell? ⟨w6.heap.size, 4, none⟩ = some (.int .i64 aQ.p.v.ty) ∧ w'.cell? ⟨w6.heap.size, 5, none⟩ = some (.int .i64 aQ.p.v.n) ∧ w'.cell? ⟨w6.heap.size, 6, none⟩ = some (.string aQ.p.v.s) ∧ w'.cell? ⟨w6.heap.size, 7, none⟩ = some ((.slice A_n5p (aQ.p.l).length k_n5p)) ∧ w'.cell? ⟨w6.heap.size, 8, none⟩ = some (.int .i64 aQ.col) ∧ w'.cell? ⟨w6.heap.size, 9, none⟩ = some ((.slice A_n5o (aQ.out).length k_n5o)) ∧ Below w9.heap.size w9 w') (first | exact ⟨hX_aQ.out 0, hX_aQ.out 1, hX_aQ.out 2, hX_aQ.out 3, hX_aQ.out 4, hX_aQ.out 5, hX_aQ.out 6, hX_aQ.out 7, hX_aQ.out 8, hX_aQ.out 9, hX_x0.out 0, hX_x0.out 1, hX_x0.out 2, hX_x0.out 3, hX_x0.out 4, hX_x0.out 5, hX_x0.out 6, hX_x0.out 7, hX_x0.out 8, hX_x0.out 9, (Below.refl _ _).drew⟩ | (refine HkS.out _ _ ?_ hq1; assumption) | (refine HkS.out _ _ ?_ hq2; assumption)) (first
    | (go_at_call 54; ((with_reducible refine (toQuery_c aQ aQ_p aQ_o _ ((H_aQ_p).below (HtoB.out _ (by assumption)) (by omega)) (by have h := (HtoB.out _ (by assumption)).size; omega) ((H_aQ_o).below (HtoB.out _ (by assumption)) (by omega)) (by have h := (HtoB.out _ (by assumption)).size; omega) T_aQ).mono ?_); rintro e w10 ⟨M_r90p, r90p, r90o, rfl, H_r90p, H_r90o, ma_r90p, mb_r90p, hq1⟩; obtain ⟨A_r90p, k_r90p, rfl, -, -⟩ := (H_r90p.rdP).form; obtain ⟨A_r90o, k_r90o, rfl, -, -⟩ := (H_r90o.rdI).form))
    | (go_at_call 56; ((with_reducible refine (eqQuery_c aQ (.slice A_n5p (aQ.p.l).length k_n5p) (.slice A_n5o (aQ.out).length k_n5o) aQ (.slice A_r90p (aQ.p.l).length k_r90p) (.slice A_r90o (aQ.out).length k_r90o) _ ((H_n5p.rdP).below (HtoB.out _ (by assumption)) (by omega)) (by have h := (HtoB.out _ (by assumption)).size; omega) ((H_n5o.rdI).below (HtoB.out _ (by assumption)) (by omega)) (by have h := (HtoB.out _ (by assumption)).size; omega) (H_r90p.rdP) (by first | exact Nat.le_refl _ | (omega)) (H_r90o.rdI) (by first | exact Nat.le_refl _ | (omega))).mono ?_); rintro e w11 ⟨rfl, hq2⟩)))
  clear HkS HtoB
  have X_aQ := hX_aQ.out
  have X_w0 := hX_w0.out
  have X_x0 := hX_x0.out
  have X_g0 := hX_g0.out
  clear hX_aQ hX_w0 hX_x0 hX_g0
  replace hq1 := Below.undrew hq1
  replace H_r90p := H_r90p.more (lo' := w9.heap.size) (Nat.le_refl _) (Nat.le_refl _)
  replace ma_r90p : w9.heap.size ≤ M_r90p := ma_r90p
  have b9 : Below w9.heap.size w9 w10 := hq1
  have z9 := b9.size
  replace H_aQ_p := H_aQ_p.below b9 (by omega)
  replace H_aQ_o := H_aQ_o.below b9 (by omega)
  replace H_aL_s := H_aL_s.below b9 (by omega)
  replace H_n2p := H_n2p.below b9 (by omega)
  replace H_n2o := H_n2o.below b9 (by omega)
  replace H_n3 := H_n3.below b9 (by omega)
  replace H_n4lq := H_n4lq.below b9 (by omega)
  replace H_n5p := H_n5p.below b9 (by omega)
  replace H_n5o := H_n5o.below b9 (by omega)
  replace H_n6 := H_n6.below b9 (by omega)
  replace H_n7lq := H_n7lq.below b9 (by omega)
  replace X_aQ := box_keep X_aQ b9 (by omega)
  replace Y_aQ : w.heap.size < w10.heap.size := by omega
  replace X_w0 := box_keep X_w0 b9 (by omega)
  replace Y_w0 : w5.heap.size < w10.heap.size := by omega
  replace X_x0 := box_keep X_x0 b9 (by omega)
  replace Y_x0 : w6.heap.size < w10.heap.size := by omega
  replace X_g0 := box_keep X_g0 b9 (by omega)
  replace Y_g0 : w8.heap.size < w10.heap.size := by omega
  replace hB := hB.trans (b9.mono hB.size)
  clear hq1 b9
  have b10 : Below w10.heap.size w10 w11 := hq2
  have z10 := b10.size
  replace H_aQ_p := H_aQ_p.below b10 (by omega)
  replace H_aQ_o := H_aQ_o.below b10 (by omega)
  replace H_aL_s := H_aL_s.below b10 (by omega)
  replace H_n2p := H_n2p.below b10 (by omega)
  replace H_n2o := H_n2o.below b10 (by omega)
  replace H_n3 := H_n3.below b10 (by omega)
  replace H_n4lq := H_n4lq.below b10 (by omega)
  replace H_n5p := H_n5p.below b10 (by omega)
  replace H_n5o := H_n5o.below b10 (by omega)
  replace H_n6 := H_n6.below b10 (by omega)
  replace H_n7lq := H_n7lq.below b10 (by omega)
  replace H_r90p := H_r90p.below b10 (by omega)
  replace H_r90o := H_r90o.below b10 (by omega)
  replace X_aQ := box_keep X_aQ b10 (by omega)
  replace Y_aQ : w.heap.size < w11.heap.size := by omega
  replace X_w0 := box_keep X_w0 b10 (by omega)
  replace Y_w0 : w5.heap.size < w11.heap.size := by omega
  replace X_x0 := box_keep X_x0 b10 (by omega)
  replace Y_x0 : w6.heap.size < w11.heap.size := by omega
  replace X_g0 := box_keep X_g0 b10 (by omega)
  replace Y_g0 : w8.heap.size < w11.heap.size := by omega
  replace hB := hB.trans (b10.mono hB.size)
  clear hq2 b10
  try simp only [eqd_self]
  go_wp2_with fail
  refine (toRowS_c aL aL_s _ (H_aL_s) (by omega) T_aL).mono ?_
  rintro e w12 ⟨n11, rfl, H_n11, hb⟩
  have b11 : Below w11.heap.size w11 w12 := hb
  have z11 := b11.size
  replace H_aQ_p := H_aQ_p.below b11 (by omega)
  replace H_aQ_o := H_aQ_o.below b11 (by omega)
  replace H_aL_s := H_aL_s.below b11 (by omega)
  replace H_n2p := H_n2p.below b11 (by omega)
  replace H_n2o := H_n2o.below b11 (by omega)
  replace H_n3 := H_n3.below b11 (by omega)
  replace H_n4lq := H_n4lq.below b11 (by omega)
  replace H_n5p := H_n5p.below b11 (by omega)
  replace H_n5o := H_n5o.below b11 (by omega)
  replace H_n6 := H_n6.below b11 (by omega)
  replace H_n7lq := H_n7lq.below b11 (by omega)
  replace H_r90p := H_r90p.below b11 (by omega)
  replace H_r90o := H_r90o.below b11 (by omega)
  replace X_aQ := box_keep X_aQ b11 (by omega)
  replace Y_aQ : w.heap.size < w12.heap.size := by omega
  replace X_w0 := box_keep X_w0 b11 (by omega)
  replace Y_w0 : w5.heap.size < w12.heap.size := by omega
  replace X_x0 := box_keep X_x0 b11 (by omega)
  replace Y_x0 : w6.heap.size < w12.heap.size := by omega
  replace X_g0 := box_keep X_g0 b11 (by omega)
  replace Y_g0 : w8.heap.size < w12.heap.size := by omega
  replace hB := hB.trans (b11.mono hB.size)
  clear hb b11
  go_wp2_with fail
  refine (eqRowS_c aL n6 aL n11 _ (H_n6.rdR) (by omega) (H_n11.rdR) (by omega)).mono ?_
  rintro e w13 ⟨rfl, hb⟩
  have b12 : Below w12.heap.size w12 w13 := hb
  have z12 := b12.size
  replace H_aQ_p := H_aQ_p.below b12 (by omega)
  replace H_aQ_o := H_aQ_o.below b12 (by omega)
  replace H_aL_s := H_aL_s.below b12 (by omega)
  replace H_n2p := H_n2p.below b12 (by omega)
  replace H_n2o := H_n2o.below b12 (by omega)
  replace H_n3 := H_n3.below b12 (by omega)
  replace H_n4lq := H_n4lq.below b12 (by omega)
  replace H_n5p := H_n5p.below b12 (by omega)
  replace H_n5o := H_n5o.below b12 (by omega)
  replace H_n6 := H_n6.below b12 (by omega)
  replace H_n7lq := H_n7lq.below b12 (by omega)
  replace H_r90p := H_r90p.below b12 (by omega)
  replace H_r90o := H_r90o.below b12 (by omega)
  replace H_n11 := H_n11.below b12 (by omega)
  replace X_aQ := box_keep X_aQ b12 (by omega)
  replace Y_aQ : w.heap.size < w13.heap.size := by omega
  replace X_w0 := box_keep X_w0 b12 (by omega)
  replace Y_w0 : w5.heap.size < w13.heap.size := by omega
  replace X_x0 := box_keep X_x0 b12 (by omega)
  replace Y_x0 : w6.heap.size < w13.heap.size := by omega
  replace X_g0 := box_keep X_g0 b12 (by omega)
  replace Y_g0 : w8.heap.size < w13.heap.size := by omega
  replace hB := hB.trans (b12.mono hB.size)
  clear hb b12
  try simp only [eqd_self]
  go_wp2_with fail
  refine (markQuery_c aQ (.slice A_n5p (aQ.p.l).length k_n5p) (.slice A_n5o (aQ.out).length k_n5o) 1 _ H_n5p H_n5o (by omega) (by omega) (by omega) (by omega) (by omega)).mono ?_
  rintro e w14 ⟨rfl, hb⟩
  clear H_n5p
  clear H_n5o
  have z13 := hb.size
  replace H_aQ_p := H_aQ_p.same (.of_chg hb (by omega) (by omega))
  replace H_aQ_o := H_aQ_o.same (.of_chg hb (by omega) (by omega))
  replace H_aL_s := H_aL_s.same (.of_chg hb (by omega) (by omega))
  replace H_n2p := H_n2p.same (.of_chg hb (by omega) (by omega))
  replace H_n2o := H_n2o.same (.of_chg hb (by omega) (by omega))
  replace H_n3 := H_n3.same (.of_chg hb (by omega) (by omega))
  replace H_n4lq := H_n4lq.same (.of_chg hb (by omega) (by omega))
  replace H_n6 := H_n6.same (.of_chg hb (by omega) (by omega))
  replace H_n7lq := H_n7lq.same (.of_chg hb (by omega) (by omega))
  replace H_r90p := H_r90p.same (.of_chg hb (by omega) (by omega))
  replace H_r90o := H_r90o.same (.of_chg hb (by omega) (by omega))
  replace H_n11 := H_n11.same (.of_chg hb (by omega) (by omega))
  replace X_aQ := box_chg X_aQ hb (by omega) (by omega)
  replace Y_aQ : w.heap.size < w14.heap.size := by omega
  replace X_w0 := box_chg X_w0 hb (by omega) (by omega)
  replace Y_w0 : w5.heap.size < w14.heap.size := by omega
  replace X_x0 := box_chg X_x0 hb (by omega) (by omega)
  replace Y_x0 : w6.heap.size < w14.heap.size := by omega
  replace X_g0 := box_chg X_g0 hb (by omega) (by omega)
  replace Y_g0 : w8.heap.size < w14.heap.size := by omega
  replace hB := hB.trans (hb.below (by omega) (by omega))
  clear hb
  go_wp2_with fail
  refine (markRowS_c n6 aL (1 + 6 * (cntP (aQ).p.l : Nat) + ((aQ).out.length : Nat)) _ H_n6 (by omega) (by omega)).mono ?_
  rintro e w15 ⟨rfl, H_n6m, hb⟩
  clear H_n6
  have z14 := hb.size
  replace H_aQ_p := H_aQ_p.same (.of_chg hb (by omega) (by omega))
  replace H_aQ_o := H_aQ_o.same (.of_chg hb (by omega) (by omega))
  replace H_aL_s := H_aL_s.same (.of_chg hb (by omega) (by omega))
  replace H_n2p := H_n2p.same (.of_chg hb (by omega) (by omega))
  replace H_n2o := H_n2o.same (.of_chg hb (by omega) (by omega))
  replace H_n3 := H_n3.same (.of_chg hb (by omega) (by omega))
  replace H_n4lq := H_n4lq.same (.of_chg hb (by omega) (by omega))
  replace H_n7lq := H_n7lq.same (.of_chg hb (by omega) (by omega))
  replace H_r90p := H_r90p.same (.of_chg hb (by omega) (by omega))
  replace H_r90o := H_r90o.same (.of_chg hb (by omega) (by omega))
  replace H_n11 := H_n11.same (.of_chg hb (by omega) (by omega))
  replace X_aQ := box_chg X_aQ hb (by omega) (by omega)
  replace Y_aQ : w.heap.size < w15.heap.size := by omega
  replace X_w0 := box_chg X_w0 hb (by omega) (by omega)
  replace Y_w0 : w5.heap.size < w15.heap.size := by omega
  replace X_x0 := box_chg X_x0 hb (by omega) (by omega)
  replace Y_x0 : w6.heap.size < w15.heap.size := by omega
  replace X_g0 := box_chg X_g0 hb (by omega) (by omega)
  replace Y_g0 : w8.heap.size < w15.heap.size := by omega
  replace hB := hB.trans (hb.below (by omega) (by omega))
  clear hb
  have H_n6 := H_n6m
  clear H_n6m
  go_wp2_with fail
  refine (eqResult_c ((answer aQ aL)) (.slice A_n7lq ((answer aQ aL).rows).length k_n7lq) ((answer aQ aL)) (.slice A_n4lq ((answer aQ aL).rows).length k_n4lq) _ (H_n7lq.rdR) (by omega) (H_n4lq.rdR) (by omega)).mono ?_
  rintro e w16 ⟨rfl, hb⟩
  have b15 : Below w15.heap.size w15 w16 := hb
  have z15 := b15.size
  replace H_aQ_p := H_aQ_p.below b15 (by omega)
  replace H_aQ_o := H_aQ_o.below b15 (by omega)
  replace H_aL_s := H_aL_s.below b15 (by omega)
  replace H_n2p := H_n2p.below b15 (by omega)
  replace H_n2o := H_n2o.below b15 (by omega)
  replace H_n3 := H_n3.below b15 (by omega)
  replace H_n4lq := H_n4lq.below b15 (by omega)
  replace H_n6 := H_n6.below b15 (by omega)
  replace H_n7lq := H_n7lq.below b15 (by omega)
  replace H_r90p := H_r90p.below b15 (by omega)
  replace H_r90o := H_r90o.below b15 (by omega)
  replace H_n11 := H_n11.below b15 (by omega)
  replace X_aQ := box_keep X_aQ b15 (by omega)
  replace Y_aQ : w.heap.size < w16.heap.size := by omega
  replace X_w0 := box_keep X_w0 b15 (by omega)
  replace Y_w0 : w5.heap.size < w16.heap.size := by omega
  replace X_x0 := box_keep X_x0 b15 (by omega)
  replace Y_x0 : w6.heap.size < w16.heap.size := by omega
  replace X_g0 := box_keep X_g0 b15 (by omega)
  replace Y_g0 : w8.heap.size < w16.heap.size := by omega
  replace hB := hB.trans (b15.mono hB.size)
  clear hb b15
  try simp only [eqd_self]
  go_wp2_with fail
  refine (markResult_c ((answer aQ aL)) (.slice A_n7lq ((answer aQ aL).rows).length k_n7lq) 1 _ H_n7lq (by omega) (by omega) (by omega)).mono ?_
  rintro e w17 ⟨rfl, H_n7lqm, hb⟩
  clear H_n7lq
  have z16 := hb.size
  replace H_aQ_p := H_aQ_p.same (.of_chg hb (by omega) (by omega))
  replace H_aQ_o := H_aQ_o.same (.of_chg hb (by omega) (by omega))
  replace H_aL_s := H_aL_s.same (.of_chg hb (by omega) (by omega))
  replace H_n2p := H_n2p.same (.of_chg hb (by omega) (by omega))
  replace H_n2o := H_n2o.same (.of_chg hb (by omega) (by omega))
  replace H_n3 := H_n3.same (.of_chg hb (by omega) (by omega))
  replace H_n4lq := H_n4lq.same (.of_chg hb (by omega) (by omega))
  replace H_n6 := H_n6.same (.of_chg hb (by omega) (by omega))
  replace H_r90p := H_r90p.same (.of_chg hb (by omega) (by omega))
  replace H_r90o := H_r90o.same (.of_chg hb (by omega) (by omega))
  replace H_n11 := H_n11.same (.of_chg hb (by omega) (by omega))
  replace X_aQ := box_chg X_aQ hb (by omega) (by omega)
  replace Y_aQ : w.heap.size < w17.heap.size := by omega
  replace X_w0 := box_chg X_w0 hb (by omega) (by omega)
  replace Y_w0 : w5.heap.size < w17.heap.size := by omega
  replace X_x0 := box_chg X_x0 hb (by omega) (by omega)
  replace Y_x0 : w6.heap.size < w17.heap.size := by omega
  replace X_g0 := box_chg X_g0 hb (by omega) (by omega)
  replace Y_g0 : w8.heap.size < w17.heap.size := by omega
  replace hB := hB.trans (hb.below (by omega) (by omega))
  clear hb
  have H_n7lq := H_n7lqm
  clear H_n7lqm
  go_wp2_with fail
  refine (heldResult_c ((answer aQ aL)) (.slice A_n7lq ((answer aQ aL).rows).length k_n7lq) 1 _ H_n7lq (by omega) (by omega) (by omega)).mono ?_
  rintro e w18 ⟨rfl, hb⟩
  have b17 : Below w17.heap.size w17 w18 := hb
  have z17 := b17.size
  replace H_aQ_p := H_aQ_p.below b17 (by omega)
  replace H_aQ_o := H_aQ_o.below b17 (by omega)
  replace H_aL_s := H_aL_s.below b17 (by omega)
  replace H_n2p := H_n2p.below b17 (by omega)
  replace H_n2o := H_n2o.below b17 (by omega)
  replace H_n3 := H_n3.below b17 (by omega)
  replace H_n4lq := H_n4lq.below b17 (by omega)
  replace H_n6 := H_n6.below b17 (by omega)
  replace H_n7lq := H_n7lq.below b17 (by omega)
  replace H_r90p := H_r90p.below b17 (by omega)
  replace H_r90o := H_r90o.below b17 (by omega)
  replace H_n11 := H_n11.below b17 (by omega)
  replace X_aQ := box_keep X_aQ b17 (by omega)
  replace Y_aQ : w.heap.size < w18.heap.size := by omega
  replace X_w0 := box_keep X_w0 b17 (by omega)
  replace Y_w0 : w5.heap.size < w18.heap.size := by omega
  replace X_x0 := box_keep X_x0 b17 (by omega)
  replace Y_x0 : w6.heap.size < w18.heap.size := by omega
  replace X_g0 := box_keep X_g0 b17 (by omega)
  replace Y_g0 : w8.heap.size < w18.heap.size := by omega
  replace hB := hB.trans (b17.mono hB.size)
  clear hb b17
  go_wp2_with fail
  refine (toQuery_c aQ aQ_p aQ_o _ (H_aQ_p) (by omega) (H_aQ_o) (by omega) T_aQ).mono ?_
  rintro e w19 ⟨M_n18p, n18p, n18o, rfl, H_n18p, H_n18o, ma_n18p, mb_n18p, hb⟩
  have b18 : Below w18.heap.size w18 w19 := hb
  have z18 := b18.size
  replace H_aQ_p := H_aQ_p.below b18 (by omega)
  replace H_aQ_o := H_aQ_o.below b18 (by omega)
  replace H_aL_s := H_aL_s.below b18 (by omega)
  replace H_n2p := H_n2p.below b18 (by omega)
  replace H_n2o := H_n2o.below b18 (by omega)
  replace H_n3 := H_n3.below b18 (by omega)
  replace H_n4lq := H_n4lq.below b18 (by omega)
  replace H_n6 := H_n6.below b18 (by omega)
  replace H_n7lq := H_n7lq.below b18 (by omega)
  replace H_r90p := H_r90p.below b18 (by omega)
  replace H_r90o := H_r90o.below b18 (by omega)
  replace H_n11 := H_n11.below b18 (by omega)
  replace X_aQ := box_keep X_aQ b18 (by omega)
  replace Y_aQ : w.heap.size < w19.heap.size := by omega
  replace X_w0 := box_keep X_w0 b18 (by omega)
  replace Y_w0 : w5.heap.size < w19.heap.size := by omega
  replace X_x0 := box_keep X_x0 b18 (by omega)
  replace Y_x0 : w6.heap.size < w19.heap.size := by omega
  replace X_g0 := box_keep X_g0 b18 (by omega)
  replace Y_g0 : w8.heap.size < w19.heap.size := by omega
  replace hB := hB.trans (b18.mono hB.size)
  clear hb b18
  obtain ⟨A_n18p, k_n18p, rfl, -, -⟩ := (H_n18p.rdP).form
  obtain ⟨A_n18o, k_n18o, rfl, -, -⟩ := (H_n18o.rdI).form
  go_wp2_with fail
  refine (toRowS_c aL aL_s _ (H_aL_s) (by omega) T_aL).mono ?_
  rintro e w20 ⟨n19, rfl, H_n19, hb⟩
  have b19 : Below w19.heap.size w19 w20 := hb
  have z19 := b19.size
  replace H_aQ_p := H_aQ_p.below b19 (by omega)
  replace H_aQ_o := H_aQ_o.below b19 (by omega)
  replace H_aL_s := H_aL_s.below b19 (by omega)
  replace H_n2p := H_n2p.below b19 (by omega)
  replace H_n2o := H_n2o.below b19 (by omega)
  replace H_n3 := H_n3.below b19 (by omega)
  replace H_n4lq := H_n4lq.below b19 (by omega)
  replace H_n6 := H_n6.below b19 (by omega)
  replace H_n7lq := H_n7lq.below b19 (by omega)
  replace H_r90p := H_r90p.below b19 (by omega)
  replace H_r90o := H_r90o.below b19 (by omega)
  replace H_n11 := H_n11.below b19 (by omega)
  replace H_n18p := H_n18p.below b19 (by omega)
  replace H_n18o := H_n18o.below b19 (by omega)
  replace X_aQ := box_keep X_aQ b19 (by omega)
  replace Y_aQ : w.heap.size < w20.heap.size := by omega
  replace X_w0 := box_keep X_w0 b19 (by omega)
  replace Y_w0 : w5.heap.size < w20.heap.size := by omega
  replace X_x0 := box_keep X_x0 b19 (by omega)
  replace Y_x0 : w6.heap.size < w20.heap.size := by omega
  replace X_g0 := box_keep X_g0 b19 (by omega)
  replace Y_g0 : w8.heap.size < w20.heap.size := by omega
  replace hB := hB.trans (b19.mono hB.size)
  clear hb b19
  go_wp2_with fail
  refine (impl_Answer aQ (.slice A_n18p (aQ.p.l).length k_n18p) (.slice A_n18o (aQ.out).length k_n18o) aL n19 _ (H_n18p.rdP) (by omega) (H_n18o.rdI) (by omega) (H_n19.rdR) (by omega)  ⟨T_aL.1, T_aL.2.2⟩ T_aQ.2).mono ?_
  rintro e w21 ⟨n20lq, rfl, H_n20lq, hb⟩
  have b20 : Below w20.heap.size w20 w21 := hb
  have z20 := b20.size
  replace H_aQ_p := H_aQ_p.below b20 (by omega)
  replace H_aQ_o := H_aQ_o.below b20 (by omega)
  replace H_aL_s := H_aL_s.below b20 (by omega)
  replace H_n2p := H_n2p.below b20 (by omega)
  replace H_n2o := H_n2o.below b20 (by omega)
  replace H_n3 := H_n3.below b20 (by omega)
  replace H_n4lq := H_n4lq.below b20 (by omega)
  replace H_n6 := H_n6.below b20 (by omega)
  replace H_n7lq := H_n7lq.below b20 (by omega)
  replace H_r90p := H_r90p.below b20 (by omega)
  replace H_r90o := H_r90o.below b20 (by omega)
  replace H_n11 := H_n11.below b20 (by omega)
  replace H_n18p := H_n18p.below b20 (by omega)
  replace H_n18o := H_n18o.below b20 (by omega)
  replace H_n19 := H_n19.below b20 (by omega)
  replace X_aQ := box_keep X_aQ b20 (by omega)
  replace Y_aQ : w.heap.size < w21.heap.size := by omega
  replace X_w0 := box_keep X_w0 b20 (by omega)
  replace Y_w0 : w5.heap.size < w21.heap.size := by omega
  replace X_x0 := box_keep X_x0 b20 (by omega)
  replace Y_x0 : w6.heap.size < w21.heap.size := by omega
  replace X_g0 := box_keep X_g0 b20 (by omega)
  replace Y_g0 : w8.heap.size < w21.heap.size := by omega
  replace hB := hB.trans (b20.mono hB.size)
  clear hb b20
  obtain ⟨A_n20lq, k_n20lq, rfl, -, -⟩ := (H_n20lq.rdR).form
  go_wp2_with fail
  refine (eqResult_c ((answer aQ aL)) (.slice A_n20lq ((answer aQ aL).rows).length k_n20lq) ((answer aQ aL)) (.slice A_n4lq ((answer aQ aL).rows).length k_n4lq) _ (RdR.below (H_n20lq.rdR) (up_a1 w21 _ ) (by omega)) (by simp only [World.size_alloc]; omega) (RdR.below (H_n4lq.rdR) (up_a1 w21 _ ) (by omega)) (by simp only [World.size_alloc]; omega)).mono ?_
  rintro e w22 ⟨rfl, hb⟩
  have b21 : Below w21.heap.size w21 w22 := below_a1 hb
  have z21 : w21.heap.size + 1 ≤ w22.heap.size := by have h := hb.size; simpa [Nat.add_assoc] using h
  replace H_aQ_p := H_aQ_p.below b21 (by omega)
  replace H_aQ_o := H_aQ_o.below b21 (by omega)
  replace H_aL_s := H_aL_s.below b21 (by omega)
  replace H_n2p := H_n2p.below b21 (by omega)
  replace H_n2o := H_n2o.below b21 (by omega)
  replace H_n3 := H_n3.below b21 (by omega)
  replace H_n4lq := H_n4lq.below b21 (by omega)
  replace H_n6 := H_n6.below b21 (by omega)
  replace H_n7lq := H_n7lq.below b21 (by omega)
  replace H_r90p := H_r90p.below b21 (by omega)
  replace H_r90o := H_r90o.below b21 (by omega)
  replace H_n11 := H_n11.below b21 (by omega)
  replace H_n18p := H_n18p.below b21 (by omega)
  replace H_n18o := H_n18o.below b21 (by omega)
  replace H_n19 := H_n19.below b21 (by omega)
  replace H_n20lq := H_n20lq.below b21 (by omega)
  replace X_aQ := box_keep X_aQ b21 (by omega)
  replace Y_aQ : w.heap.size < w22.heap.size := by omega
  replace X_w0 := box_keep X_w0 b21 (by omega)
  replace Y_w0 : w5.heap.size < w22.heap.size := by omega
  replace X_x0 := box_keep X_x0 b21 (by omega)
  replace Y_x0 : w6.heap.size < w22.heap.size := by omega
  replace X_g0 := box_keep X_g0 b21 (by omega)
  replace Y_g0 : w8.heap.size < w22.heap.size := by omega
  have X_h0 : ∀ o, w22.cell? ⟨w21.heap.size, o, none⟩ = (#[(.slice A_n20lq ((answer aQ aL).rows).length k_n20lq), .int .i64 (answer aQ aL).n, .bool (answer aQ aL).has, .int .i64 (answer aQ aL).v.ty, .int .i64 (answer aQ aL).v.n, .string (answer aQ aL).v.s] : Array Value)[o]? := by
    intro o
    have h := box_new w21 #[(.slice A_n20lq ((answer aQ aL).rows).length k_n20lq), .int .i64 (answer aQ aL).n, .bool (answer aQ aL).has, .int .i64 (answer aQ aL).v.ty, .int .i64 (answer aQ aL).v.n, .string (answer aQ aL).v.s] 99 o
    replace h := (hb.cell (p := ⟨_, o, none⟩) (by simp <;> omega)).trans h
    simpa [Nat.add_assoc] using h
  have Y_h0 : w21.heap.size < w22.heap.size := by omega
  replace hB := hB.trans (b21.mono hB.size)
  clear hb b21
  try simp only [eqd_self]
  go_wp2_with fail
  refine (heldResult_c ((answer aQ aL)) (.slice A_n7lq ((answer aQ aL).rows).length k_n7lq) 1 _ H_n7lq (by omega) (by omega) (by omega)).mono ?_
  rintro e w23 ⟨rfl, hb⟩
  have b22 : Below w22.heap.size w22 w23 := hb
  have z22 := b22.size
  replace H_aQ_p := H_aQ_p.below b22 (by omega)
  replace H_aQ_o := H_aQ_o.below b22 (by omega)
  replace H_aL_s := H_aL_s.below b22 (by omega)
  replace H_n2p := H_n2p.below b22 (by omega)
  replace H_n2o := H_n2o.below b22 (by omega)
  replace H_n3 := H_n3.below b22 (by omega)
  replace H_n4lq := H_n4lq.below b22 (by omega)
  replace H_n6 := H_n6.below b22 (by omega)
  replace H_n7lq := H_n7lq.below b22 (by omega)
  replace H_r90p := H_r90p.below b22 (by omega)
  replace H_r90o := H_r90o.below b22 (by omega)
  replace H_n11 := H_n11.below b22 (by omega)
  replace H_n18p := H_n18p.below b22 (by omega)
  replace H_n18o := H_n18o.below b22 (by omega)
  replace H_n19 := H_n19.below b22 (by omega)
  replace H_n20lq := H_n20lq.below b22 (by omega)
  replace X_aQ := box_keep X_aQ b22 (by omega)
  replace Y_aQ : w.heap.size < w23.heap.size := by omega
  replace X_w0 := box_keep X_w0 b22 (by omega)
  replace Y_w0 : w5.heap.size < w23.heap.size := by omega
  replace X_x0 := box_keep X_x0 b22 (by omega)
  replace Y_x0 : w6.heap.size < w23.heap.size := by omega
  replace X_g0 := box_keep X_g0 b22 (by omega)
  replace Y_g0 : w8.heap.size < w23.heap.size := by omega
  replace X_h0 := box_keep X_h0 b22 (by omega)
  replace Y_h0 : w21.heap.size < w23.heap.size := by omega
  replace hB := hB.trans (b22.mono hB.size)
  clear hb b22
  go_wp2_with fail
  go_ret
  exact ⟨rfl, hB⟩

end Go.Proofs.Ytgjjkodlmhmjgaa
