/- The law FnExactJoined: its walk, out of the contracts of what it calls. -/
import Derived.Test.YtgjjkodlmhmjgaaS44
import Derived.Test.YtgjjkodlmhmjgaaJB
import Derived.Test.YtgjjkodlmhmjgaaLQ2
import Derived.Test.YtgjjkodlmhmjgaaLRes
namespace Go.Proofs.Ytgjjkodlmhmjgaa
open Go.ChangeShapes Go.WideShapes Go.ChangeAt Go.RowKit Go.Lb

set_option maxRecDepth 20000 in
set_option maxHeartbeats 4000000 in
theorem wJoined (aQ : Q) (aQ_p : Value) (aQ_o : Value) (aA : Res) (aA_l : Value) (aB : Res) (aB_l : Value) (w : World) (H_aQ_p : RdP w 0 w.heap.size aQ_p (aQ.p.l)) (H_aQ_o : RdI w 0 w.heap.size aQ_o (aQ.out)) (c0_aQ : POk aQ.p) (H_aA_l : RdR w 0 w.heap.size aA_l (aA.rows)) (c0_aA : RsOk aA.rows) (c1_aA : aA.v.s.size ≤ maxLen) (H_aB_l : RdR w 0 w.heap.size aB_l (aB.rows)) (c0_aB : RsOk aB.rows) (c1_aB : aB.v.s.size ≤ maxLen) :
    Calls Try.prog 13 #[.agg #[.int .i64 aQ.kind, .int .i64 aQ.p.kind, .int .i64 aQ.p.col, .int .i64 aQ.p.op, .int .i64 aQ.p.v.ty, .int .i64 aQ.p.v.n, .string aQ.p.v.s, aQ_p, .int .i64 aQ.col, aQ_o], .agg #[aA_l, .int .i64 aA.n, .bool aA.has, .int .i64 aA.v.ty, .int .i64 aA.v.n, .string aA.v.s], .agg #[aB_l, .int .i64 aB.n, .bool aB.has, .int .i64 aB.v.ty, .int .i64 aB.v.n, .string aB.v.s]] w fun e w' => e = .returned (.bool true) ∧ Below w.heap.size w w' := by
  have C0_aQ := Lib.hid c0_aQ
  clear c0_aQ
  have C0_aA := Lib.hid c0_aA
  clear c0_aA
  have C0_aB := Lib.hid c0_aB
  clear c0_aB
  have O0 := joined_bd aQ aA aB
  have hB : Below w.heap.size w w := Below.refl _ _
  go_enter Try.func13, Try.ntmps13
  go_wp2_with fail
  refine (szQuery_c aQ aQ_p aQ_o 1048576 _ (RdP.below (H_aQ_p) (up_a3 w _ _ _ ) (by omega)) (by simp only [World.size_alloc]; omega) (RdI.below (H_aQ_o) (up_a3 w _ _ _ ) (by omega)) (by simp only [World.size_alloc]; omega) C0_aQ.out (by omega) (by omega)).mono ?_
  rintro e w1 ⟨m0, rfl, L0, T_aQ, hb⟩
  have b0 : Below w.heap.size w w1 := below_a3 hb
  have z0 : w.heap.size + 3 ≤ w1.heap.size := by have h := hb.size; simpa [Nat.add_assoc] using h
  replace H_aQ_p := H_aQ_p.below b0 (by omega)
  replace H_aQ_o := H_aQ_o.below b0 (by omega)
  replace H_aA_l := H_aA_l.below b0 (by omega)
  replace H_aB_l := H_aB_l.below b0 (by omega)
  have X_aQ : ∀ o, w1.cell? ⟨w.heap.size, o, none⟩ = (#[.int .i64 aQ.kind, .int .i64 aQ.p.kind, .int .i64 aQ.p.col, .int .i64 aQ.p.op, .int .i64 aQ.p.v.ty, .int .i64 aQ.p.v.n, .string aQ.p.v.s, aQ_p, .int .i64 aQ.col, aQ_o] : Array Value)[o]? := by
    intro o
    have h := box_new w #[.int .i64 aQ.kind, .int .i64 aQ.p.kind, .int .i64 aQ.p.col, .int .i64 aQ.p.op, .int .i64 aQ.p.v.ty, .int .i64 aQ.p.v.n, .string aQ.p.v.s, aQ_p, .int .i64 aQ.col, aQ_o] 79 o
    replace h := (World.cell?_alloc_lt (w.alloc (.cells #[.int .i64 aQ.kind, .int .i64 aQ.p.kind, .int .i64 aQ.p.col, .int .i64 aQ.p.op, .int .i64 aQ.p.v.ty, .int .i64 aQ.p.v.n, .string aQ.p.v.s, aQ_p, .int .i64 aQ.col, aQ_o] 79)) (.cells #[aA_l, .int .i64 aA.n, .bool aA.has, .int .i64 aA.v.ty, .int .i64 aA.v.n, .string aA.v.s] 96) ⟨_, o, none⟩ (by simp <;> omega)).trans h
    replace h := (World.cell?_alloc_lt ((w.alloc (.cells #[.int .i64 aQ.kind, .int .i64 aQ.p.kind, .int .i64 aQ.p.col, .int .i64 aQ.p.op, .int .i64 aQ.p.v.ty, .int .i64 aQ.p.v.n, .string aQ.p.v.s, aQ_p, .int .i64 aQ.col, aQ_o] 79)).alloc (.cells #[aA_l, .int .i64 aA.n, .bool aA.has, .int .i64 aA.v.ty, .int .i64 aA.v.n, .string aA.v.s] 96)) (.cells #[aB_l, .int .i64 aB.n, .bool aB.has, .int .i64 aB.v.ty, .int .i64 aB.v.n, .string aB.v.s] 96) ⟨_, o, none⟩ (by simp <;> omega)).trans h
    replace h := (hb.cell (p := ⟨_, o, none⟩) (by simp <;> omega)).trans h
    simpa [Nat.add_assoc] using h
  have Y_aQ : w.heap.size < w1.heap.size := by omega
  have X_aA : ∀ o, w1.cell? ⟨w.heap.size + 1, o, none⟩ = (#[aA_l, .int .i64 aA.n, .bool aA.has, .int .i64 aA.v.ty, .int .i64 aA.v.n, .string aA.v.s] : Array Value)[o]? := by
    intro o
    have h := box_new (w.alloc (.cells #[.int .i64 aQ.kind, .int .i64 aQ.p.kind, .int .i64 aQ.p.col, .int .i64 aQ.p.op, .int .i64 aQ.p.v.ty, .int .i64 aQ.p.v.n, .string aQ.p.v.s, aQ_p, .int .i64 aQ.col, aQ_o] 79)) #[aA_l, .int .i64 aA.n, .bool aA.has, .int .i64 aA.v.ty, .int .i64 aA.v.n, .string aA.v.s] 96 o
    replace h := (World.cell?_alloc_lt ((w.alloc (.cells #[.int .i64 aQ.kind, .int .i64 aQ.p.kind, .int .i64 aQ.p.col, .int .i64 aQ.p.op, .int .i64 aQ.p.v.ty, .int .i64 aQ.p.v.n, .string aQ.p.v.s, aQ_p, .int .i64 aQ.col, aQ_o] 79)).alloc (.cells #[aA_l, .int .i64 aA.n, .bool aA.has, .int .i64 aA.v.ty, .int .i64 aA.v.n, .string aA.v.s] 96)) (.cells #[aB_l, .int .i64 aB.n, .bool aB.has, .int .i64 aB.v.ty, .int .i64 aB.v.n, .string aB.v.s] 96) ⟨_, o, none⟩ (by simp <;> omega)).trans h
    replace h := (hb.cell (p := ⟨_, o, none⟩) (by simp <;> omega)).trans h
    simpa [Nat.add_assoc] using h
  have Y_aA : w.heap.size + 1 < w1.heap.size := by omega
  have X_aB : ∀ o, w1.cell? ⟨w.heap.size + 2, o, none⟩ = (#[aB_l, .int .i64 aB.n, .bool aB.has, .int .i64 aB.v.ty, .int .i64 aB.v.n, .string aB.v.s] : Array Value)[o]? := by
    intro o
    have h := box_new ((w.alloc (.cells #[.int .i64 aQ.kind, .int .i64 aQ.p.kind, .int .i64 aQ.p.col, .int .i64 aQ.p.op, .int .i64 aQ.p.v.ty, .int .i64 aQ.p.v.n, .string aQ.p.v.s, aQ_p, .int .i64 aQ.col, aQ_o] 79)).alloc (.cells #[aA_l, .int .i64 aA.n, .bool aA.has, .int .i64 aA.v.ty, .int .i64 aA.v.n, .string aA.v.s] 96)) #[aB_l, .int .i64 aB.n, .bool aB.has, .int .i64 aB.v.ty, .int .i64 aB.v.n, .string aB.v.s] 96 o
    replace h := (hb.cell (p := ⟨_, o, none⟩) (by simp <;> omega)).trans h
    simpa [Nat.add_assoc] using h
  have Y_aB : w.heap.size + 2 < w1.heap.size := by omega
  replace hB := hB.trans (b0.mono hB.size)
  clear hb b0
  by_cases h0 : m0 < 0
  · go_wp2_with fail
    go_ret
    exact ⟨rfl, hB⟩
  replace T_aQ := T_aQ (by omega)
  go_wp2_with fail
  refine (szResult_c aA aA_l m0 _ (H_aA_l) (by omega) C0_aA.out c1_aA (by omega) L0).mono ?_
  rintro e w2 ⟨rfl, hb⟩
  have b1 : Below w1.heap.size w1 w2 := hb
  have z1 := b1.size
  replace H_aQ_p := H_aQ_p.below b1 (by omega)
  replace H_aQ_o := H_aQ_o.below b1 (by omega)
  replace H_aA_l := H_aA_l.below b1 (by omega)
  replace H_aB_l := H_aB_l.below b1 (by omega)
  replace X_aQ := box_keep X_aQ b1 (by omega)
  replace Y_aQ : w.heap.size < w2.heap.size := by omega
  replace X_aA := box_keep X_aA b1 (by omega)
  replace Y_aA : w.heap.size + 1 < w2.heap.size := by omega
  replace X_aB := box_keep X_aB b1 (by omega)
  replace Y_aB : w.heap.size + 2 < w2.heap.size := by omega
  replace hB := hB.trans (b1.mono hB.size)
  clear hb b1
  have L1 := szResult_le aA m0 (by omega) L0
  have T_aA := szResult_bd aA m0 (by omega) L0
  generalize szResult aA m0 = m1 at *
  by_cases h1 : m1 < 0
  · go_wp2_with fail
    go_ret
    exact ⟨rfl, hB⟩
  replace T_aA := T_aA h1
  go_wp2_with fail
  refine (szResult_c aB aB_l m1 _ (H_aB_l) (by omega) C0_aB.out c1_aB (by omega) L1).mono ?_
  rintro e w3 ⟨rfl, hb⟩
  have b2 : Below w2.heap.size w2 w3 := hb
  have z2 := b2.size
  replace H_aQ_p := H_aQ_p.below b2 (by omega)
  replace H_aQ_o := H_aQ_o.below b2 (by omega)
  replace H_aA_l := H_aA_l.below b2 (by omega)
  replace H_aB_l := H_aB_l.below b2 (by omega)
  replace X_aQ := box_keep X_aQ b2 (by omega)
  replace Y_aQ : w.heap.size < w3.heap.size := by omega
  replace X_aA := box_keep X_aA b2 (by omega)
  replace Y_aA : w.heap.size + 1 < w3.heap.size := by omega
  replace X_aB := box_keep X_aB b2 (by omega)
  replace Y_aB : w.heap.size + 2 < w3.heap.size := by omega
  replace hB := hB.trans (b2.mono hB.size)
  clear hb b2
  have L2 := szResult_le aB m1 (by omega) L1
  have T_aB := szResult_bd aB m1 (by omega) L1
  generalize szResult aB m1 = m2 at *
  by_cases h2 : m2 < 0
  · go_wp2_with fail
    go_ret
    exact ⟨rfl, hB⟩
  replace T_aB := T_aB h2
  have hX_aQ := Lib.hid X_aQ
  have hX_aA := Lib.hid X_aA
  have hX_aB := Lib.hid X_aB
  clear X_aQ X_aA X_aB
  go_upto_region 11 with fail
  have HS := Lib.hid (fun (W : World) (h : Below w3.heap.size w3 W) => show W.cell? ⟨w.heap.size, 0, none⟩ = some (.int .i64 aQ.kind) ∧ W.cell? ⟨w.heap.size, 1, none⟩ = some (.int .i64 aQ.p.kind) ∧ W.cell? ⟨w.heap.size, 2, none⟩ = some (.int .i64 aQ.p.col) ∧ W.cell? ⟨w.heap.size, 3, none⟩ = some (.int .i64 aQ.p.op) ∧ W.cell? ⟨w.heap.size, 4, none⟩ = some (.int .i64 aQ.p.v.ty) ∧ W.cell? ⟨w.heap.size, 5, none⟩ = some (.int .i64 aQ.p.v.n) ∧ W.cell? ⟨w.heap.size, 6, none⟩ = some (.string aQ.p.v.s) ∧ W.cell? ⟨w.heap.size, 7, none⟩ = some (aQ_p) ∧ W.cell? ⟨w.heap.size, 8, none⟩ = some (.int .i64 aQ.col) ∧ W.cell? ⟨w.heap.size, 9, none⟩ = some (aQ_o) ∧ W.cell? ⟨w.heap.size + 1, 0, none⟩ = some (aA_l) ∧ W.cell? ⟨w.heap.size + 1, 1, none⟩ = some (.int .i64 aA.n) ∧ W.cell? ⟨w.heap.size + 1, 2, none⟩ = some (.bool aA.has) ∧ W.cell? ⟨w.heap.size + 1, 3, none⟩ = some (.int .i64 aA.v.ty) ∧ W.cell? ⟨w.heap.size + 1, 4, none⟩ = some (.int .i64 aA.v.n) ∧ W.cell? ⟨w.heap.size + 1, 5, none⟩ = some (.string aA.v.s) ∧ W.cell? ⟨w.heap.size + 2, 0, none⟩ = some (aB_l) ∧ W.cell? ⟨w.heap.size + 2, 1, none⟩ = some (.int .i64 aB.n) ∧ W.cell? ⟨w.heap.size + 2, 2, none⟩ = some (.bool aB.has) ∧ W.cell? ⟨w.heap.size + 2, 3, none⟩ = some (.int .i64 aB.v.ty) ∧ W.cell? ⟨w.heap.size + 2, 4, none⟩ = some (.int .i64 aB.v.n) ∧ W.cell? ⟨w.heap.size + 2, 5, none⟩ = some (.string aB.v.s) from ⟨(h.cell (p := ⟨w.heap.size, 0, none⟩) (show w.heap.size < _ by omega)).trans (hX_aQ.out 0), (h.cell (p := ⟨w.heap.size, 1, none⟩) (show w.heap.size < _ by omega)).trans (hX_aQ.out 1), (h.cell (p := ⟨w.heap.size, 2, none⟩) (show w.heap.size < _ by omega)).trans (hX_aQ.out 2), (h.cell (p := ⟨w.heap.size, 3, none⟩) (show w.heap.size < _ by omega)).trans (hX_aQ.out 3), (h.cell (p := ⟨w.heap.size, 4, none⟩) (show w.heap.size < _ by omega)).trans (hX_aQ.out 4), (h.cell (p := ⟨w.heap.size, 5, none⟩) (show w.heap.size < _ by omega)).trans (hX_aQ.out 5), (h.cell (p := ⟨w.heap.size, 6, none⟩) (show w.heap.size < _ by omega)).trans (hX_aQ.out 6), (h.cell (p := ⟨w.heap.size, 7, none⟩) (show w.heap.size < _ by omega)).trans (hX_aQ.out 7), (h.cell (p := ⟨w.heap.size, 8, none⟩) (show w.heap.size < _ by omega)).trans (hX_aQ.out 8), (h.cell (p := ⟨w.heap.size, 9, none⟩) (show w.heap.size < _ by omega)).trans (hX_aQ.out 9), (h.cell (p := ⟨w.heap.size + 1, 0, none⟩) (show w.heap.size + 1 < _ by omega)).trans (hX_aA.out 0), (h.cell (p := ⟨w.heap.size + 1, 1, none⟩) (show w.heap.size + 1 < _ by omega)).trans (hX_aA.out 1), (h.cell (p := ⟨w.heap.size + 1, 2, none⟩) (show w.heap.size + 1 < _ by omega)).trans (hX_aA.out 2), (h.cell (p := ⟨w.heap.size + 1, 3, none⟩) (show w.heap.size + 1 < _ by omega)).trans (hX_aA.out 3), (h.cell (p := ⟨w.heap.size + 1, 4, none⟩) (show w.heap.size + 1 < _ by omega)).trans (hX_aA.out 4), (h.cell (p := ⟨w.heap.size + 1, 5, none⟩) (show w.heap.size + 1 < _ by omega)).trans (hX_aA.out 5), (h.cell (p := ⟨w.heap.size + 2, 0, none⟩) (show w.heap.size + 2 < _ by omega)).trans (hX_aB.out 0), (h.cell (p := ⟨w.heap.size + 2, 1, none⟩) (show w.heap.size + 2 < _ by omega)).trans (hX_aB.out 1), (h.cell (p := ⟨w.heap.size + 2, 2, none⟩) (show w.heap.size + 2 < _ by omega)).trans (hX_aB.out 2), (h.cell (p := ⟨w.heap.size + 2, 3, none⟩) (show w.heap.size + 2 < _ by omega)).trans (hX_aB.out 3), (h.cell (p := ⟨w.heap.size + 2, 4, none⟩) (show w.heap.size + 2 < _ by omega)).trans (hX_aB.out 4), (h.cell (p := ⟨w.heap.size + 2, 5, none⟩) (show w.heap.size + 2 < _ by omega)).trans (hX_aB.out 5)⟩)
  have TC0 := Lib.hid (fun (W : World) (h : Below w3.heap.size w3 W) => toQuery_c aQ aQ_p aQ_o W ((H_aQ_p).below h (by omega)) (by have h := h.size; omega) ((H_aQ_o).below h (by omega)) (by have h := h.size; omega) T_aQ)
  have TC1 := Lib.hid (fun (W : World) (h : Below w3.heap.size w3 W) => toResult_c aA aA_l W ((H_aA_l).below h (by omega)) (by have h := h.size; omega) T_aA)
  have TC2 := Lib.hid (fun (W : World) (h : Below w3.heap.size w3 W) => toResult_c aB aB_l W ((H_aB_l).below h (by omega)) (by have h := h.size; omega) T_aB)
  go_cut [8] from 32 to 38 (fun t wx => ∃ (bw : Nat) (rv : Value) (lw hw : Nat), t = .pointer (some ⟨bw, 0, none⟩) ∧ w3.heap.size ≤ bw ∧ bw < wx.heap.size ∧ wx.heap[bw]? = some (.cells #[rv, .int .i64 (joined aQ aA aB).n, .bool (joined aQ aA aB).has, .int .i64 (joined aQ aA aB).v.ty, .int .i64 (joined aQ aA aB).v.n, .string (joined aQ aA aB).v.s] 99) ∧ RdR wx lw hw rv ((joined aQ aA aB).rows) ∧ hw ≤ wx.heap.size ∧ Below w3.heap.size w3 wx)
  case first =>
    refine wp_region_T (S := fun w' => w'.cell? ⟨w.heap.size, 0, none⟩ = some (.int .i64 aQ.kind) ∧ w'.cell? ⟨w.heap.size, 1, none⟩ = some (.int .i64 aQ.p.kind) ∧ w'.cell? ⟨w.heap.size, 2, none⟩ = some (.int .i64 aQ.p.col) ∧ w'.cell? ⟨w.heap.size, 3, none⟩ = some (.int .i64 aQ.p.op) ∧ w'.cell? ⟨w.heap.size, 4, none⟩ = some (.int .i64 aQ.p.v.ty) ∧ w'.cell? ⟨w.heap.size, 5, none⟩ = some (.int .i64 aQ.p.v.n) ∧ w'.cell? ⟨w.heap.size, 6, none⟩ = some (.string aQ.p.v.s) ∧ w'.cell? ⟨w.heap.size, 7, none⟩ = some (aQ_p) ∧ w'.cell? ⟨w.heap.size, 8, none⟩ = some (.int .i64 aQ.col) ∧ w'.cell? ⟨w.heap.size, 9, none⟩ = some (aQ_o) ∧ w'.cell? ⟨w.heap.size + 1, 0, none⟩ = some (aA_l) ∧ w'.cell? ⟨w.heap.size + 1, 1, none⟩ = some (.int .i64 aA.n) ∧ w'.cell? ⟨w.heap.size + 1, 2, none⟩ = some (.bool aA.has) ∧ w'.cell? ⟨w.heap.size + 1, 3, none⟩ = some (.int .i64 aA.v.ty) ∧ w'.cell? ⟨w.heap.size + 1, 4, none⟩ = some (.int .i64 aA.v.n) ∧ w'.cell? ⟨w.heap.size + 1, 5, none⟩ = some (.string aA.v.s) ∧ w'.cell? ⟨w.heap.size + 2, 0, none⟩ = some (aB_l) ∧ w'.cell? ⟨w.heap.size + 2, 1, none⟩ = some (.int .i64 aB.n) ∧ w'.cell? ⟨w.heap.size + 2, 2, none⟩ = some (.bool aB.has) ∧ w'.cell? ⟨w.heap.size + 2, 3, none⟩ = some (.int .i64 aB.v.ty) ∧ w'.cell? ⟨w.heap.size + 2, 4, none⟩ = some (.int .i64 aB.v.n) ∧ w'.cell? ⟨w.heap.size + 2, 5, none⟩ = some (.string aB.v.s)) (n := 8) (by kernel_rfl) ?_
    generalize hX0 : w3.drew = X0
    have HB0 : Below w3.heap.size w3 X0 := hX0 ▸ (Below.refl _ _).drew
    have s0 : w3.heap.size ≤ X0.heap.size := HB0.size
    have F0 := HS.out X0 HB0
    clear hX0
    refine wpAnyT_take (i := 0) (oi := _) (v := ?_) rfl (by kernel_rfl) (by kernel_rfl) (by kernel_rfl) (by kernel_rfl) (fun _ _ _ h => h) (Or.inl ⟨by rfl, ?_⟩) F0 ?_
    rotate_left
    · (intro w' hSw; (try dsimp only at hSw); go_simp) <;> with_reducible rfl
    try simp only [Act.put, List.setIfInBounds_toArray, List.set_cons_zero, List.set_cons_succ]
    refine wpAnyT_take (i := 2) (oi := _) (v := ?_) rfl (by kernel_rfl) (by kernel_rfl) (by kernel_rfl) (by kernel_rfl) (fun _ _ _ h => h) (Or.inl ⟨by rfl, ?_⟩) F0 ?_
    rotate_left
    · (intro w' hSw; (try dsimp only at hSw); go_simp) <;> with_reducible rfl
    try simp only [Act.put, List.setIfInBounds_toArray, List.set_cons_zero, List.set_cons_succ]
    refine wpAnyT_take (i := 4) (oi := _) (v := ?_) rfl (by kernel_rfl) (by kernel_rfl) (by kernel_rfl) (by kernel_rfl) (fun _ _ _ h => h) (Or.inl ⟨by rfl, ?_⟩) F0 ?_
    rotate_left
    · (intro w' hSw; (try dsimp only at hSw); go_simp) <;> with_reducible rfl
    try simp only [Act.put, List.setIfInBounds_toArray, List.set_cons_zero, List.set_cons_succ]
    refine wpAnyT_two (k := 1) (k2 := 7) (o := _) (o2 := _) (by kernel_rfl) rfl rfl rfl rfl ?_ ?_
    · intro K hK
      go_simp
      refine (TC0.out X0 HB0).mono ?_
      rintro e X1 ⟨M_c30p, c30p, c30o, rfl, H_c30p, H_c30o, ma_c30p, mb_c30p, hb1⟩
      have HB1 : Below w3.heap.size w3 X1 := HB0.trans (hb1.mono HB0.size)
      have s1 := hb1.size
      refine hK.out _ _ (fun _ => HS.out _ HB1) ?_
      clear hK
      try simp only [Act.put, List.setIfInBounds_toArray, List.set_cons_zero, List.set_cons_succ]
      have D_c30p_1 := H_c30p.rdP
      clear H_c30p
      obtain ⟨A_c30p, k_c30p, rfl, -, -⟩ := D_c30p_1.form
      have D_c30o_1 := H_c30o.rdI
      clear H_c30o
      obtain ⟨A_c30o, k_c30o, rfl, -, -⟩ := D_c30o_1.form
      refine wpAnyT_two (k := 3) (k2 := 7) (o := _) (o2 := _) (by kernel_rfl) rfl rfl rfl rfl ?_ ?_
      · intro K hK
        go_simp
        refine (TC1.out X1 HB1).mono ?_
        rintro e X2 ⟨c31l, rfl, H_c31l, hb2⟩
        have HB2 : Below w3.heap.size w3 X2 := HB1.trans (hb2.mono HB1.size)
        have s2 := hb2.size
        refine hK.out _ _ (fun _ => HS.out _ HB2) ?_
        clear hK
        try simp only [Act.put, List.setIfInBounds_toArray, List.set_cons_zero, List.set_cons_succ]
        have D_c30p_2 := D_c30p_1.below hb2 (by omega)
        have D_c30o_2 := D_c30o_1.below hb2 (by omega)
        have D_c31l_2 := H_c31l.rdR
        clear H_c31l
        obtain ⟨A_c31l, k_c31l, rfl, -, -⟩ := D_c31l_2.form
        refine wpAnyT_two (k := 5) (k2 := 7) (o := _) (o2 := _) (by kernel_rfl) rfl rfl rfl rfl ?_ ?_
        · intro K hK
          go_simp
          refine (TC2.out X2 HB2).mono ?_
          rintro e X3 ⟨c32l, rfl, H_c32l, hb3⟩
          have HB3 : Below w3.heap.size w3 X3 := HB2.trans (hb3.mono HB2.size)
          have s3 := hb3.size
          refine hK.out _ _ (fun _ => HS.out _ HB3) ?_
          clear hK
          try simp only [Act.put, List.setIfInBounds_toArray, List.set_cons_zero, List.set_cons_succ]
          have D_c30p_3 := D_c30p_2.below hb3 (by omega)
          have D_c30o_3 := D_c30o_2.below hb3 (by omega)
          have D_c31l_3 := D_c31l_2.below hb3 (by omega)
          have D_c32l_3 := H_c32l.rdR
          clear H_c32l
          obtain ⟨A_c32l, k_c32l, rfl, -, -⟩ := D_c32l_3.form
          refine wpAnyT_two (k := 6) (k2 := 7) (o := _) (o2 := _) (by kernel_rfl) rfl rfl rfl rfl ?_ ?_
          · intro K hK
            go_simp
            refine (spec_Joined aQ (.slice A_c30p (aQ.p.l).length k_c30p) (.slice A_c30o (aQ.out).length k_c30o) aA (.slice A_c31l (aA.rows).length k_c31l) aB (.slice A_c32l (aB.rows).length k_c32l) X3 D_c30p_3 (by omega) D_c30o_3 (by omega) D_c31l_3 (by omega) D_c32l_3 (by omega)  ⟨T_aA.1, T_aA.2.2⟩ ⟨T_aB.1, T_aB.2.2⟩).mono ?_
            rintro e X4 ⟨c33lq, rfl, H_c33lq, hb4⟩
            have HB4 : Below w3.heap.size w3 X4 := HB3.trans (hb4.mono HB3.size)
            have s4 := hb4.size
            refine hK.out _ _ (fun _ => HS.out _ HB4) ?_
            clear hK
            try simp only [Act.put, List.setIfInBounds_toArray, List.set_cons_zero, List.set_cons_succ]
            have D_c33lq_4 := H_c33lq.rdR
            clear H_c33lq
            obtain ⟨A_c33lq, k_c33lq, rfl, -, -⟩ := D_c33lq_4.form
            refine wpAnyT_one (k := 7) (o := _) (by kernel_rfl) rfl rfl ?_
            intro K hK
            go_simp
            have up5 : Below X4.heap.size X4 (X4.alloc (.cells #[.slice none 0 0, .int .i64 0, .bool false, .int .i64 0, .int .i64 0, .string ⟨#[]⟩] 99)) := up_a1 X4 _
            have HB5 : Below w3.heap.size w3 (X4.alloc (.cells #[.slice none 0 0, .int .i64 0, .bool false, .int .i64 0, .int .i64 0, .string ⟨#[]⟩] 99)) := HB4.trans (up5.mono HB4.size)
            have GZ5 : (X4.alloc (.cells #[.slice none 0 0, .int .i64 0, .bool false, .int .i64 0, .int .i64 0, .string ⟨#[]⟩] 99)).heap[X4.heap.size]? = some (.cells #[.slice none 0 0, .int .i64 0, .bool false, .int .i64 0, .int .i64 0, .string ⟨#[]⟩] 99) := heap_alloc_new X4 _
            have s5 : X4.heap.size < (X4.alloc (.cells #[.slice none 0 0, .int .i64 0, .bool false, .int .i64 0, .int .i64 0, .string ⟨#[]⟩] 99)).heap.size := by simp
            refine hK.out _ _ (fun _ => HS.out _ HB5) ?_
            clear hK
            generalize (X4.alloc (.cells #[.slice none 0 0, .int .i64 0, .bool false, .int .i64 0, .int .i64 0, .string ⟨#[]⟩] 99)) = X5 at *
            have GZ5 := Lib.hid GZ5
            try simp only [Act.put, List.setIfInBounds_toArray, List.set_cons_zero, List.set_cons_succ]
            have D_c33lq_5 := D_c33lq_4.below up5 (by omega)
            have hch : Chg X4.heap.size (X4.heap.size + 1) X5 ((((((X5.setCell ⟨X4.heap.size, 0, none⟩ ((.slice A_c33lq ((joined aQ aA aB).rows).length k_c33lq))).setCell ⟨X4.heap.size, 1, none⟩ (.int .i64 (joined aQ aA aB).n)).setCell ⟨X4.heap.size, 2, none⟩ (.bool (joined aQ aA aB).has)).setCell ⟨X4.heap.size, 3, none⟩ (.int .i64 (joined aQ aA aB).v.ty)).setCell ⟨X4.heap.size, 4, none⟩ (.int .i64 (joined aQ aA aB).v.n)).setCell ⟨X4.heap.size, 5, none⟩ (.string (joined aQ aA aB).v.s)) := ((((((chg_set _ _ _ _).trans (chg_set _ _ _ _)).trans (chg_set _ _ _ _)).trans (chg_set _ _ _ _)).trans (chg_set _ _ _ _)).trans (chg_set _ _ _ _))
            have hsz : ((((((X5.setCell ⟨X4.heap.size, 0, none⟩ ((.slice A_c33lq ((joined aQ aA aB).rows).length k_c33lq))).setCell ⟨X4.heap.size, 1, none⟩ (.int .i64 (joined aQ aA aB).n)).setCell ⟨X4.heap.size, 2, none⟩ (.bool (joined aQ aA aB).has)).setCell ⟨X4.heap.size, 3, none⟩ (.int .i64 (joined aQ aA aB).v.ty)).setCell ⟨X4.heap.size, 4, none⟩ (.int .i64 (joined aQ aA aB).v.n)).setCell ⟨X4.heap.size, 5, none⟩ (.string (joined aQ aA aB).v.s)).heap.size = X5.heap.size := by simp [World.setCell]
            have G6 := set_six (v0 := (.slice A_c33lq ((joined aQ aA aB).rows).length k_c33lq)) (v1 := .int .i64 (joined aQ aA aB).n) (v2 := .bool (joined aQ aA aB).has) (v3 := .int .i64 (joined aQ aA aB).v.ty) (v4 := .int .i64 (joined aQ aA aB).v.n) (v5 := .string (joined aQ aA aB).v.s) GZ5.out
            have hbt : w3.heap.size ≤ X4.heap.size := by have h := HB0.size; omega
            have RR := Lib.hid (show ∃ (bw : Nat) (rv : Value) (lw hw : Nat), (Value.pointer (some ⟨X4.heap.size, 0, none⟩)) = .pointer (some ⟨bw, 0, none⟩) ∧ w3.heap.size ≤ bw ∧ bw < ((((((X5.setCell ⟨X4.heap.size, 0, none⟩ ((.slice A_c33lq ((joined aQ aA aB).rows).length k_c33lq))).setCell ⟨X4.heap.size, 1, none⟩ (.int .i64 (joined aQ aA aB).n)).setCell ⟨X4.heap.size, 2, none⟩ (.bool (joined aQ aA aB).has)).setCell ⟨X4.heap.size, 3, none⟩ (.int .i64 (joined aQ aA aB).v.ty)).setCell ⟨X4.heap.size, 4, none⟩ (.int .i64 (joined aQ aA aB).v.n)).setCell ⟨X4.heap.size, 5, none⟩ (.string (joined aQ aA aB).v.s)).heap.size ∧ ((((((X5.setCell ⟨X4.heap.size, 0, none⟩ ((.slice A_c33lq ((joined aQ aA aB).rows).length k_c33lq))).setCell ⟨X4.heap.size, 1, none⟩ (.int .i64 (joined aQ aA aB).n)).setCell ⟨X4.heap.size, 2, none⟩ (.bool (joined aQ aA aB).has)).setCell ⟨X4.heap.size, 3, none⟩ (.int .i64 (joined aQ aA aB).v.ty)).setCell ⟨X4.heap.size, 4, none⟩ (.int .i64 (joined aQ aA aB).v.n)).setCell ⟨X4.heap.size, 5, none⟩ (.string (joined aQ aA aB).v.s)).heap[bw]? = some (.cells #[rv, .int .i64 (joined aQ aA aB).n, .bool (joined aQ aA aB).has, .int .i64 (joined aQ aA aB).v.ty, .int .i64 (joined aQ aA aB).v.n, .string (joined aQ aA aB).v.s] 99) ∧ RdR ((((((X5.setCell ⟨X4.heap.size, 0, none⟩ ((.slice A_c33lq ((joined aQ aA aB).rows).length k_c33lq))).setCell ⟨X4.heap.size, 1, none⟩ (.int .i64 (joined aQ aA aB).n)).setCell ⟨X4.heap.size, 2, none⟩ (.bool (joined aQ aA aB).has)).setCell ⟨X4.heap.size, 3, none⟩ (.int .i64 (joined aQ aA aB).v.ty)).setCell ⟨X4.heap.size, 4, none⟩ (.int .i64 (joined aQ aA aB).v.n)).setCell ⟨X4.heap.size, 5, none⟩ (.string (joined aQ aA aB).v.s)) lw hw rv ((joined aQ aA aB).rows) ∧ hw ≤ ((((((X5.setCell ⟨X4.heap.size, 0, none⟩ ((.slice A_c33lq ((joined aQ aA aB).rows).length k_c33lq))).setCell ⟨X4.heap.size, 1, none⟩ (.int .i64 (joined aQ aA aB).n)).setCell ⟨X4.heap.size, 2, none⟩ (.bool (joined aQ aA aB).has)).setCell ⟨X4.heap.size, 3, none⟩ (.int .i64 (joined aQ aA aB).v.ty)).setCell ⟨X4.heap.size, 4, none⟩ (.int .i64 (joined aQ aA aB).v.n)).setCell ⟨X4.heap.size, 5, none⟩ (.string (joined aQ aA aB).v.s)).heap.size ∧ Below w3.heap.size w3 ((((((X5.setCell ⟨X4.heap.size, 0, none⟩ ((.slice A_c33lq ((joined aQ aA aB).rows).length k_c33lq))).setCell ⟨X4.heap.size, 1, none⟩ (.int .i64 (joined aQ aA aB).n)).setCell ⟨X4.heap.size, 2, none⟩ (.bool (joined aQ aA aB).has)).setCell ⟨X4.heap.size, 3, none⟩ (.int .i64 (joined aQ aA aB).v.ty)).setCell ⟨X4.heap.size, 4, none⟩ (.int .i64 (joined aQ aA aB).v.n)).setCell ⟨X4.heap.size, 5, none⟩ (.string (joined aQ aA aB).v.s)) from ⟨X4.heap.size, (.slice A_c33lq ((joined aQ aA aB).rows).length k_c33lq), _, _, rfl, hbt, by rw [hsz]; omega, G6, D_c33lq_5.same (.of_chg hch (by omega) (by omega)), by rw [hsz]; omega, HB5.trans ((hch.below (Nat.le_refl _) (by omega)).mono hbt)⟩)
            clear G6 hch hbt hsz
            have t0 := cell_of_row X5 _ 0 _ _ _ GZ5.out
            have t1 := cell_of_row X5 _ 1 _ _ _ GZ5.out
            have t2 := cell_of_row X5 _ 2 _ _ _ GZ5.out
            have t3 := cell_of_row X5 _ 3 _ _ _ GZ5.out
            have t4 := cell_of_row X5 _ 4 _ _ _ GZ5.out
            have t5 := cell_of_row X5 _ 5 _ _ _ GZ5.out
            simp only [List.getElem?_toArray, List.getElem?_cons_zero, List.getElem?_cons_succ] at t0 t1 t2 t3 t4 t5
            have ft := fun o => frozen_of_row X5 _ o _ _ GZ5.out
            refine wpAnyT_one (k := 8) (o := _) (by kernel_rfl) rfl rfl ?_
            intro K hK
            go_simp
            refine hK.out _ _ (fun h => absurd rfl h) ?_
            clear hK
            refine wpAnyT_done (by kernel_rfl) ?_ _
            go_wp2_with fail
            go_meet
            with_reducible exact RR.out
          · intro K hK
            go_simp
            have up6 : Below X3.heap.size X3 (X3.alloc (.cells #[.slice none 0 0, .int .i64 0, .bool false, .int .i64 0, .int .i64 0, .string ⟨#[]⟩] 99)) := up_a1 X3 _
            have HB6 : Below w3.heap.size w3 (X3.alloc (.cells #[.slice none 0 0, .int .i64 0, .bool false, .int .i64 0, .int .i64 0, .string ⟨#[]⟩] 99)) := HB3.trans (up6.mono HB3.size)
            have GZ6 : (X3.alloc (.cells #[.slice none 0 0, .int .i64 0, .bool false, .int .i64 0, .int .i64 0, .string ⟨#[]⟩] 99)).heap[X3.heap.size]? = some (.cells #[.slice none 0 0, .int .i64 0, .bool false, .int .i64 0, .int .i64 0, .string ⟨#[]⟩] 99) := heap_alloc_new X3 _
            have s6 : X3.heap.size < (X3.alloc (.cells #[.slice none 0 0, .int .i64 0, .bool false, .int .i64 0, .int .i64 0, .string ⟨#[]⟩] 99)).heap.size := by simp
            refine hK.out _ _ (fun _ => HS.out _ HB6) ?_
            clear hK
            generalize (X3.alloc (.cells #[.slice none 0 0, .int .i64 0, .bool false, .int .i64 0, .int .i64 0, .string ⟨#[]⟩] 99)) = X6 at *
            have GZ6 := Lib.hid GZ6
            try simp only [Act.put, List.setIfInBounds_toArray, List.set_cons_zero, List.set_cons_succ]
            have D_c30p_6 := D_c30p_3.below up6 (by omega)
            have D_c30o_6 := D_c30o_3.below up6 (by omega)
            have D_c31l_6 := D_c31l_3.below up6 (by omega)
            have D_c32l_6 := D_c32l_3.below up6 (by omega)
            refine wpAnyT_one (k := 6) (o := _) (by kernel_rfl) rfl rfl ?_
            intro K hK
            go_simp
            refine (spec_Joined aQ (.slice A_c30p (aQ.p.l).length k_c30p) (.slice A_c30o (aQ.out).length k_c30o) aA (.slice A_c31l (aA.rows).length k_c31l) aB (.slice A_c32l (aB.rows).length k_c32l) X6 D_c30p_6 (by omega) D_c30o_6 (by omega) D_c31l_6 (by omega) D_c32l_6 (by omega)  ⟨T_aA.1, T_aA.2.2⟩ ⟨T_aB.1, T_aB.2.2⟩).mono ?_
            rintro e X7 ⟨c33lq, rfl, H_c33lq, hb7⟩
            have HB7 : Below w3.heap.size w3 X7 := HB6.trans (hb7.mono HB6.size)
            have s7 := hb7.size
            refine hK.out _ _ (fun _ => HS.out _ HB7) ?_
            clear hK
            try simp only [Act.put, List.setIfInBounds_toArray, List.set_cons_zero, List.set_cons_succ]
            have GZ7 := Lib.hid ((hb7.block _ (by omega)).trans GZ6.out)
            have D_c33lq_7 := H_c33lq.rdR
            clear H_c33lq
            obtain ⟨A_c33lq, k_c33lq, rfl, -, -⟩ := D_c33lq_7.form
            have hch : Chg X3.heap.size (X3.heap.size + 1) X7 ((((((X7.setCell ⟨X3.heap.size, 0, none⟩ ((.slice A_c33lq ((joined aQ aA aB).rows).length k_c33lq))).setCell ⟨X3.heap.size, 1, none⟩ (.int .i64 (joined aQ aA aB).n)).setCell ⟨X3.heap.size, 2, none⟩ (.bool (joined aQ aA aB).has)).setCell ⟨X3.heap.size, 3, none⟩ (.int .i64 (joined aQ aA aB).v.ty)).setCell ⟨X3.heap.size, 4, none⟩ (.int .i64 (joined aQ aA aB).v.n)).setCell ⟨X3.heap.size, 5, none⟩ (.string (joined aQ aA aB).v.s)) := ((((((chg_set _ _ _ _).trans (chg_set _ _ _ _)).trans (chg_set _ _ _ _)).trans (chg_set _ _ _ _)).trans (chg_set _ _ _ _)).trans (chg_set _ _ _ _))
            have hsz : ((((((X7.setCell ⟨X3.heap.size, 0, none⟩ ((.slice A_c33lq ((joined aQ aA aB).rows).length k_c33lq))).setCell ⟨X3.heap.size, 1, none⟩ (.int .i64 (joined aQ aA aB).n)).setCell ⟨X3.heap.size, 2, none⟩ (.bool (joined aQ aA aB).has)).setCell ⟨X3.heap.size, 3, none⟩ (.int .i64 (joined aQ aA aB).v.ty)).setCell ⟨X3.heap.size, 4, none⟩ (.int .i64 (joined aQ aA aB).v.n)).setCell ⟨X3.heap.size, 5, none⟩ (.string (joined aQ aA aB).v.s)).heap.size = X7.heap.size := by simp [World.setCell]
            have G6 := set_six (v0 := (.slice A_c33lq ((joined aQ aA aB).rows).length k_c33lq)) (v1 := .int .i64 (joined aQ aA aB).n) (v2 := .bool (joined aQ aA aB).has) (v3 := .int .i64 (joined aQ aA aB).v.ty) (v4 := .int .i64 (joined aQ aA aB).v.n) (v5 := .string (joined aQ aA aB).v.s) GZ7.out
            have hbt : w3.heap.size ≤ X3.heap.size := by have h := HB0.size; omega
            have RR := Lib.hid (show ∃ (bw : Nat) (rv : Value) (lw hw : Nat), (Value.pointer (some ⟨X3.heap.size, 0, none⟩)) = .pointer (some ⟨bw, 0, none⟩) ∧ w3.heap.size ≤ bw ∧ bw < ((((((X7.setCell ⟨X3.heap.size, 0, none⟩ ((.slice A_c33lq ((joined aQ aA aB).rows).length k_c33lq))).setCell ⟨X3.heap.size, 1, none⟩ (.int .i64 (joined aQ aA aB).n)).setCell ⟨X3.heap.size, 2, none⟩ (.bool (joined aQ aA aB).has)).setCell ⟨X3.heap.size, 3, none⟩ (.int .i64 (joined aQ aA aB).v.ty)).setCell ⟨X3.heap.size, 4, none⟩ (.int .i64 (joined aQ aA aB).v.n)).setCell ⟨X3.heap.size, 5, none⟩ (.string (joined aQ aA aB).v.s)).heap.size ∧ ((((((X7.setCell ⟨X3.heap.size, 0, none⟩ ((.slice A_c33lq ((joined aQ aA aB).rows).length k_c33lq))).setCell ⟨X3.heap.size, 1, none⟩ (.int .i64 (joined aQ aA aB).n)).setCell ⟨X3.heap.size, 2, none⟩ (.bool (joined aQ aA aB).has)).setCell ⟨X3.heap.size, 3, none⟩ (.int .i64 (joined aQ aA aB).v.ty)).setCell ⟨X3.heap.size, 4, none⟩ (.int .i64 (joined aQ aA aB).v.n)).setCell ⟨X3.heap.size, 5, none⟩ (.string (joined aQ aA aB).v.s)).heap[bw]? = some (.cells #[rv, .int .i64 (joined aQ aA aB).n, .bool (joined aQ aA aB).has, .int .i64 (joined aQ aA aB).v.ty, .int .i64 (joined aQ aA aB).v.n, .string (joined aQ aA aB).v.s] 99) ∧ RdR ((((((X7.setCell ⟨X3.heap.size, 0, none⟩ ((.slice A_c33lq ((joined aQ aA aB).rows).length k_c33lq))).setCell ⟨X3.heap.size, 1, none⟩ (.int .i64 (joined aQ aA aB).n)).setCell ⟨X3.heap.size, 2, none⟩ (.bool (joined aQ aA aB).has)).setCell ⟨X3.heap.size, 3, none⟩ (.int .i64 (joined aQ aA aB).v.ty)).setCell ⟨X3.heap.size, 4, none⟩ (.int .i64 (joined aQ aA aB).v.n)).setCell ⟨X3.heap.size, 5, none⟩ (.string (joined aQ aA aB).v.s)) lw hw rv ((joined aQ aA aB).rows) ∧ hw ≤ ((((((X7.setCell ⟨X3.heap.size, 0, none⟩ ((.slice A_c33lq ((joined aQ aA aB).rows).length k_c33lq))).setCell ⟨X3.heap.size, 1, none⟩ (.int .i64 (joined aQ aA aB).n)).setCell ⟨X3.heap.size, 2, none⟩ (.bool (joined aQ aA aB).has)).setCell ⟨X3.heap.size, 3, none⟩ (.int .i64 (joined aQ aA aB).v.ty)).setCell ⟨X3.heap.size, 4, none⟩ (.int .i64 (joined aQ aA aB).v.n)).setCell ⟨X3.heap.size, 5, none⟩ (.string (joined aQ aA aB).v.s)).heap.size ∧ Below w3.heap.size w3 ((((((X7.setCell ⟨X3.heap.size, 0, none⟩ ((.slice A_c33lq ((joined aQ aA aB).rows).length k_c33lq))).setCell ⟨X3.heap.size, 1, none⟩ (.int .i64 (joined aQ aA aB).n)).setCell ⟨X3.heap.size, 2, none⟩ (.bool (joined aQ aA aB).has)).setCell ⟨X3.heap.size, 3, none⟩ (.int .i64 (joined aQ aA aB).v.ty)).setCell ⟨X3.heap.size, 4, none⟩ (.int .i64 (joined aQ aA aB).v.n)).setCell ⟨X3.heap.size, 5, none⟩ (.string (joined aQ aA aB).v.s)) from ⟨X3.heap.size, (.slice A_c33lq ((joined aQ aA aB).rows).length k_c33lq), _, _, rfl, hbt, by rw [hsz]; omega, G6, D_c33lq_7.same (.of_chg hch (by omega) (by omega)), by rw [hsz]; omega, HB7.trans ((hch.below (Nat.le_refl _) (by omega)).mono hbt)⟩)
            clear G6 hch hbt hsz
            have t0 := cell_of_row X7 _ 0 _ _ _ GZ7.out
            have t1 := cell_of_row X7 _ 1 _ _ _ GZ7.out
            have t2 := cell_of_row X7 _ 2 _ _ _ GZ7.out
            have t3 := cell_of_row X7 _ 3 _ _ _ GZ7.out
            have t4 := cell_of_row X7 _ 4 _ _ _ GZ7.out
            have t5 := cell_of_row X7 _ 5 _ _ _ GZ7.out
            simp only [List.getElem?_toArray, List.getElem?_cons_zero, List.getElem?_cons_succ] at t0 t1 t2 t3 t4 t5
            have ft := fun o => frozen_of_row X7 _ o _ _ GZ7.out
            refine wpAnyT_one (k := 8) (o := _) (by kernel_rfl) rfl rfl ?_
            intro K hK
            go_simp
            refine hK.out _ _ (fun h => absurd rfl h) ?_
            clear hK
            refine wpAnyT_done (by kernel_rfl) ?_ _
            go_wp2_with fail
            go_meet
            with_reducible exact RR.out
        · intro K hK
          go_simp
          have up8 : Below X2.heap.size X2 (X2.alloc (.cells #[.slice none 0 0, .int .i64 0, .bool false, .int .i64 0, .int .i64 0, .string ⟨#[]⟩] 99)) := up_a1 X2 _
          have HB8 : Below w3.heap.size w3 (X2.alloc (.cells #[.slice none 0 0, .int .i64 0, .bool false, .int .i64 0, .int .i64 0, .string ⟨#[]⟩] 99)) := HB2.trans (up8.mono HB2.size)
          have GZ8 : (X2.alloc (.cells #[.slice none 0 0, .int .i64 0, .bool false, .int .i64 0, .int .i64 0, .string ⟨#[]⟩] 99)).heap[X2.heap.size]? = some (.cells #[.slice none 0 0, .int .i64 0, .bool false, .int .i64 0, .int .i64 0, .string ⟨#[]⟩] 99) := heap_alloc_new X2 _
          have s8 : X2.heap.size < (X2.alloc (.cells #[.slice none 0 0, .int .i64 0, .bool false, .int .i64 0, .int .i64 0, .string ⟨#[]⟩] 99)).heap.size := by simp
          refine hK.out _ _ (fun _ => HS.out _ HB8) ?_
          clear hK
          generalize (X2.alloc (.cells #[.slice none 0 0, .int .i64 0, .bool false, .int .i64 0, .int .i64 0, .string ⟨#[]⟩] 99)) = X8 at *
          have GZ8 := Lib.hid GZ8
          try simp only [Act.put, List.setIfInBounds_toArray, List.set_cons_zero, List.set_cons_succ]
          have D_c30p_8 := D_c30p_2.below up8 (by omega)
          have D_c30o_8 := D_c30o_2.below up8 (by omega)
          have D_c31l_8 := D_c31l_2.below up8 (by omega)
          refine wpAnyT_one (k := 5) (o := _) (by kernel_rfl) rfl rfl ?_
          intro K hK
          go_simp
          refine (TC2.out X8 HB8).mono ?_
          rintro e X9 ⟨c32l, rfl, H_c32l, hb9⟩
          have HB9 : Below w3.heap.size w3 X9 := HB8.trans (hb9.mono HB8.size)
          have s9 := hb9.size
          refine hK.out _ _ (fun _ => HS.out _ HB9) ?_
          clear hK
          try simp only [Act.put, List.setIfInBounds_toArray, List.set_cons_zero, List.set_cons_succ]
          have GZ9 := Lib.hid ((hb9.block _ (by omega)).trans GZ8.out)
          have D_c30p_9 := D_c30p_8.below hb9 (by omega)
          have D_c30o_9 := D_c30o_8.below hb9 (by omega)
          have D_c31l_9 := D_c31l_8.below hb9 (by omega)
          have D_c32l_9 := H_c32l.rdR
          clear H_c32l
          obtain ⟨A_c32l, k_c32l, rfl, -, -⟩ := D_c32l_9.form
          refine wpAnyT_one (k := 6) (o := _) (by kernel_rfl) rfl rfl ?_
          intro K hK
          go_simp
          refine (spec_Joined aQ (.slice A_c30p (aQ.p.l).length k_c30p) (.slice A_c30o (aQ.out).length k_c30o) aA (.slice A_c31l (aA.rows).length k_c31l) aB (.slice A_c32l (aB.rows).length k_c32l) X9 D_c30p_9 (by omega) D_c30o_9 (by omega) D_c31l_9 (by omega) D_c32l_9 (by omega)  ⟨T_aA.1, T_aA.2.2⟩ ⟨T_aB.1, T_aB.2.2⟩).mono ?_
          rintro e X10 ⟨c33lq, rfl, H_c33lq, hb10⟩
          have HB10 : Below w3.heap.size w3 X10 := HB9.trans (hb10.mono HB9.size)
          have s10 := hb10.size
          refine hK.out _ _ (fun _ => HS.out _ HB10) ?_
          clear hK
          try simp only [Act.put, List.setIfInBounds_toArray, List.set_cons_zero, List.set_cons_succ]
          have GZ10 := Lib.hid ((hb10.block _ (by omega)).trans GZ9.out)
          have D_c33lq_10 := H_c33lq.rdR
          clear H_c33lq
          obtain ⟨A_c33lq, k_c33lq, rfl, -, -⟩ := D_c33lq_10.form
          have hch : Chg X2.heap.size (X2.heap.size + 1) X10 ((((((X10.setCell ⟨X2.heap.size, 0, none⟩ ((.slice A_c33lq ((joined aQ aA aB).rows).length k_c33lq))).setCell ⟨X2.heap.size, 1, none⟩ (.int .i64 (joined aQ aA aB).n)).setCell ⟨X2.heap.size, 2, none⟩ (.bool (joined aQ aA aB).has)).setCell ⟨X2.heap.size, 3, none⟩ (.int .i64 (joined aQ aA aB).v.ty)).setCell ⟨X2.heap.size, 4, none⟩ (.int .i64 (joined aQ aA aB).v.n)).setCell ⟨X2.heap.size, 5, none⟩ (.string (joined aQ aA aB).v.s)) := ((((((chg_set _ _ _ _).trans (chg_set _ _ _ _)).trans (chg_set _ _ _ _)).trans (chg_set _ _ _ _)).trans (chg_set _ _ _ _)).trans (chg_set _ _ _ _))
          have hsz : ((((((X10.setCell ⟨X2.heap.size, 0, none⟩ ((.slice A_c33lq ((joined aQ aA aB).rows).length k_c33lq))).setCell ⟨X2.heap.size, 1, none⟩ (.int .i64 (joined aQ aA aB).n)).setCell ⟨X2.heap.size, 2, none⟩ (.bool (joined aQ aA aB).has)).setCell ⟨X2.heap.size, 3, none⟩ (.int .i64 (joined aQ aA aB).v.ty)).setCell ⟨X2.heap.size, 4, none⟩ (.int .i64 (joined aQ aA aB).v.n)).setCell ⟨X2.heap.size, 5, none⟩ (.string (joined aQ aA aB).v.s)).heap.size = X10.heap.size := by simp [World.setCell]
          have G6 := set_six (v0 := (.slice A_c33lq ((joined aQ aA aB).rows).length k_c33lq)) (v1 := .int .i64 (joined aQ aA aB).n) (v2 := .bool (joined aQ aA aB).has) (v3 := .int .i64 (joined aQ aA aB).v.ty) (v4 := .int .i64 (joined aQ aA aB).v.n) (v5 := .string (joined aQ aA aB).v.s) GZ10.out
          have hbt : w3.heap.size ≤ X2.heap.size := by have h := HB0.size; omega
          have RR := Lib.hid (show ∃ (bw : Nat) (rv : Value) (lw hw : Nat), (Value.pointer (some ⟨X2.heap.size, 0, none⟩)) = .pointer (some ⟨bw, 0, none⟩) ∧ w3.heap.size ≤ bw ∧ bw < ((((((X10.setCell ⟨X2.heap.size, 0, none⟩ ((.slice A_c33lq ((joined aQ aA aB).rows).length k_c33lq))).setCell ⟨X2.heap.size, 1, none⟩ (.int .i64 (joined aQ aA aB).n)).setCell ⟨X2.heap.size, 2, none⟩ (.bool (joined aQ aA aB).has)).setCell ⟨X2.heap.size, 3, none⟩ (.int .i64 (joined aQ aA aB).v.ty)).setCell ⟨X2.heap.size, 4, none⟩ (.int .i64 (joined aQ aA aB).v.n)).setCell ⟨X2.heap.size, 5, none⟩ (.string (joined aQ aA aB).v.s)).heap.size ∧ ((((((X10.setCell ⟨X2.heap.size, 0, none⟩ ((.slice A_c33lq ((joined aQ aA aB).rows).length k_c33lq))).setCell ⟨X2.heap.size, 1, none⟩ (.int .i64 (joined aQ aA aB).n)).setCell ⟨X2.heap.size, 2, none⟩ (.bool (joined aQ aA aB).has)).setCell ⟨X2.heap.size, 3, none⟩ (.int .i64 (joined aQ aA aB).v.ty)).setCell ⟨X2.heap.size, 4, none⟩ (.int .i64 (joined aQ aA aB).v.n)).setCell ⟨X2.heap.size, 5, none⟩ (.string (joined aQ aA aB).v.s)).heap[bw]? = some (.cells #[rv, .int .i64 (joined aQ aA aB).n, .bool (joined aQ aA aB).has, .int .i64 (joined aQ aA aB).v.ty, .int .i64 (joined aQ aA aB).v.n, .string (joined aQ aA aB).v.s] 99) ∧ RdR ((((((X10.setCell ⟨X2.heap.size, 0, none⟩ ((.slice A_c33lq ((joined aQ aA aB).rows).length k_c33lq))).setCell ⟨X2.heap.size, 1, none⟩ (.int .i64 (joined aQ aA aB).n)).setCell ⟨X2.heap.size, 2, none⟩ (.bool (joined aQ aA aB).has)).setCell ⟨X2.heap.size, 3, none⟩ (.int .i64 (joined aQ aA aB).v.ty)).setCell ⟨X2.heap.size, 4, none⟩ (.int .i64 (joined aQ aA aB).v.n)).setCell ⟨X2.heap.size, 5, none⟩ (.string (joined aQ aA aB).v.s)) lw hw rv ((joined aQ aA aB).rows) ∧ hw ≤ ((((((X10.setCell ⟨X2.heap.size, 0, none⟩ ((.slice A_c33lq ((joined aQ aA aB).rows).length k_c33lq))).setCell ⟨X2.heap.size, 1, none⟩ (.int .i64 (joined aQ aA aB).n)).setCell ⟨X2.heap.size, 2, none⟩ (.bool (joined aQ aA aB).has)).setCell ⟨X2.heap.size, 3, none⟩ (.int .i64 (joined aQ aA aB).v.ty)).setCell ⟨X2.heap.size, 4, none⟩ (.int .i64 (joined aQ aA aB).v.n)).setCell ⟨X2.heap.size, 5, none⟩ (.string (joined aQ aA aB).v.s)).heap.size ∧ Below w3.heap.size w3 ((((((X10.setCell ⟨X2.heap.size, 0, none⟩ ((.slice A_c33lq ((joined aQ aA aB).rows).length k_c33lq))).setCell ⟨X2.heap.size, 1, none⟩ (.int .i64 (joined aQ aA aB).n)).setCell ⟨X2.heap.size, 2, none⟩ (.bool (joined aQ aA aB).has)).setCell ⟨X2.heap.size, 3, none⟩ (.int .i64 (joined aQ aA aB).v.ty)).setCell ⟨X2.heap.size, 4, none⟩ (.int .i64 (joined aQ aA aB).v.n)).setCell ⟨X2.heap.size, 5, none⟩ (.string (joined aQ aA aB).v.s)) from ⟨X2.heap.size, (.slice A_c33lq ((joined aQ aA aB).rows).length k_c33lq), _, _, rfl, hbt, by rw [hsz]; omega, G6, D_c33lq_10.same (.of_chg hch (by omega) (by omega)), by rw [hsz]; omega, HB10.trans ((hch.below (Nat.le_refl _) (by omega)).mono hbt)⟩)
          clear G6 hch hbt hsz
          have t0 := cell_of_row X10 _ 0 _ _ _ GZ10.out
          have t1 := cell_of_row X10 _ 1 _ _ _ GZ10.out
          have t2 := cell_of_row X10 _ 2 _ _ _ GZ10.out
          have t3 := cell_of_row X10 _ 3 _ _ _ GZ10.out
          have t4 := cell_of_row X10 _ 4 _ _ _ GZ10.out
          have t5 := cell_of_row X10 _ 5 _ _ _ GZ10.out
          simp only [List.getElem?_toArray, List.getElem?_cons_zero, List.getElem?_cons_succ] at t0 t1 t2 t3 t4 t5
          have ft := fun o => frozen_of_row X10 _ o _ _ GZ10.out
          refine wpAnyT_one (k := 8) (o := _) (by kernel_rfl) rfl rfl ?_
          intro K hK
          go_simp
          refine hK.out _ _ (fun h => absurd rfl h) ?_
          clear hK
          refine wpAnyT_done (by kernel_rfl) ?_ _
          go_wp2_with fail
          go_meet
          with_reducible exact RR.out
      · intro K hK
        go_simp
        have up11 : Below X1.heap.size X1 (X1.alloc (.cells #[.slice none 0 0, .int .i64 0, .bool false, .int .i64 0, .int .i64 0, .string ⟨#[]⟩] 99)) := up_a1 X1 _
        have HB11 : Below w3.heap.size w3 (X1.alloc (.cells #[.slice none 0 0, .int .i64 0, .bool false, .int .i64 0, .int .i64 0, .string ⟨#[]⟩] 99)) := HB1.trans (up11.mono HB1.size)
        have GZ11 : (X1.alloc (.cells #[.slice none 0 0, .int .i64 0, .bool false, .int .i64 0, .int .i64 0, .string ⟨#[]⟩] 99)).heap[X1.heap.size]? = some (.cells #[.slice none 0 0, .int .i64 0, .bool false, .int .i64 0, .int .i64 0, .string ⟨#[]⟩] 99) := heap_alloc_new X1 _
        have s11 : X1.heap.size < (X1.alloc (.cells #[.slice none 0 0, .int .i64 0, .bool false, .int .i64 0, .int .i64 0, .string ⟨#[]⟩] 99)).heap.size := by simp
        refine hK.out _ _ (fun _ => HS.out _ HB11) ?_
        clear hK
        generalize (X1.alloc (.cells #[.slice none 0 0, .int .i64 0, .bool false, .int .i64 0, .int .i64 0, .string ⟨#[]⟩] 99)) = X11 at *
        have GZ11 := Lib.hid GZ11
        try simp only [Act.put, List.setIfInBounds_toArray, List.set_cons_zero, List.set_cons_succ]
        have D_c30p_11 := D_c30p_1.below up11 (by omega)
        have D_c30o_11 := D_c30o_1.below up11 (by omega)
        refine wpAnyT_one (k := 3) (o := _) (by kernel_rfl) rfl rfl ?_
        intro K hK
        go_simp
        refine (TC1.out X11 HB11).mono ?_
        rintro e X12 ⟨c31l, rfl, H_c31l, hb12⟩
        have HB12 : Below w3.heap.size w3 X12 := HB11.trans (hb12.mono HB11.size)
        have s12 := hb12.size
        refine hK.out _ _ (fun _ => HS.out _ HB12) ?_
        clear hK
        try simp only [Act.put, List.setIfInBounds_toArray, List.set_cons_zero, List.set_cons_succ]
        have GZ12 := Lib.hid ((hb12.block _ (by omega)).trans GZ11.out)
        have D_c30p_12 := D_c30p_11.below hb12 (by omega)
        have D_c30o_12 := D_c30o_11.below hb12 (by omega)
        have D_c31l_12 := H_c31l.rdR
        clear H_c31l
        obtain ⟨A_c31l, k_c31l, rfl, -, -⟩ := D_c31l_12.form
        refine wpAnyT_one (k := 5) (o := _) (by kernel_rfl) rfl rfl ?_
        intro K hK
        go_simp
        refine (TC2.out X12 HB12).mono ?_
        rintro e X13 ⟨c32l, rfl, H_c32l, hb13⟩
        have HB13 : Below w3.heap.size w3 X13 := HB12.trans (hb13.mono HB12.size)
        have s13 := hb13.size
        refine hK.out _ _ (fun _ => HS.out _ HB13) ?_
        clear hK
        try simp only [Act.put, List.setIfInBounds_toArray, List.set_cons_zero, List.set_cons_succ]
        have GZ13 := Lib.hid ((hb13.block _ (by omega)).trans GZ12.out)
        have D_c30p_13 := D_c30p_12.below hb13 (by omega)
        have D_c30o_13 := D_c30o_12.below hb13 (by omega)
        have D_c31l_13 := D_c31l_12.below hb13 (by omega)
        have D_c32l_13 := H_c32l.rdR
        clear H_c32l
        obtain ⟨A_c32l, k_c32l, rfl, -, -⟩ := D_c32l_13.form
        refine wpAnyT_one (k := 6) (o := _) (by kernel_rfl) rfl rfl ?_
        intro K hK
        go_simp
        refine (spec_Joined aQ (.slice A_c30p (aQ.p.l).length k_c30p) (.slice A_c30o (aQ.out).length k_c30o) aA (.slice A_c31l (aA.rows).length k_c31l) aB (.slice A_c32l (aB.rows).length k_c32l) X13 D_c30p_13 (by omega) D_c30o_13 (by omega) D_c31l_13 (by omega) D_c32l_13 (by omega)  ⟨T_aA.1, T_aA.2.2⟩ ⟨T_aB.1, T_aB.2.2⟩).mono ?_
        rintro e X14 ⟨c33lq, rfl, H_c33lq, hb14⟩
        have HB14 : Below w3.heap.size w3 X14 := HB13.trans (hb14.mono HB13.size)
        have s14 := hb14.size
        refine hK.out _ _ (fun _ => HS.out _ HB14) ?_
        clear hK
        try simp only [Act.put, List.setIfInBounds_toArray, List.set_cons_zero, List.set_cons_succ]
        have GZ14 := Lib.hid ((hb14.block _ (by omega)).trans GZ13.out)
        have D_c33lq_14 := H_c33lq.rdR
        clear H_c33lq
        obtain ⟨A_c33lq, k_c33lq, rfl, -, -⟩ := D_c33lq_14.form
        have hch : Chg X1.heap.size (X1.heap.size + 1) X14 ((((((X14.setCell ⟨X1.heap.size, 0, none⟩ ((.slice A_c33lq ((joined aQ aA aB).rows).length k_c33lq))).setCell ⟨X1.heap.size, 1, none⟩ (.int .i64 (joined aQ aA aB).n)).setCell ⟨X1.heap.size, 2, none⟩ (.bool (joined aQ aA aB).has)).setCell ⟨X1.heap.size, 3, none⟩ (.int .i64 (joined aQ aA aB).v.ty)).setCell ⟨X1.heap.size, 4, none⟩ (.int .i64 (joined aQ aA aB).v.n)).setCell ⟨X1.heap.size, 5, none⟩ (.string (joined aQ aA aB).v.s)) := ((((((chg_set _ _ _ _).trans (chg_set _ _ _ _)).trans (chg_set _ _ _ _)).trans (chg_set _ _ _ _)).trans (chg_set _ _ _ _)).trans (chg_set _ _ _ _))
        have hsz : ((((((X14.setCell ⟨X1.heap.size, 0, none⟩ ((.slice A_c33lq ((joined aQ aA aB).rows).length k_c33lq))).setCell ⟨X1.heap.size, 1, none⟩ (.int .i64 (joined aQ aA aB).n)).setCell ⟨X1.heap.size, 2, none⟩ (.bool (joined aQ aA aB).has)).setCell ⟨X1.heap.size, 3, none⟩ (.int .i64 (joined aQ aA aB).v.ty)).setCell ⟨X1.heap.size, 4, none⟩ (.int .i64 (joined aQ aA aB).v.n)).setCell ⟨X1.heap.size, 5, none⟩ (.string (joined aQ aA aB).v.s)).heap.size = X14.heap.size := by simp [World.setCell]
        have G6 := set_six (v0 := (.slice A_c33lq ((joined aQ aA aB).rows).length k_c33lq)) (v1 := .int .i64 (joined aQ aA aB).n) (v2 := .bool (joined aQ aA aB).has) (v3 := .int .i64 (joined aQ aA aB).v.ty) (v4 := .int .i64 (joined aQ aA aB).v.n) (v5 := .string (joined aQ aA aB).v.s) GZ14.out
        have hbt : w3.heap.size ≤ X1.heap.size := by have h := HB0.size; omega
        have RR := Lib.hid (show ∃ (bw : Nat) (rv : Value) (lw hw : Nat), (Value.pointer (some ⟨X1.heap.size, 0, none⟩)) = .pointer (some ⟨bw, 0, none⟩) ∧ w3.heap.size ≤ bw ∧ bw < ((((((X14.setCell ⟨X1.heap.size, 0, none⟩ ((.slice A_c33lq ((joined aQ aA aB).rows).length k_c33lq))).setCell ⟨X1.heap.size, 1, none⟩ (.int .i64 (joined aQ aA aB).n)).setCell ⟨X1.heap.size, 2, none⟩ (.bool (joined aQ aA aB).has)).setCell ⟨X1.heap.size, 3, none⟩ (.int .i64 (joined aQ aA aB).v.ty)).setCell ⟨X1.heap.size, 4, none⟩ (.int .i64 (joined aQ aA aB).v.n)).setCell ⟨X1.heap.size, 5, none⟩ (.string (joined aQ aA aB).v.s)).heap.size ∧ ((((((X14.setCell ⟨X1.heap.size, 0, none⟩ ((.slice A_c33lq ((joined aQ aA aB).rows).length k_c33lq))).setCell ⟨X1.heap.size, 1, none⟩ (.int .i64 (joined aQ aA aB).n)).setCell ⟨X1.heap.size, 2, none⟩ (.bool (joined aQ aA aB).has)).setCell ⟨X1.heap.size, 3, none⟩ (.int .i64 (joined aQ aA aB).v.ty)).setCell ⟨X1.heap.size, 4, none⟩ (.int .i64 (joined aQ aA aB).v.n)).setCell ⟨X1.heap.size, 5, none⟩ (.string (joined aQ aA aB).v.s)).heap[bw]? = some (.cells #[rv, .int .i64 (joined aQ aA aB).n, .bool (joined aQ aA aB).has, .int .i64 (joined aQ aA aB).v.ty, .int .i64 (joined aQ aA aB).v.n, .string (joined aQ aA aB).v.s] 99) ∧ RdR ((((((X14.setCell ⟨X1.heap.size, 0, none⟩ ((.slice A_c33lq ((joined aQ aA aB).rows).length k_c33lq))).setCell ⟨X1.heap.size, 1, none⟩ (.int .i64 (joined aQ aA aB).n)).setCell ⟨X1.heap.size, 2, none⟩ (.bool (joined aQ aA aB).has)).setCell ⟨X1.heap.size, 3, none⟩ (.int .i64 (joined aQ aA aB).v.ty)).setCell ⟨X1.heap.size, 4, none⟩ (.int .i64 (joined aQ aA aB).v.n)).setCell ⟨X1.heap.size, 5, none⟩ (.string (joined aQ aA aB).v.s)) lw hw rv ((joined aQ aA aB).rows) ∧ hw ≤ ((((((X14.setCell ⟨X1.heap.size, 0, none⟩ ((.slice A_c33lq ((joined aQ aA aB).rows).length k_c33lq))).setCell ⟨X1.heap.size, 1, none⟩ (.int .i64 (joined aQ aA aB).n)).setCell ⟨X1.heap.size, 2, none⟩ (.bool (joined aQ aA aB).has)).setCell ⟨X1.heap.size, 3, none⟩ (.int .i64 (joined aQ aA aB).v.ty)).setCell ⟨X1.heap.size, 4, none⟩ (.int .i64 (joined aQ aA aB).v.n)).setCell ⟨X1.heap.size, 5, none⟩ (.string (joined aQ aA aB).v.s)).heap.size ∧ Below w3.heap.size w3 ((((((X14.setCell ⟨X1.heap.size, 0, none⟩ ((.slice A_c33lq ((joined aQ aA aB).rows).length k_c33lq))).setCell ⟨X1.heap.size, 1, none⟩ (.int .i64 (joined aQ aA aB).n)).setCell ⟨X1.heap.size, 2, none⟩ (.bool (joined aQ aA aB).has)).setCell ⟨X1.heap.size, 3, none⟩ (.int .i64 (joined aQ aA aB).v.ty)).setCell ⟨X1.heap.size, 4, none⟩ (.int .i64 (joined aQ aA aB).v.n)).setCell ⟨X1.heap.size, 5, none⟩ (.string (joined aQ aA aB).v.s)) from ⟨X1.heap.size, (.slice A_c33lq ((joined aQ aA aB).rows).length k_c33lq), _, _, rfl, hbt, by rw [hsz]; omega, G6, D_c33lq_14.same (.of_chg hch (by omega) (by omega)), by rw [hsz]; omega, HB14.trans ((hch.below (Nat.le_refl _) (by omega)).mono hbt)⟩)
        clear G6 hch hbt hsz
        have t0 := cell_of_row X14 _ 0 _ _ _ GZ14.out
        have t1 := cell_of_row X14 _ 1 _ _ _ GZ14.out
        have t2 := cell_of_row X14 _ 2 _ _ _ GZ14.out
        have t3 := cell_of_row X14 _ 3 _ _ _ GZ14.out
        have t4 := cell_of_row X14 _ 4 _ _ _ GZ14.out
        have t5 := cell_of_row X14 _ 5 _ _ _ GZ14.out
        simp only [List.getElem?_toArray, List.getElem?_cons_zero, List.getElem?_cons_succ] at t0 t1 t2 t3 t4 t5
        have ft := fun o => frozen_of_row X14 _ o _ _ GZ14.out
        refine wpAnyT_one (k := 8) (o := _) (by kernel_rfl) rfl rfl ?_
        intro K hK
        go_simp
        refine hK.out _ _ (fun h => absurd rfl h) ?_
        clear hK
        refine wpAnyT_done (by kernel_rfl) ?_ _
        go_wp2_with fail
        go_meet
        with_reducible exact RR.out
    · intro K hK
      go_simp
      have up15 : Below X0.heap.size X0 (X0.alloc (.cells #[.slice none 0 0, .int .i64 0, .bool false, .int .i64 0, .int .i64 0, .string ⟨#[]⟩] 99)) := up_a1 X0 _
      have HB15 : Below w3.heap.size w3 (X0.alloc (.cells #[.slice none 0 0, .int .i64 0, .bool false, .int .i64 0, .int .i64 0, .string ⟨#[]⟩] 99)) := HB0.trans (up15.mono HB0.size)
      have GZ15 : (X0.alloc (.cells #[.slice none 0 0, .int .i64 0, .bool false, .int .i64 0, .int .i64 0, .string ⟨#[]⟩] 99)).heap[X0.heap.size]? = some (.cells #[.slice none 0 0, .int .i64 0, .bool false, .int .i64 0, .int .i64 0, .string ⟨#[]⟩] 99) := heap_alloc_new X0 _
      have s15 : X0.heap.size < (X0.alloc (.cells #[.slice none 0 0, .int .i64 0, .bool false, .int .i64 0, .int .i64 0, .string ⟨#[]⟩] 99)).heap.size := by simp
      refine hK.out _ _ (fun _ => HS.out _ HB15) ?_
      clear hK
      generalize (X0.alloc (.cells #[.slice none 0 0, .int .i64 0, .bool false, .int .i64 0, .int .i64 0, .string ⟨#[]⟩] 99)) = X15 at *
      have GZ15 := Lib.hid GZ15
      try simp only [Act.put, List.setIfInBounds_toArray, List.set_cons_zero, List.set_cons_succ]
      refine wpAnyT_one (k := 1) (o := _) (by kernel_rfl) rfl rfl ?_
      intro K hK
      go_simp
      refine (TC0.out X15 HB15).mono ?_
      rintro e X16 ⟨M_c30p, c30p, c30o, rfl, H_c30p, H_c30o, ma_c30p, mb_c30p, hb16⟩
      have HB16 : Below w3.heap.size w3 X16 := HB15.trans (hb16.mono HB15.size)
      have s16 := hb16.size
      refine hK.out _ _ (fun _ => HS.out _ HB16) ?_
      clear hK
      try simp only [Act.put, List.setIfInBounds_toArray, List.set_cons_zero, List.set_cons_succ]
      have GZ16 := Lib.hid ((hb16.block _ (by omega)).trans GZ15.out)
      have D_c30p_16 := H_c30p.rdP
      clear H_c30p
      obtain ⟨A_c30p, k_c30p, rfl, -, -⟩ := D_c30p_16.form
      have D_c30o_16 := H_c30o.rdI
      clear H_c30o
      obtain ⟨A_c30o, k_c30o, rfl, -, -⟩ := D_c30o_16.form
      refine wpAnyT_one (k := 3) (o := _) (by kernel_rfl) rfl rfl ?_
      intro K hK
      go_simp
      refine (TC1.out X16 HB16).mono ?_
      rintro e X17 ⟨c31l, rfl, H_c31l, hb17⟩
      have HB17 : Below w3.heap.size w3 X17 := HB16.trans (hb17.mono HB16.size)
      have s17 := hb17.size
      refine hK.out _ _ (fun _ => HS.out _ HB17) ?_
      clear hK
      try simp only [Act.put, List.setIfInBounds_toArray, List.set_cons_zero, List.set_cons_succ]
      have GZ17 := Lib.hid ((hb17.block _ (by omega)).trans GZ16.out)
      have D_c30p_17 := D_c30p_16.below hb17 (by omega)
      have D_c30o_17 := D_c30o_16.below hb17 (by omega)
      have D_c31l_17 := H_c31l.rdR
      clear H_c31l
      obtain ⟨A_c31l, k_c31l, rfl, -, -⟩ := D_c31l_17.form
      refine wpAnyT_one (k := 5) (o := _) (by kernel_rfl) rfl rfl ?_
      intro K hK
      go_simp
      refine (TC2.out X17 HB17).mono ?_
      rintro e X18 ⟨c32l, rfl, H_c32l, hb18⟩
      have HB18 : Below w3.heap.size w3 X18 := HB17.trans (hb18.mono HB17.size)
      have s18 := hb18.size
      refine hK.out _ _ (fun _ => HS.out _ HB18) ?_
      clear hK
      try simp only [Act.put, List.setIfInBounds_toArray, List.set_cons_zero, List.set_cons_succ]
      have GZ18 := Lib.hid ((hb18.block _ (by omega)).trans GZ17.out)
      have D_c30p_18 := D_c30p_17.below hb18 (by omega)
      have D_c30o_18 := D_c30o_17.below hb18 (by omega)
      have D_c31l_18 := D_c31l_17.below hb18 (by omega)
      have D_c32l_18 := H_c32l.rdR
      clear H_c32l
      obtain ⟨A_c32l, k_c32l, rfl, -, -⟩ := D_c32l_18.form
      refine wpAnyT_one (k := 6) (o := _) (by kernel_rfl) rfl rfl ?_
      intro K hK
      go_simp
      refine (spec_Joined aQ (.slice A_c30p (aQ.p.l).length k_c30p) (.slice A_c30o (aQ.out).length k_c30o) aA (.slice A_c31l (aA.rows).length k_c31l) aB (.slice A_c32l (aB.rows).length k_c32l) X18 D_c30p_18 (by omega) D_c30o_18 (by omega) D_c31l_18 (by omega) D_c32l_18 (by omega)  ⟨T_aA.1, T_aA.2.2⟩ ⟨T_aB.1, T_aB.2.2⟩).mono ?_
      rintro e X19 ⟨c33lq, rfl, H_c33lq, hb19⟩
      have HB19 : Below w3.heap.size w3 X19 := HB18.trans (hb19.mono HB18.size)
      have s19 := hb19.size
      refine hK.out _ _ (fun _ => HS.out _ HB19) ?_
      clear hK
      try simp only [Act.put, List.setIfInBounds_toArray, List.set_cons_zero, List.set_cons_succ]
      have GZ19 := Lib.hid ((hb19.block _ (by omega)).trans GZ18.out)
      have D_c33lq_19 := H_c33lq.rdR
      clear H_c33lq
      obtain ⟨A_c33lq, k_c33lq, rfl, -, -⟩ := D_c33lq_19.form
      have hch : Chg X0.heap.size (X0.heap.size + 1) X19 ((((((X19.setCell ⟨X0.heap.size, 0, none⟩ ((.slice A_c33lq ((joined aQ aA aB).rows).length k_c33lq))).setCell ⟨X0.heap.size, 1, none⟩ (.int .i64 (joined aQ aA aB).n)).setCell ⟨X0.heap.size, 2, none⟩ (.bool (joined aQ aA aB).has)).setCell ⟨X0.heap.size, 3, none⟩ (.int .i64 (joined aQ aA aB).v.ty)).setCell ⟨X0.heap.size, 4, none⟩ (.int .i64 (joined aQ aA aB).v.n)).setCell ⟨X0.heap.size, 5, none⟩ (.string (joined aQ aA aB).v.s)) := ((((((chg_set _ _ _ _).trans (chg_set _ _ _ _)).trans (chg_set _ _ _ _)).trans (chg_set _ _ _ _)).trans (chg_set _ _ _ _)).trans (chg_set _ _ _ _))
      have hsz : ((((((X19.setCell ⟨X0.heap.size, 0, none⟩ ((.slice A_c33lq ((joined aQ aA aB).rows).length k_c33lq))).setCell ⟨X0.heap.size, 1, none⟩ (.int .i64 (joined aQ aA aB).n)).setCell ⟨X0.heap.size, 2, none⟩ (.bool (joined aQ aA aB).has)).setCell ⟨X0.heap.size, 3, none⟩ (.int .i64 (joined aQ aA aB).v.ty)).setCell ⟨X0.heap.size, 4, none⟩ (.int .i64 (joined aQ aA aB).v.n)).setCell ⟨X0.heap.size, 5, none⟩ (.string (joined aQ aA aB).v.s)).heap.size = X19.heap.size := by simp [World.setCell]
      have G6 := set_six (v0 := (.slice A_c33lq ((joined aQ aA aB).rows).length k_c33lq)) (v1 := .int .i64 (joined aQ aA aB).n) (v2 := .bool (joined aQ aA aB).has) (v3 := .int .i64 (joined aQ aA aB).v.ty) (v4 := .int .i64 (joined aQ aA aB).v.n) (v5 := .string (joined aQ aA aB).v.s) GZ19.out
      have hbt : w3.heap.size ≤ X0.heap.size := by have h := HB0.size; omega
      have RR := Lib.hid (show ∃ (bw : Nat) (rv : Value) (lw hw : Nat), (Value.pointer (some ⟨X0.heap.size, 0, none⟩)) = .pointer (some ⟨bw, 0, none⟩) ∧ w3.heap.size ≤ bw ∧ bw < ((((((X19.setCell ⟨X0.heap.size, 0, none⟩ ((.slice A_c33lq ((joined aQ aA aB).rows).length k_c33lq))).setCell ⟨X0.heap.size, 1, none⟩ (.int .i64 (joined aQ aA aB).n)).setCell ⟨X0.heap.size, 2, none⟩ (.bool (joined aQ aA aB).has)).setCell ⟨X0.heap.size, 3, none⟩ (.int .i64 (joined aQ aA aB).v.ty)).setCell ⟨X0.heap.size, 4, none⟩ (.int .i64 (joined aQ aA aB).v.n)).setCell ⟨X0.heap.size, 5, none⟩ (.string (joined aQ aA aB).v.s)).heap.size ∧ ((((((X19.setCell ⟨X0.heap.size, 0, none⟩ ((.slice A_c33lq ((joined aQ aA aB).rows).length k_c33lq))).setCell ⟨X0.heap.size, 1, none⟩ (.int .i64 (joined aQ aA aB).n)).setCell ⟨X0.heap.size, 2, none⟩ (.bool (joined aQ aA aB).has)).setCell ⟨X0.heap.size, 3, none⟩ (.int .i64 (joined aQ aA aB).v.ty)).setCell ⟨X0.heap.size, 4, none⟩ (.int .i64 (joined aQ aA aB).v.n)).setCell ⟨X0.heap.size, 5, none⟩ (.string (joined aQ aA aB).v.s)).heap[bw]? = some (.cells #[rv, .int .i64 (joined aQ aA aB).n, .bool (joined aQ aA aB).has, .int .i64 (joined aQ aA aB).v.ty, .int .i64 (joined aQ aA aB).v.n, .string (joined aQ aA aB).v.s] 99) ∧ RdR ((((((X19.setCell ⟨X0.heap.size, 0, none⟩ ((.slice A_c33lq ((joined aQ aA aB).rows).length k_c33lq))).setCell ⟨X0.heap.size, 1, none⟩ (.int .i64 (joined aQ aA aB).n)).setCell ⟨X0.heap.size, 2, none⟩ (.bool (joined aQ aA aB).has)).setCell ⟨X0.heap.size, 3, none⟩ (.int .i64 (joined aQ aA aB).v.ty)).setCell ⟨X0.heap.size, 4, none⟩ (.int .i64 (joined aQ aA aB).v.n)).setCell ⟨X0.heap.size, 5, none⟩ (.string (joined aQ aA aB).v.s)) lw hw rv ((joined aQ aA aB).rows) ∧ hw ≤ ((((((X19.setCell ⟨X0.heap.size, 0, none⟩ ((.slice A_c33lq ((joined aQ aA aB).rows).length k_c33lq))).setCell ⟨X0.heap.size, 1, none⟩ (.int .i64 (joined aQ aA aB).n)).setCell ⟨X0.heap.size, 2, none⟩ (.bool (joined aQ aA aB).has)).setCell ⟨X0.heap.size, 3, none⟩ (.int .i64 (joined aQ aA aB).v.ty)).setCell ⟨X0.heap.size, 4, none⟩ (.int .i64 (joined aQ aA aB).v.n)).setCell ⟨X0.heap.size, 5, none⟩ (.string (joined aQ aA aB).v.s)).heap.size ∧ Below w3.heap.size w3 ((((((X19.setCell ⟨X0.heap.size, 0, none⟩ ((.slice A_c33lq ((joined aQ aA aB).rows).length k_c33lq))).setCell ⟨X0.heap.size, 1, none⟩ (.int .i64 (joined aQ aA aB).n)).setCell ⟨X0.heap.size, 2, none⟩ (.bool (joined aQ aA aB).has)).setCell ⟨X0.heap.size, 3, none⟩ (.int .i64 (joined aQ aA aB).v.ty)).setCell ⟨X0.heap.size, 4, none⟩ (.int .i64 (joined aQ aA aB).v.n)).setCell ⟨X0.heap.size, 5, none⟩ (.string (joined aQ aA aB).v.s)) from ⟨X0.heap.size, (.slice A_c33lq ((joined aQ aA aB).rows).length k_c33lq), _, _, rfl, hbt, by rw [hsz]; omega, G6, D_c33lq_19.same (.of_chg hch (by omega) (by omega)), by rw [hsz]; omega, HB19.trans ((hch.below (Nat.le_refl _) (by omega)).mono hbt)⟩)
      clear G6 hch hbt hsz
      have t0 := cell_of_row X19 _ 0 _ _ _ GZ19.out
      have t1 := cell_of_row X19 _ 1 _ _ _ GZ19.out
      have t2 := cell_of_row X19 _ 2 _ _ _ GZ19.out
      have t3 := cell_of_row X19 _ 3 _ _ _ GZ19.out
      have t4 := cell_of_row X19 _ 4 _ _ _ GZ19.out
      have t5 := cell_of_row X19 _ 5 _ _ _ GZ19.out
      simp only [List.getElem?_toArray, List.getElem?_cons_zero, List.getElem?_cons_succ] at t0 t1 t2 t3 t4 t5
      have ft := fun o => frozen_of_row X19 _ o _ _ GZ19.out
      refine wpAnyT_one (k := 8) (o := _) (by kernel_rfl) rfl rfl ?_
      intro K hK
      go_simp
      refine hK.out _ _ (fun h => absurd rfl h) ?_
      clear hK
      refine wpAnyT_done (by kernel_rfl) ?_ _
      go_wp2_with fail
      go_meet
      with_reducible exact RR.out
  clear HS TC0 TC1 TC2
  have X_aQ := hX_aQ.out
  have X_aA := hX_aA.out
  have X_aB := hX_aB.out
  clear hX_aQ hX_aA hX_aB
  obtain ⟨B_w0, c33lq, L_w0, U_w0, rfl, hb1_w0, hb2_w0, GB, H_c33lq, hu_w0, hBc⟩ := hcut
  obtain ⟨w4, hw1⟩ : ∃ x, x = wc := ⟨_, rfl⟩
  subst hw1
  have b3 : Below w3.heap.size w3 w4 := hBc
  have z3 := b3.size
  replace H_aQ_p := H_aQ_p.below b3 (by omega)
  replace H_aQ_o := H_aQ_o.below b3 (by omega)
  replace H_aA_l := H_aA_l.below b3 (by omega)
  replace H_aB_l := H_aB_l.below b3 (by omega)
  replace X_aQ := box_keep X_aQ b3 (by omega)
  replace Y_aQ : w.heap.size < w4.heap.size := by omega
  replace X_aA := box_keep X_aA b3 (by omega)
  replace Y_aA : w.heap.size + 1 < w4.heap.size := by omega
  replace X_aB := box_keep X_aB b3 (by omega)
  replace Y_aB : w.heap.size + 2 < w4.heap.size := by omega
  replace hB := hB.trans (b3.mono hB.size)
  clear hBc b3
  obtain ⟨A_c33lq, k_c33lq, rfl, -, -⟩ := H_c33lq.form
  have X_w0 : ∀ o, w4.cell? ⟨B_w0, o, none⟩ = (#[(.slice A_c33lq (joined aQ aA aB).rows.length k_c33lq), .int .i64 (joined aQ aA aB).n, .bool (joined aQ aA aB).has, .int .i64 (joined aQ aA aB).v.ty, .int .i64 (joined aQ aA aB).v.n, .string (joined aQ aA aB).v.s] : Array Value)[o]? := fun o => cell_of_row w4 _ o _ _ _ GB
  clear GB
  have Y_w0 : B_w0 < w4.heap.size := hb2_w0
  go_wp2_with fail
  refine (toQuery_c aQ aQ_p aQ_o _ (H_aQ_p) (by omega) (H_aQ_o) (by omega) T_aQ).mono ?_
  rintro e w5 ⟨M_n4p, n4p, n4o, rfl, H_n4p, H_n4o, ma_n4p, mb_n4p, hb⟩
  have b4 : Below w4.heap.size w4 w5 := hb
  have z4 := b4.size
  replace H_aQ_p := H_aQ_p.below b4 (by omega)
  replace H_aQ_o := H_aQ_o.below b4 (by omega)
  replace H_aA_l := H_aA_l.below b4 (by omega)
  replace H_aB_l := H_aB_l.below b4 (by omega)
  replace H_c33lq := H_c33lq.below b4 (by omega)
  replace X_aQ := box_keep X_aQ b4 (by omega)
  replace Y_aQ : w.heap.size < w5.heap.size := by omega
  replace X_aA := box_keep X_aA b4 (by omega)
  replace Y_aA : w.heap.size + 1 < w5.heap.size := by omega
  replace X_aB := box_keep X_aB b4 (by omega)
  replace Y_aB : w.heap.size + 2 < w5.heap.size := by omega
  replace X_w0 := box_keep X_w0 b4 (by omega)
  replace Y_w0 : B_w0 < w5.heap.size := by omega
  replace hB := hB.trans (b4.mono hB.size)
  clear hb b4
  obtain ⟨A_n4p, k_n4p, rfl, -, -⟩ := (H_n4p.rdP).form
  obtain ⟨A_n4o, k_n4o, rfl, -, -⟩ := (H_n4o.rdI).form
  go_wp2_with fail
  refine (toResult_c aA aA_l _ (RdR.below (H_aA_l) (up_a1 w5 _ ) (by omega)) (by simp only [World.size_alloc]; omega) T_aA).mono ?_
  rintro e w6 ⟨n5l, rfl, H_n5l, hb⟩
  replace H_n5l := H_n5l.more (lo' := w5.heap.size + 1) (by simp <;> omega) (Nat.le_refl _)
  have b5 : Below w5.heap.size w5 w6 := below_a1 hb
  have z5 : w5.heap.size + 1 ≤ w6.heap.size := by have h := hb.size; simpa [Nat.add_assoc] using h
  replace H_aQ_p := H_aQ_p.below b5 (by omega)
  replace H_aQ_o := H_aQ_o.below b5 (by omega)
  replace H_aA_l := H_aA_l.below b5 (by omega)
  replace H_aB_l := H_aB_l.below b5 (by omega)
  replace H_c33lq := H_c33lq.below b5 (by omega)
  replace H_n4p := H_n4p.below b5 (by omega)
  replace H_n4o := H_n4o.below b5 (by omega)
  replace X_aQ := box_keep X_aQ b5 (by omega)
  replace Y_aQ : w.heap.size < w6.heap.size := by omega
  replace X_aA := box_keep X_aA b5 (by omega)
  replace Y_aA : w.heap.size + 1 < w6.heap.size := by omega
  replace X_aB := box_keep X_aB b5 (by omega)
  replace Y_aB : w.heap.size + 2 < w6.heap.size := by omega
  replace X_w0 := box_keep X_w0 b5 (by omega)
  replace Y_w0 : B_w0 < w6.heap.size := by omega
  have X_x0 : ∀ o, w6.cell? ⟨w5.heap.size, o, none⟩ = (#[.int .i64 aQ.kind, .int .i64 aQ.p.kind, .int .i64 aQ.p.col, .int .i64 aQ.p.op, .int .i64 aQ.p.v.ty, .int .i64 aQ.p.v.n, .string aQ.p.v.s, (.slice A_n4p (aQ.p.l).length k_n4p), .int .i64 aQ.col, (.slice A_n4o (aQ.out).length k_n4o)] : Array Value)[o]? := by
    intro o
    have h := box_new w5 #[.int .i64 aQ.kind, .int .i64 aQ.p.kind, .int .i64 aQ.p.col, .int .i64 aQ.p.op, .int .i64 aQ.p.v.ty, .int .i64 aQ.p.v.n, .string aQ.p.v.s, (.slice A_n4p (aQ.p.l).length k_n4p), .int .i64 aQ.col, (.slice A_n4o (aQ.out).length k_n4o)] 83 o
    replace h := (hb.cell (p := ⟨_, o, none⟩) (by simp <;> omega)).trans h
    simpa [Nat.add_assoc] using h
  have Y_x0 : w5.heap.size < w6.heap.size := by omega
  replace hB := hB.trans (b5.mono hB.size)
  clear hb b5
  obtain ⟨A_n5l, k_n5l, rfl, -, -⟩ := (H_n5l.rdR).form
  go_wp2_with fail
  refine (toResult_c aB aB_l _ (RdR.below (H_aB_l) (up_a1 w6 _ ) (by omega)) (by simp only [World.size_alloc]; omega) T_aB).mono ?_
  rintro e w7 ⟨n6l, rfl, H_n6l, hb⟩
  replace H_n6l := H_n6l.more (lo' := w6.heap.size + 1) (by simp <;> omega) (Nat.le_refl _)
  have b6 : Below w6.heap.size w6 w7 := below_a1 hb
  have z6 : w6.heap.size + 1 ≤ w7.heap.size := by have h := hb.size; simpa [Nat.add_assoc] using h
  replace H_aQ_p := H_aQ_p.below b6 (by omega)
  replace H_aQ_o := H_aQ_o.below b6 (by omega)
  replace H_aA_l := H_aA_l.below b6 (by omega)
  replace H_aB_l := H_aB_l.below b6 (by omega)
  replace H_c33lq := H_c33lq.below b6 (by omega)
  replace H_n4p := H_n4p.below b6 (by omega)
  replace H_n4o := H_n4o.below b6 (by omega)
  replace H_n5l := H_n5l.below b6 (by omega)
  replace X_aQ := box_keep X_aQ b6 (by omega)
  replace Y_aQ : w.heap.size < w7.heap.size := by omega
  replace X_aA := box_keep X_aA b6 (by omega)
  replace Y_aA : w.heap.size + 1 < w7.heap.size := by omega
  replace X_aB := box_keep X_aB b6 (by omega)
  replace Y_aB : w.heap.size + 2 < w7.heap.size := by omega
  replace X_w0 := box_keep X_w0 b6 (by omega)
  replace Y_w0 : B_w0 < w7.heap.size := by omega
  replace X_x0 := box_keep X_x0 b6 (by omega)
  replace Y_x0 : w5.heap.size < w7.heap.size := by omega
  have X_x1 : ∀ o, w7.cell? ⟨w6.heap.size, o, none⟩ = (#[(.slice A_n5l (aA.rows).length k_n5l), .int .i64 aA.n, .bool aA.has, .int .i64 aA.v.ty, .int .i64 aA.v.n, .string aA.v.s] : Array Value)[o]? := by
    intro o
    have h := box_new w6 #[(.slice A_n5l (aA.rows).length k_n5l), .int .i64 aA.n, .bool aA.has, .int .i64 aA.v.ty, .int .i64 aA.v.n, .string aA.v.s] 99 o
    replace h := (hb.cell (p := ⟨_, o, none⟩) (by simp <;> omega)).trans h
    simpa [Nat.add_assoc] using h
  have Y_x1 : w6.heap.size < w7.heap.size := by omega
  replace hB := hB.trans (b6.mono hB.size)
  clear hb b6
  obtain ⟨A_n6l, k_n6l, rfl, -, -⟩ := (H_n6l.rdR).form
  go_wp2_with fail
  refine (impl_Joined aQ (.slice A_n4p (aQ.p.l).length k_n4p) (.slice A_n4o (aQ.out).length k_n4o) aA (.slice A_n5l (aA.rows).length k_n5l) aB (.slice A_n6l (aB.rows).length k_n6l) _ (RdP.below (H_n4p.rdP) (up_a1 w7 _ ) (by omega)) (by simp only [World.size_alloc]; omega) (RdI.below (H_n4o.rdI) (up_a1 w7 _ ) (by omega)) (by simp only [World.size_alloc]; omega) (RdR.below (H_n5l.rdR) (up_a1 w7 _ ) (by omega)) (by simp only [World.size_alloc]; omega) (RdR.below (H_n6l.rdR) (up_a1 w7 _ ) (by omega)) (by simp only [World.size_alloc]; omega)  ⟨T_aA.1, T_aA.2.2⟩ ⟨T_aB.1, T_aB.2.2⟩).mono ?_
  rintro e w8 ⟨n7lq, rfl, H_n7lq, hb⟩
  replace H_n7lq := H_n7lq.more (lo' := w7.heap.size + 1) (by simp <;> omega) (Nat.le_refl _)
  have b7 : Below w7.heap.size w7 w8 := below_a1 hb
  have z7 : w7.heap.size + 1 ≤ w8.heap.size := by have h := hb.size; simpa [Nat.add_assoc] using h
  replace H_aQ_p := H_aQ_p.below b7 (by omega)
  replace H_aQ_o := H_aQ_o.below b7 (by omega)
  replace H_aA_l := H_aA_l.below b7 (by omega)
  replace H_aB_l := H_aB_l.below b7 (by omega)
  replace H_c33lq := H_c33lq.below b7 (by omega)
  replace H_n4p := H_n4p.below b7 (by omega)
  replace H_n4o := H_n4o.below b7 (by omega)
  replace H_n5l := H_n5l.below b7 (by omega)
  replace H_n6l := H_n6l.below b7 (by omega)
  replace X_aQ := box_keep X_aQ b7 (by omega)
  replace Y_aQ : w.heap.size < w8.heap.size := by omega
  replace X_aA := box_keep X_aA b7 (by omega)
  replace Y_aA : w.heap.size + 1 < w8.heap.size := by omega
  replace X_aB := box_keep X_aB b7 (by omega)
  replace Y_aB : w.heap.size + 2 < w8.heap.size := by omega
  replace X_w0 := box_keep X_w0 b7 (by omega)
  replace Y_w0 : B_w0 < w8.heap.size := by omega
  replace X_x0 := box_keep X_x0 b7 (by omega)
  replace Y_x0 : w5.heap.size < w8.heap.size := by omega
  replace X_x1 := box_keep X_x1 b7 (by omega)
  replace Y_x1 : w6.heap.size < w8.heap.size := by omega
  have X_x2 : ∀ o, w8.cell? ⟨w7.heap.size, o, none⟩ = (#[(.slice A_n6l (aB.rows).length k_n6l), .int .i64 aB.n, .bool aB.has, .int .i64 aB.v.ty, .int .i64 aB.v.n, .string aB.v.s] : Array Value)[o]? := by
    intro o
    have h := box_new w7 #[(.slice A_n6l (aB.rows).length k_n6l), .int .i64 aB.n, .bool aB.has, .int .i64 aB.v.ty, .int .i64 aB.v.n, .string aB.v.s] 99 o
    replace h := (hb.cell (p := ⟨_, o, none⟩) (by simp <;> omega)).trans h
    simpa [Nat.add_assoc] using h
  have Y_x2 : w7.heap.size < w8.heap.size := by omega
  replace hB := hB.trans (b7.mono hB.size)
  clear hb b7
  obtain ⟨A_n7lq, k_n7lq, rfl, -, -⟩ := (H_n7lq.rdR).form
  go_wp2_with fail
  refine (eqResult_c ((joined aQ aA aB)) (.slice A_n7lq ((joined aQ aA aB).rows).length k_n7lq) ((joined aQ aA aB)) (.slice A_c33lq (joined aQ aA aB).rows.length k_c33lq) _ (RdR.below (H_n7lq.rdR) (up_a1 w8 _ ) (by omega)) (by simp only [World.size_alloc]; omega) (RdR.below (H_c33lq) (up_a1 w8 _ ) (by omega)) (by simp only [World.size_alloc]; omega)).mono ?_
  rintro e w9 ⟨rfl, hb⟩
  have b8 : Below w8.heap.size w8 w9 := below_a1 hb
  have z8 : w8.heap.size + 1 ≤ w9.heap.size := by have h := hb.size; simpa [Nat.add_assoc] using h
  replace H_aQ_p := H_aQ_p.below b8 (by omega)
  replace H_aQ_o := H_aQ_o.below b8 (by omega)
  replace H_aA_l := H_aA_l.below b8 (by omega)
  replace H_aB_l := H_aB_l.below b8 (by omega)
  replace H_c33lq := H_c33lq.below b8 (by omega)
  replace H_n4p := H_n4p.below b8 (by omega)
  replace H_n4o := H_n4o.below b8 (by omega)
  replace H_n5l := H_n5l.below b8 (by omega)
  replace H_n6l := H_n6l.below b8 (by omega)
  replace H_n7lq := H_n7lq.below b8 (by omega)
  replace X_aQ := box_keep X_aQ b8 (by omega)
  replace Y_aQ : w.heap.size < w9.heap.size := by omega
  replace X_aA := box_keep X_aA b8 (by omega)
  replace Y_aA : w.heap.size + 1 < w9.heap.size := by omega
  replace X_aB := box_keep X_aB b8 (by omega)
  replace Y_aB : w.heap.size + 2 < w9.heap.size := by omega
  replace X_w0 := box_keep X_w0 b8 (by omega)
  replace Y_w0 : B_w0 < w9.heap.size := by omega
  replace X_x0 := box_keep X_x0 b8 (by omega)
  replace Y_x0 : w5.heap.size < w9.heap.size := by omega
  replace X_x1 := box_keep X_x1 b8 (by omega)
  replace Y_x1 : w6.heap.size < w9.heap.size := by omega
  replace X_x2 := box_keep X_x2 b8 (by omega)
  replace Y_x2 : w7.heap.size < w9.heap.size := by omega
  have X_g0 : ∀ o, w9.cell? ⟨w8.heap.size, o, none⟩ = (#[(.slice A_n7lq ((joined aQ aA aB).rows).length k_n7lq), .int .i64 (joined aQ aA aB).n, .bool (joined aQ aA aB).has, .int .i64 (joined aQ aA aB).v.ty, .int .i64 (joined aQ aA aB).v.n, .string (joined aQ aA aB).v.s] : Array Value)[o]? := by
    intro o
    have h := box_new w8 #[(.slice A_n7lq ((joined aQ aA aB).rows).length k_n7lq), .int .i64 (joined aQ aA aB).n, .bool (joined aQ aA aB).has, .int .i64 (joined aQ aA aB).v.ty, .int .i64 (joined aQ aA aB).v.n, .string (joined aQ aA aB).v.s] 99 o
    replace h := (hb.cell (p := ⟨_, o, none⟩) (by simp <;> omega)).trans h
    simpa [Nat.add_assoc] using h
  have Y_g0 : w8.heap.size < w9.heap.size := by omega
  replace hB := hB.trans (b8.mono hB.size)
  clear hb b8
  try simp only [eqd_self]
  have kS : ∀ A A' : World, (A.cell? ⟨w.heap.size, 0, none⟩ = some (.int .i64 aQ.kind) ∧ A.cell? ⟨w.heap.size, 1, none⟩ = some (.int .i64 aQ.p.kind) ∧ A.cell? ⟨w.heap.size, 2, none⟩ = some (.int .i64 aQ.p.col) ∧ A.cell? ⟨w.heap.size, 3, none⟩ = some (.int .i64 aQ.p.op) ∧ A.cell? ⟨w.heap.size, 4, none⟩ = some (.int .i64 aQ.p.v.ty) ∧ A.cell? ⟨w.heap.size, 5, none⟩ = some (.int .i64 aQ.p.v.n) ∧ A.cell? ⟨w.heap.size, 6, none⟩ = some (.string aQ.p.v.s) ∧ A.cell? ⟨w.heap.size, 7, none⟩ = some (aQ_p) ∧ A.cell? ⟨w.heap.size, 8, none⟩ = some (.int .i64 aQ.col) ∧ A.cell? ⟨w.heap.size, 9, none⟩ = some (aQ_o) ∧ A.cell? ⟨w5.heap.size, 0, none⟩ = some (.int .i64 aQ.kind) ∧ A.cell? ⟨w5.heap.size, 1, none⟩ = some (.int .i64 aQ.p.kind) ∧ A.cell? ⟨w5.heap.size, 2, none⟩ = some (.int .i64 aQ.p.col) ∧ A.cell? ⟨w5.heap.size, 3, none⟩ = some (.int .i64 aQ.p.op) ∧ A.cell? ⟨w5.heap.size, 4, none⟩ = some (.int .i64 aQ.p.v.ty) ∧ A.cell? ⟨w5.heap.size, 5, none⟩ = some (.int .i64 aQ.p.v.n) ∧ A.cell? ⟨w5.heap.size, 6, none⟩ = some (.string aQ.p.v.s) ∧ A.cell? ⟨w5.heap.size, 7, none⟩ = some ((.slice A_n4p (aQ.p.l).length k_n4p)) ∧ A.cell? ⟨w5.heap.size, 8, none⟩ = some (.int .i64 aQ.col) ∧ A.cell? ⟨w5.heap.size, 9, none⟩ = some ((.slice A_n4o (aQ.out).length k_n4o)) ∧ Below w9.heap.size w9 A) → Below A.heap.size A A' → (A'.cell? ⟨w.heap.size, 0, none⟩ = some (.int .i64 aQ.kind) ∧ A'.cell? ⟨w.heap.size, 1, none⟩ = some (.int .i64 aQ.p.kind) ∧ A'.cell? ⟨w.heap.size, 2, none⟩ = some (.int .i64 aQ.p.col) ∧ A'.cell? ⟨w.heap.size, 3, none⟩ = some (.int .i64 aQ.p.op) ∧ A'.cell? ⟨w.heap.size, 4, none⟩ = some (.int .i64 aQ.p.v.ty) ∧ A'.cell? ⟨w.heap.size, 5, none⟩ = some (.int .i64 aQ.p.v.n) ∧ A'.cell? ⟨w.heap.size, 6, none⟩ = some (.string aQ.p.v.s) ∧ A'.cell? ⟨w.heap.size, 7, none⟩ = some (aQ_p) ∧ A'.cell? ⟨w.heap.size, 8, none⟩ = some (.int .i64 aQ.col) ∧ A'.cell? ⟨w.heap.size, 9, none⟩ = some (aQ_o) ∧ A'.cell? ⟨w5.heap.size, 0, none⟩ = some (.int .i64 aQ.kind) ∧ A'.cell? ⟨w5.heap.size, 1, none⟩ = some (.int .i64 aQ.p.kind) ∧ A'.cell? ⟨w5.heap.size, 2, none⟩ = some (.int .i64 aQ.p.col) ∧ A'.cell? ⟨w5.heap.size, 3, none⟩ = some (.int .i64 aQ.p.op) ∧ A'.cell? ⟨w5.heap.size, 4, none⟩ = some (.int .i64 aQ.p.v.ty) ∧ A'.cell? ⟨w5.heap.size, 5, none⟩ = some (.int .i64 aQ.p.v.n) ∧ A'.cell? ⟨w5.heap.size, 6, none⟩ = some (.string aQ.p.v.s) ∧ A'.cell? ⟨w5.heap.size, 7, none⟩ = some ((.slice A_n4p (aQ.p.l).length k_n4p)) ∧ A'.cell? ⟨w5.heap.size, 8, none⟩ = some (.int .i64 aQ.col) ∧ A'.cell? ⟨w5.heap.size, 9, none⟩ = some ((.slice A_n4o (aQ.out).length k_n4o)) ∧ Below w9.heap.size w9 A') := by
    intro A A' h hb
    obtain ⟨h0, h1, h2, h3, h4, h5, h6, h7, h8, h9, h10, h11, h12, h13, h14, h15, h16, h17, h18, h19, hq⟩ := h
    have hs := hq.size
    exact ⟨(hb.cell (p := ⟨w.heap.size, 0, none⟩) (show w.heap.size < _ by omega)).trans h0, (hb.cell (p := ⟨w.heap.size, 1, none⟩) (show w.heap.size < _ by omega)).trans h1, (hb.cell (p := ⟨w.heap.size, 2, none⟩) (show w.heap.size < _ by omega)).trans h2, (hb.cell (p := ⟨w.heap.size, 3, none⟩) (show w.heap.size < _ by omega)).trans h3, (hb.cell (p := ⟨w.heap.size, 4, none⟩) (show w.heap.size < _ by omega)).trans h4, (hb.cell (p := ⟨w.heap.size, 5, none⟩) (show w.heap.size < _ by omega)).trans h5, (hb.cell (p := ⟨w.heap.size, 6, none⟩) (show w.heap.size < _ by omega)).trans h6, (hb.cell (p := ⟨w.heap.size, 7, none⟩) (show w.heap.size < _ by omega)).trans h7, (hb.cell (p := ⟨w.heap.size, 8, none⟩) (show w.heap.size < _ by omega)).trans h8, (hb.cell (p := ⟨w.heap.size, 9, none⟩) (show w.heap.size < _ by omega)).trans h9, (hb.cell (p := ⟨w5.heap.size, 0, none⟩) (show w5.heap.size < _ by omega)).trans h10, (hb.cell (p := ⟨w5.heap.size, 1, none⟩) (show w5.heap.size < _ by omega)).trans h11, (hb.cell (p := ⟨w5.heap.size, 2, none⟩) (show w5.heap.size < _ by omega)).trans h12, (hb.cell (p := ⟨w5.heap.size, 3, none⟩) (show w5.heap.size < _ by omega)).trans h13, (hb.cell (p := ⟨w5.heap.size, 4, none⟩) (show w5.heap.size < _ by omega)).trans h14, (hb.cell (p := ⟨w5.heap.size, 5, none⟩) (show w5.heap.size < _ by omega)).trans h15, (hb.cell (p := ⟨w5.heap.size, 6, none⟩) (show w5.heap.size < _ by omega)).trans h16, (hb.cell (p := ⟨w5.heap.size, 7, none⟩) (show w5.heap.size < _ by omega)).trans h17, (hb.cell (p := ⟨w5.heap.size, 8, none⟩) (show w5.heap.size < _ by omega)).trans h18, (hb.cell (p := ⟨w5.heap.size, 9, none⟩) (show w5.heap.size < _ by omega)).trans h19, hq.trans (hb.mono hs)⟩
  have toB : ∀ A : World, (A.cell? ⟨w.heap.size, 0, none⟩ = some (.int .i64 aQ.kind) ∧ A.cell? ⟨w.heap.size, 1, none⟩ = some (.int .i64 aQ.p.kind) ∧ A.cell? ⟨w.heap.size, 2, none⟩ = some (.int .i64 aQ.p.col) ∧ A.cell? ⟨w.heap.size, 3, none⟩ = some (.int .i64 aQ.p.op) ∧ A.cell? ⟨w.heap.size, 4, none⟩ = some (.int .i64 aQ.p.v.ty) ∧ A.cell? ⟨w.heap.size, 5, none⟩ = some (.int .i64 aQ.p.v.n) ∧ A.cell? ⟨w.heap.size, 6, none⟩ = some (.string aQ.p.v.s) ∧ A.cell? ⟨w.heap.size, 7, none⟩ = some (aQ_p) ∧ A.cell? ⟨w.heap.size, 8, none⟩ = some (.int .i64 aQ.col) ∧ A.cell? ⟨w.heap.size, 9, none⟩ = some (aQ_o) ∧ A.cell? ⟨w5.heap.size, 0, none⟩ = some (.int .i64 aQ.kind) ∧ A.cell? ⟨w5.heap.size, 1, none⟩ = some (.int .i64 aQ.p.kind) ∧ A.cell? ⟨w5.heap.size, 2, none⟩ = some (.int .i64 aQ.p.col) ∧ A.cell? ⟨w5.heap.size, 3, none⟩ = some (.int .i64 aQ.p.op) ∧ A.cell? ⟨w5.heap.size, 4, none⟩ = some (.int .i64 aQ.p.v.ty) ∧ A.cell? ⟨w5.heap.size, 5, none⟩ = some (.int .i64 aQ.p.v.n) ∧ A.cell? ⟨w5.heap.size, 6, none⟩ = some (.string aQ.p.v.s) ∧ A.cell? ⟨w5.heap.size, 7, none⟩ = some ((.slice A_n4p (aQ.p.l).length k_n4p)) ∧ A.cell? ⟨w5.heap.size, 8, none⟩ = some (.int .i64 aQ.col) ∧ A.cell? ⟨w5.heap.size, 9, none⟩ = some ((.slice A_n4o (aQ.out).length k_n4o)) ∧ Below w9.heap.size w9 A) → Below w9.heap.size w9 A := fun A h => h.2.2.2.2.2.2.2.2.2.2.2.2.2.2.2.2.2.2.2.2
  have HkS := Lib.hid kS
  have HtoB := Lib.hid toB
  clear kS toB
  go_wp2_with fail
  have hX_aQ := Lib.hid X_aQ
  have hX_aA := Lib.hid X_aA
  have hX_aB := Lib.hid X_aB
  have hX_w0 := Lib.hid X_w0
  have hX_x0 := Lib.hid X_x0
  have hX_x1 := Lib.hid X_x1
  have hX_x2 := Lib.hid X_x2
  have hX_g0 := Lib.hid X_g0
  clear X_aQ X_aA X_aB X_w0 X_x0 X_x1 X_x2 X_g0
  go_region_held3 (fun w' => w'.cell? ⟨w.heap.size, 0, none⟩ = some (.int .i64 aQ.kind) ∧ w'.cell? ⟨w.heap.size, 1, none⟩ = some (.int .i64 aQ.p.kind) ∧ w'.cell? ⟨w.heap.size, 2, none⟩ = some (.int .i64 aQ.p.col) ∧ w'.cell? ⟨w.heap.size, 3, none⟩ = some (.int .i64 aQ.p.op) ∧ w'.cell? ⟨w.heap.size, 4, none⟩ = some (.int .i64 aQ.p.v.ty) ∧ w'.cell? ⟨w.heap.size, 5, none⟩ = some (.int .i64 aQ.p.v.n) ∧ w'.cell? ⟨w.heap.size, 6, none⟩ = some (.string aQ.p.v.s) ∧ w'.cell? ⟨w.heap.size, 7, none⟩ = some (aQ_p) ∧ w'.cell? ⟨w.heap.size, 8, none⟩ = some (.int .i64 aQ.col) ∧ w'.cell? ⟨w.heap.size, 9, none⟩ = some (aQ_o) ∧ w'.cell? ⟨w5.heap.size, 0, none⟩ = some (.int .i64 aQ.kind) ∧ w'.cell? ⟨w5.heap.size, 1, none⟩ = some (.int .i64 aQ.p.kind) ∧ w'.cell? ⟨w5.heap.size, 2, none⟩ = some (.int .i64 aQ.p.col) ∧ w'.cell? ⟨w5.heap.size, 3, none⟩ = some (.int .i64 aQ.p.op) ∧ w'.cell? ⟨w5.heap.size, 4, none⟩ = some (.int .i64 aQ.p.v.ty) ∧ w'.cell? ⟨w5.heap.size, 5, none⟩ = some (.int .i64 aQ.p.v.n) ∧ w'.cell? ⟨w5.heap.size, 6, none⟩ = some (.string aQ.p.v.s) ∧ w'.cell? ⟨w5.heap.size, 7, none⟩ = some ((.slice A_n4p (aQ.p.l).length k_n4p)) ∧ w'.cell? ⟨w5.heap.size, 8, none⟩ = some (.int .i64 aQ.col) ∧ w'.cell? ⟨w5.heap.size, 9, none⟩ = some ((.slice A_n4o (aQ.out).length k_n4o)) ∧ Below w9.heap.size w9 w') (first | exact ⟨hX_aQ.out 0, hX_aQ.out 1, hX_aQ.out 2, hX_aQ.out 3, hX_aQ.out 4, hX_aQ.out 5, hX_aQ.out 6, hX_aQ.out 7, hX_aQ.out 8, hX_aQ.out 9, hX_x0.out 0, hX_x0.out 1, hX_x0.out 2, hX_x0.out 3, hX_x0.out 4, hX_x0.out 5, hX_x0.out 6, hX_x0.out 7, hX_x0.out 8, hX_x0.out 9, (Below.refl _ _).drew⟩ | (refine HkS.out _ _ ?_ hq1; assumption) | (refine HkS.out _ _ ?_ hq2; assumption)) (first
    | (go_at_call 54; ((with_reducible refine (toQuery_c aQ aQ_p aQ_o _ ((H_aQ_p).below (HtoB.out _ (by assumption)) (by omega)) (by have h := (HtoB.out _ (by assumption)).size; omega) ((H_aQ_o).below (HtoB.out _ (by assumption)) (by omega)) (by have h := (HtoB.out _ (by assumption)).size; omega) T_aQ).mono ?_); rintro e w10 ⟨M_r90p, r90p, r90o, rfl, H_r90p, H_r90o, ma_r90p, mb_r90p, hq1⟩; obtain ⟨A_r90p, k_r90p, rfl, -, -⟩ := (H_r90p.rdP).form; obtain ⟨A_r90o, k_r90o, rfl, -, -⟩ := (H_r90o.rdI).form))
    | (go_at_call 56; ((with_reducible refine (eqQuery_c aQ (.slice A_n4p (aQ.p.l).length k_n4p) (.slice A_n4o (aQ.out).length k_n4o) aQ (.slice A_r90p (aQ.p.l).length k_r90p) (.slice A_r90o (aQ.out).length k_r90o) _ ((H_n4p.rdP).below (HtoB.out _ (by assumption)) (by omega)) (by have h := (HtoB.out _ (by assumption)).size; omega) ((H_n4o.rdI).below (HtoB.out _ (by assumption)) (by omega)) (by have h := (HtoB.out _ (by assumption)).size; omega) (H_r90p.rdP) (by first | exact Nat.le_refl _ | (omega)) (H_r90o.rdI) (by first | exact Nat.le_refl _ | (omega))).mono ?_); rintro e w11 ⟨rfl, hq2⟩)))
  clear HkS HtoB
  have X_aQ := hX_aQ.out
  have X_aA := hX_aA.out
  have X_aB := hX_aB.out
  have X_w0 := hX_w0.out
  have X_x0 := hX_x0.out
  have X_x1 := hX_x1.out
  have X_x2 := hX_x2.out
  have X_g0 := hX_g0.out
  clear hX_aQ hX_aA hX_aB hX_w0 hX_x0 hX_x1 hX_x2 hX_g0
  replace hq1 := Below.undrew hq1
  replace H_r90p := H_r90p.more (lo' := w9.heap.size) (Nat.le_refl _) (Nat.le_refl _)
  replace ma_r90p : w9.heap.size ≤ M_r90p := ma_r90p
  have b9 : Below w9.heap.size w9 w10 := hq1
  have z9 := b9.size
  replace H_aQ_p := H_aQ_p.below b9 (by omega)
  replace H_aQ_o := H_aQ_o.below b9 (by omega)
  replace H_aA_l := H_aA_l.below b9 (by omega)
  replace H_aB_l := H_aB_l.below b9 (by omega)
  replace H_c33lq := H_c33lq.below b9 (by omega)
  replace H_n4p := H_n4p.below b9 (by omega)
  replace H_n4o := H_n4o.below b9 (by omega)
  replace H_n5l := H_n5l.below b9 (by omega)
  replace H_n6l := H_n6l.below b9 (by omega)
  replace H_n7lq := H_n7lq.below b9 (by omega)
  replace X_aQ := box_keep X_aQ b9 (by omega)
  replace Y_aQ : w.heap.size < w10.heap.size := by omega
  replace X_aA := box_keep X_aA b9 (by omega)
  replace Y_aA : w.heap.size + 1 < w10.heap.size := by omega
  replace X_aB := box_keep X_aB b9 (by omega)
  replace Y_aB : w.heap.size + 2 < w10.heap.size := by omega
  replace X_w0 := box_keep X_w0 b9 (by omega)
  replace Y_w0 : B_w0 < w10.heap.size := by omega
  replace X_x0 := box_keep X_x0 b9 (by omega)
  replace Y_x0 : w5.heap.size < w10.heap.size := by omega
  replace X_x1 := box_keep X_x1 b9 (by omega)
  replace Y_x1 : w6.heap.size < w10.heap.size := by omega
  replace X_x2 := box_keep X_x2 b9 (by omega)
  replace Y_x2 : w7.heap.size < w10.heap.size := by omega
  replace X_g0 := box_keep X_g0 b9 (by omega)
  replace Y_g0 : w8.heap.size < w10.heap.size := by omega
  replace hB := hB.trans (b9.mono hB.size)
  clear hq1 b9
  have b10 : Below w10.heap.size w10 w11 := hq2
  have z10 := b10.size
  replace H_aQ_p := H_aQ_p.below b10 (by omega)
  replace H_aQ_o := H_aQ_o.below b10 (by omega)
  replace H_aA_l := H_aA_l.below b10 (by omega)
  replace H_aB_l := H_aB_l.below b10 (by omega)
  replace H_c33lq := H_c33lq.below b10 (by omega)
  replace H_n4p := H_n4p.below b10 (by omega)
  replace H_n4o := H_n4o.below b10 (by omega)
  replace H_n5l := H_n5l.below b10 (by omega)
  replace H_n6l := H_n6l.below b10 (by omega)
  replace H_n7lq := H_n7lq.below b10 (by omega)
  replace H_r90p := H_r90p.below b10 (by omega)
  replace H_r90o := H_r90o.below b10 (by omega)
  replace X_aQ := box_keep X_aQ b10 (by omega)
  replace Y_aQ : w.heap.size < w11.heap.size := by omega
  replace X_aA := box_keep X_aA b10 (by omega)
  replace Y_aA : w.heap.size + 1 < w11.heap.size := by omega
  replace X_aB := box_keep X_aB b10 (by omega)
  replace Y_aB : w.heap.size + 2 < w11.heap.size := by omega
  replace X_w0 := box_keep X_w0 b10 (by omega)
  replace Y_w0 : B_w0 < w11.heap.size := by omega
  replace X_x0 := box_keep X_x0 b10 (by omega)
  replace Y_x0 : w5.heap.size < w11.heap.size := by omega
  replace X_x1 := box_keep X_x1 b10 (by omega)
  replace Y_x1 : w6.heap.size < w11.heap.size := by omega
  replace X_x2 := box_keep X_x2 b10 (by omega)
  replace Y_x2 : w7.heap.size < w11.heap.size := by omega
  replace X_g0 := box_keep X_g0 b10 (by omega)
  replace Y_g0 : w8.heap.size < w11.heap.size := by omega
  replace hB := hB.trans (b10.mono hB.size)
  clear hq2 b10
  try simp only [eqd_self]
  have kS : ∀ A A' : World, (A.cell? ⟨w.heap.size + 1, 0, none⟩ = some (aA_l) ∧ A.cell? ⟨w.heap.size + 1, 1, none⟩ = some (.int .i64 aA.n) ∧ A.cell? ⟨w.heap.size + 1, 2, none⟩ = some (.bool aA.has) ∧ A.cell? ⟨w.heap.size + 1, 3, none⟩ = some (.int .i64 aA.v.ty) ∧ A.cell? ⟨w.heap.size + 1, 4, none⟩ = some (.int .i64 aA.v.n) ∧ A.cell? ⟨w.heap.size + 1, 5, none⟩ = some (.string aA.v.s) ∧ A.cell? ⟨w6.heap.size, 0, none⟩ = some ((.slice A_n5l (aA.rows).length k_n5l)) ∧ A.cell? ⟨w6.heap.size, 1, none⟩ = some (.int .i64 aA.n) ∧ A.cell? ⟨w6.heap.size, 2, none⟩ = some (.bool aA.has) ∧ A.cell? ⟨w6.heap.size, 3, none⟩ = some (.int .i64 aA.v.ty) ∧ A.cell? ⟨w6.heap.size, 4, none⟩ = some (.int .i64 aA.v.n) ∧ A.cell? ⟨w6.heap.size, 5, none⟩ = some (.string aA.v.s) ∧ Below w11.heap.size w11 A) → Below A.heap.size A A' → (A'.cell? ⟨w.heap.size + 1, 0, none⟩ = some (aA_l) ∧ A'.cell? ⟨w.heap.size + 1, 1, none⟩ = some (.int .i64 aA.n) ∧ A'.cell? ⟨w.heap.size + 1, 2, none⟩ = some (.bool aA.has) ∧ A'.cell? ⟨w.heap.size + 1, 3, none⟩ = some (.int .i64 aA.v.ty) ∧ A'.cell? ⟨w.heap.size + 1, 4, none⟩ = some (.int .i64 aA.v.n) ∧ A'.cell? ⟨w.heap.size + 1, 5, none⟩ = some (.string aA.v.s) ∧ A'.cell? ⟨w6.heap.size, 0, none⟩ = some ((.slice A_n5l (aA.rows).length k_n5l)) ∧ A'.cell? ⟨w6.heap.size, 1, none⟩ = some (.int .i64 aA.n) ∧ A'.cell? ⟨w6.heap.size, 2, none⟩ = some (.bool aA.has) ∧ A'.cell? ⟨w6.heap.size, 3, none⟩ = some (.int .i64 aA.v.ty) ∧ A'.cell? ⟨w6.heap.size, 4, none⟩ = some (.int .i64 aA.v.n) ∧ A'.cell? ⟨w6.heap.size, 5, none⟩ = some (.string aA.v.s) ∧ Below w11.heap.size w11 A') := by
    intro A A' h hb
    obtain ⟨h0, h1, h2, h3, h4, h5, h6, h7, h8, h9, h10, h11, hq⟩ := h
    have hs := hq.size
    exact ⟨(hb.cell (p := ⟨w.heap.size + 1, 0, none⟩) (show w.heap.size + 1 < _ by omega)).trans h0, (hb.cell (p := ⟨w.heap.size + 1, 1, none⟩) (show w.heap.size + 1 < _ by omega)).trans h1, (hb.cell (p := ⟨w.heap.size + 1, 2, none⟩) (show w.heap.size + 1 < _ by omega)).trans h2, (hb.cell (p := ⟨w.heap.size + 1, 3, none⟩) (show w.heap.size + 1 < _ by omega)).trans h3, (hb.cell (p := ⟨w.heap.size + 1, 4, none⟩) (show w.heap.size + 1 < _ by omega)).trans h4, (hb.cell (p := ⟨w.heap.size + 1, 5, none⟩) (show w.heap.size + 1 < _ by omega)).trans h5, (hb.cell (p := ⟨w6.heap.size, 0, none⟩) (show w6.heap.size < _ by omega)).trans h6, (hb.cell (p := ⟨w6.heap.size, 1, none⟩) (show w6.heap.size < _ by omega)).trans h7, (hb.cell (p := ⟨w6.heap.size, 2, none⟩) (show w6.heap.size < _ by omega)).trans h8, (hb.cell (p := ⟨w6.heap.size, 3, none⟩) (show w6.heap.size < _ by omega)).trans h9, (hb.cell (p := ⟨w6.heap.size, 4, none⟩) (show w6.heap.size < _ by omega)).trans h10, (hb.cell (p := ⟨w6.heap.size, 5, none⟩) (show w6.heap.size < _ by omega)).trans h11, hq.trans (hb.mono hs)⟩
  have toB : ∀ A : World, (A.cell? ⟨w.heap.size + 1, 0, none⟩ = some (aA_l) ∧ A.cell? ⟨w.heap.size + 1, 1, none⟩ = some (.int .i64 aA.n) ∧ A.cell? ⟨w.heap.size + 1, 2, none⟩ = some (.bool aA.has) ∧ A.cell? ⟨w.heap.size + 1, 3, none⟩ = some (.int .i64 aA.v.ty) ∧ A.cell? ⟨w.heap.size + 1, 4, none⟩ = some (.int .i64 aA.v.n) ∧ A.cell? ⟨w.heap.size + 1, 5, none⟩ = some (.string aA.v.s) ∧ A.cell? ⟨w6.heap.size, 0, none⟩ = some ((.slice A_n5l (aA.rows).length k_n5l)) ∧ A.cell? ⟨w6.heap.size, 1, none⟩ = some (.int .i64 aA.n) ∧ A.cell? ⟨w6.heap.size, 2, none⟩ = some (.bool aA.has) ∧ A.cell? ⟨w6.heap.size, 3, none⟩ = some (.int .i64 aA.v.ty) ∧ A.cell? ⟨w6.heap.size, 4, none⟩ = some (.int .i64 aA.v.n) ∧ A.cell? ⟨w6.heap.size, 5, none⟩ = some (.string aA.v.s) ∧ Below w11.heap.size w11 A) → Below w11.heap.size w11 A := fun A h => h.2.2.2.2.2.2.2.2.2.2.2.2
  have HkS := Lib.hid kS
  have HtoB := Lib.hid toB
  clear kS toB
  go_wp2_with fail
  have hX_aQ := Lib.hid X_aQ
  have hX_aA := Lib.hid X_aA
  have hX_aB := Lib.hid X_aB
  have hX_w0 := Lib.hid X_w0
  have hX_x0 := Lib.hid X_x0
  have hX_x1 := Lib.hid X_x1
  have hX_x2 := Lib.hid X_x2
  have hX_g0 := Lib.hid X_g0
  clear X_aQ X_aA X_aB X_w0 X_x0 X_x1 X_x2 X_g0
  go_region_held3 (fun w' => w'.cell? ⟨w.heap.size + 1, 0, none⟩ = some (aA_l) ∧ w'.cell? ⟨w.heap.size + 1, 1, none⟩ = some (.int .i64 aA.n) ∧ w'.cell? ⟨w.heap.size + 1, 2, none⟩ = some (.bool aA.has) ∧ w'.cell? ⟨w.heap.size + 1, 3, none⟩ = some (.int .i64 aA.v.ty) ∧ w'.cell? ⟨w.heap.size + 1, 4, none⟩ = some (.int .i64 aA.v.n) ∧ w'.cell? ⟨w.heap.size + 1, 5, none⟩ = some (.string aA.v.s) ∧ w'.cell? ⟨w6.heap.size, 0, none⟩ = some ((.slice A_n5l (aA.rows).length k_n5l)) ∧ w'.cell? ⟨w6.heap.size, 1, none⟩ = some (.int .i64 aA.n) ∧ w'.cell? ⟨w6.heap.size, 2, none⟩ = some (.bool aA.has) ∧ w'.cell? ⟨w6.heap.size, 3, none⟩ = some (.int .i64 aA.v.ty) ∧ w'.cell? ⟨w6.heap.size, 4, none⟩ = some (.int .i64 aA.v.n) ∧ w'.cell? ⟨w6.heap.size, 5, none⟩ = some (.string aA.v.s) ∧ Below w11.heap.size w11 w') (first | exact ⟨hX_aA.out 0, hX_aA.out 1, hX_aA.out 2, hX_aA.out 3, hX_aA.out 4, hX_aA.out 5, hX_x1.out 0, hX_x1.out 1, hX_x1.out 2, hX_x1.out 3, hX_x1.out 4, hX_x1.out 5, (Below.refl _ _).drew⟩ | (refine HkS.out _ _ ?_ hq1; assumption) | (refine HkS.out _ _ ?_ hq2; assumption)) (first
    | (go_at_call 66; ((with_reducible refine (toResult_c aA aA_l _ ((H_aA_l).below (HtoB.out _ (by assumption)) (by omega)) (by have h := (HtoB.out _ (by assumption)).size; omega) T_aA).mono ?_); rintro e w12 ⟨r110l, rfl, H_r110l, hq1⟩; obtain ⟨A_r110l, k_r110l, rfl, -, -⟩ := (H_r110l.rdR).form))
    | (go_at_call 68; ((with_reducible refine (eqResult_c aA (.slice A_n5l (aA.rows).length k_n5l) aA (.slice A_r110l (aA.rows).length k_r110l) _ ((H_n5l.rdR).below (HtoB.out _ (by assumption)) (by omega)) (by have h := (HtoB.out _ (by assumption)).size; omega) (H_r110l.rdR) (by first | exact Nat.le_refl _ | (omega))).mono ?_); rintro e w13 ⟨rfl, hq2⟩)))
  clear HkS HtoB
  have X_aQ := hX_aQ.out
  have X_aA := hX_aA.out
  have X_aB := hX_aB.out
  have X_w0 := hX_w0.out
  have X_x0 := hX_x0.out
  have X_x1 := hX_x1.out
  have X_x2 := hX_x2.out
  have X_g0 := hX_g0.out
  clear hX_aQ hX_aA hX_aB hX_w0 hX_x0 hX_x1 hX_x2 hX_g0
  replace hq1 := Below.undrew hq1
  replace H_r110l := H_r110l.more (lo' := w11.heap.size) (Nat.le_refl _) (Nat.le_refl _)
  have b11 : Below w11.heap.size w11 w12 := hq1
  have z11 := b11.size
  replace H_aQ_p := H_aQ_p.below b11 (by omega)
  replace H_aQ_o := H_aQ_o.below b11 (by omega)
  replace H_aA_l := H_aA_l.below b11 (by omega)
  replace H_aB_l := H_aB_l.below b11 (by omega)
  replace H_c33lq := H_c33lq.below b11 (by omega)
  replace H_n4p := H_n4p.below b11 (by omega)
  replace H_n4o := H_n4o.below b11 (by omega)
  replace H_n5l := H_n5l.below b11 (by omega)
  replace H_n6l := H_n6l.below b11 (by omega)
  replace H_n7lq := H_n7lq.below b11 (by omega)
  replace H_r90p := H_r90p.below b11 (by omega)
  replace H_r90o := H_r90o.below b11 (by omega)
  replace X_aQ := box_keep X_aQ b11 (by omega)
  replace Y_aQ : w.heap.size < w12.heap.size := by omega
  replace X_aA := box_keep X_aA b11 (by omega)
  replace Y_aA : w.heap.size + 1 < w12.heap.size := by omega
  replace X_aB := box_keep X_aB b11 (by omega)
  replace Y_aB : w.heap.size + 2 < w12.heap.size := by omega
  replace X_w0 := box_keep X_w0 b11 (by omega)
  replace Y_w0 : B_w0 < w12.heap.size := by omega
  replace X_x0 := box_keep X_x0 b11 (by omega)
  replace Y_x0 : w5.heap.size < w12.heap.size := by omega
  replace X_x1 := box_keep X_x1 b11 (by omega)
  replace Y_x1 : w6.heap.size < w12.heap.size := by omega
  replace X_x2 := box_keep X_x2 b11 (by omega)
  replace Y_x2 : w7.heap.size < w12.heap.size := by omega
  replace X_g0 := box_keep X_g0 b11 (by omega)
  replace Y_g0 : w8.heap.size < w12.heap.size := by omega
  replace hB := hB.trans (b11.mono hB.size)
  clear hq1 b11
  have b12 : Below w12.heap.size w12 w13 := hq2
  have z12 := b12.size
  replace H_aQ_p := H_aQ_p.below b12 (by omega)
  replace H_aQ_o := H_aQ_o.below b12 (by omega)
  replace H_aA_l := H_aA_l.below b12 (by omega)
  replace H_aB_l := H_aB_l.below b12 (by omega)
  replace H_c33lq := H_c33lq.below b12 (by omega)
  replace H_n4p := H_n4p.below b12 (by omega)
  replace H_n4o := H_n4o.below b12 (by omega)
  replace H_n5l := H_n5l.below b12 (by omega)
  replace H_n6l := H_n6l.below b12 (by omega)
  replace H_n7lq := H_n7lq.below b12 (by omega)
  replace H_r90p := H_r90p.below b12 (by omega)
  replace H_r90o := H_r90o.below b12 (by omega)
  replace H_r110l := H_r110l.below b12 (by omega)
  replace X_aQ := box_keep X_aQ b12 (by omega)
  replace Y_aQ : w.heap.size < w13.heap.size := by omega
  replace X_aA := box_keep X_aA b12 (by omega)
  replace Y_aA : w.heap.size + 1 < w13.heap.size := by omega
  replace X_aB := box_keep X_aB b12 (by omega)
  replace Y_aB : w.heap.size + 2 < w13.heap.size := by omega
  replace X_w0 := box_keep X_w0 b12 (by omega)
  replace Y_w0 : B_w0 < w13.heap.size := by omega
  replace X_x0 := box_keep X_x0 b12 (by omega)
  replace Y_x0 : w5.heap.size < w13.heap.size := by omega
  replace X_x1 := box_keep X_x1 b12 (by omega)
  replace Y_x1 : w6.heap.size < w13.heap.size := by omega
  replace X_x2 := box_keep X_x2 b12 (by omega)
  replace Y_x2 : w7.heap.size < w13.heap.size := by omega
  replace X_g0 := box_keep X_g0 b12 (by omega)
  replace Y_g0 : w8.heap.size < w13.heap.size := by omega
  replace hB := hB.trans (b12.mono hB.size)
  clear hq2 b12
  try simp only [eqd_self]
  have kS : ∀ A A' : World, (A.cell? ⟨w.heap.size + 2, 0, none⟩ = some (aB_l) ∧ A.cell? ⟨w.heap.size + 2, 1, none⟩ = some (.int .i64 aB.n) ∧ A.cell? ⟨w.heap.size + 2, 2, none⟩ = some (.bool aB.has) ∧ A.cell? ⟨w.heap.size + 2, 3, none⟩ = some (.int .i64 aB.v.ty) ∧ A.cell? ⟨w.heap.size + 2, 4, none⟩ = some (.int .i64 aB.v.n) ∧ A.cell? ⟨w.heap.size + 2, 5, none⟩ = some (.string aB.v.s) ∧ A.cell? ⟨w7.heap.size, 0, none⟩ = some ((.slice A_n6l (aB.rows).length k_n6l)) ∧ A.cell? ⟨w7.heap.size, 1, none⟩ = some (.int .i64 aB.n) ∧ A.cell? ⟨w7.heap.size, 2, none⟩ = some (.bool aB.has) ∧ A.cell? ⟨w7.heap.size, 3, none⟩ = some (.int .i64 aB.v.ty) ∧ A.cell? ⟨w7.heap.size, 4, none⟩ = some (.int .i64 aB.v.n) ∧ A.cell? ⟨w7.heap.size, 5, none⟩ = some (.string aB.v.s) ∧ Below w13.heap.size w13 A) → Below A.heap.size A A' → (A'.cell? ⟨w.heap.size + 2, 0, none⟩ = some (aB_l) ∧ A'.cell? ⟨w.heap.size + 2, 1, none⟩ = some (.int .i64 aB.n) ∧ A'.cell? ⟨w.heap.size + 2, 2, none⟩ = some (.bool aB.has) ∧ A'.cell? ⟨w.heap.size + 2, 3, none⟩ = some (.int .i64 aB.v.ty) ∧ A'.cell? ⟨w.heap.size + 2, 4, none⟩ = some (.int .i64 aB.v.n) ∧ A'.cell? ⟨w.heap.size + 2, 5, none⟩ = some (.string aB.v.s) ∧ A'.cell? ⟨w7.heap.size, 0, none⟩ = some ((.slice A_n6l (aB.rows).length k_n6l)) ∧ A'.cell? ⟨w7.heap.size, 1, none⟩ = some (.int .i64 aB.n) ∧ A'.cell? ⟨w7.heap.size, 2, none⟩ = some (.bool aB.has) ∧ A'.cell? ⟨w7.heap.size, 3, none⟩ = some (.int .i64 aB.v.ty) ∧ A'.cell? ⟨w7.heap.size, 4, none⟩ = some (.int .i64 aB.v.n) ∧ A'.cell? ⟨w7.heap.size, 5, none⟩ = some (.string aB.v.s) ∧ Below w13.heap.size w13 A') := by
    intro A A' h hb
    obtain ⟨h0, h1, h2, h3, h4, h5, h6, h7, h8, h9, h10, h11, hq⟩ := h
    have hs := hq.size
    exact ⟨(hb.cell (p := ⟨w.heap.size + 2, 0, none⟩) (show w.heap.size + 2 < _ by omega)).trans h0, (hb.cell (p := ⟨w.heap.size + 2, 1, none⟩) (show w.heap.size + 2 < _ by omega)).trans h1, (hb.cell (p := ⟨w.heap.size + 2, 2, none⟩) (show w.heap.size + 2 < _ by omega)).trans h2, (hb.cell (p := ⟨w.heap.size + 2, 3, none⟩) (show w.heap.size + 2 < _ by omega)).trans h3, (hb.cell (p := ⟨w.heap.size + 2, 4, none⟩) (show w.heap.size + 2 < _ by omega)).trans h4, (hb.cell (p := ⟨w.heap.size + 2, 5, none⟩) (show w.heap.size + 2 < _ by omega)).trans h5, (hb.cell (p := ⟨w7.heap.size, 0, none⟩) (show w7.heap.size < _ by omega)).trans h6, (hb.cell (p := ⟨w7.heap.size, 1, none⟩) (show w7.heap.size < _ by omega)).trans h7, (hb.cell (p := ⟨w7.heap.size, 2, none⟩) (show w7.heap.size < _ by omega)).trans h8, (hb.cell (p := ⟨w7.heap.size, 3, none⟩) (show w7.heap.size < _ by omega)).trans h9, (hb.cell (p := ⟨w7.heap.size, 4, none⟩) (show w7.heap.size < _ by omega)).trans h10, (hb.cell (p := ⟨w7.heap.size, 5, none⟩) (show w7.heap.size < _ by omega)).trans h11, hq.trans (hb.mono hs)⟩
  have toB : ∀ A : World, (A.cell? ⟨w.heap.size + 2, 0, none⟩ = some (aB_l) ∧ A.cell? ⟨w.heap.size + 2, 1, none⟩ = some (.int .i64 aB.n) ∧ A.cell? ⟨w.heap.size + 2, 2, none⟩ = some (.bool aB.has) ∧ A.cell? ⟨w.heap.size + 2, 3, none⟩ = some (.int .i64 aB.v.ty) ∧ A.cell? ⟨w.heap.size + 2, 4, none⟩ = some (.int .i64 aB.v.n) ∧ A.cell? ⟨w.heap.size + 2, 5, none⟩ = some (.string aB.v.s) ∧ A.cell? ⟨w7.heap.size, 0, none⟩ = some ((.slice A_n6l (aB.rows).length k_n6l)) ∧ A.cell? ⟨w7.heap.size, 1, none⟩ = some (.int .i64 aB.n) ∧ A.cell? ⟨w7.heap.size, 2, none⟩ = some (.bool aB.has) ∧ A.cell? ⟨w7.heap.size, 3, none⟩ = some (.int .i64 aB.v.ty) ∧ A.cell? ⟨w7.heap.size, 4, none⟩ = some (.int .i64 aB.v.n) ∧ A.cell? ⟨w7.heap.size, 5, none⟩ = some (.string aB.v.s) ∧ Below w13.heap.size w13 A) → Below w13.heap.size w13 A := fun A h => h.2.2.2.2.2.2.2.2.2.2.2.2
  have HkS := Lib.hid kS
  have HtoB := Lib.hid toB
  clear kS toB
  go_wp2_with fail
  have hX_aQ := Lib.hid X_aQ
  have hX_aA := Lib.hid X_aA
  have hX_aB := Lib.hid X_aB
  have hX_w0 := Lib.hid X_w0
  have hX_x0 := Lib.hid X_x0
  have hX_x1 := Lib.hid X_x1
  have hX_x2 := Lib.hid X_x2
  have hX_g0 := Lib.hid X_g0
  clear X_aQ X_aA X_aB X_w0 X_x0 X_x1 X_x2 X_g0
  go_region_held3 (fun w' => w'.cell? ⟨w.heap.size + 2, 0, none⟩ = some (aB_l) ∧ w'.cell? ⟨w.heap.size + 2, 1, none⟩ = some (.int .i64 aB.n) ∧ w'.cell? ⟨w.heap.size + 2, 2, none⟩ = some (.bool aB.has) ∧ w'.cell? ⟨w.heap.size + 2, 3, none⟩ = some (.int .i64 aB.v.ty) ∧ w'.cell? ⟨w.heap.size + 2, 4, none⟩ = some (.int .i64 aB.v.n) ∧ w'.cell? ⟨w.heap.size + 2, 5, none⟩ = some (.string aB.v.s) ∧ w'.cell? ⟨w7.heap.size, 0, none⟩ = some ((.slice A_n6l (aB.rows).length k_n6l)) ∧ w'.cell? ⟨w7.heap.size, 1, none⟩ = some (.int .i64 aB.n) ∧ w'.cell? ⟨w7.heap.size, 2, none⟩ = some (.bool aB.has) ∧ w'.cell? ⟨w7.heap.size, 3, none⟩ = some (.int .i64 aB.v.ty) ∧ w'.cell? ⟨w7.heap.size, 4, none⟩ = some (.int .i64 aB.v.n) ∧ w'.cell? ⟨w7.heap.size, 5, none⟩ = some (.string aB.v.s) ∧ Below w13.heap.size w13 w') (first | exact ⟨hX_aB.out 0, hX_aB.out 1, hX_aB.out 2, hX_aB.out 3, hX_aB.out 4, hX_aB.out 5, hX_x2.out 0, hX_x2.out 1, hX_x2.out 2, hX_x2.out 3, hX_x2.out 4, hX_x2.out 5, (Below.refl _ _).drew⟩ | (refine HkS.out _ _ ?_ hq1; assumption) | (refine HkS.out _ _ ?_ hq2; assumption)) (first
    | (go_at_call 66; ((with_reducible refine (toResult_c aB aB_l _ ((H_aB_l).below (HtoB.out _ (by assumption)) (by omega)) (by have h := (HtoB.out _ (by assumption)).size; omega) T_aB).mono ?_); rintro e w14 ⟨r130l, rfl, H_r130l, hq1⟩; obtain ⟨A_r130l, k_r130l, rfl, -, -⟩ := (H_r130l.rdR).form))
    | (go_at_call 68; ((with_reducible refine (eqResult_c aB (.slice A_n6l (aB.rows).length k_n6l) aB (.slice A_r130l (aB.rows).length k_r130l) _ ((H_n6l.rdR).below (HtoB.out _ (by assumption)) (by omega)) (by have h := (HtoB.out _ (by assumption)).size; omega) (H_r130l.rdR) (by first | exact Nat.le_refl _ | (omega))).mono ?_); rintro e w15 ⟨rfl, hq2⟩)))
  clear HkS HtoB
  have X_aQ := hX_aQ.out
  have X_aA := hX_aA.out
  have X_aB := hX_aB.out
  have X_w0 := hX_w0.out
  have X_x0 := hX_x0.out
  have X_x1 := hX_x1.out
  have X_x2 := hX_x2.out
  have X_g0 := hX_g0.out
  clear hX_aQ hX_aA hX_aB hX_w0 hX_x0 hX_x1 hX_x2 hX_g0
  replace hq1 := Below.undrew hq1
  replace H_r130l := H_r130l.more (lo' := w13.heap.size) (Nat.le_refl _) (Nat.le_refl _)
  have b13 : Below w13.heap.size w13 w14 := hq1
  have z13 := b13.size
  replace H_aQ_p := H_aQ_p.below b13 (by omega)
  replace H_aQ_o := H_aQ_o.below b13 (by omega)
  replace H_aA_l := H_aA_l.below b13 (by omega)
  replace H_aB_l := H_aB_l.below b13 (by omega)
  replace H_c33lq := H_c33lq.below b13 (by omega)
  replace H_n4p := H_n4p.below b13 (by omega)
  replace H_n4o := H_n4o.below b13 (by omega)
  replace H_n5l := H_n5l.below b13 (by omega)
  replace H_n6l := H_n6l.below b13 (by omega)
  replace H_n7lq := H_n7lq.below b13 (by omega)
  replace H_r90p := H_r90p.below b13 (by omega)
  replace H_r90o := H_r90o.below b13 (by omega)
  replace H_r110l := H_r110l.below b13 (by omega)
  replace X_aQ := box_keep X_aQ b13 (by omega)
  replace Y_aQ : w.heap.size < w14.heap.size := by omega
  replace X_aA := box_keep X_aA b13 (by omega)
  replace Y_aA : w.heap.size + 1 < w14.heap.size := by omega
  replace X_aB := box_keep X_aB b13 (by omega)
  replace Y_aB : w.heap.size + 2 < w14.heap.size := by omega
  replace X_w0 := box_keep X_w0 b13 (by omega)
  replace Y_w0 : B_w0 < w14.heap.size := by omega
  replace X_x0 := box_keep X_x0 b13 (by omega)
  replace Y_x0 : w5.heap.size < w14.heap.size := by omega
  replace X_x1 := box_keep X_x1 b13 (by omega)
  replace Y_x1 : w6.heap.size < w14.heap.size := by omega
  replace X_x2 := box_keep X_x2 b13 (by omega)
  replace Y_x2 : w7.heap.size < w14.heap.size := by omega
  replace X_g0 := box_keep X_g0 b13 (by omega)
  replace Y_g0 : w8.heap.size < w14.heap.size := by omega
  replace hB := hB.trans (b13.mono hB.size)
  clear hq1 b13
  have b14 : Below w14.heap.size w14 w15 := hq2
  have z14 := b14.size
  replace H_aQ_p := H_aQ_p.below b14 (by omega)
  replace H_aQ_o := H_aQ_o.below b14 (by omega)
  replace H_aA_l := H_aA_l.below b14 (by omega)
  replace H_aB_l := H_aB_l.below b14 (by omega)
  replace H_c33lq := H_c33lq.below b14 (by omega)
  replace H_n4p := H_n4p.below b14 (by omega)
  replace H_n4o := H_n4o.below b14 (by omega)
  replace H_n5l := H_n5l.below b14 (by omega)
  replace H_n6l := H_n6l.below b14 (by omega)
  replace H_n7lq := H_n7lq.below b14 (by omega)
  replace H_r90p := H_r90p.below b14 (by omega)
  replace H_r90o := H_r90o.below b14 (by omega)
  replace H_r110l := H_r110l.below b14 (by omega)
  replace H_r130l := H_r130l.below b14 (by omega)
  replace X_aQ := box_keep X_aQ b14 (by omega)
  replace Y_aQ : w.heap.size < w15.heap.size := by omega
  replace X_aA := box_keep X_aA b14 (by omega)
  replace Y_aA : w.heap.size + 1 < w15.heap.size := by omega
  replace X_aB := box_keep X_aB b14 (by omega)
  replace Y_aB : w.heap.size + 2 < w15.heap.size := by omega
  replace X_w0 := box_keep X_w0 b14 (by omega)
  replace Y_w0 : B_w0 < w15.heap.size := by omega
  replace X_x0 := box_keep X_x0 b14 (by omega)
  replace Y_x0 : w5.heap.size < w15.heap.size := by omega
  replace X_x1 := box_keep X_x1 b14 (by omega)
  replace Y_x1 : w6.heap.size < w15.heap.size := by omega
  replace X_x2 := box_keep X_x2 b14 (by omega)
  replace Y_x2 : w7.heap.size < w15.heap.size := by omega
  replace X_g0 := box_keep X_g0 b14 (by omega)
  replace Y_g0 : w8.heap.size < w15.heap.size := by omega
  replace hB := hB.trans (b14.mono hB.size)
  clear hq2 b14
  try simp only [eqd_self]
  go_wp2_with fail
  refine (markQuery_c aQ (.slice A_n4p (aQ.p.l).length k_n4p) (.slice A_n4o (aQ.out).length k_n4o) 1 _ H_n4p H_n4o (by omega) (by omega) (by omega) (by omega) (by omega)).mono ?_
  rintro e w16 ⟨rfl, hb⟩
  clear H_n4p
  clear H_n4o
  have z15 := hb.size
  replace H_aQ_p := H_aQ_p.same (.of_chg hb (by omega) (by omega))
  replace H_aQ_o := H_aQ_o.same (.of_chg hb (by omega) (by omega))
  replace H_aA_l := H_aA_l.same (.of_chg hb (by omega) (by omega))
  replace H_aB_l := H_aB_l.same (.of_chg hb (by omega) (by omega))
  replace H_c33lq := H_c33lq.same (.of_chg hb (by omega) (by omega))
  replace H_n5l := H_n5l.same (.of_chg hb (by omega) (by omega))
  replace H_n6l := H_n6l.same (.of_chg hb (by omega) (by omega))
  replace H_n7lq := H_n7lq.same (.of_chg hb (by omega) (by omega))
  replace H_r90p := H_r90p.same (.of_chg hb (by omega) (by omega))
  replace H_r90o := H_r90o.same (.of_chg hb (by omega) (by omega))
  replace H_r110l := H_r110l.same (.of_chg hb (by omega) (by omega))
  replace H_r130l := H_r130l.same (.of_chg hb (by omega) (by omega))
  replace X_aQ := box_chg X_aQ hb (by omega) (by omega)
  replace Y_aQ : w.heap.size < w16.heap.size := by omega
  replace X_aA := box_chg X_aA hb (by omega) (by omega)
  replace Y_aA : w.heap.size + 1 < w16.heap.size := by omega
  replace X_aB := box_chg X_aB hb (by omega) (by omega)
  replace Y_aB : w.heap.size + 2 < w16.heap.size := by omega
  replace X_w0 := box_chg X_w0 hb (by omega) (by omega)
  replace Y_w0 : B_w0 < w16.heap.size := by omega
  replace X_x0 := box_chg X_x0 hb (by omega) (by omega)
  replace Y_x0 : w5.heap.size < w16.heap.size := by omega
  replace X_x1 := box_chg X_x1 hb (by omega) (by omega)
  replace Y_x1 : w6.heap.size < w16.heap.size := by omega
  replace X_x2 := box_chg X_x2 hb (by omega) (by omega)
  replace Y_x2 : w7.heap.size < w16.heap.size := by omega
  replace X_g0 := box_chg X_g0 hb (by omega) (by omega)
  replace Y_g0 : w8.heap.size < w16.heap.size := by omega
  replace hB := hB.trans (hb.below (by omega) (by omega))
  clear hb
  go_wp2_with fail
  refine (markResult_c aA (.slice A_n5l (aA.rows).length k_n5l) (1 + 6 * (cntP (aQ).p.l : Nat) + ((aQ).out.length : Nat)) _ H_n5l (by omega) (by omega) (by omega)).mono ?_
  rintro e w17 ⟨rfl, H_n5lm, hb⟩
  clear H_n5l
  have z16 := hb.size
  replace H_aQ_p := H_aQ_p.same (.of_chg hb (by omega) (by omega))
  replace H_aQ_o := H_aQ_o.same (.of_chg hb (by omega) (by omega))
  replace H_aA_l := H_aA_l.same (.of_chg hb (by omega) (by omega))
  replace H_aB_l := H_aB_l.same (.of_chg hb (by omega) (by omega))
  replace H_c33lq := H_c33lq.same (.of_chg hb (by omega) (by omega))
  replace H_n6l := H_n6l.same (.of_chg hb (by omega) (by omega))
  replace H_n7lq := H_n7lq.same (.of_chg hb (by omega) (by omega))
  replace H_r90p := H_r90p.same (.of_chg hb (by omega) (by omega))
  replace H_r90o := H_r90o.same (.of_chg hb (by omega) (by omega))
  replace H_r110l := H_r110l.same (.of_chg hb (by omega) (by omega))
  replace H_r130l := H_r130l.same (.of_chg hb (by omega) (by omega))
  replace X_aQ := box_chg X_aQ hb (by omega) (by omega)
  replace Y_aQ : w.heap.size < w17.heap.size := by omega
  replace X_aA := box_chg X_aA hb (by omega) (by omega)
  replace Y_aA : w.heap.size + 1 < w17.heap.size := by omega
  replace X_aB := box_chg X_aB hb (by omega) (by omega)
  replace Y_aB : w.heap.size + 2 < w17.heap.size := by omega
  replace X_w0 := box_chg X_w0 hb (by omega) (by omega)
  replace Y_w0 : B_w0 < w17.heap.size := by omega
  replace X_x0 := box_chg X_x0 hb (by omega) (by omega)
  replace Y_x0 : w5.heap.size < w17.heap.size := by omega
  replace X_x1 := box_chg X_x1 hb (by omega) (by omega)
  replace Y_x1 : w6.heap.size < w17.heap.size := by omega
  replace X_x2 := box_chg X_x2 hb (by omega) (by omega)
  replace Y_x2 : w7.heap.size < w17.heap.size := by omega
  replace X_g0 := box_chg X_g0 hb (by omega) (by omega)
  replace Y_g0 : w8.heap.size < w17.heap.size := by omega
  replace hB := hB.trans (hb.below (by omega) (by omega))
  clear hb
  have H_n5l := H_n5lm
  clear H_n5lm
  go_wp2_with fail
  refine (markResult_c aB (.slice A_n6l (aB.rows).length k_n6l) (1 + 6 * (cntP (aQ).p.l : Nat) + ((aQ).out.length : Nat) + (cntR (aA).rows : Nat)) _ H_n6l (by omega) (by omega) (by omega)).mono ?_
  rintro e w18 ⟨rfl, H_n6lm, hb⟩
  clear H_n6l
  have z17 := hb.size
  replace H_aQ_p := H_aQ_p.same (.of_chg hb (by omega) (by omega))
  replace H_aQ_o := H_aQ_o.same (.of_chg hb (by omega) (by omega))
  replace H_aA_l := H_aA_l.same (.of_chg hb (by omega) (by omega))
  replace H_aB_l := H_aB_l.same (.of_chg hb (by omega) (by omega))
  replace H_c33lq := H_c33lq.same (.of_chg hb (by omega) (by omega))
  replace H_n5l := H_n5l.same (.of_chg hb (by omega) (by omega))
  replace H_n7lq := H_n7lq.same (.of_chg hb (by omega) (by omega))
  replace H_r90p := H_r90p.same (.of_chg hb (by omega) (by omega))
  replace H_r90o := H_r90o.same (.of_chg hb (by omega) (by omega))
  replace H_r110l := H_r110l.same (.of_chg hb (by omega) (by omega))
  replace H_r130l := H_r130l.same (.of_chg hb (by omega) (by omega))
  replace X_aQ := box_chg X_aQ hb (by omega) (by omega)
  replace Y_aQ : w.heap.size < w18.heap.size := by omega
  replace X_aA := box_chg X_aA hb (by omega) (by omega)
  replace Y_aA : w.heap.size + 1 < w18.heap.size := by omega
  replace X_aB := box_chg X_aB hb (by omega) (by omega)
  replace Y_aB : w.heap.size + 2 < w18.heap.size := by omega
  replace X_w0 := box_chg X_w0 hb (by omega) (by omega)
  replace Y_w0 : B_w0 < w18.heap.size := by omega
  replace X_x0 := box_chg X_x0 hb (by omega) (by omega)
  replace Y_x0 : w5.heap.size < w18.heap.size := by omega
  replace X_x1 := box_chg X_x1 hb (by omega) (by omega)
  replace Y_x1 : w6.heap.size < w18.heap.size := by omega
  replace X_x2 := box_chg X_x2 hb (by omega) (by omega)
  replace Y_x2 : w7.heap.size < w18.heap.size := by omega
  replace X_g0 := box_chg X_g0 hb (by omega) (by omega)
  replace Y_g0 : w8.heap.size < w18.heap.size := by omega
  replace hB := hB.trans (hb.below (by omega) (by omega))
  clear hb
  have H_n6l := H_n6lm
  clear H_n6lm
  go_wp2_with fail
  refine (eqResult_c ((joined aQ aA aB)) (.slice A_n7lq ((joined aQ aA aB).rows).length k_n7lq) ((joined aQ aA aB)) (.slice A_c33lq (joined aQ aA aB).rows.length k_c33lq) _ (H_n7lq.rdR) (by omega) (H_c33lq) (by omega)).mono ?_
  rintro e w19 ⟨rfl, hb⟩
  have b18 : Below w18.heap.size w18 w19 := hb
  have z18 := b18.size
  replace H_aQ_p := H_aQ_p.below b18 (by omega)
  replace H_aQ_o := H_aQ_o.below b18 (by omega)
  replace H_aA_l := H_aA_l.below b18 (by omega)
  replace H_aB_l := H_aB_l.below b18 (by omega)
  replace H_c33lq := H_c33lq.below b18 (by omega)
  replace H_n5l := H_n5l.below b18 (by omega)
  replace H_n6l := H_n6l.below b18 (by omega)
  replace H_n7lq := H_n7lq.below b18 (by omega)
  replace H_r90p := H_r90p.below b18 (by omega)
  replace H_r90o := H_r90o.below b18 (by omega)
  replace H_r110l := H_r110l.below b18 (by omega)
  replace H_r130l := H_r130l.below b18 (by omega)
  replace X_aQ := box_keep X_aQ b18 (by omega)
  replace Y_aQ : w.heap.size < w19.heap.size := by omega
  replace X_aA := box_keep X_aA b18 (by omega)
  replace Y_aA : w.heap.size + 1 < w19.heap.size := by omega
  replace X_aB := box_keep X_aB b18 (by omega)
  replace Y_aB : w.heap.size + 2 < w19.heap.size := by omega
  replace X_w0 := box_keep X_w0 b18 (by omega)
  replace Y_w0 : B_w0 < w19.heap.size := by omega
  replace X_x0 := box_keep X_x0 b18 (by omega)
  replace Y_x0 : w5.heap.size < w19.heap.size := by omega
  replace X_x1 := box_keep X_x1 b18 (by omega)
  replace Y_x1 : w6.heap.size < w19.heap.size := by omega
  replace X_x2 := box_keep X_x2 b18 (by omega)
  replace Y_x2 : w7.heap.size < w19.heap.size := by omega
  replace X_g0 := box_keep X_g0 b18 (by omega)
  replace Y_g0 : w8.heap.size < w19.heap.size := by omega
  replace hB := hB.trans (b18.mono hB.size)
  clear hb b18
  try simp only [eqd_self]
  go_wp2_with fail
  refine (markResult_c ((joined aQ aA aB)) (.slice A_n7lq ((joined aQ aA aB).rows).length k_n7lq) 1 _ H_n7lq (by omega) (by omega) (by omega)).mono ?_
  rintro e w20 ⟨rfl, H_n7lqm, hb⟩
  clear H_n7lq
  have z19 := hb.size
  replace H_aQ_p := H_aQ_p.same (.of_chg hb (by omega) (by omega))
  replace H_aQ_o := H_aQ_o.same (.of_chg hb (by omega) (by omega))
  replace H_aA_l := H_aA_l.same (.of_chg hb (by omega) (by omega))
  replace H_aB_l := H_aB_l.same (.of_chg hb (by omega) (by omega))
  replace H_c33lq := H_c33lq.same (.of_chg hb (by omega) (by omega))
  replace H_n5l := H_n5l.same (.of_chg hb (by omega) (by omega))
  replace H_n6l := H_n6l.same (.of_chg hb (by omega) (by omega))
  replace H_r90p := H_r90p.same (.of_chg hb (by omega) (by omega))
  replace H_r90o := H_r90o.same (.of_chg hb (by omega) (by omega))
  replace H_r110l := H_r110l.same (.of_chg hb (by omega) (by omega))
  replace H_r130l := H_r130l.same (.of_chg hb (by omega) (by omega))
  replace X_aQ := box_chg X_aQ hb (by omega) (by omega)
  replace Y_aQ : w.heap.size < w20.heap.size := by omega
  replace X_aA := box_chg X_aA hb (by omega) (by omega)
  replace Y_aA : w.heap.size + 1 < w20.heap.size := by omega
  replace X_aB := box_chg X_aB hb (by omega) (by omega)
  replace Y_aB : w.heap.size + 2 < w20.heap.size := by omega
  replace X_w0 := box_chg X_w0 hb (by omega) (by omega)
  replace Y_w0 : B_w0 < w20.heap.size := by omega
  replace X_x0 := box_chg X_x0 hb (by omega) (by omega)
  replace Y_x0 : w5.heap.size < w20.heap.size := by omega
  replace X_x1 := box_chg X_x1 hb (by omega) (by omega)
  replace Y_x1 : w6.heap.size < w20.heap.size := by omega
  replace X_x2 := box_chg X_x2 hb (by omega) (by omega)
  replace Y_x2 : w7.heap.size < w20.heap.size := by omega
  replace X_g0 := box_chg X_g0 hb (by omega) (by omega)
  replace Y_g0 : w8.heap.size < w20.heap.size := by omega
  replace hB := hB.trans (hb.below (by omega) (by omega))
  clear hb
  have H_n7lq := H_n7lqm
  clear H_n7lqm
  go_wp2_with fail
  refine (heldResult_c ((joined aQ aA aB)) (.slice A_n7lq ((joined aQ aA aB).rows).length k_n7lq) 1 _ H_n7lq (by omega) (by omega) (by omega)).mono ?_
  rintro e w21 ⟨rfl, hb⟩
  have b20 : Below w20.heap.size w20 w21 := hb
  have z20 := b20.size
  replace H_aQ_p := H_aQ_p.below b20 (by omega)
  replace H_aQ_o := H_aQ_o.below b20 (by omega)
  replace H_aA_l := H_aA_l.below b20 (by omega)
  replace H_aB_l := H_aB_l.below b20 (by omega)
  replace H_c33lq := H_c33lq.below b20 (by omega)
  replace H_n5l := H_n5l.below b20 (by omega)
  replace H_n6l := H_n6l.below b20 (by omega)
  replace H_n7lq := H_n7lq.below b20 (by omega)
  replace H_r90p := H_r90p.below b20 (by omega)
  replace H_r90o := H_r90o.below b20 (by omega)
  replace H_r110l := H_r110l.below b20 (by omega)
  replace H_r130l := H_r130l.below b20 (by omega)
  replace X_aQ := box_keep X_aQ b20 (by omega)
  replace Y_aQ : w.heap.size < w21.heap.size := by omega
  replace X_aA := box_keep X_aA b20 (by omega)
  replace Y_aA : w.heap.size + 1 < w21.heap.size := by omega
  replace X_aB := box_keep X_aB b20 (by omega)
  replace Y_aB : w.heap.size + 2 < w21.heap.size := by omega
  replace X_w0 := box_keep X_w0 b20 (by omega)
  replace Y_w0 : B_w0 < w21.heap.size := by omega
  replace X_x0 := box_keep X_x0 b20 (by omega)
  replace Y_x0 : w5.heap.size < w21.heap.size := by omega
  replace X_x1 := box_keep X_x1 b20 (by omega)
  replace Y_x1 : w6.heap.size < w21.heap.size := by omega
  replace X_x2 := box_keep X_x2 b20 (by omega)
  replace Y_x2 : w7.heap.size < w21.heap.size := by omega
  replace X_g0 := box_keep X_g0 b20 (by omega)
  replace Y_g0 : w8.heap.size < w21.heap.size := by omega
  replace hB := hB.trans (b20.mono hB.size)
  clear hb b20
  have hX_aQ := Lib.hid X_aQ
  have hX_aA := Lib.hid X_aA
  have hX_aB := Lib.hid X_aB
  have hX_w0 := Lib.hid X_w0
  have hX_x0 := Lib.hid X_x0
  have hX_x1 := Lib.hid X_x1
  have hX_x2 := Lib.hid X_x2
  have hX_g0 := Lib.hid X_g0
  clear X_aQ X_aA X_aB X_w0 X_x0 X_x1 X_x2 X_g0
  go_upto_region 38 with fail
  have HS := Lib.hid (fun (W : World) (h : Below w21.heap.size w21 W) => show W.cell? ⟨w.heap.size, 0, none⟩ = some (.int .i64 aQ.kind) ∧ W.cell? ⟨w.heap.size, 1, none⟩ = some (.int .i64 aQ.p.kind) ∧ W.cell? ⟨w.heap.size, 2, none⟩ = some (.int .i64 aQ.p.col) ∧ W.cell? ⟨w.heap.size, 3, none⟩ = some (.int .i64 aQ.p.op) ∧ W.cell? ⟨w.heap.size, 4, none⟩ = some (.int .i64 aQ.p.v.ty) ∧ W.cell? ⟨w.heap.size, 5, none⟩ = some (.int .i64 aQ.p.v.n) ∧ W.cell? ⟨w.heap.size, 6, none⟩ = some (.string aQ.p.v.s) ∧ W.cell? ⟨w.heap.size, 7, none⟩ = some (aQ_p) ∧ W.cell? ⟨w.heap.size, 8, none⟩ = some (.int .i64 aQ.col) ∧ W.cell? ⟨w.heap.size, 9, none⟩ = some (aQ_o) ∧ W.cell? ⟨w.heap.size + 1, 0, none⟩ = some (aA_l) ∧ W.cell? ⟨w.heap.size + 1, 1, none⟩ = some (.int .i64 aA.n) ∧ W.cell? ⟨w.heap.size + 1, 2, none⟩ = some (.bool aA.has) ∧ W.cell? ⟨w.heap.size + 1, 3, none⟩ = some (.int .i64 aA.v.ty) ∧ W.cell? ⟨w.heap.size + 1, 4, none⟩ = some (.int .i64 aA.v.n) ∧ W.cell? ⟨w.heap.size + 1, 5, none⟩ = some (.string aA.v.s) ∧ W.cell? ⟨w.heap.size + 2, 0, none⟩ = some (aB_l) ∧ W.cell? ⟨w.heap.size + 2, 1, none⟩ = some (.int .i64 aB.n) ∧ W.cell? ⟨w.heap.size + 2, 2, none⟩ = some (.bool aB.has) ∧ W.cell? ⟨w.heap.size + 2, 3, none⟩ = some (.int .i64 aB.v.ty) ∧ W.cell? ⟨w.heap.size + 2, 4, none⟩ = some (.int .i64 aB.v.n) ∧ W.cell? ⟨w.heap.size + 2, 5, none⟩ = some (.string aB.v.s) from ⟨(h.cell (p := ⟨w.heap.size, 0, none⟩) (show w.heap.size < _ by omega)).trans (hX_aQ.out 0), (h.cell (p := ⟨w.heap.size, 1, none⟩) (show w.heap.size < _ by omega)).trans (hX_aQ.out 1), (h.cell (p := ⟨w.heap.size, 2, none⟩) (show w.heap.size < _ by omega)).trans (hX_aQ.out 2), (h.cell (p := ⟨w.heap.size, 3, none⟩) (show w.heap.size < _ by omega)).trans (hX_aQ.out 3), (h.cell (p := ⟨w.heap.size, 4, none⟩) (show w.heap.size < _ by omega)).trans (hX_aQ.out 4), (h.cell (p := ⟨w.heap.size, 5, none⟩) (show w.heap.size < _ by omega)).trans (hX_aQ.out 5), (h.cell (p := ⟨w.heap.size, 6, none⟩) (show w.heap.size < _ by omega)).trans (hX_aQ.out 6), (h.cell (p := ⟨w.heap.size, 7, none⟩) (show w.heap.size < _ by omega)).trans (hX_aQ.out 7), (h.cell (p := ⟨w.heap.size, 8, none⟩) (show w.heap.size < _ by omega)).trans (hX_aQ.out 8), (h.cell (p := ⟨w.heap.size, 9, none⟩) (show w.heap.size < _ by omega)).trans (hX_aQ.out 9), (h.cell (p := ⟨w.heap.size + 1, 0, none⟩) (show w.heap.size + 1 < _ by omega)).trans (hX_aA.out 0), (h.cell (p := ⟨w.heap.size + 1, 1, none⟩) (show w.heap.size + 1 < _ by omega)).trans (hX_aA.out 1), (h.cell (p := ⟨w.heap.size + 1, 2, none⟩) (show w.heap.size + 1 < _ by omega)).trans (hX_aA.out 2), (h.cell (p := ⟨w.heap.size + 1, 3, none⟩) (show w.heap.size + 1 < _ by omega)).trans (hX_aA.out 3), (h.cell (p := ⟨w.heap.size + 1, 4, none⟩) (show w.heap.size + 1 < _ by omega)).trans (hX_aA.out 4), (h.cell (p := ⟨w.heap.size + 1, 5, none⟩) (show w.heap.size + 1 < _ by omega)).trans (hX_aA.out 5), (h.cell (p := ⟨w.heap.size + 2, 0, none⟩) (show w.heap.size + 2 < _ by omega)).trans (hX_aB.out 0), (h.cell (p := ⟨w.heap.size + 2, 1, none⟩) (show w.heap.size + 2 < _ by omega)).trans (hX_aB.out 1), (h.cell (p := ⟨w.heap.size + 2, 2, none⟩) (show w.heap.size + 2 < _ by omega)).trans (hX_aB.out 2), (h.cell (p := ⟨w.heap.size + 2, 3, none⟩) (show w.heap.size + 2 < _ by omega)).trans (hX_aB.out 3), (h.cell (p := ⟨w.heap.size + 2, 4, none⟩) (show w.heap.size + 2 < _ by omega)).trans (hX_aB.out 4), (h.cell (p := ⟨w.heap.size + 2, 5, none⟩) (show w.heap.size + 2 < _ by omega)).trans (hX_aB.out 5)⟩)
  have TC0 := Lib.hid (fun (W : World) (h : Below w21.heap.size w21 W) => toQuery_c aQ aQ_p aQ_o W ((H_aQ_p).below h (by omega)) (by have h := h.size; omega) ((H_aQ_o).below h (by omega)) (by have h := h.size; omega) T_aQ)
  have TC1 := Lib.hid (fun (W : World) (h : Below w21.heap.size w21 W) => toResult_c aA aA_l W ((H_aA_l).below h (by omega)) (by have h := h.size; omega) T_aA)
  have TC2 := Lib.hid (fun (W : World) (h : Below w21.heap.size w21 W) => toResult_c aB aB_l W ((H_aB_l).below h (by omega)) (by have h := h.size; omega) T_aB)
  go_cut [16] from 96 to 102 (fun t wx => ∃ (bw : Nat) (rv : Value) (lw hw : Nat), t = .pointer (some ⟨bw, 0, none⟩) ∧ w21.heap.size ≤ bw ∧ bw < wx.heap.size ∧ wx.heap[bw]? = some (.cells #[rv, .int .i64 (joined aQ aA aB).n, .bool (joined aQ aA aB).has, .int .i64 (joined aQ aA aB).v.ty, .int .i64 (joined aQ aA aB).v.n, .string (joined aQ aA aB).v.s] 99) ∧ RdR wx lw hw rv ((joined aQ aA aB).rows) ∧ hw ≤ wx.heap.size ∧ Below w21.heap.size w21 wx)
  case first =>
    refine wp_region_T (S := fun w' => w'.cell? ⟨w.heap.size, 0, none⟩ = some (.int .i64 aQ.kind) ∧ w'.cell? ⟨w.heap.size, 1, none⟩ = some (.int .i64 aQ.p.kind) ∧ w'.cell? ⟨w.heap.size, 2, none⟩ = some (.int .i64 aQ.p.col) ∧ w'.cell? ⟨w.heap.size, 3, none⟩ = some (.int .i64 aQ.p.op) ∧ w'.cell? ⟨w.heap.size, 4, none⟩ = some (.int .i64 aQ.p.v.ty) ∧ w'.cell? ⟨w.heap.size, 5, none⟩ = some (.int .i64 aQ.p.v.n) ∧ w'.cell? ⟨w.heap.size, 6, none⟩ = some (.string aQ.p.v.s) ∧ w'.cell? ⟨w.heap.size, 7, none⟩ = some (aQ_p) ∧ w'.cell? ⟨w.heap.size, 8, none⟩ = some (.int .i64 aQ.col) ∧ w'.cell? ⟨w.heap.size, 9, none⟩ = some (aQ_o) ∧ w'.cell? ⟨w.heap.size + 1, 0, none⟩ = some (aA_l) ∧ w'.cell? ⟨w.heap.size + 1, 1, none⟩ = some (.int .i64 aA.n) ∧ w'.cell? ⟨w.heap.size + 1, 2, none⟩ = some (.bool aA.has) ∧ w'.cell? ⟨w.heap.size + 1, 3, none⟩ = some (.int .i64 aA.v.ty) ∧ w'.cell? ⟨w.heap.size + 1, 4, none⟩ = some (.int .i64 aA.v.n) ∧ w'.cell? ⟨w.heap.size + 1, 5, none⟩ = some (.string aA.v.s) ∧ w'.cell? ⟨w.heap.size + 2, 0, none⟩ = some (aB_l) ∧ w'.cell? ⟨w.heap.size + 2, 1, none⟩ = some (.int .i64 aB.n) ∧ w'.cell? ⟨w.heap.size + 2, 2, none⟩ = some (.bool aB.has) ∧ w'.cell? ⟨w.heap.size + 2, 3, none⟩ = some (.int .i64 aB.v.ty) ∧ w'.cell? ⟨w.heap.size + 2, 4, none⟩ = some (.int .i64 aB.v.n) ∧ w'.cell? ⟨w.heap.size + 2, 5, none⟩ = some (.string aB.v.s)) (n := 8) (by kernel_rfl) ?_
    generalize hX0 : w21.drew = X0
    have HB0 : Below w21.heap.size w21 X0 := hX0 ▸ (Below.refl _ _).drew
    have s0 : w21.heap.size ≤ X0.heap.size := HB0.size
    have F0 := HS.out X0 HB0
    clear hX0
    refine wpAnyT_take (i := 0) (oi := _) (v := ?_) rfl (by kernel_rfl) (by kernel_rfl) (by kernel_rfl) (by kernel_rfl) (fun _ _ _ h => h) (Or.inl ⟨by rfl, ?_⟩) F0 ?_
    rotate_left
    · (intro w' hSw; (try dsimp only at hSw); go_simp) <;> with_reducible rfl
    try simp only [Act.put, List.setIfInBounds_toArray, List.set_cons_zero, List.set_cons_succ]
    refine wpAnyT_take (i := 2) (oi := _) (v := ?_) rfl (by kernel_rfl) (by kernel_rfl) (by kernel_rfl) (by kernel_rfl) (fun _ _ _ h => h) (Or.inl ⟨by rfl, ?_⟩) F0 ?_
    rotate_left
    · (intro w' hSw; (try dsimp only at hSw); go_simp) <;> with_reducible rfl
    try simp only [Act.put, List.setIfInBounds_toArray, List.set_cons_zero, List.set_cons_succ]
    refine wpAnyT_take (i := 4) (oi := _) (v := ?_) rfl (by kernel_rfl) (by kernel_rfl) (by kernel_rfl) (by kernel_rfl) (fun _ _ _ h => h) (Or.inl ⟨by rfl, ?_⟩) F0 ?_
    rotate_left
    · (intro w' hSw; (try dsimp only at hSw); go_simp) <;> with_reducible rfl
    try simp only [Act.put, List.setIfInBounds_toArray, List.set_cons_zero, List.set_cons_succ]
    refine wpAnyT_two (k := 1) (k2 := 7) (o := _) (o2 := _) (by kernel_rfl) rfl rfl rfl rfl ?_ ?_
    · intro K hK
      go_simp
      refine (TC0.out X0 HB0).mono ?_
      rintro e X1 ⟨M_c210p, c210p, c210o, rfl, H_c210p, H_c210o, ma_c210p, mb_c210p, hb1⟩
      have HB1 : Below w21.heap.size w21 X1 := HB0.trans (hb1.mono HB0.size)
      have s1 := hb1.size
      refine hK.out _ _ (fun _ => HS.out _ HB1) ?_
      clear hK
      try simp only [Act.put, List.setIfInBounds_toArray, List.set_cons_zero, List.set_cons_succ]
      have D_c210p_1 := H_c210p.rdP
      clear H_c210p
      obtain ⟨A_c210p, k_c210p, rfl, -, -⟩ := D_c210p_1.form
      have D_c210o_1 := H_c210o.rdI
      clear H_c210o
      obtain ⟨A_c210o, k_c210o, rfl, -, -⟩ := D_c210o_1.form
      refine wpAnyT_two (k := 3) (k2 := 7) (o := _) (o2 := _) (by kernel_rfl) rfl rfl rfl rfl ?_ ?_
      · intro K hK
        go_simp
        refine (TC1.out X1 HB1).mono ?_
        rintro e X2 ⟨c211l, rfl, H_c211l, hb2⟩
        have HB2 : Below w21.heap.size w21 X2 := HB1.trans (hb2.mono HB1.size)
        have s2 := hb2.size
        refine hK.out _ _ (fun _ => HS.out _ HB2) ?_
        clear hK
        try simp only [Act.put, List.setIfInBounds_toArray, List.set_cons_zero, List.set_cons_succ]
        have D_c210p_2 := D_c210p_1.below hb2 (by omega)
        have D_c210o_2 := D_c210o_1.below hb2 (by omega)
        have D_c211l_2 := H_c211l.rdR
        clear H_c211l
        obtain ⟨A_c211l, k_c211l, rfl, -, -⟩ := D_c211l_2.form
        refine wpAnyT_two (k := 5) (k2 := 7) (o := _) (o2 := _) (by kernel_rfl) rfl rfl rfl rfl ?_ ?_
        · intro K hK
          go_simp
          refine (TC2.out X2 HB2).mono ?_
          rintro e X3 ⟨c212l, rfl, H_c212l, hb3⟩
          have HB3 : Below w21.heap.size w21 X3 := HB2.trans (hb3.mono HB2.size)
          have s3 := hb3.size
          refine hK.out _ _ (fun _ => HS.out _ HB3) ?_
          clear hK
          try simp only [Act.put, List.setIfInBounds_toArray, List.set_cons_zero, List.set_cons_succ]
          have D_c210p_3 := D_c210p_2.below hb3 (by omega)
          have D_c210o_3 := D_c210o_2.below hb3 (by omega)
          have D_c211l_3 := D_c211l_2.below hb3 (by omega)
          have D_c212l_3 := H_c212l.rdR
          clear H_c212l
          obtain ⟨A_c212l, k_c212l, rfl, -, -⟩ := D_c212l_3.form
          refine wpAnyT_two (k := 6) (k2 := 7) (o := _) (o2 := _) (by kernel_rfl) rfl rfl rfl rfl ?_ ?_
          · intro K hK
            go_simp
            refine (impl_Joined aQ (.slice A_c210p (aQ.p.l).length k_c210p) (.slice A_c210o (aQ.out).length k_c210o) aA (.slice A_c211l (aA.rows).length k_c211l) aB (.slice A_c212l (aB.rows).length k_c212l) X3 D_c210p_3 (by omega) D_c210o_3 (by omega) D_c211l_3 (by omega) D_c212l_3 (by omega)  ⟨T_aA.1, T_aA.2.2⟩ ⟨T_aB.1, T_aB.2.2⟩).mono ?_
            rintro e X4 ⟨c213lq, rfl, H_c213lq, hb4⟩
            have HB4 : Below w21.heap.size w21 X4 := HB3.trans (hb4.mono HB3.size)
            have s4 := hb4.size
            refine hK.out _ _ (fun _ => HS.out _ HB4) ?_
            clear hK
            try simp only [Act.put, List.setIfInBounds_toArray, List.set_cons_zero, List.set_cons_succ]
            have D_c213lq_4 := H_c213lq.rdR
            clear H_c213lq
            obtain ⟨A_c213lq, k_c213lq, rfl, -, -⟩ := D_c213lq_4.form
            refine wpAnyT_one (k := 7) (o := _) (by kernel_rfl) rfl rfl ?_
            intro K hK
            go_simp
            have up5 : Below X4.heap.size X4 (X4.alloc (.cells #[.slice none 0 0, .int .i64 0, .bool false, .int .i64 0, .int .i64 0, .string ⟨#[]⟩] 99)) := up_a1 X4 _
            have HB5 : Below w21.heap.size w21 (X4.alloc (.cells #[.slice none 0 0, .int .i64 0, .bool false, .int .i64 0, .int .i64 0, .string ⟨#[]⟩] 99)) := HB4.trans (up5.mono HB4.size)
            have GZ5 : (X4.alloc (.cells #[.slice none 0 0, .int .i64 0, .bool false, .int .i64 0, .int .i64 0, .string ⟨#[]⟩] 99)).heap[X4.heap.size]? = some (.cells #[.slice none 0 0, .int .i64 0, .bool false, .int .i64 0, .int .i64 0, .string ⟨#[]⟩] 99) := heap_alloc_new X4 _
            have s5 : X4.heap.size < (X4.alloc (.cells #[.slice none 0 0, .int .i64 0, .bool false, .int .i64 0, .int .i64 0, .string ⟨#[]⟩] 99)).heap.size := by simp
            refine hK.out _ _ (fun _ => HS.out _ HB5) ?_
            clear hK
            generalize (X4.alloc (.cells #[.slice none 0 0, .int .i64 0, .bool false, .int .i64 0, .int .i64 0, .string ⟨#[]⟩] 99)) = X5 at *
            have GZ5 := Lib.hid GZ5
            try simp only [Act.put, List.setIfInBounds_toArray, List.set_cons_zero, List.set_cons_succ]
            have D_c213lq_5 := D_c213lq_4.below up5 (by omega)
            have hch : Chg X4.heap.size (X4.heap.size + 1) X5 ((((((X5.setCell ⟨X4.heap.size, 0, none⟩ ((.slice A_c213lq ((joined aQ aA aB).rows).length k_c213lq))).setCell ⟨X4.heap.size, 1, none⟩ (.int .i64 (joined aQ aA aB).n)).setCell ⟨X4.heap.size, 2, none⟩ (.bool (joined aQ aA aB).has)).setCell ⟨X4.heap.size, 3, none⟩ (.int .i64 (joined aQ aA aB).v.ty)).setCell ⟨X4.heap.size, 4, none⟩ (.int .i64 (joined aQ aA aB).v.n)).setCell ⟨X4.heap.size, 5, none⟩ (.string (joined aQ aA aB).v.s)) := ((((((chg_set _ _ _ _).trans (chg_set _ _ _ _)).trans (chg_set _ _ _ _)).trans (chg_set _ _ _ _)).trans (chg_set _ _ _ _)).trans (chg_set _ _ _ _))
            have hsz : ((((((X5.setCell ⟨X4.heap.size, 0, none⟩ ((.slice A_c213lq ((joined aQ aA aB).rows).length k_c213lq))).setCell ⟨X4.heap.size, 1, none⟩ (.int .i64 (joined aQ aA aB).n)).setCell ⟨X4.heap.size, 2, none⟩ (.bool (joined aQ aA aB).has)).setCell ⟨X4.heap.size, 3, none⟩ (.int .i64 (joined aQ aA aB).v.ty)).setCell ⟨X4.heap.size, 4, none⟩ (.int .i64 (joined aQ aA aB).v.n)).setCell ⟨X4.heap.size, 5, none⟩ (.string (joined aQ aA aB).v.s)).heap.size = X5.heap.size := by simp [World.setCell]
            have G6 := set_six (v0 := (.slice A_c213lq ((joined aQ aA aB).rows).length k_c213lq)) (v1 := .int .i64 (joined aQ aA aB).n) (v2 := .bool (joined aQ aA aB).has) (v3 := .int .i64 (joined aQ aA aB).v.ty) (v4 := .int .i64 (joined aQ aA aB).v.n) (v5 := .string (joined aQ aA aB).v.s) GZ5.out
            have hbt : w21.heap.size ≤ X4.heap.size := by have h := HB0.size; omega
            have RR := Lib.hid (show ∃ (bw : Nat) (rv : Value) (lw hw : Nat), (Value.pointer (some ⟨X4.heap.size, 0, none⟩)) = .pointer (some ⟨bw, 0, none⟩) ∧ w21.heap.size ≤ bw ∧ bw < ((((((X5.setCell ⟨X4.heap.size, 0, none⟩ ((.slice A_c213lq ((joined aQ aA aB).rows).length k_c213lq))).setCell ⟨X4.heap.size, 1, none⟩ (.int .i64 (joined aQ aA aB).n)).setCell ⟨X4.heap.size, 2, none⟩ (.bool (joined aQ aA aB).has)).setCell ⟨X4.heap.size, 3, none⟩ (.int .i64 (joined aQ aA aB).v.ty)).setCell ⟨X4.heap.size, 4, none⟩ (.int .i64 (joined aQ aA aB).v.n)).setCell ⟨X4.heap.size, 5, none⟩ (.string (joined aQ aA aB).v.s)).heap.size ∧ ((((((X5.setCell ⟨X4.heap.size, 0, none⟩ ((.slice A_c213lq ((joined aQ aA aB).rows).length k_c213lq))).setCell ⟨X4.heap.size, 1, none⟩ (.int .i64 (joined aQ aA aB).n)).setCell ⟨X4.heap.size, 2, none⟩ (.bool (joined aQ aA aB).has)).setCell ⟨X4.heap.size, 3, none⟩ (.int .i64 (joined aQ aA aB).v.ty)).setCell ⟨X4.heap.size, 4, none⟩ (.int .i64 (joined aQ aA aB).v.n)).setCell ⟨X4.heap.size, 5, none⟩ (.string (joined aQ aA aB).v.s)).heap[bw]? = some (.cells #[rv, .int .i64 (joined aQ aA aB).n, .bool (joined aQ aA aB).has, .int .i64 (joined aQ aA aB).v.ty, .int .i64 (joined aQ aA aB).v.n, .string (joined aQ aA aB).v.s] 99) ∧ RdR ((((((X5.setCell ⟨X4.heap.size, 0, none⟩ ((.slice A_c213lq ((joined aQ aA aB).rows).length k_c213lq))).setCell ⟨X4.heap.size, 1, none⟩ (.int .i64 (joined aQ aA aB).n)).setCell ⟨X4.heap.size, 2, none⟩ (.bool (joined aQ aA aB).has)).setCell ⟨X4.heap.size, 3, none⟩ (.int .i64 (joined aQ aA aB).v.ty)).setCell ⟨X4.heap.size, 4, none⟩ (.int .i64 (joined aQ aA aB).v.n)).setCell ⟨X4.heap.size, 5, none⟩ (.string (joined aQ aA aB).v.s)) lw hw rv ((joined aQ aA aB).rows) ∧ hw ≤ ((((((X5.setCell ⟨X4.heap.size, 0, none⟩ ((.slice A_c213lq ((joined aQ aA aB).rows).length k_c213lq))).setCell ⟨X4.heap.size, 1, none⟩ (.int .i64 (joined aQ aA aB).n)).setCell ⟨X4.heap.size, 2, none⟩ (.bool (joined aQ aA aB).has)).setCell ⟨X4.heap.size, 3, none⟩ (.int .i64 (joined aQ aA aB).v.ty)).setCell ⟨X4.heap.size, 4, none⟩ (.int .i64 (joined aQ aA aB).v.n)).setCell ⟨X4.heap.size, 5, none⟩ (.string (joined aQ aA aB).v.s)).heap.size ∧ Below w21.heap.size w21 ((((((X5.setCell ⟨X4.heap.size, 0, none⟩ ((.slice A_c213lq ((joined aQ aA aB).rows).length k_c213lq))).setCell ⟨X4.heap.size, 1, none⟩ (.int .i64 (joined aQ aA aB).n)).setCell ⟨X4.heap.size, 2, none⟩ (.bool (joined aQ aA aB).has)).setCell ⟨X4.heap.size, 3, none⟩ (.int .i64 (joined aQ aA aB).v.ty)).setCell ⟨X4.heap.size, 4, none⟩ (.int .i64 (joined aQ aA aB).v.n)).setCell ⟨X4.heap.size, 5, none⟩ (.string (joined aQ aA aB).v.s)) from ⟨X4.heap.size, (.slice A_c213lq ((joined aQ aA aB).rows).length k_c213lq), _, _, rfl, hbt, by rw [hsz]; omega, G6, D_c213lq_5.same (.of_chg hch (by omega) (by omega)), by rw [hsz]; omega, HB5.trans ((hch.below (Nat.le_refl _) (by omega)).mono hbt)⟩)
            clear G6 hch hbt hsz
            have t0 := cell_of_row X5 _ 0 _ _ _ GZ5.out
            have t1 := cell_of_row X5 _ 1 _ _ _ GZ5.out
            have t2 := cell_of_row X5 _ 2 _ _ _ GZ5.out
            have t3 := cell_of_row X5 _ 3 _ _ _ GZ5.out
            have t4 := cell_of_row X5 _ 4 _ _ _ GZ5.out
            have t5 := cell_of_row X5 _ 5 _ _ _ GZ5.out
            simp only [List.getElem?_toArray, List.getElem?_cons_zero, List.getElem?_cons_succ] at t0 t1 t2 t3 t4 t5
            have ft := fun o => frozen_of_row X5 _ o _ _ GZ5.out
            refine wpAnyT_one (k := 8) (o := _) (by kernel_rfl) rfl rfl ?_
            intro K hK
            go_simp
            refine hK.out _ _ (fun h => absurd rfl h) ?_
            clear hK
            refine wpAnyT_done (by kernel_rfl) ?_ _
            go_wp2_with fail
            go_meet
            with_reducible exact RR.out
          · intro K hK
            go_simp
            have up6 : Below X3.heap.size X3 (X3.alloc (.cells #[.slice none 0 0, .int .i64 0, .bool false, .int .i64 0, .int .i64 0, .string ⟨#[]⟩] 99)) := up_a1 X3 _
            have HB6 : Below w21.heap.size w21 (X3.alloc (.cells #[.slice none 0 0, .int .i64 0, .bool false, .int .i64 0, .int .i64 0, .string ⟨#[]⟩] 99)) := HB3.trans (up6.mono HB3.size)
            have GZ6 : (X3.alloc (.cells #[.slice none 0 0, .int .i64 0, .bool false, .int .i64 0, .int .i64 0, .string ⟨#[]⟩] 99)).heap[X3.heap.size]? = some (.cells #[.slice none 0 0, .int .i64 0, .bool false, .int .i64 0, .int .i64 0, .string ⟨#[]⟩] 99) := heap_alloc_new X3 _
            have s6 : X3.heap.size < (X3.alloc (.cells #[.slice none 0 0, .int .i64 0, .bool false, .int .i64 0, .int .i64 0, .string ⟨#[]⟩] 99)).heap.size := by simp
            refine hK.out _ _ (fun _ => HS.out _ HB6) ?_
            clear hK
            generalize (X3.alloc (.cells #[.slice none 0 0, .int .i64 0, .bool false, .int .i64 0, .int .i64 0, .string ⟨#[]⟩] 99)) = X6 at *
            have GZ6 := Lib.hid GZ6
            try simp only [Act.put, List.setIfInBounds_toArray, List.set_cons_zero, List.set_cons_succ]
            have D_c210p_6 := D_c210p_3.below up6 (by omega)
            have D_c210o_6 := D_c210o_3.below up6 (by omega)
            have D_c211l_6 := D_c211l_3.below up6 (by omega)
            have D_c212l_6 := D_c212l_3.below up6 (by omega)
            refine wpAnyT_one (k := 6) (o := _) (by kernel_rfl) rfl rfl ?_
            intro K hK
            go_simp
            refine (impl_Joined aQ (.slice A_c210p (aQ.p.l).length k_c210p) (.slice A_c210o (aQ.out).length k_c210o) aA (.slice A_c211l (aA.rows).length k_c211l) aB (.slice A_c212l (aB.rows).length k_c212l) X6 D_c210p_6 (by omega) D_c210o_6 (by omega) D_c211l_6 (by omega) D_c212l_6 (by omega)  ⟨T_aA.1, T_aA.2.2⟩ ⟨T_aB.1, T_aB.2.2⟩).mono ?_
            rintro e X7 ⟨c213lq, rfl, H_c213lq, hb7⟩
            have HB7 : Below w21.heap.size w21 X7 := HB6.trans (hb7.mono HB6.size)
            have s7 := hb7.size
            refine hK.out _ _ (fun _ => HS.out _ HB7) ?_
            clear hK
            try simp only [Act.put, List.setIfInBounds_toArray, List.set_cons_zero, List.set_cons_succ]
            have GZ7 := Lib.hid ((hb7.block _ (by omega)).trans GZ6.out)
            have D_c213lq_7 := H_c213lq.rdR
            clear H_c213lq
            obtain ⟨A_c213lq, k_c213lq, rfl, -, -⟩ := D_c213lq_7.form
            have hch : Chg X3.heap.size (X3.heap.size + 1) X7 ((((((X7.setCell ⟨X3.heap.size, 0, none⟩ ((.slice A_c213lq ((joined aQ aA aB).rows).length k_c213lq))).setCell ⟨X3.heap.size, 1, none⟩ (.int .i64 (joined aQ aA aB).n)).setCell ⟨X3.heap.size, 2, none⟩ (.bool (joined aQ aA aB).has)).setCell ⟨X3.heap.size, 3, none⟩ (.int .i64 (joined aQ aA aB).v.ty)).setCell ⟨X3.heap.size, 4, none⟩ (.int .i64 (joined aQ aA aB).v.n)).setCell ⟨X3.heap.size, 5, none⟩ (.string (joined aQ aA aB).v.s)) := ((((((chg_set _ _ _ _).trans (chg_set _ _ _ _)).trans (chg_set _ _ _ _)).trans (chg_set _ _ _ _)).trans (chg_set _ _ _ _)).trans (chg_set _ _ _ _))
            have hsz : ((((((X7.setCell ⟨X3.heap.size, 0, none⟩ ((.slice A_c213lq ((joined aQ aA aB).rows).length k_c213lq))).setCell ⟨X3.heap.size, 1, none⟩ (.int .i64 (joined aQ aA aB).n)).setCell ⟨X3.heap.size, 2, none⟩ (.bool (joined aQ aA aB).has)).setCell ⟨X3.heap.size, 3, none⟩ (.int .i64 (joined aQ aA aB).v.ty)).setCell ⟨X3.heap.size, 4, none⟩ (.int .i64 (joined aQ aA aB).v.n)).setCell ⟨X3.heap.size, 5, none⟩ (.string (joined aQ aA aB).v.s)).heap.size = X7.heap.size := by simp [World.setCell]
            have G6 := set_six (v0 := (.slice A_c213lq ((joined aQ aA aB).rows).length k_c213lq)) (v1 := .int .i64 (joined aQ aA aB).n) (v2 := .bool (joined aQ aA aB).has) (v3 := .int .i64 (joined aQ aA aB).v.ty) (v4 := .int .i64 (joined aQ aA aB).v.n) (v5 := .string (joined aQ aA aB).v.s) GZ7.out
            have hbt : w21.heap.size ≤ X3.heap.size := by have h := HB0.size; omega
            have RR := Lib.hid (show ∃ (bw : Nat) (rv : Value) (lw hw : Nat), (Value.pointer (some ⟨X3.heap.size, 0, none⟩)) = .pointer (some ⟨bw, 0, none⟩) ∧ w21.heap.size ≤ bw ∧ bw < ((((((X7.setCell ⟨X3.heap.size, 0, none⟩ ((.slice A_c213lq ((joined aQ aA aB).rows).length k_c213lq))).setCell ⟨X3.heap.size, 1, none⟩ (.int .i64 (joined aQ aA aB).n)).setCell ⟨X3.heap.size, 2, none⟩ (.bool (joined aQ aA aB).has)).setCell ⟨X3.heap.size, 3, none⟩ (.int .i64 (joined aQ aA aB).v.ty)).setCell ⟨X3.heap.size, 4, none⟩ (.int .i64 (joined aQ aA aB).v.n)).setCell ⟨X3.heap.size, 5, none⟩ (.string (joined aQ aA aB).v.s)).heap.size ∧ ((((((X7.setCell ⟨X3.heap.size, 0, none⟩ ((.slice A_c213lq ((joined aQ aA aB).rows).length k_c213lq))).setCell ⟨X3.heap.size, 1, none⟩ (.int .i64 (joined aQ aA aB).n)).setCell ⟨X3.heap.size, 2, none⟩ (.bool (joined aQ aA aB).has)).setCell ⟨X3.heap.size, 3, none⟩ (.int .i64 (joined aQ aA aB).v.ty)).setCell ⟨X3.heap.size, 4, none⟩ (.int .i64 (joined aQ aA aB).v.n)).setCell ⟨X3.heap.size, 5, none⟩ (.string (joined aQ aA aB).v.s)).heap[bw]? = some (.cells #[rv, .int .i64 (joined aQ aA aB).n, .bool (joined aQ aA aB).has, .int .i64 (joined aQ aA aB).v.ty, .int .i64 (joined aQ aA aB).v.n, .string (joined aQ aA aB).v.s] 99) ∧ RdR ((((((X7.setCell ⟨X3.heap.size, 0, none⟩ ((.slice A_c213lq ((joined aQ aA aB).rows).length k_c213lq))).setCell ⟨X3.heap.size, 1, none⟩ (.int .i64 (joined aQ aA aB).n)).setCell ⟨X3.heap.size, 2, none⟩ (.bool (joined aQ aA aB).has)).setCell ⟨X3.heap.size, 3, none⟩ (.int .i64 (joined aQ aA aB).v.ty)).setCell ⟨X3.heap.size, 4, none⟩ (.int .i64 (joined aQ aA aB).v.n)).setCell ⟨X3.heap.size, 5, none⟩ (.string (joined aQ aA aB).v.s)) lw hw rv ((joined aQ aA aB).rows) ∧ hw ≤ ((((((X7.setCell ⟨X3.heap.size, 0, none⟩ ((.slice A_c213lq ((joined aQ aA aB).rows).length k_c213lq))).setCell ⟨X3.heap.size, 1, none⟩ (.int .i64 (joined aQ aA aB).n)).setCell ⟨X3.heap.size, 2, none⟩ (.bool (joined aQ aA aB).has)).setCell ⟨X3.heap.size, 3, none⟩ (.int .i64 (joined aQ aA aB).v.ty)).setCell ⟨X3.heap.size, 4, none⟩ (.int .i64 (joined aQ aA aB).v.n)).setCell ⟨X3.heap.size, 5, none⟩ (.string (joined aQ aA aB).v.s)).heap.size ∧ Below w21.heap.size w21 ((((((X7.setCell ⟨X3.heap.size, 0, none⟩ ((.slice A_c213lq ((joined aQ aA aB).rows).length k_c213lq))).setCell ⟨X3.heap.size, 1, none⟩ (.int .i64 (joined aQ aA aB).n)).setCell ⟨X3.heap.size, 2, none⟩ (.bool (joined aQ aA aB).has)).setCell ⟨X3.heap.size, 3, none⟩ (.int .i64 (joined aQ aA aB).v.ty)).setCell ⟨X3.heap.size, 4, none⟩ (.int .i64 (joined aQ aA aB).v.n)).setCell ⟨X3.heap.size, 5, none⟩ (.string (joined aQ aA aB).v.s)) from ⟨X3.heap.size, (.slice A_c213lq ((joined aQ aA aB).rows).length k_c213lq), _, _, rfl, hbt, by rw [hsz]; omega, G6, D_c213lq_7.same (.of_chg hch (by omega) (by omega)), by rw [hsz]; omega, HB7.trans ((hch.below (Nat.le_refl _) (by omega)).mono hbt)⟩)
            clear G6 hch hbt hsz
            have t0 := cell_of_row X7 _ 0 _ _ _ GZ7.out
            have t1 := cell_of_row X7 _ 1 _ _ _ GZ7.out
            have t2 := cell_of_row X7 _ 2 _ _ _ GZ7.out
            have t3 := cell_of_row X7 _ 3 _ _ _ GZ7.out
            have t4 := cell_of_row X7 _ 4 _ _ _ GZ7.out
            have t5 := cell_of_row X7 _ 5 _ _ _ GZ7.out
            simp only [List.getElem?_toArray, List.getElem?_cons_zero, List.getElem?_cons_succ] at t0 t1 t2 t3 t4 t5
            have ft := fun o => frozen_of_row X7 _ o _ _ GZ7.out
            refine wpAnyT_one (k := 8) (o := _) (by kernel_rfl) rfl rfl ?_
            intro K hK
            go_simp
            refine hK.out _ _ (fun h => absurd rfl h) ?_
            clear hK
            refine wpAnyT_done (by kernel_rfl) ?_ _
            go_wp2_with fail
            go_meet
            with_reducible exact RR.out
        · intro K hK
          go_simp
          have up8 : Below X2.heap.size X2 (X2.alloc (.cells #[.slice none 0 0, .int .i64 0, .bool false, .int .i64 0, .int .i64 0, .string ⟨#[]⟩] 99)) := up_a1 X2 _
          have HB8 : Below w21.heap.size w21 (X2.alloc (.cells #[.slice none 0 0, .int .i64 0, .bool false, .int .i64 0, .int .i64 0, .string ⟨#[]⟩] 99)) := HB2.trans (up8.mono HB2.size)
          have GZ8 : (X2.alloc (.cells #[.slice none 0 0, .int .i64 0, .bool false, .int .i64 0, .int .i64 0, .string ⟨#[]⟩] 99)).heap[X2.heap.size]? = some (.cells #[.slice none 0 0, .int .i64 0, .bool false, .int .i64 0, .int .i64 0, .string ⟨#[]⟩] 99) := heap_alloc_new X2 _
          have s8 : X2.heap.size < (X2.alloc (.cells #[.slice none 0 0, .int .i64 0, .bool false, .int .i64 0, .int .i64 0, .string ⟨#[]⟩] 99)).heap.size := by simp
          refine hK.out _ _ (fun _ => HS.out _ HB8) ?_
          clear hK
          generalize (X2.alloc (.cells #[.slice none 0 0, .int .i64 0, .bool false, .int .i64 0, .int .i64 0, .string ⟨#[]⟩] 99)) = X8 at *
          have GZ8 := Lib.hid GZ8
          try simp only [Act.put, List.setIfInBounds_toArray, List.set_cons_zero, List.set_cons_succ]
          have D_c210p_8 := D_c210p_2.below up8 (by omega)
          have D_c210o_8 := D_c210o_2.below up8 (by omega)
          have D_c211l_8 := D_c211l_2.below up8 (by omega)
          refine wpAnyT_one (k := 5) (o := _) (by kernel_rfl) rfl rfl ?_
          intro K hK
          go_simp
          refine (TC2.out X8 HB8).mono ?_
          rintro e X9 ⟨c212l, rfl, H_c212l, hb9⟩
          have HB9 : Below w21.heap.size w21 X9 := HB8.trans (hb9.mono HB8.size)
          have s9 := hb9.size
          refine hK.out _ _ (fun _ => HS.out _ HB9) ?_
          clear hK
          try simp only [Act.put, List.setIfInBounds_toArray, List.set_cons_zero, List.set_cons_succ]
          have GZ9 := Lib.hid ((hb9.block _ (by omega)).trans GZ8.out)
          have D_c210p_9 := D_c210p_8.below hb9 (by omega)
          have D_c210o_9 := D_c210o_8.below hb9 (by omega)
          have D_c211l_9 := D_c211l_8.below hb9 (by omega)
          have D_c212l_9 := H_c212l.rdR
          clear H_c212l
          obtain ⟨A_c212l, k_c212l, rfl, -, -⟩ := D_c212l_9.form
          refine wpAnyT_one (k := 6) (o := _) (by kernel_rfl) rfl rfl ?_
          intro K hK
          go_simp
          refine (impl_Joined aQ (.slice A_c210p (aQ.p.l).length k_c210p) (.slice A_c210o (aQ.out).length k_c210o) aA (.slice A_c211l (aA.rows).length k_c211l) aB (.slice A_c212l (aB.rows).length k_c212l) X9 D_c210p_9 (by omega) D_c210o_9 (by omega) D_c211l_9 (by omega) D_c212l_9 (by omega)  ⟨T_aA.1, T_aA.2.2⟩ ⟨T_aB.1, T_aB.2.2⟩).mono ?_
          rintro e X10 ⟨c213lq, rfl, H_c213lq, hb10⟩
          have HB10 : Below w21.heap.size w21 X10 := HB9.trans (hb10.mono HB9.size)
          have s10 := hb10.size
          refine hK.out _ _ (fun _ => HS.out _ HB10) ?_
          clear hK
          try simp only [Act.put, List.setIfInBounds_toArray, List.set_cons_zero, List.set_cons_succ]
          have GZ10 := Lib.hid ((hb10.block _ (by omega)).trans GZ9.out)
          have D_c213lq_10 := H_c213lq.rdR
          clear H_c213lq
          obtain ⟨A_c213lq, k_c213lq, rfl, -, -⟩ := D_c213lq_10.form
          have hch : Chg X2.heap.size (X2.heap.size + 1) X10 ((((((X10.setCell ⟨X2.heap.size, 0, none⟩ ((.slice A_c213lq ((joined aQ aA aB).rows).length k_c213lq))).setCell ⟨X2.heap.size, 1, none⟩ (.int .i64 (joined aQ aA aB).n)).setCell ⟨X2.heap.size, 2, none⟩ (.bool (joined aQ aA aB).has)).setCell ⟨X2.heap.size, 3, none⟩ (.int .i64 (joined aQ aA aB).v.ty)).setCell ⟨X2.heap.size, 4, none⟩ (.int .i64 (joined aQ aA aB).v.n)).setCell ⟨X2.heap.size, 5, none⟩ (.string (joined aQ aA aB).v.s)) := ((((((chg_set _ _ _ _).trans (chg_set _ _ _ _)).trans (chg_set _ _ _ _)).trans (chg_set _ _ _ _)).trans (chg_set _ _ _ _)).trans (chg_set _ _ _ _))
          have hsz : ((((((X10.setCell ⟨X2.heap.size, 0, none⟩ ((.slice A_c213lq ((joined aQ aA aB).rows).length k_c213lq))).setCell ⟨X2.heap.size, 1, none⟩ (.int .i64 (joined aQ aA aB).n)).setCell ⟨X2.heap.size, 2, none⟩ (.bool (joined aQ aA aB).has)).setCell ⟨X2.heap.size, 3, none⟩ (.int .i64 (joined aQ aA aB).v.ty)).setCell ⟨X2.heap.size, 4, none⟩ (.int .i64 (joined aQ aA aB).v.n)).setCell ⟨X2.heap.size, 5, none⟩ (.string (joined aQ aA aB).v.s)).heap.size = X10.heap.size := by simp [World.setCell]
          have G6 := set_six (v0 := (.slice A_c213lq ((joined aQ aA aB).rows).length k_c213lq)) (v1 := .int .i64 (joined aQ aA aB).n) (v2 := .bool (joined aQ aA aB).has) (v3 := .int .i64 (joined aQ aA aB).v.ty) (v4 := .int .i64 (joined aQ aA aB).v.n) (v5 := .string (joined aQ aA aB).v.s) GZ10.out
          have hbt : w21.heap.size ≤ X2.heap.size := by have h := HB0.size; omega
          have RR := Lib.hid (show ∃ (bw : Nat) (rv : Value) (lw hw : Nat), (Value.pointer (some ⟨X2.heap.size, 0, none⟩)) = .pointer (some ⟨bw, 0, none⟩) ∧ w21.heap.size ≤ bw ∧ bw < ((((((X10.setCell ⟨X2.heap.size, 0, none⟩ ((.slice A_c213lq ((joined aQ aA aB).rows).length k_c213lq))).setCell ⟨X2.heap.size, 1, none⟩ (.int .i64 (joined aQ aA aB).n)).setCell ⟨X2.heap.size, 2, none⟩ (.bool (joined aQ aA aB).has)).setCell ⟨X2.heap.size, 3, none⟩ (.int .i64 (joined aQ aA aB).v.ty)).setCell ⟨X2.heap.size, 4, none⟩ (.int .i64 (joined aQ aA aB).v.n)).setCell ⟨X2.heap.size, 5, none⟩ (.string (joined aQ aA aB).v.s)).heap.size ∧ ((((((X10.setCell ⟨X2.heap.size, 0, none⟩ ((.slice A_c213lq ((joined aQ aA aB).rows).length k_c213lq))).setCell ⟨X2.heap.size, 1, none⟩ (.int .i64 (joined aQ aA aB).n)).setCell ⟨X2.heap.size, 2, none⟩ (.bool (joined aQ aA aB).has)).setCell ⟨X2.heap.size, 3, none⟩ (.int .i64 (joined aQ aA aB).v.ty)).setCell ⟨X2.heap.size, 4, none⟩ (.int .i64 (joined aQ aA aB).v.n)).setCell ⟨X2.heap.size, 5, none⟩ (.string (joined aQ aA aB).v.s)).heap[bw]? = some (.cells #[rv, .int .i64 (joined aQ aA aB).n, .bool (joined aQ aA aB).has, .int .i64 (joined aQ aA aB).v.ty, .int .i64 (joined aQ aA aB).v.n, .string (joined aQ aA aB).v.s] 99) ∧ RdR ((((((X10.setCell ⟨X2.heap.size, 0, none⟩ ((.slice A_c213lq ((joined aQ aA aB).rows).length k_c213lq))).setCell ⟨X2.heap.size, 1, none⟩ (.int .i64 (joined aQ aA aB).n)).setCell ⟨X2.heap.size, 2, none⟩ (.bool (joined aQ aA aB).has)).setCell ⟨X2.heap.size, 3, none⟩ (.int .i64 (joined aQ aA aB).v.ty)).setCell ⟨X2.heap.size, 4, none⟩ (.int .i64 (joined aQ aA aB).v.n)).setCell ⟨X2.heap.size, 5, none⟩ (.string (joined aQ aA aB).v.s)) lw hw rv ((joined aQ aA aB).rows) ∧ hw ≤ ((((((X10.setCell ⟨X2.heap.size, 0, none⟩ ((.slice A_c213lq ((joined aQ aA aB).rows).length k_c213lq))).setCell ⟨X2.heap.size, 1, none⟩ (.int .i64 (joined aQ aA aB).n)).setCell ⟨X2.heap.size, 2, none⟩ (.bool (joined aQ aA aB).has)).setCell ⟨X2.heap.size, 3, none⟩ (.int .i64 (joined aQ aA aB).v.ty)).setCell ⟨X2.heap.size, 4, none⟩ (.int .i64 (joined aQ aA aB).v.n)).setCell ⟨X2.heap.size, 5, none⟩ (.string (joined aQ aA aB).v.s)).heap.size ∧ Below w21.heap.size w21 ((((((X10.setCell ⟨X2.heap.size, 0, none⟩ ((.slice A_c213lq ((joined aQ aA aB).rows).length k_c213lq))).setCell ⟨X2.heap.size, 1, none⟩ (.int .i64 (joined aQ aA aB).n)).setCell ⟨X2.heap.size, 2, none⟩ (.bool (joined aQ aA aB).has)).setCell ⟨X2.heap.size, 3, none⟩ (.int .i64 (joined aQ aA aB).v.ty)).setCell ⟨X2.heap.size, 4, none⟩ (.int .i64 (joined aQ aA aB).v.n)).setCell ⟨X2.heap.size, 5, none⟩ (.string (joined aQ aA aB).v.s)) from ⟨X2.heap.size, (.slice A_c213lq ((joined aQ aA aB).rows).length k_c213lq), _, _, rfl, hbt, by rw [hsz]; omega, G6, D_c213lq_10.same (.of_chg hch (by omega) (by omega)), by rw [hsz]; omega, HB10.trans ((hch.below (Nat.le_refl _) (by omega)).mono hbt)⟩)
          clear G6 hch hbt hsz
          have t0 := cell_of_row X10 _ 0 _ _ _ GZ10.out
          have t1 := cell_of_row X10 _ 1 _ _ _ GZ10.out
          have t2 := cell_of_row X10 _ 2 _ _ _ GZ10.out
          have t3 := cell_of_row X10 _ 3 _ _ _ GZ10.out
          have t4 := cell_of_row X10 _ 4 _ _ _ GZ10.out
          have t5 := cell_of_row X10 _ 5 _ _ _ GZ10.out
          simp only [List.getElem?_toArray, List.getElem?_cons_zero, List.getElem?_cons_succ] at t0 t1 t2 t3 t4 t5
          have ft := fun o => frozen_of_row X10 _ o _ _ GZ10.out
          refine wpAnyT_one (k := 8) (o := _) (by kernel_rfl) rfl rfl ?_
          intro K hK
          go_simp
          refine hK.out _ _ (fun h => absurd rfl h) ?_
          clear hK
          refine wpAnyT_done (by kernel_rfl) ?_ _
          go_wp2_with fail
          go_meet
          with_reducible exact RR.out
      · intro K hK
        go_simp
        have up11 : Below X1.heap.size X1 (X1.alloc (.cells #[.slice none 0 0, .int .i64 0, .bool false, .int .i64 0, .int .i64 0, .string ⟨#[]⟩] 99)) := up_a1 X1 _
        have HB11 : Below w21.heap.size w21 (X1.alloc (.cells #[.slice none 0 0, .int .i64 0, .bool false, .int .i64 0, .int .i64 0, .string ⟨#[]⟩] 99)) := HB1.trans (up11.mono HB1.size)
        have GZ11 : (X1.alloc (.cells #[.slice none 0 0, .int .i64 0, .bool false, .int .i64 0, .int .i64 0, .string ⟨#[]⟩] 99)).heap[X1.heap.size]? = some (.cells #[.slice none 0 0, .int .i64 0, .bool false, .int .i64 0, .int .i64 0, .string ⟨#[]⟩] 99) := heap_alloc_new X1 _
        have s11 : X1.heap.size < (X1.alloc (.cells #[.slice none 0 0, .int .i64 0, .bool false, .int .i64 0, .int .i64 0, .string ⟨#[]⟩] 99)).heap.size := by simp
        refine hK.out _ _ (fun _ => HS.out _ HB11) ?_
        clear hK
        generalize (X1.alloc (.cells #[.slice none 0 0, .int .i64 0, .bool false, .int .i64 0, .int .i64 0, .string ⟨#[]⟩] 99)) = X11 at *
        have GZ11 := Lib.hid GZ11
        try simp only [Act.put, List.setIfInBounds_toArray, List.set_cons_zero, List.set_cons_succ]
        have D_c210p_11 := D_c210p_1.below up11 (by omega)
        have D_c210o_11 := D_c210o_1.below up11 (by omega)
        refine wpAnyT_one (k := 3) (o := _) (by kernel_rfl) rfl rfl ?_
        intro K hK
        go_simp
        refine (TC1.out X11 HB11).mono ?_
        rintro e X12 ⟨c211l, rfl, H_c211l, hb12⟩
        have HB12 : Below w21.heap.size w21 X12 := HB11.trans (hb12.mono HB11.size)
        have s12 := hb12.size
        refine hK.out _ _ (fun _ => HS.out _ HB12) ?_
        clear hK
        try simp only [Act.put, List.setIfInBounds_toArray, List.set_cons_zero, List.set_cons_succ]
        have GZ12 := Lib.hid ((hb12.block _ (by omega)).trans GZ11.out)
        have D_c210p_12 := D_c210p_11.below hb12 (by omega)
        have D_c210o_12 := D_c210o_11.below hb12 (by omega)
        have D_c211l_12 := H_c211l.rdR
        clear H_c211l
        obtain ⟨A_c211l, k_c211l, rfl, -, -⟩ := D_c211l_12.form
        refine wpAnyT_one (k := 5) (o := _) (by kernel_rfl) rfl rfl ?_
        intro K hK
        go_simp
        refine (TC2.out X12 HB12).mono ?_
        rintro e X13 ⟨c212l, rfl, H_c212l, hb13⟩
        have HB13 : Below w21.heap.size w21 X13 := HB12.trans (hb13.mono HB12.size)
        have s13 := hb13.size
        refine hK.out _ _ (fun _ => HS.out _ HB13) ?_
        clear hK
        try simp only [Act.put, List.setIfInBounds_toArray, List.set_cons_zero, List.set_cons_succ]
        have GZ13 := Lib.hid ((hb13.block _ (by omega)).trans GZ12.out)
        have D_c210p_13 := D_c210p_12.below hb13 (by omega)
        have D_c210o_13 := D_c210o_12.below hb13 (by omega)
        have D_c211l_13 := D_c211l_12.below hb13 (by omega)
        have D_c212l_13 := H_c212l.rdR
        clear H_c212l
        obtain ⟨A_c212l, k_c212l, rfl, -, -⟩ := D_c212l_13.form
        refine wpAnyT_one (k := 6) (o := _) (by kernel_rfl) rfl rfl ?_
        intro K hK
        go_simp
        refine (impl_Joined aQ (.slice A_c210p (aQ.p.l).length k_c210p) (.slice A_c210o (aQ.out).length k_c210o) aA (.slice A_c211l (aA.rows).length k_c211l) aB (.slice A_c212l (aB.rows).length k_c212l) X13 D_c210p_13 (by omega) D_c210o_13 (by omega) D_c211l_13 (by omega) D_c212l_13 (by omega)  ⟨T_aA.1, T_aA.2.2⟩ ⟨T_aB.1, T_aB.2.2⟩).mono ?_
        rintro e X14 ⟨c213lq, rfl, H_c213lq, hb14⟩
        have HB14 : Below w21.heap.size w21 X14 := HB13.trans (hb14.mono HB13.size)
        have s14 := hb14.size
        refine hK.out _ _ (fun _ => HS.out _ HB14) ?_
        clear hK
        try simp only [Act.put, List.setIfInBounds_toArray, List.set_cons_zero, List.set_cons_succ]
        have GZ14 := Lib.hid ((hb14.block _ (by omega)).trans GZ13.out)
        have D_c213lq_14 := H_c213lq.rdR
        clear H_c213lq
        obtain ⟨A_c213lq, k_c213lq, rfl, -, -⟩ := D_c213lq_14.form
        have hch : Chg X1.heap.size (X1.heap.size + 1) X14 ((((((X14.setCell ⟨X1.heap.size, 0, none⟩ ((.slice A_c213lq ((joined aQ aA aB).rows).length k_c213lq))).setCell ⟨X1.heap.size, 1, none⟩ (.int .i64 (joined aQ aA aB).n)).setCell ⟨X1.heap.size, 2, none⟩ (.bool (joined aQ aA aB).has)).setCell ⟨X1.heap.size, 3, none⟩ (.int .i64 (joined aQ aA aB).v.ty)).setCell ⟨X1.heap.size, 4, none⟩ (.int .i64 (joined aQ aA aB).v.n)).setCell ⟨X1.heap.size, 5, none⟩ (.string (joined aQ aA aB).v.s)) := ((((((chg_set _ _ _ _).trans (chg_set _ _ _ _)).trans (chg_set _ _ _ _)).trans (chg_set _ _ _ _)).trans (chg_set _ _ _ _)).trans (chg_set _ _ _ _))
        have hsz : ((((((X14.setCell ⟨X1.heap.size, 0, none⟩ ((.slice A_c213lq ((joined aQ aA aB).rows).length k_c213lq))).setCell ⟨X1.heap.size, 1, none⟩ (.int .i64 (joined aQ aA aB).n)).setCell ⟨X1.heap.size, 2, none⟩ (.bool (joined aQ aA aB).has)).setCell ⟨X1.heap.size, 3, none⟩ (.int .i64 (joined aQ aA aB).v.ty)).setCell ⟨X1.heap.size, 4, none⟩ (.int .i64 (joined aQ aA aB).v.n)).setCell ⟨X1.heap.size, 5, none⟩ (.string (joined aQ aA aB).v.s)).heap.size = X14.heap.size := by simp [World.setCell]
        have G6 := set_six (v0 := (.slice A_c213lq ((joined aQ aA aB).rows).length k_c213lq)) (v1 := .int .i64 (joined aQ aA aB).n) (v2 := .bool (joined aQ aA aB).has) (v3 := .int .i64 (joined aQ aA aB).v.ty) (v4 := .int .i64 (joined aQ aA aB).v.n) (v5 := .string (joined aQ aA aB).v.s) GZ14.out
        have hbt : w21.heap.size ≤ X1.heap.size := by have h := HB0.size; omega
        have RR := Lib.hid (show ∃ (bw : Nat) (rv : Value) (lw hw : Nat), (Value.pointer (some ⟨X1.heap.size, 0, none⟩)) = .pointer (some ⟨bw, 0, none⟩) ∧ w21.heap.size ≤ bw ∧ bw < ((((((X14.setCell ⟨X1.heap.size, 0, none⟩ ((.slice A_c213lq ((joined aQ aA aB).rows).length k_c213lq))).setCell ⟨X1.heap.size, 1, none⟩ (.int .i64 (joined aQ aA aB).n)).setCell ⟨X1.heap.size, 2, none⟩ (.bool (joined aQ aA aB).has)).setCell ⟨X1.heap.size, 3, none⟩ (.int .i64 (joined aQ aA aB).v.ty)).setCell ⟨X1.heap.size, 4, none⟩ (.int .i64 (joined aQ aA aB).v.n)).setCell ⟨X1.heap.size, 5, none⟩ (.string (joined aQ aA aB).v.s)).heap.size ∧ ((((((X14.setCell ⟨X1.heap.size, 0, none⟩ ((.slice A_c213lq ((joined aQ aA aB).rows).length k_c213lq))).setCell ⟨X1.heap.size, 1, none⟩ (.int .i64 (joined aQ aA aB).n)).setCell ⟨X1.heap.size, 2, none⟩ (.bool (joined aQ aA aB).has)).setCell ⟨X1.heap.size, 3, none⟩ (.int .i64 (joined aQ aA aB).v.ty)).setCell ⟨X1.heap.size, 4, none⟩ (.int .i64 (joined aQ aA aB).v.n)).setCell ⟨X1.heap.size, 5, none⟩ (.string (joined aQ aA aB).v.s)).heap[bw]? = some (.cells #[rv, .int .i64 (joined aQ aA aB).n, .bool (joined aQ aA aB).has, .int .i64 (joined aQ aA aB).v.ty, .int .i64 (joined aQ aA aB).v.n, .string (joined aQ aA aB).v.s] 99) ∧ RdR ((((((X14.setCell ⟨X1.heap.size, 0, none⟩ ((.slice A_c213lq ((joined aQ aA aB).rows).length k_c213lq))).setCell ⟨X1.heap.size, 1, none⟩ (.int .i64 (joined aQ aA aB).n)).setCell ⟨X1.heap.size, 2, none⟩ (.bool (joined aQ aA aB).has)).setCell ⟨X1.heap.size, 3, none⟩ (.int .i64 (joined aQ aA aB).v.ty)).setCell ⟨X1.heap.size, 4, none⟩ (.int .i64 (joined aQ aA aB).v.n)).setCell ⟨X1.heap.size, 5, none⟩ (.string (joined aQ aA aB).v.s)) lw hw rv ((joined aQ aA aB).rows) ∧ hw ≤ ((((((X14.setCell ⟨X1.heap.size, 0, none⟩ ((.slice A_c213lq ((joined aQ aA aB).rows).length k_c213lq))).setCell ⟨X1.heap.size, 1, none⟩ (.int .i64 (joined aQ aA aB).n)).setCell ⟨X1.heap.size, 2, none⟩ (.bool (joined aQ aA aB).has)).setCell ⟨X1.heap.size, 3, none⟩ (.int .i64 (joined aQ aA aB).v.ty)).setCell ⟨X1.heap.size, 4, none⟩ (.int .i64 (joined aQ aA aB).v.n)).setCell ⟨X1.heap.size, 5, none⟩ (.string (joined aQ aA aB).v.s)).heap.size ∧ Below w21.heap.size w21 ((((((X14.setCell ⟨X1.heap.size, 0, none⟩ ((.slice A_c213lq ((joined aQ aA aB).rows).length k_c213lq))).setCell ⟨X1.heap.size, 1, none⟩ (.int .i64 (joined aQ aA aB).n)).setCell ⟨X1.heap.size, 2, none⟩ (.bool (joined aQ aA aB).has)).setCell ⟨X1.heap.size, 3, none⟩ (.int .i64 (joined aQ aA aB).v.ty)).setCell ⟨X1.heap.size, 4, none⟩ (.int .i64 (joined aQ aA aB).v.n)).setCell ⟨X1.heap.size, 5, none⟩ (.string (joined aQ aA aB).v.s)) from ⟨X1.heap.size, (.slice A_c213lq ((joined aQ aA aB).rows).length k_c213lq), _, _, rfl, hbt, by rw [hsz]; omega, G6, D_c213lq_14.same (.of_chg hch (by omega) (by omega)), by rw [hsz]; omega, HB14.trans ((hch.below (Nat.le_refl _) (by omega)).mono hbt)⟩)
        clear G6 hch hbt hsz
        have t0 := cell_of_row X14 _ 0 _ _ _ GZ14.out
        have t1 := cell_of_row X14 _ 1 _ _ _ GZ14.out
        have t2 := cell_of_row X14 _ 2 _ _ _ GZ14.out
        have t3 := cell_of_row X14 _ 3 _ _ _ GZ14.out
        have t4 := cell_of_row X14 _ 4 _ _ _ GZ14.out
        have t5 := cell_of_row X14 _ 5 _ _ _ GZ14.out
        simp only [List.getElem?_toArray, List.getElem?_cons_zero, List.getElem?_cons_succ] at t0 t1 t2 t3 t4 t5
        have ft := fun o => frozen_of_row X14 _ o _ _ GZ14.out
        refine wpAnyT_one (k := 8) (o := _) (by kernel_rfl) rfl rfl ?_
        intro K hK
        go_simp
        refine hK.out _ _ (fun h => absurd rfl h) ?_
        clear hK
        refine wpAnyT_done (by kernel_rfl) ?_ _
        go_wp2_with fail
        go_meet
        with_reducible exact RR.out
    · intro K hK
      go_simp
      have up15 : Below X0.heap.size X0 (X0.alloc (.cells #[.slice none 0 0, .int .i64 0, .bool false, .int .i64 0, .int .i64 0, .string ⟨#[]⟩] 99)) := up_a1 X0 _
      have HB15 : Below w21.heap.size w21 (X0.alloc (.cells #[.slice none 0 0, .int .i64 0, .bool false, .int .i64 0, .int .i64 0, .string ⟨#[]⟩] 99)) := HB0.trans (up15.mono HB0.size)
      have GZ15 : (X0.alloc (.cells #[.slice none 0 0, .int .i64 0, .bool false, .int .i64 0, .int .i64 0, .string ⟨#[]⟩] 99)).heap[X0.heap.size]? = some (.cells #[.slice none 0 0, .int .i64 0, .bool false, .int .i64 0, .int .i64 0, .string ⟨#[]⟩] 99) := heap_alloc_new X0 _
      have s15 : X0.heap.size < (X0.alloc (.cells #[.slice none 0 0, .int .i64 0, .bool false, .int .i64 0, .int .i64 0, .string ⟨#[]⟩] 99)).heap.size := by simp
      refine hK.out _ _ (fun _ => HS.out _ HB15) ?_
      clear hK
      generalize (X0.alloc (.cells #[.slice none 0 0, .int .i64 0, .bool false, .int .i64 0, .int .i64 0, .string ⟨#[]⟩] 99)) = X15 at *
      have GZ15 := Lib.hid GZ15
      try simp only [Act.put, List.setIfInBounds_toArray, List.set_cons_zero, List.set_cons_succ]
      refine wpAnyT_one (k := 1) (o := _) (by kernel_rfl) rfl rfl ?_
      intro K hK
      go_simp
      refine (TC0.out X15 HB15).mono ?_
      rintro e X16 ⟨M_c210p, c210p, c210o, rfl, H_c210p, H_c210o, ma_c210p, mb_c210p, hb16⟩
      have HB16 : Below w21.heap.size w21 X16 := HB15.trans (hb16.mono HB15.size)
      have s16 := hb16.size
      refine hK.out _ _ (fun _ => HS.out _ HB16) ?_
      clear hK
      try simp only [Act.put, List.setIfInBounds_toArray, List.set_cons_zero, List.set_cons_succ]
      have GZ16 := Lib.hid ((hb16.block _ (by omega)).trans GZ15.out)
      have D_c210p_16 := H_c210p.rdP
      clear H_c210p
      obtain ⟨A_c210p, k_c210p, rfl, -, -⟩ := D_c210p_16.form
      have D_c210o_16 := H_c210o.rdI
      clear H_c210o
      obtain ⟨A_c210o, k_c210o, rfl, -, -⟩ := D_c210o_16.form
      refine wpAnyT_one (k := 3) (o := _) (by kernel_rfl) rfl rfl ?_
      intro K hK
      go_simp
      refine (TC1.out X16 HB16).mono ?_
      rintro e X17 ⟨c211l, rfl, H_c211l, hb17⟩
      have HB17 : Below w21.heap.size w21 X17 := HB16.trans (hb17.mono HB16.size)
      have s17 := hb17.size
      refine hK.out _ _ (fun _ => HS.out _ HB17) ?_
      clear hK
      try simp only [Act.put, List.setIfInBounds_toArray, List.set_cons_zero, List.set_cons_succ]
      have GZ17 := Lib.hid ((hb17.block _ (by omega)).trans GZ16.out)
      have D_c210p_17 := D_c210p_16.below hb17 (by omega)
      have D_c210o_17 := D_c210o_16.below hb17 (by omega)
      have D_c211l_17 := H_c211l.rdR
      clear H_c211l
      obtain ⟨A_c211l, k_c211l, rfl, -, -⟩ := D_c211l_17.form
      refine wpAnyT_one (k := 5) (o := _) (by kernel_rfl) rfl rfl ?_
      intro K hK
      go_simp
      refine (TC2.out X17 HB17).mono ?_
      rintro e X18 ⟨c212l, rfl, H_c212l, hb18⟩
      have HB18 : Below w21.heap.size w21 X18 := HB17.trans (hb18.mono HB17.size)
      have s18 := hb18.size
      refine hK.out _ _ (fun _ => HS.out _ HB18) ?_
      clear hK
      try simp only [Act.put, List.setIfInBounds_toArray, List.set_cons_zero, List.set_cons_succ]
      have GZ18 := Lib.hid ((hb18.block _ (by omega)).trans GZ17.out)
      have D_c210p_18 := D_c210p_17.below hb18 (by omega)
      have D_c210o_18 := D_c210o_17.below hb18 (by omega)
      have D_c211l_18 := D_c211l_17.below hb18 (by omega)
      have D_c212l_18 := H_c212l.rdR
      clear H_c212l
      obtain ⟨A_c212l, k_c212l, rfl, -, -⟩ := D_c212l_18.form
      refine wpAnyT_one (k := 6) (o := _) (by kernel_rfl) rfl rfl ?_
      intro K hK
      go_simp
      refine (impl_Joined aQ (.slice A_c210p (aQ.p.l).length k_c210p) (.slice A_c210o (aQ.out).length k_c210o) aA (.slice A_c211l (aA.rows).length k_c211l) aB (.slice A_c212l (aB.rows).length k_c212l) X18 D_c210p_18 (by omega) D_c210o_18 (by omega) D_c211l_18 (by omega) D_c212l_18 (by omega)  ⟨T_aA.1, T_aA.2.2⟩ ⟨T_aB.1, T_aB.2.2⟩).mono ?_
      rintro e X19 ⟨c213lq, rfl, H_c213lq, hb19⟩
      have HB19 : Below w21.heap.size w21 X19 := HB18.trans (hb19.mono HB18.size)
      have s19 := hb19.size
      refine hK.out _ _ (fun _ => HS.out _ HB19) ?_
      clear hK
      try simp only [Act.put, List.setIfInBounds_toArray, List.set_cons_zero, List.set_cons_succ]
      have GZ19 := Lib.hid ((hb19.block _ (by omega)).trans GZ18.out)
      have D_c213lq_19 := H_c213lq.rdR
      clear H_c213lq
      obtain ⟨A_c213lq, k_c213lq, rfl, -, -⟩ := D_c213lq_19.form
      have hch : Chg X0.heap.size (X0.heap.size + 1) X19 ((((((X19.setCell ⟨X0.heap.size, 0, none⟩ ((.slice A_c213lq ((joined aQ aA aB).rows).length k_c213lq))).setCell ⟨X0.heap.size, 1, none⟩ (.int .i64 (joined aQ aA aB).n)).setCell ⟨X0.heap.size, 2, none⟩ (.bool (joined aQ aA aB).has)).setCell ⟨X0.heap.size, 3, none⟩ (.int .i64 (joined aQ aA aB).v.ty)).setCell ⟨X0.heap.size, 4, none⟩ (.int .i64 (joined aQ aA aB).v.n)).setCell ⟨X0.heap.size, 5, none⟩ (.string (joined aQ aA aB).v.s)) := ((((((chg_set _ _ _ _).trans (chg_set _ _ _ _)).trans (chg_set _ _ _ _)).trans (chg_set _ _ _ _)).trans (chg_set _ _ _ _)).trans (chg_set _ _ _ _))
      have hsz : ((((((X19.setCell ⟨X0.heap.size, 0, none⟩ ((.slice A_c213lq ((joined aQ aA aB).rows).length k_c213lq))).setCell ⟨X0.heap.size, 1, none⟩ (.int .i64 (joined aQ aA aB).n)).setCell ⟨X0.heap.size, 2, none⟩ (.bool (joined aQ aA aB).has)).setCell ⟨X0.heap.size, 3, none⟩ (.int .i64 (joined aQ aA aB).v.ty)).setCell ⟨X0.heap.size, 4, none⟩ (.int .i64 (joined aQ aA aB).v.n)).setCell ⟨X0.heap.size, 5, none⟩ (.string (joined aQ aA aB).v.s)).heap.size = X19.heap.size := by simp [World.setCell]
      have G6 := set_six (v0 := (.slice A_c213lq ((joined aQ aA aB).rows).length k_c213lq)) (v1 := .int .i64 (joined aQ aA aB).n) (v2 := .bool (joined aQ aA aB).has) (v3 := .int .i64 (joined aQ aA aB).v.ty) (v4 := .int .i64 (joined aQ aA aB).v.n) (v5 := .string (joined aQ aA aB).v.s) GZ19.out
      have hbt : w21.heap.size ≤ X0.heap.size := by have h := HB0.size; omega
      have RR := Lib.hid (show ∃ (bw : Nat) (rv : Value) (lw hw : Nat), (Value.pointer (some ⟨X0.heap.size, 0, none⟩)) = .pointer (some ⟨bw, 0, none⟩) ∧ w21.heap.size ≤ bw ∧ bw < ((((((X19.setCell ⟨X0.heap.size, 0, none⟩ ((.slice A_c213lq ((joined aQ aA aB).rows).length k_c213lq))).setCell ⟨X0.heap.size, 1, none⟩ (.int .i64 (joined aQ aA aB).n)).setCell ⟨X0.heap.size, 2, none⟩ (.bool (joined aQ aA aB).has)).setCell ⟨X0.heap.size, 3, none⟩ (.int .i64 (joined aQ aA aB).v.ty)).setCell ⟨X0.heap.size, 4, none⟩ (.int .i64 (joined aQ aA aB).v.n)).setCell ⟨X0.heap.size, 5, none⟩ (.string (joined aQ aA aB).v.s)).heap.size ∧ ((((((X19.setCell ⟨X0.heap.size, 0, none⟩ ((.slice A_c213lq ((joined aQ aA aB).rows).length k_c213lq))).setCell ⟨X0.heap.size, 1, none⟩ (.int .i64 (joined aQ aA aB).n)).setCell ⟨X0.heap.size, 2, none⟩ (.bool (joined aQ aA aB).has)).setCell ⟨X0.heap.size, 3, none⟩ (.int .i64 (joined aQ aA aB).v.ty)).setCell ⟨X0.heap.size, 4, none⟩ (.int .i64 (joined aQ aA aB).v.n)).setCell ⟨X0.heap.size, 5, none⟩ (.string (joined aQ aA aB).v.s)).heap[bw]? = some (.cells #[rv, .int .i64 (joined aQ aA aB).n, .bool (joined aQ aA aB).has, .int .i64 (joined aQ aA aB).v.ty, .int .i64 (joined aQ aA aB).v.n, .string (joined aQ aA aB).v.s] 99) ∧ RdR ((((((X19.setCell ⟨X0.heap.size, 0, none⟩ ((.slice A_c213lq ((joined aQ aA aB).rows).length k_c213lq))).setCell ⟨X0.heap.size, 1, none⟩ (.int .i64 (joined aQ aA aB).n)).setCell ⟨X0.heap.size, 2, none⟩ (.bool (joined aQ aA aB).has)).setCell ⟨X0.heap.size, 3, none⟩ (.int .i64 (joined aQ aA aB).v.ty)).setCell ⟨X0.heap.size, 4, none⟩ (.int .i64 (joined aQ aA aB).v.n)).setCell ⟨X0.heap.size, 5, none⟩ (.string (joined aQ aA aB).v.s)) lw hw rv ((joined aQ aA aB).rows) ∧ hw ≤ ((((((X19.setCell ⟨X0.heap.size, 0, none⟩ ((.slice A_c213lq ((joined aQ aA aB).rows).length k_c213lq))).setCell ⟨X0.heap.size, 1, none⟩ (.int .i64 (joined aQ aA aB).n)).setCell ⟨X0.heap.size, 2, none⟩ (.bool (joined aQ aA aB).has)).setCell ⟨X0.heap.size, 3, none⟩ (.int .i64 (joined aQ aA aB).v.ty)).setCell ⟨X0.heap.size, 4, none⟩ (.int .i64 (joined aQ aA aB).v.n)).setCell ⟨X0.heap.size, 5, none⟩ (.string (joined aQ aA aB).v.s)).heap.size ∧ Below w21.heap.size w21 ((((((X19.setCell ⟨X0.heap.size, 0, none⟩ ((.slice A_c213lq ((joined aQ aA aB).rows).length k_c213lq))).setCell ⟨X0.heap.size, 1, none⟩ (.int .i64 (joined aQ aA aB).n)).setCell ⟨X0.heap.size, 2, none⟩ (.bool (joined aQ aA aB).has)).setCell ⟨X0.heap.size, 3, none⟩ (.int .i64 (joined aQ aA aB).v.ty)).setCell ⟨X0.heap.size, 4, none⟩ (.int .i64 (joined aQ aA aB).v.n)).setCell ⟨X0.heap.size, 5, none⟩ (.string (joined aQ aA aB).v.s)) from ⟨X0.heap.size, (.slice A_c213lq ((joined aQ aA aB).rows).length k_c213lq), _, _, rfl, hbt, by rw [hsz]; omega, G6, D_c213lq_19.same (.of_chg hch (by omega) (by omega)), by rw [hsz]; omega, HB19.trans ((hch.below (Nat.le_refl _) (by omega)).mono hbt)⟩)
      clear G6 hch hbt hsz
      have t0 := cell_of_row X19 _ 0 _ _ _ GZ19.out
      have t1 := cell_of_row X19 _ 1 _ _ _ GZ19.out
      have t2 := cell_of_row X19 _ 2 _ _ _ GZ19.out
      have t3 := cell_of_row X19 _ 3 _ _ _ GZ19.out
      have t4 := cell_of_row X19 _ 4 _ _ _ GZ19.out
      have t5 := cell_of_row X19 _ 5 _ _ _ GZ19.out
      simp only [List.getElem?_toArray, List.getElem?_cons_zero, List.getElem?_cons_succ] at t0 t1 t2 t3 t4 t5
      have ft := fun o => frozen_of_row X19 _ o _ _ GZ19.out
      refine wpAnyT_one (k := 8) (o := _) (by kernel_rfl) rfl rfl ?_
      intro K hK
      go_simp
      refine hK.out _ _ (fun h => absurd rfl h) ?_
      clear hK
      refine wpAnyT_done (by kernel_rfl) ?_ _
      go_wp2_with fail
      go_meet
      with_reducible exact RR.out
  clear HS TC0 TC1 TC2
  have X_aQ := hX_aQ.out
  have X_aA := hX_aA.out
  have X_aB := hX_aB.out
  have X_w0 := hX_w0.out
  have X_x0 := hX_x0.out
  have X_x1 := hX_x1.out
  have X_x2 := hX_x2.out
  have X_g0 := hX_g0.out
  clear hX_aQ hX_aA hX_aB hX_w0 hX_x0 hX_x1 hX_x2 hX_g0
  obtain ⟨B_h0, c213lq, L_h0, U_h0, rfl, hb1_h0, hb2_h0, GB, H_c213lq, hu_h0, hBc⟩ := hcut
  obtain ⟨w22, hw1⟩ : ∃ x, x = wc := ⟨_, rfl⟩
  subst hw1
  have b21 : Below w21.heap.size w21 w22 := hBc
  have z21 := b21.size
  replace H_aQ_p := H_aQ_p.below b21 (by omega)
  replace H_aQ_o := H_aQ_o.below b21 (by omega)
  replace H_aA_l := H_aA_l.below b21 (by omega)
  replace H_aB_l := H_aB_l.below b21 (by omega)
  replace H_c33lq := H_c33lq.below b21 (by omega)
  replace H_n5l := H_n5l.below b21 (by omega)
  replace H_n6l := H_n6l.below b21 (by omega)
  replace H_n7lq := H_n7lq.below b21 (by omega)
  replace H_r90p := H_r90p.below b21 (by omega)
  replace H_r90o := H_r90o.below b21 (by omega)
  replace H_r110l := H_r110l.below b21 (by omega)
  replace H_r130l := H_r130l.below b21 (by omega)
  replace X_aQ := box_keep X_aQ b21 (by omega)
  replace Y_aQ : w.heap.size < w22.heap.size := by omega
  replace X_aA := box_keep X_aA b21 (by omega)
  replace Y_aA : w.heap.size + 1 < w22.heap.size := by omega
  replace X_aB := box_keep X_aB b21 (by omega)
  replace Y_aB : w.heap.size + 2 < w22.heap.size := by omega
  replace X_w0 := box_keep X_w0 b21 (by omega)
  replace Y_w0 : B_w0 < w22.heap.size := by omega
  replace X_x0 := box_keep X_x0 b21 (by omega)
  replace Y_x0 : w5.heap.size < w22.heap.size := by omega
  replace X_x1 := box_keep X_x1 b21 (by omega)
  replace Y_x1 : w6.heap.size < w22.heap.size := by omega
  replace X_x2 := box_keep X_x2 b21 (by omega)
  replace Y_x2 : w7.heap.size < w22.heap.size := by omega
  replace X_g0 := box_keep X_g0 b21 (by omega)
  replace Y_g0 : w8.heap.size < w22.heap.size := by omega
  replace hB := hB.trans (b21.mono hB.size)
  clear hBc b21
  obtain ⟨A_c213lq, k_c213lq, rfl, -, -⟩ := H_c213lq.form
  have X_h0 : ∀ o, w22.cell? ⟨B_h0, o, none⟩ = (#[(.slice A_c213lq (joined aQ aA aB).rows.length k_c213lq), .int .i64 (joined aQ aA aB).n, .bool (joined aQ aA aB).has, .int .i64 (joined aQ aA aB).v.ty, .int .i64 (joined aQ aA aB).v.n, .string (joined aQ aA aB).v.s] : Array Value)[o]? := fun o => cell_of_row w22 _ o _ _ _ GB
  clear GB
  have Y_h0 : B_h0 < w22.heap.size := hb2_h0
  go_wp2_with fail
  refine (eqResult_c ((joined aQ aA aB)) (.slice A_c213lq (joined aQ aA aB).rows.length k_c213lq) ((joined aQ aA aB)) (.slice A_c33lq (joined aQ aA aB).rows.length k_c33lq) _ (H_c213lq) (by omega) (H_c33lq) (by omega)).mono ?_
  rintro e w23 ⟨rfl, hb⟩
  have b22 : Below w22.heap.size w22 w23 := hb
  have z22 := b22.size
  replace H_aQ_p := H_aQ_p.below b22 (by omega)
  replace H_aQ_o := H_aQ_o.below b22 (by omega)
  replace H_aA_l := H_aA_l.below b22 (by omega)
  replace H_aB_l := H_aB_l.below b22 (by omega)
  replace H_c33lq := H_c33lq.below b22 (by omega)
  replace H_n5l := H_n5l.below b22 (by omega)
  replace H_n6l := H_n6l.below b22 (by omega)
  replace H_n7lq := H_n7lq.below b22 (by omega)
  replace H_r90p := H_r90p.below b22 (by omega)
  replace H_r90o := H_r90o.below b22 (by omega)
  replace H_r110l := H_r110l.below b22 (by omega)
  replace H_r130l := H_r130l.below b22 (by omega)
  replace H_c213lq := H_c213lq.below b22 (by omega)
  replace X_aQ := box_keep X_aQ b22 (by omega)
  replace Y_aQ : w.heap.size < w23.heap.size := by omega
  replace X_aA := box_keep X_aA b22 (by omega)
  replace Y_aA : w.heap.size + 1 < w23.heap.size := by omega
  replace X_aB := box_keep X_aB b22 (by omega)
  replace Y_aB : w.heap.size + 2 < w23.heap.size := by omega
  replace X_w0 := box_keep X_w0 b22 (by omega)
  replace Y_w0 : B_w0 < w23.heap.size := by omega
  replace X_x0 := box_keep X_x0 b22 (by omega)
  replace Y_x0 : w5.heap.size < w23.heap.size := by omega
  replace X_x1 := box_keep X_x1 b22 (by omega)
  replace Y_x1 : w6.heap.size < w23.heap.size := by omega
  replace X_x2 := box_keep X_x2 b22 (by omega)
  replace Y_x2 : w7.heap.size < w23.heap.size := by omega
  replace X_g0 := box_keep X_g0 b22 (by omega)
  replace Y_g0 : w8.heap.size < w23.heap.size := by omega
  replace X_h0 := box_keep X_h0 b22 (by omega)
  replace Y_h0 : B_h0 < w23.heap.size := by omega
  replace hB := hB.trans (b22.mono hB.size)
  clear hb b22
  try simp only [eqd_self]
  go_wp2_with fail
  refine (heldResult_c ((joined aQ aA aB)) (.slice A_n7lq ((joined aQ aA aB).rows).length k_n7lq) 1 _ H_n7lq (by omega) (by omega) (by omega)).mono ?_
  rintro e w24 ⟨rfl, hb⟩
  have b23 : Below w23.heap.size w23 w24 := hb
  have z23 := b23.size
  replace H_aQ_p := H_aQ_p.below b23 (by omega)
  replace H_aQ_o := H_aQ_o.below b23 (by omega)
  replace H_aA_l := H_aA_l.below b23 (by omega)
  replace H_aB_l := H_aB_l.below b23 (by omega)
  replace H_c33lq := H_c33lq.below b23 (by omega)
  replace H_n5l := H_n5l.below b23 (by omega)
  replace H_n6l := H_n6l.below b23 (by omega)
  replace H_n7lq := H_n7lq.below b23 (by omega)
  replace H_r90p := H_r90p.below b23 (by omega)
  replace H_r90o := H_r90o.below b23 (by omega)
  replace H_r110l := H_r110l.below b23 (by omega)
  replace H_r130l := H_r130l.below b23 (by omega)
  replace H_c213lq := H_c213lq.below b23 (by omega)
  replace X_aQ := box_keep X_aQ b23 (by omega)
  replace Y_aQ : w.heap.size < w24.heap.size := by omega
  replace X_aA := box_keep X_aA b23 (by omega)
  replace Y_aA : w.heap.size + 1 < w24.heap.size := by omega
  replace X_aB := box_keep X_aB b23 (by omega)
  replace Y_aB : w.heap.size + 2 < w24.heap.size := by omega
  replace X_w0 := box_keep X_w0 b23 (by omega)
  replace Y_w0 : B_w0 < w24.heap.size := by omega
  replace X_x0 := box_keep X_x0 b23 (by omega)
  replace Y_x0 : w5.heap.size < w24.heap.size := by omega
  replace X_x1 := box_keep X_x1 b23 (by omega)
  replace Y_x1 : w6.heap.size < w24.heap.size := by omega
  replace X_x2 := box_keep X_x2 b23 (by omega)
  replace Y_x2 : w7.heap.size < w24.heap.size := by omega
  replace X_g0 := box_keep X_g0 b23 (by omega)
  replace Y_g0 : w8.heap.size < w24.heap.size := by omega
  replace X_h0 := box_keep X_h0 b23 (by omega)
  replace Y_h0 : B_h0 < w24.heap.size := by omega
  replace hB := hB.trans (b23.mono hB.size)
  clear hb b23
  go_wp2_with fail
  go_ret
  exact ⟨rfl, hB⟩

end Go.Proofs.Ytgjjkodlmhmjgaa
