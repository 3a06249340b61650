/- The law FnExactFindRow: its walk, out of the contracts of what it calls. -/
import Derived.Test.YtphbkghokhlnbaaS18
import Derived.Test.YtphbkghokhlnbaaLR6
namespace Go.Proofs.Ytphbkghokhlnbaa
open Go.ChangeShapes Go.WideShapes Go.ChangeAt Go.RowKit Go.Lb

set_option maxRecDepth 20000 in
set_option maxHeartbeats 4000000 in
theorem wFindRow (aL : List R) (aL_s : Value) (aId : Int) (w : World) (H_aL_s : RdR w 0 w.heap.size aL_s aL) (c0_aL : RsOk aL) :
    Calls Try.prog 11 #[aL_s, .int .i64 aId] w fun e w' => e = .returned (.bool true) ∧ Below w.heap.size w w' := by
  have C0_aL := Lib.hid c0_aL
  clear c0_aL
  have O0 := foundRow_len aL aId
  have hB : Below w.heap.size w w := Below.refl _ _
  go_enter Try.func11, Try.ntmps11
  go_wp2_with fail
  refine (szRowS_c aL aL_s 1048576 _ (H_aL_s) (by omega) C0_aL.out (by omega) (by omega)).mono ?_
  rintro e w1 ⟨rfl, hb⟩
  have b0 : Below w.heap.size w w1 := hb
  have z0 := b0.size
  replace H_aL_s := H_aL_s.below b0 (by omega)
  replace hB := hB.trans (b0.mono hB.size)
  clear hb b0
  have L0 := szRowS_le aL 1048576 (by omega) (by omega)
  have T_aL := szRowS_bd aL 1048576 (by omega) (by omega)
  generalize szRowS aL 1048576 = m0 at *
  by_cases h0 : m0 < 0
  · go_wp2_with fail
    go_ret
    exact ⟨rfl, hB⟩
  replace T_aL := T_aL h0
  go_wp2_with fail
  refine (toRowS_c aL aL_s _ (H_aL_s) (by omega) T_aL).mono ?_
  rintro e w2 ⟨n1, rfl, H_n1, hb⟩
  have b1 : Below w1.heap.size w1 w2 := hb
  have z1 := b1.size
  replace H_aL_s := H_aL_s.below b1 (by omega)
  replace hB := hB.trans (b1.mono hB.size)
  clear hb b1
  go_wp2_with fail
  refine (spec_FindRow aL n1 aId _ (H_n1.rdR) (by omega)  (by omega)).mono ?_
  rintro e w3 ⟨n2lq, rfl, H_n2lq, hb⟩
  have b2 : Below w2.heap.size w2 w3 := hb
  have z2 := b2.size
  replace H_aL_s := H_aL_s.below b2 (by omega)
  replace H_n1 := H_n1.below b2 (by omega)
  replace hB := hB.trans (b2.mono hB.size)
  clear hb b2
  obtain ⟨A_n2lq, k_n2lq, rfl, -, -⟩ := (H_n2lq.rdV).form
  go_wp2_with fail
  refine (toRowS_c aL aL_s _ (RdR.below (H_aL_s) (up_a1 w3 _ ) (by omega)) (by simp only [World.size_alloc]; omega) T_aL).mono ?_
  rintro e w4 ⟨n3, rfl, H_n3, hb⟩
  replace H_n3 := H_n3.more (lo' := w3.heap.size + 1) (by simp <;> omega) (Nat.le_refl _)
  have b3 : Below w3.heap.size w3 w4 := below_a1 hb
  have z3 : w3.heap.size + 1 ≤ w4.heap.size := by have h := hb.size; simpa [Nat.add_assoc] using h
  replace H_aL_s := H_aL_s.below b3 (by omega)
  replace H_n1 := H_n1.below b3 (by omega)
  replace H_n2lq := H_n2lq.below b3 (by omega)
  have X_w0 : ∀ o, w4.cell? ⟨w3.heap.size, o, none⟩ = (#[.int .i64 (foundRow aL aId).id, (.slice A_n2lq ((foundRow aL aId).l).length k_n2lq)] : Array Value)[o]? := by
    intro o
    have h := box_new w3 #[.int .i64 (foundRow aL aId).id, (.slice A_n2lq ((foundRow aL aId).l).length k_n2lq)] 66 o
    replace h := (hb.cell (p := ⟨_, o, none⟩) (by simp <;> omega)).trans h
    simpa [Nat.add_assoc] using h
  have Y_w0 : w3.heap.size < w4.heap.size := by omega
  replace hB := hB.trans (b3.mono hB.size)
  clear hb b3
  go_wp2_with fail
  refine (impl_FindRow aL n3 aId _ (H_n3.rdR) (by omega)  (by omega)).mono ?_
  rintro e w5 ⟨n4lq, rfl, H_n4lq, hb⟩
  have b4 : Below w4.heap.size w4 w5 := hb
  have z4 := b4.size
  replace H_aL_s := H_aL_s.below b4 (by omega)
  replace H_n1 := H_n1.below b4 (by omega)
  replace H_n2lq := H_n2lq.below b4 (by omega)
  replace H_n3 := H_n3.below b4 (by omega)
  replace X_w0 := box_keep X_w0 b4 (by omega)
  replace Y_w0 : w3.heap.size < w5.heap.size := by omega
  replace hB := hB.trans (b4.mono hB.size)
  clear hb b4
  obtain ⟨A_n4lq, k_n4lq, rfl, -, -⟩ := (H_n4lq.rdV).form
  go_wp2_with fail
  refine (eqRow_c ((foundRow aL aId)) (.slice A_n4lq ((foundRow aL aId).l).length k_n4lq) ((foundRow aL aId)) (.slice A_n2lq ((foundRow aL aId).l).length k_n2lq) _ (RdV.below (H_n4lq.rdV) (up_a1 w5 _ ) (by omega)) (by simp only [World.size_alloc]; omega) (RdV.below (H_n2lq.rdV) (up_a1 w5 _ ) (by omega)) (by simp only [World.size_alloc]; omega)).mono ?_
  rintro e w6 ⟨rfl, hb⟩
  have b5 : Below w5.heap.size w5 w6 := below_a1 hb
  have z5 : w5.heap.size + 1 ≤ w6.heap.size := by have h := hb.size; simpa [Nat.add_assoc] using h
  replace H_aL_s := H_aL_s.below b5 (by omega)
  replace H_n1 := H_n1.below b5 (by omega)
  replace H_n2lq := H_n2lq.below b5 (by omega)
  replace H_n3 := H_n3.below b5 (by omega)
  replace H_n4lq := H_n4lq.below b5 (by omega)
  replace X_w0 := box_keep X_w0 b5 (by omega)
  replace Y_w0 : w3.heap.size < w6.heap.size := by omega
  have X_g0 : ∀ o, w6.cell? ⟨w5.heap.size, o, none⟩ = (#[.int .i64 (foundRow aL aId).id, (.slice A_n4lq ((foundRow aL aId).l).length k_n4lq)] : Array Value)[o]? := by
    intro o
    have h := box_new w5 #[.int .i64 (foundRow aL aId).id, (.slice A_n4lq ((foundRow aL aId).l).length k_n4lq)] 66 o
    replace h := (hb.cell (p := ⟨_, o, none⟩) (by simp <;> omega)).trans h
    simpa [Nat.add_assoc] using h
  have Y_g0 : w5.heap.size < w6.heap.size := by omega
  replace hB := hB.trans (b5.mono hB.size)
  clear hb b5
  simp only [eqd_self]
  go_wp2_with fail
  refine (toRowS_c aL aL_s _ (H_aL_s) (by omega) T_aL).mono ?_
  rintro e w7 ⟨n6, rfl, H_n6, hb⟩
  have b6 : Below w6.heap.size w6 w7 := hb
  have z6 := b6.size
  replace H_aL_s := H_aL_s.below b6 (by omega)
  replace H_n1 := H_n1.below b6 (by omega)
  replace H_n2lq := H_n2lq.below b6 (by omega)
  replace H_n3 := H_n3.below b6 (by omega)
  replace H_n4lq := H_n4lq.below b6 (by omega)
  replace X_w0 := box_keep X_w0 b6 (by omega)
  replace Y_w0 : w3.heap.size < w7.heap.size := by omega
  replace X_g0 := box_keep X_g0 b6 (by omega)
  replace Y_g0 : w5.heap.size < w7.heap.size := by omega
  replace hB := hB.trans (b6.mono hB.size)
  clear hb b6
  go_wp2_with fail
  refine (eqRowS_c aL n3 aL n6 _ (H_n3.rdR) (by omega) (H_n6.rdR) (by omega)).mono ?_
  rintro e w8 ⟨rfl, hb⟩
  have b7 : Below w7.heap.size w7 w8 := hb
  have z7 := b7.size
  replace H_aL_s := H_aL_s.below b7 (by omega)
  replace H_n1 := H_n1.below b7 (by omega)
  replace H_n2lq := H_n2lq.below b7 (by omega)
  replace H_n3 := H_n3.below b7 (by omega)
  replace H_n4lq := H_n4lq.below b7 (by omega)
  replace H_n6 := H_n6.below b7 (by omega)
  replace X_w0 := box_keep X_w0 b7 (by omega)
  replace Y_w0 : w3.heap.size < w8.heap.size := by omega
  replace X_g0 := box_keep X_g0 b7 (by omega)
  replace Y_g0 : w5.heap.size < w8.heap.size := by omega
  replace hB := hB.trans (b7.mono hB.size)
  clear hb b7
  simp only [eqd_self]
  go_wp2_with fail
  refine (markRowS_c n3 aL 1 _ H_n3 (by omega) (by omega)).mono ?_
  rintro e w9 ⟨rfl, H_n3m, hb⟩
  clear H_n3
  have z8 := hb.size
  replace H_aL_s := H_aL_s.same (.of_chg hb (by omega) (by omega))
  replace H_n1 := H_n1.same (.of_chg hb (by omega) (by omega))
  replace H_n2lq := H_n2lq.same (.of_chg hb (by omega) (by omega))
  replace H_n4lq := H_n4lq.same (.of_chg hb (by omega) (by omega))
  replace H_n6 := H_n6.same (.of_chg hb (by omega) (by omega))
  replace X_w0 := box_chg X_w0 hb (by omega) (by omega)
  replace Y_w0 : w3.heap.size < w9.heap.size := by omega
  replace X_g0 := box_chg X_g0 hb (by omega) (by omega)
  replace Y_g0 : w5.heap.size < w9.heap.size := by omega
  replace hB := hB.trans (hb.below (by omega) (by omega))
  clear hb
  have H_n3 := H_n3m
  clear H_n3m
  go_wp2_with fail
  refine (eqRow_c ((foundRow aL aId)) (.slice A_n4lq ((foundRow aL aId).l).length k_n4lq) ((foundRow aL aId)) (.slice A_n2lq ((foundRow aL aId).l).length k_n2lq) _ (H_n4lq.rdV) (by omega) (H_n2lq.rdV) (by omega)).mono ?_
  rintro e w10 ⟨rfl, hb⟩
  have b9 : Below w9.heap.size w9 w10 := hb
  have z9 := b9.size
  replace H_aL_s := H_aL_s.below b9 (by omega)
  replace H_n1 := H_n1.below b9 (by omega)
  replace H_n2lq := H_n2lq.below b9 (by omega)
  replace H_n3 := H_n3.below b9 (by omega)
  replace H_n4lq := H_n4lq.below b9 (by omega)
  replace H_n6 := H_n6.below b9 (by omega)
  replace X_w0 := box_keep X_w0 b9 (by omega)
  replace Y_w0 : w3.heap.size < w10.heap.size := by omega
  replace X_g0 := box_keep X_g0 b9 (by omega)
  replace Y_g0 : w5.heap.size < w10.heap.size := by omega
  replace hB := hB.trans (b9.mono hB.size)
  clear hb b9
  simp only [eqd_self]
  go_wp2_with fail
  refine (markRow_c ((foundRow aL aId)) (.slice A_n4lq ((foundRow aL aId).l).length k_n4lq) 1 _ H_n4lq (by omega) (by omega) (by omega)).mono ?_
  rintro e w11 ⟨rfl, H_n4lqm, hb⟩
  clear H_n4lq
  have z10 := hb.size
  replace H_aL_s := H_aL_s.same (.of_chg hb (by omega) (by omega))
  replace H_n1 := H_n1.same (.of_chg hb (by omega) (by omega))
  replace H_n2lq := H_n2lq.same (.of_chg hb (by omega) (by omega))
  replace H_n3 := H_n3.same (.of_chg hb (by omega) (by omega))
  replace H_n6 := H_n6.same (.of_chg hb (by omega) (by omega))
  replace X_w0 := box_chg X_w0 hb (by omega) (by omega)
  replace Y_w0 : w3.heap.size < w11.heap.size := by omega
  replace X_g0 := box_chg X_g0 hb (by omega) (by omega)
  replace Y_g0 : w5.heap.size < w11.heap.size := by omega
  replace hB := hB.trans (hb.below (by omega) (by omega))
  clear hb
  have H_n4lq := H_n4lqm
  clear H_n4lqm
  go_wp2_with fail
  refine (heldRow_c ((foundRow aL aId)) (.slice A_n4lq ((foundRow aL aId).l).length k_n4lq) 1 _ H_n4lq (by omega) (by omega) (by omega)).mono ?_
  rintro e w12 ⟨rfl, hb⟩
  have b11 : Below w11.heap.size w11 w12 := hb
  have z11 := b11.size
  replace H_aL_s := H_aL_s.below b11 (by omega)
  replace H_n1 := H_n1.below b11 (by omega)
  replace H_n2lq := H_n2lq.below b11 (by omega)
  replace H_n3 := H_n3.below b11 (by omega)
  replace H_n4lq := H_n4lq.below b11 (by omega)
  replace H_n6 := H_n6.below b11 (by omega)
  replace X_w0 := box_keep X_w0 b11 (by omega)
  replace Y_w0 : w3.heap.size < w12.heap.size := by omega
  replace X_g0 := box_keep X_g0 b11 (by omega)
  replace Y_g0 : w5.heap.size < w12.heap.size := by omega
  replace hB := hB.trans (b11.mono hB.size)
  clear hb b11
  go_wp2_with fail
  refine (toRowS_c aL aL_s _ (H_aL_s) (by omega) T_aL).mono ?_
  rintro e w13 ⟨n12, rfl, H_n12, hb⟩
  have b12 : Below w12.heap.size w12 w13 := hb
  have z12 := b12.size
  replace H_aL_s := H_aL_s.below b12 (by omega)
  replace H_n1 := H_n1.below b12 (by omega)
  replace H_n2lq := H_n2lq.below b12 (by omega)
  replace H_n3 := H_n3.below b12 (by omega)
  replace H_n4lq := H_n4lq.below b12 (by omega)
  replace H_n6 := H_n6.below b12 (by omega)
  replace X_w0 := box_keep X_w0 b12 (by omega)
  replace Y_w0 : w3.heap.size < w13.heap.size := by omega
  replace X_g0 := box_keep X_g0 b12 (by omega)
  replace Y_g0 : w5.heap.size < w13.heap.size := by omega
  replace hB := hB.trans (b12.mono hB.size)
  clear hb b12
  go_wp2_with fail
  refine (impl_FindRow aL n12 aId _ (H_n12.rdR) (by omega)  (by omega)).mono ?_
  rintro e w14 ⟨n13lq, rfl, H_n13lq, hb⟩
  have b13 : Below w13.heap.size w13 w14 := hb
  have z13 := b13.size
  replace H_aL_s := H_aL_s.below b13 (by omega)
  replace H_n1 := H_n1.below b13 (by omega)
  replace H_n2lq := H_n2lq.below b13 (by omega)
  replace H_n3 := H_n3.below b13 (by omega)
  replace H_n4lq := H_n4lq.below b13 (by omega)
  replace H_n6 := H_n6.below b13 (by omega)
  replace H_n12 := H_n12.below b13 (by omega)
  replace X_w0 := box_keep X_w0 b13 (by omega)
  replace Y_w0 : w3.heap.size < w14.heap.size := by omega
  replace X_g0 := box_keep X_g0 b13 (by omega)
  replace Y_g0 : w5.heap.size < w14.heap.size := by omega
  replace hB := hB.trans (b13.mono hB.size)
  clear hb b13
  obtain ⟨A_n13lq, k_n13lq, rfl, -, -⟩ := (H_n13lq.rdV).form
  go_wp2_with fail
  refine (eqRow_c ((foundRow aL aId)) (.slice A_n13lq ((foundRow aL aId).l).length k_n13lq) ((foundRow aL aId)) (.slice A_n2lq ((foundRow aL aId).l).length k_n2lq) _ (RdV.below (H_n13lq.rdV) (up_a1 w14 _ ) (by omega)) (by simp only [World.size_alloc]; omega) (RdV.below (H_n2lq.rdV) (up_a1 w14 _ ) (by omega)) (by simp only [World.size_alloc]; omega)).mono ?_
  rintro e w15 ⟨rfl, hb⟩
  have b14 : Below w14.heap.size w14 w15 := below_a1 hb
  have z14 : w14.heap.size + 1 ≤ w15.heap.size := by have h := hb.size; simpa [Nat.add_assoc] using h
  replace H_aL_s := H_aL_s.below b14 (by omega)
  replace H_n1 := H_n1.below b14 (by omega)
  replace H_n2lq := H_n2lq.below b14 (by omega)
  replace H_n3 := H_n3.below b14 (by omega)
  replace H_n4lq := H_n4lq.below b14 (by omega)
  replace H_n6 := H_n6.below b14 (by omega)
  replace H_n12 := H_n12.below b14 (by omega)
  replace H_n13lq := H_n13lq.below b14 (by omega)
  replace X_w0 := box_keep X_w0 b14 (by omega)
  replace Y_w0 : w3.heap.size < w15.heap.size := by omega
  replace X_g0 := box_keep X_g0 b14 (by omega)
  replace Y_g0 : w5.heap.size < w15.heap.size := by omega
  have X_h0 : ∀ o, w15.cell? ⟨w14.heap.size, o, none⟩ = (#[.int .i64 (foundRow aL aId).id, (.slice A_n13lq ((foundRow aL aId).l).length k_n13lq)] : Array Value)[o]? := by
    intro o
    have h := box_new w14 #[.int .i64 (foundRow aL aId).id, (.slice A_n13lq ((foundRow aL aId).l).length k_n13lq)] 66 o
    replace h := (hb.cell (p := ⟨_, o, none⟩) (by simp <;> omega)).trans h
    simpa [Nat.add_assoc] using h
  have Y_h0 : w14.heap.size < w15.heap.size := by omega
  replace hB := hB.trans (b14.mono hB.size)
  clear hb b14
  simp only [eqd_self]
  go_wp2_with fail
  refine (heldRow_c ((foundRow aL aId)) (.slice A_n4lq ((foundRow aL aId).l).length k_n4lq) 1 _ H_n4lq (by omega) (by omega) (by omega)).mono ?_
  rintro e w16 ⟨rfl, hb⟩
  have b15 : Below w15.heap.size w15 w16 := hb
  have z15 := b15.size
  replace H_aL_s := H_aL_s.below b15 (by omega)
  replace H_n1 := H_n1.below b15 (by omega)
  replace H_n2lq := H_n2lq.below b15 (by omega)
  replace H_n3 := H_n3.below b15 (by omega)
  replace H_n4lq := H_n4lq.below b15 (by omega)
  replace H_n6 := H_n6.below b15 (by omega)
  replace H_n12 := H_n12.below b15 (by omega)
  replace H_n13lq := H_n13lq.below b15 (by omega)
  replace X_w0 := box_keep X_w0 b15 (by omega)
  replace Y_w0 : w3.heap.size < w16.heap.size := by omega
  replace X_g0 := box_keep X_g0 b15 (by omega)
  replace Y_g0 : w5.heap.size < w16.heap.size := by omega
  replace X_h0 := box_keep X_h0 b15 (by omega)
  replace Y_h0 : w14.heap.size < w16.heap.size := by omega
  replace hB := hB.trans (b15.mono hB.size)
  clear hb b15
  go_wp2_with fail
  go_ret
  exact ⟨rfl, hB⟩

end Go.Proofs.Ytphbkghokhlnbaa
