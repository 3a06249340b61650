/- The law FnExactParsePred: its walk, out of the contracts of what it calls. -/
import Derived.Test.YtjogkbkkcaljhaaGreatDoorZT
import Derived.Test.YtjogkbkkcaljhaaGreatDoorLP5
import Derived.Test.YtjogkbkkcaljhaaGreatDoorXI
namespace Go.Proofs.YtjogkbkkcaljhaaGreatDoor
open Go.Sort Go.ChangeShapes Go.WideShapes Go.ChangeAt Go.RowKit Go.Lb

set_option maxRecDepth 20000 in
set_option maxHeartbeats 16000000 in
theorem wParsePred (aCols : List Int) (aCols_s : Value) (aS : ByteArray) (w : World) (H_aCols_s : RdI w 0 w.heap.size aCols_s aCols) (_c0_aS : aS.size ≤ maxLen) (htEnv : EnvP w) :
    Calls Tryz.prog 3 #[aCols_s, .string aS] w fun e w' => e = .returned (.bool true) ∧ Below w.heap.size w w' := by
  have he := Lib.hid htEnv
  have H0 := Lib.hid H_aCols_s
  have HB := Lib.hid (Below.refl w.heap.size w)
  clear htEnv H_aCols_s
  obtain ⟨Ac, cc, rfl, -, -⟩ := H0.out.form
  by_cases hcl : aCols.length ≤ 1048576
  case neg =>
    have hd : decide ((1048576 : Int) < (aCols.length : Int)) = true := decide_eq_true (by omega)
    go_enter Tryz.func3, Tryz.ntmps3
    go_wp2_with fail
    go_ret
    exact ⟨rfl, HB.out⟩
  by_cases hsl : aS.size ≤ 1048576
  case neg =>
    have hd : decide ((1048576 : Int) < (aCols.length : Int)) = false := decide_eq_false (by omega)
    have hd2 : decide ((1048576 : Int) < (aS.size : Int)) = true := decide_eq_true (by omega)
    go_enter Tryz.func3, Tryz.ntmps3
    go_wp2_with fail
    go_ret
    exact ⟨rfl, HB.out⟩
  have hd : decide ((1048576 : Int) < (aCols.length : Int)) = false := decide_eq_false (by omega)
  have hd2 : decide ((1048576 : Int) < (aS.size : Int)) = false := decide_eq_false (by omega)
  go_enter Tryz.func3, Tryz.ntmps3
  go_wp2_with fail
  refine (toIntS_c aCols _ w H0.out (by omega) hcl).mono ?_
  rintro e w1 ⟨v1, rfl, ho, hb⟩
  have hz_w1 := hb.size
  have H0_ := Lib.hid (H0.out.below hb (by omega))
  clear H0
  have H0 := H0_
  clear H0_
  have HB_ := Lib.hid (HB.out.trans (hb.mono HB.out.size))
  clear HB
  have HB := HB_
  clear HB_
  have O1 := Lib.hid ho
  clear ho hb
  obtain ⟨A_v1, c_v1, rfl, -, -⟩ := O1.out.rdI.form
  go_wp2_with fail
  refine (spec_ParsePred aCols _ aS w1 O1.out.rdI (by omega) hsl (he.out.below HB.out)).mono ?_
  rintro e w2 ⟨p, sv, ok, rfl, hop, HP, hb⟩
  have hz_w2 := hb.size
  have H0_ := Lib.hid (H0.out.below hb (by omega))
  clear H0
  have H0 := H0_
  clear H0_
  have O1_ := Lib.hid (O1.out.below hb (by omega))
  clear O1
  have O1 := O1_
  clear O1_
  have HB_ := Lib.hid (HB.out.trans (hb.mono HB.out.size))
  clear HB
  have HB := HB_
  clear HB_
  have HP0 := HP
  clear HP
  obtain ⟨A_sv, c_sv, rfl, -, -⟩ := hop.rdP.form
  have S_sv := Lib.hid hop
  clear hop hb
  have up := up_a1 w2 (.cells #[.int .i64 p.kind, .int .i64 p.col, .int .i64 p.op, .int .i64 p.v.ty, .int .i64 p.v.n, .string p.v.s, .slice A_sv p.l.length c_sv] 27)
  have gx := heap_alloc_new w2 (.cells #[.int .i64 p.kind, .int .i64 p.col, .int .i64 p.op, .int .i64 p.v.ty, .int .i64 p.v.n, .string p.v.s, .slice A_sv p.l.length c_sv] 27)
  have hs_X2 : (w2.alloc (.cells #[.int .i64 p.kind, .int .i64 p.col, .int .i64 p.op, .int .i64 p.v.ty, .int .i64 p.v.n, .string p.v.s, .slice A_sv p.l.length c_sv] 27)).heap.size = w2.heap.size + 1 := by simp
  obtain ⟨X2, hX2⟩ : ∃ X2, (w2.alloc (.cells #[.int .i64 p.kind, .int .i64 p.col, .int .i64 p.op, .int .i64 p.v.ty, .int .i64 p.v.n, .string p.v.s, .slice A_sv p.l.length c_sv] 27)) = X2 := ⟨_, rfl⟩
  rw [hX2] at up gx hs_X2
  have HX2 := Lib.hid hX2
  clear hX2
  have hz_X2 := up.size
  have H0_ := Lib.hid (H0.out.below up (by omega))
  clear H0
  have H0 := H0_
  clear H0_
  have O1_ := Lib.hid (O1.out.below up (by omega))
  clear O1
  have O1 := O1_
  clear O1_
  have S_sv_ := Lib.hid (S_sv.out.below up (by omega))
  clear S_sv
  have S_sv := S_sv_
  clear S_sv_
  have HB_ := Lib.hid (HB.out.trans (up.mono HB.out.size))
  clear HB
  have HB := HB_
  clear HB_
  have G_sv := Lib.hid gx
  clear gx up
  go_upto_region 6 with fail
  rw [HX2.out]
  clear HX2
  go_wp2_with fail
  refine (toIntS_c aCols _ X2 H0.out (by omega) hcl).mono ?_
  rintro e w3 ⟨v2, rfl, ho, hb⟩
  have hz_w3 := hb.size
  have H0_ := Lib.hid (H0.out.below hb (by omega))
  clear H0
  have H0 := H0_
  clear H0_
  have O1_ := Lib.hid (O1.out.below hb (by omega))
  clear O1
  have O1 := O1_
  clear O1_
  have S_sv_ := Lib.hid (S_sv.out.below hb (by omega))
  clear S_sv
  have S_sv := S_sv_
  clear S_sv_
  have G_sv_ := Lib.hid ((hb.block (w2.heap.size) (by omega)).trans G_sv.out)
  clear G_sv
  have G_sv := G_sv_
  clear G_sv_
  have HB_ := Lib.hid (HB.out.trans (hb.mono HB.out.size))
  clear HB
  have HB := HB_
  clear HB_
  have O2 := Lib.hid ho
  clear ho hb
  obtain ⟨A_v2, c_v2, rfl, -, -⟩ := O2.out.rdI.form
  go_wp2_with fail
  refine (impl_ParsePred aCols _ aS w3 O2.out.rdI (by omega) hcl hsl (he.out.below HB.out)).mono ?_
  rintro e w4 ⟨q, sq, ok2, rfl, hop, HP, hb⟩
  have hz_w4 := hb.size
  have H0_ := Lib.hid (H0.out.below hb (by omega))
  clear H0
  have H0 := H0_
  clear H0_
  have O1_ := Lib.hid (O1.out.below hb (by omega))
  clear O1
  have O1 := O1_
  clear O1_
  have S_sv_ := Lib.hid (S_sv.out.below hb (by omega))
  clear S_sv
  have S_sv := S_sv_
  clear S_sv_
  have G_sv_ := Lib.hid ((hb.block (w2.heap.size) (by omega)).trans G_sv.out)
  clear G_sv
  have G_sv := G_sv_
  clear G_sv_
  have O2_ := Lib.hid (O2.out.below hb (by omega))
  clear O2
  have O2 := O2_
  clear O2_
  have HB_ := Lib.hid (HB.out.trans (hb.mono HB.out.size))
  clear HB
  have HB := HB_
  clear HB_
  obtain ⟨h1, h2⟩ := HP0.out.1.one HP.out.1
  subst h1 h2
  clear HP
  obtain ⟨A_sq, c_sq, rfl, -, -⟩ := hop.rdP.form
  have S_sq := Lib.hid hop
  clear hop hb
  have up := up_a1 w4 (.cells #[.int .i64 p.kind, .int .i64 p.col, .int .i64 p.op, .int .i64 p.v.ty, .int .i64 p.v.n, .string p.v.s, .slice A_sq p.l.length c_sq] 27)
  have gx := heap_alloc_new w4 (.cells #[.int .i64 p.kind, .int .i64 p.col, .int .i64 p.op, .int .i64 p.v.ty, .int .i64 p.v.n, .string p.v.s, .slice A_sq p.l.length c_sq] 27)
  have hs_X4 : (w4.alloc (.cells #[.int .i64 p.kind, .int .i64 p.col, .int .i64 p.op, .int .i64 p.v.ty, .int .i64 p.v.n, .string p.v.s, .slice A_sq p.l.length c_sq] 27)).heap.size = w4.heap.size + 1 := by simp
  obtain ⟨X4, hX4⟩ : ∃ X4, (w4.alloc (.cells #[.int .i64 p.kind, .int .i64 p.col, .int .i64 p.op, .int .i64 p.v.ty, .int .i64 p.v.n, .string p.v.s, .slice A_sq p.l.length c_sq] 27)) = X4 := ⟨_, rfl⟩
  rw [hX4] at up gx hs_X4
  have HX4 := Lib.hid hX4
  clear hX4
  have hz_X4 := up.size
  have H0_ := Lib.hid (H0.out.below up (by omega))
  clear H0
  have H0 := H0_
  clear H0_
  have O1_ := Lib.hid (O1.out.below up (by omega))
  clear O1
  have O1 := O1_
  clear O1_
  have S_sv_ := Lib.hid (S_sv.out.below up (by omega))
  clear S_sv
  have S_sv := S_sv_
  clear S_sv_
  have G_sv_ := Lib.hid ((up.block (w2.heap.size) (by omega)).trans G_sv.out)
  clear G_sv
  have G_sv := G_sv_
  clear G_sv_
  have O2_ := Lib.hid (O2.out.below up (by omega))
  clear O2
  have O2 := O2_
  clear O2_
  have S_sq_ := Lib.hid (S_sq.out.below up (by omega))
  clear S_sq
  have S_sq := S_sq_
  clear S_sq_
  have HB_ := Lib.hid (HB.out.trans (up.mono HB.out.size))
  clear HB
  have HB := HB_
  clear HB_
  have G_sq := Lib.hid gx
  clear gx up
  go_upto_region 8 with fail
  rw [HX4.out]
  clear HX4
  have q0 := cell_of_row X4 (w4.heap.size) 0 _ _ _ G_sq.out
  have q1 := cell_of_row X4 (w4.heap.size) 1 _ _ _ G_sq.out
  have q2 := cell_of_row X4 (w4.heap.size) 2 _ _ _ G_sq.out
  have q3 := cell_of_row X4 (w4.heap.size) 3 _ _ _ G_sq.out
  have q4 := cell_of_row X4 (w4.heap.size) 4 _ _ _ G_sq.out
  have q5 := cell_of_row X4 (w4.heap.size) 5 _ _ _ G_sq.out
  have q6 := cell_of_row X4 (w4.heap.size) 6 _ _ _ G_sq.out
  simp only [List.getElem?_toArray, List.getElem?_cons_zero, List.getElem?_cons_succ] at q0 q1 q2 q3 q4 q5 q6
  have r0 := cell_of_row X4 (w2.heap.size) 0 _ _ _ G_sv.out
  have r1 := cell_of_row X4 (w2.heap.size) 1 _ _ _ G_sv.out
  have r2 := cell_of_row X4 (w2.heap.size) 2 _ _ _ G_sv.out
  have r3 := cell_of_row X4 (w2.heap.size) 3 _ _ _ G_sv.out
  have r4 := cell_of_row X4 (w2.heap.size) 4 _ _ _ G_sv.out
  have r5 := cell_of_row X4 (w2.heap.size) 5 _ _ _ G_sv.out
  have r6 := cell_of_row X4 (w2.heap.size) 6 _ _ _ G_sv.out
  simp only [List.getElem?_toArray, List.getElem?_cons_zero, List.getElem?_cons_succ] at r0 r1 r2 r3 r4 r5 r6
  go_wp2_with fail
  refine (eqPred_c p _ p _ X4 S_sq.out.rdP (by omega) S_sv.out.rdP (by omega)).mono ?_
  rintro e w5 ⟨rfl, hb⟩
  clear q0 q1 q2 q3 q4 q5 q6 r0 r1 r2 r3 r4 r5 r6
  have hz_w5 := hb.size
  have H0_ := Lib.hid (H0.out.below hb (by omega))
  clear H0
  have H0 := H0_
  clear H0_
  have O1_ := Lib.hid (O1.out.below hb (by omega))
  clear O1
  have O1 := O1_
  clear O1_
  have S_sv_ := Lib.hid (S_sv.out.below hb (by omega))
  clear S_sv
  have S_sv := S_sv_
  clear S_sv_
  have G_sv_ := Lib.hid ((hb.block (w2.heap.size) (by omega)).trans G_sv.out)
  clear G_sv
  have G_sv := G_sv_
  clear G_sv_
  have O2_ := Lib.hid (O2.out.below hb (by omega))
  clear O2
  have O2 := O2_
  clear O2_
  have S_sq_ := Lib.hid (S_sq.out.below hb (by omega))
  clear S_sq
  have S_sq := S_sq_
  clear S_sq_
  have G_sq_ := Lib.hid ((hb.block (w4.heap.size) (by omega)).trans G_sq.out)
  clear G_sq
  have G_sq := G_sq_
  clear G_sq_
  have HB_ := Lib.hid (HB.out.trans (hb.mono HB.out.size))
  clear HB
  have HB := HB_
  clear HB_
  clear hb
  go_wp2_with fail
  refine (toIntS_c aCols _ w5 H0.out (by omega) hcl).mono ?_
  rintro e w6 ⟨v3, rfl, ho, hb⟩
  have hz_w6 := hb.size
  have H0_ := Lib.hid (H0.out.below hb (by omega))
  clear H0
  have H0 := H0_
  clear H0_
  have O1_ := Lib.hid (O1.out.below hb (by omega))
  clear O1
  have O1 := O1_
  clear O1_
  have S_sv_ := Lib.hid (S_sv.out.below hb (by omega))
  clear S_sv
  have S_sv := S_sv_
  clear S_sv_
  have G_sv_ := Lib.hid ((hb.block (w2.heap.size) (by omega)).trans G_sv.out)
  clear G_sv
  have G_sv := G_sv_
  clear G_sv_
  have O2_ := Lib.hid (O2.out.below hb (by omega))
  clear O2
  have O2 := O2_
  clear O2_
  have S_sq_ := Lib.hid (S_sq.out.below hb (by omega))
  clear S_sq
  have S_sq := S_sq_
  clear S_sq_
  have G_sq_ := Lib.hid ((hb.block (w4.heap.size) (by omega)).trans G_sq.out)
  clear G_sq
  have G_sq := G_sq_
  clear G_sq_
  have HB_ := Lib.hid (HB.out.trans (hb.mono HB.out.size))
  clear HB
  have HB := HB_
  clear HB_
  have O3 := Lib.hid ho
  clear ho hb
  obtain ⟨A_v3, c_v3, rfl, -, -⟩ := O3.out.rdI.form
  go_wp2_with fail
  refine (eqIntS_c aCols _ aCols _ w6 O2.out.rdI (by omega) O3.out.rdI (by omega)).mono ?_
  rintro e w7 ⟨rfl, hb⟩
  rw [eqd_self]
  have hz_w7 := hb.size
  have H0_ := Lib.hid (H0.out.below hb (by omega))
  clear H0
  have H0 := H0_
  clear H0_
  have O1_ := Lib.hid (O1.out.below hb (by omega))
  clear O1
  have O1 := O1_
  clear O1_
  have S_sv_ := Lib.hid (S_sv.out.below hb (by omega))
  clear S_sv
  have S_sv := S_sv_
  clear S_sv_
  have G_sv_ := Lib.hid ((hb.block (w2.heap.size) (by omega)).trans G_sv.out)
  clear G_sv
  have G_sv := G_sv_
  clear G_sv_
  have O2_ := Lib.hid (O2.out.below hb (by omega))
  clear O2
  have O2 := O2_
  clear O2_
  have S_sq_ := Lib.hid (S_sq.out.below hb (by omega))
  clear S_sq
  have S_sq := S_sq_
  clear S_sq_
  have G_sq_ := Lib.hid ((hb.block (w4.heap.size) (by omega)).trans G_sq.out)
  clear G_sq
  have G_sq := G_sq_
  clear G_sq_
  have O3_ := Lib.hid (O3.out.below hb (by omega))
  clear O3
  have O3 := O3_
  clear O3_
  have HB_ := Lib.hid (HB.out.trans (hb.mono HB.out.size))
  clear HB
  have HB := HB_
  clear HB_
  clear hb
  go_wp2_with fail
  refine (markIntS_c _ aCols 1 w7 O2.out (by decide) (by omega)).mono ?_
  rintro e w8 ⟨rfl, -, hc⟩
  have hz_w8 := hc.size
  have H0_ := Lib.hid (H0.out.same (.of_chg hc (by omega) (by omega)))
  clear H0
  have H0 := H0_
  clear H0_
  have O1_ := Lib.hid (O1.out.same (.of_chg hc (by omega) (by omega)))
  clear O1
  have O1 := O1_
  clear O1_
  have S_sv_ := Lib.hid (S_sv.out.same (.of_chg hc (by omega) (by omega)))
  clear S_sv
  have S_sv := S_sv_
  clear S_sv_
  have G_sv_ := Lib.hid ((hc.block (w2.heap.size) (by omega) (by omega)).trans G_sv.out)
  clear G_sv
  have G_sv := G_sv_
  clear G_sv_
  have S_sq_ := Lib.hid (S_sq.out.same (.of_chg hc (by omega) (by omega)))
  clear S_sq
  have S_sq := S_sq_
  clear S_sq_
  have G_sq_ := Lib.hid ((hc.block (w4.heap.size) (by omega) (by omega)).trans G_sq.out)
  clear G_sq
  have G_sq := G_sq_
  clear G_sq_
  have O3_ := Lib.hid (O3.out.same (.of_chg hc (by omega) (by omega)))
  clear O3
  have O3 := O3_
  clear O3_
  have HB_ := Lib.hid (HB.out.trans (hc.below (by omega) (by omega)))
  clear HB
  have HB := HB_
  clear HB_
  clear hc O2
  have hk0 : ¬ ((1 : Int) + (aCols.length : Int) < 0) := by omega
  have q0 := cell_of_row w8 (w4.heap.size) 0 _ _ _ G_sq.out
  have q1 := cell_of_row w8 (w4.heap.size) 1 _ _ _ G_sq.out
  have q2 := cell_of_row w8 (w4.heap.size) 2 _ _ _ G_sq.out
  have q3 := cell_of_row w8 (w4.heap.size) 3 _ _ _ G_sq.out
  have q4 := cell_of_row w8 (w4.heap.size) 4 _ _ _ G_sq.out
  have q5 := cell_of_row w8 (w4.heap.size) 5 _ _ _ G_sq.out
  have q6 := cell_of_row w8 (w4.heap.size) 6 _ _ _ G_sq.out
  simp only [List.getElem?_toArray, List.getElem?_cons_zero, List.getElem?_cons_succ] at q0 q1 q2 q3 q4 q5 q6
  have r0 := cell_of_row w8 (w2.heap.size) 0 _ _ _ G_sv.out
  have r1 := cell_of_row w8 (w2.heap.size) 1 _ _ _ G_sv.out
  have r2 := cell_of_row w8 (w2.heap.size) 2 _ _ _ G_sv.out
  have r3 := cell_of_row w8 (w2.heap.size) 3 _ _ _ G_sv.out
  have r4 := cell_of_row w8 (w2.heap.size) 4 _ _ _ G_sv.out
  have r5 := cell_of_row w8 (w2.heap.size) 5 _ _ _ G_sv.out
  have r6 := cell_of_row w8 (w2.heap.size) 6 _ _ _ G_sv.out
  simp only [List.getElem?_toArray, List.getElem?_cons_zero, List.getElem?_cons_succ] at r0 r1 r2 r3 r4 r5 r6
  go_wp2_with fail
  refine (eqPred_c p _ p _ w8 S_sq.out.rdP (by omega) S_sv.out.rdP (by omega)).mono ?_
  rintro e w9 ⟨rfl, hb⟩
  clear q0 q1 q2 q3 q4 q5 q6 r0 r1 r2 r3 r4 r5 r6
  have hz_w9 := hb.size
  have H0_ := Lib.hid (H0.out.below hb (by omega))
  clear H0
  have H0 := H0_
  clear H0_
  have O1_ := Lib.hid (O1.out.below hb (by omega))
  clear O1
  have O1 := O1_
  clear O1_
  have S_sv_ := Lib.hid (S_sv.out.below hb (by omega))
  clear S_sv
  have S_sv := S_sv_
  clear S_sv_
  have G_sv_ := Lib.hid ((hb.block (w2.heap.size) (by omega)).trans G_sv.out)
  clear G_sv
  have G_sv := G_sv_
  clear G_sv_
  have S_sq_ := Lib.hid (S_sq.out.below hb (by omega))
  clear S_sq
  have S_sq := S_sq_
  clear S_sq_
  have G_sq_ := Lib.hid ((hb.block (w4.heap.size) (by omega)).trans G_sq.out)
  clear G_sq
  have G_sq := G_sq_
  clear G_sq_
  have O3_ := Lib.hid (O3.out.below hb (by omega))
  clear O3
  have O3 := O3_
  clear O3_
  have HB_ := Lib.hid (HB.out.trans (hb.mono HB.out.size))
  clear HB
  have HB := HB_
  clear HB_
  clear hb
  have hcnt := HP0.out.2.2.2
  have q0 := cell_of_row w9 (w4.heap.size) 0 _ _ _ G_sq.out
  have q1 := cell_of_row w9 (w4.heap.size) 1 _ _ _ G_sq.out
  have q2 := cell_of_row w9 (w4.heap.size) 2 _ _ _ G_sq.out
  have q3 := cell_of_row w9 (w4.heap.size) 3 _ _ _ G_sq.out
  have q4 := cell_of_row w9 (w4.heap.size) 4 _ _ _ G_sq.out
  have q5 := cell_of_row w9 (w4.heap.size) 5 _ _ _ G_sq.out
  have q6 := cell_of_row w9 (w4.heap.size) 6 _ _ _ G_sq.out
  simp only [List.getElem?_toArray, List.getElem?_cons_zero, List.getElem?_cons_succ] at q0 q1 q2 q3 q4 q5 q6
  go_wp2_with fail
  refine (markPredW_c p _ 1 w9 S_sq.out (by omega) (by decide) (by omega)).mono ?_
  rintro e w10 ⟨rfl, hc, hom⟩
  clear q0 q1 q2 q3 q4 q5 q6
  have hz_w10 := hc.size
  have H0_ := Lib.hid (H0.out.same (.of_chg hc (by omega) (by omega)))
  clear H0
  have H0 := H0_
  clear H0_
  have O1_ := Lib.hid (O1.out.same (.of_chg hc (by omega) (by omega)))
  clear O1
  have O1 := O1_
  clear O1_
  have S_sv_ := Lib.hid (S_sv.out.same (.of_chg hc (by omega) (by omega)))
  clear S_sv
  have S_sv := S_sv_
  clear S_sv_
  have G_sv_ := Lib.hid ((hc.block (w2.heap.size) (by omega) (by omega)).trans G_sv.out)
  clear G_sv
  have G_sv := G_sv_
  clear G_sv_
  have G_sq_ := Lib.hid ((hc.block (w4.heap.size) (by omega) (by omega)).trans G_sq.out)
  clear G_sq
  have G_sq := G_sq_
  clear G_sq_
  have O3_ := Lib.hid (O3.out.same (.of_chg hc (by omega) (by omega)))
  clear O3
  have O3 := O3_
  clear O3_
  have HB_ := Lib.hid (HB.out.trans (hc.below (by omega) (by omega)))
  clear HB
  have HB := HB_
  clear HB_
  have M := Lib.hid hom
  clear hc hom S_sq
  have hm0 : ¬ ((1 : Int) + 6 * (cntP p.l : Int) < 0) := by omega
  have q0 := cell_of_row w10 (w4.heap.size) 0 _ _ _ G_sq.out
  have q1 := cell_of_row w10 (w4.heap.size) 1 _ _ _ G_sq.out
  have q2 := cell_of_row w10 (w4.heap.size) 2 _ _ _ G_sq.out
  have q3 := cell_of_row w10 (w4.heap.size) 3 _ _ _ G_sq.out
  have q4 := cell_of_row w10 (w4.heap.size) 4 _ _ _ G_sq.out
  have q5 := cell_of_row w10 (w4.heap.size) 5 _ _ _ G_sq.out
  have q6 := cell_of_row w10 (w4.heap.size) 6 _ _ _ G_sq.out
  simp only [List.getElem?_toArray, List.getElem?_cons_zero, List.getElem?_cons_succ] at q0 q1 q2 q3 q4 q5 q6
  go_wp2_with fail
  refine (heldPred_c p _ 1 w10 M.out.rdP (by omega) (by decide) (by omega)).mono ?_
  rintro e w11 ⟨rfl, hb⟩
  clear q0 q1 q2 q3 q4 q5 q6
  have hz_w11 := hb.size
  have H0_ := Lib.hid (H0.out.below hb (by omega))
  clear H0
  have H0 := H0_
  clear H0_
  have O1_ := Lib.hid (O1.out.below hb (by omega))
  clear O1
  have O1 := O1_
  clear O1_
  have S_sv_ := Lib.hid (S_sv.out.below hb (by omega))
  clear S_sv
  have S_sv := S_sv_
  clear S_sv_
  have G_sv_ := Lib.hid ((hb.block (w2.heap.size) (by omega)).trans G_sv.out)
  clear G_sv
  have G_sv := G_sv_
  clear G_sv_
  have G_sq_ := Lib.hid ((hb.block (w4.heap.size) (by omega)).trans G_sq.out)
  clear G_sq
  have G_sq := G_sq_
  clear G_sq_
  have O3_ := Lib.hid (O3.out.below hb (by omega))
  clear O3
  have O3 := O3_
  clear O3_
  have M_ := Lib.hid (M.out.below hb (by omega))
  clear M
  have M := M_
  clear M_
  have HB_ := Lib.hid (HB.out.trans (hb.mono HB.out.size))
  clear HB
  have HB := HB_
  clear HB_
  clear hb
  go_wp2_with fail
  refine (toIntS_c aCols _ w11 H0.out (by omega) hcl).mono ?_
  rintro e w12 ⟨v4, rfl, ho, hb⟩
  have hz_w12 := hb.size
  have H0_ := Lib.hid (H0.out.below hb (by omega))
  clear H0
  have H0 := H0_
  clear H0_
  have O1_ := Lib.hid (O1.out.below hb (by omega))
  clear O1
  have O1 := O1_
  clear O1_
  have S_sv_ := Lib.hid (S_sv.out.below hb (by omega))
  clear S_sv
  have S_sv := S_sv_
  clear S_sv_
  have G_sv_ := Lib.hid ((hb.block (w2.heap.size) (by omega)).trans G_sv.out)
  clear G_sv
  have G_sv := G_sv_
  clear G_sv_
  have G_sq_ := Lib.hid ((hb.block (w4.heap.size) (by omega)).trans G_sq.out)
  clear G_sq
  have G_sq := G_sq_
  clear G_sq_
  have O3_ := Lib.hid (O3.out.below hb (by omega))
  clear O3
  have O3 := O3_
  clear O3_
  have M_ := Lib.hid (M.out.below hb (by omega))
  clear M
  have M := M_
  clear M_
  have HB_ := Lib.hid (HB.out.trans (hb.mono HB.out.size))
  clear HB
  have HB := HB_
  clear HB_
  have O4 := Lib.hid ho
  clear ho hb
  obtain ⟨A_v4, c_v4, rfl, -, -⟩ := O4.out.rdI.form
  go_wp2_with fail
  refine (impl_ParsePred aCols _ aS w12 O4.out.rdI (by omega) hcl hsl (he.out.below HB.out)).mono ?_
  rintro e w13 ⟨q3, s3, ok3, rfl, hop, HP, hb⟩
  have hz_w13 := hb.size
  have H0_ := Lib.hid (H0.out.below hb (by omega))
  clear H0
  have H0 := H0_
  clear H0_
  have O1_ := Lib.hid (O1.out.below hb (by omega))
  clear O1
  have O1 := O1_
  clear O1_
  have S_sv_ := Lib.hid (S_sv.out.below hb (by omega))
  clear S_sv
  have S_sv := S_sv_
  clear S_sv_
  have G_sv_ := Lib.hid ((hb.block (w2.heap.size) (by omega)).trans G_sv.out)
  clear G_sv
  have G_sv := G_sv_
  clear G_sv_
  have G_sq_ := Lib.hid ((hb.block (w4.heap.size) (by omega)).trans G_sq.out)
  clear G_sq
  have G_sq := G_sq_
  clear G_sq_
  have O3_ := Lib.hid (O3.out.below hb (by omega))
  clear O3
  have O3 := O3_
  clear O3_
  have M_ := Lib.hid (M.out.below hb (by omega))
  clear M
  have M := M_
  clear M_
  have O4_ := Lib.hid (O4.out.below hb (by omega))
  clear O4
  have O4 := O4_
  clear O4_
  have HB_ := Lib.hid (HB.out.trans (hb.mono HB.out.size))
  clear HB
  have HB := HB_
  clear HB_
  obtain ⟨h1, h2⟩ := HP0.out.1.one HP.out.1
  subst h1 h2
  clear HP
  obtain ⟨A_s3, c_s3, rfl, -, -⟩ := hop.rdP.form
  have S_s3 := Lib.hid hop
  clear hop hb
  have up := up_a1 w13 (.cells #[.int .i64 p.kind, .int .i64 p.col, .int .i64 p.op, .int .i64 p.v.ty, .int .i64 p.v.n, .string p.v.s, .slice A_s3 p.l.length c_s3] 27)
  have gx := heap_alloc_new w13 (.cells #[.int .i64 p.kind, .int .i64 p.col, .int .i64 p.op, .int .i64 p.v.ty, .int .i64 p.v.n, .string p.v.s, .slice A_s3 p.l.length c_s3] 27)
  have hs_X13 : (w13.alloc (.cells #[.int .i64 p.kind, .int .i64 p.col, .int .i64 p.op, .int .i64 p.v.ty, .int .i64 p.v.n, .string p.v.s, .slice A_s3 p.l.length c_s3] 27)).heap.size = w13.heap.size + 1 := by simp
  obtain ⟨X13, hX13⟩ : ∃ X13, (w13.alloc (.cells #[.int .i64 p.kind, .int .i64 p.col, .int .i64 p.op, .int .i64 p.v.ty, .int .i64 p.v.n, .string p.v.s, .slice A_s3 p.l.length c_s3] 27)) = X13 := ⟨_, rfl⟩
  rw [hX13] at up gx hs_X13
  have HX13 := Lib.hid hX13
  clear hX13
  have hz_X13 := up.size
  have H0_ := Lib.hid (H0.out.below up (by omega))
  clear H0
  have H0 := H0_
  clear H0_
  have O1_ := Lib.hid (O1.out.below up (by omega))
  clear O1
  have O1 := O1_
  clear O1_
  have S_sv_ := Lib.hid (S_sv.out.below up (by omega))
  clear S_sv
  have S_sv := S_sv_
  clear S_sv_
  have G_sv_ := Lib.hid ((up.block (w2.heap.size) (by omega)).trans G_sv.out)
  clear G_sv
  have G_sv := G_sv_
  clear G_sv_
  have G_sq_ := Lib.hid ((up.block (w4.heap.size) (by omega)).trans G_sq.out)
  clear G_sq
  have G_sq := G_sq_
  clear G_sq_
  have O3_ := Lib.hid (O3.out.below up (by omega))
  clear O3
  have O3 := O3_
  clear O3_
  have M_ := Lib.hid (M.out.below up (by omega))
  clear M
  have M := M_
  clear M_
  have O4_ := Lib.hid (O4.out.below up (by omega))
  clear O4
  have O4 := O4_
  clear O4_
  have S_s3_ := Lib.hid (S_s3.out.below up (by omega))
  clear S_s3
  have S_s3 := S_s3_
  clear S_s3_
  have HB_ := Lib.hid (HB.out.trans (up.mono HB.out.size))
  clear HB
  have HB := HB_
  clear HB_
  have G_s3 := Lib.hid gx
  clear gx up
  go_upto_region 25 with fail
  rw [HX13.out]
  clear HX13
  have q0 := cell_of_row X13 (w13.heap.size) 0 _ _ _ G_s3.out
  have q1 := cell_of_row X13 (w13.heap.size) 1 _ _ _ G_s3.out
  have q2 := cell_of_row X13 (w13.heap.size) 2 _ _ _ G_s3.out
  have q3 := cell_of_row X13 (w13.heap.size) 3 _ _ _ G_s3.out
  have q4 := cell_of_row X13 (w13.heap.size) 4 _ _ _ G_s3.out
  have q5 := cell_of_row X13 (w13.heap.size) 5 _ _ _ G_s3.out
  have q6 := cell_of_row X13 (w13.heap.size) 6 _ _ _ G_s3.out
  simp only [List.getElem?_toArray, List.getElem?_cons_zero, List.getElem?_cons_succ] at q0 q1 q2 q3 q4 q5 q6
  have r0 := cell_of_row X13 (w2.heap.size) 0 _ _ _ G_sv.out
  have r1 := cell_of_row X13 (w2.heap.size) 1 _ _ _ G_sv.out
  have r2 := cell_of_row X13 (w2.heap.size) 2 _ _ _ G_sv.out
  have r3 := cell_of_row X13 (w2.heap.size) 3 _ _ _ G_sv.out
  have r4 := cell_of_row X13 (w2.heap.size) 4 _ _ _ G_sv.out
  have r5 := cell_of_row X13 (w2.heap.size) 5 _ _ _ G_sv.out
  have r6 := cell_of_row X13 (w2.heap.size) 6 _ _ _ G_sv.out
  simp only [List.getElem?_toArray, List.getElem?_cons_zero, List.getElem?_cons_succ] at r0 r1 r2 r3 r4 r5 r6
  go_wp2_with fail
  refine (eqPred_c p _ p _ X13 S_s3.out.rdP (by omega) S_sv.out.rdP (by omega)).mono ?_
  rintro e w14 ⟨rfl, hb⟩
  clear q0 q1 q2 q3 q4 q5 q6 r0 r1 r2 r3 r4 r5 r6
  have hz_w14 := hb.size
  have H0_ := Lib.hid (H0.out.below hb (by omega))
  clear H0
  have H0 := H0_
  clear H0_
  have O1_ := Lib.hid (O1.out.below hb (by omega))
  clear O1
  have O1 := O1_
  clear O1_
  have S_sv_ := Lib.hid (S_sv.out.below hb (by omega))
  clear S_sv
  have S_sv := S_sv_
  clear S_sv_
  have G_sv_ := Lib.hid ((hb.block (w2.heap.size) (by omega)).trans G_sv.out)
  clear G_sv
  have G_sv := G_sv_
  clear G_sv_
  have G_sq_ := Lib.hid ((hb.block (w4.heap.size) (by omega)).trans G_sq.out)
  clear G_sq
  have G_sq := G_sq_
  clear G_sq_
  have O3_ := Lib.hid (O3.out.below hb (by omega))
  clear O3
  have O3 := O3_
  clear O3_
  have M_ := Lib.hid (M.out.below hb (by omega))
  clear M
  have M := M_
  clear M_
  have O4_ := Lib.hid (O4.out.below hb (by omega))
  clear O4
  have O4 := O4_
  clear O4_
  have S_s3_ := Lib.hid (S_s3.out.below hb (by omega))
  clear S_s3
  have S_s3 := S_s3_
  clear S_s3_
  have G_s3_ := Lib.hid ((hb.block (w13.heap.size) (by omega)).trans G_s3.out)
  clear G_s3
  have G_s3 := G_s3_
  clear G_s3_
  have HB_ := Lib.hid (HB.out.trans (hb.mono HB.out.size))
  clear HB
  have HB := HB_
  clear HB_
  clear hb
  have q0 := cell_of_row w14 (w4.heap.size) 0 _ _ _ G_sq.out
  have q1 := cell_of_row w14 (w4.heap.size) 1 _ _ _ G_sq.out
  have q2 := cell_of_row w14 (w4.heap.size) 2 _ _ _ G_sq.out
  have q3 := cell_of_row w14 (w4.heap.size) 3 _ _ _ G_sq.out
  have q4 := cell_of_row w14 (w4.heap.size) 4 _ _ _ G_sq.out
  have q5 := cell_of_row w14 (w4.heap.size) 5 _ _ _ G_sq.out
  have q6 := cell_of_row w14 (w4.heap.size) 6 _ _ _ G_sq.out
  simp only [List.getElem?_toArray, List.getElem?_cons_zero, List.getElem?_cons_succ] at q0 q1 q2 q3 q4 q5 q6
  go_wp2_with fail
  refine (heldPred_c p _ 1 w14 M.out.rdP (by omega) (by decide) (by omega)).mono ?_
  rintro e w15 ⟨rfl, hb⟩
  clear q0 q1 q2 q3 q4 q5 q6
  have hz_w15 := hb.size
  have H0_ := Lib.hid (H0.out.below hb (by omega))
  clear H0
  have H0 := H0_
  clear H0_
  have O1_ := Lib.hid (O1.out.below hb (by omega))
  clear O1
  have O1 := O1_
  clear O1_
  have S_sv_ := Lib.hid (S_sv.out.below hb (by omega))
  clear S_sv
  have S_sv := S_sv_
  clear S_sv_
  have G_sv_ := Lib.hid ((hb.block (w2.heap.size) (by omega)).trans G_sv.out)
  clear G_sv
  have G_sv := G_sv_
  clear G_sv_
  have G_sq_ := Lib.hid ((hb.block (w4.heap.size) (by omega)).trans G_sq.out)
  clear G_sq
  have G_sq := G_sq_
  clear G_sq_
  have O3_ := Lib.hid (O3.out.below hb (by omega))
  clear O3
  have O3 := O3_
  clear O3_
  have M_ := Lib.hid (M.out.below hb (by omega))
  clear M
  have M := M_
  clear M_
  have O4_ := Lib.hid (O4.out.below hb (by omega))
  clear O4
  have O4 := O4_
  clear O4_
  have S_s3_ := Lib.hid (S_s3.out.below hb (by omega))
  clear S_s3
  have S_s3 := S_s3_
  clear S_s3_
  have G_s3_ := Lib.hid ((hb.block (w13.heap.size) (by omega)).trans G_s3.out)
  clear G_s3
  have G_s3 := G_s3_
  clear G_s3_
  have HB_ := Lib.hid (HB.out.trans (hb.mono HB.out.size))
  clear HB
  have HB := HB_
  clear HB_
  clear hb
  go_wp2_with fail
  go_ret
  exact ⟨rfl, HB.out⟩

end Go.Proofs.YtjogkbkkcaljhaaGreatDoor
