/- The law FnPredTexts: the walk. A predicate is parsed from its text. No conditions. -/
import Derived.Test.YtjogkbkkcaljhaaGreatDoorXA
import Derived.Test.YtjogkbkkcaljhaaGreatDoorD33i
import Derived.Test.YtjogkbkkcaljhaaGreatDoorD40
import Derived.Test.YtjogkbkkcaljhaaGreatDoorZT
import Derived.Test.YtjogkbkkcaljhaaGreatDoorSP
import Derived.Test.YtjogkbkkcaljhaaGreatDoorYA
import Derived.Test.YtjogkbkkcaljhaaGreatDoorTP
import Derived.Test.YtjogkbkkcaljhaaGreatDoorXL
namespace Go.Lb
open Go.RowKit
theorem RdP.top {w : World} {lo hi : Nat} {v : Value} {l : List P} (h : RdP w lo hi v l) (hh : hi ≤ w.heap.size) : RdP w 0 w.heap.size v l := h.more (Nat.zero_le _) hh
theorem RdP.go {w w' : World} {v : Value} {l : List P} (h : RdP w 0 w.heap.size v l) (hb : Below w.heap.size w w') : RdP w' 0 w'.heap.size v l := (h.below hb (Nat.le_refl _)).more (Nat.zero_le _) hb.size
theorem RdZ.top {w : World} {lo hi : Nat} {v : Value} {l : List Z} (h : RdZ w lo hi v l) (hh : hi ≤ w.heap.size) : RdZ w 0 w.heap.size v l := RdG.imp h (Nat.zero_le _) hh (fun _ _ _ _ _ h => h)
theorem RdZ.go {w w' : World} {v : Value} {l : List Z} (h : RdZ w 0 w.heap.size v l) (hb : Below w.heap.size w w') : RdZ w' 0 w'.heap.size v l := RdG.imp (RdZ.same h (.of_below hb (Nat.le_refl _))) (Nat.zero_le _) hb.size (fun _ _ _ _ _ h => h)
/-- A block that the law lays itself. -/
def BlkAt (w : World) (b : Nat) (o : Obj) : Prop := w.heap[b]? = some o
theorem BlkAt.go {w w' : World} {b : Nat} {o : Obj} (h : BlkAt w b o) (hb : Below w.heap.size w w') : BlkAt w' b o := (hb.block b (Array.getElem?_eq_some_iff.1 h).1).trans h
end Go.Lb
namespace Go.Proofs.YtjogkbkkcaljhaaGreatDoor
open Go.Sort Go.ChangeShapes Go.WideShapes Go.ChangeAt Go.RowKit Go.Lb
theorem EnvP.go {w w' : World} (h : EnvP w) (hb : Below w.heap.size w w') : EnvP w' := h.below hb
theorem predR_is {cols : List Int} {p x : P} {ok : Bool} {t : ByteArray} (h : PredR cols t x ok) (hp : predOk cols p = true) (ht : predT p = t) : p = x ∧ true = ok := by
  rcases h with ⟨a1, -, -, a4⟩ | ⟨-, -, a3⟩
  · exact ⟨a4 p hp ht, a1.symm⟩
  · exact absurd ht (a3 p hp)
theorem predR_yes {cols : List Int} {x : P} {ok : Bool} {t : ByteArray} (h : PredR cols t x ok) (hk : ok = true) : predOk cols x = true ∧ predT x = t := by
  rcases h with ⟨-, a2, a3, -⟩ | ⟨a1, -, -⟩
  · exact ⟨a2, a3⟩
  · rw [hk] at a1; cases a1
theorem EnvP.pow {w : World} (h : EnvP w) : Pow w := h.1
set_option maxRecDepth 20000 in
set_option maxHeartbeats 16000000 in
theorem wPredTexts (code : List UInt8) (x : Value) (w : World) (hx : RdB w 0 w.heap.size x code) (htEnv : EnvP w) :
    Calls Tryz.prog 4 #[x] w fun e w' => e = .returned (.bool true) ∧ Below w.heap.size w w' := by
  go_enter Tryz.func4, Tryz.ntmps4
  go_wp2_with fail
  refine (law_big code _ w hx).mono ?_
  rintro e w1 ⟨rfl, rfl⟩
  by_cases hbg : 1048576 < (code.length : Int)
  · have hd := decide_eq_true hbg
    go_wp2_with fail
    go_ret
    exact ⟨rfl, Below.refl _ _⟩
  have hd := decide_eq_false hbg
  have hcl : code.length ≤ 1048576 := by omega
  have RC := Lib.hid hx
  have HB := Lib.hid (Below.refl w.heap.size w)
  go_wp2_with fail
  clear hbg hd hx
  have HE := Lib.hid htEnv
  clear htEnv
  have hC := spec_DrawSearch code _ w RC.out (Nat.le_refl _) hcl
  have HC := Lib.hid hC
  clear hC
  refine HC.out.mono ?_
  rintro e w1 ⟨cols, p, cv, sv, lv, l, rfl, hrc, hrp, -, hpk, hcl3, hb⟩
  replace RC := Lib.hid (RC.out.go hb)
  replace HE := Lib.hid (HE.out.go hb)
  replace HB := Lib.hid (below_go HB.out hb)
  have hr := hrc.top (Nat.le_refl _)
  obtain ⟨A2, c2, rfl, -, -⟩ := hr.form
  have RK := Lib.hid hr
  clear hr
  have hr := hrp.top (Nat.le_refl _)
  obtain ⟨A3, c3, rfl, -, -⟩ := hr.form
  have RP := Lib.hid hr
  clear hr
  have hsz := predT_len hpk.out.1.2
  obtain ⟨t, ht⟩ : ∃ t, predT p = t := ⟨_, rfl⟩
  rw [ht] at hsz
  have hts : t.size ≤ 1048576 := by have h := hpk.out.2.1; omega
  have Ht := Lib.hid ht
  have Hts := Lib.hid hts
  clear hrc hrp hsz ht hts
  clear hb HC
  have hup := up_a1 w1 (.cells #[.int .i64 p.kind, .int .i64 p.col, .int .i64 p.op, .int .i64 p.v.ty, .int .i64 p.v.n, .string p.v.s, .slice A3 p.l.length c3] 27)
  have T4 : BlkAt (w1.alloc (.cells #[.int .i64 p.kind, .int .i64 p.col, .int .i64 p.op, .int .i64 p.v.ty, .int .i64 p.v.n, .string p.v.s, .slice A3 p.l.length c3] 27)) (w1.heap.size) (.cells #[.int .i64 p.kind, .int .i64 p.col, .int .i64 p.op, .int .i64 p.v.ty, .int .i64 p.v.n, .string p.v.s, .slice A3 p.l.length c3] 27) := by
    exact heap_new_at (by simp)
  obtain ⟨w2, hW⟩ : ∃ W, (w1.alloc (.cells #[.int .i64 p.kind, .int .i64 p.col, .int .i64 p.op, .int .i64 p.v.ty, .int .i64 p.v.n, .string p.v.s, .slice A3 p.l.length c3] 27)) = W := ⟨_, rfl⟩
  rw [hW] at hup T4
  replace RC := Lib.hid (RC.out.go hup)
  replace HE := Lib.hid (HE.out.go hup)
  replace RK := Lib.hid (RK.out.go hup)
  replace RP := Lib.hid (RP.out.go hup)
  replace HB := Lib.hid (below_go HB.out hup)
  replace T4 := Lib.hid T4
  have HW := Lib.hid hW
  clear hW hup
  go_wp2_with fail
  try rw [HW.out]
  clear HW
  have hC := impl_PredText_n _ p (Nat.lt_succ_self _) _ w2 _ _ RP.out (Nat.le_refl _) hpk.out.1.1 hpk.out.1.2 (Nat.le_trans hpk.out.2.1 (by decide)) HE.out.pow
  rw [Ht.out] at hC
  have HC := Lib.hid hC
  clear hC
  refine HC.out.mono ?_
  rintro e w3 ⟨rfl, hb⟩
  replace RC := Lib.hid (RC.out.go hb)
  replace HE := Lib.hid (HE.out.go hb)
  replace RK := Lib.hid (RK.out.go hb)
  replace RP := Lib.hid (RP.out.go hb)
  replace T4 := Lib.hid (T4.out.go hb)
  replace HB := Lib.hid (below_go HB.out hb)
  clear hb HC
  have hC := impl_ParsePred cols _ t w3 RK.out (Nat.le_refl _) (Nat.le_trans hcl3.out (by decide)) Hts.out HE.out
  have HC := Lib.hid hC
  clear hC
  go_wp2_with fail
  refine HC.out.mono ?_
  rintro e w4 ⟨x, sx, ok, rfl, hop, HPx, hb⟩
  replace RC := Lib.hid (RC.out.go hb)
  replace HE := Lib.hid (HE.out.go hb)
  replace RK := Lib.hid (RK.out.go hb)
  replace RP := Lib.hid (RP.out.go hb)
  replace T4 := Lib.hid (T4.out.go hb)
  replace HB := Lib.hid (below_go HB.out hb)
  have hr := hop.rdP.top (Nat.le_refl _)
  obtain ⟨A6, c6, rfl, -, -⟩ := hr.form
  have RX := Lib.hid hr
  clear hr
  obtain ⟨h1, h2⟩ := predR_is HPx.out.1 hpk.out.2.2 Ht.out
  subst h1 h2
  clear HPx hop
  clear hb HC
  have hup := up_a1 w4 (.cells #[.int .i64 p.kind, .int .i64 p.col, .int .i64 p.op, .int .i64 p.v.ty, .int .i64 p.v.n, .string p.v.s, .slice A6 p.l.length c6] 27)
  have T7 : BlkAt (w4.alloc (.cells #[.int .i64 p.kind, .int .i64 p.col, .int .i64 p.op, .int .i64 p.v.ty, .int .i64 p.v.n, .string p.v.s, .slice A6 p.l.length c6] 27)) (w4.heap.size) (.cells #[.int .i64 p.kind, .int .i64 p.col, .int .i64 p.op, .int .i64 p.v.ty, .int .i64 p.v.n, .string p.v.s, .slice A6 p.l.length c6] 27) := by
    exact heap_new_at (by simp)
  obtain ⟨w5, hW⟩ : ∃ W, (w4.alloc (.cells #[.int .i64 p.kind, .int .i64 p.col, .int .i64 p.op, .int .i64 p.v.ty, .int .i64 p.v.n, .string p.v.s, .slice A6 p.l.length c6] 27)) = W := ⟨_, rfl⟩
  rw [hW] at hup T7
  replace RC := Lib.hid (RC.out.go hup)
  replace HE := Lib.hid (HE.out.go hup)
  replace RK := Lib.hid (RK.out.go hup)
  replace RP := Lib.hid (RP.out.go hup)
  replace T4 := Lib.hid (T4.out.go hup)
  replace RX := Lib.hid (RX.out.go hup)
  replace HB := Lib.hid (below_go HB.out hup)
  replace T7 := Lib.hid T7
  have HW := Lib.hid hW
  clear hW hup
  go_wp2_with fail
  try rw [HW.out]
  clear HW
  have hC := spec_DrawParsePred code _ w5 RC.out (Nat.le_refl _) hcl HE.out.pow
  have HC := Lib.hid hC
  clear hC
  refine HC.out.mono ?_
  rintro e w6 ⟨c, s, cv2, rfl, hrc, hcs, hb⟩
  replace RC := Lib.hid (RC.out.go hb)
  replace HE := Lib.hid (HE.out.go hb)
  replace RK := Lib.hid (RK.out.go hb)
  replace RP := Lib.hid (RP.out.go hb)
  replace T4 := Lib.hid (T4.out.go hb)
  replace RX := Lib.hid (RX.out.go hb)
  replace T7 := Lib.hid (T7.out.go hb)
  replace HB := Lib.hid (below_go HB.out hb)
  have hr := hrc.top (Nat.le_refl _)
  obtain ⟨A8, c8, rfl, -, -⟩ := hr.form
  have RC2 := Lib.hid hr
  clear hr
  clear hrc
  clear hb HC
  have hC := impl_ParsePred c _ s w6 RC2.out (Nat.le_refl _) (Nat.le_trans hcs.out.2 (by decide)) hcs.out.1 HE.out
  have HC := Lib.hid hC
  clear hC
  go_wp2_with fail
  refine HC.out.mono ?_
  rintro e w7 ⟨y, sy, oky, rfl, hop, HPy, hb⟩
  replace RC := Lib.hid (RC.out.go hb)
  replace HE := Lib.hid (HE.out.go hb)
  replace RK := Lib.hid (RK.out.go hb)
  replace RP := Lib.hid (RP.out.go hb)
  replace T4 := Lib.hid (T4.out.go hb)
  replace RX := Lib.hid (RX.out.go hb)
  replace T7 := Lib.hid (T7.out.go hb)
  replace RC2 := Lib.hid (RC2.out.go hb)
  replace HB := Lib.hid (below_go HB.out hb)
  have hr := hop.rdP.top (Nat.le_refl _)
  obtain ⟨A10, c10, rfl, -, -⟩ := hr.form
  have RY := Lib.hid hr
  clear hr
  clear hop
  clear hb HC
  have hup := up_a1 w7 (.cells #[.int .i64 y.kind, .int .i64 y.col, .int .i64 y.op, .int .i64 y.v.ty, .int .i64 y.v.n, .string y.v.s, .slice A10 y.l.length c10] 27)
  have T11 : BlkAt (w7.alloc (.cells #[.int .i64 y.kind, .int .i64 y.col, .int .i64 y.op, .int .i64 y.v.ty, .int .i64 y.v.n, .string y.v.s, .slice A10 y.l.length c10] 27)) (w7.heap.size) (.cells #[.int .i64 y.kind, .int .i64 y.col, .int .i64 y.op, .int .i64 y.v.ty, .int .i64 y.v.n, .string y.v.s, .slice A10 y.l.length c10] 27) := by
    exact heap_new_at (by simp)
  obtain ⟨w8, hW⟩ : ∃ W, (w7.alloc (.cells #[.int .i64 y.kind, .int .i64 y.col, .int .i64 y.op, .int .i64 y.v.ty, .int .i64 y.v.n, .string y.v.s, .slice A10 y.l.length c10] 27)) = W := ⟨_, rfl⟩
  rw [hW] at hup T11
  replace RC := Lib.hid (RC.out.go hup)
  replace HE := Lib.hid (HE.out.go hup)
  replace RK := Lib.hid (RK.out.go hup)
  replace RP := Lib.hid (RP.out.go hup)
  replace T4 := Lib.hid (T4.out.go hup)
  replace RX := Lib.hid (RX.out.go hup)
  replace T7 := Lib.hid (T7.out.go hup)
  replace RC2 := Lib.hid (RC2.out.go hup)
  replace RY := Lib.hid (RY.out.go hup)
  replace HB := Lib.hid (below_go HB.out hup)
  replace T11 := Lib.hid T11
  have HW := Lib.hid hW
  clear hW hup
  go_wp2_with fail
  try rw [HW.out]
  clear HW
  have hC := spec_ParsePred c _ s w8 RC2.out (Nat.le_refl _) hcs.out.1 HE.out
  have HC := Lib.hid hC
  clear hC
  refine HC.out.mono ?_
  rintro e w9 ⟨z, sz, okz, rfl, hop, HPz, hb⟩
  replace RC := Lib.hid (RC.out.go hb)
  replace HE := Lib.hid (HE.out.go hb)
  replace RK := Lib.hid (RK.out.go hb)
  replace RP := Lib.hid (RP.out.go hb)
  replace T4 := Lib.hid (T4.out.go hb)
  replace RX := Lib.hid (RX.out.go hb)
  replace T7 := Lib.hid (T7.out.go hb)
  replace RC2 := Lib.hid (RC2.out.go hb)
  replace RY := Lib.hid (RY.out.go hb)
  replace T11 := Lib.hid (T11.out.go hb)
  replace HB := Lib.hid (below_go HB.out hb)
  have hr := hop.rdP.top (Nat.le_refl _)
  obtain ⟨A12, c12, rfl, -, -⟩ := hr.form
  have RZ := Lib.hid hr
  clear hr
  obtain ⟨h1, h2⟩ := HPy.out.1.one HPz.out.1
  subst h1 h2
  clear HPz hop
  clear hb HC
  have hup := up_a1 w9 (.cells #[.int .i64 y.kind, .int .i64 y.col, .int .i64 y.op, .int .i64 y.v.ty, .int .i64 y.v.n, .string y.v.s, .slice A12 y.l.length c12] 27)
  have T13 : BlkAt (w9.alloc (.cells #[.int .i64 y.kind, .int .i64 y.col, .int .i64 y.op, .int .i64 y.v.ty, .int .i64 y.v.n, .string y.v.s, .slice A12 y.l.length c12] 27)) (w9.heap.size) (.cells #[.int .i64 y.kind, .int .i64 y.col, .int .i64 y.op, .int .i64 y.v.ty, .int .i64 y.v.n, .string y.v.s, .slice A12 y.l.length c12] 27) := by
    exact heap_new_at (by simp)
  obtain ⟨w10, hW⟩ : ∃ W, (w9.alloc (.cells #[.int .i64 y.kind, .int .i64 y.col, .int .i64 y.op, .int .i64 y.v.ty, .int .i64 y.v.n, .string y.v.s, .slice A12 y.l.length c12] 27)) = W := ⟨_, rfl⟩
  rw [hW] at hup T13
  replace RC := Lib.hid (RC.out.go hup)
  replace HE := Lib.hid (HE.out.go hup)
  replace RK := Lib.hid (RK.out.go hup)
  replace RP := Lib.hid (RP.out.go hup)
  replace T4 := Lib.hid (T4.out.go hup)
  replace RX := Lib.hid (RX.out.go hup)
  replace T7 := Lib.hid (T7.out.go hup)
  replace RC2 := Lib.hid (RC2.out.go hup)
  replace RY := Lib.hid (RY.out.go hup)
  replace T11 := Lib.hid (T11.out.go hup)
  replace RZ := Lib.hid (RZ.out.go hup)
  replace HB := Lib.hid (below_go HB.out hup)
  replace T13 := Lib.hid T13
  have HW := Lib.hid hW
  clear hW hup
  go_wp2_with fail
  try rw [HW.out]
  clear HW
  have hC := spec_DrawPredOk code _ w10 RC.out (Nat.le_refl _) hcl
  have HC := Lib.hid hC
  clear hC
  refine HC.out.mono ?_
  rintro e w11 ⟨dcols, q, cv3, sq, rfl, hrc, hrp, hqk, hb⟩
  replace RC := Lib.hid (RC.out.go hb)
  replace HE := Lib.hid (HE.out.go hb)
  replace RK := Lib.hid (RK.out.go hb)
  replace RP := Lib.hid (RP.out.go hb)
  replace T4 := Lib.hid (T4.out.go hb)
  replace RX := Lib.hid (RX.out.go hb)
  replace T7 := Lib.hid (T7.out.go hb)
  replace RC2 := Lib.hid (RC2.out.go hb)
  replace RY := Lib.hid (RY.out.go hb)
  replace T11 := Lib.hid (T11.out.go hb)
  replace RZ := Lib.hid (RZ.out.go hb)
  replace T13 := Lib.hid (T13.out.go hb)
  replace HB := Lib.hid (below_go HB.out hb)
  have hr := hrc.top (Nat.le_refl _)
  obtain ⟨A14, c14, rfl, -, -⟩ := hr.form
  have RD := Lib.hid hr
  clear hr
  have hr := hrp.top (Nat.le_refl _)
  obtain ⟨A15, c15, rfl, -, -⟩ := hr.form
  have RQ := Lib.hid hr
  clear hr
  clear hrc hrp
  clear hb HC
  have hup := up_a1 w11 (.cells #[.int .i64 q.kind, .int .i64 q.col, .int .i64 q.op, .int .i64 q.v.ty, .int .i64 q.v.n, .string q.v.s, .slice A15 q.l.length c15] 27)
  have T16 : BlkAt (w11.alloc (.cells #[.int .i64 q.kind, .int .i64 q.col, .int .i64 q.op, .int .i64 q.v.ty, .int .i64 q.v.n, .string q.v.s, .slice A15 q.l.length c15] 27)) (w11.heap.size) (.cells #[.int .i64 q.kind, .int .i64 q.col, .int .i64 q.op, .int .i64 q.v.ty, .int .i64 q.v.n, .string q.v.s, .slice A15 q.l.length c15] 27) := heap_new_at (by simp)
  obtain ⟨w12, hW⟩ : ∃ W, w11.alloc (.cells #[.int .i64 q.kind, .int .i64 q.col, .int .i64 q.op, .int .i64 q.v.ty, .int .i64 q.v.n, .string q.v.s, .slice A15 q.l.length c15] 27) = W := ⟨_, rfl⟩
  rw [hW] at hup T16
  replace RC := Lib.hid (RC.out.go hup)
  replace HE := Lib.hid (HE.out.go hup)
  replace RK := Lib.hid (RK.out.go hup)
  replace RP := Lib.hid (RP.out.go hup)
  replace T4 := Lib.hid (T4.out.go hup)
  replace RX := Lib.hid (RX.out.go hup)
  replace T7 := Lib.hid (T7.out.go hup)
  replace RC2 := Lib.hid (RC2.out.go hup)
  replace RY := Lib.hid (RY.out.go hup)
  replace T11 := Lib.hid (T11.out.go hup)
  replace RZ := Lib.hid (RZ.out.go hup)
  replace T13 := Lib.hid (T13.out.go hup)
  replace RD := Lib.hid (RD.out.go hup)
  replace RQ := Lib.hid (RQ.out.go hup)
  replace HB := Lib.hid (below_go HB.out hup)
  replace T16 := Lib.hid T16
  have HW := Lib.hid hW
  clear hW hup
  go_upto_region 10 with fail
  rw [HW.out]
  clear HW
  have a0 := cell_of_row w12 (_) 0 _ _ _ T4.out
  have a1 := cell_of_row w12 (_) 1 _ _ _ T4.out
  have a2 := cell_of_row w12 (_) 2 _ _ _ T4.out
  have a3 := cell_of_row w12 (_) 3 _ _ _ T4.out
  have a4 := cell_of_row w12 (_) 4 _ _ _ T4.out
  have a5 := cell_of_row w12 (_) 5 _ _ _ T4.out
  have a6 := cell_of_row w12 (_) 6 _ _ _ T4.out
  simp only [List.getElem?_toArray, List.getElem?_cons_zero, List.getElem?_cons_succ] at a0 a1 a2 a3 a4 a5 a6
  have b0 := cell_of_row w12 (_) 0 _ _ _ T7.out
  have b1 := cell_of_row w12 (_) 1 _ _ _ T7.out
  have b2 := cell_of_row w12 (_) 2 _ _ _ T7.out
  have b3 := cell_of_row w12 (_) 3 _ _ _ T7.out
  have b4 := cell_of_row w12 (_) 4 _ _ _ T7.out
  have b5 := cell_of_row w12 (_) 5 _ _ _ T7.out
  have b6 := cell_of_row w12 (_) 6 _ _ _ T7.out
  simp only [List.getElem?_toArray, List.getElem?_cons_zero, List.getElem?_cons_succ] at b0 b1 b2 b3 b4 b5 b6
  have d0 := cell_of_row w12 (_) 0 _ _ _ T11.out
  have d1 := cell_of_row w12 (_) 1 _ _ _ T11.out
  have d2 := cell_of_row w12 (_) 2 _ _ _ T11.out
  have d3 := cell_of_row w12 (_) 3 _ _ _ T11.out
  have d4 := cell_of_row w12 (_) 4 _ _ _ T11.out
  have d5 := cell_of_row w12 (_) 5 _ _ _ T11.out
  have d6 := cell_of_row w12 (_) 6 _ _ _ T11.out
  simp only [List.getElem?_toArray, List.getElem?_cons_zero, List.getElem?_cons_succ] at d0 d1 d2 d3 d4 d5 d6
  have f0 := cell_of_row w12 (_) 0 _ _ _ T13.out
  have f1 := cell_of_row w12 (_) 1 _ _ _ T13.out
  have f2 := cell_of_row w12 (_) 2 _ _ _ T13.out
  have f3 := cell_of_row w12 (_) 3 _ _ _ T13.out
  have f4 := cell_of_row w12 (_) 4 _ _ _ T13.out
  have f5 := cell_of_row w12 (_) 5 _ _ _ T13.out
  have f6 := cell_of_row w12 (_) 6 _ _ _ T13.out
  simp only [List.getElem?_toArray, List.getElem?_cons_zero, List.getElem?_cons_succ] at f0 f1 f2 f3 f4 f5 f6
  have m0 := cell_of_row w12 (_) 0 _ _ _ T16.out
  have m1 := cell_of_row w12 (_) 1 _ _ _ T16.out
  have m2 := cell_of_row w12 (_) 2 _ _ _ T16.out
  have m3 := cell_of_row w12 (_) 3 _ _ _ T16.out
  have m4 := cell_of_row w12 (_) 4 _ _ _ T16.out
  have m5 := cell_of_row w12 (_) 5 _ _ _ T16.out
  have m6 := cell_of_row w12 (_) 6 _ _ _ T16.out
  simp only [List.getElem?_toArray, List.getElem?_cons_zero, List.getElem?_cons_succ] at m0 m1 m2 m3 m4 m5 m6
  have H1 := Lib.hid (fun W (h : Below w12.heap.size w12 W) => spec_PredText_n _ p (Nat.lt_succ_self _) _ W _ _ (RP.out.below h (Nat.le_refl _)) h.size hpk.out.1.1 hpk.out.1.2 (Nat.le_trans hpk.out.2.1 (by decide)) (HE.out.go h).pow)
  have H2 := Lib.hid (fun W (h : Below w12.heap.size w12 W) => law_samePred p _ _ W (RX.out.below h (Nat.le_refl _)) h.size (RP.out.below h (Nat.le_refl _)) h.size)
  have H3 := Lib.hid (fun W (h : Below w12.heap.size w12 W) => law_samePred y _ _ W (RY.out.below h (Nat.le_refl _)) h.size (RZ.out.below h (Nat.le_refl _)) h.size)
  have H4 := Lib.hid (fun W (h : Below w12.heap.size w12 W) => impl_PredOk dcols _ q _ W (RD.out.below h (Nat.le_refl _)) h.size (RQ.out.below h (Nat.le_refl _)) h.size hqk.out.1.1 (Nat.le_trans hqk.out.2 (by decide)))
  have H5 := Lib.hid (fun W (h : Below w12.heap.size w12 W) => spec_PredOk dcols _ q _ W (RD.out.below h (Nat.le_refl _)) h.size (RQ.out.below h (Nat.le_refl _)) h.size hqk.out.1.1 (Nat.le_trans hqk.out.2 (by decide)))
  have H6 := Lib.hid (fun W (h : Below w12.heap.size w12 W) => impl_PredText_n _ q (Nat.lt_succ_self _) _ W _ _ (RQ.out.below h (Nat.le_refl _)) h.size hqk.out.1.1 hqk.out.1.2 (Nat.le_trans hqk.out.2 (by decide)) (HE.out.go h).pow)
  have H7 := Lib.hid (fun W (h : Below w12.heap.size w12 W) => spec_PredText_n _ q (Nat.lt_succ_self _) _ W _ _ (RQ.out.below h (Nat.le_refl _)) h.size hqk.out.1.1 hqk.out.1.2 (Nat.le_trans hqk.out.2 (by decide)) (HE.out.go h).pow)
  obtain ⟨tq, htq⟩ : ∃ t, predT q = t := ⟨_, rfl⟩
  obtain ⟨bq, hbq0⟩ : ∃ b, predOk dcols q = b := ⟨_, rfl⟩
  rw [Ht.out] at H1
  rw [htq] at H6 H7
  rw [hbq0] at H4 H5
  clear htq hbq0 hcl3 Hts
  have e1 : (t.toList == t.toList) = true := beq_iff_eq.2 rfl
  have e2 : (tq.toList == tq.toList) = true := beq_iff_eq.2 rfl
  have e3 : (oky != oky) = false := by simp
  have e4 : (bq != bq) = false := by simp
  have hyk := Lib.hid HPy.out.2
  have q_0 := cell_regrown (w := w12) a0
  have q_1 := cell_regrown (w := w12) a1
  have q_2 := cell_regrown (w := w12) a2
  have q_3 := cell_regrown (w := w12) a3
  have q_4 := cell_regrown (w := w12) a4
  have q_5 := cell_regrown (w := w12) a5
  have q_6 := cell_regrown (w := w12) a6
  have q_7 := cell_regrown (w := w12) b0
  have q_8 := cell_regrown (w := w12) b1
  have q_9 := cell_regrown (w := w12) b2
  have q_10 := cell_regrown (w := w12) b3
  have q_11 := cell_regrown (w := w12) b4
  have q_12 := cell_regrown (w := w12) b5
  have q_13 := cell_regrown (w := w12) b6
  have q_14 := cell_regrown (w := w12) d0
  have q_15 := cell_regrown (w := w12) d1
  have q_16 := cell_regrown (w := w12) d2
  have q_17 := cell_regrown (w := w12) d3
  have q_18 := cell_regrown (w := w12) d4
  have q_19 := cell_regrown (w := w12) d5
  have q_20 := cell_regrown (w := w12) d6
  have q_21 := cell_regrown (w := w12) f0
  have q_22 := cell_regrown (w := w12) f1
  have q_23 := cell_regrown (w := w12) f2
  have q_24 := cell_regrown (w := w12) f3
  have q_25 := cell_regrown (w := w12) f4
  have q_26 := cell_regrown (w := w12) f5
  have q_27 := cell_regrown (w := w12) f6
  have q_28 := cell_regrown (w := w12) m0
  have q_29 := cell_regrown (w := w12) m1
  have q_30 := cell_regrown (w := w12) m2
  have q_31 := cell_regrown (w := w12) m3
  have q_32 := cell_regrown (w := w12) m4
  have q_33 := cell_regrown (w := w12) m5
  have q_34 := cell_regrown (w := w12) m6
  refine wp_region_quiet_below (by kernel_rfl) (by kernel_rfl) ?_
  repeat (go_big_quiet_step (first | (go_at_call 18; first | with_reducible exact Calls.regrown_of (H1.out _ (below_regrown _ _ _)) | exact Calls.regrown_of (H7.out _ (below_regrown _ _ _))) | (go_at_call 19; first | with_reducible exact Calls.regrown_of (H2.out _ (below_regrown _ _ _)) | exact Calls.regrown_of (H3.out _ (below_regrown _ _ _))) | (go_at_call 20; exact Calls.regrown_of (H4.out _ (below_regrown _ _ _))) | (go_at_call 21; exact Calls.regrown_of (H5.out _ (below_regrown _ _ _))) | (go_at_call 15; exact Calls.regrown_of (H6.out _ (below_regrown _ _ _)))))
  refine wpQuiet_nil ?_
  intro wq hw'
  obtain ⟨⟨dq, osq⟩, hw''⟩ := hw'
  have hbq := below_regrown w12 dq osq
  rw [← hw''] at hbq
  clear hw''
  clear q_0 q_1 q_2 q_3 q_4 q_5 q_6 q_7 q_8 q_9 q_10 q_11 q_12 q_13 q_14 q_15 q_16 q_17 q_18 q_19 q_20 q_21 q_22 q_23 q_24 q_25 q_26 q_27 q_28 q_29 q_30 q_31 q_32 q_33 q_34
  replace HB := Lib.hid (below_go HB.out hbq)
  have RYq := Lib.hid (RY.out.go hbq)
  have RCq := Lib.hid (RC2.out.go hbq)
  have TYq := Lib.hid (T11.out.go hbq)
  have HEq := Lib.hid (HE.out.go hbq)
  clear hbq H1 H2 H3 H4 H5 H6 H7 a0 a1 a2 a3 a4 a5 a6 b0 b1 b2 b3 b4 b5 b6 d0 d1 d2 d3 d4 d5 d6 f0 f1 f2 f3 f4 f5 f6 m0 m1 m2 m3 m4 m5 m6
  clear RC HE RK RP T4 RX T7 RC2 RY T11 RZ T13 RD RQ T16
  have d0 := cell_of_row wq (_) 0 _ _ _ TYq.out
  have d1 := cell_of_row wq (_) 1 _ _ _ TYq.out
  have d2 := cell_of_row wq (_) 2 _ _ _ TYq.out
  have d3 := cell_of_row wq (_) 3 _ _ _ TYq.out
  have d4 := cell_of_row wq (_) 4 _ _ _ TYq.out
  have d5 := cell_of_row wq (_) 5 _ _ _ TYq.out
  have d6 := cell_of_row wq (_) 6 _ _ _ TYq.out
  simp only [List.getElem?_toArray, List.getElem?_cons_zero, List.getElem?_cons_succ] at d0 d1 d2 d3 d4 d5 d6
  cases oky
  · go_wp2_with fail
    go_ret
    exact ⟨rfl, HB.out⟩
  · have hC := impl_PredOk c _ y _ wq RCq.out (Nat.le_refl _) RYq.out (Nat.le_refl _) hyk.out.1 (Nat.le_trans hyk.out.2.2 (by decide))
    have HY := Lib.hid (predR_yes HPy.out.1 rfl)
    rw [HY.out.1] at hC
    have HC := Lib.hid hC
    clear hC
    go_wp2_with fail
    refine HC.out.mono ?_
    rintro e v1 ⟨rfl, hb⟩
    replace HB := Lib.hid (below_go HB.out hb)
    replace RYq := Lib.hid (RYq.out.go hb)
    replace TYq := Lib.hid (TYq.out.go hb)
    replace HEq := Lib.hid (HEq.out.go hb)
    clear hb HC d0 d1 d2 d3 d4 d5 d6
    have d0 := cell_of_row v1 (_) 0 _ _ _ TYq.out
    have d1 := cell_of_row v1 (_) 1 _ _ _ TYq.out
    have d2 := cell_of_row v1 (_) 2 _ _ _ TYq.out
    have d3 := cell_of_row v1 (_) 3 _ _ _ TYq.out
    have d4 := cell_of_row v1 (_) 4 _ _ _ TYq.out
    have d5 := cell_of_row v1 (_) 5 _ _ _ TYq.out
    have d6 := cell_of_row v1 (_) 6 _ _ _ TYq.out
    simp only [List.getElem?_toArray, List.getElem?_cons_zero, List.getElem?_cons_succ] at d0 d1 d2 d3 d4 d5 d6
    have hC := impl_PredText_n _ y (Nat.lt_succ_self _) _ v1 _ _ RYq.out (Nat.le_refl _) hyk.out.1 hyk.out.2.1 (Nat.le_trans hyk.out.2.2 (by decide)) HEq.out.pow
    rw [HY.out.2] at hC
    have HC := Lib.hid hC
    have e5 : (s.toList == s.toList) = true := beq_iff_eq.2 rfl
    clear hC
    go_wp2_with fail
    refine HC.out.mono ?_
    rintro e v2 ⟨rfl, hb⟩
    replace HB := Lib.hid (below_go HB.out hb)
    clear hb HC
    go_wp2_with fail
    go_ret
    exact ⟨rfl, HB.out⟩
end Go.Proofs.YtjogkbkkcaljhaaGreatDoor
