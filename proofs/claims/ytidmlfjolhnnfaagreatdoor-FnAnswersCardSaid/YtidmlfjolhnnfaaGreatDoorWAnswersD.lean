/- The law FnAnswers: the walk. What comes of two lists, one behind the other, is what comes of each, joined. It asks: the table internal/strconv.uint64pow10 is laid (Pow). -/
import Derived.Test.YtidmlfjolhnnfaaGreatDoorWPP
import Derived.Test.YtidmlfjolhnnfaaGreatDoorD38
import Derived.Test.YtidmlfjolhnnfaaGreatDoorLA
import Derived.Test.YtidmlfjolhnnfaaGreatDoorSR
import Derived.Test.YtidmlfjolhnnfaaGreatDoorPA3
import Derived.Test.YtidmlfjolhnnfaaGreatDoorYB
import Derived.Test.YtidmlfjolhnnfaaGreatDoorYD
import Derived.Test.YtidmlfjolhnnfaaGreatDoorJA
import Derived.Test.YtidmlfjolhnnfaaGreatDoorS44
namespace Go.Proofs.YtidmlfjolhnnfaaGreatDoor
open Go.Sort Go.ChangeShapes Go.WideShapes Go.ChangeAt Go.RowKit Go.Lb
theorem answer_of {x r : Res} {f : FuncId} {a : Array Value} {w : World} (h : x = r) (c : Calls Tryz.prog f a w fun e w' => ∃ v, e = .returned (.agg #[v, .int .i64 x.n, .bool x.has, .int .i64 x.v.ty, .int .i64 x.v.n, .string x.v.s]) ∧ OwnR 51 25 w' w.heap.size w'.heap.size v x.rows ∧ Below w.heap.size w w') :
    Calls Tryz.prog f a w fun e w' => ∃ v, e = .returned (.agg #[v, .int .i64 r.n, .bool r.has, .int .i64 r.v.ty, .int .i64 r.v.n, .string r.v.s]) ∧ OwnR 51 25 w' w.heap.size w'.heap.size v r.rows ∧ Below w.heap.size w w' := h ▸ c
theorem text_of {x t : ByteArray} {f : FuncId} {a : Array Value} {w : World} (h : x = t) (c : Calls Tryz.prog f a w fun e w' => e = .returned (.string x) ∧ Below w.heap.size w w') : Calls Tryz.prog f a w fun e w' => e = .returned (.string t) ∧ Below w.heap.size w w' := h ▸ c
theorem bool_of {x t : Bool} {f : FuncId} {a : Array Value} {w : World} (h : x = t) (c : Calls Tryz.prog f a w fun e w' => e = .returned (.bool x) ∧ Below w.heap.size w w') : Calls Tryz.prog f a w fun e w' => e = .returned (.bool t) ∧ Below w.heap.size w w' := h ▸ c
theorem sl_drop {w : World} {lo hi : Nat} {A : Option Addr} {c k : Nat} {l : List R} (h : RdR w lo hi (.slice A l.length c) l) (hk : k ≤ l.length) : RdR w lo hi (.slice (if c = k then A else Option.map (fun x => x.add (k * 2)) A) (l.length - k) (c - k)) (l.drop k) := by
  obtain ⟨A', c', e, hl, hc, -⟩ := id h
  injection e with e1 e2 e3
  subst e1 e3
  by_cases hkl : k = l.length
  · refine ⟨_, _, by rw [List.length_drop], by rw [List.length_drop]; omega, by omega, fun i hi => ?_⟩
    rw [List.length_drop] at hi
    omega
  · obtain ⟨b, off, x, sv, rfl, -⟩ := h.at (k := k) (by omega)
    rw [if_neg (by omega)]
    have e : Option.map (fun x : Addr => x.add (k * 2)) (some ⟨b, off, none⟩) = some ⟨b, off + k * 2, none⟩ := by
      simp only [Option.map_some, Addr.add]
      split
      · rename_i h0
        rw [h0]
        rfl
      · rfl
    rw [e]
    exact RdR.drop h hk
theorem sl_drop2 {w : World} {lo hi : Nat} {A A8 : Option Addr} {c k : Nat} {l : List R} (h : RdR w lo hi (.slice A l.length c) l) (hk : k ≤ l.length) (h8 : (if c = k then A else Option.map (fun x => x.add (k * 2)) A) = A8) : RdR w lo hi (.slice A8 (l.length - k) (c - k)) (l.drop k) := h8 ▸ sl_drop h hk

set_option maxRecDepth 20000 in
set_option maxHeartbeats 16000000 in
theorem wAnswers (code : List UInt8) (x : Value) (w : World) (hx : RdB w 0 w.heap.size x code) (ht0P : Pow w) :
    Calls Tryz.prog 3 #[x] w fun e w' => e = .returned (.bool true) ∧ Below w.heap.size w w' := by
  go_enter Tryz.func3, Tryz.ntmps3
  go_wp2_with fail
  refine (law_big code _ w hx).mono ?_
  rintro e w1 ⟨rfl, rfl⟩
  by_cases hbg : 1048576 < (code.length : Int)
  · have hd := decide_eq_true hbg
    go_wp2_with fail
    go_ret
    exact ⟨rfl, Below.refl _ _⟩
  have hd := decide_eq_false hbg
  have hcl : code.length ≤ 1048576 := by omega
  have RC := Lib.hid hx
  have HB := Lib.hid (Below.refl w.heap.size w)
  go_wp2_with fail
  clear hbg hd hx
  have hcl2 := hcl
  have hC := spec_DrawAnswer_i code _ w RC.out (Nat.le_refl _) hcl
  have HC := Lib.hid hC
  clear hC
  refine HC.out.mono ?_
  rintro e w1 ⟨q, sv, ov, lv, l, rfl, hrp, hri, hrl, hqk, hlk, hb⟩
  replace RC := Lib.hid (RC.out.go hb)
  replace HB := Lib.hid (below_go HB.out hb)
  have hr := RdP.top hrp (Nat.le_refl _)
  obtain ⟨A2, c2, rfl, -, -⟩ := hr.form
  have RP := Lib.hid hr
  clear hr
  have hr := RdI.top hri (Nat.le_refl _)
  obtain ⟨A3, c3, rfl, -, -⟩ := hr.form
  have RI := Lib.hid hr
  clear hr
  have hr := RdR.top hrl (Nat.le_refl _)
  obtain ⟨A4, c4, rfl, -, -⟩ := hr.form
  have RL := Lib.hid hr
  clear hr
  clear hrp hri hrl
  clear hb HC
  have hup := up_a1 w1 (.cells #[.int .i64 q.kind, .int .i64 q.p.kind, .int .i64 q.p.col, .int .i64 q.p.op, .int .i64 q.p.v.ty, .int .i64 q.p.v.n, .string q.p.v.s, .slice A2 q.p.l.length c2, .int .i64 q.col, .slice A3 q.out.length c3] 31)
  have T3 : BlkAt (w1.alloc (.cells #[.int .i64 q.kind, .int .i64 q.p.kind, .int .i64 q.p.col, .int .i64 q.p.op, .int .i64 q.p.v.ty, .int .i64 q.p.v.n, .string q.p.v.s, .slice A2 q.p.l.length c2, .int .i64 q.col, .slice A3 q.out.length c3] 31)) (w1.heap.size) (.cells #[.int .i64 q.kind, .int .i64 q.p.kind, .int .i64 q.p.col, .int .i64 q.p.op, .int .i64 q.p.v.ty, .int .i64 q.p.v.n, .string q.p.v.s, .slice A2 q.p.l.length c2, .int .i64 q.col, .slice A3 q.out.length c3] 31) := by
    exact heap_new_at (by simp)
  obtain ⟨w2, hW⟩ : ∃ W, (w1.alloc (.cells #[.int .i64 q.kind, .int .i64 q.p.kind, .int .i64 q.p.col, .int .i64 q.p.op, .int .i64 q.p.v.ty, .int .i64 q.p.v.n, .string q.p.v.s, .slice A2 q.p.l.length c2, .int .i64 q.col, .slice A3 q.out.length c3] 31)) = W := ⟨_, rfl⟩
  rw [hW] at hup T3
  replace RC := Lib.hid (RC.out.go hup)
  replace RP := Lib.hid (RP.out.go hup)
  replace RI := Lib.hid (RI.out.go hup)
  replace RL := Lib.hid (RL.out.go hup)
  replace HB := Lib.hid (below_go HB.out hup)
  replace T3 := Lib.hid T3
  have HW := Lib.hid hW
  clear hW hup
  go_upto_if 21 with (fail)
  try rw [HW.out]
  clear HW
  have hll := hlk.out.1
  have hls := Lib.hid (lensR_smallI hlk.out.2 hlk.out.1)
  have hqo := hqk.out.2.2
  have hat := Lib.hid (law_at code _ w2 RC.out (Nat.le_refl _) hcl)
  go_cut [5] from 19 to 27 (fun t wx => ∃ k : Nat, t = .int .i64 k ∧ k ≤ l.length ∧ w2 = wx)
  case first =>
    by_cases hl0 : l.length = 0
    · have hd : decide ((0 : Int) < (l.length : Int)) = false := decide_eq_false (by omega)
      go_wp2_with fail
      go_meet
      exact ⟨0, rfl, by omega, rfl⟩
    · have hd : decide ((0 : Int) < (l.length : Int)) = true := decide_eq_true (by omega)
      have hw1 : IntKind.i64.wrap ((l.length : Int) + 1) = (l.length : Int) + 1 := IntWalk.i64_in _ ⟨by omega, by omega⟩
      have hne : ((l.length : Int) + 1) ≠ 0 := by omega
      go_wp2_with (go_at_call 6; refine hat.out.mono ?_; rintro e we ⟨n, rfl, hn, rfl⟩)
      go_meet
      exact ⟨n % (l.length + 1), (by first | simp | (push_cast; rfl)), Nat.lt_succ_iff.1 (Nat.mod_lt _ (by omega)), rfl⟩
  case rest =>
    obtain ⟨k, rfl, hk, rfl⟩ := hcut
    clear hat
    obtain ⟨rr, hrr⟩ : ∃ rr, answer q l = rr := ⟨_, rfl⟩
    obtain ⟨ra, hra⟩ : ∃ ra, answer q (l.take k) = ra := ⟨_, rfl⟩
    obtain ⟨rb, hrb⟩ : ∃ rb, answer q (l.drop k) = rb := ⟨_, rfl⟩
    have Hrr := Lib.hid hrr
    have Hra := Lib.hid hra
    have Hrb := Lib.hid hrb
    clear hrr hra hrb
    have hlt := Lib.hid (lensR_smallI (SmallI.take hlk.out.2 k) (by rw [List.length_take]; omega))
    have hld := Lib.hid (lensR_smallI (SmallI.drop hlk.out.2 k) (by rw [List.length_drop]; omega))
    have k0 := cell_of_row w2 (w1.heap.size) 0 _ _ _ T3.out
    have k1 := cell_of_row w2 (w1.heap.size) 1 _ _ _ T3.out
    have k2 := cell_of_row w2 (w1.heap.size) 2 _ _ _ T3.out
    have k3 := cell_of_row w2 (w1.heap.size) 3 _ _ _ T3.out
    have k4 := cell_of_row w2 (w1.heap.size) 4 _ _ _ T3.out
    have k5 := cell_of_row w2 (w1.heap.size) 5 _ _ _ T3.out
    have k6 := cell_of_row w2 (w1.heap.size) 6 _ _ _ T3.out
    have k7 := cell_of_row w2 (w1.heap.size) 7 _ _ _ T3.out
    have k8 := cell_of_row w2 (w1.heap.size) 8 _ _ _ T3.out
    have k9 := cell_of_row w2 (w1.heap.size) 9 _ _ _ T3.out
    simp only [List.getElem?_toArray, List.getElem?_cons_zero, List.getElem?_cons_succ] at k0 k1 k2 k3 k4 k5 k6 k7 k8 k9
    have hC := answer_of Hrr.out (impl_Answer q _ _ l _ w2 RP.out (Nat.le_refl _) RI.out (Nat.le_refl _) RL.out (Nat.le_refl _) ⟨by omega, hls.out⟩ (by omega))
    have HC := Lib.hid hC
    clear hC
    go_wp2_with fail
    refine HC.out.mono ?_
    rintro e w3 ⟨_, rfl, ho, hb⟩
    replace RC := Lib.hid (RC.out.go hb)
    replace RP := Lib.hid (RP.out.go hb)
    replace RI := Lib.hid (RI.out.go hb)
    replace RL := Lib.hid (RL.out.go hb)
    replace T3 := Lib.hid (T3.out.go hb)
    replace HB := Lib.hid (below_go HB.out hb)
    have hr := ho.topR
    obtain ⟨A6, c6, rfl, -, -⟩ := hr.form
    have RR := Lib.hid hr
    clear hr
    clear ho k0 k1 k2 k3 k4 k5 k6 k7 k8 k9
    clear hb HC
    have hup := up_a1 w3 (.cells #[.slice A6 rr.rows.length c6, .int .i64 rr.n, .bool rr.has, .int .i64 rr.v.ty, .int .i64 rr.v.n, .string rr.v.s] 37)
    have T6 : BlkAt (w3.alloc (.cells #[.slice A6 rr.rows.length c6, .int .i64 rr.n, .bool rr.has, .int .i64 rr.v.ty, .int .i64 rr.v.n, .string rr.v.s] 37)) (w3.heap.size) (.cells #[.slice A6 rr.rows.length c6, .int .i64 rr.n, .bool rr.has, .int .i64 rr.v.ty, .int .i64 rr.v.n, .string rr.v.s] 37) := by
      exact heap_new_at (by simp)
    obtain ⟨w4, hW⟩ : ∃ W, (w3.alloc (.cells #[.slice A6 rr.rows.length c6, .int .i64 rr.n, .bool rr.has, .int .i64 rr.v.ty, .int .i64 rr.v.n, .string rr.v.s] 37)) = W := ⟨_, rfl⟩
    rw [hW] at hup T6
    replace RC := Lib.hid (RC.out.go hup)
    replace RP := Lib.hid (RP.out.go hup)
    replace RI := Lib.hid (RI.out.go hup)
    replace RL := Lib.hid (RL.out.go hup)
    replace T3 := Lib.hid (T3.out.go hup)
    replace RR := Lib.hid (RR.out.go hup)
    replace HB := Lib.hid (below_go HB.out hup)
    replace T6 := Lib.hid T6
    have HW := Lib.hid hW
    clear hW hup
    go_upto_region 8 with fail
    try rw [HW.out]
    clear HW
    have hkc : k ≤ c4 := by
      obtain ⟨_, _, e, h, -⟩ := RL.out.form
      injection e with _ _ e
      omega
    have HLv := Lib.hid (RdR.take RL.out hk)
    have TC := Lib.hid (fun W (h : Below w4.heap.size w4 W) => answer_of Hra.out (impl_Answer q _ _ (l.take k) _ W (RP.out.below h (Nat.le_refl _)) h.size (RI.out.below h (Nat.le_refl _)) h.size (HLv.out.below h (Nat.le_refl _)) h.size ⟨by simp; omega, hlt.out⟩ (by omega)))
    go_cut [7] from 31 to 35 (fun t wx => ∃ (bx : Nat) (vx : Value), t = .pointer (some ⟨bx, 0, none⟩) ∧ w4.heap.size ≤ bx ∧ BlkAt wx bx (.cells #[vx, .int .i64 ra.n, .bool ra.has, .int .i64 ra.v.ty, .int .i64 ra.v.n, .string ra.v.s] 37) ∧ RdR wx 0 wx.heap.size vx ra.rows ∧ Below w4.heap.size w4 wx)
    case first =>
      refine wp_region_T (S := fun w' => w'.heap[w1.heap.size]? = some (.cells #[.int .i64 q.kind, .int .i64 q.p.kind, .int .i64 q.p.col, .int .i64 q.p.op, .int .i64 q.p.v.ty, .int .i64 q.p.v.n, .string q.p.v.s, .slice A2 q.p.l.length c2, .int .i64 q.col, .slice A3 q.out.length c3] 31)) (n := 6) (by kernel_rfl) ?_
      obtain ⟨X0, hX0⟩ : ∃ X0, w4.drew = X0 := ⟨_, rfl⟩
      have HB0 : Below w4.heap.size w4 X0 := hX0 ▸ (Below.refl _ _).drew
      rw [hX0]
      clear hX0
      have F0 := T3.out.go HB0
      unfold BlkAt at F0
      refine wpAnyT_take (i := 0) (oi := _) (v := ?_) rfl (by kernel_rfl) (by kernel_rfl) (by kernel_rfl) (by kernel_rfl) (fun _ _ _ h => h) (Or.inl ⟨by rfl, ?_⟩) F0 ?_
      rotate_left
      · (intro w' hSw; (try dsimp only at hSw); have r0 := cell_of_row w' _ 0 _ _ _ hSw; have r1 := cell_of_row w' _ 1 _ _ _ hSw; have r2 := cell_of_row w' _ 2 _ _ _ hSw; have r3 := cell_of_row w' _ 3 _ _ _ hSw; have r4 := cell_of_row w' _ 4 _ _ _ hSw; have r5 := cell_of_row w' _ 5 _ _ _ hSw; have r6 := cell_of_row w' _ 6 _ _ _ hSw; have r7 := cell_of_row w' _ 7 _ _ _ hSw; have r8 := cell_of_row w' _ 8 _ _ _ hSw; have r9 := cell_of_row w' _ 9 _ _ _ hSw; simp only [List.getElem?_toArray, List.getElem?_cons_zero, List.getElem?_cons_succ] at r0 r1 r2 r3 r4 r5 r6 r7 r8 r9; clear hSw; go_simp) <;> with_reducible rfl
      try simp only [Act.put, List.setIfInBounds_toArray, List.set_cons_zero, List.set_cons_succ]
      refine wpAnyT_take (i := 1) (oi := _) (v := ?_) rfl (by kernel_rfl) (by kernel_rfl) (by kernel_rfl) (by kernel_rfl) (fun _ _ _ h => h) (Or.inl ⟨by rfl, ?_⟩) F0 ?_
      rotate_left
      · (intro w' hSw; (try dsimp only at hSw); go_simp) <;> with_reducible rfl
      try simp only [Act.put, List.setIfInBounds_toArray, List.set_cons_zero, List.set_cons_succ]
      refine wpAnyT_take (i := 2) (oi := _) (v := ?_) rfl (by kernel_rfl) (by kernel_rfl) (by kernel_rfl) (by kernel_rfl) (fun _ _ _ h => h) (Or.inl ⟨by rfl, ?_⟩) F0 ?_
      rotate_left
      · (intro w' hSw; (try dsimp only at hSw); go_simp) <;> with_reducible rfl
      try simp only [Act.put, List.setIfInBounds_toArray, List.set_cons_zero, List.set_cons_succ]
      refine wpAnyT_take (i := 3) (oi := _) (v := ?_) rfl (by kernel_rfl) (by kernel_rfl) (by kernel_rfl) (by kernel_rfl) (fun _ _ _ h => h) (Or.inl ⟨by rfl, ?_⟩) F0 ?_
      rotate_left
      · (intro w' hSw; (try dsimp only at hSw); go_simp) <;> with_reducible rfl
      try simp only [Act.put, List.setIfInBounds_toArray, List.set_cons_zero, List.set_cons_succ]
      refine wpAnyT_two (k := 4) (k2 := 5) (o := _) (o2 := _) (by kernel_rfl) rfl rfl rfl rfl ?_ ?_
      · intro K hK
        go_simp
        refine (TC.out X0 HB0).mono ?_
        rintro e X1 ⟨vx, rfl, ho, hb⟩
        have hr := ho.rdR
        obtain ⟨Ax, cx, rfl, -, -⟩ := hr.form
        have HB1 := HB0.trans (hb.mono HB0.size)
        have sX1 := hb.size
        refine hK.out _ _ (fun _ => T3.out.go (HB1)) ?_
        clear hK ho
        try simp only [Act.put, List.setIfInBounds_toArray, List.set_cons_zero, List.set_cons_succ]
        refine wpAnyT_one (k := 5) (o := _) (by kernel_rfl) rfl rfl ?_
        intro K hK
        go_simp
        have up : Below X1.heap.size X1 (X1.alloc (.cells #[.slice none 0 0, .int .i64 0, .bool false, .int .i64 0, .int .i64 0, .string ⟨#[]⟩] 37)) := up_a1 X1 _
        have HB2 : Below w4.heap.size w4 (X1.alloc (.cells #[.slice none 0 0, .int .i64 0, .bool false, .int .i64 0, .int .i64 0, .string ⟨#[]⟩] 37)) := HB1.trans (up.mono HB1.size)
        have GZ := heap_alloc_new X1 (.cells #[.slice none 0 0, .int .i64 0, .bool false, .int .i64 0, .int .i64 0, .string ⟨#[]⟩] 37)
        have sX2 : X1.heap.size < (X1.alloc (.cells #[.slice none 0 0, .int .i64 0, .bool false, .int .i64 0, .int .i64 0, .string ⟨#[]⟩] 37)).heap.size := by simp
        refine hK.out _ _ (fun _ => T3.out.go (HB2)) ?_
        clear hK
        generalize (X1.alloc (.cells #[.slice none 0 0, .int .i64 0, .bool false, .int .i64 0, .int .i64 0, .string ⟨#[]⟩] 37)) = X2 at *
        have GZ := Lib.hid GZ
        try simp only [Act.put, List.setIfInBounds_toArray, List.set_cons_zero, List.set_cons_succ]
        replace hr := hr.below up (Nat.le_refl _)
        have hxb := HB1.size
        have hch : Chg (X1.heap.size) (X1.heap.size + 1) X2 ((((((X2.setCell ⟨X1.heap.size, 0, none⟩ (.slice Ax ra.rows.length cx)).setCell ⟨X1.heap.size, 1, none⟩ (.int .i64 ra.n)).setCell ⟨X1.heap.size, 2, none⟩ (.bool ra.has)).setCell ⟨X1.heap.size, 3, none⟩ (.int .i64 ra.v.ty)).setCell ⟨X1.heap.size, 4, none⟩ (.int .i64 ra.v.n)).setCell ⟨X1.heap.size, 5, none⟩ (.string ra.v.s)) := ((((((chg_setC _ _ _ _).trans (chg_setC _ _ _ _)).trans (chg_setC _ _ _ _)).trans (chg_setC _ _ _ _)).trans (chg_setC _ _ _ _)).trans (chg_setC _ _ _ _))
        have hsz : ((((((X2.setCell ⟨X1.heap.size, 0, none⟩ (.slice Ax ra.rows.length cx)).setCell ⟨X1.heap.size, 1, none⟩ (.int .i64 ra.n)).setCell ⟨X1.heap.size, 2, none⟩ (.bool ra.has)).setCell ⟨X1.heap.size, 3, none⟩ (.int .i64 ra.v.ty)).setCell ⟨X1.heap.size, 4, none⟩ (.int .i64 ra.v.n)).setCell ⟨X1.heap.size, 5, none⟩ (.string ra.v.s)).heap.size = X2.heap.size := by simp [World.setCell]
        have G6 := set_six (v0 := .slice Ax ra.rows.length cx) (v1 := .int .i64 ra.n) (v2 := .bool ra.has) (v3 := .int .i64 ra.v.ty) (v4 := .int .i64 ra.v.n) (v5 := .string ra.v.s) GZ.out
        have RR := Lib.hid (show ∃ (bx : Nat) (vx : Value), (Value.pointer (some ⟨X1.heap.size, 0, none⟩)) = .pointer (some ⟨bx, 0, none⟩) ∧ w4.heap.size ≤ bx ∧ BlkAt ((((((X2.setCell ⟨X1.heap.size, 0, none⟩ (.slice Ax ra.rows.length cx)).setCell ⟨X1.heap.size, 1, none⟩ (.int .i64 ra.n)).setCell ⟨X1.heap.size, 2, none⟩ (.bool ra.has)).setCell ⟨X1.heap.size, 3, none⟩ (.int .i64 ra.v.ty)).setCell ⟨X1.heap.size, 4, none⟩ (.int .i64 ra.v.n)).setCell ⟨X1.heap.size, 5, none⟩ (.string ra.v.s)) bx (.cells #[vx, .int .i64 ra.n, .bool ra.has, .int .i64 ra.v.ty, .int .i64 ra.v.n, .string ra.v.s] 37) ∧ RdR ((((((X2.setCell ⟨X1.heap.size, 0, none⟩ (.slice Ax ra.rows.length cx)).setCell ⟨X1.heap.size, 1, none⟩ (.int .i64 ra.n)).setCell ⟨X1.heap.size, 2, none⟩ (.bool ra.has)).setCell ⟨X1.heap.size, 3, none⟩ (.int .i64 ra.v.ty)).setCell ⟨X1.heap.size, 4, none⟩ (.int .i64 ra.v.n)).setCell ⟨X1.heap.size, 5, none⟩ (.string ra.v.s)) 0 ((((((X2.setCell ⟨X1.heap.size, 0, none⟩ (.slice Ax ra.rows.length cx)).setCell ⟨X1.heap.size, 1, none⟩ (.int .i64 ra.n)).setCell ⟨X1.heap.size, 2, none⟩ (.bool ra.has)).setCell ⟨X1.heap.size, 3, none⟩ (.int .i64 ra.v.ty)).setCell ⟨X1.heap.size, 4, none⟩ (.int .i64 ra.v.n)).setCell ⟨X1.heap.size, 5, none⟩ (.string ra.v.s)).heap.size vx ra.rows ∧ Below w4.heap.size w4 ((((((X2.setCell ⟨X1.heap.size, 0, none⟩ (.slice Ax ra.rows.length cx)).setCell ⟨X1.heap.size, 1, none⟩ (.int .i64 ra.n)).setCell ⟨X1.heap.size, 2, none⟩ (.bool ra.has)).setCell ⟨X1.heap.size, 3, none⟩ (.int .i64 ra.v.ty)).setCell ⟨X1.heap.size, 4, none⟩ (.int .i64 ra.v.n)).setCell ⟨X1.heap.size, 5, none⟩ (.string ra.v.s)) from ⟨X1.heap.size, _, rfl, hxb, G6, (hr.same (.of_chg hch (by omega) (by omega))).more (Nat.zero_le _) (by rw [hsz]; omega), HB2.trans ((hch.below (Nat.le_refl _) (by omega)).mono hxb)⟩)
        clear G6 hch hsz
        have t0 := cell_of_row X2 (X1.heap.size) 0 _ _ _ GZ.out
        have t1 := cell_of_row X2 (X1.heap.size) 1 _ _ _ GZ.out
        have t2 := cell_of_row X2 (X1.heap.size) 2 _ _ _ GZ.out
        have t3 := cell_of_row X2 (X1.heap.size) 3 _ _ _ GZ.out
        have t4 := cell_of_row X2 (X1.heap.size) 4 _ _ _ GZ.out
        have t5 := cell_of_row X2 (X1.heap.size) 5 _ _ _ GZ.out
        simp only [List.getElem?_toArray, List.getElem?_cons_zero, List.getElem?_cons_succ] at t0 t1 t2 t3 t4 t5
        have ft := fun o => frozen_of_row X2 (X1.heap.size) o _ _ GZ.out
        refine wpAnyT_one (k := 6) (o := _) (by kernel_rfl) rfl rfl ?_
        intro K hK
        go_simp
        refine hK.out _ _ (fun h => absurd rfl h) ?_
        clear hK
        refine wpAnyT_done (by kernel_rfl) ?_ _
        go_wp2_with fail
        go_meet
        with_reducible exact RR.out
      · intro K hK
        go_simp
        have up : Below X0.heap.size X0 (X0.alloc (.cells #[.slice none 0 0, .int .i64 0, .bool false, .int .i64 0, .int .i64 0, .string ⟨#[]⟩] 37)) := up_a1 X0 _
        have HB1 : Below w4.heap.size w4 (X0.alloc (.cells #[.slice none 0 0, .int .i64 0, .bool false, .int .i64 0, .int .i64 0, .string ⟨#[]⟩] 37)) := HB0.trans (up.mono HB0.size)
        have GZ := heap_alloc_new X0 (.cells #[.slice none 0 0, .int .i64 0, .bool false, .int .i64 0, .int .i64 0, .string ⟨#[]⟩] 37)
        have sX1 : X0.heap.size < (X0.alloc (.cells #[.slice none 0 0, .int .i64 0, .bool false, .int .i64 0, .int .i64 0, .string ⟨#[]⟩] 37)).heap.size := by simp
        refine hK.out _ _ (fun _ => T3.out.go (HB1)) ?_
        clear hK
        generalize (X0.alloc (.cells #[.slice none 0 0, .int .i64 0, .bool false, .int .i64 0, .int .i64 0, .string ⟨#[]⟩] 37)) = X1 at *
        have GZ := Lib.hid GZ
        try simp only [Act.put, List.setIfInBounds_toArray, List.set_cons_zero, List.set_cons_succ]
        refine wpAnyT_one (k := 4) (o := _) (by kernel_rfl) rfl rfl ?_
        intro K hK
        go_simp
        refine (TC.out X1 HB1).mono ?_
        rintro e X2 ⟨vx, rfl, ho, hb⟩
        have hr := ho.rdR
        obtain ⟨Ax, cx, rfl, -, -⟩ := hr.form
        have HB2 := HB1.trans (hb.mono HB1.size)
        have sX2 := hb.size
        refine hK.out _ _ (fun _ => T3.out.go (HB2)) ?_
        clear hK ho
        try simp only [Act.put, List.setIfInBounds_toArray, List.set_cons_zero, List.set_cons_succ]
        replace GZ := Lib.hid ((hb.block _ (by omega)).trans GZ.out)
        have hxb := HB0.size
        have hch : Chg (X0.heap.size) (X0.heap.size + 1) X2 ((((((X2.setCell ⟨X0.heap.size, 0, none⟩ (.slice Ax ra.rows.length cx)).setCell ⟨X0.heap.size, 1, none⟩ (.int .i64 ra.n)).setCell ⟨X0.heap.size, 2, none⟩ (.bool ra.has)).setCell ⟨X0.heap.size, 3, none⟩ (.int .i64 ra.v.ty)).setCell ⟨X0.heap.size, 4, none⟩ (.int .i64 ra.v.n)).setCell ⟨X0.heap.size, 5, none⟩ (.string ra.v.s)) := ((((((chg_setC _ _ _ _).trans (chg_setC _ _ _ _)).trans (chg_setC _ _ _ _)).trans (chg_setC _ _ _ _)).trans (chg_setC _ _ _ _)).trans (chg_setC _ _ _ _))
        have hsz : ((((((X2.setCell ⟨X0.heap.size, 0, none⟩ (.slice Ax ra.rows.length cx)).setCell ⟨X0.heap.size, 1, none⟩ (.int .i64 ra.n)).setCell ⟨X0.heap.size, 2, none⟩ (.bool ra.has)).setCell ⟨X0.heap.size, 3, none⟩ (.int .i64 ra.v.ty)).setCell ⟨X0.heap.size, 4, none⟩ (.int .i64 ra.v.n)).setCell ⟨X0.heap.size, 5, none⟩ (.string ra.v.s)).heap.size = X2.heap.size := by simp [World.setCell]
        have G6 := set_six (v0 := .slice Ax ra.rows.length cx) (v1 := .int .i64 ra.n) (v2 := .bool ra.has) (v3 := .int .i64 ra.v.ty) (v4 := .int .i64 ra.v.n) (v5 := .string ra.v.s) GZ.out
        have RR := Lib.hid (show ∃ (bx : Nat) (vx : Value), (Value.pointer (some ⟨X0.heap.size, 0, none⟩)) = .pointer (some ⟨bx, 0, none⟩) ∧ w4.heap.size ≤ bx ∧ BlkAt ((((((X2.setCell ⟨X0.heap.size, 0, none⟩ (.slice Ax ra.rows.length cx)).setCell ⟨X0.heap.size, 1, none⟩ (.int .i64 ra.n)).setCell ⟨X0.heap.size, 2, none⟩ (.bool ra.has)).setCell ⟨X0.heap.size, 3, none⟩ (.int .i64 ra.v.ty)).setCell ⟨X0.heap.size, 4, none⟩ (.int .i64 ra.v.n)).setCell ⟨X0.heap.size, 5, none⟩ (.string ra.v.s)) bx (.cells #[vx, .int .i64 ra.n, .bool ra.has, .int .i64 ra.v.ty, .int .i64 ra.v.n, .string ra.v.s] 37) ∧ RdR ((((((X2.setCell ⟨X0.heap.size, 0, none⟩ (.slice Ax ra.rows.length cx)).setCell ⟨X0.heap.size, 1, none⟩ (.int .i64 ra.n)).setCell ⟨X0.heap.size, 2, none⟩ (.bool ra.has)).setCell ⟨X0.heap.size, 3, none⟩ (.int .i64 ra.v.ty)).setCell ⟨X0.heap.size, 4, none⟩ (.int .i64 ra.v.n)).setCell ⟨X0.heap.size, 5, none⟩ (.string ra.v.s)) 0 ((((((X2.setCell ⟨X0.heap.size, 0, none⟩ (.slice Ax ra.rows.length cx)).setCell ⟨X0.heap.size, 1, none⟩ (.int .i64 ra.n)).setCell ⟨X0.heap.size, 2, none⟩ (.bool ra.has)).setCell ⟨X0.heap.size, 3, none⟩ (.int .i64 ra.v.ty)).setCell ⟨X0.heap.size, 4, none⟩ (.int .i64 ra.v.n)).setCell ⟨X0.heap.size, 5, none⟩ (.string ra.v.s)).heap.size vx ra.rows ∧ Below w4.heap.size w4 ((((((X2.setCell ⟨X0.heap.size, 0, none⟩ (.slice Ax ra.rows.length cx)).setCell ⟨X0.heap.size, 1, none⟩ (.int .i64 ra.n)).setCell ⟨X0.heap.size, 2, none⟩ (.bool ra.has)).setCell ⟨X0.heap.size, 3, none⟩ (.int .i64 ra.v.ty)).setCell ⟨X0.heap.size, 4, none⟩ (.int .i64 ra.v.n)).setCell ⟨X0.heap.size, 5, none⟩ (.string ra.v.s)) from ⟨X0.heap.size, _, rfl, hxb, G6, (hr.same (.of_chg hch (by omega) (by omega))).more (Nat.zero_le _) (by rw [hsz]; omega), HB2.trans ((hch.below (Nat.le_refl _) (by omega)).mono hxb)⟩)
        clear G6 hch hsz
        have t0 := cell_of_row X2 (X0.heap.size) 0 _ _ _ GZ.out
        have t1 := cell_of_row X2 (X0.heap.size) 1 _ _ _ GZ.out
        have t2 := cell_of_row X2 (X0.heap.size) 2 _ _ _ GZ.out
        have t3 := cell_of_row X2 (X0.heap.size) 3 _ _ _ GZ.out
        have t4 := cell_of_row X2 (X0.heap.size) 4 _ _ _ GZ.out
        have t5 := cell_of_row X2 (X0.heap.size) 5 _ _ _ GZ.out
        simp only [List.getElem?_toArray, List.getElem?_cons_zero, List.getElem?_cons_succ] at t0 t1 t2 t3 t4 t5
        have ft := fun o => frozen_of_row X2 (X0.heap.size) o _ _ GZ.out
        refine wpAnyT_one (k := 6) (o := _) (by kernel_rfl) rfl rfl ?_
        intro K hK
        go_simp
        refine hK.out _ _ (fun h => absurd rfl h) ?_
        clear hK
        refine wpAnyT_done (by kernel_rfl) ?_ _
        go_wp2_with fail
        go_meet
        with_reducible exact RR.out

    case rest =>
      obtain ⟨b7, vx, rfl, -, hB, hR, hb⟩ := hcut
      rename World => w5
      obtain ⟨A70, c70, rfl, -, -⟩ := hR.form
      clear TC HLv hkc
      replace RC := Lib.hid (RC.out.go hb)
      replace RP := Lib.hid (RP.out.go hb)
      replace RI := Lib.hid (RI.out.go hb)
      replace RL := Lib.hid (RL.out.go hb)
      replace T3 := Lib.hid (T3.out.go hb)
      replace RR := Lib.hid (RR.out.go hb)
      replace T6 := Lib.hid (T6.out.go hb)
      replace HB := Lib.hid (below_go HB.out hb)
      have T7 := Lib.hid hB
      have RRa := Lib.hid hR
      clear hB hR hb
      go_upto_region 9 with fail
      obtain ⟨A8, hA8⟩ : ∃ A8, (if c4 = k then A4 else Option.map (fun x => x.add (k * 2)) A4) = A8 := ⟨_, rfl⟩
      have hkc : k ≤ c4 := by
        obtain ⟨_, _, e, h, -⟩ := RL.out.form
        injection e with _ _ e
        omega
      have HLv := Lib.hid (sl_drop2 RL.out hk hA8)
      have TC := Lib.hid (fun W (h : Below w5.heap.size w5 W) => answer_of Hrb.out (impl_Answer q _ _ (l.drop k) _ W (RP.out.below h (Nat.le_refl _)) h.size (RI.out.below h (Nat.le_refl _)) h.size (HLv.out.below h (Nat.le_refl _)) h.size ⟨by simp; omega, hld.out⟩ (by omega)))
      go_cut [8] from 36 to 40 (fun t wx => ∃ (bx : Nat) (vx : Value), t = .pointer (some ⟨bx, 0, none⟩) ∧ w5.heap.size ≤ bx ∧ BlkAt wx bx (.cells #[vx, .int .i64 rb.n, .bool rb.has, .int .i64 rb.v.ty, .int .i64 rb.v.n, .string rb.v.s] 37) ∧ RdR wx 0 wx.heap.size vx rb.rows ∧ Below w5.heap.size w5 wx)
      case first =>
        refine wp_region_T (S := fun w' => w'.heap[w1.heap.size]? = some (.cells #[.int .i64 q.kind, .int .i64 q.p.kind, .int .i64 q.p.col, .int .i64 q.p.op, .int .i64 q.p.v.ty, .int .i64 q.p.v.n, .string q.p.v.s, .slice A2 q.p.l.length c2, .int .i64 q.col, .slice A3 q.out.length c3] 31)) (n := 6) (by kernel_rfl) ?_
        obtain ⟨X0, hX0⟩ : ∃ X0, w5.drew = X0 := ⟨_, rfl⟩
        have HB0 : Below w5.heap.size w5 X0 := hX0 ▸ (Below.refl _ _).drew
        rw [hX0]
        clear hX0
        have F0 := T3.out.go HB0
        unfold BlkAt at F0
        refine wpAnyT_take (i := 0) (oi := _) (v := ?_) rfl (by kernel_rfl) (by kernel_rfl) (by kernel_rfl) (by kernel_rfl) (fun _ _ _ h => h) (Or.inl ⟨by rfl, ?_⟩) F0 ?_
        rotate_left
        · (intro w' hSw; (try dsimp only at hSw); have r0 := cell_of_row w' _ 0 _ _ _ hSw; have r1 := cell_of_row w' _ 1 _ _ _ hSw; have r2 := cell_of_row w' _ 2 _ _ _ hSw; have r3 := cell_of_row w' _ 3 _ _ _ hSw; have r4 := cell_of_row w' _ 4 _ _ _ hSw; have r5 := cell_of_row w' _ 5 _ _ _ hSw; have r6 := cell_of_row w' _ 6 _ _ _ hSw; have r7 := cell_of_row w' _ 7 _ _ _ hSw; have r8 := cell_of_row w' _ 8 _ _ _ hSw; have r9 := cell_of_row w' _ 9 _ _ _ hSw; simp only [List.getElem?_toArray, List.getElem?_cons_zero, List.getElem?_cons_succ] at r0 r1 r2 r3 r4 r5 r6 r7 r8 r9; clear hSw; go_simp) <;> with_reducible rfl
        try simp only [Act.put, List.setIfInBounds_toArray, List.set_cons_zero, List.set_cons_succ]
        refine wpAnyT_take (i := 1) (oi := _) (v := ?_) rfl (by kernel_rfl) (by kernel_rfl) (by kernel_rfl) (by kernel_rfl) (fun _ _ _ h => h) (Or.inl ⟨by rfl, ?_⟩) F0 ?_
        rotate_left
        · (intro w' hSw; (try dsimp only at hSw); go_simp) <;> with_reducible rfl
        try simp only [Act.put, List.setIfInBounds_toArray, List.set_cons_zero, List.set_cons_succ]
        refine wpAnyT_take (i := 2) (oi := _) (v := ?_) rfl (by kernel_rfl) (by kernel_rfl) (by kernel_rfl) (by kernel_rfl) (fun _ _ _ h => h) (Or.inl ⟨by rfl, ?_⟩) F0 ?_
        rotate_left
        · (intro w' hSw; (try dsimp only at hSw); go_simp) <;> with_reducible rfl
        try simp only [Act.put, List.setIfInBounds_toArray, List.set_cons_zero, List.set_cons_succ]
        refine wpAnyT_take (i := 3) (oi := _) (v := ?_) rfl (by kernel_rfl) (by kernel_rfl) (by kernel_rfl) (by kernel_rfl) (fun _ _ _ h => h) (Or.inl ⟨by rfl, ?_⟩) F0 ?_
        rotate_left
        · (intro w' hSw; (try dsimp only at hSw); go_simp) <;> with_reducible rfl
        try simp only [Act.put, List.setIfInBounds_toArray, List.set_cons_zero, List.set_cons_succ]
        refine wpAnyT_two (k := 4) (k2 := 5) (o := _) (o2 := _) (by kernel_rfl) rfl rfl rfl rfl ?_ ?_
        · intro K hK
          go_simp
          refine (TC.out X0 HB0).mono ?_
          rintro e X1 ⟨vx, rfl, ho, hb⟩
          have hr := ho.rdR
          obtain ⟨Ax, cx, rfl, -, -⟩ := hr.form
          have HB1 := HB0.trans (hb.mono HB0.size)
          have sX1 := hb.size
          refine hK.out _ _ (fun _ => T3.out.go (HB1)) ?_
          clear hK ho
          try simp only [Act.put, List.setIfInBounds_toArray, List.set_cons_zero, List.set_cons_succ]
          refine wpAnyT_one (k := 5) (o := _) (by kernel_rfl) rfl rfl ?_
          intro K hK
          go_simp
          have up : Below X1.heap.size X1 (X1.alloc (.cells #[.slice none 0 0, .int .i64 0, .bool false, .int .i64 0, .int .i64 0, .string ⟨#[]⟩] 37)) := up_a1 X1 _
          have HB2 : Below w5.heap.size w5 (X1.alloc (.cells #[.slice none 0 0, .int .i64 0, .bool false, .int .i64 0, .int .i64 0, .string ⟨#[]⟩] 37)) := HB1.trans (up.mono HB1.size)
          have GZ := heap_alloc_new X1 (.cells #[.slice none 0 0, .int .i64 0, .bool false, .int .i64 0, .int .i64 0, .string ⟨#[]⟩] 37)
          have sX2 : X1.heap.size < (X1.alloc (.cells #[.slice none 0 0, .int .i64 0, .bool false, .int .i64 0, .int .i64 0, .string ⟨#[]⟩] 37)).heap.size := by simp
          refine hK.out _ _ (fun _ => T3.out.go (HB2)) ?_
          clear hK
          generalize (X1.alloc (.cells #[.slice none 0 0, .int .i64 0, .bool false, .int .i64 0, .int .i64 0, .string ⟨#[]⟩] 37)) = X2 at *
          have GZ := Lib.hid GZ
          try simp only [Act.put, List.setIfInBounds_toArray, List.set_cons_zero, List.set_cons_succ]
          replace hr := hr.below up (Nat.le_refl _)
          have hxb := HB1.size
          have hch : Chg (X1.heap.size) (X1.heap.size + 1) X2 ((((((X2.setCell ⟨X1.heap.size, 0, none⟩ (.slice Ax rb.rows.length cx)).setCell ⟨X1.heap.size, 1, none⟩ (.int .i64 rb.n)).setCell ⟨X1.heap.size, 2, none⟩ (.bool rb.has)).setCell ⟨X1.heap.size, 3, none⟩ (.int .i64 rb.v.ty)).setCell ⟨X1.heap.size, 4, none⟩ (.int .i64 rb.v.n)).setCell ⟨X1.heap.size, 5, none⟩ (.string rb.v.s)) := ((((((chg_setC _ _ _ _).trans (chg_setC _ _ _ _)).trans (chg_setC _ _ _ _)).trans (chg_setC _ _ _ _)).trans (chg_setC _ _ _ _)).trans (chg_setC _ _ _ _))
          have hsz : ((((((X2.setCell ⟨X1.heap.size, 0, none⟩ (.slice Ax rb.rows.length cx)).setCell ⟨X1.heap.size, 1, none⟩ (.int .i64 rb.n)).setCell ⟨X1.heap.size, 2, none⟩ (.bool rb.has)).setCell ⟨X1.heap.size, 3, none⟩ (.int .i64 rb.v.ty)).setCell ⟨X1.heap.size, 4, none⟩ (.int .i64 rb.v.n)).setCell ⟨X1.heap.size, 5, none⟩ (.string rb.v.s)).heap.size = X2.heap.size := by simp [World.setCell]
          have G6 := set_six (v0 := .slice Ax rb.rows.length cx) (v1 := .int .i64 rb.n) (v2 := .bool rb.has) (v3 := .int .i64 rb.v.ty) (v4 := .int .i64 rb.v.n) (v5 := .string rb.v.s) GZ.out
          have RR := Lib.hid (show ∃ (bx : Nat) (vx : Value), (Value.pointer (some ⟨X1.heap.size, 0, none⟩)) = .pointer (some ⟨bx, 0, none⟩) ∧ w5.heap.size ≤ bx ∧ BlkAt ((((((X2.setCell ⟨X1.heap.size, 0, none⟩ (.slice Ax rb.rows.length cx)).setCell ⟨X1.heap.size, 1, none⟩ (.int .i64 rb.n)).setCell ⟨X1.heap.size, 2, none⟩ (.bool rb.has)).setCell ⟨X1.heap.size, 3, none⟩ (.int .i64 rb.v.ty)).setCell ⟨X1.heap.size, 4, none⟩ (.int .i64 rb.v.n)).setCell ⟨X1.heap.size, 5, none⟩ (.string rb.v.s)) bx (.cells #[vx, .int .i64 rb.n, .bool rb.has, .int .i64 rb.v.ty, .int .i64 rb.v.n, .string rb.v.s] 37) ∧ RdR ((((((X2.setCell ⟨X1.heap.size, 0, none⟩ (.slice Ax rb.rows.length cx)).setCell ⟨X1.heap.size, 1, none⟩ (.int .i64 rb.n)).setCell ⟨X1.heap.size, 2, none⟩ (.bool rb.has)).setCell ⟨X1.heap.size, 3, none⟩ (.int .i64 rb.v.ty)).setCell ⟨X1.heap.size, 4, none⟩ (.int .i64 rb.v.n)).setCell ⟨X1.heap.size, 5, none⟩ (.string rb.v.s)) 0 ((((((X2.setCell ⟨X1.heap.size, 0, none⟩ (.slice Ax rb.rows.length cx)).setCell ⟨X1.heap.size, 1, none⟩ (.int .i64 rb.n)).setCell ⟨X1.heap.size, 2, none⟩ (.bool rb.has)).setCell ⟨X1.heap.size, 3, none⟩ (.int .i64 rb.v.ty)).setCell ⟨X1.heap.size, 4, none⟩ (.int .i64 rb.v.n)).setCell ⟨X1.heap.size, 5, none⟩ (.string rb.v.s)).heap.size vx rb.rows ∧ Below w5.heap.size w5 ((((((X2.setCell ⟨X1.heap.size, 0, none⟩ (.slice Ax rb.rows.length cx)).setCell ⟨X1.heap.size, 1, none⟩ (.int .i64 rb.n)).setCell ⟨X1.heap.size, 2, none⟩ (.bool rb.has)).setCell ⟨X1.heap.size, 3, none⟩ (.int .i64 rb.v.ty)).setCell ⟨X1.heap.size, 4, none⟩ (.int .i64 rb.v.n)).setCell ⟨X1.heap.size, 5, none⟩ (.string rb.v.s)) from ⟨X1.heap.size, _, rfl, hxb, G6, (hr.same (.of_chg hch (by omega) (by omega))).more (Nat.zero_le _) (by rw [hsz]; omega), HB2.trans ((hch.below (Nat.le_refl _) (by omega)).mono hxb)⟩)
          clear G6 hch hsz
          have t0 := cell_of_row X2 (X1.heap.size) 0 _ _ _ GZ.out
          have t1 := cell_of_row X2 (X1.heap.size) 1 _ _ _ GZ.out
          have t2 := cell_of_row X2 (X1.heap.size) 2 _ _ _ GZ.out
          have t3 := cell_of_row X2 (X1.heap.size) 3 _ _ _ GZ.out
          have t4 := cell_of_row X2 (X1.heap.size) 4 _ _ _ GZ.out
          have t5 := cell_of_row X2 (X1.heap.size) 5 _ _ _ GZ.out
          simp only [List.getElem?_toArray, List.getElem?_cons_zero, List.getElem?_cons_succ] at t0 t1 t2 t3 t4 t5
          have ft := fun o => frozen_of_row X2 (X1.heap.size) o _ _ GZ.out
          refine wpAnyT_one (k := 6) (o := _) (by kernel_rfl) rfl rfl ?_
          intro K hK
          go_simp
          refine hK.out _ _ (fun h => absurd rfl h) ?_
          clear hK
          refine wpAnyT_done (by kernel_rfl) ?_ _
          go_wp2_with fail
          go_meet
          with_reducible exact RR.out
        · intro K hK
          go_simp
          have up : Below X0.heap.size X0 (X0.alloc (.cells #[.slice none 0 0, .int .i64 0, .bool false, .int .i64 0, .int .i64 0, .string ⟨#[]⟩] 37)) := up_a1 X0 _
          have HB1 : Below w5.heap.size w5 (X0.alloc (.cells #[.slice none 0 0, .int .i64 0, .bool false, .int .i64 0, .int .i64 0, .string ⟨#[]⟩] 37)) := HB0.trans (up.mono HB0.size)
          have GZ := heap_alloc_new X0 (.cells #[.slice none 0 0, .int .i64 0, .bool false, .int .i64 0, .int .i64 0, .string ⟨#[]⟩] 37)
          have sX1 : X0.heap.size < (X0.alloc (.cells #[.slice none 0 0, .int .i64 0, .bool false, .int .i64 0, .int .i64 0, .string ⟨#[]⟩] 37)).heap.size := by simp
          refine hK.out _ _ (fun _ => T3.out.go (HB1)) ?_
          clear hK
          generalize (X0.alloc (.cells #[.slice none 0 0, .int .i64 0, .bool false, .int .i64 0, .int .i64 0, .string ⟨#[]⟩] 37)) = X1 at *
          have GZ := Lib.hid GZ
          try simp only [Act.put, List.setIfInBounds_toArray, List.set_cons_zero, List.set_cons_succ]
          refine wpAnyT_one (k := 4) (o := _) (by kernel_rfl) rfl rfl ?_
          intro K hK
          go_simp
          refine (TC.out X1 HB1).mono ?_
          rintro e X2 ⟨vx, rfl, ho, hb⟩
          have hr := ho.rdR
          obtain ⟨Ax, cx, rfl, -, -⟩ := hr.form
          have HB2 := HB1.trans (hb.mono HB1.size)
          have sX2 := hb.size
          refine hK.out _ _ (fun _ => T3.out.go (HB2)) ?_
          clear hK ho
          try simp only [Act.put, List.setIfInBounds_toArray, List.set_cons_zero, List.set_cons_succ]
          replace GZ := Lib.hid ((hb.block _ (by omega)).trans GZ.out)
          have hxb := HB0.size
          have hch : Chg (X0.heap.size) (X0.heap.size + 1) X2 ((((((X2.setCell ⟨X0.heap.size, 0, none⟩ (.slice Ax rb.rows.length cx)).setCell ⟨X0.heap.size, 1, none⟩ (.int .i64 rb.n)).setCell ⟨X0.heap.size, 2, none⟩ (.bool rb.has)).setCell ⟨X0.heap.size, 3, none⟩ (.int .i64 rb.v.ty)).setCell ⟨X0.heap.size, 4, none⟩ (.int .i64 rb.v.n)).setCell ⟨X0.heap.size, 5, none⟩ (.string rb.v.s)) := ((((((chg_setC _ _ _ _).trans (chg_setC _ _ _ _)).trans (chg_setC _ _ _ _)).trans (chg_setC _ _ _ _)).trans (chg_setC _ _ _ _)).trans (chg_setC _ _ _ _))
          have hsz : ((((((X2.setCell ⟨X0.heap.size, 0, none⟩ (.slice Ax rb.rows.length cx)).setCell ⟨X0.heap.size, 1, none⟩ (.int .i64 rb.n)).setCell ⟨X0.heap.size, 2, none⟩ (.bool rb.has)).setCell ⟨X0.heap.size, 3, none⟩ (.int .i64 rb.v.ty)).setCell ⟨X0.heap.size, 4, none⟩ (.int .i64 rb.v.n)).setCell ⟨X0.heap.size, 5, none⟩ (.string rb.v.s)).heap.size = X2.heap.size := by simp [World.setCell]
          have G6 := set_six (v0 := .slice Ax rb.rows.length cx) (v1 := .int .i64 rb.n) (v2 := .bool rb.has) (v3 := .int .i64 rb.v.ty) (v4 := .int .i64 rb.v.n) (v5 := .string rb.v.s) GZ.out
          have RR := Lib.hid (show ∃ (bx : Nat) (vx : Value), (Value.pointer (some ⟨X0.heap.size, 0, none⟩)) = .pointer (some ⟨bx, 0, none⟩) ∧ w5.heap.size ≤ bx ∧ BlkAt ((((((X2.setCell ⟨X0.heap.size, 0, none⟩ (.slice Ax rb.rows.length cx)).setCell ⟨X0.heap.size, 1, none⟩ (.int .i64 rb.n)).setCell ⟨X0.heap.size, 2, none⟩ (.bool rb.has)).setCell ⟨X0.heap.size, 3, none⟩ (.int .i64 rb.v.ty)).setCell ⟨X0.heap.size, 4, none⟩ (.int .i64 rb.v.n)).setCell ⟨X0.heap.size, 5, none⟩ (.string rb.v.s)) bx (.cells #[vx, .int .i64 rb.n, .bool rb.has, .int .i64 rb.v.ty, .int .i64 rb.v.n, .string rb.v.s] 37) ∧ RdR ((((((X2.setCell ⟨X0.heap.size, 0, none⟩ (.slice Ax rb.rows.length cx)).setCell ⟨X0.heap.size, 1, none⟩ (.int .i64 rb.n)).setCell ⟨X0.heap.size, 2, none⟩ (.bool rb.has)).setCell ⟨X0.heap.size, 3, none⟩ (.int .i64 rb.v.ty)).setCell ⟨X0.heap.size, 4, none⟩ (.int .i64 rb.v.n)).setCell ⟨X0.heap.size, 5, none⟩ (.string rb.v.s)) 0 ((((((X2.setCell ⟨X0.heap.size, 0, none⟩ (.slice Ax rb.rows.length cx)).setCell ⟨X0.heap.size, 1, none⟩ (.int .i64 rb.n)).setCell ⟨X0.heap.size, 2, none⟩ (.bool rb.has)).setCell ⟨X0.heap.size, 3, none⟩ (.int .i64 rb.v.ty)).setCell ⟨X0.heap.size, 4, none⟩ (.int .i64 rb.v.n)).setCell ⟨X0.heap.size, 5, none⟩ (.string rb.v.s)).heap.size vx rb.rows ∧ Below w5.heap.size w5 ((((((X2.setCell ⟨X0.heap.size, 0, none⟩ (.slice Ax rb.rows.length cx)).setCell ⟨X0.heap.size, 1, none⟩ (.int .i64 rb.n)).setCell ⟨X0.heap.size, 2, none⟩ (.bool rb.has)).setCell ⟨X0.heap.size, 3, none⟩ (.int .i64 rb.v.ty)).setCell ⟨X0.heap.size, 4, none⟩ (.int .i64 rb.v.n)).setCell ⟨X0.heap.size, 5, none⟩ (.string rb.v.s)) from ⟨X0.heap.size, _, rfl, hxb, G6, (hr.same (.of_chg hch (by omega) (by omega))).more (Nat.zero_le _) (by rw [hsz]; omega), HB2.trans ((hch.below (Nat.le_refl _) (by omega)).mono hxb)⟩)
          clear G6 hch hsz
          have t0 := cell_of_row X2 (X0.heap.size) 0 _ _ _ GZ.out
          have t1 := cell_of_row X2 (X0.heap.size) 1 _ _ _ GZ.out
          have t2 := cell_of_row X2 (X0.heap.size) 2 _ _ _ GZ.out
          have t3 := cell_of_row X2 (X0.heap.size) 3 _ _ _ GZ.out
          have t4 := cell_of_row X2 (X0.heap.size) 4 _ _ _ GZ.out
          have t5 := cell_of_row X2 (X0.heap.size) 5 _ _ _ GZ.out
          simp only [List.getElem?_toArray, List.getElem?_cons_zero, List.getElem?_cons_succ] at t0 t1 t2 t3 t4 t5
          have ft := fun o => frozen_of_row X2 (X0.heap.size) o _ _ GZ.out
          refine wpAnyT_one (k := 6) (o := _) (by kernel_rfl) rfl rfl ?_
          intro K hK
          go_simp
          refine hK.out _ _ (fun h => absurd rfl h) ?_
          clear hK
          refine wpAnyT_done (by kernel_rfl) ?_ _
          go_wp2_with fail
          go_meet
          with_reducible exact RR.out

      case rest =>
        obtain ⟨b8, vx, rfl, -, hB, hR, hb⟩ := hcut
        rename World => w6
        obtain ⟨A80, c80, rfl, -, -⟩ := hR.form
        clear TC HLv hkc
        replace RC := Lib.hid (RC.out.go hb)
        replace RP := Lib.hid (RP.out.go hb)
        replace RI := Lib.hid (RI.out.go hb)
        replace RL := Lib.hid (RL.out.go hb)
        replace T3 := Lib.hid (T3.out.go hb)
        replace RR := Lib.hid (RR.out.go hb)
        replace T6 := Lib.hid (T6.out.go hb)
        replace T7 := Lib.hid (T7.out.go hb)
        replace RRa := Lib.hid (RRa.out.go hb)
        replace HB := Lib.hid (below_go HB.out hb)
        have T8 := Lib.hid hB
        have RRb := Lib.hid hR
        clear hB hR hb
        clear hA8
        have hC := spec_DrawJoined code _ w6 RC.out (Nat.le_refl _) hcl
        have HC := Lib.hid hC
        clear hC
        go_wp2_with fail
        refine HC.out.mono ?_
        rintro e w7 ⟨q2, sv2, ov2, xa, xb, xav, xbv, rfl, hrp, hri, hra2, hrb2, hz2, hb⟩
        replace RC := Lib.hid (RC.out.go hb)
        replace RP := Lib.hid (RP.out.go hb)
        replace RI := Lib.hid (RI.out.go hb)
        replace RL := Lib.hid (RL.out.go hb)
        replace T3 := Lib.hid (T3.out.go hb)
        replace RR := Lib.hid (RR.out.go hb)
        replace T6 := Lib.hid (T6.out.go hb)
        replace T7 := Lib.hid (T7.out.go hb)
        replace RRa := Lib.hid (RRa.out.go hb)
        replace T8 := Lib.hid (T8.out.go hb)
        replace RRb := Lib.hid (RRb.out.go hb)
        replace HB := Lib.hid (below_go HB.out hb)
        have hr := hrp
        obtain ⟨A8, c8, rfl, -, -⟩ := hr.form
        have RP2 := Lib.hid hr
        clear hr
        have hr := hri
        obtain ⟨A9, c9, rfl, -, -⟩ := hr.form
        have RI2 := Lib.hid hr
        clear hr
        have hr := hra2
        obtain ⟨A10, c10, rfl, -, -⟩ := hr.form
        have RX := Lib.hid hr
        clear hr
        have hr := hrb2
        obtain ⟨A11, c11, rfl, -, -⟩ := hr.form
        have RY := Lib.hid hr
        clear hr
        clear hrp hri hra2 hrb2
        clear hb HC
        have hup := up_a3 w7 (.cells #[.int .i64 q2.kind, .int .i64 q2.p.kind, .int .i64 q2.p.col, .int .i64 q2.p.op, .int .i64 q2.p.v.ty, .int .i64 q2.p.v.n, .string q2.p.v.s, .slice A8 q2.p.l.length c8, .int .i64 q2.col, .slice A9 q2.out.length c9] 31) (.cells #[.slice A10 xa.rows.length c10, .int .i64 xa.n, .bool xa.has, .int .i64 xa.v.ty, .int .i64 xa.v.n, .string xa.v.s] 37) (.cells #[.slice A11 xb.rows.length c11, .int .i64 xb.n, .bool xb.has, .int .i64 xb.v.ty, .int .i64 xb.v.n, .string xb.v.s] 37)
        have T9 : BlkAt (((w7.alloc (.cells #[.int .i64 q2.kind, .int .i64 q2.p.kind, .int .i64 q2.p.col, .int .i64 q2.p.op, .int .i64 q2.p.v.ty, .int .i64 q2.p.v.n, .string q2.p.v.s, .slice A8 q2.p.l.length c8, .int .i64 q2.col, .slice A9 q2.out.length c9] 31)).alloc (.cells #[.slice A10 xa.rows.length c10, .int .i64 xa.n, .bool xa.has, .int .i64 xa.v.ty, .int .i64 xa.v.n, .string xa.v.s] 37)).alloc (.cells #[.slice A11 xb.rows.length c11, .int .i64 xb.n, .bool xb.has, .int .i64 xb.v.ty, .int .i64 xb.v.n, .string xb.v.s] 37)) (w7.heap.size) (.cells #[.int .i64 q2.kind, .int .i64 q2.p.kind, .int .i64 q2.p.col, .int .i64 q2.p.op, .int .i64 q2.p.v.ty, .int .i64 q2.p.v.n, .string q2.p.v.s, .slice A8 q2.p.l.length c8, .int .i64 q2.col, .slice A9 q2.out.length c9] 31) := by
          iterate 2 refine alloc_old ?_
          exact heap_new_at (by simp)
        have T10 : BlkAt (((w7.alloc (.cells #[.int .i64 q2.kind, .int .i64 q2.p.kind, .int .i64 q2.p.col, .int .i64 q2.p.op, .int .i64 q2.p.v.ty, .int .i64 q2.p.v.n, .string q2.p.v.s, .slice A8 q2.p.l.length c8, .int .i64 q2.col, .slice A9 q2.out.length c9] 31)).alloc (.cells #[.slice A10 xa.rows.length c10, .int .i64 xa.n, .bool xa.has, .int .i64 xa.v.ty, .int .i64 xa.v.n, .string xa.v.s] 37)).alloc (.cells #[.slice A11 xb.rows.length c11, .int .i64 xb.n, .bool xb.has, .int .i64 xb.v.ty, .int .i64 xb.v.n, .string xb.v.s] 37)) (w7.heap.size + 1) (.cells #[.slice A10 xa.rows.length c10, .int .i64 xa.n, .bool xa.has, .int .i64 xa.v.ty, .int .i64 xa.v.n, .string xa.v.s] 37) := by
          iterate 1 refine alloc_old ?_
          exact heap_new_at (by simp)
        have T11 : BlkAt (((w7.alloc (.cells #[.int .i64 q2.kind, .int .i64 q2.p.kind, .int .i64 q2.p.col, .int .i64 q2.p.op, .int .i64 q2.p.v.ty, .int .i64 q2.p.v.n, .string q2.p.v.s, .slice A8 q2.p.l.length c8, .int .i64 q2.col, .slice A9 q2.out.length c9] 31)).alloc (.cells #[.slice A10 xa.rows.length c10, .int .i64 xa.n, .bool xa.has, .int .i64 xa.v.ty, .int .i64 xa.v.n, .string xa.v.s] 37)).alloc (.cells #[.slice A11 xb.rows.length c11, .int .i64 xb.n, .bool xb.has, .int .i64 xb.v.ty, .int .i64 xb.v.n, .string xb.v.s] 37)) (w7.heap.size + 1 + 1) (.cells #[.slice A11 xb.rows.length c11, .int .i64 xb.n, .bool xb.has, .int .i64 xb.v.ty, .int .i64 xb.v.n, .string xb.v.s] 37) := by
          exact heap_new_at (by simp)
        obtain ⟨w8, hW⟩ : ∃ W, (((w7.alloc (.cells #[.int .i64 q2.kind, .int .i64 q2.p.kind, .int .i64 q2.p.col, .int .i64 q2.p.op, .int .i64 q2.p.v.ty, .int .i64 q2.p.v.n, .string q2.p.v.s, .slice A8 q2.p.l.length c8, .int .i64 q2.col, .slice A9 q2.out.length c9] 31)).alloc (.cells #[.slice A10 xa.rows.length c10, .int .i64 xa.n, .bool xa.has, .int .i64 xa.v.ty, .int .i64 xa.v.n, .string xa.v.s] 37)).alloc (.cells #[.slice A11 xb.rows.length c11, .int .i64 xb.n, .bool xb.has, .int .i64 xb.v.ty, .int .i64 xb.v.n, .string xb.v.s] 37)) = W := ⟨_, rfl⟩
        rw [hW] at hup T9 T10 T11
        replace RC := Lib.hid (RC.out.go hup)
        replace RP := Lib.hid (RP.out.go hup)
        replace RI := Lib.hid (RI.out.go hup)
        replace RL := Lib.hid (RL.out.go hup)
        replace T3 := Lib.hid (T3.out.go hup)
        replace RR := Lib.hid (RR.out.go hup)
        replace T6 := Lib.hid (T6.out.go hup)
        replace T7 := Lib.hid (T7.out.go hup)
        replace RRa := Lib.hid (RRa.out.go hup)
        replace T8 := Lib.hid (T8.out.go hup)
        replace RRb := Lib.hid (RRb.out.go hup)
        replace RP2 := Lib.hid (RP2.out.go hup)
        replace RI2 := Lib.hid (RI2.out.go hup)
        replace RX := Lib.hid (RX.out.go hup)
        replace RY := Lib.hid (RY.out.go hup)
        replace HB := Lib.hid (below_go HB.out hup)
        replace T9 := Lib.hid T9
        replace T10 := Lib.hid T10
        replace T11 := Lib.hid T11
        have HW := Lib.hid hW
        clear hW hup
        go_upto_region 11 with fail
        try rw [HW.out]
        clear HW
        obtain ⟨jj, hjj⟩ : ∃ jj, joined q2 xa xb = jj := ⟨_, rfl⟩
        obtain ⟨tt, htt⟩ : ∃ tt, resText q.kind rr.rows rr.n rr.has rr.v = tt := ⟨_, rfl⟩
        have hans : IdsInOk rr.rows ∧ NOk rr.n ∧ RsOk rr.rows ∧ rr.v.s.size ≤ maxLen ∧ (rr.rows.length ≤ 1048576 ∧ lensR rr.rows ≤ 1048576) := by
          rw [← Hrr.out]
          exact ⟨answer_ids hlk.out.2, answer_n (by omega), answer_rs hlk.out.2, answer_v hlk.out.2, answer_sizes hqo hll⟩
        have Hans := Lib.hid hans
        have hPw := pow_below ht0P HB.out
        have HPw := Lib.hid hPw
        clear hans hPw
        have HA1 : Hid (∀ W, Below w8.heap.size w8 W → Calls Tryz.prog 10 #[.agg #[.int .i64 q.kind, .int .i64 q.p.kind, .int .i64 q.p.col, .int .i64 q.p.op, .int .i64 q.p.v.ty, .int .i64 q.p.v.n, .string q.p.v.s, .slice A2 q.p.l.length c2, .int .i64 q.col, .slice A3 q.out.length c3], .slice A4 l.length c4] W (fun e w' => ∃ v, e = .returned (.agg #[v, .int .i64 rr.n, .bool rr.has, .int .i64 rr.v.ty, .int .i64 rr.v.n, .string rr.v.s]) ∧ OwnR 51 25 w' W.heap.size w'.heap.size v rr.rows ∧ Below W.heap.size W w')) := Lib.hid fun W h => answer_of Hrr.out (spec_Answer q _ _ l _ W (RP.out.below h (Nat.le_refl _)) h.size (RI.out.below h (Nat.le_refl _)) h.size (RL.out.below h (Nat.le_refl _)) h.size ⟨by omega, hls.out⟩ (by omega))
        have HJ1 : Hid (∀ W, Below w8.heap.size w8 W → Calls Tryz.prog 11 #[.agg #[.int .i64 q2.kind, .int .i64 q2.p.kind, .int .i64 q2.p.col, .int .i64 q2.p.op, .int .i64 q2.p.v.ty, .int .i64 q2.p.v.n, .string q2.p.v.s, .slice A8 q2.p.l.length c8, .int .i64 q2.col, .slice A9 q2.out.length c9], .agg #[.slice A10 xa.rows.length c10, .int .i64 xa.n, .bool xa.has, .int .i64 xa.v.ty, .int .i64 xa.v.n, .string xa.v.s], .agg #[.slice A11 xb.rows.length c11, .int .i64 xb.n, .bool xb.has, .int .i64 xb.v.ty, .int .i64 xb.v.n, .string xb.v.s]] W (fun e w' => ∃ v, e = .returned (.agg #[v, .int .i64 jj.n, .bool jj.has, .int .i64 jj.v.ty, .int .i64 jj.v.n, .string jj.v.s]) ∧ OwnR 51 25 w' W.heap.size w'.heap.size v jj.rows ∧ Below W.heap.size W w')) := Lib.hid fun W h => answer_of hjj (impl_Joined q2 _ _ xa _ xb _ W (RP2.out.below h (Nat.le_refl _)) h.size (RI2.out.below h (Nat.le_refl _)) h.size (RX.out.below h (Nat.le_refl _)) h.size (RY.out.below h (Nat.le_refl _)) h.size hz2.out.1 hz2.out.2)
        have HJ2 : Hid (∀ W, Below w8.heap.size w8 W → Calls Tryz.prog 12 #[.agg #[.int .i64 q2.kind, .int .i64 q2.p.kind, .int .i64 q2.p.col, .int .i64 q2.p.op, .int .i64 q2.p.v.ty, .int .i64 q2.p.v.n, .string q2.p.v.s, .slice A8 q2.p.l.length c8, .int .i64 q2.col, .slice A9 q2.out.length c9], .agg #[.slice A10 xa.rows.length c10, .int .i64 xa.n, .bool xa.has, .int .i64 xa.v.ty, .int .i64 xa.v.n, .string xa.v.s], .agg #[.slice A11 xb.rows.length c11, .int .i64 xb.n, .bool xb.has, .int .i64 xb.v.ty, .int .i64 xb.v.n, .string xb.v.s]] W (fun e w' => ∃ v, e = .returned (.agg #[v, .int .i64 jj.n, .bool jj.has, .int .i64 jj.v.ty, .int .i64 jj.v.n, .string jj.v.s]) ∧ OwnR 51 25 w' W.heap.size w'.heap.size v jj.rows ∧ Below W.heap.size W w')) := Lib.hid fun W h => answer_of hjj (spec_Joined q2 _ _ xa _ xb _ W (RP2.out.below h (Nat.le_refl _)) h.size (RI2.out.below h (Nat.le_refl _)) h.size (RX.out.below h (Nat.le_refl _)) h.size (RY.out.below h (Nat.le_refl _)) h.size hz2.out.1 hz2.out.2)
        have HT1 : Hid (∀ W, Below w8.heap.size w8 W → Calls Tryz.prog 13 #[.agg #[.int .i64 q.kind, .int .i64 q.p.kind, .int .i64 q.p.col, .int .i64 q.p.op, .int .i64 q.p.v.ty, .int .i64 q.p.v.n, .string q.p.v.s, .slice A2 q.p.l.length c2, .int .i64 q.col, .slice A3 q.out.length c3], .agg #[.slice A6 rr.rows.length c6, .int .i64 rr.n, .bool rr.has, .int .i64 rr.v.ty, .int .i64 rr.v.n, .string rr.v.s]] W (fun e w' => e = .returned (.string tt) ∧ Below W.heap.size W w')) := Lib.hid fun W h => text_of htt (impl_ResultText q _ _ rr _ W (RP.out.below h (Nat.le_refl _)) h.size (RI.out.below h (Nat.le_refl _)) h.size (RR.out.below h (Nat.le_refl _)) h.size hqk.out.1 Hans.out.2.2.1 Hans.out.2.2.2.1 Hans.out.1 Hans.out.2.1 Hans.out.2.2.2.2 (pow_below HPw.out h))
        have HT2 : Hid (∀ W, Below w8.heap.size w8 W → Calls Tryz.prog 14 #[.agg #[.int .i64 q.kind, .int .i64 q.p.kind, .int .i64 q.p.col, .int .i64 q.p.op, .int .i64 q.p.v.ty, .int .i64 q.p.v.n, .string q.p.v.s, .slice A2 q.p.l.length c2, .int .i64 q.col, .slice A3 q.out.length c3], .agg #[.slice A6 rr.rows.length c6, .int .i64 rr.n, .bool rr.has, .int .i64 rr.v.ty, .int .i64 rr.v.n, .string rr.v.s]] W (fun e w' => e = .returned (.string tt) ∧ Below W.heap.size W w')) := Lib.hid fun W h => text_of htt (spec_ResultText q _ _ rr _ W (RP.out.below h (Nat.le_refl _)) h.size (RI.out.below h (Nat.le_refl _)) h.size (RR.out.below h (Nat.le_refl _)) h.size hqk.out.1 Hans.out.2.2.1 Hans.out.2.2.2.1 Hans.out.1 Hans.out.2.1 Hans.out.2.2.2.2 (pow_below HPw.out h))
        clear hjj htt
        have HK : Hid (∀ W, Below w8.heap.size w8 W → (W.cell? ⟨w1.heap.size, 0, none⟩ = some (.int .i64 q.kind) ∧ W.cell? ⟨w1.heap.size, 1, none⟩ = some (.int .i64 q.p.kind) ∧ W.cell? ⟨w1.heap.size, 2, none⟩ = some (.int .i64 q.p.col) ∧ W.cell? ⟨w1.heap.size, 3, none⟩ = some (.int .i64 q.p.op) ∧ W.cell? ⟨w1.heap.size, 4, none⟩ = some (.int .i64 q.p.v.ty) ∧ W.cell? ⟨w1.heap.size, 5, none⟩ = some (.int .i64 q.p.v.n) ∧ W.cell? ⟨w1.heap.size, 6, none⟩ = some (.string q.p.v.s) ∧ W.cell? ⟨w1.heap.size, 7, none⟩ = some (.slice A2 q.p.l.length c2) ∧ W.cell? ⟨w1.heap.size, 8, none⟩ = some (.int .i64 q.col) ∧ W.cell? ⟨w1.heap.size, 9, none⟩ = some (.slice A3 q.out.length c3)) ∧ (W.cell? ⟨w3.heap.size, 0, none⟩ = some (.slice A6 rr.rows.length c6) ∧ W.cell? ⟨w3.heap.size, 1, none⟩ = some (.int .i64 rr.n) ∧ W.cell? ⟨w3.heap.size, 2, none⟩ = some (.bool rr.has) ∧ W.cell? ⟨w3.heap.size, 3, none⟩ = some (.int .i64 rr.v.ty) ∧ W.cell? ⟨w3.heap.size, 4, none⟩ = some (.int .i64 rr.v.n) ∧ W.cell? ⟨w3.heap.size, 5, none⟩ = some (.string rr.v.s)) ∧ (W.cell? ⟨w7.heap.size, 0, none⟩ = some (.int .i64 q2.kind) ∧ W.cell? ⟨w7.heap.size, 1, none⟩ = some (.int .i64 q2.p.kind) ∧ W.cell? ⟨w7.heap.size, 2, none⟩ = some (.int .i64 q2.p.col) ∧ W.cell? ⟨w7.heap.size, 3, none⟩ = some (.int .i64 q2.p.op) ∧ W.cell? ⟨w7.heap.size, 4, none⟩ = some (.int .i64 q2.p.v.ty) ∧ W.cell? ⟨w7.heap.size, 5, none⟩ = some (.int .i64 q2.p.v.n) ∧ W.cell? ⟨w7.heap.size, 6, none⟩ = some (.string q2.p.v.s) ∧ W.cell? ⟨w7.heap.size, 7, none⟩ = some (.slice A8 q2.p.l.length c8) ∧ W.cell? ⟨w7.heap.size, 8, none⟩ = some (.int .i64 q2.col) ∧ W.cell? ⟨w7.heap.size, 9, none⟩ = some (.slice A9 q2.out.length c9)) ∧ (W.cell? ⟨w7.heap.size + 1, 0, none⟩ = some (.slice A10 xa.rows.length c10) ∧ W.cell? ⟨w7.heap.size + 1, 1, none⟩ = some (.int .i64 xa.n) ∧ W.cell? ⟨w7.heap.size + 1, 2, none⟩ = some (.bool xa.has) ∧ W.cell? ⟨w7.heap.size + 1, 3, none⟩ = some (.int .i64 xa.v.ty) ∧ W.cell? ⟨w7.heap.size + 1, 4, none⟩ = some (.int .i64 xa.v.n) ∧ W.cell? ⟨w7.heap.size + 1, 5, none⟩ = some (.string xa.v.s)) ∧ (W.cell? ⟨w7.heap.size + 1 + 1, 0, none⟩ = some (.slice A11 xb.rows.length c11) ∧ W.cell? ⟨w7.heap.size + 1 + 1, 1, none⟩ = some (.int .i64 xb.n) ∧ W.cell? ⟨w7.heap.size + 1 + 1, 2, none⟩ = some (.bool xb.has) ∧ W.cell? ⟨w7.heap.size + 1 + 1, 3, none⟩ = some (.int .i64 xb.v.ty) ∧ W.cell? ⟨w7.heap.size + 1 + 1, 4, none⟩ = some (.int .i64 xb.v.n) ∧ W.cell? ⟨w7.heap.size + 1 + 1, 5, none⟩ = some (.string xb.v.s))) := Lib.hid fun W h => by
          have u0 := T3.out.go h
          have u1 := T6.out.go h
          have u2 := T9.out.go h
          have u3 := T10.out.go h
          have u4 := T11.out.go h
          exact ⟨⟨cell_of_row W _ 0 _ _ _ u0, cell_of_row W _ 1 _ _ _ u0, cell_of_row W _ 2 _ _ _ u0, cell_of_row W _ 3 _ _ _ u0, cell_of_row W _ 4 _ _ _ u0, cell_of_row W _ 5 _ _ _ u0, cell_of_row W _ 6 _ _ _ u0, cell_of_row W _ 7 _ _ _ u0, cell_of_row W _ 8 _ _ _ u0, cell_of_row W _ 9 _ _ _ u0⟩, ⟨cell_of_row W _ 0 _ _ _ u1, cell_of_row W _ 1 _ _ _ u1, cell_of_row W _ 2 _ _ _ u1, cell_of_row W _ 3 _ _ _ u1, cell_of_row W _ 4 _ _ _ u1, cell_of_row W _ 5 _ _ _ u1⟩, ⟨cell_of_row W _ 0 _ _ _ u2, cell_of_row W _ 1 _ _ _ u2, cell_of_row W _ 2 _ _ _ u2, cell_of_row W _ 3 _ _ _ u2, cell_of_row W _ 4 _ _ _ u2, cell_of_row W _ 5 _ _ _ u2, cell_of_row W _ 6 _ _ _ u2, cell_of_row W _ 7 _ _ _ u2, cell_of_row W _ 8 _ _ _ u2, cell_of_row W _ 9 _ _ _ u2⟩, ⟨cell_of_row W _ 0 _ _ _ u3, cell_of_row W _ 1 _ _ _ u3, cell_of_row W _ 2 _ _ _ u3, cell_of_row W _ 3 _ _ _ u3, cell_of_row W _ 4 _ _ _ u3, cell_of_row W _ 5 _ _ _ u3⟩, ⟨cell_of_row W _ 0 _ _ _ u4, cell_of_row W _ 1 _ _ _ u4, cell_of_row W _ 2 _ _ _ u4, cell_of_row W _ 3 _ _ _ u4, cell_of_row W _ 4 _ _ _ u4, cell_of_row W _ 5 _ _ _ u4⟩⟩
        have HBq := Lib.hid ((Below.refl w8.heap.size w8).drew)
        have FS := Lib.hid (HK.out _ HBq.out)
        go_region_held3 (fun w' => (w'.cell? ⟨w1.heap.size, 0, none⟩ = some (.int .i64 q.kind) ∧ w'.cell? ⟨w1.heap.size, 1, none⟩ = some (.int .i64 q.p.kind) ∧ w'.cell? ⟨w1.heap.size, 2, none⟩ = some (.int .i64 q.p.col) ∧ w'.cell? ⟨w1.heap.size, 3, none⟩ = some (.int .i64 q.p.op) ∧ w'.cell? ⟨w1.heap.size, 4, none⟩ = some (.int .i64 q.p.v.ty) ∧ w'.cell? ⟨w1.heap.size, 5, none⟩ = some (.int .i64 q.p.v.n) ∧ w'.cell? ⟨w1.heap.size, 6, none⟩ = some (.string q.p.v.s) ∧ w'.cell? ⟨w1.heap.size, 7, none⟩ = some (.slice A2 q.p.l.length c2) ∧ w'.cell? ⟨w1.heap.size, 8, none⟩ = some (.int .i64 q.col) ∧ w'.cell? ⟨w1.heap.size, 9, none⟩ = some (.slice A3 q.out.length c3)) ∧ (w'.cell? ⟨w3.heap.size, 0, none⟩ = some (.slice A6 rr.rows.length c6) ∧ w'.cell? ⟨w3.heap.size, 1, none⟩ = some (.int .i64 rr.n) ∧ w'.cell? ⟨w3.heap.size, 2, none⟩ = some (.bool rr.has) ∧ w'.cell? ⟨w3.heap.size, 3, none⟩ = some (.int .i64 rr.v.ty) ∧ w'.cell? ⟨w3.heap.size, 4, none⟩ = some (.int .i64 rr.v.n) ∧ w'.cell? ⟨w3.heap.size, 5, none⟩ = some (.string rr.v.s)) ∧ (w'.cell? ⟨w7.heap.size, 0, none⟩ = some (.int .i64 q2.kind) ∧ w'.cell? ⟨w7.heap.size, 1, none⟩ = some (.int .i64 q2.p.kind) ∧ w'.cell? ⟨w7.heap.size, 2, none⟩ = some (.int .i64 q2.p.col) ∧ w'.cell? ⟨w7.heap.size, 3, none⟩ = some (.int .i64 q2.p.op) ∧ w'.cell? ⟨w7.heap.size, 4, none⟩ = some (.int .i64 q2.p.v.ty) ∧ w'.cell? ⟨w7.heap.size, 5, none⟩ = some (.int .i64 q2.p.v.n) ∧ w'.cell? ⟨w7.heap.size, 6, none⟩ = some (.string q2.p.v.s) ∧ w'.cell? ⟨w7.heap.size, 7, none⟩ = some (.slice A8 q2.p.l.length c8) ∧ w'.cell? ⟨w7.heap.size, 8, none⟩ = some (.int .i64 q2.col) ∧ w'.cell? ⟨w7.heap.size, 9, none⟩ = some (.slice A9 q2.out.length c9)) ∧ (w'.cell? ⟨w7.heap.size + 1, 0, none⟩ = some (.slice A10 xa.rows.length c10) ∧ w'.cell? ⟨w7.heap.size + 1, 1, none⟩ = some (.int .i64 xa.n) ∧ w'.cell? ⟨w7.heap.size + 1, 2, none⟩ = some (.bool xa.has) ∧ w'.cell? ⟨w7.heap.size + 1, 3, none⟩ = some (.int .i64 xa.v.ty) ∧ w'.cell? ⟨w7.heap.size + 1, 4, none⟩ = some (.int .i64 xa.v.n) ∧ w'.cell? ⟨w7.heap.size + 1, 5, none⟩ = some (.string xa.v.s)) ∧ (w'.cell? ⟨w7.heap.size + 1 + 1, 0, none⟩ = some (.slice A11 xb.rows.length c11) ∧ w'.cell? ⟨w7.heap.size + 1 + 1, 1, none⟩ = some (.int .i64 xb.n) ∧ w'.cell? ⟨w7.heap.size + 1 + 1, 2, none⟩ = some (.bool xb.has) ∧ w'.cell? ⟨w7.heap.size + 1 + 1, 3, none⟩ = some (.int .i64 xb.v.ty) ∧ w'.cell? ⟨w7.heap.size + 1 + 1, 4, none⟩ = some (.int .i64 xb.v.n) ∧ w'.cell? ⟨w7.heap.size + 1 + 1, 5, none⟩ = some (.string xb.v.s))) (first | with_reducible exact FS.out | go_keep) (first | (go_at_call 10; ((with_reducible refine (HA1.out _ HBq.out).mono ?_); rintro e x6 ⟨v1, rfl, ho, hb6⟩; have Y1 := Lib.hid ho.rdR; (obtain ⟨A21, c21, rfl, -, -⟩ := Y1.out.form); have HY1 := Lib.hid (Below.refl x6.heap.size x6); clear ho; replace HBq := Lib.hid (HBq.out.trans (hb6.mono HBq.out.size)); have FS := Lib.hid (HK.out _ HBq.out); clear hb6)) | (go_at_call 9; ((with_reducible refine (law_sameResult rr _ _ _ (RR.out.below HBq.out (Nat.le_refl _)) HBq.out.size (Y1.out.below HY1.out (Nat.le_refl _)) HY1.out.size).mono ?_); rintro e s6 ⟨rfl, hb6⟩; replace HBq := Lib.hid (HBq.out.trans (hb6.mono HBq.out.size)); have FS := Lib.hid (HK.out _ HBq.out); clear hb6)) | (go_at_call 11; ((with_reducible refine (HJ1.out _ HBq.out).mono ?_); rintro e y6 ⟨v1, rfl, ho, hb6⟩; have Y2 := Lib.hid ho.rdR; (obtain ⟨A22, c22, rfl, -, -⟩ := Y2.out.form); have HY2 := Lib.hid (Below.refl y6.heap.size y6); clear ho; replace HBq := Lib.hid (HBq.out.trans (hb6.mono HBq.out.size)); have FS := Lib.hid (HK.out _ HBq.out); clear hb6)) | (go_at_call 12; ((with_reducible refine (HJ2.out _ HBq.out).mono ?_); rintro e z6 ⟨v1, rfl, ho, hb6⟩; have Y3 := Lib.hid ho.rdR; (obtain ⟨A23, c23, rfl, -, -⟩ := Y3.out.form); have HY3 := Lib.hid (Below.refl z6.heap.size z6); (try (replace HY2 := Lib.hid (HY2.out.trans (hb6.mono HY2.out.size)))); clear ho; replace HBq := Lib.hid (HBq.out.trans (hb6.mono HBq.out.size)); have FS := Lib.hid (HK.out _ HBq.out); clear hb6)) | (go_at_call 9; ((with_reducible refine (law_sameResult jj _ _ _ (Y2.out.below HY2.out (Nat.le_refl _)) HY2.out.size (Y3.out.below HY3.out (Nat.le_refl _)) HY3.out.size).mono ?_); rintro e s7 ⟨rfl, hb6⟩; replace HBq := Lib.hid (HBq.out.trans (hb6.mono HBq.out.size)); have FS := Lib.hid (HK.out _ HBq.out); clear hb6)) | (go_at_call 13; ((with_reducible refine (HT1.out _ HBq.out).mono ?_); rintro e t6 ⟨rfl, hb6⟩; replace HBq := Lib.hid (HBq.out.trans (hb6.mono HBq.out.size)); have FS := Lib.hid (HK.out _ HBq.out); clear hb6)) | (go_at_call 14; ((with_reducible refine (HT2.out _ HBq.out).mono ?_); rintro e t7 ⟨rfl, hb6⟩; replace HBq := Lib.hid (HBq.out.trans (hb6.mono HBq.out.size)); have FS := Lib.hid (HK.out _ HBq.out); clear hb6)))
        have hb := HBq.out
        clear FS HBq HA1 HJ1 HJ2 HT1 HT2 HK Y1 Y2 Y3 HY1 HY2 HY3
        replace RC := Lib.hid (RC.out.go hb)
        replace RP := Lib.hid (RP.out.go hb)
        replace RI := Lib.hid (RI.out.go hb)
        replace RL := Lib.hid (RL.out.go hb)
        replace T3 := Lib.hid (T3.out.go hb)
        replace RR := Lib.hid (RR.out.go hb)
        replace T6 := Lib.hid (T6.out.go hb)
        replace T7 := Lib.hid (T7.out.go hb)
        replace RRa := Lib.hid (RRa.out.go hb)
        replace T8 := Lib.hid (T8.out.go hb)
        replace RRb := Lib.hid (RRb.out.go hb)
        replace RP2 := Lib.hid (RP2.out.go hb)
        replace RI2 := Lib.hid (RI2.out.go hb)
        replace RX := Lib.hid (RX.out.go hb)
        replace RY := Lib.hid (RY.out.go hb)
        replace T9 := Lib.hid (T9.out.go hb)
        replace T10 := Lib.hid (T10.out.go hb)
        replace T11 := Lib.hid (T11.out.go hb)
        replace HB := Lib.hid (below_go HB.out hb)
        clear hb
        have hj : joined q ra rb = rr := by
          rw [← Hra.out, ← Hrb.out, joined_answers q _ _ (by rw [List.length_take, List.length_drop]; omega), List.take_append_drop, Hrr.out]
        have hza : ra.rows.length ≤ 1048576 ∧ lensR ra.rows ≤ 1048576 := by
          rw [← Hra.out]
          exact answer_sizes hqo (by rw [List.length_take]; omega)
        have hzb : rb.rows.length ≤ 1048576 ∧ lensR rb.rows ≤ 1048576 := by
          rw [← Hrb.out]
          exact answer_sizes hqo (by rw [List.length_drop]; omega)
        obtain ⟨bq, hbq⟩ : ∃ bq, eqd ra rb = bq := ⟨_, rfl⟩
        have hbb : (bq == bq) = true := by simp
        have HJ : Hid (∀ W, Below t7.heap.size t7 W → Calls Tryz.prog 11 #[.agg #[.int .i64 q.kind, .int .i64 q.p.kind, .int .i64 q.p.col, .int .i64 q.p.op, .int .i64 q.p.v.ty, .int .i64 q.p.v.n, .string q.p.v.s, .slice A2 q.p.l.length c2, .int .i64 q.col, .slice A3 q.out.length c3], .agg #[.slice A70 ra.rows.length c70, .int .i64 ra.n, .bool ra.has, .int .i64 ra.v.ty, .int .i64 ra.v.n, .string ra.v.s], .agg #[.slice A80 rb.rows.length c80, .int .i64 rb.n, .bool rb.has, .int .i64 rb.v.ty, .int .i64 rb.v.n, .string rb.v.s]] W (fun e w' => ∃ v, e = .returned (.agg #[v, .int .i64 rr.n, .bool rr.has, .int .i64 rr.v.ty, .int .i64 rr.v.n, .string rr.v.s]) ∧ OwnR 51 25 w' W.heap.size w'.heap.size v rr.rows ∧ Below W.heap.size W w')) := Lib.hid fun W h => answer_of hj (impl_Joined q _ _ ra _ rb _ W (RP.out.below h (Nat.le_refl _)) h.size (RI.out.below h (Nat.le_refl _)) h.size (RRa.out.below h (Nat.le_refl _)) h.size (RRb.out.below h (Nat.le_refl _)) h.size hza hzb)
        have HE1 : Hid (∀ W, Below t7.heap.size t7 W → Calls Tryz.prog 15 #[.agg #[.slice A70 ra.rows.length c70, .int .i64 ra.n, .bool ra.has, .int .i64 ra.v.ty, .int .i64 ra.v.n, .string ra.v.s], .agg #[.slice A80 rb.rows.length c80, .int .i64 rb.n, .bool rb.has, .int .i64 rb.v.ty, .int .i64 rb.v.n, .string rb.v.s]] W (fun e w' => e = .returned (.bool bq) ∧ Below W.heap.size W w')) := Lib.hid fun W h => bool_of hbq (impl_SameResult ra _ rb _ W (RRa.out.below h (Nat.le_refl _)) h.size (RRb.out.below h (Nat.le_refl _)) h.size)
        have HE2 : Hid (∀ W, Below t7.heap.size t7 W → Calls Tryz.prog 9 #[.agg #[.slice A70 ra.rows.length c70, .int .i64 ra.n, .bool ra.has, .int .i64 ra.v.ty, .int .i64 ra.v.n, .string ra.v.s], .agg #[.slice A80 rb.rows.length c80, .int .i64 rb.n, .bool rb.has, .int .i64 rb.v.ty, .int .i64 rb.v.n, .string rb.v.s]] W (fun e w' => e = .returned (.bool bq) ∧ Below W.heap.size W w')) := Lib.hid fun W h => bool_of hbq (law_sameResult2 ra _ rb _ W (RRa.out.below h (Nat.le_refl _)) h.size (RRb.out.below h (Nat.le_refl _)) h.size)
        clear hj hza hzb hbq
        have HK : Hid (∀ W, Below t7.heap.size t7 W → (W.cell? ⟨w1.heap.size, 0, none⟩ = some (.int .i64 q.kind) ∧ W.cell? ⟨w1.heap.size, 1, none⟩ = some (.int .i64 q.p.kind) ∧ W.cell? ⟨w1.heap.size, 2, none⟩ = some (.int .i64 q.p.col) ∧ W.cell? ⟨w1.heap.size, 3, none⟩ = some (.int .i64 q.p.op) ∧ W.cell? ⟨w1.heap.size, 4, none⟩ = some (.int .i64 q.p.v.ty) ∧ W.cell? ⟨w1.heap.size, 5, none⟩ = some (.int .i64 q.p.v.n) ∧ W.cell? ⟨w1.heap.size, 6, none⟩ = some (.string q.p.v.s) ∧ W.cell? ⟨w1.heap.size, 7, none⟩ = some (.slice A2 q.p.l.length c2) ∧ W.cell? ⟨w1.heap.size, 8, none⟩ = some (.int .i64 q.col) ∧ W.cell? ⟨w1.heap.size, 9, none⟩ = some (.slice A3 q.out.length c3)) ∧ (W.cell? ⟨w3.heap.size, 0, none⟩ = some (.slice A6 rr.rows.length c6) ∧ W.cell? ⟨w3.heap.size, 1, none⟩ = some (.int .i64 rr.n) ∧ W.cell? ⟨w3.heap.size, 2, none⟩ = some (.bool rr.has) ∧ W.cell? ⟨w3.heap.size, 3, none⟩ = some (.int .i64 rr.v.ty) ∧ W.cell? ⟨w3.heap.size, 4, none⟩ = some (.int .i64 rr.v.n) ∧ W.cell? ⟨w3.heap.size, 5, none⟩ = some (.string rr.v.s)) ∧ (W.cell? ⟨b7, 0, none⟩ = some (.slice A70 ra.rows.length c70) ∧ W.cell? ⟨b7, 1, none⟩ = some (.int .i64 ra.n) ∧ W.cell? ⟨b7, 2, none⟩ = some (.bool ra.has) ∧ W.cell? ⟨b7, 3, none⟩ = some (.int .i64 ra.v.ty) ∧ W.cell? ⟨b7, 4, none⟩ = some (.int .i64 ra.v.n) ∧ W.cell? ⟨b7, 5, none⟩ = some (.string ra.v.s)) ∧ (W.cell? ⟨b8, 0, none⟩ = some (.slice A80 rb.rows.length c80) ∧ W.cell? ⟨b8, 1, none⟩ = some (.int .i64 rb.n) ∧ W.cell? ⟨b8, 2, none⟩ = some (.bool rb.has) ∧ W.cell? ⟨b8, 3, none⟩ = some (.int .i64 rb.v.ty) ∧ W.cell? ⟨b8, 4, none⟩ = some (.int .i64 rb.v.n) ∧ W.cell? ⟨b8, 5, none⟩ = some (.string rb.v.s))) := Lib.hid fun W h => by
          have u0 := T3.out.go h
          have u1 := T6.out.go h
          have u2 := T7.out.go h
          have u3 := T8.out.go h
          exact ⟨⟨cell_of_row W _ 0 _ _ _ u0, cell_of_row W _ 1 _ _ _ u0, cell_of_row W _ 2 _ _ _ u0, cell_of_row W _ 3 _ _ _ u0, cell_of_row W _ 4 _ _ _ u0, cell_of_row W _ 5 _ _ _ u0, cell_of_row W _ 6 _ _ _ u0, cell_of_row W _ 7 _ _ _ u0, cell_of_row W _ 8 _ _ _ u0, cell_of_row W _ 9 _ _ _ u0⟩, ⟨cell_of_row W _ 0 _ _ _ u1, cell_of_row W _ 1 _ _ _ u1, cell_of_row W _ 2 _ _ _ u1, cell_of_row W _ 3 _ _ _ u1, cell_of_row W _ 4 _ _ _ u1, cell_of_row W _ 5 _ _ _ u1⟩, ⟨cell_of_row W _ 0 _ _ _ u2, cell_of_row W _ 1 _ _ _ u2, cell_of_row W _ 2 _ _ _ u2, cell_of_row W _ 3 _ _ _ u2, cell_of_row W _ 4 _ _ _ u2, cell_of_row W _ 5 _ _ _ u2⟩, ⟨cell_of_row W _ 0 _ _ _ u3, cell_of_row W _ 1 _ _ _ u3, cell_of_row W _ 2 _ _ _ u3, cell_of_row W _ 3 _ _ _ u3, cell_of_row W _ 4 _ _ _ u3, cell_of_row W _ 5 _ _ _ u3⟩⟩
        have HBq := Lib.hid ((Below.refl t7.heap.size t7).drew)
        have FS := Lib.hid (HK.out _ HBq.out)
        go_upto_region 13 with fail
        go_region_held3 (fun w' => (w'.cell? ⟨w1.heap.size, 0, none⟩ = some (.int .i64 q.kind) ∧ w'.cell? ⟨w1.heap.size, 1, none⟩ = some (.int .i64 q.p.kind) ∧ w'.cell? ⟨w1.heap.size, 2, none⟩ = some (.int .i64 q.p.col) ∧ w'.cell? ⟨w1.heap.size, 3, none⟩ = some (.int .i64 q.p.op) ∧ w'.cell? ⟨w1.heap.size, 4, none⟩ = some (.int .i64 q.p.v.ty) ∧ w'.cell? ⟨w1.heap.size, 5, none⟩ = some (.int .i64 q.p.v.n) ∧ w'.cell? ⟨w1.heap.size, 6, none⟩ = some (.string q.p.v.s) ∧ w'.cell? ⟨w1.heap.size, 7, none⟩ = some (.slice A2 q.p.l.length c2) ∧ w'.cell? ⟨w1.heap.size, 8, none⟩ = some (.int .i64 q.col) ∧ w'.cell? ⟨w1.heap.size, 9, none⟩ = some (.slice A3 q.out.length c3)) ∧ (w'.cell? ⟨w3.heap.size, 0, none⟩ = some (.slice A6 rr.rows.length c6) ∧ w'.cell? ⟨w3.heap.size, 1, none⟩ = some (.int .i64 rr.n) ∧ w'.cell? ⟨w3.heap.size, 2, none⟩ = some (.bool rr.has) ∧ w'.cell? ⟨w3.heap.size, 3, none⟩ = some (.int .i64 rr.v.ty) ∧ w'.cell? ⟨w3.heap.size, 4, none⟩ = some (.int .i64 rr.v.n) ∧ w'.cell? ⟨w3.heap.size, 5, none⟩ = some (.string rr.v.s)) ∧ (w'.cell? ⟨b7, 0, none⟩ = some (.slice A70 ra.rows.length c70) ∧ w'.cell? ⟨b7, 1, none⟩ = some (.int .i64 ra.n) ∧ w'.cell? ⟨b7, 2, none⟩ = some (.bool ra.has) ∧ w'.cell? ⟨b7, 3, none⟩ = some (.int .i64 ra.v.ty) ∧ w'.cell? ⟨b7, 4, none⟩ = some (.int .i64 ra.v.n) ∧ w'.cell? ⟨b7, 5, none⟩ = some (.string ra.v.s)) ∧ (w'.cell? ⟨b8, 0, none⟩ = some (.slice A80 rb.rows.length c80) ∧ w'.cell? ⟨b8, 1, none⟩ = some (.int .i64 rb.n) ∧ w'.cell? ⟨b8, 2, none⟩ = some (.bool rb.has) ∧ w'.cell? ⟨b8, 3, none⟩ = some (.int .i64 rb.v.ty) ∧ w'.cell? ⟨b8, 4, none⟩ = some (.int .i64 rb.v.n) ∧ w'.cell? ⟨b8, 5, none⟩ = some (.string rb.v.s))) (first | with_reducible exact FS.out | go_keep) (first | (go_at_call 11; ((with_reducible refine (HJ.out _ HBq.out).mono ?_); rintro e x8 ⟨v1, rfl, ho, hb6⟩; have Y1 := Lib.hid ho.rdR; (obtain ⟨A31, c31, rfl, -, -⟩ := Y1.out.form); have HY1 := Lib.hid (Below.refl x8.heap.size x8); clear ho; replace HBq := Lib.hid (HBq.out.trans (hb6.mono HBq.out.size)); have FS := Lib.hid (HK.out _ HBq.out); clear hb6)) | (go_at_call 9; ((with_reducible refine (law_sameResult rr _ _ _ (Y1.out.below HY1.out (Nat.le_refl _)) HY1.out.size (RR.out.below HBq.out (Nat.le_refl _)) HBq.out.size).mono ?_); rintro e s8 ⟨rfl, hb6⟩; replace HBq := Lib.hid (HBq.out.trans (hb6.mono HBq.out.size)); have FS := Lib.hid (HK.out _ HBq.out); clear hb6)) | (go_at_call 15; ((with_reducible refine (HE1.out _ HBq.out).mono ?_); rintro e s9 ⟨rfl, hb6⟩; replace HBq := Lib.hid (HBq.out.trans (hb6.mono HBq.out.size)); have FS := Lib.hid (HK.out _ HBq.out); clear hb6)) | (go_at_call 9; ((with_reducible refine (HE2.out _ HBq.out).mono ?_); rintro e s10 ⟨rfl, hb6⟩; replace HBq := Lib.hid (HBq.out.trans (hb6.mono HBq.out.size)); have FS := Lib.hid (HK.out _ HBq.out); clear hb6)))
        all_goals
          have hb := HBq.out
          clear FS
          go_wp2_with fail
          go_ret
          exact ⟨rfl, below_go HB.out hb⟩
end Go.Proofs.YtidmlfjolhnnfaaGreatDoor
