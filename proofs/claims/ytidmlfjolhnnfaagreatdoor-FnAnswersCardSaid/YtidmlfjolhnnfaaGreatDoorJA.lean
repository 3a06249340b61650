/- What a query answers: contracts. -/
import Derived.Test.YtidmlfjolhnnfaaGreatDoorXK
import Derived.Test.YtidmlfjolhnnfaaGreatDoorXJ
import Derived.Test.YtidmlfjolhnnfaaGreatDoorZ1
import Derived.Test.YtidmlfjolhnnfaaGreatDoorZ2
import Derived.Deep.CutRange
namespace Go.Proofs.YtidmlfjolhnnfaaGreatDoor
open Go.Sort Go.ChangeShapes Go.WideShapes Go.ChangeAt Go.RowKit Go.Lb
def cutR (q : List Int) (r : R) : R := ⟨r.id, cutL q r⟩
def sumN (l : List V) : Int := l.foldl (fun n v => IntKind.i64.wrap (n + v.n)) 0
def answerOf (q : Q) (m : List R) : Res :=
  if q.kind = 1 then ⟨m.map (cutR q.out), 0, false, V.zero⟩
  else if q.kind = 2 then ⟨[], (m.length : Int), false, V.zero⟩
  else if q.kind = 3 then ⟨[], sumN (column m q.col), false, V.zero⟩
  else if q.kind = 4 then ⟨[], 0, decide ((0 : Int) < ((column m q.col).length : Int)), (zoneOf (column m q.col)).lo⟩
  else if q.kind = 5 then ⟨[], 0, decide ((0 : Int) < ((column m q.col).length : Int)), (zoneOf (column m q.col)).hi⟩
  else ⟨[], 0, false, V.zero⟩
def answer (q : Q) (l : List R) : Res := answerOf q (meant q l)
theorem sum_step {l : List V} {i : Nat} {y : V} (h : l[i]? = some y) : sumN (l.take (i + 1)) = IntKind.i64.wrap (sumN (l.take i) + y.n) := by
  unfold sumN
  rw [take_of_get h, List.foldl_append]
  rfl
theorem cutR_step {l : List R} {q : List Int} {i : Nat} {y : R} (h : l[i]? = some y) : (l.take (i + 1)).map (cutR q) = (l.take i).map (cutR q) ++ [cutR q y] := by
  rw [take_of_get h, List.map_append]
  rfl
theorem own_none (w : World) (e s lo : Nat) : w.ownsRow lo e s (.slice none 0 0) 0 [] := ⟨by simp, .inl ⟨rfl, rfl⟩⟩
theorem ownRp_none (w : World) (eR eV lo hi : Nat) : OwnRp eR eV w lo hi (.slice none 0 0) [] := .nil (own_none w eR 2 lo) (fun g hg => by simp [Value.ownBlock] at hg)
theorem set_keep48 {w : World} {g b o : Nat} {u : Value} (h : g ≠ b) : (w.setCell ⟨b, o, none⟩ u).heap[g]? = w.heap[g]? := Below.heap_setCell w ⟨b, o, none⟩ u g h
theorem below_set48 {B : Nat} {w w' : World} {b o : Nat} {u : Value} (h : Below B w w') (hb : B ≤ b) : Below B w (w'.setCell ⟨b, o, none⟩ u) := Below.setCell h hb u
theorem alloc_old48 {w : World} {o x : Obj} {k : Nat} (h : w.heap[k]? = some x) : (w.alloc o).heap[k]? = some x := ((up_a1 w o).block k (Array.getElem?_eq_some_iff.1 h).1).trans h
theorem heap_new48 {w : World} {o : Obj} {n : Nat} (h : w.heap.size = n) : (w.alloc o).heap[n]? = some o := h ▸ heap_alloc_new w o
end Go.Proofs.YtidmlfjolhnnfaaGreatDoor
namespace Go.Proofs.YtidmlfjolhnnfaaGreatDoor
open Go.Sort Go.ChangeShapes Go.WideShapes Go.ChangeAt Go.RowKit Go.Lb
set_option maxRecDepth 20000 in
set_option maxHeartbeats 4000000 in
theorem spec_Answer1 (q : Q) (sv ov : Value) (l : List R) (x : Value) (w : World) {l1 h1 l2 h2 lo hi : Nat} (hp : RdP w l1 h1 sv q.p.l) (hh1 : h1 ≤ w.heap.size) (ho : RdI w l2 h2 ov q.out) (hh2 : h2 ≤ w.heap.size) (hx : RdR w lo hi x l) (hhi : hi ≤ w.heap.size) (hn : l.length ≤ 1048576 ∧ lensR l ≤ 1048576) (hno : q.out.length ≤ 1048576) (k1 : q.kind = 1) :
    Calls Tryz.prog 10 #[.agg #[.int .i64 q.kind, .int .i64 q.p.kind, .int .i64 q.p.col, .int .i64 q.p.op, .int .i64 q.p.v.ty, .int .i64 q.p.v.n, .string q.p.v.s, sv, .int .i64 q.col, ov], x] w fun e w' => ∃ v, e = .returned (.agg #[v, .int .i64 (answer q l).n, .bool (answer q l).has, .int .i64 (answer q l).v.ty, .int .i64 (answer q l).v.n, .string (answer q l).v.s]) ∧ OwnR 51 25 w' w.heap.size w'.heap.size v (answer q l).rows ∧ Below w.heap.size w w' := by
  obtain ⟨Ap, cp, rfl, -, -⟩ := hp.form
  obtain ⟨Ao, co, rfl, -, -⟩ := ho.form
  obtain ⟨A, c, rfl, -, -⟩ := hx.form
  replace k1 := Lib.hid k1
  obtain ⟨i0, hif, hz0, hz1, hz2⟩ := info_parts info_Row
  replace hif := Lib.hid hif
  replace hz0 := Lib.hid hz0
  replace hz1 := Lib.hid hz1
  replace hz2 := Lib.hid hz2
  obtain ⟨i1, hif1, hy0, hy1, hy2⟩ := info_parts info_val
  replace hif1 := Lib.hid hif1
  replace hy0 := Lib.hid hy0
  replace hy1 := Lib.hid hy1
  replace hy2 := Lib.hid hy2
  have hup := up_a2 w (.cells #[.int .i64 q.kind, .int .i64 q.p.kind, .int .i64 q.p.col, .int .i64 q.p.op, .int .i64 q.p.v.ty, .int .i64 q.p.v.n, .string q.p.v.s, .slice Ap q.p.l.length cp, .int .i64 q.col, .slice Ao q.out.length co] 31) (.cells #[.slice none 0 0, .int .i64 0, .bool false, .int .i64 0, .int .i64 0, .string ⟨#[]⟩] 37)
  have hM := spec_Meant q (.slice Ap q.p.l.length cp) (.slice Ao q.out.length co) l (.slice A l.length c) ((w.alloc (.cells #[.int .i64 q.kind, .int .i64 q.p.kind, .int .i64 q.p.col, .int .i64 q.p.op, .int .i64 q.p.v.ty, .int .i64 q.p.v.n, .string q.p.v.s, .slice Ap q.p.l.length cp, .int .i64 q.col, .slice Ao q.out.length co] 31)).alloc (.cells #[.slice none 0 0, .int .i64 0, .bool false, .int .i64 0, .int .i64 0, .string ⟨#[]⟩] 37)) (hp.below hup hh1) (by simp; omega) (ho.below hup hh2) (by simp; omega) (hx.below hup hhi) (by simp; omega) hn
  have hml := meant_len q l
  have hms := meant_lens q l
  obtain ⟨m, hm0⟩ : ∃ m, meant q l = m := ⟨_, rfl⟩
  rw [hm0] at hM hml hms
  replace hml : m.length ≤ 1048576 := Nat.le_trans hml hn.1
  replace hms := Lib.hid (Nat.le_trans hms hn.2)
  have Hm0 := Lib.hid hm0
  replace hM := Lib.hid hM
  have GQ := Lib.hid (show ((w.alloc (.cells #[.int .i64 q.kind, .int .i64 q.p.kind, .int .i64 q.p.col, .int .i64 q.p.op, .int .i64 q.p.v.ty, .int .i64 q.p.v.n, .string q.p.v.s, .slice Ap q.p.l.length cp, .int .i64 q.col, .slice Ao q.out.length co] 31)).alloc (.cells #[.slice none 0 0, .int .i64 0, .bool false, .int .i64 0, .int .i64 0, .string ⟨#[]⟩] 37)).heap[w.heap.size]? = some (.cells #[.int .i64 q.kind, .int .i64 q.p.kind, .int .i64 q.p.col, .int .i64 q.p.op, .int .i64 q.p.v.ty, .int .i64 q.p.v.n, .string q.p.v.s, .slice Ap q.p.l.length cp, .int .i64 q.col, .slice Ao q.out.length co] 31) from alloc_old48 (heap_alloc_new w _))
  have G1 := Lib.hid (show ((w.alloc (.cells #[.int .i64 q.kind, .int .i64 q.p.kind, .int .i64 q.p.col, .int .i64 q.p.op, .int .i64 q.p.v.ty, .int .i64 q.p.v.n, .string q.p.v.s, .slice Ap q.p.l.length cp, .int .i64 q.col, .slice Ao q.out.length co] 31)).alloc (.cells #[.slice none 0 0, .int .i64 0, .bool false, .int .i64 0, .int .i64 0, .string ⟨#[]⟩] 37)).heap[w.heap.size + 1]? = some (.cells #[.slice none 0 0, .int .i64 0, .bool false, .int .i64 0, .int .i64 0, .string ⟨#[]⟩] 37) from heap_new48 (by simp))
  have HB := Lib.hid hup
  clear hm0 hp hx hn hup
  go_enter Tryz.func10, Tryz.ntmps10
  go_wp2_with fail
  refine hM.out.mono ?_
  clear hM
  rintro e wm ⟨vm, rfl, hm, hbm⟩
  obtain ⟨Am, cm, rfl, -, -⟩ := hm.rdR.form
  have zm : w.heap.size + 2 ≤ wm.heap.size := by have h := hbm.size; simp only [World.size_alloc] at h; omega
  replace GQ := Lib.hid ((hbm.block _ (by simp <;> omega)).trans GQ.out)
  replace G1 := Lib.hid ((hbm.block _ (by simp <;> omega)).trans G1.out)
  replace HB := Lib.hid (HB.out.trans (hbm.mono HB.out.size))
  have HM0 := Lib.hid hm.rdR
  clear hbm hm
  have q8 := cell_of_row wm _ 8 _ _ _ GQ.out
  simp only [List.getElem?_toArray, List.getElem?_cons_zero, List.getElem?_cons_succ] at q8
  replace q8 := cell_keep q8 (up_a1 wm (.cells #[.slice none 0 0, .int .i64 0, .bool false, .int .i64 0, .int .i64 0, .string ⟨#[]⟩] 37))
  have hC := spec_Column m (.slice Am m.length cm) q.col (wm.alloc (.cells #[.slice none 0 0, .int .i64 0, .bool false, .int .i64 0, .int .i64 0, .string ⟨#[]⟩] 37)) (HM0.out.below (up_a1 wm _) (Nat.le_refl _)) (by simp) hml
  have hkl := column_len m q.col
  obtain ⟨vs, hvs⟩ : ∃ vs, column m q.col = vs := ⟨_, rfl⟩
  rw [hvs] at hC hkl
  have HV := Lib.hid hvs
  clear hvs
  replace hC := Lib.hid hC
  go_wp2_with fail
  refine hC.out.mono ?_
  clear hC q8
  rintro e wk ⟨vk, rfl, hk, hbk⟩
  simp only [World.size_alloc] at hk
  obtain ⟨Ak, ck, rfl, -, -, -⟩ := hk.cells
  have hbk' := below_a1 hbk
  have zk : wm.heap.size + 1 ≤ wk.heap.size := by have h := hbk.size; simp only [World.size_alloc] at h; omega
  have GR := Lib.hid ((hbk.block wm.heap.size (by simp)).trans (heap_alloc_new wm (.cells #[.slice none 0 0, .int .i64 0, .bool false, .int .i64 0, .int .i64 0, .string ⟨#[]⟩] 37)))
  replace GQ := Lib.hid ((hbk'.block _ (by omega)).trans GQ.out)
  replace G1 := Lib.hid ((hbk'.block _ (by omega)).trans G1.out)
  replace HB := Lib.hid (HB.out.trans (hbk'.mono (by omega)))
  replace HM0 := Lib.hid (HM0.out.below hbk' (Nat.le_refl _))
  have HKo := Lib.hid hk
  clear hbk hbk' hk
  replace k1 := k1.out
  have q0 := cell_of_row wk _ 0 _ _ _ GQ.out
  simp only [List.getElem?_toArray, List.getElem?_cons_zero] at q0
  have d1 : (q.kind == 1) = true := by simp [k1]
  have HJ := Lib.hid (show answer q l = ⟨m.map (cutR q.out), 0, false, V.zero⟩ by unfold answer; rw [Hm0.out]; unfold answerOf; rw [HV.out]; simp [k1])
  go_wp2_with fail
  go_loopw [8] (fun i wr => ∃ (k : Nat) (v : Value) (ps : List (R × Value)), i = .int .i64 k ∧ k ≤ m.length ∧ ps.length = k ∧ ps.map Prod.fst = (m.take k).map (cutR q.out) ∧ OwnRp 51 25 wr wk.heap.size wr.heap.size v ps ∧ wr.heap[wm.heap.size]? = some (.cells #[v, .int .i64 0, .bool false, .int .i64 0, .int .i64 0, .string ⟨#[]⟩] 37) ∧ Below wm.heap.size wk wr) (fun i _ => m.length - (intOf i).toNat)
  case atStart => exact ⟨0, .slice none 0 0, [], rfl, by omega, rfl, by simp, ownRp_none _ _ _ _ _, GR.out, Below.refl _ _⟩
  case round =>
    obtain ⟨k, v, ps, rfl, hk, hpl, hps, hown, hc, hb⟩ := hrel
    obtain ⟨Av, cv, rfl, -, -, -⟩ := hown.own.cells
    rw [hpl] at hown hc
    have hg : wm.heap.size < wr.heap.size := (Array.getElem?_eq_some_iff.1 hc).1
    have Hps := Lib.hid hps
    have Hown := Lib.hid hown
    have hzb := hb.size
    have HBr := Lib.hid (HB.out.trans (hb.mono (by omega)))
    replace GQ := Lib.hid ((hb.block _ (by omega)).trans GQ.out)
    replace G1 := Lib.hid ((hb.block _ (by omega)).trans G1.out)
    have Hc := Lib.hid hc
    clear hps hown hc q0
    by_cases hkl : k < m.length
    · obtain ⟨b, off, y, sv', rfl, -, hbl, hyk, e0, e1, hr⟩ := (HM0.out.below hb (Nat.le_refl _)).at hkl
      obtain ⟨As, cs, rfl, -, -⟩ := hr.form
      have hyl : y.l.length ≤ 1048576 := Nat.le_trans (len_of_lens (mem_of_get hyk)) hms.out
      have Hy := Lib.hid (cutR_step (q := q.out) hyk)
      have ho' := ho.below HBr.out hh2
      clear hyk
      have q9 := cell_of_row wr _ 9 _ _ _ GQ.out
      simp only [List.getElem?_toArray, List.getElem?_cons_zero, List.getElem?_cons_succ] at q9
      go_upto_region 9 with fail
      have TC := Lib.hid (fun (W : World) (h : Below wr.heap.size wr W) => spec_l12Cut y (.slice As y.l.length cs) q.out (.slice Ao q.out.length co) W (hr.below h (by omega)) (by have := h.size; omega) (ho'.below h (by omega)) (by have := h.size; omega) ⟨hno, hyl⟩)
      go_cut [9] from 29 to 35 (fun t wx => ∃ (bx : Nat) (vx : Value), t = .pointer (some ⟨bx, 0, none⟩) ∧ wr.heap.size ≤ bx ∧ wx.heap[bx]? = some (.cells #[.int .i64 y.id, vx] 51) ∧ Own 25 3 wx wr.heap.size wx.heap.size vx (cutL q.out y).length ((cutL q.out y).flatMap V.cells) ∧ Below wr.heap.size wr wx)
      case first =>
        refine wp_region_T (S := fun w' => w'.cell? ⟨b, off + k * 2, none⟩ = some (.int .i64 y.id) ∧ w'.cell? ⟨b, off + k * 2 + 1, none⟩ = some (.slice As y.l.length cs) ∧ w'.cell? ⟨w.heap.size, 9, none⟩ = some (.slice Ao q.out.length co)) (n := 8) (by kernel_rfl) ?_
        generalize hX0 : wr.drew = X0
        have HB0 : Below wr.heap.size wr X0 := hX0 ▸ (Below.refl _ _).drew
        have s0 : wr.heap.size ≤ X0.heap.size := HB0.size
        have x0 := cell_keep e0 HB0
        have x1 := cell_keep e1 HB0
        have x2 := cell_keep q9 HB0
        clear hX0
        have F0 : X0.cell? ⟨b, off + k * 2, none⟩ = some (.int .i64 y.id) ∧ X0.cell? ⟨b, off + k * 2 + 1, none⟩ = some (.slice As y.l.length cs) ∧ X0.cell? ⟨w.heap.size, 9, none⟩ = some (.slice Ao q.out.length co) := ⟨x0, x1, x2⟩
        refine wpAnyT_take (i := 0) (oi := _) (v := ?_) rfl (by kernel_rfl) (by kernel_rfl) (by kernel_rfl) (by kernel_rfl) (fun _ _ _ h => h) (Or.inl ⟨by rfl, ?_⟩) F0 ?_
        rotate_left
        · (intro w' hSw; (try dsimp only at hSw); go_simp) <;> with_reducible rfl
        try simp only [Act.put, List.setIfInBounds_toArray, List.set_cons_zero, List.set_cons_succ]
        refine wpAnyT_take (i := 1) (oi := _) (v := ?_) rfl (by kernel_rfl) (by kernel_rfl) (by kernel_rfl) (by kernel_rfl) (fun _ _ _ h => h) (Or.inl ⟨by rfl, ?_⟩) F0 ?_
        rotate_left
        · (intro w' hSw; (try dsimp only at hSw); go_simp) <;> with_reducible rfl
        try simp only [Act.put, List.setIfInBounds_toArray, List.set_cons_zero, List.set_cons_succ]
        refine wpAnyT_take (i := 2) (oi := _) (v := ?_) rfl (by kernel_rfl) (by kernel_rfl) (by kernel_rfl) (by kernel_rfl) (fun _ _ _ h => h) (Or.inl ⟨by rfl, ?_⟩) F0 ?_
        rotate_left
        · (intro w' hSw; (try dsimp only at hSw); go_simp) <;> with_reducible rfl
        try simp only [Act.put, List.setIfInBounds_toArray, List.set_cons_zero, List.set_cons_succ]
        refine wpAnyT_take (i := 3) (oi := _) (v := ?_) rfl (by kernel_rfl) (by kernel_rfl) (by kernel_rfl) (by kernel_rfl) (fun _ _ _ h => h) (Or.inl ⟨by rfl, ?_⟩) F0 ?_
        rotate_left
        · (intro w' hSw; (try dsimp only at hSw); go_simp) <;> with_reducible rfl
        try simp only [Act.put, List.setIfInBounds_toArray, List.set_cons_zero, List.set_cons_succ]
        refine wpAnyT_take (i := 4) (oi := _) (v := ?_) rfl (by kernel_rfl) (by kernel_rfl) (by kernel_rfl) (by kernel_rfl) (fun _ _ _ h => h) (Or.inl ⟨by rfl, ?_⟩) F0 ?_
        rotate_left
        · (intro w' hSw; (try dsimp only at hSw); go_simp) <;> with_reducible rfl
        try simp only [Act.put, List.setIfInBounds_toArray, List.set_cons_zero, List.set_cons_succ]
        refine wpAnyT_take (i := 5) (oi := _) (v := ?_) rfl (by kernel_rfl) (by kernel_rfl) (by kernel_rfl) (by kernel_rfl) (fun _ _ _ h => h) (Or.inl ⟨by rfl, ?_⟩) F0 ?_
        rotate_left
        · (intro w' hSw; (try dsimp only at hSw); go_simp) <;> with_reducible rfl
        try simp only [Act.put, List.setIfInBounds_toArray, List.set_cons_zero, List.set_cons_succ]
        refine wpAnyT_two (k := 6) (k2 := 7) (o := _) (o2 := _) (by kernel_rfl) rfl rfl rfl rfl ?_ ?_
        · intro K hK
          go_simp
          refine (TC.out X0 HB0).mono ?_
          rintro e X1 ⟨vx, rfl, hox, hb1⟩
          obtain ⟨Ax, cx, rfl, -, -, -⟩ := hox.cells
          have HB1 := HB0.trans (hb1.mono HB0.size)
          have s1 := hb1.size
          refine hK.out _ _ (fun _ => ?_) ?_
          · exact ⟨cell_keep e0 HB1, cell_keep e1 HB1, cell_keep q9 HB1⟩
          clear hK
          try simp only [Act.put, List.setIfInBounds_toArray, List.set_cons_zero, List.set_cons_succ]
          refine wpAnyT_one (k := 7) (o := _) (by kernel_rfl) rfl rfl ?_
          intro K hK
          go_simp
          have up2 : Below X1.heap.size X1 (X1.alloc (.cells #[.int .i64 0, .slice none 0 0] 51)) := up_a1 X1 _
          have HB2 : Below wr.heap.size wr (X1.alloc (.cells #[.int .i64 0, .slice none 0 0] 51)) := HB1.trans (up2.mono HB1.size)
          have GZ := heap_alloc_new X1 (.cells #[.int .i64 0, .slice none 0 0] 51)
          have s2 : X1.heap.size < (X1.alloc (.cells #[.int .i64 0, .slice none 0 0] 51)).heap.size := by simp
          refine hK.out _ _ (fun _ => ⟨cell_keep e0 HB2, cell_keep e1 HB2, cell_keep q9 HB2⟩) ?_
          clear hK
          generalize (X1.alloc (.cells #[.int .i64 0, .slice none 0 0] 51)) = X2 at *
          try simp only [Act.put, List.setIfInBounds_toArray, List.set_cons_zero, List.set_cons_succ]
          replace hox := hox.below up2 (Nat.le_refl _)
          have hch : Chg X1.heap.size (X1.heap.size + 1) X2 ((X2.setCell ⟨X1.heap.size, 0, none⟩ (.int .i64 y.id)).setCell ⟨X1.heap.size, 1, none⟩ (.slice Ax (cutL q.out y).length cx)) := (chg_set _ _ _ _).trans (chg_set _ _ _ _)
          have hsz : ((X2.setCell ⟨X1.heap.size, 0, none⟩ (.int .i64 y.id)).setCell ⟨X1.heap.size, 1, none⟩ (.slice Ax (cutL q.out y).length cx)).heap.size = X2.heap.size := by simp [World.setCell]
          have G6 := set1 (o := 1) (a := (.slice Ax (cutL q.out y).length cx)) (set1 (o := 0) (a := .int .i64 y.id) GZ)
          simp only [List.setIfInBounds_toArray, List.set_cons_succ, List.set_cons_zero] at G6
          have RR := Lib.hid (show ∃ (bx : Nat) (vx : Value), (Value.pointer (some ⟨X1.heap.size, 0, none⟩)) = .pointer (some ⟨bx, 0, none⟩) ∧ wr.heap.size ≤ bx ∧ ((X2.setCell ⟨X1.heap.size, 0, none⟩ (.int .i64 y.id)).setCell ⟨X1.heap.size, 1, none⟩ (.slice Ax (cutL q.out y).length cx)).heap[bx]? = some (.cells #[.int .i64 y.id, vx] 51) ∧ Own 25 3 ((X2.setCell ⟨X1.heap.size, 0, none⟩ (.int .i64 y.id)).setCell ⟨X1.heap.size, 1, none⟩ (.slice Ax (cutL q.out y).length cx)) wr.heap.size ((X2.setCell ⟨X1.heap.size, 0, none⟩ (.int .i64 y.id)).setCell ⟨X1.heap.size, 1, none⟩ (.slice Ax (cutL q.out y).length cx)).heap.size vx (cutL q.out y).length ((cutL q.out y).flatMap V.cells) ∧ Below wr.heap.size wr ((X2.setCell ⟨X1.heap.size, 0, none⟩ (.int .i64 y.id)).setCell ⟨X1.heap.size, 1, none⟩ (.slice Ax (cutL q.out y).length cx)) from ⟨X1.heap.size, (.slice Ax (cutL q.out y).length cx), rfl, by have := HB2.size; omega, G6, (hox.same (.of_chg hch (by omega) (by omega))).more (by omega) (by rw [hsz]; omega), HB2.trans ((hch.below (Nat.le_refl _) (by omega)).mono (by have := HB2.size; omega))⟩)
          clear G6 hch hsz
          have t0 := cell_of_row X2 _ 0 _ _ _ GZ
          have t1 := cell_of_row X2 _ 1 _ _ _ GZ
          simp only [List.getElem?_toArray, List.getElem?_cons_zero, List.getElem?_cons_succ] at t0 t1
          have ft := fun o => frozen_of_row X2 _ o _ _ GZ
          clear GZ
          refine wpAnyT_one (k := 8) (o := _) (by kernel_rfl) rfl rfl ?_
          intro K hK
          go_simp
          refine hK.out _ _ (fun h => absurd rfl h) ?_
          clear hK
          refine wpAnyT_done (by kernel_rfl) ?_ _
          go_wp2_with fail
          go_meet
          with_reducible exact RR.out
        · intro K hK
          go_simp
          have up1 : Below X0.heap.size X0 (X0.alloc (.cells #[.int .i64 0, .slice none 0 0] 51)) := up_a1 X0 _
          have HB1 : Below wr.heap.size wr (X0.alloc (.cells #[.int .i64 0, .slice none 0 0] 51)) := HB0.trans (up1.mono HB0.size)
          have GZ := heap_alloc_new X0 (.cells #[.int .i64 0, .slice none 0 0] 51)
          have s1 : X0.heap.size < (X0.alloc (.cells #[.int .i64 0, .slice none 0 0] 51)).heap.size := by simp
          refine hK.out _ _ (fun _ => ⟨cell_keep e0 HB1, cell_keep e1 HB1, cell_keep q9 HB1⟩) ?_
          clear hK
          generalize (X0.alloc (.cells #[.int .i64 0, .slice none 0 0] 51)) = X1 at *
          try simp only [Act.put, List.setIfInBounds_toArray, List.set_cons_zero, List.set_cons_succ]
          replace GZ := Lib.hid GZ
          refine wpAnyT_one (k := 6) (o := _) (by kernel_rfl) rfl rfl ?_
          intro K hK
          go_simp
          refine (TC.out X1 HB1).mono ?_
          rintro e X2 ⟨vx, rfl, hox, hb2⟩
          obtain ⟨Ax, cx, rfl, -, -, -⟩ := hox.cells
          have HB2 := HB1.trans (hb2.mono HB1.size)
          have s2 := hb2.size
          refine hK.out _ _ (fun _ => ?_) ?_
          · exact ⟨cell_keep e0 HB2, cell_keep e1 HB2, cell_keep q9 HB2⟩
          clear hK
          try simp only [Act.put, List.setIfInBounds_toArray, List.set_cons_zero, List.set_cons_succ]
          replace GZ := (hb2.block _ (by omega)).trans GZ.out
          have hch : Chg X0.heap.size (X0.heap.size + 1) X2 ((X2.setCell ⟨X0.heap.size, 0, none⟩ (.int .i64 y.id)).setCell ⟨X0.heap.size, 1, none⟩ (.slice Ax (cutL q.out y).length cx)) := (chg_set _ _ _ _).trans (chg_set _ _ _ _)
          have hsz : ((X2.setCell ⟨X0.heap.size, 0, none⟩ (.int .i64 y.id)).setCell ⟨X0.heap.size, 1, none⟩ (.slice Ax (cutL q.out y).length cx)).heap.size = X2.heap.size := by simp [World.setCell]
          have G6 := set1 (o := 1) (a := (.slice Ax (cutL q.out y).length cx)) (set1 (o := 0) (a := .int .i64 y.id) GZ)
          simp only [List.setIfInBounds_toArray, List.set_cons_succ, List.set_cons_zero] at G6
          have RR := Lib.hid (show ∃ (bx : Nat) (vx : Value), (Value.pointer (some ⟨X0.heap.size, 0, none⟩)) = .pointer (some ⟨bx, 0, none⟩) ∧ wr.heap.size ≤ bx ∧ ((X2.setCell ⟨X0.heap.size, 0, none⟩ (.int .i64 y.id)).setCell ⟨X0.heap.size, 1, none⟩ (.slice Ax (cutL q.out y).length cx)).heap[bx]? = some (.cells #[.int .i64 y.id, vx] 51) ∧ Own 25 3 ((X2.setCell ⟨X0.heap.size, 0, none⟩ (.int .i64 y.id)).setCell ⟨X0.heap.size, 1, none⟩ (.slice Ax (cutL q.out y).length cx)) wr.heap.size ((X2.setCell ⟨X0.heap.size, 0, none⟩ (.int .i64 y.id)).setCell ⟨X0.heap.size, 1, none⟩ (.slice Ax (cutL q.out y).length cx)).heap.size vx (cutL q.out y).length ((cutL q.out y).flatMap V.cells) ∧ Below wr.heap.size wr ((X2.setCell ⟨X0.heap.size, 0, none⟩ (.int .i64 y.id)).setCell ⟨X0.heap.size, 1, none⟩ (.slice Ax (cutL q.out y).length cx)) from ⟨X0.heap.size, (.slice Ax (cutL q.out y).length cx), rfl, by have := HB2.size; omega, G6, (hox.same (.of_chg hch (by omega) (by omega))).more (by omega) (by rw [hsz]; omega), HB2.trans ((hch.below (Nat.le_refl _) (by omega)).mono (by have := HB2.size; omega))⟩)
          clear G6 hch hsz
          have t0 := cell_of_row X2 _ 0 _ _ _ GZ
          have t1 := cell_of_row X2 _ 1 _ _ _ GZ
          simp only [List.getElem?_toArray, List.getElem?_cons_zero, List.getElem?_cons_succ] at t0 t1
          have ft := fun o => frozen_of_row X2 _ o _ _ GZ
          clear GZ
          refine wpAnyT_one (k := 8) (o := _) (by kernel_rfl) rfl rfl ?_
          intro K hK
          go_simp
          refine hK.out _ _ (fun h => absurd rfl h) ?_
          clear hK
          refine wpAnyT_done (by kernel_rfl) ?_ _
          go_wp2_with fail
          go_meet
          with_reducible exact RR.out
      obtain ⟨bx, vx, rfl, hbx, hcx, hox, hbw⟩ := hcut
      obtain ⟨Ax, cx, rfl, -, -, -⟩ := hox.cells
      clear TC e0 e1 q9 hr ho'
      have hsw := hbw.size
      have hgw := Nat.lt_of_lt_of_le hg hsw
      have HcW := Lib.hid ((hbw.block _ hg).trans Hc.out)
      have hout := owns_below (owns_base Hown.out.out fun g hg => (Hown.out.outIn g hg).1) hbw
      rw [hpl] at hout
      have Hin := Lib.hid (hox.below (up_a1 wc (.cells #[.int .i64 y.id, .slice Ax (cutL q.out y).length cx] 51)) (Nat.le_refl _))
      have c0 := cell_of_row wc _ 0 _ _ _ hcx
      have c1 := cell_of_row wc _ 1 _ _ _ hcx
      have g0 := cell_of_row wc _ 0 _ _ _ HcW.out
      simp only [List.getElem?_toArray, List.getElem?_cons_zero, List.getElem?_cons_succ] at c0 c1 g0
      have Hbw := Lib.hid hbw
      clear hcx hox hbw
      go_wp2_with (at_builtin; refine wpl_app rfl _ _ 32 rfl wk.heap.size 51 i0 _ 2 32 Tryz.underlying32 hif.out hz0.out hz1.out hz2.out rfl (by decide) (by decide) (hout.alloc _) rfl (heap_alloc_new _ _) rfl rfl (by simp [Value.oneCell']) (by omega) (by simp; omega) ?_)
      intro v' w3 hown' hgrow hnb
      have hrow := fun g hg => (hout.lt g hg).1
      have hsn := Lib.hid (Hown.out.snoc (x := cutR q.out y) (Hbw.out.alloc hsw _) (by omega) Hin.out (by simp) (by rw [hpl]; exact hown') hgrow (by simpa using hnb))
      have HC3 := Lib.hid ((hgrow.block wm.heap.size (by simp; omega) (fun e => by have := hrow _ e.symm; omega)).trans ((Below.heap_alloc wc _ _ (by omega)).trans HcW.out))
      obtain ⟨A2, c2, rfl, -, -, -⟩ := (Own.new hown').cells
      have HB3 := Lib.hid (below_set48 (o := 0) (u := .slice A2 (k + 1) c2) (b := wm.heap.size) (Below.grown ((hb.trans (Hbw.out.mono (by omega))).alloc (by omega) (.cells #[.int .i64 y.id, .slice Ax (cutL q.out y).length cx] 51)) hgrow (fun g hg => by have := hrow g hg; omega) (by omega)) (Nat.le_refl _))
      have hc3n := set1 (o := 0) (a := .slice A2 (k + 1) c2) HC3.out
      simp only [List.setIfInBounds_toArray, List.set_cons_zero] at hc3n
      have HC3n := Lib.hid hc3n
      have p0 := cell_of_row w3 _ 0 _ _ _ HC3.out
      simp only [List.getElem?_toArray, List.getElem?_cons_zero] at p0
      have pf := fun o => frozen_of_row w3 _ o _ _ HC3.out
      clear hown' hgrow hnb hout hc3n hrow c0 c1 g0
      go_wp2_with fail
      go_roundw
      case rel => exact ⟨k + 1, _, _, by go_num, by omega, by simp [hpl], by rw [List.map_append, Hps.out, Hy.out]; rfl, hsn.out.imp (fun g h _ => set_keep48 (by omega)) (Nat.le_refl _) (by simp [World.setCell]), HC3n.out, HB3.out⟩
      case measure => simp [intOf]; omega
    · obtain rfl : k = m.length := by omega
      have HM := Lib.hid (show ps.map Prod.fst = m.map (cutR q.out) by rw [Hps.out, List.take_length])
      replace HB := HBr
      have j0 := cell_of_row wr _ 0 _ _ _ Hc.out
      have j1 := cell_of_row wr _ 1 _ _ _ Hc.out
      have j2 := cell_of_row wr _ 2 _ _ _ Hc.out
      have j3 := cell_of_row wr _ 3 _ _ _ Hc.out
      have j4 := cell_of_row wr _ 4 _ _ _ Hc.out
      have j5 := cell_of_row wr _ 5 _ _ _ Hc.out
      simp only [List.getElem?_toArray, List.getElem?_cons_zero, List.getElem?_cons_succ] at j0 j1 j2 j3 j4 j5
      have p0 := cell_of_row wr _ 0 _ _ _ G1.out
      have p1 := cell_of_row wr _ 1 _ _ _ G1.out
      have p2 := cell_of_row wr _ 2 _ _ _ G1.out
      have p3 := cell_of_row wr _ 3 _ _ _ G1.out
      have p4 := cell_of_row wr _ 4 _ _ _ G1.out
      have p5 := cell_of_row wr _ 5 _ _ _ G1.out
      simp only [List.getElem?_toArray, List.getElem?_cons_zero, List.getElem?_cons_succ] at p0 p1 p2 p3 p4 p5
      have fr := fun o => frozen_of_row wr _ o _ _ G1.out
      have fj := fun o => frozen_of_row wr _ o _ _ Hc.out
      go_wp2_with fail
      have G6 := set_six (v0 := .slice Av m.length cv) (v1 := .int .i64 0) (v2 := .bool false) (v3 := .int .i64 0) (v4 := .int .i64 0) (v5 := .string ⟨#[]⟩) G1.out
      have kp : ∀ g, g ≠ w.heap.size + 1 → ((((((wr.setCell ⟨w.heap.size + 1, 0, none⟩ (.slice Av m.length cv)).setCell ⟨w.heap.size + 1, 1, none⟩ (.int .i64 0)).setCell ⟨w.heap.size + 1, 2, none⟩ (.bool false)).setCell ⟨w.heap.size + 1, 3, none⟩ (.int .i64 0)).setCell ⟨w.heap.size + 1, 4, none⟩ (.int .i64 0)).setCell ⟨w.heap.size + 1, 5, none⟩ (.string ⟨#[]⟩)).heap[g]? = wr.heap[g]? := fun g hg => by
        iterate 5 refine (Below.heap_setCell _ _ _ g hg).trans ?_
        exact Below.heap_setCell _ _ _ g hg
      have RF : OwnRp 51 25 ((((((wr.setCell ⟨w.heap.size + 1, 0, none⟩ (.slice Av m.length cv)).setCell ⟨w.heap.size + 1, 1, none⟩ (.int .i64 0)).setCell ⟨w.heap.size + 1, 2, none⟩ (.bool false)).setCell ⟨w.heap.size + 1, 3, none⟩ (.int .i64 0)).setCell ⟨w.heap.size + 1, 4, none⟩ (.int .i64 0)).setCell ⟨w.heap.size + 1, 5, none⟩ (.string ⟨#[]⟩)) w.heap.size ((((((wr.setCell ⟨w.heap.size + 1, 0, none⟩ (.slice Av m.length cv)).setCell ⟨w.heap.size + 1, 1, none⟩ (.int .i64 0)).setCell ⟨w.heap.size + 1, 2, none⟩ (.bool false)).setCell ⟨w.heap.size + 1, 3, none⟩ (.int .i64 0)).setCell ⟨w.heap.size + 1, 4, none⟩ (.int .i64 0)).setCell ⟨w.heap.size + 1, 5, none⟩ (.string ⟨#[]⟩)).heap.size (.slice Av m.length cv) _ := OwnRp.imp (Hown.out) (fun g hg _ => kp g (by omega)) (by omega) (by simp [World.setCell])
      have BF : Below w.heap.size w ((((((wr.setCell ⟨w.heap.size + 1, 0, none⟩ (.slice Av m.length cv)).setCell ⟨w.heap.size + 1, 1, none⟩ (.int .i64 0)).setCell ⟨w.heap.size + 1, 2, none⟩ (.bool false)).setCell ⟨w.heap.size + 1, 3, none⟩ (.int .i64 0)).setCell ⟨w.heap.size + 1, 4, none⟩ (.int .i64 0)).setCell ⟨w.heap.size + 1, 5, none⟩ (.string ⟨#[]⟩)) := by
        iterate 6 refine below_set48 ?_ (by omega)
        exact HB.out
      generalize hXF : ((((((wr.setCell ⟨w.heap.size + 1, 0, none⟩ (.slice Av m.length cv)).setCell ⟨w.heap.size + 1, 1, none⟩ (.int .i64 0)).setCell ⟨w.heap.size + 1, 2, none⟩ (.bool false)).setCell ⟨w.heap.size + 1, 3, none⟩ (.int .i64 0)).setCell ⟨w.heap.size + 1, 4, none⟩ (.int .i64 0)).setCell ⟨w.heap.size + 1, 5, none⟩ (.string ⟨#[]⟩)) = XF at *
      clear hXF kp
      clear j0 j1 j2 j3 j4 j5 p0 p1 p2 p3 p4 p5 fr
      have r0 := cell_of_row XF _ 0 _ _ _ G6
      have r1 := cell_of_row XF _ 1 _ _ _ G6
      have r2 := cell_of_row XF _ 2 _ _ _ G6
      have r3 := cell_of_row XF _ 3 _ _ _ G6
      have r4 := cell_of_row XF _ 4 _ _ _ G6
      have r5 := cell_of_row XF _ 5 _ _ _ G6
      simp only [List.getElem?_toArray, List.getElem?_cons_zero, List.getElem?_cons_succ] at r0 r1 r2 r3 r4 r5
      refine bodyPost_ret (v := .agg #[.slice Av m.length cv, .int .i64 0, .bool false, .int .i64 0, .int .i64 0, .string ⟨#[]⟩]) ?_ rfl ⟨.slice Av m.length cv, (by first | (rw [HJ.out]; done) | (rw [HJ.out]; rfl)), ?_, BF⟩
      · simp [results, Tryz.results10, go_sem, r0, r1, r2, r3, r4, r5]
      · rw [HJ.out]
        exact ⟨_, HM.out, RF⟩
end Go.Proofs.YtidmlfjolhnnfaaGreatDoor
namespace Go.Proofs.YtidmlfjolhnnfaaGreatDoor
open Go.Sort Go.ChangeShapes Go.WideShapes Go.ChangeAt Go.RowKit Go.Lb
set_option maxRecDepth 20000 in
set_option maxHeartbeats 4000000 in
theorem spec_Answer2 (q : Q) (sv ov : Value) (l : List R) (x : Value) (w : World) {l1 h1 l2 h2 lo hi : Nat} (hp : RdP w l1 h1 sv q.p.l) (hh1 : h1 ≤ w.heap.size) (ho : RdI w l2 h2 ov q.out) (hh2 : h2 ≤ w.heap.size) (hx : RdR w lo hi x l) (hhi : hi ≤ w.heap.size) (hn : l.length ≤ 1048576 ∧ lensR l ≤ 1048576) (_hno : q.out.length ≤ 1048576) (k1 : q.kind ≠ 1) (k2 : q.kind = 2) :
    Calls Tryz.prog 10 #[.agg #[.int .i64 q.kind, .int .i64 q.p.kind, .int .i64 q.p.col, .int .i64 q.p.op, .int .i64 q.p.v.ty, .int .i64 q.p.v.n, .string q.p.v.s, sv, .int .i64 q.col, ov], x] w fun e w' => ∃ v, e = .returned (.agg #[v, .int .i64 (answer q l).n, .bool (answer q l).has, .int .i64 (answer q l).v.ty, .int .i64 (answer q l).v.n, .string (answer q l).v.s]) ∧ OwnR 51 25 w' w.heap.size w'.heap.size v (answer q l).rows ∧ Below w.heap.size w w' := by
  obtain ⟨Ap, cp, rfl, -, -⟩ := hp.form
  obtain ⟨Ao, co, rfl, -, -⟩ := ho.form
  obtain ⟨A, c, rfl, -, -⟩ := hx.form
  replace k2 := Lib.hid k2
  obtain ⟨i0, hif, hz0, hz1, hz2⟩ := info_parts info_Row
  replace hif := Lib.hid hif
  replace hz0 := Lib.hid hz0
  replace hz1 := Lib.hid hz1
  replace hz2 := Lib.hid hz2
  obtain ⟨i1, hif1, hy0, hy1, hy2⟩ := info_parts info_val
  replace hif1 := Lib.hid hif1
  replace hy0 := Lib.hid hy0
  replace hy1 := Lib.hid hy1
  replace hy2 := Lib.hid hy2
  have hup := up_a2 w (.cells #[.int .i64 q.kind, .int .i64 q.p.kind, .int .i64 q.p.col, .int .i64 q.p.op, .int .i64 q.p.v.ty, .int .i64 q.p.v.n, .string q.p.v.s, .slice Ap q.p.l.length cp, .int .i64 q.col, .slice Ao q.out.length co] 31) (.cells #[.slice none 0 0, .int .i64 0, .bool false, .int .i64 0, .int .i64 0, .string ⟨#[]⟩] 37)
  have hM := spec_Meant q (.slice Ap q.p.l.length cp) (.slice Ao q.out.length co) l (.slice A l.length c) ((w.alloc (.cells #[.int .i64 q.kind, .int .i64 q.p.kind, .int .i64 q.p.col, .int .i64 q.p.op, .int .i64 q.p.v.ty, .int .i64 q.p.v.n, .string q.p.v.s, .slice Ap q.p.l.length cp, .int .i64 q.col, .slice Ao q.out.length co] 31)).alloc (.cells #[.slice none 0 0, .int .i64 0, .bool false, .int .i64 0, .int .i64 0, .string ⟨#[]⟩] 37)) (hp.below hup hh1) (by simp; omega) (ho.below hup hh2) (by simp; omega) (hx.below hup hhi) (by simp; omega) hn
  have hml := meant_len q l
  have hms := meant_lens q l
  obtain ⟨m, hm0⟩ : ∃ m, meant q l = m := ⟨_, rfl⟩
  rw [hm0] at hM hml hms
  replace hml : m.length ≤ 1048576 := Nat.le_trans hml hn.1
  replace hms := Lib.hid (Nat.le_trans hms hn.2)
  have Hm0 := Lib.hid hm0
  replace hM := Lib.hid hM
  have GQ := Lib.hid (show ((w.alloc (.cells #[.int .i64 q.kind, .int .i64 q.p.kind, .int .i64 q.p.col, .int .i64 q.p.op, .int .i64 q.p.v.ty, .int .i64 q.p.v.n, .string q.p.v.s, .slice Ap q.p.l.length cp, .int .i64 q.col, .slice Ao q.out.length co] 31)).alloc (.cells #[.slice none 0 0, .int .i64 0, .bool false, .int .i64 0, .int .i64 0, .string ⟨#[]⟩] 37)).heap[w.heap.size]? = some (.cells #[.int .i64 q.kind, .int .i64 q.p.kind, .int .i64 q.p.col, .int .i64 q.p.op, .int .i64 q.p.v.ty, .int .i64 q.p.v.n, .string q.p.v.s, .slice Ap q.p.l.length cp, .int .i64 q.col, .slice Ao q.out.length co] 31) from alloc_old48 (heap_alloc_new w _))
  have G1 := Lib.hid (show ((w.alloc (.cells #[.int .i64 q.kind, .int .i64 q.p.kind, .int .i64 q.p.col, .int .i64 q.p.op, .int .i64 q.p.v.ty, .int .i64 q.p.v.n, .string q.p.v.s, .slice Ap q.p.l.length cp, .int .i64 q.col, .slice Ao q.out.length co] 31)).alloc (.cells #[.slice none 0 0, .int .i64 0, .bool false, .int .i64 0, .int .i64 0, .string ⟨#[]⟩] 37)).heap[w.heap.size + 1]? = some (.cells #[.slice none 0 0, .int .i64 0, .bool false, .int .i64 0, .int .i64 0, .string ⟨#[]⟩] 37) from heap_new48 (by simp))
  have HB := Lib.hid hup
  clear hm0 hp hx hn hup
  go_enter Tryz.func10, Tryz.ntmps10
  go_wp2_with fail
  refine hM.out.mono ?_
  clear hM
  rintro e wm ⟨vm, rfl, hm, hbm⟩
  obtain ⟨Am, cm, rfl, -, -⟩ := hm.rdR.form
  have zm : w.heap.size + 2 ≤ wm.heap.size := by have h := hbm.size; simp only [World.size_alloc] at h; omega
  replace GQ := Lib.hid ((hbm.block _ (by simp <;> omega)).trans GQ.out)
  replace G1 := Lib.hid ((hbm.block _ (by simp <;> omega)).trans G1.out)
  replace HB := Lib.hid (HB.out.trans (hbm.mono HB.out.size))
  have HM0 := Lib.hid hm.rdR
  clear hbm hm
  have q8 := cell_of_row wm _ 8 _ _ _ GQ.out
  simp only [List.getElem?_toArray, List.getElem?_cons_zero, List.getElem?_cons_succ] at q8
  replace q8 := cell_keep q8 (up_a1 wm (.cells #[.slice none 0 0, .int .i64 0, .bool false, .int .i64 0, .int .i64 0, .string ⟨#[]⟩] 37))
  have hC := spec_Column m (.slice Am m.length cm) q.col (wm.alloc (.cells #[.slice none 0 0, .int .i64 0, .bool false, .int .i64 0, .int .i64 0, .string ⟨#[]⟩] 37)) (HM0.out.below (up_a1 wm _) (Nat.le_refl _)) (by simp) hml
  have hkl := column_len m q.col
  obtain ⟨vs, hvs⟩ : ∃ vs, column m q.col = vs := ⟨_, rfl⟩
  rw [hvs] at hC hkl
  have HV := Lib.hid hvs
  clear hvs
  replace hC := Lib.hid hC
  go_wp2_with fail
  refine hC.out.mono ?_
  clear hC q8
  rintro e wk ⟨vk, rfl, hk, hbk⟩
  simp only [World.size_alloc] at hk
  obtain ⟨Ak, ck, rfl, -, -, -⟩ := hk.cells
  have hbk' := below_a1 hbk
  have zk : wm.heap.size + 1 ≤ wk.heap.size := by have h := hbk.size; simp only [World.size_alloc] at h; omega
  have GR := Lib.hid ((hbk.block wm.heap.size (by simp)).trans (heap_alloc_new wm (.cells #[.slice none 0 0, .int .i64 0, .bool false, .int .i64 0, .int .i64 0, .string ⟨#[]⟩] 37)))
  replace GQ := Lib.hid ((hbk'.block _ (by omega)).trans GQ.out)
  replace G1 := Lib.hid ((hbk'.block _ (by omega)).trans G1.out)
  replace HB := Lib.hid (HB.out.trans (hbk'.mono (by omega)))
  replace HM0 := Lib.hid (HM0.out.below hbk' (Nat.le_refl _))
  have HKo := Lib.hid hk
  clear hbk hbk' hk
  replace k2 := k2.out
  have q0 := cell_of_row wk _ 0 _ _ _ GQ.out
  simp only [List.getElem?_toArray, List.getElem?_cons_zero] at q0
  have d1 : (q.kind == 1) = false := by simp [k1]
  have d2 : (q.kind == 2) = true := by simp [k2]
  have HJ := Lib.hid (show answer q l = ⟨[], (m.length : Int), false, V.zero⟩ by unfold answer; rw [Hm0.out]; unfold answerOf; rw [HV.out]; simp [k2])
  have j0 := cell_of_row wk _ 0 _ _ _ GR.out
  have j1 := cell_of_row wk _ 1 _ _ _ GR.out
  have j2 := cell_of_row wk _ 2 _ _ _ GR.out
  have j3 := cell_of_row wk _ 3 _ _ _ GR.out
  have j4 := cell_of_row wk _ 4 _ _ _ GR.out
  have j5 := cell_of_row wk _ 5 _ _ _ GR.out
  simp only [List.getElem?_toArray, List.getElem?_cons_zero, List.getElem?_cons_succ] at j0 j1 j2 j3 j4 j5
  have p0 := cell_of_row wk _ 0 _ _ _ G1.out
  have p1 := cell_of_row wk _ 1 _ _ _ G1.out
  have p2 := cell_of_row wk _ 2 _ _ _ G1.out
  have p3 := cell_of_row wk _ 3 _ _ _ G1.out
  have p4 := cell_of_row wk _ 4 _ _ _ G1.out
  have p5 := cell_of_row wk _ 5 _ _ _ G1.out
  simp only [List.getElem?_toArray, List.getElem?_cons_zero, List.getElem?_cons_succ] at p0 p1 p2 p3 p4 p5
  have fr := fun o => frozen_of_row wk _ o _ _ G1.out
  have fj := fun o => frozen_of_row wk _ o _ _ GR.out
  go_wp2_with fail
  have G1s := Lib.hid (show (wk.setCell ⟨wm.heap.size, 1, none⟩ (.int .i64 (m.length : Int))).heap[w.heap.size + 1]? = _ from (set_keep48 (by omega)).trans (G1.out))
  have HBs : Below w.heap.size w (wk.setCell ⟨wm.heap.size, 1, none⟩ (.int .i64 (m.length : Int))) := by
    iterate 1 refine below_set48 ?_ (by omega)
    exact HB.out
  have hsz : w.heap.size + 2 ≤ (wk.setCell ⟨wm.heap.size, 1, none⟩ (.int .i64 (m.length : Int))).heap.size := by simp [World.setCell]; omega
  generalize hXs : (wk.setCell ⟨wm.heap.size, 1, none⟩ (.int .i64 (m.length : Int))) = Xs at *
  clear hXs fj
  replace G1 := G1s
  replace HB := Lib.hid HBs
  clear G1s HBs
  have G6 := set_six (v0 := .slice none 0 0) (v1 := .int .i64 (m.length : Int)) (v2 := .bool false) (v3 := .int .i64 0) (v4 := .int .i64 0) (v5 := .string ⟨#[]⟩) G1.out
  have kp : ∀ g, g ≠ w.heap.size + 1 → ((((((Xs.setCell ⟨w.heap.size + 1, 0, none⟩ (.slice none 0 0)).setCell ⟨w.heap.size + 1, 1, none⟩ (.int .i64 (m.length : Int))).setCell ⟨w.heap.size + 1, 2, none⟩ (.bool false)).setCell ⟨w.heap.size + 1, 3, none⟩ (.int .i64 0)).setCell ⟨w.heap.size + 1, 4, none⟩ (.int .i64 0)).setCell ⟨w.heap.size + 1, 5, none⟩ (.string ⟨#[]⟩)).heap[g]? = Xs.heap[g]? := fun g hg => by
    iterate 5 refine (Below.heap_setCell _ _ _ g hg).trans ?_
    exact Below.heap_setCell _ _ _ g hg
  have RF : OwnRp 51 25 ((((((Xs.setCell ⟨w.heap.size + 1, 0, none⟩ (.slice none 0 0)).setCell ⟨w.heap.size + 1, 1, none⟩ (.int .i64 (m.length : Int))).setCell ⟨w.heap.size + 1, 2, none⟩ (.bool false)).setCell ⟨w.heap.size + 1, 3, none⟩ (.int .i64 0)).setCell ⟨w.heap.size + 1, 4, none⟩ (.int .i64 0)).setCell ⟨w.heap.size + 1, 5, none⟩ (.string ⟨#[]⟩)) w.heap.size ((((((Xs.setCell ⟨w.heap.size + 1, 0, none⟩ (.slice none 0 0)).setCell ⟨w.heap.size + 1, 1, none⟩ (.int .i64 (m.length : Int))).setCell ⟨w.heap.size + 1, 2, none⟩ (.bool false)).setCell ⟨w.heap.size + 1, 3, none⟩ (.int .i64 0)).setCell ⟨w.heap.size + 1, 4, none⟩ (.int .i64 0)).setCell ⟨w.heap.size + 1, 5, none⟩ (.string ⟨#[]⟩)).heap.size (.slice none 0 0) _ := ownRp_none _ _ _ _ _
  have BF : Below w.heap.size w ((((((Xs.setCell ⟨w.heap.size + 1, 0, none⟩ (.slice none 0 0)).setCell ⟨w.heap.size + 1, 1, none⟩ (.int .i64 (m.length : Int))).setCell ⟨w.heap.size + 1, 2, none⟩ (.bool false)).setCell ⟨w.heap.size + 1, 3, none⟩ (.int .i64 0)).setCell ⟨w.heap.size + 1, 4, none⟩ (.int .i64 0)).setCell ⟨w.heap.size + 1, 5, none⟩ (.string ⟨#[]⟩)) := by
    iterate 6 refine below_set48 ?_ (by omega)
    exact HB.out
  generalize hXF : ((((((Xs.setCell ⟨w.heap.size + 1, 0, none⟩ (.slice none 0 0)).setCell ⟨w.heap.size + 1, 1, none⟩ (.int .i64 (m.length : Int))).setCell ⟨w.heap.size + 1, 2, none⟩ (.bool false)).setCell ⟨w.heap.size + 1, 3, none⟩ (.int .i64 0)).setCell ⟨w.heap.size + 1, 4, none⟩ (.int .i64 0)).setCell ⟨w.heap.size + 1, 5, none⟩ (.string ⟨#[]⟩)) = XF at *
  clear hXF kp
  clear j0 j1 j2 j3 j4 j5 p0 p1 p2 p3 p4 p5 fr
  have r0 := cell_of_row XF _ 0 _ _ _ G6
  have r1 := cell_of_row XF _ 1 _ _ _ G6
  have r2 := cell_of_row XF _ 2 _ _ _ G6
  have r3 := cell_of_row XF _ 3 _ _ _ G6
  have r4 := cell_of_row XF _ 4 _ _ _ G6
  have r5 := cell_of_row XF _ 5 _ _ _ G6
  simp only [List.getElem?_toArray, List.getElem?_cons_zero, List.getElem?_cons_succ] at r0 r1 r2 r3 r4 r5
  refine bodyPost_ret (v := .agg #[.slice none 0 0, .int .i64 (m.length : Int), .bool false, .int .i64 0, .int .i64 0, .string ⟨#[]⟩]) ?_ rfl ⟨.slice none 0 0, (by first | (rw [HJ.out]; done) | (rw [HJ.out]; rfl)), ?_, BF⟩
  · simp [results, Tryz.results10, go_sem, r0, r1, r2, r3, r4, r5]
  · rw [HJ.out]
    exact ⟨_, (show ([] : List (R × Value)).map Prod.fst = [] from rfl), RF⟩
end Go.Proofs.YtidmlfjolhnnfaaGreatDoor
namespace Go.Proofs.YtidmlfjolhnnfaaGreatDoor
open Go.Sort Go.ChangeShapes Go.WideShapes Go.ChangeAt Go.RowKit Go.Lb
set_option maxRecDepth 20000 in
set_option maxHeartbeats 4000000 in
theorem spec_Answer3 (q : Q) (sv ov : Value) (l : List R) (x : Value) (w : World) {l1 h1 l2 h2 lo hi : Nat} (hp : RdP w l1 h1 sv q.p.l) (hh1 : h1 ≤ w.heap.size) (ho : RdI w l2 h2 ov q.out) (hh2 : h2 ≤ w.heap.size) (hx : RdR w lo hi x l) (hhi : hi ≤ w.heap.size) (hn : l.length ≤ 1048576 ∧ lensR l ≤ 1048576) (_hno : q.out.length ≤ 1048576) (k1 : q.kind ≠ 1) (k2 : q.kind ≠ 2) (k3 : q.kind = 3) :
    Calls Tryz.prog 10 #[.agg #[.int .i64 q.kind, .int .i64 q.p.kind, .int .i64 q.p.col, .int .i64 q.p.op, .int .i64 q.p.v.ty, .int .i64 q.p.v.n, .string q.p.v.s, sv, .int .i64 q.col, ov], x] w fun e w' => ∃ v, e = .returned (.agg #[v, .int .i64 (answer q l).n, .bool (answer q l).has, .int .i64 (answer q l).v.ty, .int .i64 (answer q l).v.n, .string (answer q l).v.s]) ∧ OwnR 51 25 w' w.heap.size w'.heap.size v (answer q l).rows ∧ Below w.heap.size w w' := by
  obtain ⟨Ap, cp, rfl, -, -⟩ := hp.form
  obtain ⟨Ao, co, rfl, -, -⟩ := ho.form
  obtain ⟨A, c, rfl, -, -⟩ := hx.form
  replace k3 := Lib.hid k3
  obtain ⟨i0, hif, hz0, hz1, hz2⟩ := info_parts info_Row
  replace hif := Lib.hid hif
  replace hz0 := Lib.hid hz0
  replace hz1 := Lib.hid hz1
  replace hz2 := Lib.hid hz2
  obtain ⟨i1, hif1, hy0, hy1, hy2⟩ := info_parts info_val
  replace hif1 := Lib.hid hif1
  replace hy0 := Lib.hid hy0
  replace hy1 := Lib.hid hy1
  replace hy2 := Lib.hid hy2
  have hup := up_a2 w (.cells #[.int .i64 q.kind, .int .i64 q.p.kind, .int .i64 q.p.col, .int .i64 q.p.op, .int .i64 q.p.v.ty, .int .i64 q.p.v.n, .string q.p.v.s, .slice Ap q.p.l.length cp, .int .i64 q.col, .slice Ao q.out.length co] 31) (.cells #[.slice none 0 0, .int .i64 0, .bool false, .int .i64 0, .int .i64 0, .string ⟨#[]⟩] 37)
  have hM := spec_Meant q (.slice Ap q.p.l.length cp) (.slice Ao q.out.length co) l (.slice A l.length c) ((w.alloc (.cells #[.int .i64 q.kind, .int .i64 q.p.kind, .int .i64 q.p.col, .int .i64 q.p.op, .int .i64 q.p.v.ty, .int .i64 q.p.v.n, .string q.p.v.s, .slice Ap q.p.l.length cp, .int .i64 q.col, .slice Ao q.out.length co] 31)).alloc (.cells #[.slice none 0 0, .int .i64 0, .bool false, .int .i64 0, .int .i64 0, .string ⟨#[]⟩] 37)) (hp.below hup hh1) (by simp; omega) (ho.below hup hh2) (by simp; omega) (hx.below hup hhi) (by simp; omega) hn
  have hml := meant_len q l
  have hms := meant_lens q l
  obtain ⟨m, hm0⟩ : ∃ m, meant q l = m := ⟨_, rfl⟩
  rw [hm0] at hM hml hms
  replace hml : m.length ≤ 1048576 := Nat.le_trans hml hn.1
  replace hms := Lib.hid (Nat.le_trans hms hn.2)
  have Hm0 := Lib.hid hm0
  replace hM := Lib.hid hM
  have GQ := Lib.hid (show ((w.alloc (.cells #[.int .i64 q.kind, .int .i64 q.p.kind, .int .i64 q.p.col, .int .i64 q.p.op, .int .i64 q.p.v.ty, .int .i64 q.p.v.n, .string q.p.v.s, .slice Ap q.p.l.length cp, .int .i64 q.col, .slice Ao q.out.length co] 31)).alloc (.cells #[.slice none 0 0, .int .i64 0, .bool false, .int .i64 0, .int .i64 0, .string ⟨#[]⟩] 37)).heap[w.heap.size]? = some (.cells #[.int .i64 q.kind, .int .i64 q.p.kind, .int .i64 q.p.col, .int .i64 q.p.op, .int .i64 q.p.v.ty, .int .i64 q.p.v.n, .string q.p.v.s, .slice Ap q.p.l.length cp, .int .i64 q.col, .slice Ao q.out.length co] 31) from alloc_old48 (heap_alloc_new w _))
  have G1 := Lib.hid (show ((w.alloc (.cells #[.int .i64 q.kind, .int .i64 q.p.kind, .int .i64 q.p.col, .int .i64 q.p.op, .int .i64 q.p.v.ty, .int .i64 q.p.v.n, .string q.p.v.s, .slice Ap q.p.l.length cp, .int .i64 q.col, .slice Ao q.out.length co] 31)).alloc (.cells #[.slice none 0 0, .int .i64 0, .bool false, .int .i64 0, .int .i64 0, .string ⟨#[]⟩] 37)).heap[w.heap.size + 1]? = some (.cells #[.slice none 0 0, .int .i64 0, .bool false, .int .i64 0, .int .i64 0, .string ⟨#[]⟩] 37) from heap_new48 (by simp))
  have HB := Lib.hid hup
  clear hm0 hp hx hn hup
  go_enter Tryz.func10, Tryz.ntmps10
  go_wp2_with fail
  refine hM.out.mono ?_
  clear hM
  rintro e wm ⟨vm, rfl, hm, hbm⟩
  obtain ⟨Am, cm, rfl, -, -⟩ := hm.rdR.form
  have zm : w.heap.size + 2 ≤ wm.heap.size := by have h := hbm.size; simp only [World.size_alloc] at h; omega
  replace GQ := Lib.hid ((hbm.block _ (by simp <;> omega)).trans GQ.out)
  replace G1 := Lib.hid ((hbm.block _ (by simp <;> omega)).trans G1.out)
  replace HB := Lib.hid (HB.out.trans (hbm.mono HB.out.size))
  have HM0 := Lib.hid hm.rdR
  clear hbm hm
  have q8 := cell_of_row wm _ 8 _ _ _ GQ.out
  simp only [List.getElem?_toArray, List.getElem?_cons_zero, List.getElem?_cons_succ] at q8
  replace q8 := cell_keep q8 (up_a1 wm (.cells #[.slice none 0 0, .int .i64 0, .bool false, .int .i64 0, .int .i64 0, .string ⟨#[]⟩] 37))
  have hC := spec_Column m (.slice Am m.length cm) q.col (wm.alloc (.cells #[.slice none 0 0, .int .i64 0, .bool false, .int .i64 0, .int .i64 0, .string ⟨#[]⟩] 37)) (HM0.out.below (up_a1 wm _) (Nat.le_refl _)) (by simp) hml
  have hkl := column_len m q.col
  obtain ⟨vs, hvs⟩ : ∃ vs, column m q.col = vs := ⟨_, rfl⟩
  rw [hvs] at hC hkl
  have HV := Lib.hid hvs
  clear hvs
  replace hC := Lib.hid hC
  go_wp2_with fail
  refine hC.out.mono ?_
  clear hC q8
  rintro e wk ⟨vk, rfl, hk, hbk⟩
  simp only [World.size_alloc] at hk
  obtain ⟨Ak, ck, rfl, -, -, -⟩ := hk.cells
  have hbk' := below_a1 hbk
  have zk : wm.heap.size + 1 ≤ wk.heap.size := by have h := hbk.size; simp only [World.size_alloc] at h; omega
  have GR := Lib.hid ((hbk.block wm.heap.size (by simp)).trans (heap_alloc_new wm (.cells #[.slice none 0 0, .int .i64 0, .bool false, .int .i64 0, .int .i64 0, .string ⟨#[]⟩] 37)))
  replace GQ := Lib.hid ((hbk'.block _ (by omega)).trans GQ.out)
  replace G1 := Lib.hid ((hbk'.block _ (by omega)).trans G1.out)
  replace HB := Lib.hid (HB.out.trans (hbk'.mono (by omega)))
  replace HM0 := Lib.hid (HM0.out.below hbk' (Nat.le_refl _))
  have HKo := Lib.hid hk
  clear hbk hbk' hk
  replace k3 := k3.out
  have q0 := cell_of_row wk _ 0 _ _ _ GQ.out
  simp only [List.getElem?_toArray, List.getElem?_cons_zero] at q0
  have d1 : (q.kind == 1) = false := by simp [k1]
  have d2 : (q.kind == 2) = false := by simp [k2]
  have d3 : (q.kind == 3) = true := by simp [k3]
  have HJ := Lib.hid (show answer q l = ⟨[], sumN vs, false, V.zero⟩ by unfold answer; rw [Hm0.out]; unfold answerOf; rw [HV.out]; simp [k3])
  go_wp2_with fail
  go_loopw [10] (fun i wr => ∃ (k : Nat), i = .int .i64 k ∧ k ≤ vs.length ∧ wr.heap[wm.heap.size]? = some (.cells #[.slice none 0 0, .int .i64 (sumN (vs.take k)), .bool false, .int .i64 0, .int .i64 0, .string ⟨#[]⟩] 37) ∧ Chg wm.heap.size (wm.heap.size + 1) wk wr) (fun i _ => vs.length - (intOf i).toNat)
  case atStart => exact ⟨0, rfl, by omega, GR.out, Chg.refl _ _ _⟩
  case round =>
    obtain ⟨k, rfl, hk, hc, hch⟩ := hrel
    have hzb := hch.size
    have hg : wm.heap.size < wr.heap.size := by omega
    have hb : Below wm.heap.size wk wr := hch.below (Nat.le_refl _) (by omega)
    have HBr := Lib.hid (HB.out.trans (hb.mono (by omega)))
    replace G1 := Lib.hid ((hb.block _ (by omega)).trans G1.out)
    have Hc := Lib.hid hc
    have Hch := Lib.hid hch
    clear hc hch q0
    by_cases hkl : k < vs.length
    · obtain ⟨b, off, y, rfl, hlb, hbh, hyk, e0, e1, e2⟩ := (HKo.out.same (Same.of_chg Hch.out (by omega) (by omega))).rdV.at hkl
      have Hy := Lib.hid (sum_step hyk)
      clear hyk
      have g1 := cell_of_row wr _ 1 _ _ _ Hc.out
      simp only [List.getElem?_toArray, List.getElem?_cons_zero, List.getElem?_cons_succ] at g1
      go_upto_region 17 with fail
      refine wp_region_T (S := fun w' => w'.cell? ⟨wm.heap.size, 1, none⟩ = some (.int .i64 (sumN (vs.take k))) ∧ w'.cell? ⟨b, off + k * 3 + 1, none⟩ = some (.int .i64 y.n)) (n := 9) (by kernel_rfl) ?_
      generalize hX0 : wr.drew = X0
      have HB0 : Below wr.heap.size wr X0 := hX0 ▸ (Below.refl _ _).drew
      have s0 : wr.heap.size ≤ X0.heap.size := HB0.size
      have x0 := cell_keep g1 HB0
      have x1 := cell_keep e1 HB0
      clear hX0
      have F0 : X0.cell? ⟨wm.heap.size, 1, none⟩ = some (.int .i64 (sumN (vs.take k))) ∧ X0.cell? ⟨b, off + k * 3 + 1, none⟩ = some (.int .i64 y.n) := ⟨x0, x1⟩
      refine wpAnyT_take (i := 0) (oi := _) (v := ?_) rfl (by kernel_rfl) (by kernel_rfl) (by kernel_rfl) (by kernel_rfl) (fun _ _ _ h => h) (Or.inl ⟨by rfl, ?_⟩) F0 ?_
      rotate_left
      · (intro w' hSw; (try dsimp only at hSw); go_simp) <;> with_reducible rfl
      try simp only [Act.put, List.setIfInBounds_toArray, List.set_cons_zero, List.set_cons_succ]
      refine wpAnyT_take (i := 1) (oi := _) (v := ?_) rfl (by kernel_rfl) (by kernel_rfl) (by kernel_rfl) (by kernel_rfl) (fun _ _ _ h => h) (Or.inl ⟨by rfl, ?_⟩) F0 ?_
      rotate_left
      · (intro w' hSw; (try dsimp only at hSw); go_simp) <;> with_reducible rfl
      try simp only [Act.put, List.setIfInBounds_toArray, List.set_cons_zero, List.set_cons_succ]
      refine wpAnyT_take (i := 2) (oi := _) (v := ?_) rfl (by kernel_rfl) (by kernel_rfl) (by kernel_rfl) (by kernel_rfl) (fun _ _ _ h => h) (Or.inl ⟨by rfl, ?_⟩) F0 ?_
      rotate_left
      · (intro w' hSw; (try dsimp only at hSw); go_simp) <;> with_reducible rfl
      try simp only [Act.put, List.setIfInBounds_toArray, List.set_cons_zero, List.set_cons_succ]
      refine wpAnyT_take (i := 3) (oi := _) (v := ?_) rfl (by kernel_rfl) (by kernel_rfl) (by kernel_rfl) (by kernel_rfl) (fun _ _ _ h => h) (Or.inl ⟨by rfl, ?_⟩) F0 ?_
      rotate_left
      · (intro w' hSw; (try dsimp only at hSw); go_simp) <;> with_reducible rfl
      try simp only [Act.put, List.setIfInBounds_toArray, List.set_cons_zero, List.set_cons_succ]
      refine wpAnyT_take (i := 4) (oi := _) (v := ?_) rfl (by kernel_rfl) (by kernel_rfl) (by kernel_rfl) (by kernel_rfl) (fun _ _ _ h => h) (Or.inl ⟨by rfl, ?_⟩) F0 ?_
      rotate_left
      · (intro w' hSw; (try dsimp only at hSw); go_simp) <;> with_reducible rfl
      try simp only [Act.put, List.setIfInBounds_toArray, List.set_cons_zero, List.set_cons_succ]
      refine wpAnyT_take (i := 5) (oi := _) (v := ?_) rfl (by kernel_rfl) (by kernel_rfl) (by kernel_rfl) (by kernel_rfl) (fun _ _ _ h => h) (Or.inl ⟨by rfl, ?_⟩) F0 ?_
      rotate_left
      · (intro w' hSw; (try dsimp only at hSw); go_simp) <;> with_reducible rfl
      try simp only [Act.put, List.setIfInBounds_toArray, List.set_cons_zero, List.set_cons_succ]
      refine wpAnyT_take (i := 6) (oi := _) (v := ?_) rfl (by kernel_rfl) (by kernel_rfl) (by kernel_rfl) (by kernel_rfl) (fun _ _ _ h => h) (Or.inl ⟨by rfl, ?_⟩) F0 ?_
      rotate_left
      · (intro w' hSw; (try dsimp only at hSw); go_simp) <;> with_reducible rfl
      try simp only [Act.put, List.setIfInBounds_toArray, List.set_cons_zero, List.set_cons_succ]
      refine wpAnyT_take (i := 7) (oi := _) (v := ?_) rfl (by kernel_rfl) (by kernel_rfl) (by kernel_rfl) (by kernel_rfl) (fun _ _ _ h => h) (Or.inl ⟨by rfl, ?_⟩) F0 ?_
      rotate_left
      · (intro w' hSw; (try dsimp only at hSw); go_simp) <;> with_reducible rfl
      try simp only [Act.put, List.setIfInBounds_toArray, List.set_cons_zero, List.set_cons_succ]
      refine wpAnyT_one (k := 8) (o := _) (by kernel_rfl) rfl rfl ?_
      intro K hK
      go_simp
      refine hK.out _ _ (fun _ => F0) ?_
      clear hK
      try simp only [Act.put, List.setIfInBounds_toArray, List.set_cons_zero, List.set_cons_succ]
      have HCX := Lib.hid ((HB0.block _ hg).trans Hc.out)
      have HcX := Lib.hid ((Hch.out.trans (Chg.of_below HB0)).trans (chg_set X0 wm.heap.size 1 (.int .i64 (sumN (vs.take (k + 1))))))
      have p1 := cell_of_row X0 _ 1 _ _ _ HCX.out
      simp only [List.getElem?_toArray, List.getElem?_cons_zero, List.getElem?_cons_succ] at p1
      have pf := fun o => frozen_of_row X0 _ o _ _ HCX.out
      have hc3n := set1 (o := 1) (a := .int .i64 (sumN (vs.take (k + 1)))) HCX.out
      simp only [List.setIfInBounds_toArray, List.set_cons_succ, List.set_cons_zero] at hc3n
      have HC3n := Lib.hid hc3n
      clear hc3n
      refine wpAnyT_one (k := 9) (o := _) (by kernel_rfl) rfl rfl ?_
      intro K hK
      go_simp
      rw [← Hy.out]
      refine hK.out _ _ (fun h => absurd rfl h) ?_
      clear hK
      refine wpAnyT_done (by kernel_rfl) ?_ _
      go_wp2_with fail
      go_roundw
      case rel => exact ⟨k + 1, by go_num, by omega, HC3n.out, HcX.out⟩
      case measure => simp [intOf]; omega
    · obtain rfl : k = vs.length := by omega
      replace HB := HBr
      rw [List.take_length] at Hc
      have j0 := cell_of_row wr _ 0 _ _ _ Hc.out
      have j1 := cell_of_row wr _ 1 _ _ _ Hc.out
      have j2 := cell_of_row wr _ 2 _ _ _ Hc.out
      have j3 := cell_of_row wr _ 3 _ _ _ Hc.out
      have j4 := cell_of_row wr _ 4 _ _ _ Hc.out
      have j5 := cell_of_row wr _ 5 _ _ _ Hc.out
      simp only [List.getElem?_toArray, List.getElem?_cons_zero, List.getElem?_cons_succ] at j0 j1 j2 j3 j4 j5
      have p0 := cell_of_row wr _ 0 _ _ _ G1.out
      have p1 := cell_of_row wr _ 1 _ _ _ G1.out
      have p2 := cell_of_row wr _ 2 _ _ _ G1.out
      have p3 := cell_of_row wr _ 3 _ _ _ G1.out
      have p4 := cell_of_row wr _ 4 _ _ _ G1.out
      have p5 := cell_of_row wr _ 5 _ _ _ G1.out
      simp only [List.getElem?_toArray, List.getElem?_cons_zero, List.getElem?_cons_succ] at p0 p1 p2 p3 p4 p5
      have fr := fun o => frozen_of_row wr _ o _ _ G1.out
      have fj := fun o => frozen_of_row wr _ o _ _ Hc.out
      go_wp2_with fail
      have G6 := set_six (v0 := .slice none 0 0) (v1 := .int .i64 (sumN vs)) (v2 := .bool false) (v3 := .int .i64 0) (v4 := .int .i64 0) (v5 := .string ⟨#[]⟩) G1.out
      have kp : ∀ g, g ≠ w.heap.size + 1 → ((((((wr.setCell ⟨w.heap.size + 1, 0, none⟩ (.slice none 0 0)).setCell ⟨w.heap.size + 1, 1, none⟩ (.int .i64 (sumN vs))).setCell ⟨w.heap.size + 1, 2, none⟩ (.bool false)).setCell ⟨w.heap.size + 1, 3, none⟩ (.int .i64 0)).setCell ⟨w.heap.size + 1, 4, none⟩ (.int .i64 0)).setCell ⟨w.heap.size + 1, 5, none⟩ (.string ⟨#[]⟩)).heap[g]? = wr.heap[g]? := fun g hg => by
        iterate 5 refine (Below.heap_setCell _ _ _ g hg).trans ?_
        exact Below.heap_setCell _ _ _ g hg
      have RF : OwnRp 51 25 ((((((wr.setCell ⟨w.heap.size + 1, 0, none⟩ (.slice none 0 0)).setCell ⟨w.heap.size + 1, 1, none⟩ (.int .i64 (sumN vs))).setCell ⟨w.heap.size + 1, 2, none⟩ (.bool false)).setCell ⟨w.heap.size + 1, 3, none⟩ (.int .i64 0)).setCell ⟨w.heap.size + 1, 4, none⟩ (.int .i64 0)).setCell ⟨w.heap.size + 1, 5, none⟩ (.string ⟨#[]⟩)) w.heap.size ((((((wr.setCell ⟨w.heap.size + 1, 0, none⟩ (.slice none 0 0)).setCell ⟨w.heap.size + 1, 1, none⟩ (.int .i64 (sumN vs))).setCell ⟨w.heap.size + 1, 2, none⟩ (.bool false)).setCell ⟨w.heap.size + 1, 3, none⟩ (.int .i64 0)).setCell ⟨w.heap.size + 1, 4, none⟩ (.int .i64 0)).setCell ⟨w.heap.size + 1, 5, none⟩ (.string ⟨#[]⟩)).heap.size (.slice none 0 0) _ := ownRp_none _ _ _ _ _
      have BF : Below w.heap.size w ((((((wr.setCell ⟨w.heap.size + 1, 0, none⟩ (.slice none 0 0)).setCell ⟨w.heap.size + 1, 1, none⟩ (.int .i64 (sumN vs))).setCell ⟨w.heap.size + 1, 2, none⟩ (.bool false)).setCell ⟨w.heap.size + 1, 3, none⟩ (.int .i64 0)).setCell ⟨w.heap.size + 1, 4, none⟩ (.int .i64 0)).setCell ⟨w.heap.size + 1, 5, none⟩ (.string ⟨#[]⟩)) := by
        iterate 6 refine below_set48 ?_ (by omega)
        exact HB.out
      generalize hXF : ((((((wr.setCell ⟨w.heap.size + 1, 0, none⟩ (.slice none 0 0)).setCell ⟨w.heap.size + 1, 1, none⟩ (.int .i64 (sumN vs))).setCell ⟨w.heap.size + 1, 2, none⟩ (.bool false)).setCell ⟨w.heap.size + 1, 3, none⟩ (.int .i64 0)).setCell ⟨w.heap.size + 1, 4, none⟩ (.int .i64 0)).setCell ⟨w.heap.size + 1, 5, none⟩ (.string ⟨#[]⟩)) = XF at *
      clear hXF kp
      clear j0 j1 j2 j3 j4 j5 p0 p1 p2 p3 p4 p5 fr fj
      have r0 := cell_of_row XF _ 0 _ _ _ G6
      have r1 := cell_of_row XF _ 1 _ _ _ G6
      have r2 := cell_of_row XF _ 2 _ _ _ G6
      have r3 := cell_of_row XF _ 3 _ _ _ G6
      have r4 := cell_of_row XF _ 4 _ _ _ G6
      have r5 := cell_of_row XF _ 5 _ _ _ G6
      simp only [List.getElem?_toArray, List.getElem?_cons_zero, List.getElem?_cons_succ] at r0 r1 r2 r3 r4 r5
      refine bodyPost_ret (v := .agg #[.slice none 0 0, .int .i64 (sumN vs), .bool false, .int .i64 0, .int .i64 0, .string ⟨#[]⟩]) ?_ rfl ⟨.slice none 0 0, (by first | (rw [HJ.out]; done) | (rw [HJ.out]; rfl)), ?_, BF⟩
      · simp [results, Tryz.results10, go_sem, r0, r1, r2, r3, r4, r5]
      · rw [HJ.out]
        exact ⟨_, (show ([] : List (R × Value)).map Prod.fst = [] from rfl), RF⟩
end Go.Proofs.YtidmlfjolhnnfaaGreatDoor
namespace Go.Proofs.YtidmlfjolhnnfaaGreatDoor
open Go.Sort Go.ChangeShapes Go.WideShapes Go.ChangeAt Go.RowKit Go.Lb
set_option maxRecDepth 20000 in
set_option maxHeartbeats 4000000 in
theorem spec_Answer4 (q : Q) (sv ov : Value) (l : List R) (x : Value) (w : World) {l1 h1 l2 h2 lo hi : Nat} (hp : RdP w l1 h1 sv q.p.l) (hh1 : h1 ≤ w.heap.size) (ho : RdI w l2 h2 ov q.out) (hh2 : h2 ≤ w.heap.size) (hx : RdR w lo hi x l) (hhi : hi ≤ w.heap.size) (hn : l.length ≤ 1048576 ∧ lensR l ≤ 1048576) (_hno : q.out.length ≤ 1048576) (k1 : q.kind ≠ 1) (k2 : q.kind ≠ 2) (k3 : q.kind ≠ 3) (k4 : q.kind = 4) :
    Calls Tryz.prog 10 #[.agg #[.int .i64 q.kind, .int .i64 q.p.kind, .int .i64 q.p.col, .int .i64 q.p.op, .int .i64 q.p.v.ty, .int .i64 q.p.v.n, .string q.p.v.s, sv, .int .i64 q.col, ov], x] w fun e w' => ∃ v, e = .returned (.agg #[v, .int .i64 (answer q l).n, .bool (answer q l).has, .int .i64 (answer q l).v.ty, .int .i64 (answer q l).v.n, .string (answer q l).v.s]) ∧ OwnR 51 25 w' w.heap.size w'.heap.size v (answer q l).rows ∧ Below w.heap.size w w' := by
  obtain ⟨Ap, cp, rfl, -, -⟩ := hp.form
  obtain ⟨Ao, co, rfl, -, -⟩ := ho.form
  obtain ⟨A, c, rfl, -, -⟩ := hx.form
  replace k4 := Lib.hid k4
  obtain ⟨i0, hif, hz0, hz1, hz2⟩ := info_parts info_Row
  replace hif := Lib.hid hif
  replace hz0 := Lib.hid hz0
  replace hz1 := Lib.hid hz1
  replace hz2 := Lib.hid hz2
  obtain ⟨i1, hif1, hy0, hy1, hy2⟩ := info_parts info_val
  replace hif1 := Lib.hid hif1
  replace hy0 := Lib.hid hy0
  replace hy1 := Lib.hid hy1
  replace hy2 := Lib.hid hy2
  have hup := up_a2 w (.cells #[.int .i64 q.kind, .int .i64 q.p.kind, .int .i64 q.p.col, .int .i64 q.p.op, .int .i64 q.p.v.ty, .int .i64 q.p.v.n, .string q.p.v.s, .slice Ap q.p.l.length cp, .int .i64 q.col, .slice Ao q.out.length co] 31) (.cells #[.slice none 0 0, .int .i64 0, .bool false, .int .i64 0, .int .i64 0, .string ⟨#[]⟩] 37)
  have hM := spec_Meant q (.slice Ap q.p.l.length cp) (.slice Ao q.out.length co) l (.slice A l.length c) ((w.alloc (.cells #[.int .i64 q.kind, .int .i64 q.p.kind, .int .i64 q.p.col, .int .i64 q.p.op, .int .i64 q.p.v.ty, .int .i64 q.p.v.n, .string q.p.v.s, .slice Ap q.p.l.length cp, .int .i64 q.col, .slice Ao q.out.length co] 31)).alloc (.cells #[.slice none 0 0, .int .i64 0, .bool false, .int .i64 0, .int .i64 0, .string ⟨#[]⟩] 37)) (hp.below hup hh1) (by simp; omega) (ho.below hup hh2) (by simp; omega) (hx.below hup hhi) (by simp; omega) hn
  have hml := meant_len q l
  have hms := meant_lens q l
  obtain ⟨m, hm0⟩ : ∃ m, meant q l = m := ⟨_, rfl⟩
  rw [hm0] at hM hml hms
  replace hml : m.length ≤ 1048576 := Nat.le_trans hml hn.1
  replace hms := Lib.hid (Nat.le_trans hms hn.2)
  have Hm0 := Lib.hid hm0
  replace hM := Lib.hid hM
  have GQ := Lib.hid (show ((w.alloc (.cells #[.int .i64 q.kind, .int .i64 q.p.kind, .int .i64 q.p.col, .int .i64 q.p.op, .int .i64 q.p.v.ty, .int .i64 q.p.v.n, .string q.p.v.s, .slice Ap q.p.l.length cp, .int .i64 q.col, .slice Ao q.out.length co] 31)).alloc (.cells #[.slice none 0 0, .int .i64 0, .bool false, .int .i64 0, .int .i64 0, .string ⟨#[]⟩] 37)).heap[w.heap.size]? = some (.cells #[.int .i64 q.kind, .int .i64 q.p.kind, .int .i64 q.p.col, .int .i64 q.p.op, .int .i64 q.p.v.ty, .int .i64 q.p.v.n, .string q.p.v.s, .slice Ap q.p.l.length cp, .int .i64 q.col, .slice Ao q.out.length co] 31) from alloc_old48 (heap_alloc_new w _))
  have G1 := Lib.hid (show ((w.alloc (.cells #[.int .i64 q.kind, .int .i64 q.p.kind, .int .i64 q.p.col, .int .i64 q.p.op, .int .i64 q.p.v.ty, .int .i64 q.p.v.n, .string q.p.v.s, .slice Ap q.p.l.length cp, .int .i64 q.col, .slice Ao q.out.length co] 31)).alloc (.cells #[.slice none 0 0, .int .i64 0, .bool false, .int .i64 0, .int .i64 0, .string ⟨#[]⟩] 37)).heap[w.heap.size + 1]? = some (.cells #[.slice none 0 0, .int .i64 0, .bool false, .int .i64 0, .int .i64 0, .string ⟨#[]⟩] 37) from heap_new48 (by simp))
  have HB := Lib.hid hup
  clear hm0 hp hx hn hup
  go_enter Tryz.func10, Tryz.ntmps10
  go_wp2_with fail
  refine hM.out.mono ?_
  clear hM
  rintro e wm ⟨vm, rfl, hm, hbm⟩
  obtain ⟨Am, cm, rfl, -, -⟩ := hm.rdR.form
  have zm : w.heap.size + 2 ≤ wm.heap.size := by have h := hbm.size; simp only [World.size_alloc] at h; omega
  replace GQ := Lib.hid ((hbm.block _ (by simp <;> omega)).trans GQ.out)
  replace G1 := Lib.hid ((hbm.block _ (by simp <;> omega)).trans G1.out)
  replace HB := Lib.hid (HB.out.trans (hbm.mono HB.out.size))
  have HM0 := Lib.hid hm.rdR
  clear hbm hm
  have q8 := cell_of_row wm _ 8 _ _ _ GQ.out
  simp only [List.getElem?_toArray, List.getElem?_cons_zero, List.getElem?_cons_succ] at q8
  replace q8 := cell_keep q8 (up_a1 wm (.cells #[.slice none 0 0, .int .i64 0, .bool false, .int .i64 0, .int .i64 0, .string ⟨#[]⟩] 37))
  have hC := spec_Column m (.slice Am m.length cm) q.col (wm.alloc (.cells #[.slice none 0 0, .int .i64 0, .bool false, .int .i64 0, .int .i64 0, .string ⟨#[]⟩] 37)) (HM0.out.below (up_a1 wm _) (Nat.le_refl _)) (by simp) hml
  have hkl := column_len m q.col
  obtain ⟨vs, hvs⟩ : ∃ vs, column m q.col = vs := ⟨_, rfl⟩
  rw [hvs] at hC hkl
  have HV := Lib.hid hvs
  clear hvs
  replace hC := Lib.hid hC
  go_wp2_with fail
  refine hC.out.mono ?_
  clear hC q8
  rintro e wk ⟨vk, rfl, hk, hbk⟩
  simp only [World.size_alloc] at hk
  obtain ⟨Ak, ck, rfl, -, -, -⟩ := hk.cells
  have hbk' := below_a1 hbk
  have zk : wm.heap.size + 1 ≤ wk.heap.size := by have h := hbk.size; simp only [World.size_alloc] at h; omega
  have GR := Lib.hid ((hbk.block wm.heap.size (by simp)).trans (heap_alloc_new wm (.cells #[.slice none 0 0, .int .i64 0, .bool false, .int .i64 0, .int .i64 0, .string ⟨#[]⟩] 37)))
  replace GQ := Lib.hid ((hbk'.block _ (by omega)).trans GQ.out)
  replace G1 := Lib.hid ((hbk'.block _ (by omega)).trans G1.out)
  replace HB := Lib.hid (HB.out.trans (hbk'.mono (by omega)))
  replace HM0 := Lib.hid (HM0.out.below hbk' (Nat.le_refl _))
  have HKo := Lib.hid hk
  clear hbk hbk' hk
  replace k4 := k4.out
  have q0 := cell_of_row wk _ 0 _ _ _ GQ.out
  simp only [List.getElem?_toArray, List.getElem?_cons_zero] at q0
  obtain ⟨zo, hzo⟩ : ∃ zo, zoneOf vs = zo := ⟨_, rfl⟩
  have d1 : (q.kind == 1) = false := by simp [k1]
  have d2 : (q.kind == 2) = false := by simp [k2]
  have d3 : (q.kind == 3) = false := by simp [k3]
  have d4 : (q.kind == 4) = true := by simp [k4]
  have HJ := Lib.hid (show answer q l = ⟨[], 0, decide (0 < vs.length), zo.lo⟩ by unfold answer; rw [Hm0.out]; unfold answerOf; rw [HV.out, hzo]; simp [k4])
  have y2 := cell_of_row wk _ 2 _ _ _ GR.out
  simp only [List.getElem?_toArray, List.getElem?_cons_zero, List.getElem?_cons_succ] at y2
  have yf := fun o => frozen_of_row wk _ o _ _ GR.out
  go_wp2_with fail
  have hch := chg_set wk wm.heap.size 2 (.bool (decide (0 < vs.length)))
  have HK2 := Lib.hid ((HKo.out.same (Same.of_chg hch (by omega) (by omega))).rdV)
  have hc2n := set1 (o := 2) (a := .bool (decide (0 < vs.length))) GR.out
  simp only [List.setIfInBounds_toArray, List.set_cons_succ, List.set_cons_zero] at hc2n
  replace GR := Lib.hid hc2n
  have hb : Below wm.heap.size wk (wk.setCell ⟨wm.heap.size, 2, none⟩ (.bool (decide (0 < vs.length)))) := hch.below (Nat.le_refl _) (by omega)
  replace GQ := Lib.hid ((hb.block _ (by omega)).trans GQ.out)
  replace G1 := Lib.hid ((hb.block _ (by omega)).trans G1.out)
  replace HB := Lib.hid (HB.out.trans (hb.mono (by omega)))
  have hsz : (wk.setCell ⟨wm.heap.size, 2, none⟩ (.bool (decide (0 < vs.length)))).heap.size = wk.heap.size := by simp [World.setCell]
  have Hsz := Lib.hid hsz
  generalize hWX : (wk.setCell ⟨wm.heap.size, 2, none⟩ (.bool (decide (0 < vs.length)))) = wx at *
  clear hWX hch hc2n hb hsz y2 yf q0
  have hT := Lib.hid (spec_ZoneOf vs (.slice Ak vs.length ck) wx HK2.out (by have h := Hsz.out; omega))
  rw [hzo] at hT
  clear hzo
  refine hT.out.mono ?_
  clear hT
  rintro e wz ⟨rfl, hz⟩
  rw [Hsz.out] at hz
  replace GQ := Lib.hid ((hz.block _ (by omega)).trans GQ.out)
  replace G1 := Lib.hid ((hz.block _ (by omega)).trans G1.out)
  replace GR := Lib.hid ((hz.block _ (by omega)).trans GR.out)
  replace HB := Lib.hid (HB.out.trans (hz.mono (by omega)))
  have hzz := hz.size
  rw [Hsz.out] at hzz
  clear hz
  have q0 := cell_of_row wz _ 0 _ _ _ GQ.out
  simp only [List.getElem?_toArray, List.getElem?_cons_zero] at q0
  have hfd : ∀ W : World, (Instr.field 53 (.agg #[.int .i64 zo.lo.ty, .int .i64 zo.lo.n, .string zo.lo.s, .int .i64 zo.hi.ty, .int .i64 zo.hi.n, .string zo.hi.s]) 0).run Tryz.prog W = .ok (.agg #[.int .i64 zo.lo.ty, .int .i64 zo.lo.n, .string zo.lo.s]) W := fun _ => by kernel_rfl
  have j0 := cell_of_row wz _ 0 _ _ _ GR.out
  have j1 := cell_of_row wz _ 1 _ _ _ GR.out
  have j2 := cell_of_row wz _ 2 _ _ _ GR.out
  have j3 := cell_of_row wz _ 3 _ _ _ GR.out
  have j4 := cell_of_row wz _ 4 _ _ _ GR.out
  have j5 := cell_of_row wz _ 5 _ _ _ GR.out
  simp only [List.getElem?_toArray, List.getElem?_cons_zero, List.getElem?_cons_succ] at j0 j1 j2 j3 j4 j5
  have p0 := cell_of_row wz _ 0 _ _ _ G1.out
  have p1 := cell_of_row wz _ 1 _ _ _ G1.out
  have p2 := cell_of_row wz _ 2 _ _ _ G1.out
  have p3 := cell_of_row wz _ 3 _ _ _ G1.out
  have p4 := cell_of_row wz _ 4 _ _ _ G1.out
  have p5 := cell_of_row wz _ 5 _ _ _ G1.out
  simp only [List.getElem?_toArray, List.getElem?_cons_zero, List.getElem?_cons_succ] at p0 p1 p2 p3 p4 p5
  have fr := fun o => frozen_of_row wz _ o _ _ G1.out
  have fj := fun o => frozen_of_row wz _ o _ _ GR.out
  go_wp2_with fail
  clear hfd
  have G1s := Lib.hid (show (((wz.setCell ⟨wm.heap.size, 3, none⟩ (.int .i64 zo.lo.ty)).setCell ⟨wm.heap.size, 4, none⟩ (.int .i64 zo.lo.n)).setCell ⟨wm.heap.size, 5, none⟩ (.string zo.lo.s)).heap[w.heap.size + 1]? = _ from (set_keep48 (by omega)).trans ((set_keep48 (by omega)).trans ((set_keep48 (by omega)).trans (G1.out))))
  have HBs : Below w.heap.size w (((wz.setCell ⟨wm.heap.size, 3, none⟩ (.int .i64 zo.lo.ty)).setCell ⟨wm.heap.size, 4, none⟩ (.int .i64 zo.lo.n)).setCell ⟨wm.heap.size, 5, none⟩ (.string zo.lo.s)) := by
    iterate 3 refine below_set48 ?_ (by omega)
    exact HB.out
  have hsz : w.heap.size + 2 ≤ (((wz.setCell ⟨wm.heap.size, 3, none⟩ (.int .i64 zo.lo.ty)).setCell ⟨wm.heap.size, 4, none⟩ (.int .i64 zo.lo.n)).setCell ⟨wm.heap.size, 5, none⟩ (.string zo.lo.s)).heap.size := by simp [World.setCell]; omega
  generalize hXs : (((wz.setCell ⟨wm.heap.size, 3, none⟩ (.int .i64 zo.lo.ty)).setCell ⟨wm.heap.size, 4, none⟩ (.int .i64 zo.lo.n)).setCell ⟨wm.heap.size, 5, none⟩ (.string zo.lo.s)) = Xs at *
  clear hXs fj
  replace G1 := G1s
  replace HB := Lib.hid HBs
  clear G1s HBs
  have G6 := set_six (v0 := .slice none 0 0) (v1 := .int .i64 0) (v2 := .bool (decide (0 < vs.length))) (v3 := .int .i64 zo.lo.ty) (v4 := .int .i64 zo.lo.n) (v5 := .string zo.lo.s) G1.out
  have kp : ∀ g, g ≠ w.heap.size + 1 → ((((((Xs.setCell ⟨w.heap.size + 1, 0, none⟩ (.slice none 0 0)).setCell ⟨w.heap.size + 1, 1, none⟩ (.int .i64 0)).setCell ⟨w.heap.size + 1, 2, none⟩ (.bool (decide (0 < vs.length)))).setCell ⟨w.heap.size + 1, 3, none⟩ (.int .i64 zo.lo.ty)).setCell ⟨w.heap.size + 1, 4, none⟩ (.int .i64 zo.lo.n)).setCell ⟨w.heap.size + 1, 5, none⟩ (.string zo.lo.s)).heap[g]? = Xs.heap[g]? := fun g hg => by
    iterate 5 refine (Below.heap_setCell _ _ _ g hg).trans ?_
    exact Below.heap_setCell _ _ _ g hg
  have RF : OwnRp 51 25 ((((((Xs.setCell ⟨w.heap.size + 1, 0, none⟩ (.slice none 0 0)).setCell ⟨w.heap.size + 1, 1, none⟩ (.int .i64 0)).setCell ⟨w.heap.size + 1, 2, none⟩ (.bool (decide (0 < vs.length)))).setCell ⟨w.heap.size + 1, 3, none⟩ (.int .i64 zo.lo.ty)).setCell ⟨w.heap.size + 1, 4, none⟩ (.int .i64 zo.lo.n)).setCell ⟨w.heap.size + 1, 5, none⟩ (.string zo.lo.s)) w.heap.size ((((((Xs.setCell ⟨w.heap.size + 1, 0, none⟩ (.slice none 0 0)).setCell ⟨w.heap.size + 1, 1, none⟩ (.int .i64 0)).setCell ⟨w.heap.size + 1, 2, none⟩ (.bool (decide (0 < vs.length)))).setCell ⟨w.heap.size + 1, 3, none⟩ (.int .i64 zo.lo.ty)).setCell ⟨w.heap.size + 1, 4, none⟩ (.int .i64 zo.lo.n)).setCell ⟨w.heap.size + 1, 5, none⟩ (.string zo.lo.s)).heap.size (.slice none 0 0) _ := ownRp_none _ _ _ _ _
  have BF : Below w.heap.size w ((((((Xs.setCell ⟨w.heap.size + 1, 0, none⟩ (.slice none 0 0)).setCell ⟨w.heap.size + 1, 1, none⟩ (.int .i64 0)).setCell ⟨w.heap.size + 1, 2, none⟩ (.bool (decide (0 < vs.length)))).setCell ⟨w.heap.size + 1, 3, none⟩ (.int .i64 zo.lo.ty)).setCell ⟨w.heap.size + 1, 4, none⟩ (.int .i64 zo.lo.n)).setCell ⟨w.heap.size + 1, 5, none⟩ (.string zo.lo.s)) := by
    iterate 6 refine below_set48 ?_ (by omega)
    exact HB.out
  generalize hXF : ((((((Xs.setCell ⟨w.heap.size + 1, 0, none⟩ (.slice none 0 0)).setCell ⟨w.heap.size + 1, 1, none⟩ (.int .i64 0)).setCell ⟨w.heap.size + 1, 2, none⟩ (.bool (decide (0 < vs.length)))).setCell ⟨w.heap.size + 1, 3, none⟩ (.int .i64 zo.lo.ty)).setCell ⟨w.heap.size + 1, 4, none⟩ (.int .i64 zo.lo.n)).setCell ⟨w.heap.size + 1, 5, none⟩ (.string zo.lo.s)) = XF at *
  clear hXF kp
  clear j0 j1 j2 j3 j4 j5 p0 p1 p2 p3 p4 p5 fr
  have r0 := cell_of_row XF _ 0 _ _ _ G6
  have r1 := cell_of_row XF _ 1 _ _ _ G6
  have r2 := cell_of_row XF _ 2 _ _ _ G6
  have r3 := cell_of_row XF _ 3 _ _ _ G6
  have r4 := cell_of_row XF _ 4 _ _ _ G6
  have r5 := cell_of_row XF _ 5 _ _ _ G6
  simp only [List.getElem?_toArray, List.getElem?_cons_zero, List.getElem?_cons_succ] at r0 r1 r2 r3 r4 r5
  refine bodyPost_ret (v := .agg #[.slice none 0 0, .int .i64 0, .bool (decide (0 < vs.length)), .int .i64 zo.lo.ty, .int .i64 zo.lo.n, .string zo.lo.s]) ?_ rfl ⟨.slice none 0 0, (by first | (rw [HJ.out]; done) | (rw [HJ.out]; rfl)), ?_, BF⟩
  · simp [results, Tryz.results10, go_sem, r0, r1, r2, r3, r4, r5]
  · rw [HJ.out]
    exact ⟨_, (show ([] : List (R × Value)).map Prod.fst = [] from rfl), RF⟩
end Go.Proofs.YtidmlfjolhnnfaaGreatDoor
namespace Go.Proofs.YtidmlfjolhnnfaaGreatDoor
open Go.Sort Go.ChangeShapes Go.WideShapes Go.ChangeAt Go.RowKit Go.Lb
set_option maxRecDepth 20000 in
set_option maxHeartbeats 4000000 in
theorem spec_Answer5 (q : Q) (sv ov : Value) (l : List R) (x : Value) (w : World) {l1 h1 l2 h2 lo hi : Nat} (hp : RdP w l1 h1 sv q.p.l) (hh1 : h1 ≤ w.heap.size) (ho : RdI w l2 h2 ov q.out) (hh2 : h2 ≤ w.heap.size) (hx : RdR w lo hi x l) (hhi : hi ≤ w.heap.size) (hn : l.length ≤ 1048576 ∧ lensR l ≤ 1048576) (_hno : q.out.length ≤ 1048576) (k1 : q.kind ≠ 1) (k2 : q.kind ≠ 2) (k3 : q.kind ≠ 3) (k4 : q.kind ≠ 4) (k5 : q.kind = 5) :
    Calls Tryz.prog 10 #[.agg #[.int .i64 q.kind, .int .i64 q.p.kind, .int .i64 q.p.col, .int .i64 q.p.op, .int .i64 q.p.v.ty, .int .i64 q.p.v.n, .string q.p.v.s, sv, .int .i64 q.col, ov], x] w fun e w' => ∃ v, e = .returned (.agg #[v, .int .i64 (answer q l).n, .bool (answer q l).has, .int .i64 (answer q l).v.ty, .int .i64 (answer q l).v.n, .string (answer q l).v.s]) ∧ OwnR 51 25 w' w.heap.size w'.heap.size v (answer q l).rows ∧ Below w.heap.size w w' := by
  obtain ⟨Ap, cp, rfl, -, -⟩ := hp.form
  obtain ⟨Ao, co, rfl, -, -⟩ := ho.form
  obtain ⟨A, c, rfl, -, -⟩ := hx.form
  replace k5 := Lib.hid k5
  obtain ⟨i0, hif, hz0, hz1, hz2⟩ := info_parts info_Row
  replace hif := Lib.hid hif
  replace hz0 := Lib.hid hz0
  replace hz1 := Lib.hid hz1
  replace hz2 := Lib.hid hz2
  obtain ⟨i1, hif1, hy0, hy1, hy2⟩ := info_parts info_val
  replace hif1 := Lib.hid hif1
  replace hy0 := Lib.hid hy0
  replace hy1 := Lib.hid hy1
  replace hy2 := Lib.hid hy2
  have hup := up_a2 w (.cells #[.int .i64 q.kind, .int .i64 q.p.kind, .int .i64 q.p.col, .int .i64 q.p.op, .int .i64 q.p.v.ty, .int .i64 q.p.v.n, .string q.p.v.s, .slice Ap q.p.l.length cp, .int .i64 q.col, .slice Ao q.out.length co] 31) (.cells #[.slice none 0 0, .int .i64 0, .bool false, .int .i64 0, .int .i64 0, .string ⟨#[]⟩] 37)
  have hM := spec_Meant q (.slice Ap q.p.l.length cp) (.slice Ao q.out.length co) l (.slice A l.length c) ((w.alloc (.cells #[.int .i64 q.kind, .int .i64 q.p.kind, .int .i64 q.p.col, .int .i64 q.p.op, .int .i64 q.p.v.ty, .int .i64 q.p.v.n, .string q.p.v.s, .slice Ap q.p.l.length cp, .int .i64 q.col, .slice Ao q.out.length co] 31)).alloc (.cells #[.slice none 0 0, .int .i64 0, .bool false, .int .i64 0, .int .i64 0, .string ⟨#[]⟩] 37)) (hp.below hup hh1) (by simp; omega) (ho.below hup hh2) (by simp; omega) (hx.below hup hhi) (by simp; omega) hn
  have hml := meant_len q l
  have hms := meant_lens q l
  obtain ⟨m, hm0⟩ : ∃ m, meant q l = m := ⟨_, rfl⟩
  rw [hm0] at hM hml hms
  replace hml : m.length ≤ 1048576 := Nat.le_trans hml hn.1
  replace hms := Lib.hid (Nat.le_trans hms hn.2)
  have Hm0 := Lib.hid hm0
  replace hM := Lib.hid hM
  have GQ := Lib.hid (show ((w.alloc (.cells #[.int .i64 q.kind, .int .i64 q.p.kind, .int .i64 q.p.col, .int .i64 q.p.op, .int .i64 q.p.v.ty, .int .i64 q.p.v.n, .string q.p.v.s, .slice Ap q.p.l.length cp, .int .i64 q.col, .slice Ao q.out.length co] 31)).alloc (.cells #[.slice none 0 0, .int .i64 0, .bool false, .int .i64 0, .int .i64 0, .string ⟨#[]⟩] 37)).heap[w.heap.size]? = some (.cells #[.int .i64 q.kind, .int .i64 q.p.kind, .int .i64 q.p.col, .int .i64 q.p.op, .int .i64 q.p.v.ty, .int .i64 q.p.v.n, .string q.p.v.s, .slice Ap q.p.l.length cp, .int .i64 q.col, .slice Ao q.out.length co] 31) from alloc_old48 (heap_alloc_new w _))
  have G1 := Lib.hid (show ((w.alloc (.cells #[.int .i64 q.kind, .int .i64 q.p.kind, .int .i64 q.p.col, .int .i64 q.p.op, .int .i64 q.p.v.ty, .int .i64 q.p.v.n, .string q.p.v.s, .slice Ap q.p.l.length cp, .int .i64 q.col, .slice Ao q.out.length co] 31)).alloc (.cells #[.slice none 0 0, .int .i64 0, .bool false, .int .i64 0, .int .i64 0, .string ⟨#[]⟩] 37)).heap[w.heap.size + 1]? = some (.cells #[.slice none 0 0, .int .i64 0, .bool false, .int .i64 0, .int .i64 0, .string ⟨#[]⟩] 37) from heap_new48 (by simp))
  have HB := Lib.hid hup
  clear hm0 hp hx hn hup
  go_enter Tryz.func10, Tryz.ntmps10
  go_wp2_with fail
  refine hM.out.mono ?_
  clear hM
  rintro e wm ⟨vm, rfl, hm, hbm⟩
  obtain ⟨Am, cm, rfl, -, -⟩ := hm.rdR.form
  have zm : w.heap.size + 2 ≤ wm.heap.size := by have h := hbm.size; simp only [World.size_alloc] at h; omega
  replace GQ := Lib.hid ((hbm.block _ (by simp <;> omega)).trans GQ.out)
  replace G1 := Lib.hid ((hbm.block _ (by simp <;> omega)).trans G1.out)
  replace HB := Lib.hid (HB.out.trans (hbm.mono HB.out.size))
  have HM0 := Lib.hid hm.rdR
  clear hbm hm
  have q8 := cell_of_row wm _ 8 _ _ _ GQ.out
  simp only [List.getElem?_toArray, List.getElem?_cons_zero, List.getElem?_cons_succ] at q8
  replace q8 := cell_keep q8 (up_a1 wm (.cells #[.slice none 0 0, .int .i64 0, .bool false, .int .i64 0, .int .i64 0, .string ⟨#[]⟩] 37))
  have hC := spec_Column m (.slice Am m.length cm) q.col (wm.alloc (.cells #[.slice none 0 0, .int .i64 0, .bool false, .int .i64 0, .int .i64 0, .string ⟨#[]⟩] 37)) (HM0.out.below (up_a1 wm _) (Nat.le_refl _)) (by simp) hml
  have hkl := column_len m q.col
  obtain ⟨vs, hvs⟩ : ∃ vs, column m q.col = vs := ⟨_, rfl⟩
  rw [hvs] at hC hkl
  have HV := Lib.hid hvs
  clear hvs
  replace hC := Lib.hid hC
  go_wp2_with fail
  refine hC.out.mono ?_
  clear hC q8
  rintro e wk ⟨vk, rfl, hk, hbk⟩
  simp only [World.size_alloc] at hk
  obtain ⟨Ak, ck, rfl, -, -, -⟩ := hk.cells
  have hbk' := below_a1 hbk
  have zk : wm.heap.size + 1 ≤ wk.heap.size := by have h := hbk.size; simp only [World.size_alloc] at h; omega
  have GR := Lib.hid ((hbk.block wm.heap.size (by simp)).trans (heap_alloc_new wm (.cells #[.slice none 0 0, .int .i64 0, .bool false, .int .i64 0, .int .i64 0, .string ⟨#[]⟩] 37)))
  replace GQ := Lib.hid ((hbk'.block _ (by omega)).trans GQ.out)
  replace G1 := Lib.hid ((hbk'.block _ (by omega)).trans G1.out)
  replace HB := Lib.hid (HB.out.trans (hbk'.mono (by omega)))
  replace HM0 := Lib.hid (HM0.out.below hbk' (Nat.le_refl _))
  have HKo := Lib.hid hk
  clear hbk hbk' hk
  replace k5 := k5.out
  have q0 := cell_of_row wk _ 0 _ _ _ GQ.out
  simp only [List.getElem?_toArray, List.getElem?_cons_zero] at q0
  obtain ⟨zo, hzo⟩ : ∃ zo, zoneOf vs = zo := ⟨_, rfl⟩
  have d1 : (q.kind == 1) = false := by simp [k1]
  have d2 : (q.kind == 2) = false := by simp [k2]
  have d3 : (q.kind == 3) = false := by simp [k3]
  have d4 : (q.kind == 4) = false := by simp [k4]
  have d5 : (q.kind == 5) = true := by simp [k5]
  have HJ := Lib.hid (show answer q l = ⟨[], 0, decide (0 < vs.length), zo.hi⟩ by unfold answer; rw [Hm0.out]; unfold answerOf; rw [HV.out, hzo]; simp [k5])
  have y2 := cell_of_row wk _ 2 _ _ _ GR.out
  simp only [List.getElem?_toArray, List.getElem?_cons_zero, List.getElem?_cons_succ] at y2
  have yf := fun o => frozen_of_row wk _ o _ _ GR.out
  go_wp2_with fail
  have hch := chg_set wk wm.heap.size 2 (.bool (decide (0 < vs.length)))
  have HK2 := Lib.hid ((HKo.out.same (Same.of_chg hch (by omega) (by omega))).rdV)
  have hc2n := set1 (o := 2) (a := .bool (decide (0 < vs.length))) GR.out
  simp only [List.setIfInBounds_toArray, List.set_cons_succ, List.set_cons_zero] at hc2n
  replace GR := Lib.hid hc2n
  have hb : Below wm.heap.size wk (wk.setCell ⟨wm.heap.size, 2, none⟩ (.bool (decide (0 < vs.length)))) := hch.below (Nat.le_refl _) (by omega)
  replace GQ := Lib.hid ((hb.block _ (by omega)).trans GQ.out)
  replace G1 := Lib.hid ((hb.block _ (by omega)).trans G1.out)
  replace HB := Lib.hid (HB.out.trans (hb.mono (by omega)))
  have hsz : (wk.setCell ⟨wm.heap.size, 2, none⟩ (.bool (decide (0 < vs.length)))).heap.size = wk.heap.size := by simp [World.setCell]
  have Hsz := Lib.hid hsz
  generalize hWX : (wk.setCell ⟨wm.heap.size, 2, none⟩ (.bool (decide (0 < vs.length)))) = wx at *
  clear hWX hch hc2n hb hsz y2 yf q0
  have hT := Lib.hid (spec_ZoneOf vs (.slice Ak vs.length ck) wx HK2.out (by have h := Hsz.out; omega))
  rw [hzo] at hT
  clear hzo
  refine hT.out.mono ?_
  clear hT
  rintro e wz ⟨rfl, hz⟩
  rw [Hsz.out] at hz
  replace GQ := Lib.hid ((hz.block _ (by omega)).trans GQ.out)
  replace G1 := Lib.hid ((hz.block _ (by omega)).trans G1.out)
  replace GR := Lib.hid ((hz.block _ (by omega)).trans GR.out)
  replace HB := Lib.hid (HB.out.trans (hz.mono (by omega)))
  have hzz := hz.size
  rw [Hsz.out] at hzz
  clear hz
  have q0 := cell_of_row wz _ 0 _ _ _ GQ.out
  simp only [List.getElem?_toArray, List.getElem?_cons_zero] at q0
  have hfd : ∀ W : World, (Instr.field 53 (.agg #[.int .i64 zo.lo.ty, .int .i64 zo.lo.n, .string zo.lo.s, .int .i64 zo.hi.ty, .int .i64 zo.hi.n, .string zo.hi.s]) 1).run Tryz.prog W = .ok (.agg #[.int .i64 zo.hi.ty, .int .i64 zo.hi.n, .string zo.hi.s]) W := fun _ => by kernel_rfl
  have j0 := cell_of_row wz _ 0 _ _ _ GR.out
  have j1 := cell_of_row wz _ 1 _ _ _ GR.out
  have j2 := cell_of_row wz _ 2 _ _ _ GR.out
  have j3 := cell_of_row wz _ 3 _ _ _ GR.out
  have j4 := cell_of_row wz _ 4 _ _ _ GR.out
  have j5 := cell_of_row wz _ 5 _ _ _ GR.out
  simp only [List.getElem?_toArray, List.getElem?_cons_zero, List.getElem?_cons_succ] at j0 j1 j2 j3 j4 j5
  have p0 := cell_of_row wz _ 0 _ _ _ G1.out
  have p1 := cell_of_row wz _ 1 _ _ _ G1.out
  have p2 := cell_of_row wz _ 2 _ _ _ G1.out
  have p3 := cell_of_row wz _ 3 _ _ _ G1.out
  have p4 := cell_of_row wz _ 4 _ _ _ G1.out
  have p5 := cell_of_row wz _ 5 _ _ _ G1.out
  simp only [List.getElem?_toArray, List.getElem?_cons_zero, List.getElem?_cons_succ] at p0 p1 p2 p3 p4 p5
  have fr := fun o => frozen_of_row wz _ o _ _ G1.out
  have fj := fun o => frozen_of_row wz _ o _ _ GR.out
  go_wp2_with fail
  clear hfd
  have G1s := Lib.hid (show (((wz.setCell ⟨wm.heap.size, 3, none⟩ (.int .i64 zo.hi.ty)).setCell ⟨wm.heap.size, 4, none⟩ (.int .i64 zo.hi.n)).setCell ⟨wm.heap.size, 5, none⟩ (.string zo.hi.s)).heap[w.heap.size + 1]? = _ from (set_keep48 (by omega)).trans ((set_keep48 (by omega)).trans ((set_keep48 (by omega)).trans (G1.out))))
  have HBs : Below w.heap.size w (((wz.setCell ⟨wm.heap.size, 3, none⟩ (.int .i64 zo.hi.ty)).setCell ⟨wm.heap.size, 4, none⟩ (.int .i64 zo.hi.n)).setCell ⟨wm.heap.size, 5, none⟩ (.string zo.hi.s)) := by
    iterate 3 refine below_set48 ?_ (by omega)
    exact HB.out
  have hsz : w.heap.size + 2 ≤ (((wz.setCell ⟨wm.heap.size, 3, none⟩ (.int .i64 zo.hi.ty)).setCell ⟨wm.heap.size, 4, none⟩ (.int .i64 zo.hi.n)).setCell ⟨wm.heap.size, 5, none⟩ (.string zo.hi.s)).heap.size := by simp [World.setCell]; omega
  generalize hXs : (((wz.setCell ⟨wm.heap.size, 3, none⟩ (.int .i64 zo.hi.ty)).setCell ⟨wm.heap.size, 4, none⟩ (.int .i64 zo.hi.n)).setCell ⟨wm.heap.size, 5, none⟩ (.string zo.hi.s)) = Xs at *
  clear hXs fj
  replace G1 := G1s
  replace HB := Lib.hid HBs
  clear G1s HBs
  have G6 := set_six (v0 := .slice none 0 0) (v1 := .int .i64 0) (v2 := .bool (decide (0 < vs.length))) (v3 := .int .i64 zo.hi.ty) (v4 := .int .i64 zo.hi.n) (v5 := .string zo.hi.s) G1.out
  have kp : ∀ g, g ≠ w.heap.size + 1 → ((((((Xs.setCell ⟨w.heap.size + 1, 0, none⟩ (.slice none 0 0)).setCell ⟨w.heap.size + 1, 1, none⟩ (.int .i64 0)).setCell ⟨w.heap.size + 1, 2, none⟩ (.bool (decide (0 < vs.length)))).setCell ⟨w.heap.size + 1, 3, none⟩ (.int .i64 zo.hi.ty)).setCell ⟨w.heap.size + 1, 4, none⟩ (.int .i64 zo.hi.n)).setCell ⟨w.heap.size + 1, 5, none⟩ (.string zo.hi.s)).heap[g]? = Xs.heap[g]? := fun g hg => by
    iterate 5 refine (Below.heap_setCell _ _ _ g hg).trans ?_
    exact Below.heap_setCell _ _ _ g hg
  have RF : OwnRp 51 25 ((((((Xs.setCell ⟨w.heap.size + 1, 0, none⟩ (.slice none 0 0)).setCell ⟨w.heap.size + 1, 1, none⟩ (.int .i64 0)).setCell ⟨w.heap.size + 1, 2, none⟩ (.bool (decide (0 < vs.length)))).setCell ⟨w.heap.size + 1, 3, none⟩ (.int .i64 zo.hi.ty)).setCell ⟨w.heap.size + 1, 4, none⟩ (.int .i64 zo.hi.n)).setCell ⟨w.heap.size + 1, 5, none⟩ (.string zo.hi.s)) w.heap.size ((((((Xs.setCell ⟨w.heap.size + 1, 0, none⟩ (.slice none 0 0)).setCell ⟨w.heap.size + 1, 1, none⟩ (.int .i64 0)).setCell ⟨w.heap.size + 1, 2, none⟩ (.bool (decide (0 < vs.length)))).setCell ⟨w.heap.size + 1, 3, none⟩ (.int .i64 zo.hi.ty)).setCell ⟨w.heap.size + 1, 4, none⟩ (.int .i64 zo.hi.n)).setCell ⟨w.heap.size + 1, 5, none⟩ (.string zo.hi.s)).heap.size (.slice none 0 0) _ := ownRp_none _ _ _ _ _
  have BF : Below w.heap.size w ((((((Xs.setCell ⟨w.heap.size + 1, 0, none⟩ (.slice none 0 0)).setCell ⟨w.heap.size + 1, 1, none⟩ (.int .i64 0)).setCell ⟨w.heap.size + 1, 2, none⟩ (.bool (decide (0 < vs.length)))).setCell ⟨w.heap.size + 1, 3, none⟩ (.int .i64 zo.hi.ty)).setCell ⟨w.heap.size + 1, 4, none⟩ (.int .i64 zo.hi.n)).setCell ⟨w.heap.size + 1, 5, none⟩ (.string zo.hi.s)) := by
    iterate 6 refine below_set48 ?_ (by omega)
    exact HB.out
  generalize hXF : ((((((Xs.setCell ⟨w.heap.size + 1, 0, none⟩ (.slice none 0 0)).setCell ⟨w.heap.size + 1, 1, none⟩ (.int .i64 0)).setCell ⟨w.heap.size + 1, 2, none⟩ (.bool (decide (0 < vs.length)))).setCell ⟨w.heap.size + 1, 3, none⟩ (.int .i64 zo.hi.ty)).setCell ⟨w.heap.size + 1, 4, none⟩ (.int .i64 zo.hi.n)).setCell ⟨w.heap.size + 1, 5, none⟩ (.string zo.hi.s)) = XF at *
  clear hXF kp
  clear j0 j1 j2 j3 j4 j5 p0 p1 p2 p3 p4 p5 fr
  have r0 := cell_of_row XF _ 0 _ _ _ G6
  have r1 := cell_of_row XF _ 1 _ _ _ G6
  have r2 := cell_of_row XF _ 2 _ _ _ G6
  have r3 := cell_of_row XF _ 3 _ _ _ G6
  have r4 := cell_of_row XF _ 4 _ _ _ G6
  have r5 := cell_of_row XF _ 5 _ _ _ G6
  simp only [List.getElem?_toArray, List.getElem?_cons_zero, List.getElem?_cons_succ] at r0 r1 r2 r3 r4 r5
  refine bodyPost_ret (v := .agg #[.slice none 0 0, .int .i64 0, .bool (decide (0 < vs.length)), .int .i64 zo.hi.ty, .int .i64 zo.hi.n, .string zo.hi.s]) ?_ rfl ⟨.slice none 0 0, (by first | (rw [HJ.out]; done) | (rw [HJ.out]; rfl)), ?_, BF⟩
  · simp [results, Tryz.results10, go_sem, r0, r1, r2, r3, r4, r5]
  · rw [HJ.out]
    exact ⟨_, (show ([] : List (R × Value)).map Prod.fst = [] from rfl), RF⟩
end Go.Proofs.YtidmlfjolhnnfaaGreatDoor
namespace Go.Proofs.YtidmlfjolhnnfaaGreatDoor
open Go.Sort Go.ChangeShapes Go.WideShapes Go.ChangeAt Go.RowKit Go.Lb
set_option maxRecDepth 20000 in
set_option maxHeartbeats 4000000 in
theorem spec_Answer6 (q : Q) (sv ov : Value) (l : List R) (x : Value) (w : World) {l1 h1 l2 h2 lo hi : Nat} (hp : RdP w l1 h1 sv q.p.l) (hh1 : h1 ≤ w.heap.size) (ho : RdI w l2 h2 ov q.out) (hh2 : h2 ≤ w.heap.size) (hx : RdR w lo hi x l) (hhi : hi ≤ w.heap.size) (hn : l.length ≤ 1048576 ∧ lensR l ≤ 1048576) (_hno : q.out.length ≤ 1048576) (k1 : q.kind ≠ 1) (k2 : q.kind ≠ 2) (k3 : q.kind ≠ 3) (k4 : q.kind ≠ 4) (k5 : q.kind ≠ 5) :
    Calls Tryz.prog 10 #[.agg #[.int .i64 q.kind, .int .i64 q.p.kind, .int .i64 q.p.col, .int .i64 q.p.op, .int .i64 q.p.v.ty, .int .i64 q.p.v.n, .string q.p.v.s, sv, .int .i64 q.col, ov], x] w fun e w' => ∃ v, e = .returned (.agg #[v, .int .i64 (answer q l).n, .bool (answer q l).has, .int .i64 (answer q l).v.ty, .int .i64 (answer q l).v.n, .string (answer q l).v.s]) ∧ OwnR 51 25 w' w.heap.size w'.heap.size v (answer q l).rows ∧ Below w.heap.size w w' := by
  obtain ⟨Ap, cp, rfl, -, -⟩ := hp.form
  obtain ⟨Ao, co, rfl, -, -⟩ := ho.form
  obtain ⟨A, c, rfl, -, -⟩ := hx.form
  obtain ⟨i0, hif, hz0, hz1, hz2⟩ := info_parts info_Row
  replace hif := Lib.hid hif
  replace hz0 := Lib.hid hz0
  replace hz1 := Lib.hid hz1
  replace hz2 := Lib.hid hz2
  obtain ⟨i1, hif1, hy0, hy1, hy2⟩ := info_parts info_val
  replace hif1 := Lib.hid hif1
  replace hy0 := Lib.hid hy0
  replace hy1 := Lib.hid hy1
  replace hy2 := Lib.hid hy2
  have hup := up_a2 w (.cells #[.int .i64 q.kind, .int .i64 q.p.kind, .int .i64 q.p.col, .int .i64 q.p.op, .int .i64 q.p.v.ty, .int .i64 q.p.v.n, .string q.p.v.s, .slice Ap q.p.l.length cp, .int .i64 q.col, .slice Ao q.out.length co] 31) (.cells #[.slice none 0 0, .int .i64 0, .bool false, .int .i64 0, .int .i64 0, .string ⟨#[]⟩] 37)
  have hM := spec_Meant q (.slice Ap q.p.l.length cp) (.slice Ao q.out.length co) l (.slice A l.length c) ((w.alloc (.cells #[.int .i64 q.kind, .int .i64 q.p.kind, .int .i64 q.p.col, .int .i64 q.p.op, .int .i64 q.p.v.ty, .int .i64 q.p.v.n, .string q.p.v.s, .slice Ap q.p.l.length cp, .int .i64 q.col, .slice Ao q.out.length co] 31)).alloc (.cells #[.slice none 0 0, .int .i64 0, .bool false, .int .i64 0, .int .i64 0, .string ⟨#[]⟩] 37)) (hp.below hup hh1) (by simp; omega) (ho.below hup hh2) (by simp; omega) (hx.below hup hhi) (by simp; omega) hn
  have hml := meant_len q l
  have hms := meant_lens q l
  obtain ⟨m, hm0⟩ : ∃ m, meant q l = m := ⟨_, rfl⟩
  rw [hm0] at hM hml hms
  replace hml : m.length ≤ 1048576 := Nat.le_trans hml hn.1
  replace hms := Lib.hid (Nat.le_trans hms hn.2)
  have Hm0 := Lib.hid hm0
  replace hM := Lib.hid hM
  have GQ := Lib.hid (show ((w.alloc (.cells #[.int .i64 q.kind, .int .i64 q.p.kind, .int .i64 q.p.col, .int .i64 q.p.op, .int .i64 q.p.v.ty, .int .i64 q.p.v.n, .string q.p.v.s, .slice Ap q.p.l.length cp, .int .i64 q.col, .slice Ao q.out.length co] 31)).alloc (.cells #[.slice none 0 0, .int .i64 0, .bool false, .int .i64 0, .int .i64 0, .string ⟨#[]⟩] 37)).heap[w.heap.size]? = some (.cells #[.int .i64 q.kind, .int .i64 q.p.kind, .int .i64 q.p.col, .int .i64 q.p.op, .int .i64 q.p.v.ty, .int .i64 q.p.v.n, .string q.p.v.s, .slice Ap q.p.l.length cp, .int .i64 q.col, .slice Ao q.out.length co] 31) from alloc_old48 (heap_alloc_new w _))
  have G1 := Lib.hid (show ((w.alloc (.cells #[.int .i64 q.kind, .int .i64 q.p.kind, .int .i64 q.p.col, .int .i64 q.p.op, .int .i64 q.p.v.ty, .int .i64 q.p.v.n, .string q.p.v.s, .slice Ap q.p.l.length cp, .int .i64 q.col, .slice Ao q.out.length co] 31)).alloc (.cells #[.slice none 0 0, .int .i64 0, .bool false, .int .i64 0, .int .i64 0, .string ⟨#[]⟩] 37)).heap[w.heap.size + 1]? = some (.cells #[.slice none 0 0, .int .i64 0, .bool false, .int .i64 0, .int .i64 0, .string ⟨#[]⟩] 37) from heap_new48 (by simp))
  have HB := Lib.hid hup
  clear hm0 hp hx hn hup
  go_enter Tryz.func10, Tryz.ntmps10
  go_wp2_with fail
  refine hM.out.mono ?_
  clear hM
  rintro e wm ⟨vm, rfl, hm, hbm⟩
  obtain ⟨Am, cm, rfl, -, -⟩ := hm.rdR.form
  have zm : w.heap.size + 2 ≤ wm.heap.size := by have h := hbm.size; simp only [World.size_alloc] at h; omega
  replace GQ := Lib.hid ((hbm.block _ (by simp <;> omega)).trans GQ.out)
  replace G1 := Lib.hid ((hbm.block _ (by simp <;> omega)).trans G1.out)
  replace HB := Lib.hid (HB.out.trans (hbm.mono HB.out.size))
  have HM0 := Lib.hid hm.rdR
  clear hbm hm
  have q8 := cell_of_row wm _ 8 _ _ _ GQ.out
  simp only [List.getElem?_toArray, List.getElem?_cons_zero, List.getElem?_cons_succ] at q8
  replace q8 := cell_keep q8 (up_a1 wm (.cells #[.slice none 0 0, .int .i64 0, .bool false, .int .i64 0, .int .i64 0, .string ⟨#[]⟩] 37))
  have hC := spec_Column m (.slice Am m.length cm) q.col (wm.alloc (.cells #[.slice none 0 0, .int .i64 0, .bool false, .int .i64 0, .int .i64 0, .string ⟨#[]⟩] 37)) (HM0.out.below (up_a1 wm _) (Nat.le_refl _)) (by simp) hml
  have hkl := column_len m q.col
  obtain ⟨vs, hvs⟩ : ∃ vs, column m q.col = vs := ⟨_, rfl⟩
  rw [hvs] at hC hkl
  have HV := Lib.hid hvs
  clear hvs
  replace hC := Lib.hid hC
  go_wp2_with fail
  refine hC.out.mono ?_
  clear hC q8
  rintro e wk ⟨vk, rfl, hk, hbk⟩
  simp only [World.size_alloc] at hk
  obtain ⟨Ak, ck, rfl, -, -, -⟩ := hk.cells
  have hbk' := below_a1 hbk
  have zk : wm.heap.size + 1 ≤ wk.heap.size := by have h := hbk.size; simp only [World.size_alloc] at h; omega
  have GR := Lib.hid ((hbk.block wm.heap.size (by simp)).trans (heap_alloc_new wm (.cells #[.slice none 0 0, .int .i64 0, .bool false, .int .i64 0, .int .i64 0, .string ⟨#[]⟩] 37)))
  replace GQ := Lib.hid ((hbk'.block _ (by omega)).trans GQ.out)
  replace G1 := Lib.hid ((hbk'.block _ (by omega)).trans G1.out)
  replace HB := Lib.hid (HB.out.trans (hbk'.mono (by omega)))
  replace HM0 := Lib.hid (HM0.out.below hbk' (Nat.le_refl _))
  have HKo := Lib.hid hk
  clear hbk hbk' hk
  have q0 := cell_of_row wk _ 0 _ _ _ GQ.out
  simp only [List.getElem?_toArray, List.getElem?_cons_zero] at q0
  have d1 : (q.kind == 1) = false := by simp [k1]
  have d2 : (q.kind == 2) = false := by simp [k2]
  have d3 : (q.kind == 3) = false := by simp [k3]
  have d4 : (q.kind == 4) = false := by simp [k4]
  have d5 : (q.kind == 5) = false := by simp [k5]
  have HJ := Lib.hid (show answer q l = ⟨[], 0, false, V.zero⟩ by unfold answer; rw [Hm0.out]; unfold answerOf; rw [HV.out]; simp [k1, k2, k3, k4, k5])
  have j0 := cell_of_row wk _ 0 _ _ _ GR.out
  have j1 := cell_of_row wk _ 1 _ _ _ GR.out
  have j2 := cell_of_row wk _ 2 _ _ _ GR.out
  have j3 := cell_of_row wk _ 3 _ _ _ GR.out
  have j4 := cell_of_row wk _ 4 _ _ _ GR.out
  have j5 := cell_of_row wk _ 5 _ _ _ GR.out
  simp only [List.getElem?_toArray, List.getElem?_cons_zero, List.getElem?_cons_succ] at j0 j1 j2 j3 j4 j5
  have p0 := cell_of_row wk _ 0 _ _ _ G1.out
  have p1 := cell_of_row wk _ 1 _ _ _ G1.out
  have p2 := cell_of_row wk _ 2 _ _ _ G1.out
  have p3 := cell_of_row wk _ 3 _ _ _ G1.out
  have p4 := cell_of_row wk _ 4 _ _ _ G1.out
  have p5 := cell_of_row wk _ 5 _ _ _ G1.out
  simp only [List.getElem?_toArray, List.getElem?_cons_zero, List.getElem?_cons_succ] at p0 p1 p2 p3 p4 p5
  have fr := fun o => frozen_of_row wk _ o _ _ G1.out
  have fj := fun o => frozen_of_row wk _ o _ _ GR.out
  go_wp2_with fail
  have G6 := set_six (v0 := .slice none 0 0) (v1 := .int .i64 0) (v2 := .bool false) (v3 := .int .i64 0) (v4 := .int .i64 0) (v5 := .string ⟨#[]⟩) G1.out
  have kp : ∀ g, g ≠ w.heap.size + 1 → ((((((wk.setCell ⟨w.heap.size + 1, 0, none⟩ (.slice none 0 0)).setCell ⟨w.heap.size + 1, 1, none⟩ (.int .i64 0)).setCell ⟨w.heap.size + 1, 2, none⟩ (.bool false)).setCell ⟨w.heap.size + 1, 3, none⟩ (.int .i64 0)).setCell ⟨w.heap.size + 1, 4, none⟩ (.int .i64 0)).setCell ⟨w.heap.size + 1, 5, none⟩ (.string ⟨#[]⟩)).heap[g]? = wk.heap[g]? := fun g hg => by
    iterate 5 refine (Below.heap_setCell _ _ _ g hg).trans ?_
    exact Below.heap_setCell _ _ _ g hg
  have RF : OwnRp 51 25 ((((((wk.setCell ⟨w.heap.size + 1, 0, none⟩ (.slice none 0 0)).setCell ⟨w.heap.size + 1, 1, none⟩ (.int .i64 0)).setCell ⟨w.heap.size + 1, 2, none⟩ (.bool false)).setCell ⟨w.heap.size + 1, 3, none⟩ (.int .i64 0)).setCell ⟨w.heap.size + 1, 4, none⟩ (.int .i64 0)).setCell ⟨w.heap.size + 1, 5, none⟩ (.string ⟨#[]⟩)) w.heap.size ((((((wk.setCell ⟨w.heap.size + 1, 0, none⟩ (.slice none 0 0)).setCell ⟨w.heap.size + 1, 1, none⟩ (.int .i64 0)).setCell ⟨w.heap.size + 1, 2, none⟩ (.bool false)).setCell ⟨w.heap.size + 1, 3, none⟩ (.int .i64 0)).setCell ⟨w.heap.size + 1, 4, none⟩ (.int .i64 0)).setCell ⟨w.heap.size + 1, 5, none⟩ (.string ⟨#[]⟩)).heap.size (.slice none 0 0) _ := ownRp_none _ _ _ _ _
  have BF : Below w.heap.size w ((((((wk.setCell ⟨w.heap.size + 1, 0, none⟩ (.slice none 0 0)).setCell ⟨w.heap.size + 1, 1, none⟩ (.int .i64 0)).setCell ⟨w.heap.size + 1, 2, none⟩ (.bool false)).setCell ⟨w.heap.size + 1, 3, none⟩ (.int .i64 0)).setCell ⟨w.heap.size + 1, 4, none⟩ (.int .i64 0)).setCell ⟨w.heap.size + 1, 5, none⟩ (.string ⟨#[]⟩)) := by
    iterate 6 refine below_set48 ?_ (by omega)
    exact HB.out
  generalize hXF : ((((((wk.setCell ⟨w.heap.size + 1, 0, none⟩ (.slice none 0 0)).setCell ⟨w.heap.size + 1, 1, none⟩ (.int .i64 0)).setCell ⟨w.heap.size + 1, 2, none⟩ (.bool false)).setCell ⟨w.heap.size + 1, 3, none⟩ (.int .i64 0)).setCell ⟨w.heap.size + 1, 4, none⟩ (.int .i64 0)).setCell ⟨w.heap.size + 1, 5, none⟩ (.string ⟨#[]⟩)) = XF at *
  clear hXF kp
  clear j0 j1 j2 j3 j4 j5 p0 p1 p2 p3 p4 p5 fr fj
  have r0 := cell_of_row XF _ 0 _ _ _ G6
  have r1 := cell_of_row XF _ 1 _ _ _ G6
  have r2 := cell_of_row XF _ 2 _ _ _ G6
  have r3 := cell_of_row XF _ 3 _ _ _ G6
  have r4 := cell_of_row XF _ 4 _ _ _ G6
  have r5 := cell_of_row XF _ 5 _ _ _ G6
  simp only [List.getElem?_toArray, List.getElem?_cons_zero, List.getElem?_cons_succ] at r0 r1 r2 r3 r4 r5
  refine bodyPost_ret (v := .agg #[.slice none 0 0, .int .i64 0, .bool false, .int .i64 0, .int .i64 0, .string ⟨#[]⟩]) ?_ rfl ⟨.slice none 0 0, (by first | (rw [HJ.out]; done) | (rw [HJ.out]; rfl)), ?_, BF⟩
  · simp [results, Tryz.results10, go_sem, r0, r1, r2, r3, r4, r5]
  · rw [HJ.out]
    exact ⟨_, (show ([] : List (R × Value)).map Prod.fst = [] from rfl), RF⟩
end Go.Proofs.YtidmlfjolhnnfaaGreatDoor
namespace Go.Proofs.YtidmlfjolhnnfaaGreatDoor
open Go.Sort Go.ChangeShapes Go.WideShapes Go.ChangeAt Go.RowKit Go.Lb
set_option maxRecDepth 20000 in
set_option maxHeartbeats 4000000 in
theorem impl_Answer1 (q : Q) (sv ov : Value) (l : List R) (x : Value) (w : World) {l1 h1 l2 h2 lo hi : Nat} (hp : RdP w l1 h1 sv q.p.l) (hh1 : h1 ≤ w.heap.size) (ho : RdI w l2 h2 ov q.out) (hh2 : h2 ≤ w.heap.size) (hx : RdR w lo hi x l) (hhi : hi ≤ w.heap.size) (hn : l.length ≤ 1048576 ∧ lensR l ≤ 1048576) (hno : q.out.length ≤ 1048576) (k1 : q.kind = 1) :
    Calls Tryz.prog 7 #[.agg #[.int .i64 q.kind, .int .i64 q.p.kind, .int .i64 q.p.col, .int .i64 q.p.op, .int .i64 q.p.v.ty, .int .i64 q.p.v.n, .string q.p.v.s, sv, .int .i64 q.col, ov], x] w fun e w' => ∃ v, e = .returned (.agg #[v, .int .i64 (answer q l).n, .bool (answer q l).has, .int .i64 (answer q l).v.ty, .int .i64 (answer q l).v.n, .string (answer q l).v.s]) ∧ OwnR 51 25 w' w.heap.size w'.heap.size v (answer q l).rows ∧ Below w.heap.size w w' := by
  obtain ⟨Ap, cp, rfl, -, -⟩ := hp.form
  obtain ⟨Ao, co, rfl, -, -⟩ := ho.form
  obtain ⟨A, c, rfl, -, -⟩ := hx.form
  replace k1 := Lib.hid k1
  obtain ⟨i0, hif, hz0, hz1, hz2⟩ := info_parts info_Row
  replace hif := Lib.hid hif
  replace hz0 := Lib.hid hz0
  replace hz1 := Lib.hid hz1
  replace hz2 := Lib.hid hz2
  obtain ⟨i1, hif1, hy0, hy1, hy2⟩ := info_parts info_val
  replace hif1 := Lib.hid hif1
  replace hy0 := Lib.hid hy0
  replace hy1 := Lib.hid hy1
  replace hy2 := Lib.hid hy2
  have hup := up_a2 w (.cells #[.int .i64 q.kind, .int .i64 q.p.kind, .int .i64 q.p.col, .int .i64 q.p.op, .int .i64 q.p.v.ty, .int .i64 q.p.v.n, .string q.p.v.s, .slice Ap q.p.l.length cp, .int .i64 q.col, .slice Ao q.out.length co] 31) (.cells #[.slice none 0 0, .int .i64 0, .bool false, .int .i64 0, .int .i64 0, .string ⟨#[]⟩] 37)
  have hM := impl_Meant q (.slice Ap q.p.l.length cp) (.slice Ao q.out.length co) l (.slice A l.length c) ((w.alloc (.cells #[.int .i64 q.kind, .int .i64 q.p.kind, .int .i64 q.p.col, .int .i64 q.p.op, .int .i64 q.p.v.ty, .int .i64 q.p.v.n, .string q.p.v.s, .slice Ap q.p.l.length cp, .int .i64 q.col, .slice Ao q.out.length co] 31)).alloc (.cells #[.slice none 0 0, .int .i64 0, .bool false, .int .i64 0, .int .i64 0, .string ⟨#[]⟩] 37)) (hp.below hup hh1) (by simp; omega) (ho.below hup hh2) (by simp; omega) (hx.below hup hhi) (by simp; omega) hn
  have hml := meant_len q l
  have hms := meant_lens q l
  obtain ⟨m, hm0⟩ : ∃ m, meant q l = m := ⟨_, rfl⟩
  rw [hm0] at hM hml hms
  replace hml : m.length ≤ 1048576 := Nat.le_trans hml hn.1
  replace hms := Lib.hid (Nat.le_trans hms hn.2)
  have Hm0 := Lib.hid hm0
  replace hM := Lib.hid hM
  have GQ := Lib.hid (show ((w.alloc (.cells #[.int .i64 q.kind, .int .i64 q.p.kind, .int .i64 q.p.col, .int .i64 q.p.op, .int .i64 q.p.v.ty, .int .i64 q.p.v.n, .string q.p.v.s, .slice Ap q.p.l.length cp, .int .i64 q.col, .slice Ao q.out.length co] 31)).alloc (.cells #[.slice none 0 0, .int .i64 0, .bool false, .int .i64 0, .int .i64 0, .string ⟨#[]⟩] 37)).heap[w.heap.size]? = some (.cells #[.int .i64 q.kind, .int .i64 q.p.kind, .int .i64 q.p.col, .int .i64 q.p.op, .int .i64 q.p.v.ty, .int .i64 q.p.v.n, .string q.p.v.s, .slice Ap q.p.l.length cp, .int .i64 q.col, .slice Ao q.out.length co] 31) from alloc_old48 (heap_alloc_new w _))
  have G1 := Lib.hid (show ((w.alloc (.cells #[.int .i64 q.kind, .int .i64 q.p.kind, .int .i64 q.p.col, .int .i64 q.p.op, .int .i64 q.p.v.ty, .int .i64 q.p.v.n, .string q.p.v.s, .slice Ap q.p.l.length cp, .int .i64 q.col, .slice Ao q.out.length co] 31)).alloc (.cells #[.slice none 0 0, .int .i64 0, .bool false, .int .i64 0, .int .i64 0, .string ⟨#[]⟩] 37)).heap[w.heap.size + 1]? = some (.cells #[.slice none 0 0, .int .i64 0, .bool false, .int .i64 0, .int .i64 0, .string ⟨#[]⟩] 37) from heap_new48 (by simp))
  have HB := Lib.hid hup
  clear hm0 hp hx hn hup
  go_enter Tryz.func7, Tryz.ntmps7
  go_wp2_with fail
  refine hM.out.mono ?_
  clear hM
  rintro e wm ⟨vm, rfl, hm, hbm⟩
  obtain ⟨Am, cm, rfl, -, -⟩ := hm.rdR.form
  have zm : w.heap.size + 2 ≤ wm.heap.size := by have h := hbm.size; simp only [World.size_alloc] at h; omega
  replace GQ := Lib.hid ((hbm.block _ (by simp <;> omega)).trans GQ.out)
  replace G1 := Lib.hid ((hbm.block _ (by simp <;> omega)).trans G1.out)
  replace HB := Lib.hid (HB.out.trans (hbm.mono HB.out.size))
  have HM0 := Lib.hid hm.rdR
  clear hbm hm
  have q8 := cell_of_row wm _ 8 _ _ _ GQ.out
  simp only [List.getElem?_toArray, List.getElem?_cons_zero, List.getElem?_cons_succ] at q8
  have hC := impl_Column m (.slice Am m.length cm) q.col wm HM0.out (Nat.le_refl _) hml
  have hkl := column_len m q.col
  obtain ⟨vs, hvs⟩ : ∃ vs, column m q.col = vs := ⟨_, rfl⟩
  rw [hvs] at hC hkl
  have HV := Lib.hid hvs
  clear hvs
  replace hC := Lib.hid hC
  go_wp2_with fail
  refine hC.out.mono ?_
  clear hC q8
  rintro e wj ⟨vk, rfl, hk, hbk⟩
  obtain ⟨Ak, ck, rfl, -, -, -⟩ := hk.cells
  go_upto_region 4 with fail
  have hbk' : Below wm.heap.size wm (wj.alloc (.cells #[.slice none 0 0, .int .i64 0, .bool false, .int .i64 0, .int .i64 0, .string ⟨#[]⟩] 37)) := hbk.alloc hbk.size _
  have GR := Lib.hid (heap_alloc_new wj (.cells #[.slice none 0 0, .int .i64 0, .bool false, .int .i64 0, .int .i64 0, .string ⟨#[]⟩] 37))
  have zj := hbk.size
  have zk : wj.heap.size < (wj.alloc (.cells #[.slice none 0 0, .int .i64 0, .bool false, .int .i64 0, .int .i64 0, .string ⟨#[]⟩] 37)).heap.size := by simp
  replace GQ := Lib.hid ((hbk'.block _ (by omega)).trans GQ.out)
  replace G1 := Lib.hid ((hbk'.block _ (by omega)).trans G1.out)
  replace HB := Lib.hid (HB.out.trans (hbk'.mono (by omega)))
  replace HM0 := Lib.hid (HM0.out.below hbk' (Nat.le_refl _))
  have HKo := Lib.hid (hk.below (up_a1 wj (.cells #[.slice none 0 0, .int .i64 0, .bool false, .int .i64 0, .int .i64 0, .string ⟨#[]⟩] 37)) (Nat.le_refl _))
  clear hbk hbk' hk
  generalize (wj.alloc (.cells #[.slice none 0 0, .int .i64 0, .bool false, .int .i64 0, .int .i64 0, .string ⟨#[]⟩] 37)) = wk at *
  replace k1 := k1.out
  have q0 := cell_of_row wk _ 0 _ _ _ GQ.out
  simp only [List.getElem?_toArray, List.getElem?_cons_zero] at q0
  have d1 : (q.kind == 1) = true := by simp [k1]
  have HJ := Lib.hid (show answer q l = ⟨m.map (cutR q.out), 0, false, V.zero⟩ by unfold answer; rw [Hm0.out]; unfold answerOf; rw [HV.out]; simp [k1])
  clear k1
  go_wp2_with fail
  go_loopw [29] (fun i wr => ∃ (k : Nat) (v : Value) (ps : List (R × Value)), Hid (i = .int .i64 k ∧ k ≤ m.length ∧ ps.length = k ∧ ps.map Prod.fst = (m.take k).map (cutR q.out) ∧ OwnRp 51 25 wr wk.heap.size wr.heap.size v ps ∧ wr.heap[wj.heap.size]? = some (.cells #[v, .int .i64 0, .bool false, .int .i64 0, .int .i64 0, .string ⟨#[]⟩] 37) ∧ Below wj.heap.size wk wr)) (fun i _ => m.length - (intOf i).toNat)
  case atStart => exact ⟨0, .slice none 0 0, [], Lib.hid ⟨rfl, by omega, rfl, by simp, ownRp_none _ _ _ _ _, GR.out, Below.refl _ _⟩⟩
  case round =>
    obtain ⟨k, v, ps, hrel⟩ := hrel
    obtain ⟨rfl, hk, hpl, hps, hown, hc, hb⟩ := hrel.out
    obtain ⟨Av, cv, rfl, -, -, -⟩ := hown.own.cells
    rw [hpl] at hown hc
    have hg : wj.heap.size < wr.heap.size := (Array.getElem?_eq_some_iff.1 hc).1
    have Hps := Lib.hid hps
    have Hown := Lib.hid hown
    have hzb := hb.size
    have HBr := Lib.hid (HB.out.trans (hb.mono (by omega)))
    replace GQ := Lib.hid ((hb.block _ (by omega)).trans GQ.out)
    replace G1 := Lib.hid ((hb.block _ (by omega)).trans G1.out)
    have Hc := Lib.hid hc
    clear hps hown hc q0
    by_cases hkl : k < m.length
    · obtain ⟨wo, hwo⟩ : ∃ wo, wo = wr := ⟨_, rfl⟩
      subst hwo
      obtain ⟨b, off, y, sv', rfl, -, hbl, hyk, e0, e1, hr⟩ := (HM0.out.below hb (by omega)).at hkl
      obtain ⟨As, cs, rfl, -, -⟩ := hr.form
      have hyl : y.l.length ≤ 1048576 := Nat.le_trans (len_of_lens (mem_of_get hyk)) hms.out
      have Hy := Lib.hid (cutR_step (q := q.out) hyk)
      have Ho := Lib.hid (ho.below HBr.out hh2)
      have Hr := Lib.hid hr
      clear hyk hr
      have q9 := cell_of_row wo _ 9 _ _ _ GQ.out
      simp only [List.getElem?_toArray, List.getElem?_cons_zero, List.getElem?_cons_succ] at q9
      replace q9 := cell_keep q9 (up_a2 wo (.cells #[.int .i64 y.id, .slice As y.l.length cs] 51) (.cells #[.int .i64 y.id, .slice none 0 0] 51))
      have n0 := box_new wo #[.int .i64 y.id, .slice As y.l.length cs] 51 0
      simp only [List.getElem?_toArray, List.getElem?_cons_zero] at n0
      go_wp2_with fail
      clear q9 n0 e0 e1
      go_loopw [39] (fun i wr => ∃ (j : Nat) (v : Value) (xs : List V), Hid (i = .int .i64 j ∧ j ≤ q.out.length ∧ xs.length ≤ j ∧ xs = (q.out.take j).filterMap (fun k => colAt k y) ∧ wr.ownsRow (wo.heap.size + 2) 25 3 v xs.length (xs.flatMap V.cells) ∧ wr.heap[wo.heap.size]? = some (.cells #[.int .i64 y.id, .slice As y.l.length cs] 51) ∧ wr.heap[wo.heap.size + 1]? = some (.cells #[.int .i64 y.id, v] 51) ∧ Below wo.heap.size wo wr)) (fun i _ => q.out.length - (intOf i).toNat)
      case atStart => exact ⟨0, .slice none 0 0, [], Lib.hid ⟨rfl, by omega, by simp, by simp, own_none _ _ _ _, alloc_old48 (heap_alloc_new wo _), heap_new48 (by simp), up_a2 _ _ _⟩⟩
      case round =>
        obtain ⟨j, vj, xs, hrel⟩ := hrel
        obtain ⟨rfl, hj, hxl, hxs, hownj, hc9, hc10, hbw⟩ := hrel.out
        obtain ⟨Aj, cj, rfl, -, -, -⟩ := (Own.new hownj).cells
        have zw : wo.heap.size + 1 < wr.heap.size := (Array.getElem?_eq_some_iff.1 hc10).1
        have a1 := cell_of_row wr _ 1 _ _ _ hc9
        have o0 := cell_of_row wr _ 0 _ _ _ hc10
        have o1 := cell_of_row wr _ 1 _ _ _ hc10
        simp only [List.getElem?_toArray, List.getElem?_cons_zero, List.getElem?_cons_succ] at a1 o0 o1
        have Hxs := Lib.hid hxs
        have Hownj := Lib.hid hownj
        have Hc9 := Lib.hid hc9
        have Hc10 := Lib.hid hc10
        have Hbw := Lib.hid hbw
        clear hxs hownj hc9 hc10 hbw
        by_cases hjl : j < q.out.length
        · obtain ⟨b', off', kk, rfl, -, hbl', hjk, ek⟩ := (Ho.out.below Hbw.out (by omega)).at hjl
          have Hj := Lib.hid (cut_step (r := y) hjk)
          clear hjk
          by_cases hI : 0 ≤ kk ∧ kk < (y.l.length : Int)
          · obtain ⟨hlo, hup⟩ := hI
            obtain ⟨i, rfl⟩ : ∃ i : Nat, kk = (i : Int) := ⟨kk.toNat, by omega⟩
            have hil : i < y.l.length := by omega
            obtain ⟨b2, off2, z, rfl, -, hbl2, hzk, v0, v1, v2⟩ := (Hr.out.below Hbw.out (by omega)).at hil
            have Ht := Lib.hid (show (q.out.take (j + 1)).filterMap (fun k => colAt k y) = xs ++ [z] by rw [Hj.out, colAt_in hzk, Hxs.out]; rfl)
            clear hzk
            go_wp2_with fail
            refine wp_region_T (S := fun w' => w'.cell? ⟨wo.heap.size + 1, 1, none⟩ = some (.slice Aj xs.length cj) ∧ w'.cell? ⟨wo.heap.size, 1, none⟩ = some (.slice (some ⟨b2, off2, none⟩) y.l.length cs) ∧ w'.cell? ⟨b2, off2 + i * 3, none⟩ = some (.int .i64 z.ty) ∧ w'.cell? ⟨b2, off2 + i * 3 + 1, none⟩ = some (.int .i64 z.n) ∧ w'.cell? ⟨b2, off2 + i * 3 + 2, none⟩ = some (.string z.s)) (n := 10) (by kernel_rfl) ?_
            generalize hX0 : wr.drew = X0
            have HB0 : Below wr.heap.size wr X0 := hX0 ▸ (Below.refl _ _).drew
            have s0 : wr.heap.size ≤ X0.heap.size := HB0.size
            have x0 := cell_keep o1 HB0
            have x1 := cell_keep a1 HB0
            have x2 := cell_keep v0 HB0
            have x3 := cell_keep v1 HB0
            have x4 := cell_keep v2 HB0
            clear hX0
            have F0 : X0.cell? ⟨wo.heap.size + 1, 1, none⟩ = some (.slice Aj xs.length cj) ∧ X0.cell? ⟨wo.heap.size, 1, none⟩ = some (.slice (some ⟨b2, off2, none⟩) y.l.length cs) ∧ X0.cell? ⟨b2, off2 + i * 3, none⟩ = some (.int .i64 z.ty) ∧ X0.cell? ⟨b2, off2 + i * 3 + 1, none⟩ = some (.int .i64 z.n) ∧ X0.cell? ⟨b2, off2 + i * 3 + 2, none⟩ = some (.string z.s) := ⟨x0, x1, x2, x3, x4⟩
            refine wpAnyT_take (i := 0) (oi := _) (v := ?_) rfl (by kernel_rfl) (by kernel_rfl) (by kernel_rfl) (by kernel_rfl) (fun _ _ _ h => h) (Or.inl ⟨by rfl, ?_⟩) F0 ?_
            rotate_left
            · (intro w' hSw; (try dsimp only at hSw); go_simp) <;> with_reducible rfl
            try simp only [Act.put, List.setIfInBounds_toArray, List.set_cons_zero, List.set_cons_succ]
            refine wpAnyT_take (i := 1) (oi := _) (v := ?_) rfl (by kernel_rfl) (by kernel_rfl) (by kernel_rfl) (by kernel_rfl) (fun _ _ _ h => h) (Or.inl ⟨by rfl, ?_⟩) F0 ?_
            rotate_left
            · (intro w' hSw; (try dsimp only at hSw); go_simp) <;> with_reducible rfl
            try simp only [Act.put, List.setIfInBounds_toArray, List.set_cons_zero, List.set_cons_succ]
            refine wpAnyT_take (i := 2) (oi := _) (v := ?_) rfl (by kernel_rfl) (by kernel_rfl) (by kernel_rfl) (by kernel_rfl) (fun _ _ _ h => h) (Or.inl ⟨by rfl, ?_⟩) F0 ?_
            rotate_left
            · (intro w' hSw; (try dsimp only at hSw); go_simp) <;> with_reducible rfl
            try simp only [Act.put, List.setIfInBounds_toArray, List.set_cons_zero, List.set_cons_succ]
            refine wpAnyT_take (i := 3) (oi := _) (v := ?_) rfl (by kernel_rfl) (by kernel_rfl) (by kernel_rfl) (by kernel_rfl) (fun _ _ _ h => h) (Or.inl ⟨by rfl, ?_⟩) F0 ?_
            rotate_left
            · (intro w' hSw; (try dsimp only at hSw); go_simp) <;> with_reducible rfl
            try simp only [Act.put, List.setIfInBounds_toArray, List.set_cons_zero, List.set_cons_succ]
            refine wpAnyT_take (i := 4) (oi := _) (v := ?_) rfl (by kernel_rfl) (by kernel_rfl) (by kernel_rfl) (by kernel_rfl) (fun _ _ _ h => h) (Or.inl ⟨by rfl, ?_⟩) F0 ?_
            rotate_left
            · (intro w' hSw; (try dsimp only at hSw); go_simp) <;> with_reducible rfl
            try simp only [Act.put, List.setIfInBounds_toArray, List.set_cons_zero, List.set_cons_succ]
            refine wpAnyT_take (i := 5) (oi := _) (v := ?_) rfl (by kernel_rfl) (by kernel_rfl) (by kernel_rfl) (by kernel_rfl) (fun _ _ _ h => h) (Or.inl ⟨by rfl, ?_⟩) F0 ?_
            rotate_left
            · (intro w' hSw; (try dsimp only at hSw); go_simp) <;> with_reducible rfl
            try simp only [Act.put, List.setIfInBounds_toArray, List.set_cons_zero, List.set_cons_succ]
            refine wpAnyT_take (i := 6) (oi := _) (v := ?_) rfl (by kernel_rfl) (by kernel_rfl) (by kernel_rfl) (by kernel_rfl) (fun _ _ _ h => h) (Or.inl ⟨by rfl, ?_⟩) F0 ?_
            rotate_left
            · (intro w' hSw; (try dsimp only at hSw); go_simp) <;> with_reducible rfl
            try simp only [Act.put, List.setIfInBounds_toArray, List.set_cons_zero, List.set_cons_succ]
            refine wpAnyT_one (k := 7) (o := _) (by kernel_rfl) rfl rfl ?_
            intro K hK
            go_simp
            refine hK.out _ _ (fun _ => ⟨cell_keep x0 (up_a1 _ _), cell_keep x1 (up_a1 _ _), cell_keep x2 (up_a1 _ _), cell_keep x3 (up_a1 _ _), cell_keep x4 (up_a1 _ _)⟩) ?_
            clear hK
            refine wpAnyT_one (k := 8) (o := _) (by kernel_rfl) rfl rfl ?_
            intro K hK
            have HownX := owns_below Hownj.out HB0
            refine step_app rfl _ _ 48 rfl (wo.heap.size + 2) 25 i1 _ 3 32 Tryz.underlying48 hif1.out hy0.out hy1.out hy2.out rfl (by decide) (by decide) (HownX.alloc _) rfl (heap_alloc_new _ _) rfl rfl (by simp [Value.oneCell']) (by omega) (by simp <;> omega) ?_
            intro v' w3 hown' hgrow hnb
            obtain ⟨A2, c2, rfl, -, -, -⟩ := (Own.new hown').cells
            have hbg := hgrow.size
            simp only [World.size_alloc] at hbg
            have lk : ∀ g, g < X0.heap.size → some g ≠ (Value.slice Aj xs.length cj).ownBlock → w3.heap[g]? = X0.heap[g]? := fun g h1 h2 => (hgrow.block g (by simp; omega) h2).trans ((up_a1 X0 _).block g h1)
            have nn : ∀ g, g < wo.heap.size + 2 → some g ≠ (Value.slice Aj xs.length cj).ownBlock := fun g h1 e => by have := (Hownj.out.lt g e.symm).1; omega
            have kc : ∀ g u x, g < X0.heap.size → some g ≠ (Value.slice Aj xs.length cj).ownBlock → X0.cell? ⟨g, u, none⟩ = some x → w3.cell? ⟨g, u, none⟩ = some x := fun g u x h1 h2 h3 => (World.cell?_of_block (a := ⟨g, u, none⟩) (lk g h1 h2)).trans h3
            have y0 := kc _ _ _ (by omega) (nn _ (by omega)) x0
            have y1 := kc _ _ _ (by omega) (nn _ (by omega)) x1
            have y2 := kc _ _ _ (by omega) (nn _ (by omega)) x2
            have y3 := kc _ _ _ (by omega) (nn _ (by omega)) x3
            have y4 := kc _ _ _ (by omega) (nn _ (by omega)) x4
            have Hown' := Lib.hid (owns_same (w' := w3.setCell ⟨wo.heap.size + 1, 1, none⟩ (.slice A2 (xs.length + 1) c2)) hown' fun g hg => set_keep48 (fun e => by have := (hown'.lt g hg).1; omega))
            have HC10 := Lib.hid ((lk (wo.heap.size + 1) (by omega) (nn _ (by omega))).trans ((HB0.block _ zw).trans Hc10.out))
            have HC9 := Lib.hid ((set_keep48 (u := .slice A2 (xs.length + 1) c2) (o := 1) (b := wo.heap.size + 1) (g := wo.heap.size) (by omega)).trans ((lk _ (by omega) (nn _ (by omega))).trans ((HB0.block _ (by omega)).trans Hc9.out)))
            have hc3n := set1 (o := 1) (a := .slice A2 (xs.length + 1) c2) HC10.out
            simp only [List.setIfInBounds_toArray, List.set_cons_succ, List.set_cons_zero] at hc3n
            have HC3n := Lib.hid hc3n
            have hbX := Hbw.out.trans (HB0.mono Hbw.out.size)
            have HBn := Lib.hid (below_set48 (o := 1) (u := .slice A2 (xs.length + 1) c2) (b := wo.heap.size + 1) (Below.grown (hbX.alloc hbX.size _) hgrow (fun g hg => by have := (Hownj.out.lt g hg).1; omega) (Nat.le_refl _)) (by omega))
            have p1 := cell_of_row w3 _ 1 _ _ _ HC10.out
            have pf := fun o => frozen_of_row w3 _ o _ _ HC10.out
            simp only [List.getElem?_toArray, List.getElem?_cons_zero, List.getElem?_cons_succ] at p1
            clear hown' hgrow hnb lk nn kc hc3n hbX HownX
            refine hK.out _ _ (fun _ => ⟨y0, y1, y2, y3, y4⟩) ?_
            clear hK
            try simp only [Act.put, List.setIfInBounds_toArray, List.set_cons_zero, List.set_cons_succ]
            refine wpAnyT_one (k := 9) (o := _) (by kernel_rfl) rfl rfl ?_
            intro K hK
            go_simp
            refine hK.out _ _ (fun _ => ⟨y0, y1, y2, y3, y4⟩) ?_
            clear hK
            try simp only [Act.put, List.setIfInBounds_toArray, List.set_cons_zero, List.set_cons_succ]
            refine wpAnyT_one (k := 10) (o := _) (by kernel_rfl) rfl rfl ?_
            intro K hK
            go_simp
            refine hK.out _ _ (fun h => absurd rfl h) ?_
            clear hK
            refine wpAnyT_done (by kernel_rfl) ?_ _
            have HL := Lib.hid (show w3.setCell ⟨wo.heap.size + 1, 1, none⟩ (.slice A2 (xs.length + 1) c2) |>.ownsRow (wo.heap.size + 2) 25 3 (.slice A2 (xs.length + 1) c2) (xs ++ [z]).length ((xs ++ [z]).flatMap V.cells) by
              rw [List.length_append, List.flatMap_append]
              simpa [V.cells] using Hown'.out)
            clear x0 y0 x1 y1 x2 y2 x3 y3 x4 y4 p1 pf a1 o0 o1 ek v0 v1 v2 F0
            go_wp2_with fail
            go_roundw
            case rel => exact ⟨j + 1, _, xs ++ [z], Lib.hid ⟨by go_num, by omega, by simp; omega, Ht.out.symm, HL.out, HC9.out, HC3n.out, HBn.out⟩⟩
            case measure => simp [intOf]; omega
          · have Ht := Lib.hid (show (q.out.take (j + 1)).filterMap (fun k => colAt k y) = xs by rw [Hj.out, colAt_out (inR_not (by omega)), Hxs.out]; simp)
            by_cases hlo : 0 ≤ kk
            · have hup : ¬ kk < (y.l.length : Int) := fun h => hI ⟨hlo, h⟩
              clear hI
              go_wp2_with fail
              go_roundw
              case rel => exact ⟨j + 1, _, xs, Lib.hid ⟨by go_num, by omega, by omega, Ht.out.symm, Hownj.out, Hc9.out, Hc10.out, Hbw.out⟩⟩
              case measure => simp [intOf]; omega
            · clear hI
              go_wp2_with fail
              go_roundw
              case rel => exact ⟨j + 1, _, xs, Lib.hid ⟨by go_num, by omega, by omega, Ht.out.symm, Hownj.out, Hc9.out, Hc10.out, Hbw.out⟩⟩
              case measure => simp [intOf]; omega
        · obtain rfl : j = q.out.length := by omega
          have Hxe := Lib.hid (show cutL q.out y = xs by rw [Hxs.out, List.take_length]; rfl)
          have hsw := Hbw.out.size
          have HcW := Lib.hid ((Hbw.out.block _ hg).trans Hc.out)
          have hout := owns_below (owns_base Hown.out.out fun g hg => (Hown.out.outIn g hg).1) Hbw.out
          rw [hpl] at hout
          have Hin := Lib.hid (((Own.new Hownj.out).more (show wo.heap.size ≤ wo.heap.size + 2 by omega) (Nat.le_refl _)).below (up_a1 wr (.cells #[.int .i64 y.id, .slice Aj xs.length cj] 51)) (Nat.le_refl _))
          replace Hin := Lib.hid (show Own 25 3 _ wo.heap.size _ (.slice Aj xs.length cj) (cutR q.out y).l.length ((cutR q.out y).l.flatMap V.cells) by show Own _ _ _ _ _ _ (cutL q.out y).length ((cutL q.out y).flatMap V.cells); rw [Hxe.out]; exact Hin.out)
          have g0 := cell_of_row wr _ 0 _ _ _ HcW.out
          simp only [List.getElem?_toArray, List.getElem?_cons_zero] at g0
          have hxs2 : xs.length ≤ 1048576 := by omega
          go_wp2_with (at_builtin; refine wpl_app rfl _ _ 32 rfl wk.heap.size 51 i0 _ 2 32 Tryz.underlying32 hif.out hz0.out hz1.out hz2.out rfl (by decide) (by decide) (hout.alloc _) rfl (heap_alloc_new _ _) rfl rfl (by simp [Value.oneCell']) (by omega) (by simp; omega) ?_)
          intro v' w3 hown' hgrow hnb
          have hrow := fun g hg => (hout.lt g hg).1
          have hsn := Lib.hid (Hown.out.snoc (x := cutR q.out y) (sv := .slice Aj xs.length cj) (Hbw.out.alloc hsw _) (by omega) Hin.out (by simp) (by rw [hpl]; exact hown') hgrow (by simpa using hnb))
          have HC3 := Lib.hid ((hgrow.block (wj.heap.size) (by simp; omega) (fun e => by have := hrow _ e.symm; omega)).trans ((Below.heap_alloc wr _ _ (by omega)).trans HcW.out))
          obtain ⟨A2, c2, rfl, -, -, -⟩ := (Own.new hown').cells
          have HB3 := Lib.hid (below_set48 (o := 0) (u := .slice A2 (k + 1) c2) (b := wj.heap.size) (Below.grown ((hb.trans (Hbw.out.mono (by omega))).alloc (by omega) (.cells #[.int .i64 y.id, .slice Aj xs.length cj] 51)) hgrow (fun g hg => by have := hrow g hg; omega) (by omega)) (Nat.le_refl _))
          have hc3n := set1 (o := 0) (a := .slice A2 (k + 1) c2) HC3.out
          simp only [List.setIfInBounds_toArray, List.set_cons_zero] at hc3n
          have HC3n := Lib.hid hc3n
          have p0 := cell_of_row w3 _ 0 _ _ _ HC3.out
          simp only [List.getElem?_toArray, List.getElem?_cons_zero] at p0
          have pf := fun o => frozen_of_row w3 _ o _ _ HC3.out
          clear hown' hgrow hnb hout hc3n hrow a1 o0 o1 g0
          go_wp2_with fail
          go_roundw
          case rel => exact ⟨k + 1, _, _, Lib.hid ⟨by go_num, by omega, by simp [hpl], by rw [List.map_append, Hps.out, Hy.out]; rfl, hsn.out.imp (fun g h _ => set_keep48 (by omega)) (Nat.le_refl _) (by simp [World.setCell]), HC3n.out, HB3.out⟩⟩
          case measure => simp [intOf]; omega
    · obtain rfl : k = m.length := by omega
      have HM := Lib.hid (show ps.map Prod.fst = m.map (cutR q.out) by rw [Hps.out, List.take_length])
      replace HB := HBr
      have j0 := cell_of_row wr _ 0 _ _ _ Hc.out
      have j1 := cell_of_row wr _ 1 _ _ _ Hc.out
      have j2 := cell_of_row wr _ 2 _ _ _ Hc.out
      have j3 := cell_of_row wr _ 3 _ _ _ Hc.out
      have j4 := cell_of_row wr _ 4 _ _ _ Hc.out
      have j5 := cell_of_row wr _ 5 _ _ _ Hc.out
      simp only [List.getElem?_toArray, List.getElem?_cons_zero, List.getElem?_cons_succ] at j0 j1 j2 j3 j4 j5
      have p0 := cell_of_row wr _ 0 _ _ _ G1.out
      have p1 := cell_of_row wr _ 1 _ _ _ G1.out
      have p2 := cell_of_row wr _ 2 _ _ _ G1.out
      have p3 := cell_of_row wr _ 3 _ _ _ G1.out
      have p4 := cell_of_row wr _ 4 _ _ _ G1.out
      have p5 := cell_of_row wr _ 5 _ _ _ G1.out
      simp only [List.getElem?_toArray, List.getElem?_cons_zero, List.getElem?_cons_succ] at p0 p1 p2 p3 p4 p5
      have fr := fun o => frozen_of_row wr _ o _ _ G1.out
      have fj := fun o => frozen_of_row wr _ o _ _ Hc.out
      go_wp2_with fail
      have G6 := set_six (v0 := .slice Av m.length cv) (v1 := .int .i64 0) (v2 := .bool false) (v3 := .int .i64 0) (v4 := .int .i64 0) (v5 := .string ⟨#[]⟩) G1.out
      have kp : ∀ g, g ≠ w.heap.size + 1 → ((((((wr.setCell ⟨w.heap.size + 1, 0, none⟩ (.slice Av m.length cv)).setCell ⟨w.heap.size + 1, 1, none⟩ (.int .i64 0)).setCell ⟨w.heap.size + 1, 2, none⟩ (.bool false)).setCell ⟨w.heap.size + 1, 3, none⟩ (.int .i64 0)).setCell ⟨w.heap.size + 1, 4, none⟩ (.int .i64 0)).setCell ⟨w.heap.size + 1, 5, none⟩ (.string ⟨#[]⟩)).heap[g]? = wr.heap[g]? := fun g hg => by
        iterate 5 refine (Below.heap_setCell _ _ _ g hg).trans ?_
        exact Below.heap_setCell _ _ _ g hg
      have RF : OwnRp 51 25 ((((((wr.setCell ⟨w.heap.size + 1, 0, none⟩ (.slice Av m.length cv)).setCell ⟨w.heap.size + 1, 1, none⟩ (.int .i64 0)).setCell ⟨w.heap.size + 1, 2, none⟩ (.bool false)).setCell ⟨w.heap.size + 1, 3, none⟩ (.int .i64 0)).setCell ⟨w.heap.size + 1, 4, none⟩ (.int .i64 0)).setCell ⟨w.heap.size + 1, 5, none⟩ (.string ⟨#[]⟩)) w.heap.size ((((((wr.setCell ⟨w.heap.size + 1, 0, none⟩ (.slice Av m.length cv)).setCell ⟨w.heap.size + 1, 1, none⟩ (.int .i64 0)).setCell ⟨w.heap.size + 1, 2, none⟩ (.bool false)).setCell ⟨w.heap.size + 1, 3, none⟩ (.int .i64 0)).setCell ⟨w.heap.size + 1, 4, none⟩ (.int .i64 0)).setCell ⟨w.heap.size + 1, 5, none⟩ (.string ⟨#[]⟩)).heap.size (.slice Av m.length cv) _ := OwnRp.imp (Hown.out) (fun g hg _ => kp g (by omega)) (by omega) (by simp [World.setCell])
      have BF : Below w.heap.size w ((((((wr.setCell ⟨w.heap.size + 1, 0, none⟩ (.slice Av m.length cv)).setCell ⟨w.heap.size + 1, 1, none⟩ (.int .i64 0)).setCell ⟨w.heap.size + 1, 2, none⟩ (.bool false)).setCell ⟨w.heap.size + 1, 3, none⟩ (.int .i64 0)).setCell ⟨w.heap.size + 1, 4, none⟩ (.int .i64 0)).setCell ⟨w.heap.size + 1, 5, none⟩ (.string ⟨#[]⟩)) := by
        iterate 6 refine below_set48 ?_ (by omega)
        exact HB.out
      generalize hXF : ((((((wr.setCell ⟨w.heap.size + 1, 0, none⟩ (.slice Av m.length cv)).setCell ⟨w.heap.size + 1, 1, none⟩ (.int .i64 0)).setCell ⟨w.heap.size + 1, 2, none⟩ (.bool false)).setCell ⟨w.heap.size + 1, 3, none⟩ (.int .i64 0)).setCell ⟨w.heap.size + 1, 4, none⟩ (.int .i64 0)).setCell ⟨w.heap.size + 1, 5, none⟩ (.string ⟨#[]⟩)) = XF at *
      clear hXF kp
      clear j0 j1 j2 j3 j4 j5 p0 p1 p2 p3 p4 p5 fr
      have r0 := cell_of_row XF _ 0 _ _ _ G6
      have r1 := cell_of_row XF _ 1 _ _ _ G6
      have r2 := cell_of_row XF _ 2 _ _ _ G6
      have r3 := cell_of_row XF _ 3 _ _ _ G6
      have r4 := cell_of_row XF _ 4 _ _ _ G6
      have r5 := cell_of_row XF _ 5 _ _ _ G6
      simp only [List.getElem?_toArray, List.getElem?_cons_zero, List.getElem?_cons_succ] at r0 r1 r2 r3 r4 r5
      refine bodyPost_ret (v := .agg #[.slice Av m.length cv, .int .i64 0, .bool false, .int .i64 0, .int .i64 0, .string ⟨#[]⟩]) ?_ rfl ⟨.slice Av m.length cv, (by first | (rw [HJ.out]; done) | (rw [HJ.out]; rfl)), ?_, BF⟩
      · simp [results, Tryz.results7, go_sem, r0, r1, r2, r3, r4, r5]
      · rw [HJ.out]
        exact ⟨_, HM.out, RF⟩
end Go.Proofs.YtidmlfjolhnnfaaGreatDoor
namespace Go.Proofs.YtidmlfjolhnnfaaGreatDoor
open Go.Sort Go.ChangeShapes Go.WideShapes Go.ChangeAt Go.RowKit Go.Lb
set_option maxRecDepth 20000 in
set_option maxHeartbeats 4000000 in
theorem impl_Answer2 (q : Q) (sv ov : Value) (l : List R) (x : Value) (w : World) {l1 h1 l2 h2 lo hi : Nat} (hp : RdP w l1 h1 sv q.p.l) (hh1 : h1 ≤ w.heap.size) (ho : RdI w l2 h2 ov q.out) (hh2 : h2 ≤ w.heap.size) (hx : RdR w lo hi x l) (hhi : hi ≤ w.heap.size) (hn : l.length ≤ 1048576 ∧ lensR l ≤ 1048576) (_hno : q.out.length ≤ 1048576) (k1 : q.kind ≠ 1) (k2 : q.kind = 2) :
    Calls Tryz.prog 7 #[.agg #[.int .i64 q.kind, .int .i64 q.p.kind, .int .i64 q.p.col, .int .i64 q.p.op, .int .i64 q.p.v.ty, .int .i64 q.p.v.n, .string q.p.v.s, sv, .int .i64 q.col, ov], x] w fun e w' => ∃ v, e = .returned (.agg #[v, .int .i64 (answer q l).n, .bool (answer q l).has, .int .i64 (answer q l).v.ty, .int .i64 (answer q l).v.n, .string (answer q l).v.s]) ∧ OwnR 51 25 w' w.heap.size w'.heap.size v (answer q l).rows ∧ Below w.heap.size w w' := by
  obtain ⟨Ap, cp, rfl, -, -⟩ := hp.form
  obtain ⟨Ao, co, rfl, -, -⟩ := ho.form
  obtain ⟨A, c, rfl, -, -⟩ := hx.form
  replace k2 := Lib.hid k2
  obtain ⟨i0, hif, hz0, hz1, hz2⟩ := info_parts info_Row
  replace hif := Lib.hid hif
  replace hz0 := Lib.hid hz0
  replace hz1 := Lib.hid hz1
  replace hz2 := Lib.hid hz2
  obtain ⟨i1, hif1, hy0, hy1, hy2⟩ := info_parts info_val
  replace hif1 := Lib.hid hif1
  replace hy0 := Lib.hid hy0
  replace hy1 := Lib.hid hy1
  replace hy2 := Lib.hid hy2
  have hup := up_a2 w (.cells #[.int .i64 q.kind, .int .i64 q.p.kind, .int .i64 q.p.col, .int .i64 q.p.op, .int .i64 q.p.v.ty, .int .i64 q.p.v.n, .string q.p.v.s, .slice Ap q.p.l.length cp, .int .i64 q.col, .slice Ao q.out.length co] 31) (.cells #[.slice none 0 0, .int .i64 0, .bool false, .int .i64 0, .int .i64 0, .string ⟨#[]⟩] 37)
  have hM := impl_Meant q (.slice Ap q.p.l.length cp) (.slice Ao q.out.length co) l (.slice A l.length c) ((w.alloc (.cells #[.int .i64 q.kind, .int .i64 q.p.kind, .int .i64 q.p.col, .int .i64 q.p.op, .int .i64 q.p.v.ty, .int .i64 q.p.v.n, .string q.p.v.s, .slice Ap q.p.l.length cp, .int .i64 q.col, .slice Ao q.out.length co] 31)).alloc (.cells #[.slice none 0 0, .int .i64 0, .bool false, .int .i64 0, .int .i64 0, .string ⟨#[]⟩] 37)) (hp.below hup hh1) (by simp; omega) (ho.below hup hh2) (by simp; omega) (hx.below hup hhi) (by simp; omega) hn
  have hml := meant_len q l
  have hms := meant_lens q l
  obtain ⟨m, hm0⟩ : ∃ m, meant q l = m := ⟨_, rfl⟩
  rw [hm0] at hM hml hms
  replace hml : m.length ≤ 1048576 := Nat.le_trans hml hn.1
  replace hms := Lib.hid (Nat.le_trans hms hn.2)
  have Hm0 := Lib.hid hm0
  replace hM := Lib.hid hM
  have GQ := Lib.hid (show ((w.alloc (.cells #[.int .i64 q.kind, .int .i64 q.p.kind, .int .i64 q.p.col, .int .i64 q.p.op, .int .i64 q.p.v.ty, .int .i64 q.p.v.n, .string q.p.v.s, .slice Ap q.p.l.length cp, .int .i64 q.col, .slice Ao q.out.length co] 31)).alloc (.cells #[.slice none 0 0, .int .i64 0, .bool false, .int .i64 0, .int .i64 0, .string ⟨#[]⟩] 37)).heap[w.heap.size]? = some (.cells #[.int .i64 q.kind, .int .i64 q.p.kind, .int .i64 q.p.col, .int .i64 q.p.op, .int .i64 q.p.v.ty, .int .i64 q.p.v.n, .string q.p.v.s, .slice Ap q.p.l.length cp, .int .i64 q.col, .slice Ao q.out.length co] 31) from alloc_old48 (heap_alloc_new w _))
  have G1 := Lib.hid (show ((w.alloc (.cells #[.int .i64 q.kind, .int .i64 q.p.kind, .int .i64 q.p.col, .int .i64 q.p.op, .int .i64 q.p.v.ty, .int .i64 q.p.v.n, .string q.p.v.s, .slice Ap q.p.l.length cp, .int .i64 q.col, .slice Ao q.out.length co] 31)).alloc (.cells #[.slice none 0 0, .int .i64 0, .bool false, .int .i64 0, .int .i64 0, .string ⟨#[]⟩] 37)).heap[w.heap.size + 1]? = some (.cells #[.slice none 0 0, .int .i64 0, .bool false, .int .i64 0, .int .i64 0, .string ⟨#[]⟩] 37) from heap_new48 (by simp))
  have HB := Lib.hid hup
  clear hm0 hp hx hn hup
  go_enter Tryz.func7, Tryz.ntmps7
  go_wp2_with fail
  refine hM.out.mono ?_
  clear hM
  rintro e wm ⟨vm, rfl, hm, hbm⟩
  obtain ⟨Am, cm, rfl, -, -⟩ := hm.rdR.form
  have zm : w.heap.size + 2 ≤ wm.heap.size := by have h := hbm.size; simp only [World.size_alloc] at h; omega
  replace GQ := Lib.hid ((hbm.block _ (by simp <;> omega)).trans GQ.out)
  replace G1 := Lib.hid ((hbm.block _ (by simp <;> omega)).trans G1.out)
  replace HB := Lib.hid (HB.out.trans (hbm.mono HB.out.size))
  have HM0 := Lib.hid hm.rdR
  clear hbm hm
  have q8 := cell_of_row wm _ 8 _ _ _ GQ.out
  simp only [List.getElem?_toArray, List.getElem?_cons_zero, List.getElem?_cons_succ] at q8
  have hC := impl_Column m (.slice Am m.length cm) q.col wm HM0.out (Nat.le_refl _) hml
  have hkl := column_len m q.col
  obtain ⟨vs, hvs⟩ : ∃ vs, column m q.col = vs := ⟨_, rfl⟩
  rw [hvs] at hC hkl
  have HV := Lib.hid hvs
  clear hvs
  replace hC := Lib.hid hC
  go_wp2_with fail
  refine hC.out.mono ?_
  clear hC q8
  rintro e wj ⟨vk, rfl, hk, hbk⟩
  obtain ⟨Ak, ck, rfl, -, -, -⟩ := hk.cells
  go_upto_region 4 with fail
  have hbk' : Below wm.heap.size wm (wj.alloc (.cells #[.slice none 0 0, .int .i64 0, .bool false, .int .i64 0, .int .i64 0, .string ⟨#[]⟩] 37)) := hbk.alloc hbk.size _
  have GR := Lib.hid (heap_alloc_new wj (.cells #[.slice none 0 0, .int .i64 0, .bool false, .int .i64 0, .int .i64 0, .string ⟨#[]⟩] 37))
  have zj := hbk.size
  have zk : wj.heap.size < (wj.alloc (.cells #[.slice none 0 0, .int .i64 0, .bool false, .int .i64 0, .int .i64 0, .string ⟨#[]⟩] 37)).heap.size := by simp
  replace GQ := Lib.hid ((hbk'.block _ (by omega)).trans GQ.out)
  replace G1 := Lib.hid ((hbk'.block _ (by omega)).trans G1.out)
  replace HB := Lib.hid (HB.out.trans (hbk'.mono (by omega)))
  replace HM0 := Lib.hid (HM0.out.below hbk' (Nat.le_refl _))
  have HKo := Lib.hid (hk.below (up_a1 wj (.cells #[.slice none 0 0, .int .i64 0, .bool false, .int .i64 0, .int .i64 0, .string ⟨#[]⟩] 37)) (Nat.le_refl _))
  clear hbk hbk' hk
  generalize (wj.alloc (.cells #[.slice none 0 0, .int .i64 0, .bool false, .int .i64 0, .int .i64 0, .string ⟨#[]⟩] 37)) = wk at *
  replace k2 := k2.out
  have q0 := cell_of_row wk _ 0 _ _ _ GQ.out
  simp only [List.getElem?_toArray, List.getElem?_cons_zero] at q0
  have d1 : (q.kind == 1) = false := by simp [k1]
  have d2 : (q.kind == 2) = true := by simp [k2]
  have HJ := Lib.hid (show answer q l = ⟨[], (m.length : Int), false, V.zero⟩ by unfold answer; rw [Hm0.out]; unfold answerOf; rw [HV.out]; simp [k2])
  have j0 := cell_of_row wk _ 0 _ _ _ GR.out
  have j1 := cell_of_row wk _ 1 _ _ _ GR.out
  have j2 := cell_of_row wk _ 2 _ _ _ GR.out
  have j3 := cell_of_row wk _ 3 _ _ _ GR.out
  have j4 := cell_of_row wk _ 4 _ _ _ GR.out
  have j5 := cell_of_row wk _ 5 _ _ _ GR.out
  simp only [List.getElem?_toArray, List.getElem?_cons_zero, List.getElem?_cons_succ] at j0 j1 j2 j3 j4 j5
  have p0 := cell_of_row wk _ 0 _ _ _ G1.out
  have p1 := cell_of_row wk _ 1 _ _ _ G1.out
  have p2 := cell_of_row wk _ 2 _ _ _ G1.out
  have p3 := cell_of_row wk _ 3 _ _ _ G1.out
  have p4 := cell_of_row wk _ 4 _ _ _ G1.out
  have p5 := cell_of_row wk _ 5 _ _ _ G1.out
  simp only [List.getElem?_toArray, List.getElem?_cons_zero, List.getElem?_cons_succ] at p0 p1 p2 p3 p4 p5
  have fr := fun o => frozen_of_row wk _ o _ _ G1.out
  have fj := fun o => frozen_of_row wk _ o _ _ GR.out
  go_wp2_with fail
  have G1s := Lib.hid (show (wk.setCell ⟨wj.heap.size, 1, none⟩ (.int .i64 (m.length : Int))).heap[w.heap.size + 1]? = _ from (set_keep48 (by omega)).trans (G1.out))
  have HBs : Below w.heap.size w (wk.setCell ⟨wj.heap.size, 1, none⟩ (.int .i64 (m.length : Int))) := by
    iterate 1 refine below_set48 ?_ (by omega)
    exact HB.out
  have hsz : w.heap.size + 2 ≤ (wk.setCell ⟨wj.heap.size, 1, none⟩ (.int .i64 (m.length : Int))).heap.size := by simp [World.setCell]; omega
  generalize hXs : (wk.setCell ⟨wj.heap.size, 1, none⟩ (.int .i64 (m.length : Int))) = Xs at *
  clear hXs fj
  replace G1 := G1s
  replace HB := Lib.hid HBs
  clear G1s HBs
  have G6 := set_six (v0 := .slice none 0 0) (v1 := .int .i64 (m.length : Int)) (v2 := .bool false) (v3 := .int .i64 0) (v4 := .int .i64 0) (v5 := .string ⟨#[]⟩) G1.out
  have kp : ∀ g, g ≠ w.heap.size + 1 → ((((((Xs.setCell ⟨w.heap.size + 1, 0, none⟩ (.slice none 0 0)).setCell ⟨w.heap.size + 1, 1, none⟩ (.int .i64 (m.length : Int))).setCell ⟨w.heap.size + 1, 2, none⟩ (.bool false)).setCell ⟨w.heap.size + 1, 3, none⟩ (.int .i64 0)).setCell ⟨w.heap.size + 1, 4, none⟩ (.int .i64 0)).setCell ⟨w.heap.size + 1, 5, none⟩ (.string ⟨#[]⟩)).heap[g]? = Xs.heap[g]? := fun g hg => by
    iterate 5 refine (Below.heap_setCell _ _ _ g hg).trans ?_
    exact Below.heap_setCell _ _ _ g hg
  have RF : OwnRp 51 25 ((((((Xs.setCell ⟨w.heap.size + 1, 0, none⟩ (.slice none 0 0)).setCell ⟨w.heap.size + 1, 1, none⟩ (.int .i64 (m.length : Int))).setCell ⟨w.heap.size + 1, 2, none⟩ (.bool false)).setCell ⟨w.heap.size + 1, 3, none⟩ (.int .i64 0)).setCell ⟨w.heap.size + 1, 4, none⟩ (.int .i64 0)).setCell ⟨w.heap.size + 1, 5, none⟩ (.string ⟨#[]⟩)) w.heap.size ((((((Xs.setCell ⟨w.heap.size + 1, 0, none⟩ (.slice none 0 0)).setCell ⟨w.heap.size + 1, 1, none⟩ (.int .i64 (m.length : Int))).setCell ⟨w.heap.size + 1, 2, none⟩ (.bool false)).setCell ⟨w.heap.size + 1, 3, none⟩ (.int .i64 0)).setCell ⟨w.heap.size + 1, 4, none⟩ (.int .i64 0)).setCell ⟨w.heap.size + 1, 5, none⟩ (.string ⟨#[]⟩)).heap.size (.slice none 0 0) _ := ownRp_none _ _ _ _ _
  have BF : Below w.heap.size w ((((((Xs.setCell ⟨w.heap.size + 1, 0, none⟩ (.slice none 0 0)).setCell ⟨w.heap.size + 1, 1, none⟩ (.int .i64 (m.length : Int))).setCell ⟨w.heap.size + 1, 2, none⟩ (.bool false)).setCell ⟨w.heap.size + 1, 3, none⟩ (.int .i64 0)).setCell ⟨w.heap.size + 1, 4, none⟩ (.int .i64 0)).setCell ⟨w.heap.size + 1, 5, none⟩ (.string ⟨#[]⟩)) := by
    iterate 6 refine below_set48 ?_ (by omega)
    exact HB.out
  generalize hXF : ((((((Xs.setCell ⟨w.heap.size + 1, 0, none⟩ (.slice none 0 0)).setCell ⟨w.heap.size + 1, 1, none⟩ (.int .i64 (m.length : Int))).setCell ⟨w.heap.size + 1, 2, none⟩ (.bool false)).setCell ⟨w.heap.size + 1, 3, none⟩ (.int .i64 0)).setCell ⟨w.heap.size + 1, 4, none⟩ (.int .i64 0)).setCell ⟨w.heap.size + 1, 5, none⟩ (.string ⟨#[]⟩)) = XF at *
  clear hXF kp
  clear j0 j1 j2 j3 j4 j5 p0 p1 p2 p3 p4 p5 fr
  have r0 := cell_of_row XF _ 0 _ _ _ G6
  have r1 := cell_of_row XF _ 1 _ _ _ G6
  have r2 := cell_of_row XF _ 2 _ _ _ G6
  have r3 := cell_of_row XF _ 3 _ _ _ G6
  have r4 := cell_of_row XF _ 4 _ _ _ G6
  have r5 := cell_of_row XF _ 5 _ _ _ G6
  simp only [List.getElem?_toArray, List.getElem?_cons_zero, List.getElem?_cons_succ] at r0 r1 r2 r3 r4 r5
  refine bodyPost_ret (v := .agg #[.slice none 0 0, .int .i64 (m.length : Int), .bool false, .int .i64 0, .int .i64 0, .string ⟨#[]⟩]) ?_ rfl ⟨.slice none 0 0, (by first | (rw [HJ.out]; done) | (rw [HJ.out]; rfl)), ?_, BF⟩
  · simp [results, Tryz.results7, go_sem, r0, r1, r2, r3, r4, r5]
  · rw [HJ.out]
    exact ⟨_, (show ([] : List (R × Value)).map Prod.fst = [] from rfl), RF⟩
end Go.Proofs.YtidmlfjolhnnfaaGreatDoor
namespace Go.Proofs.YtidmlfjolhnnfaaGreatDoor
open Go.Sort Go.ChangeShapes Go.WideShapes Go.ChangeAt Go.RowKit Go.Lb
set_option maxRecDepth 20000 in
set_option maxHeartbeats 4000000 in
theorem impl_Answer3 (q : Q) (sv ov : Value) (l : List R) (x : Value) (w : World) {l1 h1 l2 h2 lo hi : Nat} (hp : RdP w l1 h1 sv q.p.l) (hh1 : h1 ≤ w.heap.size) (ho : RdI w l2 h2 ov q.out) (hh2 : h2 ≤ w.heap.size) (hx : RdR w lo hi x l) (hhi : hi ≤ w.heap.size) (hn : l.length ≤ 1048576 ∧ lensR l ≤ 1048576) (_hno : q.out.length ≤ 1048576) (k1 : q.kind ≠ 1) (k2 : q.kind ≠ 2) (k3 : q.kind = 3) :
    Calls Tryz.prog 7 #[.agg #[.int .i64 q.kind, .int .i64 q.p.kind, .int .i64 q.p.col, .int .i64 q.p.op, .int .i64 q.p.v.ty, .int .i64 q.p.v.n, .string q.p.v.s, sv, .int .i64 q.col, ov], x] w fun e w' => ∃ v, e = .returned (.agg #[v, .int .i64 (answer q l).n, .bool (answer q l).has, .int .i64 (answer q l).v.ty, .int .i64 (answer q l).v.n, .string (answer q l).v.s]) ∧ OwnR 51 25 w' w.heap.size w'.heap.size v (answer q l).rows ∧ Below w.heap.size w w' := by
  obtain ⟨Ap, cp, rfl, -, -⟩ := hp.form
  obtain ⟨Ao, co, rfl, -, -⟩ := ho.form
  obtain ⟨A, c, rfl, -, -⟩ := hx.form
  replace k3 := Lib.hid k3
  obtain ⟨i0, hif, hz0, hz1, hz2⟩ := info_parts info_Row
  replace hif := Lib.hid hif
  replace hz0 := Lib.hid hz0
  replace hz1 := Lib.hid hz1
  replace hz2 := Lib.hid hz2
  obtain ⟨i1, hif1, hy0, hy1, hy2⟩ := info_parts info_val
  replace hif1 := Lib.hid hif1
  replace hy0 := Lib.hid hy0
  replace hy1 := Lib.hid hy1
  replace hy2 := Lib.hid hy2
  have hup := up_a2 w (.cells #[.int .i64 q.kind, .int .i64 q.p.kind, .int .i64 q.p.col, .int .i64 q.p.op, .int .i64 q.p.v.ty, .int .i64 q.p.v.n, .string q.p.v.s, .slice Ap q.p.l.length cp, .int .i64 q.col, .slice Ao q.out.length co] 31) (.cells #[.slice none 0 0, .int .i64 0, .bool false, .int .i64 0, .int .i64 0, .string ⟨#[]⟩] 37)
  have hM := impl_Meant q (.slice Ap q.p.l.length cp) (.slice Ao q.out.length co) l (.slice A l.length c) ((w.alloc (.cells #[.int .i64 q.kind, .int .i64 q.p.kind, .int .i64 q.p.col, .int .i64 q.p.op, .int .i64 q.p.v.ty, .int .i64 q.p.v.n, .string q.p.v.s, .slice Ap q.p.l.length cp, .int .i64 q.col, .slice Ao q.out.length co] 31)).alloc (.cells #[.slice none 0 0, .int .i64 0, .bool false, .int .i64 0, .int .i64 0, .string ⟨#[]⟩] 37)) (hp.below hup hh1) (by simp; omega) (ho.below hup hh2) (by simp; omega) (hx.below hup hhi) (by simp; omega) hn
  have hml := meant_len q l
  have hms := meant_lens q l
  obtain ⟨m, hm0⟩ : ∃ m, meant q l = m := ⟨_, rfl⟩
  rw [hm0] at hM hml hms
  replace hml : m.length ≤ 1048576 := Nat.le_trans hml hn.1
  replace hms := Lib.hid (Nat.le_trans hms hn.2)
  have Hm0 := Lib.hid hm0
  replace hM := Lib.hid hM
  have GQ := Lib.hid (show ((w.alloc (.cells #[.int .i64 q.kind, .int .i64 q.p.kind, .int .i64 q.p.col, .int .i64 q.p.op, .int .i64 q.p.v.ty, .int .i64 q.p.v.n, .string q.p.v.s, .slice Ap q.p.l.length cp, .int .i64 q.col, .slice Ao q.out.length co] 31)).alloc (.cells #[.slice none 0 0, .int .i64 0, .bool false, .int .i64 0, .int .i64 0, .string ⟨#[]⟩] 37)).heap[w.heap.size]? = some (.cells #[.int .i64 q.kind, .int .i64 q.p.kind, .int .i64 q.p.col, .int .i64 q.p.op, .int .i64 q.p.v.ty, .int .i64 q.p.v.n, .string q.p.v.s, .slice Ap q.p.l.length cp, .int .i64 q.col, .slice Ao q.out.length co] 31) from alloc_old48 (heap_alloc_new w _))
  have G1 := Lib.hid (show ((w.alloc (.cells #[.int .i64 q.kind, .int .i64 q.p.kind, .int .i64 q.p.col, .int .i64 q.p.op, .int .i64 q.p.v.ty, .int .i64 q.p.v.n, .string q.p.v.s, .slice Ap q.p.l.length cp, .int .i64 q.col, .slice Ao q.out.length co] 31)).alloc (.cells #[.slice none 0 0, .int .i64 0, .bool false, .int .i64 0, .int .i64 0, .string ⟨#[]⟩] 37)).heap[w.heap.size + 1]? = some (.cells #[.slice none 0 0, .int .i64 0, .bool false, .int .i64 0, .int .i64 0, .string ⟨#[]⟩] 37) from heap_new48 (by simp))
  have HB := Lib.hid hup
  clear hm0 hp hx hn hup
  go_enter Tryz.func7, Tryz.ntmps7
  go_wp2_with fail
  refine hM.out.mono ?_
  clear hM
  rintro e wm ⟨vm, rfl, hm, hbm⟩
  obtain ⟨Am, cm, rfl, -, -⟩ := hm.rdR.form
  have zm : w.heap.size + 2 ≤ wm.heap.size := by have h := hbm.size; simp only [World.size_alloc] at h; omega
  replace GQ := Lib.hid ((hbm.block _ (by simp <;> omega)).trans GQ.out)
  replace G1 := Lib.hid ((hbm.block _ (by simp <;> omega)).trans G1.out)
  replace HB := Lib.hid (HB.out.trans (hbm.mono HB.out.size))
  have HM0 := Lib.hid hm.rdR
  clear hbm hm
  have q8 := cell_of_row wm _ 8 _ _ _ GQ.out
  simp only [List.getElem?_toArray, List.getElem?_cons_zero, List.getElem?_cons_succ] at q8
  have hC := impl_Column m (.slice Am m.length cm) q.col wm HM0.out (Nat.le_refl _) hml
  have hkl := column_len m q.col
  obtain ⟨vs, hvs⟩ : ∃ vs, column m q.col = vs := ⟨_, rfl⟩
  rw [hvs] at hC hkl
  have HV := Lib.hid hvs
  clear hvs
  replace hC := Lib.hid hC
  go_wp2_with fail
  refine hC.out.mono ?_
  clear hC q8
  rintro e wj ⟨vk, rfl, hk, hbk⟩
  obtain ⟨Ak, ck, rfl, -, -, -⟩ := hk.cells
  go_upto_region 4 with fail
  have hbk' : Below wm.heap.size wm (wj.alloc (.cells #[.slice none 0 0, .int .i64 0, .bool false, .int .i64 0, .int .i64 0, .string ⟨#[]⟩] 37)) := hbk.alloc hbk.size _
  have GR := Lib.hid (heap_alloc_new wj (.cells #[.slice none 0 0, .int .i64 0, .bool false, .int .i64 0, .int .i64 0, .string ⟨#[]⟩] 37))
  have zj := hbk.size
  have zk : wj.heap.size < (wj.alloc (.cells #[.slice none 0 0, .int .i64 0, .bool false, .int .i64 0, .int .i64 0, .string ⟨#[]⟩] 37)).heap.size := by simp
  replace GQ := Lib.hid ((hbk'.block _ (by omega)).trans GQ.out)
  replace G1 := Lib.hid ((hbk'.block _ (by omega)).trans G1.out)
  replace HB := Lib.hid (HB.out.trans (hbk'.mono (by omega)))
  replace HM0 := Lib.hid (HM0.out.below hbk' (Nat.le_refl _))
  have HKo := Lib.hid (hk.below (up_a1 wj (.cells #[.slice none 0 0, .int .i64 0, .bool false, .int .i64 0, .int .i64 0, .string ⟨#[]⟩] 37)) (Nat.le_refl _))
  clear hbk hbk' hk
  generalize (wj.alloc (.cells #[.slice none 0 0, .int .i64 0, .bool false, .int .i64 0, .int .i64 0, .string ⟨#[]⟩] 37)) = wk at *
  replace k3 := k3.out
  have q0 := cell_of_row wk _ 0 _ _ _ GQ.out
  simp only [List.getElem?_toArray, List.getElem?_cons_zero] at q0
  have d1 : (q.kind == 1) = false := by simp [k1]
  have d2 : (q.kind == 2) = false := by simp [k2]
  have d3 : (q.kind == 3) = true := by simp [k3]
  have HJ := Lib.hid (show answer q l = ⟨[], sumN vs, false, V.zero⟩ by unfold answer; rw [Hm0.out]; unfold answerOf; rw [HV.out]; simp [k3])
  go_wp2_with fail
  go_loopw [79] (fun i wr => ∃ (k : Nat), i = .int .i64 k ∧ k ≤ vs.length ∧ wr.heap[wj.heap.size]? = some (.cells #[.slice none 0 0, .int .i64 (sumN (vs.take k)), .bool false, .int .i64 0, .int .i64 0, .string ⟨#[]⟩] 37) ∧ Chg wj.heap.size (wj.heap.size + 1) wk wr) (fun i _ => vs.length - (intOf i).toNat)
  case atStart => exact ⟨0, rfl, by omega, GR.out, Chg.refl _ _ _⟩
  case round =>
    obtain ⟨k, rfl, hk, hc, hch⟩ := hrel
    have hzb := hch.size
    have hg : wj.heap.size < wr.heap.size := by omega
    have hb : Below wj.heap.size wk wr := hch.below (Nat.le_refl _) (by omega)
    have HBr := Lib.hid (HB.out.trans (hb.mono (by omega)))
    replace G1 := Lib.hid ((hb.block _ (by omega)).trans G1.out)
    have Hc := Lib.hid hc
    have Hch := Lib.hid hch
    clear hc hch q0
    by_cases hkl : k < vs.length
    · obtain ⟨b, off, y, rfl, hlb, hbh, hyk, e0, e1, e2⟩ := (HKo.out.same (Same.of_chg Hch.out (by omega) (by omega))).rdV.at hkl
      have Hy := Lib.hid (sum_step hyk)
      clear hyk
      have g1 := cell_of_row wr _ 1 _ _ _ Hc.out
      simp only [List.getElem?_toArray, List.getElem?_cons_zero, List.getElem?_cons_succ] at g1
      have hbl := hbh
      have g1' := g1
      have pf := fun o => frozen_of_row wr _ o _ _ Hc.out
      go_wp2_with fail
      have Hy2 : sumN (vs.take (k + 1)) = wrap64 (sumN (vs.take k) + y.n) := by rw [Hy.out, IntKind.wrap_i64]; unfold wrap64; rfl
      rw [← Hy2]
      have hc3n := set1 (o := 1) (a := .int .i64 (sumN (vs.take (k + 1)))) Hc.out
      simp only [List.setIfInBounds_toArray, List.set_cons_succ, List.set_cons_zero] at hc3n
      have HC3n := Lib.hid (alloc_old48 (o := (.cells #[.int .i64 y.ty, .int .i64 y.n, .string y.s] 25)) hc3n)
      have HcX := Lib.hid ((Hch.out.trans (chg_set wr (wj.heap.size) 1 (.int .i64 (sumN (vs.take (k + 1)))))).trans (Chg.of_below (up_a1 _ (.cells #[.int .i64 y.ty, .int .i64 y.n, .string y.s] 25))))
      clear hc3n
      go_roundw
      case rel => exact ⟨k + 1, by go_num, by omega, HC3n.out, HcX.out⟩
      case measure => simp [intOf]; omega
    · obtain rfl : k = vs.length := by omega
      replace HB := HBr
      rw [List.take_length] at Hc
      have j0 := cell_of_row wr _ 0 _ _ _ Hc.out
      have j1 := cell_of_row wr _ 1 _ _ _ Hc.out
      have j2 := cell_of_row wr _ 2 _ _ _ Hc.out
      have j3 := cell_of_row wr _ 3 _ _ _ Hc.out
      have j4 := cell_of_row wr _ 4 _ _ _ Hc.out
      have j5 := cell_of_row wr _ 5 _ _ _ Hc.out
      simp only [List.getElem?_toArray, List.getElem?_cons_zero, List.getElem?_cons_succ] at j0 j1 j2 j3 j4 j5
      have p0 := cell_of_row wr _ 0 _ _ _ G1.out
      have p1 := cell_of_row wr _ 1 _ _ _ G1.out
      have p2 := cell_of_row wr _ 2 _ _ _ G1.out
      have p3 := cell_of_row wr _ 3 _ _ _ G1.out
      have p4 := cell_of_row wr _ 4 _ _ _ G1.out
      have p5 := cell_of_row wr _ 5 _ _ _ G1.out
      simp only [List.getElem?_toArray, List.getElem?_cons_zero, List.getElem?_cons_succ] at p0 p1 p2 p3 p4 p5
      have fr := fun o => frozen_of_row wr _ o _ _ G1.out
      have fj := fun o => frozen_of_row wr _ o _ _ Hc.out
      go_wp2_with fail
      have G6 := set_six (v0 := .slice none 0 0) (v1 := .int .i64 (sumN vs)) (v2 := .bool false) (v3 := .int .i64 0) (v4 := .int .i64 0) (v5 := .string ⟨#[]⟩) G1.out
      have kp : ∀ g, g ≠ w.heap.size + 1 → ((((((wr.setCell ⟨w.heap.size + 1, 0, none⟩ (.slice none 0 0)).setCell ⟨w.heap.size + 1, 1, none⟩ (.int .i64 (sumN vs))).setCell ⟨w.heap.size + 1, 2, none⟩ (.bool false)).setCell ⟨w.heap.size + 1, 3, none⟩ (.int .i64 0)).setCell ⟨w.heap.size + 1, 4, none⟩ (.int .i64 0)).setCell ⟨w.heap.size + 1, 5, none⟩ (.string ⟨#[]⟩)).heap[g]? = wr.heap[g]? := fun g hg => by
        iterate 5 refine (Below.heap_setCell _ _ _ g hg).trans ?_
        exact Below.heap_setCell _ _ _ g hg
      have RF : OwnRp 51 25 ((((((wr.setCell ⟨w.heap.size + 1, 0, none⟩ (.slice none 0 0)).setCell ⟨w.heap.size + 1, 1, none⟩ (.int .i64 (sumN vs))).setCell ⟨w.heap.size + 1, 2, none⟩ (.bool false)).setCell ⟨w.heap.size + 1, 3, none⟩ (.int .i64 0)).setCell ⟨w.heap.size + 1, 4, none⟩ (.int .i64 0)).setCell ⟨w.heap.size + 1, 5, none⟩ (.string ⟨#[]⟩)) w.heap.size ((((((wr.setCell ⟨w.heap.size + 1, 0, none⟩ (.slice none 0 0)).setCell ⟨w.heap.size + 1, 1, none⟩ (.int .i64 (sumN vs))).setCell ⟨w.heap.size + 1, 2, none⟩ (.bool false)).setCell ⟨w.heap.size + 1, 3, none⟩ (.int .i64 0)).setCell ⟨w.heap.size + 1, 4, none⟩ (.int .i64 0)).setCell ⟨w.heap.size + 1, 5, none⟩ (.string ⟨#[]⟩)).heap.size (.slice none 0 0) _ := ownRp_none _ _ _ _ _
      have BF : Below w.heap.size w ((((((wr.setCell ⟨w.heap.size + 1, 0, none⟩ (.slice none 0 0)).setCell ⟨w.heap.size + 1, 1, none⟩ (.int .i64 (sumN vs))).setCell ⟨w.heap.size + 1, 2, none⟩ (.bool false)).setCell ⟨w.heap.size + 1, 3, none⟩ (.int .i64 0)).setCell ⟨w.heap.size + 1, 4, none⟩ (.int .i64 0)).setCell ⟨w.heap.size + 1, 5, none⟩ (.string ⟨#[]⟩)) := by
        iterate 6 refine below_set48 ?_ (by omega)
        exact HB.out
      generalize hXF : ((((((wr.setCell ⟨w.heap.size + 1, 0, none⟩ (.slice none 0 0)).setCell ⟨w.heap.size + 1, 1, none⟩ (.int .i64 (sumN vs))).setCell ⟨w.heap.size + 1, 2, none⟩ (.bool false)).setCell ⟨w.heap.size + 1, 3, none⟩ (.int .i64 0)).setCell ⟨w.heap.size + 1, 4, none⟩ (.int .i64 0)).setCell ⟨w.heap.size + 1, 5, none⟩ (.string ⟨#[]⟩)) = XF at *
      clear hXF kp
      clear j0 j1 j2 j3 j4 j5 p0 p1 p2 p3 p4 p5 fr fj
      have r0 := cell_of_row XF _ 0 _ _ _ G6
      have r1 := cell_of_row XF _ 1 _ _ _ G6
      have r2 := cell_of_row XF _ 2 _ _ _ G6
      have r3 := cell_of_row XF _ 3 _ _ _ G6
      have r4 := cell_of_row XF _ 4 _ _ _ G6
      have r5 := cell_of_row XF _ 5 _ _ _ G6
      simp only [List.getElem?_toArray, List.getElem?_cons_zero, List.getElem?_cons_succ] at r0 r1 r2 r3 r4 r5
      refine bodyPost_ret (v := .agg #[.slice none 0 0, .int .i64 (sumN vs), .bool false, .int .i64 0, .int .i64 0, .string ⟨#[]⟩]) ?_ rfl ⟨.slice none 0 0, (by first | (rw [HJ.out]; done) | (rw [HJ.out]; rfl)), ?_, BF⟩
      · simp [results, Tryz.results7, go_sem, r0, r1, r2, r3, r4, r5]
      · rw [HJ.out]
        exact ⟨_, (show ([] : List (R × Value)).map Prod.fst = [] from rfl), RF⟩
end Go.Proofs.YtidmlfjolhnnfaaGreatDoor
namespace Go.Proofs.YtidmlfjolhnnfaaGreatDoor
open Go.Sort Go.ChangeShapes Go.WideShapes Go.ChangeAt Go.RowKit Go.Lb
set_option maxRecDepth 20000 in
set_option maxHeartbeats 4000000 in
theorem impl_Answer4 (q : Q) (sv ov : Value) (l : List R) (x : Value) (w : World) {l1 h1 l2 h2 lo hi : Nat} (hp : RdP w l1 h1 sv q.p.l) (hh1 : h1 ≤ w.heap.size) (ho : RdI w l2 h2 ov q.out) (hh2 : h2 ≤ w.heap.size) (hx : RdR w lo hi x l) (hhi : hi ≤ w.heap.size) (hn : l.length ≤ 1048576 ∧ lensR l ≤ 1048576) (_hno : q.out.length ≤ 1048576) (k1 : q.kind ≠ 1) (k2 : q.kind ≠ 2) (k3 : q.kind ≠ 3) (k4 : q.kind = 4) :
    Calls Tryz.prog 7 #[.agg #[.int .i64 q.kind, .int .i64 q.p.kind, .int .i64 q.p.col, .int .i64 q.p.op, .int .i64 q.p.v.ty, .int .i64 q.p.v.n, .string q.p.v.s, sv, .int .i64 q.col, ov], x] w fun e w' => ∃ v, e = .returned (.agg #[v, .int .i64 (answer q l).n, .bool (answer q l).has, .int .i64 (answer q l).v.ty, .int .i64 (answer q l).v.n, .string (answer q l).v.s]) ∧ OwnR 51 25 w' w.heap.size w'.heap.size v (answer q l).rows ∧ Below w.heap.size w w' := by
  obtain ⟨Ap, cp, rfl, -, -⟩ := hp.form
  obtain ⟨Ao, co, rfl, -, -⟩ := ho.form
  obtain ⟨A, c, rfl, -, -⟩ := hx.form
  replace k4 := Lib.hid k4
  obtain ⟨i0, hif, hz0, hz1, hz2⟩ := info_parts info_Row
  replace hif := Lib.hid hif
  replace hz0 := Lib.hid hz0
  replace hz1 := Lib.hid hz1
  replace hz2 := Lib.hid hz2
  obtain ⟨i1, hif1, hy0, hy1, hy2⟩ := info_parts info_val
  replace hif1 := Lib.hid hif1
  replace hy0 := Lib.hid hy0
  replace hy1 := Lib.hid hy1
  replace hy2 := Lib.hid hy2
  have hup := up_a2 w (.cells #[.int .i64 q.kind, .int .i64 q.p.kind, .int .i64 q.p.col, .int .i64 q.p.op, .int .i64 q.p.v.ty, .int .i64 q.p.v.n, .string q.p.v.s, .slice Ap q.p.l.length cp, .int .i64 q.col, .slice Ao q.out.length co] 31) (.cells #[.slice none 0 0, .int .i64 0, .bool false, .int .i64 0, .int .i64 0, .string ⟨#[]⟩] 37)
  have hM := impl_Meant q (.slice Ap q.p.l.length cp) (.slice Ao q.out.length co) l (.slice A l.length c) ((w.alloc (.cells #[.int .i64 q.kind, .int .i64 q.p.kind, .int .i64 q.p.col, .int .i64 q.p.op, .int .i64 q.p.v.ty, .int .i64 q.p.v.n, .string q.p.v.s, .slice Ap q.p.l.length cp, .int .i64 q.col, .slice Ao q.out.length co] 31)).alloc (.cells #[.slice none 0 0, .int .i64 0, .bool false, .int .i64 0, .int .i64 0, .string ⟨#[]⟩] 37)) (hp.below hup hh1) (by simp; omega) (ho.below hup hh2) (by simp; omega) (hx.below hup hhi) (by simp; omega) hn
  have hml := meant_len q l
  have hms := meant_lens q l
  obtain ⟨m, hm0⟩ : ∃ m, meant q l = m := ⟨_, rfl⟩
  rw [hm0] at hM hml hms
  replace hml : m.length ≤ 1048576 := Nat.le_trans hml hn.1
  replace hms := Lib.hid (Nat.le_trans hms hn.2)
  have Hm0 := Lib.hid hm0
  replace hM := Lib.hid hM
  have GQ := Lib.hid (show ((w.alloc (.cells #[.int .i64 q.kind, .int .i64 q.p.kind, .int .i64 q.p.col, .int .i64 q.p.op, .int .i64 q.p.v.ty, .int .i64 q.p.v.n, .string q.p.v.s, .slice Ap q.p.l.length cp, .int .i64 q.col, .slice Ao q.out.length co] 31)).alloc (.cells #[.slice none 0 0, .int .i64 0, .bool false, .int .i64 0, .int .i64 0, .string ⟨#[]⟩] 37)).heap[w.heap.size]? = some (.cells #[.int .i64 q.kind, .int .i64 q.p.kind, .int .i64 q.p.col, .int .i64 q.p.op, .int .i64 q.p.v.ty, .int .i64 q.p.v.n, .string q.p.v.s, .slice Ap q.p.l.length cp, .int .i64 q.col, .slice Ao q.out.length co] 31) from alloc_old48 (heap_alloc_new w _))
  have G1 := Lib.hid (show ((w.alloc (.cells #[.int .i64 q.kind, .int .i64 q.p.kind, .int .i64 q.p.col, .int .i64 q.p.op, .int .i64 q.p.v.ty, .int .i64 q.p.v.n, .string q.p.v.s, .slice Ap q.p.l.length cp, .int .i64 q.col, .slice Ao q.out.length co] 31)).alloc (.cells #[.slice none 0 0, .int .i64 0, .bool false, .int .i64 0, .int .i64 0, .string ⟨#[]⟩] 37)).heap[w.heap.size + 1]? = some (.cells #[.slice none 0 0, .int .i64 0, .bool false, .int .i64 0, .int .i64 0, .string ⟨#[]⟩] 37) from heap_new48 (by simp))
  have HB := Lib.hid hup
  clear hm0 hp hx hn hup
  go_enter Tryz.func7, Tryz.ntmps7
  go_wp2_with fail
  refine hM.out.mono ?_
  clear hM
  rintro e wm ⟨vm, rfl, hm, hbm⟩
  obtain ⟨Am, cm, rfl, -, -⟩ := hm.rdR.form
  have zm : w.heap.size + 2 ≤ wm.heap.size := by have h := hbm.size; simp only [World.size_alloc] at h; omega
  replace GQ := Lib.hid ((hbm.block _ (by simp <;> omega)).trans GQ.out)
  replace G1 := Lib.hid ((hbm.block _ (by simp <;> omega)).trans G1.out)
  replace HB := Lib.hid (HB.out.trans (hbm.mono HB.out.size))
  have HM0 := Lib.hid hm.rdR
  clear hbm hm
  have q8 := cell_of_row wm _ 8 _ _ _ GQ.out
  simp only [List.getElem?_toArray, List.getElem?_cons_zero, List.getElem?_cons_succ] at q8
  have hC := impl_Column m (.slice Am m.length cm) q.col wm HM0.out (Nat.le_refl _) hml
  have hkl := column_len m q.col
  obtain ⟨vs, hvs⟩ : ∃ vs, column m q.col = vs := ⟨_, rfl⟩
  rw [hvs] at hC hkl
  have HV := Lib.hid hvs
  clear hvs
  replace hC := Lib.hid hC
  go_wp2_with fail
  refine hC.out.mono ?_
  clear hC q8
  rintro e wj ⟨vk, rfl, hk, hbk⟩
  obtain ⟨Ak, ck, rfl, -, -, -⟩ := hk.cells
  go_upto_region 4 with fail
  have hbk' : Below wm.heap.size wm (wj.alloc (.cells #[.slice none 0 0, .int .i64 0, .bool false, .int .i64 0, .int .i64 0, .string ⟨#[]⟩] 37)) := hbk.alloc hbk.size _
  have GR := Lib.hid (heap_alloc_new wj (.cells #[.slice none 0 0, .int .i64 0, .bool false, .int .i64 0, .int .i64 0, .string ⟨#[]⟩] 37))
  have zj := hbk.size
  have zk : wj.heap.size < (wj.alloc (.cells #[.slice none 0 0, .int .i64 0, .bool false, .int .i64 0, .int .i64 0, .string ⟨#[]⟩] 37)).heap.size := by simp
  replace GQ := Lib.hid ((hbk'.block _ (by omega)).trans GQ.out)
  replace G1 := Lib.hid ((hbk'.block _ (by omega)).trans G1.out)
  replace HB := Lib.hid (HB.out.trans (hbk'.mono (by omega)))
  replace HM0 := Lib.hid (HM0.out.below hbk' (Nat.le_refl _))
  have HKo := Lib.hid (hk.below (up_a1 wj (.cells #[.slice none 0 0, .int .i64 0, .bool false, .int .i64 0, .int .i64 0, .string ⟨#[]⟩] 37)) (Nat.le_refl _))
  clear hbk hbk' hk
  generalize (wj.alloc (.cells #[.slice none 0 0, .int .i64 0, .bool false, .int .i64 0, .int .i64 0, .string ⟨#[]⟩] 37)) = wk at *
  replace k4 := k4.out
  have q0 := cell_of_row wk _ 0 _ _ _ GQ.out
  simp only [List.getElem?_toArray, List.getElem?_cons_zero] at q0
  obtain ⟨zo, hzo⟩ : ∃ zo, zoneOf vs = zo := ⟨_, rfl⟩
  have d1 : (q.kind == 1) = false := by simp [k1]
  have d2 : (q.kind == 2) = false := by simp [k2]
  have d3 : (q.kind == 3) = false := by simp [k3]
  have d4 : (q.kind == 4) = true := by simp [k4]
  have HJ := Lib.hid (show answer q l = ⟨[], 0, decide (0 < vs.length), zo.lo⟩ by unfold answer; rw [Hm0.out]; unfold answerOf; rw [HV.out, hzo]; simp [k4])
  go_wp2_with fail
  have HK2 := Lib.hid HKo.out.rdV
  have Hsz := Lib.hid (show wk.heap.size = wk.heap.size from rfl)
  clear q0
  have hT := Lib.hid (impl_ZoneOf vs (.slice Ak vs.length ck) wk HK2.out (by have h := Hsz.out; omega))
  rw [hzo] at hT
  clear hzo
  refine hT.out.mono ?_
  clear hT
  rintro e wz ⟨rfl, hz⟩
  rw [Hsz.out] at hz
  replace GQ := Lib.hid ((hz.block _ (by omega)).trans GQ.out)
  replace G1 := Lib.hid ((hz.block _ (by omega)).trans G1.out)
  replace GR := Lib.hid ((hz.block _ (by omega)).trans GR.out)
  replace HB := Lib.hid (HB.out.trans (hz.mono (by omega)))
  have hzz := hz.size
  rw [Hsz.out] at hzz
  clear hz
  have q0 := cell_of_row wz _ 0 _ _ _ GQ.out
  simp only [List.getElem?_toArray, List.getElem?_cons_zero] at q0
  have hfd : ∀ W : World, (Instr.field 53 (.agg #[.int .i64 zo.lo.ty, .int .i64 zo.lo.n, .string zo.lo.s, .int .i64 zo.hi.ty, .int .i64 zo.hi.n, .string zo.hi.s]) 0).run Tryz.prog W = .ok (.agg #[.int .i64 zo.lo.ty, .int .i64 zo.lo.n, .string zo.lo.s]) W := fun _ => by kernel_rfl
  have j0 := cell_of_row wz _ 0 _ _ _ GR.out
  have j1 := cell_of_row wz _ 1 _ _ _ GR.out
  have j2 := cell_of_row wz _ 2 _ _ _ GR.out
  have j3 := cell_of_row wz _ 3 _ _ _ GR.out
  have j4 := cell_of_row wz _ 4 _ _ _ GR.out
  have j5 := cell_of_row wz _ 5 _ _ _ GR.out
  simp only [List.getElem?_toArray, List.getElem?_cons_zero, List.getElem?_cons_succ] at j0 j1 j2 j3 j4 j5
  have p0 := cell_of_row wz _ 0 _ _ _ G1.out
  have p1 := cell_of_row wz _ 1 _ _ _ G1.out
  have p2 := cell_of_row wz _ 2 _ _ _ G1.out
  have p3 := cell_of_row wz _ 3 _ _ _ G1.out
  have p4 := cell_of_row wz _ 4 _ _ _ G1.out
  have p5 := cell_of_row wz _ 5 _ _ _ G1.out
  simp only [List.getElem?_toArray, List.getElem?_cons_zero, List.getElem?_cons_succ] at p0 p1 p2 p3 p4 p5
  have fr := fun o => frozen_of_row wz _ o _ _ G1.out
  have fj := fun o => frozen_of_row wz _ o _ _ GR.out
  go_wp2_with fail
  clear hfd
  have G1s := Lib.hid (show ((((wz.setCell ⟨wj.heap.size, 2, none⟩ (.bool (decide (0 < vs.length)))).setCell ⟨wj.heap.size, 3, none⟩ (.int .i64 zo.lo.ty)).setCell ⟨wj.heap.size, 4, none⟩ (.int .i64 zo.lo.n)).setCell ⟨wj.heap.size, 5, none⟩ (.string zo.lo.s)).heap[w.heap.size + 1]? = _ from (set_keep48 (by omega)).trans ((set_keep48 (by omega)).trans ((set_keep48 (by omega)).trans ((set_keep48 (by omega)).trans (G1.out)))))
  have HBs : Below w.heap.size w ((((wz.setCell ⟨wj.heap.size, 2, none⟩ (.bool (decide (0 < vs.length)))).setCell ⟨wj.heap.size, 3, none⟩ (.int .i64 zo.lo.ty)).setCell ⟨wj.heap.size, 4, none⟩ (.int .i64 zo.lo.n)).setCell ⟨wj.heap.size, 5, none⟩ (.string zo.lo.s)) := by
    iterate 4 refine below_set48 ?_ (by omega)
    exact HB.out
  have hsz : w.heap.size + 2 ≤ ((((wz.setCell ⟨wj.heap.size, 2, none⟩ (.bool (decide (0 < vs.length)))).setCell ⟨wj.heap.size, 3, none⟩ (.int .i64 zo.lo.ty)).setCell ⟨wj.heap.size, 4, none⟩ (.int .i64 zo.lo.n)).setCell ⟨wj.heap.size, 5, none⟩ (.string zo.lo.s)).heap.size := by simp [World.setCell]; omega
  generalize hXs : ((((wz.setCell ⟨wj.heap.size, 2, none⟩ (.bool (decide (0 < vs.length)))).setCell ⟨wj.heap.size, 3, none⟩ (.int .i64 zo.lo.ty)).setCell ⟨wj.heap.size, 4, none⟩ (.int .i64 zo.lo.n)).setCell ⟨wj.heap.size, 5, none⟩ (.string zo.lo.s)) = Xs at *
  clear hXs fj
  replace G1 := G1s
  replace HB := Lib.hid HBs
  clear G1s HBs
  have G6 := set_six (v0 := .slice none 0 0) (v1 := .int .i64 0) (v2 := .bool (decide (0 < vs.length))) (v3 := .int .i64 zo.lo.ty) (v4 := .int .i64 zo.lo.n) (v5 := .string zo.lo.s) G1.out
  have kp : ∀ g, g ≠ w.heap.size + 1 → ((((((Xs.setCell ⟨w.heap.size + 1, 0, none⟩ (.slice none 0 0)).setCell ⟨w.heap.size + 1, 1, none⟩ (.int .i64 0)).setCell ⟨w.heap.size + 1, 2, none⟩ (.bool (decide (0 < vs.length)))).setCell ⟨w.heap.size + 1, 3, none⟩ (.int .i64 zo.lo.ty)).setCell ⟨w.heap.size + 1, 4, none⟩ (.int .i64 zo.lo.n)).setCell ⟨w.heap.size + 1, 5, none⟩ (.string zo.lo.s)).heap[g]? = Xs.heap[g]? := fun g hg => by
    iterate 5 refine (Below.heap_setCell _ _ _ g hg).trans ?_
    exact Below.heap_setCell _ _ _ g hg
  have RF : OwnRp 51 25 ((((((Xs.setCell ⟨w.heap.size + 1, 0, none⟩ (.slice none 0 0)).setCell ⟨w.heap.size + 1, 1, none⟩ (.int .i64 0)).setCell ⟨w.heap.size + 1, 2, none⟩ (.bool (decide (0 < vs.length)))).setCell ⟨w.heap.size + 1, 3, none⟩ (.int .i64 zo.lo.ty)).setCell ⟨w.heap.size + 1, 4, none⟩ (.int .i64 zo.lo.n)).setCell ⟨w.heap.size + 1, 5, none⟩ (.string zo.lo.s)) w.heap.size ((((((Xs.setCell ⟨w.heap.size + 1, 0, none⟩ (.slice none 0 0)).setCell ⟨w.heap.size + 1, 1, none⟩ (.int .i64 0)).setCell ⟨w.heap.size + 1, 2, none⟩ (.bool (decide (0 < vs.length)))).setCell ⟨w.heap.size + 1, 3, none⟩ (.int .i64 zo.lo.ty)).setCell ⟨w.heap.size + 1, 4, none⟩ (.int .i64 zo.lo.n)).setCell ⟨w.heap.size + 1, 5, none⟩ (.string zo.lo.s)).heap.size (.slice none 0 0) _ := ownRp_none _ _ _ _ _
  have BF : Below w.heap.size w ((((((Xs.setCell ⟨w.heap.size + 1, 0, none⟩ (.slice none 0 0)).setCell ⟨w.heap.size + 1, 1, none⟩ (.int .i64 0)).setCell ⟨w.heap.size + 1, 2, none⟩ (.bool (decide (0 < vs.length)))).setCell ⟨w.heap.size + 1, 3, none⟩ (.int .i64 zo.lo.ty)).setCell ⟨w.heap.size + 1, 4, none⟩ (.int .i64 zo.lo.n)).setCell ⟨w.heap.size + 1, 5, none⟩ (.string zo.lo.s)) := by
    iterate 6 refine below_set48 ?_ (by omega)
    exact HB.out
  generalize hXF : ((((((Xs.setCell ⟨w.heap.size + 1, 0, none⟩ (.slice none 0 0)).setCell ⟨w.heap.size + 1, 1, none⟩ (.int .i64 0)).setCell ⟨w.heap.size + 1, 2, none⟩ (.bool (decide (0 < vs.length)))).setCell ⟨w.heap.size + 1, 3, none⟩ (.int .i64 zo.lo.ty)).setCell ⟨w.heap.size + 1, 4, none⟩ (.int .i64 zo.lo.n)).setCell ⟨w.heap.size + 1, 5, none⟩ (.string zo.lo.s)) = XF at *
  clear hXF kp
  clear j0 j1 j2 j3 j4 j5 p0 p1 p2 p3 p4 p5 fr
  have r0 := cell_of_row XF _ 0 _ _ _ G6
  have r1 := cell_of_row XF _ 1 _ _ _ G6
  have r2 := cell_of_row XF _ 2 _ _ _ G6
  have r3 := cell_of_row XF _ 3 _ _ _ G6
  have r4 := cell_of_row XF _ 4 _ _ _ G6
  have r5 := cell_of_row XF _ 5 _ _ _ G6
  simp only [List.getElem?_toArray, List.getElem?_cons_zero, List.getElem?_cons_succ] at r0 r1 r2 r3 r4 r5
  refine bodyPost_ret (v := .agg #[.slice none 0 0, .int .i64 0, .bool (decide (0 < vs.length)), .int .i64 zo.lo.ty, .int .i64 zo.lo.n, .string zo.lo.s]) ?_ rfl ⟨.slice none 0 0, (by first | (rw [HJ.out]; done) | (rw [HJ.out]; rfl)), ?_, BF⟩
  · simp [results, Tryz.results7, go_sem, r0, r1, r2, r3, r4, r5]
  · rw [HJ.out]
    exact ⟨_, (show ([] : List (R × Value)).map Prod.fst = [] from rfl), RF⟩
end Go.Proofs.YtidmlfjolhnnfaaGreatDoor
namespace Go.Proofs.YtidmlfjolhnnfaaGreatDoor
open Go.Sort Go.ChangeShapes Go.WideShapes Go.ChangeAt Go.RowKit Go.Lb
set_option maxRecDepth 20000 in
set_option maxHeartbeats 4000000 in
theorem impl_Answer5 (q : Q) (sv ov : Value) (l : List R) (x : Value) (w : World) {l1 h1 l2 h2 lo hi : Nat} (hp : RdP w l1 h1 sv q.p.l) (hh1 : h1 ≤ w.heap.size) (ho : RdI w l2 h2 ov q.out) (hh2 : h2 ≤ w.heap.size) (hx : RdR w lo hi x l) (hhi : hi ≤ w.heap.size) (hn : l.length ≤ 1048576 ∧ lensR l ≤ 1048576) (_hno : q.out.length ≤ 1048576) (k1 : q.kind ≠ 1) (k2 : q.kind ≠ 2) (k3 : q.kind ≠ 3) (k4 : q.kind ≠ 4) (k5 : q.kind = 5) :
    Calls Tryz.prog 7 #[.agg #[.int .i64 q.kind, .int .i64 q.p.kind, .int .i64 q.p.col, .int .i64 q.p.op, .int .i64 q.p.v.ty, .int .i64 q.p.v.n, .string q.p.v.s, sv, .int .i64 q.col, ov], x] w fun e w' => ∃ v, e = .returned (.agg #[v, .int .i64 (answer q l).n, .bool (answer q l).has, .int .i64 (answer q l).v.ty, .int .i64 (answer q l).v.n, .string (answer q l).v.s]) ∧ OwnR 51 25 w' w.heap.size w'.heap.size v (answer q l).rows ∧ Below w.heap.size w w' := by
  obtain ⟨Ap, cp, rfl, -, -⟩ := hp.form
  obtain ⟨Ao, co, rfl, -, -⟩ := ho.form
  obtain ⟨A, c, rfl, -, -⟩ := hx.form
  replace k5 := Lib.hid k5
  obtain ⟨i0, hif, hz0, hz1, hz2⟩ := info_parts info_Row
  replace hif := Lib.hid hif
  replace hz0 := Lib.hid hz0
  replace hz1 := Lib.hid hz1
  replace hz2 := Lib.hid hz2
  obtain ⟨i1, hif1, hy0, hy1, hy2⟩ := info_parts info_val
  replace hif1 := Lib.hid hif1
  replace hy0 := Lib.hid hy0
  replace hy1 := Lib.hid hy1
  replace hy2 := Lib.hid hy2
  have hup := up_a2 w (.cells #[.int .i64 q.kind, .int .i64 q.p.kind, .int .i64 q.p.col, .int .i64 q.p.op, .int .i64 q.p.v.ty, .int .i64 q.p.v.n, .string q.p.v.s, .slice Ap q.p.l.length cp, .int .i64 q.col, .slice Ao q.out.length co] 31) (.cells #[.slice none 0 0, .int .i64 0, .bool false, .int .i64 0, .int .i64 0, .string ⟨#[]⟩] 37)
  have hM := impl_Meant q (.slice Ap q.p.l.length cp) (.slice Ao q.out.length co) l (.slice A l.length c) ((w.alloc (.cells #[.int .i64 q.kind, .int .i64 q.p.kind, .int .i64 q.p.col, .int .i64 q.p.op, .int .i64 q.p.v.ty, .int .i64 q.p.v.n, .string q.p.v.s, .slice Ap q.p.l.length cp, .int .i64 q.col, .slice Ao q.out.length co] 31)).alloc (.cells #[.slice none 0 0, .int .i64 0, .bool false, .int .i64 0, .int .i64 0, .string ⟨#[]⟩] 37)) (hp.below hup hh1) (by simp; omega) (ho.below hup hh2) (by simp; omega) (hx.below hup hhi) (by simp; omega) hn
  have hml := meant_len q l
  have hms := meant_lens q l
  obtain ⟨m, hm0⟩ : ∃ m, meant q l = m := ⟨_, rfl⟩
  rw [hm0] at hM hml hms
  replace hml : m.length ≤ 1048576 := Nat.le_trans hml hn.1
  replace hms := Lib.hid (Nat.le_trans hms hn.2)
  have Hm0 := Lib.hid hm0
  replace hM := Lib.hid hM
  have GQ := Lib.hid (show ((w.alloc (.cells #[.int .i64 q.kind, .int .i64 q.p.kind, .int .i64 q.p.col, .int .i64 q.p.op, .int .i64 q.p.v.ty, .int .i64 q.p.v.n, .string q.p.v.s, .slice Ap q.p.l.length cp, .int .i64 q.col, .slice Ao q.out.length co] 31)).alloc (.cells #[.slice none 0 0, .int .i64 0, .bool false, .int .i64 0, .int .i64 0, .string ⟨#[]⟩] 37)).heap[w.heap.size]? = some (.cells #[.int .i64 q.kind, .int .i64 q.p.kind, .int .i64 q.p.col, .int .i64 q.p.op, .int .i64 q.p.v.ty, .int .i64 q.p.v.n, .string q.p.v.s, .slice Ap q.p.l.length cp, .int .i64 q.col, .slice Ao q.out.length co] 31) from alloc_old48 (heap_alloc_new w _))
  have G1 := Lib.hid (show ((w.alloc (.cells #[.int .i64 q.kind, .int .i64 q.p.kind, .int .i64 q.p.col, .int .i64 q.p.op, .int .i64 q.p.v.ty, .int .i64 q.p.v.n, .string q.p.v.s, .slice Ap q.p.l.length cp, .int .i64 q.col, .slice Ao q.out.length co] 31)).alloc (.cells #[.slice none 0 0, .int .i64 0, .bool false, .int .i64 0, .int .i64 0, .string ⟨#[]⟩] 37)).heap[w.heap.size + 1]? = some (.cells #[.slice none 0 0, .int .i64 0, .bool false, .int .i64 0, .int .i64 0, .string ⟨#[]⟩] 37) from heap_new48 (by simp))
  have HB := Lib.hid hup
  clear hm0 hp hx hn hup
  go_enter Tryz.func7, Tryz.ntmps7
  go_wp2_with fail
  refine hM.out.mono ?_
  clear hM
  rintro e wm ⟨vm, rfl, hm, hbm⟩
  obtain ⟨Am, cm, rfl, -, -⟩ := hm.rdR.form
  have zm : w.heap.size + 2 ≤ wm.heap.size := by have h := hbm.size; simp only [World.size_alloc] at h; omega
  replace GQ := Lib.hid ((hbm.block _ (by simp <;> omega)).trans GQ.out)
  replace G1 := Lib.hid ((hbm.block _ (by simp <;> omega)).trans G1.out)
  replace HB := Lib.hid (HB.out.trans (hbm.mono HB.out.size))
  have HM0 := Lib.hid hm.rdR
  clear hbm hm
  have q8 := cell_of_row wm _ 8 _ _ _ GQ.out
  simp only [List.getElem?_toArray, List.getElem?_cons_zero, List.getElem?_cons_succ] at q8
  have hC := impl_Column m (.slice Am m.length cm) q.col wm HM0.out (Nat.le_refl _) hml
  have hkl := column_len m q.col
  obtain ⟨vs, hvs⟩ : ∃ vs, column m q.col = vs := ⟨_, rfl⟩
  rw [hvs] at hC hkl
  have HV := Lib.hid hvs
  clear hvs
  replace hC := Lib.hid hC
  go_wp2_with fail
  refine hC.out.mono ?_
  clear hC q8
  rintro e wj ⟨vk, rfl, hk, hbk⟩
  obtain ⟨Ak, ck, rfl, -, -, -⟩ := hk.cells
  go_upto_region 4 with fail
  have hbk' : Below wm.heap.size wm (wj.alloc (.cells #[.slice none 0 0, .int .i64 0, .bool false, .int .i64 0, .int .i64 0, .string ⟨#[]⟩] 37)) := hbk.alloc hbk.size _
  have GR := Lib.hid (heap_alloc_new wj (.cells #[.slice none 0 0, .int .i64 0, .bool false, .int .i64 0, .int .i64 0, .string ⟨#[]⟩] 37))
  have zj := hbk.size
  have zk : wj.heap.size < (wj.alloc (.cells #[.slice none 0 0, .int .i64 0, .bool false, .int .i64 0, .int .i64 0, .string ⟨#[]⟩] 37)).heap.size := by simp
  replace GQ := Lib.hid ((hbk'.block _ (by omega)).trans GQ.out)
  replace G1 := Lib.hid ((hbk'.block _ (by omega)).trans G1.out)
  replace HB := Lib.hid (HB.out.trans (hbk'.mono (by omega)))
  replace HM0 := Lib.hid (HM0.out.below hbk' (Nat.le_refl _))
  have HKo := Lib.hid (hk.below (up_a1 wj (.cells #[.slice none 0 0, .int .i64 0, .bool false, .int .i64 0, .int .i64 0, .string ⟨#[]⟩] 37)) (Nat.le_refl _))
  clear hbk hbk' hk
  generalize (wj.alloc (.cells #[.slice none 0 0, .int .i64 0, .bool false, .int .i64 0, .int .i64 0, .string ⟨#[]⟩] 37)) = wk at *
  replace k5 := k5.out
  have q0 := cell_of_row wk _ 0 _ _ _ GQ.out
  simp only [List.getElem?_toArray, List.getElem?_cons_zero] at q0
  obtain ⟨zo, hzo⟩ : ∃ zo, zoneOf vs = zo := ⟨_, rfl⟩
  have d1 : (q.kind == 1) = false := by simp [k1]
  have d2 : (q.kind == 2) = false := by simp [k2]
  have d3 : (q.kind == 3) = false := by simp [k3]
  have d4 : (q.kind == 4) = false := by simp [k4]
  have d5 : (q.kind == 5) = true := by simp [k5]
  have HJ := Lib.hid (show answer q l = ⟨[], 0, decide (0 < vs.length), zo.hi⟩ by unfold answer; rw [Hm0.out]; unfold answerOf; rw [HV.out, hzo]; simp [k5])
  go_wp2_with fail
  have HK2 := Lib.hid HKo.out.rdV
  have Hsz := Lib.hid (show wk.heap.size = wk.heap.size from rfl)
  clear q0
  have hT := Lib.hid (impl_ZoneOf vs (.slice Ak vs.length ck) wk HK2.out (by have h := Hsz.out; omega))
  rw [hzo] at hT
  clear hzo
  refine hT.out.mono ?_
  clear hT
  rintro e wz ⟨rfl, hz⟩
  rw [Hsz.out] at hz
  replace GQ := Lib.hid ((hz.block _ (by omega)).trans GQ.out)
  replace G1 := Lib.hid ((hz.block _ (by omega)).trans G1.out)
  replace GR := Lib.hid ((hz.block _ (by omega)).trans GR.out)
  replace HB := Lib.hid (HB.out.trans (hz.mono (by omega)))
  have hzz := hz.size
  rw [Hsz.out] at hzz
  clear hz
  have q0 := cell_of_row wz _ 0 _ _ _ GQ.out
  simp only [List.getElem?_toArray, List.getElem?_cons_zero] at q0
  have hfd : ∀ W : World, (Instr.field 53 (.agg #[.int .i64 zo.lo.ty, .int .i64 zo.lo.n, .string zo.lo.s, .int .i64 zo.hi.ty, .int .i64 zo.hi.n, .string zo.hi.s]) 1).run Tryz.prog W = .ok (.agg #[.int .i64 zo.hi.ty, .int .i64 zo.hi.n, .string zo.hi.s]) W := fun _ => by kernel_rfl
  have j0 := cell_of_row wz _ 0 _ _ _ GR.out
  have j1 := cell_of_row wz _ 1 _ _ _ GR.out
  have j2 := cell_of_row wz _ 2 _ _ _ GR.out
  have j3 := cell_of_row wz _ 3 _ _ _ GR.out
  have j4 := cell_of_row wz _ 4 _ _ _ GR.out
  have j5 := cell_of_row wz _ 5 _ _ _ GR.out
  simp only [List.getElem?_toArray, List.getElem?_cons_zero, List.getElem?_cons_succ] at j0 j1 j2 j3 j4 j5
  have p0 := cell_of_row wz _ 0 _ _ _ G1.out
  have p1 := cell_of_row wz _ 1 _ _ _ G1.out
  have p2 := cell_of_row wz _ 2 _ _ _ G1.out
  have p3 := cell_of_row wz _ 3 _ _ _ G1.out
  have p4 := cell_of_row wz _ 4 _ _ _ G1.out
  have p5 := cell_of_row wz _ 5 _ _ _ G1.out
  simp only [List.getElem?_toArray, List.getElem?_cons_zero, List.getElem?_cons_succ] at p0 p1 p2 p3 p4 p5
  have fr := fun o => frozen_of_row wz _ o _ _ G1.out
  have fj := fun o => frozen_of_row wz _ o _ _ GR.out
  go_wp2_with fail
  clear hfd
  have G1s := Lib.hid (show ((((wz.setCell ⟨wj.heap.size, 2, none⟩ (.bool (decide (0 < vs.length)))).setCell ⟨wj.heap.size, 3, none⟩ (.int .i64 zo.hi.ty)).setCell ⟨wj.heap.size, 4, none⟩ (.int .i64 zo.hi.n)).setCell ⟨wj.heap.size, 5, none⟩ (.string zo.hi.s)).heap[w.heap.size + 1]? = _ from (set_keep48 (by omega)).trans ((set_keep48 (by omega)).trans ((set_keep48 (by omega)).trans ((set_keep48 (by omega)).trans (G1.out)))))
  have HBs : Below w.heap.size w ((((wz.setCell ⟨wj.heap.size, 2, none⟩ (.bool (decide (0 < vs.length)))).setCell ⟨wj.heap.size, 3, none⟩ (.int .i64 zo.hi.ty)).setCell ⟨wj.heap.size, 4, none⟩ (.int .i64 zo.hi.n)).setCell ⟨wj.heap.size, 5, none⟩ (.string zo.hi.s)) := by
    iterate 4 refine below_set48 ?_ (by omega)
    exact HB.out
  have hsz : w.heap.size + 2 ≤ ((((wz.setCell ⟨wj.heap.size, 2, none⟩ (.bool (decide (0 < vs.length)))).setCell ⟨wj.heap.size, 3, none⟩ (.int .i64 zo.hi.ty)).setCell ⟨wj.heap.size, 4, none⟩ (.int .i64 zo.hi.n)).setCell ⟨wj.heap.size, 5, none⟩ (.string zo.hi.s)).heap.size := by simp [World.setCell]; omega
  generalize hXs : ((((wz.setCell ⟨wj.heap.size, 2, none⟩ (.bool (decide (0 < vs.length)))).setCell ⟨wj.heap.size, 3, none⟩ (.int .i64 zo.hi.ty)).setCell ⟨wj.heap.size, 4, none⟩ (.int .i64 zo.hi.n)).setCell ⟨wj.heap.size, 5, none⟩ (.string zo.hi.s)) = Xs at *
  clear hXs fj
  replace G1 := G1s
  replace HB := Lib.hid HBs
  clear G1s HBs
  have G6 := set_six (v0 := .slice none 0 0) (v1 := .int .i64 0) (v2 := .bool (decide (0 < vs.length))) (v3 := .int .i64 zo.hi.ty) (v4 := .int .i64 zo.hi.n) (v5 := .string zo.hi.s) G1.out
  have kp : ∀ g, g ≠ w.heap.size + 1 → ((((((Xs.setCell ⟨w.heap.size + 1, 0, none⟩ (.slice none 0 0)).setCell ⟨w.heap.size + 1, 1, none⟩ (.int .i64 0)).setCell ⟨w.heap.size + 1, 2, none⟩ (.bool (decide (0 < vs.length)))).setCell ⟨w.heap.size + 1, 3, none⟩ (.int .i64 zo.hi.ty)).setCell ⟨w.heap.size + 1, 4, none⟩ (.int .i64 zo.hi.n)).setCell ⟨w.heap.size + 1, 5, none⟩ (.string zo.hi.s)).heap[g]? = Xs.heap[g]? := fun g hg => by
    iterate 5 refine (Below.heap_setCell _ _ _ g hg).trans ?_
    exact Below.heap_setCell _ _ _ g hg
  have RF : OwnRp 51 25 ((((((Xs.setCell ⟨w.heap.size + 1, 0, none⟩ (.slice none 0 0)).setCell ⟨w.heap.size + 1, 1, none⟩ (.int .i64 0)).setCell ⟨w.heap.size + 1, 2, none⟩ (.bool (decide (0 < vs.length)))).setCell ⟨w.heap.size + 1, 3, none⟩ (.int .i64 zo.hi.ty)).setCell ⟨w.heap.size + 1, 4, none⟩ (.int .i64 zo.hi.n)).setCell ⟨w.heap.size + 1, 5, none⟩ (.string zo.hi.s)) w.heap.size ((((((Xs.setCell ⟨w.heap.size + 1, 0, none⟩ (.slice none 0 0)).setCell ⟨w.heap.size + 1, 1, none⟩ (.int .i64 0)).setCell ⟨w.heap.size + 1, 2, none⟩ (.bool (decide (0 < vs.length)))).setCell ⟨w.heap.size + 1, 3, none⟩ (.int .i64 zo.hi.ty)).setCell ⟨w.heap.size + 1, 4, none⟩ (.int .i64 zo.hi.n)).setCell ⟨w.heap.size + 1, 5, none⟩ (.string zo.hi.s)).heap.size (.slice none 0 0) _ := ownRp_none _ _ _ _ _
  have BF : Below w.heap.size w ((((((Xs.setCell ⟨w.heap.size + 1, 0, none⟩ (.slice none 0 0)).setCell ⟨w.heap.size + 1, 1, none⟩ (.int .i64 0)).setCell ⟨w.heap.size + 1, 2, none⟩ (.bool (decide (0 < vs.length)))).setCell ⟨w.heap.size + 1, 3, none⟩ (.int .i64 zo.hi.ty)).setCell ⟨w.heap.size + 1, 4, none⟩ (.int .i64 zo.hi.n)).setCell ⟨w.heap.size + 1, 5, none⟩ (.string zo.hi.s)) := by
    iterate 6 refine below_set48 ?_ (by omega)
    exact HB.out
  generalize hXF : ((((((Xs.setCell ⟨w.heap.size + 1, 0, none⟩ (.slice none 0 0)).setCell ⟨w.heap.size + 1, 1, none⟩ (.int .i64 0)).setCell ⟨w.heap.size + 1, 2, none⟩ (.bool (decide (0 < vs.length)))).setCell ⟨w.heap.size + 1, 3, none⟩ (.int .i64 zo.hi.ty)).setCell ⟨w.heap.size + 1, 4, none⟩ (.int .i64 zo.hi.n)).setCell ⟨w.heap.size + 1, 5, none⟩ (.string zo.hi.s)) = XF at *
  clear hXF kp
  clear j0 j1 j2 j3 j4 j5 p0 p1 p2 p3 p4 p5 fr
  have r0 := cell_of_row XF _ 0 _ _ _ G6
  have r1 := cell_of_row XF _ 1 _ _ _ G6
  have r2 := cell_of_row XF _ 2 _ _ _ G6
  have r3 := cell_of_row XF _ 3 _ _ _ G6
  have r4 := cell_of_row XF _ 4 _ _ _ G6
  have r5 := cell_of_row XF _ 5 _ _ _ G6
  simp only [List.getElem?_toArray, List.getElem?_cons_zero, List.getElem?_cons_succ] at r0 r1 r2 r3 r4 r5
  refine bodyPost_ret (v := .agg #[.slice none 0 0, .int .i64 0, .bool (decide (0 < vs.length)), .int .i64 zo.hi.ty, .int .i64 zo.hi.n, .string zo.hi.s]) ?_ rfl ⟨.slice none 0 0, (by first | (rw [HJ.out]; done) | (rw [HJ.out]; rfl)), ?_, BF⟩
  · simp [results, Tryz.results7, go_sem, r0, r1, r2, r3, r4, r5]
  · rw [HJ.out]
    exact ⟨_, (show ([] : List (R × Value)).map Prod.fst = [] from rfl), RF⟩
end Go.Proofs.YtidmlfjolhnnfaaGreatDoor
namespace Go.Proofs.YtidmlfjolhnnfaaGreatDoor
open Go.Sort Go.ChangeShapes Go.WideShapes Go.ChangeAt Go.RowKit Go.Lb
set_option maxRecDepth 20000 in
set_option maxHeartbeats 4000000 in
theorem impl_Answer6 (q : Q) (sv ov : Value) (l : List R) (x : Value) (w : World) {l1 h1 l2 h2 lo hi : Nat} (hp : RdP w l1 h1 sv q.p.l) (hh1 : h1 ≤ w.heap.size) (ho : RdI w l2 h2 ov q.out) (hh2 : h2 ≤ w.heap.size) (hx : RdR w lo hi x l) (hhi : hi ≤ w.heap.size) (hn : l.length ≤ 1048576 ∧ lensR l ≤ 1048576) (_hno : q.out.length ≤ 1048576) (k1 : q.kind ≠ 1) (k2 : q.kind ≠ 2) (k3 : q.kind ≠ 3) (k4 : q.kind ≠ 4) (k5 : q.kind ≠ 5) :
    Calls Tryz.prog 7 #[.agg #[.int .i64 q.kind, .int .i64 q.p.kind, .int .i64 q.p.col, .int .i64 q.p.op, .int .i64 q.p.v.ty, .int .i64 q.p.v.n, .string q.p.v.s, sv, .int .i64 q.col, ov], x] w fun e w' => ∃ v, e = .returned (.agg #[v, .int .i64 (answer q l).n, .bool (answer q l).has, .int .i64 (answer q l).v.ty, .int .i64 (answer q l).v.n, .string (answer q l).v.s]) ∧ OwnR 51 25 w' w.heap.size w'.heap.size v (answer q l).rows ∧ Below w.heap.size w w' := by
  obtain ⟨Ap, cp, rfl, -, -⟩ := hp.form
  obtain ⟨Ao, co, rfl, -, -⟩ := ho.form
  obtain ⟨A, c, rfl, -, -⟩ := hx.form
  obtain ⟨i0, hif, hz0, hz1, hz2⟩ := info_parts info_Row
  replace hif := Lib.hid hif
  replace hz0 := Lib.hid hz0
  replace hz1 := Lib.hid hz1
  replace hz2 := Lib.hid hz2
  obtain ⟨i1, hif1, hy0, hy1, hy2⟩ := info_parts info_val
  replace hif1 := Lib.hid hif1
  replace hy0 := Lib.hid hy0
  replace hy1 := Lib.hid hy1
  replace hy2 := Lib.hid hy2
  have hup := up_a2 w (.cells #[.int .i64 q.kind, .int .i64 q.p.kind, .int .i64 q.p.col, .int .i64 q.p.op, .int .i64 q.p.v.ty, .int .i64 q.p.v.n, .string q.p.v.s, .slice Ap q.p.l.length cp, .int .i64 q.col, .slice Ao q.out.length co] 31) (.cells #[.slice none 0 0, .int .i64 0, .bool false, .int .i64 0, .int .i64 0, .string ⟨#[]⟩] 37)
  have hM := impl_Meant q (.slice Ap q.p.l.length cp) (.slice Ao q.out.length co) l (.slice A l.length c) ((w.alloc (.cells #[.int .i64 q.kind, .int .i64 q.p.kind, .int .i64 q.p.col, .int .i64 q.p.op, .int .i64 q.p.v.ty, .int .i64 q.p.v.n, .string q.p.v.s, .slice Ap q.p.l.length cp, .int .i64 q.col, .slice Ao q.out.length co] 31)).alloc (.cells #[.slice none 0 0, .int .i64 0, .bool false, .int .i64 0, .int .i64 0, .string ⟨#[]⟩] 37)) (hp.below hup hh1) (by simp; omega) (ho.below hup hh2) (by simp; omega) (hx.below hup hhi) (by simp; omega) hn
  have hml := meant_len q l
  have hms := meant_lens q l
  obtain ⟨m, hm0⟩ : ∃ m, meant q l = m := ⟨_, rfl⟩
  rw [hm0] at hM hml hms
  replace hml : m.length ≤ 1048576 := Nat.le_trans hml hn.1
  replace hms := Lib.hid (Nat.le_trans hms hn.2)
  have Hm0 := Lib.hid hm0
  replace hM := Lib.hid hM
  have GQ := Lib.hid (show ((w.alloc (.cells #[.int .i64 q.kind, .int .i64 q.p.kind, .int .i64 q.p.col, .int .i64 q.p.op, .int .i64 q.p.v.ty, .int .i64 q.p.v.n, .string q.p.v.s, .slice Ap q.p.l.length cp, .int .i64 q.col, .slice Ao q.out.length co] 31)).alloc (.cells #[.slice none 0 0, .int .i64 0, .bool false, .int .i64 0, .int .i64 0, .string ⟨#[]⟩] 37)).heap[w.heap.size]? = some (.cells #[.int .i64 q.kind, .int .i64 q.p.kind, .int .i64 q.p.col, .int .i64 q.p.op, .int .i64 q.p.v.ty, .int .i64 q.p.v.n, .string q.p.v.s, .slice Ap q.p.l.length cp, .int .i64 q.col, .slice Ao q.out.length co] 31) from alloc_old48 (heap_alloc_new w _))
  have G1 := Lib.hid (show ((w.alloc (.cells #[.int .i64 q.kind, .int .i64 q.p.kind, .int .i64 q.p.col, .int .i64 q.p.op, .int .i64 q.p.v.ty, .int .i64 q.p.v.n, .string q.p.v.s, .slice Ap q.p.l.length cp, .int .i64 q.col, .slice Ao q.out.length co] 31)).alloc (.cells #[.slice none 0 0, .int .i64 0, .bool false, .int .i64 0, .int .i64 0, .string ⟨#[]⟩] 37)).heap[w.heap.size + 1]? = some (.cells #[.slice none 0 0, .int .i64 0, .bool false, .int .i64 0, .int .i64 0, .string ⟨#[]⟩] 37) from heap_new48 (by simp))
  have HB := Lib.hid hup
  clear hm0 hp hx hn hup
  go_enter Tryz.func7, Tryz.ntmps7
  go_wp2_with fail
  refine hM.out.mono ?_
  clear hM
  rintro e wm ⟨vm, rfl, hm, hbm⟩
  obtain ⟨Am, cm, rfl, -, -⟩ := hm.rdR.form
  have zm : w.heap.size + 2 ≤ wm.heap.size := by have h := hbm.size; simp only [World.size_alloc] at h; omega
  replace GQ := Lib.hid ((hbm.block _ (by simp <;> omega)).trans GQ.out)
  replace G1 := Lib.hid ((hbm.block _ (by simp <;> omega)).trans G1.out)
  replace HB := Lib.hid (HB.out.trans (hbm.mono HB.out.size))
  have HM0 := Lib.hid hm.rdR
  clear hbm hm
  have q8 := cell_of_row wm _ 8 _ _ _ GQ.out
  simp only [List.getElem?_toArray, List.getElem?_cons_zero, List.getElem?_cons_succ] at q8
  have hC := impl_Column m (.slice Am m.length cm) q.col wm HM0.out (Nat.le_refl _) hml
  have hkl := column_len m q.col
  obtain ⟨vs, hvs⟩ : ∃ vs, column m q.col = vs := ⟨_, rfl⟩
  rw [hvs] at hC hkl
  have HV := Lib.hid hvs
  clear hvs
  replace hC := Lib.hid hC
  go_wp2_with fail
  refine hC.out.mono ?_
  clear hC q8
  rintro e wj ⟨vk, rfl, hk, hbk⟩
  obtain ⟨Ak, ck, rfl, -, -, -⟩ := hk.cells
  go_upto_region 4 with fail
  have hbk' : Below wm.heap.size wm (wj.alloc (.cells #[.slice none 0 0, .int .i64 0, .bool false, .int .i64 0, .int .i64 0, .string ⟨#[]⟩] 37)) := hbk.alloc hbk.size _
  have GR := Lib.hid (heap_alloc_new wj (.cells #[.slice none 0 0, .int .i64 0, .bool false, .int .i64 0, .int .i64 0, .string ⟨#[]⟩] 37))
  have zj := hbk.size
  have zk : wj.heap.size < (wj.alloc (.cells #[.slice none 0 0, .int .i64 0, .bool false, .int .i64 0, .int .i64 0, .string ⟨#[]⟩] 37)).heap.size := by simp
  replace GQ := Lib.hid ((hbk'.block _ (by omega)).trans GQ.out)
  replace G1 := Lib.hid ((hbk'.block _ (by omega)).trans G1.out)
  replace HB := Lib.hid (HB.out.trans (hbk'.mono (by omega)))
  replace HM0 := Lib.hid (HM0.out.below hbk' (Nat.le_refl _))
  have HKo := Lib.hid (hk.below (up_a1 wj (.cells #[.slice none 0 0, .int .i64 0, .bool false, .int .i64 0, .int .i64 0, .string ⟨#[]⟩] 37)) (Nat.le_refl _))
  clear hbk hbk' hk
  generalize (wj.alloc (.cells #[.slice none 0 0, .int .i64 0, .bool false, .int .i64 0, .int .i64 0, .string ⟨#[]⟩] 37)) = wk at *
  have q0 := cell_of_row wk _ 0 _ _ _ GQ.out
  simp only [List.getElem?_toArray, List.getElem?_cons_zero] at q0
  have d1 : (q.kind == 1) = false := by simp [k1]
  have d2 : (q.kind == 2) = false := by simp [k2]
  have d3 : (q.kind == 3) = false := by simp [k3]
  have d4 : (q.kind == 4) = false := by simp [k4]
  have d5 : (q.kind == 5) = false := by simp [k5]
  have HJ := Lib.hid (show answer q l = ⟨[], 0, false, V.zero⟩ by unfold answer; rw [Hm0.out]; unfold answerOf; rw [HV.out]; simp [k1, k2, k3, k4, k5])
  have j0 := cell_of_row wk _ 0 _ _ _ GR.out
  have j1 := cell_of_row wk _ 1 _ _ _ GR.out
  have j2 := cell_of_row wk _ 2 _ _ _ GR.out
  have j3 := cell_of_row wk _ 3 _ _ _ GR.out
  have j4 := cell_of_row wk _ 4 _ _ _ GR.out
  have j5 := cell_of_row wk _ 5 _ _ _ GR.out
  simp only [List.getElem?_toArray, List.getElem?_cons_zero, List.getElem?_cons_succ] at j0 j1 j2 j3 j4 j5
  have p0 := cell_of_row wk _ 0 _ _ _ G1.out
  have p1 := cell_of_row wk _ 1 _ _ _ G1.out
  have p2 := cell_of_row wk _ 2 _ _ _ G1.out
  have p3 := cell_of_row wk _ 3 _ _ _ G1.out
  have p4 := cell_of_row wk _ 4 _ _ _ G1.out
  have p5 := cell_of_row wk _ 5 _ _ _ G1.out
  simp only [List.getElem?_toArray, List.getElem?_cons_zero, List.getElem?_cons_succ] at p0 p1 p2 p3 p4 p5
  have fr := fun o => frozen_of_row wk _ o _ _ G1.out
  have fj := fun o => frozen_of_row wk _ o _ _ GR.out
  go_wp2_with fail
  have G6 := set_six (v0 := .slice none 0 0) (v1 := .int .i64 0) (v2 := .bool false) (v3 := .int .i64 0) (v4 := .int .i64 0) (v5 := .string ⟨#[]⟩) G1.out
  have kp : ∀ g, g ≠ w.heap.size + 1 → ((((((wk.setCell ⟨w.heap.size + 1, 0, none⟩ (.slice none 0 0)).setCell ⟨w.heap.size + 1, 1, none⟩ (.int .i64 0)).setCell ⟨w.heap.size + 1, 2, none⟩ (.bool false)).setCell ⟨w.heap.size + 1, 3, none⟩ (.int .i64 0)).setCell ⟨w.heap.size + 1, 4, none⟩ (.int .i64 0)).setCell ⟨w.heap.size + 1, 5, none⟩ (.string ⟨#[]⟩)).heap[g]? = wk.heap[g]? := fun g hg => by
    iterate 5 refine (Below.heap_setCell _ _ _ g hg).trans ?_
    exact Below.heap_setCell _ _ _ g hg
  have RF : OwnRp 51 25 ((((((wk.setCell ⟨w.heap.size + 1, 0, none⟩ (.slice none 0 0)).setCell ⟨w.heap.size + 1, 1, none⟩ (.int .i64 0)).setCell ⟨w.heap.size + 1, 2, none⟩ (.bool false)).setCell ⟨w.heap.size + 1, 3, none⟩ (.int .i64 0)).setCell ⟨w.heap.size + 1, 4, none⟩ (.int .i64 0)).setCell ⟨w.heap.size + 1, 5, none⟩ (.string ⟨#[]⟩)) w.heap.size ((((((wk.setCell ⟨w.heap.size + 1, 0, none⟩ (.slice none 0 0)).setCell ⟨w.heap.size + 1, 1, none⟩ (.int .i64 0)).setCell ⟨w.heap.size + 1, 2, none⟩ (.bool false)).setCell ⟨w.heap.size + 1, 3, none⟩ (.int .i64 0)).setCell ⟨w.heap.size + 1, 4, none⟩ (.int .i64 0)).setCell ⟨w.heap.size + 1, 5, none⟩ (.string ⟨#[]⟩)).heap.size (.slice none 0 0) _ := ownRp_none _ _ _ _ _
  have BF : Below w.heap.size w ((((((wk.setCell ⟨w.heap.size + 1, 0, none⟩ (.slice none 0 0)).setCell ⟨w.heap.size + 1, 1, none⟩ (.int .i64 0)).setCell ⟨w.heap.size + 1, 2, none⟩ (.bool false)).setCell ⟨w.heap.size + 1, 3, none⟩ (.int .i64 0)).setCell ⟨w.heap.size + 1, 4, none⟩ (.int .i64 0)).setCell ⟨w.heap.size + 1, 5, none⟩ (.string ⟨#[]⟩)) := by
    iterate 6 refine below_set48 ?_ (by omega)
    exact HB.out
  generalize hXF : ((((((wk.setCell ⟨w.heap.size + 1, 0, none⟩ (.slice none 0 0)).setCell ⟨w.heap.size + 1, 1, none⟩ (.int .i64 0)).setCell ⟨w.heap.size + 1, 2, none⟩ (.bool false)).setCell ⟨w.heap.size + 1, 3, none⟩ (.int .i64 0)).setCell ⟨w.heap.size + 1, 4, none⟩ (.int .i64 0)).setCell ⟨w.heap.size + 1, 5, none⟩ (.string ⟨#[]⟩)) = XF at *
  clear hXF kp
  clear j0 j1 j2 j3 j4 j5 p0 p1 p2 p3 p4 p5 fr fj
  have r0 := cell_of_row XF _ 0 _ _ _ G6
  have r1 := cell_of_row XF _ 1 _ _ _ G6
  have r2 := cell_of_row XF _ 2 _ _ _ G6
  have r3 := cell_of_row XF _ 3 _ _ _ G6
  have r4 := cell_of_row XF _ 4 _ _ _ G6
  have r5 := cell_of_row XF _ 5 _ _ _ G6
  simp only [List.getElem?_toArray, List.getElem?_cons_zero, List.getElem?_cons_succ] at r0 r1 r2 r3 r4 r5
  refine bodyPost_ret (v := .agg #[.slice none 0 0, .int .i64 0, .bool false, .int .i64 0, .int .i64 0, .string ⟨#[]⟩]) ?_ rfl ⟨.slice none 0 0, (by first | (rw [HJ.out]; done) | (rw [HJ.out]; rfl)), ?_, BF⟩
  · simp [results, Tryz.results7, go_sem, r0, r1, r2, r3, r4, r5]
  · rw [HJ.out]
    exact ⟨_, (show ([] : List (R × Value)).map Prod.fst = [] from rfl), RF⟩
end Go.Proofs.YtidmlfjolhnnfaaGreatDoor
namespace Go.Proofs.YtidmlfjolhnnfaaGreatDoor
open Go.Sort Go.ChangeShapes Go.WideShapes Go.ChangeAt Go.RowKit Go.Lb
theorem cntR_mul (m : Nat) : ∀ l : List R, (∀ r ∈ l, r.l.length ≤ m) → cntR l ≤ l.length * (1 + 3 * m)
  | [], _ => by simp [cntR]
  | r :: l, h => by
    have ih := cntR_mul m l (fun x hx => h x (List.mem_cons_of_mem _ hx))
    have h0 := h r (List.mem_cons_self ..)
    have e : cntR (r :: l) = (1 + 3 * r.l.length) + cntR l := by simp [cntR]
    rw [e, List.length_cons, Nat.add_mul]
    omega
theorem answer_bd (q : Q) (l : List R) : l.length ≤ 1048576 → q.out.length ≤ 1048576 → cntR (answer q l).rows ≤ 3298535931904 := fun h1 h2 => by
  have hm : ∀ m : List R, m.length ≤ 1048576 → cntR (answerOf q m).rows ≤ 3298535931904 := fun m hm => by
    unfold answerOf
    split
    · have h := cntR_mul 1048576 (m.map (cutR q.out)) (fun r hr => by
        obtain ⟨y, -, rfl⟩ := List.mem_map.1 hr
        exact Nat.le_trans (cutL_len q.out y) h2)
      rw [List.length_map] at h
      have := Nat.mul_le_mul_right (1 + 3 * 1048576) hm
      show cntR (m.map (cutR q.out)) ≤ _
      omega
    · repeat (first | (split <;> try (simp [cntR]; done)) | (simp [cntR]; done))
  exact hm _ (Nat.le_trans (meant_len q l) h1)
theorem spec_Answer (q : Q) (sv ov : Value) (l : List R) (x : Value) (w : World) {l1 h1 l2 h2 lo hi : Nat} (hp : RdP w l1 h1 sv q.p.l) (hh1 : h1 ≤ w.heap.size) (ho : RdI w l2 h2 ov q.out) (hh2 : h2 ≤ w.heap.size) (hx : RdR w lo hi x l) (hhi : hi ≤ w.heap.size) (hn : l.length ≤ 1048576 ∧ lensR l ≤ 1048576) (hno : q.out.length ≤ 1048576) :
    Calls Tryz.prog 10 #[.agg #[.int .i64 q.kind, .int .i64 q.p.kind, .int .i64 q.p.col, .int .i64 q.p.op, .int .i64 q.p.v.ty, .int .i64 q.p.v.n, .string q.p.v.s, sv, .int .i64 q.col, ov], x] w fun e w' => ∃ v, e = .returned (.agg #[v, .int .i64 (answer q l).n, .bool (answer q l).has, .int .i64 (answer q l).v.ty, .int .i64 (answer q l).v.n, .string (answer q l).v.s]) ∧ OwnR 51 25 w' w.heap.size w'.heap.size v (answer q l).rows ∧ Below w.heap.size w w' := by
  by_cases k1 : q.kind = 1
  · exact spec_Answer1 q sv ov l x w hp hh1 ho hh2 hx hhi hn hno k1
  by_cases k2 : q.kind = 2
  · exact spec_Answer2 q sv ov l x w hp hh1 ho hh2 hx hhi hn hno k1 k2
  by_cases k3 : q.kind = 3
  · exact spec_Answer3 q sv ov l x w hp hh1 ho hh2 hx hhi hn hno k1 k2 k3
  by_cases k4 : q.kind = 4
  · exact spec_Answer4 q sv ov l x w hp hh1 ho hh2 hx hhi hn hno k1 k2 k3 k4
  by_cases k5 : q.kind = 5
  · exact spec_Answer5 q sv ov l x w hp hh1 ho hh2 hx hhi hn hno k1 k2 k3 k4 k5
  exact spec_Answer6 q sv ov l x w hp hh1 ho hh2 hx hhi hn hno k1 k2 k3 k4 k5
theorem impl_Answer (q : Q) (sv ov : Value) (l : List R) (x : Value) (w : World) {l1 h1 l2 h2 lo hi : Nat} (hp : RdP w l1 h1 sv q.p.l) (hh1 : h1 ≤ w.heap.size) (ho : RdI w l2 h2 ov q.out) (hh2 : h2 ≤ w.heap.size) (hx : RdR w lo hi x l) (hhi : hi ≤ w.heap.size) (hn : l.length ≤ 1048576 ∧ lensR l ≤ 1048576) (hno : q.out.length ≤ 1048576) :
    Calls Tryz.prog 7 #[.agg #[.int .i64 q.kind, .int .i64 q.p.kind, .int .i64 q.p.col, .int .i64 q.p.op, .int .i64 q.p.v.ty, .int .i64 q.p.v.n, .string q.p.v.s, sv, .int .i64 q.col, ov], x] w fun e w' => ∃ v, e = .returned (.agg #[v, .int .i64 (answer q l).n, .bool (answer q l).has, .int .i64 (answer q l).v.ty, .int .i64 (answer q l).v.n, .string (answer q l).v.s]) ∧ OwnR 51 25 w' w.heap.size w'.heap.size v (answer q l).rows ∧ Below w.heap.size w w' := by
  by_cases k1 : q.kind = 1
  · exact impl_Answer1 q sv ov l x w hp hh1 ho hh2 hx hhi hn hno k1
  by_cases k2 : q.kind = 2
  · exact impl_Answer2 q sv ov l x w hp hh1 ho hh2 hx hhi hn hno k1 k2
  by_cases k3 : q.kind = 3
  · exact impl_Answer3 q sv ov l x w hp hh1 ho hh2 hx hhi hn hno k1 k2 k3
  by_cases k4 : q.kind = 4
  · exact impl_Answer4 q sv ov l x w hp hh1 ho hh2 hx hhi hn hno k1 k2 k3 k4
  by_cases k5 : q.kind = 5
  · exact impl_Answer5 q sv ov l x w hp hh1 ho hh2 hx hhi hn hno k1 k2 k3 k4 k5
  exact impl_Answer6 q sv ov l x w hp hh1 ho hh2 hx hhi hn hno k1 k2 k3 k4 k5
end Go.Proofs.YtidmlfjolhnnfaaGreatDoor
