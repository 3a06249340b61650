/- Joined results: contracts. -/
import Derived.Test.YtidmlfjolhnnfaaGreatDoorS19
import Derived.Test.YtidmlfjolhnnfaaGreatDoorXJ
import Derived.Test.YtidmlfjolhnnfaaGreatDoorMemP
import Derived.Test.YtidmlfjolhnnfaaGreatDoorZ1
import Derived.Test.YtidmlfjolhnnfaaGreatDoorZ2
import Derived.Deep.CutRange
namespace Go.Proofs.YtidmlfjolhnnfaaGreatDoor
open Go.RowKit Go.Lb
def hasVals (a b : Res) : List V := (if a.has then [a.v] else []) ++ (if b.has then [b.v] else [])
def joined (q : Q) (a b : Res) : Res :=
  if q.kind = 4 then ⟨a.rows ++ b.rows, IntKind.i64.wrap (a.n + b.n), a.has || b.has, (zoneOf (hasVals a b)).lo⟩
  else if q.kind = 5 then ⟨a.rows ++ b.rows, IntKind.i64.wrap (a.n + b.n), a.has || b.has, (zoneOf (hasVals a b)).hi⟩
  else ⟨a.rows ++ b.rows, IntKind.i64.wrap (a.n + b.n), false, V.zero⟩
theorem joined_4 {q : Q} (a b : Res) (h : q.kind = 4) : joined q a b = ⟨a.rows ++ b.rows, IntKind.i64.wrap (a.n + b.n), a.has || b.has, (zoneOf (hasVals a b)).lo⟩ := by simp [joined, h]
theorem joined_5 {q : Q} (a b : Res) (h : q.kind = 5) : joined q a b = ⟨a.rows ++ b.rows, IntKind.i64.wrap (a.n + b.n), a.has || b.has, (zoneOf (hasVals a b)).hi⟩ := by simp [joined, h]
theorem joined_0 {q : Q} (a b : Res) (h4 : q.kind ≠ 4) (h5 : q.kind ≠ 5) : joined q a b = ⟨a.rows ++ b.rows, IntKind.i64.wrap (a.n + b.n), false, V.zero⟩ := by simp [joined, h4, h5]
theorem alloc_oldJ {w : World} {o x : Obj} {k : Nat} (h : w.heap[k]? = some x) : (w.alloc o).heap[k]? = some x := ((up_a1 w o).block k (Array.getElem?_eq_some_iff.1 h).1).trans h
theorem heap_new_atJ {w : World} {o : Obj} {n : Nat} (h : w.heap.size = n) : (w.alloc o).heap[n]? = some o := h ▸ heap_alloc_new w o
theorem cell_drewJ {w : World} {a : Addr} {x : Option Value} (h : w.cell? a = x) : w.drew.cell? a = x := h
theorem cell_setJ {w : World} {b o b' o' : Nat} {x : Option Value} {u : Value} (hne : b ≠ b') (h : w.cell? ⟨b, o, none⟩ = x) : (w.setCell ⟨b', o', none⟩ u).cell? ⟨b, o, none⟩ = x := (World.cell?_of_block (a := ⟨b, o, none⟩) (Below.heap_setCell w ⟨b', o', none⟩ u b hne)).trans h
end Go.Proofs.YtidmlfjolhnnfaaGreatDoor
namespace Go.Proofs.YtidmlfjolhnnfaaGreatDoor
open Go.Sort Go.ChangeShapes Go.WideShapes Go.ChangeAt Go.RowKit Go.Lb

/-- What the memory holds from the first region on: the boxes, the result, its rows. -/
structure JSt (W0 : World) (M k bj : Nat) (qc ac bc jc : Array Value) (v : Value) (pj : List (R × Value)) (X : World) : Prop where
  q : X.heap[k]? = some (.cells qc 31)
  a : X.heap[k + 1]? = some (.cells ac 37)
  b : X.heap[k + 1 + 1]? = some (.cells bc 37)
  r : X.heap[k + 1 + 1 + 1]? = some (.cells #[.slice none 0 0, .int .i64 0, .bool false, .int .i64 0, .int .i64 0, .string ⟨#[]⟩] 37)
  j : X.heap[bj]? = some (.cells jc 37)
  rows : OwnRp 51 25 X W0.heap.size M v pj
  hb : Below W0.heap.size W0 X
  z : M ≤ X.heap.size
  k4 : k + 4 ≤ W0.heap.size
  jz : W0.heap.size ≤ bj ∧ bj < M
  far : Far bj v pj
section
variable {W0 X Y : World} {M k bj : Nat} {qc ac bc jc : Array Value} {v : Value} {pj : List (R × Value)}
theorem JSt.up (h : JSt W0 M k bj qc ac bc jc v pj X) (hb : Below M X Y) : JSt W0 M k bj qc ac bc jc v pj Y := by
  obtain ⟨h1, h2, h3, h4, h5, h6, h7, h8, h9, h10, h11⟩ := h
  exact ⟨(hb.block _ (by omega)).trans h1, (hb.block _ (by omega)).trans h2, (hb.block _ (by omega)).trans h3, (hb.block _ (by omega)).trans h4, (hb.block _ (by omega)).trans h5,
    h6.imp (fun g _ hg => hb.block g hg) (Nat.le_refl _) (Nat.le_refl _), h7.trans (hb.mono (by omega)), Nat.le_trans h8 hb.size, h9, h10, h11⟩
theorem JSt.set (h : JSt W0 M k bj qc ac bc jc v pj X) (o : Nat) (u : Value) : JSt W0 M k bj qc ac bc (jc.setIfInBounds o u) v pj (X.setCell ⟨bj, o, none⟩ u) := by
  obtain ⟨h1, h2, h3, h4, h5, h6, h7, h8, h9, h10, h11⟩ := h
  have kp : ∀ g, g ≠ bj → (X.setCell ⟨bj, o, none⟩ u).heap[g]? = X.heap[g]? := fun g hg => Below.heap_setCell X ⟨bj, o, none⟩ u g hg
  exact ⟨(kp _ (by omega)).trans h1, (kp _ (by omega)).trans h2, (kp _ (by omega)).trans h3, (kp _ (by omega)).trans h4, set1 h5,
    h6.far h11 kp, Below.setCell h7 h10.1 u, by simp [World.setCell]; exact h8, h9, h10, h11⟩
theorem JSt.fin {t0 t1 t2 t3 t4 t5 : Value} (h : JSt W0 M k bj qc ac bc jc v pj X) (hY : Y = ((((((X.setCell ⟨k + 1 + 1 + 1, 0, none⟩ t0).setCell ⟨k + 1 + 1 + 1, 1, none⟩ t1).setCell ⟨k + 1 + 1 + 1, 2, none⟩ t2).setCell ⟨k + 1 + 1 + 1, 3, none⟩ t3).setCell ⟨k + 1 + 1 + 1, 4, none⟩ t4).setCell ⟨k + 1 + 1 + 1, 5, none⟩ t5)) :
    Y.heap[k + 1 + 1 + 1]? = some (.cells #[t0, t1, t2, t3, t4, t5] 37) ∧ OwnRp 51 25 Y k Y.heap.size v pj ∧ Below k W0 Y := by
  obtain ⟨h1, h2, h3, h4, h5, h6, h7, h8, h9, h10, h11⟩ := h
  subst hY
  have kp : ∀ g, g ≠ k + 1 + 1 + 1 → ((((((X.setCell ⟨k + 1 + 1 + 1, 0, none⟩ t0).setCell ⟨k + 1 + 1 + 1, 1, none⟩ t1).setCell ⟨k + 1 + 1 + 1, 2, none⟩ t2).setCell ⟨k + 1 + 1 + 1, 3, none⟩ t3).setCell ⟨k + 1 + 1 + 1, 4, none⟩ t4).setCell ⟨k + 1 + 1 + 1, 5, none⟩ t5).heap[g]? = X.heap[g]? := fun g hg => by
    iterate 5 refine (Below.heap_setCell _ _ _ g hg).trans ?_
    exact Below.heap_setCell _ _ _ g hg
  refine ⟨set_six h4, h6.imp (fun g hg _ => kp g (by omega)) (by omega) (by simp [World.setCell]; exact h8), ?_⟩
  iterate 6 refine Below.setCell ?_ (by show k ≤ k + 1 + 1 + 1; omega) _
  exact h7.mono (by omega)
end
set_option maxRecDepth 20000 in
set_option maxHeartbeats 2000000 in
theorem spec_Joined (q : Q) (sv ov : Value) (a : Res) (av : Value) (b : Res) (bv : Value) (w : World) {l1 h1 l2 h2 l3 h3 l4 h4 : Nat} (hp : RdP w l1 h1 sv q.p.l) (_hh1 : h1 ≤ w.heap.size) (ho : RdI w l2 h2 ov q.out) (_hh2 : h2 ≤ w.heap.size) (ha : RdR w l3 h3 av a.rows) (hh3 : h3 ≤ w.heap.size) (hb : RdR w l4 h4 bv b.rows) (hh4 : h4 ≤ w.heap.size) (hna : a.rows.length ≤ 1048576 ∧ lensR a.rows ≤ 1048576) (hnb : b.rows.length ≤ 1048576 ∧ lensR b.rows ≤ 1048576) :
    Calls Tryz.prog 12 #[.agg #[.int .i64 q.kind, .int .i64 q.p.kind, .int .i64 q.p.col, .int .i64 q.p.op, .int .i64 q.p.v.ty, .int .i64 q.p.v.n, .string q.p.v.s, sv, .int .i64 q.col, ov], .agg #[av, .int .i64 a.n, .bool a.has, .int .i64 a.v.ty, .int .i64 a.v.n, .string a.v.s], .agg #[bv, .int .i64 b.n, .bool b.has, .int .i64 b.v.ty, .int .i64 b.v.n, .string b.v.s]] w fun e w' => ∃ v, e = .returned (.agg #[v, .int .i64 (joined q a b).n, .bool (joined q a b).has, .int .i64 (joined q a b).v.ty, .int .i64 (joined q a b).v.n, .string (joined q a b).v.s]) ∧ OwnR 51 25 w' w.heap.size w'.heap.size v (joined q a b).rows ∧ Below w.heap.size w w' := by
  obtain ⟨Ap, cp, rfl, -, -⟩ := hp.form
  obtain ⟨Ao, co, rfl, -, -⟩ := ho.form
  obtain ⟨Aa, ka, rfl, -, -⟩ := ha.form
  obtain ⟨Ab, kb, rfl, -, -⟩ := hb.form
  clear hp ho
  obtain ⟨i0, hif, hz0, hz1, hz2⟩ := info_parts info_Row
  replace hif := Lib.hid hif
  replace hz0 := Lib.hid hz0
  replace hz1 := Lib.hid hz1
  replace hz2 := Lib.hid hz2
  have hup : Below w.heap.size w ((((w.alloc (.cells #[.int .i64 q.kind, .int .i64 q.p.kind, .int .i64 q.p.col, .int .i64 q.p.op, .int .i64 q.p.v.ty, .int .i64 q.p.v.n, .string q.p.v.s, .slice Ap q.p.l.length cp, .int .i64 q.col, .slice Ao q.out.length co] 31)).alloc (.cells #[.slice Aa a.rows.length ka, .int .i64 a.n, .bool a.has, .int .i64 a.v.ty, .int .i64 a.v.n, .string a.v.s] 37)).alloc (.cells #[.slice Ab b.rows.length kb, .int .i64 b.n, .bool b.has, .int .i64 b.v.ty, .int .i64 b.v.n, .string b.v.s] 37)).alloc (.cells #[.slice none 0 0, .int .i64 0, .bool false, .int .i64 0, .int .i64 0, .string ⟨#[]⟩] 37)) := up_a4 w _ _ _ _
  have hs : w.heap.size + 4 ≤ ((((w.alloc (.cells #[.int .i64 q.kind, .int .i64 q.p.kind, .int .i64 q.p.col, .int .i64 q.p.op, .int .i64 q.p.v.ty, .int .i64 q.p.v.n, .string q.p.v.s, .slice Ap q.p.l.length cp, .int .i64 q.col, .slice Ao q.out.length co] 31)).alloc (.cells #[.slice Aa a.rows.length ka, .int .i64 a.n, .bool a.has, .int .i64 a.v.ty, .int .i64 a.v.n, .string a.v.s] 37)).alloc (.cells #[.slice Ab b.rows.length kb, .int .i64 b.n, .bool b.has, .int .i64 b.v.ty, .int .i64 b.v.n, .string b.v.s] 37)).alloc (.cells #[.slice none 0 0, .int .i64 0, .bool false, .int .i64 0, .int .i64 0, .string ⟨#[]⟩] 37)).heap.size := by simp
  have GQ : ((((w.alloc (.cells #[.int .i64 q.kind, .int .i64 q.p.kind, .int .i64 q.p.col, .int .i64 q.p.op, .int .i64 q.p.v.ty, .int .i64 q.p.v.n, .string q.p.v.s, .slice Ap q.p.l.length cp, .int .i64 q.col, .slice Ao q.out.length co] 31)).alloc (.cells #[.slice Aa a.rows.length ka, .int .i64 a.n, .bool a.has, .int .i64 a.v.ty, .int .i64 a.v.n, .string a.v.s] 37)).alloc (.cells #[.slice Ab b.rows.length kb, .int .i64 b.n, .bool b.has, .int .i64 b.v.ty, .int .i64 b.v.n, .string b.v.s] 37)).alloc (.cells #[.slice none 0 0, .int .i64 0, .bool false, .int .i64 0, .int .i64 0, .string ⟨#[]⟩] 37)).heap[w.heap.size]? = some (.cells #[.int .i64 q.kind, .int .i64 q.p.kind, .int .i64 q.p.col, .int .i64 q.p.op, .int .i64 q.p.v.ty, .int .i64 q.p.v.n, .string q.p.v.s, .slice Ap q.p.l.length cp, .int .i64 q.col, .slice Ao q.out.length co] 31) := by
    iterate 3 refine alloc_oldJ ?_
    exact heap_new_atJ (by simp)
  have GA : ((((w.alloc (.cells #[.int .i64 q.kind, .int .i64 q.p.kind, .int .i64 q.p.col, .int .i64 q.p.op, .int .i64 q.p.v.ty, .int .i64 q.p.v.n, .string q.p.v.s, .slice Ap q.p.l.length cp, .int .i64 q.col, .slice Ao q.out.length co] 31)).alloc (.cells #[.slice Aa a.rows.length ka, .int .i64 a.n, .bool a.has, .int .i64 a.v.ty, .int .i64 a.v.n, .string a.v.s] 37)).alloc (.cells #[.slice Ab b.rows.length kb, .int .i64 b.n, .bool b.has, .int .i64 b.v.ty, .int .i64 b.v.n, .string b.v.s] 37)).alloc (.cells #[.slice none 0 0, .int .i64 0, .bool false, .int .i64 0, .int .i64 0, .string ⟨#[]⟩] 37)).heap[w.heap.size + 1]? = some (.cells #[.slice Aa a.rows.length ka, .int .i64 a.n, .bool a.has, .int .i64 a.v.ty, .int .i64 a.v.n, .string a.v.s] 37) := by
    iterate 2 refine alloc_oldJ ?_
    exact heap_new_atJ (by simp)
  have GB : ((((w.alloc (.cells #[.int .i64 q.kind, .int .i64 q.p.kind, .int .i64 q.p.col, .int .i64 q.p.op, .int .i64 q.p.v.ty, .int .i64 q.p.v.n, .string q.p.v.s, .slice Ap q.p.l.length cp, .int .i64 q.col, .slice Ao q.out.length co] 31)).alloc (.cells #[.slice Aa a.rows.length ka, .int .i64 a.n, .bool a.has, .int .i64 a.v.ty, .int .i64 a.v.n, .string a.v.s] 37)).alloc (.cells #[.slice Ab b.rows.length kb, .int .i64 b.n, .bool b.has, .int .i64 b.v.ty, .int .i64 b.v.n, .string b.v.s] 37)).alloc (.cells #[.slice none 0 0, .int .i64 0, .bool false, .int .i64 0, .int .i64 0, .string ⟨#[]⟩] 37)).heap[w.heap.size + 1 + 1]? = some (.cells #[.slice Ab b.rows.length kb, .int .i64 b.n, .bool b.has, .int .i64 b.v.ty, .int .i64 b.v.n, .string b.v.s] 37) := by
    refine alloc_oldJ ?_
    exact heap_new_atJ (by simp)
  have GR : ((((w.alloc (.cells #[.int .i64 q.kind, .int .i64 q.p.kind, .int .i64 q.p.col, .int .i64 q.p.op, .int .i64 q.p.v.ty, .int .i64 q.p.v.n, .string q.p.v.s, .slice Ap q.p.l.length cp, .int .i64 q.col, .slice Ao q.out.length co] 31)).alloc (.cells #[.slice Aa a.rows.length ka, .int .i64 a.n, .bool a.has, .int .i64 a.v.ty, .int .i64 a.v.n, .string a.v.s] 37)).alloc (.cells #[.slice Ab b.rows.length kb, .int .i64 b.n, .bool b.has, .int .i64 b.v.ty, .int .i64 b.v.n, .string b.v.s] 37)).alloc (.cells #[.slice none 0 0, .int .i64 0, .bool false, .int .i64 0, .int .i64 0, .string ⟨#[]⟩] 37)).heap[w.heap.size + 1 + 1 + 1]? = some (.cells #[.slice none 0 0, .int .i64 0, .bool false, .int .i64 0, .int .i64 0, .string ⟨#[]⟩] 37) := heap_new_atJ (by simp)
  replace GQ := Lib.hid GQ
  replace GA := Lib.hid GA
  replace GB := Lib.hid GB
  replace GR := Lib.hid GR
  go_enter Tryz.func12, Tryz.ntmps12
  go_upto_region 1 with fail
  generalize ((((w.alloc (.cells #[.int .i64 q.kind, .int .i64 q.p.kind, .int .i64 q.p.col, .int .i64 q.p.op, .int .i64 q.p.v.ty, .int .i64 q.p.v.n, .string q.p.v.s, .slice Ap q.p.l.length cp, .int .i64 q.col, .slice Ao q.out.length co] 31)).alloc (.cells #[.slice Aa a.rows.length ka, .int .i64 a.n, .bool a.has, .int .i64 a.v.ty, .int .i64 a.v.n, .string a.v.s] 37)).alloc (.cells #[.slice Ab b.rows.length kb, .int .i64 b.n, .bool b.has, .int .i64 b.v.ty, .int .i64 b.v.n, .string b.v.s] 37)).alloc (.cells #[.slice none 0 0, .int .i64 0, .bool false, .int .i64 0, .int .i64 0, .string ⟨#[]⟩] 37)) = W0 at *
  have hTa := Lib.hid (fun (W : World) (h : Below W0.heap.size W0 W) => spec_l4All a.rows (.slice Aa a.rows.length ka) W ((ha.below hup hh3).below h (by omega)) (Nat.le_trans (by omega) h.size) hna)
  have hTb := Lib.hid (fun (W : World) (h : Below W0.heap.size W0 W) => spec_l4All b.rows (.slice Ab b.rows.length kb) W ((hb.below hup hh4).below h (by omega)) (Nat.le_trans (by omega) h.size) hnb)
  have a0 := cell_of_row W0 (w.heap.size + 1) 0 _ _ _ GA.out
  have a1 := cell_of_row W0 (w.heap.size + 1) 1 _ _ _ GA.out
  have b0 := cell_of_row W0 (w.heap.size + 1 + 1) 0 _ _ _ GB.out
  have b1 := cell_of_row W0 (w.heap.size + 1 + 1) 1 _ _ _ GB.out
  simp only [List.getElem?_toArray, List.getElem?_cons_zero, List.getElem?_cons_succ] at a0 a1 b0 b1
  have z1 : w.heap.size + 1 < W0.heap.size := by omega
  have z2 : w.heap.size + 1 + 1 < W0.heap.size := by omega
  clear ha hb
  go_cut [7] from 9 to 21 (fun t wx => ∃ (bj : Nat) (Aj : Option Addr) (nj cj : Nat) (pj : List (R × Value)), t = .pointer (some ⟨bj, 0, none⟩) ∧ W0.heap.size ≤ bj ∧ wx.heap[bj]? = some (.cells #[.slice Aj nj cj, .int .i64 (IntKind.i64.wrap (a.n + b.n)), .bool false, .int .i64 0, .int .i64 0, .string ⟨#[]⟩] 37) ∧ pj.map Prod.fst = a.rows ++ b.rows ∧ OwnRp 51 25 wx W0.heap.size wx.heap.size (.slice Aj nj cj) pj ∧ Far bj (.slice Aj nj cj) pj ∧ Below W0.heap.size W0 wx)
  case first =>
    refine wp_region_T (S := fun w' => w'.cell? ⟨w.heap.size + 1, 0, none⟩ = some (.slice Aa a.rows.length ka) ∧ w'.cell? ⟨w.heap.size + 1, 1, none⟩ = some (.int .i64 a.n) ∧ w'.cell? ⟨w.heap.size + 1 + 1, 0, none⟩ = some (.slice Ab b.rows.length kb) ∧ w'.cell? ⟨w.heap.size + 1 + 1, 1, none⟩ = some (.int .i64 b.n)) (n := 14) (by kernel_rfl) ?_
    generalize hX0 : W0.drew = X0
    have HB0 : Below W0.heap.size W0 X0 := hX0 ▸ (Below.refl _ _).drew
    have s0 : W0.heap.size ≤ X0.heap.size := HB0.size
    have hS : X0.cell? ⟨w.heap.size + 1, 0, none⟩ = some (.slice Aa a.rows.length ka) ∧ X0.cell? ⟨w.heap.size + 1, 1, none⟩ = some (.int .i64 a.n) ∧ X0.cell? ⟨w.heap.size + 1 + 1, 0, none⟩ = some (.slice Ab b.rows.length kb) ∧ X0.cell? ⟨w.heap.size + 1 + 1, 1, none⟩ = some (.int .i64 b.n) := ⟨(HB0.cell (p := ⟨w.heap.size + 1, 0, none⟩) z1).trans a0, (HB0.cell (p := ⟨w.heap.size + 1, 1, none⟩) z1).trans a1, (HB0.cell (p := ⟨w.heap.size + 1 + 1, 0, none⟩) z2).trans b0, (HB0.cell (p := ⟨w.heap.size + 1 + 1, 1, none⟩) z2).trans b1⟩
    clear hX0
    refine wpAnyT_take (i := 0) (oi := _) (v := ?_) rfl (by kernel_rfl) (by kernel_rfl) (by kernel_rfl) (by kernel_rfl) (fun _ _ _ h => h) (Or.inl ⟨by rfl, ?_⟩) hS ?_
    rotate_left
    · (intro w' hSw; (try dsimp only at hSw); go_simp) <;> with_reducible rfl
    try simp only [Act.put, List.setIfInBounds_toArray, List.set_cons_zero, List.set_cons_succ]
    refine wpAnyT_take (i := 1) (oi := _) (v := ?_) rfl (by kernel_rfl) (by kernel_rfl) (by kernel_rfl) (by kernel_rfl) (fun _ _ _ h => h) (Or.inl ⟨by rfl, ?_⟩) hS ?_
    rotate_left
    · (intro w' hSw; (try dsimp only at hSw); go_simp) <;> with_reducible rfl
    try simp only [Act.put, List.setIfInBounds_toArray, List.set_cons_zero, List.set_cons_succ]
    refine wpAnyT_take (i := 3) (oi := _) (v := ?_) rfl (by kernel_rfl) (by kernel_rfl) (by kernel_rfl) (by kernel_rfl) (fun _ _ _ h => h) (Or.inl ⟨by rfl, ?_⟩) hS ?_
    rotate_left
    · (intro w' hSw; (try dsimp only at hSw); go_simp) <;> with_reducible rfl
    try simp only [Act.put, List.setIfInBounds_toArray, List.set_cons_zero, List.set_cons_succ]
    refine wpAnyT_take (i := 4) (oi := _) (v := ?_) rfl (by kernel_rfl) (by kernel_rfl) (by kernel_rfl) (by kernel_rfl) (fun _ _ _ h => h) (Or.inl ⟨by rfl, ?_⟩) hS ?_
    rotate_left
    · (intro w' hSw; (try dsimp only at hSw); go_simp) <;> with_reducible rfl
    try simp only [Act.put, List.setIfInBounds_toArray, List.set_cons_zero, List.set_cons_succ]
    refine wpAnyT_take (i := 7) (oi := _) (v := ?_) rfl (by kernel_rfl) (by kernel_rfl) (by kernel_rfl) (by kernel_rfl) (fun _ _ _ h => h) (Or.inl ⟨by rfl, ?_⟩) hS ?_
    rotate_left
    · (intro w' hSw; (try dsimp only at hSw); go_simp) <;> with_reducible rfl
    try simp only [Act.put, List.setIfInBounds_toArray, List.set_cons_zero, List.set_cons_succ]
    refine wpAnyT_take (i := 8) (oi := _) (v := ?_) rfl (by kernel_rfl) (by kernel_rfl) (by kernel_rfl) (by kernel_rfl) (fun _ _ _ h => h) (Or.inl ⟨by rfl, ?_⟩) hS ?_
    rotate_left
    · (intro w' hSw; (try dsimp only at hSw); go_simp) <;> with_reducible rfl
    try simp only [Act.put, List.setIfInBounds_toArray, List.set_cons_zero, List.set_cons_succ]
    refine wpAnyT_take (i := 9) (oi := _) (v := ?_) rfl (by kernel_rfl) (by kernel_rfl) (by kernel_rfl) (by kernel_rfl) (fun _ _ _ h => h) (Or.inl ⟨by rfl, ?_⟩) hS ?_
    rotate_left
    · (intro w' hSw; (try dsimp only at hSw); go_simp) <;> with_reducible rfl
    try simp only [Act.put, List.setIfInBounds_toArray, List.set_cons_zero, List.set_cons_succ]
    refine wpAnyT_take (i := 10) (oi := _) (v := ?_) rfl (by kernel_rfl) (by kernel_rfl) (by kernel_rfl) (by kernel_rfl) (fun _ _ _ h => h) (Or.inl ⟨by rfl, ?_⟩) hS ?_
    rotate_left
    · (intro w' hSw; (try dsimp only at hSw); go_simp) <;> with_reducible rfl
    try simp only [Act.put, List.setIfInBounds_toArray, List.set_cons_zero, List.set_cons_succ]
    refine wpAnyT_take (i := 11) (oi := _) (v := ?_) rfl (by kernel_rfl) (by kernel_rfl) (by kernel_rfl) (by kernel_rfl) (fun _ _ _ h => h) (Or.inl ⟨by rfl, ?_⟩) hS ?_
    rotate_left
    · (intro w' hSw; (try dsimp only at hSw); go_simp) <;> with_reducible rfl
    try simp only [Act.put, List.setIfInBounds_toArray, List.set_cons_zero, List.set_cons_succ]
    refine wpAnyT_two (k := 2) (k2 := 13) (o := _) (o2 := _) (by kernel_rfl) rfl rfl rfl rfl ?_ ?_
    · intro K hK
      go_simp
      refine (hTa.out X0 HB0).mono ?_
      rintro e X1 ⟨vp, rfl, ⟨ps, hps, hp⟩, hb1⟩
      have HB1 : Below W0.heap.size W0 X1 := HB0.trans (hb1.mono HB0.size)
      have s1 := hb1.size
      have F1 : X1.cell? ⟨w.heap.size + 1, 0, none⟩ = some (.slice Aa a.rows.length ka) ∧ X1.cell? ⟨w.heap.size + 1, 1, none⟩ = some (.int .i64 a.n) ∧ X1.cell? ⟨w.heap.size + 1 + 1, 0, none⟩ = some (.slice Ab b.rows.length kb) ∧ X1.cell? ⟨w.heap.size + 1 + 1, 1, none⟩ = some (.int .i64 b.n) := ⟨(HB1.cell (p := ⟨w.heap.size + 1, 0, none⟩) z1).trans a0, (HB1.cell (p := ⟨w.heap.size + 1, 1, none⟩) z1).trans a1, (HB1.cell (p := ⟨w.heap.size + 1 + 1, 0, none⟩) z2).trans b0, (HB1.cell (p := ⟨w.heap.size + 1 + 1, 1, none⟩) z2).trans b1⟩
      refine hK.out _ _ (fun _ => F1) ?_
      clear hK
      try simp only [Act.put, List.setIfInBounds_toArray, List.set_cons_zero, List.set_cons_succ]
      have Ps := Lib.hid hps
      have P1 := Lib.hid hp
      clear hps hp
      refine wpAnyT_two (k := 5) (k2 := 13) (o := _) (o2 := _) (by kernel_rfl) rfl rfl rfl rfl ?_ ?_
      · intro K hK
        go_simp
        refine (hTb.out X1 HB1).mono ?_
        rintro e X2 ⟨vq, rfl, ⟨qs, hqs, hq⟩, hb2⟩
        have HB2 : Below W0.heap.size W0 X2 := HB1.trans (hb2.mono HB1.size)
        have s2 := hb2.size
        have F2 : X2.cell? ⟨w.heap.size + 1, 0, none⟩ = some (.slice Aa a.rows.length ka) ∧ X2.cell? ⟨w.heap.size + 1, 1, none⟩ = some (.int .i64 a.n) ∧ X2.cell? ⟨w.heap.size + 1 + 1, 0, none⟩ = some (.slice Ab b.rows.length kb) ∧ X2.cell? ⟨w.heap.size + 1 + 1, 1, none⟩ = some (.int .i64 b.n) := ⟨(HB2.cell (p := ⟨w.heap.size + 1, 0, none⟩) z1).trans a0, (HB2.cell (p := ⟨w.heap.size + 1, 1, none⟩) z1).trans a1, (HB2.cell (p := ⟨w.heap.size + 1 + 1, 0, none⟩) z2).trans b0, (HB2.cell (p := ⟨w.heap.size + 1 + 1, 1, none⟩) z2).trans b1⟩
        refine hK.out _ _ (fun _ => F2) ?_
        clear hK
        try simp only [Act.put, List.setIfInBounds_toArray, List.set_cons_zero, List.set_cons_succ]
        have Qs := Lib.hid hqs
        have Q2 := Lib.hid hq
        clear hqs hq
        have P2 := Lib.hid (P1.out.imp (fun g _ h => hb2.block g (by omega)) (Nat.le_refl _) (Nat.le_refl _))
        refine wpAnyT_two (k := 6) (k2 := 13) (o := _) (o2 := _) (by kernel_rfl) rfl rfl rfl rfl ?_ ?_
        · intro K hK
          have hpl : ps.length ≤ 1048576 := (by have h1 := congrArg List.length Ps.out; rw [List.length_map] at h1; omega)
          have hql : qs.length ≤ 1048576 := (by have h1 := congrArg List.length Qs.out; rw [List.length_map] at h1; omega)
          have hnw := Q2.out.own
          obtain ⟨A2, c2, rfl, -, -, -⟩ := hnw.cells
          have Hnw := Lib.hid hnw.news
          clear hnw
          refine step_spread rfl _ _ 32 rfl 0 51 i0 _ 2 32 Tryz.underlying32 hif.out hz0.out hz1.out hz2.out rfl (by decide) (by decide) P2.out.out rfl rfl Hnw.out.1 Hnw.out.2.1 Hnw.out.2.2 Q2.out.one (by omega) (Nat.zero_le _) ?_
          intro vj X3 hown hgrow hnb
          obtain ⟨A3, c3, rfl, -, -, -⟩ := (Own.new hown).cells
          have HB3 : Below W0.heap.size W0 X3 := Below.grown HB2 hgrow HB2.size (fun g hg => by have := (P2.out.outIn g hg).1; omega)
          have s3 := hgrow.size
          have F3 : X3.cell? ⟨w.heap.size + 1, 0, none⟩ = some (.slice Aa a.rows.length ka) ∧ X3.cell? ⟨w.heap.size + 1, 1, none⟩ = some (.int .i64 a.n) ∧ X3.cell? ⟨w.heap.size + 1 + 1, 0, none⟩ = some (.slice Ab b.rows.length kb) ∧ X3.cell? ⟨w.heap.size + 1 + 1, 1, none⟩ = some (.int .i64 b.n) := ⟨(HB3.cell (p := ⟨w.heap.size + 1, 0, none⟩) z1).trans a0, (HB3.cell (p := ⟨w.heap.size + 1, 1, none⟩) z1).trans a1, (HB3.cell (p := ⟨w.heap.size + 1 + 1, 0, none⟩) z2).trans b0, (HB3.cell (p := ⟨w.heap.size + 1 + 1, 1, none⟩) z2).trans b1⟩
          have J := P2.out.join2 (w1 := X2) (by omega) (by omega) Q2.out (by omega) (by omega) hown hgrow hnb (by omega)
          have J1 := Lib.hid J.1
          have J2 := Lib.hid J.2
          refine hK.out _ _ (fun _ => F3) ?_
          clear hK hown hgrow hnb J
          try simp only [Act.put, List.setIfInBounds_toArray, List.set_cons_zero, List.set_cons_succ]
          refine wpAnyT_take (i := 12) (oi := _) (v := ?_) rfl (by kernel_rfl) (by kernel_rfl) (by kernel_rfl) (by kernel_rfl) (fun _ _ _ h => h) (Or.inl ⟨by rfl, ?_⟩) F3 ?_
          rotate_left
          · (intro w' hSw; (try dsimp only at hSw); go_simp) <;> with_reducible rfl
          try simp only [Act.put, List.setIfInBounds_toArray, List.set_cons_zero, List.set_cons_succ]
          refine wpAnyT_one (k := 13) (o := _) (by kernel_rfl) rfl rfl ?_
          intro K hK
          go_simp
          have up4 : Below X3.heap.size X3 (X3.alloc (.cells #[.slice none 0 0, .int .i64 0, .bool false, .int .i64 0, .int .i64 0, .string ⟨#[]⟩] 37)) := up_a1 X3 _
          have HB4 : Below W0.heap.size W0 (X3.alloc (.cells #[.slice none 0 0, .int .i64 0, .bool false, .int .i64 0, .int .i64 0, .string ⟨#[]⟩] 37)) := HB3.trans (up4.mono HB3.size)
          have GZ4 : (X3.alloc (.cells #[.slice none 0 0, .int .i64 0, .bool false, .int .i64 0, .int .i64 0, .string ⟨#[]⟩] 37)).heap[X3.heap.size]? = some (.cells #[.slice none 0 0, .int .i64 0, .bool false, .int .i64 0, .int .i64 0, .string ⟨#[]⟩] 37) := heap_alloc_new X3 _
          have s4 : X3.heap.size < (X3.alloc (.cells #[.slice none 0 0, .int .i64 0, .bool false, .int .i64 0, .int .i64 0, .string ⟨#[]⟩] 37)).heap.size := by simp
          have F4 : (X3.alloc (.cells #[.slice none 0 0, .int .i64 0, .bool false, .int .i64 0, .int .i64 0, .string ⟨#[]⟩] 37)).cell? ⟨w.heap.size + 1, 0, none⟩ = some (.slice Aa a.rows.length ka) ∧ (X3.alloc (.cells #[.slice none 0 0, .int .i64 0, .bool false, .int .i64 0, .int .i64 0, .string ⟨#[]⟩] 37)).cell? ⟨w.heap.size + 1, 1, none⟩ = some (.int .i64 a.n) ∧ (X3.alloc (.cells #[.slice none 0 0, .int .i64 0, .bool false, .int .i64 0, .int .i64 0, .string ⟨#[]⟩] 37)).cell? ⟨w.heap.size + 1 + 1, 0, none⟩ = some (.slice Ab b.rows.length kb) ∧ (X3.alloc (.cells #[.slice none 0 0, .int .i64 0, .bool false, .int .i64 0, .int .i64 0, .string ⟨#[]⟩] 37)).cell? ⟨w.heap.size + 1 + 1, 1, none⟩ = some (.int .i64 b.n) := ⟨(HB4.cell (p := ⟨w.heap.size + 1, 0, none⟩) z1).trans a0, (HB4.cell (p := ⟨w.heap.size + 1, 1, none⟩) z1).trans a1, (HB4.cell (p := ⟨w.heap.size + 1 + 1, 0, none⟩) z2).trans b0, (HB4.cell (p := ⟨w.heap.size + 1 + 1, 1, none⟩) z2).trans b1⟩
          refine hK.out _ _ (fun _ => F4) ?_
          clear hK
          generalize (X3.alloc (.cells #[.slice none 0 0, .int .i64 0, .bool false, .int .i64 0, .int .i64 0, .string ⟨#[]⟩] 37)) = X4 at *
          try simp only [Act.put, List.setIfInBounds_toArray, List.set_cons_zero, List.set_cons_succ]
          have GZ4 := Lib.hid GZ4
          have far := Lib.hid (far_behind J1.out (Nat.le_refl _))
          have J1 := Lib.hid (J1.out.imp (w' := X4) (fun g _ h => up4.block g h) (Nat.le_refl _) (Nat.le_of_lt s4))
          have G6 := set_six (v0 := .slice A3 (ps.length + qs.length) c3) (v1 := .int .i64 (IntKind.i64.wrap (a.n + b.n))) (v2 := .bool false) (v3 := .int .i64 0) (v4 := .int .i64 0) (v5 := .string ⟨#[]⟩) GZ4.out
          have hch : Chg X3.heap.size (X3.heap.size + 1) X4 (((((((X4.setCell ⟨X3.heap.size, 0, none⟩ (.slice A3 (ps.length + qs.length) c3)).setCell ⟨X3.heap.size, 1, none⟩ (.int .i64 (IntKind.i64.wrap (a.n + b.n)))).setCell ⟨X3.heap.size, 2, none⟩ (.bool false)).setCell ⟨X3.heap.size, 3, none⟩ (.int .i64 0)).setCell ⟨X3.heap.size, 4, none⟩ (.int .i64 0)).setCell ⟨X3.heap.size, 5, none⟩ (.string ⟨#[]⟩))) := (((((chg_set _ _ _ _).trans (chg_set _ _ _ _)).trans (chg_set _ _ _ _)).trans (chg_set _ _ _ _)).trans (chg_set _ _ _ _)).trans (chg_set _ _ _ _)
          have hbt : W0.heap.size ≤ X3.heap.size := by omega
          have hmap : (ps ++ qs).map Prod.fst = a.rows ++ b.rows := by rw [List.map_append, Ps.out, Qs.out]
          have R := Lib.hid (show ∃ (bj : Nat) (Aj : Option Addr) (nj cj : Nat) (pj : List (R × Value)), (Value.pointer (some ⟨X3.heap.size, 0, none⟩)) = .pointer (some ⟨bj, 0, none⟩) ∧ W0.heap.size ≤ bj ∧ (((((((X4.setCell ⟨X3.heap.size, 0, none⟩ (.slice A3 (ps.length + qs.length) c3)).setCell ⟨X3.heap.size, 1, none⟩ (.int .i64 (IntKind.i64.wrap (a.n + b.n)))).setCell ⟨X3.heap.size, 2, none⟩ (.bool false)).setCell ⟨X3.heap.size, 3, none⟩ (.int .i64 0)).setCell ⟨X3.heap.size, 4, none⟩ (.int .i64 0)).setCell ⟨X3.heap.size, 5, none⟩ (.string ⟨#[]⟩))).heap[bj]? = some (.cells #[.slice Aj nj cj, .int .i64 (IntKind.i64.wrap (a.n + b.n)), .bool false, .int .i64 0, .int .i64 0, .string ⟨#[]⟩] 37) ∧ pj.map Prod.fst = a.rows ++ b.rows ∧ OwnRp 51 25 (((((((X4.setCell ⟨X3.heap.size, 0, none⟩ (.slice A3 (ps.length + qs.length) c3)).setCell ⟨X3.heap.size, 1, none⟩ (.int .i64 (IntKind.i64.wrap (a.n + b.n)))).setCell ⟨X3.heap.size, 2, none⟩ (.bool false)).setCell ⟨X3.heap.size, 3, none⟩ (.int .i64 0)).setCell ⟨X3.heap.size, 4, none⟩ (.int .i64 0)).setCell ⟨X3.heap.size, 5, none⟩ (.string ⟨#[]⟩))) W0.heap.size (((((((X4.setCell ⟨X3.heap.size, 0, none⟩ (.slice A3 (ps.length + qs.length) c3)).setCell ⟨X3.heap.size, 1, none⟩ (.int .i64 (IntKind.i64.wrap (a.n + b.n)))).setCell ⟨X3.heap.size, 2, none⟩ (.bool false)).setCell ⟨X3.heap.size, 3, none⟩ (.int .i64 0)).setCell ⟨X3.heap.size, 4, none⟩ (.int .i64 0)).setCell ⟨X3.heap.size, 5, none⟩ (.string ⟨#[]⟩))).heap.size (.slice Aj nj cj) pj ∧ Far bj (.slice Aj nj cj) pj ∧ Below W0.heap.size W0 (((((((X4.setCell ⟨X3.heap.size, 0, none⟩ (.slice A3 (ps.length + qs.length) c3)).setCell ⟨X3.heap.size, 1, none⟩ (.int .i64 (IntKind.i64.wrap (a.n + b.n)))).setCell ⟨X3.heap.size, 2, none⟩ (.bool false)).setCell ⟨X3.heap.size, 3, none⟩ (.int .i64 0)).setCell ⟨X3.heap.size, 4, none⟩ (.int .i64 0)).setCell ⟨X3.heap.size, 5, none⟩ (.string ⟨#[]⟩))) from ⟨X3.heap.size, A3, ps.length + qs.length, c3, ps ++ qs, rfl, hbt, G6, hmap, (J1.out.keepFar far.out hch).imp (fun _ _ _ => rfl) (by omega) (Nat.le_refl _), far.out, HB4.trans ((hch.below (Nat.le_refl _) (by omega)).mono hbt)⟩)
          clear G6 hch hbt hmap
          have t0 := cell_of_row X4 _ 0 _ _ _ GZ4.out
          have t1 := cell_of_row X4 _ 1 _ _ _ GZ4.out
          have t2 := cell_of_row X4 _ 2 _ _ _ GZ4.out
          have t3 := cell_of_row X4 _ 3 _ _ _ GZ4.out
          have t4 := cell_of_row X4 _ 4 _ _ _ GZ4.out
          have t5 := cell_of_row X4 _ 5 _ _ _ GZ4.out
          simp only [List.getElem?_toArray, List.getElem?_cons_zero, List.getElem?_cons_succ] at t0 t1 t2 t3 t4 t5
          have ft := fun o => frozen_of_row X4 _ o _ _ GZ4.out
          refine wpAnyT_one (k := 14) (o := _) (by kernel_rfl) rfl rfl ?_
          intro K hK
          go_simp
          refine hK.out _ _ (fun h => absurd rfl h) ?_
          clear hK
          refine wpAnyT_done (by kernel_rfl) ?_ _
          go_wp2_with fail
          go_meet
          with_reducible exact R.out
        · intro K hK
          go_simp
          have up5 : Below X2.heap.size X2 (X2.alloc (.cells #[.slice none 0 0, .int .i64 0, .bool false, .int .i64 0, .int .i64 0, .string ⟨#[]⟩] 37)) := up_a1 X2 _
          have HB5 : Below W0.heap.size W0 (X2.alloc (.cells #[.slice none 0 0, .int .i64 0, .bool false, .int .i64 0, .int .i64 0, .string ⟨#[]⟩] 37)) := HB2.trans (up5.mono HB2.size)
          have GZ5 : (X2.alloc (.cells #[.slice none 0 0, .int .i64 0, .bool false, .int .i64 0, .int .i64 0, .string ⟨#[]⟩] 37)).heap[X2.heap.size]? = some (.cells #[.slice none 0 0, .int .i64 0, .bool false, .int .i64 0, .int .i64 0, .string ⟨#[]⟩] 37) := heap_alloc_new X2 _
          have s5 : X2.heap.size < (X2.alloc (.cells #[.slice none 0 0, .int .i64 0, .bool false, .int .i64 0, .int .i64 0, .string ⟨#[]⟩] 37)).heap.size := by simp
          have F5 : (X2.alloc (.cells #[.slice none 0 0, .int .i64 0, .bool false, .int .i64 0, .int .i64 0, .string ⟨#[]⟩] 37)).cell? ⟨w.heap.size + 1, 0, none⟩ = some (.slice Aa a.rows.length ka) ∧ (X2.alloc (.cells #[.slice none 0 0, .int .i64 0, .bool false, .int .i64 0, .int .i64 0, .string ⟨#[]⟩] 37)).cell? ⟨w.heap.size + 1, 1, none⟩ = some (.int .i64 a.n) ∧ (X2.alloc (.cells #[.slice none 0 0, .int .i64 0, .bool false, .int .i64 0, .int .i64 0, .string ⟨#[]⟩] 37)).cell? ⟨w.heap.size + 1 + 1, 0, none⟩ = some (.slice Ab b.rows.length kb) ∧ (X2.alloc (.cells #[.slice none 0 0, .int .i64 0, .bool false, .int .i64 0, .int .i64 0, .string ⟨#[]⟩] 37)).cell? ⟨w.heap.size + 1 + 1, 1, none⟩ = some (.int .i64 b.n) := ⟨(HB5.cell (p := ⟨w.heap.size + 1, 0, none⟩) z1).trans a0, (HB5.cell (p := ⟨w.heap.size + 1, 1, none⟩) z1).trans a1, (HB5.cell (p := ⟨w.heap.size + 1 + 1, 0, none⟩) z2).trans b0, (HB5.cell (p := ⟨w.heap.size + 1 + 1, 1, none⟩) z2).trans b1⟩
          refine hK.out _ _ (fun _ => F5) ?_
          clear hK
          generalize (X2.alloc (.cells #[.slice none 0 0, .int .i64 0, .bool false, .int .i64 0, .int .i64 0, .string ⟨#[]⟩] 37)) = X5 at *
          try simp only [Act.put, List.setIfInBounds_toArray, List.set_cons_zero, List.set_cons_succ]
          have GZ5 := Lib.hid GZ5
          have P5 := Lib.hid (P2.out.imp (fun g _ h => up5.block g (by omega)) (Nat.le_refl _) (Nat.le_refl _))
          have Q5 := Lib.hid (Q2.out.imp (fun g _ h => up5.block g (by omega)) (Nat.le_refl _) (Nat.le_refl _))
          refine wpAnyT_one (k := 6) (o := _) (by kernel_rfl) rfl rfl ?_
          intro K hK
          have hpl : ps.length ≤ 1048576 := (by have h1 := congrArg List.length Ps.out; rw [List.length_map] at h1; omega)
          have hql : qs.length ≤ 1048576 := (by have h1 := congrArg List.length Qs.out; rw [List.length_map] at h1; omega)
          have hnw := Q5.out.own
          obtain ⟨A2, c2, rfl, -, -, -⟩ := hnw.cells
          have Hnw := Lib.hid hnw.news
          clear hnw
          refine step_spread rfl _ _ 32 rfl 0 51 i0 _ 2 32 Tryz.underlying32 hif.out hz0.out hz1.out hz2.out rfl (by decide) (by decide) P5.out.out rfl rfl Hnw.out.1 Hnw.out.2.1 Hnw.out.2.2 Q5.out.one (by omega) (Nat.zero_le _) ?_
          intro vj X6 hown hgrow hnb
          obtain ⟨A3, c3, rfl, -, -, -⟩ := (Own.new hown).cells
          have HB6 : Below W0.heap.size W0 X6 := Below.grown HB5 hgrow HB5.size (fun g hg => by have := (P5.out.outIn g hg).1; omega)
          have s6 := hgrow.size
          have F6 : X6.cell? ⟨w.heap.size + 1, 0, none⟩ = some (.slice Aa a.rows.length ka) ∧ X6.cell? ⟨w.heap.size + 1, 1, none⟩ = some (.int .i64 a.n) ∧ X6.cell? ⟨w.heap.size + 1 + 1, 0, none⟩ = some (.slice Ab b.rows.length kb) ∧ X6.cell? ⟨w.heap.size + 1 + 1, 1, none⟩ = some (.int .i64 b.n) := ⟨(HB6.cell (p := ⟨w.heap.size + 1, 0, none⟩) z1).trans a0, (HB6.cell (p := ⟨w.heap.size + 1, 1, none⟩) z1).trans a1, (HB6.cell (p := ⟨w.heap.size + 1 + 1, 0, none⟩) z2).trans b0, (HB6.cell (p := ⟨w.heap.size + 1 + 1, 1, none⟩) z2).trans b1⟩
          have J := P5.out.join2 (w1 := X5) (by omega) (by omega) Q5.out (by omega) (by omega) hown hgrow hnb (by omega)
          have J1 := Lib.hid J.1
          have J2 := Lib.hid J.2
          have GZ6 := Lib.hid ((hgrow.block X2.heap.size (by omega) (fun e => by have := P5.out.outIn _ e.symm; omega)).trans GZ5.out)
          have far := Lib.hid (J2.out X2.heap.size (by omega) (by omega) (by omega))
          refine hK.out _ _ (fun _ => F6) ?_
          clear hK hown hgrow hnb J
          try simp only [Act.put, List.setIfInBounds_toArray, List.set_cons_zero, List.set_cons_succ]
          refine wpAnyT_take (i := 12) (oi := _) (v := ?_) rfl (by kernel_rfl) (by kernel_rfl) (by kernel_rfl) (by kernel_rfl) (fun _ _ _ h => h) (Or.inl ⟨by rfl, ?_⟩) F6 ?_
          rotate_left
          · (intro w' hSw; (try dsimp only at hSw); go_simp) <;> with_reducible rfl
          try simp only [Act.put, List.setIfInBounds_toArray, List.set_cons_zero, List.set_cons_succ]
          have G6 := set_six (v0 := .slice A3 (ps.length + qs.length) c3) (v1 := .int .i64 (IntKind.i64.wrap (a.n + b.n))) (v2 := .bool false) (v3 := .int .i64 0) (v4 := .int .i64 0) (v5 := .string ⟨#[]⟩) GZ6.out
          have hch : Chg X2.heap.size (X2.heap.size + 1) X6 (((((((X6.setCell ⟨X2.heap.size, 0, none⟩ (.slice A3 (ps.length + qs.length) c3)).setCell ⟨X2.heap.size, 1, none⟩ (.int .i64 (IntKind.i64.wrap (a.n + b.n)))).setCell ⟨X2.heap.size, 2, none⟩ (.bool false)).setCell ⟨X2.heap.size, 3, none⟩ (.int .i64 0)).setCell ⟨X2.heap.size, 4, none⟩ (.int .i64 0)).setCell ⟨X2.heap.size, 5, none⟩ (.string ⟨#[]⟩))) := (((((chg_set _ _ _ _).trans (chg_set _ _ _ _)).trans (chg_set _ _ _ _)).trans (chg_set _ _ _ _)).trans (chg_set _ _ _ _)).trans (chg_set _ _ _ _)
          have hbt : W0.heap.size ≤ X2.heap.size := by omega
          have hmap : (ps ++ qs).map Prod.fst = a.rows ++ b.rows := by rw [List.map_append, Ps.out, Qs.out]
          have R := Lib.hid (show ∃ (bj : Nat) (Aj : Option Addr) (nj cj : Nat) (pj : List (R × Value)), (Value.pointer (some ⟨X2.heap.size, 0, none⟩)) = .pointer (some ⟨bj, 0, none⟩) ∧ W0.heap.size ≤ bj ∧ (((((((X6.setCell ⟨X2.heap.size, 0, none⟩ (.slice A3 (ps.length + qs.length) c3)).setCell ⟨X2.heap.size, 1, none⟩ (.int .i64 (IntKind.i64.wrap (a.n + b.n)))).setCell ⟨X2.heap.size, 2, none⟩ (.bool false)).setCell ⟨X2.heap.size, 3, none⟩ (.int .i64 0)).setCell ⟨X2.heap.size, 4, none⟩ (.int .i64 0)).setCell ⟨X2.heap.size, 5, none⟩ (.string ⟨#[]⟩))).heap[bj]? = some (.cells #[.slice Aj nj cj, .int .i64 (IntKind.i64.wrap (a.n + b.n)), .bool false, .int .i64 0, .int .i64 0, .string ⟨#[]⟩] 37) ∧ pj.map Prod.fst = a.rows ++ b.rows ∧ OwnRp 51 25 (((((((X6.setCell ⟨X2.heap.size, 0, none⟩ (.slice A3 (ps.length + qs.length) c3)).setCell ⟨X2.heap.size, 1, none⟩ (.int .i64 (IntKind.i64.wrap (a.n + b.n)))).setCell ⟨X2.heap.size, 2, none⟩ (.bool false)).setCell ⟨X2.heap.size, 3, none⟩ (.int .i64 0)).setCell ⟨X2.heap.size, 4, none⟩ (.int .i64 0)).setCell ⟨X2.heap.size, 5, none⟩ (.string ⟨#[]⟩))) W0.heap.size (((((((X6.setCell ⟨X2.heap.size, 0, none⟩ (.slice A3 (ps.length + qs.length) c3)).setCell ⟨X2.heap.size, 1, none⟩ (.int .i64 (IntKind.i64.wrap (a.n + b.n)))).setCell ⟨X2.heap.size, 2, none⟩ (.bool false)).setCell ⟨X2.heap.size, 3, none⟩ (.int .i64 0)).setCell ⟨X2.heap.size, 4, none⟩ (.int .i64 0)).setCell ⟨X2.heap.size, 5, none⟩ (.string ⟨#[]⟩))).heap.size (.slice Aj nj cj) pj ∧ Far bj (.slice Aj nj cj) pj ∧ Below W0.heap.size W0 (((((((X6.setCell ⟨X2.heap.size, 0, none⟩ (.slice A3 (ps.length + qs.length) c3)).setCell ⟨X2.heap.size, 1, none⟩ (.int .i64 (IntKind.i64.wrap (a.n + b.n)))).setCell ⟨X2.heap.size, 2, none⟩ (.bool false)).setCell ⟨X2.heap.size, 3, none⟩ (.int .i64 0)).setCell ⟨X2.heap.size, 4, none⟩ (.int .i64 0)).setCell ⟨X2.heap.size, 5, none⟩ (.string ⟨#[]⟩))) from ⟨X2.heap.size, A3, ps.length + qs.length, c3, ps ++ qs, rfl, hbt, G6, hmap, (J1.out.keepFar far.out hch).imp (fun _ _ _ => rfl) (by omega) (Nat.le_refl _), far.out, HB6.trans ((hch.below (Nat.le_refl _) (by omega)).mono hbt)⟩)
          clear G6 hch hbt hmap
          have t0 := cell_of_row X6 _ 0 _ _ _ GZ6.out
          have t1 := cell_of_row X6 _ 1 _ _ _ GZ6.out
          have t2 := cell_of_row X6 _ 2 _ _ _ GZ6.out
          have t3 := cell_of_row X6 _ 3 _ _ _ GZ6.out
          have t4 := cell_of_row X6 _ 4 _ _ _ GZ6.out
          have t5 := cell_of_row X6 _ 5 _ _ _ GZ6.out
          simp only [List.getElem?_toArray, List.getElem?_cons_zero, List.getElem?_cons_succ] at t0 t1 t2 t3 t4 t5
          have ft := fun o => frozen_of_row X6 _ o _ _ GZ6.out
          refine wpAnyT_one (k := 14) (o := _) (by kernel_rfl) rfl rfl ?_
          intro K hK
          go_simp
          refine hK.out _ _ (fun h => absurd rfl h) ?_
          clear hK
          refine wpAnyT_done (by kernel_rfl) ?_ _
          go_wp2_with fail
          go_meet
          with_reducible exact R.out
      · intro K hK
        go_simp
        have up7 : Below X1.heap.size X1 (X1.alloc (.cells #[.slice none 0 0, .int .i64 0, .bool false, .int .i64 0, .int .i64 0, .string ⟨#[]⟩] 37)) := up_a1 X1 _
        have HB7 : Below W0.heap.size W0 (X1.alloc (.cells #[.slice none 0 0, .int .i64 0, .bool false, .int .i64 0, .int .i64 0, .string ⟨#[]⟩] 37)) := HB1.trans (up7.mono HB1.size)
        have GZ7 : (X1.alloc (.cells #[.slice none 0 0, .int .i64 0, .bool false, .int .i64 0, .int .i64 0, .string ⟨#[]⟩] 37)).heap[X1.heap.size]? = some (.cells #[.slice none 0 0, .int .i64 0, .bool false, .int .i64 0, .int .i64 0, .string ⟨#[]⟩] 37) := heap_alloc_new X1 _
        have s7 : X1.heap.size < (X1.alloc (.cells #[.slice none 0 0, .int .i64 0, .bool false, .int .i64 0, .int .i64 0, .string ⟨#[]⟩] 37)).heap.size := by simp
        have F7 : (X1.alloc (.cells #[.slice none 0 0, .int .i64 0, .bool false, .int .i64 0, .int .i64 0, .string ⟨#[]⟩] 37)).cell? ⟨w.heap.size + 1, 0, none⟩ = some (.slice Aa a.rows.length ka) ∧ (X1.alloc (.cells #[.slice none 0 0, .int .i64 0, .bool false, .int .i64 0, .int .i64 0, .string ⟨#[]⟩] 37)).cell? ⟨w.heap.size + 1, 1, none⟩ = some (.int .i64 a.n) ∧ (X1.alloc (.cells #[.slice none 0 0, .int .i64 0, .bool false, .int .i64 0, .int .i64 0, .string ⟨#[]⟩] 37)).cell? ⟨w.heap.size + 1 + 1, 0, none⟩ = some (.slice Ab b.rows.length kb) ∧ (X1.alloc (.cells #[.slice none 0 0, .int .i64 0, .bool false, .int .i64 0, .int .i64 0, .string ⟨#[]⟩] 37)).cell? ⟨w.heap.size + 1 + 1, 1, none⟩ = some (.int .i64 b.n) := ⟨(HB7.cell (p := ⟨w.heap.size + 1, 0, none⟩) z1).trans a0, (HB7.cell (p := ⟨w.heap.size + 1, 1, none⟩) z1).trans a1, (HB7.cell (p := ⟨w.heap.size + 1 + 1, 0, none⟩) z2).trans b0, (HB7.cell (p := ⟨w.heap.size + 1 + 1, 1, none⟩) z2).trans b1⟩
        refine hK.out _ _ (fun _ => F7) ?_
        clear hK
        generalize (X1.alloc (.cells #[.slice none 0 0, .int .i64 0, .bool false, .int .i64 0, .int .i64 0, .string ⟨#[]⟩] 37)) = X7 at *
        try simp only [Act.put, List.setIfInBounds_toArray, List.set_cons_zero, List.set_cons_succ]
        have GZ7 := Lib.hid GZ7
        have P7 := Lib.hid (P1.out.imp (fun g _ h => up7.block g (by omega)) (Nat.le_refl _) (Nat.le_refl _))
        refine wpAnyT_one (k := 5) (o := _) (by kernel_rfl) rfl rfl ?_
        intro K hK
        go_simp
        refine (hTb.out X7 HB7).mono ?_
        rintro e X8 ⟨vq, rfl, ⟨qs, hqs, hq⟩, hb8⟩
        have HB8 : Below W0.heap.size W0 X8 := HB7.trans (hb8.mono HB7.size)
        have s8 := hb8.size
        have F8 : X8.cell? ⟨w.heap.size + 1, 0, none⟩ = some (.slice Aa a.rows.length ka) ∧ X8.cell? ⟨w.heap.size + 1, 1, none⟩ = some (.int .i64 a.n) ∧ X8.cell? ⟨w.heap.size + 1 + 1, 0, none⟩ = some (.slice Ab b.rows.length kb) ∧ X8.cell? ⟨w.heap.size + 1 + 1, 1, none⟩ = some (.int .i64 b.n) := ⟨(HB8.cell (p := ⟨w.heap.size + 1, 0, none⟩) z1).trans a0, (HB8.cell (p := ⟨w.heap.size + 1, 1, none⟩) z1).trans a1, (HB8.cell (p := ⟨w.heap.size + 1 + 1, 0, none⟩) z2).trans b0, (HB8.cell (p := ⟨w.heap.size + 1 + 1, 1, none⟩) z2).trans b1⟩
        refine hK.out _ _ (fun _ => F8) ?_
        clear hK
        try simp only [Act.put, List.setIfInBounds_toArray, List.set_cons_zero, List.set_cons_succ]
        have Qs := Lib.hid hqs
        have Q8 := Lib.hid hq
        clear hqs hq
        have GZ8 := Lib.hid ((hb8.block _ (by omega)).trans GZ7.out)
        have P8 := Lib.hid (P7.out.imp (fun g _ h => hb8.block g (by omega)) (Nat.le_refl _) (Nat.le_refl _))
        refine wpAnyT_one (k := 6) (o := _) (by kernel_rfl) rfl rfl ?_
        intro K hK
        have hpl : ps.length ≤ 1048576 := (by have h1 := congrArg List.length Ps.out; rw [List.length_map] at h1; omega)
        have hql : qs.length ≤ 1048576 := (by have h1 := congrArg List.length Qs.out; rw [List.length_map] at h1; omega)
        have hnw := Q8.out.own
        obtain ⟨A2, c2, rfl, -, -, -⟩ := hnw.cells
        have Hnw := Lib.hid hnw.news
        clear hnw
        refine step_spread rfl _ _ 32 rfl 0 51 i0 _ 2 32 Tryz.underlying32 hif.out hz0.out hz1.out hz2.out rfl (by decide) (by decide) P8.out.out rfl rfl Hnw.out.1 Hnw.out.2.1 Hnw.out.2.2 Q8.out.one (by omega) (Nat.zero_le _) ?_
        intro vj X9 hown hgrow hnb
        obtain ⟨A3, c3, rfl, -, -, -⟩ := (Own.new hown).cells
        have HB9 : Below W0.heap.size W0 X9 := Below.grown HB8 hgrow HB8.size (fun g hg => by have := (P8.out.outIn g hg).1; omega)
        have s9 := hgrow.size
        have F9 : X9.cell? ⟨w.heap.size + 1, 0, none⟩ = some (.slice Aa a.rows.length ka) ∧ X9.cell? ⟨w.heap.size + 1, 1, none⟩ = some (.int .i64 a.n) ∧ X9.cell? ⟨w.heap.size + 1 + 1, 0, none⟩ = some (.slice Ab b.rows.length kb) ∧ X9.cell? ⟨w.heap.size + 1 + 1, 1, none⟩ = some (.int .i64 b.n) := ⟨(HB9.cell (p := ⟨w.heap.size + 1, 0, none⟩) z1).trans a0, (HB9.cell (p := ⟨w.heap.size + 1, 1, none⟩) z1).trans a1, (HB9.cell (p := ⟨w.heap.size + 1 + 1, 0, none⟩) z2).trans b0, (HB9.cell (p := ⟨w.heap.size + 1 + 1, 1, none⟩) z2).trans b1⟩
        have J := P8.out.join2 (w1 := X8) (by omega) (by omega) Q8.out (by omega) (by omega) hown hgrow hnb (by omega)
        have J1 := Lib.hid J.1
        have J2 := Lib.hid J.2
        have GZ9 := Lib.hid ((hgrow.block X1.heap.size (by omega) (fun e => by have := P8.out.outIn _ e.symm; omega)).trans GZ8.out)
        have far := Lib.hid (J2.out X1.heap.size (by omega) (by omega) (by omega))
        refine hK.out _ _ (fun _ => F9) ?_
        clear hK hown hgrow hnb J
        try simp only [Act.put, List.setIfInBounds_toArray, List.set_cons_zero, List.set_cons_succ]
        refine wpAnyT_take (i := 12) (oi := _) (v := ?_) rfl (by kernel_rfl) (by kernel_rfl) (by kernel_rfl) (by kernel_rfl) (fun _ _ _ h => h) (Or.inl ⟨by rfl, ?_⟩) F9 ?_
        rotate_left
        · (intro w' hSw; (try dsimp only at hSw); go_simp) <;> with_reducible rfl
        try simp only [Act.put, List.setIfInBounds_toArray, List.set_cons_zero, List.set_cons_succ]
        have G6 := set_six (v0 := .slice A3 (ps.length + qs.length) c3) (v1 := .int .i64 (IntKind.i64.wrap (a.n + b.n))) (v2 := .bool false) (v3 := .int .i64 0) (v4 := .int .i64 0) (v5 := .string ⟨#[]⟩) GZ9.out
        have hch : Chg X1.heap.size (X1.heap.size + 1) X9 (((((((X9.setCell ⟨X1.heap.size, 0, none⟩ (.slice A3 (ps.length + qs.length) c3)).setCell ⟨X1.heap.size, 1, none⟩ (.int .i64 (IntKind.i64.wrap (a.n + b.n)))).setCell ⟨X1.heap.size, 2, none⟩ (.bool false)).setCell ⟨X1.heap.size, 3, none⟩ (.int .i64 0)).setCell ⟨X1.heap.size, 4, none⟩ (.int .i64 0)).setCell ⟨X1.heap.size, 5, none⟩ (.string ⟨#[]⟩))) := (((((chg_set _ _ _ _).trans (chg_set _ _ _ _)).trans (chg_set _ _ _ _)).trans (chg_set _ _ _ _)).trans (chg_set _ _ _ _)).trans (chg_set _ _ _ _)
        have hbt : W0.heap.size ≤ X1.heap.size := by omega
        have hmap : (ps ++ qs).map Prod.fst = a.rows ++ b.rows := by rw [List.map_append, Ps.out, Qs.out]
        have R := Lib.hid (show ∃ (bj : Nat) (Aj : Option Addr) (nj cj : Nat) (pj : List (R × Value)), (Value.pointer (some ⟨X1.heap.size, 0, none⟩)) = .pointer (some ⟨bj, 0, none⟩) ∧ W0.heap.size ≤ bj ∧ (((((((X9.setCell ⟨X1.heap.size, 0, none⟩ (.slice A3 (ps.length + qs.length) c3)).setCell ⟨X1.heap.size, 1, none⟩ (.int .i64 (IntKind.i64.wrap (a.n + b.n)))).setCell ⟨X1.heap.size, 2, none⟩ (.bool false)).setCell ⟨X1.heap.size, 3, none⟩ (.int .i64 0)).setCell ⟨X1.heap.size, 4, none⟩ (.int .i64 0)).setCell ⟨X1.heap.size, 5, none⟩ (.string ⟨#[]⟩))).heap[bj]? = some (.cells #[.slice Aj nj cj, .int .i64 (IntKind.i64.wrap (a.n + b.n)), .bool false, .int .i64 0, .int .i64 0, .string ⟨#[]⟩] 37) ∧ pj.map Prod.fst = a.rows ++ b.rows ∧ OwnRp 51 25 (((((((X9.setCell ⟨X1.heap.size, 0, none⟩ (.slice A3 (ps.length + qs.length) c3)).setCell ⟨X1.heap.size, 1, none⟩ (.int .i64 (IntKind.i64.wrap (a.n + b.n)))).setCell ⟨X1.heap.size, 2, none⟩ (.bool false)).setCell ⟨X1.heap.size, 3, none⟩ (.int .i64 0)).setCell ⟨X1.heap.size, 4, none⟩ (.int .i64 0)).setCell ⟨X1.heap.size, 5, none⟩ (.string ⟨#[]⟩))) W0.heap.size (((((((X9.setCell ⟨X1.heap.size, 0, none⟩ (.slice A3 (ps.length + qs.length) c3)).setCell ⟨X1.heap.size, 1, none⟩ (.int .i64 (IntKind.i64.wrap (a.n + b.n)))).setCell ⟨X1.heap.size, 2, none⟩ (.bool false)).setCell ⟨X1.heap.size, 3, none⟩ (.int .i64 0)).setCell ⟨X1.heap.size, 4, none⟩ (.int .i64 0)).setCell ⟨X1.heap.size, 5, none⟩ (.string ⟨#[]⟩))).heap.size (.slice Aj nj cj) pj ∧ Far bj (.slice Aj nj cj) pj ∧ Below W0.heap.size W0 (((((((X9.setCell ⟨X1.heap.size, 0, none⟩ (.slice A3 (ps.length + qs.length) c3)).setCell ⟨X1.heap.size, 1, none⟩ (.int .i64 (IntKind.i64.wrap (a.n + b.n)))).setCell ⟨X1.heap.size, 2, none⟩ (.bool false)).setCell ⟨X1.heap.size, 3, none⟩ (.int .i64 0)).setCell ⟨X1.heap.size, 4, none⟩ (.int .i64 0)).setCell ⟨X1.heap.size, 5, none⟩ (.string ⟨#[]⟩))) from ⟨X1.heap.size, A3, ps.length + qs.length, c3, ps ++ qs, rfl, hbt, G6, hmap, (J1.out.keepFar far.out hch).imp (fun _ _ _ => rfl) (by omega) (Nat.le_refl _), far.out, HB9.trans ((hch.below (Nat.le_refl _) (by omega)).mono hbt)⟩)
        clear G6 hch hbt hmap
        have t0 := cell_of_row X9 _ 0 _ _ _ GZ9.out
        have t1 := cell_of_row X9 _ 1 _ _ _ GZ9.out
        have t2 := cell_of_row X9 _ 2 _ _ _ GZ9.out
        have t3 := cell_of_row X9 _ 3 _ _ _ GZ9.out
        have t4 := cell_of_row X9 _ 4 _ _ _ GZ9.out
        have t5 := cell_of_row X9 _ 5 _ _ _ GZ9.out
        simp only [List.getElem?_toArray, List.getElem?_cons_zero, List.getElem?_cons_succ] at t0 t1 t2 t3 t4 t5
        have ft := fun o => frozen_of_row X9 _ o _ _ GZ9.out
        refine wpAnyT_one (k := 14) (o := _) (by kernel_rfl) rfl rfl ?_
        intro K hK
        go_simp
        refine hK.out _ _ (fun h => absurd rfl h) ?_
        clear hK
        refine wpAnyT_done (by kernel_rfl) ?_ _
        go_wp2_with fail
        go_meet
        with_reducible exact R.out
    · intro K hK
      go_simp
      have up10 : Below X0.heap.size X0 (X0.alloc (.cells #[.slice none 0 0, .int .i64 0, .bool false, .int .i64 0, .int .i64 0, .string ⟨#[]⟩] 37)) := up_a1 X0 _
      have HB10 : Below W0.heap.size W0 (X0.alloc (.cells #[.slice none 0 0, .int .i64 0, .bool false, .int .i64 0, .int .i64 0, .string ⟨#[]⟩] 37)) := HB0.trans (up10.mono HB0.size)
      have GZ10 : (X0.alloc (.cells #[.slice none 0 0, .int .i64 0, .bool false, .int .i64 0, .int .i64 0, .string ⟨#[]⟩] 37)).heap[X0.heap.size]? = some (.cells #[.slice none 0 0, .int .i64 0, .bool false, .int .i64 0, .int .i64 0, .string ⟨#[]⟩] 37) := heap_alloc_new X0 _
      have s10 : X0.heap.size < (X0.alloc (.cells #[.slice none 0 0, .int .i64 0, .bool false, .int .i64 0, .int .i64 0, .string ⟨#[]⟩] 37)).heap.size := by simp
      have F10 : (X0.alloc (.cells #[.slice none 0 0, .int .i64 0, .bool false, .int .i64 0, .int .i64 0, .string ⟨#[]⟩] 37)).cell? ⟨w.heap.size + 1, 0, none⟩ = some (.slice Aa a.rows.length ka) ∧ (X0.alloc (.cells #[.slice none 0 0, .int .i64 0, .bool false, .int .i64 0, .int .i64 0, .string ⟨#[]⟩] 37)).cell? ⟨w.heap.size + 1, 1, none⟩ = some (.int .i64 a.n) ∧ (X0.alloc (.cells #[.slice none 0 0, .int .i64 0, .bool false, .int .i64 0, .int .i64 0, .string ⟨#[]⟩] 37)).cell? ⟨w.heap.size + 1 + 1, 0, none⟩ = some (.slice Ab b.rows.length kb) ∧ (X0.alloc (.cells #[.slice none 0 0, .int .i64 0, .bool false, .int .i64 0, .int .i64 0, .string ⟨#[]⟩] 37)).cell? ⟨w.heap.size + 1 + 1, 1, none⟩ = some (.int .i64 b.n) := ⟨(HB10.cell (p := ⟨w.heap.size + 1, 0, none⟩) z1).trans a0, (HB10.cell (p := ⟨w.heap.size + 1, 1, none⟩) z1).trans a1, (HB10.cell (p := ⟨w.heap.size + 1 + 1, 0, none⟩) z2).trans b0, (HB10.cell (p := ⟨w.heap.size + 1 + 1, 1, none⟩) z2).trans b1⟩
      refine hK.out _ _ (fun _ => F10) ?_
      clear hK
      generalize (X0.alloc (.cells #[.slice none 0 0, .int .i64 0, .bool false, .int .i64 0, .int .i64 0, .string ⟨#[]⟩] 37)) = X10 at *
      try simp only [Act.put, List.setIfInBounds_toArray, List.set_cons_zero, List.set_cons_succ]
      have GZ10 := Lib.hid GZ10
      refine wpAnyT_one (k := 2) (o := _) (by kernel_rfl) rfl rfl ?_
      intro K hK
      go_simp
      refine (hTa.out X10 HB10).mono ?_
      rintro e X11 ⟨vp, rfl, ⟨ps, hps, hp⟩, hb11⟩
      have HB11 : Below W0.heap.size W0 X11 := HB10.trans (hb11.mono HB10.size)
      have s11 := hb11.size
      have F11 : X11.cell? ⟨w.heap.size + 1, 0, none⟩ = some (.slice Aa a.rows.length ka) ∧ X11.cell? ⟨w.heap.size + 1, 1, none⟩ = some (.int .i64 a.n) ∧ X11.cell? ⟨w.heap.size + 1 + 1, 0, none⟩ = some (.slice Ab b.rows.length kb) ∧ X11.cell? ⟨w.heap.size + 1 + 1, 1, none⟩ = some (.int .i64 b.n) := ⟨(HB11.cell (p := ⟨w.heap.size + 1, 0, none⟩) z1).trans a0, (HB11.cell (p := ⟨w.heap.size + 1, 1, none⟩) z1).trans a1, (HB11.cell (p := ⟨w.heap.size + 1 + 1, 0, none⟩) z2).trans b0, (HB11.cell (p := ⟨w.heap.size + 1 + 1, 1, none⟩) z2).trans b1⟩
      refine hK.out _ _ (fun _ => F11) ?_
      clear hK
      try simp only [Act.put, List.setIfInBounds_toArray, List.set_cons_zero, List.set_cons_succ]
      have Ps := Lib.hid hps
      have P11 := Lib.hid hp
      clear hps hp
      have GZ11 := Lib.hid ((hb11.block _ (by omega)).trans GZ10.out)
      refine wpAnyT_one (k := 5) (o := _) (by kernel_rfl) rfl rfl ?_
      intro K hK
      go_simp
      refine (hTb.out X11 HB11).mono ?_
      rintro e X12 ⟨vq, rfl, ⟨qs, hqs, hq⟩, hb12⟩
      have HB12 : Below W0.heap.size W0 X12 := HB11.trans (hb12.mono HB11.size)
      have s12 := hb12.size
      have F12 : X12.cell? ⟨w.heap.size + 1, 0, none⟩ = some (.slice Aa a.rows.length ka) ∧ X12.cell? ⟨w.heap.size + 1, 1, none⟩ = some (.int .i64 a.n) ∧ X12.cell? ⟨w.heap.size + 1 + 1, 0, none⟩ = some (.slice Ab b.rows.length kb) ∧ X12.cell? ⟨w.heap.size + 1 + 1, 1, none⟩ = some (.int .i64 b.n) := ⟨(HB12.cell (p := ⟨w.heap.size + 1, 0, none⟩) z1).trans a0, (HB12.cell (p := ⟨w.heap.size + 1, 1, none⟩) z1).trans a1, (HB12.cell (p := ⟨w.heap.size + 1 + 1, 0, none⟩) z2).trans b0, (HB12.cell (p := ⟨w.heap.size + 1 + 1, 1, none⟩) z2).trans b1⟩
      refine hK.out _ _ (fun _ => F12) ?_
      clear hK
      try simp only [Act.put, List.setIfInBounds_toArray, List.set_cons_zero, List.set_cons_succ]
      have Qs := Lib.hid hqs
      have Q12 := Lib.hid hq
      clear hqs hq
      have GZ12 := Lib.hid ((hb12.block _ (by omega)).trans GZ11.out)
      have P12 := Lib.hid (P11.out.imp (fun g _ h => hb12.block g (by omega)) (Nat.le_refl _) (Nat.le_refl _))
      refine wpAnyT_one (k := 6) (o := _) (by kernel_rfl) rfl rfl ?_
      intro K hK
      have hpl : ps.length ≤ 1048576 := (by have h1 := congrArg List.length Ps.out; rw [List.length_map] at h1; omega)
      have hql : qs.length ≤ 1048576 := (by have h1 := congrArg List.length Qs.out; rw [List.length_map] at h1; omega)
      have hnw := Q12.out.own
      obtain ⟨A2, c2, rfl, -, -, -⟩ := hnw.cells
      have Hnw := Lib.hid hnw.news
      clear hnw
      refine step_spread rfl _ _ 32 rfl 0 51 i0 _ 2 32 Tryz.underlying32 hif.out hz0.out hz1.out hz2.out rfl (by decide) (by decide) P12.out.out rfl rfl Hnw.out.1 Hnw.out.2.1 Hnw.out.2.2 Q12.out.one (by omega) (Nat.zero_le _) ?_
      intro vj X13 hown hgrow hnb
      obtain ⟨A3, c3, rfl, -, -, -⟩ := (Own.new hown).cells
      have HB13 : Below W0.heap.size W0 X13 := Below.grown HB12 hgrow HB12.size (fun g hg => by have := (P12.out.outIn g hg).1; omega)
      have s13 := hgrow.size
      have F13 : X13.cell? ⟨w.heap.size + 1, 0, none⟩ = some (.slice Aa a.rows.length ka) ∧ X13.cell? ⟨w.heap.size + 1, 1, none⟩ = some (.int .i64 a.n) ∧ X13.cell? ⟨w.heap.size + 1 + 1, 0, none⟩ = some (.slice Ab b.rows.length kb) ∧ X13.cell? ⟨w.heap.size + 1 + 1, 1, none⟩ = some (.int .i64 b.n) := ⟨(HB13.cell (p := ⟨w.heap.size + 1, 0, none⟩) z1).trans a0, (HB13.cell (p := ⟨w.heap.size + 1, 1, none⟩) z1).trans a1, (HB13.cell (p := ⟨w.heap.size + 1 + 1, 0, none⟩) z2).trans b0, (HB13.cell (p := ⟨w.heap.size + 1 + 1, 1, none⟩) z2).trans b1⟩
      have J := P12.out.join2 (w1 := X12) (by omega) (by omega) Q12.out (by omega) (by omega) hown hgrow hnb (by omega)
      have J1 := Lib.hid J.1
      have J2 := Lib.hid J.2
      have GZ13 := Lib.hid ((hgrow.block X0.heap.size (by omega) (fun e => by have := P12.out.outIn _ e.symm; omega)).trans GZ12.out)
      have far := Lib.hid (J2.out X0.heap.size (by omega) (by omega) (by omega))
      refine hK.out _ _ (fun _ => F13) ?_
      clear hK hown hgrow hnb J
      try simp only [Act.put, List.setIfInBounds_toArray, List.set_cons_zero, List.set_cons_succ]
      refine wpAnyT_take (i := 12) (oi := _) (v := ?_) rfl (by kernel_rfl) (by kernel_rfl) (by kernel_rfl) (by kernel_rfl) (fun _ _ _ h => h) (Or.inl ⟨by rfl, ?_⟩) F13 ?_
      rotate_left
      · (intro w' hSw; (try dsimp only at hSw); go_simp) <;> with_reducible rfl
      try simp only [Act.put, List.setIfInBounds_toArray, List.set_cons_zero, List.set_cons_succ]
      have G6 := set_six (v0 := .slice A3 (ps.length + qs.length) c3) (v1 := .int .i64 (IntKind.i64.wrap (a.n + b.n))) (v2 := .bool false) (v3 := .int .i64 0) (v4 := .int .i64 0) (v5 := .string ⟨#[]⟩) GZ13.out
      have hch : Chg X0.heap.size (X0.heap.size + 1) X13 (((((((X13.setCell ⟨X0.heap.size, 0, none⟩ (.slice A3 (ps.length + qs.length) c3)).setCell ⟨X0.heap.size, 1, none⟩ (.int .i64 (IntKind.i64.wrap (a.n + b.n)))).setCell ⟨X0.heap.size, 2, none⟩ (.bool false)).setCell ⟨X0.heap.size, 3, none⟩ (.int .i64 0)).setCell ⟨X0.heap.size, 4, none⟩ (.int .i64 0)).setCell ⟨X0.heap.size, 5, none⟩ (.string ⟨#[]⟩))) := (((((chg_set _ _ _ _).trans (chg_set _ _ _ _)).trans (chg_set _ _ _ _)).trans (chg_set _ _ _ _)).trans (chg_set _ _ _ _)).trans (chg_set _ _ _ _)
      have hbt : W0.heap.size ≤ X0.heap.size := by omega
      have hmap : (ps ++ qs).map Prod.fst = a.rows ++ b.rows := by rw [List.map_append, Ps.out, Qs.out]
      have R := Lib.hid (show ∃ (bj : Nat) (Aj : Option Addr) (nj cj : Nat) (pj : List (R × Value)), (Value.pointer (some ⟨X0.heap.size, 0, none⟩)) = .pointer (some ⟨bj, 0, none⟩) ∧ W0.heap.size ≤ bj ∧ (((((((X13.setCell ⟨X0.heap.size, 0, none⟩ (.slice A3 (ps.length + qs.length) c3)).setCell ⟨X0.heap.size, 1, none⟩ (.int .i64 (IntKind.i64.wrap (a.n + b.n)))).setCell ⟨X0.heap.size, 2, none⟩ (.bool false)).setCell ⟨X0.heap.size, 3, none⟩ (.int .i64 0)).setCell ⟨X0.heap.size, 4, none⟩ (.int .i64 0)).setCell ⟨X0.heap.size, 5, none⟩ (.string ⟨#[]⟩))).heap[bj]? = some (.cells #[.slice Aj nj cj, .int .i64 (IntKind.i64.wrap (a.n + b.n)), .bool false, .int .i64 0, .int .i64 0, .string ⟨#[]⟩] 37) ∧ pj.map Prod.fst = a.rows ++ b.rows ∧ OwnRp 51 25 (((((((X13.setCell ⟨X0.heap.size, 0, none⟩ (.slice A3 (ps.length + qs.length) c3)).setCell ⟨X0.heap.size, 1, none⟩ (.int .i64 (IntKind.i64.wrap (a.n + b.n)))).setCell ⟨X0.heap.size, 2, none⟩ (.bool false)).setCell ⟨X0.heap.size, 3, none⟩ (.int .i64 0)).setCell ⟨X0.heap.size, 4, none⟩ (.int .i64 0)).setCell ⟨X0.heap.size, 5, none⟩ (.string ⟨#[]⟩))) W0.heap.size (((((((X13.setCell ⟨X0.heap.size, 0, none⟩ (.slice A3 (ps.length + qs.length) c3)).setCell ⟨X0.heap.size, 1, none⟩ (.int .i64 (IntKind.i64.wrap (a.n + b.n)))).setCell ⟨X0.heap.size, 2, none⟩ (.bool false)).setCell ⟨X0.heap.size, 3, none⟩ (.int .i64 0)).setCell ⟨X0.heap.size, 4, none⟩ (.int .i64 0)).setCell ⟨X0.heap.size, 5, none⟩ (.string ⟨#[]⟩))).heap.size (.slice Aj nj cj) pj ∧ Far bj (.slice Aj nj cj) pj ∧ Below W0.heap.size W0 (((((((X13.setCell ⟨X0.heap.size, 0, none⟩ (.slice A3 (ps.length + qs.length) c3)).setCell ⟨X0.heap.size, 1, none⟩ (.int .i64 (IntKind.i64.wrap (a.n + b.n)))).setCell ⟨X0.heap.size, 2, none⟩ (.bool false)).setCell ⟨X0.heap.size, 3, none⟩ (.int .i64 0)).setCell ⟨X0.heap.size, 4, none⟩ (.int .i64 0)).setCell ⟨X0.heap.size, 5, none⟩ (.string ⟨#[]⟩))) from ⟨X0.heap.size, A3, ps.length + qs.length, c3, ps ++ qs, rfl, hbt, G6, hmap, (J1.out.keepFar far.out hch).imp (fun _ _ _ => rfl) (by omega) (Nat.le_refl _), far.out, HB13.trans ((hch.below (Nat.le_refl _) (by omega)).mono hbt)⟩)
      clear G6 hch hbt hmap
      have t0 := cell_of_row X13 _ 0 _ _ _ GZ13.out
      have t1 := cell_of_row X13 _ 1 _ _ _ GZ13.out
      have t2 := cell_of_row X13 _ 2 _ _ _ GZ13.out
      have t3 := cell_of_row X13 _ 3 _ _ _ GZ13.out
      have t4 := cell_of_row X13 _ 4 _ _ _ GZ13.out
      have t5 := cell_of_row X13 _ 5 _ _ _ GZ13.out
      simp only [List.getElem?_toArray, List.getElem?_cons_zero, List.getElem?_cons_succ] at t0 t1 t2 t3 t4 t5
      have ft := fun o => frozen_of_row X13 _ o _ _ GZ13.out
      refine wpAnyT_one (k := 14) (o := _) (by kernel_rfl) rfl rfl ?_
      intro K hK
      go_simp
      refine hK.out _ _ (fun h => absurd rfl h) ?_
      clear hK
      refine wpAnyT_done (by kernel_rfl) ?_ _
      go_wp2_with fail
      go_meet
      with_reducible exact R.out
  case rest =>
    obtain ⟨bj, Aj, nj, cj, pj, rfl, hbj, hcj, hmap, hown, hfar, hB⟩ := hcut
    have sB := hB.size
    generalize hNN : IntKind.i64.wrap (a.n + b.n) = NN at hcj
    have HN := Lib.hid hNN
    clear hNN
    have hlj : bj < wc.heap.size := (Array.getElem?_eq_some_iff.1 hcj).1
    have J0 := Lib.hid (show JSt W0 wc.heap.size w.heap.size bj _ _ _ _ (.slice Aj nj cj) pj wc from ⟨(hB.block _ (by omega)).trans GQ.out, (hB.block _ (by omega)).trans GA.out, (hB.block _ (by omega)).trans GB.out, (hB.block _ (by omega)).trans GR.out, hcj, hown, hB, Nat.le_refl _, hs, ⟨hbj, hlj⟩, hfar⟩)
    have HM := Lib.hid hmap
    clear hcj hmap hown hfar hB GQ GA GB GR hTa hTb a0 a1 b0 b1
    have q0 := cell_of_row wc _ 0 _ _ _ J0.out.q
    simp only [List.getElem?_toArray, List.getElem?_cons_zero] at q0
    by_cases k45 : q.kind = 4 ∨ q.kind = 5
    rotate_left
    · have k4 : q.kind ≠ 4 := fun e => k45 (.inl e)
      have k5 : q.kind ≠ 5 := fun e => k45 (.inr e)
      have HJ := Lib.hid (show joined q a b = ⟨a.rows ++ b.rows, NN, false, V.zero⟩ by rw [joined_0 a b k4 k5, HN.out])
      have d4 : (q.kind != 4) = true := by simp [k4]
      have d5 : (q.kind != 5) = true := by simp [k5]
      clear k45 k4 k5
      have j0 := cell_of_row wc _ 0 _ _ _ J0.out.j
      have j1 := cell_of_row wc _ 1 _ _ _ J0.out.j
      have j2 := cell_of_row wc _ 2 _ _ _ J0.out.j
      have j3 := cell_of_row wc _ 3 _ _ _ J0.out.j
      have j4 := cell_of_row wc _ 4 _ _ _ J0.out.j
      have j5 := cell_of_row wc _ 5 _ _ _ J0.out.j
      simp only [List.getElem?_toArray, List.getElem?_cons_zero, List.getElem?_cons_succ] at j0 j1 j2 j3 j4 j5
      have p0 := cell_of_row wc _ 0 _ _ _ J0.out.r
      have p1 := cell_of_row wc _ 1 _ _ _ J0.out.r
      have p2 := cell_of_row wc _ 2 _ _ _ J0.out.r
      have p3 := cell_of_row wc _ 3 _ _ _ J0.out.r
      have p4 := cell_of_row wc _ 4 _ _ _ J0.out.r
      have p5 := cell_of_row wc _ 5 _ _ _ J0.out.r
      simp only [List.getElem?_toArray, List.getElem?_cons_zero, List.getElem?_cons_succ] at p0 p1 p2 p3 p4 p5
      have fr := fun o => frozen_of_row wc _ o _ _ J0.out.r
      go_wp2_with fail
      generalize hXF : ((((((wc.setCell ⟨w.heap.size + 1 + 1 + 1, 0, none⟩ (.slice Aj nj cj)).setCell ⟨w.heap.size + 1 + 1 + 1, 1, none⟩ (.int .i64 NN)).setCell ⟨w.heap.size + 1 + 1 + 1, 2, none⟩ (.bool false)).setCell ⟨w.heap.size + 1 + 1 + 1, 3, none⟩ (.int .i64 0)).setCell ⟨w.heap.size + 1 + 1 + 1, 4, none⟩ (.int .i64 0)).setCell ⟨w.heap.size + 1 + 1 + 1, 5, none⟩ (.string ⟨#[]⟩)) = XF at *
      obtain ⟨H6, RF, BF⟩ := J0.out.fin hXF.symm
      clear hXF
      have r0 := cell_of_row XF _ 0 _ _ _ H6
      have r1 := cell_of_row XF _ 1 _ _ _ H6
      have r2 := cell_of_row XF _ 2 _ _ _ H6
      have r3 := cell_of_row XF _ 3 _ _ _ H6
      have r4 := cell_of_row XF _ 4 _ _ _ H6
      have r5 := cell_of_row XF _ 5 _ _ _ H6
      simp only [List.getElem?_toArray, List.getElem?_cons_zero, List.getElem?_cons_succ] at r0 r1 r2 r3 r4 r5
      refine bodyPost_ret (v := .agg #[.slice Aj nj cj, .int .i64 NN, .bool false, .int .i64 0, .int .i64 0, .string ⟨#[]⟩]) ?_ rfl ⟨.slice Aj nj cj, (by first | (rw [HJ.out]; done) | (rw [HJ.out]; rfl)), ?_, (hup.mono (Nat.le_refl _)).trans BF⟩
      · simp [results, Tryz.results12, go_sem, r0, r1, r2, r3, r4, r5]
      · rw [HJ.out]
        exact ⟨pj, HM.out, RF⟩
    obtain ⟨i1, hif1, hy0, hy1, hy2⟩ := info_parts info_val
    replace hif1 := Lib.hid hif1
    replace hy0 := Lib.hid hy0
    replace hy1 := Lib.hid hy1
    replace hy2 := Lib.hid hy2
    have own0 := World.ownsRow_made wc (base := wc.heap.size) (e := 25) (size := 3) #[] 0 (Nat.le_refl _) (by decide) rfl
    have J1 := Lib.hid (J0.out.up (up_a1 wc (.cells #[] 25)))
    rcases k45 with k | k
    · have KK := Lib.hid k
      have d4 : (q.kind != 4) = false := by simp [k]
      have d5 : (q.kind == 5) = false := by simp [k]
      clear k
      cases hA : a.has
      rotate_left
      · have HA := Lib.hid hA
        cases hBb : b.has
        rotate_left
        · have HBb := Lib.hid hBb
          have HJ := Lib.hid (show joined q a b = ⟨a.rows ++ b.rows, NN, true, (zoneOf [a.v, b.v]).lo⟩ by rw [joined_4 a b KK.out, HN.out]; simp [hasVals, HA.out, HBb.out])
          clear hA hBb
          obtain ⟨zo, hzo⟩ : ∃ zo, zoneOf [a.v, b.v] = zo := ⟨_, rfl⟩
          rw [hzo] at HJ
          have HZ := Lib.hid hzo
          clear hzo
          have a2 := cell_of_row (wc.alloc (.cells #[] 25)) _ 2 _ _ _ J1.out.a
          have a3 := cell_of_row (wc.alloc (.cells #[] 25)) _ 3 _ _ _ J1.out.a
          have a4 := cell_of_row (wc.alloc (.cells #[] 25)) _ 4 _ _ _ J1.out.a
          have a5 := cell_of_row (wc.alloc (.cells #[] 25)) _ 5 _ _ _ J1.out.a
          simp only [List.getElem?_toArray, List.getElem?_cons_zero, List.getElem?_cons_succ] at a2 a3 a4 a5
          have b2 := cell_of_row (wc.alloc (.cells #[] 25)) _ 2 _ _ _ J1.out.b
          have b3 := cell_of_row (wc.alloc (.cells #[] 25)) _ 3 _ _ _ J1.out.b
          have b4 := cell_of_row (wc.alloc (.cells #[] 25)) _ 4 _ _ _ J1.out.b
          have b5 := cell_of_row (wc.alloc (.cells #[] 25)) _ 5 _ _ _ J1.out.b
          simp only [List.getElem?_toArray, List.getElem?_cons_zero, List.getElem?_cons_succ] at b2 b3 b4 b5
          rw [HA.out] at a2
          rw [HBb.out] at b2
          go_wp2_with (at_builtin; (refine wpl_app rfl _ _ 48 rfl wc.heap.size 25 i1 _ 3 32 Tryz.underlying48 hif1.out hy0.out hy1.out hy2.out rfl (by decide) (by decide) (own0.alloc (.cells #[.int .i64 a.v.ty, .int .i64 a.v.n, .string a.v.s] 25)) rfl (heap_new_atJ (n := wc.heap.size + 1) (by simp)) rfl rfl (by simp [Value.oneCell']) (by omega) (by first | omega | (simp <;> omega)) ?_))
          intro v1 Y1 own1 hg1 hn1
          obtain ⟨E1, e1, rfl, -, -, -⟩ := (Own.new own1).cells
          have dn1 := below_app (B := wc.heap.size) ((up_a1 (wc.alloc (.cells #[] 25)) (.cells #[.int .i64 a.v.ty, .int .i64 a.v.n, .string a.v.s] 25)).mono (by first | omega | (simp <;> omega))) (own0.alloc _) hg1 (by first | omega | (simp <;> omega))
          have J2 := Lib.hid (J1.out.up dn1)
          have s1 := dn1.size
          replace s1 : wc.heap.size ≤ Y1.heap.size := J2.out.z
          clear a2 a3 a4 a5 b2 b3 b4 b5 dn1 hg1 hn1
          have a2 := cell_of_row Y1 _ 2 _ _ _ J2.out.a
          have a3 := cell_of_row Y1 _ 3 _ _ _ J2.out.a
          have a4 := cell_of_row Y1 _ 4 _ _ _ J2.out.a
          have a5 := cell_of_row Y1 _ 5 _ _ _ J2.out.a
          simp only [List.getElem?_toArray, List.getElem?_cons_zero, List.getElem?_cons_succ] at a2 a3 a4 a5
          have b2 := cell_of_row Y1 _ 2 _ _ _ J2.out.b
          have b3 := cell_of_row Y1 _ 3 _ _ _ J2.out.b
          have b4 := cell_of_row Y1 _ 4 _ _ _ J2.out.b
          have b5 := cell_of_row Y1 _ 5 _ _ _ J2.out.b
          simp only [List.getElem?_toArray, List.getElem?_cons_zero, List.getElem?_cons_succ] at b2 b3 b4 b5
          rw [HA.out] at a2
          rw [HBb.out] at b2
          go_wp2_with (at_builtin; (refine wpl_app rfl _ _ 48 rfl wc.heap.size 25 i1 _ 3 32 Tryz.underlying48 hif1.out hy0.out hy1.out hy2.out rfl (by decide) (by decide) (own1.alloc (.cells #[.int .i64 b.v.ty, .int .i64 b.v.n, .string b.v.s] 25)) rfl (heap_alloc_new _ _) rfl rfl (by simp [Value.oneCell']) (by omega) (by first | omega | (simp <;> omega)) ?_))
          intro v2 Y2 own2 hg2 hn2
          obtain ⟨E2, e2, rfl, -, -, -⟩ := (Own.new own2).cells
          have dn2 := below_app (B := wc.heap.size) ((up_a1 Y1 (.cells #[.int .i64 b.v.ty, .int .i64 b.v.n, .string b.v.s] 25)).mono (by first | omega | (simp <;> omega))) (own1.alloc _) hg2 (by first | omega | (simp <;> omega))
          have J3 := Lib.hid (J2.out.up dn2)
          have s2 := dn2.size
          replace s2 : wc.heap.size ≤ Y2.heap.size := J3.out.z
          clear a2 a3 a4 a5 b2 b3 b4 b5 dn2 hg2 hn2
          have a2 := cell_of_row Y2 _ 2 _ _ _ J3.out.a
          have a3 := cell_of_row Y2 _ 3 _ _ _ J3.out.a
          have a4 := cell_of_row Y2 _ 4 _ _ _ J3.out.a
          have a5 := cell_of_row Y2 _ 5 _ _ _ J3.out.a
          simp only [List.getElem?_toArray, List.getElem?_cons_zero, List.getElem?_cons_succ] at a2 a3 a4 a5
          have b2 := cell_of_row Y2 _ 2 _ _ _ J3.out.b
          have b3 := cell_of_row Y2 _ 3 _ _ _ J3.out.b
          have b4 := cell_of_row Y2 _ 4 _ _ _ J3.out.b
          have b5 := cell_of_row Y2 _ 5 _ _ _ J3.out.b
          simp only [List.getElem?_toArray, List.getElem?_cons_zero, List.getElem?_cons_succ] at b2 b3 b4 b5
          rw [HA.out] at a2
          rw [HBb.out] at b2
          have fj := fun o => frozen_of_row Y2 _ o _ _ J3.out.j
          have Ow : Own 25 3 Y2 wc.heap.size Y2.heap.size (.slice E2 2 e2) ([a.v, b.v] : List V).length (([a.v, b.v] : List V).flatMap V.cells) := Own.new own2
          have OW := Lib.hid (Ow.same (w' := (Y2.setCell ⟨bj, 2, none⟩ (.bool true))) (fun g h1 _ => Below.heap_setCell Y2 ⟨bj, 2, none⟩ (.bool true) g (by show g ≠ bj; omega)))
          have y2 := cell_of_row Y2 _ 2 _ _ _ J3.out.j
          simp only [List.getElem?_toArray, List.getElem?_cons_zero, List.getElem?_cons_succ] at y2
          have J4 := Lib.hid (J3.out.set 2 (.bool true))
          simp only [List.setIfInBounds_toArray, List.set_cons_succ, List.set_cons_zero] at J4
          clear Ow
          go_wp2_with fail
          have hsz : (Y2.setCell ⟨bj, 2, none⟩ (.bool true)).heap.size = Y2.heap.size := by simp [World.setCell]
          have Hsz := Lib.hid hsz
          clear hsz
          generalize hZ1 : (Y2.setCell ⟨bj, 2, none⟩ (.bool true)) = Z1 at *
          clear hZ1 fj y2 a2 a3 a4 a5 b2 b3 b4 b5 own2
          have hT := Lib.hid (spec_ZoneOf [a.v, b.v] (.slice E2 2 e2) Z1 OW.out.rdV (by first | exact Nat.le_of_eq Hsz.out.symm | (rw [Hsz.out]; exact Nat.le_refl _)))
          rw [HZ.out] at hT
          refine hT.out.mono ?_
          clear hT
          rintro e Z2 ⟨rfl, hz2⟩
          have J5 := Lib.hid (J4.out.up (hz2.mono J4.out.z))
          have OW2 := Lib.hid (OW.out.below hz2 (Nat.le_of_eq Hsz.out.symm))
          have S2 := Lib.hid (Nat.le_trans (Nat.le_of_eq Hsz.out.symm) hz2.size)
          clear hz2 OW
          have fj := fun o => frozen_of_row Z2 _ o _ _ J5.out.j
          have q0 := cell_of_row Z2 _ 0 _ _ _ J5.out.q
          simp only [List.getElem?_toArray, List.getElem?_cons_zero] at q0
          have j0 := cell_of_row Z2 _ 0 _ _ _ J5.out.j
          have j1 := cell_of_row Z2 _ 1 _ _ _ J5.out.j
          have j2 := cell_of_row Z2 _ 2 _ _ _ J5.out.j
          have j3 := cell_of_row Z2 _ 3 _ _ _ J5.out.j
          have j4 := cell_of_row Z2 _ 4 _ _ _ J5.out.j
          have j5 := cell_of_row Z2 _ 5 _ _ _ J5.out.j
          simp only [List.getElem?_toArray, List.getElem?_cons_zero, List.getElem?_cons_succ] at j0 j1 j2 j3 j4 j5
          have p0 := cell_of_row Z2 _ 0 _ _ _ J5.out.r
          have p1 := cell_of_row Z2 _ 1 _ _ _ J5.out.r
          have p2 := cell_of_row Z2 _ 2 _ _ _ J5.out.r
          have p3 := cell_of_row Z2 _ 3 _ _ _ J5.out.r
          have p4 := cell_of_row Z2 _ 4 _ _ _ J5.out.r
          have p5 := cell_of_row Z2 _ 5 _ _ _ J5.out.r
          simp only [List.getElem?_toArray, List.getElem?_cons_zero, List.getElem?_cons_succ] at p0 p1 p2 p3 p4 p5
          have fr := fun o => frozen_of_row Z2 _ o _ _ J5.out.r
          have hfd : ∀ W : World, (Instr.field 53 (.agg #[.int .i64 zo.lo.ty, .int .i64 zo.lo.n, .string zo.lo.s, .int .i64 zo.hi.ty, .int .i64 zo.hi.n, .string zo.hi.s]) 0).run Tryz.prog W = .ok (.agg #[.int .i64 zo.lo.ty, .int .i64 zo.lo.n, .string zo.lo.s]) W := fun _ => by kernel_rfl
          go_wp2_with fail
          clear hfd
          have J6 := Lib.hid (((J5.out.set 3 (.int .i64 zo.lo.ty)).set 4 (.int .i64 zo.lo.n)).set 5 (.string zo.lo.s))
          simp only [List.setIfInBounds_toArray, List.set_cons_succ, List.set_cons_zero] at J6
          generalize hZ : (((Z2.setCell ⟨bj, 3, none⟩ (.int .i64 zo.lo.ty)).setCell ⟨bj, 4, none⟩ (.int .i64 zo.lo.n)).setCell ⟨bj, 5, none⟩ (.string zo.lo.s)) = Z3 at *
          clear hZ fj q0 j3 j4 j5 j0 j1 j2 p0 p1 p2 p3 p4 p5 fr
          generalize hXF : ((((((Z3.setCell ⟨w.heap.size + 1 + 1 + 1, 0, none⟩ (.slice Aj nj cj)).setCell ⟨w.heap.size + 1 + 1 + 1, 1, none⟩ (.int .i64 NN)).setCell ⟨w.heap.size + 1 + 1 + 1, 2, none⟩ (.bool true)).setCell ⟨w.heap.size + 1 + 1 + 1, 3, none⟩ (.int .i64 zo.lo.ty)).setCell ⟨w.heap.size + 1 + 1 + 1, 4, none⟩ (.int .i64 zo.lo.n)).setCell ⟨w.heap.size + 1 + 1 + 1, 5, none⟩ (.string zo.lo.s)) = XF at *
          obtain ⟨H6, RF, BF⟩ := J6.out.fin hXF.symm
          clear hXF
          have r0 := cell_of_row XF _ 0 _ _ _ H6
          have r1 := cell_of_row XF _ 1 _ _ _ H6
          have r2 := cell_of_row XF _ 2 _ _ _ H6
          have r3 := cell_of_row XF _ 3 _ _ _ H6
          have r4 := cell_of_row XF _ 4 _ _ _ H6
          have r5 := cell_of_row XF _ 5 _ _ _ H6
          simp only [List.getElem?_toArray, List.getElem?_cons_zero, List.getElem?_cons_succ] at r0 r1 r2 r3 r4 r5
          refine bodyPost_ret (v := .agg #[.slice Aj nj cj, .int .i64 NN, .bool true, .int .i64 zo.lo.ty, .int .i64 zo.lo.n, .string zo.lo.s]) ?_ rfl ⟨.slice Aj nj cj, (by first | (rw [HJ.out]; done) | (rw [HJ.out]; rfl)), ?_, (hup.mono (Nat.le_refl _)).trans BF⟩
          · simp [results, Tryz.results12, go_sem, r0, r1, r2, r3, r4, r5]
          · rw [HJ.out]
            exact ⟨pj, HM.out, RF⟩
        · have HBb := Lib.hid hBb
          have HJ := Lib.hid (show joined q a b = ⟨a.rows ++ b.rows, NN, true, (zoneOf [a.v]).lo⟩ by rw [joined_4 a b KK.out, HN.out]; simp [hasVals, HA.out, HBb.out])
          clear hA hBb
          obtain ⟨zo, hzo⟩ : ∃ zo, zoneOf [a.v] = zo := ⟨_, rfl⟩
          rw [hzo] at HJ
          have HZ := Lib.hid hzo
          clear hzo
          have a2 := cell_of_row (wc.alloc (.cells #[] 25)) _ 2 _ _ _ J1.out.a
          have a3 := cell_of_row (wc.alloc (.cells #[] 25)) _ 3 _ _ _ J1.out.a
          have a4 := cell_of_row (wc.alloc (.cells #[] 25)) _ 4 _ _ _ J1.out.a
          have a5 := cell_of_row (wc.alloc (.cells #[] 25)) _ 5 _ _ _ J1.out.a
          simp only [List.getElem?_toArray, List.getElem?_cons_zero, List.getElem?_cons_succ] at a2 a3 a4 a5
          have b2 := cell_of_row (wc.alloc (.cells #[] 25)) _ 2 _ _ _ J1.out.b
          have b3 := cell_of_row (wc.alloc (.cells #[] 25)) _ 3 _ _ _ J1.out.b
          have b4 := cell_of_row (wc.alloc (.cells #[] 25)) _ 4 _ _ _ J1.out.b
          have b5 := cell_of_row (wc.alloc (.cells #[] 25)) _ 5 _ _ _ J1.out.b
          simp only [List.getElem?_toArray, List.getElem?_cons_zero, List.getElem?_cons_succ] at b2 b3 b4 b5
          rw [HA.out] at a2
          rw [HBb.out] at b2
          go_wp2_with (at_builtin; (refine wpl_app rfl _ _ 48 rfl wc.heap.size 25 i1 _ 3 32 Tryz.underlying48 hif1.out hy0.out hy1.out hy2.out rfl (by decide) (by decide) (own0.alloc (.cells #[.int .i64 a.v.ty, .int .i64 a.v.n, .string a.v.s] 25)) rfl (heap_new_atJ (n := wc.heap.size + 1) (by simp)) rfl rfl (by simp [Value.oneCell']) (by omega) (by first | omega | (simp <;> omega)) ?_))
          intro v1 Y1 own1 hg1 hn1
          obtain ⟨E1, e1, rfl, -, -, -⟩ := (Own.new own1).cells
          have dn1 := below_app (B := wc.heap.size) ((up_a1 (wc.alloc (.cells #[] 25)) (.cells #[.int .i64 a.v.ty, .int .i64 a.v.n, .string a.v.s] 25)).mono (by first | omega | (simp <;> omega))) (own0.alloc _) hg1 (by first | omega | (simp <;> omega))
          have J2 := Lib.hid (J1.out.up dn1)
          have s1 := dn1.size
          replace s1 : wc.heap.size ≤ Y1.heap.size := J2.out.z
          clear a2 a3 a4 a5 b2 b3 b4 b5 dn1 hg1 hn1
          have a2 := cell_of_row Y1 _ 2 _ _ _ J2.out.a
          have a3 := cell_of_row Y1 _ 3 _ _ _ J2.out.a
          have a4 := cell_of_row Y1 _ 4 _ _ _ J2.out.a
          have a5 := cell_of_row Y1 _ 5 _ _ _ J2.out.a
          simp only [List.getElem?_toArray, List.getElem?_cons_zero, List.getElem?_cons_succ] at a2 a3 a4 a5
          have b2 := cell_of_row Y1 _ 2 _ _ _ J2.out.b
          have b3 := cell_of_row Y1 _ 3 _ _ _ J2.out.b
          have b4 := cell_of_row Y1 _ 4 _ _ _ J2.out.b
          have b5 := cell_of_row Y1 _ 5 _ _ _ J2.out.b
          simp only [List.getElem?_toArray, List.getElem?_cons_zero, List.getElem?_cons_succ] at b2 b3 b4 b5
          rw [HA.out] at a2
          rw [HBb.out] at b2
          have fj := fun o => frozen_of_row Y1 _ o _ _ J2.out.j
          have Ow : Own 25 3 Y1 wc.heap.size Y1.heap.size (.slice E1 1 e1) ([a.v] : List V).length (([a.v] : List V).flatMap V.cells) := Own.new own1
          have OW := Lib.hid (Ow.same (w' := (Y1.setCell ⟨bj, 2, none⟩ (.bool true))) (fun g h1 _ => Below.heap_setCell Y1 ⟨bj, 2, none⟩ (.bool true) g (by show g ≠ bj; omega)))
          have y2 := cell_of_row Y1 _ 2 _ _ _ J2.out.j
          simp only [List.getElem?_toArray, List.getElem?_cons_zero, List.getElem?_cons_succ] at y2
          have J3 := Lib.hid (J2.out.set 2 (.bool true))
          simp only [List.setIfInBounds_toArray, List.set_cons_succ, List.set_cons_zero] at J3
          clear Ow
          go_wp2_with fail
          have hsz : (Y1.setCell ⟨bj, 2, none⟩ (.bool true)).heap.size = Y1.heap.size := by simp [World.setCell]
          have Hsz := Lib.hid hsz
          clear hsz
          generalize hZ1 : (Y1.setCell ⟨bj, 2, none⟩ (.bool true)) = Z1 at *
          clear hZ1 fj y2 a2 a3 a4 a5 b2 b3 b4 b5 own1
          have hT := Lib.hid (spec_ZoneOf [a.v] (.slice E1 1 e1) Z1 OW.out.rdV (by first | exact Nat.le_of_eq Hsz.out.symm | (rw [Hsz.out]; exact Nat.le_refl _)))
          rw [HZ.out] at hT
          refine hT.out.mono ?_
          clear hT
          rintro e Z2 ⟨rfl, hz2⟩
          have J4 := Lib.hid (J3.out.up (hz2.mono J3.out.z))
          have OW2 := Lib.hid (OW.out.below hz2 (Nat.le_of_eq Hsz.out.symm))
          have S2 := Lib.hid (Nat.le_trans (Nat.le_of_eq Hsz.out.symm) hz2.size)
          clear hz2 OW
          have fj := fun o => frozen_of_row Z2 _ o _ _ J4.out.j
          have q0 := cell_of_row Z2 _ 0 _ _ _ J4.out.q
          simp only [List.getElem?_toArray, List.getElem?_cons_zero] at q0
          have j0 := cell_of_row Z2 _ 0 _ _ _ J4.out.j
          have j1 := cell_of_row Z2 _ 1 _ _ _ J4.out.j
          have j2 := cell_of_row Z2 _ 2 _ _ _ J4.out.j
          have j3 := cell_of_row Z2 _ 3 _ _ _ J4.out.j
          have j4 := cell_of_row Z2 _ 4 _ _ _ J4.out.j
          have j5 := cell_of_row Z2 _ 5 _ _ _ J4.out.j
          simp only [List.getElem?_toArray, List.getElem?_cons_zero, List.getElem?_cons_succ] at j0 j1 j2 j3 j4 j5
          have p0 := cell_of_row Z2 _ 0 _ _ _ J4.out.r
          have p1 := cell_of_row Z2 _ 1 _ _ _ J4.out.r
          have p2 := cell_of_row Z2 _ 2 _ _ _ J4.out.r
          have p3 := cell_of_row Z2 _ 3 _ _ _ J4.out.r
          have p4 := cell_of_row Z2 _ 4 _ _ _ J4.out.r
          have p5 := cell_of_row Z2 _ 5 _ _ _ J4.out.r
          simp only [List.getElem?_toArray, List.getElem?_cons_zero, List.getElem?_cons_succ] at p0 p1 p2 p3 p4 p5
          have fr := fun o => frozen_of_row Z2 _ o _ _ J4.out.r
          have hfd : ∀ W : World, (Instr.field 53 (.agg #[.int .i64 zo.lo.ty, .int .i64 zo.lo.n, .string zo.lo.s, .int .i64 zo.hi.ty, .int .i64 zo.hi.n, .string zo.hi.s]) 0).run Tryz.prog W = .ok (.agg #[.int .i64 zo.lo.ty, .int .i64 zo.lo.n, .string zo.lo.s]) W := fun _ => by kernel_rfl
          go_wp2_with fail
          clear hfd
          have J5 := Lib.hid (((J4.out.set 3 (.int .i64 zo.lo.ty)).set 4 (.int .i64 zo.lo.n)).set 5 (.string zo.lo.s))
          simp only [List.setIfInBounds_toArray, List.set_cons_succ, List.set_cons_zero] at J5
          generalize hZ : (((Z2.setCell ⟨bj, 3, none⟩ (.int .i64 zo.lo.ty)).setCell ⟨bj, 4, none⟩ (.int .i64 zo.lo.n)).setCell ⟨bj, 5, none⟩ (.string zo.lo.s)) = Z3 at *
          clear hZ fj q0 j3 j4 j5 j0 j1 j2 p0 p1 p2 p3 p4 p5 fr
          generalize hXF : ((((((Z3.setCell ⟨w.heap.size + 1 + 1 + 1, 0, none⟩ (.slice Aj nj cj)).setCell ⟨w.heap.size + 1 + 1 + 1, 1, none⟩ (.int .i64 NN)).setCell ⟨w.heap.size + 1 + 1 + 1, 2, none⟩ (.bool true)).setCell ⟨w.heap.size + 1 + 1 + 1, 3, none⟩ (.int .i64 zo.lo.ty)).setCell ⟨w.heap.size + 1 + 1 + 1, 4, none⟩ (.int .i64 zo.lo.n)).setCell ⟨w.heap.size + 1 + 1 + 1, 5, none⟩ (.string zo.lo.s)) = XF at *
          obtain ⟨H6, RF, BF⟩ := J5.out.fin hXF.symm
          clear hXF
          have r0 := cell_of_row XF _ 0 _ _ _ H6
          have r1 := cell_of_row XF _ 1 _ _ _ H6
          have r2 := cell_of_row XF _ 2 _ _ _ H6
          have r3 := cell_of_row XF _ 3 _ _ _ H6
          have r4 := cell_of_row XF _ 4 _ _ _ H6
          have r5 := cell_of_row XF _ 5 _ _ _ H6
          simp only [List.getElem?_toArray, List.getElem?_cons_zero, List.getElem?_cons_succ] at r0 r1 r2 r3 r4 r5
          refine bodyPost_ret (v := .agg #[.slice Aj nj cj, .int .i64 NN, .bool true, .int .i64 zo.lo.ty, .int .i64 zo.lo.n, .string zo.lo.s]) ?_ rfl ⟨.slice Aj nj cj, (by first | (rw [HJ.out]; done) | (rw [HJ.out]; rfl)), ?_, (hup.mono (Nat.le_refl _)).trans BF⟩
          · simp [results, Tryz.results12, go_sem, r0, r1, r2, r3, r4, r5]
          · rw [HJ.out]
            exact ⟨pj, HM.out, RF⟩
      · have HA := Lib.hid hA
        cases hBb : b.has
        rotate_left
        · have HBb := Lib.hid hBb
          have HJ := Lib.hid (show joined q a b = ⟨a.rows ++ b.rows, NN, true, (zoneOf [b.v]).lo⟩ by rw [joined_4 a b KK.out, HN.out]; simp [hasVals, HA.out, HBb.out])
          clear hA hBb
          obtain ⟨zo, hzo⟩ : ∃ zo, zoneOf [b.v] = zo := ⟨_, rfl⟩
          rw [hzo] at HJ
          have HZ := Lib.hid hzo
          clear hzo
          have a2 := cell_of_row (wc.alloc (.cells #[] 25)) _ 2 _ _ _ J1.out.a
          have a3 := cell_of_row (wc.alloc (.cells #[] 25)) _ 3 _ _ _ J1.out.a
          have a4 := cell_of_row (wc.alloc (.cells #[] 25)) _ 4 _ _ _ J1.out.a
          have a5 := cell_of_row (wc.alloc (.cells #[] 25)) _ 5 _ _ _ J1.out.a
          simp only [List.getElem?_toArray, List.getElem?_cons_zero, List.getElem?_cons_succ] at a2 a3 a4 a5
          have b2 := cell_of_row (wc.alloc (.cells #[] 25)) _ 2 _ _ _ J1.out.b
          have b3 := cell_of_row (wc.alloc (.cells #[] 25)) _ 3 _ _ _ J1.out.b
          have b4 := cell_of_row (wc.alloc (.cells #[] 25)) _ 4 _ _ _ J1.out.b
          have b5 := cell_of_row (wc.alloc (.cells #[] 25)) _ 5 _ _ _ J1.out.b
          simp only [List.getElem?_toArray, List.getElem?_cons_zero, List.getElem?_cons_succ] at b2 b3 b4 b5
          rw [HA.out] at a2
          rw [HBb.out] at b2
          go_wp2_with (at_builtin; (refine wpl_app rfl _ _ 48 rfl wc.heap.size 25 i1 _ 3 32 Tryz.underlying48 hif1.out hy0.out hy1.out hy2.out rfl (by decide) (by decide) (own0.alloc (.cells #[.int .i64 b.v.ty, .int .i64 b.v.n, .string b.v.s] 25)) rfl (heap_new_atJ (n := wc.heap.size + 1) (by simp)) rfl rfl (by simp [Value.oneCell']) (by omega) (by first | omega | (simp <;> omega)) ?_))
          intro v1 Y1 own1 hg1 hn1
          obtain ⟨E1, e1, rfl, -, -, -⟩ := (Own.new own1).cells
          have dn1 := below_app (B := wc.heap.size) ((up_a1 (wc.alloc (.cells #[] 25)) (.cells #[.int .i64 b.v.ty, .int .i64 b.v.n, .string b.v.s] 25)).mono (by first | omega | (simp <;> omega))) (own0.alloc _) hg1 (by first | omega | (simp <;> omega))
          have J2 := Lib.hid (J1.out.up dn1)
          have s1 := dn1.size
          replace s1 : wc.heap.size ≤ Y1.heap.size := J2.out.z
          clear a2 a3 a4 a5 b2 b3 b4 b5 dn1 hg1 hn1
          have a2 := cell_of_row Y1 _ 2 _ _ _ J2.out.a
          have a3 := cell_of_row Y1 _ 3 _ _ _ J2.out.a
          have a4 := cell_of_row Y1 _ 4 _ _ _ J2.out.a
          have a5 := cell_of_row Y1 _ 5 _ _ _ J2.out.a
          simp only [List.getElem?_toArray, List.getElem?_cons_zero, List.getElem?_cons_succ] at a2 a3 a4 a5
          have b2 := cell_of_row Y1 _ 2 _ _ _ J2.out.b
          have b3 := cell_of_row Y1 _ 3 _ _ _ J2.out.b
          have b4 := cell_of_row Y1 _ 4 _ _ _ J2.out.b
          have b5 := cell_of_row Y1 _ 5 _ _ _ J2.out.b
          simp only [List.getElem?_toArray, List.getElem?_cons_zero, List.getElem?_cons_succ] at b2 b3 b4 b5
          rw [HA.out] at a2
          rw [HBb.out] at b2
          have fj := fun o => frozen_of_row Y1 _ o _ _ J2.out.j
          have Ow : Own 25 3 Y1 wc.heap.size Y1.heap.size (.slice E1 1 e1) ([b.v] : List V).length (([b.v] : List V).flatMap V.cells) := Own.new own1
          have OW := Lib.hid (Ow.same (w' := (Y1.setCell ⟨bj, 2, none⟩ (.bool true))) (fun g h1 _ => Below.heap_setCell Y1 ⟨bj, 2, none⟩ (.bool true) g (by show g ≠ bj; omega)))
          have y2 := cell_of_row Y1 _ 2 _ _ _ J2.out.j
          simp only [List.getElem?_toArray, List.getElem?_cons_zero, List.getElem?_cons_succ] at y2
          have J3 := Lib.hid (J2.out.set 2 (.bool true))
          simp only [List.setIfInBounds_toArray, List.set_cons_succ, List.set_cons_zero] at J3
          clear Ow
          go_wp2_with fail
          have hsz : (Y1.setCell ⟨bj, 2, none⟩ (.bool true)).heap.size = Y1.heap.size := by simp [World.setCell]
          have Hsz := Lib.hid hsz
          clear hsz
          generalize hZ1 : (Y1.setCell ⟨bj, 2, none⟩ (.bool true)) = Z1 at *
          clear hZ1 fj y2 a2 a3 a4 a5 b2 b3 b4 b5 own1
          have hT := Lib.hid (spec_ZoneOf [b.v] (.slice E1 1 e1) Z1 OW.out.rdV (by first | exact Nat.le_of_eq Hsz.out.symm | (rw [Hsz.out]; exact Nat.le_refl _)))
          rw [HZ.out] at hT
          refine hT.out.mono ?_
          clear hT
          rintro e Z2 ⟨rfl, hz2⟩
          have J4 := Lib.hid (J3.out.up (hz2.mono J3.out.z))
          have OW2 := Lib.hid (OW.out.below hz2 (Nat.le_of_eq Hsz.out.symm))
          have S2 := Lib.hid (Nat.le_trans (Nat.le_of_eq Hsz.out.symm) hz2.size)
          clear hz2 OW
          have fj := fun o => frozen_of_row Z2 _ o _ _ J4.out.j
          have q0 := cell_of_row Z2 _ 0 _ _ _ J4.out.q
          simp only [List.getElem?_toArray, List.getElem?_cons_zero] at q0
          have j0 := cell_of_row Z2 _ 0 _ _ _ J4.out.j
          have j1 := cell_of_row Z2 _ 1 _ _ _ J4.out.j
          have j2 := cell_of_row Z2 _ 2 _ _ _ J4.out.j
          have j3 := cell_of_row Z2 _ 3 _ _ _ J4.out.j
          have j4 := cell_of_row Z2 _ 4 _ _ _ J4.out.j
          have j5 := cell_of_row Z2 _ 5 _ _ _ J4.out.j
          simp only [List.getElem?_toArray, List.getElem?_cons_zero, List.getElem?_cons_succ] at j0 j1 j2 j3 j4 j5
          have p0 := cell_of_row Z2 _ 0 _ _ _ J4.out.r
          have p1 := cell_of_row Z2 _ 1 _ _ _ J4.out.r
          have p2 := cell_of_row Z2 _ 2 _ _ _ J4.out.r
          have p3 := cell_of_row Z2 _ 3 _ _ _ J4.out.r
          have p4 := cell_of_row Z2 _ 4 _ _ _ J4.out.r
          have p5 := cell_of_row Z2 _ 5 _ _ _ J4.out.r
          simp only [List.getElem?_toArray, List.getElem?_cons_zero, List.getElem?_cons_succ] at p0 p1 p2 p3 p4 p5
          have fr := fun o => frozen_of_row Z2 _ o _ _ J4.out.r
          have hfd : ∀ W : World, (Instr.field 53 (.agg #[.int .i64 zo.lo.ty, .int .i64 zo.lo.n, .string zo.lo.s, .int .i64 zo.hi.ty, .int .i64 zo.hi.n, .string zo.hi.s]) 0).run Tryz.prog W = .ok (.agg #[.int .i64 zo.lo.ty, .int .i64 zo.lo.n, .string zo.lo.s]) W := fun _ => by kernel_rfl
          go_wp2_with fail
          clear hfd
          have J5 := Lib.hid (((J4.out.set 3 (.int .i64 zo.lo.ty)).set 4 (.int .i64 zo.lo.n)).set 5 (.string zo.lo.s))
          simp only [List.setIfInBounds_toArray, List.set_cons_succ, List.set_cons_zero] at J5
          generalize hZ : (((Z2.setCell ⟨bj, 3, none⟩ (.int .i64 zo.lo.ty)).setCell ⟨bj, 4, none⟩ (.int .i64 zo.lo.n)).setCell ⟨bj, 5, none⟩ (.string zo.lo.s)) = Z3 at *
          clear hZ fj q0 j3 j4 j5 j0 j1 j2 p0 p1 p2 p3 p4 p5 fr
          generalize hXF : ((((((Z3.setCell ⟨w.heap.size + 1 + 1 + 1, 0, none⟩ (.slice Aj nj cj)).setCell ⟨w.heap.size + 1 + 1 + 1, 1, none⟩ (.int .i64 NN)).setCell ⟨w.heap.size + 1 + 1 + 1, 2, none⟩ (.bool true)).setCell ⟨w.heap.size + 1 + 1 + 1, 3, none⟩ (.int .i64 zo.lo.ty)).setCell ⟨w.heap.size + 1 + 1 + 1, 4, none⟩ (.int .i64 zo.lo.n)).setCell ⟨w.heap.size + 1 + 1 + 1, 5, none⟩ (.string zo.lo.s)) = XF at *
          obtain ⟨H6, RF, BF⟩ := J5.out.fin hXF.symm
          clear hXF
          have r0 := cell_of_row XF _ 0 _ _ _ H6
          have r1 := cell_of_row XF _ 1 _ _ _ H6
          have r2 := cell_of_row XF _ 2 _ _ _ H6
          have r3 := cell_of_row XF _ 3 _ _ _ H6
          have r4 := cell_of_row XF _ 4 _ _ _ H6
          have r5 := cell_of_row XF _ 5 _ _ _ H6
          simp only [List.getElem?_toArray, List.getElem?_cons_zero, List.getElem?_cons_succ] at r0 r1 r2 r3 r4 r5
          refine bodyPost_ret (v := .agg #[.slice Aj nj cj, .int .i64 NN, .bool true, .int .i64 zo.lo.ty, .int .i64 zo.lo.n, .string zo.lo.s]) ?_ rfl ⟨.slice Aj nj cj, (by first | (rw [HJ.out]; done) | (rw [HJ.out]; rfl)), ?_, (hup.mono (Nat.le_refl _)).trans BF⟩
          · simp [results, Tryz.results12, go_sem, r0, r1, r2, r3, r4, r5]
          · rw [HJ.out]
            exact ⟨pj, HM.out, RF⟩
        · have HBb := Lib.hid hBb
          have HJ := Lib.hid (show joined q a b = ⟨a.rows ++ b.rows, NN, false, (zoneOf []).lo⟩ by rw [joined_4 a b KK.out, HN.out]; simp [hasVals, HA.out, HBb.out])
          clear hA hBb
          obtain ⟨zo, hzo⟩ : ∃ zo, zoneOf [] = zo := ⟨_, rfl⟩
          rw [hzo] at HJ
          have HZ := Lib.hid hzo
          clear hzo
          have a2 := cell_of_row (wc.alloc (.cells #[] 25)) _ 2 _ _ _ J1.out.a
          have a3 := cell_of_row (wc.alloc (.cells #[] 25)) _ 3 _ _ _ J1.out.a
          have a4 := cell_of_row (wc.alloc (.cells #[] 25)) _ 4 _ _ _ J1.out.a
          have a5 := cell_of_row (wc.alloc (.cells #[] 25)) _ 5 _ _ _ J1.out.a
          simp only [List.getElem?_toArray, List.getElem?_cons_zero, List.getElem?_cons_succ] at a2 a3 a4 a5
          have b2 := cell_of_row (wc.alloc (.cells #[] 25)) _ 2 _ _ _ J1.out.b
          have b3 := cell_of_row (wc.alloc (.cells #[] 25)) _ 3 _ _ _ J1.out.b
          have b4 := cell_of_row (wc.alloc (.cells #[] 25)) _ 4 _ _ _ J1.out.b
          have b5 := cell_of_row (wc.alloc (.cells #[] 25)) _ 5 _ _ _ J1.out.b
          simp only [List.getElem?_toArray, List.getElem?_cons_zero, List.getElem?_cons_succ] at b2 b3 b4 b5
          rw [HA.out] at a2
          rw [HBb.out] at b2
          have fj := fun o => frozen_of_row (wc.alloc (.cells #[] 25)) _ o _ _ J1.out.j
          have Ow : Own 25 3 (wc.alloc (.cells #[] 25)) wc.heap.size (wc.alloc (.cells #[] 25)).heap.size (.slice (some ⟨wc.heap.size, 0, none⟩) 0 0) ([] : List V).length (([] : List V).flatMap V.cells) := Own.new own0
          have OW := Lib.hid (Ow.same (w' := ((wc.alloc (.cells #[] 25)).setCell ⟨bj, 2, none⟩ (.bool false))) (fun g h1 _ => Below.heap_setCell (wc.alloc (.cells #[] 25)) ⟨bj, 2, none⟩ (.bool false) g (by show g ≠ bj; omega)))
          have y2 := cell_of_row (wc.alloc (.cells #[] 25)) _ 2 _ _ _ J1.out.j
          simp only [List.getElem?_toArray, List.getElem?_cons_zero, List.getElem?_cons_succ] at y2
          have J2 := Lib.hid (J1.out.set 2 (.bool false))
          simp only [List.setIfInBounds_toArray, List.set_cons_succ, List.set_cons_zero] at J2
          clear Ow
          go_wp2_with fail
          rw [show (wc.setCell ⟨bj, 2, none⟩ (.bool false)).alloc (.cells #[] 25) = ((wc.alloc (.cells #[] 25)).setCell ⟨bj, 2, none⟩ (.bool false)) from (World.setCell_alloc_past _ bj 2 _ hlj).symm]
          have hsz : ((wc.alloc (.cells #[] 25)).setCell ⟨bj, 2, none⟩ (.bool false)).heap.size = (wc.alloc (.cells #[] 25)).heap.size := by simp [World.setCell]
          have Hsz := Lib.hid hsz
          clear hsz
          generalize hZ1 : ((wc.alloc (.cells #[] 25)).setCell ⟨bj, 2, none⟩ (.bool false)) = Z1 at *
          clear hZ1 fj y2 a2 a3 a4 a5 b2 b3 b4 b5 own0
          have hT := Lib.hid (spec_ZoneOf [] (.slice (some ⟨wc.heap.size, 0, none⟩) 0 0) Z1 OW.out.rdV (by first | exact Nat.le_of_eq Hsz.out.symm | (rw [Hsz.out]; exact Nat.le_refl _)))
          rw [HZ.out] at hT
          refine hT.out.mono ?_
          clear hT
          rintro e Z2 ⟨rfl, hz2⟩
          have J3 := Lib.hid (J2.out.up (hz2.mono J2.out.z))
          have OW2 := Lib.hid (OW.out.below hz2 (Nat.le_of_eq Hsz.out.symm))
          have S2 := Lib.hid (Nat.le_trans (Nat.le_of_eq Hsz.out.symm) hz2.size)
          clear hz2 OW
          have fj := fun o => frozen_of_row Z2 _ o _ _ J3.out.j
          have q0 := cell_of_row Z2 _ 0 _ _ _ J3.out.q
          simp only [List.getElem?_toArray, List.getElem?_cons_zero] at q0
          have j0 := cell_of_row Z2 _ 0 _ _ _ J3.out.j
          have j1 := cell_of_row Z2 _ 1 _ _ _ J3.out.j
          have j2 := cell_of_row Z2 _ 2 _ _ _ J3.out.j
          have j3 := cell_of_row Z2 _ 3 _ _ _ J3.out.j
          have j4 := cell_of_row Z2 _ 4 _ _ _ J3.out.j
          have j5 := cell_of_row Z2 _ 5 _ _ _ J3.out.j
          simp only [List.getElem?_toArray, List.getElem?_cons_zero, List.getElem?_cons_succ] at j0 j1 j2 j3 j4 j5
          have p0 := cell_of_row Z2 _ 0 _ _ _ J3.out.r
          have p1 := cell_of_row Z2 _ 1 _ _ _ J3.out.r
          have p2 := cell_of_row Z2 _ 2 _ _ _ J3.out.r
          have p3 := cell_of_row Z2 _ 3 _ _ _ J3.out.r
          have p4 := cell_of_row Z2 _ 4 _ _ _ J3.out.r
          have p5 := cell_of_row Z2 _ 5 _ _ _ J3.out.r
          simp only [List.getElem?_toArray, List.getElem?_cons_zero, List.getElem?_cons_succ] at p0 p1 p2 p3 p4 p5
          have fr := fun o => frozen_of_row Z2 _ o _ _ J3.out.r
          have hfd : ∀ W : World, (Instr.field 53 (.agg #[.int .i64 zo.lo.ty, .int .i64 zo.lo.n, .string zo.lo.s, .int .i64 zo.hi.ty, .int .i64 zo.hi.n, .string zo.hi.s]) 0).run Tryz.prog W = .ok (.agg #[.int .i64 zo.lo.ty, .int .i64 zo.lo.n, .string zo.lo.s]) W := fun _ => by kernel_rfl
          go_wp2_with fail
          clear hfd
          have J4 := Lib.hid (((J3.out.set 3 (.int .i64 zo.lo.ty)).set 4 (.int .i64 zo.lo.n)).set 5 (.string zo.lo.s))
          simp only [List.setIfInBounds_toArray, List.set_cons_succ, List.set_cons_zero] at J4
          generalize hZ : (((Z2.setCell ⟨bj, 3, none⟩ (.int .i64 zo.lo.ty)).setCell ⟨bj, 4, none⟩ (.int .i64 zo.lo.n)).setCell ⟨bj, 5, none⟩ (.string zo.lo.s)) = Z3 at *
          clear hZ fj q0 j3 j4 j5 j0 j1 j2 p0 p1 p2 p3 p4 p5 fr
          generalize hXF : ((((((Z3.setCell ⟨w.heap.size + 1 + 1 + 1, 0, none⟩ (.slice Aj nj cj)).setCell ⟨w.heap.size + 1 + 1 + 1, 1, none⟩ (.int .i64 NN)).setCell ⟨w.heap.size + 1 + 1 + 1, 2, none⟩ (.bool false)).setCell ⟨w.heap.size + 1 + 1 + 1, 3, none⟩ (.int .i64 zo.lo.ty)).setCell ⟨w.heap.size + 1 + 1 + 1, 4, none⟩ (.int .i64 zo.lo.n)).setCell ⟨w.heap.size + 1 + 1 + 1, 5, none⟩ (.string zo.lo.s)) = XF at *
          obtain ⟨H6, RF, BF⟩ := J4.out.fin hXF.symm
          clear hXF
          have r0 := cell_of_row XF _ 0 _ _ _ H6
          have r1 := cell_of_row XF _ 1 _ _ _ H6
          have r2 := cell_of_row XF _ 2 _ _ _ H6
          have r3 := cell_of_row XF _ 3 _ _ _ H6
          have r4 := cell_of_row XF _ 4 _ _ _ H6
          have r5 := cell_of_row XF _ 5 _ _ _ H6
          simp only [List.getElem?_toArray, List.getElem?_cons_zero, List.getElem?_cons_succ] at r0 r1 r2 r3 r4 r5
          refine bodyPost_ret (v := .agg #[.slice Aj nj cj, .int .i64 NN, .bool false, .int .i64 zo.lo.ty, .int .i64 zo.lo.n, .string zo.lo.s]) ?_ rfl ⟨.slice Aj nj cj, (by first | (rw [HJ.out]; done) | (rw [HJ.out]; rfl)), ?_, (hup.mono (Nat.le_refl _)).trans BF⟩
          · simp [results, Tryz.results12, go_sem, r0, r1, r2, r3, r4, r5]
          · rw [HJ.out]
            exact ⟨pj, HM.out, RF⟩
    · have KK := Lib.hid k
      have d4 : (q.kind != 4) = true := by simp [k]
      have d5 : (q.kind != 5) = false := by simp [k]
      have d6 : (q.kind == 5) = true := by simp [k]
      clear k
      cases hA : a.has
      rotate_left
      · have HA := Lib.hid hA
        cases hBb : b.has
        rotate_left
        · have HBb := Lib.hid hBb
          have HJ := Lib.hid (show joined q a b = ⟨a.rows ++ b.rows, NN, true, (zoneOf [a.v, b.v]).hi⟩ by rw [joined_5 a b KK.out, HN.out]; simp [hasVals, HA.out, HBb.out])
          clear hA hBb
          obtain ⟨zo, hzo⟩ : ∃ zo, zoneOf [a.v, b.v] = zo := ⟨_, rfl⟩
          rw [hzo] at HJ
          have HZ := Lib.hid hzo
          clear hzo
          have a2 := cell_of_row (wc.alloc (.cells #[] 25)) _ 2 _ _ _ J1.out.a
          have a3 := cell_of_row (wc.alloc (.cells #[] 25)) _ 3 _ _ _ J1.out.a
          have a4 := cell_of_row (wc.alloc (.cells #[] 25)) _ 4 _ _ _ J1.out.a
          have a5 := cell_of_row (wc.alloc (.cells #[] 25)) _ 5 _ _ _ J1.out.a
          simp only [List.getElem?_toArray, List.getElem?_cons_zero, List.getElem?_cons_succ] at a2 a3 a4 a5
          have b2 := cell_of_row (wc.alloc (.cells #[] 25)) _ 2 _ _ _ J1.out.b
          have b3 := cell_of_row (wc.alloc (.cells #[] 25)) _ 3 _ _ _ J1.out.b
          have b4 := cell_of_row (wc.alloc (.cells #[] 25)) _ 4 _ _ _ J1.out.b
          have b5 := cell_of_row (wc.alloc (.cells #[] 25)) _ 5 _ _ _ J1.out.b
          simp only [List.getElem?_toArray, List.getElem?_cons_zero, List.getElem?_cons_succ] at b2 b3 b4 b5
          rw [HA.out] at a2
          rw [HBb.out] at b2
          go_wp2_with (at_builtin; (refine wpl_app rfl _ _ 48 rfl wc.heap.size 25 i1 _ 3 32 Tryz.underlying48 hif1.out hy0.out hy1.out hy2.out rfl (by decide) (by decide) (own0.alloc (.cells #[.int .i64 a.v.ty, .int .i64 a.v.n, .string a.v.s] 25)) rfl (heap_new_atJ (n := wc.heap.size + 1) (by simp)) rfl rfl (by simp [Value.oneCell']) (by omega) (by first | omega | (simp <;> omega)) ?_))
          intro v1 Y1 own1 hg1 hn1
          obtain ⟨E1, e1, rfl, -, -, -⟩ := (Own.new own1).cells
          have dn1 := below_app (B := wc.heap.size) ((up_a1 (wc.alloc (.cells #[] 25)) (.cells #[.int .i64 a.v.ty, .int .i64 a.v.n, .string a.v.s] 25)).mono (by first | omega | (simp <;> omega))) (own0.alloc _) hg1 (by first | omega | (simp <;> omega))
          have J2 := Lib.hid (J1.out.up dn1)
          have s1 := dn1.size
          replace s1 : wc.heap.size ≤ Y1.heap.size := J2.out.z
          clear a2 a3 a4 a5 b2 b3 b4 b5 dn1 hg1 hn1
          have a2 := cell_of_row Y1 _ 2 _ _ _ J2.out.a
          have a3 := cell_of_row Y1 _ 3 _ _ _ J2.out.a
          have a4 := cell_of_row Y1 _ 4 _ _ _ J2.out.a
          have a5 := cell_of_row Y1 _ 5 _ _ _ J2.out.a
          simp only [List.getElem?_toArray, List.getElem?_cons_zero, List.getElem?_cons_succ] at a2 a3 a4 a5
          have b2 := cell_of_row Y1 _ 2 _ _ _ J2.out.b
          have b3 := cell_of_row Y1 _ 3 _ _ _ J2.out.b
          have b4 := cell_of_row Y1 _ 4 _ _ _ J2.out.b
          have b5 := cell_of_row Y1 _ 5 _ _ _ J2.out.b
          simp only [List.getElem?_toArray, List.getElem?_cons_zero, List.getElem?_cons_succ] at b2 b3 b4 b5
          rw [HA.out] at a2
          rw [HBb.out] at b2
          go_wp2_with (at_builtin; (refine wpl_app rfl _ _ 48 rfl wc.heap.size 25 i1 _ 3 32 Tryz.underlying48 hif1.out hy0.out hy1.out hy2.out rfl (by decide) (by decide) (own1.alloc (.cells #[.int .i64 b.v.ty, .int .i64 b.v.n, .string b.v.s] 25)) rfl (heap_alloc_new _ _) rfl rfl (by simp [Value.oneCell']) (by omega) (by first | omega | (simp <;> omega)) ?_))
          intro v2 Y2 own2 hg2 hn2
          obtain ⟨E2, e2, rfl, -, -, -⟩ := (Own.new own2).cells
          have dn2 := below_app (B := wc.heap.size) ((up_a1 Y1 (.cells #[.int .i64 b.v.ty, .int .i64 b.v.n, .string b.v.s] 25)).mono (by first | omega | (simp <;> omega))) (own1.alloc _) hg2 (by first | omega | (simp <;> omega))
          have J3 := Lib.hid (J2.out.up dn2)
          have s2 := dn2.size
          replace s2 : wc.heap.size ≤ Y2.heap.size := J3.out.z
          clear a2 a3 a4 a5 b2 b3 b4 b5 dn2 hg2 hn2
          have a2 := cell_of_row Y2 _ 2 _ _ _ J3.out.a
          have a3 := cell_of_row Y2 _ 3 _ _ _ J3.out.a
          have a4 := cell_of_row Y2 _ 4 _ _ _ J3.out.a
          have a5 := cell_of_row Y2 _ 5 _ _ _ J3.out.a
          simp only [List.getElem?_toArray, List.getElem?_cons_zero, List.getElem?_cons_succ] at a2 a3 a4 a5
          have b2 := cell_of_row Y2 _ 2 _ _ _ J3.out.b
          have b3 := cell_of_row Y2 _ 3 _ _ _ J3.out.b
          have b4 := cell_of_row Y2 _ 4 _ _ _ J3.out.b
          have b5 := cell_of_row Y2 _ 5 _ _ _ J3.out.b
          simp only [List.getElem?_toArray, List.getElem?_cons_zero, List.getElem?_cons_succ] at b2 b3 b4 b5
          rw [HA.out] at a2
          rw [HBb.out] at b2
          have fj := fun o => frozen_of_row Y2 _ o _ _ J3.out.j
          have Ow : Own 25 3 Y2 wc.heap.size Y2.heap.size (.slice E2 2 e2) ([a.v, b.v] : List V).length (([a.v, b.v] : List V).flatMap V.cells) := Own.new own2
          have OW := Lib.hid (Ow.same (w' := (Y2.setCell ⟨bj, 2, none⟩ (.bool true))) (fun g h1 _ => Below.heap_setCell Y2 ⟨bj, 2, none⟩ (.bool true) g (by show g ≠ bj; omega)))
          have y2 := cell_of_row Y2 _ 2 _ _ _ J3.out.j
          simp only [List.getElem?_toArray, List.getElem?_cons_zero, List.getElem?_cons_succ] at y2
          have J4 := Lib.hid (J3.out.set 2 (.bool true))
          simp only [List.setIfInBounds_toArray, List.set_cons_succ, List.set_cons_zero] at J4
          clear Ow
          go_wp2_with fail
          have hsz : (Y2.setCell ⟨bj, 2, none⟩ (.bool true)).heap.size = Y2.heap.size := by simp [World.setCell]
          have Hsz := Lib.hid hsz
          clear hsz
          generalize hZ1 : (Y2.setCell ⟨bj, 2, none⟩ (.bool true)) = Z1 at *
          clear hZ1 fj y2 a2 a3 a4 a5 b2 b3 b4 b5 own2
          have hT := Lib.hid (spec_ZoneOf [a.v, b.v] (.slice E2 2 e2) Z1 OW.out.rdV (by first | exact Nat.le_of_eq Hsz.out.symm | (rw [Hsz.out]; exact Nat.le_refl _)))
          rw [HZ.out] at hT
          refine hT.out.mono ?_
          clear hT
          rintro e Z2 ⟨rfl, hz2⟩
          have J5 := Lib.hid (J4.out.up (hz2.mono J4.out.z))
          have OW2 := Lib.hid (OW.out.below hz2 (Nat.le_of_eq Hsz.out.symm))
          have S2 := Lib.hid (Nat.le_trans (Nat.le_of_eq Hsz.out.symm) hz2.size)
          clear hz2 OW
          have fj := fun o => frozen_of_row Z2 _ o _ _ J5.out.j
          have q0 := cell_of_row Z2 _ 0 _ _ _ J5.out.q
          simp only [List.getElem?_toArray, List.getElem?_cons_zero] at q0
          have j3 := cell_of_row Z2 _ 3 _ _ _ J5.out.j
          have j4 := cell_of_row Z2 _ 4 _ _ _ J5.out.j
          have j5 := cell_of_row Z2 _ 5 _ _ _ J5.out.j
          simp only [List.getElem?_toArray, List.getElem?_cons_zero, List.getElem?_cons_succ] at j3 j4 j5
          have hfd : ∀ W : World, (Instr.field 53 (.agg #[.int .i64 zo.lo.ty, .int .i64 zo.lo.n, .string zo.lo.s, .int .i64 zo.hi.ty, .int .i64 zo.hi.n, .string zo.hi.s]) 0).run Tryz.prog W = .ok (.agg #[.int .i64 zo.lo.ty, .int .i64 zo.lo.n, .string zo.lo.s]) W := fun _ => by kernel_rfl
          go_wp2_with fail
          clear hfd
          have J6 := Lib.hid (((J5.out.set 3 (.int .i64 zo.lo.ty)).set 4 (.int .i64 zo.lo.n)).set 5 (.string zo.lo.s))
          simp only [List.setIfInBounds_toArray, List.set_cons_succ, List.set_cons_zero] at J6
          have OW3 := Lib.hid (OW2.out.same (w' := (((Z2.setCell ⟨bj, 3, none⟩ (.int .i64 zo.lo.ty)).setCell ⟨bj, 4, none⟩ (.int .i64 zo.lo.n)).setCell ⟨bj, 5, none⟩ (.string zo.lo.s))) (fun g h1 _ => ((Below.heap_setCell _ ⟨bj, 5, none⟩ _ g (by show g ≠ bj; omega)).trans (Below.heap_setCell _ ⟨bj, 4, none⟩ _ g (by show g ≠ bj; omega))).trans (Below.heap_setCell _ ⟨bj, 3, none⟩ _ g (by show g ≠ bj; omega))))
          have Hs3 := Lib.hid (show (((Z2.setCell ⟨bj, 3, none⟩ (.int .i64 zo.lo.ty)).setCell ⟨bj, 4, none⟩ (.int .i64 zo.lo.n)).setCell ⟨bj, 5, none⟩ (.string zo.lo.s)).heap.size = Z2.heap.size by simp [World.setCell])
          generalize hZ : (((Z2.setCell ⟨bj, 3, none⟩ (.int .i64 zo.lo.ty)).setCell ⟨bj, 4, none⟩ (.int .i64 zo.lo.n)).setCell ⟨bj, 5, none⟩ (.string zo.lo.s)) = Z3 at *
          clear hZ fj q0 j3 j4 j5
          have q0 := cell_of_row Z3 _ 0 _ _ _ J6.out.q
          simp only [List.getElem?_toArray, List.getElem?_cons_zero] at q0
          go_wp2_with fail
          have hT := Lib.hid (spec_ZoneOf [a.v, b.v] (.slice E2 2 e2) Z3 OW3.out.rdV (by rw [Hs3.out]; exact S2.out))
          rw [HZ.out] at hT
          refine hT.out.mono ?_
          clear hT q0
          rintro e Z4 ⟨rfl, hz4⟩
          have J7 := Lib.hid (J6.out.up (hz4.mono J6.out.z))
          clear hz4
          have fj := fun o => frozen_of_row Z4 _ o _ _ J7.out.j
          have j0 := cell_of_row Z4 _ 0 _ _ _ J7.out.j
          have j1 := cell_of_row Z4 _ 1 _ _ _ J7.out.j
          have j2 := cell_of_row Z4 _ 2 _ _ _ J7.out.j
          have j3 := cell_of_row Z4 _ 3 _ _ _ J7.out.j
          have j4 := cell_of_row Z4 _ 4 _ _ _ J7.out.j
          have j5 := cell_of_row Z4 _ 5 _ _ _ J7.out.j
          simp only [List.getElem?_toArray, List.getElem?_cons_zero, List.getElem?_cons_succ] at j0 j1 j2 j3 j4 j5
          have p0 := cell_of_row Z4 _ 0 _ _ _ J7.out.r
          have p1 := cell_of_row Z4 _ 1 _ _ _ J7.out.r
          have p2 := cell_of_row Z4 _ 2 _ _ _ J7.out.r
          have p3 := cell_of_row Z4 _ 3 _ _ _ J7.out.r
          have p4 := cell_of_row Z4 _ 4 _ _ _ J7.out.r
          have p5 := cell_of_row Z4 _ 5 _ _ _ J7.out.r
          simp only [List.getElem?_toArray, List.getElem?_cons_zero, List.getElem?_cons_succ] at p0 p1 p2 p3 p4 p5
          have fr := fun o => frozen_of_row Z4 _ o _ _ J7.out.r
          have hfd : ∀ W : World, (Instr.field 53 (.agg #[.int .i64 zo.lo.ty, .int .i64 zo.lo.n, .string zo.lo.s, .int .i64 zo.hi.ty, .int .i64 zo.hi.n, .string zo.hi.s]) 1).run Tryz.prog W = .ok (.agg #[.int .i64 zo.hi.ty, .int .i64 zo.hi.n, .string zo.hi.s]) W := fun _ => by kernel_rfl
          go_wp2_with fail
          clear hfd
          have J8 := Lib.hid (((J7.out.set 3 (.int .i64 zo.hi.ty)).set 4 (.int .i64 zo.hi.n)).set 5 (.string zo.hi.s))
          simp only [List.setIfInBounds_toArray, List.set_cons_succ, List.set_cons_zero] at J8
          generalize hZ : (((Z4.setCell ⟨bj, 3, none⟩ (.int .i64 zo.hi.ty)).setCell ⟨bj, 4, none⟩ (.int .i64 zo.hi.n)).setCell ⟨bj, 5, none⟩ (.string zo.hi.s)) = Z5 at *
          clear hZ fj j0 j1 j2 j3 j4 j5 p0 p1 p2 p3 p4 p5 fr
          generalize hXF : ((((((Z5.setCell ⟨w.heap.size + 1 + 1 + 1, 0, none⟩ (.slice Aj nj cj)).setCell ⟨w.heap.size + 1 + 1 + 1, 1, none⟩ (.int .i64 NN)).setCell ⟨w.heap.size + 1 + 1 + 1, 2, none⟩ (.bool true)).setCell ⟨w.heap.size + 1 + 1 + 1, 3, none⟩ (.int .i64 zo.hi.ty)).setCell ⟨w.heap.size + 1 + 1 + 1, 4, none⟩ (.int .i64 zo.hi.n)).setCell ⟨w.heap.size + 1 + 1 + 1, 5, none⟩ (.string zo.hi.s)) = XF at *
          obtain ⟨H6, RF, BF⟩ := J8.out.fin hXF.symm
          clear hXF
          have r0 := cell_of_row XF _ 0 _ _ _ H6
          have r1 := cell_of_row XF _ 1 _ _ _ H6
          have r2 := cell_of_row XF _ 2 _ _ _ H6
          have r3 := cell_of_row XF _ 3 _ _ _ H6
          have r4 := cell_of_row XF _ 4 _ _ _ H6
          have r5 := cell_of_row XF _ 5 _ _ _ H6
          simp only [List.getElem?_toArray, List.getElem?_cons_zero, List.getElem?_cons_succ] at r0 r1 r2 r3 r4 r5
          refine bodyPost_ret (v := .agg #[.slice Aj nj cj, .int .i64 NN, .bool true, .int .i64 zo.hi.ty, .int .i64 zo.hi.n, .string zo.hi.s]) ?_ rfl ⟨.slice Aj nj cj, (by first | (rw [HJ.out]; done) | (rw [HJ.out]; rfl)), ?_, (hup.mono (Nat.le_refl _)).trans BF⟩
          · simp [results, Tryz.results12, go_sem, r0, r1, r2, r3, r4, r5]
          · rw [HJ.out]
            exact ⟨pj, HM.out, RF⟩
        · have HBb := Lib.hid hBb
          have HJ := Lib.hid (show joined q a b = ⟨a.rows ++ b.rows, NN, true, (zoneOf [a.v]).hi⟩ by rw [joined_5 a b KK.out, HN.out]; simp [hasVals, HA.out, HBb.out])
          clear hA hBb
          obtain ⟨zo, hzo⟩ : ∃ zo, zoneOf [a.v] = zo := ⟨_, rfl⟩
          rw [hzo] at HJ
          have HZ := Lib.hid hzo
          clear hzo
          have a2 := cell_of_row (wc.alloc (.cells #[] 25)) _ 2 _ _ _ J1.out.a
          have a3 := cell_of_row (wc.alloc (.cells #[] 25)) _ 3 _ _ _ J1.out.a
          have a4 := cell_of_row (wc.alloc (.cells #[] 25)) _ 4 _ _ _ J1.out.a
          have a5 := cell_of_row (wc.alloc (.cells #[] 25)) _ 5 _ _ _ J1.out.a
          simp only [List.getElem?_toArray, List.getElem?_cons_zero, List.getElem?_cons_succ] at a2 a3 a4 a5
          have b2 := cell_of_row (wc.alloc (.cells #[] 25)) _ 2 _ _ _ J1.out.b
          have b3 := cell_of_row (wc.alloc (.cells #[] 25)) _ 3 _ _ _ J1.out.b
          have b4 := cell_of_row (wc.alloc (.cells #[] 25)) _ 4 _ _ _ J1.out.b
          have b5 := cell_of_row (wc.alloc (.cells #[] 25)) _ 5 _ _ _ J1.out.b
          simp only [List.getElem?_toArray, List.getElem?_cons_zero, List.getElem?_cons_succ] at b2 b3 b4 b5
          rw [HA.out] at a2
          rw [HBb.out] at b2
          go_wp2_with (at_builtin; (refine wpl_app rfl _ _ 48 rfl wc.heap.size 25 i1 _ 3 32 Tryz.underlying48 hif1.out hy0.out hy1.out hy2.out rfl (by decide) (by decide) (own0.alloc (.cells #[.int .i64 a.v.ty, .int .i64 a.v.n, .string a.v.s] 25)) rfl (heap_new_atJ (n := wc.heap.size + 1) (by simp)) rfl rfl (by simp [Value.oneCell']) (by omega) (by first | omega | (simp <;> omega)) ?_))
          intro v1 Y1 own1 hg1 hn1
          obtain ⟨E1, e1, rfl, -, -, -⟩ := (Own.new own1).cells
          have dn1 := below_app (B := wc.heap.size) ((up_a1 (wc.alloc (.cells #[] 25)) (.cells #[.int .i64 a.v.ty, .int .i64 a.v.n, .string a.v.s] 25)).mono (by first | omega | (simp <;> omega))) (own0.alloc _) hg1 (by first | omega | (simp <;> omega))
          have J2 := Lib.hid (J1.out.up dn1)
          have s1 := dn1.size
          replace s1 : wc.heap.size ≤ Y1.heap.size := J2.out.z
          clear a2 a3 a4 a5 b2 b3 b4 b5 dn1 hg1 hn1
          have a2 := cell_of_row Y1 _ 2 _ _ _ J2.out.a
          have a3 := cell_of_row Y1 _ 3 _ _ _ J2.out.a
          have a4 := cell_of_row Y1 _ 4 _ _ _ J2.out.a
          have a5 := cell_of_row Y1 _ 5 _ _ _ J2.out.a
          simp only [List.getElem?_toArray, List.getElem?_cons_zero, List.getElem?_cons_succ] at a2 a3 a4 a5
          have b2 := cell_of_row Y1 _ 2 _ _ _ J2.out.b
          have b3 := cell_of_row Y1 _ 3 _ _ _ J2.out.b
          have b4 := cell_of_row Y1 _ 4 _ _ _ J2.out.b
          have b5 := cell_of_row Y1 _ 5 _ _ _ J2.out.b
          simp only [List.getElem?_toArray, List.getElem?_cons_zero, List.getElem?_cons_succ] at b2 b3 b4 b5
          rw [HA.out] at a2
          rw [HBb.out] at b2
          have fj := fun o => frozen_of_row Y1 _ o _ _ J2.out.j
          have Ow : Own 25 3 Y1 wc.heap.size Y1.heap.size (.slice E1 1 e1) ([a.v] : List V).length (([a.v] : List V).flatMap V.cells) := Own.new own1
          have OW := Lib.hid (Ow.same (w' := (Y1.setCell ⟨bj, 2, none⟩ (.bool true))) (fun g h1 _ => Below.heap_setCell Y1 ⟨bj, 2, none⟩ (.bool true) g (by show g ≠ bj; omega)))
          have y2 := cell_of_row Y1 _ 2 _ _ _ J2.out.j
          simp only [List.getElem?_toArray, List.getElem?_cons_zero, List.getElem?_cons_succ] at y2
          have J3 := Lib.hid (J2.out.set 2 (.bool true))
          simp only [List.setIfInBounds_toArray, List.set_cons_succ, List.set_cons_zero] at J3
          clear Ow
          go_wp2_with fail
          have hsz : (Y1.setCell ⟨bj, 2, none⟩ (.bool true)).heap.size = Y1.heap.size := by simp [World.setCell]
          have Hsz := Lib.hid hsz
          clear hsz
          generalize hZ1 : (Y1.setCell ⟨bj, 2, none⟩ (.bool true)) = Z1 at *
          clear hZ1 fj y2 a2 a3 a4 a5 b2 b3 b4 b5 own1
          have hT := Lib.hid (spec_ZoneOf [a.v] (.slice E1 1 e1) Z1 OW.out.rdV (by first | exact Nat.le_of_eq Hsz.out.symm | (rw [Hsz.out]; exact Nat.le_refl _)))
          rw [HZ.out] at hT
          refine hT.out.mono ?_
          clear hT
          rintro e Z2 ⟨rfl, hz2⟩
          have J4 := Lib.hid (J3.out.up (hz2.mono J3.out.z))
          have OW2 := Lib.hid (OW.out.below hz2 (Nat.le_of_eq Hsz.out.symm))
          have S2 := Lib.hid (Nat.le_trans (Nat.le_of_eq Hsz.out.symm) hz2.size)
          clear hz2 OW
          have fj := fun o => frozen_of_row Z2 _ o _ _ J4.out.j
          have q0 := cell_of_row Z2 _ 0 _ _ _ J4.out.q
          simp only [List.getElem?_toArray, List.getElem?_cons_zero] at q0
          have j3 := cell_of_row Z2 _ 3 _ _ _ J4.out.j
          have j4 := cell_of_row Z2 _ 4 _ _ _ J4.out.j
          have j5 := cell_of_row Z2 _ 5 _ _ _ J4.out.j
          simp only [List.getElem?_toArray, List.getElem?_cons_zero, List.getElem?_cons_succ] at j3 j4 j5
          have hfd : ∀ W : World, (Instr.field 53 (.agg #[.int .i64 zo.lo.ty, .int .i64 zo.lo.n, .string zo.lo.s, .int .i64 zo.hi.ty, .int .i64 zo.hi.n, .string zo.hi.s]) 0).run Tryz.prog W = .ok (.agg #[.int .i64 zo.lo.ty, .int .i64 zo.lo.n, .string zo.lo.s]) W := fun _ => by kernel_rfl
          go_wp2_with fail
          clear hfd
          have J5 := Lib.hid (((J4.out.set 3 (.int .i64 zo.lo.ty)).set 4 (.int .i64 zo.lo.n)).set 5 (.string zo.lo.s))
          simp only [List.setIfInBounds_toArray, List.set_cons_succ, List.set_cons_zero] at J5
          have OW3 := Lib.hid (OW2.out.same (w' := (((Z2.setCell ⟨bj, 3, none⟩ (.int .i64 zo.lo.ty)).setCell ⟨bj, 4, none⟩ (.int .i64 zo.lo.n)).setCell ⟨bj, 5, none⟩ (.string zo.lo.s))) (fun g h1 _ => ((Below.heap_setCell _ ⟨bj, 5, none⟩ _ g (by show g ≠ bj; omega)).trans (Below.heap_setCell _ ⟨bj, 4, none⟩ _ g (by show g ≠ bj; omega))).trans (Below.heap_setCell _ ⟨bj, 3, none⟩ _ g (by show g ≠ bj; omega))))
          have Hs3 := Lib.hid (show (((Z2.setCell ⟨bj, 3, none⟩ (.int .i64 zo.lo.ty)).setCell ⟨bj, 4, none⟩ (.int .i64 zo.lo.n)).setCell ⟨bj, 5, none⟩ (.string zo.lo.s)).heap.size = Z2.heap.size by simp [World.setCell])
          generalize hZ : (((Z2.setCell ⟨bj, 3, none⟩ (.int .i64 zo.lo.ty)).setCell ⟨bj, 4, none⟩ (.int .i64 zo.lo.n)).setCell ⟨bj, 5, none⟩ (.string zo.lo.s)) = Z3 at *
          clear hZ fj q0 j3 j4 j5
          have q0 := cell_of_row Z3 _ 0 _ _ _ J5.out.q
          simp only [List.getElem?_toArray, List.getElem?_cons_zero] at q0
          go_wp2_with fail
          have hT := Lib.hid (spec_ZoneOf [a.v] (.slice E1 1 e1) Z3 OW3.out.rdV (by rw [Hs3.out]; exact S2.out))
          rw [HZ.out] at hT
          refine hT.out.mono ?_
          clear hT q0
          rintro e Z4 ⟨rfl, hz4⟩
          have J6 := Lib.hid (J5.out.up (hz4.mono J5.out.z))
          clear hz4
          have fj := fun o => frozen_of_row Z4 _ o _ _ J6.out.j
          have j0 := cell_of_row Z4 _ 0 _ _ _ J6.out.j
          have j1 := cell_of_row Z4 _ 1 _ _ _ J6.out.j
          have j2 := cell_of_row Z4 _ 2 _ _ _ J6.out.j
          have j3 := cell_of_row Z4 _ 3 _ _ _ J6.out.j
          have j4 := cell_of_row Z4 _ 4 _ _ _ J6.out.j
          have j5 := cell_of_row Z4 _ 5 _ _ _ J6.out.j
          simp only [List.getElem?_toArray, List.getElem?_cons_zero, List.getElem?_cons_succ] at j0 j1 j2 j3 j4 j5
          have p0 := cell_of_row Z4 _ 0 _ _ _ J6.out.r
          have p1 := cell_of_row Z4 _ 1 _ _ _ J6.out.r
          have p2 := cell_of_row Z4 _ 2 _ _ _ J6.out.r
          have p3 := cell_of_row Z4 _ 3 _ _ _ J6.out.r
          have p4 := cell_of_row Z4 _ 4 _ _ _ J6.out.r
          have p5 := cell_of_row Z4 _ 5 _ _ _ J6.out.r
          simp only [List.getElem?_toArray, List.getElem?_cons_zero, List.getElem?_cons_succ] at p0 p1 p2 p3 p4 p5
          have fr := fun o => frozen_of_row Z4 _ o _ _ J6.out.r
          have hfd : ∀ W : World, (Instr.field 53 (.agg #[.int .i64 zo.lo.ty, .int .i64 zo.lo.n, .string zo.lo.s, .int .i64 zo.hi.ty, .int .i64 zo.hi.n, .string zo.hi.s]) 1).run Tryz.prog W = .ok (.agg #[.int .i64 zo.hi.ty, .int .i64 zo.hi.n, .string zo.hi.s]) W := fun _ => by kernel_rfl
          go_wp2_with fail
          clear hfd
          have J7 := Lib.hid (((J6.out.set 3 (.int .i64 zo.hi.ty)).set 4 (.int .i64 zo.hi.n)).set 5 (.string zo.hi.s))
          simp only [List.setIfInBounds_toArray, List.set_cons_succ, List.set_cons_zero] at J7
          generalize hZ : (((Z4.setCell ⟨bj, 3, none⟩ (.int .i64 zo.hi.ty)).setCell ⟨bj, 4, none⟩ (.int .i64 zo.hi.n)).setCell ⟨bj, 5, none⟩ (.string zo.hi.s)) = Z5 at *
          clear hZ fj j0 j1 j2 j3 j4 j5 p0 p1 p2 p3 p4 p5 fr
          generalize hXF : ((((((Z5.setCell ⟨w.heap.size + 1 + 1 + 1, 0, none⟩ (.slice Aj nj cj)).setCell ⟨w.heap.size + 1 + 1 + 1, 1, none⟩ (.int .i64 NN)).setCell ⟨w.heap.size + 1 + 1 + 1, 2, none⟩ (.bool true)).setCell ⟨w.heap.size + 1 + 1 + 1, 3, none⟩ (.int .i64 zo.hi.ty)).setCell ⟨w.heap.size + 1 + 1 + 1, 4, none⟩ (.int .i64 zo.hi.n)).setCell ⟨w.heap.size + 1 + 1 + 1, 5, none⟩ (.string zo.hi.s)) = XF at *
          obtain ⟨H6, RF, BF⟩ := J7.out.fin hXF.symm
          clear hXF
          have r0 := cell_of_row XF _ 0 _ _ _ H6
          have r1 := cell_of_row XF _ 1 _ _ _ H6
          have r2 := cell_of_row XF _ 2 _ _ _ H6
          have r3 := cell_of_row XF _ 3 _ _ _ H6
          have r4 := cell_of_row XF _ 4 _ _ _ H6
          have r5 := cell_of_row XF _ 5 _ _ _ H6
          simp only [List.getElem?_toArray, List.getElem?_cons_zero, List.getElem?_cons_succ] at r0 r1 r2 r3 r4 r5
          refine bodyPost_ret (v := .agg #[.slice Aj nj cj, .int .i64 NN, .bool true, .int .i64 zo.hi.ty, .int .i64 zo.hi.n, .string zo.hi.s]) ?_ rfl ⟨.slice Aj nj cj, (by first | (rw [HJ.out]; done) | (rw [HJ.out]; rfl)), ?_, (hup.mono (Nat.le_refl _)).trans BF⟩
          · simp [results, Tryz.results12, go_sem, r0, r1, r2, r3, r4, r5]
          · rw [HJ.out]
            exact ⟨pj, HM.out, RF⟩
      · have HA := Lib.hid hA
        cases hBb : b.has
        rotate_left
        · have HBb := Lib.hid hBb
          have HJ := Lib.hid (show joined q a b = ⟨a.rows ++ b.rows, NN, true, (zoneOf [b.v]).hi⟩ by rw [joined_5 a b KK.out, HN.out]; simp [hasVals, HA.out, HBb.out])
          clear hA hBb
          obtain ⟨zo, hzo⟩ : ∃ zo, zoneOf [b.v] = zo := ⟨_, rfl⟩
          rw [hzo] at HJ
          have HZ := Lib.hid hzo
          clear hzo
          have a2 := cell_of_row (wc.alloc (.cells #[] 25)) _ 2 _ _ _ J1.out.a
          have a3 := cell_of_row (wc.alloc (.cells #[] 25)) _ 3 _ _ _ J1.out.a
          have a4 := cell_of_row (wc.alloc (.cells #[] 25)) _ 4 _ _ _ J1.out.a
          have a5 := cell_of_row (wc.alloc (.cells #[] 25)) _ 5 _ _ _ J1.out.a
          simp only [List.getElem?_toArray, List.getElem?_cons_zero, List.getElem?_cons_succ] at a2 a3 a4 a5
          have b2 := cell_of_row (wc.alloc (.cells #[] 25)) _ 2 _ _ _ J1.out.b
          have b3 := cell_of_row (wc.alloc (.cells #[] 25)) _ 3 _ _ _ J1.out.b
          have b4 := cell_of_row (wc.alloc (.cells #[] 25)) _ 4 _ _ _ J1.out.b
          have b5 := cell_of_row (wc.alloc (.cells #[] 25)) _ 5 _ _ _ J1.out.b
          simp only [List.getElem?_toArray, List.getElem?_cons_zero, List.getElem?_cons_succ] at b2 b3 b4 b5
          rw [HA.out] at a2
          rw [HBb.out] at b2
          go_wp2_with (at_builtin; (refine wpl_app rfl _ _ 48 rfl wc.heap.size 25 i1 _ 3 32 Tryz.underlying48 hif1.out hy0.out hy1.out hy2.out rfl (by decide) (by decide) (own0.alloc (.cells #[.int .i64 b.v.ty, .int .i64 b.v.n, .string b.v.s] 25)) rfl (heap_new_atJ (n := wc.heap.size + 1) (by simp)) rfl rfl (by simp [Value.oneCell']) (by omega) (by first | omega | (simp <;> omega)) ?_))
          intro v1 Y1 own1 hg1 hn1
          obtain ⟨E1, e1, rfl, -, -, -⟩ := (Own.new own1).cells
          have dn1 := below_app (B := wc.heap.size) ((up_a1 (wc.alloc (.cells #[] 25)) (.cells #[.int .i64 b.v.ty, .int .i64 b.v.n, .string b.v.s] 25)).mono (by first | omega | (simp <;> omega))) (own0.alloc _) hg1 (by first | omega | (simp <;> omega))
          have J2 := Lib.hid (J1.out.up dn1)
          have s1 := dn1.size
          replace s1 : wc.heap.size ≤ Y1.heap.size := J2.out.z
          clear a2 a3 a4 a5 b2 b3 b4 b5 dn1 hg1 hn1
          have a2 := cell_of_row Y1 _ 2 _ _ _ J2.out.a
          have a3 := cell_of_row Y1 _ 3 _ _ _ J2.out.a
          have a4 := cell_of_row Y1 _ 4 _ _ _ J2.out.a
          have a5 := cell_of_row Y1 _ 5 _ _ _ J2.out.a
          simp only [List.getElem?_toArray, List.getElem?_cons_zero, List.getElem?_cons_succ] at a2 a3 a4 a5
          have b2 := cell_of_row Y1 _ 2 _ _ _ J2.out.b
          have b3 := cell_of_row Y1 _ 3 _ _ _ J2.out.b
          have b4 := cell_of_row Y1 _ 4 _ _ _ J2.out.b
          have b5 := cell_of_row Y1 _ 5 _ _ _ J2.out.b
          simp only [List.getElem?_toArray, List.getElem?_cons_zero, List.getElem?_cons_succ] at b2 b3 b4 b5
          rw [HA.out] at a2
          rw [HBb.out] at b2
          have fj := fun o => frozen_of_row Y1 _ o _ _ J2.out.j
          have Ow : Own 25 3 Y1 wc.heap.size Y1.heap.size (.slice E1 1 e1) ([b.v] : List V).length (([b.v] : List V).flatMap V.cells) := Own.new own1
          have OW := Lib.hid (Ow.same (w' := (Y1.setCell ⟨bj, 2, none⟩ (.bool true))) (fun g h1 _ => Below.heap_setCell Y1 ⟨bj, 2, none⟩ (.bool true) g (by show g ≠ bj; omega)))
          have y2 := cell_of_row Y1 _ 2 _ _ _ J2.out.j
          simp only [List.getElem?_toArray, List.getElem?_cons_zero, List.getElem?_cons_succ] at y2
          have J3 := Lib.hid (J2.out.set 2 (.bool true))
          simp only [List.setIfInBounds_toArray, List.set_cons_succ, List.set_cons_zero] at J3
          clear Ow
          go_wp2_with fail
          have hsz : (Y1.setCell ⟨bj, 2, none⟩ (.bool true)).heap.size = Y1.heap.size := by simp [World.setCell]
          have Hsz := Lib.hid hsz
          clear hsz
          generalize hZ1 : (Y1.setCell ⟨bj, 2, none⟩ (.bool true)) = Z1 at *
          clear hZ1 fj y2 a2 a3 a4 a5 b2 b3 b4 b5 own1
          have hT := Lib.hid (spec_ZoneOf [b.v] (.slice E1 1 e1) Z1 OW.out.rdV (by first | exact Nat.le_of_eq Hsz.out.symm | (rw [Hsz.out]; exact Nat.le_refl _)))
          rw [HZ.out] at hT
          refine hT.out.mono ?_
          clear hT
          rintro e Z2 ⟨rfl, hz2⟩
          have J4 := Lib.hid (J3.out.up (hz2.mono J3.out.z))
          have OW2 := Lib.hid (OW.out.below hz2 (Nat.le_of_eq Hsz.out.symm))
          have S2 := Lib.hid (Nat.le_trans (Nat.le_of_eq Hsz.out.symm) hz2.size)
          clear hz2 OW
          have fj := fun o => frozen_of_row Z2 _ o _ _ J4.out.j
          have q0 := cell_of_row Z2 _ 0 _ _ _ J4.out.q
          simp only [List.getElem?_toArray, List.getElem?_cons_zero] at q0
          have j3 := cell_of_row Z2 _ 3 _ _ _ J4.out.j
          have j4 := cell_of_row Z2 _ 4 _ _ _ J4.out.j
          have j5 := cell_of_row Z2 _ 5 _ _ _ J4.out.j
          simp only [List.getElem?_toArray, List.getElem?_cons_zero, List.getElem?_cons_succ] at j3 j4 j5
          have hfd : ∀ W : World, (Instr.field 53 (.agg #[.int .i64 zo.lo.ty, .int .i64 zo.lo.n, .string zo.lo.s, .int .i64 zo.hi.ty, .int .i64 zo.hi.n, .string zo.hi.s]) 0).run Tryz.prog W = .ok (.agg #[.int .i64 zo.lo.ty, .int .i64 zo.lo.n, .string zo.lo.s]) W := fun _ => by kernel_rfl
          go_wp2_with fail
          clear hfd
          have J5 := Lib.hid (((J4.out.set 3 (.int .i64 zo.lo.ty)).set 4 (.int .i64 zo.lo.n)).set 5 (.string zo.lo.s))
          simp only [List.setIfInBounds_toArray, List.set_cons_succ, List.set_cons_zero] at J5
          have OW3 := Lib.hid (OW2.out.same (w' := (((Z2.setCell ⟨bj, 3, none⟩ (.int .i64 zo.lo.ty)).setCell ⟨bj, 4, none⟩ (.int .i64 zo.lo.n)).setCell ⟨bj, 5, none⟩ (.string zo.lo.s))) (fun g h1 _ => ((Below.heap_setCell _ ⟨bj, 5, none⟩ _ g (by show g ≠ bj; omega)).trans (Below.heap_setCell _ ⟨bj, 4, none⟩ _ g (by show g ≠ bj; omega))).trans (Below.heap_setCell _ ⟨bj, 3, none⟩ _ g (by show g ≠ bj; omega))))
          have Hs3 := Lib.hid (show (((Z2.setCell ⟨bj, 3, none⟩ (.int .i64 zo.lo.ty)).setCell ⟨bj, 4, none⟩ (.int .i64 zo.lo.n)).setCell ⟨bj, 5, none⟩ (.string zo.lo.s)).heap.size = Z2.heap.size by simp [World.setCell])
          generalize hZ : (((Z2.setCell ⟨bj, 3, none⟩ (.int .i64 zo.lo.ty)).setCell ⟨bj, 4, none⟩ (.int .i64 zo.lo.n)).setCell ⟨bj, 5, none⟩ (.string zo.lo.s)) = Z3 at *
          clear hZ fj q0 j3 j4 j5
          have q0 := cell_of_row Z3 _ 0 _ _ _ J5.out.q
          simp only [List.getElem?_toArray, List.getElem?_cons_zero] at q0
          go_wp2_with fail
          have hT := Lib.hid (spec_ZoneOf [b.v] (.slice E1 1 e1) Z3 OW3.out.rdV (by rw [Hs3.out]; exact S2.out))
          rw [HZ.out] at hT
          refine hT.out.mono ?_
          clear hT q0
          rintro e Z4 ⟨rfl, hz4⟩
          have J6 := Lib.hid (J5.out.up (hz4.mono J5.out.z))
          clear hz4
          have fj := fun o => frozen_of_row Z4 _ o _ _ J6.out.j
          have j0 := cell_of_row Z4 _ 0 _ _ _ J6.out.j
          have j1 := cell_of_row Z4 _ 1 _ _ _ J6.out.j
          have j2 := cell_of_row Z4 _ 2 _ _ _ J6.out.j
          have j3 := cell_of_row Z4 _ 3 _ _ _ J6.out.j
          have j4 := cell_of_row Z4 _ 4 _ _ _ J6.out.j
          have j5 := cell_of_row Z4 _ 5 _ _ _ J6.out.j
          simp only [List.getElem?_toArray, List.getElem?_cons_zero, List.getElem?_cons_succ] at j0 j1 j2 j3 j4 j5
          have p0 := cell_of_row Z4 _ 0 _ _ _ J6.out.r
          have p1 := cell_of_row Z4 _ 1 _ _ _ J6.out.r
          have p2 := cell_of_row Z4 _ 2 _ _ _ J6.out.r
          have p3 := cell_of_row Z4 _ 3 _ _ _ J6.out.r
          have p4 := cell_of_row Z4 _ 4 _ _ _ J6.out.r
          have p5 := cell_of_row Z4 _ 5 _ _ _ J6.out.r
          simp only [List.getElem?_toArray, List.getElem?_cons_zero, List.getElem?_cons_succ] at p0 p1 p2 p3 p4 p5
          have fr := fun o => frozen_of_row Z4 _ o _ _ J6.out.r
          have hfd : ∀ W : World, (Instr.field 53 (.agg #[.int .i64 zo.lo.ty, .int .i64 zo.lo.n, .string zo.lo.s, .int .i64 zo.hi.ty, .int .i64 zo.hi.n, .string zo.hi.s]) 1).run Tryz.prog W = .ok (.agg #[.int .i64 zo.hi.ty, .int .i64 zo.hi.n, .string zo.hi.s]) W := fun _ => by kernel_rfl
          go_wp2_with fail
          clear hfd
          have J7 := Lib.hid (((J6.out.set 3 (.int .i64 zo.hi.ty)).set 4 (.int .i64 zo.hi.n)).set 5 (.string zo.hi.s))
          simp only [List.setIfInBounds_toArray, List.set_cons_succ, List.set_cons_zero] at J7
          generalize hZ : (((Z4.setCell ⟨bj, 3, none⟩ (.int .i64 zo.hi.ty)).setCell ⟨bj, 4, none⟩ (.int .i64 zo.hi.n)).setCell ⟨bj, 5, none⟩ (.string zo.hi.s)) = Z5 at *
          clear hZ fj j0 j1 j2 j3 j4 j5 p0 p1 p2 p3 p4 p5 fr
          generalize hXF : ((((((Z5.setCell ⟨w.heap.size + 1 + 1 + 1, 0, none⟩ (.slice Aj nj cj)).setCell ⟨w.heap.size + 1 + 1 + 1, 1, none⟩ (.int .i64 NN)).setCell ⟨w.heap.size + 1 + 1 + 1, 2, none⟩ (.bool true)).setCell ⟨w.heap.size + 1 + 1 + 1, 3, none⟩ (.int .i64 zo.hi.ty)).setCell ⟨w.heap.size + 1 + 1 + 1, 4, none⟩ (.int .i64 zo.hi.n)).setCell ⟨w.heap.size + 1 + 1 + 1, 5, none⟩ (.string zo.hi.s)) = XF at *
          obtain ⟨H6, RF, BF⟩ := J7.out.fin hXF.symm
          clear hXF
          have r0 := cell_of_row XF _ 0 _ _ _ H6
          have r1 := cell_of_row XF _ 1 _ _ _ H6
          have r2 := cell_of_row XF _ 2 _ _ _ H6
          have r3 := cell_of_row XF _ 3 _ _ _ H6
          have r4 := cell_of_row XF _ 4 _ _ _ H6
          have r5 := cell_of_row XF _ 5 _ _ _ H6
          simp only [List.getElem?_toArray, List.getElem?_cons_zero, List.getElem?_cons_succ] at r0 r1 r2 r3 r4 r5
          refine bodyPost_ret (v := .agg #[.slice Aj nj cj, .int .i64 NN, .bool true, .int .i64 zo.hi.ty, .int .i64 zo.hi.n, .string zo.hi.s]) ?_ rfl ⟨.slice Aj nj cj, (by first | (rw [HJ.out]; done) | (rw [HJ.out]; rfl)), ?_, (hup.mono (Nat.le_refl _)).trans BF⟩
          · simp [results, Tryz.results12, go_sem, r0, r1, r2, r3, r4, r5]
          · rw [HJ.out]
            exact ⟨pj, HM.out, RF⟩
        · have HBb := Lib.hid hBb
          have HJ := Lib.hid (show joined q a b = ⟨a.rows ++ b.rows, NN, false, (zoneOf []).hi⟩ by rw [joined_5 a b KK.out, HN.out]; simp [hasVals, HA.out, HBb.out])
          clear hA hBb
          obtain ⟨zo, hzo⟩ : ∃ zo, zoneOf [] = zo := ⟨_, rfl⟩
          rw [hzo] at HJ
          have HZ := Lib.hid hzo
          clear hzo
          have a2 := cell_of_row (wc.alloc (.cells #[] 25)) _ 2 _ _ _ J1.out.a
          have a3 := cell_of_row (wc.alloc (.cells #[] 25)) _ 3 _ _ _ J1.out.a
          have a4 := cell_of_row (wc.alloc (.cells #[] 25)) _ 4 _ _ _ J1.out.a
          have a5 := cell_of_row (wc.alloc (.cells #[] 25)) _ 5 _ _ _ J1.out.a
          simp only [List.getElem?_toArray, List.getElem?_cons_zero, List.getElem?_cons_succ] at a2 a3 a4 a5
          have b2 := cell_of_row (wc.alloc (.cells #[] 25)) _ 2 _ _ _ J1.out.b
          have b3 := cell_of_row (wc.alloc (.cells #[] 25)) _ 3 _ _ _ J1.out.b
          have b4 := cell_of_row (wc.alloc (.cells #[] 25)) _ 4 _ _ _ J1.out.b
          have b5 := cell_of_row (wc.alloc (.cells #[] 25)) _ 5 _ _ _ J1.out.b
          simp only [List.getElem?_toArray, List.getElem?_cons_zero, List.getElem?_cons_succ] at b2 b3 b4 b5
          rw [HA.out] at a2
          rw [HBb.out] at b2
          have fj := fun o => frozen_of_row (wc.alloc (.cells #[] 25)) _ o _ _ J1.out.j
          have Ow : Own 25 3 (wc.alloc (.cells #[] 25)) wc.heap.size (wc.alloc (.cells #[] 25)).heap.size (.slice (some ⟨wc.heap.size, 0, none⟩) 0 0) ([] : List V).length (([] : List V).flatMap V.cells) := Own.new own0
          have OW := Lib.hid (Ow.same (w' := ((wc.alloc (.cells #[] 25)).setCell ⟨bj, 2, none⟩ (.bool false))) (fun g h1 _ => Below.heap_setCell (wc.alloc (.cells #[] 25)) ⟨bj, 2, none⟩ (.bool false) g (by show g ≠ bj; omega)))
          have y2 := cell_of_row (wc.alloc (.cells #[] 25)) _ 2 _ _ _ J1.out.j
          simp only [List.getElem?_toArray, List.getElem?_cons_zero, List.getElem?_cons_succ] at y2
          have J2 := Lib.hid (J1.out.set 2 (.bool false))
          simp only [List.setIfInBounds_toArray, List.set_cons_succ, List.set_cons_zero] at J2
          clear Ow
          go_wp2_with fail
          rw [show (wc.setCell ⟨bj, 2, none⟩ (.bool false)).alloc (.cells #[] 25) = ((wc.alloc (.cells #[] 25)).setCell ⟨bj, 2, none⟩ (.bool false)) from (World.setCell_alloc_past _ bj 2 _ hlj).symm]
          have hsz : ((wc.alloc (.cells #[] 25)).setCell ⟨bj, 2, none⟩ (.bool false)).heap.size = (wc.alloc (.cells #[] 25)).heap.size := by simp [World.setCell]
          have Hsz := Lib.hid hsz
          clear hsz
          generalize hZ1 : ((wc.alloc (.cells #[] 25)).setCell ⟨bj, 2, none⟩ (.bool false)) = Z1 at *
          clear hZ1 fj y2 a2 a3 a4 a5 b2 b3 b4 b5 own0
          have hT := Lib.hid (spec_ZoneOf [] (.slice (some ⟨wc.heap.size, 0, none⟩) 0 0) Z1 OW.out.rdV (by first | exact Nat.le_of_eq Hsz.out.symm | (rw [Hsz.out]; exact Nat.le_refl _)))
          rw [HZ.out] at hT
          refine hT.out.mono ?_
          clear hT
          rintro e Z2 ⟨rfl, hz2⟩
          have J3 := Lib.hid (J2.out.up (hz2.mono J2.out.z))
          have OW2 := Lib.hid (OW.out.below hz2 (Nat.le_of_eq Hsz.out.symm))
          have S2 := Lib.hid (Nat.le_trans (Nat.le_of_eq Hsz.out.symm) hz2.size)
          clear hz2 OW
          have fj := fun o => frozen_of_row Z2 _ o _ _ J3.out.j
          have q0 := cell_of_row Z2 _ 0 _ _ _ J3.out.q
          simp only [List.getElem?_toArray, List.getElem?_cons_zero] at q0
          have j3 := cell_of_row Z2 _ 3 _ _ _ J3.out.j
          have j4 := cell_of_row Z2 _ 4 _ _ _ J3.out.j
          have j5 := cell_of_row Z2 _ 5 _ _ _ J3.out.j
          simp only [List.getElem?_toArray, List.getElem?_cons_zero, List.getElem?_cons_succ] at j3 j4 j5
          have hfd : ∀ W : World, (Instr.field 53 (.agg #[.int .i64 zo.lo.ty, .int .i64 zo.lo.n, .string zo.lo.s, .int .i64 zo.hi.ty, .int .i64 zo.hi.n, .string zo.hi.s]) 0).run Tryz.prog W = .ok (.agg #[.int .i64 zo.lo.ty, .int .i64 zo.lo.n, .string zo.lo.s]) W := fun _ => by kernel_rfl
          go_wp2_with fail
          clear hfd
          have J4 := Lib.hid (((J3.out.set 3 (.int .i64 zo.lo.ty)).set 4 (.int .i64 zo.lo.n)).set 5 (.string zo.lo.s))
          simp only [List.setIfInBounds_toArray, List.set_cons_succ, List.set_cons_zero] at J4
          have OW3 := Lib.hid (OW2.out.same (w' := (((Z2.setCell ⟨bj, 3, none⟩ (.int .i64 zo.lo.ty)).setCell ⟨bj, 4, none⟩ (.int .i64 zo.lo.n)).setCell ⟨bj, 5, none⟩ (.string zo.lo.s))) (fun g h1 _ => ((Below.heap_setCell _ ⟨bj, 5, none⟩ _ g (by show g ≠ bj; omega)).trans (Below.heap_setCell _ ⟨bj, 4, none⟩ _ g (by show g ≠ bj; omega))).trans (Below.heap_setCell _ ⟨bj, 3, none⟩ _ g (by show g ≠ bj; omega))))
          have Hs3 := Lib.hid (show (((Z2.setCell ⟨bj, 3, none⟩ (.int .i64 zo.lo.ty)).setCell ⟨bj, 4, none⟩ (.int .i64 zo.lo.n)).setCell ⟨bj, 5, none⟩ (.string zo.lo.s)).heap.size = Z2.heap.size by simp [World.setCell])
          generalize hZ : (((Z2.setCell ⟨bj, 3, none⟩ (.int .i64 zo.lo.ty)).setCell ⟨bj, 4, none⟩ (.int .i64 zo.lo.n)).setCell ⟨bj, 5, none⟩ (.string zo.lo.s)) = Z3 at *
          clear hZ fj q0 j3 j4 j5
          have q0 := cell_of_row Z3 _ 0 _ _ _ J4.out.q
          simp only [List.getElem?_toArray, List.getElem?_cons_zero] at q0
          go_wp2_with fail
          have hT := Lib.hid (spec_ZoneOf [] (.slice (some ⟨wc.heap.size, 0, none⟩) 0 0) Z3 OW3.out.rdV (by rw [Hs3.out]; exact S2.out))
          rw [HZ.out] at hT
          refine hT.out.mono ?_
          clear hT q0
          rintro e Z4 ⟨rfl, hz4⟩
          have J5 := Lib.hid (J4.out.up (hz4.mono J4.out.z))
          clear hz4
          have fj := fun o => frozen_of_row Z4 _ o _ _ J5.out.j
          have j0 := cell_of_row Z4 _ 0 _ _ _ J5.out.j
          have j1 := cell_of_row Z4 _ 1 _ _ _ J5.out.j
          have j2 := cell_of_row Z4 _ 2 _ _ _ J5.out.j
          have j3 := cell_of_row Z4 _ 3 _ _ _ J5.out.j
          have j4 := cell_of_row Z4 _ 4 _ _ _ J5.out.j
          have j5 := cell_of_row Z4 _ 5 _ _ _ J5.out.j
          simp only [List.getElem?_toArray, List.getElem?_cons_zero, List.getElem?_cons_succ] at j0 j1 j2 j3 j4 j5
          have p0 := cell_of_row Z4 _ 0 _ _ _ J5.out.r
          have p1 := cell_of_row Z4 _ 1 _ _ _ J5.out.r
          have p2 := cell_of_row Z4 _ 2 _ _ _ J5.out.r
          have p3 := cell_of_row Z4 _ 3 _ _ _ J5.out.r
          have p4 := cell_of_row Z4 _ 4 _ _ _ J5.out.r
          have p5 := cell_of_row Z4 _ 5 _ _ _ J5.out.r
          simp only [List.getElem?_toArray, List.getElem?_cons_zero, List.getElem?_cons_succ] at p0 p1 p2 p3 p4 p5
          have fr := fun o => frozen_of_row Z4 _ o _ _ J5.out.r
          have hfd : ∀ W : World, (Instr.field 53 (.agg #[.int .i64 zo.lo.ty, .int .i64 zo.lo.n, .string zo.lo.s, .int .i64 zo.hi.ty, .int .i64 zo.hi.n, .string zo.hi.s]) 1).run Tryz.prog W = .ok (.agg #[.int .i64 zo.hi.ty, .int .i64 zo.hi.n, .string zo.hi.s]) W := fun _ => by kernel_rfl
          go_wp2_with fail
          clear hfd
          have J6 := Lib.hid (((J5.out.set 3 (.int .i64 zo.hi.ty)).set 4 (.int .i64 zo.hi.n)).set 5 (.string zo.hi.s))
          simp only [List.setIfInBounds_toArray, List.set_cons_succ, List.set_cons_zero] at J6
          generalize hZ : (((Z4.setCell ⟨bj, 3, none⟩ (.int .i64 zo.hi.ty)).setCell ⟨bj, 4, none⟩ (.int .i64 zo.hi.n)).setCell ⟨bj, 5, none⟩ (.string zo.hi.s)) = Z5 at *
          clear hZ fj j0 j1 j2 j3 j4 j5 p0 p1 p2 p3 p4 p5 fr
          generalize hXF : ((((((Z5.setCell ⟨w.heap.size + 1 + 1 + 1, 0, none⟩ (.slice Aj nj cj)).setCell ⟨w.heap.size + 1 + 1 + 1, 1, none⟩ (.int .i64 NN)).setCell ⟨w.heap.size + 1 + 1 + 1, 2, none⟩ (.bool false)).setCell ⟨w.heap.size + 1 + 1 + 1, 3, none⟩ (.int .i64 zo.hi.ty)).setCell ⟨w.heap.size + 1 + 1 + 1, 4, none⟩ (.int .i64 zo.hi.n)).setCell ⟨w.heap.size + 1 + 1 + 1, 5, none⟩ (.string zo.hi.s)) = XF at *
          obtain ⟨H6, RF, BF⟩ := J6.out.fin hXF.symm
          clear hXF
          have r0 := cell_of_row XF _ 0 _ _ _ H6
          have r1 := cell_of_row XF _ 1 _ _ _ H6
          have r2 := cell_of_row XF _ 2 _ _ _ H6
          have r3 := cell_of_row XF _ 3 _ _ _ H6
          have r4 := cell_of_row XF _ 4 _ _ _ H6
          have r5 := cell_of_row XF _ 5 _ _ _ H6
          simp only [List.getElem?_toArray, List.getElem?_cons_zero, List.getElem?_cons_succ] at r0 r1 r2 r3 r4 r5
          refine bodyPost_ret (v := .agg #[.slice Aj nj cj, .int .i64 NN, .bool false, .int .i64 zo.hi.ty, .int .i64 zo.hi.n, .string zo.hi.s]) ?_ rfl ⟨.slice Aj nj cj, (by first | (rw [HJ.out]; done) | (rw [HJ.out]; rfl)), ?_, (hup.mono (Nat.le_refl _)).trans BF⟩
          · simp [results, Tryz.results12, go_sem, r0, r1, r2, r3, r4, r5]
          · rw [HJ.out]
            exact ⟨pj, HM.out, RF⟩

set_option maxRecDepth 20000 in
set_option maxHeartbeats 2000000 in
theorem impl_Joined (q : Q) (sv ov : Value) (a : Res) (av : Value) (b : Res) (bv : Value) (w : World) {l1 h1 l2 h2 l3 h3 l4 h4 : Nat} (hp : RdP w l1 h1 sv q.p.l) (_hh1 : h1 ≤ w.heap.size) (ho : RdI w l2 h2 ov q.out) (_hh2 : h2 ≤ w.heap.size) (ha : RdR w l3 h3 av a.rows) (hh3 : h3 ≤ w.heap.size) (hb : RdR w l4 h4 bv b.rows) (hh4 : h4 ≤ w.heap.size) (hna : a.rows.length ≤ 1048576 ∧ lensR a.rows ≤ 1048576) (hnb : b.rows.length ≤ 1048576 ∧ lensR b.rows ≤ 1048576) :
    Calls Tryz.prog 11 #[.agg #[.int .i64 q.kind, .int .i64 q.p.kind, .int .i64 q.p.col, .int .i64 q.p.op, .int .i64 q.p.v.ty, .int .i64 q.p.v.n, .string q.p.v.s, sv, .int .i64 q.col, ov], .agg #[av, .int .i64 a.n, .bool a.has, .int .i64 a.v.ty, .int .i64 a.v.n, .string a.v.s], .agg #[bv, .int .i64 b.n, .bool b.has, .int .i64 b.v.ty, .int .i64 b.v.n, .string b.v.s]] w fun e w' => ∃ v, e = .returned (.agg #[v, .int .i64 (joined q a b).n, .bool (joined q a b).has, .int .i64 (joined q a b).v.ty, .int .i64 (joined q a b).v.n, .string (joined q a b).v.s]) ∧ OwnR 51 25 w' w.heap.size w'.heap.size v (joined q a b).rows ∧ Below w.heap.size w w' := by
  obtain ⟨Ap, cp, rfl, -, -⟩ := hp.form
  obtain ⟨Ao, co, rfl, -, -⟩ := ho.form
  obtain ⟨Aa, ka, rfl, -, -⟩ := ha.form
  obtain ⟨Ab, kb, rfl, -, -⟩ := hb.form
  clear hp ho
  obtain ⟨i0, hif, hz0, hz1, hz2⟩ := info_parts info_Row
  replace hif := Lib.hid hif
  replace hz0 := Lib.hid hz0
  replace hz1 := Lib.hid hz1
  replace hz2 := Lib.hid hz2
  have hup : Below w.heap.size w ((((w.alloc (.cells #[.int .i64 q.kind, .int .i64 q.p.kind, .int .i64 q.p.col, .int .i64 q.p.op, .int .i64 q.p.v.ty, .int .i64 q.p.v.n, .string q.p.v.s, .slice Ap q.p.l.length cp, .int .i64 q.col, .slice Ao q.out.length co] 31)).alloc (.cells #[.slice Aa a.rows.length ka, .int .i64 a.n, .bool a.has, .int .i64 a.v.ty, .int .i64 a.v.n, .string a.v.s] 37)).alloc (.cells #[.slice Ab b.rows.length kb, .int .i64 b.n, .bool b.has, .int .i64 b.v.ty, .int .i64 b.v.n, .string b.v.s] 37)).alloc (.cells #[.slice none 0 0, .int .i64 0, .bool false, .int .i64 0, .int .i64 0, .string ⟨#[]⟩] 37)) := up_a4 w _ _ _ _
  have hs : w.heap.size + 4 ≤ ((((w.alloc (.cells #[.int .i64 q.kind, .int .i64 q.p.kind, .int .i64 q.p.col, .int .i64 q.p.op, .int .i64 q.p.v.ty, .int .i64 q.p.v.n, .string q.p.v.s, .slice Ap q.p.l.length cp, .int .i64 q.col, .slice Ao q.out.length co] 31)).alloc (.cells #[.slice Aa a.rows.length ka, .int .i64 a.n, .bool a.has, .int .i64 a.v.ty, .int .i64 a.v.n, .string a.v.s] 37)).alloc (.cells #[.slice Ab b.rows.length kb, .int .i64 b.n, .bool b.has, .int .i64 b.v.ty, .int .i64 b.v.n, .string b.v.s] 37)).alloc (.cells #[.slice none 0 0, .int .i64 0, .bool false, .int .i64 0, .int .i64 0, .string ⟨#[]⟩] 37)).heap.size := by simp
  have GQ : ((((w.alloc (.cells #[.int .i64 q.kind, .int .i64 q.p.kind, .int .i64 q.p.col, .int .i64 q.p.op, .int .i64 q.p.v.ty, .int .i64 q.p.v.n, .string q.p.v.s, .slice Ap q.p.l.length cp, .int .i64 q.col, .slice Ao q.out.length co] 31)).alloc (.cells #[.slice Aa a.rows.length ka, .int .i64 a.n, .bool a.has, .int .i64 a.v.ty, .int .i64 a.v.n, .string a.v.s] 37)).alloc (.cells #[.slice Ab b.rows.length kb, .int .i64 b.n, .bool b.has, .int .i64 b.v.ty, .int .i64 b.v.n, .string b.v.s] 37)).alloc (.cells #[.slice none 0 0, .int .i64 0, .bool false, .int .i64 0, .int .i64 0, .string ⟨#[]⟩] 37)).heap[w.heap.size]? = some (.cells #[.int .i64 q.kind, .int .i64 q.p.kind, .int .i64 q.p.col, .int .i64 q.p.op, .int .i64 q.p.v.ty, .int .i64 q.p.v.n, .string q.p.v.s, .slice Ap q.p.l.length cp, .int .i64 q.col, .slice Ao q.out.length co] 31) := by
    iterate 3 refine alloc_oldJ ?_
    exact heap_new_atJ (by simp)
  have GA : ((((w.alloc (.cells #[.int .i64 q.kind, .int .i64 q.p.kind, .int .i64 q.p.col, .int .i64 q.p.op, .int .i64 q.p.v.ty, .int .i64 q.p.v.n, .string q.p.v.s, .slice Ap q.p.l.length cp, .int .i64 q.col, .slice Ao q.out.length co] 31)).alloc (.cells #[.slice Aa a.rows.length ka, .int .i64 a.n, .bool a.has, .int .i64 a.v.ty, .int .i64 a.v.n, .string a.v.s] 37)).alloc (.cells #[.slice Ab b.rows.length kb, .int .i64 b.n, .bool b.has, .int .i64 b.v.ty, .int .i64 b.v.n, .string b.v.s] 37)).alloc (.cells #[.slice none 0 0, .int .i64 0, .bool false, .int .i64 0, .int .i64 0, .string ⟨#[]⟩] 37)).heap[w.heap.size + 1]? = some (.cells #[.slice Aa a.rows.length ka, .int .i64 a.n, .bool a.has, .int .i64 a.v.ty, .int .i64 a.v.n, .string a.v.s] 37) := by
    iterate 2 refine alloc_oldJ ?_
    exact heap_new_atJ (by simp)
  have GB : ((((w.alloc (.cells #[.int .i64 q.kind, .int .i64 q.p.kind, .int .i64 q.p.col, .int .i64 q.p.op, .int .i64 q.p.v.ty, .int .i64 q.p.v.n, .string q.p.v.s, .slice Ap q.p.l.length cp, .int .i64 q.col, .slice Ao q.out.length co] 31)).alloc (.cells #[.slice Aa a.rows.length ka, .int .i64 a.n, .bool a.has, .int .i64 a.v.ty, .int .i64 a.v.n, .string a.v.s] 37)).alloc (.cells #[.slice Ab b.rows.length kb, .int .i64 b.n, .bool b.has, .int .i64 b.v.ty, .int .i64 b.v.n, .string b.v.s] 37)).alloc (.cells #[.slice none 0 0, .int .i64 0, .bool false, .int .i64 0, .int .i64 0, .string ⟨#[]⟩] 37)).heap[w.heap.size + 1 + 1]? = some (.cells #[.slice Ab b.rows.length kb, .int .i64 b.n, .bool b.has, .int .i64 b.v.ty, .int .i64 b.v.n, .string b.v.s] 37) := by
    refine alloc_oldJ ?_
    exact heap_new_atJ (by simp)
  have GR : ((((w.alloc (.cells #[.int .i64 q.kind, .int .i64 q.p.kind, .int .i64 q.p.col, .int .i64 q.p.op, .int .i64 q.p.v.ty, .int .i64 q.p.v.n, .string q.p.v.s, .slice Ap q.p.l.length cp, .int .i64 q.col, .slice Ao q.out.length co] 31)).alloc (.cells #[.slice Aa a.rows.length ka, .int .i64 a.n, .bool a.has, .int .i64 a.v.ty, .int .i64 a.v.n, .string a.v.s] 37)).alloc (.cells #[.slice Ab b.rows.length kb, .int .i64 b.n, .bool b.has, .int .i64 b.v.ty, .int .i64 b.v.n, .string b.v.s] 37)).alloc (.cells #[.slice none 0 0, .int .i64 0, .bool false, .int .i64 0, .int .i64 0, .string ⟨#[]⟩] 37)).heap[w.heap.size + 1 + 1 + 1]? = some (.cells #[.slice none 0 0, .int .i64 0, .bool false, .int .i64 0, .int .i64 0, .string ⟨#[]⟩] 37) := heap_new_atJ (by simp)
  replace GQ := Lib.hid GQ
  replace GA := Lib.hid GA
  replace GB := Lib.hid GB
  replace GR := Lib.hid GR
  go_enter Tryz.func11, Tryz.ntmps11
  go_upto_region 1 with fail
  generalize ((((w.alloc (.cells #[.int .i64 q.kind, .int .i64 q.p.kind, .int .i64 q.p.col, .int .i64 q.p.op, .int .i64 q.p.v.ty, .int .i64 q.p.v.n, .string q.p.v.s, .slice Ap q.p.l.length cp, .int .i64 q.col, .slice Ao q.out.length co] 31)).alloc (.cells #[.slice Aa a.rows.length ka, .int .i64 a.n, .bool a.has, .int .i64 a.v.ty, .int .i64 a.v.n, .string a.v.s] 37)).alloc (.cells #[.slice Ab b.rows.length kb, .int .i64 b.n, .bool b.has, .int .i64 b.v.ty, .int .i64 b.v.n, .string b.v.s] 37)).alloc (.cells #[.slice none 0 0, .int .i64 0, .bool false, .int .i64 0, .int .i64 0, .string ⟨#[]⟩] 37)) = W0 at *
  have hTa := Lib.hid (fun (W : World) (h : Below W0.heap.size W0 W) => impl_cloneRows a.rows (.slice Aa a.rows.length ka) W ((ha.below hup hh3).below h (by omega)) (Nat.le_trans (by omega) h.size) hna)
  have hTb := Lib.hid (fun (W : World) (h : Below W0.heap.size W0 W) => impl_cloneRows b.rows (.slice Ab b.rows.length kb) W ((hb.below hup hh4).below h (by omega)) (Nat.le_trans (by omega) h.size) hnb)
  have a0 := cell_of_row W0 (w.heap.size + 1) 0 _ _ _ GA.out
  have a1 := cell_of_row W0 (w.heap.size + 1) 1 _ _ _ GA.out
  have b0 := cell_of_row W0 (w.heap.size + 1 + 1) 0 _ _ _ GB.out
  have b1 := cell_of_row W0 (w.heap.size + 1 + 1) 1 _ _ _ GB.out
  simp only [List.getElem?_toArray, List.getElem?_cons_zero, List.getElem?_cons_succ] at a0 a1 b0 b1
  have z1 : w.heap.size + 1 < W0.heap.size := by omega
  have z2 : w.heap.size + 1 + 1 < W0.heap.size := by omega
  clear ha hb
  go_cut [7] from 9 to 21 (fun t wx => ∃ (bj : Nat) (Aj : Option Addr) (nj cj : Nat) (pj : List (R × Value)), t = .pointer (some ⟨bj, 0, none⟩) ∧ W0.heap.size ≤ bj ∧ wx.heap[bj]? = some (.cells #[.slice Aj nj cj, .int .i64 (IntKind.i64.wrap (a.n + b.n)), .bool false, .int .i64 0, .int .i64 0, .string ⟨#[]⟩] 37) ∧ pj.map Prod.fst = a.rows ++ b.rows ∧ OwnRp 51 25 wx W0.heap.size wx.heap.size (.slice Aj nj cj) pj ∧ Far bj (.slice Aj nj cj) pj ∧ Below W0.heap.size W0 wx)
  case first =>
    refine wp_region_T (S := fun w' => w'.cell? ⟨w.heap.size + 1, 0, none⟩ = some (.slice Aa a.rows.length ka) ∧ w'.cell? ⟨w.heap.size + 1, 1, none⟩ = some (.int .i64 a.n) ∧ w'.cell? ⟨w.heap.size + 1 + 1, 0, none⟩ = some (.slice Ab b.rows.length kb) ∧ w'.cell? ⟨w.heap.size + 1 + 1, 1, none⟩ = some (.int .i64 b.n)) (n := 14) (by kernel_rfl) ?_
    generalize hX0 : W0.drew = X0
    have HB0 : Below W0.heap.size W0 X0 := hX0 ▸ (Below.refl _ _).drew
    have s0 : W0.heap.size ≤ X0.heap.size := HB0.size
    have hS : X0.cell? ⟨w.heap.size + 1, 0, none⟩ = some (.slice Aa a.rows.length ka) ∧ X0.cell? ⟨w.heap.size + 1, 1, none⟩ = some (.int .i64 a.n) ∧ X0.cell? ⟨w.heap.size + 1 + 1, 0, none⟩ = some (.slice Ab b.rows.length kb) ∧ X0.cell? ⟨w.heap.size + 1 + 1, 1, none⟩ = some (.int .i64 b.n) := ⟨(HB0.cell (p := ⟨w.heap.size + 1, 0, none⟩) z1).trans a0, (HB0.cell (p := ⟨w.heap.size + 1, 1, none⟩) z1).trans a1, (HB0.cell (p := ⟨w.heap.size + 1 + 1, 0, none⟩) z2).trans b0, (HB0.cell (p := ⟨w.heap.size + 1 + 1, 1, none⟩) z2).trans b1⟩
    clear hX0
    refine wpAnyT_take (i := 0) (oi := _) (v := ?_) rfl (by kernel_rfl) (by kernel_rfl) (by kernel_rfl) (by kernel_rfl) (fun _ _ _ h => h) (Or.inl ⟨by rfl, ?_⟩) hS ?_
    rotate_left
    · (intro w' hSw; (try dsimp only at hSw); go_simp) <;> with_reducible rfl
    try simp only [Act.put, List.setIfInBounds_toArray, List.set_cons_zero, List.set_cons_succ]
    refine wpAnyT_take (i := 1) (oi := _) (v := ?_) rfl (by kernel_rfl) (by kernel_rfl) (by kernel_rfl) (by kernel_rfl) (fun _ _ _ h => h) (Or.inl ⟨by rfl, ?_⟩) hS ?_
    rotate_left
    · (intro w' hSw; (try dsimp only at hSw); go_simp) <;> with_reducible rfl
    try simp only [Act.put, List.setIfInBounds_toArray, List.set_cons_zero, List.set_cons_succ]
    refine wpAnyT_take (i := 3) (oi := _) (v := ?_) rfl (by kernel_rfl) (by kernel_rfl) (by kernel_rfl) (by kernel_rfl) (fun _ _ _ h => h) (Or.inl ⟨by rfl, ?_⟩) hS ?_
    rotate_left
    · (intro w' hSw; (try dsimp only at hSw); go_simp) <;> with_reducible rfl
    try simp only [Act.put, List.setIfInBounds_toArray, List.set_cons_zero, List.set_cons_succ]
    refine wpAnyT_take (i := 4) (oi := _) (v := ?_) rfl (by kernel_rfl) (by kernel_rfl) (by kernel_rfl) (by kernel_rfl) (fun _ _ _ h => h) (Or.inl ⟨by rfl, ?_⟩) hS ?_
    rotate_left
    · (intro w' hSw; (try dsimp only at hSw); go_simp) <;> with_reducible rfl
    try simp only [Act.put, List.setIfInBounds_toArray, List.set_cons_zero, List.set_cons_succ]
    refine wpAnyT_take (i := 7) (oi := _) (v := ?_) rfl (by kernel_rfl) (by kernel_rfl) (by kernel_rfl) (by kernel_rfl) (fun _ _ _ h => h) (Or.inl ⟨by rfl, ?_⟩) hS ?_
    rotate_left
    · (intro w' hSw; (try dsimp only at hSw); go_simp) <;> with_reducible rfl
    try simp only [Act.put, List.setIfInBounds_toArray, List.set_cons_zero, List.set_cons_succ]
    refine wpAnyT_take (i := 8) (oi := _) (v := ?_) rfl (by kernel_rfl) (by kernel_rfl) (by kernel_rfl) (by kernel_rfl) (fun _ _ _ h => h) (Or.inl ⟨by rfl, ?_⟩) hS ?_
    rotate_left
    · (intro w' hSw; (try dsimp only at hSw); go_simp) <;> with_reducible rfl
    try simp only [Act.put, List.setIfInBounds_toArray, List.set_cons_zero, List.set_cons_succ]
    refine wpAnyT_take (i := 9) (oi := _) (v := ?_) rfl (by kernel_rfl) (by kernel_rfl) (by kernel_rfl) (by kernel_rfl) (fun _ _ _ h => h) (Or.inl ⟨by rfl, ?_⟩) hS ?_
    rotate_left
    · (intro w' hSw; (try dsimp only at hSw); go_simp) <;> with_reducible rfl
    try simp only [Act.put, List.setIfInBounds_toArray, List.set_cons_zero, List.set_cons_succ]
    refine wpAnyT_take (i := 10) (oi := _) (v := ?_) rfl (by kernel_rfl) (by kernel_rfl) (by kernel_rfl) (by kernel_rfl) (fun _ _ _ h => h) (Or.inl ⟨by rfl, ?_⟩) hS ?_
    rotate_left
    · (intro w' hSw; (try dsimp only at hSw); go_simp) <;> with_reducible rfl
    try simp only [Act.put, List.setIfInBounds_toArray, List.set_cons_zero, List.set_cons_succ]
    refine wpAnyT_take (i := 11) (oi := _) (v := ?_) rfl (by kernel_rfl) (by kernel_rfl) (by kernel_rfl) (by kernel_rfl) (fun _ _ _ h => h) (Or.inl ⟨by rfl, ?_⟩) hS ?_
    rotate_left
    · (intro w' hSw; (try dsimp only at hSw); go_simp) <;> with_reducible rfl
    try simp only [Act.put, List.setIfInBounds_toArray, List.set_cons_zero, List.set_cons_succ]
    refine wpAnyT_two (k := 2) (k2 := 13) (o := _) (o2 := _) (by kernel_rfl) rfl rfl rfl rfl ?_ ?_
    · intro K hK
      go_simp
      refine (hTa.out X0 HB0).mono ?_
      rintro e X1 ⟨vp, rfl, ⟨ps, hps, hp⟩, hb1⟩
      have HB1 : Below W0.heap.size W0 X1 := HB0.trans (hb1.mono HB0.size)
      have s1 := hb1.size
      have F1 : X1.cell? ⟨w.heap.size + 1, 0, none⟩ = some (.slice Aa a.rows.length ka) ∧ X1.cell? ⟨w.heap.size + 1, 1, none⟩ = some (.int .i64 a.n) ∧ X1.cell? ⟨w.heap.size + 1 + 1, 0, none⟩ = some (.slice Ab b.rows.length kb) ∧ X1.cell? ⟨w.heap.size + 1 + 1, 1, none⟩ = some (.int .i64 b.n) := ⟨(HB1.cell (p := ⟨w.heap.size + 1, 0, none⟩) z1).trans a0, (HB1.cell (p := ⟨w.heap.size + 1, 1, none⟩) z1).trans a1, (HB1.cell (p := ⟨w.heap.size + 1 + 1, 0, none⟩) z2).trans b0, (HB1.cell (p := ⟨w.heap.size + 1 + 1, 1, none⟩) z2).trans b1⟩
      refine hK.out _ _ (fun _ => F1) ?_
      clear hK
      try simp only [Act.put, List.setIfInBounds_toArray, List.set_cons_zero, List.set_cons_succ]
      have Ps := Lib.hid hps
      have P1 := Lib.hid hp
      clear hps hp
      refine wpAnyT_two (k := 5) (k2 := 13) (o := _) (o2 := _) (by kernel_rfl) rfl rfl rfl rfl ?_ ?_
      · intro K hK
        go_simp
        refine (hTb.out X1 HB1).mono ?_
        rintro e X2 ⟨vq, rfl, ⟨qs, hqs, hq⟩, hb2⟩
        have HB2 : Below W0.heap.size W0 X2 := HB1.trans (hb2.mono HB1.size)
        have s2 := hb2.size
        have F2 : X2.cell? ⟨w.heap.size + 1, 0, none⟩ = some (.slice Aa a.rows.length ka) ∧ X2.cell? ⟨w.heap.size + 1, 1, none⟩ = some (.int .i64 a.n) ∧ X2.cell? ⟨w.heap.size + 1 + 1, 0, none⟩ = some (.slice Ab b.rows.length kb) ∧ X2.cell? ⟨w.heap.size + 1 + 1, 1, none⟩ = some (.int .i64 b.n) := ⟨(HB2.cell (p := ⟨w.heap.size + 1, 0, none⟩) z1).trans a0, (HB2.cell (p := ⟨w.heap.size + 1, 1, none⟩) z1).trans a1, (HB2.cell (p := ⟨w.heap.size + 1 + 1, 0, none⟩) z2).trans b0, (HB2.cell (p := ⟨w.heap.size + 1 + 1, 1, none⟩) z2).trans b1⟩
        refine hK.out _ _ (fun _ => F2) ?_
        clear hK
        try simp only [Act.put, List.setIfInBounds_toArray, List.set_cons_zero, List.set_cons_succ]
        have Qs := Lib.hid hqs
        have Q2 := Lib.hid hq
        clear hqs hq
        have P2 := Lib.hid (P1.out.imp (fun g _ h => hb2.block g (by omega)) (Nat.le_refl _) (Nat.le_refl _))
        refine wpAnyT_two (k := 6) (k2 := 13) (o := _) (o2 := _) (by kernel_rfl) rfl rfl rfl rfl ?_ ?_
        · intro K hK
          have hpl : ps.length ≤ 1048576 := (by have h1 := congrArg List.length Ps.out; rw [List.length_map] at h1; omega)
          have hql : qs.length ≤ 1048576 := (by have h1 := congrArg List.length Qs.out; rw [List.length_map] at h1; omega)
          have hnw := Q2.out.own
          obtain ⟨A2, c2, rfl, -, -, -⟩ := hnw.cells
          have Hnw := Lib.hid hnw.news
          clear hnw
          refine step_spread rfl _ _ 32 rfl 0 51 i0 _ 2 32 Tryz.underlying32 hif.out hz0.out hz1.out hz2.out rfl (by decide) (by decide) P2.out.out rfl rfl Hnw.out.1 Hnw.out.2.1 Hnw.out.2.2 Q2.out.one (by omega) (Nat.zero_le _) ?_
          intro vj X3 hown hgrow hnb
          obtain ⟨A3, c3, rfl, -, -, -⟩ := (Own.new hown).cells
          have HB3 : Below W0.heap.size W0 X3 := Below.grown HB2 hgrow HB2.size (fun g hg => by have := (P2.out.outIn g hg).1; omega)
          have s3 := hgrow.size
          have F3 : X3.cell? ⟨w.heap.size + 1, 0, none⟩ = some (.slice Aa a.rows.length ka) ∧ X3.cell? ⟨w.heap.size + 1, 1, none⟩ = some (.int .i64 a.n) ∧ X3.cell? ⟨w.heap.size + 1 + 1, 0, none⟩ = some (.slice Ab b.rows.length kb) ∧ X3.cell? ⟨w.heap.size + 1 + 1, 1, none⟩ = some (.int .i64 b.n) := ⟨(HB3.cell (p := ⟨w.heap.size + 1, 0, none⟩) z1).trans a0, (HB3.cell (p := ⟨w.heap.size + 1, 1, none⟩) z1).trans a1, (HB3.cell (p := ⟨w.heap.size + 1 + 1, 0, none⟩) z2).trans b0, (HB3.cell (p := ⟨w.heap.size + 1 + 1, 1, none⟩) z2).trans b1⟩
          have J := P2.out.join2 (w1 := X2) (by omega) (by omega) Q2.out (by omega) (by omega) hown hgrow hnb (by omega)
          have J1 := Lib.hid J.1
          have J2 := Lib.hid J.2
          refine hK.out _ _ (fun _ => F3) ?_
          clear hK hown hgrow hnb J
          try simp only [Act.put, List.setIfInBounds_toArray, List.set_cons_zero, List.set_cons_succ]
          refine wpAnyT_take (i := 12) (oi := _) (v := ?_) rfl (by kernel_rfl) (by kernel_rfl) (by kernel_rfl) (by kernel_rfl) (fun _ _ _ h => h) (Or.inl ⟨by rfl, ?_⟩) F3 ?_
          rotate_left
          · (intro w' hSw; (try dsimp only at hSw); go_simp) <;> with_reducible rfl
          try simp only [Act.put, List.setIfInBounds_toArray, List.set_cons_zero, List.set_cons_succ]
          refine wpAnyT_one (k := 13) (o := _) (by kernel_rfl) rfl rfl ?_
          intro K hK
          go_simp
          have up4 : Below X3.heap.size X3 (X3.alloc (.cells #[.slice none 0 0, .int .i64 0, .bool false, .int .i64 0, .int .i64 0, .string ⟨#[]⟩] 37)) := up_a1 X3 _
          have HB4 : Below W0.heap.size W0 (X3.alloc (.cells #[.slice none 0 0, .int .i64 0, .bool false, .int .i64 0, .int .i64 0, .string ⟨#[]⟩] 37)) := HB3.trans (up4.mono HB3.size)
          have GZ4 : (X3.alloc (.cells #[.slice none 0 0, .int .i64 0, .bool false, .int .i64 0, .int .i64 0, .string ⟨#[]⟩] 37)).heap[X3.heap.size]? = some (.cells #[.slice none 0 0, .int .i64 0, .bool false, .int .i64 0, .int .i64 0, .string ⟨#[]⟩] 37) := heap_alloc_new X3 _
          have s4 : X3.heap.size < (X3.alloc (.cells #[.slice none 0 0, .int .i64 0, .bool false, .int .i64 0, .int .i64 0, .string ⟨#[]⟩] 37)).heap.size := by simp
          have F4 : (X3.alloc (.cells #[.slice none 0 0, .int .i64 0, .bool false, .int .i64 0, .int .i64 0, .string ⟨#[]⟩] 37)).cell? ⟨w.heap.size + 1, 0, none⟩ = some (.slice Aa a.rows.length ka) ∧ (X3.alloc (.cells #[.slice none 0 0, .int .i64 0, .bool false, .int .i64 0, .int .i64 0, .string ⟨#[]⟩] 37)).cell? ⟨w.heap.size + 1, 1, none⟩ = some (.int .i64 a.n) ∧ (X3.alloc (.cells #[.slice none 0 0, .int .i64 0, .bool false, .int .i64 0, .int .i64 0, .string ⟨#[]⟩] 37)).cell? ⟨w.heap.size + 1 + 1, 0, none⟩ = some (.slice Ab b.rows.length kb) ∧ (X3.alloc (.cells #[.slice none 0 0, .int .i64 0, .bool false, .int .i64 0, .int .i64 0, .string ⟨#[]⟩] 37)).cell? ⟨w.heap.size + 1 + 1, 1, none⟩ = some (.int .i64 b.n) := ⟨(HB4.cell (p := ⟨w.heap.size + 1, 0, none⟩) z1).trans a0, (HB4.cell (p := ⟨w.heap.size + 1, 1, none⟩) z1).trans a1, (HB4.cell (p := ⟨w.heap.size + 1 + 1, 0, none⟩) z2).trans b0, (HB4.cell (p := ⟨w.heap.size + 1 + 1, 1, none⟩) z2).trans b1⟩
          refine hK.out _ _ (fun _ => F4) ?_
          clear hK
          generalize (X3.alloc (.cells #[.slice none 0 0, .int .i64 0, .bool false, .int .i64 0, .int .i64 0, .string ⟨#[]⟩] 37)) = X4 at *
          try simp only [Act.put, List.setIfInBounds_toArray, List.set_cons_zero, List.set_cons_succ]
          have GZ4 := Lib.hid GZ4
          have far := Lib.hid (far_behind J1.out (Nat.le_refl _))
          have J1 := Lib.hid (J1.out.imp (w' := X4) (fun g _ h => up4.block g h) (Nat.le_refl _) (Nat.le_of_lt s4))
          have G6 := set_six (v0 := .slice A3 (ps.length + qs.length) c3) (v1 := .int .i64 (IntKind.i64.wrap (a.n + b.n))) (v2 := .bool false) (v3 := .int .i64 0) (v4 := .int .i64 0) (v5 := .string ⟨#[]⟩) GZ4.out
          have hch : Chg X3.heap.size (X3.heap.size + 1) X4 (((((((X4.setCell ⟨X3.heap.size, 0, none⟩ (.slice A3 (ps.length + qs.length) c3)).setCell ⟨X3.heap.size, 1, none⟩ (.int .i64 (IntKind.i64.wrap (a.n + b.n)))).setCell ⟨X3.heap.size, 2, none⟩ (.bool false)).setCell ⟨X3.heap.size, 3, none⟩ (.int .i64 0)).setCell ⟨X3.heap.size, 4, none⟩ (.int .i64 0)).setCell ⟨X3.heap.size, 5, none⟩ (.string ⟨#[]⟩))) := (((((chg_set _ _ _ _).trans (chg_set _ _ _ _)).trans (chg_set _ _ _ _)).trans (chg_set _ _ _ _)).trans (chg_set _ _ _ _)).trans (chg_set _ _ _ _)
          have hbt : W0.heap.size ≤ X3.heap.size := by omega
          have hmap : (ps ++ qs).map Prod.fst = a.rows ++ b.rows := by rw [List.map_append, Ps.out, Qs.out]
          have R := Lib.hid (show ∃ (bj : Nat) (Aj : Option Addr) (nj cj : Nat) (pj : List (R × Value)), (Value.pointer (some ⟨X3.heap.size, 0, none⟩)) = .pointer (some ⟨bj, 0, none⟩) ∧ W0.heap.size ≤ bj ∧ (((((((X4.setCell ⟨X3.heap.size, 0, none⟩ (.slice A3 (ps.length + qs.length) c3)).setCell ⟨X3.heap.size, 1, none⟩ (.int .i64 (IntKind.i64.wrap (a.n + b.n)))).setCell ⟨X3.heap.size, 2, none⟩ (.bool false)).setCell ⟨X3.heap.size, 3, none⟩ (.int .i64 0)).setCell ⟨X3.heap.size, 4, none⟩ (.int .i64 0)).setCell ⟨X3.heap.size, 5, none⟩ (.string ⟨#[]⟩))).heap[bj]? = some (.cells #[.slice Aj nj cj, .int .i64 (IntKind.i64.wrap (a.n + b.n)), .bool false, .int .i64 0, .int .i64 0, .string ⟨#[]⟩] 37) ∧ pj.map Prod.fst = a.rows ++ b.rows ∧ OwnRp 51 25 (((((((X4.setCell ⟨X3.heap.size, 0, none⟩ (.slice A3 (ps.length + qs.length) c3)).setCell ⟨X3.heap.size, 1, none⟩ (.int .i64 (IntKind.i64.wrap (a.n + b.n)))).setCell ⟨X3.heap.size, 2, none⟩ (.bool false)).setCell ⟨X3.heap.size, 3, none⟩ (.int .i64 0)).setCell ⟨X3.heap.size, 4, none⟩ (.int .i64 0)).setCell ⟨X3.heap.size, 5, none⟩ (.string ⟨#[]⟩))) W0.heap.size (((((((X4.setCell ⟨X3.heap.size, 0, none⟩ (.slice A3 (ps.length + qs.length) c3)).setCell ⟨X3.heap.size, 1, none⟩ (.int .i64 (IntKind.i64.wrap (a.n + b.n)))).setCell ⟨X3.heap.size, 2, none⟩ (.bool false)).setCell ⟨X3.heap.size, 3, none⟩ (.int .i64 0)).setCell ⟨X3.heap.size, 4, none⟩ (.int .i64 0)).setCell ⟨X3.heap.size, 5, none⟩ (.string ⟨#[]⟩))).heap.size (.slice Aj nj cj) pj ∧ Far bj (.slice Aj nj cj) pj ∧ Below W0.heap.size W0 (((((((X4.setCell ⟨X3.heap.size, 0, none⟩ (.slice A3 (ps.length + qs.length) c3)).setCell ⟨X3.heap.size, 1, none⟩ (.int .i64 (IntKind.i64.wrap (a.n + b.n)))).setCell ⟨X3.heap.size, 2, none⟩ (.bool false)).setCell ⟨X3.heap.size, 3, none⟩ (.int .i64 0)).setCell ⟨X3.heap.size, 4, none⟩ (.int .i64 0)).setCell ⟨X3.heap.size, 5, none⟩ (.string ⟨#[]⟩))) from ⟨X3.heap.size, A3, ps.length + qs.length, c3, ps ++ qs, rfl, hbt, G6, hmap, (J1.out.keepFar far.out hch).imp (fun _ _ _ => rfl) (by omega) (Nat.le_refl _), far.out, HB4.trans ((hch.below (Nat.le_refl _) (by omega)).mono hbt)⟩)
          clear G6 hch hbt hmap
          have t0 := cell_of_row X4 _ 0 _ _ _ GZ4.out
          have t1 := cell_of_row X4 _ 1 _ _ _ GZ4.out
          have t2 := cell_of_row X4 _ 2 _ _ _ GZ4.out
          have t3 := cell_of_row X4 _ 3 _ _ _ GZ4.out
          have t4 := cell_of_row X4 _ 4 _ _ _ GZ4.out
          have t5 := cell_of_row X4 _ 5 _ _ _ GZ4.out
          simp only [List.getElem?_toArray, List.getElem?_cons_zero, List.getElem?_cons_succ] at t0 t1 t2 t3 t4 t5
          have ft := fun o => frozen_of_row X4 _ o _ _ GZ4.out
          refine wpAnyT_one (k := 14) (o := _) (by kernel_rfl) rfl rfl ?_
          intro K hK
          go_simp
          refine hK.out _ _ (fun h => absurd rfl h) ?_
          clear hK
          refine wpAnyT_done (by kernel_rfl) ?_ _
          go_wp2_with fail
          go_meet
          with_reducible exact R.out
        · intro K hK
          go_simp
          have up5 : Below X2.heap.size X2 (X2.alloc (.cells #[.slice none 0 0, .int .i64 0, .bool false, .int .i64 0, .int .i64 0, .string ⟨#[]⟩] 37)) := up_a1 X2 _
          have HB5 : Below W0.heap.size W0 (X2.alloc (.cells #[.slice none 0 0, .int .i64 0, .bool false, .int .i64 0, .int .i64 0, .string ⟨#[]⟩] 37)) := HB2.trans (up5.mono HB2.size)
          have GZ5 : (X2.alloc (.cells #[.slice none 0 0, .int .i64 0, .bool false, .int .i64 0, .int .i64 0, .string ⟨#[]⟩] 37)).heap[X2.heap.size]? = some (.cells #[.slice none 0 0, .int .i64 0, .bool false, .int .i64 0, .int .i64 0, .string ⟨#[]⟩] 37) := heap_alloc_new X2 _
          have s5 : X2.heap.size < (X2.alloc (.cells #[.slice none 0 0, .int .i64 0, .bool false, .int .i64 0, .int .i64 0, .string ⟨#[]⟩] 37)).heap.size := by simp
          have F5 : (X2.alloc (.cells #[.slice none 0 0, .int .i64 0, .bool false, .int .i64 0, .int .i64 0, .string ⟨#[]⟩] 37)).cell? ⟨w.heap.size + 1, 0, none⟩ = some (.slice Aa a.rows.length ka) ∧ (X2.alloc (.cells #[.slice none 0 0, .int .i64 0, .bool false, .int .i64 0, .int .i64 0, .string ⟨#[]⟩] 37)).cell? ⟨w.heap.size + 1, 1, none⟩ = some (.int .i64 a.n) ∧ (X2.alloc (.cells #[.slice none 0 0, .int .i64 0, .bool false, .int .i64 0, .int .i64 0, .string ⟨#[]⟩] 37)).cell? ⟨w.heap.size + 1 + 1, 0, none⟩ = some (.slice Ab b.rows.length kb) ∧ (X2.alloc (.cells #[.slice none 0 0, .int .i64 0, .bool false, .int .i64 0, .int .i64 0, .string ⟨#[]⟩] 37)).cell? ⟨w.heap.size + 1 + 1, 1, none⟩ = some (.int .i64 b.n) := ⟨(HB5.cell (p := ⟨w.heap.size + 1, 0, none⟩) z1).trans a0, (HB5.cell (p := ⟨w.heap.size + 1, 1, none⟩) z1).trans a1, (HB5.cell (p := ⟨w.heap.size + 1 + 1, 0, none⟩) z2).trans b0, (HB5.cell (p := ⟨w.heap.size + 1 + 1, 1, none⟩) z2).trans b1⟩
          refine hK.out _ _ (fun _ => F5) ?_
          clear hK
          generalize (X2.alloc (.cells #[.slice none 0 0, .int .i64 0, .bool false, .int .i64 0, .int .i64 0, .string ⟨#[]⟩] 37)) = X5 at *
          try simp only [Act.put, List.setIfInBounds_toArray, List.set_cons_zero, List.set_cons_succ]
          have GZ5 := Lib.hid GZ5
          have P5 := Lib.hid (P2.out.imp (fun g _ h => up5.block g (by omega)) (Nat.le_refl _) (Nat.le_refl _))
          have Q5 := Lib.hid (Q2.out.imp (fun g _ h => up5.block g (by omega)) (Nat.le_refl _) (Nat.le_refl _))
          refine wpAnyT_one (k := 6) (o := _) (by kernel_rfl) rfl rfl ?_
          intro K hK
          have hpl : ps.length ≤ 1048576 := (by have h1 := congrArg List.length Ps.out; rw [List.length_map] at h1; omega)
          have hql : qs.length ≤ 1048576 := (by have h1 := congrArg List.length Qs.out; rw [List.length_map] at h1; omega)
          have hnw := Q5.out.own
          obtain ⟨A2, c2, rfl, -, -, -⟩ := hnw.cells
          have Hnw := Lib.hid hnw.news
          clear hnw
          refine step_spread rfl _ _ 32 rfl 0 51 i0 _ 2 32 Tryz.underlying32 hif.out hz0.out hz1.out hz2.out rfl (by decide) (by decide) P5.out.out rfl rfl Hnw.out.1 Hnw.out.2.1 Hnw.out.2.2 Q5.out.one (by omega) (Nat.zero_le _) ?_
          intro vj X6 hown hgrow hnb
          obtain ⟨A3, c3, rfl, -, -, -⟩ := (Own.new hown).cells
          have HB6 : Below W0.heap.size W0 X6 := Below.grown HB5 hgrow HB5.size (fun g hg => by have := (P5.out.outIn g hg).1; omega)
          have s6 := hgrow.size
          have F6 : X6.cell? ⟨w.heap.size + 1, 0, none⟩ = some (.slice Aa a.rows.length ka) ∧ X6.cell? ⟨w.heap.size + 1, 1, none⟩ = some (.int .i64 a.n) ∧ X6.cell? ⟨w.heap.size + 1 + 1, 0, none⟩ = some (.slice Ab b.rows.length kb) ∧ X6.cell? ⟨w.heap.size + 1 + 1, 1, none⟩ = some (.int .i64 b.n) := ⟨(HB6.cell (p := ⟨w.heap.size + 1, 0, none⟩) z1).trans a0, (HB6.cell (p := ⟨w.heap.size + 1, 1, none⟩) z1).trans a1, (HB6.cell (p := ⟨w.heap.size + 1 + 1, 0, none⟩) z2).trans b0, (HB6.cell (p := ⟨w.heap.size + 1 + 1, 1, none⟩) z2).trans b1⟩
          have J := P5.out.join2 (w1 := X5) (by omega) (by omega) Q5.out (by omega) (by omega) hown hgrow hnb (by omega)
          have J1 := Lib.hid J.1
          have J2 := Lib.hid J.2
          have GZ6 := Lib.hid ((hgrow.block X2.heap.size (by omega) (fun e => by have := P5.out.outIn _ e.symm; omega)).trans GZ5.out)
          have far := Lib.hid (J2.out X2.heap.size (by omega) (by omega) (by omega))
          refine hK.out _ _ (fun _ => F6) ?_
          clear hK hown hgrow hnb J
          try simp only [Act.put, List.setIfInBounds_toArray, List.set_cons_zero, List.set_cons_succ]
          refine wpAnyT_take (i := 12) (oi := _) (v := ?_) rfl (by kernel_rfl) (by kernel_rfl) (by kernel_rfl) (by kernel_rfl) (fun _ _ _ h => h) (Or.inl ⟨by rfl, ?_⟩) F6 ?_
          rotate_left
          · (intro w' hSw; (try dsimp only at hSw); go_simp) <;> with_reducible rfl
          try simp only [Act.put, List.setIfInBounds_toArray, List.set_cons_zero, List.set_cons_succ]
          have G6 := set_six (v0 := .slice A3 (ps.length + qs.length) c3) (v1 := .int .i64 (IntKind.i64.wrap (a.n + b.n))) (v2 := .bool false) (v3 := .int .i64 0) (v4 := .int .i64 0) (v5 := .string ⟨#[]⟩) GZ6.out
          have hch : Chg X2.heap.size (X2.heap.size + 1) X6 (((((((X6.setCell ⟨X2.heap.size, 0, none⟩ (.slice A3 (ps.length + qs.length) c3)).setCell ⟨X2.heap.size, 1, none⟩ (.int .i64 (IntKind.i64.wrap (a.n + b.n)))).setCell ⟨X2.heap.size, 2, none⟩ (.bool false)).setCell ⟨X2.heap.size, 3, none⟩ (.int .i64 0)).setCell ⟨X2.heap.size, 4, none⟩ (.int .i64 0)).setCell ⟨X2.heap.size, 5, none⟩ (.string ⟨#[]⟩))) := (((((chg_set _ _ _ _).trans (chg_set _ _ _ _)).trans (chg_set _ _ _ _)).trans (chg_set _ _ _ _)).trans (chg_set _ _ _ _)).trans (chg_set _ _ _ _)
          have hbt : W0.heap.size ≤ X2.heap.size := by omega
          have hmap : (ps ++ qs).map Prod.fst = a.rows ++ b.rows := by rw [List.map_append, Ps.out, Qs.out]
          have R := Lib.hid (show ∃ (bj : Nat) (Aj : Option Addr) (nj cj : Nat) (pj : List (R × Value)), (Value.pointer (some ⟨X2.heap.size, 0, none⟩)) = .pointer (some ⟨bj, 0, none⟩) ∧ W0.heap.size ≤ bj ∧ (((((((X6.setCell ⟨X2.heap.size, 0, none⟩ (.slice A3 (ps.length + qs.length) c3)).setCell ⟨X2.heap.size, 1, none⟩ (.int .i64 (IntKind.i64.wrap (a.n + b.n)))).setCell ⟨X2.heap.size, 2, none⟩ (.bool false)).setCell ⟨X2.heap.size, 3, none⟩ (.int .i64 0)).setCell ⟨X2.heap.size, 4, none⟩ (.int .i64 0)).setCell ⟨X2.heap.size, 5, none⟩ (.string ⟨#[]⟩))).heap[bj]? = some (.cells #[.slice Aj nj cj, .int .i64 (IntKind.i64.wrap (a.n + b.n)), .bool false, .int .i64 0, .int .i64 0, .string ⟨#[]⟩] 37) ∧ pj.map Prod.fst = a.rows ++ b.rows ∧ OwnRp 51 25 (((((((X6.setCell ⟨X2.heap.size, 0, none⟩ (.slice A3 (ps.length + qs.length) c3)).setCell ⟨X2.heap.size, 1, none⟩ (.int .i64 (IntKind.i64.wrap (a.n + b.n)))).setCell ⟨X2.heap.size, 2, none⟩ (.bool false)).setCell ⟨X2.heap.size, 3, none⟩ (.int .i64 0)).setCell ⟨X2.heap.size, 4, none⟩ (.int .i64 0)).setCell ⟨X2.heap.size, 5, none⟩ (.string ⟨#[]⟩))) W0.heap.size (((((((X6.setCell ⟨X2.heap.size, 0, none⟩ (.slice A3 (ps.length + qs.length) c3)).setCell ⟨X2.heap.size, 1, none⟩ (.int .i64 (IntKind.i64.wrap (a.n + b.n)))).setCell ⟨X2.heap.size, 2, none⟩ (.bool false)).setCell ⟨X2.heap.size, 3, none⟩ (.int .i64 0)).setCell ⟨X2.heap.size, 4, none⟩ (.int .i64 0)).setCell ⟨X2.heap.size, 5, none⟩ (.string ⟨#[]⟩))).heap.size (.slice Aj nj cj) pj ∧ Far bj (.slice Aj nj cj) pj ∧ Below W0.heap.size W0 (((((((X6.setCell ⟨X2.heap.size, 0, none⟩ (.slice A3 (ps.length + qs.length) c3)).setCell ⟨X2.heap.size, 1, none⟩ (.int .i64 (IntKind.i64.wrap (a.n + b.n)))).setCell ⟨X2.heap.size, 2, none⟩ (.bool false)).setCell ⟨X2.heap.size, 3, none⟩ (.int .i64 0)).setCell ⟨X2.heap.size, 4, none⟩ (.int .i64 0)).setCell ⟨X2.heap.size, 5, none⟩ (.string ⟨#[]⟩))) from ⟨X2.heap.size, A3, ps.length + qs.length, c3, ps ++ qs, rfl, hbt, G6, hmap, (J1.out.keepFar far.out hch).imp (fun _ _ _ => rfl) (by omega) (Nat.le_refl _), far.out, HB6.trans ((hch.below (Nat.le_refl _) (by omega)).mono hbt)⟩)
          clear G6 hch hbt hmap
          have t0 := cell_of_row X6 _ 0 _ _ _ GZ6.out
          have t1 := cell_of_row X6 _ 1 _ _ _ GZ6.out
          have t2 := cell_of_row X6 _ 2 _ _ _ GZ6.out
          have t3 := cell_of_row X6 _ 3 _ _ _ GZ6.out
          have t4 := cell_of_row X6 _ 4 _ _ _ GZ6.out
          have t5 := cell_of_row X6 _ 5 _ _ _ GZ6.out
          simp only [List.getElem?_toArray, List.getElem?_cons_zero, List.getElem?_cons_succ] at t0 t1 t2 t3 t4 t5
          have ft := fun o => frozen_of_row X6 _ o _ _ GZ6.out
          refine wpAnyT_one (k := 14) (o := _) (by kernel_rfl) rfl rfl ?_
          intro K hK
          go_simp
          refine hK.out _ _ (fun h => absurd rfl h) ?_
          clear hK
          refine wpAnyT_done (by kernel_rfl) ?_ _
          go_wp2_with fail
          go_meet
          with_reducible exact R.out
      · intro K hK
        go_simp
        have up7 : Below X1.heap.size X1 (X1.alloc (.cells #[.slice none 0 0, .int .i64 0, .bool false, .int .i64 0, .int .i64 0, .string ⟨#[]⟩] 37)) := up_a1 X1 _
        have HB7 : Below W0.heap.size W0 (X1.alloc (.cells #[.slice none 0 0, .int .i64 0, .bool false, .int .i64 0, .int .i64 0, .string ⟨#[]⟩] 37)) := HB1.trans (up7.mono HB1.size)
        have GZ7 : (X1.alloc (.cells #[.slice none 0 0, .int .i64 0, .bool false, .int .i64 0, .int .i64 0, .string ⟨#[]⟩] 37)).heap[X1.heap.size]? = some (.cells #[.slice none 0 0, .int .i64 0, .bool false, .int .i64 0, .int .i64 0, .string ⟨#[]⟩] 37) := heap_alloc_new X1 _
        have s7 : X1.heap.size < (X1.alloc (.cells #[.slice none 0 0, .int .i64 0, .bool false, .int .i64 0, .int .i64 0, .string ⟨#[]⟩] 37)).heap.size := by simp
        have F7 : (X1.alloc (.cells #[.slice none 0 0, .int .i64 0, .bool false, .int .i64 0, .int .i64 0, .string ⟨#[]⟩] 37)).cell? ⟨w.heap.size + 1, 0, none⟩ = some (.slice Aa a.rows.length ka) ∧ (X1.alloc (.cells #[.slice none 0 0, .int .i64 0, .bool false, .int .i64 0, .int .i64 0, .string ⟨#[]⟩] 37)).cell? ⟨w.heap.size + 1, 1, none⟩ = some (.int .i64 a.n) ∧ (X1.alloc (.cells #[.slice none 0 0, .int .i64 0, .bool false, .int .i64 0, .int .i64 0, .string ⟨#[]⟩] 37)).cell? ⟨w.heap.size + 1 + 1, 0, none⟩ = some (.slice Ab b.rows.length kb) ∧ (X1.alloc (.cells #[.slice none 0 0, .int .i64 0, .bool false, .int .i64 0, .int .i64 0, .string ⟨#[]⟩] 37)).cell? ⟨w.heap.size + 1 + 1, 1, none⟩ = some (.int .i64 b.n) := ⟨(HB7.cell (p := ⟨w.heap.size + 1, 0, none⟩) z1).trans a0, (HB7.cell (p := ⟨w.heap.size + 1, 1, none⟩) z1).trans a1, (HB7.cell (p := ⟨w.heap.size + 1 + 1, 0, none⟩) z2).trans b0, (HB7.cell (p := ⟨w.heap.size + 1 + 1, 1, none⟩) z2).trans b1⟩
        refine hK.out _ _ (fun _ => F7) ?_
        clear hK
        generalize (X1.alloc (.cells #[.slice none 0 0, .int .i64 0, .bool false, .int .i64 0, .int .i64 0, .string ⟨#[]⟩] 37)) = X7 at *
        try simp only [Act.put, List.setIfInBounds_toArray, List.set_cons_zero, List.set_cons_succ]
        have GZ7 := Lib.hid GZ7
        have P7 := Lib.hid (P1.out.imp (fun g _ h => up7.block g (by omega)) (Nat.le_refl _) (Nat.le_refl _))
        refine wpAnyT_one (k := 5) (o := _) (by kernel_rfl) rfl rfl ?_
        intro K hK
        go_simp
        refine (hTb.out X7 HB7).mono ?_
        rintro e X8 ⟨vq, rfl, ⟨qs, hqs, hq⟩, hb8⟩
        have HB8 : Below W0.heap.size W0 X8 := HB7.trans (hb8.mono HB7.size)
        have s8 := hb8.size
        have F8 : X8.cell? ⟨w.heap.size + 1, 0, none⟩ = some (.slice Aa a.rows.length ka) ∧ X8.cell? ⟨w.heap.size + 1, 1, none⟩ = some (.int .i64 a.n) ∧ X8.cell? ⟨w.heap.size + 1 + 1, 0, none⟩ = some (.slice Ab b.rows.length kb) ∧ X8.cell? ⟨w.heap.size + 1 + 1, 1, none⟩ = some (.int .i64 b.n) := ⟨(HB8.cell (p := ⟨w.heap.size + 1, 0, none⟩) z1).trans a0, (HB8.cell (p := ⟨w.heap.size + 1, 1, none⟩) z1).trans a1, (HB8.cell (p := ⟨w.heap.size + 1 + 1, 0, none⟩) z2).trans b0, (HB8.cell (p := ⟨w.heap.size + 1 + 1, 1, none⟩) z2).trans b1⟩
        refine hK.out _ _ (fun _ => F8) ?_
        clear hK
        try simp only [Act.put, List.setIfInBounds_toArray, List.set_cons_zero, List.set_cons_succ]
        have Qs := Lib.hid hqs
        have Q8 := Lib.hid hq
        clear hqs hq
        have GZ8 := Lib.hid ((hb8.block _ (by omega)).trans GZ7.out)
        have P8 := Lib.hid (P7.out.imp (fun g _ h => hb8.block g (by omega)) (Nat.le_refl _) (Nat.le_refl _))
        refine wpAnyT_one (k := 6) (o := _) (by kernel_rfl) rfl rfl ?_
        intro K hK
        have hpl : ps.length ≤ 1048576 := (by have h1 := congrArg List.length Ps.out; rw [List.length_map] at h1; omega)
        have hql : qs.length ≤ 1048576 := (by have h1 := congrArg List.length Qs.out; rw [List.length_map] at h1; omega)
        have hnw := Q8.out.own
        obtain ⟨A2, c2, rfl, -, -, -⟩ := hnw.cells
        have Hnw := Lib.hid hnw.news
        clear hnw
        refine step_spread rfl _ _ 32 rfl 0 51 i0 _ 2 32 Tryz.underlying32 hif.out hz0.out hz1.out hz2.out rfl (by decide) (by decide) P8.out.out rfl rfl Hnw.out.1 Hnw.out.2.1 Hnw.out.2.2 Q8.out.one (by omega) (Nat.zero_le _) ?_
        intro vj X9 hown hgrow hnb
        obtain ⟨A3, c3, rfl, -, -, -⟩ := (Own.new hown).cells
        have HB9 : Below W0.heap.size W0 X9 := Below.grown HB8 hgrow HB8.size (fun g hg => by have := (P8.out.outIn g hg).1; omega)
        have s9 := hgrow.size
        have F9 : X9.cell? ⟨w.heap.size + 1, 0, none⟩ = some (.slice Aa a.rows.length ka) ∧ X9.cell? ⟨w.heap.size + 1, 1, none⟩ = some (.int .i64 a.n) ∧ X9.cell? ⟨w.heap.size + 1 + 1, 0, none⟩ = some (.slice Ab b.rows.length kb) ∧ X9.cell? ⟨w.heap.size + 1 + 1, 1, none⟩ = some (.int .i64 b.n) := ⟨(HB9.cell (p := ⟨w.heap.size + 1, 0, none⟩) z1).trans a0, (HB9.cell (p := ⟨w.heap.size + 1, 1, none⟩) z1).trans a1, (HB9.cell (p := ⟨w.heap.size + 1 + 1, 0, none⟩) z2).trans b0, (HB9.cell (p := ⟨w.heap.size + 1 + 1, 1, none⟩) z2).trans b1⟩
        have J := P8.out.join2 (w1 := X8) (by omega) (by omega) Q8.out (by omega) (by omega) hown hgrow hnb (by omega)
        have J1 := Lib.hid J.1
        have J2 := Lib.hid J.2
        have GZ9 := Lib.hid ((hgrow.block X1.heap.size (by omega) (fun e => by have := P8.out.outIn _ e.symm; omega)).trans GZ8.out)
        have far := Lib.hid (J2.out X1.heap.size (by omega) (by omega) (by omega))
        refine hK.out _ _ (fun _ => F9) ?_
        clear hK hown hgrow hnb J
        try simp only [Act.put, List.setIfInBounds_toArray, List.set_cons_zero, List.set_cons_succ]
        refine wpAnyT_take (i := 12) (oi := _) (v := ?_) rfl (by kernel_rfl) (by kernel_rfl) (by kernel_rfl) (by kernel_rfl) (fun _ _ _ h => h) (Or.inl ⟨by rfl, ?_⟩) F9 ?_
        rotate_left
        · (intro w' hSw; (try dsimp only at hSw); go_simp) <;> with_reducible rfl
        try simp only [Act.put, List.setIfInBounds_toArray, List.set_cons_zero, List.set_cons_succ]
        have G6 := set_six (v0 := .slice A3 (ps.length + qs.length) c3) (v1 := .int .i64 (IntKind.i64.wrap (a.n + b.n))) (v2 := .bool false) (v3 := .int .i64 0) (v4 := .int .i64 0) (v5 := .string ⟨#[]⟩) GZ9.out
        have hch : Chg X1.heap.size (X1.heap.size + 1) X9 (((((((X9.setCell ⟨X1.heap.size, 0, none⟩ (.slice A3 (ps.length + qs.length) c3)).setCell ⟨X1.heap.size, 1, none⟩ (.int .i64 (IntKind.i64.wrap (a.n + b.n)))).setCell ⟨X1.heap.size, 2, none⟩ (.bool false)).setCell ⟨X1.heap.size, 3, none⟩ (.int .i64 0)).setCell ⟨X1.heap.size, 4, none⟩ (.int .i64 0)).setCell ⟨X1.heap.size, 5, none⟩ (.string ⟨#[]⟩))) := (((((chg_set _ _ _ _).trans (chg_set _ _ _ _)).trans (chg_set _ _ _ _)).trans (chg_set _ _ _ _)).trans (chg_set _ _ _ _)).trans (chg_set _ _ _ _)
        have hbt : W0.heap.size ≤ X1.heap.size := by omega
        have hmap : (ps ++ qs).map Prod.fst = a.rows ++ b.rows := by rw [List.map_append, Ps.out, Qs.out]
        have R := Lib.hid (show ∃ (bj : Nat) (Aj : Option Addr) (nj cj : Nat) (pj : List (R × Value)), (Value.pointer (some ⟨X1.heap.size, 0, none⟩)) = .pointer (some ⟨bj, 0, none⟩) ∧ W0.heap.size ≤ bj ∧ (((((((X9.setCell ⟨X1.heap.size, 0, none⟩ (.slice A3 (ps.length + qs.length) c3)).setCell ⟨X1.heap.size, 1, none⟩ (.int .i64 (IntKind.i64.wrap (a.n + b.n)))).setCell ⟨X1.heap.size, 2, none⟩ (.bool false)).setCell ⟨X1.heap.size, 3, none⟩ (.int .i64 0)).setCell ⟨X1.heap.size, 4, none⟩ (.int .i64 0)).setCell ⟨X1.heap.size, 5, none⟩ (.string ⟨#[]⟩))).heap[bj]? = some (.cells #[.slice Aj nj cj, .int .i64 (IntKind.i64.wrap (a.n + b.n)), .bool false, .int .i64 0, .int .i64 0, .string ⟨#[]⟩] 37) ∧ pj.map Prod.fst = a.rows ++ b.rows ∧ OwnRp 51 25 (((((((X9.setCell ⟨X1.heap.size, 0, none⟩ (.slice A3 (ps.length + qs.length) c3)).setCell ⟨X1.heap.size, 1, none⟩ (.int .i64 (IntKind.i64.wrap (a.n + b.n)))).setCell ⟨X1.heap.size, 2, none⟩ (.bool false)).setCell ⟨X1.heap.size, 3, none⟩ (.int .i64 0)).setCell ⟨X1.heap.size, 4, none⟩ (.int .i64 0)).setCell ⟨X1.heap.size, 5, none⟩ (.string ⟨#[]⟩))) W0.heap.size (((((((X9.setCell ⟨X1.heap.size, 0, none⟩ (.slice A3 (ps.length + qs.length) c3)).setCell ⟨X1.heap.size, 1, none⟩ (.int .i64 (IntKind.i64.wrap (a.n + b.n)))).setCell ⟨X1.heap.size, 2, none⟩ (.bool false)).setCell ⟨X1.heap.size, 3, none⟩ (.int .i64 0)).setCell ⟨X1.heap.size, 4, none⟩ (.int .i64 0)).setCell ⟨X1.heap.size, 5, none⟩ (.string ⟨#[]⟩))).heap.size (.slice Aj nj cj) pj ∧ Far bj (.slice Aj nj cj) pj ∧ Below W0.heap.size W0 (((((((X9.setCell ⟨X1.heap.size, 0, none⟩ (.slice A3 (ps.length + qs.length) c3)).setCell ⟨X1.heap.size, 1, none⟩ (.int .i64 (IntKind.i64.wrap (a.n + b.n)))).setCell ⟨X1.heap.size, 2, none⟩ (.bool false)).setCell ⟨X1.heap.size, 3, none⟩ (.int .i64 0)).setCell ⟨X1.heap.size, 4, none⟩ (.int .i64 0)).setCell ⟨X1.heap.size, 5, none⟩ (.string ⟨#[]⟩))) from ⟨X1.heap.size, A3, ps.length + qs.length, c3, ps ++ qs, rfl, hbt, G6, hmap, (J1.out.keepFar far.out hch).imp (fun _ _ _ => rfl) (by omega) (Nat.le_refl _), far.out, HB9.trans ((hch.below (Nat.le_refl _) (by omega)).mono hbt)⟩)
        clear G6 hch hbt hmap
        have t0 := cell_of_row X9 _ 0 _ _ _ GZ9.out
        have t1 := cell_of_row X9 _ 1 _ _ _ GZ9.out
        have t2 := cell_of_row X9 _ 2 _ _ _ GZ9.out
        have t3 := cell_of_row X9 _ 3 _ _ _ GZ9.out
        have t4 := cell_of_row X9 _ 4 _ _ _ GZ9.out
        have t5 := cell_of_row X9 _ 5 _ _ _ GZ9.out
        simp only [List.getElem?_toArray, List.getElem?_cons_zero, List.getElem?_cons_succ] at t0 t1 t2 t3 t4 t5
        have ft := fun o => frozen_of_row X9 _ o _ _ GZ9.out
        refine wpAnyT_one (k := 14) (o := _) (by kernel_rfl) rfl rfl ?_
        intro K hK
        go_simp
        refine hK.out _ _ (fun h => absurd rfl h) ?_
        clear hK
        refine wpAnyT_done (by kernel_rfl) ?_ _
        go_wp2_with fail
        go_meet
        with_reducible exact R.out
    · intro K hK
      go_simp
      have up10 : Below X0.heap.size X0 (X0.alloc (.cells #[.slice none 0 0, .int .i64 0, .bool false, .int .i64 0, .int .i64 0, .string ⟨#[]⟩] 37)) := up_a1 X0 _
      have HB10 : Below W0.heap.size W0 (X0.alloc (.cells #[.slice none 0 0, .int .i64 0, .bool false, .int .i64 0, .int .i64 0, .string ⟨#[]⟩] 37)) := HB0.trans (up10.mono HB0.size)
      have GZ10 : (X0.alloc (.cells #[.slice none 0 0, .int .i64 0, .bool false, .int .i64 0, .int .i64 0, .string ⟨#[]⟩] 37)).heap[X0.heap.size]? = some (.cells #[.slice none 0 0, .int .i64 0, .bool false, .int .i64 0, .int .i64 0, .string ⟨#[]⟩] 37) := heap_alloc_new X0 _
      have s10 : X0.heap.size < (X0.alloc (.cells #[.slice none 0 0, .int .i64 0, .bool false, .int .i64 0, .int .i64 0, .string ⟨#[]⟩] 37)).heap.size := by simp
      have F10 : (X0.alloc (.cells #[.slice none 0 0, .int .i64 0, .bool false, .int .i64 0, .int .i64 0, .string ⟨#[]⟩] 37)).cell? ⟨w.heap.size + 1, 0, none⟩ = some (.slice Aa a.rows.length ka) ∧ (X0.alloc (.cells #[.slice none 0 0, .int .i64 0, .bool false, .int .i64 0, .int .i64 0, .string ⟨#[]⟩] 37)).cell? ⟨w.heap.size + 1, 1, none⟩ = some (.int .i64 a.n) ∧ (X0.alloc (.cells #[.slice none 0 0, .int .i64 0, .bool false, .int .i64 0, .int .i64 0, .string ⟨#[]⟩] 37)).cell? ⟨w.heap.size + 1 + 1, 0, none⟩ = some (.slice Ab b.rows.length kb) ∧ (X0.alloc (.cells #[.slice none 0 0, .int .i64 0, .bool false, .int .i64 0, .int .i64 0, .string ⟨#[]⟩] 37)).cell? ⟨w.heap.size + 1 + 1, 1, none⟩ = some (.int .i64 b.n) := ⟨(HB10.cell (p := ⟨w.heap.size + 1, 0, none⟩) z1).trans a0, (HB10.cell (p := ⟨w.heap.size + 1, 1, none⟩) z1).trans a1, (HB10.cell (p := ⟨w.heap.size + 1 + 1, 0, none⟩) z2).trans b0, (HB10.cell (p := ⟨w.heap.size + 1 + 1, 1, none⟩) z2).trans b1⟩
      refine hK.out _ _ (fun _ => F10) ?_
      clear hK
      generalize (X0.alloc (.cells #[.slice none 0 0, .int .i64 0, .bool false, .int .i64 0, .int .i64 0, .string ⟨#[]⟩] 37)) = X10 at *
      try simp only [Act.put, List.setIfInBounds_toArray, List.set_cons_zero, List.set_cons_succ]
      have GZ10 := Lib.hid GZ10
      refine wpAnyT_one (k := 2) (o := _) (by kernel_rfl) rfl rfl ?_
      intro K hK
      go_simp
      refine (hTa.out X10 HB10).mono ?_
      rintro e X11 ⟨vp, rfl, ⟨ps, hps, hp⟩, hb11⟩
      have HB11 : Below W0.heap.size W0 X11 := HB10.trans (hb11.mono HB10.size)
      have s11 := hb11.size
      have F11 : X11.cell? ⟨w.heap.size + 1, 0, none⟩ = some (.slice Aa a.rows.length ka) ∧ X11.cell? ⟨w.heap.size + 1, 1, none⟩ = some (.int .i64 a.n) ∧ X11.cell? ⟨w.heap.size + 1 + 1, 0, none⟩ = some (.slice Ab b.rows.length kb) ∧ X11.cell? ⟨w.heap.size + 1 + 1, 1, none⟩ = some (.int .i64 b.n) := ⟨(HB11.cell (p := ⟨w.heap.size + 1, 0, none⟩) z1).trans a0, (HB11.cell (p := ⟨w.heap.size + 1, 1, none⟩) z1).trans a1, (HB11.cell (p := ⟨w.heap.size + 1 + 1, 0, none⟩) z2).trans b0, (HB11.cell (p := ⟨w.heap.size + 1 + 1, 1, none⟩) z2).trans b1⟩
      refine hK.out _ _ (fun _ => F11) ?_
      clear hK
      try simp only [Act.put, List.setIfInBounds_toArray, List.set_cons_zero, List.set_cons_succ]
      have Ps := Lib.hid hps
      have P11 := Lib.hid hp
      clear hps hp
      have GZ11 := Lib.hid ((hb11.block _ (by omega)).trans GZ10.out)
      refine wpAnyT_one (k := 5) (o := _) (by kernel_rfl) rfl rfl ?_
      intro K hK
      go_simp
      refine (hTb.out X11 HB11).mono ?_
      rintro e X12 ⟨vq, rfl, ⟨qs, hqs, hq⟩, hb12⟩
      have HB12 : Below W0.heap.size W0 X12 := HB11.trans (hb12.mono HB11.size)
      have s12 := hb12.size
      have F12 : X12.cell? ⟨w.heap.size + 1, 0, none⟩ = some (.slice Aa a.rows.length ka) ∧ X12.cell? ⟨w.heap.size + 1, 1, none⟩ = some (.int .i64 a.n) ∧ X12.cell? ⟨w.heap.size + 1 + 1, 0, none⟩ = some (.slice Ab b.rows.length kb) ∧ X12.cell? ⟨w.heap.size + 1 + 1, 1, none⟩ = some (.int .i64 b.n) := ⟨(HB12.cell (p := ⟨w.heap.size + 1, 0, none⟩) z1).trans a0, (HB12.cell (p := ⟨w.heap.size + 1, 1, none⟩) z1).trans a1, (HB12.cell (p := ⟨w.heap.size + 1 + 1, 0, none⟩) z2).trans b0, (HB12.cell (p := ⟨w.heap.size + 1 + 1, 1, none⟩) z2).trans b1⟩
      refine hK.out _ _ (fun _ => F12) ?_
      clear hK
      try simp only [Act.put, List.setIfInBounds_toArray, List.set_cons_zero, List.set_cons_succ]
      have Qs := Lib.hid hqs
      have Q12 := Lib.hid hq
      clear hqs hq
      have GZ12 := Lib.hid ((hb12.block _ (by omega)).trans GZ11.out)
      have P12 := Lib.hid (P11.out.imp (fun g _ h => hb12.block g (by omega)) (Nat.le_refl _) (Nat.le_refl _))
      refine wpAnyT_one (k := 6) (o := _) (by kernel_rfl) rfl rfl ?_
      intro K hK
      have hpl : ps.length ≤ 1048576 := (by have h1 := congrArg List.length Ps.out; rw [List.length_map] at h1; omega)
      have hql : qs.length ≤ 1048576 := (by have h1 := congrArg List.length Qs.out; rw [List.length_map] at h1; omega)
      have hnw := Q12.out.own
      obtain ⟨A2, c2, rfl, -, -, -⟩ := hnw.cells
      have Hnw := Lib.hid hnw.news
      clear hnw
      refine step_spread rfl _ _ 32 rfl 0 51 i0 _ 2 32 Tryz.underlying32 hif.out hz0.out hz1.out hz2.out rfl (by decide) (by decide) P12.out.out rfl rfl Hnw.out.1 Hnw.out.2.1 Hnw.out.2.2 Q12.out.one (by omega) (Nat.zero_le _) ?_
      intro vj X13 hown hgrow hnb
      obtain ⟨A3, c3, rfl, -, -, -⟩ := (Own.new hown).cells
      have HB13 : Below W0.heap.size W0 X13 := Below.grown HB12 hgrow HB12.size (fun g hg => by have := (P12.out.outIn g hg).1; omega)
      have s13 := hgrow.size
      have F13 : X13.cell? ⟨w.heap.size + 1, 0, none⟩ = some (.slice Aa a.rows.length ka) ∧ X13.cell? ⟨w.heap.size + 1, 1, none⟩ = some (.int .i64 a.n) ∧ X13.cell? ⟨w.heap.size + 1 + 1, 0, none⟩ = some (.slice Ab b.rows.length kb) ∧ X13.cell? ⟨w.heap.size + 1 + 1, 1, none⟩ = some (.int .i64 b.n) := ⟨(HB13.cell (p := ⟨w.heap.size + 1, 0, none⟩) z1).trans a0, (HB13.cell (p := ⟨w.heap.size + 1, 1, none⟩) z1).trans a1, (HB13.cell (p := ⟨w.heap.size + 1 + 1, 0, none⟩) z2).trans b0, (HB13.cell (p := ⟨w.heap.size + 1 + 1, 1, none⟩) z2).trans b1⟩
      have J := P12.out.join2 (w1 := X12) (by omega) (by omega) Q12.out (by omega) (by omega) hown hgrow hnb (by omega)
      have J1 := Lib.hid J.1
      have J2 := Lib.hid J.2
      have GZ13 := Lib.hid ((hgrow.block X0.heap.size (by omega) (fun e => by have := P12.out.outIn _ e.symm; omega)).trans GZ12.out)
      have far := Lib.hid (J2.out X0.heap.size (by omega) (by omega) (by omega))
      refine hK.out _ _ (fun _ => F13) ?_
      clear hK hown hgrow hnb J
      try simp only [Act.put, List.setIfInBounds_toArray, List.set_cons_zero, List.set_cons_succ]
      refine wpAnyT_take (i := 12) (oi := _) (v := ?_) rfl (by kernel_rfl) (by kernel_rfl) (by kernel_rfl) (by kernel_rfl) (fun _ _ _ h => h) (Or.inl ⟨by rfl, ?_⟩) F13 ?_
      rotate_left
      · (intro w' hSw; (try dsimp only at hSw); go_simp) <;> with_reducible rfl
      try simp only [Act.put, List.setIfInBounds_toArray, List.set_cons_zero, List.set_cons_succ]
      have G6 := set_six (v0 := .slice A3 (ps.length + qs.length) c3) (v1 := .int .i64 (IntKind.i64.wrap (a.n + b.n))) (v2 := .bool false) (v3 := .int .i64 0) (v4 := .int .i64 0) (v5 := .string ⟨#[]⟩) GZ13.out
      have hch : Chg X0.heap.size (X0.heap.size + 1) X13 (((((((X13.setCell ⟨X0.heap.size, 0, none⟩ (.slice A3 (ps.length + qs.length) c3)).setCell ⟨X0.heap.size, 1, none⟩ (.int .i64 (IntKind.i64.wrap (a.n + b.n)))).setCell ⟨X0.heap.size, 2, none⟩ (.bool false)).setCell ⟨X0.heap.size, 3, none⟩ (.int .i64 0)).setCell ⟨X0.heap.size, 4, none⟩ (.int .i64 0)).setCell ⟨X0.heap.size, 5, none⟩ (.string ⟨#[]⟩))) := (((((chg_set _ _ _ _).trans (chg_set _ _ _ _)).trans (chg_set _ _ _ _)).trans (chg_set _ _ _ _)).trans (chg_set _ _ _ _)).trans (chg_set _ _ _ _)
      have hbt : W0.heap.size ≤ X0.heap.size := by omega
      have hmap : (ps ++ qs).map Prod.fst = a.rows ++ b.rows := by rw [List.map_append, Ps.out, Qs.out]
      have R := Lib.hid (show ∃ (bj : Nat) (Aj : Option Addr) (nj cj : Nat) (pj : List (R × Value)), (Value.pointer (some ⟨X0.heap.size, 0, none⟩)) = .pointer (some ⟨bj, 0, none⟩) ∧ W0.heap.size ≤ bj ∧ (((((((X13.setCell ⟨X0.heap.size, 0, none⟩ (.slice A3 (ps.length + qs.length) c3)).setCell ⟨X0.heap.size, 1, none⟩ (.int .i64 (IntKind.i64.wrap (a.n + b.n)))).setCell ⟨X0.heap.size, 2, none⟩ (.bool false)).setCell ⟨X0.heap.size, 3, none⟩ (.int .i64 0)).setCell ⟨X0.heap.size, 4, none⟩ (.int .i64 0)).setCell ⟨X0.heap.size, 5, none⟩ (.string ⟨#[]⟩))).heap[bj]? = some (.cells #[.slice Aj nj cj, .int .i64 (IntKind.i64.wrap (a.n + b.n)), .bool false, .int .i64 0, .int .i64 0, .string ⟨#[]⟩] 37) ∧ pj.map Prod.fst = a.rows ++ b.rows ∧ OwnRp 51 25 (((((((X13.setCell ⟨X0.heap.size, 0, none⟩ (.slice A3 (ps.length + qs.length) c3)).setCell ⟨X0.heap.size, 1, none⟩ (.int .i64 (IntKind.i64.wrap (a.n + b.n)))).setCell ⟨X0.heap.size, 2, none⟩ (.bool false)).setCell ⟨X0.heap.size, 3, none⟩ (.int .i64 0)).setCell ⟨X0.heap.size, 4, none⟩ (.int .i64 0)).setCell ⟨X0.heap.size, 5, none⟩ (.string ⟨#[]⟩))) W0.heap.size (((((((X13.setCell ⟨X0.heap.size, 0, none⟩ (.slice A3 (ps.length + qs.length) c3)).setCell ⟨X0.heap.size, 1, none⟩ (.int .i64 (IntKind.i64.wrap (a.n + b.n)))).setCell ⟨X0.heap.size, 2, none⟩ (.bool false)).setCell ⟨X0.heap.size, 3, none⟩ (.int .i64 0)).setCell ⟨X0.heap.size, 4, none⟩ (.int .i64 0)).setCell ⟨X0.heap.size, 5, none⟩ (.string ⟨#[]⟩))).heap.size (.slice Aj nj cj) pj ∧ Far bj (.slice Aj nj cj) pj ∧ Below W0.heap.size W0 (((((((X13.setCell ⟨X0.heap.size, 0, none⟩ (.slice A3 (ps.length + qs.length) c3)).setCell ⟨X0.heap.size, 1, none⟩ (.int .i64 (IntKind.i64.wrap (a.n + b.n)))).setCell ⟨X0.heap.size, 2, none⟩ (.bool false)).setCell ⟨X0.heap.size, 3, none⟩ (.int .i64 0)).setCell ⟨X0.heap.size, 4, none⟩ (.int .i64 0)).setCell ⟨X0.heap.size, 5, none⟩ (.string ⟨#[]⟩))) from ⟨X0.heap.size, A3, ps.length + qs.length, c3, ps ++ qs, rfl, hbt, G6, hmap, (J1.out.keepFar far.out hch).imp (fun _ _ _ => rfl) (by omega) (Nat.le_refl _), far.out, HB13.trans ((hch.below (Nat.le_refl _) (by omega)).mono hbt)⟩)
      clear G6 hch hbt hmap
      have t0 := cell_of_row X13 _ 0 _ _ _ GZ13.out
      have t1 := cell_of_row X13 _ 1 _ _ _ GZ13.out
      have t2 := cell_of_row X13 _ 2 _ _ _ GZ13.out
      have t3 := cell_of_row X13 _ 3 _ _ _ GZ13.out
      have t4 := cell_of_row X13 _ 4 _ _ _ GZ13.out
      have t5 := cell_of_row X13 _ 5 _ _ _ GZ13.out
      simp only [List.getElem?_toArray, List.getElem?_cons_zero, List.getElem?_cons_succ] at t0 t1 t2 t3 t4 t5
      have ft := fun o => frozen_of_row X13 _ o _ _ GZ13.out
      refine wpAnyT_one (k := 14) (o := _) (by kernel_rfl) rfl rfl ?_
      intro K hK
      go_simp
      refine hK.out _ _ (fun h => absurd rfl h) ?_
      clear hK
      refine wpAnyT_done (by kernel_rfl) ?_ _
      go_wp2_with fail
      go_meet
      with_reducible exact R.out
  case rest =>
    obtain ⟨bj, Aj, nj, cj, pj, rfl, hbj, hcj, hmap, hown, hfar, hB⟩ := hcut
    have sB := hB.size
    generalize hNN : IntKind.i64.wrap (a.n + b.n) = NN at hcj
    have HN := Lib.hid hNN
    clear hNN
    have hlj : bj < wc.heap.size := (Array.getElem?_eq_some_iff.1 hcj).1
    have J0 := Lib.hid (show JSt W0 wc.heap.size w.heap.size bj _ _ _ _ (.slice Aj nj cj) pj wc from ⟨(hB.block _ (by omega)).trans GQ.out, (hB.block _ (by omega)).trans GA.out, (hB.block _ (by omega)).trans GB.out, (hB.block _ (by omega)).trans GR.out, hcj, hown, hB, Nat.le_refl _, hs, ⟨hbj, hlj⟩, hfar⟩)
    have HM := Lib.hid hmap
    clear hcj hmap hown hfar hB GQ GA GB GR hTa hTb a0 a1 b0 b1
    have q0 := cell_of_row wc _ 0 _ _ _ J0.out.q
    simp only [List.getElem?_toArray, List.getElem?_cons_zero] at q0
    by_cases k45 : q.kind = 4 ∨ q.kind = 5
    rotate_left
    · have k4 : q.kind ≠ 4 := fun e => k45 (.inl e)
      have k5 : q.kind ≠ 5 := fun e => k45 (.inr e)
      have HJ := Lib.hid (show joined q a b = ⟨a.rows ++ b.rows, NN, false, V.zero⟩ by rw [joined_0 a b k4 k5, HN.out])
      have d4 : (q.kind != 4) = true := by simp [k4]
      have d5 : (q.kind != 5) = true := by simp [k5]
      clear k45 k4 k5
      have j0 := cell_of_row wc _ 0 _ _ _ J0.out.j
      have j1 := cell_of_row wc _ 1 _ _ _ J0.out.j
      have j2 := cell_of_row wc _ 2 _ _ _ J0.out.j
      have j3 := cell_of_row wc _ 3 _ _ _ J0.out.j
      have j4 := cell_of_row wc _ 4 _ _ _ J0.out.j
      have j5 := cell_of_row wc _ 5 _ _ _ J0.out.j
      simp only [List.getElem?_toArray, List.getElem?_cons_zero, List.getElem?_cons_succ] at j0 j1 j2 j3 j4 j5
      have p0 := cell_of_row wc _ 0 _ _ _ J0.out.r
      have p1 := cell_of_row wc _ 1 _ _ _ J0.out.r
      have p2 := cell_of_row wc _ 2 _ _ _ J0.out.r
      have p3 := cell_of_row wc _ 3 _ _ _ J0.out.r
      have p4 := cell_of_row wc _ 4 _ _ _ J0.out.r
      have p5 := cell_of_row wc _ 5 _ _ _ J0.out.r
      simp only [List.getElem?_toArray, List.getElem?_cons_zero, List.getElem?_cons_succ] at p0 p1 p2 p3 p4 p5
      have fr := fun o => frozen_of_row wc _ o _ _ J0.out.r
      go_wp2_with fail
      generalize hXF : ((((((wc.setCell ⟨w.heap.size + 1 + 1 + 1, 0, none⟩ (.slice Aj nj cj)).setCell ⟨w.heap.size + 1 + 1 + 1, 1, none⟩ (.int .i64 NN)).setCell ⟨w.heap.size + 1 + 1 + 1, 2, none⟩ (.bool false)).setCell ⟨w.heap.size + 1 + 1 + 1, 3, none⟩ (.int .i64 0)).setCell ⟨w.heap.size + 1 + 1 + 1, 4, none⟩ (.int .i64 0)).setCell ⟨w.heap.size + 1 + 1 + 1, 5, none⟩ (.string ⟨#[]⟩)) = XF at *
      obtain ⟨H6, RF, BF⟩ := J0.out.fin hXF.symm
      clear hXF
      have r0 := cell_of_row XF _ 0 _ _ _ H6
      have r1 := cell_of_row XF _ 1 _ _ _ H6
      have r2 := cell_of_row XF _ 2 _ _ _ H6
      have r3 := cell_of_row XF _ 3 _ _ _ H6
      have r4 := cell_of_row XF _ 4 _ _ _ H6
      have r5 := cell_of_row XF _ 5 _ _ _ H6
      simp only [List.getElem?_toArray, List.getElem?_cons_zero, List.getElem?_cons_succ] at r0 r1 r2 r3 r4 r5
      refine bodyPost_ret (v := .agg #[.slice Aj nj cj, .int .i64 NN, .bool false, .int .i64 0, .int .i64 0, .string ⟨#[]⟩]) ?_ rfl ⟨.slice Aj nj cj, (by first | (rw [HJ.out]; done) | (rw [HJ.out]; rfl)), ?_, (hup.mono (Nat.le_refl _)).trans BF⟩
      · simp [results, Tryz.results11, go_sem, r0, r1, r2, r3, r4, r5]
      · rw [HJ.out]
        exact ⟨pj, HM.out, RF⟩
    obtain ⟨i1, hif1, hy0, hy1, hy2⟩ := info_parts info_val
    replace hif1 := Lib.hid hif1
    replace hy0 := Lib.hid hy0
    replace hy1 := Lib.hid hy1
    replace hy2 := Lib.hid hy2
    have own0 := World.ownsRow_made wc (base := wc.heap.size) (e := 25) (size := 3) #[] 0 (Nat.le_refl _) (by decide) rfl
    have J1 := Lib.hid (J0.out.up (up_a1 wc (.cells #[] 25)))
    rcases k45 with k | k
    · have KK := Lib.hid k
      have d4 : (q.kind != 4) = false := by simp [k]
      have d5 : (q.kind == 5) = false := by simp [k]
      clear k
      cases hA : a.has
      rotate_left
      · have HA := Lib.hid hA
        cases hBb : b.has
        rotate_left
        · have HBb := Lib.hid hBb
          have HJ := Lib.hid (show joined q a b = ⟨a.rows ++ b.rows, NN, true, (zoneOf [a.v, b.v]).lo⟩ by rw [joined_4 a b KK.out, HN.out]; simp [hasVals, HA.out, HBb.out])
          clear hA hBb
          obtain ⟨zo, hzo⟩ : ∃ zo, zoneOf [a.v, b.v] = zo := ⟨_, rfl⟩
          rw [hzo] at HJ
          have HZ := Lib.hid hzo
          clear hzo
          have a2 := cell_of_row (wc.alloc (.cells #[] 25)) _ 2 _ _ _ J1.out.a
          have a3 := cell_of_row (wc.alloc (.cells #[] 25)) _ 3 _ _ _ J1.out.a
          have a4 := cell_of_row (wc.alloc (.cells #[] 25)) _ 4 _ _ _ J1.out.a
          have a5 := cell_of_row (wc.alloc (.cells #[] 25)) _ 5 _ _ _ J1.out.a
          simp only [List.getElem?_toArray, List.getElem?_cons_zero, List.getElem?_cons_succ] at a2 a3 a4 a5
          have b2 := cell_of_row (wc.alloc (.cells #[] 25)) _ 2 _ _ _ J1.out.b
          have b3 := cell_of_row (wc.alloc (.cells #[] 25)) _ 3 _ _ _ J1.out.b
          have b4 := cell_of_row (wc.alloc (.cells #[] 25)) _ 4 _ _ _ J1.out.b
          have b5 := cell_of_row (wc.alloc (.cells #[] 25)) _ 5 _ _ _ J1.out.b
          simp only [List.getElem?_toArray, List.getElem?_cons_zero, List.getElem?_cons_succ] at b2 b3 b4 b5
          rw [HA.out] at a2
          rw [HBb.out] at b2
          go_wp2_with (at_builtin; (refine wpl_app rfl _ _ 48 rfl wc.heap.size 25 i1 _ 3 32 Tryz.underlying48 hif1.out hy0.out hy1.out hy2.out rfl (by decide) (by decide) (own0.alloc (.cells #[.int .i64 a.v.ty, .int .i64 a.v.n, .string a.v.s] 25)) rfl (heap_new_atJ (n := wc.heap.size + 1) (by simp)) rfl rfl (by simp [Value.oneCell']) (by omega) (by first | omega | (simp <;> omega)) ?_))
          intro v1 Y1 own1 hg1 hn1
          obtain ⟨E1, e1, rfl, -, -, -⟩ := (Own.new own1).cells
          have dn1 := below_app (B := wc.heap.size) ((up_a1 (wc.alloc (.cells #[] 25)) (.cells #[.int .i64 a.v.ty, .int .i64 a.v.n, .string a.v.s] 25)).mono (by first | omega | (simp <;> omega))) (own0.alloc _) hg1 (by first | omega | (simp <;> omega))
          have J2 := Lib.hid (J1.out.up dn1)
          have s1 := dn1.size
          replace s1 : wc.heap.size ≤ Y1.heap.size := J2.out.z
          clear a2 a3 a4 a5 b2 b3 b4 b5 dn1 hg1 hn1
          have a2 := cell_of_row Y1 _ 2 _ _ _ J2.out.a
          have a3 := cell_of_row Y1 _ 3 _ _ _ J2.out.a
          have a4 := cell_of_row Y1 _ 4 _ _ _ J2.out.a
          have a5 := cell_of_row Y1 _ 5 _ _ _ J2.out.a
          simp only [List.getElem?_toArray, List.getElem?_cons_zero, List.getElem?_cons_succ] at a2 a3 a4 a5
          have b2 := cell_of_row Y1 _ 2 _ _ _ J2.out.b
          have b3 := cell_of_row Y1 _ 3 _ _ _ J2.out.b
          have b4 := cell_of_row Y1 _ 4 _ _ _ J2.out.b
          have b5 := cell_of_row Y1 _ 5 _ _ _ J2.out.b
          simp only [List.getElem?_toArray, List.getElem?_cons_zero, List.getElem?_cons_succ] at b2 b3 b4 b5
          rw [HA.out] at a2
          rw [HBb.out] at b2
          go_wp2_with (at_builtin; (refine wpl_app rfl _ _ 48 rfl wc.heap.size 25 i1 _ 3 32 Tryz.underlying48 hif1.out hy0.out hy1.out hy2.out rfl (by decide) (by decide) (own1.alloc (.cells #[.int .i64 b.v.ty, .int .i64 b.v.n, .string b.v.s] 25)) rfl (heap_alloc_new _ _) rfl rfl (by simp [Value.oneCell']) (by omega) (by first | omega | (simp <;> omega)) ?_))
          intro v2 Y2 own2 hg2 hn2
          obtain ⟨E2, e2, rfl, -, -, -⟩ := (Own.new own2).cells
          have dn2 := below_app (B := wc.heap.size) ((up_a1 Y1 (.cells #[.int .i64 b.v.ty, .int .i64 b.v.n, .string b.v.s] 25)).mono (by first | omega | (simp <;> omega))) (own1.alloc _) hg2 (by first | omega | (simp <;> omega))
          have J3 := Lib.hid (J2.out.up dn2)
          have s2 := dn2.size
          replace s2 : wc.heap.size ≤ Y2.heap.size := J3.out.z
          clear a2 a3 a4 a5 b2 b3 b4 b5 dn2 hg2 hn2
          have a2 := cell_of_row Y2 _ 2 _ _ _ J3.out.a
          have a3 := cell_of_row Y2 _ 3 _ _ _ J3.out.a
          have a4 := cell_of_row Y2 _ 4 _ _ _ J3.out.a
          have a5 := cell_of_row Y2 _ 5 _ _ _ J3.out.a
          simp only [List.getElem?_toArray, List.getElem?_cons_zero, List.getElem?_cons_succ] at a2 a3 a4 a5
          have b2 := cell_of_row Y2 _ 2 _ _ _ J3.out.b
          have b3 := cell_of_row Y2 _ 3 _ _ _ J3.out.b
          have b4 := cell_of_row Y2 _ 4 _ _ _ J3.out.b
          have b5 := cell_of_row Y2 _ 5 _ _ _ J3.out.b
          simp only [List.getElem?_toArray, List.getElem?_cons_zero, List.getElem?_cons_succ] at b2 b3 b4 b5
          rw [HA.out] at a2
          rw [HBb.out] at b2
          have fj := fun o => frozen_of_row Y2 _ o _ _ J3.out.j
          have Ow : Own 25 3 Y2 wc.heap.size Y2.heap.size (.slice E2 2 e2) ([a.v, b.v] : List V).length (([a.v, b.v] : List V).flatMap V.cells) := Own.new own2
          have OW := Lib.hid (Ow.same (w' := (Y2.setCell ⟨bj, 2, none⟩ (.bool true))) (fun g h1 _ => Below.heap_setCell Y2 ⟨bj, 2, none⟩ (.bool true) g (by show g ≠ bj; omega)))
          have y2 := cell_of_row Y2 _ 2 _ _ _ J3.out.j
          simp only [List.getElem?_toArray, List.getElem?_cons_zero, List.getElem?_cons_succ] at y2
          have J4 := Lib.hid (J3.out.set 2 (.bool true))
          simp only [List.setIfInBounds_toArray, List.set_cons_succ, List.set_cons_zero] at J4
          clear Ow
          go_wp2_with fail
          have hsz : (Y2.setCell ⟨bj, 2, none⟩ (.bool true)).heap.size = Y2.heap.size := by simp [World.setCell]
          have Hsz := Lib.hid hsz
          clear hsz
          generalize hZ1 : (Y2.setCell ⟨bj, 2, none⟩ (.bool true)) = Z1 at *
          clear hZ1 fj y2 a2 a3 a4 a5 b2 b3 b4 b5 own2
          have hT := Lib.hid (impl_ZoneOf [a.v, b.v] (.slice E2 2 e2) Z1 OW.out.rdV (by first | exact Nat.le_of_eq Hsz.out.symm | (rw [Hsz.out]; exact Nat.le_refl _)))
          rw [HZ.out] at hT
          refine hT.out.mono ?_
          clear hT
          rintro e Z2 ⟨rfl, hz2⟩
          have J5 := Lib.hid (J4.out.up (hz2.mono J4.out.z))
          have OW2 := Lib.hid (OW.out.below hz2 (Nat.le_of_eq Hsz.out.symm))
          have S2 := Lib.hid (Nat.le_trans (Nat.le_of_eq Hsz.out.symm) hz2.size)
          clear hz2 OW
          have fj := fun o => frozen_of_row Z2 _ o _ _ J5.out.j
          have q0 := cell_of_row Z2 _ 0 _ _ _ J5.out.q
          simp only [List.getElem?_toArray, List.getElem?_cons_zero] at q0
          have j0 := cell_of_row Z2 _ 0 _ _ _ J5.out.j
          have j1 := cell_of_row Z2 _ 1 _ _ _ J5.out.j
          have j2 := cell_of_row Z2 _ 2 _ _ _ J5.out.j
          have j3 := cell_of_row Z2 _ 3 _ _ _ J5.out.j
          have j4 := cell_of_row Z2 _ 4 _ _ _ J5.out.j
          have j5 := cell_of_row Z2 _ 5 _ _ _ J5.out.j
          simp only [List.getElem?_toArray, List.getElem?_cons_zero, List.getElem?_cons_succ] at j0 j1 j2 j3 j4 j5
          have p0 := cell_of_row Z2 _ 0 _ _ _ J5.out.r
          have p1 := cell_of_row Z2 _ 1 _ _ _ J5.out.r
          have p2 := cell_of_row Z2 _ 2 _ _ _ J5.out.r
          have p3 := cell_of_row Z2 _ 3 _ _ _ J5.out.r
          have p4 := cell_of_row Z2 _ 4 _ _ _ J5.out.r
          have p5 := cell_of_row Z2 _ 5 _ _ _ J5.out.r
          simp only [List.getElem?_toArray, List.getElem?_cons_zero, List.getElem?_cons_succ] at p0 p1 p2 p3 p4 p5
          have fr := fun o => frozen_of_row Z2 _ o _ _ J5.out.r
          have hfd : ∀ W : World, (Instr.field 53 (.agg #[.int .i64 zo.lo.ty, .int .i64 zo.lo.n, .string zo.lo.s, .int .i64 zo.hi.ty, .int .i64 zo.hi.n, .string zo.hi.s]) 0).run Tryz.prog W = .ok (.agg #[.int .i64 zo.lo.ty, .int .i64 zo.lo.n, .string zo.lo.s]) W := fun _ => by kernel_rfl
          go_wp2_with fail
          clear hfd
          have J6 := Lib.hid (((J5.out.set 3 (.int .i64 zo.lo.ty)).set 4 (.int .i64 zo.lo.n)).set 5 (.string zo.lo.s))
          simp only [List.setIfInBounds_toArray, List.set_cons_succ, List.set_cons_zero] at J6
          generalize hZ : (((Z2.setCell ⟨bj, 3, none⟩ (.int .i64 zo.lo.ty)).setCell ⟨bj, 4, none⟩ (.int .i64 zo.lo.n)).setCell ⟨bj, 5, none⟩ (.string zo.lo.s)) = Z3 at *
          clear hZ fj q0 j3 j4 j5 j0 j1 j2 p0 p1 p2 p3 p4 p5 fr
          generalize hXF : ((((((Z3.setCell ⟨w.heap.size + 1 + 1 + 1, 0, none⟩ (.slice Aj nj cj)).setCell ⟨w.heap.size + 1 + 1 + 1, 1, none⟩ (.int .i64 NN)).setCell ⟨w.heap.size + 1 + 1 + 1, 2, none⟩ (.bool true)).setCell ⟨w.heap.size + 1 + 1 + 1, 3, none⟩ (.int .i64 zo.lo.ty)).setCell ⟨w.heap.size + 1 + 1 + 1, 4, none⟩ (.int .i64 zo.lo.n)).setCell ⟨w.heap.size + 1 + 1 + 1, 5, none⟩ (.string zo.lo.s)) = XF at *
          obtain ⟨H6, RF, BF⟩ := J6.out.fin hXF.symm
          clear hXF
          have r0 := cell_of_row XF _ 0 _ _ _ H6
          have r1 := cell_of_row XF _ 1 _ _ _ H6
          have r2 := cell_of_row XF _ 2 _ _ _ H6
          have r3 := cell_of_row XF _ 3 _ _ _ H6
          have r4 := cell_of_row XF _ 4 _ _ _ H6
          have r5 := cell_of_row XF _ 5 _ _ _ H6
          simp only [List.getElem?_toArray, List.getElem?_cons_zero, List.getElem?_cons_succ] at r0 r1 r2 r3 r4 r5
          refine bodyPost_ret (v := .agg #[.slice Aj nj cj, .int .i64 NN, .bool true, .int .i64 zo.lo.ty, .int .i64 zo.lo.n, .string zo.lo.s]) ?_ rfl ⟨.slice Aj nj cj, (by first | (rw [HJ.out]; done) | (rw [HJ.out]; rfl)), ?_, (hup.mono (Nat.le_refl _)).trans BF⟩
          · simp [results, Tryz.results11, go_sem, r0, r1, r2, r3, r4, r5]
          · rw [HJ.out]
            exact ⟨pj, HM.out, RF⟩
        · have HBb := Lib.hid hBb
          have HJ := Lib.hid (show joined q a b = ⟨a.rows ++ b.rows, NN, true, (zoneOf [a.v]).lo⟩ by rw [joined_4 a b KK.out, HN.out]; simp [hasVals, HA.out, HBb.out])
          clear hA hBb
          obtain ⟨zo, hzo⟩ : ∃ zo, zoneOf [a.v] = zo := ⟨_, rfl⟩
          rw [hzo] at HJ
          have HZ := Lib.hid hzo
          clear hzo
          have a2 := cell_of_row (wc.alloc (.cells #[] 25)) _ 2 _ _ _ J1.out.a
          have a3 := cell_of_row (wc.alloc (.cells #[] 25)) _ 3 _ _ _ J1.out.a
          have a4 := cell_of_row (wc.alloc (.cells #[] 25)) _ 4 _ _ _ J1.out.a
          have a5 := cell_of_row (wc.alloc (.cells #[] 25)) _ 5 _ _ _ J1.out.a
          simp only [List.getElem?_toArray, List.getElem?_cons_zero, List.getElem?_cons_succ] at a2 a3 a4 a5
          have b2 := cell_of_row (wc.alloc (.cells #[] 25)) _ 2 _ _ _ J1.out.b
          have b3 := cell_of_row (wc.alloc (.cells #[] 25)) _ 3 _ _ _ J1.out.b
          have b4 := cell_of_row (wc.alloc (.cells #[] 25)) _ 4 _ _ _ J1.out.b
          have b5 := cell_of_row (wc.alloc (.cells #[] 25)) _ 5 _ _ _ J1.out.b
          simp only [List.getElem?_toArray, List.getElem?_cons_zero, List.getElem?_cons_succ] at b2 b3 b4 b5
          rw [HA.out] at a2
          rw [HBb.out] at b2
          go_wp2_with (at_builtin; (refine wpl_app rfl _ _ 48 rfl wc.heap.size 25 i1 _ 3 32 Tryz.underlying48 hif1.out hy0.out hy1.out hy2.out rfl (by decide) (by decide) (own0.alloc (.cells #[.int .i64 a.v.ty, .int .i64 a.v.n, .string a.v.s] 25)) rfl (heap_new_atJ (n := wc.heap.size + 1) (by simp)) rfl rfl (by simp [Value.oneCell']) (by omega) (by first | omega | (simp <;> omega)) ?_))
          intro v1 Y1 own1 hg1 hn1
          obtain ⟨E1, e1, rfl, -, -, -⟩ := (Own.new own1).cells
          have dn1 := below_app (B := wc.heap.size) ((up_a1 (wc.alloc (.cells #[] 25)) (.cells #[.int .i64 a.v.ty, .int .i64 a.v.n, .string a.v.s] 25)).mono (by first | omega | (simp <;> omega))) (own0.alloc _) hg1 (by first | omega | (simp <;> omega))
          have J2 := Lib.hid (J1.out.up dn1)
          have s1 := dn1.size
          replace s1 : wc.heap.size ≤ Y1.heap.size := J2.out.z
          clear a2 a3 a4 a5 b2 b3 b4 b5 dn1 hg1 hn1
          have a2 := cell_of_row Y1 _ 2 _ _ _ J2.out.a
          have a3 := cell_of_row Y1 _ 3 _ _ _ J2.out.a
          have a4 := cell_of_row Y1 _ 4 _ _ _ J2.out.a
          have a5 := cell_of_row Y1 _ 5 _ _ _ J2.out.a
          simp only [List.getElem?_toArray, List.getElem?_cons_zero, List.getElem?_cons_succ] at a2 a3 a4 a5
          have b2 := cell_of_row Y1 _ 2 _ _ _ J2.out.b
          have b3 := cell_of_row Y1 _ 3 _ _ _ J2.out.b
          have b4 := cell_of_row Y1 _ 4 _ _ _ J2.out.b
          have b5 := cell_of_row Y1 _ 5 _ _ _ J2.out.b
          simp only [List.getElem?_toArray, List.getElem?_cons_zero, List.getElem?_cons_succ] at b2 b3 b4 b5
          rw [HA.out] at a2
          rw [HBb.out] at b2
          have fj := fun o => frozen_of_row Y1 _ o _ _ J2.out.j
          have Ow : Own 25 3 Y1 wc.heap.size Y1.heap.size (.slice E1 1 e1) ([a.v] : List V).length (([a.v] : List V).flatMap V.cells) := Own.new own1
          have OW := Lib.hid (Ow.same (w' := (Y1.setCell ⟨bj, 2, none⟩ (.bool true))) (fun g h1 _ => Below.heap_setCell Y1 ⟨bj, 2, none⟩ (.bool true) g (by show g ≠ bj; omega)))
          have y2 := cell_of_row Y1 _ 2 _ _ _ J2.out.j
          simp only [List.getElem?_toArray, List.getElem?_cons_zero, List.getElem?_cons_succ] at y2
          have J3 := Lib.hid (J2.out.set 2 (.bool true))
          simp only [List.setIfInBounds_toArray, List.set_cons_succ, List.set_cons_zero] at J3
          clear Ow
          go_wp2_with fail
          have hsz : (Y1.setCell ⟨bj, 2, none⟩ (.bool true)).heap.size = Y1.heap.size := by simp [World.setCell]
          have Hsz := Lib.hid hsz
          clear hsz
          generalize hZ1 : (Y1.setCell ⟨bj, 2, none⟩ (.bool true)) = Z1 at *
          clear hZ1 fj y2 a2 a3 a4 a5 b2 b3 b4 b5 own1
          have hT := Lib.hid (impl_ZoneOf [a.v] (.slice E1 1 e1) Z1 OW.out.rdV (by first | exact Nat.le_of_eq Hsz.out.symm | (rw [Hsz.out]; exact Nat.le_refl _)))
          rw [HZ.out] at hT
          refine hT.out.mono ?_
          clear hT
          rintro e Z2 ⟨rfl, hz2⟩
          have J4 := Lib.hid (J3.out.up (hz2.mono J3.out.z))
          have OW2 := Lib.hid (OW.out.below hz2 (Nat.le_of_eq Hsz.out.symm))
          have S2 := Lib.hid (Nat.le_trans (Nat.le_of_eq Hsz.out.symm) hz2.size)
          clear hz2 OW
          have fj := fun o => frozen_of_row Z2 _ o _ _ J4.out.j
          have q0 := cell_of_row Z2 _ 0 _ _ _ J4.out.q
          simp only [List.getElem?_toArray, List.getElem?_cons_zero] at q0
          have j0 := cell_of_row Z2 _ 0 _ _ _ J4.out.j
          have j1 := cell_of_row Z2 _ 1 _ _ _ J4.out.j
          have j2 := cell_of_row Z2 _ 2 _ _ _ J4.out.j
          have j3 := cell_of_row Z2 _ 3 _ _ _ J4.out.j
          have j4 := cell_of_row Z2 _ 4 _ _ _ J4.out.j
          have j5 := cell_of_row Z2 _ 5 _ _ _ J4.out.j
          simp only [List.getElem?_toArray, List.getElem?_cons_zero, List.getElem?_cons_succ] at j0 j1 j2 j3 j4 j5
          have p0 := cell_of_row Z2 _ 0 _ _ _ J4.out.r
          have p1 := cell_of_row Z2 _ 1 _ _ _ J4.out.r
          have p2 := cell_of_row Z2 _ 2 _ _ _ J4.out.r
          have p3 := cell_of_row Z2 _ 3 _ _ _ J4.out.r
          have p4 := cell_of_row Z2 _ 4 _ _ _ J4.out.r
          have p5 := cell_of_row Z2 _ 5 _ _ _ J4.out.r
          simp only [List.getElem?_toArray, List.getElem?_cons_zero, List.getElem?_cons_succ] at p0 p1 p2 p3 p4 p5
          have fr := fun o => frozen_of_row Z2 _ o _ _ J4.out.r
          have hfd : ∀ W : World, (Instr.field 53 (.agg #[.int .i64 zo.lo.ty, .int .i64 zo.lo.n, .string zo.lo.s, .int .i64 zo.hi.ty, .int .i64 zo.hi.n, .string zo.hi.s]) 0).run Tryz.prog W = .ok (.agg #[.int .i64 zo.lo.ty, .int .i64 zo.lo.n, .string zo.lo.s]) W := fun _ => by kernel_rfl
          go_wp2_with fail
          clear hfd
          have J5 := Lib.hid (((J4.out.set 3 (.int .i64 zo.lo.ty)).set 4 (.int .i64 zo.lo.n)).set 5 (.string zo.lo.s))
          simp only [List.setIfInBounds_toArray, List.set_cons_succ, List.set_cons_zero] at J5
          generalize hZ : (((Z2.setCell ⟨bj, 3, none⟩ (.int .i64 zo.lo.ty)).setCell ⟨bj, 4, none⟩ (.int .i64 zo.lo.n)).setCell ⟨bj, 5, none⟩ (.string zo.lo.s)) = Z3 at *
          clear hZ fj q0 j3 j4 j5 j0 j1 j2 p0 p1 p2 p3 p4 p5 fr
          generalize hXF : ((((((Z3.setCell ⟨w.heap.size + 1 + 1 + 1, 0, none⟩ (.slice Aj nj cj)).setCell ⟨w.heap.size + 1 + 1 + 1, 1, none⟩ (.int .i64 NN)).setCell ⟨w.heap.size + 1 + 1 + 1, 2, none⟩ (.bool true)).setCell ⟨w.heap.size + 1 + 1 + 1, 3, none⟩ (.int .i64 zo.lo.ty)).setCell ⟨w.heap.size + 1 + 1 + 1, 4, none⟩ (.int .i64 zo.lo.n)).setCell ⟨w.heap.size + 1 + 1 + 1, 5, none⟩ (.string zo.lo.s)) = XF at *
          obtain ⟨H6, RF, BF⟩ := J5.out.fin hXF.symm
          clear hXF
          have r0 := cell_of_row XF _ 0 _ _ _ H6
          have r1 := cell_of_row XF _ 1 _ _ _ H6
          have r2 := cell_of_row XF _ 2 _ _ _ H6
          have r3 := cell_of_row XF _ 3 _ _ _ H6
          have r4 := cell_of_row XF _ 4 _ _ _ H6
          have r5 := cell_of_row XF _ 5 _ _ _ H6
          simp only [List.getElem?_toArray, List.getElem?_cons_zero, List.getElem?_cons_succ] at r0 r1 r2 r3 r4 r5
          refine bodyPost_ret (v := .agg #[.slice Aj nj cj, .int .i64 NN, .bool true, .int .i64 zo.lo.ty, .int .i64 zo.lo.n, .string zo.lo.s]) ?_ rfl ⟨.slice Aj nj cj, (by first | (rw [HJ.out]; done) | (rw [HJ.out]; rfl)), ?_, (hup.mono (Nat.le_refl _)).trans BF⟩
          · simp [results, Tryz.results11, go_sem, r0, r1, r2, r3, r4, r5]
          · rw [HJ.out]
            exact ⟨pj, HM.out, RF⟩
      · have HA := Lib.hid hA
        cases hBb : b.has
        rotate_left
        · have HBb := Lib.hid hBb
          have HJ := Lib.hid (show joined q a b = ⟨a.rows ++ b.rows, NN, true, (zoneOf [b.v]).lo⟩ by rw [joined_4 a b KK.out, HN.out]; simp [hasVals, HA.out, HBb.out])
          clear hA hBb
          obtain ⟨zo, hzo⟩ : ∃ zo, zoneOf [b.v] = zo := ⟨_, rfl⟩
          rw [hzo] at HJ
          have HZ := Lib.hid hzo
          clear hzo
          have a2 := cell_of_row (wc.alloc (.cells #[] 25)) _ 2 _ _ _ J1.out.a
          have a3 := cell_of_row (wc.alloc (.cells #[] 25)) _ 3 _ _ _ J1.out.a
          have a4 := cell_of_row (wc.alloc (.cells #[] 25)) _ 4 _ _ _ J1.out.a
          have a5 := cell_of_row (wc.alloc (.cells #[] 25)) _ 5 _ _ _ J1.out.a
          simp only [List.getElem?_toArray, List.getElem?_cons_zero, List.getElem?_cons_succ] at a2 a3 a4 a5
          have b2 := cell_of_row (wc.alloc (.cells #[] 25)) _ 2 _ _ _ J1.out.b
          have b3 := cell_of_row (wc.alloc (.cells #[] 25)) _ 3 _ _ _ J1.out.b
          have b4 := cell_of_row (wc.alloc (.cells #[] 25)) _ 4 _ _ _ J1.out.b
          have b5 := cell_of_row (wc.alloc (.cells #[] 25)) _ 5 _ _ _ J1.out.b
          simp only [List.getElem?_toArray, List.getElem?_cons_zero, List.getElem?_cons_succ] at b2 b3 b4 b5
          rw [HA.out] at a2
          rw [HBb.out] at b2
          go_wp2_with (at_builtin; (refine wpl_app rfl _ _ 48 rfl wc.heap.size 25 i1 _ 3 32 Tryz.underlying48 hif1.out hy0.out hy1.out hy2.out rfl (by decide) (by decide) (own0.alloc (.cells #[.int .i64 b.v.ty, .int .i64 b.v.n, .string b.v.s] 25)) rfl (heap_new_atJ (n := wc.heap.size + 1) (by simp)) rfl rfl (by simp [Value.oneCell']) (by omega) (by first | omega | (simp <;> omega)) ?_))
          intro v1 Y1 own1 hg1 hn1
          obtain ⟨E1, e1, rfl, -, -, -⟩ := (Own.new own1).cells
          have dn1 := below_app (B := wc.heap.size) ((up_a1 (wc.alloc (.cells #[] 25)) (.cells #[.int .i64 b.v.ty, .int .i64 b.v.n, .string b.v.s] 25)).mono (by first | omega | (simp <;> omega))) (own0.alloc _) hg1 (by first | omega | (simp <;> omega))
          have J2 := Lib.hid (J1.out.up dn1)
          have s1 := dn1.size
          replace s1 : wc.heap.size ≤ Y1.heap.size := J2.out.z
          clear a2 a3 a4 a5 b2 b3 b4 b5 dn1 hg1 hn1
          have a2 := cell_of_row Y1 _ 2 _ _ _ J2.out.a
          have a3 := cell_of_row Y1 _ 3 _ _ _ J2.out.a
          have a4 := cell_of_row Y1 _ 4 _ _ _ J2.out.a
          have a5 := cell_of_row Y1 _ 5 _ _ _ J2.out.a
          simp only [List.getElem?_toArray, List.getElem?_cons_zero, List.getElem?_cons_succ] at a2 a3 a4 a5
          have b2 := cell_of_row Y1 _ 2 _ _ _ J2.out.b
          have b3 := cell_of_row Y1 _ 3 _ _ _ J2.out.b
          have b4 := cell_of_row Y1 _ 4 _ _ _ J2.out.b
          have b5 := cell_of_row Y1 _ 5 _ _ _ J2.out.b
          simp only [List.getElem?_toArray, List.getElem?_cons_zero, List.getElem?_cons_succ] at b2 b3 b4 b5
          rw [HA.out] at a2
          rw [HBb.out] at b2
          have fj := fun o => frozen_of_row Y1 _ o _ _ J2.out.j
          have Ow : Own 25 3 Y1 wc.heap.size Y1.heap.size (.slice E1 1 e1) ([b.v] : List V).length (([b.v] : List V).flatMap V.cells) := Own.new own1
          have OW := Lib.hid (Ow.same (w' := (Y1.setCell ⟨bj, 2, none⟩ (.bool true))) (fun g h1 _ => Below.heap_setCell Y1 ⟨bj, 2, none⟩ (.bool true) g (by show g ≠ bj; omega)))
          have y2 := cell_of_row Y1 _ 2 _ _ _ J2.out.j
          simp only [List.getElem?_toArray, List.getElem?_cons_zero, List.getElem?_cons_succ] at y2
          have J3 := Lib.hid (J2.out.set 2 (.bool true))
          simp only [List.setIfInBounds_toArray, List.set_cons_succ, List.set_cons_zero] at J3
          clear Ow
          go_wp2_with fail
          have hsz : (Y1.setCell ⟨bj, 2, none⟩ (.bool true)).heap.size = Y1.heap.size := by simp [World.setCell]
          have Hsz := Lib.hid hsz
          clear hsz
          generalize hZ1 : (Y1.setCell ⟨bj, 2, none⟩ (.bool true)) = Z1 at *
          clear hZ1 fj y2 a2 a3 a4 a5 b2 b3 b4 b5 own1
          have hT := Lib.hid (impl_ZoneOf [b.v] (.slice E1 1 e1) Z1 OW.out.rdV (by first | exact Nat.le_of_eq Hsz.out.symm | (rw [Hsz.out]; exact Nat.le_refl _)))
          rw [HZ.out] at hT
          refine hT.out.mono ?_
          clear hT
          rintro e Z2 ⟨rfl, hz2⟩
          have J4 := Lib.hid (J3.out.up (hz2.mono J3.out.z))
          have OW2 := Lib.hid (OW.out.below hz2 (Nat.le_of_eq Hsz.out.symm))
          have S2 := Lib.hid (Nat.le_trans (Nat.le_of_eq Hsz.out.symm) hz2.size)
          clear hz2 OW
          have fj := fun o => frozen_of_row Z2 _ o _ _ J4.out.j
          have q0 := cell_of_row Z2 _ 0 _ _ _ J4.out.q
          simp only [List.getElem?_toArray, List.getElem?_cons_zero] at q0
          have j0 := cell_of_row Z2 _ 0 _ _ _ J4.out.j
          have j1 := cell_of_row Z2 _ 1 _ _ _ J4.out.j
          have j2 := cell_of_row Z2 _ 2 _ _ _ J4.out.j
          have j3 := cell_of_row Z2 _ 3 _ _ _ J4.out.j
          have j4 := cell_of_row Z2 _ 4 _ _ _ J4.out.j
          have j5 := cell_of_row Z2 _ 5 _ _ _ J4.out.j
          simp only [List.getElem?_toArray, List.getElem?_cons_zero, List.getElem?_cons_succ] at j0 j1 j2 j3 j4 j5
          have p0 := cell_of_row Z2 _ 0 _ _ _ J4.out.r
          have p1 := cell_of_row Z2 _ 1 _ _ _ J4.out.r
          have p2 := cell_of_row Z2 _ 2 _ _ _ J4.out.r
          have p3 := cell_of_row Z2 _ 3 _ _ _ J4.out.r
          have p4 := cell_of_row Z2 _ 4 _ _ _ J4.out.r
          have p5 := cell_of_row Z2 _ 5 _ _ _ J4.out.r
          simp only [List.getElem?_toArray, List.getElem?_cons_zero, List.getElem?_cons_succ] at p0 p1 p2 p3 p4 p5
          have fr := fun o => frozen_of_row Z2 _ o _ _ J4.out.r
          have hfd : ∀ W : World, (Instr.field 53 (.agg #[.int .i64 zo.lo.ty, .int .i64 zo.lo.n, .string zo.lo.s, .int .i64 zo.hi.ty, .int .i64 zo.hi.n, .string zo.hi.s]) 0).run Tryz.prog W = .ok (.agg #[.int .i64 zo.lo.ty, .int .i64 zo.lo.n, .string zo.lo.s]) W := fun _ => by kernel_rfl
          go_wp2_with fail
          clear hfd
          have J5 := Lib.hid (((J4.out.set 3 (.int .i64 zo.lo.ty)).set 4 (.int .i64 zo.lo.n)).set 5 (.string zo.lo.s))
          simp only [List.setIfInBounds_toArray, List.set_cons_succ, List.set_cons_zero] at J5
          generalize hZ : (((Z2.setCell ⟨bj, 3, none⟩ (.int .i64 zo.lo.ty)).setCell ⟨bj, 4, none⟩ (.int .i64 zo.lo.n)).setCell ⟨bj, 5, none⟩ (.string zo.lo.s)) = Z3 at *
          clear hZ fj q0 j3 j4 j5 j0 j1 j2 p0 p1 p2 p3 p4 p5 fr
          generalize hXF : ((((((Z3.setCell ⟨w.heap.size + 1 + 1 + 1, 0, none⟩ (.slice Aj nj cj)).setCell ⟨w.heap.size + 1 + 1 + 1, 1, none⟩ (.int .i64 NN)).setCell ⟨w.heap.size + 1 + 1 + 1, 2, none⟩ (.bool true)).setCell ⟨w.heap.size + 1 + 1 + 1, 3, none⟩ (.int .i64 zo.lo.ty)).setCell ⟨w.heap.size + 1 + 1 + 1, 4, none⟩ (.int .i64 zo.lo.n)).setCell ⟨w.heap.size + 1 + 1 + 1, 5, none⟩ (.string zo.lo.s)) = XF at *
          obtain ⟨H6, RF, BF⟩ := J5.out.fin hXF.symm
          clear hXF
          have r0 := cell_of_row XF _ 0 _ _ _ H6
          have r1 := cell_of_row XF _ 1 _ _ _ H6
          have r2 := cell_of_row XF _ 2 _ _ _ H6
          have r3 := cell_of_row XF _ 3 _ _ _ H6
          have r4 := cell_of_row XF _ 4 _ _ _ H6
          have r5 := cell_of_row XF _ 5 _ _ _ H6
          simp only [List.getElem?_toArray, List.getElem?_cons_zero, List.getElem?_cons_succ] at r0 r1 r2 r3 r4 r5
          refine bodyPost_ret (v := .agg #[.slice Aj nj cj, .int .i64 NN, .bool true, .int .i64 zo.lo.ty, .int .i64 zo.lo.n, .string zo.lo.s]) ?_ rfl ⟨.slice Aj nj cj, (by first | (rw [HJ.out]; done) | (rw [HJ.out]; rfl)), ?_, (hup.mono (Nat.le_refl _)).trans BF⟩
          · simp [results, Tryz.results11, go_sem, r0, r1, r2, r3, r4, r5]
          · rw [HJ.out]
            exact ⟨pj, HM.out, RF⟩
        · have HBb := Lib.hid hBb
          have HJ := Lib.hid (show joined q a b = ⟨a.rows ++ b.rows, NN, false, (zoneOf []).lo⟩ by rw [joined_4 a b KK.out, HN.out]; simp [hasVals, HA.out, HBb.out])
          clear hA hBb
          obtain ⟨zo, hzo⟩ : ∃ zo, zoneOf [] = zo := ⟨_, rfl⟩
          rw [hzo] at HJ
          have HZ := Lib.hid hzo
          clear hzo
          have a2 := cell_of_row (wc.alloc (.cells #[] 25)) _ 2 _ _ _ J1.out.a
          have a3 := cell_of_row (wc.alloc (.cells #[] 25)) _ 3 _ _ _ J1.out.a
          have a4 := cell_of_row (wc.alloc (.cells #[] 25)) _ 4 _ _ _ J1.out.a
          have a5 := cell_of_row (wc.alloc (.cells #[] 25)) _ 5 _ _ _ J1.out.a
          simp only [List.getElem?_toArray, List.getElem?_cons_zero, List.getElem?_cons_succ] at a2 a3 a4 a5
          have b2 := cell_of_row (wc.alloc (.cells #[] 25)) _ 2 _ _ _ J1.out.b
          have b3 := cell_of_row (wc.alloc (.cells #[] 25)) _ 3 _ _ _ J1.out.b
          have b4 := cell_of_row (wc.alloc (.cells #[] 25)) _ 4 _ _ _ J1.out.b
          have b5 := cell_of_row (wc.alloc (.cells #[] 25)) _ 5 _ _ _ J1.out.b
          simp only [List.getElem?_toArray, List.getElem?_cons_zero, List.getElem?_cons_succ] at b2 b3 b4 b5
          rw [HA.out] at a2
          rw [HBb.out] at b2
          have fj := fun o => frozen_of_row (wc.alloc (.cells #[] 25)) _ o _ _ J1.out.j
          have Ow : Own 25 3 (wc.alloc (.cells #[] 25)) wc.heap.size (wc.alloc (.cells #[] 25)).heap.size (.slice (some ⟨wc.heap.size, 0, none⟩) 0 0) ([] : List V).length (([] : List V).flatMap V.cells) := Own.new own0
          have OW := Lib.hid (Ow.same (w' := ((wc.alloc (.cells #[] 25)).setCell ⟨bj, 2, none⟩ (.bool false))) (fun g h1 _ => Below.heap_setCell (wc.alloc (.cells #[] 25)) ⟨bj, 2, none⟩ (.bool false) g (by show g ≠ bj; omega)))
          have y2 := cell_of_row (wc.alloc (.cells #[] 25)) _ 2 _ _ _ J1.out.j
          simp only [List.getElem?_toArray, List.getElem?_cons_zero, List.getElem?_cons_succ] at y2
          have J2 := Lib.hid (J1.out.set 2 (.bool false))
          simp only [List.setIfInBounds_toArray, List.set_cons_succ, List.set_cons_zero] at J2
          clear Ow
          go_wp2_with fail
          rw [show (wc.setCell ⟨bj, 2, none⟩ (.bool false)).alloc (.cells #[] 25) = ((wc.alloc (.cells #[] 25)).setCell ⟨bj, 2, none⟩ (.bool false)) from (World.setCell_alloc_past _ bj 2 _ hlj).symm]
          have hsz : ((wc.alloc (.cells #[] 25)).setCell ⟨bj, 2, none⟩ (.bool false)).heap.size = (wc.alloc (.cells #[] 25)).heap.size := by simp [World.setCell]
          have Hsz := Lib.hid hsz
          clear hsz
          generalize hZ1 : ((wc.alloc (.cells #[] 25)).setCell ⟨bj, 2, none⟩ (.bool false)) = Z1 at *
          clear hZ1 fj y2 a2 a3 a4 a5 b2 b3 b4 b5 own0
          have hT := Lib.hid (impl_ZoneOf [] (.slice (some ⟨wc.heap.size, 0, none⟩) 0 0) Z1 OW.out.rdV (by first | exact Nat.le_of_eq Hsz.out.symm | (rw [Hsz.out]; exact Nat.le_refl _)))
          rw [HZ.out] at hT
          refine hT.out.mono ?_
          clear hT
          rintro e Z2 ⟨rfl, hz2⟩
          have J3 := Lib.hid (J2.out.up (hz2.mono J2.out.z))
          have OW2 := Lib.hid (OW.out.below hz2 (Nat.le_of_eq Hsz.out.symm))
          have S2 := Lib.hid (Nat.le_trans (Nat.le_of_eq Hsz.out.symm) hz2.size)
          clear hz2 OW
          have fj := fun o => frozen_of_row Z2 _ o _ _ J3.out.j
          have q0 := cell_of_row Z2 _ 0 _ _ _ J3.out.q
          simp only [List.getElem?_toArray, List.getElem?_cons_zero] at q0
          have j0 := cell_of_row Z2 _ 0 _ _ _ J3.out.j
          have j1 := cell_of_row Z2 _ 1 _ _ _ J3.out.j
          have j2 := cell_of_row Z2 _ 2 _ _ _ J3.out.j
          have j3 := cell_of_row Z2 _ 3 _ _ _ J3.out.j
          have j4 := cell_of_row Z2 _ 4 _ _ _ J3.out.j
          have j5 := cell_of_row Z2 _ 5 _ _ _ J3.out.j
          simp only [List.getElem?_toArray, List.getElem?_cons_zero, List.getElem?_cons_succ] at j0 j1 j2 j3 j4 j5
          have p0 := cell_of_row Z2 _ 0 _ _ _ J3.out.r
          have p1 := cell_of_row Z2 _ 1 _ _ _ J3.out.r
          have p2 := cell_of_row Z2 _ 2 _ _ _ J3.out.r
          have p3 := cell_of_row Z2 _ 3 _ _ _ J3.out.r
          have p4 := cell_of_row Z2 _ 4 _ _ _ J3.out.r
          have p5 := cell_of_row Z2 _ 5 _ _ _ J3.out.r
          simp only [List.getElem?_toArray, List.getElem?_cons_zero, List.getElem?_cons_succ] at p0 p1 p2 p3 p4 p5
          have fr := fun o => frozen_of_row Z2 _ o _ _ J3.out.r
          have hfd : ∀ W : World, (Instr.field 53 (.agg #[.int .i64 zo.lo.ty, .int .i64 zo.lo.n, .string zo.lo.s, .int .i64 zo.hi.ty, .int .i64 zo.hi.n, .string zo.hi.s]) 0).run Tryz.prog W = .ok (.agg #[.int .i64 zo.lo.ty, .int .i64 zo.lo.n, .string zo.lo.s]) W := fun _ => by kernel_rfl
          go_wp2_with fail
          clear hfd
          have J4 := Lib.hid (((J3.out.set 3 (.int .i64 zo.lo.ty)).set 4 (.int .i64 zo.lo.n)).set 5 (.string zo.lo.s))
          simp only [List.setIfInBounds_toArray, List.set_cons_succ, List.set_cons_zero] at J4
          generalize hZ : (((Z2.setCell ⟨bj, 3, none⟩ (.int .i64 zo.lo.ty)).setCell ⟨bj, 4, none⟩ (.int .i64 zo.lo.n)).setCell ⟨bj, 5, none⟩ (.string zo.lo.s)) = Z3 at *
          clear hZ fj q0 j3 j4 j5 j0 j1 j2 p0 p1 p2 p3 p4 p5 fr
          generalize hXF : ((((((Z3.setCell ⟨w.heap.size + 1 + 1 + 1, 0, none⟩ (.slice Aj nj cj)).setCell ⟨w.heap.size + 1 + 1 + 1, 1, none⟩ (.int .i64 NN)).setCell ⟨w.heap.size + 1 + 1 + 1, 2, none⟩ (.bool false)).setCell ⟨w.heap.size + 1 + 1 + 1, 3, none⟩ (.int .i64 zo.lo.ty)).setCell ⟨w.heap.size + 1 + 1 + 1, 4, none⟩ (.int .i64 zo.lo.n)).setCell ⟨w.heap.size + 1 + 1 + 1, 5, none⟩ (.string zo.lo.s)) = XF at *
          obtain ⟨H6, RF, BF⟩ := J4.out.fin hXF.symm
          clear hXF
          have r0 := cell_of_row XF _ 0 _ _ _ H6
          have r1 := cell_of_row XF _ 1 _ _ _ H6
          have r2 := cell_of_row XF _ 2 _ _ _ H6
          have r3 := cell_of_row XF _ 3 _ _ _ H6
          have r4 := cell_of_row XF _ 4 _ _ _ H6
          have r5 := cell_of_row XF _ 5 _ _ _ H6
          simp only [List.getElem?_toArray, List.getElem?_cons_zero, List.getElem?_cons_succ] at r0 r1 r2 r3 r4 r5
          refine bodyPost_ret (v := .agg #[.slice Aj nj cj, .int .i64 NN, .bool false, .int .i64 zo.lo.ty, .int .i64 zo.lo.n, .string zo.lo.s]) ?_ rfl ⟨.slice Aj nj cj, (by first | (rw [HJ.out]; done) | (rw [HJ.out]; rfl)), ?_, (hup.mono (Nat.le_refl _)).trans BF⟩
          · simp [results, Tryz.results11, go_sem, r0, r1, r2, r3, r4, r5]
          · rw [HJ.out]
            exact ⟨pj, HM.out, RF⟩
    · have KK := Lib.hid k
      have d4 : (q.kind != 4) = true := by simp [k]
      have d5 : (q.kind != 5) = false := by simp [k]
      have d6 : (q.kind == 5) = true := by simp [k]
      clear k
      cases hA : a.has
      rotate_left
      · have HA := Lib.hid hA
        cases hBb : b.has
        rotate_left
        · have HBb := Lib.hid hBb
          have HJ := Lib.hid (show joined q a b = ⟨a.rows ++ b.rows, NN, true, (zoneOf [a.v, b.v]).hi⟩ by rw [joined_5 a b KK.out, HN.out]; simp [hasVals, HA.out, HBb.out])
          clear hA hBb
          obtain ⟨zo, hzo⟩ : ∃ zo, zoneOf [a.v, b.v] = zo := ⟨_, rfl⟩
          rw [hzo] at HJ
          have HZ := Lib.hid hzo
          clear hzo
          have a2 := cell_of_row (wc.alloc (.cells #[] 25)) _ 2 _ _ _ J1.out.a
          have a3 := cell_of_row (wc.alloc (.cells #[] 25)) _ 3 _ _ _ J1.out.a
          have a4 := cell_of_row (wc.alloc (.cells #[] 25)) _ 4 _ _ _ J1.out.a
          have a5 := cell_of_row (wc.alloc (.cells #[] 25)) _ 5 _ _ _ J1.out.a
          simp only [List.getElem?_toArray, List.getElem?_cons_zero, List.getElem?_cons_succ] at a2 a3 a4 a5
          have b2 := cell_of_row (wc.alloc (.cells #[] 25)) _ 2 _ _ _ J1.out.b
          have b3 := cell_of_row (wc.alloc (.cells #[] 25)) _ 3 _ _ _ J1.out.b
          have b4 := cell_of_row (wc.alloc (.cells #[] 25)) _ 4 _ _ _ J1.out.b
          have b5 := cell_of_row (wc.alloc (.cells #[] 25)) _ 5 _ _ _ J1.out.b
          simp only [List.getElem?_toArray, List.getElem?_cons_zero, List.getElem?_cons_succ] at b2 b3 b4 b5
          rw [HA.out] at a2
          rw [HBb.out] at b2
          go_wp2_with (at_builtin; (refine wpl_app rfl _ _ 48 rfl wc.heap.size 25 i1 _ 3 32 Tryz.underlying48 hif1.out hy0.out hy1.out hy2.out rfl (by decide) (by decide) (own0.alloc (.cells #[.int .i64 a.v.ty, .int .i64 a.v.n, .string a.v.s] 25)) rfl (heap_new_atJ (n := wc.heap.size + 1) (by simp)) rfl rfl (by simp [Value.oneCell']) (by omega) (by first | omega | (simp <;> omega)) ?_))
          intro v1 Y1 own1 hg1 hn1
          obtain ⟨E1, e1, rfl, -, -, -⟩ := (Own.new own1).cells
          have dn1 := below_app (B := wc.heap.size) ((up_a1 (wc.alloc (.cells #[] 25)) (.cells #[.int .i64 a.v.ty, .int .i64 a.v.n, .string a.v.s] 25)).mono (by first | omega | (simp <;> omega))) (own0.alloc _) hg1 (by first | omega | (simp <;> omega))
          have J2 := Lib.hid (J1.out.up dn1)
          have s1 := dn1.size
          replace s1 : wc.heap.size ≤ Y1.heap.size := J2.out.z
          clear a2 a3 a4 a5 b2 b3 b4 b5 dn1 hg1 hn1
          have a2 := cell_of_row Y1 _ 2 _ _ _ J2.out.a
          have a3 := cell_of_row Y1 _ 3 _ _ _ J2.out.a
          have a4 := cell_of_row Y1 _ 4 _ _ _ J2.out.a
          have a5 := cell_of_row Y1 _ 5 _ _ _ J2.out.a
          simp only [List.getElem?_toArray, List.getElem?_cons_zero, List.getElem?_cons_succ] at a2 a3 a4 a5
          have b2 := cell_of_row Y1 _ 2 _ _ _ J2.out.b
          have b3 := cell_of_row Y1 _ 3 _ _ _ J2.out.b
          have b4 := cell_of_row Y1 _ 4 _ _ _ J2.out.b
          have b5 := cell_of_row Y1 _ 5 _ _ _ J2.out.b
          simp only [List.getElem?_toArray, List.getElem?_cons_zero, List.getElem?_cons_succ] at b2 b3 b4 b5
          rw [HA.out] at a2
          rw [HBb.out] at b2
          go_wp2_with (at_builtin; (refine wpl_app rfl _ _ 48 rfl wc.heap.size 25 i1 _ 3 32 Tryz.underlying48 hif1.out hy0.out hy1.out hy2.out rfl (by decide) (by decide) (own1.alloc (.cells #[.int .i64 b.v.ty, .int .i64 b.v.n, .string b.v.s] 25)) rfl (heap_alloc_new _ _) rfl rfl (by simp [Value.oneCell']) (by omega) (by first | omega | (simp <;> omega)) ?_))
          intro v2 Y2 own2 hg2 hn2
          obtain ⟨E2, e2, rfl, -, -, -⟩ := (Own.new own2).cells
          have dn2 := below_app (B := wc.heap.size) ((up_a1 Y1 (.cells #[.int .i64 b.v.ty, .int .i64 b.v.n, .string b.v.s] 25)).mono (by first | omega | (simp <;> omega))) (own1.alloc _) hg2 (by first | omega | (simp <;> omega))
          have J3 := Lib.hid (J2.out.up dn2)
          have s2 := dn2.size
          replace s2 : wc.heap.size ≤ Y2.heap.size := J3.out.z
          clear a2 a3 a4 a5 b2 b3 b4 b5 dn2 hg2 hn2
          have a2 := cell_of_row Y2 _ 2 _ _ _ J3.out.a
          have a3 := cell_of_row Y2 _ 3 _ _ _ J3.out.a
          have a4 := cell_of_row Y2 _ 4 _ _ _ J3.out.a
          have a5 := cell_of_row Y2 _ 5 _ _ _ J3.out.a
          simp only [List.getElem?_toArray, List.getElem?_cons_zero, List.getElem?_cons_succ] at a2 a3 a4 a5
          have b2 := cell_of_row Y2 _ 2 _ _ _ J3.out.b
          have b3 := cell_of_row Y2 _ 3 _ _ _ J3.out.b
          have b4 := cell_of_row Y2 _ 4 _ _ _ J3.out.b
          have b5 := cell_of_row Y2 _ 5 _ _ _ J3.out.b
          simp only [List.getElem?_toArray, List.getElem?_cons_zero, List.getElem?_cons_succ] at b2 b3 b4 b5
          rw [HA.out] at a2
          rw [HBb.out] at b2
          have fj := fun o => frozen_of_row Y2 _ o _ _ J3.out.j
          have Ow : Own 25 3 Y2 wc.heap.size Y2.heap.size (.slice E2 2 e2) ([a.v, b.v] : List V).length (([a.v, b.v] : List V).flatMap V.cells) := Own.new own2
          have OW := Lib.hid (Ow.same (w' := (Y2.setCell ⟨bj, 2, none⟩ (.bool true))) (fun g h1 _ => Below.heap_setCell Y2 ⟨bj, 2, none⟩ (.bool true) g (by show g ≠ bj; omega)))
          have y2 := cell_of_row Y2 _ 2 _ _ _ J3.out.j
          simp only [List.getElem?_toArray, List.getElem?_cons_zero, List.getElem?_cons_succ] at y2
          have J4 := Lib.hid (J3.out.set 2 (.bool true))
          simp only [List.setIfInBounds_toArray, List.set_cons_succ, List.set_cons_zero] at J4
          clear Ow
          go_wp2_with fail
          have hsz : (Y2.setCell ⟨bj, 2, none⟩ (.bool true)).heap.size = Y2.heap.size := by simp [World.setCell]
          have Hsz := Lib.hid hsz
          clear hsz
          generalize hZ1 : (Y2.setCell ⟨bj, 2, none⟩ (.bool true)) = Z1 at *
          clear hZ1 fj y2 a2 a3 a4 a5 b2 b3 b4 b5 own2
          have hT := Lib.hid (impl_ZoneOf [a.v, b.v] (.slice E2 2 e2) Z1 OW.out.rdV (by first | exact Nat.le_of_eq Hsz.out.symm | (rw [Hsz.out]; exact Nat.le_refl _)))
          rw [HZ.out] at hT
          refine hT.out.mono ?_
          clear hT
          rintro e Z2 ⟨rfl, hz2⟩
          have J5 := Lib.hid (J4.out.up (hz2.mono J4.out.z))
          have OW2 := Lib.hid (OW.out.below hz2 (Nat.le_of_eq Hsz.out.symm))
          have S2 := Lib.hid (Nat.le_trans (Nat.le_of_eq Hsz.out.symm) hz2.size)
          clear hz2 OW
          have fj := fun o => frozen_of_row Z2 _ o _ _ J5.out.j
          have q0 := cell_of_row Z2 _ 0 _ _ _ J5.out.q
          simp only [List.getElem?_toArray, List.getElem?_cons_zero] at q0
          have j3 := cell_of_row Z2 _ 3 _ _ _ J5.out.j
          have j4 := cell_of_row Z2 _ 4 _ _ _ J5.out.j
          have j5 := cell_of_row Z2 _ 5 _ _ _ J5.out.j
          simp only [List.getElem?_toArray, List.getElem?_cons_zero, List.getElem?_cons_succ] at j3 j4 j5
          have hfd : ∀ W : World, (Instr.field 53 (.agg #[.int .i64 zo.lo.ty, .int .i64 zo.lo.n, .string zo.lo.s, .int .i64 zo.hi.ty, .int .i64 zo.hi.n, .string zo.hi.s]) 0).run Tryz.prog W = .ok (.agg #[.int .i64 zo.lo.ty, .int .i64 zo.lo.n, .string zo.lo.s]) W := fun _ => by kernel_rfl
          go_wp2_with fail
          clear hfd
          have J6 := Lib.hid (((J5.out.set 3 (.int .i64 zo.lo.ty)).set 4 (.int .i64 zo.lo.n)).set 5 (.string zo.lo.s))
          simp only [List.setIfInBounds_toArray, List.set_cons_succ, List.set_cons_zero] at J6
          have OW3 := Lib.hid (OW2.out.same (w' := (((Z2.setCell ⟨bj, 3, none⟩ (.int .i64 zo.lo.ty)).setCell ⟨bj, 4, none⟩ (.int .i64 zo.lo.n)).setCell ⟨bj, 5, none⟩ (.string zo.lo.s))) (fun g h1 _ => ((Below.heap_setCell _ ⟨bj, 5, none⟩ _ g (by show g ≠ bj; omega)).trans (Below.heap_setCell _ ⟨bj, 4, none⟩ _ g (by show g ≠ bj; omega))).trans (Below.heap_setCell _ ⟨bj, 3, none⟩ _ g (by show g ≠ bj; omega))))
          have Hs3 := Lib.hid (show (((Z2.setCell ⟨bj, 3, none⟩ (.int .i64 zo.lo.ty)).setCell ⟨bj, 4, none⟩ (.int .i64 zo.lo.n)).setCell ⟨bj, 5, none⟩ (.string zo.lo.s)).heap.size = Z2.heap.size by simp [World.setCell])
          generalize hZ : (((Z2.setCell ⟨bj, 3, none⟩ (.int .i64 zo.lo.ty)).setCell ⟨bj, 4, none⟩ (.int .i64 zo.lo.n)).setCell ⟨bj, 5, none⟩ (.string zo.lo.s)) = Z3 at *
          clear hZ fj q0 j3 j4 j5
          have q0 := cell_of_row Z3 _ 0 _ _ _ J6.out.q
          simp only [List.getElem?_toArray, List.getElem?_cons_zero] at q0
          go_wp2_with fail
          have hT := Lib.hid (impl_ZoneOf [a.v, b.v] (.slice E2 2 e2) Z3 OW3.out.rdV (by rw [Hs3.out]; exact S2.out))
          rw [HZ.out] at hT
          refine hT.out.mono ?_
          clear hT q0
          rintro e Z4 ⟨rfl, hz4⟩
          have J7 := Lib.hid (J6.out.up (hz4.mono J6.out.z))
          clear hz4
          have fj := fun o => frozen_of_row Z4 _ o _ _ J7.out.j
          have j0 := cell_of_row Z4 _ 0 _ _ _ J7.out.j
          have j1 := cell_of_row Z4 _ 1 _ _ _ J7.out.j
          have j2 := cell_of_row Z4 _ 2 _ _ _ J7.out.j
          have j3 := cell_of_row Z4 _ 3 _ _ _ J7.out.j
          have j4 := cell_of_row Z4 _ 4 _ _ _ J7.out.j
          have j5 := cell_of_row Z4 _ 5 _ _ _ J7.out.j
          simp only [List.getElem?_toArray, List.getElem?_cons_zero, List.getElem?_cons_succ] at j0 j1 j2 j3 j4 j5
          have p0 := cell_of_row Z4 _ 0 _ _ _ J7.out.r
          have p1 := cell_of_row Z4 _ 1 _ _ _ J7.out.r
          have p2 := cell_of_row Z4 _ 2 _ _ _ J7.out.r
          have p3 := cell_of_row Z4 _ 3 _ _ _ J7.out.r
          have p4 := cell_of_row Z4 _ 4 _ _ _ J7.out.r
          have p5 := cell_of_row Z4 _ 5 _ _ _ J7.out.r
          simp only [List.getElem?_toArray, List.getElem?_cons_zero, List.getElem?_cons_succ] at p0 p1 p2 p3 p4 p5
          have fr := fun o => frozen_of_row Z4 _ o _ _ J7.out.r
          have hfd : ∀ W : World, (Instr.field 53 (.agg #[.int .i64 zo.lo.ty, .int .i64 zo.lo.n, .string zo.lo.s, .int .i64 zo.hi.ty, .int .i64 zo.hi.n, .string zo.hi.s]) 1).run Tryz.prog W = .ok (.agg #[.int .i64 zo.hi.ty, .int .i64 zo.hi.n, .string zo.hi.s]) W := fun _ => by kernel_rfl
          go_wp2_with fail
          clear hfd
          have J8 := Lib.hid (((J7.out.set 3 (.int .i64 zo.hi.ty)).set 4 (.int .i64 zo.hi.n)).set 5 (.string zo.hi.s))
          simp only [List.setIfInBounds_toArray, List.set_cons_succ, List.set_cons_zero] at J8
          generalize hZ : (((Z4.setCell ⟨bj, 3, none⟩ (.int .i64 zo.hi.ty)).setCell ⟨bj, 4, none⟩ (.int .i64 zo.hi.n)).setCell ⟨bj, 5, none⟩ (.string zo.hi.s)) = Z5 at *
          clear hZ fj j0 j1 j2 j3 j4 j5 p0 p1 p2 p3 p4 p5 fr
          generalize hXF : ((((((Z5.setCell ⟨w.heap.size + 1 + 1 + 1, 0, none⟩ (.slice Aj nj cj)).setCell ⟨w.heap.size + 1 + 1 + 1, 1, none⟩ (.int .i64 NN)).setCell ⟨w.heap.size + 1 + 1 + 1, 2, none⟩ (.bool true)).setCell ⟨w.heap.size + 1 + 1 + 1, 3, none⟩ (.int .i64 zo.hi.ty)).setCell ⟨w.heap.size + 1 + 1 + 1, 4, none⟩ (.int .i64 zo.hi.n)).setCell ⟨w.heap.size + 1 + 1 + 1, 5, none⟩ (.string zo.hi.s)) = XF at *
          obtain ⟨H6, RF, BF⟩ := J8.out.fin hXF.symm
          clear hXF
          have r0 := cell_of_row XF _ 0 _ _ _ H6
          have r1 := cell_of_row XF _ 1 _ _ _ H6
          have r2 := cell_of_row XF _ 2 _ _ _ H6
          have r3 := cell_of_row XF _ 3 _ _ _ H6
          have r4 := cell_of_row XF _ 4 _ _ _ H6
          have r5 := cell_of_row XF _ 5 _ _ _ H6
          simp only [List.getElem?_toArray, List.getElem?_cons_zero, List.getElem?_cons_succ] at r0 r1 r2 r3 r4 r5
          refine bodyPost_ret (v := .agg #[.slice Aj nj cj, .int .i64 NN, .bool true, .int .i64 zo.hi.ty, .int .i64 zo.hi.n, .string zo.hi.s]) ?_ rfl ⟨.slice Aj nj cj, (by first | (rw [HJ.out]; done) | (rw [HJ.out]; rfl)), ?_, (hup.mono (Nat.le_refl _)).trans BF⟩
          · simp [results, Tryz.results11, go_sem, r0, r1, r2, r3, r4, r5]
          · rw [HJ.out]
            exact ⟨pj, HM.out, RF⟩
        · have HBb := Lib.hid hBb
          have HJ := Lib.hid (show joined q a b = ⟨a.rows ++ b.rows, NN, true, (zoneOf [a.v]).hi⟩ by rw [joined_5 a b KK.out, HN.out]; simp [hasVals, HA.out, HBb.out])
          clear hA hBb
          obtain ⟨zo, hzo⟩ : ∃ zo, zoneOf [a.v] = zo := ⟨_, rfl⟩
          rw [hzo] at HJ
          have HZ := Lib.hid hzo
          clear hzo
          have a2 := cell_of_row (wc.alloc (.cells #[] 25)) _ 2 _ _ _ J1.out.a
          have a3 := cell_of_row (wc.alloc (.cells #[] 25)) _ 3 _ _ _ J1.out.a
          have a4 := cell_of_row (wc.alloc (.cells #[] 25)) _ 4 _ _ _ J1.out.a
          have a5 := cell_of_row (wc.alloc (.cells #[] 25)) _ 5 _ _ _ J1.out.a
          simp only [List.getElem?_toArray, List.getElem?_cons_zero, List.getElem?_cons_succ] at a2 a3 a4 a5
          have b2 := cell_of_row (wc.alloc (.cells #[] 25)) _ 2 _ _ _ J1.out.b
          have b3 := cell_of_row (wc.alloc (.cells #[] 25)) _ 3 _ _ _ J1.out.b
          have b4 := cell_of_row (wc.alloc (.cells #[] 25)) _ 4 _ _ _ J1.out.b
          have b5 := cell_of_row (wc.alloc (.cells #[] 25)) _ 5 _ _ _ J1.out.b
          simp only [List.getElem?_toArray, List.getElem?_cons_zero, List.getElem?_cons_succ] at b2 b3 b4 b5
          rw [HA.out] at a2
          rw [HBb.out] at b2
          go_wp2_with (at_builtin; (refine wpl_app rfl _ _ 48 rfl wc.heap.size 25 i1 _ 3 32 Tryz.underlying48 hif1.out hy0.out hy1.out hy2.out rfl (by decide) (by decide) (own0.alloc (.cells #[.int .i64 a.v.ty, .int .i64 a.v.n, .string a.v.s] 25)) rfl (heap_new_atJ (n := wc.heap.size + 1) (by simp)) rfl rfl (by simp [Value.oneCell']) (by omega) (by first | omega | (simp <;> omega)) ?_))
          intro v1 Y1 own1 hg1 hn1
          obtain ⟨E1, e1, rfl, -, -, -⟩ := (Own.new own1).cells
          have dn1 := below_app (B := wc.heap.size) ((up_a1 (wc.alloc (.cells #[] 25)) (.cells #[.int .i64 a.v.ty, .int .i64 a.v.n, .string a.v.s] 25)).mono (by first | omega | (simp <;> omega))) (own0.alloc _) hg1 (by first | omega | (simp <;> omega))
          have J2 := Lib.hid (J1.out.up dn1)
          have s1 := dn1.size
          replace s1 : wc.heap.size ≤ Y1.heap.size := J2.out.z
          clear a2 a3 a4 a5 b2 b3 b4 b5 dn1 hg1 hn1
          have a2 := cell_of_row Y1 _ 2 _ _ _ J2.out.a
          have a3 := cell_of_row Y1 _ 3 _ _ _ J2.out.a
          have a4 := cell_of_row Y1 _ 4 _ _ _ J2.out.a
          have a5 := cell_of_row Y1 _ 5 _ _ _ J2.out.a
          simp only [List.getElem?_toArray, List.getElem?_cons_zero, List.getElem?_cons_succ] at a2 a3 a4 a5
          have b2 := cell_of_row Y1 _ 2 _ _ _ J2.out.b
          have b3 := cell_of_row Y1 _ 3 _ _ _ J2.out.b
          have b4 := cell_of_row Y1 _ 4 _ _ _ J2.out.b
          have b5 := cell_of_row Y1 _ 5 _ _ _ J2.out.b
          simp only [List.getElem?_toArray, List.getElem?_cons_zero, List.getElem?_cons_succ] at b2 b3 b4 b5
          rw [HA.out] at a2
          rw [HBb.out] at b2
          have fj := fun o => frozen_of_row Y1 _ o _ _ J2.out.j
          have Ow : Own 25 3 Y1 wc.heap.size Y1.heap.size (.slice E1 1 e1) ([a.v] : List V).length (([a.v] : List V).flatMap V.cells) := Own.new own1
          have OW := Lib.hid (Ow.same (w' := (Y1.setCell ⟨bj, 2, none⟩ (.bool true))) (fun g h1 _ => Below.heap_setCell Y1 ⟨bj, 2, none⟩ (.bool true) g (by show g ≠ bj; omega)))
          have y2 := cell_of_row Y1 _ 2 _ _ _ J2.out.j
          simp only [List.getElem?_toArray, List.getElem?_cons_zero, List.getElem?_cons_succ] at y2
          have J3 := Lib.hid (J2.out.set 2 (.bool true))
          simp only [List.setIfInBounds_toArray, List.set_cons_succ, List.set_cons_zero] at J3
          clear Ow
          go_wp2_with fail
          have hsz : (Y1.setCell ⟨bj, 2, none⟩ (.bool true)).heap.size = Y1.heap.size := by simp [World.setCell]
          have Hsz := Lib.hid hsz
          clear hsz
          generalize hZ1 : (Y1.setCell ⟨bj, 2, none⟩ (.bool true)) = Z1 at *
          clear hZ1 fj y2 a2 a3 a4 a5 b2 b3 b4 b5 own1
          have hT := Lib.hid (impl_ZoneOf [a.v] (.slice E1 1 e1) Z1 OW.out.rdV (by first | exact Nat.le_of_eq Hsz.out.symm | (rw [Hsz.out]; exact Nat.le_refl _)))
          rw [HZ.out] at hT
          refine hT.out.mono ?_
          clear hT
          rintro e Z2 ⟨rfl, hz2⟩
          have J4 := Lib.hid (J3.out.up (hz2.mono J3.out.z))
          have OW2 := Lib.hid (OW.out.below hz2 (Nat.le_of_eq Hsz.out.symm))
          have S2 := Lib.hid (Nat.le_trans (Nat.le_of_eq Hsz.out.symm) hz2.size)
          clear hz2 OW
          have fj := fun o => frozen_of_row Z2 _ o _ _ J4.out.j
          have q0 := cell_of_row Z2 _ 0 _ _ _ J4.out.q
          simp only [List.getElem?_toArray, List.getElem?_cons_zero] at q0
          have j3 := cell_of_row Z2 _ 3 _ _ _ J4.out.j
          have j4 := cell_of_row Z2 _ 4 _ _ _ J4.out.j
          have j5 := cell_of_row Z2 _ 5 _ _ _ J4.out.j
          simp only [List.getElem?_toArray, List.getElem?_cons_zero, List.getElem?_cons_succ] at j3 j4 j5
          have hfd : ∀ W : World, (Instr.field 53 (.agg #[.int .i64 zo.lo.ty, .int .i64 zo.lo.n, .string zo.lo.s, .int .i64 zo.hi.ty, .int .i64 zo.hi.n, .string zo.hi.s]) 0).run Tryz.prog W = .ok (.agg #[.int .i64 zo.lo.ty, .int .i64 zo.lo.n, .string zo.lo.s]) W := fun _ => by kernel_rfl
          go_wp2_with fail
          clear hfd
          have J5 := Lib.hid (((J4.out.set 3 (.int .i64 zo.lo.ty)).set 4 (.int .i64 zo.lo.n)).set 5 (.string zo.lo.s))
          simp only [List.setIfInBounds_toArray, List.set_cons_succ, List.set_cons_zero] at J5
          have OW3 := Lib.hid (OW2.out.same (w' := (((Z2.setCell ⟨bj, 3, none⟩ (.int .i64 zo.lo.ty)).setCell ⟨bj, 4, none⟩ (.int .i64 zo.lo.n)).setCell ⟨bj, 5, none⟩ (.string zo.lo.s))) (fun g h1 _ => ((Below.heap_setCell _ ⟨bj, 5, none⟩ _ g (by show g ≠ bj; omega)).trans (Below.heap_setCell _ ⟨bj, 4, none⟩ _ g (by show g ≠ bj; omega))).trans (Below.heap_setCell _ ⟨bj, 3, none⟩ _ g (by show g ≠ bj; omega))))
          have Hs3 := Lib.hid (show (((Z2.setCell ⟨bj, 3, none⟩ (.int .i64 zo.lo.ty)).setCell ⟨bj, 4, none⟩ (.int .i64 zo.lo.n)).setCell ⟨bj, 5, none⟩ (.string zo.lo.s)).heap.size = Z2.heap.size by simp [World.setCell])
          generalize hZ : (((Z2.setCell ⟨bj, 3, none⟩ (.int .i64 zo.lo.ty)).setCell ⟨bj, 4, none⟩ (.int .i64 zo.lo.n)).setCell ⟨bj, 5, none⟩ (.string zo.lo.s)) = Z3 at *
          clear hZ fj q0 j3 j4 j5
          have q0 := cell_of_row Z3 _ 0 _ _ _ J5.out.q
          simp only [List.getElem?_toArray, List.getElem?_cons_zero] at q0
          go_wp2_with fail
          have hT := Lib.hid (impl_ZoneOf [a.v] (.slice E1 1 e1) Z3 OW3.out.rdV (by rw [Hs3.out]; exact S2.out))
          rw [HZ.out] at hT
          refine hT.out.mono ?_
          clear hT q0
          rintro e Z4 ⟨rfl, hz4⟩
          have J6 := Lib.hid (J5.out.up (hz4.mono J5.out.z))
          clear hz4
          have fj := fun o => frozen_of_row Z4 _ o _ _ J6.out.j
          have j0 := cell_of_row Z4 _ 0 _ _ _ J6.out.j
          have j1 := cell_of_row Z4 _ 1 _ _ _ J6.out.j
          have j2 := cell_of_row Z4 _ 2 _ _ _ J6.out.j
          have j3 := cell_of_row Z4 _ 3 _ _ _ J6.out.j
          have j4 := cell_of_row Z4 _ 4 _ _ _ J6.out.j
          have j5 := cell_of_row Z4 _ 5 _ _ _ J6.out.j
          simp only [List.getElem?_toArray, List.getElem?_cons_zero, List.getElem?_cons_succ] at j0 j1 j2 j3 j4 j5
          have p0 := cell_of_row Z4 _ 0 _ _ _ J6.out.r
          have p1 := cell_of_row Z4 _ 1 _ _ _ J6.out.r
          have p2 := cell_of_row Z4 _ 2 _ _ _ J6.out.r
          have p3 := cell_of_row Z4 _ 3 _ _ _ J6.out.r
          have p4 := cell_of_row Z4 _ 4 _ _ _ J6.out.r
          have p5 := cell_of_row Z4 _ 5 _ _ _ J6.out.r
          simp only [List.getElem?_toArray, List.getElem?_cons_zero, List.getElem?_cons_succ] at p0 p1 p2 p3 p4 p5
          have fr := fun o => frozen_of_row Z4 _ o _ _ J6.out.r
          have hfd : ∀ W : World, (Instr.field 53 (.agg #[.int .i64 zo.lo.ty, .int .i64 zo.lo.n, .string zo.lo.s, .int .i64 zo.hi.ty, .int .i64 zo.hi.n, .string zo.hi.s]) 1).run Tryz.prog W = .ok (.agg #[.int .i64 zo.hi.ty, .int .i64 zo.hi.n, .string zo.hi.s]) W := fun _ => by kernel_rfl
          go_wp2_with fail
          clear hfd
          have J7 := Lib.hid (((J6.out.set 3 (.int .i64 zo.hi.ty)).set 4 (.int .i64 zo.hi.n)).set 5 (.string zo.hi.s))
          simp only [List.setIfInBounds_toArray, List.set_cons_succ, List.set_cons_zero] at J7
          generalize hZ : (((Z4.setCell ⟨bj, 3, none⟩ (.int .i64 zo.hi.ty)).setCell ⟨bj, 4, none⟩ (.int .i64 zo.hi.n)).setCell ⟨bj, 5, none⟩ (.string zo.hi.s)) = Z5 at *
          clear hZ fj j0 j1 j2 j3 j4 j5 p0 p1 p2 p3 p4 p5 fr
          generalize hXF : ((((((Z5.setCell ⟨w.heap.size + 1 + 1 + 1, 0, none⟩ (.slice Aj nj cj)).setCell ⟨w.heap.size + 1 + 1 + 1, 1, none⟩ (.int .i64 NN)).setCell ⟨w.heap.size + 1 + 1 + 1, 2, none⟩ (.bool true)).setCell ⟨w.heap.size + 1 + 1 + 1, 3, none⟩ (.int .i64 zo.hi.ty)).setCell ⟨w.heap.size + 1 + 1 + 1, 4, none⟩ (.int .i64 zo.hi.n)).setCell ⟨w.heap.size + 1 + 1 + 1, 5, none⟩ (.string zo.hi.s)) = XF at *
          obtain ⟨H6, RF, BF⟩ := J7.out.fin hXF.symm
          clear hXF
          have r0 := cell_of_row XF _ 0 _ _ _ H6
          have r1 := cell_of_row XF _ 1 _ _ _ H6
          have r2 := cell_of_row XF _ 2 _ _ _ H6
          have r3 := cell_of_row XF _ 3 _ _ _ H6
          have r4 := cell_of_row XF _ 4 _ _ _ H6
          have r5 := cell_of_row XF _ 5 _ _ _ H6
          simp only [List.getElem?_toArray, List.getElem?_cons_zero, List.getElem?_cons_succ] at r0 r1 r2 r3 r4 r5
          refine bodyPost_ret (v := .agg #[.slice Aj nj cj, .int .i64 NN, .bool true, .int .i64 zo.hi.ty, .int .i64 zo.hi.n, .string zo.hi.s]) ?_ rfl ⟨.slice Aj nj cj, (by first | (rw [HJ.out]; done) | (rw [HJ.out]; rfl)), ?_, (hup.mono (Nat.le_refl _)).trans BF⟩
          · simp [results, Tryz.results11, go_sem, r0, r1, r2, r3, r4, r5]
          · rw [HJ.out]
            exact ⟨pj, HM.out, RF⟩
      · have HA := Lib.hid hA
        cases hBb : b.has
        rotate_left
        · have HBb := Lib.hid hBb
          have HJ := Lib.hid (show joined q a b = ⟨a.rows ++ b.rows, NN, true, (zoneOf [b.v]).hi⟩ by rw [joined_5 a b KK.out, HN.out]; simp [hasVals, HA.out, HBb.out])
          clear hA hBb
          obtain ⟨zo, hzo⟩ : ∃ zo, zoneOf [b.v] = zo := ⟨_, rfl⟩
          rw [hzo] at HJ
          have HZ := Lib.hid hzo
          clear hzo
          have a2 := cell_of_row (wc.alloc (.cells #[] 25)) _ 2 _ _ _ J1.out.a
          have a3 := cell_of_row (wc.alloc (.cells #[] 25)) _ 3 _ _ _ J1.out.a
          have a4 := cell_of_row (wc.alloc (.cells #[] 25)) _ 4 _ _ _ J1.out.a
          have a5 := cell_of_row (wc.alloc (.cells #[] 25)) _ 5 _ _ _ J1.out.a
          simp only [List.getElem?_toArray, List.getElem?_cons_zero, List.getElem?_cons_succ] at a2 a3 a4 a5
          have b2 := cell_of_row (wc.alloc (.cells #[] 25)) _ 2 _ _ _ J1.out.b
          have b3 := cell_of_row (wc.alloc (.cells #[] 25)) _ 3 _ _ _ J1.out.b
          have b4 := cell_of_row (wc.alloc (.cells #[] 25)) _ 4 _ _ _ J1.out.b
          have b5 := cell_of_row (wc.alloc (.cells #[] 25)) _ 5 _ _ _ J1.out.b
          simp only [List.getElem?_toArray, List.getElem?_cons_zero, List.getElem?_cons_succ] at b2 b3 b4 b5
          rw [HA.out] at a2
          rw [HBb.out] at b2
          go_wp2_with (at_builtin; (refine wpl_app rfl _ _ 48 rfl wc.heap.size 25 i1 _ 3 32 Tryz.underlying48 hif1.out hy0.out hy1.out hy2.out rfl (by decide) (by decide) (own0.alloc (.cells #[.int .i64 b.v.ty, .int .i64 b.v.n, .string b.v.s] 25)) rfl (heap_new_atJ (n := wc.heap.size + 1) (by simp)) rfl rfl (by simp [Value.oneCell']) (by omega) (by first | omega | (simp <;> omega)) ?_))
          intro v1 Y1 own1 hg1 hn1
          obtain ⟨E1, e1, rfl, -, -, -⟩ := (Own.new own1).cells
          have dn1 := below_app (B := wc.heap.size) ((up_a1 (wc.alloc (.cells #[] 25)) (.cells #[.int .i64 b.v.ty, .int .i64 b.v.n, .string b.v.s] 25)).mono (by first | omega | (simp <;> omega))) (own0.alloc _) hg1 (by first | omega | (simp <;> omega))
          have J2 := Lib.hid (J1.out.up dn1)
          have s1 := dn1.size
          replace s1 : wc.heap.size ≤ Y1.heap.size := J2.out.z
          clear a2 a3 a4 a5 b2 b3 b4 b5 dn1 hg1 hn1
          have a2 := cell_of_row Y1 _ 2 _ _ _ J2.out.a
          have a3 := cell_of_row Y1 _ 3 _ _ _ J2.out.a
          have a4 := cell_of_row Y1 _ 4 _ _ _ J2.out.a
          have a5 := cell_of_row Y1 _ 5 _ _ _ J2.out.a
          simp only [List.getElem?_toArray, List.getElem?_cons_zero, List.getElem?_cons_succ] at a2 a3 a4 a5
          have b2 := cell_of_row Y1 _ 2 _ _ _ J2.out.b
          have b3 := cell_of_row Y1 _ 3 _ _ _ J2.out.b
          have b4 := cell_of_row Y1 _ 4 _ _ _ J2.out.b
          have b5 := cell_of_row Y1 _ 5 _ _ _ J2.out.b
          simp only [List.getElem?_toArray, List.getElem?_cons_zero, List.getElem?_cons_succ] at b2 b3 b4 b5
          rw [HA.out] at a2
          rw [HBb.out] at b2
          have fj := fun o => frozen_of_row Y1 _ o _ _ J2.out.j
          have Ow : Own 25 3 Y1 wc.heap.size Y1.heap.size (.slice E1 1 e1) ([b.v] : List V).length (([b.v] : List V).flatMap V.cells) := Own.new own1
          have OW := Lib.hid (Ow.same (w' := (Y1.setCell ⟨bj, 2, none⟩ (.bool true))) (fun g h1 _ => Below.heap_setCell Y1 ⟨bj, 2, none⟩ (.bool true) g (by show g ≠ bj; omega)))
          have y2 := cell_of_row Y1 _ 2 _ _ _ J2.out.j
          simp only [List.getElem?_toArray, List.getElem?_cons_zero, List.getElem?_cons_succ] at y2
          have J3 := Lib.hid (J2.out.set 2 (.bool true))
          simp only [List.setIfInBounds_toArray, List.set_cons_succ, List.set_cons_zero] at J3
          clear Ow
          go_wp2_with fail
          have hsz : (Y1.setCell ⟨bj, 2, none⟩ (.bool true)).heap.size = Y1.heap.size := by simp [World.setCell]
          have Hsz := Lib.hid hsz
          clear hsz
          generalize hZ1 : (Y1.setCell ⟨bj, 2, none⟩ (.bool true)) = Z1 at *
          clear hZ1 fj y2 a2 a3 a4 a5 b2 b3 b4 b5 own1
          have hT := Lib.hid (impl_ZoneOf [b.v] (.slice E1 1 e1) Z1 OW.out.rdV (by first | exact Nat.le_of_eq Hsz.out.symm | (rw [Hsz.out]; exact Nat.le_refl _)))
          rw [HZ.out] at hT
          refine hT.out.mono ?_
          clear hT
          rintro e Z2 ⟨rfl, hz2⟩
          have J4 := Lib.hid (J3.out.up (hz2.mono J3.out.z))
          have OW2 := Lib.hid (OW.out.below hz2 (Nat.le_of_eq Hsz.out.symm))
          have S2 := Lib.hid (Nat.le_trans (Nat.le_of_eq Hsz.out.symm) hz2.size)
          clear hz2 OW
          have fj := fun o => frozen_of_row Z2 _ o _ _ J4.out.j
          have q0 := cell_of_row Z2 _ 0 _ _ _ J4.out.q
          simp only [List.getElem?_toArray, List.getElem?_cons_zero] at q0
          have j3 := cell_of_row Z2 _ 3 _ _ _ J4.out.j
          have j4 := cell_of_row Z2 _ 4 _ _ _ J4.out.j
          have j5 := cell_of_row Z2 _ 5 _ _ _ J4.out.j
          simp only [List.getElem?_toArray, List.getElem?_cons_zero, List.getElem?_cons_succ] at j3 j4 j5
          have hfd : ∀ W : World, (Instr.field 53 (.agg #[.int .i64 zo.lo.ty, .int .i64 zo.lo.n, .string zo.lo.s, .int .i64 zo.hi.ty, .int .i64 zo.hi.n, .string zo.hi.s]) 0).run Tryz.prog W = .ok (.agg #[.int .i64 zo.lo.ty, .int .i64 zo.lo.n, .string zo.lo.s]) W := fun _ => by kernel_rfl
          go_wp2_with fail
          clear hfd
          have J5 := Lib.hid (((J4.out.set 3 (.int .i64 zo.lo.ty)).set 4 (.int .i64 zo.lo.n)).set 5 (.string zo.lo.s))
          simp only [List.setIfInBounds_toArray, List.set_cons_succ, List.set_cons_zero] at J5
          have OW3 := Lib.hid (OW2.out.same (w' := (((Z2.setCell ⟨bj, 3, none⟩ (.int .i64 zo.lo.ty)).setCell ⟨bj, 4, none⟩ (.int .i64 zo.lo.n)).setCell ⟨bj, 5, none⟩ (.string zo.lo.s))) (fun g h1 _ => ((Below.heap_setCell _ ⟨bj, 5, none⟩ _ g (by show g ≠ bj; omega)).trans (Below.heap_setCell _ ⟨bj, 4, none⟩ _ g (by show g ≠ bj; omega))).trans (Below.heap_setCell _ ⟨bj, 3, none⟩ _ g (by show g ≠ bj; omega))))
          have Hs3 := Lib.hid (show (((Z2.setCell ⟨bj, 3, none⟩ (.int .i64 zo.lo.ty)).setCell ⟨bj, 4, none⟩ (.int .i64 zo.lo.n)).setCell ⟨bj, 5, none⟩ (.string zo.lo.s)).heap.size = Z2.heap.size by simp [World.setCell])
          generalize hZ : (((Z2.setCell ⟨bj, 3, none⟩ (.int .i64 zo.lo.ty)).setCell ⟨bj, 4, none⟩ (.int .i64 zo.lo.n)).setCell ⟨bj, 5, none⟩ (.string zo.lo.s)) = Z3 at *
          clear hZ fj q0 j3 j4 j5
          have q0 := cell_of_row Z3 _ 0 _ _ _ J5.out.q
          simp only [List.getElem?_toArray, List.getElem?_cons_zero] at q0
          go_wp2_with fail
          have hT := Lib.hid (impl_ZoneOf [b.v] (.slice E1 1 e1) Z3 OW3.out.rdV (by rw [Hs3.out]; exact S2.out))
          rw [HZ.out] at hT
          refine hT.out.mono ?_
          clear hT q0
          rintro e Z4 ⟨rfl, hz4⟩
          have J6 := Lib.hid (J5.out.up (hz4.mono J5.out.z))
          clear hz4
          have fj := fun o => frozen_of_row Z4 _ o _ _ J6.out.j
          have j0 := cell_of_row Z4 _ 0 _ _ _ J6.out.j
          have j1 := cell_of_row Z4 _ 1 _ _ _ J6.out.j
          have j2 := cell_of_row Z4 _ 2 _ _ _ J6.out.j
          have j3 := cell_of_row Z4 _ 3 _ _ _ J6.out.j
          have j4 := cell_of_row Z4 _ 4 _ _ _ J6.out.j
          have j5 := cell_of_row Z4 _ 5 _ _ _ J6.out.j
          simp only [List.getElem?_toArray, List.getElem?_cons_zero, List.getElem?_cons_succ] at j0 j1 j2 j3 j4 j5
          have p0 := cell_of_row Z4 _ 0 _ _ _ J6.out.r
          have p1 := cell_of_row Z4 _ 1 _ _ _ J6.out.r
          have p2 := cell_of_row Z4 _ 2 _ _ _ J6.out.r
          have p3 := cell_of_row Z4 _ 3 _ _ _ J6.out.r
          have p4 := cell_of_row Z4 _ 4 _ _ _ J6.out.r
          have p5 := cell_of_row Z4 _ 5 _ _ _ J6.out.r
          simp only [List.getElem?_toArray, List.getElem?_cons_zero, List.getElem?_cons_succ] at p0 p1 p2 p3 p4 p5
          have fr := fun o => frozen_of_row Z4 _ o _ _ J6.out.r
          have hfd : ∀ W : World, (Instr.field 53 (.agg #[.int .i64 zo.lo.ty, .int .i64 zo.lo.n, .string zo.lo.s, .int .i64 zo.hi.ty, .int .i64 zo.hi.n, .string zo.hi.s]) 1).run Tryz.prog W = .ok (.agg #[.int .i64 zo.hi.ty, .int .i64 zo.hi.n, .string zo.hi.s]) W := fun _ => by kernel_rfl
          go_wp2_with fail
          clear hfd
          have J7 := Lib.hid (((J6.out.set 3 (.int .i64 zo.hi.ty)).set 4 (.int .i64 zo.hi.n)).set 5 (.string zo.hi.s))
          simp only [List.setIfInBounds_toArray, List.set_cons_succ, List.set_cons_zero] at J7
          generalize hZ : (((Z4.setCell ⟨bj, 3, none⟩ (.int .i64 zo.hi.ty)).setCell ⟨bj, 4, none⟩ (.int .i64 zo.hi.n)).setCell ⟨bj, 5, none⟩ (.string zo.hi.s)) = Z5 at *
          clear hZ fj j0 j1 j2 j3 j4 j5 p0 p1 p2 p3 p4 p5 fr
          generalize hXF : ((((((Z5.setCell ⟨w.heap.size + 1 + 1 + 1, 0, none⟩ (.slice Aj nj cj)).setCell ⟨w.heap.size + 1 + 1 + 1, 1, none⟩ (.int .i64 NN)).setCell ⟨w.heap.size + 1 + 1 + 1, 2, none⟩ (.bool true)).setCell ⟨w.heap.size + 1 + 1 + 1, 3, none⟩ (.int .i64 zo.hi.ty)).setCell ⟨w.heap.size + 1 + 1 + 1, 4, none⟩ (.int .i64 zo.hi.n)).setCell ⟨w.heap.size + 1 + 1 + 1, 5, none⟩ (.string zo.hi.s)) = XF at *
          obtain ⟨H6, RF, BF⟩ := J7.out.fin hXF.symm
          clear hXF
          have r0 := cell_of_row XF _ 0 _ _ _ H6
          have r1 := cell_of_row XF _ 1 _ _ _ H6
          have r2 := cell_of_row XF _ 2 _ _ _ H6
          have r3 := cell_of_row XF _ 3 _ _ _ H6
          have r4 := cell_of_row XF _ 4 _ _ _ H6
          have r5 := cell_of_row XF _ 5 _ _ _ H6
          simp only [List.getElem?_toArray, List.getElem?_cons_zero, List.getElem?_cons_succ] at r0 r1 r2 r3 r4 r5
          refine bodyPost_ret (v := .agg #[.slice Aj nj cj, .int .i64 NN, .bool true, .int .i64 zo.hi.ty, .int .i64 zo.hi.n, .string zo.hi.s]) ?_ rfl ⟨.slice Aj nj cj, (by first | (rw [HJ.out]; done) | (rw [HJ.out]; rfl)), ?_, (hup.mono (Nat.le_refl _)).trans BF⟩
          · simp [results, Tryz.results11, go_sem, r0, r1, r2, r3, r4, r5]
          · rw [HJ.out]
            exact ⟨pj, HM.out, RF⟩
        · have HBb := Lib.hid hBb
          have HJ := Lib.hid (show joined q a b = ⟨a.rows ++ b.rows, NN, false, (zoneOf []).hi⟩ by rw [joined_5 a b KK.out, HN.out]; simp [hasVals, HA.out, HBb.out])
          clear hA hBb
          obtain ⟨zo, hzo⟩ : ∃ zo, zoneOf [] = zo := ⟨_, rfl⟩
          rw [hzo] at HJ
          have HZ := Lib.hid hzo
          clear hzo
          have a2 := cell_of_row (wc.alloc (.cells #[] 25)) _ 2 _ _ _ J1.out.a
          have a3 := cell_of_row (wc.alloc (.cells #[] 25)) _ 3 _ _ _ J1.out.a
          have a4 := cell_of_row (wc.alloc (.cells #[] 25)) _ 4 _ _ _ J1.out.a
          have a5 := cell_of_row (wc.alloc (.cells #[] 25)) _ 5 _ _ _ J1.out.a
          simp only [List.getElem?_toArray, List.getElem?_cons_zero, List.getElem?_cons_succ] at a2 a3 a4 a5
          have b2 := cell_of_row (wc.alloc (.cells #[] 25)) _ 2 _ _ _ J1.out.b
          have b3 := cell_of_row (wc.alloc (.cells #[] 25)) _ 3 _ _ _ J1.out.b
          have b4 := cell_of_row (wc.alloc (.cells #[] 25)) _ 4 _ _ _ J1.out.b
          have b5 := cell_of_row (wc.alloc (.cells #[] 25)) _ 5 _ _ _ J1.out.b
          simp only [List.getElem?_toArray, List.getElem?_cons_zero, List.getElem?_cons_succ] at b2 b3 b4 b5
          rw [HA.out] at a2
          rw [HBb.out] at b2
          have fj := fun o => frozen_of_row (wc.alloc (.cells #[] 25)) _ o _ _ J1.out.j
          have Ow : Own 25 3 (wc.alloc (.cells #[] 25)) wc.heap.size (wc.alloc (.cells #[] 25)).heap.size (.slice (some ⟨wc.heap.size, 0, none⟩) 0 0) ([] : List V).length (([] : List V).flatMap V.cells) := Own.new own0
          have OW := Lib.hid (Ow.same (w' := ((wc.alloc (.cells #[] 25)).setCell ⟨bj, 2, none⟩ (.bool false))) (fun g h1 _ => Below.heap_setCell (wc.alloc (.cells #[] 25)) ⟨bj, 2, none⟩ (.bool false) g (by show g ≠ bj; omega)))
          have y2 := cell_of_row (wc.alloc (.cells #[] 25)) _ 2 _ _ _ J1.out.j
          simp only [List.getElem?_toArray, List.getElem?_cons_zero, List.getElem?_cons_succ] at y2
          have J2 := Lib.hid (J1.out.set 2 (.bool false))
          simp only [List.setIfInBounds_toArray, List.set_cons_succ, List.set_cons_zero] at J2
          clear Ow
          go_wp2_with fail
          rw [show (wc.setCell ⟨bj, 2, none⟩ (.bool false)).alloc (.cells #[] 25) = ((wc.alloc (.cells #[] 25)).setCell ⟨bj, 2, none⟩ (.bool false)) from (World.setCell_alloc_past _ bj 2 _ hlj).symm]
          have hsz : ((wc.alloc (.cells #[] 25)).setCell ⟨bj, 2, none⟩ (.bool false)).heap.size = (wc.alloc (.cells #[] 25)).heap.size := by simp [World.setCell]
          have Hsz := Lib.hid hsz
          clear hsz
          generalize hZ1 : ((wc.alloc (.cells #[] 25)).setCell ⟨bj, 2, none⟩ (.bool false)) = Z1 at *
          clear hZ1 fj y2 a2 a3 a4 a5 b2 b3 b4 b5 own0
          have hT := Lib.hid (impl_ZoneOf [] (.slice (some ⟨wc.heap.size, 0, none⟩) 0 0) Z1 OW.out.rdV (by first | exact Nat.le_of_eq Hsz.out.symm | (rw [Hsz.out]; exact Nat.le_refl _)))
          rw [HZ.out] at hT
          refine hT.out.mono ?_
          clear hT
          rintro e Z2 ⟨rfl, hz2⟩
          have J3 := Lib.hid (J2.out.up (hz2.mono J2.out.z))
          have OW2 := Lib.hid (OW.out.below hz2 (Nat.le_of_eq Hsz.out.symm))
          have S2 := Lib.hid (Nat.le_trans (Nat.le_of_eq Hsz.out.symm) hz2.size)
          clear hz2 OW
          have fj := fun o => frozen_of_row Z2 _ o _ _ J3.out.j
          have q0 := cell_of_row Z2 _ 0 _ _ _ J3.out.q
          simp only [List.getElem?_toArray, List.getElem?_cons_zero] at q0
          have j3 := cell_of_row Z2 _ 3 _ _ _ J3.out.j
          have j4 := cell_of_row Z2 _ 4 _ _ _ J3.out.j
          have j5 := cell_of_row Z2 _ 5 _ _ _ J3.out.j
          simp only [List.getElem?_toArray, List.getElem?_cons_zero, List.getElem?_cons_succ] at j3 j4 j5
          have hfd : ∀ W : World, (Instr.field 53 (.agg #[.int .i64 zo.lo.ty, .int .i64 zo.lo.n, .string zo.lo.s, .int .i64 zo.hi.ty, .int .i64 zo.hi.n, .string zo.hi.s]) 0).run Tryz.prog W = .ok (.agg #[.int .i64 zo.lo.ty, .int .i64 zo.lo.n, .string zo.lo.s]) W := fun _ => by kernel_rfl
          go_wp2_with fail
          clear hfd
          have J4 := Lib.hid (((J3.out.set 3 (.int .i64 zo.lo.ty)).set 4 (.int .i64 zo.lo.n)).set 5 (.string zo.lo.s))
          simp only [List.setIfInBounds_toArray, List.set_cons_succ, List.set_cons_zero] at J4
          have OW3 := Lib.hid (OW2.out.same (w' := (((Z2.setCell ⟨bj, 3, none⟩ (.int .i64 zo.lo.ty)).setCell ⟨bj, 4, none⟩ (.int .i64 zo.lo.n)).setCell ⟨bj, 5, none⟩ (.string zo.lo.s))) (fun g h1 _ => ((Below.heap_setCell _ ⟨bj, 5, none⟩ _ g (by show g ≠ bj; omega)).trans (Below.heap_setCell _ ⟨bj, 4, none⟩ _ g (by show g ≠ bj; omega))).trans (Below.heap_setCell _ ⟨bj, 3, none⟩ _ g (by show g ≠ bj; omega))))
          have Hs3 := Lib.hid (show (((Z2.setCell ⟨bj, 3, none⟩ (.int .i64 zo.lo.ty)).setCell ⟨bj, 4, none⟩ (.int .i64 zo.lo.n)).setCell ⟨bj, 5, none⟩ (.string zo.lo.s)).heap.size = Z2.heap.size by simp [World.setCell])
          generalize hZ : (((Z2.setCell ⟨bj, 3, none⟩ (.int .i64 zo.lo.ty)).setCell ⟨bj, 4, none⟩ (.int .i64 zo.lo.n)).setCell ⟨bj, 5, none⟩ (.string zo.lo.s)) = Z3 at *
          clear hZ fj q0 j3 j4 j5
          have q0 := cell_of_row Z3 _ 0 _ _ _ J4.out.q
          simp only [List.getElem?_toArray, List.getElem?_cons_zero] at q0
          go_wp2_with fail
          have hT := Lib.hid (impl_ZoneOf [] (.slice (some ⟨wc.heap.size, 0, none⟩) 0 0) Z3 OW3.out.rdV (by rw [Hs3.out]; exact S2.out))
          rw [HZ.out] at hT
          refine hT.out.mono ?_
          clear hT q0
          rintro e Z4 ⟨rfl, hz4⟩
          have J5 := Lib.hid (J4.out.up (hz4.mono J4.out.z))
          clear hz4
          have fj := fun o => frozen_of_row Z4 _ o _ _ J5.out.j
          have j0 := cell_of_row Z4 _ 0 _ _ _ J5.out.j
          have j1 := cell_of_row Z4 _ 1 _ _ _ J5.out.j
          have j2 := cell_of_row Z4 _ 2 _ _ _ J5.out.j
          have j3 := cell_of_row Z4 _ 3 _ _ _ J5.out.j
          have j4 := cell_of_row Z4 _ 4 _ _ _ J5.out.j
          have j5 := cell_of_row Z4 _ 5 _ _ _ J5.out.j
          simp only [List.getElem?_toArray, List.getElem?_cons_zero, List.getElem?_cons_succ] at j0 j1 j2 j3 j4 j5
          have p0 := cell_of_row Z4 _ 0 _ _ _ J5.out.r
          have p1 := cell_of_row Z4 _ 1 _ _ _ J5.out.r
          have p2 := cell_of_row Z4 _ 2 _ _ _ J5.out.r
          have p3 := cell_of_row Z4 _ 3 _ _ _ J5.out.r
          have p4 := cell_of_row Z4 _ 4 _ _ _ J5.out.r
          have p5 := cell_of_row Z4 _ 5 _ _ _ J5.out.r
          simp only [List.getElem?_toArray, List.getElem?_cons_zero, List.getElem?_cons_succ] at p0 p1 p2 p3 p4 p5
          have fr := fun o => frozen_of_row Z4 _ o _ _ J5.out.r
          have hfd : ∀ W : World, (Instr.field 53 (.agg #[.int .i64 zo.lo.ty, .int .i64 zo.lo.n, .string zo.lo.s, .int .i64 zo.hi.ty, .int .i64 zo.hi.n, .string zo.hi.s]) 1).run Tryz.prog W = .ok (.agg #[.int .i64 zo.hi.ty, .int .i64 zo.hi.n, .string zo.hi.s]) W := fun _ => by kernel_rfl
          go_wp2_with fail
          clear hfd
          have J6 := Lib.hid (((J5.out.set 3 (.int .i64 zo.hi.ty)).set 4 (.int .i64 zo.hi.n)).set 5 (.string zo.hi.s))
          simp only [List.setIfInBounds_toArray, List.set_cons_succ, List.set_cons_zero] at J6
          generalize hZ : (((Z4.setCell ⟨bj, 3, none⟩ (.int .i64 zo.hi.ty)).setCell ⟨bj, 4, none⟩ (.int .i64 zo.hi.n)).setCell ⟨bj, 5, none⟩ (.string zo.hi.s)) = Z5 at *
          clear hZ fj j0 j1 j2 j3 j4 j5 p0 p1 p2 p3 p4 p5 fr
          generalize hXF : ((((((Z5.setCell ⟨w.heap.size + 1 + 1 + 1, 0, none⟩ (.slice Aj nj cj)).setCell ⟨w.heap.size + 1 + 1 + 1, 1, none⟩ (.int .i64 NN)).setCell ⟨w.heap.size + 1 + 1 + 1, 2, none⟩ (.bool false)).setCell ⟨w.heap.size + 1 + 1 + 1, 3, none⟩ (.int .i64 zo.hi.ty)).setCell ⟨w.heap.size + 1 + 1 + 1, 4, none⟩ (.int .i64 zo.hi.n)).setCell ⟨w.heap.size + 1 + 1 + 1, 5, none⟩ (.string zo.hi.s)) = XF at *
          obtain ⟨H6, RF, BF⟩ := J6.out.fin hXF.symm
          clear hXF
          have r0 := cell_of_row XF _ 0 _ _ _ H6
          have r1 := cell_of_row XF _ 1 _ _ _ H6
          have r2 := cell_of_row XF _ 2 _ _ _ H6
          have r3 := cell_of_row XF _ 3 _ _ _ H6
          have r4 := cell_of_row XF _ 4 _ _ _ H6
          have r5 := cell_of_row XF _ 5 _ _ _ H6
          simp only [List.getElem?_toArray, List.getElem?_cons_zero, List.getElem?_cons_succ] at r0 r1 r2 r3 r4 r5
          refine bodyPost_ret (v := .agg #[.slice Aj nj cj, .int .i64 NN, .bool false, .int .i64 zo.hi.ty, .int .i64 zo.hi.n, .string zo.hi.s]) ?_ rfl ⟨.slice Aj nj cj, (by first | (rw [HJ.out]; done) | (rw [HJ.out]; rfl)), ?_, (hup.mono (Nat.le_refl _)).trans BF⟩
          · simp [results, Tryz.results11, go_sem, r0, r1, r2, r3, r4, r5]
          · rw [HJ.out]
            exact ⟨pj, HM.out, RF⟩

end Go.Proofs.YtidmlfjolhnnfaaGreatDoor
