/- The laws' helpers for queries: contracts. -/
import Derived.Test.YtmnmnofjeoanjaaDoorLP1
import Derived.Test.YtmnmnofjeoanjaaDoorLP2
import Derived.Test.YtmnmnofjeoanjaaDoorLP3
import Derived.Test.YtmnmnofjeoanjaaDoorLI2
namespace Go.Proofs.YtmnmnofjeoanjaaDoor
open Go.Sort Go.ChangeShapes Go.WideShapes Go.ChangeAt Go.RowKit Go.Lb

set_option maxRecDepth 20000 in
set_option maxHeartbeats 1000000 in
theorem szQuery_c (q : Q) (sv ov : Value) (left : Int) (w : World) {lo hi l1 h1 : Nat} (hx : RdP w lo hi sv q.p.l) (hhi : hi ≤ w.heap.size) (hy : RdI w l1 h1 ov q.out) (hh1 : h1 ≤ w.heap.size) (hs : POk q.p) (h0 : 0 ≤ left) (hle : left ≤ 1048576) :
    Calls Tryd.prog 14 #[.agg #[.int .i64 q.kind, .int .i64 q.p.kind, .int .i64 q.p.col, .int .i64 q.p.op, .int .i64 q.p.v.ty, .int .i64 q.p.v.n, .string q.p.v.s, sv, .int .i64 q.col, ov], .int .i64 left] w fun e w' => ∃ m : Int, e = .returned (.int .i64 m) ∧ m ≤ 1048576 ∧ (0 ≤ m → (q.p.l.length ≤ 1048576 ∧ cntP q.p.l ≤ 1048576) ∧ q.out.length ≤ 1048576) ∧ Below w.heap.size w w' := by
  obtain ⟨A, c, rfl, hl, hl2⟩ := hy.form
  have up := up_a1 w (.cells #[.int .i64 q.kind, .int .i64 q.p.kind, .int .i64 q.p.col, .int .i64 q.p.op, .int .i64 q.p.v.ty, .int .i64 q.p.v.n, .string q.p.v.s, sv, .int .i64 q.col, .slice A q.out.length c] 40)
  have hc := Lib.hid (szPred_c q.p sv left _ (hx.below up hhi) (by simp only [World.size_alloc]; omega) hs h0 hle)
  have Hy := Lib.hid (hy.below up hh1)
  have Hs := Lib.hid hs
  clear hx hy up hs
  go_enter Tryd.func14, Tryd.ntmps14
  go_wp2_with fail
  refine hc.out.mono ?_
  rintro e w1 ⟨m, rfl, hm1, hm2, hb1⟩
  have hcl := (bcell hb1).1
  have hz := hb1.size
  have hy2 := Hy.out.below hb1 (by simp only [World.size_alloc]; omega)
  simp only [World.size_alloc] at hz
  have z0 : w.heap.size < w1.heap.size := by omega
  have hb2 := below_a1 hb1
  clear hc hb1
  by_cases hm : m < 0
  · go_wp2_with fail
    go_ret
    exact ⟨-1, rfl, by omega, fun h => by omega, hb2⟩
  · have hm2 := hm2 (by omega)
    go_wp2_with fail
    refine (szIntS_c q.out _ m w1 hy2 (by omega) (by omega) hm1).mono ?_
    rintro e w2 ⟨rfl, hb3⟩
    have hb4 := hb2.trans (hb3.mono hb2.size)
    have h1 := szIntS_le q.out m (by omega) hm1
    have h2 := szIntS_bd q.out m (by omega) hm1
    generalize szIntS q.out m = r at *
    by_cases hr : r < 0
    · go_wp2_with fail
      go_ret
      exact ⟨-1, rfl, by omega, fun h => by omega, hb4⟩
    · go_wp2_with fail
      go_ret
      exact ⟨r, rfl, by omega, fun h => ⟨hm2, h2 h⟩, hb4⟩
set_option maxRecDepth 20000 in
set_option maxHeartbeats 2000000 in
theorem toQuery_c (q : Q) (sv ov : Value) (w : World) {lo hi l1 h1 : Nat} (hx : RdP w lo hi sv q.p.l) (hhi : hi ≤ w.heap.size) (hy : RdI w l1 h1 ov q.out) (hh1 : h1 ≤ w.heap.size) (hn : (q.p.l.length ≤ 1048576 ∧ cntP q.p.l ≤ 1048576) ∧ q.out.length ≤ 1048576) :
    Calls Tryd.prog 17 #[.agg #[.int .i64 q.kind, .int .i64 q.p.kind, .int .i64 q.p.col, .int .i64 q.p.op, .int .i64 q.p.v.ty, .int .i64 q.p.v.n, .string q.p.v.s, sv, .int .i64 q.col, ov]] w fun e w' => ∃ m v u, e = .returned (.agg #[.int .i64 q.kind, .int .i64 q.p.kind, .int .i64 q.p.col, .int .i64 q.p.op, .int .i64 q.p.v.ty, .int .i64 q.p.v.n, .string q.p.v.s, v, .int .i64 q.col, u]) ∧ OwnP 34 w' w.heap.size m v q.p.l ∧ Own 3 1 w' m w'.heap.size u q.out.length (q.out.map (Value.int .i64)) ∧ w.heap.size ≤ m ∧ m ≤ w'.heap.size ∧ Below w.heap.size w w' := by
  have HC := Lib.hid (fun (W : World) (hb : Below w.heap.size w W) => toPred_c q.p sv W (hx.below hb hhi) (Nat.le_trans hhi hb.size) hn.1)
  have HI := Lib.hid (fun (W : World) (hb : Below w.heap.size w W) => toIntS_c q.out ov W (hy.below hb hh1) (Nat.le_trans hh1 hb.size) hn.2)
  clear hx hy
  go_enter Tryd.func17, Tryd.ntmps17
  go_wp2_with fail
  refine (HC.out _ ?_).mono ?_
  · repeat (first | exact up_a3 _ _ _ _ | refine Below.setCell ?_ (by simp <;> omega) _)
  rintro e w1 ⟨v, rfl, hown, hb1⟩
  have hc := (bcell hb1).1
  have hf := (bcell hb1).2
  have hz := hb1.size
  simp at hz
  have z0 : w.heap.size < w1.heap.size := by omega
  have z1 : w.heap.size + 1 < w1.heap.size := by omega
  have z2 : w.heap.size + 1 + 1 < w1.heap.size := by omega
  have hB : Below w.heap.size w w1 := by
    refine Below.trans ?_ (hb1.mono (by simp; omega))
    repeat (first | exact up_a3 _ _ _ _ | refine Below.setCell ?_ (by simp <;> omega) _)
  have HB := Lib.hid hB
  have Hown := Lib.hid (hown.more (lo' := w.heap.size + 1 + 1 + 1) (by simp) (Nat.le_refl _))
  obtain ⟨A, c, rfl, -, -⟩ := hown.rdP.form
  clear hb1 hB hown HC
  go_wp2_with fail
  refine (HI.out _ ?_).mono ?_
  · iterate 8 refine Below.setCell ?_ (by simp <;> omega) _
    exact HB.out
  rintro e w2 ⟨u, rfl, hown2, hb2⟩
  have hc2 := (bcell hb2).1
  have hf2 := (bcell hb2).2
  have hz2 := hb2.size
  simp [World.setCell] at hz2
  have y0 : w.heap.size < w2.heap.size := by omega
  have y1 : w.heap.size + 1 < w2.heap.size := by omega
  have y2 : w.heap.size + 1 + 1 < w2.heap.size := by omega
  have Hb2 : Below w.heap.size w w2 := by
    refine Below.trans ?_ (hb2.mono (by simp [World.setCell]; omega))
    iterate 8 refine Below.setCell ?_ (by simp <;> omega) _
    exact HB.out
  have Hb2 := Lib.hid Hb2
  have Hown2 := Lib.hid (hown2.more (lo' := w1.heap.size) (by simp [World.setCell]) (Nat.le_refl _))
  have Hown1 : OwnP 34 w2 (w.heap.size + 1 + 1 + 1) w1.heap.size (.slice A q.p.l.length c) q.p.l := by
    refine OwnP.below ?_ hb2 (by simp [World.setCell])
    iterate 8 refine OwnP.set ?_ (by omega) _
    exact Hown.out
  have Hown1 := Lib.hid Hown1
  obtain ⟨A2, c2, rfl, -, -⟩ := hown2.rdI.form
  clear hb2 hown2 HI
  go_wp2_with fail
  refine bodyPost_ret (v := .agg #[.int .i64 q.kind, .int .i64 q.p.kind, .int .i64 q.p.col, .int .i64 q.p.op, .int .i64 q.p.v.ty, .int .i64 q.p.v.n, .string q.p.v.s, .slice A q.p.l.length c, .int .i64 q.col, .slice A2 q.out.length c2]) ?_ rfl ⟨w1.heap.size, _, _, rfl, ?_, ?_, by omega, by simp [World.setCell]; omega, ?_⟩
  · simp [results, Tryd.results17, go_sem, hc2, hc, z1]
  · refine OwnP.more (lo := w.heap.size + 1 + 1 + 1) (hi := w1.heap.size) ?_ (by omega) (Nat.le_refl _)
    iterate 11 refine OwnP.set ?_ (by omega) _
    exact Hown1.out
  · refine Own.more (lo := w1.heap.size) (hi := w2.heap.size) ?_ (Nat.le_refl _) (Nat.le_of_eq (by simp [World.setCell]))
    iterate 11 refine Own.set ?_ (by omega) _
    exact Hown2.out
  · iterate 11 refine Below.setCell ?_ (by simp <;> omega) _
    exact Hb2.out
set_option maxRecDepth 20000 in
set_option maxHeartbeats 2000000 in
theorem eqQuery_c (q : Q) (sv ov : Value) (r : Q) (sv' ov' : Value) (w : World) {l1 h1 l2 h2 l3 h3 l4 h4 : Nat} (hx : RdP w l1 h1 sv q.p.l) (hh1 : h1 ≤ w.heap.size) (hxi : RdI w l2 h2 ov q.out) (hh2 : h2 ≤ w.heap.size) (hy : RdP w l3 h3 sv' r.p.l) (hh3 : h3 ≤ w.heap.size) (hyi : RdI w l4 h4 ov' r.out) (hh4 : h4 ≤ w.heap.size) (hqr : q = r := by rfl) :
    Calls Tryd.prog 20 #[.agg #[.int .i64 q.kind, .int .i64 q.p.kind, .int .i64 q.p.col, .int .i64 q.p.op, .int .i64 q.p.v.ty, .int .i64 q.p.v.n, .string q.p.v.s, sv, .int .i64 q.col, ov], .agg #[.int .i64 r.kind, .int .i64 r.p.kind, .int .i64 r.p.col, .int .i64 r.p.op, .int .i64 r.p.v.ty, .int .i64 r.p.v.n, .string r.p.v.s, sv', .int .i64 r.col, ov']] w fun e w' => e = .returned (.bool true) ∧ Below w.heap.size w w' := by
  subst hqr
  have HP := Lib.hid (fun (W : World) (hb : Below w.heap.size w W) => eqPred_c q.p sv q.p sv' W (hx.below hb hh1) (Nat.le_trans hh1 hb.size) (hy.below hb hh3) (Nat.le_trans hh3 hb.size))
  have HI := Lib.hid (fun (W : World) (hb : Below w.heap.size w W) => eqIntS_c q.out ov q.out ov' W (hxi.below hb hh2) (Nat.le_trans hh2 hb.size) (hyi.below hb hh4) (Nat.le_trans hh4 hb.size))
  have hd : eqd q.out q.out = true := eqd_self _
  rw [hd] at HI
  clear hx hy hxi hyi hd
  go_enter Tryd.func20, Tryd.ntmps20
  go_wp2_with fail
  refine (HP.out _ (up_a2 _ _ _)).mono ?_
  rintro e w1 ⟨rfl, hb1⟩
  have hc := (bcell hb1).1
  have hz := hb1.size
  simp only [World.size_alloc] at hz
  have z0 : w.heap.size < w1.heap.size := by omega
  have z1 : w.heap.size + 1 < w1.heap.size := by omega
  have Hb1 := Lib.hid (below_a2 hb1)
  clear hb1
  go_wp2_with fail
  refine (HI.out _ Hb1.out).mono ?_
  rintro e w2 ⟨rfl, hb2⟩
  have hb3 := Hb1.out.trans (hb2.mono Hb1.out.size)
  clear hc
  go_wp2_with fail
  go_ret
  exact ⟨rfl, hb3⟩
end Go.Proofs.YtmnmnofjeoanjaaDoor
