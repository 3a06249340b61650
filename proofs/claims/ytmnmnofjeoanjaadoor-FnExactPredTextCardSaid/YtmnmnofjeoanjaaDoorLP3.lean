/- The laws' helpers for predicates: equality of one with itself: contracts. -/
import Derived.Test.YtmnmnofjeoanjaaDoorMemP
import Derived.Test.YtmnmnofjeoanjaaDoorXL
import Derived.Test.YtmnmnofjeoanjaaDoorXA
namespace Go.Proofs.YtmnmnofjeoanjaaDoor
open Go.Sort Go.ChangeShapes Go.WideShapes Go.ChangeAt Go.RowKit Go.Lb

def EqC (l : List P) : Prop := ∀ (x y : Value) (w : World) (l1 h1 l2 h2 : Nat), RdP w l1 h1 x l → h1 ≤ w.heap.size → RdP w l2 h2 y l → h2 ≤ w.heap.size →
  Calls Tryd.prog 51 #[x, y] w fun e w' => e = .returned (.bool true) ∧ Below w.heap.size w w'
set_option maxRecDepth 20000 in
set_option maxHeartbeats 2000000 in
theorem eqPred_of (p : P) (h : EqC p.l) (sv sv' : Value) (w : World) {l1 h1 l2 h2 : Nat} (hx : RdP w l1 h1 sv p.l) (hh1 : h1 ≤ w.heap.size) (hy : RdP w l2 h2 sv' p.l) (hh2 : h2 ≤ w.heap.size) :
    Calls Tryd.prog 13 #[.agg #[.int .i64 p.kind, .int .i64 p.col, .int .i64 p.op, .int .i64 p.v.ty, .int .i64 p.v.n, .string p.v.s, sv], .agg #[.int .i64 p.kind, .int .i64 p.col, .int .i64 p.op, .int .i64 p.v.ty, .int .i64 p.v.n, .string p.v.s, sv']] w fun e w' => e = .returned (.bool true) ∧ Below w.heap.size w w' := by
  have hC := Lib.hid (fun (W : World) (hb : Below w.heap.size w W) => h sv sv' W l1 h1 l2 h2 (hx.below hb hh1) (Nat.le_trans hh1 hb.size) (hy.below hb hh2) (Nat.le_trans hh2 hb.size))
  have hd : eqd p.v p.v = true := eqd_self _
  clear hx hy h
  go_enter Tryd.func13, Tryd.ntmps13
  go_wp2_with fail
  refine (eqVal_c p.v p.v _).mono ?_
  rintro e w1 ⟨rfl, hb1⟩
  rw [hd]
  have hc := (bcell hb1).1
  have hz := hb1.size
  simp only [World.size_alloc] at hz
  have z0 : w.heap.size < w1.heap.size := by omega
  have z1 : w.heap.size + 1 < w1.heap.size := by omega
  have Hb1 := Lib.hid (below_a2 hb1)
  clear hb1
  go_wp2_with fail
  refine (hC.out _ Hb1.out).mono ?_
  rintro e w2 ⟨rfl, hb2⟩
  have hb3 := Hb1.out.trans (hb2.mono Hb1.out.size)
  clear hc
  go_wp2_with fail
  go_ret
  exact ⟨rfl, hb3⟩
set_option maxRecDepth 20000 in
set_option maxHeartbeats 2000000 in
theorem eqPredS_n : ∀ (N : Nat) (l : List P), SizeOf.sizeOf l < N → EqC l
  | 0, _, h => absurd h (Nat.not_lt_zero _)
  | N + 1, l, hN => by
    have IH := Lib.hid (eqPredS_n N)
    intro x y w l1 h1 l2 h2 hx hh1 hy hh2
    obtain ⟨A, c, rfl, hl, hl2⟩ := hx.form
    obtain ⟨A', c', rfl, hl', hl2'⟩ := hy.form
    have hlb : ((l.length : Int) != (l.length : Int)) = false := by simp
    go_enter Tryd.func51, Tryd.ntmps51
    go_wp2_with fail
    go_loopw [5] (fun i wr => ∃ (k : Nat), i = .int .i64 k ∧ k ≤ l.length ∧ Below w.heap.size w wr) (fun i _ => l.length - (intOf i).toNat)
    case atStart => exact ⟨0, by simp, by omega, Below.refl _ _⟩
    case round =>
      obtain ⟨k, rfl, hk, hb⟩ := hrel
      by_cases hkl : k < l.length
      · obtain ⟨b, off, u, sv, rfl, -, hbl, huk, hat, hr⟩ := (hx.below hb hh1).at hkl
        obtain ⟨b', off', u', sv', rfl, -, hbl', huk', hat', hr'⟩ := (hy.below hb hh2).at hkl
        obtain rfl : u = u' := by rw [huk] at huk'; injection huk'
        obtain ⟨e0, e1, e2, e3, e4, e5, e6⟩ := hat
        obtain ⟨f0, f1, f2, f3, f4, f5, f6⟩ := hat'
        have hlt := Nat.lt_trans u.l_lt (P.mem_lt (mem_of_get huk))
        have hbs := hb.size
        have hC := Lib.hid (fun W (h : Below wr.heap.size wr W) => eqPred_of u (IH.out u.l (by omega)) sv sv' W (hr.below h (by omega)) (Nat.le_trans (by omega) h.size) (hr'.below h (by omega)) (Nat.le_trans (by omega) h.size))
        clear huk huk' hr hr'
        go_wp2_with fail
        have q_0 := cell_regrown (w := wr) e0
        have q_1 := cell_regrown (w := wr) e1
        have q_2 := cell_regrown (w := wr) e2
        have q_3 := cell_regrown (w := wr) e3
        have q_4 := cell_regrown (w := wr) e4
        have q_5 := cell_regrown (w := wr) e5
        have q_6 := cell_regrown (w := wr) e6
        have q_7 := cell_regrown (w := wr) f0
        have q_8 := cell_regrown (w := wr) f1
        have q_9 := cell_regrown (w := wr) f2
        have q_10 := cell_regrown (w := wr) f3
        have q_11 := cell_regrown (w := wr) f4
        have q_12 := cell_regrown (w := wr) f5
        have q_13 := cell_regrown (w := wr) f6
        refine wp_region_quiet_below (by kernel_rfl) (by kernel_rfl) ?_
        repeat (go_big_quiet_step (first | (go_at_call 13; exact Calls.regrown_of (hC.out _ (below_regrown _ _ _)))))
        refine wpQuiet_nil ?_
        intro wq hw'
        obtain ⟨⟨dq, osq⟩, hw''⟩ := hw'
        have hbq := below_regrown wr dq osq
        rw [← hw''] at hbq
        clear hw''
        clear q_0 q_1 q_2 q_3 q_4 q_5 q_6 q_7 q_8 q_9 q_10 q_11 q_12 q_13
        go_wp2_with fail
        go_roundw
        case rel => exact ⟨k + 1, by go_num, by omega, hb.trans (hbq.mono hb.size)⟩
        case measure => simp [intOf]; omega
      · go_wp2_with fail
        go_ret
        exact ⟨rfl, hb⟩
theorem eqPred_c (p : P) (sv : Value) (q : P) (sv' : Value) (w : World) {l1 h1 l2 h2 : Nat} (hx : RdP w l1 h1 sv p.l) (hh1 : h1 ≤ w.heap.size) (hy : RdP w l2 h2 sv' q.l) (hh2 : h2 ≤ w.heap.size) (hpq : p = q := by rfl) :
    Calls Tryd.prog 13 #[.agg #[.int .i64 p.kind, .int .i64 p.col, .int .i64 p.op, .int .i64 p.v.ty, .int .i64 p.v.n, .string p.v.s, sv], .agg #[.int .i64 q.kind, .int .i64 q.col, .int .i64 q.op, .int .i64 q.v.ty, .int .i64 q.v.n, .string q.v.s, sv']] w fun e w' => e = .returned (.bool true) ∧ Below w.heap.size w w' := by
  subst hpq
  exact eqPred_of p (eqPredS_n _ p.l (Nat.lt_succ_self _)) sv sv' w hx hh1 hy hh2
end Go.Proofs.YtmnmnofjeoanjaaDoor
