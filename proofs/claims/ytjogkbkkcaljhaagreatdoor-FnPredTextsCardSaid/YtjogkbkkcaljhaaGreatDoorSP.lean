/- The laws' own helper: equal predicates are the same. -/
import Derived.Test.YtjogkbkkcaljhaaGreatDoorYA
import Derived.Test.YtjogkbkkcaljhaaGreatDoorXL
namespace Go.Proofs.YtjogkbkkcaljhaaGreatDoor
open Go.Sort Go.ChangeShapes Go.WideShapes Go.ChangeAt Go.RowKit Go.Lb
theorem alloc_oldS {w : World} {o x : Obj} {k : Nat} (h : w.heap[k]? = some x) : (w.alloc o).heap[k]? = some x := ((up_a1 w o).block k (Array.getElem?_eq_some_iff.1 h).1).trans h
set_option maxHeartbeats 8000000 in
set_option maxRecDepth 20000 in
theorem law_samePred_n : ∀ (N : Nat) (p : P), SizeOf.sizeOf p < N → ∀ (s1 s2 : Value) (w : World) (l1 h1 l2 h2 : Nat), RdP w l1 h1 s1 p.l → h1 ≤ w.heap.size → RdP w l2 h2 s2 p.l → h2 ≤ w.heap.size →
    Calls Tryz.prog 19 #[.agg #[.int .i64 p.kind, .int .i64 p.col, .int .i64 p.op, .int .i64 p.v.ty, .int .i64 p.v.n, .string p.v.s, s1], .agg #[.int .i64 p.kind, .int .i64 p.col, .int .i64 p.op, .int .i64 p.v.ty, .int .i64 p.v.n, .string p.v.s, s2]] w fun e w' => e = .returned (.bool true) ∧ Below w.heap.size w w'
  | 0, _, h => absurd h (Nat.not_lt_zero _)
  | N + 1, p, hN => by
    have IH := Lib.hid (law_samePred_n N)
    intro s1 s2 w l1 h1 l2 h2 hx hh1 hy hh2
    obtain ⟨A, c, rfl, hl, hl2⟩ := hx.form
    obtain ⟨A', c', rfl, hl', hl2'⟩ := hy.form
    have hgd := guard_V
    have hne := neq_V p.v p.v
    rw [eqd_self] at hne
    have b1 := up_a1 w (.cells #[.int .i64 p.kind, .int .i64 p.col, .int .i64 p.op, .int .i64 p.v.ty, .int .i64 p.v.n, .string p.v.s, .slice A p.l.length c] 27)
    have g1 := heap_alloc_new w (.cells #[.int .i64 p.kind, .int .i64 p.col, .int .i64 p.op, .int .i64 p.v.ty, .int .i64 p.v.n, .string p.v.s, .slice A p.l.length c] 27)
    have hs1 : (w.alloc (.cells #[.int .i64 p.kind, .int .i64 p.col, .int .i64 p.op, .int .i64 p.v.ty, .int .i64 p.v.n, .string p.v.s, .slice A p.l.length c] 27)).heap.size = w.heap.size + 1 := by simp
    have b2 := up_a1 (w.alloc (.cells #[.int .i64 p.kind, .int .i64 p.col, .int .i64 p.op, .int .i64 p.v.ty, .int .i64 p.v.n, .string p.v.s, .slice A p.l.length c] 27)) (.cells #[.int .i64 p.kind, .int .i64 p.col, .int .i64 p.op, .int .i64 p.v.ty, .int .i64 p.v.n, .string p.v.s, .slice A' p.l.length c'] 27)
    have g2 := heap_alloc_new (w.alloc (.cells #[.int .i64 p.kind, .int .i64 p.col, .int .i64 p.op, .int .i64 p.v.ty, .int .i64 p.v.n, .string p.v.s, .slice A p.l.length c] 27)) (.cells #[.int .i64 p.kind, .int .i64 p.col, .int .i64 p.op, .int .i64 p.v.ty, .int .i64 p.v.n, .string p.v.s, .slice A' p.l.length c'] 27)
    have g1 := alloc_oldS (o := (.cells #[.int .i64 p.kind, .int .i64 p.col, .int .i64 p.op, .int .i64 p.v.ty, .int .i64 p.v.n, .string p.v.s, .slice A' p.l.length c'] 27)) g1
    have hs2 : ((w.alloc (.cells #[.int .i64 p.kind, .int .i64 p.col, .int .i64 p.op, .int .i64 p.v.ty, .int .i64 p.v.n, .string p.v.s, .slice A p.l.length c] 27)).alloc (.cells #[.int .i64 p.kind, .int .i64 p.col, .int .i64 p.op, .int .i64 p.v.ty, .int .i64 p.v.n, .string p.v.s, .slice A' p.l.length c'] 27)).heap.size = w.heap.size + 2 := by simp
    rw [hs1] at g2 b2
    have hB := b1.trans (b2.mono (Nat.le_succ _))
    obtain ⟨X, hX⟩ : ∃ X, (w.alloc (.cells #[.int .i64 p.kind, .int .i64 p.col, .int .i64 p.op, .int .i64 p.v.ty, .int .i64 p.v.n, .string p.v.s, .slice A p.l.length c] 27)).alloc (.cells #[.int .i64 p.kind, .int .i64 p.col, .int .i64 p.op, .int .i64 p.v.ty, .int .i64 p.v.n, .string p.v.s, .slice A' p.l.length c'] 27) = X := ⟨_, rfl⟩
    rw [hX] at g1 g2 hs2 hB
    have HX := Lib.hid hX
    have HB := Lib.hid hB
    have hz : w.heap.size + 2 ≤ X.heap.size := by omega
    have G1 := Lib.hid g1
    have G2 := Lib.hid g2
    clear b1 b2 hs1 hs2 hX hB g1 g2
    have hx := hx.below HB.out hh1
    have hy := hy.below HB.out hh2
    go_enter Tryz.func19, Tryz.ntmps19
    go_upto_region 1 with fail
    rw [HX.out]
    clear HX
    have a0 := cell_of_row X (w.heap.size) 0 _ _ _ G1.out
    have a1 := cell_of_row X (w.heap.size) 1 _ _ _ G1.out
    have a2 := cell_of_row X (w.heap.size) 2 _ _ _ G1.out
    have a3 := cell_of_row X (w.heap.size) 3 _ _ _ G1.out
    have a4 := cell_of_row X (w.heap.size) 4 _ _ _ G1.out
    have a5 := cell_of_row X (w.heap.size) 5 _ _ _ G1.out
    have a6 := cell_of_row X (w.heap.size) 6 _ _ _ G1.out
    simp only [List.getElem?_toArray, List.getElem?_cons_zero, List.getElem?_cons_succ] at a0 a1 a2 a3 a4 a5 a6
    have c0 := cell_of_row X (w.heap.size + 1) 0 _ _ _ G2.out
    have c1 := cell_of_row X (w.heap.size + 1) 1 _ _ _ G2.out
    have c2 := cell_of_row X (w.heap.size + 1) 2 _ _ _ G2.out
    have c3 := cell_of_row X (w.heap.size + 1) 3 _ _ _ G2.out
    have c4 := cell_of_row X (w.heap.size + 1) 4 _ _ _ G2.out
    have c5 := cell_of_row X (w.heap.size + 1) 5 _ _ _ G2.out
    have c6 := cell_of_row X (w.heap.size + 1) 6 _ _ _ G2.out
    simp only [List.getElem?_toArray, List.getElem?_cons_zero, List.getElem?_cons_succ] at c0 c1 c2 c3 c4 c5 c6
    go_wp2_with fail
    go_loopw [5] (fun i wr => ∃ (k : Nat), i = .int .i64 k ∧ k ≤ p.l.length ∧ Below X.heap.size X wr) (fun i _ => p.l.length - (intOf i).toNat)
    case atStart => exact ⟨0, by simp, by omega, Below.refl _ _⟩
    case round =>
      obtain ⟨k, rfl, hk, hb⟩ := hrel
      have hbs := hb.size
      have x6 := cell_keep a6 hb
      have y6 := cell_keep c6 hb
      clear a0 a1 a2 a3 a4 a5 a6 c0 c1 c2 c3 c4 c5 c6
      by_cases hkl : k < p.l.length
      · obtain ⟨b, off, u, sv, rfl, -, hbl, huk, hat, hr⟩ := (hx.below hb (by omega)).at hkl
        obtain ⟨b', off', u', sv', rfl, -, hbl', huk', hat', hr'⟩ := (hy.below hb (by omega)).at hkl
        obtain rfl : u = u' := Option.some.inj (huk.symm.trans huk')
        obtain ⟨e0, e1, e2, e3, e4, e5, e6⟩ := hat
        obtain ⟨i0, i1, i2, i3, i4, i5, i6⟩ := hat'
        have hlx := P.get_lt huk
        have hC := Lib.hid (fun W (h : Below wr.heap.size wr W) => IH.out u (by omega) sv sv' W l1 h1 l2 h2 (hr.below h (by omega)) (Nat.le_trans (by omega) h.size) (hr'.below h (by omega)) (Nat.le_trans (by omega) h.size))
        clear hr hr' huk huk' hlx
        go_wp2_with fail
        have q_0 := cell_regrown (w := wr) x6
        have q_1 := cell_regrown (w := wr) y6
        have q_2 := cell_regrown (w := wr) e0
        have q_3 := cell_regrown (w := wr) e1
        have q_4 := cell_regrown (w := wr) e2
        have q_5 := cell_regrown (w := wr) e3
        have q_6 := cell_regrown (w := wr) e4
        have q_7 := cell_regrown (w := wr) e5
        have q_8 := cell_regrown (w := wr) e6
        have q_9 := cell_regrown (w := wr) i0
        have q_10 := cell_regrown (w := wr) i1
        have q_11 := cell_regrown (w := wr) i2
        have q_12 := cell_regrown (w := wr) i3
        have q_13 := cell_regrown (w := wr) i4
        have q_14 := cell_regrown (w := wr) i5
        have q_15 := cell_regrown (w := wr) i6
        refine wp_region_quiet_below (by kernel_rfl) (by kernel_rfl) ?_
        repeat (go_big_quiet_step (first | (go_at_call 19; exact Calls.regrown_of (hC.out _ (below_regrown _ _ _)))))
        refine wpQuiet_nil ?_
        intro wq hw'
        obtain ⟨⟨dq, osq⟩, hw''⟩ := hw'
        have hbq := below_regrown wr dq osq
        rw [← hw''] at hbq
        clear hw''
        clear q_0 q_1 q_2 q_3 q_4 q_5 q_6 q_7 q_8 q_9 q_10 q_11 q_12 q_13 q_14 q_15
        go_wp2_with fail
        go_roundw
        case rel => exact ⟨k + 1, by go_num, by omega, hb.trans (hbq.mono hb.size)⟩
        case measure => simp [intOf]; omega
      · go_wp2_with fail
        go_ret
        exact ⟨rfl, HB.out.trans (hb.mono HB.out.size)⟩
theorem law_samePred (p : P) (s1 s2 : Value) (w : World) {l1 h1 l2 h2 : Nat} (hx : RdP w l1 h1 s1 p.l) (hh1 : h1 ≤ w.heap.size) (hy : RdP w l2 h2 s2 p.l) (hh2 : h2 ≤ w.heap.size) :
    Calls Tryz.prog 19 #[.agg #[.int .i64 p.kind, .int .i64 p.col, .int .i64 p.op, .int .i64 p.v.ty, .int .i64 p.v.n, .string p.v.s, s1], .agg #[.int .i64 p.kind, .int .i64 p.col, .int .i64 p.op, .int .i64 p.v.ty, .int .i64 p.v.n, .string p.v.s, s2]] w fun e w' => e = .returned (.bool true) ∧ Below w.heap.size w w' :=
  law_samePred_n _ p (Nat.lt_succ_self _) s1 s2 w l1 h1 l2 h2 hx hh1 hy hh2
end Go.Proofs.YtjogkbkkcaljhaaGreatDoor
