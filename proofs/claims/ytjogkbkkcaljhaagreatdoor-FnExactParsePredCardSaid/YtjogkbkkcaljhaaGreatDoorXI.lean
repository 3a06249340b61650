/- The laws' helpers for predicates: equality of one with itself: contracts. -/
import Derived.Test.YtjogkbkkcaljhaaGreatDoorMemP
import Derived.Test.YtjogkbkkcaljhaaGreatDoorXL
import Derived.Test.YtjogkbkkcaljhaaGreatDoorXA
import Derived.Test.YtjogkbkkcaljhaaGreatDoorYA
import Derived.Test.YtjogkbkkcaljhaaGreatDoorXG
namespace Go.Proofs.YtjogkbkkcaljhaaGreatDoor
open Go.Sort Go.ChangeShapes Go.WideShapes Go.ChangeAt Go.RowKit Go.Lb

def EqC (l : List P) : Prop := ∀ (x y : Value) (w : World) (l1 h1 l2 h2 : Nat), RdP w l1 h1 x l → h1 ≤ w.heap.size → RdP w l2 h2 y l → h2 ≤ w.heap.size →
  Calls Tryz.prog 25 #[x, y] w fun e w' => e = .returned (.bool true) ∧ Below w.heap.size w w'
set_option maxRecDepth 20000 in
set_option maxHeartbeats 2000000 in
theorem eqPred_of (p : P) (h : EqC p.l) (sv sv' : Value) (w : World) {l1 h1 l2 h2 : Nat} (hx : RdP w l1 h1 sv p.l) (hh1 : h1 ≤ w.heap.size) (hy : RdP w l2 h2 sv' p.l) (hh2 : h2 ≤ w.heap.size) :
    Calls Tryz.prog 8 #[.agg #[.int .i64 p.kind, .int .i64 p.col, .int .i64 p.op, .int .i64 p.v.ty, .int .i64 p.v.n, .string p.v.s, sv], .agg #[.int .i64 p.kind, .int .i64 p.col, .int .i64 p.op, .int .i64 p.v.ty, .int .i64 p.v.n, .string p.v.s, sv']] w fun e w' => e = .returned (.bool true) ∧ Below w.heap.size w w' := by
  have hC := Lib.hid (fun (W : World) (hb : Below w.heap.size w W) => h sv sv' W l1 h1 l2 h2 (hx.below hb hh1) (Nat.le_trans hh1 hb.size) (hy.below hb hh2) (Nat.le_trans hh2 hb.size))
  have hd : eqd p.v p.v = true := eqd_self _
  clear hx hy h
  go_enter Tryz.func8, Tryz.ntmps8
  go_wp2_with fail
  refine (eqVal_c p.v p.v _).mono ?_
  rintro e w1 ⟨rfl, hb1⟩
  rw [hd]
  have hc := (bcell hb1).1
  have hz := hb1.size
  simp only [World.size_alloc] at hz
  have z0 : w.heap.size < w1.heap.size := by omega
  have z1 : w.heap.size + 1 < w1.heap.size := by omega
  have Hb1 := Lib.hid (below_a2 hb1)
  clear hb1
  go_wp2_with fail
  refine (hC.out _ Hb1.out).mono ?_
  rintro e w2 ⟨rfl, hb2⟩
  have hb3 := Hb1.out.trans (hb2.mono Hb1.out.size)
  clear hc
  go_wp2_with fail
  go_ret
  exact ⟨rfl, hb3⟩
set_option maxRecDepth 20000 in
set_option maxHeartbeats 2000000 in
theorem eqPredS_n : ∀ (N : Nat) (l : List P), SizeOf.sizeOf l < N → EqC l
  | 0, _, h => absurd h (Nat.not_lt_zero _)
  | N + 1, l, hN => by
    have IH := Lib.hid (eqPredS_n N)
    intro x y w l1 h1 l2 h2 hx hh1 hy hh2
    obtain ⟨A, c, rfl, hl, hl2⟩ := hx.form
    obtain ⟨A', c', rfl, hl', hl2'⟩ := hy.form
    have hlb : ((l.length : Int) != (l.length : Int)) = false := by simp
    go_enter Tryz.func25, Tryz.ntmps25
    go_wp2_with fail
    go_loopw [5] (fun i wr => ∃ (k : Nat), i = .int .i64 k ∧ k ≤ l.length ∧ Below w.heap.size w wr) (fun i _ => l.length - (intOf i).toNat)
    case atStart => exact ⟨0, by simp, by omega, Below.refl _ _⟩
    case round =>
      obtain ⟨k, rfl, hk, hb⟩ := hrel
      by_cases hkl : k < l.length
      · obtain ⟨b, off, u, sv, rfl, -, hbl, huk, hat, hr⟩ := (hx.below hb hh1).at hkl
        obtain ⟨b', off', u', sv', rfl, -, hbl', huk', hat', hr'⟩ := (hy.below hb hh2).at hkl
        obtain rfl : u = u' := by rw [huk] at huk'; injection huk'
        obtain ⟨e0, e1, e2, e3, e4, e5, e6⟩ := hat
        obtain ⟨f0, f1, f2, f3, f4, f5, f6⟩ := hat'
        have hlt := Nat.lt_trans u.l_lt (P.mem_lt (mem_of_get huk))
        have hbs := hb.size
        have hC := Lib.hid (fun W (h : Below wr.heap.size wr W) => eqPred_of u (IH.out u.l (by omega)) sv sv' W (hr.below h (by omega)) (Nat.le_trans (by omega) h.size) (hr'.below h (by omega)) (Nat.le_trans (by omega) h.size))
        clear huk huk' hr hr'
        go_wp2_with fail
        have q_0 := cell_regrown (w := wr) e0
        have q_1 := cell_regrown (w := wr) e1
        have q_2 := cell_regrown (w := wr) e2
        have q_3 := cell_regrown (w := wr) e3
        have q_4 := cell_regrown (w := wr) e4
        have q_5 := cell_regrown (w := wr) e5
        have q_6 := cell_regrown (w := wr) e6
        have q_7 := cell_regrown (w := wr) f0
        have q_8 := cell_regrown (w := wr) f1
        have q_9 := cell_regrown (w := wr) f2
        have q_10 := cell_regrown (w := wr) f3
        have q_11 := cell_regrown (w := wr) f4
        have q_12 := cell_regrown (w := wr) f5
        have q_13 := cell_regrown (w := wr) f6
        refine wp_region_quiet_below (by kernel_rfl) (by kernel_rfl) ?_
        repeat (go_big_quiet_step (first | (go_at_call 8; exact Calls.regrown_of (hC.out _ (below_regrown _ _ _)))))
        refine wpQuiet_nil ?_
        intro wq hw'
        obtain ⟨⟨dq, osq⟩, hw''⟩ := hw'
        have hbq := below_regrown wr dq osq
        rw [← hw''] at hbq
        clear hw''
        clear q_0 q_1 q_2 q_3 q_4 q_5 q_6 q_7 q_8 q_9 q_10 q_11 q_12 q_13
        go_wp2_with fail
        go_roundw
        case rel => exact ⟨k + 1, by go_num, by omega, hb.trans (hbq.mono hb.size)⟩
        case measure => simp [intOf]; omega
      · go_wp2_with fail
        go_ret
        exact ⟨rfl, hb⟩
theorem eqPred_c (p : P) (sv : Value) (q : P) (sv' : Value) (w : World) {l1 h1 l2 h2 : Nat} (hx : RdP w l1 h1 sv p.l) (hh1 : h1 ≤ w.heap.size) (hy : RdP w l2 h2 sv' q.l) (hh2 : h2 ≤ w.heap.size) (hpq : p = q := by rfl) :
    Calls Tryz.prog 8 #[.agg #[.int .i64 p.kind, .int .i64 p.col, .int .i64 p.op, .int .i64 p.v.ty, .int .i64 p.v.n, .string p.v.s, sv], .agg #[.int .i64 q.kind, .int .i64 q.col, .int .i64 q.op, .int .i64 q.v.ty, .int .i64 q.v.n, .string q.v.s, sv']] w fun e w' => e = .returned (.bool true) ∧ Below w.heap.size w w' := by
  subst hpq
  exact eqPred_of p (eqPredS_n _ p.l (Nat.lt_succ_self _)) sv sv' w hx hh1 hy hh2
end Go.Proofs.YtjogkbkkcaljhaaGreatDoor
namespace Go.Proofs.YtjogkbkkcaljhaaGreatDoor
open Go.ChangeShapes Go.WideShapes Go.ChangeAt Go.RowKit Go.Lb

set_option maxHeartbeats 1000000 in
theorem eqIntS_c (xs : List Int) (x : Value) (ys : List Int) (y : Value) (w : World) {l1 h1 l2 h2 : Nat} (hx : RdI w l1 h1 x xs) (hh1 : h1 ≤ w.heap.size) (hy : RdI w l2 h2 y ys) (hh2 : h2 ≤ w.heap.size) :
    Calls Tryz.prog 9 #[x, y] w fun e w' => e = .returned (.bool (eqd xs ys)) ∧ Below w.heap.size w w' := by
  obtain ⟨A, c, rfl, hl, hl2⟩ := hx.form
  obtain ⟨A', c', rfl, hl', hl2'⟩ := hy.form
  by_cases hlen : xs.length = ys.length
  · have Hlen := Lib.hid hlen
    have hlb : ((xs.length : Int) != (ys.length : Int)) = false := by simp [hlen]
    rw [← hlen] at hl'
    clear hlen
    go_enter Tryz.func9, Tryz.ntmps9
    go_wp2_with fail
    go_loopw [5] (fun i wr => ∃ (k : Nat), i = .int .i64 k ∧ k ≤ xs.length ∧ xs.take k = ys.take k ∧ Below w.heap.size w wr) (fun i _ => xs.length - (intOf i).toNat)
    case atStart => exact ⟨0, by simp, by omega, by simp, Below.refl _ _⟩
    case round =>
      obtain ⟨k, rfl, hk, htk, hb⟩ := hrel
      have Htk := Lib.hid htk
      clear htk
      by_cases hkl : k < xs.length
      · obtain ⟨b, off, u, rfl, -, hbl, huk, e0⟩ := (hx.below hb hh1).at hkl
        obtain ⟨b', off', u', rfl, -, hbl', huk', e0'⟩ := (hy.below hb hh2).at (Hlen.out ▸ hkl)
        have Hs := Lib.hid (eq_of_drop Hlen.out Htk.out huk huk')
        have hkl' : k < ys.length := Hlen.out ▸ hkl
        clear huk huk'
        by_cases hu : u = u'
        · have hd : (u != u') = false := by simp [hu]
          have Hs1 := Lib.hid (Hs.out.1 hu)
          clear hu Hs
          go_wp2_with fail
          have q_0 := cell_regrown (w := wr) e0
          have q_1 := cell_regrown (w := wr) e0'
          refine wp_region_quiet_below (by kernel_rfl) (by kernel_rfl) ?_
          repeat (go_big_quiet_step (fail))
          refine wpQuiet_nil ?_
          intro wq hw'
          obtain ⟨⟨dq, osq⟩, hw''⟩ := hw'
          have hbq := below_regrown wr dq osq
          rw [← hw''] at hbq
          clear hw''
          clear q_0 q_1
          go_wp2_with fail
          go_roundw
          case rel => exact ⟨k + 1, by go_num, by omega, Hs1.out, hb.trans (hbq.mono hb.size)⟩
          case measure => simp [intOf]; omega
        · have hd : (u != u') = true := by simp [hu]
          have H := Lib.hid (eqd_no (Hs.out.2 hu))
          clear hu Hs
          go_wp2_with fail
          have q_0 := cell_regrown (w := wr) e0
          have q_1 := cell_regrown (w := wr) e0'
          refine wp_region_quiet_below (by kernel_rfl) (by kernel_rfl) ?_
          repeat (go_big_quiet_step (fail))
          refine wpQuiet_nil ?_
          intro wq hw'
          obtain ⟨⟨dq, osq⟩, hw''⟩ := hw'
          have hbq := below_regrown wr dq osq
          rw [← hw''] at hbq
          clear hw''
          clear q_0 q_1
          go_wp2_with fail
          go_ret
          exact ⟨ret_bool H.out.symm, hb.trans (hbq.mono hb.size)⟩
      · have H := Lib.hid (show eqd xs ys = true by
          have h := Htk.out
          rw [List.take_of_length_le (by omega), List.take_of_length_le (by have := Hlen.out; omega)] at h
          exact eqd_of h)
        go_wp2_with fail
        go_ret
        exact ⟨ret_bool H.out.symm, hb⟩
  · have hlb : ((xs.length : Int) != (ys.length : Int)) = true := by simp; omega
    have H := Lib.hid (eqd_no fun h : xs = ys => hlen (by rw [h]))
    clear hlen
    go_enter Tryz.func9, Tryz.ntmps9
    go_wp2_with fail
    go_ret
    exact ⟨ret_bool H.out.symm, Below.refl _ _⟩

def marksI (k : Int) (n : Nat) : List Value := (List.range n).map fun i : Nat => Value.int .i64 (k + (i : Int))
theorem marksI_succ (k : Int) (n : Nat) : marksI k (n + 1) = marksI k n ++ [.int .i64 (k + n)] := by simp [marksI, List.range_succ]
theorem marksI_len (k : Int) (n : Nat) : (marksI k n).length = n * 1 := by simp [marksI]
theorem marksI_get (k : Int) (n i : Nat) (hi : i < n) : (marksI k n)[i]? = some (.int .i64 (k + i)) := by simp [marksI, hi]
theorem take_set1 {l : List Value} {k : Nat} {v : Value} (h : k < l.length) : (l.set k v).take (k + 1) = l.take k ++ [v] := by
  rw [List.take_succ_eq_append_getElem (by simpa using h)]
  simp [List.take_set_of_le]

set_option maxHeartbeats 1000000 in
theorem markIs_c (x : Value) (n : Nat) (cs : List Value) (k : Int) (w : World) {lo hi : Nat} (hown : Own 3 1 w lo hi x n cs) (hk0 : 1 ≤ k) (hk : k + n ≤ 10000000000000) :
    Calls Tryz.prog 10 #[x, .int .i64 k] w fun e w' => e = .returned (.int .i64 (k + n)) ∧ Own 3 1 w' lo hi x n (marksI k n) ∧ Chg lo hi w w' := by
  have hx := hown.1
  have hlt := Lib.hid hown.2
  clear hown
  rcases hx.2 with ⟨rfl, rfl⟩ | ⟨g, cap, cur, rfl, hlo, hcur, hnc, hcm, hsz, -⟩
  · go_enter Tryz.func10, Tryz.ntmps10
    go_wp2_with fail
    go_loop [5, 1] (fun i q => i = .int .i64 0 ∧ q = .int .i64 k) (fun _ _ => 0)
    case atStart => exact ⟨rfl, rfl⟩
    case round =>
      obtain ⟨rfl, rfl⟩ := hrel
      go_wp2_with fail
      go_ret
      exact ⟨by simp, ⟨⟨rfl, .inl ⟨rfl, rfl⟩⟩, hlt.out⟩, Chg.refl _ _ _⟩
  · unfold maxLen at hcm
    have Hcm := Lib.hid (show cap ≤ maxLen by unfold maxLen; omega)
    have Hcur := Lib.hid hcur
    have Hsz := Lib.hid hsz
    clear hcur hsz hx
    go_enter Tryz.func10, Tryz.ntmps10
    go_wp2_with fail
    go_loopw [5, 1] (fun i q wr => ∃ (j : Nat) (cu : Array Value), i = .int .i64 j ∧ j ≤ n ∧ q = .int .i64 (k + j) ∧ wr.heap[g]? = some (.cells cu 3 (0, 0)) ∧ cu.size = cap * 1 ∧ cu.toList.take (j * 1) = marksI k j ∧ w.grownBy wr (some g)) (fun i _ _ => n - (intOf i).toNat)
    case atStart => exact ⟨0, cur, by simp, by omega, by simp, Hcur.out, Hsz.out, by simp [marksI], World.grownBy.refl w _⟩
    case round =>
      obtain ⟨j, cu, rfl, hj, rfl, hcu, hcs, htk, hg⟩ := hrel
      have Hcu := Lib.hid hcu
      have Hcs := Lib.hid hcs
      have Htk := Lib.hid htk
      clear hcu hcs htk
      by_cases hjn : j < n
      · have k0 := cell_of_row wr g j cu _ _ Hcu.out
        have f0 := fun o => frozen_of_row wr g o cu _ Hcu.out
        rw [Array.getElem?_eq_getElem (by rw [Hcs.out]; omega)] at k0
        go_wp2_with fail
        go_roundw
        case rel =>
          refine ⟨j + 1, _, by go_num, by omega, congrArg (Value.int .i64) (by omega), set1 Hcu.out, by simpa using Hcs.out, ?_, grown_set hg _ _⟩
          simp only [Array.toList_setIfInBounds]
          rw [show (j + 1) * 1 = j + 1 by omega, take_set1 (by rw [Array.length_toList, Hcs.out]; omega), marksI_succ, ← Htk.out, Nat.mul_one]
        case measure => simp [intOf]; omega
      · obtain rfl : j = n := by omega
        go_wp2_with fail
        go_ret
        exact ⟨rfl, ⟨⟨marksI_len _ _, .inr ⟨g, cap, cu, rfl, hlo, Hcu.out, hnc, Hcm.out, Hcs.out, Htk.out⟩⟩, hlt.out⟩, .of_grown hg fun g' e => by injection e with e; subst e; exact ⟨hlo, hlt.out g rfl⟩⟩

theorem markIntS_c (x : Value) (l : List Int) (k : Int) (w : World) {lo hi : Nat} (hown : Own 3 1 w lo hi x l.length (l.map (Value.int .i64))) (hk0 : 1 ≤ k) (hk : k + (l.length : Nat) ≤ 10000000000000) :
    Calls Tryz.prog 10 #[x, .int .i64 k] w fun e w' => e = .returned (.int .i64 (k + (l.length : Nat))) ∧ Own 3 1 w' lo hi x l.length (marksI k l.length) ∧ Chg lo hi w w' := markIs_c x l.length _ k w hown hk0 hk

end Go.Proofs.YtjogkbkkcaljhaaGreatDoor
namespace Go.Proofs.YtjogkbkkcaljhaaGreatDoor
open Go.ChangeShapes Go.WideShapes Go.ChangeAt Go.RowKit Go.Lb

theorem info_intL : (Tryz.prog.info? 3).map (fun i => (i.zero, i.size, i.bytes)) = some (some (.int .i64 0), 1, 8) := by kernel_rfl
set_option maxHeartbeats 400000 in
theorem toIntS_c (xs : List Int) (x : Value) (w : World) {lo hi : Nat} (hx : RdI w lo hi x xs) (hhi : hi ≤ w.heap.size) (hn : xs.length ≤ 1048576) :
    Calls Tryz.prog 6 #[x] w fun e w' => ∃ v, e = .returned v ∧ Own 3 1 w' w.heap.size w'.heap.size v xs.length (xs.map (Value.int .i64)) ∧ Below w.heap.size w w' := by
  obtain ⟨A, c, rfl, hl, hl2⟩ := hx.form
  obtain ⟨i0, hi, hz0, hz1, hz2⟩ := info_parts info_intL
  have hmk : ∀ W : World, _ := fun W => make_n (P := Tryz.prog) 22 3 i0 _ Tryz.underlying22 hi hz0 xs.length (by rw [hz2]; omega) (by omega) W
  rw [hz1] at hmk
  clear hz0 hz1 hz2 hi
  go_enter Tryz.func6, Tryz.ntmps6
  go_wp2_with fail
  go_loopw [4] (fun i wr => ∃ (k : Nat) (cur : Array Value), i = .int .i64 k ∧ k ≤ xs.length ∧ wr.heap[w.heap.size]? = some (.cells cur 3 (0, 0)) ∧ cur.size = xs.length * 1 ∧ cur.toList.take (k * 1) = (xs.take k).map (Value.int .i64) ∧ Below w.heap.size w wr) (fun i _ => xs.length - (intOf i).toNat)
  case atStart => exact ⟨0, _, by simp, by omega, heap_alloc_new w _, by rw [size_madeCells, Nat.mul_one], by simp, (Below.refl _ _).alloc (Nat.le_refl _) _⟩
  case round =>
    obtain ⟨k, cur, rfl, hk, hcur, hsz, htk, hb⟩ := hrel
    have Hc := Lib.hid hcur
    have Hsz := Lib.hid hsz
    have Htk := Lib.hid htk
    clear hcur hsz htk
    by_cases hkl : k < xs.length
    · obtain ⟨b, off, y, rfl, -, hbl, hyk, e0⟩ := (hx.below hb hhi).at hkl
      have hy := Lib.hid (take_of_get hyk)
      clear hyk
      have k0 := cell_of_row wr w.heap.size k cur _ _ Hc.out
      have f0 := fun o => frozen_of_row wr w.heap.size o cur _ Hc.out
      rw [Array.getElem?_eq_getElem (by rw [Hsz.out]; omega)] at k0
      go_wp2_with fail
      go_roundw
      case rel =>
        refine ⟨k + 1, _, by go_num, by omega, set1 Hc.out, by simpa using Hsz.out, ?_, hb.setCell (Nat.le_refl _) _⟩
        simp only [Array.toList_setIfInBounds]
        rw [show (k + 1) * 1 = k + 1 by omega, take_set1 (by rw [Array.length_toList, Hsz.out]; omega), hy.out, List.map_append, ← Htk.out, Nat.mul_one]
        rfl
      case measure => simp [intOf]; omega
    · go_wp2_with fail
      go_ret
      obtain rfl : k = xs.length := by omega
      refine ⟨_, rfl, .new ⟨by simp, .inr ⟨_, _, cur, rfl, Nat.le_refl _, Hc.out, Nat.le_refl _, by unfold maxLen; omega, Hsz.out, ?_⟩⟩, hb⟩
      rw [Htk.out, List.take_length]
end Go.Proofs.YtjogkbkkcaljhaaGreatDoor
namespace Go.Proofs.YtjogkbkkcaljhaaGreatDoor
open Go.Sort Go.ChangeShapes Go.WideShapes Go.ChangeAt Go.RowKit Go.Lb

end Go.Proofs.YtjogkbkkcaljhaaGreatDoor
