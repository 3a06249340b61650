/- The laws' helpers for lists of bytes: contracts. -/
import Derived.Test.YticimccfeohpcaaGreatXL
import Derived.Test.YticimccfeohpcaaGreatXA
namespace Go.Proofs.YticimccfeohpcaaGreat
open Go.ChangeShapes Go.WideShapes Go.ChangeAt Go.RowKit Go.Lb
theorem take_setB {l : List Value} {k : Nat} {v : Value} (h : k < l.length) : (l.set k v).take (k + 1) = l.take k ++ [v] := by
  rw [List.take_succ_eq_append_getElem (by simpa using h)]
  simp [List.take_set_of_le]

set_option maxHeartbeats 1000000 in
theorem eqByteS_c (xs : List UInt8) (x : Value) (ys : List UInt8) (y : Value) (w : World) {l1 h1 l2 h2 : Nat} (hx : RdB w l1 h1 x xs) (hh1 : h1 ≤ w.heap.size) (hy : RdB w l2 h2 y ys) (hh2 : h2 ≤ w.heap.size) :
    Calls Tryz.prog 23 #[x, y] w fun e w' => e = .returned (.bool (eqd xs ys)) ∧ Below w.heap.size w w' := by
  obtain ⟨A, c, rfl, hl, hl2⟩ := hx.form
  obtain ⟨A', c', rfl, hl', hl2'⟩ := hy.form
  by_cases hlen : xs.length = ys.length
  · have Hlen := Lib.hid hlen
    have hlb : ((xs.length : Int) != (ys.length : Int)) = false := by simp [hlen]
    rw [← hlen] at hl'
    clear hlen
    go_enter Tryz.func23, Tryz.ntmps23
    go_wp2_with fail
    go_loopw [5] (fun i wr => ∃ (k : Nat), i = .int .i64 k ∧ k ≤ xs.length ∧ xs.take k = ys.take k ∧ Below w.heap.size w wr) (fun i _ => xs.length - (intOf i).toNat)
    case atStart => exact ⟨0, by simp, by omega, by simp, Below.refl _ _⟩
    case round =>
      obtain ⟨k, rfl, hk, htk, hb⟩ := hrel
      have Htk := Lib.hid htk
      clear htk
      by_cases hkl : k < xs.length
      · obtain ⟨b, off, u, rfl, -, hbl, huk, e0⟩ := (hx.below hb hh1).at hkl
        obtain ⟨b', off', u', rfl, -, hbl', huk', e0'⟩ := (hy.below hb hh2).at (Hlen.out ▸ hkl)
        have Hs := Lib.hid (eq_of_drop Hlen.out Htk.out huk huk')
        have hkl' : k < ys.length := Hlen.out ▸ hkl
        clear huk huk'
        by_cases hu : u = u'
        · have hd : ((u.toNat : Int) != (u'.toNat : Int)) = false := by simp [hu]
          have Hs1 := Lib.hid (Hs.out.1 hu)
          clear hu Hs
          go_wp2_with fail
          have q_0 := cell_regrown (w := wr) e0
          have q_1 := cell_regrown (w := wr) e0'
          refine wp_region_quiet_below (by kernel_rfl) (by kernel_rfl) ?_
          repeat (go_big_quiet_step (fail))
          refine wpQuiet_nil ?_
          intro wq hw'
          obtain ⟨⟨dq, osq⟩, hw''⟩ := hw'
          have hbq := below_regrown wr dq osq
          rw [← hw''] at hbq
          clear hw''
          clear q_0 q_1
          go_wp2_with fail
          go_roundw
          case rel => exact ⟨k + 1, by go_num, by omega, Hs1.out, hb.trans (hbq.mono hb.size)⟩
          case measure => simp [intOf]; omega
        · have hd : ((u.toNat : Int) != (u'.toNat : Int)) = true := by simp only [bne_iff_ne, ne_eq]; intro e; exact hu (UInt8.toNat_inj.1 (by omega))
          have H := Lib.hid (eqd_no (Hs.out.2 hu))
          clear hu Hs
          go_wp2_with fail
          have q_0 := cell_regrown (w := wr) e0
          have q_1 := cell_regrown (w := wr) e0'
          refine wp_region_quiet_below (by kernel_rfl) (by kernel_rfl) ?_
          repeat (go_big_quiet_step (fail))
          refine wpQuiet_nil ?_
          intro wq hw'
          obtain ⟨⟨dq, osq⟩, hw''⟩ := hw'
          have hbq := below_regrown wr dq osq
          rw [← hw''] at hbq
          clear hw''
          clear q_0 q_1
          go_wp2_with fail
          go_ret
          exact ⟨ret_bool H.out.symm, hb.trans (hbq.mono hb.size)⟩
      · have H := Lib.hid (show eqd xs ys = true by
          have h := Htk.out
          rw [List.take_of_length_le (by omega), List.take_of_length_le (by have := Hlen.out; omega)] at h
          exact eqd_of h)
        go_wp2_with fail
        go_ret
        exact ⟨ret_bool H.out.symm, hb⟩
  · have hlb : ((xs.length : Int) != (ys.length : Int)) = true := by simp; omega
    have H := Lib.hid (eqd_no fun h : xs = ys => hlen (by rw [h]))
    clear hlen
    go_enter Tryz.func23, Tryz.ntmps23
    go_wp2_with fail
    go_ret
    exact ⟨ret_bool H.out.symm, Below.refl _ _⟩

def marksB (k : Int) (n : Nat) : List Value := (List.range n).map fun i : Nat => Value.int .u8 ((k + (i : Int)) % 256)
theorem marksB_succ (k : Int) (n : Nat) : marksB k (n + 1) = marksB k n ++ [.int .u8 ((k + n) % 256)] := by simp [marksB, List.range_succ]
theorem marksB_len (k : Int) (n : Nat) : (marksB k n).length = n * 1 := by simp [marksB]
theorem marksB_get (k : Int) (n i : Nat) (hi : i < n) : (marksB k n)[i]? = some (.int .u8 ((k + i) % 256)) := by simp [marksB, hi]

set_option maxHeartbeats 1000000 in
theorem markBs_c (x : Value) (n : Nat) (cs : List Value) (k : Int) (w : World) {lo hi : Nat} (hown : Own 5 1 w lo hi x n cs) (hk0 : 1 ≤ k) (hk : k + n ≤ 10000000000000) :
    Calls Tryz.prog 24 #[x, .int .i64 k] w fun e w' => e = .returned (.int .i64 (k + n)) ∧ Own 5 1 w' lo hi x n (marksB k n) ∧ Chg lo hi w w' := by
  have hx := hown.1
  have hlt := Lib.hid hown.2
  clear hown
  rcases hx.2 with ⟨rfl, rfl⟩ | ⟨g, cap, cur, rfl, hlo, hcur, hnc, hcm, hsz, -⟩
  · go_enter Tryz.func24, Tryz.ntmps24
    go_wp2_with fail
    go_loop [5, 1] (fun i q => i = .int .i64 0 ∧ q = .int .i64 k) (fun _ _ => 0)
    case atStart => exact ⟨rfl, rfl⟩
    case round =>
      obtain ⟨rfl, rfl⟩ := hrel
      go_wp2_with fail
      go_ret
      exact ⟨by simp, ⟨⟨rfl, .inl ⟨rfl, rfl⟩⟩, hlt.out⟩, Chg.refl _ _ _⟩
  · unfold maxLen at hcm
    have Hcm := Lib.hid (show cap ≤ maxLen by unfold maxLen; omega)
    have Hcur := Lib.hid hcur
    have Hsz := Lib.hid hsz
    clear hcur hsz hx
    go_enter Tryz.func24, Tryz.ntmps24
    go_wp2_with fail
    go_loopw [5, 1] (fun i q wr => ∃ (j : Nat) (cu : Array Value), i = .int .i64 j ∧ j ≤ n ∧ q = .int .i64 (k + j) ∧ wr.heap[g]? = some (.cells cu 5 (0, 0)) ∧ cu.size = cap * 1 ∧ cu.toList.take (j * 1) = marksB k j ∧ w.grownBy wr (some g)) (fun i _ _ => n - (intOf i).toNat)
    case atStart => exact ⟨0, cur, by simp, by omega, by simp, Hcur.out, Hsz.out, by simp [marksB], World.grownBy.refl w _⟩
    case round =>
      obtain ⟨j, cu, rfl, hj, rfl, hcu, hcs, htk, hg⟩ := hrel
      have Hcu := Lib.hid hcu
      have Hcs := Lib.hid hcs
      have Htk := Lib.hid htk
      clear hcu hcs htk
      by_cases hjn : j < n
      · have k0 := cell_of_row wr g j cu _ _ Hcu.out
        have f0 := fun o => frozen_of_row wr g o cu _ Hcu.out
        rw [Array.getElem?_eq_getElem (by rw [Hcs.out]; omega)] at k0
        go_wp2_with fail
        go_roundw
        case rel =>
          refine ⟨j + 1, _, by go_num, by omega, congrArg (Value.int .i64) (by omega), set1 Hcu.out, by simpa using Hcs.out, ?_, grown_set hg _ _⟩
          simp only [Array.toList_setIfInBounds]
          rw [show (j + 1) * 1 = j + 1 by omega, take_setB (by rw [Array.length_toList, Hcs.out]; omega), marksB_succ, ← Htk.out, Nat.mul_one]
        case measure => simp [intOf]; omega
      · obtain rfl : j = n := by omega
        go_wp2_with fail
        go_ret
        exact ⟨rfl, ⟨⟨marksB_len _ _, .inr ⟨g, cap, cu, rfl, hlo, Hcu.out, hnc, Hcm.out, Hcs.out, Htk.out⟩⟩, hlt.out⟩, .of_grown hg fun g' e => by injection e with e; subst e; exact ⟨hlo, hlt.out g rfl⟩⟩

set_option maxHeartbeats 1000000 in
theorem heldBs_c (x : Value) (n : Nat) (k : Int) (w : World) {lo hi e : Nat} (hx : Own e 1 w lo hi x n (marksB k n)) (hhi : hi ≤ w.heap.size) (hk0 : 1 ≤ k) (hk : k + n ≤ 10000000000000) :
    Calls Tryz.prog 25 #[x, .int .i64 k] w fun e w' => e = .returned (.int .i64 (k + n)) ∧ Below w.heap.size w w' := by
  obtain ⟨A, c, rfl, hnc, hcm, hc⟩ := hx.cells
  unfold maxLen at hcm
  have Hc := Lib.hid hc
  clear hc hx
  go_enter Tryz.func25, Tryz.ntmps25
  go_wp2_with fail
  go_loopw [5, 1] (fun i q wr => ∃ (j : Nat), i = .int .i64 j ∧ j ≤ n ∧ q = .int .i64 (k + j) ∧ Below w.heap.size w wr) (fun i _ _ => n - (intOf i).toNat)
  case atStart => exact ⟨0, by simp, by omega, by simp, Below.refl _ _⟩
  case round =>
    obtain ⟨j, rfl, hj, rfl, hb⟩ := hrel
    by_cases hjn : j < n
    · obtain ⟨b, off, rfl, -, hbl, he⟩ := Hc.out j hjn
      have e0 : wr.cell? ⟨b, off + j, none⟩ = some (.int .u8 ((k + j) % 256)) := (hb.cell (p := ⟨b, _, none⟩) (Nat.lt_of_lt_of_le hbl hhi)).trans (by have := he 0 (by omega); rw [Nat.add_zero, Nat.mul_one, Nat.add_zero] at this; exact this.trans (marksB_get k n j hjn))
      clear he
      go_wp2_with fail
      go_roundw
      case rel => exact ⟨j + 1, by go_num, by omega, congrArg (Value.int .i64) (by omega), hb⟩
      case measure => simp [intOf]; omega
    · obtain rfl : j = n := by omega
      go_wp2_with fail
      go_ret
      exact ⟨rfl, hb⟩
theorem markByteS_c (x : Value) (l : List UInt8) (k : Int) (w : World) {lo hi : Nat} (hown : Own 5 1 w lo hi x l.length (bc l)) (hk0 : 1 ≤ k) (hk : k + (l.length : Nat) ≤ 10000000000000) :
    Calls Tryz.prog 24 #[x, .int .i64 k] w fun e w' => e = .returned (.int .i64 (k + (l.length : Nat))) ∧ Own 5 1 w' lo hi x l.length (marksB k l.length) ∧ Chg lo hi w w' := markBs_c x l.length _ k w hown hk0 hk
theorem heldByteS_c (x : Value) (l : List UInt8) (k : Int) (w : World) {lo hi e : Nat} (hx : Own e 1 w lo hi x l.length (marksB k l.length)) (hhi : hi ≤ w.heap.size) (hk0 : 1 ≤ k) (hk : k + (l.length : Nat) ≤ 10000000000000) :
    Calls Tryz.prog 25 #[x, .int .i64 k] w fun e w' => e = .returned (.int .i64 (k + (l.length : Nat))) ∧ Below w.heap.size w w' := heldBs_c x l.length k w hx hhi hk0 hk


set_option maxHeartbeats 400000 in
theorem toByteS_c (xs : List UInt8) (x : Value) (w : World) {lo hi : Nat} (hx : RdB w lo hi x xs) (hhi : hi ≤ w.heap.size) (hn : xs.length ≤ 1048576) :
    Calls Tryz.prog 27 #[x] w fun e w' => ∃ v, e = .returned v ∧ Own 5 1 w' w.heap.size w'.heap.size v xs.length (bc xs) ∧ Below w.heap.size w w' := by
  obtain ⟨A, c, rfl, hl, hl2⟩ := hx.form
  obtain ⟨i0, hi, hz0, hz1, hz2⟩ := info_parts info_u8
  have hmk : ∀ W : World, _ := fun W => make_n (P := Tryz.prog) 34 5 i0 _ Tryz.underlying34 hi hz0 xs.length (by rw [hz2]; omega) (by omega) W
  rw [hz1] at hmk
  clear hz0 hz1 hz2 hi
  go_enter Tryz.func27, Tryz.ntmps27
  go_wp2_with fail
  go_loopw [4] (fun i wr => ∃ (k : Nat) (cur : Array Value), i = .int .i64 k ∧ k ≤ xs.length ∧ wr.heap[w.heap.size]? = some (.cells cur 5 (0, 0)) ∧ cur.size = xs.length * 1 ∧ cur.toList.take (k * 1) = bc (xs.take k) ∧ Below w.heap.size w wr) (fun i _ => xs.length - (intOf i).toNat)
  case atStart => exact ⟨0, _, by simp, by omega, heap_alloc_new w _, by rw [size_madeCells, Nat.mul_one], by simp [bc], (Below.refl _ _).alloc (Nat.le_refl _) _⟩
  case round =>
    obtain ⟨k, cur, rfl, hk, hcur, hsz, htk, hb⟩ := hrel
    have Hc := Lib.hid hcur
    have Hsz := Lib.hid hsz
    have Htk := Lib.hid htk
    clear hcur hsz htk
    by_cases hkl : k < xs.length
    · obtain ⟨b, off, y, rfl, -, hbl, hyk, e0⟩ := (hx.below hb hhi).at hkl
      have hy := Lib.hid (take_of_get hyk)
      clear hyk
      have k0 := cell_of_row wr w.heap.size k cur _ _ Hc.out
      have f0 := fun o => frozen_of_row wr w.heap.size o cur _ Hc.out
      rw [Array.getElem?_eq_getElem (by rw [Hsz.out]; omega)] at k0
      go_wp2_with fail
      go_roundw
      case rel =>
        refine ⟨k + 1, _, by go_num, by omega, set1 Hc.out, by simpa using Hsz.out, ?_, hb.setCell (Nat.le_refl _) _⟩
        simp only [Array.toList_setIfInBounds]
        rw [show (k + 1) * 1 = k + 1 by omega, take_setB (by rw [Array.length_toList, Hsz.out]; omega), hy.out, bc_app, ← Htk.out, Nat.mul_one]
        rfl
      case measure => simp [intOf]; omega
    · go_wp2_with fail
      go_ret
      obtain rfl : k = xs.length := by omega
      refine ⟨_, rfl, .new ⟨by simp [bc], .inr ⟨_, _, cur, rfl, Nat.le_refl _, Hc.out, Nat.le_refl _, by unfold maxLen; omega, Hsz.out, ?_⟩⟩, hb⟩
      rw [Htk.out, List.take_length]
end Go.Proofs.YticimccfeohpcaaGreat
