/- Lists of zones: how they read; the laws' helpers for them: contracts. -/
import Derived.Test.YtgjjkodlmhmjgaaLZ
import Derived.Test.YtgjjkodlmhmjgaaL3
import Derived.Test.YtgjjkodlmhmjgaaL5
import Derived.Test.YtgjjkodlmhmjgaaApp
namespace Go.Lb
open Go.RowKit
theorem Z.cells_len (z : Z) : z.cells.length = 6 := rfl
/-- A slice that reads as a list of zones. -/
def RdZ (w : World) (lo hi : Nat) (v : Value) (l : List Z) : Prop := RdG lo hi 6 v l.length fun k b o => ∃ z, l[k]? = some z ∧ VAt w b o z.lo ∧ VAt w b (o + 3) z.hi
section
variable {w w' : World} {lo hi lo' hi' : Nat} {v : Value} {A : Option Addr} {n c k e : Nat}
theorem RdZ.same {l : List Z} (h : RdZ w lo hi v l) (hs : Same lo hi w w') : RdZ w' lo hi v l := h.imp (Nat.le_refl _) (Nat.le_refl _) fun _ _ _ hl hh ⟨x, hx, hv, hv2⟩ => ⟨x, hx, hv.same hs hl hh, hv2.same hs hl hh⟩
theorem RdZ.more {l : List Z} (h : RdZ w lo hi v l) (h1 : lo' ≤ lo) (h2 : hi ≤ hi') : RdZ w lo' hi' v l := h.imp h1 h2 fun _ _ _ _ _ h => h
theorem RdZ.below {B : Nat} {l : List Z} (h : RdZ w lo hi v l) (hb : Below B w w') (hB : hi ≤ B) : RdZ w' lo hi v l := h.same (.of_below hb hB)
theorem RdZ.at {l : List Z} (h : RdZ w lo hi (.slice A n c) l) (hk : k < n) : ∃ b off z, A = some ⟨b, off, none⟩ ∧ lo ≤ b ∧ b < hi ∧ l[k]? = some z ∧ w.cell? ⟨b, off + k * 6, none⟩ = some (.int .i64 z.lo.ty) ∧ w.cell? ⟨b, off + k * 6 + 1, none⟩ = some (.int .i64 z.lo.n) ∧ w.cell? ⟨b, off + k * 6 + 2, none⟩ = some (.string z.lo.s)
    ∧ w.cell? ⟨b, off + k * 6 + 3, none⟩ = some (.int .i64 z.hi.ty) ∧ w.cell? ⟨b, off + k * 6 + 4, none⟩ = some (.int .i64 z.hi.n) ∧ w.cell? ⟨b, off + k * 6 + 5, none⟩ = some (.string z.hi.s) := by
  obtain ⟨A', c', e, _, _, h⟩ := h
  injection e with e1 e2 e3
  subst e1
  obtain ⟨b, off, h1, h2, h3, x, hx, hv, hv2⟩ := h k (by omega)
  exact ⟨b, off, x, h1, h2, h3, hx, hv.1, hv.2.1, hv.2.2, hv2.1, hv2.2.1, hv2.2.2⟩
theorem Own.rdZ {l : List Z} (h : Own e 6 w lo hi v l.length (l.flatMap Z.cells)) : RdZ w lo hi v l := by
  obtain ⟨A, c, h1, h2, h3, h4⟩ := h.cells
  refine ⟨A, c, h1, h2, h3, fun k hk => ?_⟩
  obtain ⟨b, off, ha, hl, hh, hc⟩ := h4 k hk
  refine ⟨b, off, ha, hl, hh, l[k], List.getElem?_eq_getElem hk, ?_⟩
  have hg : ∀ j, j < 6 → w.cell? ⟨b, off + k * 6 + j, none⟩ = (Z.cells l[k])[j]? := fun j hj => (hc j hj).trans (flat_get Z.cells 6 Z.cells_len l k j _ (List.getElem?_eq_getElem hk) hj)
  exact ⟨⟨hg 0 (by omega), hg 1 (by omega), hg 2 (by omega)⟩, ⟨hg 3 (by omega), hg 4 (by omega), hg 5 (by omega)⟩⟩
end
theorem take_set6 {l : List Value} {o : Nat} {a b c d e f : Value} (h : o + 6 ≤ l.length) : ((((((l.set o a).set (o + 1) b).set (o + 2) c).set (o + 3) d).set (o + 4) e).set (o + 5) f).take (o + 6) = l.take o ++ [a, b, c, d, e, f] := by
  have h1 := take_set3 (l := ((l.set o a).set (o + 1) b).set (o + 2) c) (o := o + 3) (a := d) (b := e) (c := f) (by simp; omega)
  have h2 := take_set3 (l := l) (o := o) (a := a) (b := b) (c := c) (by omega)
  rw [h2] at h1
  rw [List.append_assoc] at h1
  exact h1
end Go.Lb
namespace Go.Proofs.Ytgjjkodlmhmjgaa
open Go.Sort Go.ChangeShapes Go.WideShapes Go.ChangeAt Go.RowKit Go.Lb

set_option maxHeartbeats 1000000 in
theorem eqZoneS_c (xs : List Z) (x : Value) (ys : List Z) (y : Value) (w : World) {l1 h1 l2 h2 : Nat} (hx : RdZ w l1 h1 x xs) (hh1 : h1 ≤ w.heap.size) (hy : RdZ w l2 h2 y ys) (hh2 : h2 ≤ w.heap.size) :
    Calls Try.prog 49 #[x, y] w fun e w' => e = .returned (.bool (eqd xs ys)) ∧ Below w.heap.size w w' := by
  obtain ⟨A, c, rfl, hl, hl2⟩ := hx.form
  obtain ⟨A', c', rfl, hl', hl2'⟩ := hy.form
  by_cases hlen : xs.length = ys.length
  · have Hlen := Lib.hid hlen
    have hlb : ((xs.length : Int) != (ys.length : Int)) = false := by simp [hlen]
    rw [← hlen] at hl'
    clear hlen
    go_enter Try.func49, Try.ntmps49
    go_wp2_with fail
    go_loopw [5] (fun i wr => ∃ (k : Nat), i = .int .i64 k ∧ k ≤ xs.length ∧ xs.take k = ys.take k ∧ Below w.heap.size w wr) (fun i _ => xs.length - (intOf i).toNat)
    case atStart => exact ⟨0, by simp, by omega, by simp, Below.refl _ _⟩
    case round =>
      obtain ⟨k, rfl, hk, htk, hb⟩ := hrel
      have Htk := Lib.hid htk
      clear htk
      by_cases hkl : k < xs.length
      · obtain ⟨b, off, u, rfl, -, hbl, huk, e0, e1, e2, e3, e4, e5⟩ := (hx.below hb hh1).at hkl
        obtain ⟨b', off', u', rfl, -, hbl', huk', f0, f1, f2, f3, f4, f5⟩ := (hy.below hb hh2).at (Hlen.out ▸ hkl)
        have Hs := Lib.hid (eq_of_drop Hlen.out Htk.out huk huk')
        have hkl' : k < ys.length := Hlen.out ▸ hkl
        clear huk huk'
        have hC := Lib.hid (fun W => eqZone_c u u' W)
        by_cases hu : u = u'
        · have hd : eqd u u' = true := eqd_of hu
          rw [hd] at hC
          have Hs1 := Lib.hid (Hs.out.1 hu)
          clear hu Hs hd
          go_wp2_with fail
          have q_0 := cell_regrown (w := wr) e0
          have q_1 := cell_regrown (w := wr) e1
          have q_2 := cell_regrown (w := wr) e2
          have q_3 := cell_regrown (w := wr) e3
          have q_4 := cell_regrown (w := wr) e4
          have q_5 := cell_regrown (w := wr) e5
          have q_6 := cell_regrown (w := wr) f0
          have q_7 := cell_regrown (w := wr) f1
          have q_8 := cell_regrown (w := wr) f2
          have q_9 := cell_regrown (w := wr) f3
          have q_10 := cell_regrown (w := wr) f4
          have q_11 := cell_regrown (w := wr) f5
          refine wp_region_quiet_below (by kernel_rfl) (by kernel_rfl) ?_
          repeat (go_big_quiet_step (first | (go_at_call 116; exact Calls.regrown_of (hC.out _))))
          refine wpQuiet_nil ?_
          intro wq hw'
          obtain ⟨⟨dq, osq⟩, hw''⟩ := hw'
          have hbq := below_regrown wr dq osq
          rw [← hw''] at hbq
          clear hw''
          clear q_0 q_1 q_2 q_3 q_4 q_5 q_6 q_7 q_8 q_9 q_10 q_11
          go_wp2_with fail
          go_roundw
          case rel => exact ⟨k + 1, by go_num, by omega, Hs1.out, hb.trans (hbq.mono hb.size)⟩
          case measure => simp [intOf]; omega
        · have hd : eqd u u' = false := eqd_no hu
          rw [hd] at hC
          have H := Lib.hid (eqd_no (Hs.out.2 hu))
          clear hu Hs hd
          go_wp2_with fail
          have q_0 := cell_regrown (w := wr) e0
          have q_1 := cell_regrown (w := wr) e1
          have q_2 := cell_regrown (w := wr) e2
          have q_3 := cell_regrown (w := wr) e3
          have q_4 := cell_regrown (w := wr) e4
          have q_5 := cell_regrown (w := wr) e5
          have q_6 := cell_regrown (w := wr) f0
          have q_7 := cell_regrown (w := wr) f1
          have q_8 := cell_regrown (w := wr) f2
          have q_9 := cell_regrown (w := wr) f3
          have q_10 := cell_regrown (w := wr) f4
          have q_11 := cell_regrown (w := wr) f5
          refine wp_region_quiet_below (by kernel_rfl) (by kernel_rfl) ?_
          repeat (go_big_quiet_step (first | (go_at_call 116; exact Calls.regrown_of (hC.out _))))
          refine wpQuiet_nil ?_
          intro wq hw'
          obtain ⟨⟨dq, osq⟩, hw''⟩ := hw'
          have hbq := below_regrown wr dq osq
          rw [← hw''] at hbq
          clear hw''
          clear q_0 q_1 q_2 q_3 q_4 q_5 q_6 q_7 q_8 q_9 q_10 q_11
          go_wp2_with fail
          go_ret
          exact ⟨ret_bool H.out.symm, hb.trans (hbq.mono hb.size)⟩
      · have H := Lib.hid (show eqd xs ys = true by
          have h := Htk.out
          rw [List.take_of_length_le (by omega), List.take_of_length_le (by have := Hlen.out; omega)] at h
          exact eqd_of h)
        go_wp2_with fail
        go_ret
        exact ⟨ret_bool H.out.symm, hb⟩
  · have hlb : ((xs.length : Int) != (ys.length : Int)) = true := by simp; omega
    have H := Lib.hid (eqd_no fun h : xs = ys => hlen (by rw [h]))
    clear hlen
    go_enter Try.func49, Try.ntmps49
    go_wp2_with fail
    go_ret
    exact ⟨ret_bool H.out.symm, Below.refl _ _⟩
theorem marksV_two (k : Int) (n : Nat) : marksV k (2 * (n + 1)) = marksV k (2 * n) ++ [.int .i64 (k + 6 * n), .int .i64 (k + 6 * n + 1), .string (mkText (k + 6 * n + 2)), .int .i64 (k + 6 * n + 3), .int .i64 (k + 6 * n + 4), .string (mkText (k + 6 * n + 5))] := by
  rw [show 2 * (n + 1) = 2 * n + 1 + 1 by omega, marksV_succ, marksV_succ, List.append_assoc]
  congr 1
  simp only [markV, List.cons_append, List.nil_append]
  have h1 : k + 3 * ((2 * n : Nat) : Int) = k + 6 * n := by omega
  have h2 : k + 3 * ((2 * n + 1 : Nat) : Int) = k + 6 * n + 3 := by omega
  rw [h1, h2, show k + 6 * (n : Int) + 3 + 1 = k + 6 * n + 4 by omega, show k + 6 * (n : Int) + 3 + 2 = k + 6 * n + 5 by omega]
theorem marksZ_get (k : Int) (n i j : Nat) (hi : i < n) (hj : j < 6) : (marksV k (2 * n))[i * 6 + j]? = ([.int .i64 (k + 6 * i), .int .i64 (k + 6 * i + 1), .string (mkText (k + 6 * i + 2)), .int .i64 (k + 6 * i + 3), .int .i64 (k + 6 * i + 4), .string (mkText (k + 6 * i + 5))] : List Value)[j]? := by
  induction n with
  | zero => omega
  | succ n ih =>
    rw [marksV_two]
    by_cases h : i < n
    · rw [List.getElem?_append_left (by rw [marksV_len]; omega)]
      exact ih h
    · obtain rfl : i = n := by omega
      rw [List.getElem?_append_right (by rw [marksV_len]; omega), marksV_len, show i * 6 + j - 2 * i * 3 = j by omega]
def marksZ (k : Int) (n : Nat) : List Value := marksV k (2 * n)
set_option maxRecDepth 20000 in
set_option maxHeartbeats 2000000 in
theorem markZs_c (x : Value) (n : Nat) (cs : List Value) (k : Int) (w : World) {lo hi : Nat} (hown : Own 141 6 w lo hi x n cs) (hk0 : 1 ≤ k) (hk : k + 6 * n ≤ 100000000) :
    Calls Try.prog 50 #[x, .int .i64 k] w fun e w' => e = .returned (.int .i64 (k + 6 * n)) ∧ Own 141 6 w' lo hi x n (marksV k (2 * n)) ∧ Chg lo hi w w' := by
  have hx := hown.1
  have hlt := Lib.hid hown.2
  clear hown
  rcases hx.2 with ⟨rfl, rfl⟩ | ⟨g, cap, cur, rfl, hlo, hcur, hnc, hcm, hsz, -⟩
  · go_enter Try.func50, Try.ntmps50
    go_wp2_with fail
    go_loop [5, 1] (fun i q => i = .int .i64 0 ∧ q = .int .i64 k) (fun _ _ => 0)
    case atStart => exact ⟨rfl, rfl⟩
    case round =>
      obtain ⟨rfl, rfl⟩ := hrel
      go_wp2_with fail
      go_ret
      exact ⟨by simp, ⟨⟨rfl, .inl ⟨rfl, rfl⟩⟩, hlt.out⟩, Chg.refl _ _ _⟩
  · unfold maxLen at hcm
    have Hcm := Lib.hid (show cap ≤ maxLen by unfold maxLen; omega)
    have Hcur := Lib.hid hcur
    have Hsz := Lib.hid hsz
    clear hcur hsz hx
    go_enter Try.func50, Try.ntmps50
    go_wp2_with fail
    go_loopw [5, 1] (fun i q wr => ∃ (j : Nat) (cu : Array Value), i = .int .i64 j ∧ j ≤ n ∧ q = .int .i64 (k + 6 * j) ∧ wr.heap[g]? = some (.cells cu 141 (0, 0)) ∧ cu.size = cap * 6 ∧ cu.toList.take (j * 6) = marksV k (2 * j) ∧ w.grownBy wr (some g)) (fun i _ _ => n - (intOf i).toNat)
    case atStart => exact ⟨0, cur, by simp, by omega, by simp, Hcur.out, Hsz.out, by simp [marksV], World.grownBy.refl w _⟩
    case round =>
      obtain ⟨j, cu, rfl, hj, rfl, hcu, hcs, htk, hg⟩ := hrel
      have Hcu := Lib.hid hcu
      have Hcs := Lib.hid hcs
      have Htk := Lib.hid htk
      clear hcu hcs htk
      by_cases hjn : j < n
      · have k0 := cell_of_row wr g (j * 6) cu _ _ Hcu.out
        have k1 := cell_of_row wr g (j * 6 + 1) cu _ _ Hcu.out
        have f0 := fun o => frozen_of_row wr g o cu _ Hcu.out
        rw [Array.getElem?_eq_getElem (by rw [Hcs.out]; omega)] at k0 k1
        go_wp2_with fail
        refine (markText_c _ _ (by omega)).mono ?_
        rintro e w1 ⟨rfl, hb1⟩
        have hgl : g < wr.heap.size := (Array.getElem?_eq_some_iff.1 Hcu.out).1
        have Hc1 := Lib.hid ((hb1.block g (by simpa [World.setCell] using hgl)).trans (set2 (o := j * 6) (p := j * 6 + 1) (a := .int .i64 (k + 6 * j)) (b := .int .i64 (k + 6 * j + 1)) Hcu.out))
        have hg1 := grown_below (grown_set (grown_set hg (j * 6) (.int .i64 (k + 6 * j))) (j * 6 + 1) (.int .i64 (k + 6 * j + 1))) hb1
        clear k0 k1 f0 hb1
        have k2 := cell_of_row w1 g (j * 6 + 2) _ _ _ Hc1.out
        have k3 := cell_of_row w1 g (j * 6 + 3) _ _ _ Hc1.out
        have k4 := cell_of_row w1 g (j * 6 + 4) _ _ _ Hc1.out
        have f2 := fun o => frozen_of_row w1 g o _ _ Hc1.out
        rw [Array.getElem?_eq_getElem (by simp only [Array.size_setIfInBounds]; rw [Hcs.out]; omega)] at k2 k3 k4
        go_wp2_with fail
        refine (markText_c _ _ (by omega)).mono ?_
        rintro e w2 ⟨rfl, hb2⟩
        have hgl1 : g < w1.heap.size := (Array.getElem?_eq_some_iff.1 Hc1.out).1
        have Hc2 := Lib.hid ((hb2.block g (by simpa [World.setCell] using hgl1)).trans (set3 (o := j * 6 + 2) (a := .string (mkText (k + 6 * j + 1 + 1))) (b := .int .i64 (k + 6 * j + 1 + 1 + 1)) (c := .int .i64 (k + 6 * j + 1 + 1 + 1 + 1)) Hc1.out))
        have hg2 := grown_below (grown_set (grown_set (grown_set hg1 (j * 6 + 2) (.string (mkText (k + 6 * j + 1 + 1)))) (j * 6 + 2 + 1) (.int .i64 (k + 6 * j + 1 + 1 + 1))) (j * 6 + 2 + 2) (.int .i64 (k + 6 * j + 1 + 1 + 1 + 1))) hb2
        clear k2 k3 k4 f2 hb2
        have k5 := cell_of_row w2 g (j * 6 + 5) _ _ _ Hc2.out
        have f5 := frozen_of_row w2 g (j * 6 + 5) _ _ Hc2.out
        rw [Array.getElem?_eq_getElem (by simp only [Array.size_setIfInBounds]; rw [Hcs.out]; omega)] at k5
        go_wp2_with fail
        go_roundw
        case rel =>
          refine ⟨j + 1, _, by go_num, by omega, congrArg (Value.int .i64) (by omega), set1 Hc2.out, by simpa using Hcs.out, ?_, grown_set hg2 _ _⟩
          simp only [Array.toList_setIfInBounds]
          rw [show (j + 1) * 6 = j * 6 + 6 by omega]
          refine (take_set6 (by rw [Array.length_toList, Hcs.out]; omega)).trans ?_
          rw [Htk.out, marksV_two, show k + 6 * (j : Int) + 1 + 1 + 1 + 1 + 1 = k + 6 * j + 5 by omega, show k + 6 * (j : Int) + 1 + 1 + 1 + 1 = k + 6 * j + 4 by omega, show k + 6 * (j : Int) + 1 + 1 + 1 = k + 6 * j + 3 by omega, show k + 6 * (j : Int) + 1 + 1 = k + 6 * j + 2 by omega]
        case measure => simp [intOf]; omega
      · obtain rfl : j = n := by omega
        go_wp2_with fail
        go_ret
        exact ⟨rfl, ⟨⟨by rw [marksV_len]; omega, .inr ⟨g, cap, cu, rfl, hlo, Hcu.out, hnc, Hcm.out, Hcs.out, Htk.out⟩⟩, hlt.out⟩, .of_grown hg fun g' e => by injection e with e; subst e; exact ⟨hlo, hlt.out g rfl⟩⟩
set_option maxRecDepth 20000 in
set_option maxHeartbeats 2000000 in
theorem heldZs_c (x : Value) (n : Nat) (k : Int) (w : World) {lo hi e : Nat} (hx : Own e 6 w lo hi x n (marksV k (2 * n))) (hhi : hi ≤ w.heap.size) (hk0 : 1 ≤ k) (hk : k + 6 * n ≤ 100000000) :
    Calls Try.prog 51 #[x, .int .i64 k] w fun e w' => e = .returned (.int .i64 (k + 6 * n)) ∧ Below w.heap.size w w' := by
  obtain ⟨A, c, rfl, hnc, hcm, hc⟩ := hx.cells
  unfold maxLen at hcm
  have Hc := Lib.hid hc
  clear hc hx
  go_enter Try.func51, Try.ntmps51
  go_wp2_with fail
  go_loopw [5, 1] (fun i q wr => ∃ (j : Nat), i = .int .i64 j ∧ j ≤ n ∧ q = .int .i64 (k + 6 * j) ∧ Below w.heap.size w wr) (fun i _ _ => n - (intOf i).toNat)
  case atStart => exact ⟨0, by simp, by omega, by simp, Below.refl _ _⟩
  case round =>
    obtain ⟨j, rfl, hj, rfl, hb⟩ := hrel
    by_cases hjn : j < n
    · obtain ⟨b, off, rfl, -, hbl, he⟩ := Hc.out j hjn
      have hE : ∀ i, i < 6 → wr.cell? ⟨b, off + j * 6 + i, none⟩ = _ := fun i hi6 => (hb.cell (p := ⟨b, _, none⟩) (Nat.lt_of_lt_of_le hbl hhi)).trans ((he i hi6).trans (marksZ_get k n j i hjn hi6))
      have e0 : wr.cell? ⟨b, off + j * 6, none⟩ = some (.int .i64 (k + 6 * j)) := hE 0 (by omega)
      have e1 : wr.cell? ⟨b, off + j * 6 + 1, none⟩ = some (.int .i64 (k + 6 * j + 1)) := hE 1 (by omega)
      have e2 : wr.cell? ⟨b, off + j * 6 + 2, none⟩ = some (.string (mkText (k + 6 * j + 1 + 1))) := by rw [show k + 6 * (j : Int) + 1 + 1 = k + 6 * j + 2 by omega]; exact hE 2 (by omega)
      have e3 : wr.cell? ⟨b, off + j * 6 + 3, none⟩ = some (.int .i64 (k + 6 * j + 1 + 1 + 1)) := by rw [show k + 6 * (j : Int) + 1 + 1 + 1 = k + 6 * j + 3 by omega]; exact hE 3 (by omega)
      have e4 : wr.cell? ⟨b, off + j * 6 + 4, none⟩ = some (.int .i64 (k + 6 * j + 1 + 1 + 1 + 1)) := by rw [show k + 6 * (j : Int) + 1 + 1 + 1 + 1 = k + 6 * j + 4 by omega]; exact hE 4 (by omega)
      have e5 : wr.cell? ⟨b, off + j * 6 + 5, none⟩ = some (.string (mkText (k + 6 * j + 1 + 1 + 1 + 1 + 1))) := by rw [show k + 6 * (j : Int) + 1 + 1 + 1 + 1 + 1 = k + 6 * j + 5 by omega]; exact hE 5 (by omega)
      clear he hE
      have hbw : b < wr.heap.size := Nat.lt_of_lt_of_le (Nat.lt_of_lt_of_le hbl hhi) hb.size
      go_wp2_with fail
      go_region_held3 (fun w' => w'.cell? ⟨b, off + j * 6 + 2, none⟩ = some (.string (mkText (k + 6 * j + 1 + 1))) ∧ Below wr.heap.size wr w') (first | exact ⟨e2, (Below.refl _ _).drew⟩ | exact ⟨(hb1.cell (p := ⟨b, _, none⟩) hbw).trans e2, (Below.refl _ _).drew.trans hb1⟩) (first | (go_at_call 110; refine (markText_c _ _ (by omega)).mono ?_; rintro e w1 ⟨rfl, hb1⟩))
      have hb2 : Below wr.heap.size wr w1 := (Below.refl _ _).drew.trans hb1
      replace e3 := (hb2.cell (p := ⟨b, _, none⟩) hbw).trans e3
      replace e4 := (hb2.cell (p := ⟨b, _, none⟩) hbw).trans e4
      replace e5 := (hb2.cell (p := ⟨b, _, none⟩) hbw).trans e5
      have hbw1 : b < w1.heap.size := Nat.lt_of_lt_of_le hbw hb2.size
      have Hb2 := Lib.hid hb2
      clear e0 e1 e2 hb1 hb2
      go_wp2_with fail
      go_region_held3 (fun w' => w'.cell? ⟨b, off + j * 6 + 5, none⟩ = some (.string (mkText (k + 6 * j + 1 + 1 + 1 + 1 + 1))) ∧ Below w1.heap.size w1 w') (first | exact ⟨e5, (Below.refl _ _).drew⟩ | exact ⟨(hb3.cell (p := ⟨b, _, none⟩) hbw1).trans e5, (Below.refl _ _).drew.trans hb3⟩) (first | (go_at_call 110; refine (markText_c _ _ (by omega)).mono ?_; rintro e w2 ⟨rfl, hb3⟩))
      have hb4 : Below w1.heap.size w1 w2 := (Below.refl _ _).drew.trans hb3
      have hb5 := hb.trans ((Hb2.out.trans (hb4.mono Hb2.out.size)).mono hb.size)
      clear e3 e4 e5
      go_wp2_with fail
      go_roundw
      case rel => exact ⟨j + 1, by go_num, by omega, congrArg (Value.int .i64) (by omega), hb5⟩
      case measure => simp [intOf]; omega
    · obtain rfl : j = n := by omega
      go_wp2_with fail
      go_ret
      exact ⟨rfl, hb⟩
theorem markZoneS_c (x : Value) (l : List Z) (k : Int) (w : World) {lo hi : Nat} (hown : Own 141 6 w lo hi x l.length (l.flatMap Z.cells)) (hk0 : 1 ≤ k) (hk : k + 6 * (l.length : Nat) ≤ 100000000) :
    Calls Try.prog 50 #[x, .int .i64 k] w fun e w' => e = .returned (.int .i64 (k + 6 * (l.length : Nat))) ∧ Own 141 6 w' lo hi x l.length (marksZ k l.length) ∧ Chg lo hi w w' := markZs_c x l.length _ k w hown hk0 hk
theorem heldZoneS_c (x : Value) (l : List Z) (k : Int) (w : World) {lo hi e : Nat} (hx : Own e 6 w lo hi x l.length (marksZ k l.length)) (hhi : hi ≤ w.heap.size) (hk0 : 1 ≤ k) (hk : k + 6 * (l.length : Nat) ≤ 100000000) :
    Calls Try.prog 51 #[x, .int .i64 k] w fun e w' => e = .returned (.int .i64 (k + 6 * (l.length : Nat))) ∧ Below w.heap.size w w' := heldZs_c x l.length k w hx hhi hk0 hk
end Go.Proofs.Ytgjjkodlmhmjgaa
