/- The laws' helpers for zones: contracts. -/
import Derived.Test.YtjogkbkkcaljhaaGreatDoorXL
import Derived.Test.YtjogkbkkcaljhaaGreatDoorXA
import Derived.Test.YtjogkbkkcaljhaaGreatDoorS27
import Derived.Test.YtjogkbkkcaljhaaGreatDoorZ1
import Derived.Test.YtjogkbkkcaljhaaGreatDoorZ2
namespace Go.Proofs.YtjogkbkkcaljhaaGreatDoor
open Go.ChangeShapes Go.WideShapes Go.ChangeAt Go.RowKit Go.Lb

def szZone (z : Z) (left : Int) : Int := if szVal z.lo left < 0 then -1 else if szVal z.hi (szVal z.lo left) < 0 then -1 else szVal z.hi (szVal z.lo left)
theorem szZone_le (z : Z) (left : Int) (h0 : 0 ≤ left) (h : left ≤ 1048576) : szZone z left ≤ 1048576 := by
  have h1 := szVal_le z.lo left h0 h
  unfold szZone
  split
  · omega
  · have h2 := szVal_le z.hi (szVal z.lo left) (by omega) h1
    split <;> omega
theorem szZone_bd (z : Z) (left : Int) (_h0 : 0 ≤ left) (_h : left ≤ 1048576) : ¬ szZone z left < 0 → True := fun _ => trivial

end Go.Proofs.YtjogkbkkcaljhaaGreatDoor
namespace Go.Proofs.YtjogkbkkcaljhaaGreatDoor
open Go.ChangeShapes Go.WideShapes Go.ChangeAt Go.RowKit Go.Lb

def dig8 (j : Nat) : UInt8 := UInt8.ofNat (48 + j % 10)
theorem dig8_nat (j : Nat) : (dig8 j).toNat = 48 + j % 10 := by unfold dig8; simp; omega
def mtD (k : Nat) (acc : List UInt8) : List UInt8 :=
  if k = 0 then acc else mtD (k / 10) (dig8 k :: acc)
termination_by k
decreasing_by omega
theorem mtD_zero (acc : List UInt8) : mtD 0 acc = acc := by rw [mtD]; simp
theorem mtD_step {k : Nat} (h : k ≠ 0) (acc : List UInt8) : mtD k acc = mtD (k / 10) (dig8 k :: acc) := by rw [mtD, if_neg h]
def mkText (k : Int) : ByteArray := if k ≤ 0 then ⟨#[109, 48]⟩ else ⟨(109 :: mtD k.toNat []).toArray⟩

set_option maxRecDepth 20000 in
set_option maxHeartbeats 1000000 in
theorem markText_c (k : Int) (w : World) (hk : k ≤ 10000000000000) :
    Calls Tryz.prog 57 #[.int .i64 k] w fun e w' => e = .returned (.string (mkText k)) ∧ Below w.heap.size w w' := by
  by_cases h0 : k ≤ 0
  · have H := Lib.hid (show mkText k = ⟨#[109, 48]⟩ by simp [mkText, h0])
    go_enter Tryz.func57, Tryz.ntmps57
    go_wp2_with fail
    go_ret
    exact ⟨ret_string H.out.symm, Below.refl _ _⟩
  · have H := Lib.hid (show mkText k = ⟨(109 :: mtD k.toNat []).toArray⟩ by simp [mkText, h0])
    go_enter Tryz.func57, Tryz.ntmps57
    go_wp2_with fail
    go_loopw [0, 3] (fun i s wr => ∃ (j : Nat) (acc : List UInt8), i = .int .i64 j ∧ acc.length + j ≤ 10000000000000 ∧ s = .string ⟨acc.toArray⟩ ∧ mtD k.toNat [] = mtD j acc ∧ Below w.heap.size w wr) (fun i _ _ => (intOf i).toNat)
    case atStart => exact ⟨k.toNat, [], by rw [Int.toNat_of_nonneg (by omega)], by simp; omega, rfl, rfl, Below.refl _ _⟩
    case round =>
      obtain ⟨j, acc, rfl, hj, rfl, hmt, hb⟩ := hrel
      have Hm := Lib.hid hmt
      clear hmt
      by_cases hj0 : 0 < j
      · have hcv : (convert 36 9 (.slice (some ⟨wr.heap.size, 0, none⟩) 1 1)).run Tryz.prog (wr.alloc (.cells #[Value.int .u8 (48 + (j : Int) % 10)] 5)) = .ok (.string ⟨#[dig8 j]⟩) (wr.alloc (.cells #[Value.int .u8 (48 + (j : Int) % 10)] 5)) :=
          conv_bytes Tryz.underlying36 Tryz.underlying5 Tryz.underlying9 _ _ 0 1 1 [dig8 j] rfl (fun i x hx => by
            match i, hx with
            | 0, hx =>
              simp at hx
              subst hx
              have e : ((dig8 j).toNat : Int) = 48 + (j : Int) % 10 := by rw [dig8_nat]; omega
              rw [e]
              exact cell_of_row _ _ 0 _ _ _ (heap_alloc_new wr _))
        have Hs := Lib.hid (mtD_step (show j ≠ 0 by omega) acc)
        go_wp2_with fail
        go_roundw
        case rel => exact ⟨j / 10, dig8 j :: acc, by go_num, by simp; omega, congrArg Value.string (ba_append [dig8 j] acc), by rw [Hm.out, Hs.out], hb.alloc hb.size _⟩
        case measure => simp [intOf]; omega
      · go_wp2_with fail
        go_ret
        exact ⟨ret_string (by rw [H.out, Hm.out, show j = 0 by omega, mtD_zero]; exact ba_append [109] acc), hb⟩
def markV (k : Int) (i : Nat) : List Value := [.int .i64 (k + 3 * i), .int .i64 (k + 3 * i + 1), .string (mkText (k + 3 * i + 2))]
def marksV (k : Int) (n : Nat) : List Value := (List.range n).flatMap (markV k)
theorem marksV_succ (k : Int) (n : Nat) : marksV k (n + 1) = marksV k n ++ markV k n := by simp [marksV, List.range_succ]
theorem marksV_len (k : Int) (n : Nat) : (marksV k n).length = n * 3 := by unfold marksV; rw [flat_len _ 3 (fun _ => rfl), List.length_range]
theorem marksV_get (k : Int) (n i j : Nat) (hi : i < n) (hj : j < 3) : (marksV k n)[i * 3 + j]? = (markV k i)[j]? := flat_get _ 3 (fun _ => rfl) _ i j i (by simp [hi]) hj

end Go.Proofs.YtjogkbkkcaljhaaGreatDoor
namespace Go.Proofs.YtjogkbkkcaljhaaGreatDoor
open Go.ChangeShapes Go.WideShapes Go.ChangeAt Go.RowKit Go.Lb

end Go.Proofs.YtjogkbkkcaljhaaGreatDoor
namespace Go.Lb
open Go.RowKit
theorem Z.cells_len (z : Z) : z.cells.length = 6 := rfl
/-- A slice that reads as a list of zones. -/
def RdZ (w : World) (lo hi : Nat) (v : Value) (l : List Z) : Prop := RdG lo hi 6 v l.length fun k b o => ∃ z, l[k]? = some z ∧ VAt w b o z.lo ∧ VAt w b (o + 3) z.hi
section
variable {w w' : World} {lo hi lo' hi' : Nat} {v : Value} {A : Option Addr} {n c k e : Nat}
theorem RdZ.same {l : List Z} (h : RdZ w lo hi v l) (hs : Same lo hi w w') : RdZ w' lo hi v l := h.imp (Nat.le_refl _) (Nat.le_refl _) fun _ _ _ hl hh ⟨x, hx, hv, hv2⟩ => ⟨x, hx, hv.same hs hl hh, hv2.same hs hl hh⟩
theorem RdZ.more {l : List Z} (h : RdZ w lo hi v l) (h1 : lo' ≤ lo) (h2 : hi ≤ hi') : RdZ w lo' hi' v l := h.imp h1 h2 fun _ _ _ _ _ h => h
theorem RdZ.below {B : Nat} {l : List Z} (h : RdZ w lo hi v l) (hb : Below B w w') (hB : hi ≤ B) : RdZ w' lo hi v l := h.same (.of_below hb hB)
theorem RdZ.at {l : List Z} (h : RdZ w lo hi (.slice A n c) l) (hk : k < n) : ∃ b off z, A = some ⟨b, off, none⟩ ∧ lo ≤ b ∧ b < hi ∧ l[k]? = some z ∧ w.cell? ⟨b, off + k * 6, none⟩ = some (.int .i64 z.lo.ty) ∧ w.cell? ⟨b, off + k * 6 + 1, none⟩ = some (.int .i64 z.lo.n) ∧ w.cell? ⟨b, off + k * 6 + 2, none⟩ = some (.string z.lo.s)
    ∧ w.cell? ⟨b, off + k * 6 + 3, none⟩ = some (.int .i64 z.hi.ty) ∧ w.cell? ⟨b, off + k * 6 + 4, none⟩ = some (.int .i64 z.hi.n) ∧ w.cell? ⟨b, off + k * 6 + 5, none⟩ = some (.string z.hi.s) := by
  obtain ⟨A', c', e, _, _, h⟩ := h
  injection e with e1 e2 e3
  subst e1
  obtain ⟨b, off, h1, h2, h3, x, hx, hv, hv2⟩ := h k (by omega)
  exact ⟨b, off, x, h1, h2, h3, hx, hv.1, hv.2.1, hv.2.2, hv2.1, hv2.2.1, hv2.2.2⟩
theorem Own.rdZ {l : List Z} (h : Own e 6 w lo hi v l.length (l.flatMap Z.cells)) : RdZ w lo hi v l := by
  obtain ⟨A, c, h1, h2, h3, h4⟩ := h.cells
  refine ⟨A, c, h1, h2, h3, fun k hk => ?_⟩
  obtain ⟨b, off, ha, hl, hh, hc⟩ := h4 k hk
  refine ⟨b, off, ha, hl, hh, l[k], List.getElem?_eq_getElem hk, ?_⟩
  have hg : ∀ j, j < 6 → w.cell? ⟨b, off + k * 6 + j, none⟩ = (Z.cells l[k])[j]? := fun j hj => (hc j hj).trans (flat_get Z.cells 6 Z.cells_len l k j _ (List.getElem?_eq_getElem hk) hj)
  exact ⟨⟨hg 0 (by omega), hg 1 (by omega), hg 2 (by omega)⟩, ⟨hg 3 (by omega), hg 4 (by omega), hg 5 (by omega)⟩⟩
end
theorem take_set6 {l : List Value} {o : Nat} {a b c d e f : Value} (h : o + 6 ≤ l.length) : ((((((l.set o a).set (o + 1) b).set (o + 2) c).set (o + 3) d).set (o + 4) e).set (o + 5) f).take (o + 6) = l.take o ++ [a, b, c, d, e, f] := by
  have h1 := take_set3 (l := ((l.set o a).set (o + 1) b).set (o + 2) c) (o := o + 3) (a := d) (b := e) (c := f) (by simp; omega)
  have h2 := take_set3 (l := l) (o := o) (a := a) (b := b) (c := c) (by omega)
  rw [h2] at h1
  rw [List.append_assoc] at h1
  exact h1
end Go.Lb
namespace Go.Proofs.YtjogkbkkcaljhaaGreatDoor
open Go.Sort Go.ChangeShapes Go.WideShapes Go.ChangeAt Go.RowKit Go.Lb

theorem marksV_two (k : Int) (n : Nat) : marksV k (2 * (n + 1)) = marksV k (2 * n) ++ [.int .i64 (k + 6 * n), .int .i64 (k + 6 * n + 1), .string (mkText (k + 6 * n + 2)), .int .i64 (k + 6 * n + 3), .int .i64 (k + 6 * n + 4), .string (mkText (k + 6 * n + 5))] := by
  rw [show 2 * (n + 1) = 2 * n + 1 + 1 by omega, marksV_succ, marksV_succ, List.append_assoc]
  congr 1
  simp only [markV, List.cons_append, List.nil_append]
  have h1 : k + 3 * ((2 * n : Nat) : Int) = k + 6 * n := by omega
  have h2 : k + 3 * ((2 * n + 1 : Nat) : Int) = k + 6 * n + 3 := by omega
  rw [h1, h2, show k + 6 * (n : Int) + 3 + 1 = k + 6 * n + 4 by omega, show k + 6 * (n : Int) + 3 + 2 = k + 6 * n + 5 by omega]
theorem marksZ_get (k : Int) (n i j : Nat) (hi : i < n) (hj : j < 6) : (marksV k (2 * n))[i * 6 + j]? = ([.int .i64 (k + 6 * i), .int .i64 (k + 6 * i + 1), .string (mkText (k + 6 * i + 2)), .int .i64 (k + 6 * i + 3), .int .i64 (k + 6 * i + 4), .string (mkText (k + 6 * i + 5))] : List Value)[j]? := by
  induction n with
  | zero => omega
  | succ n ih =>
    rw [marksV_two]
    by_cases h : i < n
    · rw [List.getElem?_append_left (by rw [marksV_len]; omega)]
      exact ih h
    · obtain rfl : i = n := by omega
      rw [List.getElem?_append_right (by rw [marksV_len]; omega), marksV_len, show i * 6 + j - 2 * i * 3 = j by omega]
def marksZ (k : Int) (n : Nat) : List Value := marksV k (2 * n)
end Go.Proofs.YtjogkbkkcaljhaaGreatDoor
namespace Go.Proofs.YtjogkbkkcaljhaaGreatDoor
open Go.Sort Go.ChangeShapes Go.WideShapes Go.ChangeAt Go.RowKit Go.Lb

def zonesOf (l : List R) : List Z := match l with
  | [] => []
  | r :: _ => (List.range r.l.length).map fun k : Nat => zoneOf (column l (k : Int))
def zk (l : List R) (k : Nat) : Z := zoneOf (column l (k : Int))
theorem zonesOf_eq {l : List R} {r : R} (h : l[0]? = some r) : zonesOf l = (List.range r.l.length).map (zk l) := by
  cases l with
  | nil => simp at h
  | cons a t => simp at h; subst h; rfl
theorem zonesOf_len (l : List R) : (zonesOf l).length ≤ lensR l := by
  cases l with
  | nil => simp [zonesOf]
  | cons a t => simp [zonesOf, lensR]
def Zok (z : Z) : Prop := z.lo.s.size ≤ maxLen ∧ z.hi.s.size ≤ maxLen
end Go.Proofs.YtjogkbkkcaljhaaGreatDoor
