/- The laws' helpers for values: contracts. -/
import Derived.Test.YtjogkbkkcaljhaaGreatDoorXA
import Derived.Test.YtjogkbkkcaljhaaGreatDoorXV
namespace Go.Proofs.YtjogkbkkcaljhaaGreatDoor
open Go.ChangeShapes Go.WideShapes Go.ChangeAt Go.RowKit Go.Lb

def szV (k : Nat) (left : Int) : Int := if left - k < 0 then -1 else left - k
theorem szV_le (k : Nat) (left : Int) (h0 : 0 ≤ left) (h : left ≤ 1048576) : szV k left ≤ 1048576 := by unfold szV; split <;> omega

def szVal (x : V) (left : Int) : Int := szV x.s.size left
theorem szVal_le (x : V) (left : Int) (h0 : 0 ≤ left) (h : left ≤ 1048576) : szVal x left ≤ 1048576 := szV_le _ _ h0 h
theorem szVal_bd (x : V) (left : Int) (h0 : 0 ≤ left) (h : left ≤ 1048576) : ¬ szVal x left < 0 → x.s.size ≤ 1048576 := by unfold szVal szV; split <;> omega
def szVs : List V → Int → Int
  | [], l => l
  | v :: r, l => if szVal v l < 0 then -1 else szVs r (szVal v l)
theorem szVs_neg {x : V} {r : List V} {m : Int} (h : szVal x m < 0) : szVs (x :: r) m = -1 := by rw [szVs, if_pos h]
theorem szVs_pos {x : V} {r : List V} {m : Int} (h : ¬ szVal x m < 0) : szVs (x :: r) m = szVs r (szVal x m) := by rw [szVs, if_neg h]
def szValS (l : List V) (left : Int) : Int := if left - l.length < 0 then -1 else szVs l (left - l.length)
theorem szVs_le : ∀ (l : List V) (left : Int), 0 ≤ left → left ≤ 1048576 → szVs l left ≤ 1048576
  | [], left, _, h => h
  | x :: r, left, h0, h => by
    by_cases hn : szVal x left < 0
    · rw [szVs_neg hn]; omega
    · rw [szVs_pos hn]; exact szVs_le r _ (by omega) (szVal_le x left h0 h)
theorem szValS_le (l : List V) (left : Int) (h0 : 0 ≤ left) (h : left ≤ 1048576) : szValS l left ≤ 1048576 := by
  unfold szValS
  split
  · omega
  · exact szVs_le _ _ (by omega) (by omega)
theorem szValS_bd (l : List V) (left : Int) (h0 : 0 ≤ left) (h : left ≤ 1048576) : ¬ szValS l left < 0 → l.length ≤ 1048576 := by
  unfold szValS
  split <;> omega

theorem V.eq_iff (x y : V) : eqd x y = (x.ty == y.ty && (x.n == y.n && x.s.toList == y.s.toList)) := by
  unfold eqd
  rw [Bool.eq_iff_iff]
  simp only [decide_eq_true_eq, Bool.and_eq_true, beq_iff_eq, ByteArray.toList_eq]
  obtain ⟨a, b, ⟨⟨c⟩⟩⟩ := x
  obtain ⟨a', b', ⟨⟨c'⟩⟩⟩ := y
  simp

theorem eqVal_c (x y : V) (w : World) :
    Calls Tryz.prog 24 #[.agg #[.int .i64 x.ty, .int .i64 x.n, .string x.s], .agg #[.int .i64 y.ty, .int .i64 y.n, .string y.s]] w fun e w' => e = .returned (.bool (eqd x y)) ∧ Below w.heap.size w w' := by
  have H := Lib.hid (V.eq_iff x y)
  go_enter Tryz.func24, Tryz.ntmps24
  go_wp2
  all_goals
    go_ret
    exact ⟨ret_bool (by rw [H.out]; simp_all [bne]), by repeat (first | exact Below.refl _ _ | refine Below.alloc ?_ (by simp) _)⟩

end Go.Proofs.YtjogkbkkcaljhaaGreatDoor
namespace Go.Proofs.YtjogkbkkcaljhaaGreatDoor
open Go.ChangeShapes Go.WideShapes Go.ChangeAt Go.RowKit Go.Lb

theorem info_val : (Tryz.prog.info? 24).map (fun i => (i.zero, i.size, i.bytes)) = some (some (.agg #[.int .i64 0, .int .i64 0, .string ⟨#[]⟩]), 3, 32) := by kernel_rfl

end Go.Proofs.YtjogkbkkcaljhaaGreatDoor
namespace Go.Proofs.YtjogkbkkcaljhaaGreatDoor
open Go.ChangeShapes Go.WideShapes Go.ChangeAt Go.RowKit Go.Lb

theorem eq_of_drop {α : Type} [DecidableEq α] {xs ys : List α} {k : Nat} {x y : α} (hl : xs.length = ys.length) (ht : xs.take k = ys.take k) (hx : xs[k]? = some x) (hy : ys[k]? = some y) :
    (x = y → xs.take (k + 1) = ys.take (k + 1)) ∧ (x ≠ y → xs ≠ ys) := by
  refine ⟨fun h => ?_, fun h e => ?_⟩
  · rw [take_of_get hx, take_of_get hy, ht, h]
  · subst e
    rw [hx] at hy
    exact h (by injection hy)

theorem keep6 {w W w1 : World} {b o b' o' : Nat} {u0 u1 u2 u0' u1' u2' : Value} (hb : b < w.heap.size) (hb' : b' < w.heap.size)
    (h : (W.cell? ⟨b, o, none⟩ = some u0 ∧ W.cell? ⟨b, o + 1, none⟩ = some u1 ∧ W.cell? ⟨b, o + 2, none⟩ = some u2) ∧ (W.cell? ⟨b', o', none⟩ = some u0' ∧ W.cell? ⟨b', o' + 1, none⟩ = some u1' ∧ W.cell? ⟨b', o' + 2, none⟩ = some u2') ∧ Below w.heap.size w W) (h1 : Below W.heap.size W w1) :
    (w1.cell? ⟨b, o, none⟩ = some u0 ∧ w1.cell? ⟨b, o + 1, none⟩ = some u1 ∧ w1.cell? ⟨b, o + 2, none⟩ = some u2) ∧ (w1.cell? ⟨b', o', none⟩ = some u0' ∧ w1.cell? ⟨b', o' + 1, none⟩ = some u1' ∧ w1.cell? ⟨b', o' + 2, none⟩ = some u2') ∧ Below w.heap.size w w1 := by
  obtain ⟨⟨h2, h3, h4⟩, ⟨h5, h6, h7⟩, h8⟩ := h
  have hs := h8.size
  have k : ∀ o, w1.cell? ⟨b, o, none⟩ = W.cell? ⟨b, o, none⟩ := fun o => h1.cell (p := ⟨b, o, none⟩) (by show b < _; omega)
  have k' : ∀ o, w1.cell? ⟨b', o, none⟩ = W.cell? ⟨b', o, none⟩ := fun o => h1.cell (p := ⟨b', o, none⟩) (by show b' < _; omega)
  simp only [k, k']
  exact ⟨⟨h2, h3, h4⟩, ⟨h5, h6, h7⟩, h8.trans (h1.mono hs)⟩

end Go.Proofs.YtjogkbkkcaljhaaGreatDoor
namespace Go.Proofs.YtjogkbkkcaljhaaGreatDoor
open Go.Sort Go.ChangeShapes Go.WideShapes Go.ChangeAt Go.RowKit Go.Lb

theorem szVal_dec (x : V) (left : Int) (h : ¬ szVal x left < 0) : szVal x left ≤ left := by unfold szVal szV at *; split at h <;> first | omega | (split <;> omega)
theorem szVs_dec : ∀ (l : List V) (left : Int), ¬ szVs l left < 0 → szVs l left ≤ left
  | [], left, _ => Int.le_refl _
  | x :: r, left, h => by
    by_cases hn : szVal x left < 0
    · rw [szVs_neg hn] at h; omega
    · rw [szVs_pos hn] at h ⊢
      exact Int.le_trans (szVs_dec r _ h) (szVal_dec x left hn)
theorem szValS_dec (l : List V) (left : Int) (h : ¬ szValS l left < 0) : szValS l left ≤ left - l.length ∧ 0 ≤ szValS l left := by
  unfold szValS at *
  split at h
  · omega
  · rename_i h1
    rw [if_neg h1]
    exact ⟨szVs_dec _ _ h, by omega⟩
def szR (x : R) (left : Int) : Int := if szValS x.l left < 0 then -1 else szValS x.l left
theorem szR_le (x : R) (left : Int) (h0 : 0 ≤ left) (h : left ≤ 1048576) : szR x left ≤ 1048576 := by
  have := szValS_le x.l left h0 h
  unfold szR
  split <;> omega
theorem szR_dec (x : R) (left : Int) (h : ¬ szR x left < 0) : szR x left ≤ left - x.l.length ∧ 0 ≤ szR x left := by
  unfold szR at *
  split at h
  · omega
  · rename_i h1
    rw [if_neg h1]
    exact szValS_dec _ _ h1
def szRs : List R → Int → Int
  | [], l => l
  | v :: r, l => if szR v l < 0 then -1 else szRs r (szR v l)
theorem szRs_neg {x : R} {r : List R} {m : Int} (h : szR x m < 0) : szRs (x :: r) m = -1 := by rw [szRs, if_pos h]
theorem szRs_pos {x : R} {r : List R} {m : Int} (h : ¬ szR x m < 0) : szRs (x :: r) m = szRs r (szR x m) := by rw [szRs, if_neg h]
def szRowS (l : List R) (left : Int) : Int := if left - l.length < 0 then -1 else szRs l (left - l.length)
theorem szRs_le : ∀ (l : List R) (left : Int), 0 ≤ left → left ≤ 1048576 → szRs l left ≤ 1048576
  | [], left, _, h => h
  | x :: r, left, h0, h => by
    by_cases hn : szR x left < 0
    · rw [szRs_neg hn]; omega
    · rw [szRs_pos hn]; exact szRs_le r _ (by omega) (szR_le x left h0 h)
def lensR (l : List R) : Nat := (l.map fun r => r.l.length).sum
theorem szRs_dec : ∀ (l : List R) (left : Int), ¬ szRs l left < 0 → szRs l left ≤ left - lensR l
  | [], left, _ => by simp [szRs, lensR]
  | x :: r, left, h => by
    by_cases hn : szR x left < 0
    · rw [szRs_neg hn] at h; omega
    · rw [szRs_pos hn] at h ⊢
      have h1 := szRs_dec r _ h
      have h2 := szR_dec x left hn
      simp only [lensR, List.map_cons, List.sum_cons] at *
      omega
theorem szRowS_le (l : List R) (left : Int) (h0 : 0 ≤ left) (h : left ≤ 1048576) : szRowS l left ≤ 1048576 := by
  unfold szRowS
  split
  · omega
  · exact szRs_le _ _ (by omega) (by omega)
theorem cntR_eq (l : List R) : cntR l = l.length + 3 * lensR l := by
  induction l with
  | nil => rfl
  | cons x r ih =>
    simp only [cntR, lensR, List.map_cons, List.sum_cons, List.length_cons] at *
    omega
theorem szRowS_bd (l : List R) (left : Int) (h0 : 0 ≤ left) (h : left ≤ 1048576) : ¬ szRowS l left < 0 → l.length ≤ 1048576 ∧ cntR l ≤ 3145728 ∧ lensR l ≤ 1048576 := by
  intro hn
  have hc := cntR_eq l
  unfold szRowS at hn
  split at hn
  · omega
  · have h1 := szRs_dec _ _ hn
    omega
theorem szR_bd (x : R) (left : Int) (h0 : 0 ≤ left) (h : left ≤ 1048576) : ¬ szR x left < 0 → x.l.length ≤ 1048576 := by
  intro hn
  have := szR_dec x left hn
  omega


end Go.Proofs.YtjogkbkkcaljhaaGreatDoor
namespace Go.Proofs.YtjogkbkkcaljhaaGreatDoor
open Go.Sort Go.ChangeShapes Go.WideShapes Go.ChangeAt Go.RowKit Go.Lb


end Go.Proofs.YtjogkbkkcaljhaaGreatDoor
namespace Go.Proofs.YtjogkbkkcaljhaaGreatDoor
open Go.Sort Go.ChangeShapes Go.WideShapes Go.ChangeAt Go.RowKit Go.Lb


end Go.Proofs.YtjogkbkkcaljhaaGreatDoor
namespace Go.Proofs.YtjogkbkkcaljhaaGreatDoor
open Go.ChangeShapes Go.WideShapes Go.ChangeAt Go.RowKit Go.Lb

theorem held_V : Tryz.prog.stoodInHeld 24 = false := by kernel_rfl
theorem guard_V : Tryz.prog.eqGuardType Tryz.prog.depth 24 = false := by kernel_rfl
theorem und_V : Tryz.prog.underlying 24 = some (.struct (Tryz.prog.fieldsOf 24)) := by kernel_rfl
theorem eqIn_V (d : Nat) (x y : V) (w : World) : (Op.equalIn (d + 2) 24 (.agg #[.int .i64 x.ty, .int .i64 x.n, .string x.s]) (.agg #[.int .i64 y.ty, .int .i64 y.n, .string y.s])).run Tryz.prog w = .ok (eqd x y) w := by
  rw [run_equalIn_agg w (d + 1) _ _ _ und_V held_V, V.eq_iff]
  cases h1 : x.ty == y.ty <;> cases h2 : x.n == y.n <;> cases h3 : x.s.toList == y.s.toList <;> simp [Program.fieldsOf, Tryz.underlying24, go_sem, h1, h2, h3]
theorem eql_V (x y : V) (w : World) : (binOp .eql 24 (.agg #[.int .i64 x.ty, .int .i64 x.n, .string x.s]) (.agg #[.int .i64 y.ty, .int .i64 y.n, .string y.s])).run Tryz.prog w = .ok (.bool (eqd x y)) w := by
  rw [run_eql_struct w, eqIn_V 9998]
  rfl
theorem neq_V (x y : V) (w : World) : (binOp .neq 24 (.agg #[.int .i64 x.ty, .int .i64 x.n, .string x.s]) (.agg #[.int .i64 y.ty, .int .i64 y.n, .string y.s])).run Tryz.prog w = .ok (.bool (!eqd x y)) w := by
  rw [run_neq_struct w, eqIn_V 9998]
  rfl
end Go.Proofs.YtjogkbkkcaljhaaGreatDoor
namespace Go.Proofs.YtjogkbkkcaljhaaGreatDoor
open Go.Sort Go.ChangeShapes Go.WideShapes Go.ChangeAt Go.RowKit Go.Lb

theorem info_Row : (Tryz.prog.info? 88).map (fun i => (i.zero, i.size, i.bytes)) = some (some (.agg #[.int .i64 0, .slice none 0 0]), 2, 32) := by kernel_rfl

end Go.Proofs.YtjogkbkkcaljhaaGreatDoor
namespace Go.Proofs.YtjogkbkkcaljhaaGreatDoor
open Go.Sort Go.ChangeShapes Go.WideShapes Go.ChangeAt Go.RowKit Go.Lb

end Go.Proofs.YtjogkbkkcaljhaaGreatDoor
namespace Go.Proofs.YtjogkbkkcaljhaaGreatDoor
open Go.Sort Go.ChangeShapes Go.WideShapes Go.ChangeAt Go.RowKit Go.Lb

end Go.Proofs.YtjogkbkkcaljhaaGreatDoor
namespace Go.Proofs.YtjogkbkkcaljhaaGreatDoor
open Go.Sort Go.ChangeShapes Go.WideShapes Go.ChangeAt Go.RowKit Go.Lb

end Go.Proofs.YtjogkbkkcaljhaaGreatDoor
namespace Go.Proofs.YtjogkbkkcaljhaaGreatDoor
open Go.Sort Go.ChangeShapes Go.WideShapes Go.ChangeAt Go.RowKit Go.Lb

def hasI (l : List Int) (n : Int) : Bool := l.any fun m => m == n
def keepRow (ids : List Int) (r : R) : Bool := !hasI ids r.id
def dropRows (l : List R) (ids : List Int) : List R := l.filter (keepRow ids)
theorem hasI_yes {l : List Int} {n m : Int} {k : Nat} (h : l[k]? = some m) (he : m = n) : hasI l n = true := List.any_eq_true.2 ⟨m, mem_of_get h, by simp [he]⟩
theorem hasI_end {l : List Int} {n : Int} (h : (l.take l.length).any (fun m => m == n) = false) : hasI l n = false := by
  rw [List.take_length] at h
  exact h
theorem drop_step {l : List R} {ids : List Int} {k : Nat} {y : R} (h : l[k]? = some y) : (l.take (k + 1)).filter (keepRow ids) = (l.take k).filter (keepRow ids) ++ (if hasI ids y.id then [] else [y]) := by
  rw [take_of_get h, List.filter_append]
  congr 1
  cases hh : hasI ids y.id <;> simp [keepRow, hh]
theorem lensR_filter (l : List R) (p : R → Bool) : lensR (l.filter p) ≤ lensR l := by
  unfold lensR
  induction l with
  | nil => simp
  | cons a r ih =>
    rw [List.filter_cons]
    split
    · simp only [List.map_cons, List.sum_cons]; omega
    · simp only [List.map_cons, List.sum_cons]; omega
theorem dropRows_bd (l : List R) (ids : List Int) : cntR (dropRows l ids) ≤ cntR l := by
  rw [cntR_eq, cntR_eq]
  have h1 := lensR_filter l (keepRow ids)
  have h2 : (l.filter (keepRow ids)).length ≤ l.length := List.length_filter_le _ _
  unfold dropRows
  omega

end Go.Proofs.YtjogkbkkcaljhaaGreatDoor
namespace Go.Proofs.YtjogkbkkcaljhaaGreatDoor
open Go.Sort Go.ChangeShapes Go.WideShapes Go.ChangeAt Go.RowKit Go.Lb

end Go.Proofs.YtjogkbkkcaljhaaGreatDoor
namespace Go.Proofs.YtjogkbkkcaljhaaGreatDoor
open Go.ChangeShapes Go.WideShapes Go.ChangeAt Go.RowKit Go.Lb
end Go.Proofs.YtjogkbkkcaljhaaGreatDoor
namespace Go.Proofs.YtjogkbkkcaljhaaGreatDoor
open Go.ChangeShapes Go.WideShapes Go.ChangeAt Go.RowKit Go.Lb

theorem law_big (code : List UInt8) (x : Value) (w : World) {lo hi : Nat} (hx : RdB w lo hi x code) :
    Calls Tryz.prog 13 #[x] w fun e w' => e = .returned (.bool (decide (1048576 < (code.length : Int)))) ∧ w = w' := by
  obtain ⟨A, c, rfl, hl, hl2⟩ := hx.form
  clear hx
  go_enter Tryz.func13, Tryz.ntmps13
  go_wp2_with fail
  go_ret
  exact ⟨rfl, rfl⟩
end Go.Proofs.YtjogkbkkcaljhaaGreatDoor
