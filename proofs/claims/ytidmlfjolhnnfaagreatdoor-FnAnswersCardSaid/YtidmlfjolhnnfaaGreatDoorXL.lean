/- The laws' helpers for values: contracts. -/
import Derived.Test.YtidmlfjolhnnfaaGreatDoorXA
import Derived.Test.YtidmlfjolhnnfaaGreatDoorXV
namespace Go.Proofs.YtidmlfjolhnnfaaGreatDoor
open Go.ChangeShapes Go.WideShapes Go.ChangeAt Go.RowKit Go.Lb

def szV (k : Nat) (left : Int) : Int := if left - k < 0 then -1 else left - k
theorem szV_le (k : Nat) (left : Int) (h0 : 0 ≤ left) (h : left ≤ 1048576) : szV k left ≤ 1048576 := by unfold szV; split <;> omega

def szVal (x : V) (left : Int) : Int := szV x.s.size left
theorem szVal_le (x : V) (left : Int) (h0 : 0 ≤ left) (h : left ≤ 1048576) : szVal x left ≤ 1048576 := szV_le _ _ h0 h
theorem szVal_bd (x : V) (left : Int) (h0 : 0 ≤ left) (h : left ≤ 1048576) : ¬ szVal x left < 0 → x.s.size ≤ 1048576 := by unfold szVal szV; split <;> omega
def szVs : List V → Int → Int
  | [], l => l
  | v :: r, l => if szVal v l < 0 then -1 else szVs r (szVal v l)
theorem szVs_neg {x : V} {r : List V} {m : Int} (h : szVal x m < 0) : szVs (x :: r) m = -1 := by rw [szVs, if_pos h]
theorem szVs_pos {x : V} {r : List V} {m : Int} (h : ¬ szVal x m < 0) : szVs (x :: r) m = szVs r (szVal x m) := by rw [szVs, if_neg h]
def szValS (l : List V) (left : Int) : Int := if left - l.length < 0 then -1 else szVs l (left - l.length)
theorem szVs_le : ∀ (l : List V) (left : Int), 0 ≤ left → left ≤ 1048576 → szVs l left ≤ 1048576
  | [], left, _, h => h
  | x :: r, left, h0, h => by
    by_cases hn : szVal x left < 0
    · rw [szVs_neg hn]; omega
    · rw [szVs_pos hn]; exact szVs_le r _ (by omega) (szVal_le x left h0 h)
theorem szValS_le (l : List V) (left : Int) (h0 : 0 ≤ left) (h : left ≤ 1048576) : szValS l left ≤ 1048576 := by
  unfold szValS
  split
  · omega
  · exact szVs_le _ _ (by omega) (by omega)
theorem szValS_bd (l : List V) (left : Int) (h0 : 0 ≤ left) (h : left ≤ 1048576) : ¬ szValS l left < 0 → l.length ≤ 1048576 := by
  unfold szValS
  split <;> omega

theorem V.eq_iff (x y : V) : eqd x y = (x.ty == y.ty && (x.n == y.n && x.s.toList == y.s.toList)) := by
  unfold eqd
  rw [Bool.eq_iff_iff]
  simp only [decide_eq_true_eq, Bool.and_eq_true, beq_iff_eq, ByteArray.toList_eq]
  obtain ⟨a, b, ⟨⟨c⟩⟩⟩ := x
  obtain ⟨a', b', ⟨⟨c'⟩⟩⟩ := y
  simp

end Go.Proofs.YtidmlfjolhnnfaaGreatDoor
namespace Go.Proofs.YtidmlfjolhnnfaaGreatDoor
open Go.ChangeShapes Go.WideShapes Go.ChangeAt Go.RowKit Go.Lb

theorem info_val : (Tryz.prog.info? 25).map (fun i => (i.zero, i.size, i.bytes)) = some (some (.agg #[.int .i64 0, .int .i64 0, .string ⟨#[]⟩]), 3, 32) := by kernel_rfl

end Go.Proofs.YtidmlfjolhnnfaaGreatDoor
namespace Go.Proofs.YtidmlfjolhnnfaaGreatDoor
open Go.ChangeShapes Go.WideShapes Go.ChangeAt Go.RowKit Go.Lb

theorem eq_of_drop {α : Type} [DecidableEq α] {xs ys : List α} {k : Nat} {x y : α} (hl : xs.length = ys.length) (ht : xs.take k = ys.take k) (hx : xs[k]? = some x) (hy : ys[k]? = some y) :
    (x = y → xs.take (k + 1) = ys.take (k + 1)) ∧ (x ≠ y → xs ≠ ys) := by
  refine ⟨fun h => ?_, fun h e => ?_⟩
  · rw [take_of_get hx, take_of_get hy, ht, h]
  · subst e
    rw [hx] at hy
    exact h (by injection hy)

theorem keep6 {w W w1 : World} {b o b' o' : Nat} {u0 u1 u2 u0' u1' u2' : Value} (hb : b < w.heap.size) (hb' : b' < w.heap.size)
    (h : (W.cell? ⟨b, o, none⟩ = some u0 ∧ W.cell? ⟨b, o + 1, none⟩ = some u1 ∧ W.cell? ⟨b, o + 2, none⟩ = some u2) ∧ (W.cell? ⟨b', o', none⟩ = some u0' ∧ W.cell? ⟨b', o' + 1, none⟩ = some u1' ∧ W.cell? ⟨b', o' + 2, none⟩ = some u2') ∧ Below w.heap.size w W) (h1 : Below W.heap.size W w1) :
    (w1.cell? ⟨b, o, none⟩ = some u0 ∧ w1.cell? ⟨b, o + 1, none⟩ = some u1 ∧ w1.cell? ⟨b, o + 2, none⟩ = some u2) ∧ (w1.cell? ⟨b', o', none⟩ = some u0' ∧ w1.cell? ⟨b', o' + 1, none⟩ = some u1' ∧ w1.cell? ⟨b', o' + 2, none⟩ = some u2') ∧ Below w.heap.size w w1 := by
  obtain ⟨⟨h2, h3, h4⟩, ⟨h5, h6, h7⟩, h8⟩ := h
  have hs := h8.size
  have k : ∀ o, w1.cell? ⟨b, o, none⟩ = W.cell? ⟨b, o, none⟩ := fun o => h1.cell (p := ⟨b, o, none⟩) (by show b < _; omega)
  have k' : ∀ o, w1.cell? ⟨b', o, none⟩ = W.cell? ⟨b', o, none⟩ := fun o => h1.cell (p := ⟨b', o, none⟩) (by show b' < _; omega)
  simp only [k, k']
  exact ⟨⟨h2, h3, h4⟩, ⟨h5, h6, h7⟩, h8.trans (h1.mono hs)⟩

end Go.Proofs.YtidmlfjolhnnfaaGreatDoor
namespace Go.Proofs.YtidmlfjolhnnfaaGreatDoor
open Go.Sort Go.ChangeShapes Go.WideShapes Go.ChangeAt Go.RowKit Go.Lb

theorem szVal_dec (x : V) (left : Int) (h : ¬ szVal x left < 0) : szVal x left ≤ left := by unfold szVal szV at *; split at h <;> first | omega | (split <;> omega)
theorem szVs_dec : ∀ (l : List V) (left : Int), ¬ szVs l left < 0 → szVs l left ≤ left
  | [], left, _ => Int.le_refl _
  | x :: r, left, h => by
    by_cases hn : szVal x left < 0
    · rw [szVs_neg hn] at h; omega
    · rw [szVs_pos hn] at h ⊢
      exact Int.le_trans (szVs_dec r _ h) (szVal_dec x left hn)
theorem szValS_dec (l : List V) (left : Int) (h : ¬ szValS l left < 0) : szValS l left ≤ left - l.length ∧ 0 ≤ szValS l left := by
  unfold szValS at *
  split at h
  · omega
  · rename_i h1
    rw [if_neg h1]
    exact ⟨szVs_dec _ _ h, by omega⟩
def szR (x : R) (left : Int) : Int := if szValS x.l left < 0 then -1 else szValS x.l left
theorem szR_le (x : R) (left : Int) (h0 : 0 ≤ left) (h : left ≤ 1048576) : szR x left ≤ 1048576 := by
  have := szValS_le x.l left h0 h
  unfold szR
  split <;> omega
theorem szR_dec (x : R) (left : Int) (h : ¬ szR x left < 0) : szR x left ≤ left - x.l.length ∧ 0 ≤ szR x left := by
  unfold szR at *
  split at h
  · omega
  · rename_i h1
    rw [if_neg h1]
    exact szValS_dec _ _ h1
def szRs : List R → Int → Int
  | [], l => l
  | v :: r, l => if szR v l < 0 then -1 else szRs r (szR v l)
theorem szRs_neg {x : R} {r : List R} {m : Int} (h : szR x m < 0) : szRs (x :: r) m = -1 := by rw [szRs, if_pos h]
theorem szRs_pos {x : R} {r : List R} {m : Int} (h : ¬ szR x m < 0) : szRs (x :: r) m = szRs r (szR x m) := by rw [szRs, if_neg h]
def szRowS (l : List R) (left : Int) : Int := if left - l.length < 0 then -1 else szRs l (left - l.length)
theorem szRs_le : ∀ (l : List R) (left : Int), 0 ≤ left → left ≤ 1048576 → szRs l left ≤ 1048576
  | [], left, _, h => h
  | x :: r, left, h0, h => by
    by_cases hn : szR x left < 0
    · rw [szRs_neg hn]; omega
    · rw [szRs_pos hn]; exact szRs_le r _ (by omega) (szR_le x left h0 h)
def lensR (l : List R) : Nat := (l.map fun r => r.l.length).sum
theorem szRs_dec : ∀ (l : List R) (left : Int), ¬ szRs l left < 0 → szRs l left ≤ left - lensR l
  | [], left, _ => by simp [szRs, lensR]
  | x :: r, left, h => by
    by_cases hn : szR x left < 0
    · rw [szRs_neg hn] at h; omega
    · rw [szRs_pos hn] at h ⊢
      have h1 := szRs_dec r _ h
      have h2 := szR_dec x left hn
      simp only [lensR, List.map_cons, List.sum_cons] at *
      omega
theorem szRowS_le (l : List R) (left : Int) (h0 : 0 ≤ left) (h : left ≤ 1048576) : szRowS l left ≤ 1048576 := by
  unfold szRowS
  split
  · omega
  · exact szRs_le _ _ (by omega) (by omega)
theorem cntR_eq (l : List R) : cntR l = l.length + 3 * lensR l := by
  induction l with
  | nil => rfl
  | cons x r ih =>
    simp only [cntR, lensR, List.map_cons, List.sum_cons, List.length_cons] at *
    omega
theorem szRowS_bd (l : List R) (left : Int) (h0 : 0 ≤ left) (h : left ≤ 1048576) : ¬ szRowS l left < 0 → l.length ≤ 1048576 ∧ cntR l ≤ 3145728 ∧ lensR l ≤ 1048576 := by
  intro hn
  have hc := cntR_eq l
  unfold szRowS at hn
  split at hn
  · omega
  · have h1 := szRs_dec _ _ hn
    omega
theorem szR_bd (x : R) (left : Int) (h0 : 0 ≤ left) (h : left ≤ 1048576) : ¬ szR x left < 0 → x.l.length ≤ 1048576 := by
  intro hn
  have := szR_dec x left hn
  omega


end Go.Proofs.YtidmlfjolhnnfaaGreatDoor
namespace Go.Proofs.YtidmlfjolhnnfaaGreatDoor
open Go.Sort Go.ChangeShapes Go.WideShapes Go.ChangeAt Go.RowKit Go.Lb


end Go.Proofs.YtidmlfjolhnnfaaGreatDoor
namespace Go.Proofs.YtidmlfjolhnnfaaGreatDoor
open Go.Sort Go.ChangeShapes Go.WideShapes Go.ChangeAt Go.RowKit Go.Lb


end Go.Proofs.YtidmlfjolhnnfaaGreatDoor
namespace Go.Proofs.YtidmlfjolhnnfaaGreatDoor
open Go.ChangeShapes Go.WideShapes Go.ChangeAt Go.RowKit Go.Lb

theorem held_V : Tryz.prog.stoodInHeld 25 = false := by kernel_rfl
theorem guard_V : Tryz.prog.eqGuardType Tryz.prog.depth 25 = false := by kernel_rfl
theorem und_V : Tryz.prog.underlying 25 = some (.struct (Tryz.prog.fieldsOf 25)) := by kernel_rfl
theorem eqIn_V (d : Nat) (x y : V) (w : World) : (Op.equalIn (d + 2) 25 (.agg #[.int .i64 x.ty, .int .i64 x.n, .string x.s]) (.agg #[.int .i64 y.ty, .int .i64 y.n, .string y.s])).run Tryz.prog w = .ok (eqd x y) w := by
  rw [run_equalIn_agg w (d + 1) _ _ _ und_V held_V, V.eq_iff]
  cases h1 : x.ty == y.ty <;> cases h2 : x.n == y.n <;> cases h3 : x.s.toList == y.s.toList <;> simp [Program.fieldsOf, Tryz.underlying25, go_sem, h1, h2, h3]
theorem eql_V (x y : V) (w : World) : (binOp .eql 25 (.agg #[.int .i64 x.ty, .int .i64 x.n, .string x.s]) (.agg #[.int .i64 y.ty, .int .i64 y.n, .string y.s])).run Tryz.prog w = .ok (.bool (eqd x y)) w := by
  rw [run_eql_struct w, eqIn_V 9998]
  rfl
theorem neq_V (x y : V) (w : World) : (binOp .neq 25 (.agg #[.int .i64 x.ty, .int .i64 x.n, .string x.s]) (.agg #[.int .i64 y.ty, .int .i64 y.n, .string y.s])).run Tryz.prog w = .ok (.bool (!eqd x y)) w := by
  rw [run_neq_struct w, eqIn_V 9998]
  rfl
end Go.Proofs.YtidmlfjolhnnfaaGreatDoor
namespace Go.Proofs.YtidmlfjolhnnfaaGreatDoor
open Go.Sort Go.ChangeShapes Go.WideShapes Go.ChangeAt Go.RowKit Go.Lb

theorem info_Row : (Tryz.prog.info? 51).map (fun i => (i.zero, i.size, i.bytes)) = some (some (.agg #[.int .i64 0, .slice none 0 0]), 2, 32) := by kernel_rfl

end Go.Proofs.YtidmlfjolhnnfaaGreatDoor
namespace Go.Proofs.YtidmlfjolhnnfaaGreatDoor
open Go.Sort Go.ChangeShapes Go.WideShapes Go.ChangeAt Go.RowKit Go.Lb

set_option maxHeartbeats 1000000 in
theorem impl_cloneVals (l : List V) (x : Value) (w : World) {lo hi : Nat} (hx : RdV w lo hi x l) (hhi : hi ≤ w.heap.size) (hn : l.length ≤ 1099511627776) :
    Calls Tryz.prog 58 #[x] w fun e w' => ∃ v, e = .returned v ∧ Own 25 3 w' w.heap.size w'.heap.size v l.length (l.flatMap V.cells) ∧ Below w.heap.size w w' := by
  obtain ⟨A, c, rfl, hl, hl2⟩ := hx.form
  obtain ⟨i0, hif, hz0, hz1, hz2⟩ := info_parts info_val
  have hif := Lib.hid hif
  have hz0 := Lib.hid hz0
  have hz1 := Lib.hid hz1
  have hz2 := Lib.hid hz2
  have hN := Lib.hid ((hx.below (up_a1 w (.cells #[] 25)) hhi).news)
  have own0 := World.ownsRow_made w (base := w.heap.size) (e := 25) (size := 3) #[] 0 (Nat.le_refl _) (by decide) rfl
  go_enter Tryz.func58, Tryz.ntmps58
  go_wp2_with (at_builtin; refine wpl_spread rfl _ _ 48 rfl w.heap.size 25 i0 _ 3 32 Tryz.underlying48 hif.out hz0.out hz1.out hz2.out rfl (by decide) (by decide) own0 rfl rfl (flat_len V.cells 3 V.cells_len l) hN.out.2.1 hN.out.2.2 (one_cells l) (by omega) (by simp) ?_)
  intro v' w1 hown hgrow _
  have hb := below_app ((Below.refl w.heap.size w).alloc (Nat.le_refl _) _) own0 hgrow (Nat.le_refl _)
  try simp only [Nat.zero_add, List.nil_append] at hown
  clear hgrow own0
  go_wp2_with fail
  go_ret
  exact ⟨_, rfl, .new hown, hb⟩
end Go.Proofs.YtidmlfjolhnnfaaGreatDoor
namespace Go.Proofs.YtidmlfjolhnnfaaGreatDoor
open Go.Sort Go.ChangeShapes Go.WideShapes Go.ChangeAt Go.RowKit Go.Lb

set_option maxRecDepth 20000 in
set_option maxHeartbeats 1000000 in
theorem impl_cloneRow (x : R) (sv : Value) (w : World) {lo hi : Nat} (hx : RdV w lo hi sv x.l) (hhi : hi ≤ w.heap.size) (hn : x.l.length ≤ 1099511627776) :
    Calls Tryz.prog 39 #[.agg #[.int .i64 x.id, sv]] w fun e w' => ∃ v, e = .returned (.agg #[.int .i64 x.id, v]) ∧ Own 25 3 w' w.heap.size w'.heap.size v x.l.length (x.l.flatMap V.cells) ∧ Below w.heap.size w w' := by
  have up := up_a2 w (.cells #[.int .i64 x.id, sv] 51) (.cells #[.int .i64 0, .slice none 0 0] 51)
  have hC := Lib.hid (impl_cloneVals x.l sv ((w.alloc (.cells #[.int .i64 x.id, sv] 51)).alloc (.cells #[.int .i64 0, .slice none 0 0] 51)).drew (hx.below up.drew hhi) (by simp [World.drew]; omega) hn)
  have g0 := heap_alloc_new w (.cells #[.int .i64 x.id, sv] 51)
  have g0 := (((Below.refl _ _).alloc (Nat.le_refl _) (.cells #[.int .i64 0, .slice none 0 0] 51)).block w.heap.size (by simp)).trans g0
  have g1 := heap_alloc_new (w.alloc (.cells #[.int .i64 x.id, sv] 51)) (.cells #[.int .i64 0, .slice none 0 0] 51)
  simp only [World.size_alloc] at g1
  have G0 := Lib.hid g0
  have G1 := Lib.hid g1
  have b0 := cell_of_row _ _ 0 _ _ _ g0
  have b1 := cell_of_row _ _ 1 _ _ _ g0
  simp only [List.getElem?_toArray, List.getElem?_cons_zero, List.getElem?_cons_succ] at b0 b1
  clear g0 g1
  go_enter Tryz.func39, Tryz.ntmps39
  go_wp2_with fail
  go_region_held3 (fun w' => w'.cell? ⟨w.heap.size, 0, none⟩ = some (.int .i64 x.id) ∧ w'.cell? ⟨w.heap.size, 1, none⟩ = some sv) (first | exact ⟨b0, b1⟩ | exact ⟨e0, e1⟩ | go_keep) (first | (go_at_call 58; ((with_reducible refine hC.out.mono ?_); rintro e w1 ⟨v, rfl, hown, hb1⟩; obtain ⟨A, c, rfl, -, -, -⟩ := hown.cells; have c0 := (hb1.block w.heap.size (by simp [World.drew] <;> omega)).trans G0.out; have c1 := (hb1.block (w.heap.size + 1) (by simp [World.drew] <;> omega)).trans G1.out; have e0 := cell_of_row w1 _ 0 _ _ _ c0; have e1 := cell_of_row w1 _ 1 _ _ _ c0; have d0 := cell_of_row w1 _ 0 _ _ _ c1; have d1 := cell_of_row w1 _ 1 _ _ _ c1; have df := fun o => frozen_of_row w1 _ o _ _ c1; have Hown := Lib.hid hown; have Hb := Lib.hid hb1; have Hc1 := Lib.hid c1; clear hown c0 c1)))
  go_wp2_with fail
  have hz := Hb.out.size
  have hs : ((w.alloc (.cells #[.int .i64 x.id, sv] 51)).alloc (.cells #[.int .i64 0, .slice none 0 0] 51)).drew.heap.size = w.heap.size + 1 + 1 := by simp [World.drew]
  rw [hs] at hz
  refine bodyPost_ret (v := .agg #[.int .i64 x.id, .slice A x.l.length c]) ?_ rfl ⟨_, rfl, ?_, ?_⟩
  · simp [results, Tryz.results39, go_sem, d0, d1]
  · have h := Hown.out
    rw [hs] at h
    refine Own.more (lo := w.heap.size + 1 + 1) (hi := w1.heap.size) ?_ (by omega) (Nat.le_of_eq (by simp [World.setCell]))
    exact (h.set (by omega) _).set (by omega) _
  · iterate 2 refine Below.setCell ?_ (by simp <;> omega) _
    exact up.drew.trans (Hb.out.mono (by rw [hs]; omega))
end Go.Proofs.YtidmlfjolhnnfaaGreatDoor
namespace Go.Proofs.YtidmlfjolhnnfaaGreatDoor
open Go.Sort Go.ChangeShapes Go.WideShapes Go.ChangeAt Go.RowKit Go.Lb

set_option maxRecDepth 20000 in
set_option maxHeartbeats 1000000 in
theorem spec_l4Copy (x : R) (sv : Value) (w : World) {lo hi : Nat} (hx : RdV w lo hi sv x.l) (hhi : hi ≤ w.heap.size) (hn : x.l.length ≤ 1099511627776) :
    Calls Tryz.prog 48 #[.agg #[.int .i64 x.id, sv]] w fun e w' => ∃ v, e = .returned (.agg #[.int .i64 x.id, v]) ∧ Own 25 3 w' w.heap.size w'.heap.size v x.l.length (x.l.flatMap V.cells) ∧ Below w.heap.size w w' := by
  obtain ⟨A, c, rfl, hl, hl2⟩ := hx.form
  obtain ⟨i0, hif, hz0, hz1, hz2⟩ := info_parts info_val
  have hif := Lib.hid hif
  have hz0 := Lib.hid hz0
  have hz1 := Lib.hid hz1
  have hz2 := Lib.hid hz2
  have up := up_a2 w (.cells #[.int .i64 x.id, .slice A x.l.length c] 51) (.cells #[.int .i64 0, .slice none 0 0] 51)
  have up3 := (up.alloc (by simp; omega) (.cells #[] 25)).drew
  have hN := Lib.hid ((hx.below up3 hhi).news)
  have own0 := owns_drew (World.ownsRow_made ((w.alloc (.cells #[.int .i64 x.id, .slice A x.l.length c] 51)).alloc (.cells #[.int .i64 0, .slice none 0 0] 51)) (base := w.heap.size) (e := 25) (size := 3) #[] 0 (by simp; omega) (by decide) rfl)
  simp only [World.size_alloc] at own0
  have g0 := heap_alloc_new w (.cells #[.int .i64 x.id, .slice A x.l.length c] 51)
  have g0 := (((Below.refl _ _).alloc (Nat.le_refl _) (.cells #[.int .i64 0, .slice none 0 0] 51)).block w.heap.size (by simp)).trans g0
  have g1 := heap_alloc_new (w.alloc (.cells #[.int .i64 x.id, .slice A x.l.length c] 51)) (.cells #[.int .i64 0, .slice none 0 0] 51)
  simp only [World.size_alloc] at g1
  have G0 := Lib.hid ((((Below.refl _ _).alloc (Nat.le_refl _) (.cells #[] 25)).drew.block w.heap.size (by simp <;> omega)).trans g0)
  have G1 := Lib.hid ((((Below.refl _ _).alloc (Nat.le_refl _) (.cells #[] 25)).drew.block (w.heap.size + 1) (by simp <;> omega)).trans g1)
  have b0 := cell_of_row _ _ 0 _ _ _ g0
  have b1 := cell_of_row _ _ 1 _ _ _ g0
  simp only [List.getElem?_toArray, List.getElem?_cons_zero, List.getElem?_cons_succ] at b0 b1
  have hs : ((w.alloc (.cells #[.int .i64 x.id, .slice A x.l.length c] 51)).alloc (.cells #[.int .i64 0, .slice none 0 0] 51)).drew.heap.size = w.heap.size + 1 + 1 := by simp [World.drew]
  have HS := Lib.hid hs
  clear hs
  go_enter Tryz.func48, Tryz.ntmps48
  go_wp2_with fail
  go_region_held3 (fun w' => w'.cell? ⟨w.heap.size, 0, none⟩ = some (.int .i64 x.id) ∧ w'.cell? ⟨w.heap.size, 1, none⟩ = some (.slice A x.l.length c)) (first | exact ⟨b0, b1⟩ | exact ⟨e0, e1⟩ | go_keep) (first | (refine step_spread rfl _ _ 48 rfl w.heap.size 25 i0 _ 3 32 Tryz.underlying48 hif.out hz0.out hz1.out hz2.out rfl (by decide) (by decide) own0 rfl rfl (flat_len V.cells 3 V.cells_len x.l) hN.out.2.1 hN.out.2.2 (one_cells x.l) (by omega) (by simp [World.drew] <;> omega) ?_; intro v' w1 hown hgrow hnb; obtain ⟨A', c', rfl, -, -, -⟩ := (Own.new hown).cells; have c0 := (hgrow.block w.heap.size (by simp [World.drew] <;> omega) (by simp [Value.ownBlock] <;> omega)).trans G0.out; have c1 := (hgrow.block (w.heap.size + 1) (by simp [World.drew] <;> omega) (by simp [Value.ownBlock])).trans G1.out; have e0 := cell_of_row w1 _ 0 _ _ _ c0; have e1 := cell_of_row w1 _ 1 _ _ _ c0; have d0 := cell_of_row w1 _ 0 _ _ _ c1; have d1 := cell_of_row w1 _ 1 _ _ _ c1; have df := fun o => frozen_of_row w1 _ o _ _ c1; have Hown := Lib.hid hown; have Hg := Lib.hid hgrow; have Hnb := Lib.hid hnb; clear hown hgrow hnb c0 c1))
  go_wp2_with fail
  have hz := Hg.out.size
  simp [World.drew] at hz
  have hO := Hown.out
  simp only [Nat.zero_add, List.nil_append] at hO
  have hI : InR (w.heap.size + 1 + 1) w1.heap.size (Value.slice A' x.l.length c').ownBlock := fun g hg => by
    refine ⟨?_, (hO.lt g hg).2⟩
    rcases Hnb.out g (by simpa using hg) with h | h
    · simp [Value.ownBlock] at h; omega
    · simp [World.drew] at h; omega
  refine bodyPost_ret (v := .agg #[.int .i64 x.id, .slice A' x.l.length c']) ?_ rfl ⟨_, rfl, ?_, ?_⟩
  · simp [results, Tryz.results48, go_sem, d0, d1]
  · refine Own.more (lo := w.heap.size + 1 + 1) (hi := w1.heap.size) ?_ (by omega) (Nat.le_of_eq (by simp [World.setCell]))
    exact ((Own.of_zero (owns_zero hO) hI).set (by omega) _).set (by omega) _
  · iterate 2 refine Below.setCell ?_ (by simp <;> omega) _
    exact Below.grown up3 Hg.out (fun g h => by simp [Value.ownBlock] at h; omega) (Nat.le_refl _)
end Go.Proofs.YtidmlfjolhnnfaaGreatDoor
namespace Go.Proofs.YtidmlfjolhnnfaaGreatDoor
open Go.Sort Go.ChangeShapes Go.WideShapes Go.ChangeAt Go.RowKit Go.Lb

def hasI (l : List Int) (n : Int) : Bool := l.any fun m => m == n
def keepRow (ids : List Int) (r : R) : Bool := !hasI ids r.id
def dropRows (l : List R) (ids : List Int) : List R := l.filter (keepRow ids)
theorem hasI_yes {l : List Int} {n m : Int} {k : Nat} (h : l[k]? = some m) (he : m = n) : hasI l n = true := List.any_eq_true.2 ⟨m, mem_of_get h, by simp [he]⟩
theorem hasI_end {l : List Int} {n : Int} (h : (l.take l.length).any (fun m => m == n) = false) : hasI l n = false := by
  rw [List.take_length] at h
  exact h
theorem drop_step {l : List R} {ids : List Int} {k : Nat} {y : R} (h : l[k]? = some y) : (l.take (k + 1)).filter (keepRow ids) = (l.take k).filter (keepRow ids) ++ (if hasI ids y.id then [] else [y]) := by
  rw [take_of_get h, List.filter_append]
  congr 1
  cases hh : hasI ids y.id <;> simp [keepRow, hh]
theorem lensR_filter (l : List R) (p : R → Bool) : lensR (l.filter p) ≤ lensR l := by
  unfold lensR
  induction l with
  | nil => simp
  | cons a r ih =>
    rw [List.filter_cons]
    split
    · simp only [List.map_cons, List.sum_cons]; omega
    · simp only [List.map_cons, List.sum_cons]; omega
theorem dropRows_bd (l : List R) (ids : List Int) : cntR (dropRows l ids) ≤ cntR l := by
  rw [cntR_eq, cntR_eq]
  have h1 := lensR_filter l (keepRow ids)
  have h2 : (l.filter (keepRow ids)).length ≤ l.length := List.length_filter_le _ _
  unfold dropRows
  omega

end Go.Proofs.YtidmlfjolhnnfaaGreatDoor
namespace Go.Proofs.YtidmlfjolhnnfaaGreatDoor
open Go.Sort Go.ChangeShapes Go.WideShapes Go.ChangeAt Go.RowKit Go.Lb

set_option maxHeartbeats 1000000 in
theorem law_sameVals (xs : List V) (x y : Value) (w : World) {l1 h1 l2 h2 : Nat} (hx : RdV w l1 h1 x xs) (hh1 : h1 ≤ w.heap.size) (hy : RdV w l2 h2 y xs) (hh2 : h2 ≤ w.heap.size) :
    Calls Tryz.prog 46 #[x, y] w fun e w' => e = .returned (.bool true) ∧ Below w.heap.size w w' := by
  obtain ⟨A, c, rfl, hl, hl2⟩ := hx.form
  obtain ⟨A', c', rfl, hl', hl2'⟩ := hy.form
  have hgd := guard_V
  go_enter Tryz.func46, Tryz.ntmps46
  go_wp2_with fail
  go_loopw [5] (fun i wr => ∃ (k : Nat), i = .int .i64 k ∧ k ≤ xs.length ∧ Below w.heap.size w wr) (fun i _ => xs.length - (intOf i).toNat)
  case atStart => exact ⟨0, by simp, by omega, Below.refl _ _⟩
  case round =>
    obtain ⟨k, rfl, hk, hb⟩ := hrel
    by_cases hkl : k < xs.length
    · obtain ⟨b, off, u, rfl, -, hbl, huk, e0, e1, e2⟩ := (hx.below hb hh1).at hkl
      obtain ⟨b', off', u', rfl, -, hbl', huk', e0', e1', e2'⟩ := (hy.below hb hh2).at hkl
      obtain rfl : u = u' := Option.some.inj (huk.symm.trans huk')
      have hne := neq_V u u
      rw [eqd_self] at hne
      clear huk huk'
      go_wp2_with fail
      go_region
      go_wp2_with fail
      go_roundw
      case rel => exact ⟨k + 1, by go_num, by omega, hb.drew⟩
      case measure => simp [intOf]; omega
    · go_wp2_with fail
      go_ret
      exact ⟨rfl, hb⟩
set_option maxHeartbeats 1000000 in
theorem law_sameRows (xs : List R) (x y : Value) (w : World) {l1 h1 l2 h2 : Nat} (hx : RdR w l1 h1 x xs) (hh1 : h1 ≤ w.heap.size) (hy : RdR w l2 h2 y xs) (hh2 : h2 ≤ w.heap.size) :
    Calls Tryz.prog 24 #[x, y] w fun e w' => e = .returned (.bool true) ∧ Below w.heap.size w w' := by
  obtain ⟨A, c, rfl, hl, hl2⟩ := hx.form
  obtain ⟨A', c', rfl, hl', hl2'⟩ := hy.form
  go_enter Tryz.func24, Tryz.ntmps24
  go_wp2_with fail
  go_loopw [5] (fun i wr => ∃ (k : Nat), i = .int .i64 k ∧ k ≤ xs.length ∧ Below w.heap.size w wr) (fun i _ => xs.length - (intOf i).toNat)
  case atStart => exact ⟨0, by simp, by omega, Below.refl _ _⟩
  case round =>
    obtain ⟨k, rfl, hk, hb⟩ := hrel
    by_cases hkl : k < xs.length
    · obtain ⟨b, off, u, sv, rfl, -, hbl, huk, e0, e1, hr⟩ := (hx.below hb hh1).at hkl
      obtain ⟨b', off', u', sv', rfl, -, hbl', huk', e0', e1', hr'⟩ := (hy.below hb hh2).at hkl
      obtain rfl : u = u' := Option.some.inj (huk.symm.trans huk')
      have hbs := hb.size
      have hC := Lib.hid (fun W (h : Below wr.heap.size wr W) => law_sameVals u.l sv sv' W (hr.below h (by omega)) (Nat.le_trans (by omega) h.size) (hr'.below h (by omega)) (Nat.le_trans (by omega) h.size))
      clear hr hr' huk huk'
      go_wp2_with fail
      have q_0 := cell_regrown (w := wr) e0
      have q_1 := cell_regrown (w := wr) e1
      have q_2 := cell_regrown (w := wr) e0'
      have q_3 := cell_regrown (w := wr) e1'
      refine wp_region_quiet_below (by kernel_rfl) (by kernel_rfl) ?_
      repeat (go_big_quiet_step (first | (go_at_call 46; exact Calls.regrown_of (hC.out _ (below_regrown _ _ _)))))
      refine wpQuiet_nil ?_
      intro wq hw'
      obtain ⟨⟨dq, osq⟩, hw''⟩ := hw'
      have hbq := below_regrown wr dq osq
      rw [← hw''] at hbq
      clear hw''
      clear q_0 q_1 q_2 q_3
      go_wp2_with fail
      go_roundw
      case rel => exact ⟨k + 1, by go_num, by omega, hb.trans (hbq.mono hb.size)⟩
      case measure => simp [intOf]; omega
    · go_wp2_with fail
      go_ret
      exact ⟨rfl, hb⟩
end Go.Proofs.YtidmlfjolhnnfaaGreatDoor
namespace Go.Proofs.YtidmlfjolhnnfaaGreatDoor
open Go.ChangeShapes Go.WideShapes Go.ChangeAt Go.RowKit Go.Lb
end Go.Proofs.YtidmlfjolhnnfaaGreatDoor
namespace Go.Proofs.YtidmlfjolhnnfaaGreatDoor
open Go.ChangeShapes Go.WideShapes Go.ChangeAt Go.RowKit Go.Lb

theorem law_big (code : List UInt8) (x : Value) (w : World) {lo hi : Nat} (hx : RdB w lo hi x code) :
    Calls Tryz.prog 4 #[x] w fun e w' => e = .returned (.bool (decide (1048576 < (code.length : Int)))) ∧ w = w' := by
  obtain ⟨A, c, rfl, hl, hl2⟩ := hx.form
  clear hx
  go_enter Tryz.func4, Tryz.ntmps4
  go_wp2_with fail
  go_ret
  exact ⟨rfl, rfl⟩
end Go.Proofs.YtidmlfjolhnnfaaGreatDoor
