/- Draws: queries that are right. -/
import Derived.Test.YtidmlfjolhnnfaaGreatDoorD32
import Derived.Test.YtidmlfjolhnnfaaGreatDoorXH
import Derived.Test.YtidmlfjolhnnfaaGreatDoorXI
import Derived.Deep.CutRange
namespace Go.Proofs.YtidmlfjolhnnfaaGreatDoor
open Go.Sort Go.ChangeShapes Go.WideShapes Go.ChangeAt Go.RowKit Go.Lb
theorem chg_lowQ {w w' : World} {g b : Nat} {x : Obj} (hx : w.heap[b]? = some x) (h : Chg g (g + 1) w w') (hb : b < g) : w'.heap[b]? = some x :=
  (h.block b (Array.getElem?_eq_some_iff.1 hx).1 (.inl hb)).trans hx
/-- A query of the draw's own: its predicate's parts, and behind them its list of columns. -/
def GoodQ (B : Nat) (v : Value) (w : World) : Prop := ∃ (q : Q) (sv ov : Value) (m : Nat), v = .agg #[.int .i64 q.kind, .int .i64 q.p.kind, .int .i64 q.p.col, .int .i64 q.p.op, .int .i64 q.p.v.ty, .int .i64 q.p.v.n, .string q.p.v.s, sv, .int .i64 q.col, ov] ∧ B ≤ m ∧ m ≤ w.heap.size ∧ RdP w B m sv q.p.l ∧ Own 3 1 w m w.heap.size ov q.out.length (q.out.map (Value.int .i64)) ∧ Hid (POk q.p ∧ cntP q.p.l ≤ 20 ∧ q.out.length ≤ 4)
theorem own_ints_no (w : World) (e lo hi : Nat) : Own e 1 w lo hi (.slice none 0 0) ([] : List Int).length (([] : List Int).map (Value.int .i64)) := ⟨⟨by simp, .inl ⟨rfl, rfl⟩⟩, fun g hg => by simp [Value.ownBlock] at hg⟩
set_option maxRecDepth 20000 in
set_option maxHeartbeats 16000000 in
theorem spec_l12Draw (cols : List Int) (x : Value) (w : World) (g : Nat) (hd : Dr w g) {hi : Nat} (hx : RdI w (g + 1) hi x cols) (hhi : hi ≤ w.heap.size) (hok : colsOk cols = true) :
    Calls Tryz.prog 42 #[.pointer (some ⟨g, 0, none⟩), x] w (DrP w g (GoodQ w.heap.size)) := by
  have hlt := hd.lt
  obtain ⟨i0, hif, hz0, hz1, hz2⟩ := info_parts info_I
  have hif := Lib.hid hif
  have hz0 := Lib.hid hz0
  have hz1 := Lib.hid hz1
  have hz2 := Lib.hid hz2
  obtain ⟨A, c, rfl, hcl, hcl2⟩ := hx.form
  obtain ⟨hc1, hc3, hct⟩ := colsOk_ty hok
  have Hok := Lib.hid hok
  clear hok hct
  have hd1 := dr_new hd #[.int .i64 0, .int .i64 0, .int .i64 0, .int .i64 0, .int .i64 0, .int .i64 0, .string ⟨#[]⟩, .slice none 0 0, .int .i64 0, .slice none 0 0] 31
  have HR := Lib.hid (heap_alloc_new w (.cells #[.int .i64 0, .int .i64 0, .int .i64 0, .int .i64 0, .int .i64 0, .int .i64 0, .string ⟨#[]⟩, .slice none 0 0, .int .i64 0, .slice none 0 0] 31))
  have hch := chg_new g w #[.int .i64 0, .int .i64 0, .int .i64 0, .int .i64 0, .int .i64 0, .int .i64 0, .string ⟨#[]⟩, .slice none 0 0, .int .i64 0, .slice none 0 0] 31
  have hx1 := hx.below (up_a1 w (.cells #[.int .i64 0, .int .i64 0, .int .i64 0, .int .i64 0, .int .i64 0, .int .i64 0, .string ⟨#[]⟩, .slice none 0 0, .int .i64 0, .slice none 0 0] 31)) hhi
  have hhi1 : hi ≤ (w.alloc (.cells #[.int .i64 0, .int .i64 0, .int .i64 0, .int .i64 0, .int .i64 0, .int .i64 0, .string ⟨#[]⟩, .slice none 0 0, .int .i64 0, .slice none 0 0] 31)).heap.size := by simp; omega
  have hsz : w.heap.size + 1 ≤ (w.alloc (.cells #[.int .i64 0, .int .i64 0, .int .i64 0, .int .i64 0, .int .i64 0, .int .i64 0, .string ⟨#[]⟩, .slice none 0 0, .int .i64 0, .slice none 0 0] 31)).heap.size := by simp
  clear hx
  go_enter Tryz.func42, Tryz.ntmps42
  go_wp2_with fail
  refine (spec_l1Below 5 _ g hd1 (by decide)).mono ?_
  rintro e w2 ⟨_, rfl, ⟨k, rfl, hk1, -⟩, hch2, hd2⟩
  have hk : k < 5 := by have := hk1 (by decide); omega
  have hkw : IntKind.i64.wrap (1 + (k : Int)) = 1 + (k : Int) := IntWalk.i64_in _ ⟨by omega, by omega⟩
  have hx2 := hx1.same (.of_chg hch2 (.inr (Nat.le_refl _)) hhi1)
  have hhi2 := Nat.le_trans hhi1 hch2.size
  have hsz2 := Nat.le_trans hsz hch2.size
  replace HR := Lib.hid (chg_cell HR.out hch2 hlt)
  replace hch := hch.trans hch2
  clear hd1 hx1 hhi1 hsz hch2 hk1
  go_wp2_with fail
  refine (spec_l11Right cols _ w2 g hd2 hx2 hhi2 Hok.out).mono ?_
  rintro e w3 ⟨_, rfl, ⟨p, sv, rfl, hop, hpk⟩, hch3, hd3⟩
  have HPk := Lib.hid (And.intro hpk.out.1 hpk.out.2.1)
  have hx3 := hx2.same (.of_chg hch3 (.inr (Nat.le_refl _)) hhi2)
  have hhi3 := Nat.le_trans hhi2 hch3.size
  have hs3 := hch3.size
  replace HR := Lib.hid (chg_cell HR.out hch3 hlt)
  replace hch := hch.trans hch3
  have hlt3 := hd3.lt
  have hrp := hop.rdP
  obtain ⟨As, cs, rfl, -, -⟩ := hrp.form
  clear hd2 hx2 hch3 hpk hop
  have hlw : w.heap.size < w3.heap.size := by omega
  have hd4 := dr_new hd3 #[.int .i64 (1 + (k : Int)), .int .i64 p.kind, .int .i64 p.col, .int .i64 p.op, .int .i64 p.v.ty, .int .i64 p.v.n, .string p.v.s, (.slice As p.l.length cs), .int .i64 0, (.slice none 0 0)] 31
  have HB := Lib.hid (heap_alloc_new w3 (.cells #[.int .i64 (1 + (k : Int)), .int .i64 p.kind, .int .i64 p.col, .int .i64 p.op, .int .i64 p.v.ty, .int .i64 p.v.n, .string p.v.s, (.slice As p.l.length cs), .int .i64 0, (.slice none 0 0)] 31))
  have hup := up_a1 w3 (.cells #[.int .i64 (1 + (k : Int)), .int .i64 p.kind, .int .i64 p.col, .int .i64 p.op, .int .i64 p.v.ty, .int .i64 p.v.n, .string p.v.s, (.slice As p.l.length cs), .int .i64 0, (.slice none 0 0)] 31)
  have hx4 := hx3.below hup hhi3
  have Hrp := Lib.hid (hrp.below hup (Nat.le_refl _))
  replace HR := Lib.hid (alloc_old (o := (.cells #[.int .i64 (1 + (k : Int)), .int .i64 p.kind, .int .i64 p.col, .int .i64 p.op, .int .i64 p.v.ty, .int .i64 p.v.n, .string p.v.s, (.slice As p.l.length cs), .int .i64 0, (.slice none 0 0)] 31)) HR.out)
  replace hch := hch.trans (chg_new g w3 #[.int .i64 (1 + (k : Int)), .int .i64 p.kind, .int .i64 p.col, .int .i64 p.op, .int .i64 p.v.ty, .int .i64 p.v.n, .string p.v.s, (.slice As p.l.length cs), .int .i64 0, (.slice none 0 0)] 31)
  have hz4 : (w3.alloc (.cells #[.int .i64 (1 + (k : Int)), .int .i64 p.kind, .int .i64 p.col, .int .i64 p.op, .int .i64 p.v.ty, .int .i64 p.v.n, .string p.v.s, (.slice As p.l.length cs), .int .i64 0, (.slice none 0 0)] 31)).heap.size = w3.heap.size + 1 := by simp
  clear hrp hd3 hx3 hup
  have hhi4 : hi ≤ (w3.alloc (.cells #[.int .i64 (1 + (k : Int)), .int .i64 p.kind, .int .i64 p.col, .int .i64 p.op, .int .i64 p.v.ty, .int .i64 p.v.n, .string p.v.s, (.slice As p.l.length cs), .int .i64 0, (.slice none 0 0)] 31)).heap.size := by omega
  by_cases h1 : k = 1
  · subst h1
    have hkk1 : (1 : Int) + ((1 : Nat) : Int) = 2 := rfl
    rw [hkk1] at hd4 HB hx4 Hrp HR hch hz4 hhi4
    clear hkw hkk1
    have hd9 := hd4
    obtain ⟨W4, hW4⟩ : ∃ W4, (w3.alloc (.cells #[.int .i64 2, .int .i64 p.kind, .int .i64 p.col, .int .i64 p.op, .int .i64 p.v.ty, .int .i64 p.v.n, .string p.v.s, (.slice As p.l.length cs), .int .i64 0, (.slice none 0 0)] 31)) = W4 := ⟨_, rfl⟩
    rw [hW4] at HB hx4 Hrp HR hch hz4 hhi4 hd9 hd4
    have HW4 := Lib.hid hW4
    clear hW4 hx4 hd4
    go_upto_region 21 with fail
    rw [HW4.out]
    clear HW4
    have q0 := cell_of_row W4 (w3.heap.size) 0 _ _ _ HB.out
    have q1 := cell_of_row W4 (w3.heap.size) 1 _ _ _ HB.out
    have q2 := cell_of_row W4 (w3.heap.size) 2 _ _ _ HB.out
    have q3 := cell_of_row W4 (w3.heap.size) 3 _ _ _ HB.out
    have q4 := cell_of_row W4 (w3.heap.size) 4 _ _ _ HB.out
    have q5 := cell_of_row W4 (w3.heap.size) 5 _ _ _ HB.out
    have q6 := cell_of_row W4 (w3.heap.size) 6 _ _ _ HB.out
    have q7 := cell_of_row W4 (w3.heap.size) 7 _ _ _ HB.out
    have q8 := cell_of_row W4 (w3.heap.size) 8 _ _ _ HB.out
    have q9 := cell_of_row W4 (w3.heap.size) 9 _ _ _ HB.out
    simp only [List.getElem?_toArray, List.getElem?_cons_zero, List.getElem?_cons_succ] at q0 q1 q2 q3 q4 q5 q6 q7 q8 q9
    have f1 := fun o => frozen_of_row W4 w3.heap.size o _ _ HB.out
    have r0 := cell_of_row W4 (w.heap.size) 0 _ _ _ HR.out
    have r1 := cell_of_row W4 (w.heap.size) 1 _ _ _ HR.out
    have r2 := cell_of_row W4 (w.heap.size) 2 _ _ _ HR.out
    have r3 := cell_of_row W4 (w.heap.size) 3 _ _ _ HR.out
    have r4 := cell_of_row W4 (w.heap.size) 4 _ _ _ HR.out
    have r5 := cell_of_row W4 (w.heap.size) 5 _ _ _ HR.out
    have r6 := cell_of_row W4 (w.heap.size) 6 _ _ _ HR.out
    have r7 := cell_of_row W4 (w.heap.size) 7 _ _ _ HR.out
    have r8 := cell_of_row W4 (w.heap.size) 8 _ _ _ HR.out
    have r9 := cell_of_row W4 (w.heap.size) 9 _ _ _ HR.out
    simp only [List.getElem?_toArray, List.getElem?_cons_zero, List.getElem?_cons_succ] at r0 r1 r2 r3 r4 r5 r6 r7 r8 r9
    have f0 := fun o => frozen_of_row W4 w.heap.size o _ _ HR.out
    go_wp2_with fail
    refine bodyPost_ret (v := .agg #[.int .i64 2, .int .i64 p.kind, .int .i64 p.col, .int .i64 p.op, .int .i64 p.v.ty, .int .i64 p.v.n, .string p.v.s, (.slice As p.l.length cs), .int .i64 0, (.slice none 0 0)]) ?_ rfl ⟨_, rfl, ⟨⟨2, p, 0, []⟩, .slice As p.l.length cs, (.slice none 0 0), w3.heap.size + 1, rfl, by omega, by simp [World.setCell]; omega, ?_, ?_, Lib.hid ⟨HPk.out.1, Nat.le_trans HPk.out.2 (by decide), by simp; try omega⟩⟩, ?_, ?_⟩
    · simp [results, Tryz.results42, go_sem, r0, r1, r2, r3, r4, r5, r6, r7, r8, r9]
    · refine (RdP.more (lo := w2.heap.size) (hi := w3.heap.size) ?_ (by omega) (by omega))
      refine Hrp.out.same fun b h1 h2 => ?_
      iterate 10 rw [Below.heap_setCell _ ⟨w.heap.size, _, none⟩ _ b (by show b ≠ w.heap.size; omega)]
      skip
    · exact own_ints_no _ _ _ _
    · iterate 10 refine chg_set ?_ (by omega) _
      exact hch
    · iterate 10 refine Dr.set ?_ (by omega) (by omega) _
      exact hd9
  by_cases h3 : k = 3
  · subst h3
    have hkk1 : (1 : Int) + ((3 : Nat) : Int) = 4 := rfl
    rw [hkk1] at hd4 HB hx4 Hrp HR hch hz4 hhi4
    clear hkw hkk1
    go_wp2_with fail
    refine (spec_l1Below (cols.length : Int) _ g hd4 (by omega)).mono ?_
    rintro e w5 ⟨_, rfl, ⟨j, rfl, -, -⟩, hch5, hd9⟩
    have hsw5 := hch5.size
    replace HR := Lib.hid (chg_cell HR.out hch5 hlt)
    replace HB := Lib.hid (chg_cell HB.out hch5 hlt3)
    replace Hrp := Lib.hid (Hrp.out.same (.of_chg hch5 (.inr (by omega)) (by omega)))
    replace hch := hch.trans hch5
    clear hd4 hx4 hch5
    have q0 := cell_of_row w5 (w3.heap.size) 0 _ _ _ HB.out
    have q1 := cell_of_row w5 (w3.heap.size) 1 _ _ _ HB.out
    have q2 := cell_of_row w5 (w3.heap.size) 2 _ _ _ HB.out
    have q3 := cell_of_row w5 (w3.heap.size) 3 _ _ _ HB.out
    have q4 := cell_of_row w5 (w3.heap.size) 4 _ _ _ HB.out
    have q5 := cell_of_row w5 (w3.heap.size) 5 _ _ _ HB.out
    have q6 := cell_of_row w5 (w3.heap.size) 6 _ _ _ HB.out
    have q7 := cell_of_row w5 (w3.heap.size) 7 _ _ _ HB.out
    have q8 := cell_of_row w5 (w3.heap.size) 8 _ _ _ HB.out
    have q9 := cell_of_row w5 (w3.heap.size) 9 _ _ _ HB.out
    simp only [List.getElem?_toArray, List.getElem?_cons_zero, List.getElem?_cons_succ] at q0 q1 q2 q3 q4 q5 q6 q7 q8 q9
    have f1 := fun o => frozen_of_row w5 w3.heap.size o _ _ HB.out
    have r0 := cell_of_row w5 (w.heap.size) 0 _ _ _ HR.out
    have r1 := cell_of_row w5 (w.heap.size) 1 _ _ _ HR.out
    have r2 := cell_of_row w5 (w.heap.size) 2 _ _ _ HR.out
    have r3 := cell_of_row w5 (w.heap.size) 3 _ _ _ HR.out
    have r4 := cell_of_row w5 (w.heap.size) 4 _ _ _ HR.out
    have r5 := cell_of_row w5 (w.heap.size) 5 _ _ _ HR.out
    have r6 := cell_of_row w5 (w.heap.size) 6 _ _ _ HR.out
    have r7 := cell_of_row w5 (w.heap.size) 7 _ _ _ HR.out
    have r8 := cell_of_row w5 (w.heap.size) 8 _ _ _ HR.out
    have r9 := cell_of_row w5 (w.heap.size) 9 _ _ _ HR.out
    simp only [List.getElem?_toArray, List.getElem?_cons_zero, List.getElem?_cons_succ] at r0 r1 r2 r3 r4 r5 r6 r7 r8 r9
    have f0 := fun o => frozen_of_row w5 w.heap.size o _ _ HR.out
    go_wp2_with fail
    refine bodyPost_ret (v := .agg #[.int .i64 4, .int .i64 p.kind, .int .i64 p.col, .int .i64 p.op, .int .i64 p.v.ty, .int .i64 p.v.n, .string p.v.s, (.slice As p.l.length cs), .int .i64 j, (.slice none 0 0)]) ?_ rfl ⟨_, rfl, ⟨⟨4, p, j, []⟩, .slice As p.l.length cs, (.slice none 0 0), w3.heap.size + 1, rfl, by omega, by simp [World.setCell]; omega, ?_, ?_, Lib.hid ⟨HPk.out.1, Nat.le_trans HPk.out.2 (by decide), by simp; try omega⟩⟩, ?_, ?_⟩
    · simp [results, Tryz.results42, go_sem, r0, r1, r2, r3, r4, r5, r6, r7, r8, r9]
    · refine (RdP.more (lo := w2.heap.size) (hi := w3.heap.size) ?_ (by omega) (by omega))
      refine Hrp.out.same fun b h1 h2 => ?_
      iterate 10 rw [Below.heap_setCell _ ⟨w.heap.size, _, none⟩ _ b (by show b ≠ w.heap.size; omega)]
      iterate 1 rw [Below.heap_setCell _ ⟨w3.heap.size, _, none⟩ _ b (by show b ≠ w3.heap.size; omega)]
    · exact own_ints_no _ _ _ _
    · iterate 11 refine chg_set ?_ (by omega) _
      exact hch
    · iterate 11 refine Dr.set ?_ (by omega) (by omega) _
      exact hd9
  by_cases h4 : k = 4
  · subst h4
    have hkk1 : (1 : Int) + ((4 : Nat) : Int) = 5 := rfl
    rw [hkk1] at hd4 HB hx4 Hrp HR hch hz4 hhi4
    clear hkw hkk1
    go_wp2_with fail
    refine (spec_l1Below (cols.length : Int) _ g hd4 (by omega)).mono ?_
    rintro e w5 ⟨_, rfl, ⟨j, rfl, -, -⟩, hch5, hd9⟩
    have hsw5 := hch5.size
    replace HR := Lib.hid (chg_cell HR.out hch5 hlt)
    replace HB := Lib.hid (chg_cell HB.out hch5 hlt3)
    replace Hrp := Lib.hid (Hrp.out.same (.of_chg hch5 (.inr (by omega)) (by omega)))
    replace hch := hch.trans hch5
    clear hd4 hx4 hch5
    have q0 := cell_of_row w5 (w3.heap.size) 0 _ _ _ HB.out
    have q1 := cell_of_row w5 (w3.heap.size) 1 _ _ _ HB.out
    have q2 := cell_of_row w5 (w3.heap.size) 2 _ _ _ HB.out
    have q3 := cell_of_row w5 (w3.heap.size) 3 _ _ _ HB.out
    have q4 := cell_of_row w5 (w3.heap.size) 4 _ _ _ HB.out
    have q5 := cell_of_row w5 (w3.heap.size) 5 _ _ _ HB.out
    have q6 := cell_of_row w5 (w3.heap.size) 6 _ _ _ HB.out
    have q7 := cell_of_row w5 (w3.heap.size) 7 _ _ _ HB.out
    have q8 := cell_of_row w5 (w3.heap.size) 8 _ _ _ HB.out
    have q9 := cell_of_row w5 (w3.heap.size) 9 _ _ _ HB.out
    simp only [List.getElem?_toArray, List.getElem?_cons_zero, List.getElem?_cons_succ] at q0 q1 q2 q3 q4 q5 q6 q7 q8 q9
    have f1 := fun o => frozen_of_row w5 w3.heap.size o _ _ HB.out
    have r0 := cell_of_row w5 (w.heap.size) 0 _ _ _ HR.out
    have r1 := cell_of_row w5 (w.heap.size) 1 _ _ _ HR.out
    have r2 := cell_of_row w5 (w.heap.size) 2 _ _ _ HR.out
    have r3 := cell_of_row w5 (w.heap.size) 3 _ _ _ HR.out
    have r4 := cell_of_row w5 (w.heap.size) 4 _ _ _ HR.out
    have r5 := cell_of_row w5 (w.heap.size) 5 _ _ _ HR.out
    have r6 := cell_of_row w5 (w.heap.size) 6 _ _ _ HR.out
    have r7 := cell_of_row w5 (w.heap.size) 7 _ _ _ HR.out
    have r8 := cell_of_row w5 (w.heap.size) 8 _ _ _ HR.out
    have r9 := cell_of_row w5 (w.heap.size) 9 _ _ _ HR.out
    simp only [List.getElem?_toArray, List.getElem?_cons_zero, List.getElem?_cons_succ] at r0 r1 r2 r3 r4 r5 r6 r7 r8 r9
    have f0 := fun o => frozen_of_row w5 w.heap.size o _ _ HR.out
    go_wp2_with fail
    refine bodyPost_ret (v := .agg #[.int .i64 5, .int .i64 p.kind, .int .i64 p.col, .int .i64 p.op, .int .i64 p.v.ty, .int .i64 p.v.n, .string p.v.s, (.slice As p.l.length cs), .int .i64 j, (.slice none 0 0)]) ?_ rfl ⟨_, rfl, ⟨⟨5, p, j, []⟩, .slice As p.l.length cs, (.slice none 0 0), w3.heap.size + 1, rfl, by omega, by simp [World.setCell]; omega, ?_, ?_, Lib.hid ⟨HPk.out.1, Nat.le_trans HPk.out.2 (by decide), by simp; try omega⟩⟩, ?_, ?_⟩
    · simp [results, Tryz.results42, go_sem, r0, r1, r2, r3, r4, r5, r6, r7, r8, r9]
    · refine (RdP.more (lo := w2.heap.size) (hi := w3.heap.size) ?_ (by omega) (by omega))
      refine Hrp.out.same fun b h1 h2 => ?_
      iterate 10 rw [Below.heap_setCell _ ⟨w.heap.size, _, none⟩ _ b (by show b ≠ w.heap.size; omega)]
      iterate 1 rw [Below.heap_setCell _ ⟨w3.heap.size, _, none⟩ _ b (by show b ≠ w3.heap.size; omega)]
    · exact own_ints_no _ _ _ _
    · iterate 11 refine chg_set ?_ (by omega) _
      exact hch
    · iterate 11 refine Dr.set ?_ (by omega) (by omega) _
      exact hd9
  by_cases h2 : k = 2
  · subst h2
    have hkk1 : (1 : Int) + ((2 : Nat) : Int) = 3 := rfl
    rw [hkk1] at hd4 HB hx4 Hrp HR hch hz4 hhi4
    clear hkw hkk1
    have Hst := Lib.hid (And.intro HB.out (And.intro Hrp.out (And.intro HR.out (And.intro hch (And.intro hd4 (And.intro hx4 (Nat.le_of_eq hz4.symm)))))))
    clear HB Hrp HR hch hd4 hx4 hz4 hhi4
    go_wp2_with fail
    go_loopw [7, 8] (fun kv i wr => ∃ (j : Nat) (kk : Int), Hid (i = .int .i64 j ∧ j ≤ cols.length ∧ kv = .int .i64 kk ∧ (kk = -1 ∨ (0 ≤ kk ∧ kk ≤ 3)) ∧ wr.heap[w3.heap.size]? = some (.cells #[.int .i64 3, .int .i64 p.kind, .int .i64 p.col, .int .i64 p.op, .int .i64 p.v.ty, .int .i64 p.v.n, .string p.v.s, (.slice As p.l.length cs), .int .i64 0, (.slice none 0 0)] 31) ∧ RdP wr w2.heap.size w3.heap.size (.slice As p.l.length cs) p.l ∧ wr.heap[w.heap.size]? = some (.cells #[.int .i64 0, .int .i64 0, .int .i64 0, .int .i64 0, .int .i64 0, .int .i64 0, .string ⟨#[]⟩, .slice none 0 0, .int .i64 0, .slice none 0 0] 31) ∧ Chg g (g + 1) w wr ∧ Dr wr g ∧ RdI wr (g + 1) hi (.slice A cols.length c) cols ∧ w3.heap.size + 1 ≤ wr.heap.size)) (fun _ i _ => cols.length - (intOf i).toNat)
    case atStart => exact ⟨0, -1, Lib.hid ⟨rfl, Nat.zero_le _, rfl, .inl rfl, Hst.out⟩⟩
    case round =>
      obtain ⟨j, kk, hrel⟩ := hrel
      obtain ⟨rfl, hj, rfl, hkk, hB, hrp, hR, hch, hd9, hxr, hsr⟩ := hrel.out
      have Hst2 := Lib.hid (And.intro hB (And.intro hrp (And.intro hR (And.intro hch (And.intro hd9 (And.intro hxr hsr))))))
      have Hrp := Lib.hid hrp
      clear hrel Hst hrp
      by_cases hjl : j < cols.length
      · obtain ⟨b, off, t, rfl, -, hbl, hck, e0⟩ := hxr.at hjl
        clear hck hB hR hch hd9 hxr
        by_cases ht : t = 1
        · subst ht
          go_wp2_with fail
          go_roundw
          case rel => exact ⟨j + 1, (j : Int), Lib.hid ⟨by go_num, by omega, rfl, .inr ⟨by omega, by omega⟩, Hst2.out⟩⟩
          case measure => simp [intOf]; omega
        · have b0 : (t == 1) = false := by simp [ht]
          go_wp2_with fail
          go_roundw
          case rel => exact ⟨j + 1, kk, Lib.hid ⟨by go_num, by omega, rfl, hkk, Hst2.out⟩⟩
          case measure => simp [intOf]; omega
      · obtain rfl : j = cols.length := by omega
        have q0 := cell_of_row wr (w3.heap.size) 0 _ _ _ hB
        have q1 := cell_of_row wr (w3.heap.size) 1 _ _ _ hB
        have q2 := cell_of_row wr (w3.heap.size) 2 _ _ _ hB
        have q3 := cell_of_row wr (w3.heap.size) 3 _ _ _ hB
        have q4 := cell_of_row wr (w3.heap.size) 4 _ _ _ hB
        have q5 := cell_of_row wr (w3.heap.size) 5 _ _ _ hB
        have q6 := cell_of_row wr (w3.heap.size) 6 _ _ _ hB
        have q7 := cell_of_row wr (w3.heap.size) 7 _ _ _ hB
        have q8 := cell_of_row wr (w3.heap.size) 8 _ _ _ hB
        have q9 := cell_of_row wr (w3.heap.size) 9 _ _ _ hB
        simp only [List.getElem?_toArray, List.getElem?_cons_zero, List.getElem?_cons_succ] at q0 q1 q2 q3 q4 q5 q6 q7 q8 q9
        have f1 := fun o => frozen_of_row wr w3.heap.size o _ _ hB
        have r0 := cell_of_row wr (w.heap.size) 0 _ _ _ hR
        have r1 := cell_of_row wr (w.heap.size) 1 _ _ _ hR
        have r2 := cell_of_row wr (w.heap.size) 2 _ _ _ hR
        have r3 := cell_of_row wr (w.heap.size) 3 _ _ _ hR
        have r4 := cell_of_row wr (w.heap.size) 4 _ _ _ hR
        have r5 := cell_of_row wr (w.heap.size) 5 _ _ _ hR
        have r6 := cell_of_row wr (w.heap.size) 6 _ _ _ hR
        have r7 := cell_of_row wr (w.heap.size) 7 _ _ _ hR
        have r8 := cell_of_row wr (w.heap.size) 8 _ _ _ hR
        have r9 := cell_of_row wr (w.heap.size) 9 _ _ _ hR
        simp only [List.getElem?_toArray, List.getElem?_cons_zero, List.getElem?_cons_succ] at r0 r1 r2 r3 r4 r5 r6 r7 r8 r9
        have f0 := fun o => frozen_of_row wr w.heap.size o _ _ hR
        clear hxr
        by_cases hk0 : kk < 0
        · have hdk : decide (kk < 0) = true := decide_eq_true hk0
          clear hkk
          go_wp2_with fail
          refine bodyPost_ret (v := .agg #[.int .i64 2, .int .i64 p.kind, .int .i64 p.col, .int .i64 p.op, .int .i64 p.v.ty, .int .i64 p.v.n, .string p.v.s, (.slice As p.l.length cs), .int .i64 0, (.slice none 0 0)]) ?_ rfl ⟨_, rfl, ⟨⟨2, p, 0, []⟩, .slice As p.l.length cs, (.slice none 0 0), w3.heap.size + 1, rfl, by omega, by simp [World.setCell]; omega, ?_, ?_, Lib.hid ⟨HPk.out.1, Nat.le_trans HPk.out.2 (by decide), by simp; try omega⟩⟩, ?_, ?_⟩
          · simp [results, Tryz.results42, go_sem, r0, r1, r2, r3, r4, r5, r6, r7, r8, r9]
          · refine (RdP.more (lo := w2.heap.size) (hi := w3.heap.size) ?_ (by omega) (by omega))
            refine Hrp.out.same fun b h1 h2 => ?_
            iterate 10 rw [Below.heap_setCell _ ⟨w.heap.size, _, none⟩ _ b (by show b ≠ w.heap.size; omega)]
            iterate 1 rw [Below.heap_setCell _ ⟨w3.heap.size, _, none⟩ _ b (by show b ≠ w3.heap.size; omega)]
          · exact own_ints_no _ _ _ _
          · iterate 11 refine chg_set ?_ (by omega) _
            exact hch
          · iterate 11 refine Dr.set ?_ (by omega) (by omega) _
            exact hd9
        · have hdk : decide (kk < 0) = false := decide_eq_false hk0
          clear hkk
          go_wp2_with fail
          refine bodyPost_ret (v := .agg #[.int .i64 3, .int .i64 p.kind, .int .i64 p.col, .int .i64 p.op, .int .i64 p.v.ty, .int .i64 p.v.n, .string p.v.s, (.slice As p.l.length cs), .int .i64 kk, (.slice none 0 0)]) ?_ rfl ⟨_, rfl, ⟨⟨3, p, kk, []⟩, .slice As p.l.length cs, (.slice none 0 0), w3.heap.size + 1, rfl, by omega, by simp [World.setCell]; omega, ?_, ?_, Lib.hid ⟨HPk.out.1, Nat.le_trans HPk.out.2 (by decide), by simp; try omega⟩⟩, ?_, ?_⟩
          · simp [results, Tryz.results42, go_sem, r0, r1, r2, r3, r4, r5, r6, r7, r8, r9]
          · refine (RdP.more (lo := w2.heap.size) (hi := w3.heap.size) ?_ (by omega) (by omega))
            refine Hrp.out.same fun b h1 h2 => ?_
            iterate 10 rw [Below.heap_setCell _ ⟨w.heap.size, _, none⟩ _ b (by show b ≠ w.heap.size; omega)]
            iterate 1 rw [Below.heap_setCell _ ⟨w3.heap.size, _, none⟩ _ b (by show b ≠ w3.heap.size; omega)]
          · exact own_ints_no _ _ _ _
          · iterate 11 refine chg_set ?_ (by omega) _
            exact hch
          · iterate 11 refine Dr.set ?_ (by omega) (by omega) _
            exact hd9
  by_cases h0 : k = 0
  · subst h0
    have hkk1 : (1 : Int) + ((0 : Nat) : Int) = 1 := rfl
    rw [hkk1] at hd4 HB hx4 Hrp HR hch hz4 hhi4
    clear hkw hkk1
    go_wp2_with fail
    refine (spec_l1Below 2 _ g hd4 (by decide)).mono ?_
    rintro e w5 ⟨_, rfl, ⟨m, rfl, hm1, -⟩, hch5, hd5⟩
    have hm : m < 2 := by have := hm1 (by decide); omega
    have hwm : IntKind.i64.wrap (1 + (m : Int)) = 1 + (m : Int) := IntWalk.i64_in _ ⟨by omega, by omega⟩
    have hs5 := hch5.size
    rw [hz4] at hs5
    have Hst := Lib.hid (And.intro (chg_cell HB.out hch5 hlt3) (And.intro (Hrp.out.same (.of_chg hch5 (.inr (by omega)) (by omega))) (And.intro (chg_cell HR.out hch5 hlt) (And.intro (hch.trans hch5) (And.intro hd5 (And.intro (hx4.same (.of_chg hch5 (.inr (Nat.le_refl _)) hhi4)) hs5))))))
    clear HB Hrp HR hch hd4 hx4 hz4 hhi4 hch5 hd5 hm1
    go_wp2_with fail
    go_loopw [6] (fun i wr => ∃ (n : Nat) (xs : List Int) (ov : Value), Hid (i = .int .i64 n ∧ xs.length + n = m + 1 ∧ Own 3 1 wr (w3.heap.size + 1) wr.heap.size ov xs.length (xs.map (Value.int .i64)) ∧ wr.heap[w3.heap.size]? = some (.cells #[.int .i64 1, .int .i64 p.kind, .int .i64 p.col, .int .i64 p.op, .int .i64 p.v.ty, .int .i64 p.v.n, .string p.v.s, (.slice As p.l.length cs), .int .i64 0, ov] 31) ∧ RdP wr w2.heap.size w3.heap.size (.slice As p.l.length cs) p.l ∧ wr.heap[w.heap.size]? = some (.cells #[.int .i64 0, .int .i64 0, .int .i64 0, .int .i64 0, .int .i64 0, .int .i64 0, .string ⟨#[]⟩, .slice none 0 0, .int .i64 0, .slice none 0 0] 31) ∧ Chg g (g + 1) w wr ∧ Dr wr g ∧ RdI wr (g + 1) hi (.slice A cols.length c) cols ∧ w3.heap.size + 1 ≤ wr.heap.size)) (fun i _ => (intOf i).toNat)
    case atStart => exact ⟨m + 1, [], .slice none 0 0, Lib.hid ⟨by rw [show (1 : Int) + (m : Int) = ((m + 1 : Nat) : Int) by omega], by simp, own_ints_no _ _ _ _, Hst.out⟩⟩
    case round =>
      obtain ⟨n, xs, ov, hrel⟩ := hrel
      obtain ⟨rfl, hn, hown, hB, hrp, hR, hch, hd9, hxr, hsr⟩ := hrel.out
      obtain ⟨Ao, co, rfl, -, -, -⟩ := hown.cells
      have Hrp := Lib.hid hrp
      have Hown := Lib.hid hown
      have Hn := Lib.hid hn
      have hxl : xs.length ≤ 2 := by omega
      have hn3 : (n : Int) ≤ 2 := by omega
      clear hrel Hst hrp hown
      by_cases hn0 : 0 < n
      · have hdn : decide (0 < (n : Int)) = true := decide_eq_true (by omega)
        have q9 := cell_of_row wr (w3.heap.size) 9 _ _ _ hB
        simp only [List.getElem?_toArray, List.getElem?_cons_zero, List.getElem?_cons_succ] at q9
        clear hn
        go_wp2_with fail
        refine wp_region_T (S := fun w' => w'.cell? ⟨w3.heap.size, 9, none⟩ = some (.slice Ao xs.length co)) (n := 9) (by kernel_rfl) ?_
        generalize hX0 : wr.drew = X0
        have HB0 : Below wr.heap.size wr X0 := hX0 ▸ (Below.refl _ _).drew
        have s0 : wr.heap.size ≤ X0.heap.size := HB0.size
        have x0 := cell_keep q9 HB0
        clear hX0
        have F0 : X0.cell? ⟨w3.heap.size, 9, none⟩ = some (.slice Ao xs.length co) := x0
        refine wpAnyT_take (i := 0) (oi := _) (v := ?_) rfl (by kernel_rfl) (by kernel_rfl) (by kernel_rfl) (by kernel_rfl) (fun _ _ _ h => h) (Or.inl ⟨by rfl, ?_⟩) F0 ?_
        rotate_left
        · (intro w' hSw; (try dsimp only at hSw); go_simp) <;> with_reducible rfl
        try simp only [Act.put, List.setIfInBounds_toArray, List.set_cons_zero, List.set_cons_succ]
        refine wpAnyT_take (i := 1) (oi := _) (v := ?_) rfl (by kernel_rfl) (by kernel_rfl) (by kernel_rfl) (by kernel_rfl) (fun _ _ _ h => h) (Or.inl ⟨by rfl, ?_⟩) F0 ?_
        rotate_left
        · (intro w' hSw; (try dsimp only at hSw); go_simp) <;> with_reducible rfl
        try simp only [Act.put, List.setIfInBounds_toArray, List.set_cons_zero, List.set_cons_succ]
        refine wpAnyT_take (i := 2) (oi := _) (v := ?_) rfl (by kernel_rfl) (by kernel_rfl) (by kernel_rfl) (by kernel_rfl) (fun _ _ _ h => h) (Or.inl ⟨by rfl, ?_⟩) F0 ?_
        rotate_left
        · (intro w' hSw; (try dsimp only at hSw); go_simp) <;> with_reducible rfl
        try simp only [Act.put, List.setIfInBounds_toArray, List.set_cons_zero, List.set_cons_succ]
        refine wpAnyT_take (i := 3) (oi := _) (v := ?_) rfl (by kernel_rfl) (by kernel_rfl) (by kernel_rfl) (by kernel_rfl) (fun _ _ _ h => h) (Or.inl ⟨by rfl, ?_⟩) F0 ?_
        rotate_left
        · (intro w' hSw; (try dsimp only at hSw); go_simp) <;> with_reducible rfl
        try simp only [Act.put, List.setIfInBounds_toArray, List.set_cons_zero, List.set_cons_succ]
        refine wpAnyT_take (i := 4) (oi := _) (v := ?_) rfl (by kernel_rfl) (by kernel_rfl) (by kernel_rfl) (by kernel_rfl) (fun _ _ _ h => h) (Or.inl ⟨by rfl, ?_⟩) F0 ?_
        rotate_left
        · (intro w' hSw; (try dsimp only at hSw); go_simp) <;> with_reducible rfl
        try simp only [Act.put, List.setIfInBounds_toArray, List.set_cons_zero, List.set_cons_succ]
        refine wpAnyT_one (k := 5) (o := _) (by kernel_rfl) rfl rfl ?_
        intro K hK
        go_simp
        refine (spec_l1Below (cols.length : Int) X0 g (hd9.below HB0) (by omega)).mono ?_
        rintro e w6 ⟨_, rfl, ⟨j, rfl, hj, -⟩, hch6, hd6⟩
        have hs6 := hch6.size
        have hch60 : Chg g (g + 1) wr w6 := (Chg.of_below HB0).trans hch6
        have HB6 := Lib.hid (chg_cell hB hch60 hlt3)
        have HR6 := Lib.hid (chg_cell hR hch60 hlt)
        have F6 := cell_of_row w6 (w3.heap.size) 9 _ _ _ HB6.out
        simp only [List.getElem?_toArray, List.getElem?_cons_zero, List.getElem?_cons_succ] at F6
        have Hout := Lib.hid (owns_chg Hown.out.1 hch60 (by omega))
        have Hrp6 := Lib.hid (Hrp.out.same (.of_chg hch60 (.inr (by omega)) (by omega)))
        have hx6 := hxr.same (.of_chg hch60 (.inr (Nat.le_refl _)) (by omega))
        refine hK.out _ _ (fun _ => F6) ?_
        clear hK hj
        try simp only [Act.put, List.setIfInBounds_toArray, List.set_cons_zero, List.set_cons_succ]
        refine wpAnyT_one (k := 6) (o := _) (by kernel_rfl) rfl rfl ?_
        intro K hK
        go_simp
        have hB7 := heap_alloc_new w6 (.cells #[.int .i64 j] 3)
        have up7 := up_a1 w6 (.cells #[.int .i64 j] 3)
        have z7 : (w6.alloc (.cells #[.int .i64 j] 3)).heap.size = w6.heap.size + 1 := by simp
        have F7 := cell_keep F6 up7
        refine hK.out _ _ (fun _ => F7) ?_
        clear hK
        try simp only [Act.put, List.setIfInBounds_toArray, List.set_cons_zero, List.set_cons_succ]
        refine wpAnyT_one (k := 7) (o := _) (by kernel_rfl) rfl rfl ?_
        intro K hK
        refine step_app rfl _ _ 29 rfl (w3.heap.size + 1) 3 i0 _ 1 8 Tryz.underlying29 hif.out hz0.out hz1.out hz2.out rfl (by decide) (by decide) (Hout.out.alloc _) rfl hB7 rfl rfl (by simp [Value.oneCell']) (by omega) (by rw [z7]; omega) ?_
        intro v' w8 hown' hgrow hnb
        obtain ⟨A8, c8, rfl, -, -, -⟩ := (Own.new hown').cells
        have hob : ∀ b, (Value.slice Ao xs.length co).ownBlock = some b → w3.heap.size + 1 ≤ b := fun b hb => (Hout.out.lt b hb).1
        have hob' : ∀ b, (Value.slice A8 (xs.length + 1) c8).ownBlock = some b → w3.heap.size + 1 ≤ b := fun b hb => (hown'.lt b hb).1
        have HB8 := Lib.hid ((hgrow.block w3.heap.size (by rw [z7]; omega) (fun e => by have := hob _ e.symm; omega)).trans (alloc_old (o := (.cells #[.int .i64 j] 3)) HB6.out))
        have HR8 := Lib.hid ((hgrow.block w.heap.size (by rw [z7]; omega) (fun e => by have := hob _ e.symm; omega)).trans (alloc_old (o := (.cells #[.int .i64 j] 3)) HR6.out))
        have hcw : Chg g (g + 1) wr (w6.alloc (.cells #[.int .i64 j] 3)) := hch60.trans (.of_below up7)
        have hs8 := hgrow.size
        rw [z7] at hs8
        have nb := fun b (hb : b ≠ w3.heap.size) => Below.heap_setCell w8 ⟨w3.heap.size, 9, none⟩ (Value.slice A8 (xs.length + 1) c8) b (by show b ≠ w3.heap.size; exact hb)
        have hzz : (w8.setCell ⟨w3.heap.size, 9, none⟩ (Value.slice A8 (xs.length + 1) c8)).heap.size = w8.heap.size := by simp [World.setCell]
        have hset := set1 (o := 9) (a := Value.slice A8 (xs.length + 1) c8) HB8.out
        simp only [List.setIfInBounds_toArray, List.set_cons_succ, List.set_cons_zero] at hset
        have Hst8 := Lib.hid (And.intro hset (And.intro ((Hrp6.out.below up7 (by omega)).same (fun b h1 h2 => (nb b (by omega)).trans (hgrow.block b (by rw [z7]; omega) (fun e => by have := hob _ e.symm; omega)))) (And.intro ((nb w.heap.size (by omega)).trans HR8.out) (And.intro (chg_set (b := w3.heap.size) (o := 9) (chg_grown (hch.trans hcw) hgrow (fun b hb => by have := hob b hb; omega)) (by omega) (Value.slice A8 (xs.length + 1) c8)) (And.intro (((dr_new hd6 #[.int .i64 j] 3).grown hgrow (fun b hb => by have := hob b hb; omega)).set (b := w3.heap.size) (o := 9) (by omega) (by omega) (Value.slice A8 (xs.length + 1) c8)) (And.intro ((hx6.below up7 (by omega)).same (fun b h1 h2 => (nb b (by omega)).trans (hgrow.block b (by rw [z7]; omega) (fun e => by have := hob _ e.symm; omega)))) (show w3.heap.size + 1 ≤ (w8.setCell ⟨w3.heap.size, 9, none⟩ (Value.slice A8 (xs.length + 1) c8)).heap.size by omega)))))))
        have Hown8 := Lib.hid (show Own 3 1 (w8.setCell ⟨w3.heap.size, 9, none⟩ (Value.slice A8 (xs.length + 1) c8)) (w3.heap.size + 1) (w8.setCell ⟨w3.heap.size, 9, none⟩ (Value.slice A8 (xs.length + 1) c8)).heap.size (Value.slice A8 (xs.length + 1) c8) (xs ++ [(j : Int)]).length ((xs ++ [(j : Int)]).map (Value.int .i64)) from by
          rw [hzz, List.length_append, List.map_append]
          exact (Own.new hown').same fun b h1 h2 => nb b (by omega))
        have F8 := cell_of_row w8 (w3.heap.size) 9 _ _ _ HB8.out
        simp only [List.getElem?_toArray, List.getElem?_cons_zero, List.getElem?_cons_succ] at F8
        have fz8 := fun o => frozen_of_row w8 w3.heap.size o _ _ HB8.out
        clear hown' hgrow hnb hcw hB7 up7 F7 F6 hch60 hch6 hd6 nb hzz hset hx6 hob hob' HB6 HR6 Hrp6 HR8 F0 x0
        refine hK.out _ _ (fun _ => F8) ?_
        clear hK
        try simp only [Act.put, List.setIfInBounds_toArray, List.set_cons_zero, List.set_cons_succ]
        refine wpAnyT_one (k := 8) (o := _) (by kernel_rfl) rfl rfl ?_
        intro K hK
        go_simp
        refine hK.out _ _ (fun _ => F8) ?_
        clear hK
        refine wpAnyT_one (k := 9) (o := _) (by kernel_rfl) rfl rfl ?_
        intro K hK
        go_simp
        refine hK.out _ _ (fun h => absurd rfl h) ?_
        clear hK
        refine wpAnyT_done (by kernel_rfl) ?_ _
        clear F8 fz8
        go_wp2_with fail
        go_roundw
        case rel => exact ⟨n - 1, xs ++ [(j : Int)], _, Lib.hid ⟨by go_num, by have := Hn.out; simp; omega, Hown8.out, Hst8.out⟩⟩
        case measure => simp [intOf]; omega
      · obtain rfl : n = 0 := by omega
        have hdn : decide (0 < ((0 : Nat) : Int)) = false := rfl
        have q0 := cell_of_row wr (w3.heap.size) 0 _ _ _ hB
        have q1 := cell_of_row wr (w3.heap.size) 1 _ _ _ hB
        have q2 := cell_of_row wr (w3.heap.size) 2 _ _ _ hB
        have q3 := cell_of_row wr (w3.heap.size) 3 _ _ _ hB
        have q4 := cell_of_row wr (w3.heap.size) 4 _ _ _ hB
        have q5 := cell_of_row wr (w3.heap.size) 5 _ _ _ hB
        have q6 := cell_of_row wr (w3.heap.size) 6 _ _ _ hB
        have q7 := cell_of_row wr (w3.heap.size) 7 _ _ _ hB
        have q8 := cell_of_row wr (w3.heap.size) 8 _ _ _ hB
        have q9 := cell_of_row wr (w3.heap.size) 9 _ _ _ hB
        simp only [List.getElem?_toArray, List.getElem?_cons_zero, List.getElem?_cons_succ] at q0 q1 q2 q3 q4 q5 q6 q7 q8 q9
        have f1 := fun o => frozen_of_row wr w3.heap.size o _ _ hB
        have r0 := cell_of_row wr (w.heap.size) 0 _ _ _ hR
        have r1 := cell_of_row wr (w.heap.size) 1 _ _ _ hR
        have r2 := cell_of_row wr (w.heap.size) 2 _ _ _ hR
        have r3 := cell_of_row wr (w.heap.size) 3 _ _ _ hR
        have r4 := cell_of_row wr (w.heap.size) 4 _ _ _ hR
        have r5 := cell_of_row wr (w.heap.size) 5 _ _ _ hR
        have r6 := cell_of_row wr (w.heap.size) 6 _ _ _ hR
        have r7 := cell_of_row wr (w.heap.size) 7 _ _ _ hR
        have r8 := cell_of_row wr (w.heap.size) 8 _ _ _ hR
        have r9 := cell_of_row wr (w.heap.size) 9 _ _ _ hR
        simp only [List.getElem?_toArray, List.getElem?_cons_zero, List.getElem?_cons_succ] at r0 r1 r2 r3 r4 r5 r6 r7 r8 r9
        have f0 := fun o => frozen_of_row wr w.heap.size o _ _ hR
        clear hxr hn
        go_wp2_with fail
        refine bodyPost_ret (v := .agg #[.int .i64 1, .int .i64 p.kind, .int .i64 p.col, .int .i64 p.op, .int .i64 p.v.ty, .int .i64 p.v.n, .string p.v.s, (.slice As p.l.length cs), .int .i64 0, (.slice Ao xs.length co)]) ?_ rfl ⟨_, rfl, ⟨⟨1, p, 0, xs⟩, .slice As p.l.length cs, (.slice Ao xs.length co), w3.heap.size + 1, rfl, by omega, by simp [World.setCell]; omega, ?_, ?_, Lib.hid ⟨HPk.out.1, Nat.le_trans HPk.out.2 (by decide), by simp; try omega⟩⟩, ?_, ?_⟩
        · simp [results, Tryz.results42, go_sem, r0, r1, r2, r3, r4, r5, r6, r7, r8, r9]
        · refine (RdP.more (lo := w2.heap.size) (hi := w3.heap.size) ?_ (by omega) (by omega))
          refine Hrp.out.same fun b h1 h2 => ?_
          iterate 10 rw [Below.heap_setCell _ ⟨w.heap.size, _, none⟩ _ b (by show b ≠ w.heap.size; omega)]
          skip
        · refine (Hown.out.more (Nat.le_refl _) (by simp [World.setCell])).same fun b h1 h2 => ?_
          iterate 10 rw [Below.heap_setCell _ ⟨w.heap.size, _, none⟩ _ b (by show b ≠ w.heap.size; omega)]
        · iterate 10 refine chg_set ?_ (by omega) _
          exact hch
        · iterate 10 refine Dr.set ?_ (by omega) (by omega) _
          exact hd9
  omega
end Go.Proofs.YtidmlfjolhnnfaaGreatDoor
