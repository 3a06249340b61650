/- Draws: any queries; queries and rows. -/
import Derived.Test.YtidmlfjolhnnfaaGreatDoorD34
import Derived.Test.YtidmlfjolhnnfaaGreatDoorD33
namespace Go.Proofs.YtidmlfjolhnnfaaGreatDoor
open Go.Sort Go.ChangeShapes Go.WideShapes Go.ChangeAt Go.RowKit Go.Lb
/-- A query, as it is handed back. -/
def GoodA (B : Nat) (v : Value) (w : World) : Prop := ∃ (q : Q) (sv ov : Value), v = .agg #[.int .i64 q.kind, .int .i64 q.p.kind, .int .i64 q.p.col, .int .i64 q.p.op, .int .i64 q.p.v.ty, .int .i64 q.p.v.n, .string q.p.v.s, sv, .int .i64 q.col, ov] ∧ RdP w B w.heap.size sv q.p.l ∧ RdI w B w.heap.size ov q.out ∧ Hid (POk q.p ∧ cntP q.p.l ≤ 20 ∧ q.out.length ≤ 5)
theorem rdI_one {e : TypeId} {w : World} {lo g c : Nat} {xs : List Int} (h : w.ownsRow lo e 1 (.slice (some ⟨g, 0, none⟩) xs.length c) xs.length (xs.map (Value.int .i64))) : RdI w g (g + 1) (.slice (some ⟨g, 0, none⟩) xs.length c) xs :=
  (Own.of_zero (owns_zero h) (fun b hb => by simp [Value.ownBlock] at hb; omega) : Own e 1 w g (g + 1) _ xs.length (xs.map (Value.int .i64))).rdI
set_option maxRecDepth 20000 in
set_option maxHeartbeats 16000000 in
theorem spec_l12Any (cols : List Int) (x : Value) (w : World) (g : Nat) (hd : Dr w g) {hi : Nat} (hx : RdI w (g + 1) hi x cols) (hhi : hi ≤ w.heap.size) (hok : colsOk cols = true) :
    Calls Tryz.prog 22 #[.pointer (some ⟨g, 0, none⟩), x] w (DrP w g (GoodA w.heap.size)) := by
  have hlt := hd.lt
  obtain ⟨i0, hif, hz0, hz1, hz2⟩ := info_parts info_I
  have hif := Lib.hid hif
  have hz0 := Lib.hid hz0
  have hz1 := Lib.hid hz1
  have hz2 := Lib.hid hz2
  obtain ⟨A, c, rfl, hcl, hcl2⟩ := hx.form
  have Hok := Lib.hid hok
  clear hok
  have hd1 := dr_new hd #[.int .i64 0, .int .i64 0, .int .i64 0, .int .i64 0, .int .i64 0, .int .i64 0, .string ⟨#[]⟩, .slice none 0 0, .int .i64 0, .slice none 0 0] 31
  have HR := Lib.hid (heap_alloc_new w (.cells #[.int .i64 0, .int .i64 0, .int .i64 0, .int .i64 0, .int .i64 0, .int .i64 0, .string ⟨#[]⟩, .slice none 0 0, .int .i64 0, .slice none 0 0] 31))
  have hch := chg_new g w #[.int .i64 0, .int .i64 0, .int .i64 0, .int .i64 0, .int .i64 0, .int .i64 0, .string ⟨#[]⟩, .slice none 0 0, .int .i64 0, .slice none 0 0] 31
  have hx1 := hx.below (up_a1 w (.cells #[.int .i64 0, .int .i64 0, .int .i64 0, .int .i64 0, .int .i64 0, .int .i64 0, .string ⟨#[]⟩, .slice none 0 0, .int .i64 0, .slice none 0 0] 31)) hhi
  have hhi1 : hi ≤ (w.alloc (.cells #[.int .i64 0, .int .i64 0, .int .i64 0, .int .i64 0, .int .i64 0, .int .i64 0, .string ⟨#[]⟩, .slice none 0 0, .int .i64 0, .slice none 0 0] 31)).heap.size := by simp; omega
  have hsz : w.heap.size + 1 ≤ (w.alloc (.cells #[.int .i64 0, .int .i64 0, .int .i64 0, .int .i64 0, .int .i64 0, .int .i64 0, .string ⟨#[]⟩, .slice none 0 0, .int .i64 0, .slice none 0 0] 31)).heap.size := by simp
  clear hx
  go_enter Tryz.func22, Tryz.ntmps22
  go_wp2_with fail
  refine (spec_l12Draw cols _ _ g hd1 hx1 hhi1 Hok.out).mono ?_
  rintro e w3 ⟨_, rfl, ⟨q, sv, ov, mm, rfl, hB1, hB2, hrp, hown, hqk⟩, hch3, hd3⟩
  have HQk := hqk
  have hx3 := hx1.same (.of_chg hch3 (.inr (Nat.le_refl _)) hhi1)
  have hhi3 := Nat.le_trans hhi1 hch3.size
  have hsz3 := Nat.le_trans hsz hB1
  replace HR := Lib.hid (chg_cell HR.out hch3 hlt)
  replace hch := hch.trans hch3
  have hlt3 := hd3.lt
  have hgB : g < mm := by omega
  obtain ⟨As, cs, rfl, -, -⟩ := hrp.form
  obtain ⟨Ao, co, rfl, -, -, -⟩ := hown.cells
  have hrp := RdP.more hrp (show w.heap.size + 1 ≤ _ from hsz) (Nat.le_refl _)
  clear hd1 hx1 hch3 hB1 hsz hhi1
  have hd4 := dr_new hd3 #[.int .i64 q.kind, .int .i64 q.p.kind, .int .i64 q.p.col, .int .i64 q.p.op, .int .i64 q.p.v.ty, .int .i64 q.p.v.n, .string q.p.v.s, (.slice As q.p.l.length cs), .int .i64 q.col, (.slice Ao q.out.length co)] 31
  have HB := Lib.hid (heap_alloc_new w3 (.cells #[.int .i64 q.kind, .int .i64 q.p.kind, .int .i64 q.p.col, .int .i64 q.p.op, .int .i64 q.p.v.ty, .int .i64 q.p.v.n, .string q.p.v.s, (.slice As q.p.l.length cs), .int .i64 q.col, (.slice Ao q.out.length co)] 31))
  have hup := up_a1 w3 (.cells #[.int .i64 q.kind, .int .i64 q.p.kind, .int .i64 q.p.col, .int .i64 q.p.op, .int .i64 q.p.v.ty, .int .i64 q.p.v.n, .string q.p.v.s, (.slice As q.p.l.length cs), .int .i64 q.col, (.slice Ao q.out.length co)] 31)
  have hx4 := hx3.below hup hhi3
  have Hrp := Lib.hid (hrp.below hup hB2)
  have Hown := Lib.hid (hown.below hup (Nat.le_refl _))
  replace HR := Lib.hid (alloc_old (o := (.cells #[.int .i64 q.kind, .int .i64 q.p.kind, .int .i64 q.p.col, .int .i64 q.p.op, .int .i64 q.p.v.ty, .int .i64 q.p.v.n, .string q.p.v.s, (.slice As q.p.l.length cs), .int .i64 q.col, (.slice Ao q.out.length co)] 31)) HR.out)
  replace hch := hch.trans (chg_new g w3 #[.int .i64 q.kind, .int .i64 q.p.kind, .int .i64 q.p.col, .int .i64 q.p.op, .int .i64 q.p.v.ty, .int .i64 q.p.v.n, .string q.p.v.s, (.slice As q.p.l.length cs), .int .i64 q.col, (.slice Ao q.out.length co)] 31)
  have hz4 : (w3.alloc (.cells #[.int .i64 q.kind, .int .i64 q.p.kind, .int .i64 q.p.col, .int .i64 q.p.op, .int .i64 q.p.v.ty, .int .i64 q.p.v.n, .string q.p.v.s, (.slice As q.p.l.length cs), .int .i64 q.col, (.slice Ao q.out.length co)] 31)).heap.size = w3.heap.size + 1 := by simp
  have Hz4 := Lib.hid hz4
  have hlw : w.heap.size < w3.heap.size := by omega
  clear hrp hown hd3 hx3 hup hz4 hqk
  go_wp2_with fail
  refine (spec_l1Below 12 (w3.alloc (.cells #[.int .i64 q.kind, .int .i64 q.p.kind, .int .i64 q.p.col, .int .i64 q.p.op, .int .i64 q.p.v.ty, .int .i64 q.p.v.n, .string q.p.v.s, (.slice As q.p.l.length cs), .int .i64 q.col, (.slice Ao q.out.length co)] 31)) g hd4 (by decide)).mono ?_
  rintro e w5 ⟨_, rfl, ⟨m, rfl, -, -⟩, hch5, hd5⟩
  have hx5 := hx4.same (.of_chg hch5 (.inr (Nat.le_refl _)) (by rw [Hz4.out]; omega))
  have hs5 := hch5.size
  rw [Hz4.out] at hs5
  replace Hrp := Lib.hid (Hrp.out.same (.of_chg hch5 (.inr (by omega)) (by rw [Hz4.out]; omega)))
  replace Hown := Lib.hid (Hown.out.same (.of_chg hch5 (.inr (by omega)) (by rw [Hz4.out]; omega)))
  replace HR := Lib.hid (chg_cell HR.out hch5 hlt)
  replace HB := Lib.hid (chg_cell HB.out hch5 hlt3)
  replace hch := hch.trans hch5
  have hhi5 : hi ≤ w5.heap.size := by omega
  clear hx4 hd4 hch5
  by_cases h0 : m = 0
  · subst h0
    go_wp2_with fail
    refine (spec_l1Below 8 w5 g hd5 (by decide)).mono ?_
    rintro e w6 ⟨_, rfl, ⟨j, rfl, hj1, -⟩, hch6, hd6⟩
    have hs6 := hch6.size
    have hj : j < 8 := by have := hj1 (by decide); omega
    have hjw : IntKind.i64.wrap ((j : Int) - 1) = (j : Int) - 1 := IntWalk.i64_in _ ⟨by omega, by omega⟩
    clear hj1
    replace Hrp := Lib.hid (Hrp.out.same (.of_chg hch6 (.inr (by omega)) (by omega)))
    replace Hown := Lib.hid (Hown.out.same (.of_chg hch6 (.inr (by omega)) (by omega)))
    replace HR := Lib.hid (chg_cell HR.out hch6 hlt)
    replace HB := Lib.hid (chg_cell HB.out hch6 hlt3)
    replace hch := hch.trans hch6
    clear hd5 hx5
    have hd5 := hd6
    clear hd6
    clear hch6
    have q0 := cell_of_row w6 (w3.heap.size) 0 _ _ _ HB.out
    have q1 := cell_of_row w6 (w3.heap.size) 1 _ _ _ HB.out
    have q2 := cell_of_row w6 (w3.heap.size) 2 _ _ _ HB.out
    have q3 := cell_of_row w6 (w3.heap.size) 3 _ _ _ HB.out
    have q4 := cell_of_row w6 (w3.heap.size) 4 _ _ _ HB.out
    have q5 := cell_of_row w6 (w3.heap.size) 5 _ _ _ HB.out
    have q6 := cell_of_row w6 (w3.heap.size) 6 _ _ _ HB.out
    have q7 := cell_of_row w6 (w3.heap.size) 7 _ _ _ HB.out
    have q8 := cell_of_row w6 (w3.heap.size) 8 _ _ _ HB.out
    have q9 := cell_of_row w6 (w3.heap.size) 9 _ _ _ HB.out
    simp only [List.getElem?_toArray, List.getElem?_cons_zero, List.getElem?_cons_succ] at q0 q1 q2 q3 q4 q5 q6 q7 q8 q9
    have r0 := cell_of_row w6 (w.heap.size) 0 _ _ _ HR.out
    have r1 := cell_of_row w6 (w.heap.size) 1 _ _ _ HR.out
    have r2 := cell_of_row w6 (w.heap.size) 2 _ _ _ HR.out
    have r3 := cell_of_row w6 (w.heap.size) 3 _ _ _ HR.out
    have r4 := cell_of_row w6 (w.heap.size) 4 _ _ _ HR.out
    have r5 := cell_of_row w6 (w.heap.size) 5 _ _ _ HR.out
    have r6 := cell_of_row w6 (w.heap.size) 6 _ _ _ HR.out
    have r7 := cell_of_row w6 (w.heap.size) 7 _ _ _ HR.out
    have r8 := cell_of_row w6 (w.heap.size) 8 _ _ _ HR.out
    have r9 := cell_of_row w6 (w.heap.size) 9 _ _ _ HR.out
    simp only [List.getElem?_toArray, List.getElem?_cons_zero, List.getElem?_cons_succ] at r0 r1 r2 r3 r4 r5 r6 r7 r8 r9
    have f0 := fun o => frozen_of_row w6 w.heap.size o _ _ HR.out
    have f1 := fun o => frozen_of_row w6 w3.heap.size o _ _ HB.out
    clear HB HR
    go_wp2_with fail
    refine bodyPost_ret (v := .agg #[.int .i64 ((j : Int) - 1), .int .i64 q.p.kind, .int .i64 q.p.col, .int .i64 q.p.op, .int .i64 q.p.v.ty, .int .i64 q.p.v.n, .string q.p.v.s, (.slice As q.p.l.length cs), .int .i64 q.col, (.slice Ao q.out.length co)]) ?_ rfl ⟨_, rfl, ⟨⟨(j : Int) - 1, q.p, q.col, q.out⟩, (.slice As q.p.l.length cs), (.slice Ao q.out.length co), rfl, ?_, ?_, Lib.hid ⟨HQk.out.1, HQk.out.2.1, Nat.le_trans HQk.out.2.2 (by decide)⟩⟩, ?_, ?_⟩
    · simp [results, Tryz.results22, go_sem, r0, r1, r2, r3, r4, r5, r6, r7, r8, r9]
    · refine RdP.more (lo := w.heap.size + 1) (hi := mm) ?_ (by omega) (by simp [World.setCell]; omega)
      refine Hrp.out.same fun b h1 h2 => ?_
      iterate 10 rw [Below.heap_setCell _ ⟨w.heap.size, _, none⟩ _ b (by show b ≠ w.heap.size; omega)]
      iterate 1 rw [Below.heap_setCell _ ⟨w3.heap.size, _, none⟩ _ b (by show b ≠ w3.heap.size; omega)]
    · refine RdG.imp (lo := mm) (hi := w3.heap.size) ?_ (by omega) (by simp [World.setCell]; omega) (fun _ _ _ _ _ h => h)
      refine RdI.same Hown.out.rdI fun b h1 h2 => ?_
      iterate 10 rw [Below.heap_setCell _ ⟨w.heap.size, _, none⟩ _ b (by show b ≠ w.heap.size; omega)]
      iterate 1 rw [Below.heap_setCell _ ⟨w3.heap.size, _, none⟩ _ b (by show b ≠ w3.heap.size; omega)]
    · iterate 11 refine chg_set ?_ (by omega) _
      exact hch
    · iterate 11 refine Dr.set ?_ (by omega) (by omega) _
      exact hd5
  have b0 : ((m : Int) == 0) = false := by simp; omega
  by_cases h1 : m = 1
  · subst h1
    have hx9 := rdI_new w5 [-1, 0, 1, 3] 3 (by decide)
    have hlt5 := hd5.lt
    replace hd5 := dr_new hd5 (([-1, 0, 1, 3] : List Int).map (Value.int .i64)).toArray 3
    have hup := up_a1 w5 (.cells (([-1, 0, 1, 3] : List Int).map (Value.int .i64)).toArray 3)
    replace Hrp := Lib.hid (Hrp.out.below hup (by omega))
    replace Hown := Lib.hid (Hown.out.below hup (by omega))
    replace HR := Lib.hid (alloc_old (o := (.cells (([-1, 0, 1, 3] : List Int).map (Value.int .i64)).toArray 3)) HR.out)
    replace HB := Lib.hid (alloc_old (o := (.cells (([-1, 0, 1, 3] : List Int).map (Value.int .i64)).toArray 3)) HB.out)
    replace hch := hch.trans (chg_new g w5 (([-1, 0, 1, 3] : List Int).map (Value.int .i64)).toArray 3)
    have hz5 : (w5.alloc (.cells (([-1, 0, 1, 3] : List Int).map (Value.int .i64)).toArray 3)).heap.size = w5.heap.size + 1 := by simp
    go_wp2_with fail
    refine (spec_l1Int [-1, 0, 1, 3] _ _ g hd5 (RdG.imp hx9 hlt5 (Nat.le_refl _) fun _ _ _ _ _ h => h) (by simp) (by decide) (by decide)).mono ?_
    rintro e w6 ⟨_, rfl, ⟨j, -, rfl⟩, hch6, hd6⟩
    have hs6 := hch6.size
    rw [hz5] at hs6
    replace Hrp := Lib.hid (Hrp.out.same (.of_chg hch6 (.inr (by omega)) (by rw [hz5]; omega)))
    replace Hown := Lib.hid (Hown.out.same (.of_chg hch6 (.inr (by omega)) (by rw [hz5]; omega)))
    replace HR := Lib.hid (chg_cell HR.out hch6 hlt)
    replace HB := Lib.hid (chg_cell HB.out hch6 hlt3)
    replace hch := hch.trans hch6
    clear hd5 hx5
    have hd5 := hd6
    clear hd6
    clear hx9 hz5 hup hch6
    have q0 := cell_of_row w6 (w3.heap.size) 0 _ _ _ HB.out
    have q1 := cell_of_row w6 (w3.heap.size) 1 _ _ _ HB.out
    have q2 := cell_of_row w6 (w3.heap.size) 2 _ _ _ HB.out
    have q3 := cell_of_row w6 (w3.heap.size) 3 _ _ _ HB.out
    have q4 := cell_of_row w6 (w3.heap.size) 4 _ _ _ HB.out
    have q5 := cell_of_row w6 (w3.heap.size) 5 _ _ _ HB.out
    have q6 := cell_of_row w6 (w3.heap.size) 6 _ _ _ HB.out
    have q7 := cell_of_row w6 (w3.heap.size) 7 _ _ _ HB.out
    have q8 := cell_of_row w6 (w3.heap.size) 8 _ _ _ HB.out
    have q9 := cell_of_row w6 (w3.heap.size) 9 _ _ _ HB.out
    simp only [List.getElem?_toArray, List.getElem?_cons_zero, List.getElem?_cons_succ] at q0 q1 q2 q3 q4 q5 q6 q7 q8 q9
    have r0 := cell_of_row w6 (w.heap.size) 0 _ _ _ HR.out
    have r1 := cell_of_row w6 (w.heap.size) 1 _ _ _ HR.out
    have r2 := cell_of_row w6 (w.heap.size) 2 _ _ _ HR.out
    have r3 := cell_of_row w6 (w.heap.size) 3 _ _ _ HR.out
    have r4 := cell_of_row w6 (w.heap.size) 4 _ _ _ HR.out
    have r5 := cell_of_row w6 (w.heap.size) 5 _ _ _ HR.out
    have r6 := cell_of_row w6 (w.heap.size) 6 _ _ _ HR.out
    have r7 := cell_of_row w6 (w.heap.size) 7 _ _ _ HR.out
    have r8 := cell_of_row w6 (w.heap.size) 8 _ _ _ HR.out
    have r9 := cell_of_row w6 (w.heap.size) 9 _ _ _ HR.out
    simp only [List.getElem?_toArray, List.getElem?_cons_zero, List.getElem?_cons_succ] at r0 r1 r2 r3 r4 r5 r6 r7 r8 r9
    have f0 := fun o => frozen_of_row w6 w.heap.size o _ _ HR.out
    have f1 := fun o => frozen_of_row w6 w3.heap.size o _ _ HB.out
    clear HB HR
    go_wp2_with fail
    refine bodyPost_ret (v := .agg #[.int .i64 q.kind, .int .i64 q.p.kind, .int .i64 q.p.col, .int .i64 q.p.op, .int .i64 q.p.v.ty, .int .i64 q.p.v.n, .string q.p.v.s, (.slice As q.p.l.length cs), .int .i64 j, (.slice Ao q.out.length co)]) ?_ rfl ⟨_, rfl, ⟨⟨q.kind, q.p, j, q.out⟩, (.slice As q.p.l.length cs), (.slice Ao q.out.length co), rfl, ?_, ?_, Lib.hid ⟨HQk.out.1, HQk.out.2.1, Nat.le_trans HQk.out.2.2 (by decide)⟩⟩, ?_, ?_⟩
    · simp [results, Tryz.results22, go_sem, r0, r1, r2, r3, r4, r5, r6, r7, r8, r9]
    · refine RdP.more (lo := w.heap.size + 1) (hi := mm) ?_ (by omega) (by simp [World.setCell]; omega)
      refine Hrp.out.same fun b h1 h2 => ?_
      iterate 10 rw [Below.heap_setCell _ ⟨w.heap.size, _, none⟩ _ b (by show b ≠ w.heap.size; omega)]
      iterate 1 rw [Below.heap_setCell _ ⟨w3.heap.size, _, none⟩ _ b (by show b ≠ w3.heap.size; omega)]
    · refine RdG.imp (lo := mm) (hi := w3.heap.size) ?_ (by omega) (by simp [World.setCell]; omega) (fun _ _ _ _ _ h => h)
      refine RdI.same Hown.out.rdI fun b h1 h2 => ?_
      iterate 10 rw [Below.heap_setCell _ ⟨w.heap.size, _, none⟩ _ b (by show b ≠ w.heap.size; omega)]
      iterate 1 rw [Below.heap_setCell _ ⟨w3.heap.size, _, none⟩ _ b (by show b ≠ w3.heap.size; omega)]
    · iterate 11 refine chg_set ?_ (by omega) _
      exact hch
    · iterate 11 refine Dr.set ?_ (by omega) (by omega) _
      exact hd5
  have b1 : ((m : Int) == 1) = false := by simp; omega
  by_cases h2 : m = 2
  · subst h2
    have q9 := cell_of_row w5 (w3.heap.size) 9 _ _ _ HB.out
    simp only [List.getElem?_toArray, List.getElem?_cons_zero, List.getElem?_cons_succ] at q9
    go_wp2_with fail
    refine wp_region_T (S := fun w' => w'.cell? ⟨w3.heap.size, 9, none⟩ = some (.slice Ao q.out.length co)) (n := 8) (by kernel_rfl) ?_
    generalize hX0 : w5.drew = X0
    have HB0 : Below w5.heap.size w5 X0 := hX0 ▸ (Below.refl _ _).drew
    have s0 : w5.heap.size ≤ X0.heap.size := HB0.size
    have x0 := cell_keep q9 HB0
    clear hX0
    have F0 : X0.cell? ⟨w3.heap.size, 9, none⟩ = some (.slice Ao q.out.length co) := x0
    refine wpAnyT_take (i := 0) (oi := _) (v := ?_) rfl (by kernel_rfl) (by kernel_rfl) (by kernel_rfl) (by kernel_rfl) (fun _ _ _ h => h) (Or.inl ⟨by rfl, ?_⟩) F0 ?_
    rotate_left
    · (intro w' hSw; (try dsimp only at hSw); go_simp) <;> with_reducible rfl
    try simp only [Act.put, List.setIfInBounds_toArray, List.set_cons_zero, List.set_cons_succ]
    refine wpAnyT_take (i := 1) (oi := _) (v := ?_) rfl (by kernel_rfl) (by kernel_rfl) (by kernel_rfl) (by kernel_rfl) (fun _ _ _ h => h) (Or.inl ⟨by rfl, ?_⟩) F0 ?_
    rotate_left
    · (intro w' hSw; (try dsimp only at hSw); go_simp) <;> with_reducible rfl
    try simp only [Act.put, List.setIfInBounds_toArray, List.set_cons_zero, List.set_cons_succ]
    refine wpAnyT_take (i := 2) (oi := _) (v := ?_) rfl (by kernel_rfl) (by kernel_rfl) (by kernel_rfl) (by kernel_rfl) (fun _ _ _ h => h) (Or.inl ⟨by rfl, ?_⟩) F0 ?_
    rotate_left
    · (intro w' hSw; (try dsimp only at hSw); go_simp) <;> with_reducible rfl
    try simp only [Act.put, List.setIfInBounds_toArray, List.set_cons_zero, List.set_cons_succ]
    refine wpAnyT_one (k := 3) (o := _) (by kernel_rfl) rfl rfl ?_
    intro K hK
    go_simp
    have up3 := up_a1 X0 (.cells (([-1, 0, 3] : List Int).map (Value.int .i64)).toArray 3)
    have z3 : (X0.alloc (.cells (([-1, 0, 3] : List Int).map (Value.int .i64)).toArray 3)).heap.size = X0.heap.size + 1 := by simp
    have F3 := cell_keep x0 up3
    have hx9 := rdI_new X0 [-1, 0, 3] 3 (by decide)
    have hB3 : Below w5.heap.size w5 (X0.alloc (.cells (([-1, 0, 3] : List Int).map (Value.int .i64)).toArray 3)) := HB0.trans (up3.mono s0)
    have hd60 := hd5.below hB3
    refine hK.out _ _ (fun _ => F3) ?_
    clear hK
    try simp only [Act.put, List.setIfInBounds_toArray, List.set_cons_zero, List.set_cons_succ]
    refine wpAnyT_one (k := 4) (o := _) (by kernel_rfl) rfl rfl ?_
    intro K hK
    go_simp
    refine (spec_l1Int [-1, 0, 3] _ _ g hd60 (RdG.imp hx9 (by have := hd5.lt; omega) (Nat.le_refl _) fun _ _ _ _ _ h => h) (by simp) (by decide) (by decide)).mono ?_
    rintro e w6 ⟨_, rfl, ⟨j, -, rfl⟩, hch6, hd6⟩
    have hs6 := hch6.size
    rw [z3] at hs6
    have hch60 : Chg g (g + 1) w5 w6 := (Chg.of_below hB3).trans hch6
    have HB6 := Lib.hid (chg_cell HB.out hch60 hlt3)
    have HR6 := Lib.hid (chg_cell HR.out hch60 hlt)
    have F6 := cell_of_row w6 (w3.heap.size) 9 _ _ _ HB6.out
    simp only [List.getElem?_toArray, List.getElem?_cons_zero, List.getElem?_cons_succ] at F6
    have Hout := Lib.hid (owns_chg Hown.out.1 hch60 (by omega))
    have Hrp6 := Lib.hid (Hrp.out.same (.of_chg hch60 (.inr (by omega)) (by omega)))
    refine hK.out _ _ (fun _ => F6) ?_
    clear hK
    try simp only [Act.put, List.setIfInBounds_toArray, List.set_cons_zero, List.set_cons_succ]
    refine wpAnyT_one (k := 5) (o := _) (by kernel_rfl) rfl rfl ?_
    intro K hK
    go_simp
    have hB7 := heap_alloc_new w6 (.cells #[.int .i64 j] 3)
    have up7 := up_a1 w6 (.cells #[.int .i64 j] 3)
    have z7 : (w6.alloc (.cells #[.int .i64 j] 3)).heap.size = w6.heap.size + 1 := by simp
    have F7 := cell_keep F6 up7
    refine hK.out _ _ (fun _ => F7) ?_
    clear hK
    try simp only [Act.put, List.setIfInBounds_toArray, List.set_cons_zero, List.set_cons_succ]
    refine wpAnyT_one (k := 6) (o := _) (by kernel_rfl) rfl rfl ?_
    intro K hK
    refine step_app rfl _ _ 29 rfl mm 3 i0 _ 1 8 Tryz.underlying29 hif.out hz0.out hz1.out hz2.out rfl (by decide) (by decide) (Hout.out.alloc _) rfl hB7 rfl rfl (by simp [Value.oneCell']) (by have := HQk.out.2.2; omega) (by rw [z7]; omega) ?_
    intro v' w8 hown' hgrow hnb
    obtain ⟨g8, c8, rfl, hg81, hg82⟩ := hown'.form (by omega)
    have hob : ∀ b, (Value.slice Ao q.out.length co).ownBlock = some b → mm ≤ b ∧ b < w3.heap.size := fun b hb => ⟨(Hout.out.lt b hb).1, Hown.out.2 b hb⟩
    have hg8n : g8 ≠ w3.heap.size := fun e => by
      rcases hnb g8 rfl with h | h
      · have := hob g8 h; omega
      · rw [z7] at h; omega
    have HB8 := Lib.hid ((hgrow.block w3.heap.size (by rw [z7]; omega) (fun e => by have := hob _ e.symm; omega)).trans (alloc_old (o := (.cells #[.int .i64 j] 3)) HB6.out))
    have HR8 := Lib.hid ((hgrow.block w.heap.size (by rw [z7]; omega) (fun e => by have := hob _ e.symm; omega)).trans (alloc_old (o := (.cells #[.int .i64 j] 3)) HR6.out))
    have hcw : Chg g (g + 1) w5 (w6.alloc (.cells #[.int .i64 j] 3)) := hch60.trans (.of_below up7)
    have hs8 := hgrow.size
    rw [z7] at hs8
    have hch8 := chg_grown (hch.trans hcw) hgrow (fun b hb => by have := hob b hb; omega)
    have hd8 := (dr_new hd6 #[.int .i64 j] 3).grown hgrow (fun b hb => by have := hob b hb; omega)
    have Hrp8 := Lib.hid ((Hrp6.out.below up7 (by omega)).same (fun b h1 h2 => hgrow.block b (by rw [z7]; omega) (fun e => by have := hob _ e.symm; omega)))
    have Hri8 := Lib.hid (show RdI w8 g8 (g8 + 1) (.slice (some ⟨g8, 0, none⟩) (q.out.length + 1) c8) (q.out ++ [j]) from by
      have h := rdI_one (xs := q.out ++ [j]) (e := 3) (w := w8) (lo := mm) (g := g8) (c := c8) (by rw [List.length_append, List.map_append]; exact hown')
      rw [List.length_append] at h
      exact h)
    have f1 := fun o => frozen_of_row w8 w3.heap.size o _ _ HB8.out
    have q0 := cell_of_row w8 (w3.heap.size) 0 _ _ _ HB8.out
    have q1 := cell_of_row w8 (w3.heap.size) 1 _ _ _ HB8.out
    have q2 := cell_of_row w8 (w3.heap.size) 2 _ _ _ HB8.out
    have q3 := cell_of_row w8 (w3.heap.size) 3 _ _ _ HB8.out
    have q4 := cell_of_row w8 (w3.heap.size) 4 _ _ _ HB8.out
    have q5 := cell_of_row w8 (w3.heap.size) 5 _ _ _ HB8.out
    have q6 := cell_of_row w8 (w3.heap.size) 6 _ _ _ HB8.out
    have q7 := cell_of_row w8 (w3.heap.size) 7 _ _ _ HB8.out
    have q8 := cell_of_row w8 (w3.heap.size) 8 _ _ _ HB8.out
    have q9 := cell_of_row w8 (w3.heap.size) 9 _ _ _ HB8.out
    simp only [List.getElem?_toArray, List.getElem?_cons_zero, List.getElem?_cons_succ] at q0 q1 q2 q3 q4 q5 q6 q7 q8 q9
    have r0 := cell_of_row w8 (w.heap.size) 0 _ _ _ HR8.out
    have r1 := cell_of_row w8 (w.heap.size) 1 _ _ _ HR8.out
    have r2 := cell_of_row w8 (w.heap.size) 2 _ _ _ HR8.out
    have r3 := cell_of_row w8 (w.heap.size) 3 _ _ _ HR8.out
    have r4 := cell_of_row w8 (w.heap.size) 4 _ _ _ HR8.out
    have r5 := cell_of_row w8 (w.heap.size) 5 _ _ _ HR8.out
    have r6 := cell_of_row w8 (w.heap.size) 6 _ _ _ HR8.out
    have r7 := cell_of_row w8 (w.heap.size) 7 _ _ _ HR8.out
    have r8 := cell_of_row w8 (w.heap.size) 8 _ _ _ HR8.out
    have r9 := cell_of_row w8 (w.heap.size) 9 _ _ _ HR8.out
    simp only [List.getElem?_toArray, List.getElem?_cons_zero, List.getElem?_cons_succ] at r0 r1 r2 r3 r4 r5 r6 r7 r8 r9
    have f0 := fun o => frozen_of_row w8 w.heap.size o _ _ HR8.out
    have F8 : w8.cell? ⟨w3.heap.size, 9, none⟩ = some (.slice Ao q.out.length co) := q9
    have hg8lt : g8 < w8.heap.size := hg82
    have hg8w : w.heap.size < g8 := by omega
    clear hown' hgrow hnb hcw hB7 up7 F7 F6 F3 hch60 hch6 hd6 hob HB6 HR6 Hrp6 HR8 F0 x0 up3 hx9 hB3 hd60 HB8 Hout
    refine hK.out _ _ (fun _ => F8) ?_
    clear hK
    try simp only [Act.put, List.setIfInBounds_toArray, List.set_cons_zero, List.set_cons_succ]
    refine wpAnyT_one (k := 7) (o := _) (by kernel_rfl) rfl rfl ?_
    intro K hK
    go_simp
    refine hK.out _ _ (fun _ => F8) ?_
    clear hK
    refine wpAnyT_one (k := 8) (o := _) (by kernel_rfl) rfl rfl ?_
    intro K hK
    go_simp
    refine hK.out _ _ (fun h => absurd rfl h) ?_
    clear hK
    refine wpAnyT_done (by kernel_rfl) ?_ _
    clear F8
    go_wp2_with fail
    refine bodyPost_ret (v := .agg #[.int .i64 q.kind, .int .i64 q.p.kind, .int .i64 q.p.col, .int .i64 q.p.op, .int .i64 q.p.v.ty, .int .i64 q.p.v.n, .string q.p.v.s, (.slice As q.p.l.length cs), .int .i64 q.col, (.slice (some ⟨g8, 0, none⟩) (q.out.length + 1) c8)]) ?_ rfl ⟨_, rfl, ⟨⟨q.kind, q.p, q.col, q.out ++ [j]⟩, (.slice As q.p.l.length cs), (.slice (some ⟨g8, 0, none⟩) (q.out.length + 1) c8), rfl, ?_, ?_, Lib.hid (⟨HQk.out.1, HQk.out.2.1, by have := HQk.out.2.2; simp; omega⟩)⟩, ?_, ?_⟩
    · simp [results, Tryz.results22, go_sem, r0, r1, r2, r3, r4, r5, r6, r7, r8, r9]
    · refine RdP.more (lo := w.heap.size + 1) (hi := mm) ?_ (by omega) (by simp [World.setCell]; omega)
      refine Hrp8.out.same fun b h1 h2 => ?_
      iterate 10 rw [Below.heap_setCell _ ⟨w.heap.size, _, none⟩ _ b (by show b ≠ w.heap.size; omega)]
      iterate 1 rw [Below.heap_setCell _ ⟨w3.heap.size, _, none⟩ _ b (by show b ≠ w3.heap.size; omega)]
    · refine RdG.imp (lo := g8) (hi := g8 + 1) ?_ (by omega) (by simp [World.setCell]; omega) (fun _ _ _ _ _ h => h)
      have hr := Hri8.out
      refine RdI.same (l := q.out ++ [j]) hr fun b h1 h2 => ?_
      iterate 10 rw [Below.heap_setCell _ ⟨w.heap.size, _, none⟩ _ b (by show b ≠ w.heap.size; omega)]
      iterate 1 rw [Below.heap_setCell _ ⟨w3.heap.size, _, none⟩ _ b (by show b ≠ w3.heap.size; omega)]
    · iterate 11 refine chg_set ?_ (by omega) _
      exact hch8
    · iterate 11 refine Dr.set ?_ (by omega) (by omega) _
      exact hd8
  have b2 : ((m : Int) == 2) = false := by simp; omega
  by_cases h3 : m = 3
  · subst h3
    go_wp2_with fail
    refine (spec_l11Any cols _ w5 g hd5 hx5 hhi5 Hok.out).mono ?_
    rintro e w6 ⟨_, rfl, ⟨p2, sv2, rfl, hop2, hpk2⟩, hch6, hd6⟩
    have hs6 := hch6.size
    obtain ⟨A2, c2, rfl, -, -⟩ := hop2.rdP.form
    have Hop2 := Lib.hid hop2.rdP
    clear hop2
    replace Hrp := Lib.hid (Hrp.out.same (.of_chg hch6 (.inr (by omega)) (by omega)))
    replace Hown := Lib.hid (Hown.out.same (.of_chg hch6 (.inr (by omega)) (by omega)))
    replace HR := Lib.hid (chg_cell HR.out hch6 hlt)
    replace HB := Lib.hid (chg_cell HB.out hch6 hlt3)
    replace hch := hch.trans hch6
    clear hd5 hx5
    have hd5 := hd6
    clear hd6
    clear hch6
    have q0 := cell_of_row w6 (w3.heap.size) 0 _ _ _ HB.out
    have q1 := cell_of_row w6 (w3.heap.size) 1 _ _ _ HB.out
    have q2 := cell_of_row w6 (w3.heap.size) 2 _ _ _ HB.out
    have q3 := cell_of_row w6 (w3.heap.size) 3 _ _ _ HB.out
    have q4 := cell_of_row w6 (w3.heap.size) 4 _ _ _ HB.out
    have q5 := cell_of_row w6 (w3.heap.size) 5 _ _ _ HB.out
    have q6 := cell_of_row w6 (w3.heap.size) 6 _ _ _ HB.out
    have q7 := cell_of_row w6 (w3.heap.size) 7 _ _ _ HB.out
    have q8 := cell_of_row w6 (w3.heap.size) 8 _ _ _ HB.out
    have q9 := cell_of_row w6 (w3.heap.size) 9 _ _ _ HB.out
    simp only [List.getElem?_toArray, List.getElem?_cons_zero, List.getElem?_cons_succ] at q0 q1 q2 q3 q4 q5 q6 q7 q8 q9
    have r0 := cell_of_row w6 (w.heap.size) 0 _ _ _ HR.out
    have r1 := cell_of_row w6 (w.heap.size) 1 _ _ _ HR.out
    have r2 := cell_of_row w6 (w.heap.size) 2 _ _ _ HR.out
    have r3 := cell_of_row w6 (w.heap.size) 3 _ _ _ HR.out
    have r4 := cell_of_row w6 (w.heap.size) 4 _ _ _ HR.out
    have r5 := cell_of_row w6 (w.heap.size) 5 _ _ _ HR.out
    have r6 := cell_of_row w6 (w.heap.size) 6 _ _ _ HR.out
    have r7 := cell_of_row w6 (w.heap.size) 7 _ _ _ HR.out
    have r8 := cell_of_row w6 (w.heap.size) 8 _ _ _ HR.out
    have r9 := cell_of_row w6 (w.heap.size) 9 _ _ _ HR.out
    simp only [List.getElem?_toArray, List.getElem?_cons_zero, List.getElem?_cons_succ] at r0 r1 r2 r3 r4 r5 r6 r7 r8 r9
    have f0 := fun o => frozen_of_row w6 w.heap.size o _ _ HR.out
    have f1 := fun o => frozen_of_row w6 w3.heap.size o _ _ HB.out
    clear HB HR
    go_wp2_with fail
    refine bodyPost_ret (v := .agg #[.int .i64 q.kind, .int .i64 p2.kind, .int .i64 p2.col, .int .i64 p2.op, .int .i64 p2.v.ty, .int .i64 p2.v.n, .string p2.v.s, (.slice A2 p2.l.length c2), .int .i64 q.col, (.slice Ao q.out.length co)]) ?_ rfl ⟨_, rfl, ⟨⟨q.kind, p2, q.col, q.out⟩, (.slice A2 p2.l.length c2), (.slice Ao q.out.length co), rfl, ?_, ?_, Lib.hid (⟨hpk2.out.1, hpk2.out.2, Nat.le_trans HQk.out.2.2 (by decide)⟩)⟩, ?_, ?_⟩
    · simp [results, Tryz.results22, go_sem, r0, r1, r2, r3, r4, r5, r6, r7, r8, r9]
    · refine RdP.more (lo := w5.heap.size) (hi := w6.heap.size) ?_ (by omega) (by simp [World.setCell])
      refine Hop2.out.same fun b h1 h2 => ?_
      iterate 10 rw [Below.heap_setCell _ ⟨w.heap.size, _, none⟩ _ b (by show b ≠ w.heap.size; omega)]
      iterate 7 rw [Below.heap_setCell _ ⟨w3.heap.size, _, none⟩ _ b (by show b ≠ w3.heap.size; omega)]
    · refine RdG.imp (lo := mm) (hi := w3.heap.size) ?_ (by omega) (by simp [World.setCell]; omega) (fun _ _ _ _ _ h => h)
      refine RdI.same Hown.out.rdI fun b h1 h2 => ?_
      iterate 10 rw [Below.heap_setCell _ ⟨w.heap.size, _, none⟩ _ b (by show b ≠ w.heap.size; omega)]
      iterate 7 rw [Below.heap_setCell _ ⟨w3.heap.size, _, none⟩ _ b (by show b ≠ w3.heap.size; omega)]
    · iterate 17 refine chg_set ?_ (by omega) _
      exact hch
    · iterate 17 refine Dr.set ?_ (by omega) (by omega) _
      exact hd5
  have b3 : ((m : Int) == 3) = false := by simp; omega
  have q0 := cell_of_row w5 (w3.heap.size) 0 _ _ _ HB.out
  have q1 := cell_of_row w5 (w3.heap.size) 1 _ _ _ HB.out
  have q2 := cell_of_row w5 (w3.heap.size) 2 _ _ _ HB.out
  have q3 := cell_of_row w5 (w3.heap.size) 3 _ _ _ HB.out
  have q4 := cell_of_row w5 (w3.heap.size) 4 _ _ _ HB.out
  have q5 := cell_of_row w5 (w3.heap.size) 5 _ _ _ HB.out
  have q6 := cell_of_row w5 (w3.heap.size) 6 _ _ _ HB.out
  have q7 := cell_of_row w5 (w3.heap.size) 7 _ _ _ HB.out
  have q8 := cell_of_row w5 (w3.heap.size) 8 _ _ _ HB.out
  have q9 := cell_of_row w5 (w3.heap.size) 9 _ _ _ HB.out
  simp only [List.getElem?_toArray, List.getElem?_cons_zero, List.getElem?_cons_succ] at q0 q1 q2 q3 q4 q5 q6 q7 q8 q9
  have r0 := cell_of_row w5 (w.heap.size) 0 _ _ _ HR.out
  have r1 := cell_of_row w5 (w.heap.size) 1 _ _ _ HR.out
  have r2 := cell_of_row w5 (w.heap.size) 2 _ _ _ HR.out
  have r3 := cell_of_row w5 (w.heap.size) 3 _ _ _ HR.out
  have r4 := cell_of_row w5 (w.heap.size) 4 _ _ _ HR.out
  have r5 := cell_of_row w5 (w.heap.size) 5 _ _ _ HR.out
  have r6 := cell_of_row w5 (w.heap.size) 6 _ _ _ HR.out
  have r7 := cell_of_row w5 (w.heap.size) 7 _ _ _ HR.out
  have r8 := cell_of_row w5 (w.heap.size) 8 _ _ _ HR.out
  have r9 := cell_of_row w5 (w.heap.size) 9 _ _ _ HR.out
  simp only [List.getElem?_toArray, List.getElem?_cons_zero, List.getElem?_cons_succ] at r0 r1 r2 r3 r4 r5 r6 r7 r8 r9
  have f0 := fun o => frozen_of_row w5 w.heap.size o _ _ HR.out
  have f1 := fun o => frozen_of_row w5 w3.heap.size o _ _ HB.out
  clear HB HR
  go_wp2_with fail
  refine bodyPost_ret (v := .agg #[.int .i64 q.kind, .int .i64 q.p.kind, .int .i64 q.p.col, .int .i64 q.p.op, .int .i64 q.p.v.ty, .int .i64 q.p.v.n, .string q.p.v.s, (.slice As q.p.l.length cs), .int .i64 q.col, (.slice Ao q.out.length co)]) ?_ rfl ⟨_, rfl, ⟨q, (.slice As q.p.l.length cs), (.slice Ao q.out.length co), rfl, ?_, ?_, Lib.hid (⟨HQk.out.1, HQk.out.2.1, Nat.le_trans HQk.out.2.2 (by decide)⟩)⟩, ?_, ?_⟩
  · simp [results, Tryz.results22, go_sem, r0, r1, r2, r3, r4, r5, r6, r7, r8, r9]
  · refine RdP.more (lo := w.heap.size + 1) (hi := mm) ?_ (by omega) (by simp [World.setCell]; omega)
    refine Hrp.out.same fun b h1 h2 => ?_
    iterate 10 rw [Below.heap_setCell _ ⟨w.heap.size, _, none⟩ _ b (by show b ≠ w.heap.size; omega)]
  · refine RdG.imp (lo := mm) (hi := w3.heap.size) ?_ (by omega) (by simp [World.setCell]; omega) (fun _ _ _ _ _ h => h)
    refine RdI.same Hown.out.rdI fun b h1 h2 => ?_
    iterate 10 rw [Below.heap_setCell _ ⟨w.heap.size, _, none⟩ _ b (by show b ≠ w.heap.size; omega)]
  · iterate 10 refine chg_set ?_ (by omega) _
    exact hch
  · iterate 10 refine Dr.set ?_ (by omega) (by omega) _
    exact hd5
set_option maxRecDepth 20000 in
set_option maxHeartbeats 8000000 in
theorem spec_l12Pair (w : World) (g : Nat) (hd : Dr w g) :
    Calls Tryz.prog 17 #[.pointer (some ⟨g, 0, none⟩)] w (DrP w g fun v w' => ∃ (q : Q) (sv ov lv : Value) (l : List R), v = .tuple #[.agg #[.int .i64 q.kind, .int .i64 q.p.kind, .int .i64 q.p.col, .int .i64 q.p.op, .int .i64 q.p.v.ty, .int .i64 q.p.v.n, .string q.p.v.s, sv, .int .i64 q.col, ov], lv] ∧ RdP w' w.heap.size w'.heap.size sv q.p.l ∧ RdI w' w.heap.size w'.heap.size ov q.out ∧ RdR w' w.heap.size w'.heap.size lv l ∧ Hid (POk q.p ∧ cntP q.p.l ≤ 20 ∧ q.out.length ≤ 5) ∧ Hid (l.length ≤ 6 ∧ SmallR l)) := by
  have hlt := hd.lt
  have hd1 := dr_new hd #[.int .i64 0, .int .i64 0, .int .i64 0, .int .i64 0, .int .i64 0, .int .i64 0, .string ⟨#[]⟩, .slice none 0 0, .int .i64 0, .slice none 0 0] 31
  have HR := Lib.hid (heap_alloc_new w (.cells #[.int .i64 0, .int .i64 0, .int .i64 0, .int .i64 0, .int .i64 0, .int .i64 0, .string ⟨#[]⟩, .slice none 0 0, .int .i64 0, .slice none 0 0] 31))
  have hch := chg_new g w #[.int .i64 0, .int .i64 0, .int .i64 0, .int .i64 0, .int .i64 0, .int .i64 0, .string ⟨#[]⟩, .slice none 0 0, .int .i64 0, .slice none 0 0] 31
  have hsz : w.heap.size + 1 ≤ (w.alloc (.cells #[.int .i64 0, .int .i64 0, .int .i64 0, .int .i64 0, .int .i64 0, .int .i64 0, .string ⟨#[]⟩, .slice none 0 0, .int .i64 0, .slice none 0 0] 31)).heap.size := by simp
  go_enter Tryz.func17, Tryz.ntmps17
  go_wp2_with fail
  refine (spec_l4Cols_t _ g hd1).mono ?_
  rintro e w2 ⟨cv, rfl, ⟨cols, hcols, hok, hcl⟩, hch2, hd2⟩
  obtain ⟨Ac, cc, rfl, -, -⟩ := hcols.form
  have Hok := Lib.hid hok
  have z2 := hch2.size
  replace HR := Lib.hid (chg_cell HR.out hch2 hlt)
  replace hch := hch.trans hch2
  clear hd1 hch2 hok
  go_wp2_with fail
  refine (spec_l12Any cols _ w2 g hd2 (hcols.more (by omega) (Nat.le_refl _)) (Nat.le_refl _) Hok.out).mono ?_
  rintro e w3 ⟨_, rfl, ⟨q, sv, ov, rfl, hrp, hri, hqk⟩, hch3, hd3⟩
  obtain ⟨As, cs, rfl, -, -⟩ := hrp.form
  obtain ⟨Ao, co, rfl, -, -⟩ := hri.form
  have z3 := hch3.size
  replace HR := Lib.hid (chg_cell HR.out hch3 hlt)
  replace hch := hch.trans hch3
  have hcols3 := hcols.same (.of_chg hch3 (.inr (by omega)) (Nat.le_refl _))
  have Hrp := Lib.hid hrp
  have Hri := Lib.hid hri
  clear hd2 hch3 hcols hrp hri
  go_wp2_with fail
  refine (spec_l4Rows cols _ 6 w3 g hd3 (hcols3.more (by omega) (Nat.le_refl _)) (by omega) (by omega) (by decide)).mono ?_
  rintro e w4 ⟨lv, rfl, ⟨l, hown, hll, hsm⟩, hch4, hd4⟩
  have hr := hown.rdR
  obtain ⟨Ar, cr, rfl, -, -⟩ := hr.form
  have z4 := hch4.size
  have HR4 := chg_cell HR.out hch4 hlt
  replace hch := hch.trans hch4
  have Hrp4 := Lib.hid (Hrp.out.same (.of_chg hch4 (.inr (by omega)) (Nat.le_refl _)))
  have Hri4 := Lib.hid (Hri.out.same (.of_chg hch4 (.inr (by omega)) (Nat.le_refl _)))
  have Hr := Lib.hid hr
  have Hll := Lib.hid (And.intro hll hsm)
  have r0 := cell_of_row w4 (w.heap.size) 0 _ _ _ HR4
  have r1 := cell_of_row w4 (w.heap.size) 1 _ _ _ HR4
  have r2 := cell_of_row w4 (w.heap.size) 2 _ _ _ HR4
  have r3 := cell_of_row w4 (w.heap.size) 3 _ _ _ HR4
  have r4 := cell_of_row w4 (w.heap.size) 4 _ _ _ HR4
  have r5 := cell_of_row w4 (w.heap.size) 5 _ _ _ HR4
  have r6 := cell_of_row w4 (w.heap.size) 6 _ _ _ HR4
  have r7 := cell_of_row w4 (w.heap.size) 7 _ _ _ HR4
  have r8 := cell_of_row w4 (w.heap.size) 8 _ _ _ HR4
  have r9 := cell_of_row w4 (w.heap.size) 9 _ _ _ HR4
  simp only [List.getElem?_toArray, List.getElem?_cons_zero, List.getElem?_cons_succ] at r0 r1 r2 r3 r4 r5 r6 r7 r8 r9
  have f0 := fun o => frozen_of_row w4 w.heap.size o _ _ HR4
  clear hd3 hch4 hcols3 Hrp Hri hr hown HR HR4 hll hsm
  go_wp2_with fail
  refine bodyPost_ret (v := .tuple #[.agg #[.int .i64 q.kind, .int .i64 q.p.kind, .int .i64 q.p.col, .int .i64 q.p.op, .int .i64 q.p.v.ty, .int .i64 q.p.v.n, .string q.p.v.s, (.slice As q.p.l.length cs), .int .i64 q.col, (.slice Ao q.out.length co)], .slice Ar l.length cr]) ?_ rfl ⟨_, rfl, ⟨q, (.slice As q.p.l.length cs), (.slice Ao q.out.length co), _, l, rfl, ?_, ?_, ?_, hqk, Lib.hid Hll.out⟩, ?_, ?_⟩
  · simp [results, Tryz.results17, go_sem, r0, r1, r2, r3, r4, r5, r6, r7, r8, r9]
  · refine RdP.more (lo := w2.heap.size) (hi := w3.heap.size) ?_ (by omega) (by simp [World.setCell]; omega)
    refine Hrp4.out.same fun b h1 h2 => ?_
    iterate 10 rw [Below.heap_setCell _ ⟨w.heap.size, _, none⟩ _ b (by show b ≠ w.heap.size; omega)]
  · refine RdG.imp (lo := w2.heap.size) (hi := w3.heap.size) ?_ (by omega) (by simp [World.setCell]; omega) (fun _ _ _ _ _ h => h)
    refine RdI.same Hri4.out fun b h1 h2 => ?_
    iterate 10 rw [Below.heap_setCell _ ⟨w.heap.size, _, none⟩ _ b (by show b ≠ w.heap.size; omega)]
  · refine RdR.more (lo := w3.heap.size) (hi := w4.heap.size) ?_ (by omega) (by simp [World.setCell])
    refine Hr.out.same fun b h1 h2 => ?_
    iterate 10 rw [Below.heap_setCell _ ⟨w.heap.size, _, none⟩ _ b (by show b ≠ w.heap.size; omega)]
  · iterate 10 refine chg_set ?_ (Nat.le_refl _) _
    exact hch
  · iterate 10 refine Dr.set ?_ (by omega) (by omega) _
    exact hd4
set_option maxRecDepth 20000 in
set_option maxHeartbeats 8000000 in
theorem spec_DrawAnswer (code : List UInt8) (x : Value) (w : World) {lo hi : Nat} (hx : RdB w lo hi x code) (hhi : hi ≤ w.heap.size) (hn : code.length ≤ 1048576) :
    Calls Tryz.prog 5 #[x] w fun e w' => ∃ (q : Q) (sv ov lv : Value) (l : List R), e = .returned (.tuple #[.agg #[.int .i64 q.kind, .int .i64 q.p.kind, .int .i64 q.p.col, .int .i64 q.p.op, .int .i64 q.p.v.ty, .int .i64 q.p.v.n, .string q.p.v.s, sv, .int .i64 q.col, ov], lv]) ∧ RdP w' (w.heap.size + 1) w'.heap.size sv q.p.l ∧ RdI w' (w.heap.size + 1) w'.heap.size ov q.out ∧ RdR w' (w.heap.size + 1) w'.heap.size lv l ∧ Hid (POk q.p ∧ cntP q.p.l ≤ 20 ∧ q.out.length ≤ 5) ∧ Hid (l.length ≤ 6 ∧ SmallR l) ∧ Below w.heap.size w w' := by
  have up := up_a1 w (.cells #[.int .i64 0, .int .i64 0, .int .i64 0, .int .i64 0, .int .i64 0, .int .i64 0, .string ⟨#[]⟩, .slice none 0 0, .int .i64 0, .slice none 0 0] 31)
  have hx0 := hx.below up hhi
  have G0 := Lib.hid (heap_alloc_new w (.cells #[.int .i64 0, .int .i64 0, .int .i64 0, .int .i64 0, .int .i64 0, .int .i64 0, .string ⟨#[]⟩, .slice none 0 0, .int .i64 0, .slice none 0 0] 31))
  have hs : (w.alloc (.cells #[.int .i64 0, .int .i64 0, .int .i64 0, .int .i64 0, .int .i64 0, .int .i64 0, .string ⟨#[]⟩, .slice none 0 0, .int .i64 0, .slice none 0 0] 31)).heap.size = w.heap.size + 1 := by simp
  go_enter Tryz.func5, Tryz.ntmps5
  go_wp2_with fail
  have hC := spec_l1New code x _ hx0 (by rw [hs]; omega) hn
  generalize (w.alloc (.cells #[.int .i64 0, .int .i64 0, .int .i64 0, .int .i64 0, .int .i64 0, .int .i64 0, .string ⟨#[]⟩, .slice none 0 0, .int .i64 0, .slice none 0 0] 31)) = W0 at *
  refine hC.mono ?_
  clear hC
  rintro e w1 ⟨g, rfl, hg, hb1, hd1⟩
  rw [hs] at hg hb1
  have G1 := Lib.hid ((hb1.block w.heap.size (by omega)).trans G0.out)
  have hz1 := hb1.size
  have hb1 : Below w.heap.size w w1 := up.trans (hb1.mono (by omega))
  clear G0 hx0 up
  go_wp2_with fail
  refine (spec_l12Pair w1 g hd1).mono ?_
  rintro e w4 ⟨_, rfl, ⟨q, sv, ov, lv, l, rfl, hrp, hri, hr, hqk, hlk⟩, hch4, hd4⟩
  obtain ⟨As, cs, rfl, -, -⟩ := hrp.form
  obtain ⟨Ao, co, rfl, -, -⟩ := hri.form
  obtain ⟨Ar, cr, rfl, -, -⟩ := hr.form
  have z4 := hch4.size
  have HR4 := chg_low G1.out hch4 (by omega)
  have hb4 := chg_below hb1 hch4 (show w.heap.size ≤ g by omega) (Nat.le_refl _)
  have Hrp4 := Lib.hid hrp
  have Hri4 := Lib.hid hri
  have Hr := Lib.hid hr
  have r0 := cell_of_row w4 (w.heap.size) 0 _ _ _ HR4
  have r1 := cell_of_row w4 (w.heap.size) 1 _ _ _ HR4
  have r2 := cell_of_row w4 (w.heap.size) 2 _ _ _ HR4
  have r3 := cell_of_row w4 (w.heap.size) 3 _ _ _ HR4
  have r4 := cell_of_row w4 (w.heap.size) 4 _ _ _ HR4
  have r5 := cell_of_row w4 (w.heap.size) 5 _ _ _ HR4
  have r6 := cell_of_row w4 (w.heap.size) 6 _ _ _ HR4
  have r7 := cell_of_row w4 (w.heap.size) 7 _ _ _ HR4
  have r8 := cell_of_row w4 (w.heap.size) 8 _ _ _ HR4
  have r9 := cell_of_row w4 (w.heap.size) 9 _ _ _ HR4
  simp only [List.getElem?_toArray, List.getElem?_cons_zero, List.getElem?_cons_succ] at r0 r1 r2 r3 r4 r5 r6 r7 r8 r9
  have f0 := fun o => frozen_of_row w4 w.heap.size o _ _ HR4
  clear hrp hri hr HR4 hch4 hb1 hd1 hd4 G1
  go_wp2_with fail
  refine bodyPost_ret (v := .tuple #[.agg #[.int .i64 q.kind, .int .i64 q.p.kind, .int .i64 q.p.col, .int .i64 q.p.op, .int .i64 q.p.v.ty, .int .i64 q.p.v.n, .string q.p.v.s, (.slice As q.p.l.length cs), .int .i64 q.col, (.slice Ao q.out.length co)], .slice Ar l.length cr]) ?_ rfl ⟨q, (.slice As q.p.l.length cs), (.slice Ao q.out.length co), _, l, rfl, ?_, ?_, ?_, hqk, hlk, ?_⟩
  · simp [results, Tryz.results5, go_sem, r0, r1, r2, r3, r4, r5, r6, r7, r8, r9]
  · refine RdP.more (lo := w1.heap.size) (hi := w4.heap.size) ?_ (by omega) (by simp [World.setCell])
    refine Hrp4.out.same fun b h1 h2 => ?_
    iterate 10 rw [Below.heap_setCell _ ⟨w.heap.size, _, none⟩ _ b (by show b ≠ w.heap.size; omega)]
  · refine RdG.imp (lo := w1.heap.size) (hi := w4.heap.size) ?_ (by omega) (by simp [World.setCell]) (fun _ _ _ _ _ h => h)
    refine RdI.same Hri4.out fun b h1 h2 => ?_
    iterate 10 rw [Below.heap_setCell _ ⟨w.heap.size, _, none⟩ _ b (by show b ≠ w.heap.size; omega)]
  · refine RdR.more (lo := w1.heap.size) (hi := w4.heap.size) ?_ (by omega) (by simp [World.setCell])
    refine Hr.out.same fun b h1 h2 => ?_
    iterate 10 rw [Below.heap_setCell _ ⟨w.heap.size, _, none⟩ _ b (by show b ≠ w.heap.size; omega)]
  · iterate 10 refine below_set ?_ (Nat.le_refl _) _
    exact hb4
end Go.Proofs.YtidmlfjolhnnfaaGreatDoor
