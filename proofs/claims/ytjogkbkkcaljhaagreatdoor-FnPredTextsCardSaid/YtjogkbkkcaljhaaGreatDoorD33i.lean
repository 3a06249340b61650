/- Draws: what the law on predicates' texts draws. -/
import Derived.Test.YtjogkbkkcaljhaaGreatDoorD32i
import Derived.Test.YtjogkbkkcaljhaaGreatDoorXD
namespace Go.Proofs.YtjogkbkkcaljhaaGreatDoor
open Go.Sort Go.ChangeShapes Go.WideShapes Go.ChangeAt Go.RowKit Go.Lb
theorem chg_low {w w' : World} {g b : Nat} {x : Obj} (hx : w.heap[b]? = some x) (h : Chg g (g + 1) w w') (hb : b < g) : w'.heap[b]? = some x :=
  (h.block b (Array.getElem?_eq_some_iff.1 hx).1 (.inl hb)).trans hx
theorem heap_drewD (X : World) : X.drew.heap = X.heap := rfl
set_option maxRecDepth 20000 in
set_option maxHeartbeats 8000000 in
theorem spec_DrawSearch (code : List UInt8) (x : Value) (w : World) {lo hi : Nat} (hx : RdB w lo hi x code) (hhi : hi ≤ w.heap.size) (hn : code.length ≤ 1048576) :
    Calls Tryz.prog 14 #[x] w fun e w' => ∃ (cols : List Int) (p : P) (cv sv lv : Value) (l : List R), e = .returned (.tuple #[cv, .agg #[.int .i64 p.kind, .int .i64 p.col, .int .i64 p.op, .int .i64 p.v.ty, .int .i64 p.v.n, .string p.v.s, sv], lv]) ∧ RdI w' (w.heap.size + 1) w'.heap.size cv cols ∧ RdP w' (w.heap.size + 1) w'.heap.size sv p.l ∧ RdR w' (w.heap.size + 1) w'.heap.size lv l ∧ Hid ((POk p ∧ PInOk p) ∧ cntP p.l ≤ 14 ∧ predOk cols p = true) ∧ Hid (cols.length ≤ 3) ∧ Below w.heap.size w w' := by
  have up := up_a1 w (.cells #[.int .i64 0, .int .i64 0, .int .i64 0, .int .i64 0, .int .i64 0, .string ⟨#[]⟩, .slice none 0 0] 27)
  have hx0 := hx.below up hhi
  have G0 := Lib.hid (heap_alloc_new w (.cells #[.int .i64 0, .int .i64 0, .int .i64 0, .int .i64 0, .int .i64 0, .string ⟨#[]⟩, .slice none 0 0] 27))
  have hs : (w.alloc (.cells #[.int .i64 0, .int .i64 0, .int .i64 0, .int .i64 0, .int .i64 0, .string ⟨#[]⟩, .slice none 0 0] 27)).heap.size = w.heap.size + 1 := by simp
  go_enter Tryz.func14, Tryz.ntmps14
  go_wp2_with fail
  have hC := spec_l1New code x _ hx0 (by rw [hs]; omega) hn
  generalize (w.alloc (.cells #[.int .i64 0, .int .i64 0, .int .i64 0, .int .i64 0, .int .i64 0, .string ⟨#[]⟩, .slice none 0 0] 27)) = W0 at *
  refine hC.mono ?_
  clear hC
  rintro e w1 ⟨g, rfl, hg, hb1, hd1⟩
  rw [hs] at hg hb1
  have G1 := Lib.hid ((hb1.block w.heap.size (by omega)).trans G0.out)
  have hb1 : Below w.heap.size w w1 := up.trans (hb1.mono (by omega))
  clear G0 hx0 up
  have hlt1 := hd1.lt
  have hz1 := hb1.size
  go_wp2_with fail
  refine (spec_l4Cols_t w1 g hd1).mono ?_
  rintro e w2 ⟨cv, rfl, ⟨cols, hcols, hok, hcl⟩, hch2, hd2⟩
  obtain ⟨Ac, cc, rfl, -, -⟩ := hcols.form
  have Hok := Lib.hid hok
  have z2 := hch2.size
  have G2 := Lib.hid (chg_low G1.out hch2 (by omega))
  have hb2 := chg_below hb1 hch2 (show w.heap.size ≤ g by omega) (Nat.le_refl _)
  have hlt2 := hd2.lt
  clear hch2 hb1 hd1 hok G1
  go_wp2_with fail
  have hct := Lib.hid (colsOk_ty Hok.out).2.2
  refine (spec_l11Right cols _ w2 g hd2 (hcols.more (by omega) (Nat.le_refl _)) (Nat.le_refl _) Hok.out).mono ?_
  rintro e w3 ⟨_, rfl, ⟨p, sv, rfl, hop, hpk⟩, hch3, hd3⟩
  obtain ⟨As, cs, rfl, -, -⟩ := hop.rdP.form
  have z3 := hch3.size
  have hlt3 := hd3.lt
  have G3 := Lib.hid (chg_low G2.out hch3 (by omega))
  have hb3 := chg_below hb2 hch3 (show w.heap.size ≤ g by omega) (Nat.le_refl _)
  have hcols := hcols.same (.of_chg hch3 (.inr (by omega)) (Nat.le_refl _))
  clear hch3 hb2 hd2 G2
  have hd4 := dr_new hd3 #[.int .i64 p.kind, .int .i64 p.col, .int .i64 p.op, .int .i64 p.v.ty, .int .i64 p.v.n, .string p.v.s, .slice As p.l.length cs] 27
  have HB := Lib.hid (heap_alloc_new w3 (.cells #[.int .i64 p.kind, .int .i64 p.col, .int .i64 p.op, .int .i64 p.v.ty, .int .i64 p.v.n, .string p.v.s, .slice As p.l.length cs] 27))
  have hup := up_a1 w3 (.cells #[.int .i64 p.kind, .int .i64 p.col, .int .i64 p.op, .int .i64 p.v.ty, .int .i64 p.v.n, .string p.v.s, .slice As p.l.length cs] 27)
  have hcols := hcols.below hup (by omega)
  have Hop := Lib.hid (hop.below hup (Nat.le_refl _))
  have G4 := Lib.hid (alloc_old (o := (.cells #[.int .i64 p.kind, .int .i64 p.col, .int .i64 p.op, .int .i64 p.v.ty, .int .i64 p.v.n, .string p.v.s, .slice As p.l.length cs] 27)) G3.out)
  have hb4 := hb3.alloc (by omega) (.cells #[.int .i64 p.kind, .int .i64 p.col, .int .i64 p.op, .int .i64 p.v.ty, .int .i64 p.v.n, .string p.v.s, .slice As p.l.length cs] 27)
  have hz4 : (w3.alloc (.cells #[.int .i64 p.kind, .int .i64 p.col, .int .i64 p.op, .int .i64 p.v.ty, .int .i64 p.v.n, .string p.v.s, .slice As p.l.length cs] 27)).heap.size = w3.heap.size + 1 := by simp
  clear hop hd3 hup G3 hb3
  go_wp2_with fail
  obtain ⟨WX, hWX⟩ : ∃ WX, (w3.alloc (.cells #[.int .i64 p.kind, .int .i64 p.col, .int .i64 p.op, .int .i64 p.v.ty, .int .i64 p.v.n, .string p.v.s, .slice As p.l.length cs] 27)) = WX := ⟨_, rfl⟩
  rw [hWX] at hd4 HB hcols Hop G4 hb4 hz4
  try rw [hWX]
  clear hWX
  have n0 : w3.heap.size ≠ w.heap.size := by omega
  have q0 := cell_of_row WX (w3.heap.size) 0 _ _ _ HB.out
  have q1 := cell_of_row WX (w3.heap.size) 1 _ _ _ HB.out
  have q2 := cell_of_row WX (w3.heap.size) 2 _ _ _ HB.out
  have q3 := cell_of_row WX (w3.heap.size) 3 _ _ _ HB.out
  have q4 := cell_of_row WX (w3.heap.size) 4 _ _ _ HB.out
  have q5 := cell_of_row WX (w3.heap.size) 5 _ _ _ HB.out
  have q6 := cell_of_row WX (w3.heap.size) 6 _ _ _ HB.out
  simp only [List.getElem?_toArray, List.getElem?_cons_zero, List.getElem?_cons_succ] at q0 q1 q2 q3 q4 q5 q6
  have hC := Lib.hid (spec_l4Rows_t cols _ 6 WX.drew g hd4.drew (RdG.imp (lo' := g + 1) hcols (by omega) (Nat.le_refl _) (fun _ _ _ _ _ h => h)) (by show w2.heap.size ≤ WX.heap.size; omega) (by omega) hct.out (by decide))
  rw [show ((6 : Nat) : Int) = 6 from rfl] at hC
  have hcols : RdI WX w1.heap.size w2.heap.size (.slice Ac cols.length cc) cols := hcols
  go_region_held3 (fun w' => w'.cell? ⟨w3.heap.size, 0, none⟩ = some (.int .i64 p.kind) ∧ w'.cell? ⟨w3.heap.size, 1, none⟩ = some (.int .i64 p.col) ∧ w'.cell? ⟨w3.heap.size, 2, none⟩ = some (.int .i64 p.op) ∧ w'.cell? ⟨w3.heap.size, 3, none⟩ = some (.int .i64 p.v.ty) ∧ w'.cell? ⟨w3.heap.size, 4, none⟩ = some (.int .i64 p.v.n) ∧ w'.cell? ⟨w3.heap.size, 5, none⟩ = some (.string p.v.s) ∧ w'.cell? ⟨w3.heap.size, 6, none⟩ = some (.slice As p.l.length cs)) (first | with_reducible exact ⟨q0, q1, q2, q3, q4, q5, q6⟩ | with_reducible exact ⟨p0, p1, p2, p3, p4, p5, p6⟩ | (with_reducible (refine ⟨?_, ?_, ?_, ?_, ?_, ?_, ?_⟩ <;> (repeat (first | apply cell_drew | apply cell_set_ne n0)) <;> assumption)) | go_keep) (first | (go_at_call 31; ((with_reducible refine hC.out.mono ?_); rintro e w6 ⟨lv, rfl, ⟨l, hown, hll, hsm, hfit, hids⟩, hch6, hd6⟩; obtain ⟨Ar, cr, rfl, -, -⟩ := hown.rdR.form; have Hr := Lib.hid (show RdR w6 WX.heap.size w6.heap.size _ l from hown.rdR); have Hll := Lib.hid (And.intro hll (And.intro hsm (And.intro hfit hids))); have z6 : WX.heap.size ≤ w6.heap.size := hch6.size; have HB6 := chg_cell (w := WX.drew) HB.out hch6 hlt3; have HR6 := chg_low (w := WX.drew) G4.out hch6 (by omega); have p0 := cell_of_row w6 (w3.heap.size) 0 _ _ _ HB6; have p1 := cell_of_row w6 (w3.heap.size) 1 _ _ _ HB6; have p2 := cell_of_row w6 (w3.heap.size) 2 _ _ _ HB6; have p3 := cell_of_row w6 (w3.heap.size) 3 _ _ _ HB6; have p4 := cell_of_row w6 (w3.heap.size) 4 _ _ _ HB6; have p5 := cell_of_row w6 (w3.heap.size) 5 _ _ _ HB6; have p6 := cell_of_row w6 (w3.heap.size) 6 _ _ _ HB6; simp only [List.getElem?_toArray, List.getElem?_cons_zero, List.getElem?_cons_succ] at p0 p1 p2 p3 p4 p5 p6; have r0 := cell_of_row w6 (w.heap.size) 0 _ _ _ HR6; have r1 := cell_of_row w6 (w.heap.size) 1 _ _ _ HR6; have r2 := cell_of_row w6 (w.heap.size) 2 _ _ _ HR6; have r3 := cell_of_row w6 (w.heap.size) 3 _ _ _ HR6; have r4 := cell_of_row w6 (w.heap.size) 4 _ _ _ HR6; have r5 := cell_of_row w6 (w.heap.size) 5 _ _ _ HR6; have r6 := cell_of_row w6 (w.heap.size) 6 _ _ _ HR6; simp only [List.getElem?_toArray, List.getElem?_cons_zero, List.getElem?_cons_succ] at r0 r1 r2 r3 r4 r5 r6; have f0 := fun o => frozen_of_row w6 w.heap.size o _ _ HR6; have Hb6 := Lib.hid (chg_below hb4.drew hch6 (show w.heap.size ≤ g by omega) (Nat.le_refl _)); have Hop6 := Lib.hid (Hop.out.same (.of_chg (w := WX.drew) hch6 (.inr (by omega)) (by show w3.heap.size ≤ WX.heap.size; omega))); have Hco6 := Lib.hid (hcols.same (.of_chg (w := WX.drew) hch6 (.inr (by omega)) (by show w2.heap.size ≤ WX.heap.size; omega))); clear HB6 HR6 hch6 hd6 hown hsm hll hfit hids)))
  go_wp2_with fail
  refine bodyPost_ret (v := .tuple #[.slice Ac cols.length cc, .agg #[.int .i64 p.kind, .int .i64 p.col, .int .i64 p.op, .int .i64 p.v.ty, .int .i64 p.v.n, .string p.v.s, .slice As p.l.length cs], .slice Ar l.length cr]) ?_ rfl ⟨cols, p, _, _, _, l, rfl, ?_, ?_, ?_, hpk, Lib.hid hcl, ?_⟩
  · simp [results, Tryz.results14, go_sem, r0, r1, r2, r3, r4, r5, r6]
  · refine (RdG.imp (lo := w1.heap.size) (hi := w2.heap.size) ?_ (by omega) (by simp [World.setCell]; omega) (fun _ _ _ _ _ h => h))
    refine RdI.same Hco6.out fun b h1 h2 => ?_
    iterate 7 rw [Below.heap_setCell _ ⟨w.heap.size, _, none⟩ _ b (by show b ≠ w.heap.size; omega)]
  · refine (RdP.more (lo := w2.heap.size) (hi := w3.heap.size) ?_ (by omega) (by simp [World.setCell]; omega))
    refine Hop6.out.rdP.same fun b h1 h2 => ?_
    iterate 7 rw [Below.heap_setCell _ ⟨w.heap.size, _, none⟩ _ b (by show b ≠ w.heap.size; omega)]
  · refine (RdR.more (lo := WX.heap.size) (hi := w6.heap.size) ?_ (by omega) (by simp [World.setCell]))
    refine Hr.out.same fun b h1 h2 => ?_
    iterate 7 rw [Below.heap_setCell _ ⟨w.heap.size, _, none⟩ _ b (by show b ≠ w.heap.size; omega)]
  · iterate 7 refine below_set ?_ (Nat.le_refl _) _
    exact Hb6.out
set_option maxRecDepth 20000 in
set_option maxHeartbeats 8000000 in
theorem spec_DrawPredOk (code : List UInt8) (x : Value) (w : World) {lo hi : Nat} (hx : RdB w lo hi x code) (hhi : hi ≤ w.heap.size) (hn : code.length ≤ 1048576) :
    Calls Tryz.prog 17 #[x] w fun e w' => ∃ (cols : List Int) (p : P) (cv sv : Value), e = .returned (.tuple #[cv, .agg #[.int .i64 p.kind, .int .i64 p.col, .int .i64 p.op, .int .i64 p.v.ty, .int .i64 p.v.n, .string p.v.s, sv]]) ∧ RdI w' (w.heap.size + 1) w'.heap.size cv cols ∧ RdP w' (w.heap.size + 1) w'.heap.size sv p.l ∧ Hid ((POk p ∧ PInOk p) ∧ cntP p.l ≤ 20) ∧ Below w.heap.size w w' := by
  have up := up_a1 w (.cells #[.int .i64 0, .int .i64 0, .int .i64 0, .int .i64 0, .int .i64 0, .string ⟨#[]⟩, .slice none 0 0] 27)
  have hx0 := hx.below up hhi
  have G0 := Lib.hid (heap_alloc_new w (.cells #[.int .i64 0, .int .i64 0, .int .i64 0, .int .i64 0, .int .i64 0, .string ⟨#[]⟩, .slice none 0 0] 27))
  have hs : (w.alloc (.cells #[.int .i64 0, .int .i64 0, .int .i64 0, .int .i64 0, .int .i64 0, .string ⟨#[]⟩, .slice none 0 0] 27)).heap.size = w.heap.size + 1 := by simp
  go_enter Tryz.func17, Tryz.ntmps17
  go_wp2_with fail
  have hC := spec_l1New code x _ hx0 (by rw [hs]; omega) hn
  generalize (w.alloc (.cells #[.int .i64 0, .int .i64 0, .int .i64 0, .int .i64 0, .int .i64 0, .string ⟨#[]⟩, .slice none 0 0] 27)) = W0 at *
  refine hC.mono ?_
  clear hC
  rintro e w1 ⟨g, rfl, hg, hb1, hd1⟩
  rw [hs] at hg hb1
  have G1 := Lib.hid ((hb1.block w.heap.size (by omega)).trans G0.out)
  have hb1 : Below w.heap.size w w1 := up.trans (hb1.mono (by omega))
  clear G0 hx0 up
  have hlt1 := hd1.lt
  have hz1 := hb1.size
  go_wp2_with fail
  refine (spec_l4Cols_t w1 g hd1).mono ?_
  rintro e w2 ⟨cv, rfl, ⟨cols, hcols, hok, hcl⟩, hch2, hd2⟩
  obtain ⟨Ac, cc, rfl, -, -⟩ := hcols.form
  have Hok := Lib.hid hok
  have z2 := hch2.size
  have G2 := Lib.hid (chg_low G1.out hch2 (by omega))
  have hb2 := chg_below hb1 hch2 (show w.heap.size ≤ g by omega) (Nat.le_refl _)
  have hlt2 := hd2.lt
  clear hch2 hb1 hd1 hok G1
  go_wp2_with fail
  refine (spec_l11Any cols _ w2 g hd2 (hcols.more (by omega) (Nat.le_refl _)) (Nat.le_refl _) Hok.out).mono ?_
  rintro e w3 ⟨_, rfl, ⟨p, sv, rfl, hop, hpk⟩, hch3, hd3⟩
  obtain ⟨As, cs, rfl, -, -⟩ := hop.rdP.form
  have z3 := hch3.size
  have hlt3 := hd3.lt
  have G3 := Lib.hid (chg_low G2.out hch3 (by omega))
  have hb3 := chg_below hb2 hch3 (show w.heap.size ≤ g by omega) (Nat.le_refl _)
  have hcols := hcols.same (.of_chg hch3 (.inr (by omega)) (Nat.le_refl _))
  clear hch3 hb2 hd2 G2
  have hd4 := dr_new hd3 #[.int .i64 p.kind, .int .i64 p.col, .int .i64 p.op, .int .i64 p.v.ty, .int .i64 p.v.n, .string p.v.s, .slice As p.l.length cs] 27
  have HB := Lib.hid (heap_alloc_new w3 (.cells #[.int .i64 p.kind, .int .i64 p.col, .int .i64 p.op, .int .i64 p.v.ty, .int .i64 p.v.n, .string p.v.s, .slice As p.l.length cs] 27))
  have hup := up_a1 w3 (.cells #[.int .i64 p.kind, .int .i64 p.col, .int .i64 p.op, .int .i64 p.v.ty, .int .i64 p.v.n, .string p.v.s, .slice As p.l.length cs] 27)
  have hcols := hcols.below hup (by omega)
  have Hop := Lib.hid (hop.below hup (Nat.le_refl _))
  have HR := Lib.hid (alloc_old (o := (.cells #[.int .i64 p.kind, .int .i64 p.col, .int .i64 p.op, .int .i64 p.v.ty, .int .i64 p.v.n, .string p.v.s, .slice As p.l.length cs] 27)) G3.out)
  have hb4 := hb3.alloc (by omega) (.cells #[.int .i64 p.kind, .int .i64 p.col, .int .i64 p.op, .int .i64 p.v.ty, .int .i64 p.v.n, .string p.v.s, .slice As p.l.length cs] 27)
  have hz4 : (w3.alloc (.cells #[.int .i64 p.kind, .int .i64 p.col, .int .i64 p.op, .int .i64 p.v.ty, .int .i64 p.v.n, .string p.v.s, .slice As p.l.length cs] 27)).heap.size = w3.heap.size + 1 := by simp
  clear hop hd3 hup G3 hb3
  go_wp2_with fail
  refine (spec_l1Once 10 _ g hd4 (by decide)).mono ?_
  rintro e w5 ⟨_, rfl, ⟨b5, rfl⟩, hch5, hd5⟩
  have hs5 := hch5.size
  rw [hz4] at hs5
  have Hco := Lib.hid (hcols.same (.of_chg hch5 (.inr (by omega)) (by rw [hz4]; omega)))
  replace Hop := Lib.hid (Hop.out.same (.of_chg hch5 (.inr (by omega)) (by rw [hz4]; omega)))
  replace HB := Lib.hid (chg_cell HB.out hch5 hlt3)
  replace HR := Lib.hid (chg_low HR.out hch5 (by omega))
  have hb := chg_below hb4 hch5 (show w.heap.size ≤ g by omega) (Nat.le_refl _)
  clear hcols hd4 hch5 hb4 hd5 hz4 hs
  cases b5
  · replace Hco := Lib.hid (RdG.imp (hi' := w5.heap.size) Hco.out (Nat.le_refl _) (by omega) fun _ _ _ _ _ h => h : RdI w5 w1.heap.size w5.heap.size (.slice Ac cols.length cc) cols)
    have q0 := cell_of_row w5 (w3.heap.size) 0 _ _ _ HB.out
    have q1 := cell_of_row w5 (w3.heap.size) 1 _ _ _ HB.out
    have q2 := cell_of_row w5 (w3.heap.size) 2 _ _ _ HB.out
    have q3 := cell_of_row w5 (w3.heap.size) 3 _ _ _ HB.out
    have q4 := cell_of_row w5 (w3.heap.size) 4 _ _ _ HB.out
    have q5 := cell_of_row w5 (w3.heap.size) 5 _ _ _ HB.out
    have q6 := cell_of_row w5 (w3.heap.size) 6 _ _ _ HB.out
    simp only [List.getElem?_toArray, List.getElem?_cons_zero, List.getElem?_cons_succ] at q0 q1 q2 q3 q4 q5 q6
    have r0 := cell_of_row w5 (w.heap.size) 0 _ _ _ HR.out
    have r1 := cell_of_row w5 (w.heap.size) 1 _ _ _ HR.out
    have r2 := cell_of_row w5 (w.heap.size) 2 _ _ _ HR.out
    have r3 := cell_of_row w5 (w.heap.size) 3 _ _ _ HR.out
    have r4 := cell_of_row w5 (w.heap.size) 4 _ _ _ HR.out
    have r5 := cell_of_row w5 (w.heap.size) 5 _ _ _ HR.out
    have r6 := cell_of_row w5 (w.heap.size) 6 _ _ _ HR.out
    simp only [List.getElem?_toArray, List.getElem?_cons_zero, List.getElem?_cons_succ] at r0 r1 r2 r3 r4 r5 r6
    have f0 := fun o => frozen_of_row w5 w.heap.size o _ _ HR.out
    clear HB HR
    go_wp2_with fail
    go_region
    go_wp2_with fail
    refine bodyPost_ret (v := .tuple #[.slice Ac cols.length cc, .agg #[.int .i64 p.kind, .int .i64 p.col, .int .i64 p.op, .int .i64 p.v.ty, .int .i64 p.v.n, .string p.v.s, .slice As p.l.length cs]]) ?_ rfl ⟨cols, p, _, _, rfl, ?_, ?_, hpk, ?_⟩
    · simp [results, Tryz.results17, go_sem, r0, r1, r2, r3, r4, r5, r6]
    · refine (RdG.imp (lo := w1.heap.size) (hi := w5.heap.size) ?_ (by omega) (by simp [World.setCell, World.drew]) (fun _ _ _ _ _ h => h))
      refine RdI.same Hco.out fun b h1 h2 => ?_
      rw [heap_drewD]
      iterate 7 rw [Below.heap_setCell _ ⟨w.heap.size, _, none⟩ _ b (by show b ≠ w.heap.size; omega)]
    · refine (RdP.more (lo := w2.heap.size) (hi := w3.heap.size) ?_ (by omega) (by simp [World.setCell, World.drew]; omega))
      refine Hop.out.rdP.same fun b h1 h2 => ?_
      rw [heap_drewD]
      iterate 7 rw [Below.heap_setCell _ ⟨w.heap.size, _, none⟩ _ b (by show b ≠ w.heap.size; omega)]
    · refine Below.drew ?_
      iterate 7 refine below_set ?_ (Nat.le_refl _) _
      exact hb
  · have hup := up_a1 w5 (.cells #[] 3)
    have hx9 := rdI_new w5 [] 3 (by decide)
    simp only [List.map_nil, List.length_nil] at hx9
    replace Hop := Lib.hid (Hop.out.below hup (by omega))
    replace HB := Lib.hid (alloc_old (o := .cells #[] 3) HB.out)
    replace HR := Lib.hid (alloc_old (o := .cells #[] 3) HR.out)
    replace hb := hb.alloc (by omega) (.cells #[] 3)
    have hz6 : (w5.alloc (.cells #[] 3)).heap.size = w5.heap.size + 1 := by simp
    clear Hco
    go_upto_region 6 with fail
    obtain ⟨w6, hw6⟩ : ∃ w6, w5.alloc (.cells #[] 3) = w6 := ⟨_, rfl⟩
    rw [hw6] at hx9 Hop HB HR hb hz6
    try rw [hw6]
    clear hw6 hup
    have hs6 : w5.heap.size + 1 ≤ w6.heap.size := by omega
    clear hz6
    have Hco := Lib.hid (RdG.imp (lo' := w1.heap.size) (hi' := w6.heap.size) hx9 (by omega) (by omega) fun _ _ _ _ _ h => h : RdI w6 w1.heap.size w6.heap.size (.slice (some ⟨w5.heap.size, 0, none⟩) 0 0) [])
    clear hx9
    have q0 := cell_of_row w6 (w3.heap.size) 0 _ _ _ HB.out
    have q1 := cell_of_row w6 (w3.heap.size) 1 _ _ _ HB.out
    have q2 := cell_of_row w6 (w3.heap.size) 2 _ _ _ HB.out
    have q3 := cell_of_row w6 (w3.heap.size) 3 _ _ _ HB.out
    have q4 := cell_of_row w6 (w3.heap.size) 4 _ _ _ HB.out
    have q5 := cell_of_row w6 (w3.heap.size) 5 _ _ _ HB.out
    have q6 := cell_of_row w6 (w3.heap.size) 6 _ _ _ HB.out
    simp only [List.getElem?_toArray, List.getElem?_cons_zero, List.getElem?_cons_succ] at q0 q1 q2 q3 q4 q5 q6
    have r0 := cell_of_row w6 (w.heap.size) 0 _ _ _ HR.out
    have r1 := cell_of_row w6 (w.heap.size) 1 _ _ _ HR.out
    have r2 := cell_of_row w6 (w.heap.size) 2 _ _ _ HR.out
    have r3 := cell_of_row w6 (w.heap.size) 3 _ _ _ HR.out
    have r4 := cell_of_row w6 (w.heap.size) 4 _ _ _ HR.out
    have r5 := cell_of_row w6 (w.heap.size) 5 _ _ _ HR.out
    have r6 := cell_of_row w6 (w.heap.size) 6 _ _ _ HR.out
    simp only [List.getElem?_toArray, List.getElem?_cons_zero, List.getElem?_cons_succ] at r0 r1 r2 r3 r4 r5 r6
    have f0 := fun o => frozen_of_row w6 w.heap.size o _ _ HR.out
    clear HB HR
    go_wp2_with fail
    go_region
    go_wp2_with fail
    refine bodyPost_ret (v := .tuple #[.slice (some ⟨w5.heap.size, 0, none⟩) 0 0, .agg #[.int .i64 p.kind, .int .i64 p.col, .int .i64 p.op, .int .i64 p.v.ty, .int .i64 p.v.n, .string p.v.s, .slice As p.l.length cs]]) ?_ rfl ⟨[], p, _, _, rfl, ?_, ?_, hpk, ?_⟩
    · simp [results, Tryz.results17, go_sem, r0, r1, r2, r3, r4, r5, r6]
    · refine (RdG.imp (lo := w1.heap.size) (hi := w6.heap.size) ?_ (by omega) (by simp [World.setCell, World.drew]) (fun _ _ _ _ _ h => h))
      refine RdI.same Hco.out fun b h1 h2 => ?_
      rw [heap_drewD]
      iterate 7 rw [Below.heap_setCell _ ⟨w.heap.size, _, none⟩ _ b (by show b ≠ w.heap.size; omega)]
    · refine (RdP.more (lo := w2.heap.size) (hi := w3.heap.size) ?_ (by omega) (by simp [World.setCell, World.drew]; omega))
      refine Hop.out.rdP.same fun b h1 h2 => ?_
      rw [heap_drewD]
      iterate 7 rw [Below.heap_setCell _ ⟨w.heap.size, _, none⟩ _ b (by show b ≠ w.heap.size; omega)]
    · refine Below.drew ?_
      iterate 7 refine below_set ?_ (Nat.le_refl _) _
      exact hb
end Go.Proofs.YtjogkbkkcaljhaaGreatDoor
