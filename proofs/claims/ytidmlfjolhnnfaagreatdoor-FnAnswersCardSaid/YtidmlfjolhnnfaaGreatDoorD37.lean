/- Draws: rows, with the range of their numbers; queries and rows. -/
import Derived.Test.YtidmlfjolhnnfaaGreatDoorD35
namespace Go.Lb
open Go.RowKit
def SmallI (l : List R) : Prop := SmallR l ∧ ∀ r ∈ l, 0 ≤ r.id ∧ r.id ≤ 10000
theorem SmallI.snoc {l : List R} {r : R} (h : SmallI l) (h1 : r.l.length ≤ 4) (h2 : ∀ x ∈ r.l, x.s.size ≤ 100) (h3 : 0 ≤ r.id ∧ r.id ≤ 10000) : SmallI (l ++ [r]) :=
  ⟨h.1.snoc h1 h2, fun x hx => by
    rcases List.mem_append.1 hx with h4 | h4
    · exact h.2 x h4
    · obtain rfl := List.mem_singleton.1 h4
      exact h3⟩
end Go.Lb
namespace Go.Proofs.YtidmlfjolhnnfaaGreatDoor
open Go.Sort Go.ChangeShapes Go.WideShapes Go.ChangeAt Go.RowKit Go.Lb
set_option maxRecDepth 20000 in
set_option maxHeartbeats 4000000 in
theorem spec_l4Rows_i (cols : List Int) (x : Value) (most : Nat) (w : World) (g : Nat) (hd : Dr w g) {hi : Nat} (hx : RdI w (g + 1) hi x cols) (hhi : hi ≤ w.heap.size) (hm : cols.length ≤ 3) (hmo : most ≤ 1000) :
    Calls Tryz.prog 23 #[.pointer (some ⟨g, 0, none⟩), x, .int .i64 most] w (DrP w g fun v w' => ∃ l : List R, OwnR 51 25 w' w.heap.size w'.heap.size v l ∧ l.length ≤ most ∧ SmallI l) := by
  have hlt := hd.lt
  obtain ⟨A, c, rfl, -, -⟩ := hx.form
  obtain ⟨i0, hif, hz0, hz1, hz2⟩ := info_parts info_Row
  have hif := Lib.hid hif
  have hz0 := Lib.hid hz0
  have hz1 := Lib.hid hz1
  have hz2 := Lib.hid hz2
  have own0 := Lib.hid (World.ownsRow_made w (base := w.heap.size) (e := 51) (size := 2) #[] 0 (Nat.le_refl _) (by decide) rfl)
  have hi1 : IntKind.i64.wrap ((most : Int) + 1) = (most : Int) + 1 := IntWalk.i64_in _ ⟨by omega, by omega⟩
  go_enter Tryz.func23, Tryz.ntmps23
  go_wp2_with fail
  have hd1 := dr_new hd #[] 51
  have hc0 := chg_new g w #[] 51
  refine (spec_l1Below 4 _ g hd1 (by decide)).mono ?_
  rintro e w1 ⟨_, rfl, ⟨id0, rfl, hid0, -⟩, hch1, hd2⟩
  have hid : id0 < 4 := by have := hid0 (by decide); omega
  have hch := hc0.trans hch1
  have own1 := Lib.hid (owns_chg own0.out hch1 hlt)
  clear own0 hid0 hch1 hd1 hd hc0
  go_wp2_with fail
  refine (spec_l1Below ((most : Int) + 1) _ g hd2 (by omega)).mono ?_
  rintro e w2 ⟨_, rfl, ⟨k, rfl, hk1, -⟩, hch1, hd1⟩
  have hk : k ≤ most := by have := hk1 (by omega); omega
  have hch := hch.trans hch1
  have own1 := Lib.hid (owns_chg own1.out hch1 hlt)
  clear hk1 hch1 hd2
  go_wp2_with fail
  go_loopw [7, 8, 9] (fun o d i wr => ∃ (q : Nat) (id : Int) (ps : List (R × Value)), i = .int .i64 q ∧ d = .int .i64 id ∧ 0 ≤ id ∧ id ≤ 4 + 5 * ps.length ∧ ps.length + q ≤ k ∧ SmallI (ps.map Prod.fst) ∧ OwnRp 51 25 wr w.heap.size wr.heap.size o ps ∧ Chg g (g + 1) w wr ∧ Dr wr g) (fun _ _ i _ => (intOf i).toNat)
  case atStart => exact ⟨k, id0, [], rfl, rfl, by omega, by simp; omega, by simp, ⟨by intro r hr; simp at hr, by intro r hr; simp at hr⟩, .nil own1.out (fun b hb => (own1.out.lt b hb)), hch, hd1⟩
  case round =>
    obtain ⟨q, id, ps, rfl, rfl, hi0, hi4, hq, hsm, hown, hch, hd⟩ := hrel
    clear own1
    have Hsm := Lib.hid hsm
    clear hsm
    have hcs := hch.size
    by_cases hq0 : 0 < q
    · have hdq : decide (0 < (q : Int)) = true := decide_eq_true (by omega)
      go_wp2_with fail
      have hxr := (hx.same (.of_chg hch (.inr (Nat.le_refl _)) hhi))
      refine (spec_l4Vals cols _ _ g hd hxr (by omega) (by omega)).mono ?_
      rintro e w2 ⟨v2, rfl, ⟨l, ⟨hown2, hsm2⟩, hll⟩, hch2, hd2⟩
      have hl4 : l.length ≤ 4 := by omega
      obtain ⟨As, cs, rfl, -, -⟩ := hown2.cells.form
      have hout := rows_out hlt hown hch2
      have Hown := Lib.hid hown
      have Hsm2 := Lib.hid hsm2
      have Hown2 := Lib.hid hown2
      have hcs2 := hch2.size
      clear hown hown2 hsm2 hxr hd hll
      go_wp2_with (at_builtin; refine wpl_app rfl _ _ 32 rfl w.heap.size 51 i0 _ 2 32 Tryz.underlying32 hif.out hz0.out hz1.out hz2.out rfl (by decide) (by decide) (hout.alloc _) rfl (heap_alloc_new _ _) rfl rfl (by simp [Value.oneCell']) (by omega) (by simp; omega) ?_)
      intro v' w3 hown' hgrow hnb
      obtain ⟨h1, h2, h3⟩ := app_goodR hlt hch Hown.out hch2 hd2 Hown2.out hown' hgrow hnb
      have H1 := Lib.hid h1
      clear hown' hgrow hnb hout h1 hd2 hch2 hch
      have hx5 := rdI_new w3 [1, 1, 1, 2, 5] 3 (by decide)
      have hlt3 := h3.lt
      have hd5 := dr_new h3 (([1, 1, 1, 2, 5] : List Int).map (Value.int .i64)).toArray 3
      have hc5 := chg_new g w3 (([1, 1, 1, 2, 5] : List Int).map (Value.int .i64)).toArray 3
      go_wp2_with fail
      refine (spec_l1Int [1, 1, 1, 2, 5] _ _ g hd5 (RdG.imp hx5 hlt3 (Nat.le_refl _) fun _ _ _ _ _ h => h) (by simp) (by decide) (by decide)).mono ?_
      rintro e w5 ⟨_, rfl, ⟨j, hj, rfl⟩, hch5, hd6⟩
      have hj' : 1 ≤ j ∧ j ≤ 5 := by
        simp only [List.mem_cons, List.not_mem_nil, or_false] at hj
        omega
      have hc6 := hc5.trans hch5
      clear hj hx5 hd5
      have hid2 : IntKind.i64.wrap (id + j) = id + j := IntWalk.i64_in _ ⟨by omega, by omega⟩
      go_wp2_with fail
      go_roundw
      case rel => exact ⟨q - 1, _, ps ++ [(⟨id, l⟩, .slice As l.length cs)], by go_num, rfl, by omega, by simp; omega, by simp; omega, by rw [List.map_append]; exact Hsm.out.snoc hl4 Hsm2.out ⟨hi0, show id ≤ 10000 by omega⟩, H1.out.imp (fun b h1 h2 => hc6.block b h2 (.inr (by omega))) (Nat.le_refl _) hc6.size, h2.trans hc6, hd6⟩
      case measure => simp [intOf]; omega
    · have hdq : decide (0 < (q : Int)) = false := decide_eq_false (by omega)
      go_wp2_with fail
      go_ret
      exact ⟨_, rfl, ⟨_, ⟨ps, rfl, hown⟩, by simp; omega, Hsm.out⟩, hch, hd⟩
set_option maxRecDepth 20000 in
set_option maxHeartbeats 8000000 in
theorem spec_l12Pair_i (w : World) (g : Nat) (hd : Dr w g) :
    Calls Tryz.prog 17 #[.pointer (some ⟨g, 0, none⟩)] w (DrP w g fun v w' => ∃ (q : Q) (sv ov lv : Value) (l : List R), v = .tuple #[.agg #[.int .i64 q.kind, .int .i64 q.p.kind, .int .i64 q.p.col, .int .i64 q.p.op, .int .i64 q.p.v.ty, .int .i64 q.p.v.n, .string q.p.v.s, sv, .int .i64 q.col, ov], lv] ∧ RdP w' w.heap.size w'.heap.size sv q.p.l ∧ RdI w' w.heap.size w'.heap.size ov q.out ∧ RdR w' w.heap.size w'.heap.size lv l ∧ Hid (POk q.p ∧ cntP q.p.l ≤ 20 ∧ q.out.length ≤ 5) ∧ Hid (l.length ≤ 6 ∧ SmallI l)) := by
  have hlt := hd.lt
  have hd1 := dr_new hd #[.int .i64 0, .int .i64 0, .int .i64 0, .int .i64 0, .int .i64 0, .int .i64 0, .string ⟨#[]⟩, .slice none 0 0, .int .i64 0, .slice none 0 0] 31
  have HR := Lib.hid (heap_alloc_new w (.cells #[.int .i64 0, .int .i64 0, .int .i64 0, .int .i64 0, .int .i64 0, .int .i64 0, .string ⟨#[]⟩, .slice none 0 0, .int .i64 0, .slice none 0 0] 31))
  have hch := chg_new g w #[.int .i64 0, .int .i64 0, .int .i64 0, .int .i64 0, .int .i64 0, .int .i64 0, .string ⟨#[]⟩, .slice none 0 0, .int .i64 0, .slice none 0 0] 31
  have hsz : w.heap.size + 1 ≤ (w.alloc (.cells #[.int .i64 0, .int .i64 0, .int .i64 0, .int .i64 0, .int .i64 0, .int .i64 0, .string ⟨#[]⟩, .slice none 0 0, .int .i64 0, .slice none 0 0] 31)).heap.size := by simp
  go_enter Tryz.func17, Tryz.ntmps17
  go_wp2_with fail
  refine (spec_l4Cols_t _ g hd1).mono ?_
  rintro e w2 ⟨cv, rfl, ⟨cols, hcols, hok, hcl⟩, hch2, hd2⟩
  obtain ⟨Ac, cc, rfl, -, -⟩ := hcols.form
  have Hok := Lib.hid hok
  have z2 := hch2.size
  replace HR := Lib.hid (chg_cell HR.out hch2 hlt)
  replace hch := hch.trans hch2
  clear hd1 hch2 hok
  go_wp2_with fail
  refine (spec_l12Any cols _ w2 g hd2 (hcols.more (by omega) (Nat.le_refl _)) (Nat.le_refl _) Hok.out).mono ?_
  rintro e w3 ⟨_, rfl, ⟨q, sv, ov, rfl, hrp, hri, hqk⟩, hch3, hd3⟩
  obtain ⟨As, cs, rfl, -, -⟩ := hrp.form
  obtain ⟨Ao, co, rfl, -, -⟩ := hri.form
  have z3 := hch3.size
  replace HR := Lib.hid (chg_cell HR.out hch3 hlt)
  replace hch := hch.trans hch3
  have hcols3 := hcols.same (.of_chg hch3 (.inr (by omega)) (Nat.le_refl _))
  have Hrp := Lib.hid hrp
  have Hri := Lib.hid hri
  clear hd2 hch3 hcols hrp hri
  go_wp2_with fail
  refine (spec_l4Rows_i cols _ 6 w3 g hd3 (hcols3.more (by omega) (Nat.le_refl _)) (by omega) (by omega) (by decide)).mono ?_
  rintro e w4 ⟨lv, rfl, ⟨l, hown, hll, hsm⟩, hch4, hd4⟩
  have hr := hown.rdR
  obtain ⟨Ar, cr, rfl, -, -⟩ := hr.form
  have z4 := hch4.size
  have HR4 := chg_cell HR.out hch4 hlt
  replace hch := hch.trans hch4
  have Hrp4 := Lib.hid (Hrp.out.same (.of_chg hch4 (.inr (by omega)) (Nat.le_refl _)))
  have Hri4 := Lib.hid (Hri.out.same (.of_chg hch4 (.inr (by omega)) (Nat.le_refl _)))
  have Hr := Lib.hid hr
  have Hll := Lib.hid (And.intro hll hsm)
  have r0 := cell_of_row w4 (w.heap.size) 0 _ _ _ HR4
  have r1 := cell_of_row w4 (w.heap.size) 1 _ _ _ HR4
  have r2 := cell_of_row w4 (w.heap.size) 2 _ _ _ HR4
  have r3 := cell_of_row w4 (w.heap.size) 3 _ _ _ HR4
  have r4 := cell_of_row w4 (w.heap.size) 4 _ _ _ HR4
  have r5 := cell_of_row w4 (w.heap.size) 5 _ _ _ HR4
  have r6 := cell_of_row w4 (w.heap.size) 6 _ _ _ HR4
  have r7 := cell_of_row w4 (w.heap.size) 7 _ _ _ HR4
  have r8 := cell_of_row w4 (w.heap.size) 8 _ _ _ HR4
  have r9 := cell_of_row w4 (w.heap.size) 9 _ _ _ HR4
  simp only [List.getElem?_toArray, List.getElem?_cons_zero, List.getElem?_cons_succ] at r0 r1 r2 r3 r4 r5 r6 r7 r8 r9
  have f0 := fun o => frozen_of_row w4 w.heap.size o _ _ HR4
  clear hd3 hch4 hcols3 Hrp Hri hr hown HR HR4 hll hsm
  go_wp2_with fail
  refine bodyPost_ret (v := .tuple #[.agg #[.int .i64 q.kind, .int .i64 q.p.kind, .int .i64 q.p.col, .int .i64 q.p.op, .int .i64 q.p.v.ty, .int .i64 q.p.v.n, .string q.p.v.s, (.slice As q.p.l.length cs), .int .i64 q.col, (.slice Ao q.out.length co)], .slice Ar l.length cr]) ?_ rfl ⟨_, rfl, ⟨q, (.slice As q.p.l.length cs), (.slice Ao q.out.length co), _, l, rfl, ?_, ?_, ?_, hqk, Lib.hid Hll.out⟩, ?_, ?_⟩
  · simp [results, Tryz.results17, go_sem, r0, r1, r2, r3, r4, r5, r6, r7, r8, r9]
  · refine RdP.more (lo := w2.heap.size) (hi := w3.heap.size) ?_ (by omega) (by simp [World.setCell]; omega)
    refine Hrp4.out.same fun b h1 h2 => ?_
    iterate 10 rw [Below.heap_setCell _ ⟨w.heap.size, _, none⟩ _ b (by show b ≠ w.heap.size; omega)]
  · refine RdG.imp (lo := w2.heap.size) (hi := w3.heap.size) ?_ (by omega) (by simp [World.setCell]; omega) (fun _ _ _ _ _ h => h)
    refine RdI.same Hri4.out fun b h1 h2 => ?_
    iterate 10 rw [Below.heap_setCell _ ⟨w.heap.size, _, none⟩ _ b (by show b ≠ w.heap.size; omega)]
  · refine RdR.more (lo := w3.heap.size) (hi := w4.heap.size) ?_ (by omega) (by simp [World.setCell])
    refine Hr.out.same fun b h1 h2 => ?_
    iterate 10 rw [Below.heap_setCell _ ⟨w.heap.size, _, none⟩ _ b (by show b ≠ w.heap.size; omega)]
  · iterate 10 refine chg_set ?_ (Nat.le_refl _) _
    exact hch
  · iterate 10 refine Dr.set ?_ (by omega) (by omega) _
    exact hd4
set_option maxRecDepth 20000 in
set_option maxHeartbeats 8000000 in
theorem spec_DrawAnswer_i (code : List UInt8) (x : Value) (w : World) {lo hi : Nat} (hx : RdB w lo hi x code) (hhi : hi ≤ w.heap.size) (hn : code.length ≤ 1048576) :
    Calls Tryz.prog 5 #[x] w fun e w' => ∃ (q : Q) (sv ov lv : Value) (l : List R), e = .returned (.tuple #[.agg #[.int .i64 q.kind, .int .i64 q.p.kind, .int .i64 q.p.col, .int .i64 q.p.op, .int .i64 q.p.v.ty, .int .i64 q.p.v.n, .string q.p.v.s, sv, .int .i64 q.col, ov], lv]) ∧ RdP w' (w.heap.size + 1) w'.heap.size sv q.p.l ∧ RdI w' (w.heap.size + 1) w'.heap.size ov q.out ∧ RdR w' (w.heap.size + 1) w'.heap.size lv l ∧ Hid (POk q.p ∧ cntP q.p.l ≤ 20 ∧ q.out.length ≤ 5) ∧ Hid (l.length ≤ 6 ∧ SmallI l) ∧ Below w.heap.size w w' := by
  have up := up_a1 w (.cells #[.int .i64 0, .int .i64 0, .int .i64 0, .int .i64 0, .int .i64 0, .int .i64 0, .string ⟨#[]⟩, .slice none 0 0, .int .i64 0, .slice none 0 0] 31)
  have hx0 := hx.below up hhi
  have G0 := Lib.hid (heap_alloc_new w (.cells #[.int .i64 0, .int .i64 0, .int .i64 0, .int .i64 0, .int .i64 0, .int .i64 0, .string ⟨#[]⟩, .slice none 0 0, .int .i64 0, .slice none 0 0] 31))
  have hs : (w.alloc (.cells #[.int .i64 0, .int .i64 0, .int .i64 0, .int .i64 0, .int .i64 0, .int .i64 0, .string ⟨#[]⟩, .slice none 0 0, .int .i64 0, .slice none 0 0] 31)).heap.size = w.heap.size + 1 := by simp
  go_enter Tryz.func5, Tryz.ntmps5
  go_wp2_with fail
  have hC := spec_l1New code x _ hx0 (by rw [hs]; omega) hn
  generalize (w.alloc (.cells #[.int .i64 0, .int .i64 0, .int .i64 0, .int .i64 0, .int .i64 0, .int .i64 0, .string ⟨#[]⟩, .slice none 0 0, .int .i64 0, .slice none 0 0] 31)) = W0 at *
  refine hC.mono ?_
  clear hC
  rintro e w1 ⟨g, rfl, hg, hb1, hd1⟩
  rw [hs] at hg hb1
  have G1 := Lib.hid ((hb1.block w.heap.size (by omega)).trans G0.out)
  have hz1 := hb1.size
  have hb1 : Below w.heap.size w w1 := up.trans (hb1.mono (by omega))
  clear G0 hx0 up
  go_wp2_with fail
  refine (spec_l12Pair_i w1 g hd1).mono ?_
  rintro e w4 ⟨_, rfl, ⟨q, sv, ov, lv, l, rfl, hrp, hri, hr, hqk, hlk⟩, hch4, hd4⟩
  obtain ⟨As, cs, rfl, -, -⟩ := hrp.form
  obtain ⟨Ao, co, rfl, -, -⟩ := hri.form
  obtain ⟨Ar, cr, rfl, -, -⟩ := hr.form
  have z4 := hch4.size
  have HR4 := chg_low G1.out hch4 (by omega)
  have hb4 := chg_below hb1 hch4 (show w.heap.size ≤ g by omega) (Nat.le_refl _)
  have Hrp4 := Lib.hid hrp
  have Hri4 := Lib.hid hri
  have Hr := Lib.hid hr
  have r0 := cell_of_row w4 (w.heap.size) 0 _ _ _ HR4
  have r1 := cell_of_row w4 (w.heap.size) 1 _ _ _ HR4
  have r2 := cell_of_row w4 (w.heap.size) 2 _ _ _ HR4
  have r3 := cell_of_row w4 (w.heap.size) 3 _ _ _ HR4
  have r4 := cell_of_row w4 (w.heap.size) 4 _ _ _ HR4
  have r5 := cell_of_row w4 (w.heap.size) 5 _ _ _ HR4
  have r6 := cell_of_row w4 (w.heap.size) 6 _ _ _ HR4
  have r7 := cell_of_row w4 (w.heap.size) 7 _ _ _ HR4
  have r8 := cell_of_row w4 (w.heap.size) 8 _ _ _ HR4
  have r9 := cell_of_row w4 (w.heap.size) 9 _ _ _ HR4
  simp only [List.getElem?_toArray, List.getElem?_cons_zero, List.getElem?_cons_succ] at r0 r1 r2 r3 r4 r5 r6 r7 r8 r9
  have f0 := fun o => frozen_of_row w4 w.heap.size o _ _ HR4
  clear hrp hri hr HR4 hch4 hb1 hd1 hd4 G1
  go_wp2_with fail
  refine bodyPost_ret (v := .tuple #[.agg #[.int .i64 q.kind, .int .i64 q.p.kind, .int .i64 q.p.col, .int .i64 q.p.op, .int .i64 q.p.v.ty, .int .i64 q.p.v.n, .string q.p.v.s, (.slice As q.p.l.length cs), .int .i64 q.col, (.slice Ao q.out.length co)], .slice Ar l.length cr]) ?_ rfl ⟨q, (.slice As q.p.l.length cs), (.slice Ao q.out.length co), _, l, rfl, ?_, ?_, ?_, hqk, hlk, ?_⟩
  · simp [results, Tryz.results5, go_sem, r0, r1, r2, r3, r4, r5, r6, r7, r8, r9]
  · refine RdP.more (lo := w1.heap.size) (hi := w4.heap.size) ?_ (by omega) (by simp [World.setCell])
    refine Hrp4.out.same fun b h1 h2 => ?_
    iterate 10 rw [Below.heap_setCell _ ⟨w.heap.size, _, none⟩ _ b (by show b ≠ w.heap.size; omega)]
  · refine RdG.imp (lo := w1.heap.size) (hi := w4.heap.size) ?_ (by omega) (by simp [World.setCell]) (fun _ _ _ _ _ h => h)
    refine RdI.same Hri4.out fun b h1 h2 => ?_
    iterate 10 rw [Below.heap_setCell _ ⟨w.heap.size, _, none⟩ _ b (by show b ≠ w.heap.size; omega)]
  · refine RdR.more (lo := w1.heap.size) (hi := w4.heap.size) ?_ (by omega) (by simp [World.setCell])
    refine Hr.out.same fun b h1 h2 => ?_
    iterate 10 rw [Below.heap_setCell _ ⟨w.heap.size, _, none⟩ _ b (by show b ≠ w.heap.size; omega)]
  · iterate 10 refine below_set ?_ (Nat.le_refl _) _
    exact hb4
end Go.Proofs.YtidmlfjolhnnfaaGreatDoor
