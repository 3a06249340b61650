/- Draws: predicates that are right; any predicates (with the numbers' range). -/
import Derived.Test.YtjogkbkkcaljhaaGreatDoorD30i
import Derived.Test.YtjogkbkkcaljhaaGreatDoorRT
namespace Go.Lb
theorem pow_le4 {k : Nat} (h : k ≤ 3) : 2 ^ (k + 1) - 2 ≤ 14 := by
  have := Nat.pow_le_pow_right (n := 2) (by decide) (show k + 1 ≤ 4 by omega)
  omega
theorem P.cmp_ok {k : Nat} {op : Int} {y : V} (h : y.s.size ≤ 100) : POk (.mk 2 k op y []) := ⟨Nat.le_trans h (by decide), POks.nil⟩
end Go.Lb
namespace Go.Proofs.YtjogkbkkcaljhaaGreatDoor
open Go.Sort Go.ChangeShapes Go.WideShapes Go.ChangeAt Go.RowKit Go.Lb
set_option maxRecDepth 20000 in
set_option maxHeartbeats 8000000 in
theorem spec_l11Right (cols : List Int) (x : Value) (w : World) (g : Nat) (hd : Dr w g) {hi : Nat} (hx : RdI w (g + 1) hi x cols) (hhi : hi ≤ w.heap.size) (hok : colsOk cols = true) :
    Calls Tryz.prog 30 #[.pointer (some ⟨g, 0, none⟩), x] w (DrP w g fun v w' => ∃ (p : P) (sv : Value), v = .agg #[.int .i64 p.kind, .int .i64 p.col, .int .i64 p.op, .int .i64 p.v.ty, .int .i64 p.v.n, .string p.v.s, sv] ∧ OwnP 27 w' w.heap.size w'.heap.size sv p.l ∧ Hid ((POk p ∧ PInOk p) ∧ cntP p.l ≤ 14 ∧ predOk cols p = true)) := by
  have hlt := hd.lt
  obtain ⟨A, c, rfl, hcl, hcl2⟩ := hx.form
  have Hok := Lib.hid hok
  clear hok
  have hd1 := dr_new hd #[.int .i64 0, .int .i64 0, .int .i64 0, .int .i64 0, .int .i64 0, .string ⟨#[]⟩, .slice none 0 0] 27
  have HR := Lib.hid (heap_alloc_new w (.cells #[.int .i64 0, .int .i64 0, .int .i64 0, .int .i64 0, .int .i64 0, .string ⟨#[]⟩, .slice none 0 0] 27))
  have hch := chg_new g w #[.int .i64 0, .int .i64 0, .int .i64 0, .int .i64 0, .int .i64 0, .string ⟨#[]⟩, .slice none 0 0] 27
  have hx1 := hx.below (up_a1 w (.cells #[.int .i64 0, .int .i64 0, .int .i64 0, .int .i64 0, .int .i64 0, .string ⟨#[]⟩, .slice none 0 0] 27)) hhi
  have hhi1 : hi ≤ (w.alloc (.cells #[.int .i64 0, .int .i64 0, .int .i64 0, .int .i64 0, .int .i64 0, .string ⟨#[]⟩, .slice none 0 0] 27)).heap.size := by simp; omega
  have hsz : w.heap.size + 1 ≤ (w.alloc (.cells #[.int .i64 0, .int .i64 0, .int .i64 0, .int .i64 0, .int .i64 0, .string ⟨#[]⟩, .slice none 0 0] 27)).heap.size := by simp
  clear hx
  go_enter Tryz.func30, Tryz.ntmps30
  go_wp2_with fail
  refine (spec_l1Below 3 _ g hd1 (by decide)).mono ?_
  rintro e w2 ⟨_, rfl, ⟨k, rfl, hk1, -⟩, hch2, hd2⟩
  have hk : k < 3 := by have := hk1 (by decide); omega
  have hx2 := hx1.same (.of_chg hch2 (.inr (Nat.le_refl _)) hhi1)
  have hhi2 := Nat.le_trans hhi1 hch2.size
  have hsz2 := Nat.le_trans hsz hch2.size
  replace HR := Lib.hid (chg_cell HR.out hch2 hlt)
  replace hch := hch.trans hch2
  clear hd1 hx1 hhi1 hsz hch2 hk1
  go_wp2_with fail
  refine (spec_l11Draw cols Hok.out k (by omega) (k : Int) _ w2 g hi rfl hd2 hx2 hhi2).mono ?_
  rintro e w3 ⟨_, rfl, ⟨p, sv, rfl, hop, hpk⟩, hch3, hd3⟩
  have hcn := Nat.le_trans hpk.out.2 (pow_le4 (k := k) (by omega))
  have HPk := Lib.hid (And.intro hpk.out.1 hcn)
  have hx3 := hx2.same (.of_chg hch3 (.inr (Nat.le_refl _)) hhi2)
  have hhi3 := Nat.le_trans hhi2 hch3.size
  have hs3 := hch3.size
  replace HR := Lib.hid (chg_cell HR.out hch3 hlt)
  replace hch := hch.trans hch3
  have hlt3 := hd3.lt
  obtain ⟨As, cs, rfl, -, -⟩ := hop.rdP.form
  clear hd2 hx2 hch3 hpk hcn hk
  -- the predicate's block
  have hd4 := dr_new hd3 #[.int .i64 p.kind, .int .i64 p.col, .int .i64 p.op, .int .i64 p.v.ty, .int .i64 p.v.n, .string p.v.s, .slice As p.l.length cs] 27
  have HB := Lib.hid (heap_alloc_new w3 (.cells #[.int .i64 p.kind, .int .i64 p.col, .int .i64 p.op, .int .i64 p.v.ty, .int .i64 p.v.n, .string p.v.s, .slice As p.l.length cs] 27))
  have hup := up_a1 w3 (.cells #[.int .i64 p.kind, .int .i64 p.col, .int .i64 p.op, .int .i64 p.v.ty, .int .i64 p.v.n, .string p.v.s, .slice As p.l.length cs] 27)
  have hx4 := hx3.below hup hhi3
  have Hop := Lib.hid (hop.below hup (Nat.le_refl _))
  replace HR := Lib.hid (alloc_old (o := (.cells #[.int .i64 p.kind, .int .i64 p.col, .int .i64 p.op, .int .i64 p.v.ty, .int .i64 p.v.n, .string p.v.s, .slice As p.l.length cs] 27)) HR.out)
  replace hch := hch.trans (chg_new g w3 #[.int .i64 p.kind, .int .i64 p.col, .int .i64 p.op, .int .i64 p.v.ty, .int .i64 p.v.n, .string p.v.s, .slice As p.l.length cs] 27)
  have hz4 : (w3.alloc (.cells #[.int .i64 p.kind, .int .i64 p.col, .int .i64 p.op, .int .i64 p.v.ty, .int .i64 p.v.n, .string p.v.s, .slice As p.l.length cs] 27)).heap.size = w3.heap.size + 1 := by simp
  have Hz4 := Lib.hid hz4
  have hlw : w.heap.size < w3.heap.size := by omega
  clear hop hd3 hx3 hup hz4
  have HC := Lib.hid (spec_PredOk cols _ p _ (w3.alloc (.cells #[.int .i64 p.kind, .int .i64 p.col, .int .i64 p.op, .int .i64 p.v.ty, .int .i64 p.v.n, .string p.v.s, .slice As p.l.length cs] 27)) hx4 (Nat.le_trans hhi3 (by rw [Hz4.out]; omega)) (Hop.out.rdP) (by rw [Hz4.out]; omega) HPk.out.1.1 (Nat.le_trans HPk.out.2 (by decide)))
  have q0 := cell_of_row (w3.alloc (.cells #[.int .i64 p.kind, .int .i64 p.col, .int .i64 p.op, .int .i64 p.v.ty, .int .i64 p.v.n, .string p.v.s, .slice As p.l.length cs] 27)) (w3.heap.size) 0 _ _ _ HB.out
  have q1 := cell_of_row (w3.alloc (.cells #[.int .i64 p.kind, .int .i64 p.col, .int .i64 p.op, .int .i64 p.v.ty, .int .i64 p.v.n, .string p.v.s, .slice As p.l.length cs] 27)) (w3.heap.size) 1 _ _ _ HB.out
  have q2 := cell_of_row (w3.alloc (.cells #[.int .i64 p.kind, .int .i64 p.col, .int .i64 p.op, .int .i64 p.v.ty, .int .i64 p.v.n, .string p.v.s, .slice As p.l.length cs] 27)) (w3.heap.size) 2 _ _ _ HB.out
  have q3 := cell_of_row (w3.alloc (.cells #[.int .i64 p.kind, .int .i64 p.col, .int .i64 p.op, .int .i64 p.v.ty, .int .i64 p.v.n, .string p.v.s, .slice As p.l.length cs] 27)) (w3.heap.size) 3 _ _ _ HB.out
  have q4 := cell_of_row (w3.alloc (.cells #[.int .i64 p.kind, .int .i64 p.col, .int .i64 p.op, .int .i64 p.v.ty, .int .i64 p.v.n, .string p.v.s, .slice As p.l.length cs] 27)) (w3.heap.size) 4 _ _ _ HB.out
  have q5 := cell_of_row (w3.alloc (.cells #[.int .i64 p.kind, .int .i64 p.col, .int .i64 p.op, .int .i64 p.v.ty, .int .i64 p.v.n, .string p.v.s, .slice As p.l.length cs] 27)) (w3.heap.size) 5 _ _ _ HB.out
  have q6 := cell_of_row (w3.alloc (.cells #[.int .i64 p.kind, .int .i64 p.col, .int .i64 p.op, .int .i64 p.v.ty, .int .i64 p.v.n, .string p.v.s, .slice As p.l.length cs] 27)) (w3.heap.size) 6 _ _ _ HB.out
  simp only [List.getElem?_toArray, List.getElem?_cons_zero, List.getElem?_cons_succ] at q0 q1 q2 q3 q4 q5 q6
  cases hpo : predOk cols p
  · rw [hpo] at HC
    clear hpo
    go_wp2_with fail
    refine HC.out.mono ?_
    rintro e w5 ⟨rfl, hb5⟩
    have hx5 := hx4.below hb5 (Nat.le_trans hhi3 (by rw [Hz4.out]; omega))
    have hs5 := hb5.size
    rw [Hz4.out] at hs5
    have hd5 := hd4.below hb5
    have HR5 := Lib.hid ((hb5.block _ (Array.getElem?_eq_some_iff.1 HR.out).1).trans HR.out)
    have hch5 := chg_go hch hb5
    clear hx4 hd4 hch hb5 HC HR q0 q1 q2 q3 q4 q5 q6 HB
    go_wp2_with fail
    refine (spec_l11Cmp1 cols _ w5 g hd5 hx5 (by omega) Hok.out).mono ?_
    rintro e w6 ⟨_, rfl, ⟨j, op, y, rfl, HK⟩, hch6, hd6⟩
    have HR6 := chg_cell HR5.out hch6 hlt
    have r0 := cell_of_row w6 (w.heap.size) 0 _ _ _ HR6
    have r1 := cell_of_row w6 (w.heap.size) 1 _ _ _ HR6
    have r2 := cell_of_row w6 (w.heap.size) 2 _ _ _ HR6
    have r3 := cell_of_row w6 (w.heap.size) 3 _ _ _ HR6
    have r4 := cell_of_row w6 (w.heap.size) 4 _ _ _ HR6
    have r5 := cell_of_row w6 (w.heap.size) 5 _ _ _ HR6
    have r6 := cell_of_row w6 (w.heap.size) 6 _ _ _ HR6
    simp only [List.getElem?_toArray, List.getElem?_cons_zero, List.getElem?_cons_succ] at r0 r1 r2 r3 r4 r5 r6
    have f0 := fun o => frozen_of_row w6 w.heap.size o _ _ HR6
    have hch7 := hch5.trans hch6
    clear hd5 HR6 HR5 hch6 hx5 hch5
    go_wp2_with fail
    refine bodyPost_ret (v := .agg #[.int .i64 2, .int .i64 j, .int .i64 op, .int .i64 y.ty, .int .i64 y.n, .string y.s, .slice none 0 0]) ?_ rfl ⟨_, rfl, ⟨.mk 2 j op y [], .slice none 0 0, rfl, ?_, Lib.hid ⟨⟨P.cmp_ok HK.out.2.2.2.1, ⟨show (-9223372036854775808 : Int) ≤ (j : Int) ∧ (j : Int) ≤ 9223372036854775807 by have := HK.out.1; omega, PIns.nil⟩⟩, by simp [P.l, cntP_nil], by have h := HK.out; exact predOk_cmp Hok.out h.1 h.2.1 h.2.2.1 h.2.2.2.2.1 (by have h2 := h.2.2.2.2.2; rw [List.getElem?_eq_getElem h.1] at h2; injection h2 with h2; exact h2.symm)⟩⟩, ?_, ?_⟩
    · simp [results, Tryz.results30, go_sem, r0, r1, r2, r3, r4, r5, r6]
    · exact ownP_none _ _ _ _
    · iterate 7 refine chg_set ?_ (Nat.le_refl _) _
      exact hch7
    · iterate 7 refine Dr.set ?_ (by omega) (by omega) _
      exact hd6
  · rw [hpo] at HC
    have Hpo := Lib.hid hpo
    clear hpo
    go_wp2_with fail
    refine HC.out.mono ?_
    rintro e w5 ⟨rfl, hb5⟩
    have hs5 := hb5.size
    rw [Hz4.out] at hs5
    have hd5 := hd4.below hb5
    have HR5 := (hb5.block _ (Array.getElem?_eq_some_iff.1 HR.out).1).trans HR.out
    have HB5 := (hb5.block _ (Array.getElem?_eq_some_iff.1 HB.out).1).trans HB.out
    have hch5 := chg_go hch hb5
    have Hop5 := Lib.hid (Hop.out.below hb5 (by rw [Hz4.out]; omega))
    clear hx4 hd4 hch hb5 HC HR q0 q1 q2 q3 q4 q5 q6 HB
    have q0 := cell_of_row w5 (w3.heap.size) 0 _ _ _ HB5
    have q1 := cell_of_row w5 (w3.heap.size) 1 _ _ _ HB5
    have q2 := cell_of_row w5 (w3.heap.size) 2 _ _ _ HB5
    have q3 := cell_of_row w5 (w3.heap.size) 3 _ _ _ HB5
    have q4 := cell_of_row w5 (w3.heap.size) 4 _ _ _ HB5
    have q5 := cell_of_row w5 (w3.heap.size) 5 _ _ _ HB5
    have q6 := cell_of_row w5 (w3.heap.size) 6 _ _ _ HB5
    simp only [List.getElem?_toArray, List.getElem?_cons_zero, List.getElem?_cons_succ] at q0 q1 q2 q3 q4 q5 q6
    have r0 := cell_of_row w5 (w.heap.size) 0 _ _ _ HR5
    have r1 := cell_of_row w5 (w.heap.size) 1 _ _ _ HR5
    have r2 := cell_of_row w5 (w.heap.size) 2 _ _ _ HR5
    have r3 := cell_of_row w5 (w.heap.size) 3 _ _ _ HR5
    have r4 := cell_of_row w5 (w.heap.size) 4 _ _ _ HR5
    have r5 := cell_of_row w5 (w.heap.size) 5 _ _ _ HR5
    have r6 := cell_of_row w5 (w.heap.size) 6 _ _ _ HR5
    simp only [List.getElem?_toArray, List.getElem?_cons_zero, List.getElem?_cons_succ] at r0 r1 r2 r3 r4 r5 r6
    have f0 := fun o => frozen_of_row w5 w.heap.size o _ _ HR5
    clear HR5 HB5
    go_wp2_with fail
    refine bodyPost_ret (v := .agg #[.int .i64 p.kind, .int .i64 p.col, .int .i64 p.op, .int .i64 p.v.ty, .int .i64 p.v.n, .string p.v.s, .slice As p.l.length cs]) ?_ rfl ⟨_, rfl, ⟨p, .slice As p.l.length cs, rfl, ?_, Lib.hid ⟨HPk.out.1, HPk.out.2, Hpo.out⟩⟩, ?_, ?_⟩
    · simp [results, Tryz.results30, go_sem, r0, r1, r2, r3, r4, r5, r6]
    · refine OwnP.imp Hop5.out (by omega) (by simp [World.setCell]; try omega) fun b h1 h2 => ?_
      iterate 7 rw [Below.heap_setCell _ ⟨w.heap.size, _, none⟩ _ b (by show b ≠ w.heap.size; omega)]
    · iterate 7 refine chg_set ?_ (Nat.le_refl _) _
      exact hch5
    · iterate 7 refine Dr.set ?_ (by omega) (by omega) _
      exact hd5
theorem cntP_up {p : P} (h : (POk p ∧ PInOk p) ∧ cntP p.l ≤ 14) : (POk p ∧ PInOk p) ∧ cntP p.l ≤ 20 := ⟨h.1, by omega⟩
set_option maxRecDepth 20000 in
set_option maxHeartbeats 16000000 in
theorem spec_l11Any (cols : List Int) (x : Value) (w : World) (g : Nat) (hd : Dr w g) {hi : Nat} (hx : RdI w (g + 1) hi x cols) (hhi : hi ≤ w.heap.size) (hok : colsOk cols = true) :
    Calls Tryz.prog 38 #[.pointer (some ⟨g, 0, none⟩), x] w (DrP w g (GoodP w.heap.size 20)) := by
  obtain ⟨i0, hif, hz0, hz1, hz2⟩ := info_parts info_PD
  have hif := Lib.hid hif
  have hz0 := Lib.hid hz0
  have hz1 := Lib.hid hz1
  have hz2 := Lib.hid hz2
  have hlt := hd.lt
  obtain ⟨A, c, rfl, hcl, hcl2⟩ := hx.form
  have Hok := Lib.hid hok
  clear hok
  have hd1 := dr_new hd #[.int .i64 0, .int .i64 0, .int .i64 0, .int .i64 0, .int .i64 0, .string ⟨#[]⟩, .slice none 0 0] 27
  have HR := Lib.hid (heap_alloc_new w (.cells #[.int .i64 0, .int .i64 0, .int .i64 0, .int .i64 0, .int .i64 0, .string ⟨#[]⟩, .slice none 0 0] 27))
  have hch := chg_new g w #[.int .i64 0, .int .i64 0, .int .i64 0, .int .i64 0, .int .i64 0, .string ⟨#[]⟩, .slice none 0 0] 27
  have hx1 := hx.below (up_a1 w (.cells #[.int .i64 0, .int .i64 0, .int .i64 0, .int .i64 0, .int .i64 0, .string ⟨#[]⟩, .slice none 0 0] 27)) hhi
  have hhi1 : hi ≤ (w.alloc (.cells #[.int .i64 0, .int .i64 0, .int .i64 0, .int .i64 0, .int .i64 0, .string ⟨#[]⟩, .slice none 0 0] 27)).heap.size := by simp; omega
  have hsz : w.heap.size + 1 ≤ (w.alloc (.cells #[.int .i64 0, .int .i64 0, .int .i64 0, .int .i64 0, .int .i64 0, .string ⟨#[]⟩, .slice none 0 0] 27)).heap.size := by simp
  clear hx
  go_enter Tryz.func38, Tryz.ntmps38
  go_wp2_with fail
  refine (spec_l1Below 4 _ g hd1 (by decide)).mono ?_
  rintro e w2 ⟨_, rfl, ⟨k, rfl, hk1, -⟩, hch2, hd2⟩
  have hk : k < 4 := by have := hk1 (by decide); omega
  have hx2 := hx1.same (.of_chg hch2 (.inr (Nat.le_refl _)) hhi1)
  have hhi2 := Nat.le_trans hhi1 hch2.size
  have hsz2 := Nat.le_trans hsz hch2.size
  replace HR := Lib.hid (chg_cell HR.out hch2 hlt)
  replace hch := hch.trans hch2
  clear hd1 hx1 hhi1 hsz hch2 hk1
  go_wp2_with fail
  refine (spec_l11Draw cols Hok.out k (by omega) (k : Int) _ w2 g hi rfl hd2 hx2 hhi2).mono ?_
  rintro e w3 ⟨_, rfl, ⟨p, sv, rfl, hop, hpk⟩, hch3, hd3⟩
  have hcn := Nat.le_trans hpk.out.2 (pow_le4 (k := k) (by omega))
  have HPk := Lib.hid (And.intro hpk.out.1 hcn)
  have hx3 := hx2.same (.of_chg hch3 (.inr (Nat.le_refl _)) hhi2)
  have hhi3 := Nat.le_trans hhi2 hch3.size
  have hs3 := hch3.size
  replace HR := Lib.hid (chg_cell HR.out hch3 hlt)
  replace hch := hch.trans hch3
  have hlt3 := hd3.lt
  obtain ⟨As, cs, rfl, -, -⟩ := hop.rdP.form
  clear hd2 hx2 hch3 hpk hcn hk
  -- the predicate's block
  have hd4 := dr_new hd3 #[.int .i64 p.kind, .int .i64 p.col, .int .i64 p.op, .int .i64 p.v.ty, .int .i64 p.v.n, .string p.v.s, .slice As p.l.length cs] 27
  have HB := Lib.hid (heap_alloc_new w3 (.cells #[.int .i64 p.kind, .int .i64 p.col, .int .i64 p.op, .int .i64 p.v.ty, .int .i64 p.v.n, .string p.v.s, .slice As p.l.length cs] 27))
  have hup := up_a1 w3 (.cells #[.int .i64 p.kind, .int .i64 p.col, .int .i64 p.op, .int .i64 p.v.ty, .int .i64 p.v.n, .string p.v.s, .slice As p.l.length cs] 27)
  have hx4 := hx3.below hup hhi3
  have Hop := Lib.hid (hop.below hup (Nat.le_refl _))
  replace HR := Lib.hid (alloc_old (o := (.cells #[.int .i64 p.kind, .int .i64 p.col, .int .i64 p.op, .int .i64 p.v.ty, .int .i64 p.v.n, .string p.v.s, .slice As p.l.length cs] 27)) HR.out)
  replace hch := hch.trans (chg_new g w3 #[.int .i64 p.kind, .int .i64 p.col, .int .i64 p.op, .int .i64 p.v.ty, .int .i64 p.v.n, .string p.v.s, .slice As p.l.length cs] 27)
  have hz4 : (w3.alloc (.cells #[.int .i64 p.kind, .int .i64 p.col, .int .i64 p.op, .int .i64 p.v.ty, .int .i64 p.v.n, .string p.v.s, .slice As p.l.length cs] 27)).heap.size = w3.heap.size + 1 := by simp
  have Hz4 := Lib.hid hz4
  have hlw : w.heap.size < w3.heap.size := by omega
  clear hop hd3 hx3 hup hz4
  go_wp2_with fail
  refine (spec_l1Below 12 (w3.alloc (.cells #[.int .i64 p.kind, .int .i64 p.col, .int .i64 p.op, .int .i64 p.v.ty, .int .i64 p.v.n, .string p.v.s, .slice As p.l.length cs] 27)) g hd4 (by decide)).mono ?_
  rintro e w5 ⟨_, rfl, ⟨m, rfl, -, -⟩, hch5, hd5⟩
  have hx5 := hx4.same (.of_chg hch5 (.inr (Nat.le_refl _)) (by rw [Hz4.out]; omega))
  have hs5 := hch5.size
  rw [Hz4.out] at hs5
  have Hop5 := Lib.hid (Hop.out.same (.of_chg hch5 (.inr (by omega)) (by rw [Hz4.out]; omega)))
  replace HR := Lib.hid (chg_cell HR.out hch5 hlt)
  replace HB := Lib.hid (chg_cell HB.out hch5 hlt3)
  replace hch := hch.trans hch5
  have hhi5 : hi ≤ w5.heap.size := by omega
  clear hx4 hd4 hch5 Hop
  by_cases h0 : m = 0
  · subst h0
    go_wp2_with fail
    refine (spec_l1Below 8 w5 g hd5 (by decide)).mono ?_
    rintro e w6 ⟨_, rfl, ⟨j, rfl, hj1, -⟩, hch6, hd6⟩
    have hs6 := hch6.size
    have hj : j < 8 := by have := hj1 (by decide); omega
    have hjw : IntKind.i64.wrap ((j : Int) - 1) = (j : Int) - 1 := IntWalk.i64_in _ ⟨by omega, by omega⟩
    clear hj1
    replace Hop5 := Lib.hid (Hop5.out.same (.of_chg hch6 (.inr (by omega)) (by omega)))
    replace HR := Lib.hid (chg_cell HR.out hch6 hlt)
    replace HB := Lib.hid (chg_cell HB.out hch6 hlt3)
    replace hch := hch.trans hch6
    clear hd5 hx5 hch6
    have hd5 := hd6
    clear hd6
    have q0 := cell_of_row w6 (w3.heap.size) 0 _ _ _ HB.out
    have q1 := cell_of_row w6 (w3.heap.size) 1 _ _ _ HB.out
    have q2 := cell_of_row w6 (w3.heap.size) 2 _ _ _ HB.out
    have q3 := cell_of_row w6 (w3.heap.size) 3 _ _ _ HB.out
    have q4 := cell_of_row w6 (w3.heap.size) 4 _ _ _ HB.out
    have q5 := cell_of_row w6 (w3.heap.size) 5 _ _ _ HB.out
    have q6 := cell_of_row w6 (w3.heap.size) 6 _ _ _ HB.out
    simp only [List.getElem?_toArray, List.getElem?_cons_zero, List.getElem?_cons_succ] at q0 q1 q2 q3 q4 q5 q6
    have r0 := cell_of_row w6 (w.heap.size) 0 _ _ _ HR.out
    have r1 := cell_of_row w6 (w.heap.size) 1 _ _ _ HR.out
    have r2 := cell_of_row w6 (w.heap.size) 2 _ _ _ HR.out
    have r3 := cell_of_row w6 (w.heap.size) 3 _ _ _ HR.out
    have r4 := cell_of_row w6 (w.heap.size) 4 _ _ _ HR.out
    have r5 := cell_of_row w6 (w.heap.size) 5 _ _ _ HR.out
    have r6 := cell_of_row w6 (w.heap.size) 6 _ _ _ HR.out
    simp only [List.getElem?_toArray, List.getElem?_cons_zero, List.getElem?_cons_succ] at r0 r1 r2 r3 r4 r5 r6
    have f0 := fun o => frozen_of_row w6 w.heap.size o _ _ HR.out
    have f1 := fun o => frozen_of_row w6 w3.heap.size o _ _ HB.out
    clear HB HR
    go_wp2_with fail
    refine bodyPost_ret (v := .agg #[.int .i64 ((j : Int) - 1), .int .i64 (p.col), .int .i64 (p.op), .int .i64 (p.v.ty), .int .i64 (p.v.n), .string (p.v.s), .slice As p.l.length cs]) ?_ rfl ⟨_, rfl, ⟨.mk ((j : Int) - 1) p.col p.op p.v p.l, .slice As p.l.length cs, rfl, ?_, Lib.hid (cntP_up HPk.out)⟩, ?_, ?_⟩
    · simp [results, Tryz.results38, go_sem, r0, r1, r2, r3, r4, r5, r6]
    · refine OwnP.imp Hop5.out (by omega) (by simp [World.setCell]; try omega) fun b h1 h2 => ?_
      iterate 7 rw [Below.heap_setCell _ ⟨w.heap.size, _, none⟩ _ b (by show b ≠ w.heap.size; omega)]
      iterate 1 rw [Below.heap_setCell _ ⟨w3.heap.size, _, none⟩ _ b (by show b ≠ w3.heap.size; omega)]
    · iterate 8 refine chg_set ?_ (by omega) _
      exact hch
    · iterate 8 refine Dr.set ?_ (by omega) (by omega) _
      exact hd5
  have b0 : ((m : Int) == 0) = false := by simp; omega
  by_cases h1 : m = 1
  · subst h1
    have hx9 := rdI_new w5 [-1, 1, 3] 3 (by decide)
    have hlt5 := hd5.lt
    replace hd5 := dr_new hd5 (([-1, 1, 3] : List Int).map (Value.int .i64)).toArray 3
    have hup := up_a1 w5 (.cells (([-1, 1, 3] : List Int).map (Value.int .i64)).toArray 3)
    replace Hop5 := Lib.hid (Hop5.out.below hup (by omega))
    replace HR := Lib.hid (alloc_old (o := .cells (([-1, 1, 3] : List Int).map (Value.int .i64)).toArray 3) HR.out)
    replace HB := Lib.hid (alloc_old (o := .cells (([-1, 1, 3] : List Int).map (Value.int .i64)).toArray 3) HB.out)
    replace hch := hch.trans (chg_new g w5 (([-1, 1, 3] : List Int).map (Value.int .i64)).toArray 3)
    have hz5 : (w5.alloc (.cells (([-1, 1, 3] : List Int).map (Value.int .i64)).toArray 3)).heap.size = w5.heap.size + 1 := by simp
    go_wp2_with fail
    refine (spec_l1Int [-1, 1, 3] _ _ g hd5 (RdG.imp hx9 hlt5 (Nat.le_refl _) fun _ _ _ _ _ h => h) (by simp) (by decide) (by decide)).mono ?_
    rintro e w6 ⟨_, rfl, ⟨j, hj, rfl⟩, hch6, hd6⟩
    have hjr : (-9223372036854775808 : Int) ≤ j ∧ j ≤ 9223372036854775807 := by simp at hj; omega
    clear hj
    have hs6 := hch6.size
    rw [hz5] at hs6
    replace Hop5 := Lib.hid (Hop5.out.same (.of_chg hch6 (.inr (by omega)) (by rw [hz5]; omega)))
    replace HR := Lib.hid (chg_cell HR.out hch6 hlt)
    replace HB := Lib.hid (chg_cell HB.out hch6 hlt3)
    replace hch := hch.trans hch6
    clear hd5 hx5 hch6
    have hd5 := hd6
    clear hd6
    clear hx9 hz5 hup
    have q0 := cell_of_row w6 (w3.heap.size) 0 _ _ _ HB.out
    have q1 := cell_of_row w6 (w3.heap.size) 1 _ _ _ HB.out
    have q2 := cell_of_row w6 (w3.heap.size) 2 _ _ _ HB.out
    have q3 := cell_of_row w6 (w3.heap.size) 3 _ _ _ HB.out
    have q4 := cell_of_row w6 (w3.heap.size) 4 _ _ _ HB.out
    have q5 := cell_of_row w6 (w3.heap.size) 5 _ _ _ HB.out
    have q6 := cell_of_row w6 (w3.heap.size) 6 _ _ _ HB.out
    simp only [List.getElem?_toArray, List.getElem?_cons_zero, List.getElem?_cons_succ] at q0 q1 q2 q3 q4 q5 q6
    have r0 := cell_of_row w6 (w.heap.size) 0 _ _ _ HR.out
    have r1 := cell_of_row w6 (w.heap.size) 1 _ _ _ HR.out
    have r2 := cell_of_row w6 (w.heap.size) 2 _ _ _ HR.out
    have r3 := cell_of_row w6 (w.heap.size) 3 _ _ _ HR.out
    have r4 := cell_of_row w6 (w.heap.size) 4 _ _ _ HR.out
    have r5 := cell_of_row w6 (w.heap.size) 5 _ _ _ HR.out
    have r6 := cell_of_row w6 (w.heap.size) 6 _ _ _ HR.out
    simp only [List.getElem?_toArray, List.getElem?_cons_zero, List.getElem?_cons_succ] at r0 r1 r2 r3 r4 r5 r6
    have f0 := fun o => frozen_of_row w6 w.heap.size o _ _ HR.out
    have f1 := fun o => frozen_of_row w6 w3.heap.size o _ _ HB.out
    clear HB HR
    go_wp2_with fail
    refine bodyPost_ret (v := .agg #[.int .i64 (p.kind), .int .i64 (j), .int .i64 (p.op), .int .i64 (p.v.ty), .int .i64 (p.v.n), .string (p.v.s), .slice As p.l.length cs]) ?_ rfl ⟨_, rfl, ⟨.mk p.kind j p.op p.v p.l, .slice As p.l.length cs, rfl, ?_, Lib.hid ⟨⟨HPk.out.1.1, ⟨hjr, HPk.out.1.2.2⟩⟩, Nat.le_trans HPk.out.2 (by decide)⟩⟩, ?_, ?_⟩
    · simp [results, Tryz.results38, go_sem, r0, r1, r2, r3, r4, r5, r6]
    · refine OwnP.imp Hop5.out (by omega) (by simp [World.setCell]; try omega) fun b h1 h2 => ?_
      iterate 7 rw [Below.heap_setCell _ ⟨w.heap.size, _, none⟩ _ b (by show b ≠ w.heap.size; omega)]
      iterate 1 rw [Below.heap_setCell _ ⟨w3.heap.size, _, none⟩ _ b (by show b ≠ w3.heap.size; omega)]
    · iterate 8 refine chg_set ?_ (by omega) _
      exact hch
    · iterate 8 refine Dr.set ?_ (by omega) (by omega) _
      exact hd5
  have b1 : ((m : Int) == 1) = false := by simp; omega
  by_cases h2 : m = 2
  · subst h2
    go_wp2_with fail
    refine (spec_l3Any w5 g hd5).mono ?_
    rintro e w6 ⟨_, rfl, ⟨y, rfl, hy⟩, hch6, hd6⟩
    have hs6 := hch6.size
    replace Hop5 := Lib.hid (Hop5.out.same (.of_chg hch6 (.inr (by omega)) (by omega)))
    replace HR := Lib.hid (chg_cell HR.out hch6 hlt)
    replace HB := Lib.hid (chg_cell HB.out hch6 hlt3)
    replace hch := hch.trans hch6
    clear hd5 hx5 hch6
    have hd5 := hd6
    clear hd6
    have q0 := cell_of_row w6 (w3.heap.size) 0 _ _ _ HB.out
    have q1 := cell_of_row w6 (w3.heap.size) 1 _ _ _ HB.out
    have q2 := cell_of_row w6 (w3.heap.size) 2 _ _ _ HB.out
    have q3 := cell_of_row w6 (w3.heap.size) 3 _ _ _ HB.out
    have q4 := cell_of_row w6 (w3.heap.size) 4 _ _ _ HB.out
    have q5 := cell_of_row w6 (w3.heap.size) 5 _ _ _ HB.out
    have q6 := cell_of_row w6 (w3.heap.size) 6 _ _ _ HB.out
    simp only [List.getElem?_toArray, List.getElem?_cons_zero, List.getElem?_cons_succ] at q0 q1 q2 q3 q4 q5 q6
    have r0 := cell_of_row w6 (w.heap.size) 0 _ _ _ HR.out
    have r1 := cell_of_row w6 (w.heap.size) 1 _ _ _ HR.out
    have r2 := cell_of_row w6 (w.heap.size) 2 _ _ _ HR.out
    have r3 := cell_of_row w6 (w.heap.size) 3 _ _ _ HR.out
    have r4 := cell_of_row w6 (w.heap.size) 4 _ _ _ HR.out
    have r5 := cell_of_row w6 (w.heap.size) 5 _ _ _ HR.out
    have r6 := cell_of_row w6 (w.heap.size) 6 _ _ _ HR.out
    simp only [List.getElem?_toArray, List.getElem?_cons_zero, List.getElem?_cons_succ] at r0 r1 r2 r3 r4 r5 r6
    have f0 := fun o => frozen_of_row w6 w.heap.size o _ _ HR.out
    have f1 := fun o => frozen_of_row w6 w3.heap.size o _ _ HB.out
    clear HB HR
    go_wp2_with fail
    refine bodyPost_ret (v := .agg #[.int .i64 (p.kind), .int .i64 (p.col), .int .i64 (p.op), .int .i64 (y.ty), .int .i64 (y.n), .string (y.s), .slice As p.l.length cs]) ?_ rfl ⟨_, rfl, ⟨.mk p.kind p.col p.op y p.l, .slice As p.l.length cs, rfl, ?_, Lib.hid (⟨⟨⟨Nat.le_trans hy (by decide), HPk.out.1.1.2⟩, HPk.out.1.2⟩, Nat.le_trans HPk.out.2 (by decide)⟩)⟩, ?_, ?_⟩
    · simp [results, Tryz.results38, go_sem, r0, r1, r2, r3, r4, r5, r6]
    · refine OwnP.imp Hop5.out (by omega) (by simp [World.setCell]; try omega) fun b h1 h2 => ?_
      iterate 7 rw [Below.heap_setCell _ ⟨w.heap.size, _, none⟩ _ b (by show b ≠ w.heap.size; omega)]
      iterate 3 rw [Below.heap_setCell _ ⟨w3.heap.size, _, none⟩ _ b (by show b ≠ w3.heap.size; omega)]
    · iterate 10 refine chg_set ?_ (by omega) _
      exact hch
    · iterate 10 refine Dr.set ?_ (by omega) (by omega) _
      exact hd5
  have b2 : ((m : Int) == 2) = false := by simp; omega
  by_cases h3 : m = 3
  · subst h3
    have q6 := cell_of_row w5 (w3.heap.size) 6 _ _ _ HB.out
    simp only [List.getElem?_toArray, List.getElem?_cons_zero, List.getElem?_cons_succ] at q6
    go_wp2_with fail
    refine wp_region_T (S := fun w' => w'.cell? ⟨w3.heap.size, 6, none⟩ = some (.slice As p.l.length cs)) (n := 8) (by kernel_rfl) ?_
    generalize hX0 : w5.drew = X0
    have HB0 : Below w5.heap.size w5 X0 := hX0 ▸ (Below.refl _ _).drew
    have s0 : w5.heap.size ≤ X0.heap.size := HB0.size
    have x0 := cell_keep q6 HB0
    clear hX0
    have F0 : X0.cell? ⟨w3.heap.size, 6, none⟩ = some (.slice As p.l.length cs) := x0
    refine wpAnyT_take (i := 0) (oi := _) (v := ?_) rfl (by kernel_rfl) (by kernel_rfl) (by kernel_rfl) (by kernel_rfl) (fun _ _ _ h => h) (Or.inl ⟨by rfl, ?_⟩) F0 ?_
    rotate_left
    · (intro w' hSw; (try dsimp only at hSw); go_simp) <;> with_reducible rfl
    try simp only [Act.put, List.setIfInBounds_toArray, List.set_cons_zero, List.set_cons_succ]
    refine wpAnyT_take (i := 1) (oi := _) (v := ?_) rfl (by kernel_rfl) (by kernel_rfl) (by kernel_rfl) (by kernel_rfl) (fun _ _ _ h => h) (Or.inl ⟨by rfl, ?_⟩) F0 ?_
    rotate_left
    · (intro w' hSw; (try dsimp only at hSw); go_simp) <;> with_reducible rfl
    try simp only [Act.put, List.setIfInBounds_toArray, List.set_cons_zero, List.set_cons_succ]
    refine wpAnyT_take (i := 2) (oi := _) (v := ?_) rfl (by kernel_rfl) (by kernel_rfl) (by kernel_rfl) (by kernel_rfl) (fun _ _ _ h => h) (Or.inl ⟨by rfl, ?_⟩) F0 ?_
    rotate_left
    · (intro w' hSw; (try dsimp only at hSw); go_simp) <;> with_reducible rfl
    try simp only [Act.put, List.setIfInBounds_toArray, List.set_cons_zero, List.set_cons_succ]
    refine wpAnyT_take (i := 3) (oi := _) (v := ?_) rfl (by kernel_rfl) (by kernel_rfl) (by kernel_rfl) (by kernel_rfl) (fun _ _ _ h => h) (Or.inl ⟨by rfl, ?_⟩) F0 ?_
    rotate_left
    · (intro w' hSw; (try dsimp only at hSw); go_simp) <;> with_reducible rfl
    try simp only [Act.put, List.setIfInBounds_toArray, List.set_cons_zero, List.set_cons_succ]
    refine wpAnyT_one (k := 4) (o := _) (by kernel_rfl) rfl rfl ?_
    intro K hK
    go_simp
    refine (spec_l11Draw cols Hok.out 0 (by omega) 0 _ X0 g hi rfl (hd5.below HB0) (hx5.below HB0 hhi5) (Nat.le_trans hhi5 s0)).mono ?_
    rintro e w6 ⟨_, rfl, ⟨xp, sx, rfl, hop6, hpx6⟩, hch6, hd6⟩
    obtain ⟨Ax, cx, rfl, -, -⟩ := hop6.rdP.form
    have hs6 := hch6.size
    have hch60 : Chg g (g + 1) w5 w6 := (Chg.of_below HB0).trans hch6
    have HR6 := Lib.hid (chg_cell HR.out hch60 hlt)
    have HB6 := Lib.hid (chg_cell HB.out hch60 hlt3)
    have y0 := cell_of_row w6 (w3.heap.size) 0 _ _ _ HB6.out
    have y1 := cell_of_row w6 (w3.heap.size) 1 _ _ _ HB6.out
    have y2 := cell_of_row w6 (w3.heap.size) 2 _ _ _ HB6.out
    have y3 := cell_of_row w6 (w3.heap.size) 3 _ _ _ HB6.out
    have y4 := cell_of_row w6 (w3.heap.size) 4 _ _ _ HB6.out
    have y5 := cell_of_row w6 (w3.heap.size) 5 _ _ _ HB6.out
    have y6 := cell_of_row w6 (w3.heap.size) 6 _ _ _ HB6.out
    simp only [List.getElem?_toArray, List.getElem?_cons_zero, List.getElem?_cons_succ] at y0 y1 y2 y3 y4 y5 y6
    have F6 : w6.cell? ⟨w3.heap.size, 6, none⟩ = some (.slice As p.l.length cs) := y6
    refine hK.out _ _ (fun _ => F6) ?_
    clear hK
    try simp only [Act.put, List.setIfInBounds_toArray, List.set_cons_zero, List.set_cons_succ]
    refine wpAnyT_one (k := 5) (o := _) (by kernel_rfl) rfl rfl ?_
    intro K hK
    go_simp
    have hB7 := heap_alloc_new w6 (.cells #[.int .i64 xp.kind, .int .i64 xp.col, .int .i64 xp.op, .int .i64 xp.v.ty, .int .i64 xp.v.n, .string xp.v.s, .slice Ax xp.l.length cx] 27)
    have up7 := up_a1 w6 (.cells #[.int .i64 xp.kind, .int .i64 xp.col, .int .i64 xp.op, .int .i64 xp.v.ty, .int .i64 xp.v.n, .string xp.v.s, .slice Ax xp.l.length cx] 27)
    have z7 : (w6.alloc (.cells #[.int .i64 xp.kind, .int .i64 xp.col, .int .i64 xp.op, .int .i64 xp.v.ty, .int .i64 xp.v.n, .string xp.v.s, .slice Ax xp.l.length cx] 27)).heap.size = w6.heap.size + 1 := by simp
    have F7 := cell_keep F6 up7
    refine hK.out _ _ (fun _ => F7) ?_
    clear hK
    try simp only [Act.put, List.setIfInBounds_toArray, List.set_cons_zero, List.set_cons_succ]
    obtain ⟨ps, hps, hpx⟩ := Hop5.out.px
    have hpl : ps.length = p.l.length := by rw [← hps, List.length_map]
    obtain ⟨s1, t1, HO⟩ := hpx
    have hob := HO.outIn
    have Hout := Lib.hid (owns_same (w' := w6) HO.out fun b hb => hch60.block b (by have := hob b hb; omega) (.inr (by have := hob b hb; omega)))
    rw [hpl] at Hout
    have hpx : OwnPx 27 w5 w2.heap.size w3.heap.size (.slice As p.l.length cs) ps := ⟨s1, t1, HO⟩
    clear HO
    have hpl20 : p.l.length ≤ 14 := Nat.le_trans (cntP_len _) HPk.out.2
    refine wpAnyT_one (k := 6) (o := _) (by kernel_rfl) rfl rfl ?_
    intro K hK
    refine step_appL rfl _ _ 25 rfl 0 27 i0 _ 7 80 Tryz.underlying25 hif.out hz0.out hz1.out hz2.out rfl (by decide) (by decide) (Hout.out.alloc _) rfl hB7 rfl rfl (by simp [Value.oneCell']) (by omega) (Nat.zero_le _) ?_
    intro v' w8 hown' hgrow hnb
    obtain ⟨A8, c8, rfl, -, -, -⟩ := (Own.new hown').cells
    have hne3 : some w3.heap.size ≠ (Value.slice As p.l.length cs).ownBlock := fun e => by have := hob _ e.symm; omega
    have hnw : some w.heap.size ≠ (Value.slice As p.l.length cs).ownBlock := fun e => by have := hob _ e.symm; omega
    have HB8 := Lib.hid ((hgrow.block w3.heap.size (by rw [z7]; omega) hne3).trans (alloc_old (o := (.cells #[.int .i64 xp.kind, .int .i64 xp.col, .int .i64 xp.op, .int .i64 xp.v.ty, .int .i64 xp.v.n, .string xp.v.s, .slice Ax xp.l.length cx] 27)) HB6.out))
    have HR8 := Lib.hid ((hgrow.block w.heap.size (by rw [z7]; omega) hnw).trans (alloc_old (o := (.cells #[.int .i64 xp.kind, .int .i64 xp.col, .int .i64 xp.op, .int .i64 xp.v.ty, .int .i64 xp.v.n, .string xp.v.s, .slice Ax xp.l.length cx] 27)) HR6.out))
    have hcw : Chg g (g + 1) w5 (w6.alloc (.cells #[.int .i64 xp.kind, .int .i64 xp.col, .int .i64 xp.op, .int .i64 xp.v.ty, .int .i64 xp.v.n, .string xp.v.s, .slice Ax xp.l.length cx] 27)) := hch60.trans (.of_below up7)
    have H8 := Lib.hid (fun u => OwnPx.snocG (X := w3.heap.size) (q := 6) (u := u) (x := xp) (sv := .slice Ax xp.l.length cx) hpx (Nat.le_refl _) (show w3.heap.size < w5.heap.size by omega) (Same.of_chg hcw (.inr (by omega)) (Nat.le_refl _)) hcw.size (by omega) ((hop6.more s0 (Nat.le_refl _)).below up7 (Nat.le_refl _)) up7.size (by rw [hpl]; exact hown') hgrow (fun b hb => by have := hnb b hb; rw [z7] at this ⊢; exact this))
    have hch8 := chg_grown (hch.trans hcw) hgrow (fun b hb => by have := hob b hb; omega)
    have hd8 := (dr_new hd6 #[.int .i64 xp.kind, .int .i64 xp.col, .int .i64 xp.op, .int .i64 xp.v.ty, .int .i64 xp.v.n, .string xp.v.s, .slice Ax xp.l.length cx] 27).grown hgrow (fun b hb => by have := hob b hb; omega)
    have hs8 := hgrow.size
    rw [z7] at hs8
    have Hp8 := Lib.hid (show (POk (.mk p.kind p.col p.op p.v (p.l ++ [xp])) ∧ PInOk (.mk p.kind p.col p.op p.v (p.l ++ [xp]))) ∧ cntP (p.l ++ [xp]) ≤ 20 from ⟨⟨⟨HPk.out.1.1.1, HPk.out.1.1.2.snoc hpx6.out.1.1⟩, ⟨HPk.out.1.2.1, HPk.out.1.2.2.snoc hpx6.out.1.2⟩⟩, by rw [cntP_snoc]; have h1 := hpx6.out.2; have h2 := HPk.out.2; omega⟩)
    have hf8 := fun o => frozen_of_row w8 w3.heap.size o _ _ HB8.out
    have z0 := cell_of_row w8 (w3.heap.size) 0 _ _ _ HB8.out
    have z1 := cell_of_row w8 (w3.heap.size) 1 _ _ _ HB8.out
    have z2 := cell_of_row w8 (w3.heap.size) 2 _ _ _ HB8.out
    have z3 := cell_of_row w8 (w3.heap.size) 3 _ _ _ HB8.out
    have z4 := cell_of_row w8 (w3.heap.size) 4 _ _ _ HB8.out
    have z5 := cell_of_row w8 (w3.heap.size) 5 _ _ _ HB8.out
    have z6 := cell_of_row w8 (w3.heap.size) 6 _ _ _ HB8.out
    simp only [List.getElem?_toArray, List.getElem?_cons_zero, List.getElem?_cons_succ] at z0 z1 z2 z3 z4 z5 z6
    have r0 := cell_of_row w8 (w.heap.size) 0 _ _ _ HR8.out
    have r1 := cell_of_row w8 (w.heap.size) 1 _ _ _ HR8.out
    have r2 := cell_of_row w8 (w.heap.size) 2 _ _ _ HR8.out
    have r3 := cell_of_row w8 (w.heap.size) 3 _ _ _ HR8.out
    have r4 := cell_of_row w8 (w.heap.size) 4 _ _ _ HR8.out
    have r5 := cell_of_row w8 (w.heap.size) 5 _ _ _ HR8.out
    have r6 := cell_of_row w8 (w.heap.size) 6 _ _ _ HR8.out
    simp only [List.getElem?_toArray, List.getElem?_cons_zero, List.getElem?_cons_succ] at r0 r1 r2 r3 r4 r5 r6
    have f0 := fun o => frozen_of_row w8 w.heap.size o _ _ HR8.out
    have hml : (p.l ++ [xp]).length = p.l.length + 1 := by simp
    have F8 : w8.cell? ⟨w3.heap.size, 6, none⟩ = some (.slice As p.l.length cs) := z6
    have Hps8 := Lib.hid (show (ps ++ [(xp, Value.slice Ax xp.l.length cx)]).map Prod.fst = p.l ++ [xp] by rw [List.map_append, hps]; rfl)
    clear hown' hgrow hnb hcw hpx hps hB7 up7 F7 F6 F0 hop6 hpx6 Hout hch6 hd6 hch60 HB6 HR6 x0 y0 y1 y2 y3 y4 y5 y6
    refine hK.out _ _ (fun _ => F8) ?_
    clear hK
    try simp only [Act.put, List.setIfInBounds_toArray, List.set_cons_zero, List.set_cons_succ]
    refine wpAnyT_one (k := 7) (o := _) (by kernel_rfl) rfl rfl ?_
    intro K hK
    go_simp
    refine hK.out _ _ (fun _ => F8) ?_
    clear hK
    refine wpAnyT_one (k := 8) (o := _) (by kernel_rfl) rfl rfl ?_
    intro K hK
    go_simp
    refine hK.out _ _ (fun h => absurd rfl h) ?_
    clear hK
    refine wpAnyT_done (by kernel_rfl) ?_ _
    clear F8 hpl
    go_wp2_with fail
    refine bodyPost_ret (v := .agg #[.int .i64 p.kind, .int .i64 p.col, .int .i64 p.op, .int .i64 p.v.ty, .int .i64 p.v.n, .string p.v.s, .slice A8 (p.l.length + 1) c8]) ?_ rfl ⟨_, rfl, ⟨.mk p.kind p.col p.op p.v (p.l ++ [xp]), .slice A8 (p.l.length + 1) c8, rfl, ?_, Lib.hid Hp8.out⟩, ?_, ?_⟩
    · simp [results, Tryz.results38, go_sem, r0, r1, r2, r3, r4, r5, r6]
    · show OwnP _ _ _ _ _ (p.l ++ [xp])
      rw [← Hps8.out]
      refine OwnP.imp (H8.out (.slice A8 (p.l.length + 1) c8)).own (by omega) (by simp [World.setCell]) fun b h1 h2 => ?_
      iterate 7 rw [Below.heap_setCell _ ⟨w.heap.size, _, none⟩ _ b (by show b ≠ w.heap.size; omega)]
    · iterate 8 refine chg_set ?_ (by omega) _
      exact hch8
    · iterate 8 refine Dr.set ?_ (by omega) (by omega) _
      exact hd8
  have b3 : ((m : Int) == 3) = false := by simp; omega
  by_cases h4 : m = 4
  · subst h4
    go_wp2_with fail
    refine (spec_l10Op w5 g hd5).mono ?_
    rintro e w6 ⟨_, rfl, ⟨j, rfl, -, -⟩, hch6, hd6⟩
    have hs6 := hch6.size
    replace Hop5 := Lib.hid (Hop5.out.same (.of_chg hch6 (.inr (by omega)) (by omega)))
    replace HR := Lib.hid (chg_cell HR.out hch6 hlt)
    replace HB := Lib.hid (chg_cell HB.out hch6 hlt3)
    replace hch := hch.trans hch6
    clear hd5 hx5 hch6
    have hd5 := hd6
    clear hd6
    have q0 := cell_of_row w6 (w3.heap.size) 0 _ _ _ HB.out
    have q1 := cell_of_row w6 (w3.heap.size) 1 _ _ _ HB.out
    have q2 := cell_of_row w6 (w3.heap.size) 2 _ _ _ HB.out
    have q3 := cell_of_row w6 (w3.heap.size) 3 _ _ _ HB.out
    have q4 := cell_of_row w6 (w3.heap.size) 4 _ _ _ HB.out
    have q5 := cell_of_row w6 (w3.heap.size) 5 _ _ _ HB.out
    have q6 := cell_of_row w6 (w3.heap.size) 6 _ _ _ HB.out
    simp only [List.getElem?_toArray, List.getElem?_cons_zero, List.getElem?_cons_succ] at q0 q1 q2 q3 q4 q5 q6
    have r0 := cell_of_row w6 (w.heap.size) 0 _ _ _ HR.out
    have r1 := cell_of_row w6 (w.heap.size) 1 _ _ _ HR.out
    have r2 := cell_of_row w6 (w.heap.size) 2 _ _ _ HR.out
    have r3 := cell_of_row w6 (w.heap.size) 3 _ _ _ HR.out
    have r4 := cell_of_row w6 (w.heap.size) 4 _ _ _ HR.out
    have r5 := cell_of_row w6 (w.heap.size) 5 _ _ _ HR.out
    have r6 := cell_of_row w6 (w.heap.size) 6 _ _ _ HR.out
    simp only [List.getElem?_toArray, List.getElem?_cons_zero, List.getElem?_cons_succ] at r0 r1 r2 r3 r4 r5 r6
    have f0 := fun o => frozen_of_row w6 w.heap.size o _ _ HR.out
    have f1 := fun o => frozen_of_row w6 w3.heap.size o _ _ HB.out
    clear HB HR
    go_wp2_with fail
    refine bodyPost_ret (v := .agg #[.int .i64 (p.kind), .int .i64 (p.col), .int .i64 (j), .int .i64 (p.v.ty), .int .i64 (p.v.n), .string (p.v.s), .slice As p.l.length cs]) ?_ rfl ⟨_, rfl, ⟨.mk p.kind p.col j p.v p.l, .slice As p.l.length cs, rfl, ?_, Lib.hid (cntP_up HPk.out)⟩, ?_, ?_⟩
    · simp [results, Tryz.results38, go_sem, r0, r1, r2, r3, r4, r5, r6]
    · refine OwnP.imp Hop5.out (by omega) (by simp [World.setCell]; try omega) fun b h1 h2 => ?_
      iterate 7 rw [Below.heap_setCell _ ⟨w.heap.size, _, none⟩ _ b (by show b ≠ w.heap.size; omega)]
      iterate 1 rw [Below.heap_setCell _ ⟨w3.heap.size, _, none⟩ _ b (by show b ≠ w3.heap.size; omega)]
    · iterate 8 refine chg_set ?_ (by omega) _
      exact hch
    · iterate 8 refine Dr.set ?_ (by omega) (by omega) _
      exact hd5
  have b4 : ((m : Int) == 4) = false := by simp; omega
  have q0 := cell_of_row w5 (w3.heap.size) 0 _ _ _ HB.out
  have q1 := cell_of_row w5 (w3.heap.size) 1 _ _ _ HB.out
  have q2 := cell_of_row w5 (w3.heap.size) 2 _ _ _ HB.out
  have q3 := cell_of_row w5 (w3.heap.size) 3 _ _ _ HB.out
  have q4 := cell_of_row w5 (w3.heap.size) 4 _ _ _ HB.out
  have q5 := cell_of_row w5 (w3.heap.size) 5 _ _ _ HB.out
  have q6 := cell_of_row w5 (w3.heap.size) 6 _ _ _ HB.out
  simp only [List.getElem?_toArray, List.getElem?_cons_zero, List.getElem?_cons_succ] at q0 q1 q2 q3 q4 q5 q6
  have r0 := cell_of_row w5 (w.heap.size) 0 _ _ _ HR.out
  have r1 := cell_of_row w5 (w.heap.size) 1 _ _ _ HR.out
  have r2 := cell_of_row w5 (w.heap.size) 2 _ _ _ HR.out
  have r3 := cell_of_row w5 (w.heap.size) 3 _ _ _ HR.out
  have r4 := cell_of_row w5 (w.heap.size) 4 _ _ _ HR.out
  have r5 := cell_of_row w5 (w.heap.size) 5 _ _ _ HR.out
  have r6 := cell_of_row w5 (w.heap.size) 6 _ _ _ HR.out
  simp only [List.getElem?_toArray, List.getElem?_cons_zero, List.getElem?_cons_succ] at r0 r1 r2 r3 r4 r5 r6
  have f0 := fun o => frozen_of_row w5 w.heap.size o _ _ HR.out
  have f1 := fun o => frozen_of_row w5 w3.heap.size o _ _ HB.out
  clear HB HR
  go_wp2_with fail
  refine bodyPost_ret (v := .agg #[.int .i64 p.kind, .int .i64 p.col, .int .i64 p.op, .int .i64 p.v.ty, .int .i64 p.v.n, .string p.v.s, .slice As p.l.length cs]) ?_ rfl ⟨_, rfl, ⟨p, .slice As p.l.length cs, rfl, ?_, Lib.hid (cntP_up HPk.out)⟩, ?_, ?_⟩
  · simp [results, Tryz.results38, go_sem, r0, r1, r2, r3, r4, r5, r6]
  · refine OwnP.imp Hop5.out (by omega) (by simp [World.setCell]; try omega) fun b h1 h2 => ?_
    iterate 7 rw [Below.heap_setCell _ ⟨w.heap.size, _, none⟩ _ b (by show b ≠ w.heap.size; omega)]
    skip
  · iterate 7 refine chg_set ?_ (by omega) _
    exact hch
  · iterate 7 refine Dr.set ?_ (by omega) (by omega) _
    exact hd5
end Go.Proofs.YtjogkbkkcaljhaaGreatDoor
