/- Draws: columns and rows. -/
import Derived.Test.YticimccfeohpcaaGreatD13
namespace Go.Proofs.YticimccfeohpcaaGreat
open Go.Sort Go.ChangeShapes Go.WideShapes Go.ChangeAt Go.RowKit Go.Lb

set_option maxRecDepth 20000 in
set_option maxHeartbeats 4000000 in
theorem spec_l13Rows (w : World) (g : Nat) (hd : Dr w g) :
    Calls Tryz.prog 109 #[.pointer (some ⟨g, 0, none⟩)] w (DrP w g fun v w' => ∃ (cv lv : Value) (cols : List Int) (l : List R), v = .tuple #[cv, lv] ∧ RdI w' w.heap.size w'.heap.size cv cols ∧ cols.length ≤ 3 ∧ OwnR 70 83 w' w.heap.size w'.heap.size lv l ∧ l.length ≤ 9 ∧ SmallR l) := by
  have hlt := hd.lt
  obtain ⟨i0, hif, hz0, hz1, hz2⟩ := info_parts info_Row
  have hif := Lib.hid hif
  have hz0 := Lib.hid hz0
  have hz1 := Lib.hid hz1
  have hz2 := Lib.hid hz2
  go_enter Tryz.func109, Tryz.ntmps109
  go_wp2_with fail
  refine (spec_l4Cols w g hd).mono ?_
  rintro e w1 ⟨cv, rfl, ⟨cols, hcols, hcl⟩, hch1, hd1⟩
  obtain ⟨Ac, cc, rfl, -, -⟩ := hcols.form
  go_wp2_with fail
  refine (spec_l4Rows cols _ 8 w1 g hd1 (hcols.more hlt (Nat.le_refl _)) (Nat.le_refl _) hcl (by decide)).mono ?_
  rintro e w2 ⟨lv, rfl, ⟨l, hrows, hll, hsm⟩, hch2, hd2⟩
  obtain ⟨ps, rfl, hrows⟩ := hrows
  obtain ⟨Ar, cr, rfl, -, -⟩ := hrows.own.cells.form
  have hpl : ps.length ≤ 8 := by simpa using hll
  clear hll
  go_wp2_with fail
  refine (spec_l1Below 10 w2 g hd2 (by decide)).mono ?_
  rintro e w3 ⟨_, rfl, ⟨k, rfl, -, -⟩, hch3, hd3⟩
  have hrows := hrows.imp (w' := w3) (fun b h1 h2 => hch3.block b h2 (.inr (by have := hd1.lt; omega))) (Nat.le_refl _) hch3.size
  have hch3 := hch2.trans hch3
  have Hsm := Lib.hid hsm
  have z1 := hch1.size
  have z3 := hch3.size
  clear hch2 hd2 hsm
  by_cases h0 : k = 0
  · subst h0
    have hx2 := rdI_new w3 [-1, 0, 99, 1000000000, 1000000001] 3 (by decide)
    have hlt3 := hd3.lt
    have hdn := dr_new hd3 (([-1, 0, 99, 1000000000, 1000000001] : List Int).map (Value.int .i64)).toArray 3
    have hcn := (chg_new g w3 (([-1, 0, 99, 1000000000, 1000000001] : List Int).map (Value.int .i64)).toArray 3)
    go_wp2_with fail
    refine (spec_l1Int [-1, 0, 99, 1000000000, 1000000001] _ _ g hdn (RdG.imp hx2 hlt3 (Nat.le_refl _) fun _ _ _ _ _ h => h) (by simp) (by decide) (by decide)).mono ?_
    rintro e w4 ⟨_, rfl, ⟨j, -, rfl⟩, hch4, hd4⟩
    have hc4 := hcn.trans hch4
    have hcols4 := hcols.same (.of_chg (hch3.trans hc4) (.inr hlt) (Nat.le_refl _))
    clear hx2 hdn hcn hch4
    have z4 := hc4.size
    go_wp2_with fail
    refine (spec_l4Vals cols _ w4 g hd4 (hcols4.more hlt (Nat.le_refl _)) (by omega) (by omega)).mono ?_
    rintro e w5 ⟨v5, rfl, ⟨m, ⟨hown5, hsm5⟩, hml⟩, hch5, hd5⟩
    have hm4 : m.length ≤ 4 := by omega
    obtain ⟨As, cs, rfl, -, -⟩ := hown5.cells.form
    have hcx := hc4.trans hch5
    have hout := rows_out hd1.lt hrows hcx
    have Hrows := Lib.hid hrows
    have Hsm5 := Lib.hid hsm5
    have Hown5 := Lib.hid (hown5.more hc4.size (Nat.le_refl _))
    have z5 := hcx.size
    clear hrows hown5 hsm5 hml
    go_wp2_with (at_builtin; refine wpl_app rfl _ _ 27 rfl w1.heap.size 70 i0 _ 2 32 Tryz.underlying27 hif.out hz0.out hz1.out hz2.out rfl (by decide) (by decide) (hout.alloc _) rfl (heap_alloc_new _ _) rfl rfl (by simp [Value.oneCell']) (by omega) (by simp; omega) ?_)
    intro v' w7 hown' hgrow hnb
    obtain ⟨k1, k2, k3⟩ := app_goodR hd1.lt hch3 Hrows.out hcx hd5 Hown5.out hown' hgrow hnb
    have K1 := Lib.hid k1
    clear hown' hgrow hnb hout k1
    go_wp2_with fail
    refine bodyPost_ret (v := .tuple #[.slice Ac cols.length cc, v']) (by simp [results, Tryz.results109, go_sem]) rfl ?_
    exact ⟨_, rfl, ⟨_, _, cols, _, rfl, (hcols.same (.of_chg k2 (.inr hlt) (Nat.le_refl _))).more (Nat.le_refl _) k2.size, hcl, OwnR.more ⟨ps ++ [(⟨j, m⟩, .slice As m.length cs)], rfl, K1.out⟩ hch1.size (Nat.le_refl _), by simp; omega, by rw [List.map_append]; exact Hsm.out.snoc hm4 Hsm5.out⟩, hch1.trans k2, k3⟩
  have b0 : ((k : Int) == 0) = false := by simp; omega
  by_cases h1 : k = 1
  · subst h1
    have hc4 : Chg g (g + 1) w3 w3 := Chg.refl _ _ _
    have hcols4 := hcols.same (.of_chg hch3 (.inr hlt) (Nat.le_refl _))
    go_wp2_with fail
    refine (spec_l4Any cols _ w3 g hd3 (hcols4.more hlt (Nat.le_refl _)) (by omega) hcl).mono ?_
    rintro e w5 ⟨v5, rfl, ⟨m, ⟨hown5, hsm5⟩, hml⟩, hch5, hd5⟩
    have hm4 : m.length ≤ 4 := by omega
    obtain ⟨As, cs, rfl, -, -⟩ := hown5.cells.form
    have hcx := hc4.trans hch5
    have hout := rows_out hd1.lt hrows hcx
    have Hrows := Lib.hid hrows
    have Hsm5 := Lib.hid hsm5
    have Hown5 := Lib.hid (hown5.more hc4.size (Nat.le_refl _))
    have z5 := hcx.size
    clear hrows hown5 hsm5 hml
    go_wp2_with (at_builtin; refine wpl_app rfl _ _ 27 rfl w1.heap.size 70 i0 _ 2 32 Tryz.underlying27 hif.out hz0.out hz1.out hz2.out rfl (by decide) (by decide) (hout.alloc _) rfl (heap_alloc_new _ _) rfl rfl (by simp [Value.oneCell']) (by omega) (by simp; omega) ?_)
    intro v' w7 hown' hgrow hnb
    obtain ⟨k1, k2, k3⟩ := app_goodR hd1.lt hch3 Hrows.out hcx hd5 Hown5.out hown' hgrow hnb
    have K1 := Lib.hid k1
    clear hown' hgrow hnb hout k1
    go_wp2_with fail
    refine bodyPost_ret (v := .tuple #[.slice Ac cols.length cc, v']) (by simp [results, Tryz.results109, go_sem]) rfl ?_
    exact ⟨_, rfl, ⟨_, _, cols, _, rfl, (hcols.same (.of_chg k2 (.inr hlt) (Nat.le_refl _))).more (Nat.le_refl _) k2.size, hcl, OwnR.more ⟨ps ++ [(⟨90, m⟩, .slice As m.length cs)], rfl, K1.out⟩ hch1.size (Nat.le_refl _), by simp; omega, by rw [List.map_append]; exact Hsm.out.snoc hm4 Hsm5.out⟩, hch1.trans k2, k3⟩
  have b1 : ((k : Int) == 1) = false := by simp; omega
  by_cases h2 : k = 2
  · subst h2
    go_wp2_with fail
    refine (spec_l4Cols w3 g hd3).mono ?_
    rintro e w4 ⟨cv4, rfl, ⟨cols4, hcols4, hcl4⟩, hch4, hd4⟩
    go_wp2_with fail
    refine bodyPost_ret (v := .tuple #[cv4, .slice Ar ps.length cr]) (by simp [results, Tryz.results109, go_sem]) rfl ?_
    exact ⟨_, rfl, ⟨_, _, cols4, _, rfl, hcols4.more (by omega) (Nat.le_refl _), hcl4, OwnR.more ⟨ps, rfl, hrows.imp (w' := w4) (fun b h1 h2 => hch4.block b h2 (.inr (by have := hd1.lt; omega))) (Nat.le_refl _) hch4.size⟩ z1 (Nat.le_refl _), by simp; omega, Hsm.out⟩, (hch1.trans hch3).trans hch4, hd4⟩
  have b2 : ((k : Int) == 2) = false := by simp; omega
  go_wp2_with fail
  refine bodyPost_ret (v := .tuple #[.slice Ac cols.length cc, .slice Ar ps.length cr]) (by simp [results, Tryz.results109, go_sem]) rfl ?_
  exact ⟨_, rfl, ⟨_, _, cols, _, rfl, (hcols.same (.of_chg hch3 (.inr hlt) (Nat.le_refl _))).more (Nat.le_refl _) z3, hcl, OwnR.more ⟨ps, rfl, hrows⟩ z1 (Nat.le_refl _), by simp; omega, Hsm.out⟩, hch1.trans hch3, hd3⟩
end Go.Proofs.YticimccfeohpcaaGreat
