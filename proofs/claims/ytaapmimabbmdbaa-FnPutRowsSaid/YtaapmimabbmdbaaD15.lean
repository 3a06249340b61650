/- Draws: what the law on rows draws. -/
import Derived.Test.YtaapmimabbmdbaaD14
import Derived.Test.YtaapmimabbmdbaaD9
namespace Go.Proofs.Ytaapmimabbmdbaa
open Go.Sort Go.ChangeShapes Go.WideShapes Go.ChangeAt Go.RowKit Go.Lb

theorem info_I : (Try.prog.info? 3).map (fun i => (i.zero, i.size, i.bytes)) = some (some (.int .i64 0), 1, 8) := by kernel_rfl
theorem app_goodI {w w2 w3 : World} {g : Nat} {v v' : Value} {xs : List Int} {x : Int} {cs : Array Value} {t : TypeId} (hlt : g < w.heap.size) (hown : w2.ownsRow w.heap.size 3 1 v xs.length (xs.map (.int .i64))) (hch : Chg g (g + 1) w w2) (hd : Dr w2 g)
    (hown' : w3.ownsRow w.heap.size 3 1 v' (xs.length + 1) (xs.map (.int .i64) ++ [.int .i64 x])) (hgrow : (w2.alloc (.cells cs t)).grownBy w3 v.ownBlock) :
    w3.ownsRow w.heap.size 3 1 v' (xs ++ [x]).length ((xs ++ [x]).map (.int .i64)) ∧ Chg g (g + 1) w w3 ∧ Dr w3 g := by
  have hr : ∀ b, v.ownBlock = some b → w.heap.size ≤ b := fun b hb => (hown.lt b hb).1
  refine ⟨?_, chg_grown (hch.trans (chg_new g w2 cs t)) hgrow hr, (dr_new hd cs t).grown hgrow fun b hb => Nat.lt_of_lt_of_le hlt (hr b hb)⟩
  rw [List.length_append, List.map_append]
  simpa using hown'
theorem all_drew2 {w : World} {b off n : Nat} {f : Nat → Value} (h : ∀ k, k < n → w.cell? ⟨b, off + k * 2, none⟩ = some (f k)) : ∀ k, k < n → w.drew.cell? ⟨b, off + k * 2, none⟩ = some (f k) := h
theorem rdR_ids {w : World} {lo hi n c b off : Nat} {l : List R} (h : RdR w lo hi (.slice (some ⟨b, off, none⟩) n c) l) : ∀ k, k < n → w.cell? ⟨b, off + k * 2, none⟩ = some (.int .i64 (l.getD k ⟨0, []⟩).id) := by
  intro k hk
  obtain ⟨b', off', x, sv, hA, -, -, hxk, e0, -, -⟩ := h.at hk
  injection hA with hA
  injection hA with h1 h2 h3
  subst h1 h2
  rw [List.getD_eq_getElem?_getD, hxk]
  exact e0
set_option maxRecDepth 20000 in
set_option maxHeartbeats 4000000 in
theorem spec_DrawPutRow (code : List UInt8) (x : Value) (w : World) {lo hi : Nat} (hx : RdB w lo hi x code) (hhi : hi ≤ w.heap.size) (hn : code.length ≤ 1048576) :
    Calls Try.prog 23 #[x] w fun e w' => ∃ (lv sv : Value) (l : List R) (r : R), e = .returned (.tuple #[lv, .agg #[.int .i64 r.id, sv]]) ∧ RdR w' w.heap.size w'.heap.size lv l ∧ RdV w' w.heap.size w'.heap.size sv r.l ∧ l.length ≤ 9 ∧ SmallR l ∧ r.l.length ≤ 4 ∧ (∀ x ∈ r.l, x.s.size ≤ 100) ∧ Below w.heap.size w w' := by
  have up := up_a1 w (.cells #[.int .i64 0, .slice none 0 0] 44)
  have hx0 := hx.below up hhi
  have G0 := Lib.hid (heap_alloc_new w (.cells #[.int .i64 0, .slice none 0 0] 44))
  have hs : (w.alloc (.cells #[.int .i64 0, .slice none 0 0] 44)).heap.size = w.heap.size + 1 := by simp
  go_enter Try.func23, Try.ntmps23
  go_wp2_with fail
  have hC := spec_l1New code x _ hx0 (by rw [hs]; omega) hn
  generalize (w.alloc (.cells #[.int .i64 0, .slice none 0 0] 44)) = W0 at *
  refine hC.mono ?_
  clear hC
  rintro e w1 ⟨g, rfl, hg, hb1, hd1⟩
  rw [hs] at hg hb1
  go_wp2_with fail
  refine (spec_l4Cols w1 g hd1).mono ?_
  rintro e w2 ⟨cv, rfl, ⟨cols, hcols, hcl⟩, hch2, hd2⟩
  obtain ⟨Ac, cc, rfl, -, -⟩ := hcols.form
  have z2 := hch2.size
  have hlt1 := hd1.lt
  have hb2 := chg_below hb1 hch2 hg (by omega)
  clear hch2 hb1
  go_wp2_with fail
  refine (spec_l4Rows cols _ 5 w2 g hd2 (hcols.more hlt1 (Nat.le_refl _)) (Nat.le_refl _) hcl (by decide)).mono ?_
  rintro e w3 ⟨lv, rfl, ⟨l, hrows, hll, hsm⟩, hch3, hd3⟩
  have hlt2 := hd2.lt
  have hr := hrows.rdR
  obtain ⟨Ar, cr, rfl, -, -⟩ := hr.form
  have hcols := hcols.same (.of_chg hch3 (.inr hlt1) (Nat.le_refl _))
  have hb3 := chg_below hb2 hch3 hg (by omega)
  have z3 := hch3.size
  clear hch3 hb2 hrows
  go_wp2_with fail
  refine (spec_l1Below 12 w3 g hd3 (by decide)).mono ?_
  rintro e w4 ⟨_, rfl, ⟨k, rfl, -, -⟩, hch4, hd4⟩
  have hr := hr.same (.of_chg hch4 (.inr (by omega)) (Nat.le_refl _))
  have hcols := hcols.same (.of_chg hch4 (.inr hlt1) (by omega))
  have hb4 := chg_below hb3 hch4 hg (by omega)
  have z4 := hch4.size
  clear hch4 hb3
  go_wp2_with fail
  refine (spec_l4Vals cols _ w4 g hd4 (hcols.more hlt1 (Nat.le_refl _)) (by omega) (by omega)).mono ?_
  rintro e w5 ⟨sv, rfl, ⟨m, ⟨hown, hsm5⟩, hml⟩, hch5, hd5⟩
  have hr := hr.same (.of_chg hch5 (.inr (by omega)) (by omega))
  have hv := hown.rdV
  obtain ⟨As, cs, rfl, -, -⟩ := hv.form
  have hb5 := chg_below hb4 hch5 hg (by omega)
  have z5 := hch5.size
  have zw := hb5.size
  have z1 : w.heap.size + 1 ≤ w1.heap.size := by omega
  have G5 := (hb5.block w.heap.size (by omega)).trans G0.out
  have r0 := cell_of_row w5 w.heap.size 0 _ _ _ G5
  have r1 := cell_of_row w5 w.heap.size 1 _ _ _ G5
  simp only [List.getElem?_toArray, List.getElem?_cons_zero, List.getElem?_cons_succ] at r0 r1
  have f0 := fun o => frozen_of_row w5 w.heap.size o _ _ G5
  have hm4 : m.length ≤ 4 := by omega
  clear hch5 hown G5 hml
  go_wp2_with fail
  refine bodyPost_ret (v := .tuple #[.slice Ar l.length cr, .agg #[.int .i64 k, .slice As m.length cs]]) ?_ rfl ⟨_, _, l, ⟨k, m⟩, rfl, ?_, ?_, by omega, hsm, hm4, hsm5, ?_⟩
  · simp [results, Try.results23, go_sem, r0, r1]
  · refine (hr.same fun b h1 _ => ?_).more (by omega) (by simp [World.setCell]; omega)
    exact (Below.heap_setCell _ ⟨w.heap.size, 1, none⟩ _ b (by show b ≠ w.heap.size; omega)).trans (Below.heap_setCell _ ⟨w.heap.size, 0, none⟩ _ b (by show b ≠ w.heap.size; omega))
  · refine (hv.same fun b h1 _ => ?_).more (by omega) (by simp [World.setCell])
    exact (Below.heap_setCell _ ⟨w.heap.size, 1, none⟩ _ b (by show b ≠ w.heap.size; omega)).trans (Below.heap_setCell _ ⟨w.heap.size, 0, none⟩ _ b (by show b ≠ w.heap.size; omega))
  · iterate 2 refine below_set ?_ (by omega) _
    exact up.trans (hb5.mono (by omega))
set_option maxRecDepth 20000 in
set_option maxHeartbeats 4000000 in
theorem spec_DrawDropRows (code : List UInt8) (x : Value) (w : World) {lo hi : Nat} (hx : RdB w lo hi x code) (hhi : hi ≤ w.heap.size) (hn : code.length ≤ 1048576) :
    Calls Try.prog 24 #[x] w fun e w' => ∃ (lv iv : Value) (l : List R) (ids : List Int), e = .returned (.tuple #[lv, iv]) ∧ RdR w' w.heap.size w'.heap.size lv l ∧ RdI w' w.heap.size w'.heap.size iv ids ∧ l.length ≤ 9 ∧ SmallR l ∧ ids.length ≤ 4 ∧ Below w.heap.size w w' := by
  obtain ⟨i0, hif, hz0, hz1, hz2⟩ := info_parts info_I
  have hif := Lib.hid hif
  have hz0 := Lib.hid hz0
  have hz1 := Lib.hid hz1
  have hz2 := Lib.hid hz2
  go_enter Try.func24, Try.ntmps24
  go_wp2_with fail
  refine (spec_l1New code x w hx hhi hn).mono ?_
  rintro e w1 ⟨g, rfl, hg, hb1, hd1⟩
  go_wp2_with fail
  refine (spec_l13Rows w1 g hd1).mono ?_
  rintro e w2 ⟨_, rfl, ⟨cv, lv, cols, l, rfl, -, -, hrows, hll, hsm⟩, hch2, hd2⟩
  have hr := hrows.rdR
  obtain ⟨Ar, cr, rfl, -, -⟩ := hr.form
  have hlt1 := hd1.lt
  have hlt2 := hd2.lt
  have hb2 := chg_below hb1 hch2 hg (Nat.le_refl _)
  have own0 := Lib.hid (World.ownsRow_made w2 (base := w2.heap.size) (e := 3) (size := 1) #[] 0 (Nat.le_refl _) (by decide) rfl)
  have hd3 := dr_new hd2 #[] 3
  have hc3 := chg_new g w2 #[] 3
  clear hrows
  go_wp2_with fail
  refine (spec_l1Below 4 _ g hd3 (by decide)).mono ?_
  rintro e w4 ⟨_, rfl, ⟨k, rfl, hk1, -⟩, hch4, hd4⟩
  have hk : k < 4 := by have := hk1 (by decide); omega
  have own1 := Lib.hid (owns_chg own0.out hch4 hlt2)
  have hc4 := hc3.trans hch4
  clear own0 hd3 hc3 hch4 hk1
  have hz1' := hb1.size
  have hz2' := hch2.size
  go_wp2_with fail
  go_loopw [7, 8] (fun o i wr => ∃ (q : Nat) (xs : List Int), i = .int .i64 q ∧ xs.length + q ≤ k ∧ wr.ownsRow w2.heap.size 3 1 o xs.length (xs.map (.int .i64)) ∧ Chg g (g + 1) w2 wr ∧ Dr wr g) (fun _ i _ => (intOf i).toNat)
  case atStart => exact ⟨k, [], rfl, by simp, own1.out, hc4, hd4⟩
  case round =>
    obtain ⟨q, xs, rfl, hq, hown, hch, hd⟩ := hrel
    clear own1 hc4 hd4
    have hcs := hch.size
    by_cases hq0 : 0 < q
    · have hdq : decide (0 < (q : Int)) = true := decide_eq_true (by omega)
      go_wp2_with fail
      refine (spec_l1Below 10 _ g hd (by decide)).mono ?_
      rintro e w5 ⟨_, rfl, ⟨j, rfl, -, -⟩, hch5, hd5⟩
      have hown5 := owns_chg hown hch5 hlt2
      have hch5 := hch.trans hch5
      have hcs5 := hch5.size
      clear hown hch hd
      go_wp2_with (at_builtin; refine wpl_app rfl _ _ 47 rfl w2.heap.size 3 i0 _ 1 8 Try.underlying47 hif.out hz0.out hz1.out hz2.out rfl (by decide) (by decide) (hown5.alloc _) rfl (heap_alloc_new _ _) rfl rfl (by simp [Value.oneCell']) (by omega) (by simp; omega) ?_)
      intro v' w7 hown' hgrow hnb
      obtain ⟨h1, h2, h3⟩ := app_goodI hlt2 hown5 hch5 hd5 hown' hgrow
      have H1 := Lib.hid h1
      clear hown' hgrow hnb hown5 h1 hd5 hch5
      go_wp2_with fail
      go_roundw
      case rel => exact ⟨q - 1, _, by go_num, by simp; omega, H1.out, h2, h3⟩
      case measure => simp [intOf]; omega
    · have hdq : decide (0 < (q : Int)) = false := decide_eq_false (by omega)
      have hI := Lib.hid ((Own.new hown).rdI)
      obtain ⟨Ai, ci, rfl, -, -⟩ := hI.out.form
      go_wp2_with fail
      refine bodyPost_ret (v := .tuple #[.slice Ar l.length cr, .slice Ai xs.length ci]) (by simp [results, Try.results24, go_sem]) rfl ?_
      exact ⟨_, _, l, xs, rfl, (hr.same (.of_chg hch (.inr (by omega)) (Nat.le_refl _))).more hz1' hcs, hI.out.more (by omega) (Nat.le_refl _), hll, hsm, by omega, chg_below hb2 hch hg (Nat.le_refl _)⟩
set_option maxRecDepth 20000 in
set_option maxHeartbeats 4000000 in
theorem spec_DrawFindRow (code : List UInt8) (x : Value) (w : World) {lo hi : Nat} (hx : RdB w lo hi x code) (hhi : hi ≤ w.heap.size) (hn : code.length ≤ 1048576) :
    Calls Try.prog 25 #[x] w fun e w' => ∃ (lv : Value) (l : List R) (id : Int), e = .returned (.tuple #[lv, .int .i64 id]) ∧ RdR w' w.heap.size w'.heap.size lv l ∧ l.length ≤ 9 ∧ SmallR l ∧ Below w.heap.size w w' := by
  go_enter Try.func25, Try.ntmps25
  go_wp2_with fail
  refine (spec_l1New code x w hx hhi hn).mono ?_
  rintro e w1 ⟨g, rfl, hg, hb1, hd1⟩
  go_wp2_with fail
  refine (spec_l13Rows w1 g hd1).mono ?_
  rintro e w2 ⟨_, rfl, ⟨cv, lv, cols, l, rfl, -, -, hrows, hll, hsm⟩, hch2, hd2⟩
  have hr := hrows.rdR
  obtain ⟨Ar, cr, rfl, -, -⟩ := hr.form
  have hlt1 := hd1.lt
  have hb2 := chg_below hb1 hch2 hg (Nat.le_refl _)
  have hz1' := hb1.size
  have hz2' := hch2.size
  clear hrows hch2 hb1 hd1
  by_cases hl0 : 0 < l.length
  · have hdl : decide (0 < (l.length : Int)) = true := decide_eq_true (by omega)
    go_wp2_with fail
    refine (spec_l1Once 2 w2 g hd2 (by decide)).mono ?_
    rintro e w3 ⟨_, rfl, ⟨b, rfl⟩, hch3, hd3⟩
    have hr := hr.same (.of_chg hch3 (.inr (by omega)) (Nat.le_refl _))
    have hb3 := chg_below hb2 hch3 hg (Nat.le_refl _)
    have hz3' := hch3.size
    clear hch3 hb2 hd2
    cases b
    · go_wp2_with fail
      refine (spec_l1Below 12 w3 g hd3 (by decide)).mono ?_
      rintro e w4 ⟨_, rfl, ⟨k, rfl, -, -⟩, hch4, hd4⟩
      go_wp2_with fail
      refine bodyPost_ret (v := .tuple #[.slice Ar l.length cr, .int .i64 k]) (by simp [results, Try.results25, go_sem]) rfl ?_
      exact ⟨_, l, _, rfl, (hr.same (.of_chg hch4 (.inr (by omega)) (by omega))).more hz1' (by have := hch4.size; omega), hll, hsm, chg_below hb3 hch4 hg (Nat.le_refl _)⟩
    · obtain ⟨b, off, y, sv, rfl, -, hbl, -, -, -, -⟩ := hr.at hl0
      have c0 := rdR_ids hr
      have Hr := Lib.hid hr
      have hlt3 := hd3.lt
      have hC := Lib.hid (spec_l1Below l.length w3.drew g hd3.drew (by omega))
      clear hr
      go_wp2_with fail
      go_region_held3 (fun w' => ∀ k, k < l.length → w'.cell? ⟨b, off + k * 2, none⟩ = some (.int .i64 (l.getD k ⟨0, []⟩).id)) (first | with_reducible exact all_drew2 c0 | with_reducible exact p0 | with_reducible exact all_drew2 p0 | go_keep) (first | (go_at_call 47; ((with_reducible refine hC.out.mono ?_); rintro e w4 ⟨_, rfl, ⟨k, rfl, hk1, -⟩, hch4, hd4⟩; have hkl : k < l.length := Int.ofNat_lt.1 (hk1 (Int.ofNat_lt.2 hl0)); have hr4 := (Hr.out.same (w' := w4) (.of_chg (w := w3.drew) hch4 (.inr (by omega)) (by show w2.heap.size ≤ w3.heap.size; omega))); have p0 := rdR_ids hr4; have Hr4 := Lib.hid hr4; clear hr4 hk1)))
      go_wp2_with fail
      refine bodyPost_ret (v := .tuple #[.slice (some ⟨b, off, none⟩) l.length cr, .int .i64 l[k].id]) (by simp [results, Try.results25, go_sem]) rfl ?_
      exact ⟨_, l, _, rfl, Hr4.out.more hz1' (by have := hch4.size; exact Nat.le_trans hz3' this), hll, hsm, chg_below hb3.drew hch4 hg (Nat.le_refl _)⟩
  · have hdl : decide (0 < (l.length : Int)) = false := decide_eq_false (by omega)
    go_wp2_with fail
    refine (spec_l1Below 12 w2 g hd2 (by decide)).mono ?_
    rintro e w4 ⟨_, rfl, ⟨k, rfl, -, -⟩, hch4, hd4⟩
    go_wp2_with fail
    refine bodyPost_ret (v := .tuple #[.slice Ar l.length cr, .int .i64 k]) (by simp [results, Try.results25, go_sem]) rfl ?_
    exact ⟨_, l, _, rfl, (hr.same (.of_chg hch4 (.inr (by omega)) (Nat.le_refl _))).more hz1' hch4.size, hll, hsm, chg_below hb2 hch4 hg (Nat.le_refl _)⟩
end Go.Proofs.Ytaapmimabbmdbaa
