/- Draws: a list of values of one type. -/
import Derived.Test.YtnldneogjdljkaaD7
namespace Go.Proofs.Ytnldneogjdljkaa
open Go.Sort Go.ChangeShapes Go.WideShapes Go.ChangeAt Go.RowKit Go.Lb

set_option maxRecDepth 20000 in
set_option maxHeartbeats 4000000 in
theorem spec_l5Draw (w : World) (g : Nat) (hd : Dr w g) :
    Calls Try.prog 106 #[.pointer (some ⟨g, 0, none⟩)] w (DrP w g fun v w' => ∃ l : List V, GoodL w.heap.size w' v l ∧ 0 < l.length ∧ l.length ≤ 20) := by
  have hlt := hd.lt
  obtain ⟨i0, hif, hz0, hz1, hz2⟩ := info_parts info_V
  have hif := Lib.hid hif
  have hz0 := Lib.hid hz0
  have hz1 := Lib.hid hz1
  have hz2 := Lib.hid hz2
  go_enter Try.func106, Try.ntmps106
  go_wp2_with fail
  refine (spec_l1Below 2 w g hd (by decide)).mono ?_
  rintro e w1 ⟨_, rfl, ⟨k, rfl, hk1, -⟩, hch1, hd1⟩
  have hk : k < 2 := by have := hk1 (by decide); omega
  clear hk1 hd
  go_wp2_with fail
  refine (spec_l3List (1 + (k : Int)) 9 w1 g hd1 (by decide)).mono ?_
  rintro e w2 ⟨v, rfl, ⟨l, ⟨hown, hsm⟩, hll⟩, hch2, hd2⟩
  obtain ⟨A, c, rfl, -, -⟩ := hown.cells.form
  have hown2 := hown.1
  have hown2 : w2.ownsRow w.heap.size 87 3 (.slice A l.length c) l.length (l.flatMap V.cells) := (hown.more hch1.size (Nat.le_refl _)).1
  have hch2 := hch1.trans hch2
  clear hch1 hd1 hown
  by_cases hl0 : l.length = 0
  · have b0 : ((l.length : Int) == 0) = true := by simp [hl0]
    clear hl0
    go_wp2_with fail
    have hown5 := Lib.hid hown2
    have hch5 := hch2
    have hd5 := hd2
    have hsm := Lib.hid hsm
    refine (spec_l3Int w2 g hd5).mono ?_
    rintro e w6 ⟨_, rfl, ⟨x, rfl, hx⟩, hch6, hd6⟩
    have hcsA := hch5.size
    have hcsB := hch6.size
    have hown6 := owns_chg hown5.out hch6 hlt
    have hch6 := hch5.trans hch6
    have hgE : g < w6.heap.size := hd6.lt
    have HneE : ∀ b, Value.ownBlock (.slice A l.length c) = some b → b ≠ w6.heap.size := fun b hb => by
      have := (hown6.lt b hb).2
      omega
    have HneE := Lib.hid HneE
    have hd8 := dr_new hd6 #[.int .i64 x.ty, .int .i64 x.n, .string x.s] 87
    have HE := heap_alloc_new w6 (.cells #[.int .i64 x.ty, .int .i64 x.n, .string x.s] 87)
    have hchE := hch6.trans (chg_new g w6 #[.int .i64 x.ty, .int .i64 x.n, .string x.s] 87)
    have hownE := Lib.hid (hown6.alloc (.cells #[.int .i64 x.ty, .int .i64 x.n, .string x.s] 87))
    have hsz : (w6.alloc (.cells #[.int .i64 x.ty, .int .i64 x.n, .string x.s] 87)).heap.size = w6.heap.size + 1 := by simp
    clear hown6 hown5 hch6 hch5 hd5 hd6
    by_cases hty : k = 0
    · subst hty
      go_wp2_with fail
      have hdE := hd8
      have HE := Lib.hid HE
      refine (spec_l1Below 6 _ g hdE (by decide)).mono ?_
      rintro e w7 ⟨_, rfl, ⟨m, rfl, hm1, -⟩, hch7, hd7⟩
      have hm : m < 6 := by have := hm1 (by decide); omega
      have hownE := Lib.hid (owns_chg hownE.out hch7 hlt)
      have HE := Lib.hid (chg_cell HE.out hch7 hgE)
      have hchE := hchE.trans hch7
      clear hm1 hch7 hdE
      go_wp2_with fail
      go_loopw [4, 6] (fun o i wr => ∃ (q : Nat) (xs : List V), i = .int .i64 ((q : Int) - 1) ∧ xs.length + q ≤ 20 ∧ 0 < xs.length + q ∧ (∀ x ∈ xs, x.s.size ≤ 100) ∧ wr.ownsRow w.heap.size 87 3 o xs.length (xs.flatMap V.cells) ∧ (∀ b, o.ownBlock = some b → b ≠ w6.heap.size) ∧ wr.heap[w6.heap.size]? = some (.cells #[.int .i64 x.ty, .int .i64 x.n, .string x.s] 87) ∧ Chg g (g + 1) w wr ∧ Dr wr g) (fun _ i _ => (intOf i + 1).toNat)
      case atStart => exact ⟨m + 1, l, by rw [show (((m + 1 : Nat) : Int) - 1) = m by omega], by omega, by omega, hsm.out, hownE.out, HneE.out, HE.out, hchE, hd7⟩
      case round =>
        obtain ⟨q, xs, rfl, hq, hq0, hsmx, hown, hne, hB, hch, hd⟩ := hrel
        have Hsm := Lib.hid hsmx
        have hcs := hch.size
        clear hsmx hsm hownE HE hchE hd7
        by_cases hqz : 0 < q
        · have hdc : decide (1 ≤ (q : Int)) = true := decide_eq_true (by omega)
          have e0 := cell_of_row wr w6.heap.size 0 _ _ _ hB
          have e1 := cell_of_row wr w6.heap.size 1 _ _ _ hB
          have e2 := cell_of_row wr w6.heap.size 2 _ _ _ hB
          simp only [List.getElem?_toArray, List.getElem?_cons_zero, List.getElem?_cons_succ] at e0 e1 e2
          have HB := Lib.hid hB
          have Hne := Lib.hid hne
          clear hB hne
          have hBl : w6.heap.size < wr.heap.size := (Array.getElem?_eq_some_iff.1 HB.out).1
          go_wp2_with (at_builtin; refine wpl_app rfl _ _ 51 rfl w.heap.size 87 i0 _ 3 32 Try.underlying51 hif.out hz0.out hz1.out hz2.out rfl (by decide) (by decide) (hown.alloc _) rfl (heap_alloc_new _ _) rfl rfl (by simp [Value.oneCell']) (by omega) (by simp; omega) ?_)
          intro v' w3 hown' hgrow hnb
          have HB3 := Lib.hid ((hgrow.block w6.heap.size (by simp; omega) (fun h => Hne.out w6.heap.size h.symm rfl)).trans ((up_a1 wr _).block w6.heap.size hBl |>.trans HB.out))
          have Hne3 : ∀ b, v'.ownBlock = some b → b ≠ w6.heap.size := fun b hb => by
            rcases hnb b hb with h | h
            · exact Hne.out b h
            · first | omega | (simp at h; omega)
          have Hne3 := Lib.hid Hne3
          obtain ⟨h1, h2, h3⟩ := app_good (x := x) hlt hown hch hd hown' hgrow
          have H1 := Lib.hid h1
          clear hown' hgrow hnb h1 hd hch hown
          go_wp2_with fail
          go_roundw
          case rel => exact ⟨q - 1, xs ++ [x], by first | (rw [show (((q - 1 : Nat) : Int) - 1) = (q : Int) - 1 - 1 by omega]; done) | (rw [show (((q - 1 : Nat) : Int) - 1) = (q : Int) - 1 - 1 by omega]; go_num), by simp; omega, by simp <;> omega, small_snoc Hsm.out hx, H1.out, Hne3.out, HB3.out, h2, h3⟩
          case measure => simp [intOf]; omega
        · have hdc : decide (1 ≤ (q : Int)) = false := decide_eq_false (by omega)
          go_wp2_with fail
          go_ret
          exact ⟨_, rfl, ⟨xs, ⟨.new hown, Hsm.out⟩, by omega, by omega⟩, hch, hd⟩
    · obtain rfl : k = 1 := by omega
      go_wp2_with fail
      refine (spec_l3Text _ g hd8).mono ?_
      rintro e w9 ⟨_, rfl, ⟨y, rfl, hy⟩, hch9, hd9⟩
      have HE9 := chg_cell HE hch9 hgE
      have hchE := hchE.trans hch9
      have hownE := owns_chg hownE.out hch9 hlt
      have hcs9 := hch9.size
      rw [hsz] at hcs9
      have r0 := cell_of_row w9 w6.heap.size 0 _ _ _ HE9
      have r1 := cell_of_row w9 w6.heap.size 1 _ _ _ HE9
      have r2 := cell_of_row w9 w6.heap.size 2 _ _ _ HE9
      simp only [List.getElem?_toArray, List.getElem?_cons_zero, List.getElem?_cons_succ] at r0 r1 r2
      have f0 := fun o => frozen_of_row w9 w6.heap.size o _ _ HE9
      have hne5 : Value.ownBlock (.slice A l.length c) ≠ some w6.heap.size := fun h => HneE.out w6.heap.size h rfl
      have hownS := Lib.hid (ownsRow_setCell_other (a := ⟨w6.heap.size, 2, none⟩) (ownsRow_setCell_other (a := ⟨w6.heap.size, 1, none⟩) (ownsRow_setCell_other (a := ⟨w6.heap.size, 0, none⟩) hownE hne5 (.int .i64 y.ty)) hne5 (.int .i64 y.n)) hne5 (.string y.s))
      have HS := set3 (o := 0) (a := .int .i64 y.ty) (b := .int .i64 y.n) (c := .string y.s) HE9
      simp only [List.setIfInBounds_toArray, List.set_cons_succ, List.set_cons_zero, Nat.zero_add] at HS
      have HS := Lib.hid HS
      have hdS := ((hd9.set (b := w6.heap.size) (o := 0) (by omega) (by omega) (.int .i64 y.ty)).set (b := w6.heap.size) (o := 1) (by omega) (by omega) (.int .i64 y.n)).set (b := w6.heap.size) (o := 2) (by omega) (by omega) (.string y.s)
      have hchS := chg_set (b := w6.heap.size) (o := 2) (chg_set (b := w6.heap.size) (o := 1) (chg_set (b := w6.heap.size) (o := 0) hchE (by omega) (.int .i64 y.ty)) (by omega) (.int .i64 y.n)) (by omega) (.string y.s)
      clear hownE HE HE9 hd9 hchE hd8
      go_wp2_with fail
      generalize ((w9.setCell ⟨w6.heap.size, 0, none⟩ (.int .i64 y.ty)).setCell ⟨w6.heap.size, 1, none⟩ (.int .i64 y.n)).setCell ⟨w6.heap.size, 2, none⟩ (.string y.s) = wS at *
      have hownE := hownS
      have HE := HS
      have hchE := hchS
      have hdE := hdS
      clear hownS HS hchS hdS r0 r1 r2 f0
      refine (spec_l1Below 6 _ g hdE (by decide)).mono ?_
      rintro e w7 ⟨_, rfl, ⟨m, rfl, hm1, -⟩, hch7, hd7⟩
      have hm : m < 6 := by have := hm1 (by decide); omega
      have hownE := Lib.hid (owns_chg hownE.out hch7 hlt)
      have HE := Lib.hid (chg_cell HE.out hch7 hgE)
      have hchE := hchE.trans hch7
      clear hm1 hch7 hdE
      go_wp2_with fail
      go_loopw [4, 6] (fun o i wr => ∃ (q : Nat) (xs : List V), i = .int .i64 ((q : Int) - 1) ∧ xs.length + q ≤ 20 ∧ 0 < xs.length + q ∧ (∀ x ∈ xs, x.s.size ≤ 100) ∧ wr.ownsRow w.heap.size 87 3 o xs.length (xs.flatMap V.cells) ∧ (∀ b, o.ownBlock = some b → b ≠ w6.heap.size) ∧ wr.heap[w6.heap.size]? = some (.cells #[.int .i64 y.ty, .int .i64 y.n, .string y.s] 87) ∧ Chg g (g + 1) w wr ∧ Dr wr g) (fun _ i _ => (intOf i + 1).toNat)
      case atStart => exact ⟨m + 1, l, by rw [show (((m + 1 : Nat) : Int) - 1) = m by omega], by omega, by omega, hsm.out, hownE.out, HneE.out, HE.out, hchE, hd7⟩
      case round =>
        obtain ⟨q, xs, rfl, hq, hq0, hsmx, hown, hne, hB, hch, hd⟩ := hrel
        have Hsm := Lib.hid hsmx
        have hcs := hch.size
        clear hsmx hsm hownE HE hchE hd7
        by_cases hqz : 0 < q
        · have hdc : decide (1 ≤ (q : Int)) = true := decide_eq_true (by omega)
          have e0 := cell_of_row wr w6.heap.size 0 _ _ _ hB
          have e1 := cell_of_row wr w6.heap.size 1 _ _ _ hB
          have e2 := cell_of_row wr w6.heap.size 2 _ _ _ hB
          simp only [List.getElem?_toArray, List.getElem?_cons_zero, List.getElem?_cons_succ] at e0 e1 e2
          have HB := Lib.hid hB
          have Hne := Lib.hid hne
          clear hB hne
          have hBl : w6.heap.size < wr.heap.size := (Array.getElem?_eq_some_iff.1 HB.out).1
          go_wp2_with (at_builtin; refine wpl_app rfl _ _ 51 rfl w.heap.size 87 i0 _ 3 32 Try.underlying51 hif.out hz0.out hz1.out hz2.out rfl (by decide) (by decide) (hown.alloc _) rfl (heap_alloc_new _ _) rfl rfl (by simp [Value.oneCell']) (by omega) (by simp; omega) ?_)
          intro v' w3 hown' hgrow hnb
          have HB3 := Lib.hid ((hgrow.block w6.heap.size (by simp; omega) (fun h => Hne.out w6.heap.size h.symm rfl)).trans ((up_a1 wr _).block w6.heap.size hBl |>.trans HB.out))
          have Hne3 : ∀ b, v'.ownBlock = some b → b ≠ w6.heap.size := fun b hb => by
            rcases hnb b hb with h | h
            · exact Hne.out b h
            · first | omega | (simp at h; omega)
          have Hne3 := Lib.hid Hne3
          obtain ⟨h1, h2, h3⟩ := app_good (x := y) hlt hown hch hd hown' hgrow
          have H1 := Lib.hid h1
          clear hown' hgrow hnb h1 hd hch hown
          go_wp2_with fail
          go_roundw
          case rel => exact ⟨q - 1, xs ++ [y], by first | (rw [show (((q - 1 : Nat) : Int) - 1) = (q : Int) - 1 - 1 by omega]; done) | (rw [show (((q - 1 : Nat) : Int) - 1) = (q : Int) - 1 - 1 by omega]; go_num), by simp; omega, by simp <;> omega, small_snoc Hsm.out hy, H1.out, Hne3.out, HB3.out, h2, h3⟩
          case measure => simp [intOf]; omega
        · have hdc : decide (1 ≤ (q : Int)) = false := decide_eq_false (by omega)
          go_wp2_with fail
          go_ret
          exact ⟨_, rfl, ⟨xs, ⟨.new hown, Hsm.out⟩, by omega, by omega⟩, hch, hd⟩
  · have b0 : ((l.length : Int) == 0) = false := by simp [hl0]
    go_wp2_with fail
    refine (spec_l1Once 4 w2 g hd2 (by decide)).mono ?_
    rintro e w5 ⟨_, rfl, ⟨b, rfl⟩, hch5, hd5⟩
    have hown5 := Lib.hid (owns_chg hown2 hch5 hlt)
    have hch5 := hch2.trans hch5
    clear hch2 hd2 hown2
    cases b
    · go_wp2_with fail
      go_ret
      exact ⟨_, rfl, ⟨l, ⟨.new hown5.out, hsm⟩, by omega, by omega⟩, hch5, hd5⟩
    · go_wp2_with fail
      have hsm := Lib.hid hsm
      refine (spec_l3Int w5 g hd5).mono ?_
      rintro e w6 ⟨_, rfl, ⟨x, rfl, hx⟩, hch6, hd6⟩
      have hcsA := hch5.size
      have hcsB := hch6.size
      have hown6 := owns_chg hown5.out hch6 hlt
      have hch6 := hch5.trans hch6
      have hgE : g < w6.heap.size := hd6.lt
      have HneE : ∀ b, Value.ownBlock (.slice A l.length c) = some b → b ≠ w6.heap.size := fun b hb => by
        have := (hown6.lt b hb).2
        omega
      have HneE := Lib.hid HneE
      have hd8 := dr_new hd6 #[.int .i64 x.ty, .int .i64 x.n, .string x.s] 87
      have HE := heap_alloc_new w6 (.cells #[.int .i64 x.ty, .int .i64 x.n, .string x.s] 87)
      have hchE := hch6.trans (chg_new g w6 #[.int .i64 x.ty, .int .i64 x.n, .string x.s] 87)
      have hownE := Lib.hid (hown6.alloc (.cells #[.int .i64 x.ty, .int .i64 x.n, .string x.s] 87))
      have hsz : (w6.alloc (.cells #[.int .i64 x.ty, .int .i64 x.n, .string x.s] 87)).heap.size = w6.heap.size + 1 := by simp
      clear hown6 hown5 hch6 hch5 hd5 hd6
      by_cases hty : k = 0
      · subst hty
        go_wp2_with fail
        have hdE := hd8
        have HE := Lib.hid HE
        refine (spec_l1Below 6 _ g hdE (by decide)).mono ?_
        rintro e w7 ⟨_, rfl, ⟨m, rfl, hm1, -⟩, hch7, hd7⟩
        have hm : m < 6 := by have := hm1 (by decide); omega
        have hownE := Lib.hid (owns_chg hownE.out hch7 hlt)
        have HE := Lib.hid (chg_cell HE.out hch7 hgE)
        have hchE := hchE.trans hch7
        clear hm1 hch7 hdE
        go_wp2_with fail
        go_loopw [4, 6] (fun o i wr => ∃ (q : Nat) (xs : List V), i = .int .i64 ((q : Int) - 1) ∧ xs.length + q ≤ 20 ∧ 0 < xs.length + q ∧ (∀ x ∈ xs, x.s.size ≤ 100) ∧ wr.ownsRow w.heap.size 87 3 o xs.length (xs.flatMap V.cells) ∧ (∀ b, o.ownBlock = some b → b ≠ w6.heap.size) ∧ wr.heap[w6.heap.size]? = some (.cells #[.int .i64 x.ty, .int .i64 x.n, .string x.s] 87) ∧ Chg g (g + 1) w wr ∧ Dr wr g) (fun _ i _ => (intOf i + 1).toNat)
        case atStart => exact ⟨m + 1, l, by rw [show (((m + 1 : Nat) : Int) - 1) = m by omega], by omega, by omega, hsm.out, hownE.out, HneE.out, HE.out, hchE, hd7⟩
        case round =>
          obtain ⟨q, xs, rfl, hq, hq0, hsmx, hown, hne, hB, hch, hd⟩ := hrel
          have Hsm := Lib.hid hsmx
          have hcs := hch.size
          clear hsmx hsm hownE HE hchE hd7
          by_cases hqz : 0 < q
          · have hdc : decide (1 ≤ (q : Int)) = true := decide_eq_true (by omega)
            have e0 := cell_of_row wr w6.heap.size 0 _ _ _ hB
            have e1 := cell_of_row wr w6.heap.size 1 _ _ _ hB
            have e2 := cell_of_row wr w6.heap.size 2 _ _ _ hB
            simp only [List.getElem?_toArray, List.getElem?_cons_zero, List.getElem?_cons_succ] at e0 e1 e2
            have HB := Lib.hid hB
            have Hne := Lib.hid hne
            clear hB hne
            have hBl : w6.heap.size < wr.heap.size := (Array.getElem?_eq_some_iff.1 HB.out).1
            go_wp2_with (at_builtin; refine wpl_app rfl _ _ 51 rfl w.heap.size 87 i0 _ 3 32 Try.underlying51 hif.out hz0.out hz1.out hz2.out rfl (by decide) (by decide) (hown.alloc _) rfl (heap_alloc_new _ _) rfl rfl (by simp [Value.oneCell']) (by omega) (by simp; omega) ?_)
            intro v' w3 hown' hgrow hnb
            have HB3 := Lib.hid ((hgrow.block w6.heap.size (by simp; omega) (fun h => Hne.out w6.heap.size h.symm rfl)).trans ((up_a1 wr _).block w6.heap.size hBl |>.trans HB.out))
            have Hne3 : ∀ b, v'.ownBlock = some b → b ≠ w6.heap.size := fun b hb => by
              rcases hnb b hb with h | h
              · exact Hne.out b h
              · first | omega | (simp at h; omega)
            have Hne3 := Lib.hid Hne3
            obtain ⟨h1, h2, h3⟩ := app_good (x := x) hlt hown hch hd hown' hgrow
            have H1 := Lib.hid h1
            clear hown' hgrow hnb h1 hd hch hown
            go_wp2_with fail
            go_roundw
            case rel => exact ⟨q - 1, xs ++ [x], by first | (rw [show (((q - 1 : Nat) : Int) - 1) = (q : Int) - 1 - 1 by omega]; done) | (rw [show (((q - 1 : Nat) : Int) - 1) = (q : Int) - 1 - 1 by omega]; go_num), by simp; omega, by simp <;> omega, small_snoc Hsm.out hx, H1.out, Hne3.out, HB3.out, h2, h3⟩
            case measure => simp [intOf]; omega
          · have hdc : decide (1 ≤ (q : Int)) = false := decide_eq_false (by omega)
            go_wp2_with fail
            go_ret
            exact ⟨_, rfl, ⟨xs, ⟨.new hown, Hsm.out⟩, by omega, by omega⟩, hch, hd⟩
      · obtain rfl : k = 1 := by omega
        go_wp2_with fail
        refine (spec_l3Text _ g hd8).mono ?_
        rintro e w9 ⟨_, rfl, ⟨y, rfl, hy⟩, hch9, hd9⟩
        have HE9 := chg_cell HE hch9 hgE
        have hchE := hchE.trans hch9
        have hownE := owns_chg hownE.out hch9 hlt
        have hcs9 := hch9.size
        rw [hsz] at hcs9
        have r0 := cell_of_row w9 w6.heap.size 0 _ _ _ HE9
        have r1 := cell_of_row w9 w6.heap.size 1 _ _ _ HE9
        have r2 := cell_of_row w9 w6.heap.size 2 _ _ _ HE9
        simp only [List.getElem?_toArray, List.getElem?_cons_zero, List.getElem?_cons_succ] at r0 r1 r2
        have f0 := fun o => frozen_of_row w9 w6.heap.size o _ _ HE9
        have hne5 : Value.ownBlock (.slice A l.length c) ≠ some w6.heap.size := fun h => HneE.out w6.heap.size h rfl
        have hownS := Lib.hid (ownsRow_setCell_other (a := ⟨w6.heap.size, 2, none⟩) (ownsRow_setCell_other (a := ⟨w6.heap.size, 1, none⟩) (ownsRow_setCell_other (a := ⟨w6.heap.size, 0, none⟩) hownE hne5 (.int .i64 y.ty)) hne5 (.int .i64 y.n)) hne5 (.string y.s))
        have HS := set3 (o := 0) (a := .int .i64 y.ty) (b := .int .i64 y.n) (c := .string y.s) HE9
        simp only [List.setIfInBounds_toArray, List.set_cons_succ, List.set_cons_zero, Nat.zero_add] at HS
        have HS := Lib.hid HS
        have hdS := ((hd9.set (b := w6.heap.size) (o := 0) (by omega) (by omega) (.int .i64 y.ty)).set (b := w6.heap.size) (o := 1) (by omega) (by omega) (.int .i64 y.n)).set (b := w6.heap.size) (o := 2) (by omega) (by omega) (.string y.s)
        have hchS := chg_set (b := w6.heap.size) (o := 2) (chg_set (b := w6.heap.size) (o := 1) (chg_set (b := w6.heap.size) (o := 0) hchE (by omega) (.int .i64 y.ty)) (by omega) (.int .i64 y.n)) (by omega) (.string y.s)
        clear hownE HE HE9 hd9 hchE hd8
        go_wp2_with fail
        generalize ((w9.setCell ⟨w6.heap.size, 0, none⟩ (.int .i64 y.ty)).setCell ⟨w6.heap.size, 1, none⟩ (.int .i64 y.n)).setCell ⟨w6.heap.size, 2, none⟩ (.string y.s) = wS at *
        have hownE := hownS
        have HE := HS
        have hchE := hchS
        have hdE := hdS
        clear hownS HS hchS hdS r0 r1 r2 f0
        refine (spec_l1Below 6 _ g hdE (by decide)).mono ?_
        rintro e w7 ⟨_, rfl, ⟨m, rfl, hm1, -⟩, hch7, hd7⟩
        have hm : m < 6 := by have := hm1 (by decide); omega
        have hownE := Lib.hid (owns_chg hownE.out hch7 hlt)
        have HE := Lib.hid (chg_cell HE.out hch7 hgE)
        have hchE := hchE.trans hch7
        clear hm1 hch7 hdE
        go_wp2_with fail
        go_loopw [4, 6] (fun o i wr => ∃ (q : Nat) (xs : List V), i = .int .i64 ((q : Int) - 1) ∧ xs.length + q ≤ 20 ∧ 0 < xs.length + q ∧ (∀ x ∈ xs, x.s.size ≤ 100) ∧ wr.ownsRow w.heap.size 87 3 o xs.length (xs.flatMap V.cells) ∧ (∀ b, o.ownBlock = some b → b ≠ w6.heap.size) ∧ wr.heap[w6.heap.size]? = some (.cells #[.int .i64 y.ty, .int .i64 y.n, .string y.s] 87) ∧ Chg g (g + 1) w wr ∧ Dr wr g) (fun _ i _ => (intOf i + 1).toNat)
        case atStart => exact ⟨m + 1, l, by rw [show (((m + 1 : Nat) : Int) - 1) = m by omega], by omega, by omega, hsm.out, hownE.out, HneE.out, HE.out, hchE, hd7⟩
        case round =>
          obtain ⟨q, xs, rfl, hq, hq0, hsmx, hown, hne, hB, hch, hd⟩ := hrel
          have Hsm := Lib.hid hsmx
          have hcs := hch.size
          clear hsmx hsm hownE HE hchE hd7
          by_cases hqz : 0 < q
          · have hdc : decide (1 ≤ (q : Int)) = true := decide_eq_true (by omega)
            have e0 := cell_of_row wr w6.heap.size 0 _ _ _ hB
            have e1 := cell_of_row wr w6.heap.size 1 _ _ _ hB
            have e2 := cell_of_row wr w6.heap.size 2 _ _ _ hB
            simp only [List.getElem?_toArray, List.getElem?_cons_zero, List.getElem?_cons_succ] at e0 e1 e2
            have HB := Lib.hid hB
            have Hne := Lib.hid hne
            clear hB hne
            have hBl : w6.heap.size < wr.heap.size := (Array.getElem?_eq_some_iff.1 HB.out).1
            go_wp2_with (at_builtin; refine wpl_app rfl _ _ 51 rfl w.heap.size 87 i0 _ 3 32 Try.underlying51 hif.out hz0.out hz1.out hz2.out rfl (by decide) (by decide) (hown.alloc _) rfl (heap_alloc_new _ _) rfl rfl (by simp [Value.oneCell']) (by omega) (by simp; omega) ?_)
            intro v' w3 hown' hgrow hnb
            have HB3 := Lib.hid ((hgrow.block w6.heap.size (by simp; omega) (fun h => Hne.out w6.heap.size h.symm rfl)).trans ((up_a1 wr _).block w6.heap.size hBl |>.trans HB.out))
            have Hne3 : ∀ b, v'.ownBlock = some b → b ≠ w6.heap.size := fun b hb => by
              rcases hnb b hb with h | h
              · exact Hne.out b h
              · first | omega | (simp at h; omega)
            have Hne3 := Lib.hid Hne3
            obtain ⟨h1, h2, h3⟩ := app_good (x := y) hlt hown hch hd hown' hgrow
            have H1 := Lib.hid h1
            clear hown' hgrow hnb h1 hd hch hown
            go_wp2_with fail
            go_roundw
            case rel => exact ⟨q - 1, xs ++ [y], by first | (rw [show (((q - 1 : Nat) : Int) - 1) = (q : Int) - 1 - 1 by omega]; done) | (rw [show (((q - 1 : Nat) : Int) - 1) = (q : Int) - 1 - 1 by omega]; go_num), by simp; omega, by simp <;> omega, small_snoc Hsm.out hy, H1.out, Hne3.out, HB3.out, h2, h3⟩
            case measure => simp [intOf]; omega
          · have hdc : decide (1 ≤ (q : Int)) = false := decide_eq_false (by omega)
            go_wp2_with fail
            go_ret
            exact ⟨_, rfl, ⟨xs, ⟨.new hown, Hsm.out⟩, by omega, by omega⟩, hch, hd⟩
end Go.Proofs.Ytnldneogjdljkaa
