/- Draws: lists of values. -/
import Derived.Test.YtnldneogjdljkaaD6
namespace Go.Proofs.Ytnldneogjdljkaa
open Go.Sort Go.ChangeShapes Go.WideShapes Go.ChangeAt Go.RowKit Go.Lb

theorem info_V : (Try.prog.info? 87).map (fun i => (i.zero, i.size, i.bytes)) = some (some (.agg #[.int .i64 0, .int .i64 0, .string ⟨#[]⟩]), 3, 32) := by kernel_rfl
theorem chg_grown {w w' w1 : World} {g : Nat} {row : Option Nat} (h : Chg g (g + 1) w w') (hg : w'.grownBy w1 row) (hr : ∀ b, row = some b → w.heap.size ≤ b) : Chg g (g + 1) w w1 :=
  ⟨hg.os.trans h.os, hg.tape.trans h.tape, hg.output.trans h.output, Nat.le_trans h.size hg.size, fun k hk hne => (hg.block k (Nat.lt_of_lt_of_le hk h.size) (fun e => by have := hr k e.symm; omega)).trans (h.block k hk hne)⟩
theorem Dr.grown {w w1 : World} {g : Nat} {row : Option Nat} (hd : Dr w g) (hg : w.grownBy w1 row) (hr : ∀ b, row = some b → g < b) : Dr w1 g := by
  have hl := hd.lt
  obtain ⟨code, A, c, i, h1, hx, hi, hc⟩ := hd
  exact ⟨code, A, c, i, h1, hx.same (fun k _ hk => hg.block k (by omega) (fun e => by have := hr k e.symm; omega)), hi, (hg.block g hl (fun e => by have := hr g e.symm; omega)).trans hc⟩
theorem owns_chg {w w' : World} {g base e s n : Nat} {v : Value} {xs : List Value} (h : w.ownsRow base e s v n xs) (hc : Chg g (g + 1) w w') (hg : g < base) : w'.ownsRow base e s v n xs :=
  ((Own.new h).same (.of_chg hc (.inr hg) (Nat.le_refl _))).1
/-- A list of values, of the draw's own. -/
def GoodL (B : Nat) (w : World) (v : Value) (l : List V) : Prop := Own 87 3 w B w.heap.size v l.length (l.flatMap V.cells) ∧ ∀ x ∈ l, x.s.size ≤ 100
theorem small_snoc {l : List V} {x : V} (h : ∀ x ∈ l, x.s.size ≤ 100) (hx : x.s.size ≤ 100) : ∀ y ∈ l ++ [x], y.s.size ≤ 100 := by
  intro y hy
  rcases List.mem_append.1 hy with h1 | h1
  · exact h y h1
  · obtain rfl := List.mem_singleton.1 h1
    exact hx
theorem app_good {w w2 w3 : World} {g : Nat} {v v' : Value} {xs : List V} {x : V} {cs : Array Value} {t : TypeId} (hlt : g < w.heap.size) (hown : w2.ownsRow w.heap.size 87 3 v xs.length (xs.flatMap V.cells)) (hch : Chg g (g + 1) w w2) (hd : Dr w2 g)
    (hown' : w3.ownsRow w.heap.size 87 3 v' (xs.length + 1) (xs.flatMap V.cells ++ [.int .i64 x.ty, .int .i64 x.n, .string x.s])) (hgrow : (w2.alloc (.cells cs t)).grownBy w3 v.ownBlock) :
    w3.ownsRow w.heap.size 87 3 v' (xs ++ [x]).length ((xs ++ [x]).flatMap V.cells) ∧ Chg g (g + 1) w w3 ∧ Dr w3 g := by
  have hr : ∀ b, v.ownBlock = some b → w.heap.size ≤ b := fun b hb => (hown.lt b hb).1
  refine ⟨?_, chg_grown (hch.trans (chg_new g w2 cs t)) hgrow hr, (dr_new hd cs t).grown hgrow fun b hb => Nat.lt_of_lt_of_le hlt (hr b hb)⟩
  rw [List.length_append, List.flatMap_append]
  simpa [V.cells] using hown'
set_option maxRecDepth 20000 in
set_option maxHeartbeats 4000000 in
theorem spec_l3List (ty : Int) (most : Nat) (w : World) (g : Nat) (hd : Dr w g) (hm : most ≤ 1000) :
    Calls Try.prog 108 #[.pointer (some ⟨g, 0, none⟩), .int .i64 ty, .int .i64 most] w (DrP w g fun v w' => ∃ l : List V, GoodL w.heap.size w' v l ∧ l.length ≤ most) := by
  have hlt := hd.lt
  obtain ⟨i0, hif, hz0, hz1, hz2⟩ := info_parts info_V
  have hif := Lib.hid hif
  have hz0 := Lib.hid hz0
  have hz1 := Lib.hid hz1
  have hz2 := Lib.hid hz2
  have own0 := Lib.hid (World.ownsRow_made w (base := w.heap.size) (e := 87) (size := 3) #[] 0 (Nat.le_refl _) (by decide) rfl)
  have hi1 : IntKind.i64.wrap ((most : Int) + 1) = (most : Int) + 1 := IntWalk.i64_in _ ⟨by omega, by omega⟩
  go_enter Try.func108, Try.ntmps108
  go_wp2_with fail
  have hd1 := dr_new hd #[] 87
  refine (spec_l1Below ((most : Int) + 1) _ g hd1 (by omega)).mono ?_
  rintro e w1 ⟨_, rfl, ⟨k, rfl, hk1, -⟩, hch1, hd2⟩
  have hk : k ≤ most := by have := hk1 (by omega); omega
  have hch := (chg_new g w #[] 87).trans hch1
  have own1 := Lib.hid (owns_chg own0.out hch1 hlt)
  clear own0 hk1 hch1 hd1 hd
  go_wp2_with fail
  go_loopw [7, 8] (fun o i wr => ∃ (q : Nat) (xs : List V), i = .int .i64 q ∧ xs.length + q = k ∧ (∀ x ∈ xs, x.s.size ≤ 100) ∧ wr.ownsRow w.heap.size 87 3 o xs.length (xs.flatMap V.cells) ∧ Chg g (g + 1) w wr ∧ Dr wr g) (fun _ i _ => (intOf i).toNat)
  case atStart => exact ⟨k, [], rfl, by simp, by simp, own1.out, hch, hd2⟩
  case round =>
    obtain ⟨q, xs, rfl, hq, hsm, hown, hch, hd⟩ := hrel
    clear own1
    have Hsm := Lib.hid hsm
    clear hsm
    have hcs := hch.size
    by_cases hq0 : 0 < q
    · by_cases hty : ty = 1
      · subst hty
        go_wp2_with fail
        refine (spec_l3Int _ g hd).mono ?_
        rintro e w2 ⟨_, rfl, ⟨x, rfl, hx⟩, hch2, hd2⟩
        have hown2 := owns_chg hown hch2 hlt
        have hch3 := hch.trans hch2
        have hcs3 := hch3.size
        clear hown hch hch2 hd
        go_wp2_with (at_builtin; refine wpl_app rfl _ _ 51 rfl w.heap.size 87 i0 _ 3 32 Try.underlying51 hif.out hz0.out hz1.out hz2.out rfl (by decide) (by decide) (hown2.alloc _) rfl (heap_alloc_new _ _) rfl rfl (by simp [Value.oneCell']) (by omega) (by simp; omega) ?_)
        intro v' w3 hown' hgrow hnb
        obtain ⟨h1, h2, h3⟩ := app_good hlt hown2 hch3 hd2 hown' hgrow
        have H1 := Lib.hid h1
        clear hown' hgrow hnb hown2 h1 hd2 hch3
        go_wp2_with fail
        go_roundw
        case rel => exact ⟨q - 1, xs ++ [x], by go_num, by simp; omega, small_snoc Hsm.out hx, H1.out, h2, h3⟩
        case measure => simp [intOf]; omega
      · have b0 : (ty == 1) = false := by simp [hty]
        go_wp2_with fail
        refine (spec_l3Text _ g hd).mono ?_
        rintro e w2 ⟨_, rfl, ⟨x, rfl, hx⟩, hch2, hd2⟩
        have hown2 := owns_chg hown hch2 hlt
        have hch3 := hch.trans hch2
        have hcs3 := hch3.size
        clear hown hch hch2 hd
        go_wp2_with (at_builtin; refine wpl_app rfl _ _ 51 rfl w.heap.size 87 i0 _ 3 32 Try.underlying51 hif.out hz0.out hz1.out hz2.out rfl (by decide) (by decide) (hown2.alloc _) rfl (heap_alloc_new _ _) rfl rfl (by simp [Value.oneCell']) (by omega) (by simp; omega) ?_)
        intro v' w3 hown' hgrow hnb
        obtain ⟨h1, h2, h3⟩ := app_good hlt hown2 hch3 hd2 hown' hgrow
        have H1 := Lib.hid h1
        clear hown' hgrow hnb hown2 h1 hd2 hch3
        go_wp2_with fail
        go_roundw
        case rel => exact ⟨q - 1, xs ++ [x], by go_num, by simp; omega, small_snoc Hsm.out hx, H1.out, h2, h3⟩
        case measure => simp [intOf]; omega
    · go_wp2_with fail
      go_ret
      exact ⟨_, rfl, ⟨xs, ⟨.new hown, Hsm.out⟩, by omega⟩, hch, hd⟩
end Go.Proofs.Ytnldneogjdljkaa
