/- Draws: numbers to be packed. -/
import Derived.Test.YtnldneogjdljkaaD16
import Derived.Test.YtnldneogjdljkaaD9
import Derived.Test.YtnldneogjdljkaaNF
namespace Go.Proofs.Ytnldneogjdljkaa
open Go.Sort Go.ChangeShapes Go.WideShapes Go.ChangeAt Go.RowKit Go.Lb
set_option maxRecDepth 20000 in
set_option maxHeartbeats 4000000 in
theorem spec_DrawPackBits (code : List UInt8) (x : Value) (w : World) {lo hi : Nat} (hx : RdB w lo hi x code) (hhi : hi ≤ w.heap.size) (hn : code.length ≤ 1048576) :
    Calls Try.prog 11 #[x] w fun e w' => ∃ (lv : Value) (l : List Int) (v : Int), e = .returned (.tuple #[lv, .int .i64 v]) ∧ RdI w' w.heap.size w'.heap.size lv l ∧ l.length ≤ 8 ∧ (∀ x ∈ l, -1 ≤ x ∧ x ≤ 70000) ∧ -1 ≤ v ∧ v ≤ 32 ∧ Below w.heap.size w w' := by
  obtain ⟨i0, hif, hz0, hz1, hz2⟩ := info_parts info_i64
  replace hif := Lib.hid hif
  replace hz0 := Lib.hid hz0
  replace hz1 := Lib.hid hz1
  replace hz2 := Lib.hid hz2
  go_enter Try.func11, Try.ntmps11
  go_wp2_with fail
  refine (spec_l1New code x w hx hhi hn).mono ?_
  rintro e w1 ⟨g, rfl, hg, hb1, hd1⟩
  have hs1 := hb1.size
  clear hx
  go_wp2_with fail
  refine (spec_l2Nums w1 g hd1).mono ?_
  rintro e w2 ⟨_, rfl, ⟨l, hgl, hll, hsm⟩, hch2, hd2⟩
  have Hsm := Lib.hid (show ∀ x ∈ l, -1 ≤ x ∧ x ≤ 70000 from fun x hx => by have := hsm x hx; omega)
  clear hsm
  have hlt1 := hd1.lt
  have hb2 := chg_below hb1 hch2 hg (Nat.le_refl _)
  have hs2 := hch2.size
  have hl0 : Own 3 1 w2 w1.heap.size w2.heap.size _ l.length (l.map (Value.int .i64)) := hgl
  have hrl := hl0.rdI
  obtain ⟨Al, cl, rfl, -, -⟩ := hrl.form
  have Hown := Lib.hid hl0
  clear hgl hl0 hch2 hb1 hd1
  have hwd := widthFor_le l
  have HW := Lib.hid (q_spec_WidthFor l _ w2 hrl)
  clear hrl
  generalize widthFor l = wd at *
  go_wp2_with fail
  refine HW.out.mono ?_
  rintro e w3 ⟨rfl, rfl⟩
  go_wp2_with fail
  refine (spec_l1Below 8 w2 g hd2 (by decide)).mono ?_
  rintro e w3 ⟨_, rfl, ⟨k, rfl, hk1, -⟩, hch3, hd3⟩
  have hk : k < 8 := by have := hk1 (by decide); omega
  have hb3 := chg_below hb2 hch3 hg (Nat.le_refl _)
  have hown3 := Hown.out.same (.of_chg hch3 (.inr (by omega)) (Nat.le_refl _))
  have hs3 := hch3.size
  have Hown3 := Lib.hid hown3
  clear hk1 hch3 hb2 hd2 Hown hown3 HW
  by_cases h0 : k = 0
  · subst h0
    have hx := rdI_new w3 [-1, 31, 32, (wd : Int) - 1] 3 (by simp [maxLen])
    have hlt3 := hd3.lt
    have hd4 := dr_new hd3 (([-1, 31, 32, (wd : Int) - 1] : List Int).map (Value.int .i64)).toArray 3
    have hc4 := chg_new g w3 (([-1, 31, 32, (wd : Int) - 1] : List Int).map (Value.int .i64)).toArray 3
    clear hk
    go_wp2_with fail
    refine (spec_l1Int [-1, 31, 32, (wd : Int) - 1] _ _ g hd4 (RdG.imp hx hlt3 (Nat.le_refl _) fun _ _ _ _ _ h => h) (by simp) (by simp) (by simp)).mono ?_
    rintro e w5 ⟨_, rfl, ⟨j, hj, rfl⟩, hch5, hd5⟩
    have hj' : -1 ≤ j ∧ j ≤ 32 := by
      simp only [List.mem_cons, List.not_mem_nil, or_false] at hj
      omega
    clear hj
    have hc5 := hc4.trans hch5
    have hb5 := chg_below hb3 hc5 hg (Nat.le_refl _)
    have hs5 := hc5.size
    have hr5 := (Hown3.out.same (.of_chg hc5 (.inr (by omega)) (by omega))).rdI.more (show w.heap.size ≤ w1.heap.size from hs1) (show w2.heap.size ≤ w5.heap.size by omega)
    go_wp2_with fail
    refine bodyPost_ret (v := .tuple #[.slice Al l.length cl, .int .i64 j]) (by simp [results, Try.results11, go_sem]) rfl ⟨_, l, j, rfl, hr5, by omega, Hsm.out, hj'.1, hj'.2, hb5⟩
  by_cases h1 : k = 1
  · subst h1
    clear hk h0
    have hr5 := Hown3.out.rdI.more (show w.heap.size ≤ w1.heap.size from hs1) (show w2.heap.size ≤ w3.heap.size by omega)
    go_wp2_with fail
    refine bodyPost_ret (v := .tuple #[.slice Al l.length cl, .int .i64 ((wd : Int) + 1)]) (by simp [results, Try.results11, go_sem]) rfl ⟨_, l, (wd : Int) + 1, rfl, hr5, by omega, Hsm.out, by omega, by omega, hb3⟩
  by_cases h2 : k = 2
  · subst h2
    clear hk h0 h1
    have hown := Hown3.out.1
    go_wp2_with (at_builtin; refine wpl_app rfl _ _ 24 rfl w1.heap.size 3 i0 _ 1 8 Try.underlying24 hif.out hz0.out hz1.out hz2.out rfl (by decide) (by decide) (hown.alloc _) rfl (heap_alloc_new _ _) rfl rfl (by simp [Value.oneCell']) (by omega) (by simp; omega) ?_)
    intro v' w4 hown' hgrow hnb
    have hb4 := Below.grown (hb3.alloc (by omega) _) hgrow (fun b hb => Nat.le_trans hs1 (hown.lt b hb).1) (Nat.le_refl _)
    have HO := Lib.hid (show Own 3 1 w4 w1.heap.size w4.heap.size v' (l ++ [-1]).length ((l ++ [-1]).map (Value.int .i64)) by rw [List.length_append, List.map_append]; exact .new hown')
    have hr5 := HO.out.rdI.more hs1 (Nat.le_refl _)
    have Hs2 := Lib.hid (show ∀ y ∈ l ++ [-1], -1 ≤ y ∧ y ≤ 70000 from fun y hy => by
      rcases List.mem_append.1 hy with h | h
      · exact Hsm.out y h
      · obtain rfl := List.mem_singleton.1 h
        omega)
    clear hown' hgrow hnb hown
    go_wp2_with fail
    refine bodyPost_ret (v := .tuple #[v', .int .i64 (wd : Int)]) (by simp [results, Try.results11, go_sem]) rfl ⟨_, l ++ [-1], (wd : Int), rfl, hr5, by simp; omega, Hs2.out, by omega, by omega, hb4⟩
  · have b0 : ((k : Int) == 0) = false := by simp [h0]
    have b1 : ((k : Int) == 1) = false := by simp; omega
    have b2 : ((k : Int) == 2) = false := by simp; omega
    clear hk h0 h1 h2
    have hr5 := Hown3.out.rdI.more (show w.heap.size ≤ w1.heap.size from hs1) (show w2.heap.size ≤ w3.heap.size by omega)
    go_wp2_with fail
    refine bodyPost_ret (v := .tuple #[.slice Al l.length cl, .int .i64 (wd : Int)]) (by simp [results, Try.results11, go_sem]) rfl ⟨_, l, (wd : Int), rfl, hr5, by omega, Hsm.out, by omega, by omega, hb3⟩
end Go.Proofs.Ytnldneogjdljkaa
