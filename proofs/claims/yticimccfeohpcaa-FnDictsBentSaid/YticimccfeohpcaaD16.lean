/- Draws: lists of numbers, bytes. -/
import Derived.Test.YticimccfeohpcaaXD
import Derived.Test.YticimccfeohpcaaXA
namespace Go.Proofs.Yticimccfeohpcaa
open Go.Sort Go.ChangeShapes Go.WideShapes Go.ChangeAt Go.RowKit Go.Lb
def GoodI (B : Nat) (w : World) (v : Value) (l : List Int) : Prop := Own 3 1 w B w.heap.size v l.length (l.map (Value.int .i64))
def GoodB (B : Nat) (w : World) (v : Value) (l : List UInt8) : Prop := Own 5 1 w B w.heap.size v l.length (bc l)
theorem app_goodG {w w2 w3 : World} {g e n : Nat} {v v' : Value} {xs ys : List Value} {cs : Array Value} {t : TypeId} (hlt : g < w.heap.size) (hown : w2.ownsRow w.heap.size e 1 v n xs) (hch : Chg g (g + 1) w w2) (hd : Dr w2 g)
    (hown' : w3.ownsRow w.heap.size e 1 v' (n + 1) ys) (hgrow : (w2.alloc (.cells cs t)).grownBy w3 v.ownBlock) :
    w3.ownsRow w.heap.size e 1 v' (n + 1) ys ∧ Chg g (g + 1) w w3 ∧ Dr w3 g := by
  have hr : ∀ b, v.ownBlock = some b → w.heap.size ≤ b := fun b hb => (hown.lt b hb).1
  exact ⟨hown', chg_grown (hch.trans (chg_new g w2 cs t)) hgrow hr, (dr_new hd cs t).grown hgrow fun b hb => Nat.lt_of_lt_of_le hlt (hr b hb)⟩
set_option maxRecDepth 20000 in
set_option maxHeartbeats 4000000 in
theorem spec_l2Nums (w : World) (g : Nat) (hd : Dr w g) :
    Calls Try.prog 81 #[.pointer (some ⟨g, 0, none⟩)] w (DrP w g fun v w' => ∃ l : List Int, GoodI w.heap.size w' v l ∧ l.length ≤ 7 ∧ ∀ x ∈ l, 0 ≤ x ∧ x ≤ 70000) := by
  have hlt := hd.lt
  obtain ⟨i0, hif, hz0, hz1, hz2⟩ := info_parts info_i64
  replace hif := Lib.hid hif
  replace hz0 := Lib.hid hz0
  replace hz1 := Lib.hid hz1
  replace hz2 := Lib.hid hz2
  have own0 := Lib.hid (World.ownsRow_made w (base := w.heap.size) (e := 3) (size := 1) #[] 0 (Nat.le_refl _) (by decide) rfl)
  go_enter Try.func81, Try.ntmps81
  go_wp2_with fail
  have hd0 := dr_new hd #[] 3
  have up0 := up_a1 w (.cells #[] 3)
  have hch0 := chg_new g w #[] 3
  have hs0 : (w.alloc (.cells #[] 3)).heap.size = w.heap.size + 1 := by simp
  have Own0 := Lib.hid (owns_chg own0.out (Chg.refl g (g + 1) _) hlt)
  generalize w.alloc (.cells #[] 3) = w0 at *
  have hx := rdI_new w0 [1, 2, 8, 200, 70000] 3 (by decide)
  rw [hs0] at hx
  have hd2 := dr_new hd0 (([1, 2, 8, 200, 70000] : List Int).map (Value.int .i64)).toArray 3
  have hc2 := chg_new g w0 (([1, 2, 8, 200, 70000] : List Int).map (Value.int .i64)).toArray 3
  refine (spec_l1Int [1, 2, 8, 200, 70000] _ _ g hd2 (RdG.imp hx (by omega) (Nat.le_refl _) fun _ _ _ _ _ h => h) (by simp only [World.size_alloc]; omega) (by decide) (by decide)).mono ?_
  rintro e w1 ⟨_, rfl, ⟨m, hm, rfl⟩, hch1, hd3⟩
  have hm7 : m ≤ 70000 ∧ 0 < m := by
    simp only [List.mem_cons, List.not_mem_nil, or_false] at hm
    omega
  have hch := hch0.trans (hc2.trans hch1)
  have own1 := Lib.hid (owns_chg Own0.out (hc2.trans hch1) hlt)
  clear hm hch1 hc2 hd2 hx Own0 own0 hch0 hd0 hd up0
  go_wp2_with fail
  refine (spec_l1Below 8 _ g hd3 (by omega)).mono ?_
  rintro e w2 ⟨_, rfl, ⟨k, rfl, hk1, -⟩, hch1, hd4⟩
  have hk : k ≤ 7 := by have := hk1 (by omega); omega
  have hch2 := hch.trans hch1
  have own2 := Lib.hid (owns_chg own1.out hch1 hlt)
  clear hk1 hch1 hd3 hch own1
  go_wp2_with fail
  go_loopw [3, 5] (fun o i wr => ∃ (q : Nat) (xs : List Int), Hid (i = .int .i64 q ∧ xs.length + q = k ∧ (∀ x ∈ xs, 0 ≤ x ∧ x ≤ 70000) ∧ wr.ownsRow w.heap.size 3 1 o xs.length (xs.map (Value.int .i64)) ∧ Chg g (g + 1) w wr ∧ Dr wr g)) (fun _ i _ => (intOf i).toNat)
  case atStart => exact ⟨k, [], Lib.hid ⟨rfl, by simp, by simp, own2.out, hch2, hd4⟩⟩
  case round =>
    obtain ⟨q, xs, hrel⟩ := hrel
    obtain ⟨rfl, hq, hsm, hown, hch, hd⟩ := hrel.out
    have Hsm := Lib.hid hsm
    clear hrel own2 hch2 hd4 hsm
    have hcs := hch.size
    by_cases hq0 : 0 < q
    · go_wp2_with fail
      refine (spec_l1Below m _ g hd (by omega)).mono ?_
      rintro e w3 ⟨_, rfl, ⟨x, rfl, hxm, -⟩, hch2, hd2⟩
      have Hs2 := Lib.hid (show ∀ y ∈ xs ++ [(x : Int)], 0 ≤ y ∧ y ≤ 70000 from fun y hy => by
        rcases List.mem_append.1 hy with h | h
        · exact Hsm.out y h
        · obtain rfl := List.mem_singleton.1 h
          have := hxm hm7.2
          omega)
      clear hxm
      have hown2 := owns_chg hown hch2 hlt
      have hch3 := hch.trans hch2
      have hcs3 := hch3.size
      clear hown hch hch2 hd
      go_wp2_with (at_builtin; refine wpl_app rfl _ _ 26 rfl w.heap.size 3 i0 _ 1 8 Try.underlying26 hif.out hz0.out hz1.out hz2.out rfl (by decide) (by decide) (hown2.alloc _) rfl (heap_alloc_new _ _) rfl rfl (by simp [Value.oneCell']) (by omega) (by simp; omega) ?_)
      intro v' w4 hown' hgrow hnb
      obtain ⟨h1, h2, h3⟩ := app_goodG hlt hown2 hch3 hd2 hown' hgrow
      have H1 := Lib.hid (show w4.ownsRow w.heap.size 3 1 v' (xs ++ [(x : Int)]).length ((xs ++ [(x : Int)]).map (Value.int .i64)) by rw [List.length_append, List.map_append]; exact h1)
      clear hown' hgrow hnb hown2 h1 hd2 hch3
      go_wp2_with fail
      go_roundw
      case rel => exact ⟨q - 1, xs ++ [(x : Int)], Lib.hid ⟨by go_num, by simp; omega, Hs2.out, H1.out, h2, h3⟩⟩
      case measure => simp [intOf]; omega
    · go_wp2_with fail
      go_ret
      exact ⟨_, rfl, ⟨xs, .new hown, by omega, Hsm.out⟩, hch, hd⟩
set_option maxRecDepth 20000 in
set_option maxHeartbeats 4000000 in
theorem spec_l1Nums (most : Nat) (w : World) (g : Nat) (hd : Dr w g) (hm : most ≤ 1000) :
    Calls Try.prog 91 #[.pointer (some ⟨g, 0, none⟩), .int .i64 most] w (DrP w g fun v w' => ∃ l : List Int, GoodI w.heap.size w' v l ∧ l.length ≤ most ∧ l.all Lb.isNum = true) := by
  have hlt := hd.lt
  obtain ⟨i0, hif, hz0, hz1, hz2⟩ := info_parts info_i64
  replace hif := Lib.hid hif
  replace hz0 := Lib.hid hz0
  replace hz1 := Lib.hid hz1
  replace hz2 := Lib.hid hz2
  have own0 := Lib.hid (World.ownsRow_made w (base := w.heap.size) (e := 3) (size := 1) #[] 0 (Nat.le_refl _) (by decide) rfl)
  have hi1 : IntKind.i64.wrap ((most : Int) + 1) = (most : Int) + 1 := IntWalk.i64_in _ ⟨by omega, by omega⟩
  go_enter Try.func91, Try.ntmps91
  go_wp2_with fail
  have hd1 := dr_new hd #[] 3
  refine (spec_l1Below ((most : Int) + 1) _ g hd1 (by omega)).mono ?_
  rintro e w1 ⟨_, rfl, ⟨k, rfl, hk1, -⟩, hch1, hd2⟩
  have hk : k ≤ most := by have := hk1 (by omega); omega
  have hch := (chg_new g w #[] 3).trans hch1
  have own1 := Lib.hid (owns_chg own0.out hch1 hlt)
  clear own0 hk1 hch1 hd1 hd
  go_wp2_with fail
  go_loopw [5, 6] (fun o i wr => ∃ (q : Nat) (xs : List Int), Hid (i = .int .i64 q ∧ xs.length + q = k ∧ xs.all Lb.isNum = true ∧ wr.ownsRow w.heap.size 3 1 o xs.length (xs.map (Value.int .i64)) ∧ Chg g (g + 1) w wr ∧ Dr wr g)) (fun _ i _ => (intOf i).toNat)
  case atStart => exact ⟨k, [], Lib.hid ⟨rfl, by simp, rfl, own1.out, hch, hd2⟩⟩
  case round =>
    obtain ⟨q, xs, hrel⟩ := hrel
    obtain ⟨rfl, hq, hall, hown, hch, hd⟩ := hrel.out
    have Hall := Lib.hid hall
    clear hrel own1 hd2 hall
    have hcs := hch.size
    by_cases hq0 : 0 < q
    · go_wp2_with fail
      refine (spec_l1Num _ g hd).mono ?_
      rintro e w3 ⟨_, rfl, ⟨x, rfl, hx⟩, hch2, hd2⟩
      have Hx := Lib.hid (show (xs ++ [x]).all Lb.isNum = true by
        rw [List.all_append, Hall.out]
        simp [isNum_of hx])
      have hown2 := owns_chg hown hch2 hlt
      have hch3 := hch.trans hch2
      have hcs3 := hch3.size
      clear hown hch hch2 hd hx
      go_wp2_with (at_builtin; refine wpl_app rfl _ _ 26 rfl w.heap.size 3 i0 _ 1 8 Try.underlying26 hif.out hz0.out hz1.out hz2.out rfl (by decide) (by decide) (hown2.alloc _) rfl (heap_alloc_new _ _) rfl rfl (by simp [Value.oneCell']) (by omega) (by simp; omega) ?_)
      intro v' w4 hown' hgrow hnb
      obtain ⟨h1, h2, h3⟩ := app_goodG hlt hown2 hch3 hd2 hown' hgrow
      have H1 := Lib.hid (show w4.ownsRow w.heap.size 3 1 v' (xs ++ [x]).length ((xs ++ [x]).map (Value.int .i64)) by rw [List.length_append, List.map_append]; exact h1)
      clear hown' hgrow hnb hown2 h1 hd2 hch3
      go_wp2_with fail
      go_roundw
      case rel => exact ⟨q - 1, xs ++ [x], Lib.hid ⟨by go_num, by simp; omega, Hx.out, H1.out, h2, h3⟩⟩
      case measure => simp [intOf]; omega
    · go_wp2_with fail
      go_ret
      exact ⟨_, rfl, ⟨xs, .new hown, by omega, Hall.out⟩, hch, hd⟩
set_option maxRecDepth 20000 in
set_option maxHeartbeats 4000000 in
theorem spec_l1Bytes (n : Nat) (w : World) (g : Nat) (hd : Dr w g) (hn : n ≤ 1000) :
    Calls Try.prog 89 #[.pointer (some ⟨g, 0, none⟩), .int .i64 n] w (DrP w g fun v w' => ∃ l : List UInt8, GoodB w.heap.size w' v l ∧ l.length = n) := by
  have hlt := hd.lt
  obtain ⟨i0, hif, hz0, hz1, hz2⟩ := info_parts info_u8
  replace hif := Lib.hid hif
  replace hz0 := Lib.hid hz0
  replace hz1 := Lib.hid hz1
  replace hz2 := Lib.hid hz2
  have own0 := Lib.hid (World.ownsRow_made w (base := w.heap.size) (e := 5) (size := 1) #[] 0 (Nat.le_refl _) (by decide) rfl)
  go_enter Try.func89, Try.ntmps89
  go_wp2_with fail
  have hd1 := dr_new hd #[] 5
  have hch := chg_new g w #[] 5
  go_loopw [5, 6] (fun o i wr => ∃ (q : Nat) (xs : List UInt8), Hid (i = .int .i64 q ∧ xs.length = q ∧ q ≤ n ∧ wr.ownsRow w.heap.size 5 1 o q (bc xs) ∧ Chg g (g + 1) w wr ∧ Dr wr g)) (fun _ i _ => n - (intOf i).toNat)
  case atStart => exact ⟨0, [], Lib.hid ⟨rfl, rfl, by omega, own0.out, hch, hd1⟩⟩
  case round =>
    obtain ⟨q, xs, hrel⟩ := hrel
    clear own0 hd1 hch hd
    obtain ⟨rfl, hq, hqn, hown, hch, hd⟩ := hrel.out
    have Hq := Lib.hid hq
    clear hrel hq
    have hcs := hch.size
    by_cases hq0 : q < n
    · go_wp2_with fail
      refine (spec_l1Byte _ g hd).mono ?_
      rintro e w3 ⟨_, rfl, ⟨x, rfl, hx0, hx1⟩, hch2, hd2⟩
      obtain ⟨x, rfl⟩ := Int.eq_ofNat_of_zero_le hx0
      have hown2 := owns_chg hown hch2 hlt
      have hch3 := hch.trans hch2
      have hcs3 := hch3.size
      clear hown hch hch2 hd
      go_wp2_with (at_builtin; refine wpl_app rfl _ _ 22 rfl w.heap.size 5 i0 _ 1 1 Try.underlying22 hif.out hz0.out hz1.out hz2.out rfl (by decide) (by decide) (hown2.alloc _) rfl (heap_alloc_new _ _) rfl rfl (by simp [Value.oneCell']) (by omega) (by simp; omega) ?_)
      intro v' w4 hown' hgrow hnb
      obtain ⟨h1, h2, h3⟩ := app_goodG hlt hown2 hch3 hd2 hown' hgrow
      have H1 := Lib.hid (show w4.ownsRow w.heap.size 5 1 v' (q + 1) (bc (xs ++ [UInt8.ofNat x])) by
        have e : (x : Int) = ((UInt8.ofNat x).toNat : Int) := u8_of (by omega)
        rw [e] at h1
        rw [bc_app]
        exact h1)
      clear hown' hgrow hnb hown2 h1 hd2 hch3
      go_wp2_with fail
      go_roundw
      case rel => exact ⟨q + 1, xs ++ [UInt8.ofNat x], Lib.hid ⟨by go_num, by rw [List.length_append, Hq.out]; rfl, by omega, H1.out, h2, h3⟩⟩
      case measure => simp [intOf]; omega
    · go_wp2_with fail
      go_ret
      have h := Hq.out
      exact ⟨_, rfl, ⟨xs, by unfold GoodB; rw [h]; exact .new hown, by omega⟩, hch, hd⟩
end Go.Proofs.Yticimccfeohpcaa
