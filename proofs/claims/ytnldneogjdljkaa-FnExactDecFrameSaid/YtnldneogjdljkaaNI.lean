/- Frame-of-reference encodings: contracts. -/
import Derived.Test.YtnldneogjdljkaaNH
import Derived.Test.YtnldneogjdljkaaNG
import Derived.Test.YtnldneogjdljkaaS14
namespace Go.Lb
open Go.RowKit
def encFrame (l : List V) : List UInt8 := if typeOf l = 1 then numB (baseOf l) ++ [UInt8.ofNat (widthFor (offsets l))] ++ packB (offsets l) (widthFor (offsets l)) else []
theorem encFrame_yes {l : List V} (h : typeOf l = 1) : encFrame l = numB (baseOf l) ++ [UInt8.ofNat (widthFor (offsets l))] ++ packB (offsets l) (widthFor (offsets l)) := by rw [encFrame, if_pos h]
theorem encFrame_no {l : List V} (h : typeOf l ≠ 1) : encFrame l = [] := by rw [encFrame, if_neg h]
theorem packB_len_le (l : List Int) (v : Nat) (hv : v ≤ 31) (hl : l.length ≤ 1000000) : (packB l v).length ≤ 4000000 := by
  unfold packB
  split
  · rw [packM_len, Int.toNat_natCast]
    have := Nat.mul_le_mul hl hv
    omega
  · simp
theorem encFrame_len (l : List V) : (encFrame l).length ≤ 1000 := by
  by_cases h : typeOf l = 1
  · rw [encFrame_yes h]
    have h1 := numB_len (baseOf l)
    have h2 := typeOf_len64 h (by omega)
    have h3 := offsets_len l
    have h4 : (packB (offsets l) (widthFor (offsets l))).length ≤ 300 := by
      unfold packB
      split
      · rw [packM_len, Int.toNat_natCast]
        have := Nat.mul_le_mul (Nat.le_trans h3 h2) (widthFor_le (offsets l))
        omega
      · simp
    simp only [List.length_append, List.length_cons, List.length_nil]
    omega
  · rw [encFrame_no h]
    simp
theorem rdB_none (w : World) (lo hi : Nat) : RdB w lo hi (.slice none 0 0) [] := ⟨none, 0, rfl, Nat.le_refl _, by simp [maxLen], fun k hk => by simp at hk⟩
theorem rdB_empty (w : World) (g lo hi : Nat) : RdB w lo hi (.slice (some ⟨g, 0, none⟩) 0 0) [] := ⟨_, 0, rfl, Nat.le_refl _, by simp [maxLen], fun k hk => by simp at hk⟩
end Go.Lb
namespace Go.Proofs.Ytnldneogjdljkaa
open Go.Sort Go.ChangeShapes Go.WideShapes Go.ChangeAt Go.RowKit Go.Lb
set_option maxHeartbeats 4000000 in
set_option maxRecDepth 20000 in
theorem spec_EncFrame (l : List V) (x : Value) (w : World) {lo hi : Nat} (hx : RdV w lo hi x l) (hhi : hi ≤ w.heap.size) (hs : ∀ v ∈ l, v.s.size ≤ maxLen) :
    Calls Try.prog 37 #[x] w fun e w' => ∃ r, e = .returned r ∧ Own 5 1 w' w.heap.size w'.heap.size r (encFrame l).length (bc (encFrame l)) ∧ Below w.heap.size w w' := by
  obtain ⟨A, c, rfl, hl, hl2⟩ := hx.form
  obtain ⟨i0, hif, hz0, hz1, hz2⟩ := info_parts info_u8
  replace hif := Lib.hid hif
  replace hz0 := Lib.hid hz0
  replace hz1 := Lib.hid hz1
  replace hz2 := Lib.hid hz2
  have Hs := Lib.hid hs
  clear hs
  have hT := spec_TypeOf l _ w hx hhi Hs.out
  by_cases h1 : typeOf l = 1
  case neg =>
    have HE := Lib.hid (encFrame_no h1)
    have hd : (typeOf l != 1) = true := by simp [h1]
    have HT := Lib.hid hT
    clear hT h1
    generalize typeOf l = t at HT hd
    go_enter Try.func37, Try.ntmps37
    go_wp2_with fail
    refine HT.out.mono ?_
    rintro e w1 ⟨rfl, hb1⟩
    go_wp2_with fail
    go_ret
    exact ⟨_, rfl, by rw [HE.out]; exact .new (World.ownsRow_made w1 (base := w.heap.size) (e := 5) (size := 1) #[] 0 hb1.size (by decide) rfl), hb1.alloc hb1.size _⟩
  rw [h1] at hT
  have HT := Lib.hid hT
  have HE := Lib.hid (encFrame_yes h1)
  have hl64 := typeOf_len64 h1 (by omega)
  have hol : (offsets l).length ≤ 1000000 := Nat.le_trans (offsets_len l) (by omega)
  have hbi := base_in h1
  have HBs := Lib.hid (fun W (h : Below w.heap.size w W) => spec_Base l _ W (hx.below h hhi) (Nat.le_trans hhi h.size))
  have HO := Lib.hid (fun W (h : Below w.heap.size w W) => spec_Offsets l _ W (hx.below h hhi) (Nat.le_trans hhi h.size) Hs.out)
  clear h1 hT
  generalize baseOf l = B at *
  generalize offsets l = q at *
  have hwd := widthFor_le q
  have HWf := Lib.hid (fun W v lo hi (h : RdI W lo hi v q) => q_spec_WidthFor q v W h)
  generalize widthFor q = wd at *
  have HPk := Lib.hid (packB_len_le q wd hwd hol)
  have hnB := numB_len B
  go_enter Try.func37, Try.ntmps37
  go_wp2_with fail
  refine HT.out.mono ?_
  rintro e w1 ⟨rfl, hb1⟩
  go_wp2_with fail
  refine (HO.out w1 hb1).mono ?_
  rintro e w2 ⟨vo, rfl, hown2, hb2'⟩
  have hb2 := hb1.trans (hb2'.mono hb1.size)
  have hro := hown2.rdI
  obtain ⟨Aq, cq, rfl, -, -⟩ := hro.form
  have Hro := Lib.hid hro
  clear hown2 hb2' hro
  go_wp2_with fail
  refine (HWf.out w2 _ _ _ Hro.out).mono ?_
  rintro e w1 ⟨rfl, rfl⟩
  go_wp2_with fail
  have up4 := up_a1 w2 (.cells #[] 5)
  have hb4 := hb2.trans (up4.mono hb2.size)
  have hre : RdB (w2.alloc (.cells #[] 5)) 0 0 (.slice (some ⟨w2.heap.size, 0, none⟩) 0 0) [] := rdB_empty _ _ _ _
  replace Hro := Lib.hid (Hro.out.below up4 (Nat.le_refl _))
  have hsz4 : w2.heap.size ≤ (w2.alloc (.cells #[] 5)).heap.size := up4.size
  generalize hW4 : w2.alloc (.cells #[] 5) = w4 at *
  clear hW4 up4
  refine (HBs.out w4 hb4).mono ?_
  rintro e w5 ⟨rfl, hb5⟩
  have hre5 : RdB w5 0 0 (.slice (some ⟨w2.heap.size, 0, none⟩) 0 0) [] := hre.below hb5 (Nat.zero_le _)
  have hb5w := hb4.trans (hb5.mono hb4.size)
  have hs5 := hb5.size
  replace Hro := Lib.hid (Hro.out.below hb5 (by omega))
  clear hb5 hre
  go_wp2_with fail
  refine (spec_PutNum [] _ B w5 hre5 (Nat.zero_le _) (by simp)).mono ?_
  rintro e w6 ⟨vn, rfl, hown6, hb6⟩
  rw [List.nil_append] at hown6
  have hs6 := hb6.size
  have hb6w := hb5w.trans (hb6.mono hb5w.size)
  replace Hro := Lib.hid (Hro.out.below hb6 (by omega))
  have hown := hown6.1
  obtain ⟨An, cn, rfl, -, -, -⟩ := hown6.cells
  generalize numB B = nb at *
  clear hb6 hre5 hown6
  go_wp2_with (at_builtin; refine wpl_app rfl _ _ 22 rfl w5.heap.size 5 i0 _ 1 1 Try.underlying22 hif.out hz0.out hz1.out hz2.out rfl (by decide) (by decide) (hown.alloc _) rfl (heap_alloc_new _ _) rfl rfl (by simp [Value.oneCell']) (by omega) (by simp; omega) ?_)
  intro v7 w7 hown7 hgrow hnb7
  have hb7w := Below.grown (hb6w.alloc hb6w.size _) hgrow (fun g hg => Nat.le_trans hb5w.size (hown.lt g hg).1) (Nat.le_refl _)
  have hs7 := hgrow.size
  simp only [World.size_alloc] at hs7
  have Hro7 := Hro.out.same (w' := w7) (fun g _ hg => ((hgrow.block g (by simp; omega) (fun e => by have := (hown.lt g e.symm).1; omega)).trans ((up_a1 w6 _).block g (by omega))))
  have HO7 := Lib.hid (show w7.ownsRow w5.heap.size 5 1 v7 (nb ++ [UInt8.ofNat wd]).length (bc (nb ++ [UInt8.ofNat wd])) by
    rw [bc_app, List.length_append]
    have e : (wd : Int) = ((UInt8.ofNat wd).toNat : Int) := u8_of (by omega)
    rw [e] at hown7
    exact hown7)
  obtain ⟨A7, c7, rfl, -, -, -⟩ := (Own.new hown7).cells
  clear hown hgrow hnb7 hown7 Hro
  go_wp2_with fail
  refine (spec_PackBits q _ (wd : Int) w7 Hro7 (by omega) hol).mono ?_
  rintro e w8 ⟨v8, rfl, hown8, hb8⟩
  have hs8 := hb8.size
  have hb8w := hb7w.trans (hb8.mono hb7w.size)
  have HO8 := Lib.hid (owns_below HO7.out hb8)
  obtain ⟨A8, c8, rfl, -, -, -⟩ := hown8.cells
  generalize packB q wd = pk at *
  have hN := Lib.hid (hown8.rdBc.spread)
  have hpk := HPk.out
  clear HO7 hb8 hown8 Hro7
  go_wp2_with (at_builtin; refine wpl_spread rfl _ _ 22 rfl w5.heap.size 5 i0 _ 1 1 Try.underlying22 hif.out hz0.out hz1.out hz2.out rfl (by decide) (by decide) HO8.out rfl rfl (bc_len pk) hN.out.2.1 hN.out.2.2 (bc_one pk) (by simp only [List.length_append, List.length_cons, List.length_nil]; omega) (by omega) ?_)
  intro v9 w9 hown9 hgrow _
  have hb9 := Below.grown hb8w hgrow (fun g hg => Nat.le_trans hb5w.size (HO8.out.lt g hg).1) (Nat.le_refl _)
  have HO9 := Lib.hid (show w9.ownsRow w5.heap.size 5 1 v9 (nb ++ [UInt8.ofNat wd] ++ pk).length (bc (nb ++ [UInt8.ofNat wd] ++ pk)) by
    rw [bc_app (nb ++ [UInt8.ofNat wd]), List.length_append, List.length_append]
    exact hown9)
  clear hgrow hown9
  go_wp2_with fail
  go_ret
  exact ⟨_, rfl, by rw [HE.out]; exact (Own.new HO9.out).more hb5w.size (Nat.le_refl _), hb9⟩
set_option maxHeartbeats 4000000 in
set_option maxRecDepth 20000 in
theorem impl_EncFrame (l : List V) (x : Value) (w : World) {lo hi : Nat} (hx : RdV w lo hi x l) (hhi : hi ≤ w.heap.size) (hs : ∀ v ∈ l, v.s.size ≤ maxLen) :
    Calls Try.prog 39 #[x] w fun e w' => ∃ r, e = .returned r ∧ Own 5 1 w' w.heap.size w'.heap.size r (encFrame l).length (bc (encFrame l)) ∧ Below w.heap.size w w' := by
  obtain ⟨A, c, rfl, hl, hl2⟩ := hx.form
  obtain ⟨i0, hif, hz0, hz1, hz2⟩ := info_parts info_u8
  replace hif := Lib.hid hif
  replace hz0 := Lib.hid hz0
  replace hz1 := Lib.hid hz1
  replace hz2 := Lib.hid hz2
  have Hs := Lib.hid hs
  clear hs
  have hT := impl_TypeOf l _ w hx hhi Hs.out
  by_cases h1 : typeOf l = 1
  case neg =>
    have HE := Lib.hid (encFrame_no h1)
    have hd : (typeOf l != 1) = true := by simp [h1]
    have HT := Lib.hid hT
    clear hT h1
    generalize typeOf l = t at HT hd
    go_enter Try.func39, Try.ntmps39
    go_wp2_with fail
    refine HT.out.mono ?_
    rintro e w1 ⟨rfl, hb1⟩
    go_wp2_with fail
    go_ret
    exact ⟨_, rfl, by rw [HE.out]; exact own_ints_none _ _ _ _, hb1⟩
  rw [h1] at hT
  have HT := Lib.hid hT
  have HE := Lib.hid (encFrame_yes h1)
  have hl64 := typeOf_len64 h1 (by omega)
  have hol : (offsets l).length ≤ 1000000 := Nat.le_trans (offsets_len l) (by omega)
  have hbi := base_in h1
  have HBs := Lib.hid (fun W (h : Below w.heap.size w W) => impl_Base l _ W (hx.below h hhi) (Nat.le_trans hhi h.size))
  have HO := Lib.hid (fun W (h : Below w.heap.size w W) => impl_Offsets l _ W (hx.below h hhi) (Nat.le_trans hhi h.size) Hs.out)
  clear h1 hT
  generalize baseOf l = B at *
  generalize offsets l = q at *
  have hwd := widthFor_le q
  have HWf := Lib.hid (fun W v lo hi (h : RdI W lo hi v q) => q_impl_WidthFor q v W h)
  generalize widthFor q = wd at *
  have HPk := Lib.hid (packB_len_le q wd hwd hol)
  have hnB := numB_len B
  go_enter Try.func39, Try.ntmps39
  go_wp2_with fail
  refine HT.out.mono ?_
  rintro e w1 ⟨rfl, hb1⟩
  go_wp2_with fail
  refine (HO.out w1 hb1).mono ?_
  rintro e w2 ⟨vo, rfl, hown2, hb2'⟩
  have hb2 := hb1.trans (hb2'.mono hb1.size)
  have hro := hown2.rdI
  obtain ⟨Aq, cq, rfl, -, -⟩ := hro.form
  have Hro := Lib.hid hro
  clear hown2 hb2' hro
  go_wp2_with fail
  refine (HWf.out w2 _ _ _ Hro.out).mono ?_
  rintro e w1 ⟨rfl, rfl⟩
  go_wp2_with fail
  have hb4 := hb2
  have hre : RdB w2 0 0 (.slice none 0 0) [] := rdB_none _ _ _
  obtain ⟨w4, hW4⟩ : ∃ w4, w4 = w2 := ⟨_, rfl⟩
  rw [← hW4] at hb4 hre Hro ⊢
  rw [← hW4] at hb2
  replace hsz4 : w2.heap.size ≤ w4.heap.size := by rw [hW4]; exact Nat.le_refl _
  refine (HBs.out w4 hb4).mono ?_
  rintro e w5 ⟨rfl, hb5⟩
  have hre5 : RdB w5 0 0 (.slice none 0 0) [] := hre.below hb5 (Nat.zero_le _)
  have hb5w := hb4.trans (hb5.mono hb4.size)
  have hs5 := hb5.size
  replace Hro := Lib.hid (Hro.out.below hb5 (by omega))
  clear hb5 hre
  go_wp2_with fail
  refine (impl_PutNum [] _ B w5 hre5 (Nat.zero_le _) (by simp)).mono ?_
  rintro e w6 ⟨vn, rfl, hown6, hb6⟩
  rw [List.nil_append] at hown6
  have hs6 := hb6.size
  have hb6w := hb5w.trans (hb6.mono hb5w.size)
  replace Hro := Lib.hid (Hro.out.below hb6 (by omega))
  have hown := hown6.1
  obtain ⟨An, cn, rfl, -, -, -⟩ := hown6.cells
  generalize numB B = nb at *
  clear hb6 hre5 hown6
  go_wp2_with (at_builtin; refine wpl_app rfl _ _ 22 rfl w5.heap.size 5 i0 _ 1 1 Try.underlying22 hif.out hz0.out hz1.out hz2.out rfl (by decide) (by decide) (hown.alloc _) rfl (heap_alloc_new _ _) rfl rfl (by simp [Value.oneCell']) (by omega) (by simp; omega) ?_)
  intro v7 w7 hown7 hgrow hnb7
  have hb7w := Below.grown (hb6w.alloc hb6w.size _) hgrow (fun g hg => Nat.le_trans hb5w.size (hown.lt g hg).1) (Nat.le_refl _)
  have hs7 := hgrow.size
  simp only [World.size_alloc] at hs7
  have Hro7 := Hro.out.same (w' := w7) (fun g _ hg => ((hgrow.block g (by simp; omega) (fun e => by have := (hown.lt g e.symm).1; omega)).trans ((up_a1 w6 _).block g (by omega))))
  have HO7 := Lib.hid (show w7.ownsRow w5.heap.size 5 1 v7 (nb ++ [UInt8.ofNat wd]).length (bc (nb ++ [UInt8.ofNat wd])) by
    rw [bc_app, List.length_append]
    have e : (wd : Int) = ((UInt8.ofNat wd).toNat : Int) := u8_of (by omega)
    rw [e] at hown7
    exact hown7)
  obtain ⟨A7, c7, rfl, -, -, -⟩ := (Own.new hown7).cells
  clear hown hgrow hnb7 hown7 Hro
  go_wp2_with fail
  refine (impl_PackBits q _ (wd : Int) w7 Hro7 (by omega) hol).mono ?_
  rintro e w8 ⟨v8, rfl, hown8, hb8⟩
  have hs8 := hb8.size
  have hb8w := hb7w.trans (hb8.mono hb7w.size)
  have HO8 := Lib.hid (owns_below HO7.out hb8)
  obtain ⟨A8, c8, rfl, -, -, -⟩ := hown8.cells
  generalize packB q wd = pk at *
  have hN := Lib.hid (hown8.rdBc.spread)
  have hpk := HPk.out
  clear HO7 hb8 hown8 Hro7
  go_wp2_with (at_builtin; refine wpl_spread rfl _ _ 22 rfl w5.heap.size 5 i0 _ 1 1 Try.underlying22 hif.out hz0.out hz1.out hz2.out rfl (by decide) (by decide) HO8.out rfl rfl (bc_len pk) hN.out.2.1 hN.out.2.2 (bc_one pk) (by simp only [List.length_append, List.length_cons, List.length_nil]; omega) (by omega) ?_)
  intro v9 w9 hown9 hgrow _
  have hb9 := Below.grown hb8w hgrow (fun g hg => Nat.le_trans hb5w.size (HO8.out.lt g hg).1) (Nat.le_refl _)
  have HO9 := Lib.hid (show w9.ownsRow w5.heap.size 5 1 v9 (nb ++ [UInt8.ofNat wd] ++ pk).length (bc (nb ++ [UInt8.ofNat wd] ++ pk)) by
    rw [bc_app (nb ++ [UInt8.ofNat wd]), List.length_append, List.length_append]
    exact hown9)
  clear hgrow hown9
  go_wp2_with fail
  go_ret
  exact ⟨_, rfl, by rw [HE.out]; exact (Own.new HO9.out).more hb5w.size (Nat.le_refl _), hb9⟩
end Go.Proofs.Ytnldneogjdljkaa
