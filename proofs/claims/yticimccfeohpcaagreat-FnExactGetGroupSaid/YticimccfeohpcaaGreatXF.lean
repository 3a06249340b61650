/- Frame-of-reference encodings: contracts. -/
import Derived.Test.YticimccfeohpcaaGreatXN
import Derived.Test.YticimccfeohpcaaGreatXV
import Derived.Test.YticimccfeohpcaaGreatXL
import Derived.Test.YticimccfeohpcaaGreatSh
import Derived.Test.YticimccfeohpcaaGreatXA
namespace Go.Lb
open Go.RowKit
def encFrame (l : List V) : List UInt8 := if typeOf l = 1 then numB (baseOf l) ++ [UInt8.ofNat (widthFor (offsets l))] ++ packB (offsets l) (widthFor (offsets l)) else []
theorem encFrame_yes {l : List V} (h : typeOf l = 1) : encFrame l = numB (baseOf l) ++ [UInt8.ofNat (widthFor (offsets l))] ++ packB (offsets l) (widthFor (offsets l)) := by rw [encFrame, if_pos h]
theorem encFrame_no {l : List V} (h : typeOf l ≠ 1) : encFrame l = [] := by rw [encFrame, if_neg h]
theorem packB_len_le (l : List Int) (v : Nat) (hv : v ≤ 31) (hl : l.length ≤ 1000000) : (packB l v).length ≤ 4000000 := by
  unfold packB
  split
  · rw [packM_len, Int.toNat_natCast]
    have := Nat.mul_le_mul hl hv
    omega
  · simp
theorem encFrame_len (l : List V) : (encFrame l).length ≤ 1000 := by
  by_cases h : typeOf l = 1
  · rw [encFrame_yes h]
    have h1 := numB_len (baseOf l)
    have h2 := typeOf_len64 h (by omega)
    have h3 := offsets_len l
    have h4 : (packB (offsets l) (widthFor (offsets l))).length ≤ 300 := by
      unfold packB
      split
      · rw [packM_len, Int.toNat_natCast]
        have := Nat.mul_le_mul (Nat.le_trans h3 h2) (widthFor_le (offsets l))
        omega
      · simp
    simp only [List.length_append, List.length_cons, List.length_nil]
    omega
  · rw [encFrame_no h]
    simp
theorem rdB_none (w : World) (lo hi : Nat) : RdB w lo hi (.slice none 0 0) [] := ⟨none, 0, rfl, Nat.le_refl _, by simp [maxLen], fun k hk => by simp at hk⟩
theorem rdB_empty (w : World) (g lo hi : Nat) : RdB w lo hi (.slice (some ⟨g, 0, none⟩) 0 0) [] := ⟨_, 0, rfl, Nat.le_refl _, by simp [maxLen], fun k hk => by simp at hk⟩
end Go.Lb
namespace Go.Proofs.YticimccfeohpcaaGreat
open Go.Sort Go.ChangeShapes Go.WideShapes Go.ChangeAt Go.RowKit Go.Lb
set_option maxHeartbeats 4000000 in
set_option maxRecDepth 20000 in
theorem spec_EncFrame (l : List V) (x : Value) (w : World) {lo hi : Nat} (hx : RdV w lo hi x l) (hhi : hi ≤ w.heap.size) (hs : ∀ v ∈ l, v.s.size ≤ maxLen) :
    Calls Tryz.prog 102 #[x] w fun e w' => ∃ r, e = .returned r ∧ Own 5 1 w' w.heap.size w'.heap.size r (encFrame l).length (bc (encFrame l)) ∧ Below w.heap.size w w' := by
  obtain ⟨A, c, rfl, hl, hl2⟩ := hx.form
  obtain ⟨i0, hif, hz0, hz1, hz2⟩ := info_parts info_u8
  replace hif := Lib.hid hif
  replace hz0 := Lib.hid hz0
  replace hz1 := Lib.hid hz1
  replace hz2 := Lib.hid hz2
  have Hs := Lib.hid hs
  clear hs
  have hT := spec_TypeOf l _ w hx hhi Hs.out
  by_cases h1 : typeOf l = 1
  case neg =>
    have HE := Lib.hid (encFrame_no h1)
    have hd : (typeOf l != 1) = true := by simp [h1]
    have HT := Lib.hid hT
    clear hT h1
    generalize typeOf l = t at HT hd
    go_enter Tryz.func102, Tryz.ntmps102
    go_wp2_with fail
    refine HT.out.mono ?_
    rintro e w1 ⟨rfl, hb1⟩
    go_wp2_with fail
    go_ret
    exact ⟨_, rfl, by rw [HE.out]; exact .new (World.ownsRow_made w1 (base := w.heap.size) (e := 5) (size := 1) #[] 0 hb1.size (by decide) rfl), hb1.alloc hb1.size _⟩
  rw [h1] at hT
  have HT := Lib.hid hT
  have HE := Lib.hid (encFrame_yes h1)
  have hl64 := typeOf_len64 h1 (by omega)
  have hol : (offsets l).length ≤ 1000000 := Nat.le_trans (offsets_len l) (by omega)
  have hbi := base_in h1
  have HBs := Lib.hid (fun W (h : Below w.heap.size w W) => spec_Base l _ W (hx.below h hhi) (Nat.le_trans hhi h.size))
  have HO := Lib.hid (fun W (h : Below w.heap.size w W) => spec_Offsets l _ W (hx.below h hhi) (Nat.le_trans hhi h.size) Hs.out)
  clear h1 hT
  generalize baseOf l = B at *
  generalize offsets l = q at *
  have hwd := widthFor_le q
  have HWf := Lib.hid (fun W v lo hi (h : RdI W lo hi v q) => q_spec_WidthFor q v W h)
  generalize widthFor q = wd at *
  have HPk := Lib.hid (packB_len_le q wd hwd hol)
  have hnB := numB_len B
  go_enter Tryz.func102, Tryz.ntmps102
  go_wp2_with fail
  refine HT.out.mono ?_
  rintro e w1 ⟨rfl, hb1⟩
  go_wp2_with fail
  refine (HO.out w1 hb1).mono ?_
  rintro e w2 ⟨vo, rfl, hown2, hb2'⟩
  have hb2 := hb1.trans (hb2'.mono hb1.size)
  have hro := hown2.rdI
  obtain ⟨Aq, cq, rfl, -, -⟩ := hro.form
  have Hro := Lib.hid hro
  clear hown2 hb2' hro
  go_wp2_with fail
  refine (HWf.out w2 _ _ _ Hro.out).mono ?_
  rintro e w1 ⟨rfl, rfl⟩
  go_wp2_with fail
  have up4 := up_a1 w2 (.cells #[] 5)
  have hb4 := hb2.trans (up4.mono hb2.size)
  have hre : RdB (w2.alloc (.cells #[] 5)) 0 0 (.slice (some ⟨w2.heap.size, 0, none⟩) 0 0) [] := rdB_empty _ _ _ _
  replace Hro := Lib.hid (Hro.out.below up4 (Nat.le_refl _))
  have hsz4 : w2.heap.size ≤ (w2.alloc (.cells #[] 5)).heap.size := up4.size
  generalize hW4 : w2.alloc (.cells #[] 5) = w4 at *
  clear hW4 up4
  refine (HBs.out w4 hb4).mono ?_
  rintro e w5 ⟨rfl, hb5⟩
  have hre5 : RdB w5 0 0 (.slice (some ⟨w2.heap.size, 0, none⟩) 0 0) [] := hre.below hb5 (Nat.zero_le _)
  have hb5w := hb4.trans (hb5.mono hb4.size)
  have hs5 := hb5.size
  replace Hro := Lib.hid (Hro.out.below hb5 (by omega))
  clear hb5 hre
  go_wp2_with fail
  refine (spec_PutNum [] _ B w5 hre5 (Nat.zero_le _) (by simp)).mono ?_
  rintro e w6 ⟨vn, rfl, hown6, hb6⟩
  rw [List.nil_append] at hown6
  have hs6 := hb6.size
  have hb6w := hb5w.trans (hb6.mono hb5w.size)
  replace Hro := Lib.hid (Hro.out.below hb6 (by omega))
  have hown := hown6.1
  obtain ⟨An, cn, rfl, -, -, -⟩ := hown6.cells
  generalize numB B = nb at *
  clear hb6 hre5 hown6
  go_wp2_with (at_builtin; refine wpl_app rfl _ _ 34 rfl w5.heap.size 5 i0 _ 1 1 Tryz.underlying34 hif.out hz0.out hz1.out hz2.out rfl (by decide) (by decide) (hown.alloc _) rfl (heap_alloc_new _ _) rfl rfl (by simp [Value.oneCell']) (by omega) (by simp; omega) ?_)
  intro v7 w7 hown7 hgrow hnb7
  have hb7w := Below.grown (hb6w.alloc hb6w.size _) hgrow (fun g hg => Nat.le_trans hb5w.size (hown.lt g hg).1) (Nat.le_refl _)
  have hs7 := hgrow.size
  simp only [World.size_alloc] at hs7
  have Hro7 := Hro.out.same (w' := w7) (fun g _ hg => ((hgrow.block g (by simp; omega) (fun e => by have := (hown.lt g e.symm).1; omega)).trans ((up_a1 w6 _).block g (by omega))))
  have HO7 := Lib.hid (show w7.ownsRow w5.heap.size 5 1 v7 (nb ++ [UInt8.ofNat wd]).length (bc (nb ++ [UInt8.ofNat wd])) by
    rw [bc_app, List.length_append]
    have e : (wd : Int) = ((UInt8.ofNat wd).toNat : Int) := u8_of (by omega)
    rw [e] at hown7
    exact hown7)
  obtain ⟨A7, c7, rfl, -, -, -⟩ := (Own.new hown7).cells
  clear hown hgrow hnb7 hown7 Hro
  go_wp2_with fail
  refine (spec_PackBits q _ (wd : Int) w7 Hro7 (by omega) hol).mono ?_
  rintro e w8 ⟨v8, rfl, hown8, hb8⟩
  have hs8 := hb8.size
  have hb8w := hb7w.trans (hb8.mono hb7w.size)
  have HO8 := Lib.hid (owns_below HO7.out hb8)
  obtain ⟨A8, c8, rfl, -, -, -⟩ := hown8.cells
  generalize packB q wd = pk at *
  have hN := Lib.hid (hown8.rdBc.spread)
  have hpk := HPk.out
  clear HO7 hb8 hown8 Hro7
  go_wp2_with (at_builtin; refine wpl_spread rfl _ _ 34 rfl w5.heap.size 5 i0 _ 1 1 Tryz.underlying34 hif.out hz0.out hz1.out hz2.out rfl (by decide) (by decide) HO8.out rfl rfl (bc_len pk) hN.out.2.1 hN.out.2.2 (bc_one pk) (by simp only [List.length_append, List.length_cons, List.length_nil]; omega) (by omega) ?_)
  intro v9 w9 hown9 hgrow _
  have hb9 := Below.grown hb8w hgrow (fun g hg => Nat.le_trans hb5w.size (HO8.out.lt g hg).1) (Nat.le_refl _)
  have HO9 := Lib.hid (show w9.ownsRow w5.heap.size 5 1 v9 (nb ++ [UInt8.ofNat wd] ++ pk).length (bc (nb ++ [UInt8.ofNat wd] ++ pk)) by
    rw [bc_app (nb ++ [UInt8.ofNat wd]), List.length_append, List.length_append]
    exact hown9)
  clear hgrow hown9
  go_wp2_with fail
  go_ret
  exact ⟨_, rfl, by rw [HE.out]; exact (Own.new HO9.out).more hb5w.size (Nat.le_refl _), hb9⟩
set_option maxHeartbeats 4000000 in
set_option maxRecDepth 20000 in
theorem impl_EncFrame (l : List V) (x : Value) (w : World) {lo hi : Nat} (hx : RdV w lo hi x l) (hhi : hi ≤ w.heap.size) (hs : ∀ v ∈ l, v.s.size ≤ maxLen) :
    Calls Tryz.prog 99 #[x] w fun e w' => ∃ r, e = .returned r ∧ Own 5 1 w' w.heap.size w'.heap.size r (encFrame l).length (bc (encFrame l)) ∧ Below w.heap.size w w' := by
  obtain ⟨A, c, rfl, hl, hl2⟩ := hx.form
  obtain ⟨i0, hif, hz0, hz1, hz2⟩ := info_parts info_u8
  replace hif := Lib.hid hif
  replace hz0 := Lib.hid hz0
  replace hz1 := Lib.hid hz1
  replace hz2 := Lib.hid hz2
  have Hs := Lib.hid hs
  clear hs
  have hT := impl_TypeOf l _ w hx hhi Hs.out
  by_cases h1 : typeOf l = 1
  case neg =>
    have HE := Lib.hid (encFrame_no h1)
    have hd : (typeOf l != 1) = true := by simp [h1]
    have HT := Lib.hid hT
    clear hT h1
    generalize typeOf l = t at HT hd
    go_enter Tryz.func99, Tryz.ntmps99
    go_wp2_with fail
    refine HT.out.mono ?_
    rintro e w1 ⟨rfl, hb1⟩
    go_wp2_with fail
    go_ret
    exact ⟨_, rfl, by rw [HE.out]; exact own_ints_none _ _ _ _, hb1⟩
  rw [h1] at hT
  have HT := Lib.hid hT
  have HE := Lib.hid (encFrame_yes h1)
  have hl64 := typeOf_len64 h1 (by omega)
  have hol : (offsets l).length ≤ 1000000 := Nat.le_trans (offsets_len l) (by omega)
  have hbi := base_in h1
  have HBs := Lib.hid (fun W (h : Below w.heap.size w W) => impl_Base l _ W (hx.below h hhi) (Nat.le_trans hhi h.size))
  have HO := Lib.hid (fun W (h : Below w.heap.size w W) => impl_Offsets l _ W (hx.below h hhi) (Nat.le_trans hhi h.size) Hs.out)
  clear h1 hT
  generalize baseOf l = B at *
  generalize offsets l = q at *
  have hwd := widthFor_le q
  have HWf := Lib.hid (fun W v lo hi (h : RdI W lo hi v q) => q_impl_WidthFor q v W h)
  generalize widthFor q = wd at *
  have HPk := Lib.hid (packB_len_le q wd hwd hol)
  have hnB := numB_len B
  go_enter Tryz.func99, Tryz.ntmps99
  go_wp2_with fail
  refine HT.out.mono ?_
  rintro e w1 ⟨rfl, hb1⟩
  go_wp2_with fail
  refine (HO.out w1 hb1).mono ?_
  rintro e w2 ⟨vo, rfl, hown2, hb2'⟩
  have hb2 := hb1.trans (hb2'.mono hb1.size)
  have hro := hown2.rdI
  obtain ⟨Aq, cq, rfl, -, -⟩ := hro.form
  have Hro := Lib.hid hro
  clear hown2 hb2' hro
  go_wp2_with fail
  refine (HWf.out w2 _ _ _ Hro.out).mono ?_
  rintro e w1 ⟨rfl, rfl⟩
  go_wp2_with fail
  have hb4 := hb2
  have hre : RdB w2 0 0 (.slice none 0 0) [] := rdB_none _ _ _
  obtain ⟨w4, hW4⟩ : ∃ w4, w4 = w2 := ⟨_, rfl⟩
  rw [← hW4] at hb4 hre Hro ⊢
  rw [← hW4] at hb2
  replace hsz4 : w2.heap.size ≤ w4.heap.size := by rw [hW4]; exact Nat.le_refl _
  refine (HBs.out w4 hb4).mono ?_
  rintro e w5 ⟨rfl, hb5⟩
  have hre5 : RdB w5 0 0 (.slice none 0 0) [] := hre.below hb5 (Nat.zero_le _)
  have hb5w := hb4.trans (hb5.mono hb4.size)
  have hs5 := hb5.size
  replace Hro := Lib.hid (Hro.out.below hb5 (by omega))
  clear hb5 hre
  go_wp2_with fail
  refine (impl_PutNum [] _ B w5 hre5 (Nat.zero_le _) (by simp)).mono ?_
  rintro e w6 ⟨vn, rfl, hown6, hb6⟩
  rw [List.nil_append] at hown6
  have hs6 := hb6.size
  have hb6w := hb5w.trans (hb6.mono hb5w.size)
  replace Hro := Lib.hid (Hro.out.below hb6 (by omega))
  have hown := hown6.1
  obtain ⟨An, cn, rfl, -, -, -⟩ := hown6.cells
  generalize numB B = nb at *
  clear hb6 hre5 hown6
  go_wp2_with (at_builtin; refine wpl_app rfl _ _ 34 rfl w5.heap.size 5 i0 _ 1 1 Tryz.underlying34 hif.out hz0.out hz1.out hz2.out rfl (by decide) (by decide) (hown.alloc _) rfl (heap_alloc_new _ _) rfl rfl (by simp [Value.oneCell']) (by omega) (by simp; omega) ?_)
  intro v7 w7 hown7 hgrow hnb7
  have hb7w := Below.grown (hb6w.alloc hb6w.size _) hgrow (fun g hg => Nat.le_trans hb5w.size (hown.lt g hg).1) (Nat.le_refl _)
  have hs7 := hgrow.size
  simp only [World.size_alloc] at hs7
  have Hro7 := Hro.out.same (w' := w7) (fun g _ hg => ((hgrow.block g (by simp; omega) (fun e => by have := (hown.lt g e.symm).1; omega)).trans ((up_a1 w6 _).block g (by omega))))
  have HO7 := Lib.hid (show w7.ownsRow w5.heap.size 5 1 v7 (nb ++ [UInt8.ofNat wd]).length (bc (nb ++ [UInt8.ofNat wd])) by
    rw [bc_app, List.length_append]
    have e : (wd : Int) = ((UInt8.ofNat wd).toNat : Int) := u8_of (by omega)
    rw [e] at hown7
    exact hown7)
  obtain ⟨A7, c7, rfl, -, -, -⟩ := (Own.new hown7).cells
  clear hown hgrow hnb7 hown7 Hro
  go_wp2_with fail
  refine (impl_PackBits q _ (wd : Int) w7 Hro7 (by omega) hol).mono ?_
  rintro e w8 ⟨v8, rfl, hown8, hb8⟩
  have hs8 := hb8.size
  have hb8w := hb7w.trans (hb8.mono hb7w.size)
  have HO8 := Lib.hid (owns_below HO7.out hb8)
  obtain ⟨A8, c8, rfl, -, -, -⟩ := hown8.cells
  generalize packB q wd = pk at *
  have hN := Lib.hid (hown8.rdBc.spread)
  have hpk := HPk.out
  clear HO7 hb8 hown8 Hro7
  go_wp2_with (at_builtin; refine wpl_spread rfl _ _ 34 rfl w5.heap.size 5 i0 _ 1 1 Tryz.underlying34 hif.out hz0.out hz1.out hz2.out rfl (by decide) (by decide) HO8.out rfl rfl (bc_len pk) hN.out.2.1 hN.out.2.2 (bc_one pk) (by simp only [List.length_append, List.length_cons, List.length_nil]; omega) (by omega) ?_)
  intro v9 w9 hown9 hgrow _
  have hb9 := Below.grown hb8w hgrow (fun g hg => Nat.le_trans hb5w.size (HO8.out.lt g hg).1) (Nat.le_refl _)
  have HO9 := Lib.hid (show w9.ownsRow w5.heap.size 5 1 v9 (nb ++ [UInt8.ofNat wd] ++ pk).length (bc (nb ++ [UInt8.ofNat wd] ++ pk)) by
    rw [bc_app (nb ++ [UInt8.ofNat wd]), List.length_append, List.length_append]
    exact hown9)
  clear hgrow hown9
  go_wp2_with fail
  go_ret
  exact ⟨_, rfl, by rw [HE.out]; exact (Own.new HO9.out).more hb5w.size (Nat.le_refl _), hb9⟩
end Go.Proofs.YticimccfeohpcaaGreat
namespace Go.Lb
open Go.RowKit
def raiseP (n x : Int) : Bool := inR x 0 2000000000 && decide (n + x ≤ 1000000000)
def raiseV (n x : Int) : V := ⟨1, n + x, ⟨#[]⟩⟩
def raisedQ (n : Int) (q : List Int) : Option (List V) := if isNum n && q.all (raiseP n) then some (q.map (raiseV n)) else none
theorem raised_no1 {n : Int} {q : List Int} (h : isNum n = false) : raisedQ n q = none := by rw [raisedQ, h]; rfl
theorem raised_no2 {n : Int} {q : List Int} {i : Nat} {x : Int} (h : q[i]? = some x) (hp : raiseP n x = false) : raisedQ n q = none := by
  have ha : q.all (raiseP n) = false := by
    rw [Bool.eq_false_iff]
    intro h3
    rw [List.all_eq_true] at h3
    rw [h3 x (mem_of_get h)] at hp
    cases hp
  rw [raisedQ, ha, Bool.and_false]
  rfl
theorem raised_yes {n : Int} {q : List Int} (h1 : isNum n = true) (h2 : q.all (raiseP n) = true) : raisedQ n q = some (q.map (raiseV n)) := by rw [raisedQ, h1, h2]; rfl
theorem raised_some {n : Int} {q : List Int} {l : List V} (h : raisedQ n q = some l) : isNum n = true ∧ q.all (raiseP n) = true ∧ l = q.map (raiseV n) := by
  rw [raisedQ] at h
  split at h
  · rename_i h1
    simp only [Bool.and_eq_true] at h1
    injection h with h
    exact ⟨h1.1, h1.2, h.symm⟩
  · cases h
theorem rais_step {q : List Int} {i : Nat} {n x : Int} (h : q[i]? = some x) : (q.take (i + 1)).flatMap (fun x => (raiseV n x).cells) = (q.take i).flatMap (fun x => (raiseV n x).cells) ++ [.int .i64 1, .int .i64 (n + x), .string ⟨#[]⟩] := by
  rw [take_of_get h, List.flatMap_append]
  simp [raiseV, V.cells]
theorem allp_step {q : List Int} {i : Nat} {n : Int} {p : Int → Bool} (h : q[i]? = some n) (h1 : (q.take i).all p = true) (h2 : p n = true) : (q.take (i + 1)).all p = true := by
  rw [take_of_get h, List.all_append, h1]
  simp [h2]
theorem own_none_s (w : World) (e s lo hi : Nat) : Own e s w lo hi (.slice none 0 0) 0 [] := ⟨⟨by simp, .inl ⟨rfl, rfl⟩⟩, fun g hg => by simp [Value.ownBlock] at hg⟩
theorem rais_cells (n : Int) (q : List Int) : (q.map (raiseV n)).flatMap V.cells = q.flatMap (fun x => (raiseV n x).cells) := by rw [List.flatMap_map]
end Go.Lb
namespace Go.Proofs.YticimccfeohpcaaGreat
open Go.Sort Go.ChangeShapes Go.WideShapes Go.ChangeAt Go.RowKit Go.Lb
set_option maxHeartbeats 4000000 in
set_option maxRecDepth 20000 in
theorem spec_Raised (n : Int) (q : List Int) (x : Value) (w : World) {lo hi : Nat} (hx : RdI w lo hi x q) (hhi : hi ≤ w.heap.size) (hq : q.length ≤ 1000000) :
    Calls Tryz.prog 126 #[.int .i64 n, x] w fun e w' => ∃ r, e = .returned (.tuple #[r, .bool (raisedQ n q).isSome]) ∧ Own 83 3 w' w.heap.size w'.heap.size r ((raisedQ n q).getD []).length (((raisedQ n q).getD []).flatMap V.cells) ∧ Below w.heap.size w w' := by
  obtain ⟨A, c, rfl, hl, hl2⟩ := hx.form
  obtain ⟨i0, hif, hz0, hz1, hz2⟩ := info_parts info_val
  replace hif := Lib.hid hif
  replace hz0 := Lib.hid hz0
  replace hz1 := Lib.hid hz1
  replace hz2 := Lib.hid hz2
  have own0 := World.ownsRow_made w (base := w.heap.size) (e := 83) (size := 3) #[] 0 (Nat.le_refl _) (by decide) rfl
  have hb0 := up_a1 w (.cells #[] 83)
  have hQ := fun W => q_spec_l1Right n W
  cases hI : Lb.isNum n
  · simp only [hI] at hQ
    have HQ := Lib.hid hQ
    have HG := Lib.hid (raised_no1 (q := q) hI)
    clear hQ hI
    go_enter Tryz.func126, Tryz.ntmps126
    go_wp2_with fail
    by_cases hz : q.length = 0
    · have hz' : (q.length : Int) = 0 := by omega
      go_loopw [6, 7] (fun o i wr => Hid (i = .int .i64 0 ∧ o = .slice (some ⟨w.heap.size, 0, none⟩) 0 0 ∧ wr = w.alloc (.cells #[] 83))) (fun _ _ _ => 0)
      case atStart => exact Lib.hid ⟨rfl, rfl, rfl⟩
      case round =>
        obtain ⟨rfl, rfl, rfl⟩ := hrel.out
        go_wp2_with fail
        refine (HQ.out _).mono ?_
        rintro e w1 ⟨rfl, rfl⟩
        go_wp2_with fail
        refine bodyPost_ret (v := .tuple #[.slice (some ⟨w.heap.size, 0, none⟩) 0 0, .bool false]) (by simp [results, Tryz.results126, go_sem]) rfl ⟨_, by rw [HG.out]; rfl, ?_, hb0⟩
        rw [HG.out]
        exact .new own0
    · have hz' : (0 : Int) < (q.length : Int) := by omega
      go_loopw [6, 7] (fun o i wr => Hid (i = .int .i64 0 ∧ o = .slice (some ⟨w.heap.size, 0, none⟩) 0 0 ∧ wr = w.alloc (.cells #[] 83))) (fun _ _ _ => 0)
      case atStart => exact Lib.hid ⟨rfl, rfl, rfl⟩
      case round =>
        obtain ⟨rfl, rfl, rfl⟩ := hrel.out
        go_wp2_with fail
        refine (HQ.out _).mono ?_
        rintro e w1 ⟨rfl, rfl⟩
        go_wp2_with fail
        refine bodyPost_ret (v := .tuple #[.slice (some ⟨(w.alloc (.cells #[] 83)).heap.size, 0, none⟩) 0 0, .bool false]) (by simp [results, Tryz.results126, go_sem]) rfl ⟨_, by rw [HG.out]; rfl, ?_, hb0.alloc hb0.size _⟩
        rw [HG.out]
        exact .new (World.ownsRow_made (w.alloc (.cells #[] 83)) (base := w.heap.size) (e := 83) (size := 3) #[] 0 hb0.size (by decide) rfl)
  · simp only [hI] at hQ
    have HQ := Lib.hid hQ
    have HI := Lib.hid hI
    have hnr := isNum_yes hI
    obtain ⟨hn0, hn1⟩ := hnr
    clear hQ hI
    go_enter Tryz.func126, Tryz.ntmps126
    go_wp2_with fail
    go_loopw [6, 7] (fun o i wr => ∃ j : Nat, Hid (i = .int .i64 j ∧ j ≤ q.length ∧ (q.take j).all (raiseP n) = true ∧ wr.ownsRow w.heap.size 83 3 o j ((q.take j).flatMap fun x => (raiseV n x).cells) ∧ Below w.heap.size w wr)) (fun _ i _ => q.length - (intOf i).toNat)
    case atStart => exact ⟨0, Lib.hid ⟨rfl, by omega, rfl, own0, hb0⟩⟩
    case round =>
      obtain ⟨j, hrel⟩ := hrel
      obtain ⟨rfl, hj, hall, hown, hb⟩ := hrel.out
      obtain ⟨Ao, co, rfl, -, -, -⟩ := (Own.new hown).cells
      have Hall := Lib.hid hall
      clear hrel hall
      have hbs := hb.size
      by_cases hjl : j < q.length
      · obtain ⟨b, off, x, rfl, -, hbl, hjk, e0⟩ := (hx.below hb hhi).at hjl
        have Hj := Lib.hid hjk
        clear hjk
        have hIn := q_spec_l1In x 0 2000000000 wr
        cases h1 : inR x 0 2000000000
        · rw [h1] at hIn
          have HIn := Lib.hid hIn
          have HG := Lib.hid (raised_no2 (n := n) Hj.out (by rw [raiseP, h1]; rfl))
          clear h1 hIn
          go_wp2_with fail
          refine (HQ.out _).mono ?_
          rintro e w1 ⟨rfl, rfl⟩
          go_wp2_with fail
          refine HIn.out.mono ?_
          rintro e w1 ⟨rfl, rfl⟩
          go_wp2_with fail
          refine bodyPost_ret (v := .tuple #[.slice (some ⟨wr.heap.size, 0, none⟩) 0 0, .bool false]) (by simp [results, Tryz.results126, go_sem]) rfl ⟨_, by rw [HG.out]; rfl, ?_, hb.alloc hb.size _⟩
          rw [HG.out]
          exact .new (World.ownsRow_made wr (base := w.heap.size) (e := 83) (size := 3) #[] 0 hb.size (by decide) rfl)
        · rw [h1] at hIn
          have HIn := Lib.hid hIn
          have hx01 := inR_yes h1
          obtain ⟨hx0, hx1⟩ := hx01
          by_cases h2 : n + x ≤ 1000000000
          · have Hall' := Lib.hid (allp_step Hj.out Hall.out (by rw [raiseP, h1, decide_eq_true h2]; rfl))
            have hd : decide (1000000000 < n + x) = false := decide_eq_false (by omega)
            have HC := Lib.hid (rais_step (n := n) Hj.out)
            clear h1 hIn
            go_wp2_with fail
            refine (HQ.out _).mono ?_
            rintro e w1 ⟨rfl, rfl⟩
            go_wp2_with fail
            refine HIn.out.mono ?_
            rintro e w1 ⟨rfl, rfl⟩
            go_wp2_with (at_builtin; refine wpl_app rfl _ _ 42 rfl w.heap.size 83 i0 _ 3 32 Tryz.underlying42 hif.out hz0.out hz1.out hz2.out rfl (by decide) (by decide) (hown.alloc _) rfl (heap_alloc_new _ _) rfl rfl (by simp [Value.oneCell']) (by omega) (by simp; omega) ?_)
            intro v' w3 hown' hgrow hnb
            have hb3 := Below.grown (hb.alloc hb.size _) hgrow (fun g hg => (hown.lt g hg).1) (Nat.le_refl _)
            have HO := Lib.hid (show w3.ownsRow w.heap.size 83 3 v' (j + 1) ((q.take (j + 1)).flatMap fun x => (raiseV n x).cells) by rw [HC.out]; exact hown')
            clear hown' hgrow hnb hown
            go_wp2_with fail
            go_roundw
            case rel => exact ⟨j + 1, Lib.hid ⟨by go_num, by omega, Hall'.out, HO.out, hb3⟩⟩
            case measure => simp [intOf]; omega
          · have HG := Lib.hid (raised_no2 (n := n) Hj.out (by rw [raiseP, h1, decide_eq_false h2]; rfl))
            have hd : decide (1000000000 < n + x) = true := decide_eq_true (by omega)
            clear h1 hIn
            go_wp2_with fail
            refine (HQ.out _).mono ?_
            rintro e w1 ⟨rfl, rfl⟩
            go_wp2_with fail
            refine HIn.out.mono ?_
            rintro e w1 ⟨rfl, rfl⟩
            go_wp2_with fail
            refine bodyPost_ret (v := .tuple #[.slice (some ⟨wr.heap.size, 0, none⟩) 0 0, .bool false]) (by simp [results, Tryz.results126, go_sem]) rfl ⟨_, by rw [HG.out]; rfl, ?_, hb.alloc hb.size _⟩
            rw [HG.out]
            exact .new (World.ownsRow_made wr (base := w.heap.size) (e := 83) (size := 3) #[] 0 hb.size (by decide) rfl)
      · obtain rfl : j = q.length := by omega
        have HG := Lib.hid (show raisedQ n q = some (q.map (raiseV n)) from raised_yes HI.out (by have h := Hall.out; rwa [List.take_length] at h))
        rw [List.take_length] at hown
        have Hown := Lib.hid hown
        clear hown
        go_wp2_with fail
        refine (HQ.out _).mono ?_
        rintro e w1 ⟨rfl, rfl⟩
        go_wp2_with fail
        refine bodyPost_ret (v := .tuple #[.slice Ao q.length co, .bool true]) (by simp [results, Tryz.results126, go_sem]) rfl ⟨_, by rw [HG.out]; rfl, ?_, hb⟩
        rw [HG.out]
        show Own _ 3 _ _ _ _ (q.map (raiseV n)).length ((q.map (raiseV n)).flatMap V.cells)
        rw [List.length_map, rais_cells]
        exact .new Hown.out
set_option maxHeartbeats 4000000 in
set_option maxRecDepth 20000 in
theorem impl_Raised (n : Int) (q : List Int) (x : Value) (w : World) {lo hi : Nat} (hx : RdI w lo hi x q) (hhi : hi ≤ w.heap.size) (hq : q.length ≤ 1000000) :
    Calls Tryz.prog 134 #[.int .i64 n, x] w fun e w' => ∃ r, e = .returned (.tuple #[r, .bool (raisedQ n q).isSome]) ∧ Own 83 3 w' w.heap.size w'.heap.size r ((raisedQ n q).getD []).length (((raisedQ n q).getD []).flatMap V.cells) ∧ Below w.heap.size w w' := by
  obtain ⟨A, c, rfl, hl, hl2⟩ := hx.form
  obtain ⟨i0, hif, hz0, hz1, hz2⟩ := info_parts info_val
  replace hif := Lib.hid hif
  replace hz0 := Lib.hid hz0
  replace hz1 := Lib.hid hz1
  replace hz2 := Lib.hid hz2
  have own0 := World.ownsRow_made w (base := w.heap.size) (e := 83) (size := 3) #[] 0 (Nat.le_refl _) (by decide) rfl
  have hb0 := up_a1 w (.cells #[] 83)
  have hQ := q_impl_isNum n w
  cases hI : Lb.isNum n
  · rw [hI] at hQ
    have HQ := Lib.hid hQ
    have HG := Lib.hid (raised_no1 (q := q) hI)
    have hbw : Below w.heap.size w w := Below.refl _ _
    clear hQ hI
    go_enter Tryz.func134, Tryz.ntmps134
    go_wp2_with fail
    refine HQ.out.mono ?_
    rintro e w1 ⟨rfl, rfl⟩
    go_wp2_with fail
    refine bodyPost_ret (v := .tuple #[.slice none 0 0, .bool false]) (by simp [results, Tryz.results134, go_sem]) rfl ⟨_, by rw [HG.out]; rfl, ?_, hbw⟩
    rw [HG.out]
    exact own_none_s _ _ _ _ _
  · rw [hI] at hQ
    have HQ := Lib.hid hQ
    have HI := Lib.hid hI
    have hnr := isNum_yes hI
    obtain ⟨hn0, hn1⟩ := hnr
    clear hQ hI
    go_enter Tryz.func134, Tryz.ntmps134
    go_wp2_with fail
    refine HQ.out.mono ?_
    rintro e w1 ⟨rfl, rfl⟩
    go_wp2_with fail
    go_loopw [6, 15] (fun o i wr => ∃ j : Nat, Hid (i = .int .i64 j ∧ j ≤ q.length ∧ (q.take j).all (raiseP n) = true ∧ wr.ownsRow w.heap.size 83 3 o j ((q.take j).flatMap fun x => (raiseV n x).cells) ∧ Below w.heap.size w wr)) (fun _ i _ => q.length - (intOf i).toNat)
    case atStart => exact ⟨0, Lib.hid ⟨rfl, by omega, rfl, own0, hb0⟩⟩
    case round =>
      obtain ⟨j, hrel⟩ := hrel
      obtain ⟨rfl, hj, hall, hown, hb⟩ := hrel.out
      obtain ⟨Ao, co, rfl, -, -, -⟩ := (Own.new hown).cells
      have Hall := Lib.hid hall
      clear hrel hall
      have hbs := hb.size
      by_cases hjl : j < q.length
      · obtain ⟨b, off, x, rfl, -, hbl, hjk, e0⟩ := (hx.below hb hhi).at hjl
        have Hj := Lib.hid hjk
        clear hjk
        have hIn := q_impl_within x 0 2000000000 wr
        cases h1 : inR x 0 2000000000
        · rw [h1] at hIn
          have HIn := Lib.hid hIn
          have HG := Lib.hid (raised_no2 (n := n) Hj.out (by rw [raiseP, h1]; rfl))
          clear h1 hIn
          go_wp2_with fail
          refine HIn.out.mono ?_
          rintro e w1 ⟨rfl, rfl⟩
          go_wp2_with fail
          refine bodyPost_ret (v := .tuple #[.slice none 0 0, .bool false]) (by simp [results, Tryz.results134, go_sem]) rfl ⟨_, by rw [HG.out]; rfl, ?_, hb⟩
          rw [HG.out]
          exact own_none_s _ _ _ _ _
        · rw [h1] at hIn
          have HIn := Lib.hid hIn
          have hx01 := inR_yes h1
          obtain ⟨hx0, hx1⟩ := hx01
          by_cases h2 : n + x ≤ 1000000000
          · have Hall' := Lib.hid (allp_step Hj.out Hall.out (by rw [raiseP, h1, decide_eq_true h2]; rfl))
            have hd : decide (1000000000 < n + x) = false := decide_eq_false (by omega)
            have HC := Lib.hid (rais_step (n := n) Hj.out)
            clear h1 hIn
            go_wp2_with fail
            refine HIn.out.mono ?_
            rintro e w1 ⟨rfl, rfl⟩
            go_wp2_with (at_builtin; refine wpl_app rfl _ _ 42 rfl w.heap.size 83 i0 _ 3 32 Tryz.underlying42 hif.out hz0.out hz1.out hz2.out rfl (by decide) (by decide) (hown.alloc _) rfl (heap_alloc_new _ _) rfl rfl (by simp [Value.oneCell']) (by omega) (by simp; omega) ?_)
            intro v' w3 hown' hgrow hnb
            have hb3 := Below.grown (hb.alloc hb.size _) hgrow (fun g hg => (hown.lt g hg).1) (Nat.le_refl _)
            have HO := Lib.hid (show w3.ownsRow w.heap.size 83 3 v' (j + 1) ((q.take (j + 1)).flatMap fun x => (raiseV n x).cells) by rw [HC.out]; exact hown')
            clear hown' hgrow hnb hown
            go_wp2_with fail
            go_roundw
            case rel => exact ⟨j + 1, Lib.hid ⟨by go_num, by omega, Hall'.out, HO.out, hb3⟩⟩
            case measure => simp [intOf]; omega
          · have HG := Lib.hid (raised_no2 (n := n) Hj.out (by rw [raiseP, h1, decide_eq_false h2]; rfl))
            have hd : decide (1000000000 < n + x) = true := decide_eq_true (by omega)
            clear h1 hIn
            go_wp2_with fail
            refine HIn.out.mono ?_
            rintro e w1 ⟨rfl, rfl⟩
            go_wp2_with fail
            refine bodyPost_ret (v := .tuple #[.slice none 0 0, .bool false]) (by simp [results, Tryz.results134, go_sem]) rfl ⟨_, by rw [HG.out]; rfl, ?_, hb⟩
            rw [HG.out]
            exact own_none_s _ _ _ _ _
      · obtain rfl : j = q.length := by omega
        have HG := Lib.hid (show raisedQ n q = some (q.map (raiseV n)) from raised_yes HI.out (by have h := Hall.out; rwa [List.take_length] at h))
        rw [List.take_length] at hown
        have Hown := Lib.hid hown
        clear hown
        go_wp2_with fail
        refine bodyPost_ret (v := .tuple #[.slice Ao q.length co, .bool true]) (by simp [results, Tryz.results134, go_sem]) rfl ⟨_, by rw [HG.out]; rfl, ?_, hb⟩
        rw [HG.out]
        show Own _ 3 _ _ _ _ (q.map (raiseV n)).length ((q.map (raiseV n)).flatMap V.cells)
        rw [List.length_map, rais_cells]
        exact .new Hown.out
end Go.Proofs.YticimccfeohpcaaGreat
namespace Go.Lb
open Go.RowKit
theorem conv_none {P : Program} {src dst e : TypeId} (hs : P.underlying src = some (.slice e)) (he : P.underlying e = some (.int .u8)) (hd : P.underlying dst = some .string) (w : World) (c : Nat) :
    (convert src dst (.slice none 0 c)).run P w = .ok (.string ⟨([] : List UInt8).toArray⟩) w := by
  rw [run_convert_bytes_string w src dst e _ _ _ hs he hd]
  simp [Conv.bytesToString]
  rfl
theorem RdB.conv {P : Program} {src dst e : TypeId} (hs : P.underlying src = some (.slice e)) (he : P.underlying e = some (.int .u8)) (hd : P.underlying dst = some .string) {w : World} {lo hi n c : Nat} {A : Option Addr} {l : List UInt8} (h : RdB w lo hi (.slice A n c) l) :
    (convert src dst (.slice A n c)).run P w = .ok (.string ⟨l.toArray⟩) w := by
  obtain ⟨A', c', e1, hn, hc, hE⟩ := h
  injection e1 with e1 e2 e3
  subst e1 e2 e3
  cases A with
  | none =>
    have hl : l = [] := by
      cases l with
      | nil => rfl
      | cons a l =>
        obtain ⟨b, off, ha, -⟩ := hE 0 (by simp)
        cases ha
    subst hl
    exact conv_none hs he hd w c
  | some ad =>
    cases l with
    | nil =>
      obtain ⟨b, off, tag⟩ := ad
      rw [run_convert_bytes_string w src dst e _ _ _ hs he hd]
      have hld := run_loadCells_list (P := P) (w := w) ⟨b, off, tag⟩ [] (fun j v hv => by simp at hv)
      rw [show ([] : List UInt8).length = 0 from rfl, run_bytesToString (P := P) w ⟨b, off, tag⟩ 0 c [] hld]
      rfl
    | cons x l =>
      obtain ⟨b, off, ha, -⟩ := hE 0 (by simp)
      injection ha with ha
      subst ha
      refine conv_bytes hs he hd w b off _ c _ rfl fun j y hj => ?_
      obtain ⟨b', off', ha, -, -, z, hz, hcell⟩ := hE j (List.getElem?_eq_some_iff.1 hj).1
      injection ha with ha
      injection ha with ha1 ha2
      subst ha1 ha2
      rw [hj] at hz
      injection hz with hz
      subst hz
      rw [Nat.mul_one] at hcell
      exact hcell
theorem ba_toList (l : List UInt8) : (⟨l.toArray⟩ : ByteArray).toList = l := by
  rw [Lib.toList_data]
theorem beq_eqd (a b : List UInt8) : (a == b) = eqd a b := by
  unfold eqd
  rw [Bool.eq_iff_iff]
  simp
end Go.Lb
namespace Go.Proofs.YticimccfeohpcaaGreat
open Go.Sort Go.ChangeShapes Go.WideShapes Go.ChangeAt Go.RowKit Go.Lb
set_option maxHeartbeats 1000000 in
theorem q_spec_l5Same (a b : List UInt8) (x y : Value) (w : World) {l1 h1 l2 h2 : Nat} (hx : RdB w l1 h1 x a) (hy : RdB w l2 h2 y b) :
    Calls Tryz.prog 85 #[x, y] w fun e w' => e = .returned (.bool (eqd a b)) ∧ w = w' := by
  obtain ⟨A, c, rfl, -, -⟩ := hx.form
  obtain ⟨A2, c2, rfl, -, -⟩ := hy.form
  have c1 := hx.conv Tryz.underlying34 Tryz.underlying5 Tryz.underlying9
  have c2 := hy.conv Tryz.underlying34 Tryz.underlying5 Tryz.underlying9
  have H := Lib.hid (show ((⟨a.toArray⟩ : ByteArray).toList == (⟨b.toArray⟩ : ByteArray).toList) = eqd a b by rw [ba_toList, ba_toList, beq_eqd])
  generalize (⟨a.toArray⟩ : ByteArray) = s at c1 H
  generalize (⟨b.toArray⟩ : ByteArray) = t at c2 H
  clear hx hy
  go_enter Tryz.func85, Tryz.ntmps85
  go_wp2_with fail
  go_ret
  exact ⟨ret_bool H.out, rfl⟩
theorem q_bytes_Equal (a b : List UInt8) (x y : Value) (w : World) {l1 h1 l2 h2 : Nat} (hx : RdB w l1 h1 x a) (hy : RdB w l2 h2 y b) :
    Calls Tryz.prog 79 #[x, y] w fun e w' => e = .returned (.bool (eqd a b)) ∧ w = w' := by
  obtain ⟨A, c, rfl, -, -⟩ := hx.form
  obtain ⟨A2, c2, rfl, -, -⟩ := hy.form
  refine (Go.Proofs.Tryz.bytes_Equal_strs _ _ _ _ w (hx.conv Tryz.underlying34 Tryz.underlying5 Tryz.underlying9) (hy.conv Tryz.underlying34 Tryz.underlying5 Tryz.underlying9)).mono ?_
  rintro e w' ⟨rfl, rfl⟩
  exact ⟨ret_bool (by rw [ba_toList, ba_toList, beq_eqd]), rfl⟩
def decRes (ok : Bool) (v : Value) : Value := if ok then v else .slice none 0 0
def decOk (b enc : List UInt8) (k : Int) (n : Nat) : Bool := inR k 1 64 && (decide ((n : Int) = k) && eqd b enc)
set_option maxHeartbeats 2000000 in
set_option maxRecDepth 20000 in
theorem q_impl_decoded (b enc : List UInt8) (x y : Value) (k : Int) (A : Option Addr) (n c : Nat) (w : World) {l1 h1 l2 h2 : Nat} (hx : RdB w l1 h1 x b) (hy : RdB w l2 h2 y enc) :
    Calls Tryz.prog 90 #[x, .int .i64 k, .slice A n c, y] w fun e w' => e = .returned (.tuple #[decRes (decOk b enc k n) (.slice A n c), .bool (decOk b enc k n)]) ∧ w = w' := by
  obtain ⟨A1, c1, rfl, -, -⟩ := hx.form
  obtain ⟨A2, c2, rfl, -, -⟩ := hy.form
  have hQ := q_impl_within k 1 64 w
  have hE := Lib.hid (q_bytes_Equal b enc _ _ w hx hy)
  cases h1 : inR k 1 64
  · rw [h1] at hQ
    have HQ := Lib.hid hQ
    have HG := Lib.hid (show decOk b enc k n = false by rw [decOk, h1]; rfl)
    clear h1 hQ
    go_enter Tryz.func90, Tryz.ntmps90
    go_wp2_with fail
    refine HQ.out.mono ?_
    rintro e w1 ⟨rfl, rfl⟩
    go_wp2_with fail
    refine bodyPost_ret (v := .tuple #[.slice none 0 0, .bool false]) (by simp [results, Tryz.results90, go_sem]) rfl ⟨by rw [HG.out]; rfl, rfl⟩
  · rw [h1] at hQ
    have HQ := Lib.hid hQ
    by_cases h2 : (n : Int) = k
    · have hd : ((n : Int) != k) = false := by simp [h2]
      have HG0 := Lib.hid (show decOk b enc k n = eqd b enc by rw [decOk, h1, decide_eq_true h2]; rfl)
      clear h1 hQ h2
      cases h3 : eqd b enc
      · rw [h3] at hE
        have HG := Lib.hid (HG0.out.trans h3)
        clear h3
        go_enter Tryz.func90, Tryz.ntmps90
        go_wp2_with fail
        refine HQ.out.mono ?_
        rintro e w1 ⟨rfl, rfl⟩
        go_wp2_with fail
        refine hE.out.mono ?_
        rintro e w1 ⟨rfl, rfl⟩
        go_wp2_with fail
        refine bodyPost_ret (v := .tuple #[.slice none 0 0, .bool false]) (by simp [results, Tryz.results90, go_sem]) rfl ⟨by rw [HG.out]; rfl, rfl⟩
      · rw [h3] at hE
        have HG := Lib.hid (HG0.out.trans h3)
        clear h3
        go_enter Tryz.func90, Tryz.ntmps90
        go_wp2_with fail
        refine HQ.out.mono ?_
        rintro e w1 ⟨rfl, rfl⟩
        go_wp2_with fail
        refine hE.out.mono ?_
        rintro e w1 ⟨rfl, rfl⟩
        go_wp2_with fail
        refine bodyPost_ret (v := .tuple #[.slice A n c, .bool true]) (by simp [results, Tryz.results90, go_sem]) rfl ⟨by rw [HG.out]; rfl, rfl⟩
    · have hd : ((n : Int) != k) = true := by simp [h2]
      have HG := Lib.hid (show decOk b enc k n = false by rw [decOk, decide_eq_false h2]; simp)
      clear h1 hQ h2
      go_enter Tryz.func90, Tryz.ntmps90
      go_wp2_with fail
      refine HQ.out.mono ?_
      rintro e w1 ⟨rfl, rfl⟩
      go_wp2_with fail
      refine bodyPost_ret (v := .tuple #[.slice none 0 0, .bool false]) (by simp [results, Tryz.results90, go_sem]) rfl ⟨by rw [HG.out]; rfl, rfl⟩
end Go.Proofs.YticimccfeohpcaaGreat
namespace Go.Lb
open Go.RowKit
theorem RdB.drop {w : World} {lo hi b off n c k : Nat} {l : List UInt8} (h : RdB w lo hi (.slice (some ⟨b, off, none⟩) n c) l) (hk : k ≤ l.length) : RdB w lo hi (.slice (some ⟨b, off + k, none⟩) (l.length - k) (c - k)) (l.drop k) := by
  obtain ⟨A', c', e1, hn, hc, hE⟩ := h
  injection e1 with e1 e2 e3
  subst e1 e3
  refine ⟨some ⟨b, off + k, none⟩, c - k, by rw [List.length_drop], by rw [List.length_drop]; omega, by omega, fun i hi' => ?_⟩
  rw [List.length_drop] at hi'
  obtain ⟨b', off', ha, hl, hh, x, hx, h0⟩ := hE (k + i) (by omega)
  injection ha with ha
  injection ha with ha1 ha2
  subst ha1 ha2
  refine ⟨b, off + k, rfl, hl, hh, x, by rw [List.getElem?_drop]; exact hx, ?_⟩
  rw [← h0]
  congr 2
  omega
theorem RdB.dropIf {w : World} {lo hi b off n c k : Nat} {l : List UInt8} (h : RdB w lo hi (.slice (some ⟨b, off, none⟩) n c) l) (hk : k ≤ l.length) (hc : l.length ≤ c) : RdB w lo hi (.slice (if c = k then some ⟨b, off, none⟩ else some ⟨b, off + k, none⟩) (l.length - k) (c - k)) (l.drop k) := by
  split
  · have e : l.drop k = [] := List.drop_eq_nil_of_le (by omega)
    rw [e, show l.length - k = 0 by omega, show c - k = 0 by omega]
    exact ⟨_, 0, rfl, Nat.le_refl _, by simp [maxLen], fun j hj => by simp at hj⟩
  · exact h.drop hk
def decFrame (b : List UInt8) (k : Int) : Option (List V) := match rdNum b with
  | none => none
  | some (n, p) => match b[p]? with
    | none => none
    | some c => match unpackB (b.drop (p + 1)) (c.toNat : Int) k with
      | none => none
      | some q => match raisedQ n q with
        | none => none
        | some l => if inR k 1 64 && eqd (encFrame l) b then some l else none
theorem decF_1 {b : List UInt8} {k : Int} (h : rdNum b = none) : decFrame b k = none := by simp only [decFrame, h]
theorem decF_2 {b : List UInt8} {k n : Int} {p : Nat} (h : rdNum b = some (n, p)) (h2 : b[p]? = none) : decFrame b k = none := by simp only [decFrame, h, h2]
theorem decF_3 {b : List UInt8} {k n : Int} {p : Nat} {c : UInt8} (h : rdNum b = some (n, p)) (h2 : b[p]? = some c) (h3 : unpackB (b.drop (p + 1)) (c.toNat : Int) k = none) : decFrame b k = none := by simp only [decFrame, h, h2, h3]
theorem decF_4 {b : List UInt8} {k n : Int} {p : Nat} {c : UInt8} {q : List Int} (h : rdNum b = some (n, p)) (h2 : b[p]? = some c) (h3 : unpackB (b.drop (p + 1)) (c.toNat : Int) k = some q) (h4 : raisedQ n q = none) : decFrame b k = none := by simp only [decFrame, h, h2, h3, h4]
theorem decF_5 {b : List UInt8} {k n : Int} {p : Nat} {c : UInt8} {q : List Int} {l : List V} (h : rdNum b = some (n, p)) (h2 : b[p]? = some c) (h3 : unpackB (b.drop (p + 1)) (c.toNat : Int) k = some q) (h4 : raisedQ n q = some l) : decFrame b k = if inR k 1 64 && eqd (encFrame l) b then some l else none := by simp only [decFrame, h, h2, h3, h4]
theorem decF_k {b : List UInt8} {k : Int} (h : inR k 1 64 = false) : decFrame b k = none := by
  unfold decFrame
  split
  · rfl
  · split
    · rfl
    · split
      · rfl
      · split
        · rfl
        · rw [h]; rfl
theorem unpackB_len {b : List UInt8} {v k : Int} {q : List Int} (h : unpackB b v k = some q) : (q.length : Int) = k ∧ q.length ≤ 64 := by
  obtain ⟨⟨-, h2, -⟩, rfl⟩ := unpackB_some h
  have := inR_yes h2
  rw [numsAt_len]
  omega
theorem raised_len {n : Int} {q : List Int} {l : List V} (h : raisedQ n q = some l) : l.length = q.length ∧ ∀ v ∈ l, v.s.size ≤ maxLen := by
  obtain ⟨-, -, rfl⟩ := raised_some h
  refine ⟨by simp, fun v hv => ?_⟩
  obtain ⟨x, -, rfl⟩ := List.mem_map.1 hv
  exact Nat.zero_le _
theorem decFrame_len (b : List UInt8) (k : Int) : ((decFrame b k).getD []).length ≤ 64 := by
  unfold decFrame
  split
  · simp
  · split
    · simp
    · split
      · simp
      · rename_i q hu
        split
        · simp
        · rename_i l hra
          split
          · have h1 := (raised_len hra).1
            have h2 := (unpackB_len hu).2
            show l.length ≤ 64
            omega
          · simp
theorem eqd_comm {α : Type} [DecidableEq α] (a b : α) : eqd a b = eqd b a := by
  unfold eqd
  rw [Bool.eq_iff_iff]
  simp
  exact eq_comm
theorem encFrame_nil : encFrame [] = [] := by rw [encFrame, if_neg (by simp [typeOf])]
end Go.Lb
namespace Go.Proofs.YticimccfeohpcaaGreat
open Go.Sort Go.ChangeShapes Go.WideShapes Go.ChangeAt Go.RowKit Go.Lb
set_option maxHeartbeats 4000000 in
set_option maxRecDepth 20000 in
theorem spec_DecFrame (b : List UInt8) (x : Value) (k : Int) (w : World) {lo hi : Nat} (hx : RdB w lo hi x b) (hhi : hi ≤ w.heap.size) (hbl : b.length ≤ 1000000000) :
    Calls Tryz.prog 83 #[x, .int .i64 k] w fun e w' => ∃ r, e = .returned (.tuple #[r, .bool (decFrame b k).isSome]) ∧ Own 83 3 w' w.heap.size w'.heap.size r ((decFrame b k).getD []).length (((decFrame b k).getD []).flatMap V.cells) ∧ Below w.heap.size w w' := by
  obtain ⟨A, c, rfl, hl, hl2⟩ := hx.form
  have hb0 := up_a1 w (.cells #[] 83)
  have own0 := World.ownsRow_made w (base := w.heap.size) (e := 83) (size := 3) #[] 0 (Nat.le_refl _) (by decide) rfl
  have Own0 := Lib.hid (Own.new own0)
  clear own0
  have hx0 := hx.below hb0 hhi
  have hsz0 := hb0.size
  obtain ⟨W0, hW0⟩ : ∃ W0, (w.alloc (.cells #[] 83)) = W0 := ⟨_, rfl⟩
  rw [hW0] at hb0 Own0 hx0 hsz0
  have HW0 := Lib.hid hW0
  clear hW0
  have hbb : Below W0.heap.size W0 W0 := Below.refl _ _
  have HG1 := Lib.hid (q_spec_GetNum b _ 0 W0 hx0)
  cases hr : rdNum b with
  | none =>
    have HG := Lib.hid (decF_1 (k := k) hr)
    have HT := Lib.hid (by have h := HG1.out; rw [show (0 : Int) = ((0 : Nat) : Int) from rfl, getNum_none (p := 0) (by rw [List.drop_zero]; exact hr)] at h; exact h)
    clear HG1 hr
    go_enter Tryz.func83, Tryz.ntmps83
    go_wp2_with fail
    rw [HW0.out]
    refine HT.out.mono ?_
    rintro e w1 ⟨rfl, rfl⟩
    go_wp2_with fail
    refine bodyPost_ret (v := .tuple #[.slice (some ⟨w.heap.size, 0, none⟩) 0 0, .bool false]) (by simp [results, Tryz.results83, go_sem]) rfl ⟨_, by rw [HG.out]; rfl, ?_, hb0.trans (hbb.mono hb0.size)⟩
    rw [HG.out]
    exact (Own0.out.below hbb (Nat.le_refl _)).more (Nat.le_refl _) hbb.size
  | some np =>
    obtain ⟨n, p⟩ := np
    have HT := Lib.hid (by have h := HG1.out; rw [show (0 : Int) = ((0 : Nat) : Int) from rfl, getNum_some (p := 0) (by rw [List.drop_zero]; exact hr), Nat.zero_add] at h; exact h)
    clear HG1
    cases hc : b[p]? with
    | none =>
      have hpl : b.length ≤ p := List.getElem?_eq_none_iff.1 hc
      have hd : decide ((b.length : Int) ≤ (p : Int)) = true := decide_eq_true (by omega)
      have HG := Lib.hid (decF_2 (k := k) hr hc)
      clear hr hc
      go_enter Tryz.func83, Tryz.ntmps83
      go_wp2_with fail
      rw [HW0.out]
      refine HT.out.mono ?_
      rintro e w1 ⟨rfl, rfl⟩
      go_wp2_with fail
      refine bodyPost_ret (v := .tuple #[.slice (some ⟨w.heap.size, 0, none⟩) 0 0, .bool false]) (by simp [results, Tryz.results83, go_sem]) rfl ⟨_, by rw [HG.out]; rfl, ?_, hb0.trans (hbb.mono hb0.size)⟩
      rw [HG.out]
      exact (Own0.out.below hbb (Nat.le_refl _)).more (Nat.le_refl _) hbb.size
    | some cc =>
      have hpl : p < b.length := (List.getElem?_eq_some_iff.1 hc).1
      have hd : decide ((b.length : Int) ≤ (p : Int)) = false := decide_eq_false (by omega)
      obtain ⟨g, off, c', rfl, -, hgh, hc', e0⟩ := hx0.at hpl
      obtain rfl : cc = c' := by rw [hc] at hc'; injection hc'
      clear hc'
      have hcc := cc.toNat_lt
      obtain ⟨p1, hp1⟩ : ∃ p1, p + 1 = p1 := ⟨_, rfl⟩
      have hpe : (p : Int) + 1 = (p1 : Int) := by omega
      have hpw1 : IntKind.i64.wrap (p1 : Int) = (p1 : Int) := by rw [IntKind.wrap_i64]; omega
      have hpw2 : IntKind.i64.wrap ((p : Int) + 1) = (p1 : Int) := by rw [IntKind.wrap_i64]; omega
      have hcw : IntKind.i64.wrap (cc.toNat : Int) = (cc.toNat : Int) := by rw [IntKind.wrap_i64]; omega
      have f1 : (0 : Int) ≤ (p1 : Int) := by omega
      have f2 : (p1 : Int) ≤ (c : Int) := by omega
      have f3 : (p1 : Int) ≤ (b.length : Int) := by omega
      have f4 : (b.length : Int) ≤ (c : Int) := by omega
      have hdrop := hx0.dropIf (k := p1) (by omega) hl
      obtain ⟨AA, hAA⟩ : ∃ AA, (if c = p1 then some (⟨g, off, none⟩ : Addr) else some ⟨g, off + p1, none⟩) = AA := ⟨_, rfl⟩
      rw [hAA] at hdrop
      have HU := Lib.hid (fun W (h : Below W0.heap.size W0 W) => spec_UnpackBits (b.drop p1) _ (cc.toNat : Int) k W (hdrop.below h (by omega)) (Nat.le_trans (by omega) h.size) (by rw [List.length_drop]; omega))
      have Hp1 := Lib.hid hp1
      have hcm : c ≤ maxLen := hl2
      clear hdrop
      have hI := q_spec_l1In k 1 64 W0
      cases hk : inR k 1 64
      · rw [hk] at hI
        have HI := Lib.hid hI
        have HG := Lib.hid (decF_k (b := b) hk)
        clear hr hc hk hI HU hp1
        go_enter Tryz.func83, Tryz.ntmps83
        go_wp2_with fail
        rw [HW0.out]
        refine HT.out.mono ?_
        rintro e w1 ⟨rfl, rfl⟩
        go_wp2_with fail
        refine HI.out.mono ?_
        rintro e w1 ⟨rfl, rfl⟩
        go_wp2_with fail
        refine bodyPost_ret (v := .tuple #[.slice (some ⟨w.heap.size, 0, none⟩) 0 0, .bool false]) (by simp [results, Tryz.results83, go_sem]) rfl ⟨_, by rw [HG.out]; rfl, ?_, hb0.trans (hbb.mono hb0.size)⟩
        rw [HG.out]
        exact (Own0.out.below hbb (Nat.le_refl _)).more (Nat.le_refl _) hbb.size
      · rw [hk] at hI
        have HI := Lib.hid hI
        have Hk := Lib.hid hk
        have Hr := Lib.hid hr
        have Hc := Lib.hid hc
        clear hr hc hk hI hp1
        go_enter Tryz.func83, Tryz.ntmps83
        go_wp2_with fail
        rw [HW0.out]
        refine HT.out.mono ?_
        rintro e w1 ⟨rfl, rfl⟩
        go_wp2_with fail
        refine HI.out.mono ?_
        rintro e w1 ⟨rfl, rfl⟩
        go_wp2_with fail
        go_region_held3 (fun w' => w'.cell? ⟨g, off + p, none⟩ = some (.int .u8 (cc.toNat : Int))) (first | exact e0 | exact cell_keep ‹_› hbu) (first | (go_at_call 123; ((with_reducible refine (HU.out _ (Below.refl _ _).drew).mono ?_); rintro e wu ⟨r, rfl, hou, hbu⟩)))
        have hbu2 : Below W0.heap.size W0 wu := Below.undrew hbu
        have hri := hou.rdI
        clear hbu hou HU hAA hpw1 hpw2 hpe hcw f1 f2 f3 f4 e0
        obtain ⟨Ar, cr, rfl, -, -⟩ := hri.form
        cases hu : unpackB (b.drop p1) (cc.toNat : Int) k with
        | none =>
          have HG := Lib.hid (decF_3 Hr.out Hc.out (by rw [Hp1.out]; exact hu))
          simp only [hu, Option.isSome_none, Option.getD_none, List.length_nil] at hri ⊢
          have hR := Lib.hid (spec_Raised n [] _ wu hri (Nat.le_refl _) (by simp))
          clear hu hri
          go_wp2_with fail
          refine hR.out.mono ?_
          rintro e w3 ⟨r3, rfl, ho3, hb3⟩
          have hb3w := hbu2.trans (hb3.mono hbu2.size)
          generalize (raisedQ n []).isSome = may
          clear hb3 ho3
          go_wp2_with fail
          refine bodyPost_ret (v := .tuple #[.slice (some ⟨w.heap.size, 0, none⟩) 0 0, .bool false]) (by simp [results, Tryz.results83, go_sem]) rfl ⟨_, by rw [HG.out]; rfl, ?_, hb0.trans (hb3w.mono hb0.size)⟩
          rw [HG.out]
          exact (Own0.out.below hb3w (Nat.le_refl _)).more (Nat.le_refl _) hb3w.size
        | some q =>
          have Hu := Lib.hid hu
          simp only [hu, Option.isSome_some, Option.getD_some] at hri ⊢
          obtain ⟨hqk, hq64⟩ := unpackB_len hu
          have hR := spec_Raised n q _ wu hri (Nat.le_refl _) (by omega)
          clear hu hri hqk
          cases hra : raisedQ n q with
          | none =>
            have HG := Lib.hid (decF_4 Hr.out Hc.out (by rw [Hp1.out]; exact Hu.out) hra)
            simp only [hra, Option.isSome_none, Option.getD_none, List.length_nil] at hR
            have HR := Lib.hid hR
            clear hR hra
            go_wp2_with fail
            refine HR.out.mono ?_
            rintro e w3 ⟨r3, rfl, ho3, hb3⟩
            have hb3w := hbu2.trans (hb3.mono hbu2.size)
            clear hb3 ho3
            go_wp2_with fail
            refine bodyPost_ret (v := .tuple #[.slice (some ⟨w.heap.size, 0, none⟩) 0 0, .bool false]) (by simp [results, Tryz.results83, go_sem]) rfl ⟨_, by rw [HG.out]; rfl, ?_, hb0.trans (hb3w.mono hb0.size)⟩
            rw [HG.out]
            exact (Own0.out.below hb3w (Nat.le_refl _)).more (Nat.le_refl _) hb3w.size
          | some l =>
            have HG5 := Lib.hid (decF_5 Hr.out Hc.out (by rw [Hp1.out]; exact Hu.out) hra)
            have hrl := raised_len hra
            have Hrl := Lib.hid hrl.2
            have hl64 : l.length ≤ 64 := by omega
            simp only [hra, Option.isSome_some, Option.getD_some] at hR
            have HR := Lib.hid hR
            clear hR hra hrl
            go_wp2_with fail
            refine HR.out.mono ?_
            rintro e w3 ⟨r3, rfl, ho3, hb3⟩
            have hb3w := hbu2.trans (hb3.mono hbu2.size)
            have hrd3 := ho3.rdV
            obtain ⟨A3, c3, rfl, -, -⟩ := hrd3.form
            have Ho3 := Lib.hid ho3
            have HE := Lib.hid (spec_EncFrame l _ w3 hrd3 (Nat.le_refl _) Hrl.out)
            have hsu := hbu2.size
            clear hb3 ho3 hrd3
            go_wp2_with fail
            refine HE.out.mono ?_
            rintro e w4 ⟨r4, rfl, ho4, hb4⟩
            have hb4w := hb3w.trans (hb4.mono hb3w.size)
            have hre := ho4.rdBc
            obtain ⟨A4, c4, rfl, -, -⟩ := hre.form
            have hx4 := hx0.below hb4w (Nat.le_trans hhi hsz0)
            have hS := q_spec_l5Same (encFrame l) b _ _ w4 hre hx4
            have Ho4 := Lib.hid (Ho3.out.below hb4 (Nat.le_refl _))
            have hs4 := hb4.size
            have hs3 := hb3w.size
            clear Ho3 hb4 ho4 hx4 hre
            cases he : eqd (encFrame l) b
            · rw [he] at hS
              have HS := Lib.hid hS
              have HG := Lib.hid (show decFrame b k = none by rw [HG5.out, he, Bool.and_false]; rfl)
              clear hS he
              generalize encFrame l = en at *
              go_wp2_with fail
              refine HS.out.mono ?_
              rintro e w5 ⟨rfl, rfl⟩
              go_wp2_with fail
              refine bodyPost_ret (v := .tuple #[.slice (some ⟨w.heap.size, 0, none⟩) 0 0, .bool false]) (by simp [results, Tryz.results83, go_sem]) rfl ⟨_, by rw [HG.out]; rfl, ?_, hb0.trans (hb4w.mono hb0.size)⟩
              rw [HG.out]
              exact (Own0.out.below hb4w (Nat.le_refl _)).more (Nat.le_refl _) hb4w.size
            · rw [he] at hS
              have HS := Lib.hid hS
              have HG := Lib.hid (show decFrame b k = some l by rw [HG5.out, he, Hk.out]; rfl)
              clear hS he
              generalize encFrame l = en at *
              go_wp2_with fail
              refine HS.out.mono ?_
              rintro e w5 ⟨rfl, rfl⟩
              go_wp2_with fail
              refine bodyPost_ret (v := .tuple #[.slice A3 l.length c3, .bool true]) (by simp [results, Tryz.results83, go_sem]) rfl ⟨_, by rw [HG.out]; rfl, ?_, hb0.trans (hb4w.mono hb0.size)⟩
              rw [HG.out]
              exact Ho4.out.more (by omega) (by omega)
set_option maxHeartbeats 4000000 in
set_option maxRecDepth 20000 in
theorem impl_DecFrame (b : List UInt8) (x : Value) (k : Int) (w : World) {lo hi : Nat} (hx : RdB w lo hi x b) (hhi : hi ≤ w.heap.size) (hbl : b.length ≤ 1000000000) :
    Calls Tryz.prog 89 #[x, .int .i64 k] w fun e w' => ∃ r, e = .returned (.tuple #[r, .bool (decFrame b k).isSome]) ∧ Own 83 3 w' w.heap.size w'.heap.size r ((decFrame b k).getD []).length (((decFrame b k).getD []).flatMap V.cells) ∧ Below w.heap.size w w' := by
  obtain ⟨A, c, rfl, hl, hl2⟩ := hx.form
  have hx0 := hx
  have hsz0 := Nat.le_refl w.heap.size
  have hbb : Below w.heap.size w w := Below.refl _ _
  have HG1 := Lib.hid (q_impl_GetNum b _ 0 w hx0)
  cases hr : rdNum b with
  | none =>
    have HG := Lib.hid (decF_1 (k := k) hr)
    have HT := Lib.hid (by have h := HG1.out; rw [show (0 : Int) = ((0 : Nat) : Int) from rfl, getNum_none (p := 0) (by rw [List.drop_zero]; exact hr)] at h; exact h)
    clear HG1 hr
    go_enter Tryz.func89, Tryz.ntmps89
    go_wp2_with fail
    refine HT.out.mono ?_
    rintro e w1 ⟨rfl, rfl⟩
    go_wp2_with fail
    refine bodyPost_ret (v := .tuple #[.slice none 0 0, .bool false]) (by simp [results, Tryz.results89, go_sem]) rfl ⟨_, by rw [HG.out]; rfl, ?_, hbb⟩
    rw [HG.out]
    exact own_none_s _ _ _ _ _
  | some np =>
    obtain ⟨n, p⟩ := np
    have HT := Lib.hid (by have h := HG1.out; rw [show (0 : Int) = ((0 : Nat) : Int) from rfl, getNum_some (p := 0) (by rw [List.drop_zero]; exact hr), Nat.zero_add] at h; exact h)
    clear HG1
    cases hc : b[p]? with
    | none =>
      have hpl : b.length ≤ p := List.getElem?_eq_none_iff.1 hc
      have hd : decide ((b.length : Int) ≤ (p : Int)) = true := decide_eq_true (by omega)
      have HG := Lib.hid (decF_2 (k := k) hr hc)
      clear hr hc
      go_enter Tryz.func89, Tryz.ntmps89
      go_wp2_with fail
      refine HT.out.mono ?_
      rintro e w1 ⟨rfl, rfl⟩
      go_wp2_with fail
      refine bodyPost_ret (v := .tuple #[.slice none 0 0, .bool false]) (by simp [results, Tryz.results89, go_sem]) rfl ⟨_, by rw [HG.out]; rfl, ?_, hbb⟩
      rw [HG.out]
      exact own_none_s _ _ _ _ _
    | some cc =>
      have hpl : p < b.length := (List.getElem?_eq_some_iff.1 hc).1
      have hd : decide ((b.length : Int) ≤ (p : Int)) = false := decide_eq_false (by omega)
      obtain ⟨g, off, c', rfl, -, hgh, hc', e0⟩ := hx0.at hpl
      obtain rfl : cc = c' := by rw [hc] at hc'; injection hc'
      clear hc'
      have hcc := cc.toNat_lt
      obtain ⟨p1, hp1⟩ : ∃ p1, p + 1 = p1 := ⟨_, rfl⟩
      have hpe : (p : Int) + 1 = (p1 : Int) := by omega
      have hpw1 : IntKind.i64.wrap (p1 : Int) = (p1 : Int) := by rw [IntKind.wrap_i64]; omega
      have hpw2 : IntKind.i64.wrap ((p : Int) + 1) = (p1 : Int) := by rw [IntKind.wrap_i64]; omega
      have hcw : IntKind.i64.wrap (cc.toNat : Int) = (cc.toNat : Int) := by rw [IntKind.wrap_i64]; omega
      have f1 : (0 : Int) ≤ (p1 : Int) := by omega
      have f2 : (p1 : Int) ≤ (c : Int) := by omega
      have f3 : (p1 : Int) ≤ (b.length : Int) := by omega
      have f4 : (b.length : Int) ≤ (c : Int) := by omega
      have hdrop := hx0.dropIf (k := p1) (by omega) hl
      obtain ⟨AA, hAA⟩ : ∃ AA, (if c = p1 then some (⟨g, off, none⟩ : Addr) else some ⟨g, off + p1, none⟩) = AA := ⟨_, rfl⟩
      rw [hAA] at hdrop
      have HU := Lib.hid (fun W (h : Below w.heap.size w W) => impl_UnpackBits (b.drop p1) _ (cc.toNat : Int) k W (hdrop.below h (by omega)) (Nat.le_trans (by omega) h.size) (by rw [List.length_drop]; omega))
      have Hp1 := Lib.hid hp1
      have hcm : c ≤ maxLen := hl2
      clear hdrop
      have Hr := Lib.hid hr
      have Hc := Lib.hid hc
      clear hr hc hp1
      go_enter Tryz.func89, Tryz.ntmps89
      go_wp2_with fail
      refine HT.out.mono ?_
      rintro e w1 ⟨rfl, rfl⟩
      go_wp2_with fail
      go_region_held3 (fun w' => w'.cell? ⟨g, off + p, none⟩ = some (.int .u8 (cc.toNat : Int))) (first | exact e0 | exact cell_keep ‹_› hbu) (first | (go_at_call 131; ((with_reducible refine (HU.out _ (Below.refl _ _).drew).mono ?_); rintro e wu ⟨r, rfl, hou, hbu⟩)))
      have hbu2 : Below w.heap.size w wu := Below.undrew hbu
      have hri := hou.rdI
      clear hbu hou HU hAA hpw1 hpw2 hpe hcw f1 f2 f3 f4 e0
      obtain ⟨Ar, cr, rfl, -, -⟩ := hri.form
      cases hu : unpackB (b.drop p1) (cc.toNat : Int) k with
      | none =>
        have HG := Lib.hid (decF_3 Hr.out Hc.out (by rw [Hp1.out]; exact hu))
        simp only [hu, Option.isSome_none, Option.getD_none, List.length_nil] at hri ⊢
        clear hu hri
        go_wp2_with fail
        refine bodyPost_ret (v := .tuple #[.slice none 0 0, .bool false]) (by simp [results, Tryz.results89, go_sem]) rfl ⟨_, by rw [HG.out]; rfl, ?_, hbu2⟩
        rw [HG.out]
        exact own_none_s _ _ _ _ _
      | some q =>
        have Hu := Lib.hid hu
        simp only [hu, Option.isSome_some, Option.getD_some] at hri ⊢
        obtain ⟨hqk, hq64⟩ := unpackB_len hu
        have hR := impl_Raised n q _ wu hri (Nat.le_refl _) (by omega)
        clear hu hri
        have hL : ∃ L, (raisedQ n q).getD [] = L ∧ (∀ v ∈ L, v.s.size ≤ maxLen) ∧ L.length ≤ 64 ∧ (decFrame b k = if decOk b (encFrame L) k L.length then some L else none) := by
          cases hra : raisedQ n q with
          | none =>
            refine ⟨[], rfl, by simp, by simp, ?_⟩
            rw [decF_4 Hr.out Hc.out (by rw [Hp1.out]; exact Hu.out) hra]
            have : decOk b (encFrame []) k ([] : List V).length = false := by
              unfold decOk
              by_cases h0 : (0 : Int) = k
              · subst h0; rfl
              · rw [show (([] : List V).length : Int) = 0 from rfl, decide_eq_false h0]; simp
            rw [this]
            rfl
          | some l =>
            have hrl := raised_len hra
            refine ⟨l, rfl, hrl.2, by omega, ?_⟩
            rw [decF_5 Hr.out Hc.out (by rw [Hp1.out]; exact Hu.out) hra, decOk, decide_eq_true (show (l.length : Int) = k by omega), Bool.true_and, eqd_comm]
        obtain ⟨L, hL1, hL2, hL3, hL4⟩ := hL
        rw [hL1] at hR
        have HR := Lib.hid hR
        have HL2 := Lib.hid hL2
        have HL4 := Lib.hid hL4
        clear hR hL1 hL2 hL4 hqk
        generalize (raisedQ n q).isSome = may at HR
        go_wp2_with fail
        refine HR.out.mono ?_
        rintro e w3 ⟨r3, rfl, ho3, hb3⟩
        have hb3w := hbu2.trans (hb3.mono hbu2.size)
        have hrd3 := ho3.rdV
        obtain ⟨A3, c3, rfl, -, -⟩ := hrd3.form
        have Ho3 := Lib.hid ho3
        have HE := Lib.hid (impl_EncFrame L _ w3 hrd3 (Nat.le_refl _) HL2.out)
        have hsu := hbu2.size
        clear hb3 ho3 hrd3
        go_wp2_with fail
        refine HE.out.mono ?_
        rintro e w4 ⟨r4, rfl, ho4, hb4⟩
        have hb4w := hb3w.trans (hb4.mono hb3w.size)
        have hre := ho4.rdBc
        obtain ⟨A4, c4, rfl, -, -⟩ := hre.form
        have hx4 := hx0.below hb4w hhi
        have hS := q_impl_decoded b (encFrame L) _ _ k A3 L.length c3 w4 hx4 hre
        have Ho4 := Lib.hid (Ho3.out.below hb4 (Nat.le_refl _))
        have hs4 := hb4.size
        have hs3 := hb3w.size
        clear Ho3 hb4 ho4 hx4 hre
        generalize encFrame L = en at *
        cases he : decOk b en k L.length
        · rw [he] at hS
          have HS := Lib.hid hS
          have HG := Lib.hid (show decFrame b k = none by rw [HL4.out, he]; rfl)
          clear hS he
          go_wp2_with fail
          refine HS.out.mono ?_
          rintro e w5 ⟨rfl, rfl⟩
          rw [show decRes false (.slice A3 L.length c3) = .slice none 0 0 from rfl]
          go_wp2_with fail
          refine bodyPost_ret (v := .tuple #[.slice none 0 0, .bool false]) (by simp [results, Tryz.results89, go_sem]) rfl ⟨_, by rw [HG.out]; rfl, ?_, hb4w⟩
          rw [HG.out]
          exact own_none_s _ _ _ _ _
        · rw [he] at hS
          have HS := Lib.hid hS
          have HG := Lib.hid (show decFrame b k = some L by rw [HL4.out, he]; rfl)
          clear hS he
          go_wp2_with fail
          refine HS.out.mono ?_
          rintro e w5 ⟨rfl, rfl⟩
          rw [show decRes true (.slice A3 L.length c3) = .slice A3 L.length c3 from rfl]
          go_wp2_with fail
          refine bodyPost_ret (v := .tuple #[.slice A3 L.length c3, .bool true]) (by simp [results, Tryz.results89, go_sem]) rfl ⟨_, by rw [HG.out]; rfl, ?_, hb4w⟩
          rw [HG.out]
          exact Ho4.out.more (by omega) (by omega)
end Go.Proofs.YticimccfeohpcaaGreat
namespace Go.Lb
open Go.RowKit
def mostOf (q : List Int) : Int := q.foldl max 0
theorem most_step {q : List Int} {i : Nat} {x : Int} (h : q[i]? = some x) : mostOf (q.take (i + 1)) = max (mostOf (q.take i)) x := by
  unfold mostOf
  rw [take_of_get h, List.foldl_append]
  rfl
end Go.Lb
namespace Go.Proofs.YticimccfeohpcaaGreat
open Go.Sort Go.ChangeShapes Go.WideShapes Go.ChangeAt Go.RowKit Go.Lb
end Go.Proofs.YticimccfeohpcaaGreat
namespace Go.Lb
open Go.Proofs.YticimccfeohpcaaGreat
theorem foldl_lower_le (r : List V) (b : Int) : r.foldl lower b ≤ b ∧ (∀ v ∈ r, r.foldl lower b ≤ v.n) ∧ (r.foldl lower b = b ∨ ∃ v ∈ r, v.n = r.foldl lower b) := by
  induction r generalizing b with
  | nil => exact ⟨Int.le_refl _, by simp, .inl rfl⟩
  | cons a r ih =>
    obtain ⟨h1, h2, h3⟩ := ih (lower b a)
    have hl : lower b a ≤ b ∧ lower b a ≤ a.n ∧ (lower b a = b ∨ lower b a = a.n) := by unfold lower; split <;> omega
    rw [List.foldl_cons]
    generalize List.foldl lower (lower b a) r = q at h1 h2 h3 ⊢
    refine ⟨by omega, fun v hv => ?_, ?_⟩
    · rcases List.mem_cons.1 hv with e | hv
      · subst e; omega
      · exact h2 v hv
    · rcases h3 with h3 | ⟨v, hv, h3⟩
      · rcases hl.2.2 with h4 | h4
        · exact .inl (by omega)
        · exact .inr ⟨a, by simp, by omega⟩
      · exact .inr ⟨v, by simp [hv], h3⟩
theorem baseOf_le {l : List V} {v : V} (h : v ∈ l) : baseOf l ≤ v.n := by
  cases l with
  | nil => cases h
  | cons a r =>
    obtain ⟨h1, h2, -⟩ := foldl_lower_le r a.n
    rcases List.mem_cons.1 h with e | h
    · subst e; exact h1
    · exact h2 v h
theorem baseOf_mem {l : List V} (h : l ≠ []) : ∃ v ∈ l, v.n = baseOf l := by
  cases l with
  | nil => exact absurd rfl h
  | cons a r =>
    obtain ⟨-, -, h3⟩ := foldl_lower_le r a.n
    rcases h3 with h3 | ⟨v, hv, h3⟩
    · exact ⟨a, by simp, h3.symm⟩
    · exact ⟨v, by simp [hv], h3⟩
theorem offsets_in {l : List V} (h : typeOf l = 1) {x : Int} (hx : x ∈ offsets l) : 0 ≤ x ∧ x ≤ 2000000000 := by
  rw [offsets_yes h] at hx
  obtain ⟨v, hv, rfl⟩ := List.mem_map.1 hx
  have h1 := baseOf_le hv
  have h2 := ints_in h v hv
  have h3 := base_in h
  omega
theorem offsets_ok {l : List V} (h : typeOf l = 1) : packOk (offsets l) (widthFor (offsets l)) = true := by
  have hw := widthFor_le (offsets l)
  rw [packOk, inR_of (by omega) (by omega), Bool.true_and, List.all_eq_true]
  intro x hx
  have := offsets_in h hx
  have := widthFor_mem hx
  rw [fitsW, inR_of (by omega) (by omega), decide_eq_true (by omega)]
  rfl
theorem offsets_len1 {l : List V} (h : typeOf l = 1) : (offsets l).length = l.length := by rw [offsets_yes h, List.length_map]
theorem raised_offsets {l : List V} (h : typeOf l = 1) : raisedQ (baseOf l) (offsets l) = some l := by
  have hb := base_in h
  rw [raised_yes (isNum_of hb) (by
    rw [List.all_eq_true]
    intro x hx
    have h1 := offsets_in h hx
    rw [offsets_yes h] at hx
    obtain ⟨v, hv, rfl⟩ := List.mem_map.1 hx
    have h2 := ints_in h v hv
    rw [raiseP, inR_of h1.1 h1.2, decide_eq_true (by omega)]
    rfl), offsets_yes h, List.map_map]
  congr 1
  conv => rhs; rw [← List.map_id l]
  refine List.map_congr_left fun v hv => ?_
  obtain ⟨g1, g2⟩ := typeOf_mem h (by decide) v hv
  have g3 := (valOk_1 g1 g2).2
  show raiseV (baseOf l) (v.n - baseOf l) = v
  rw [raiseV, show baseOf l + (v.n - baseOf l) = v.n by omega]
  exact g3.symm
theorem zero_offsets {l : List V} (h : typeOf l = 1) : (0 : Int) ∈ offsets l := by
  have hne : l ≠ [] := fun e => by subst e; simp [typeOf] at h
  obtain ⟨v, hv, e⟩ := baseOf_mem hne
  rw [offsets_yes h]
  exact List.mem_map.2 ⟨v, hv, by omega⟩
theorem foldl_max_mem (q : List Int) (a : Int) : q.foldl max a = a ∨ q.foldl max a ∈ q := by
  induction q generalizing a with
  | nil => exact .inl rfl
  | cons x q ih =>
    rw [List.foldl_cons]
    rcases ih (max a x) with h | h
    · rw [h]
      by_cases hx : a ≤ x
      · right; rw [show max a x = x by omega]; simp
      · left; omega
    · right; simp [h]
theorem most_offsets {l : List V} (h : typeOf l = 1) : mostOf (offsets l) ∈ offsets l := by
  rcases foldl_max_mem (offsets l) 0 with h1 | h1
  · rw [mostOf, h1]; exact zero_offsets h
  · exact h1
theorem dec_encFrame {l : List V} (h : typeOf l = 1) : decFrame (encFrame l) l.length = some l := by
  have hl := typeOf_len64 h (by decide)
  have hp := typeOf_pos (l := l) (by omega)
  have hb := base_in h
  have hw := widthFor_le (offsets l)
  have hol := offsets_len1 h
  have hok := offsets_ok h
  have hbyte : (UInt8.ofNat (widthFor (offsets l))).toNat = widthFor (offsets l) := byte_of_nat (by omega)
  have h1 : rdNum (encFrame l) = some (baseOf l, (numB (baseOf l)).length) := by
    rw [encFrame_yes h, List.append_assoc]
    exact rdNum_num (isNum_of hb) _
  have h2 : (encFrame l)[(numB (baseOf l)).length]? = some (UInt8.ofNat (widthFor (offsets l))) := by
    rw [encFrame_yes h, List.append_assoc, List.getElem?_append_right (Nat.le_refl _), Nat.sub_self]
    rfl
  have h3 : unpackB ((encFrame l).drop ((numB (baseOf l)).length + 1)) ((UInt8.ofNat (widthFor (offsets l))).toNat : Int) (l.length : Int) = some (offsets l) := by
    rw [encFrame_yes h, ← List.drop_drop, List.append_assoc, List.drop_left, hbyte]
    have hu := unpackOk_pack hok (by omega)
    rw [hol] at hu
    have hn := numsAt_pack hok
    rw [hol] at hn
    show unpackB (packB (offsets l) (widthFor (offsets l))) (widthFor (offsets l)) l.length = _
    rw [unpackB_of hu]
    exact congrArg some hn
  rw [decF_5 h1 h2 h3 (raised_offsets h), inR_of (by omega) (by omega), eqd_self]
  rfl
theorem encFrame_ty {l : List V} (h : encFrame l ≠ []) : typeOf l = 1 := by
  by_cases e : typeOf l = 1
  · exact e
  · exact absurd (encFrame_no e) h
theorem enc_decFrame {b : List UInt8} {k : Int} {l : List V} (h : decFrame b k = some l) : encFrame l = b ∧ (l.length : Int) = k ∧ inR k 1 64 = true ∧ l.length ≤ 64 ∧ typeOf l = 1 := by
  cases h1 : rdNum b with
  | none => rw [decF_1 h1] at h; cases h
  | some np =>
    obtain ⟨n, p⟩ := np
    cases h2 : b[p]? with
    | none => rw [decF_2 h1 h2] at h; cases h
    | some c =>
      cases h3 : unpackB (b.drop (p + 1)) (c.toNat : Int) k with
      | none => rw [decF_3 h1 h2 h3] at h; cases h
      | some q =>
        cases h4 : raisedQ n q with
        | none => rw [decF_4 h1 h2 h3 h4] at h; cases h
        | some l' =>
          rw [decF_5 h1 h2 h3 h4] at h
          split at h
          · rename_i hc
            simp only [Bool.and_eq_true, eqd, decide_eq_true_eq] at hc
            injection h with h
            subst h
            obtain ⟨e1, e2⟩ := unpackB_len h3
            have e3 := (raised_len h4).1
            refine ⟨hc.2, by omega, hc.1, by omega, encFrame_ty fun e => ?_⟩
            rw [← hc.2, e] at h2
            simp at h2
          · cases h
end Go.Lb
