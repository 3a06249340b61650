/- A value written; values written one behind the other: contracts. -/
import Derived.Test.YticimccfeohpcaaAppS
import Derived.Test.YticimccfeohpcaaXV
import Derived.Test.YticimccfeohpcaaXN
import Derived.Test.YticimccfeohpcaaXA
namespace Go.Lb
open Go.RowKit
theorem txt_len {v : V} (h : valOk v = true) (ht : v.ty = 2) : v.s.size ≤ 6 := by
  have h1 := (valOk_2 h ht).1
  simp only [txtOk, Bool.and_eq_true, decide_eq_true_eq] at h1
  have : v.s.size = v.s.data.toList.length := by rw [Array.length_toList]; rfl
  omega
theorem grownBy_undrew {w w' : World} {row : Option Nat} (h : w.drew.grownBy w' row) : w.grownBy w' row := ⟨h.os, h.tape, h.output, h.size, h.block⟩
theorem after1 {w2 w3 : World} (h : Below w2.drew.heap.size w2.drew w3) : Below w2.heap.size w2 w3 := Below.undrew h
theorem after2 {w2 w3 : World} {X : Obj} (h : Below (w2.alloc X).drew.heap.size (w2.alloc X).drew w3) : Below w2.heap.size w2 w3 := (up_a1 w2 X).trans ((Below.undrew h).mono (up_a1 w2 X).size)
theorem after3 {w2 w3 : World} {X : Obj} {e s n : Nat} {v : Value} {xs : List Value} (h : w3.ownsRow (w2.alloc X).drew.heap.size e s v n xs) : w3.ownsRow (w2.heap.size + 1) e s v n xs := by
  have e1 : (w2.alloc X).drew.heap.size = w2.heap.size + 1 := by show (w2.alloc X).heap.size = _; simp
  rwa [e1] at h
theorem blk_of {w2 w3 : World} {X : Obj} (h : Below (w2.alloc X).drew.heap.size (w2.alloc X).drew w3) : w3.heap[w2.heap.size]? = some X :=
  (h.block w2.heap.size (by show w2.heap.size < (w2.alloc X).heap.size; simp)).trans (heap_alloc_new w2 X)
theorem below_go0 {w W0 w2 : World} (h : Below w.heap.size w W0) (hb : Below W0.heap.size W0 w2) : Below w.heap.size w w2 := h.trans (hb.mono h.size)
theorem ba_size (s : ByteArray) : s.size = s.data.toList.length := by rw [Array.length_toList]; rfl
theorem valB_app {v : V} (l : List UInt8) (h : valOk v = true) (ht : v.ty = 2) : l ++ valB v = (l ++ [UInt8.ofNat v.s.size]) ++ v.s.data.toList := by
  rw [valB_2 h ht]; simp
end Go.Lb
namespace Go.Proofs.Yticimccfeohpcaa
open Go.Sort Go.ChangeShapes Go.WideShapes Go.ChangeAt Go.RowKit Go.Lb
set_option maxHeartbeats 4000000 in
set_option maxRecDepth 20000 in
theorem spec_PutVal (l : List UInt8) (x : Value) (v : V) (w : World) {lo hi : Nat} (hx : RdB w lo hi x l) (hhi : hi ≤ w.heap.size) (hn : l.length ≤ 100000000000) (hs : v.s.size ≤ maxLen) :
    Calls Try.prog 141 #[x, .agg #[.int .i64 v.ty, .int .i64 v.n, .string v.s]] w fun e w' => ∃ r, e = .returned r ∧ Own 5 1 w' w.heap.size w'.heap.size r (l ++ valB v).length (bc (l ++ valB v)) ∧ Below w.heap.size w w' := by
  obtain ⟨A, c, rfl, hl, hl2⟩ := hx.form
  obtain ⟨i0, hif, hz0, hz1, hz2⟩ := info_parts info_u8
  replace hif := Lib.hid hif
  replace hz0 := Lib.hid hz0
  replace hz1 := Lib.hid hz1
  replace hz2 := Lib.hid hz2
  obtain ⟨R, hR⟩ : ∃ R, l ++ valB v = R := ⟨_, rfl⟩
  rw [hR]
  have HR := Lib.hid hR
  clear hR
  have hN := Lib.hid ((hx.below (up_a2 w (.cells #[.int .i64 v.ty, .int .i64 v.n, .string v.s] 66) (.cells #[] 5)) hhi).spread)
  have own0 := World.ownsRow_made (w.alloc (.cells #[.int .i64 v.ty, .int .i64 v.n, .string v.s] 66)) (base := w.heap.size + 1) (e := 5) (size := 1) #[] 0 (by simp) (by decide) rfl
  simp only [World.size_alloc] at own0
  have g0 := heap_alloc_new w (.cells #[.int .i64 v.ty, .int .i64 v.n, .string v.s] 66)
  have G0 := Lib.hid (((up_a1 (w.alloc (.cells #[.int .i64 v.ty, .int .i64 v.n, .string v.s] 66)) (.cells #[] 5)).block w.heap.size (by simp)).trans g0)
  have B0 := Lib.hid (up_a2 w (.cells #[.int .i64 v.ty, .int .i64 v.n, .string v.s] 66) (.cells #[] 5))
  clear g0
  go_enter Try.func141, Try.ntmps141
  go_wp2_with (at_builtin; refine wpl_spread rfl _ _ 22 rfl (w.heap.size + 1) 5 i0 _ 1 1 Try.underlying22 hif.out hz0.out hz1.out hz2.out rfl (by decide) (by decide) own0 rfl rfl (bc_len l) hN.out.2.1 hN.out.2.2 (bc_one l) (by omega) (by simp <;> omega) ?_)
  intro r1 w1 hown hgrow _
  have HB := Lib.hid (Below.grown B0.out hgrow (fun b hb => by have := (own0.lt b hb).1; omega) (Nat.le_refl _))
  have hc := (hgrow.block w.heap.size (by simp; omega) (by simp [Value.ownBlock])).trans G0.out
  try simp only [Nat.zero_add, List.nil_append] at hown
  have Hown := Lib.hid hown
  have Hc := Lib.hid hc
  have c0 := cell_of_row w1 _ 0 _ _ _ hc
  have c1 := cell_of_row w1 _ 1 _ _ _ hc
  have c2 := cell_of_row w1 _ 2 _ _ _ hc
  simp only [List.getElem?_toArray, List.getElem?_cons_zero, List.getElem?_cons_succ] at c0 c1 c2
  have hb1 : w.heap.size + 1 < w1.heap.size := by
    have := hgrow.size
    simp at this
    omega
  have hV := spec_ValOk v w1 hs
  obtain ⟨A1, k1, rfl, -, -, -⟩ := (Own.new hown).cells
  clear hgrow own0 hown hc G0 B0 hN
  cases hv : valOk v
  · rw [hv] at hV
    have HV := Lib.hid hV
    have H := Lib.hid (show R = l by rw [← HR.out, valB_no hv, List.append_nil])
    clear hV hv
    go_wp2_with fail
    refine HV.out.mono ?_
    rintro e w2 ⟨rfl, hb2⟩
    have HO := Lib.hid ((Own.new (owns_below Hown.out hb2)).more (Nat.le_succ _) (Nat.le_refl _))
    have HB2 := Lib.hid (below_go HB.out hb2)
    clear hb2
    go_wp2_with fail
    go_ret
    exact ⟨_, rfl, by rw [H.out]; exact HO.out, HB2.out⟩
  · rw [hv] at hV
    have HV := Lib.hid hV
    by_cases h1 : v.ty = 1
    · have hb : (v.ty == 1) = true := by simp [h1]
      have H := Lib.hid (show l ++ numB v.n = R by rw [← HR.out, valB_1 hv h1])
      clear hV hv h1
      go_wp2_with fail
      refine HV.out.mono ?_
      rintro e w2 ⟨rfl, hb2⟩
      have d0 := cell_keep c0 hb2
      have d1 := cell_keep c1 hb2
      have HB2 := Lib.hid (below_go HB.out hb2)
      have hP := spec_PutNum l _ v.n w2 (Own.new (owns_below Hown.out hb2)).rdBc (Nat.le_refl _) (by omega)
      rw [H.out] at hP
      have HP := Lib.hid hP
      clear hP
      have hs2 := HB2.out.size
      clear hb2 c0 c1 c2
      go_wp2_with fail
      refine HP.out.mono ?_
      rintro e w3 ⟨r, rfl, ho, hb3⟩
      have HB3 := Lib.hid (below_go HB2.out hb3)
      have HO := Lib.hid (ho.more hs2 (Nat.le_refl _))
      clear ho hb3
      obtain ⟨Ar, kr, rfl, -, -, -⟩ := HO.out.cells
      go_wp2_with fail
      go_ret
      exact ⟨_, rfl, HO.out, HB3.out⟩
    · have h2 : v.ty = 2 := (valOk_ty hv).resolve_left h1
      have hb : (v.ty == 1) = false := by simp [h1]
      have H := Lib.hid (show R = (l ++ [UInt8.ofNat v.s.size]) ++ v.s.data.toList by rw [← HR.out]; exact valB_app l hv h2)
      have hsz := txt_len hv h2
      clear hV hv h1 h2
      go_wp2_with fail
      refine HV.out.mono ?_
      rintro e w2 ⟨rfl, hb2⟩
      have d0 := cell_keep c0 hb2
      have d2 := cell_keep c2 hb2
      have HB2 := Lib.hid (below_go HB.out hb2)
      have HO2 := Lib.hid (owns_below Hown.out hb2)
      have hs2 : w.heap.size + 1 < w2.heap.size := Nat.lt_of_lt_of_le hb1 hb2.size
      have hne : ∀ g, (Value.slice A1 l.length k1).ownBlock = some g → g ≠ w.heap.size := fun g h => by have := (HO2.out.lt g h).1; omega
      clear hb2 c0 c1 c2
      go_wp2_with fail
      go_region_held3 (fun w' => w'.cell? ⟨w.heap.size, 2, none⟩ = some (.string v.s)) (first | exact d2 | exact m2 | exact n2 | exact cell_keep d2 (up_a1 _ _) | go_keep)
        (first
          | (refine step_app rfl _ _ 22 rfl (w.heap.size + 1) 5 i0 _ 1 1 Try.underlying22 hif.out hz0.out hz1.out hz2.out rfl (by decide) (by decide) ((owns_drew HO2.out).alloc _) rfl (heap_alloc_new _ _) rfl rfl (by simp [Value.oneCell']) (by omega) (by simp [World.drew]; omega) ?_; intro r3 w3 hown3 hgrow3 _; have m2 := cell_app (cell_keep (show w2.drew.cell? ⟨w.heap.size, 2, none⟩ = some (.string v.s) from d2) (up_a1 _ _)) hgrow3 hne; have hne3 : ∀ g, r3.ownBlock = some g → g ≠ w.heap.size := fun g h => by have := (hown3.lt g h).1; omega)
          | (refine step_str rfl _ _ 22 9 rfl (w.heap.size + 1) 5 i0 Try.underlying22 Try.underlying9 hif.out hz0.out hz1.out hz2.out hown3 rfl rfl (by omega) (by have := hgrow3.size; simp [World.drew] at this; omega) ?_; intro r4 w4 hown4 hgrow4; have n2 := cell_app m2 hgrow4 hne3)
          | fail)
      have hcc : IntKind.u8.wrap (v.s.size : Int) = ((UInt8.ofNat v.s.size).toNat : Int) := by rw [byte_of_nat (by omega), IntKind.wrap_u8]; omega
      have HO := Lib.hid (show Own 5 1 w4 w.heap.size w4.heap.size r4 R.length (bc R) by
        rw [H.out, bc_app, bc_app, List.length_append, List.length_append, ← ba_size]
        refine Own.more (Own.new ?_) (Nat.le_succ _) (Nat.le_refl _)
        rw [hcc] at hown4
        exact hown4)
      have HB4 := Lib.hid (Below.grown (Below.grown (HB2.out.alloc (Nat.le_of_lt (Nat.lt_trans (Nat.lt_succ_self _) hs2)) (.cells #[.int .u8 (IntKind.u8.wrap (v.s.size : Int))] 5)) (grownBy_undrew hgrow3) (fun b h => by have := (HO2.out.lt b h).1; omega) (Nat.le_refl _)) hgrow4 (fun b h => by have := (hown3.lt b h).1; omega) (Nat.le_refl _))
      clear hown4 hgrow4 hown3 hgrow3
      go_wp2_with fail
      go_ret
      exact ⟨_, rfl, HO.out, HB4.out⟩
set_option maxHeartbeats 4000000 in
set_option maxRecDepth 20000 in
theorem impl_PutVal (l : List UInt8) (x : Value) (v : V) (w : World) {lo hi : Nat} (hx : RdB w lo hi x l) (hhi : hi ≤ w.heap.size) (hn : l.length ≤ 100000000000) (hs : v.s.size ≤ maxLen) :
    Calls Try.prog 125 #[x, .agg #[.int .i64 v.ty, .int .i64 v.n, .string v.s]] w fun e w' => ∃ r, e = .returned r ∧ Own 5 1 w' w.heap.size w'.heap.size r (l ++ valB v).length (bc (l ++ valB v)) ∧ Below w.heap.size w w' := by
  obtain ⟨A, c, rfl, hl, hl2⟩ := hx.form
  obtain ⟨i0, hif, hz0, hz1, hz2⟩ := info_parts info_u8
  replace hif := Lib.hid hif
  replace hz0 := Lib.hid hz0
  replace hz1 := Lib.hid hz1
  replace hz2 := Lib.hid hz2
  obtain ⟨R, hR⟩ : ∃ R, l ++ valB v = R := ⟨_, rfl⟩
  rw [hR]
  have HR := Lib.hid hR
  clear hR
  have hx0 := hx.below (up_a1 w (.cells #[.int .i64 v.ty, .int .i64 v.n, .string v.s] 66)) hhi
  have hhi1 : hi ≤ w.heap.size + 1 := by omega
  have g0 := heap_alloc_new w (.cells #[.int .i64 v.ty, .int .i64 v.n, .string v.s] 66)
  have B0 := up_a1 w (.cells #[.int .i64 v.ty, .int .i64 v.n, .string v.s] 66)
  go_enter Try.func125, Try.ntmps125
  go_wp2_with fail
  obtain ⟨W0, hW0⟩ : ∃ W0, w.alloc (.cells #[.int .i64 v.ty, .int .i64 v.n, .string v.s] 66) = W0 := ⟨_, rfl⟩
  have hsz : (w.alloc (.cells #[.int .i64 v.ty, .int .i64 v.n, .string v.s] 66)).heap.size = w.heap.size + 1 := by simp
  have c0 := cell_of_row _ _ 0 _ _ _ g0
  have c1 := cell_of_row _ _ 1 _ _ _ g0
  have c2 := cell_of_row _ _ 2 _ _ _ g0
  simp only [List.getElem?_toArray, List.getElem?_cons_zero, List.getElem?_cons_succ] at c0 c1 c2
  rw [hW0] at hx0 g0 B0 hsz c0 c1 c2 ⊢
  clear hW0 g0 hx
  have HB0 := Lib.hid B0
  have hV := impl_ValOk v W0 hs
  have HSZ := Lib.hid hsz
  have hhi0 : hi ≤ W0.heap.size := by omega
  have hlt0 : w.heap.size < W0.heap.size := by omega
  clear B0 hsz
  cases hv : valOk v
  · rw [hv] at hV
    have HV := Lib.hid hV
    have H := Lib.hid (show R = l by rw [← HR.out, valB_no hv, List.append_nil])
    clear hV hv
    refine HV.out.mono ?_
    rintro e w2 ⟨rfl, hb2⟩
    have HB2 := Lib.hid (below_go0 HB0.out hb2)
    have HC := Lib.hid (impl_cloneBytes l _ w2 (hx0.below hb2 hhi0) (Nat.le_trans hhi0 hb2.size) (by omega))
    have hs2 := HB2.out.size
    clear hb2
    go_wp2_with fail
    refine HC.out.mono ?_
    rintro e w3 ⟨r, rfl, ho, hb3⟩
    have HB3 := Lib.hid (below_go HB2.out hb3)
    have HO := Lib.hid (ho.more hs2 (Nat.le_refl _))
    clear ho hb3
    obtain ⟨Ar, kr, rfl, -, -, -⟩ := HO.out.cells
    go_wp2_with fail
    go_ret
    exact ⟨_, rfl, by rw [H.out]; exact HO.out, HB3.out⟩
  · rw [hv] at hV
    have HV := Lib.hid hV
    by_cases h1 : v.ty = 1
    · have hb : (v.ty == 1) = true := by simp [h1]
      have H := Lib.hid (show l ++ numB v.n = R by rw [← HR.out, valB_1 hv h1])
      clear hV hv h1
      refine HV.out.mono ?_
      rintro e w2 ⟨rfl, hb2⟩
      have d0 := cell_keep c0 hb2
      have d1 := cell_keep c1 hb2
      have HB2 := Lib.hid (below_go0 HB0.out hb2)
      have hP := impl_PutNum l _ v.n w2 (hx0.below hb2 hhi0) (Nat.le_trans hhi0 hb2.size) (by omega)
      rw [H.out] at hP
      have HP := Lib.hid hP
      have hs2 := HB2.out.size
      clear hb2 c0 c1 c2 hP
      go_wp2_with fail
      refine HP.out.mono ?_
      rintro e w3 ⟨r, rfl, ho, hb3⟩
      have HB3 := Lib.hid (below_go HB2.out hb3)
      have HO := Lib.hid (ho.more hs2 (Nat.le_refl _))
      clear ho hb3
      obtain ⟨Ar, kr, rfl, -, -, -⟩ := HO.out.cells
      go_wp2_with fail
      go_ret
      exact ⟨_, rfl, HO.out, HB3.out⟩
    · have h2 : v.ty = 2 := (valOk_ty hv).resolve_left h1
      have hb : (v.ty == 1) = false := by simp [h1]
      have H := Lib.hid (show R = (l ++ [UInt8.ofNat v.s.size]) ++ v.s.data.toList by rw [← HR.out]; exact valB_app l hv h2)
      have hsz := txt_len hv h2
      clear hV hv h1 h2
      refine HV.out.mono ?_
      rintro e w2 ⟨rfl, hb2⟩
      have d0 := cell_keep c0 hb2
      have d2 := cell_keep c2 hb2
      have HB2 := Lib.hid (below_go0 HB0.out hb2)
      have hs2 : w.heap.size < w2.heap.size := Nat.lt_of_lt_of_le hlt0 hb2.size
      have hx2 := hx0.below hb2 hhi0
      have hhi2 : hi ≤ w2.heap.size := Nat.le_trans hhi0 hb2.size
      have HC := Lib.hid (fun W (h : Below w2.heap.size w2 W) => impl_cloneBytes l _ W (hx2.below h hhi2) (Nat.le_trans hhi2 h.size) (by omega))
      clear hb2 c0 c1 c2 hx0 hx2
      go_wp2_with fail
      go_region_held3 (fun w' => w'.cell? ⟨w.heap.size, 2, none⟩ = some (.string v.s)) (first | exact d2 | exact n2 | exact m2 | exact l2 | exact cell_keep d2 (up_a1 _ _) | exact cell_keep l2 (up_a1 _ _) | go_keep)
        (first
          | (go_at_call 94; ((with_reducible refine (HC.out _ (Below.refl _ _).drew).mono ?_); rintro e w3 ⟨r3, rfl, ho3, hb3⟩; have BW : Below w2.heap.size w2 w3 := after1 hb3; have l2 := cell_keep d2 BW; have hlo3 : ∀ b, r3.ownBlock = some b → w2.heap.size ≤ b := (fun b h => (ho3.1.lt b h).1); have HO3 := Lib.hid ho3.1; have hblk := True.intro; have hs3 := BW.size))
          | (go_at_call 94; ((with_reducible refine (HC.out _ (up_a1 _ _).drew).mono ?_); rintro e w3 ⟨r3, rfl, ho3, hb3⟩; have BW : Below w2.heap.size w2 w3 := after2 hb3; have l2 := cell_keep d2 BW; have hlo3 : ∀ b, r3.ownBlock = some b → w2.heap.size ≤ b := (fun b h => Nat.le_trans (up_a1 w2 _).size (ho3.1.lt b h).1); have HO3 := Lib.hid (after3 ho3.1); have hblk := blk_of hb3; have hs3 := BW.size))
          | (have _t : True := hblk; clear _t; refine step_app rfl _ _ 22 rfl w2.heap.size 5 i0 _ 1 1 Try.underlying22 hif.out hz0.out hz1.out hz2.out rfl (by decide) (by decide) ((HO3.out).alloc _) rfl (heap_alloc_new _ _) rfl rfl (by simp [Value.oneCell']) (by omega) (by simp; omega) ?_; intro r4 w4 hown4 hgrow4 _; have m2 := cell_app (cell_keep l2 (up_a1 _ _)) hgrow4 (fun g h => by have := hlo3 g h; omega); have HB4 := Lib.hid (Below.grown ((HB2.out.trans (BW.mono (by omega))).alloc (by omega) _) hgrow4 (fun b h => by have := hlo3 b h; omega) (Nat.le_refl _)); have hlo4 : w2.heap.size ≤ w4.heap.size := (by have := hgrow4.size; simp at this; omega))
          | (have _t : w3.heap[w2.heap.size]? = some _ := hblk; clear _t; refine step_app rfl _ _ 22 rfl (w2.heap.size + 1) 5 i0 _ 1 1 Try.underlying22 hif.out hz0.out hz1.out hz2.out rfl (by decide) (by decide) HO3.out rfl hblk rfl rfl (by simp [Value.oneCell']) (by omega) (Nat.le_trans (by show w2.heap.size + 1 ≤ (w2.alloc _).heap.size; simp) hb3.size) ?_; intro r4 w4 hown4 hgrow4 _; have m2 := cell_app l2 hgrow4 (fun g h => by have := hlo3 g h; omega); have HB4 := Lib.hid (Below.grown (HB2.out.trans (BW.mono (by omega))) hgrow4 (fun b h => by have := hlo3 b h; omega) (Nat.le_refl _)); have hlo4 : w2.heap.size + 1 ≤ w4.heap.size := (Nat.le_trans (Nat.le_trans (by show w2.heap.size + 1 ≤ (w2.alloc _).heap.size; simp) hb3.size) hgrow4.size))
          | (refine step_str rfl _ _ 22 9 rfl _ 5 i0 Try.underlying22 Try.underlying9 hif.out hz0.out hz1.out hz2.out hown4 rfl rfl (by omega) hlo4 ?_; intro r5 w5 hown5 hgrow5; have n2 := cell_app m2 hgrow5 (fun g h => by have := (hown4.lt g h).1; omega); have HB5 := Lib.hid (Below.grown HB4.out hgrow5 (fun b h => by have := (hown4.lt b h).1; omega) (Nat.le_refl _)))
          | fail)
      all_goals
        have hcc : IntKind.u8.wrap (v.s.size : Int) = ((UInt8.ofNat v.s.size).toNat : Int) := by rw [byte_of_nat (by omega), IntKind.wrap_u8]; omega
        have HO := Lib.hid (show Own 5 1 w5 w.heap.size w5.heap.size r5 R.length (bc R) by
          rw [H.out, bc_app, bc_app, List.length_append, List.length_append, ← ba_size]
          rw [hcc] at hown5
          exact Own.more (Own.new hown5) (by omega) (Nat.le_refl _))
        clear hown5 hgrow5 hown4 hgrow4
        go_wp2_with fail
        go_ret
        exact ⟨_, rfl, HO.out, HB5.out⟩
end Go.Proofs.Yticimccfeohpcaa
