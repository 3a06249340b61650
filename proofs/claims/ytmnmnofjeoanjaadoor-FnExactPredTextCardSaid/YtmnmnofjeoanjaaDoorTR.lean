/- Values and rows as text: contracts. -/
import Derived.Test.YtmnmnofjeoanjaaDoorTN
import Derived.Test.YtmnmnofjeoanjaaDoorXV
import Derived.Lib.ItoaLen
import Derived.Lib.Join
namespace Go.Proofs.YtmnmnofjeoanjaaDoor
open Go.Sort Go.ChangeShapes Go.WideShapes Go.ChangeAt Go.RowKit Go.Lb
theorem info_str : (Tryd.prog.info? 9).map (fun i => (i.zero, i.size, i.bytes)) = some (some (.string ⟨#[]⟩), 1, 16) := by kernel_rfl
theorem bgo0 {w W0 w2 : World} (h : Below w.heap.size w W0) (hb : Below W0.heap.size W0 w2) : Below w.heap.size w w2 := h.trans (hb.mono h.size)
theorem owns_formT {w : World} {base e s N : Nat} {v : Value} {xs : List Value} (h : w.ownsRow base e s v N xs) (hN : 0 < N) : ∃ g cap, v = .slice (some ⟨g, 0, none⟩) N cap ∧ base ≤ g ∧ g < w.heap.size ∧ N ≤ cap ∧ ∀ j u, xs[j]? = some u → w.cell? ⟨g, j, none⟩ = some u := by
  rcases h.2 with ⟨e1, e2⟩ | ⟨g, cap, cur, rfl, hb, hg, hnc, hcm, hsz, htk⟩
  · omega
  · refine ⟨g, cap, rfl, hb, (Array.getElem?_eq_some_iff.1 hg).1, hnc, fun j u hj => ?_⟩
    rw [cell_of_row w g _ cur _ _ hg, ← Array.getElem?_toList]
    rw [← htk, List.getElem?_take] at hj
    split at hj
    · exact hj
    · cases hj
theorem owns_one (w : World) {base : Nat} (e : TypeId) (x : Value) (hb : base ≤ w.heap.size) : (w.alloc (.cells #[x] e)).ownsRow base e 1 (.slice (some ⟨w.heap.size, 0, none⟩) 1 1) 1 [x] :=
  ⟨rfl, .inr ⟨w.heap.size, 1, #[x], rfl, hb, heap_alloc_new w _, Nat.le_refl _, by decide, rfl, by simp⟩⟩
theorem numText_len {n : Int} (h0 : -9223372036854775808 ≤ n) (h1 : n ≤ 9223372036854775807) : (numText n).size ≤ 21 := by
  have h := Lib.itoa_length_le n h0 h1
  show (Lib.itoa n).toArray.size ≤ 21
  simpa using h
def valText (v : V) : ByteArray := if valOk v then (if v.ty = 1 then numText v.n else ⟨#[39]⟩ ++ v.s) else ⟨#[]⟩
theorem valText_no {v : V} (h : valOk v = false) : valText v = ⟨#[]⟩ := by rw [valText, h]; rfl
theorem valText_1 {v : V} (h : valOk v = true) (h1 : v.ty = 1) : valText v = numText v.n := by rw [valText, if_pos h, if_pos h1]
theorem valText_2 {v : V} (h : valOk v = true) (h1 : ¬ v.ty = 1) : valText v = ⟨#[39]⟩ ++ v.s := by rw [valText, if_pos h, if_neg h1]
theorem txt_len6 {v : V} (h : valOk v = true) (ht : ¬ v.ty = 1) : v.s.size ≤ 6 := by
  unfold valOk at h
  rw [if_neg ht] at h
  split at h
  · simp only [Bool.and_eq_true, decide_eq_true_eq] at h
    exact h.2.1
  · cases h
theorem num_in {v : V} (h : valOk v = true) (h1 : v.ty = 1) : -1000000000 ≤ v.n ∧ v.n ≤ 1000000000 := by
  unfold valOk at h
  rw [if_pos h1, Bool.and_eq_true] at h
  exact inR_yes h.1
theorem valText_len (v : V) : (valText v).size ≤ 21 := by
  cases h : valOk v
  · rw [valText_no h]; exact Nat.zero_le _
  · by_cases h1 : v.ty = 1
    · rw [valText_1 h h1]
      have := num_in h h1
      exact numText_len (by omega) (by omega)
    · rw [valText_2 h h1, ByteArray.size_append]
      have := txt_len6 h h1
      show 1 + v.s.size ≤ 21
      omega
/-- The text of a row up to its k-th value. -/
def rowPart (r : R) (k : Nat) : ByteArray := ⟨(35 :: ((numText r.id).data.toList ++ Lib.joinTail [32] ((r.l.take k).map fun v => (valText v).data.toList))).toArray⟩
def rowText (r : R) : ByteArray := rowPart r r.l.length
theorem rowPart_zero (r : R) : rowPart r 0 = ⟨#[35]⟩ ++ numText r.id := by
  apply ByteArray.ext
  simp [rowPart, Lib.joinTail]
theorem rowPart_step {r : R} {k : Nat} {y : V} (h : r.l[k]? = some y) : rowPart r (k + 1) = (rowPart r k ++ ⟨#[32]⟩) ++ valText y := by
  apply ByteArray.ext
  simp [rowPart, Lib.joinTail, take_of_get h]
theorem rowPart_len (r : R) (h0 : -9223372036854775808 ≤ r.id ∧ r.id ≤ 9223372036854775807) : ∀ k, k ≤ r.l.length → (rowPart r k).size ≤ 22 + 22 * k
  | 0, _ => by
    have := numText_len h0.1 h0.2
    rw [rowPart_zero, ByteArray.size_append]
    show 1 + (numText r.id).size ≤ _
    omega
  | k + 1, h => by
    have ih := rowPart_len r h0 k (by omega)
    have hv := valText_len (r.l[k]'(by omega))
    rw [rowPart_step (y := r.l[k]'(by omega)) (List.getElem?_eq_getElem (by omega)), ByteArray.size_append, ByteArray.size_append]
    show _ + 1 + _ ≤ _
    omega
def rowWords (r : R) : List ByteArray := (⟨#[35]⟩ ++ numText r.id) :: r.l.map valText
theorem row_join (r : R) : (⟨(Lib.join ((rowWords r).map (·.data.toList)) [32]).toArray⟩ : ByteArray) = rowText r := by
  apply ByteArray.ext
  simp [rowText, rowPart, rowWords, Lib.join_cons, Lib.joinTail, Function.comp_def]
set_option maxHeartbeats 1000000 in
set_option maxRecDepth 20000 in
theorem spec_ValText (v : V) (w : World) (hs : v.s.size ≤ maxLen) (ht : Pow w) :
    Calls Tryd.prog 42 #[.agg #[.int .i64 v.ty, .int .i64 v.n, .string v.s]] w fun e w' => e = .returned (.string (valText v)) ∧ Below w.heap.size w w' := by
  have hb0 := up_a1 w (.cells #[.int .i64 v.ty, .int .i64 v.n, .string v.s] 31)
  have g0 := heap_alloc_new w (.cells #[.int .i64 v.ty, .int .i64 v.n, .string v.s] 31)
  have hV := spec_ValOk v (w.alloc (.cells #[.int .i64 v.ty, .int .i64 v.n, .string v.s] 31)) hs
  have HT := Lib.hid (TabIs.below ht hb0)
  have hlt : w.heap.size < (w.alloc (.cells #[.int .i64 v.ty, .int .i64 v.n, .string v.s] 31)).heap.size := by simp
  clear ht
  cases hv : valOk v
  · rw [hv] at hV
    have HV := Lib.hid hV
    have HE := Lib.hid (valText_no hv)
    have HB0 := Lib.hid hb0
    clear hV hv g0 hlt hb0
    go_enter Tryd.func42, Tryd.ntmps42
    go_wp2_with fail
    refine HV.out.mono ?_
    rintro e w2 ⟨rfl, hb2⟩
    have HB2 := Lib.hid (bgo0 HB0.out hb2)
    clear hb2
    go_wp2_with fail
    go_ret
    exact ⟨by rw [HE.out]; rfl, HB2.out⟩
  · rw [hv] at hV
    have HV := Lib.hid hV
    have G0 := Lib.hid g0
    have HB0 := Lib.hid hb0
    by_cases h1 : v.ty = 1
    · have hd : (v.ty == 1) = true := by simp [h1]
      have HE := Lib.hid (valText_1 hv h1)
      obtain ⟨n0, n1⟩ := num_in hv h1
      clear hV hv g0 hb0 h1
      go_enter Tryd.func42, Tryd.ntmps42
      go_wp2_with fail
      refine HV.out.mono ?_
      rintro e w2 ⟨rfl, hb2⟩
      have hc := (hb2.block w.heap.size hlt).trans G0.out
      have c0 := cell_of_row w2 _ 0 _ _ _ hc
      have c1 := cell_of_row w2 _ 1 _ _ _ hc
      simp only [List.getElem?_toArray, List.getElem?_cons_zero, List.getElem?_cons_succ] at c0 c1
      have HN := Lib.hid (spec_NumText' v.n w2 (by omega) (by omega) (TabIs.below HT.out hb2))
      have HB2 := Lib.hid (bgo0 HB0.out hb2)
      clear hb2 hc
      go_wp2_with fail
      refine HN.out.mono ?_
      rintro e w3 ⟨rfl, hb3⟩
      have HB3 := Lib.hid (bgo0 HB2.out hb3)
      clear hb3
      go_wp2_with fail
      go_ret
      exact ⟨by rw [HE.out]; rfl, HB3.out⟩
    · have hd : (v.ty == 1) = false := by simp [h1]
      have HE := Lib.hid (valText_2 hv h1)
      have hl6 := txt_len6 hv h1
      clear hV hv g0 hb0 h1
      go_enter Tryd.func42, Tryd.ntmps42
      go_wp2_with fail
      refine HV.out.mono ?_
      rintro e w2 ⟨rfl, hb2⟩
      have hc := (hb2.block w.heap.size hlt).trans G0.out
      have c0 := cell_of_row w2 _ 0 _ _ _ hc
      have c2 := cell_of_row w2 _ 2 _ _ _ hc
      simp only [List.getElem?_toArray, List.getElem?_cons_zero, List.getElem?_cons_succ] at c0 c2
      have HB2 := Lib.hid (bgo0 HB0.out hb2)
      clear hb2 hc
      go_wp2_with fail
      go_ret
      exact ⟨by rw [HE.out]; rfl, HB2.out⟩
set_option maxHeartbeats 1000000 in
set_option maxRecDepth 20000 in
theorem impl_ValText (v : V) (w : World) (hs : v.s.size ≤ maxLen) (ht : Pow w) :
    Calls Tryd.prog 47 #[.agg #[.int .i64 v.ty, .int .i64 v.n, .string v.s]] w fun e w' => e = .returned (.string (valText v)) ∧ Below w.heap.size w w' := by
  have hb0 := up_a1 w (.cells #[.int .i64 v.ty, .int .i64 v.n, .string v.s] 31)
  have g0 := heap_alloc_new w (.cells #[.int .i64 v.ty, .int .i64 v.n, .string v.s] 31)
  have hV := impl_ValOk v (w.alloc (.cells #[.int .i64 v.ty, .int .i64 v.n, .string v.s] 31)) hs
  have HT := Lib.hid (TabIs.below ht hb0)
  have hlt : w.heap.size < (w.alloc (.cells #[.int .i64 v.ty, .int .i64 v.n, .string v.s] 31)).heap.size := by simp
  clear ht
  cases hv : valOk v
  · rw [hv] at hV
    have HV := Lib.hid hV
    have HE := Lib.hid (valText_no hv)
    have HB0 := Lib.hid hb0
    clear hV hv g0 hlt hb0
    go_enter Tryd.func47, Tryd.ntmps47
    go_wp2_with fail
    refine HV.out.mono ?_
    rintro e w2 ⟨rfl, hb2⟩
    have HB2 := Lib.hid (bgo0 HB0.out hb2)
    clear hb2
    go_wp2_with fail
    go_ret
    exact ⟨by rw [HE.out]; rfl, HB2.out⟩
  · rw [hv] at hV
    have HV := Lib.hid hV
    have G0 := Lib.hid g0
    have HB0 := Lib.hid hb0
    by_cases h1 : v.ty = 1
    · have hd : (v.ty == 1) = true := by simp [h1]
      have HE := Lib.hid (valText_1 hv h1)
      obtain ⟨n0, n1⟩ := num_in hv h1
      clear hV hv g0 hb0 h1
      go_enter Tryd.func47, Tryd.ntmps47
      go_wp2_with fail
      refine HV.out.mono ?_
      rintro e w2 ⟨rfl, hb2⟩
      have hc := (hb2.block w.heap.size hlt).trans G0.out
      have c0 := cell_of_row w2 _ 0 _ _ _ hc
      have c1 := cell_of_row w2 _ 1 _ _ _ hc
      simp only [List.getElem?_toArray, List.getElem?_cons_zero, List.getElem?_cons_succ] at c0 c1
      have HN := Lib.hid (impl_NumText' v.n w2 (by omega) (by omega) (TabIs.below HT.out hb2))
      have HB2 := Lib.hid (bgo0 HB0.out hb2)
      clear hb2 hc
      go_wp2_with fail
      refine HN.out.mono ?_
      rintro e w3 ⟨rfl, hb3⟩
      have HB3 := Lib.hid (bgo0 HB2.out hb3)
      clear hb3
      go_wp2_with fail
      go_ret
      exact ⟨by rw [HE.out]; rfl, HB3.out⟩
    · have hd : (v.ty == 1) = false := by simp [h1]
      have HE := Lib.hid (valText_2 hv h1)
      have hl6 := txt_len6 hv h1
      clear hV hv g0 hb0 h1
      go_enter Tryd.func47, Tryd.ntmps47
      go_wp2_with fail
      refine HV.out.mono ?_
      rintro e w2 ⟨rfl, hb2⟩
      have hc := (hb2.block w.heap.size hlt).trans G0.out
      have c0 := cell_of_row w2 _ 0 _ _ _ hc
      have c2 := cell_of_row w2 _ 2 _ _ _ hc
      simp only [List.getElem?_toArray, List.getElem?_cons_zero, List.getElem?_cons_succ] at c0 c2
      have HB2 := Lib.hid (bgo0 HB0.out hb2)
      clear hb2 hc
      go_wp2_with fail
      go_ret
      exact ⟨by rw [HE.out]; rfl, HB2.out⟩
set_option maxHeartbeats 2000000 in
set_option maxRecDepth 20000 in
theorem spec_RowText (r : R) (sv : Value) (w : World) {lo hi : Nat} (hx : RdV w lo hi sv r.l) (hhi : hi ≤ w.heap.size) (hs : ∀ v ∈ r.l, v.s.size ≤ maxLen) (hn : r.l.length ≤ 1048576) (h0 : -9223372036854775808 ≤ r.id ∧ r.id ≤ 9223372036854775807) (ht : Pow w) :
    Calls Tryd.prog 54 #[.agg #[.int .i64 r.id, sv]] w fun e w' => e = .returned (.string (rowText r)) ∧ Below w.heap.size w w' := by
  obtain ⟨A, c, rfl, hl, hl2⟩ := hx.form
  have hb0 := up_a1 w (.cells #[.int .i64 r.id, .slice A r.l.length c] 83)
  have g0 := heap_alloc_new w (.cells #[.int .i64 r.id, .slice A r.l.length c] 83)
  have hx0 := hx.below hb0 hhi
  have hsz0 := hb0.size
  have hlt : w.heap.size < (w.alloc (.cells #[.int .i64 r.id, .slice A r.l.length c] 83)).heap.size := by simp
  have ht0 := TabIs.below ht hb0
  go_enter Tryd.func54, Tryd.ntmps54
  go_wp2_with fail
  obtain ⟨W0, hW0⟩ : ∃ W0, (w.alloc (.cells #[.int .i64 r.id, .slice A r.l.length c] 83)) = W0 := ⟨_, rfl⟩
  rw [hW0] at hb0 g0 hx0 hsz0 hlt ht0 ⊢
  clear hW0 hx ht
  have HT := Lib.hid ht0
  have G0 := Lib.hid g0
  have hC := spec_NumText' r.id W0 h0.1 h0.2 ht0
  have hnl := numText_len h0.1 h0.2
  obtain ⟨nt, hnt⟩ : ∃ nt, numText r.id = nt := ⟨_, rfl⟩
  rw [hnt] at hC hnl
  have HN := Lib.hid hnt
  have HC := Lib.hid hC
  clear ht0 hnt hC g0
  refine HC.out.mono ?_
  rintro e w1 ⟨rfl, hb1⟩
  have G1 := Lib.hid ((hb1.block _ hlt).trans G0.out)
  have HB1 := Lib.hid (bgo0 hb0 hb1)
  have hx1 := hx0.below hb1 (Nat.le_trans hhi hsz0)
  have HT1 := Lib.hid (TabIs.below HT.out hb1)
  have hs1 := hb1.size
  have hhi1 : hi ≤ w1.heap.size := Nat.le_trans hhi (Nat.le_trans hsz0 hs1)
  clear G0 HT hb1 HC hb0 hx0
  go_wp2_with fail
  go_loopw [3, 4] (fun s i wr => ∃ (k : Nat) (t : ByteArray), Hid (s = .string t ∧ i = .int .i64 k ∧ k ≤ r.l.length ∧ t = rowPart r k ∧ t.size ≤ 22 + 22 * k ∧ Below w1.heap.size w1 wr)) (fun _ i _ => r.l.length - (intOf i).toNat)
  case atStart => exact ⟨0, _, Lib.hid ⟨rfl, rfl, Nat.zero_le _, by rw [rowPart_zero, HN.out], by rw [ByteArray.size_append]; show 1 + nt.size ≤ _; omega, Below.refl _ _⟩⟩
  case round =>
    obtain ⟨k, t, hrel⟩ := hrel
    obtain ⟨rfl, rfl, hk, ht, hts, hbr⟩ := hrel.out
    have Ht := Lib.hid ht
    have hc := (hbr.block w.heap.size (by omega)).trans G1.out
    have c1 := cell_of_row wr _ 1 _ _ _ hc
    simp only [List.getElem?_toArray, List.getElem?_cons_zero, List.getElem?_cons_succ] at c1
    have Hbr := Lib.hid hbr
    clear hrel ht hc hbr
    by_cases hkl : k < r.l.length
    · obtain ⟨b, off, y, rfl, -, hbl, hyk, e0, e1, e2⟩ := (hx1.below Hbr.out hhi1).at hkl
      have hY := rowPart_step hyk
      have hV := spec_ValText y wr (hs y (mem_of_get hyk)) (TabIs.below HT1.out Hbr.out)
      have hvl := valText_len y
      obtain ⟨vt, hvt⟩ : ∃ vt, valText y = vt := ⟨_, rfl⟩
      rw [hvt] at hV hvl hY
      have HV := Lib.hid hV
      have HY := Lib.hid hY
      clear hvt hyk hV hY
      go_wp2_with fail
      refine HV.out.mono ?_
      rintro e w3 ⟨rfl, hb3⟩
      have HB3 := Lib.hid (below_go Hbr.out hb3)
      clear hb3
      go_wp2_with fail
      go_roundw
      case rel => exact ⟨k + 1, _, Lib.hid ⟨rfl, by go_num, by omega, by rw [HY.out, ← Ht.out], by rw [ByteArray.size_append, ByteArray.size_append]; show t.size + 1 + vt.size ≤ _; omega, HB3.out⟩⟩
      case measure => simp [intOf]; omega
    · obtain rfl : k = r.l.length := by omega
      go_wp2_with fail
      go_ret
      exact ⟨by rw [Ht.out]; rfl, below_go HB1.out Hbr.out⟩
set_option maxHeartbeats 2000000 in
set_option maxRecDepth 20000 in
theorem impl_RowText (r : R) (sv : Value) (w : World) {lo hi : Nat} (hx : RdV w lo hi sv r.l) (hhi : hi ≤ w.heap.size) (hs : ∀ v ∈ r.l, v.s.size ≤ maxLen) (hn : r.l.length ≤ 1048576) (h0 : -9223372036854775808 ≤ r.id ∧ r.id ≤ 9223372036854775807) (ht : Pow w) :
    Calls Tryd.prog 73 #[.agg #[.int .i64 r.id, sv]] w fun e w' => e = .returned (.string (rowText r)) ∧ Below w.heap.size w w' := by
  obtain ⟨A, c, rfl, hl, hl2⟩ := hx.form
  have hb0 := up_a1 w (.cells #[.int .i64 r.id, .slice A r.l.length c] 83)
  have g0 := heap_alloc_new w (.cells #[.int .i64 r.id, .slice A r.l.length c] 83)
  have hx0 := hx.below hb0 hhi
  have hsz0 := hb0.size
  have hlt : w.heap.size < (w.alloc (.cells #[.int .i64 r.id, .slice A r.l.length c] 83)).heap.size := by simp
  have ht0 := TabIs.below ht hb0
  obtain ⟨i0, hif, hz0, hz1, hz2⟩ := info_parts info_str
  replace hif := Lib.hid hif
  replace hz0 := Lib.hid hz0
  replace hz1 := Lib.hid hz1
  replace hz2 := Lib.hid hz2
  go_enter Tryd.func73, Tryd.ntmps73
  go_wp2_with fail
  obtain ⟨W0, hW0⟩ : ∃ W0, (w.alloc (.cells #[.int .i64 r.id, .slice A r.l.length c] 83)) = W0 := ⟨_, rfl⟩
  rw [hW0] at hb0 g0 hx0 hsz0 hlt ht0 ⊢
  clear hW0 hx ht
  have HT := Lib.hid ht0
  have G0 := Lib.hid g0
  have hC := impl_NumText' r.id W0 h0.1 h0.2 ht0
  have hnl := numText_len h0.1 h0.2
  obtain ⟨nt, hnt⟩ : ∃ nt, numText r.id = nt := ⟨_, rfl⟩
  rw [hnt] at hC hnl
  have HN := Lib.hid hnt
  have HC := Lib.hid hC
  clear ht0 hnt hC g0
  refine HC.out.mono ?_
  rintro e w1 ⟨rfl, hb1⟩
  have G1 := Lib.hid ((hb1.block _ hlt).trans G0.out)
  have HB1 := Lib.hid (bgo0 hb0 hb1)
  have hx1 := hx0.below hb1 (Nat.le_trans hhi hsz0)
  have HT1 := Lib.hid (TabIs.below HT.out hb1)
  have hs1 := hb1.size
  have hhi1 : hi ≤ w1.heap.size := Nat.le_trans hhi (Nat.le_trans hsz0 hs1)
  have hc := ((up_a1 w1 (.cells #[.string (⟨#[35]⟩ ++ nt)] 9)).block w.heap.size (by omega)).trans G1.out
  have c1 := cell_of_row _ _ 1 _ _ _ hc
  simp only [List.getElem?_toArray, List.getElem?_cons_zero, List.getElem?_cons_succ] at c1
  have HU := Lib.hid (up_a1 w1 (.cells #[.string (⟨#[35]⟩ ++ nt)] 9))
  have HO := Lib.hid (owns_one w1 9 (.string (⟨#[35]⟩ ++ nt)) (Nat.le_refl _))
  clear G0 HT hb1 HC hb0 hx0 hc
  go_wp2_with fail
  go_loopw [3, 14] (fun o i wr => ∃ (k : Nat) (xs : List ByteArray), Hid (i = .int .i64 k ∧ k ≤ r.l.length ∧ xs.length = k + 1 ∧ xs = (⟨#[35]⟩ ++ nt) :: (r.l.take k).map valText ∧ wr.ownsRow w1.heap.size 9 1 o (k + 1) (xs.map .string) ∧ Below w1.heap.size w1 wr)) (fun _ i _ => r.l.length - (intOf i).toNat)
  case atStart => exact ⟨0, [(⟨#[35]⟩ : ByteArray) ++ nt], Lib.hid ⟨rfl, Nat.zero_le _, rfl, rfl, HO.out, HU.out⟩⟩
  case round =>
    obtain ⟨k, xs, hrel⟩ := hrel
    obtain ⟨rfl, hk, hxl, hxs, hown, hbr⟩ := hrel.out
    have Hxs := Lib.hid hxs
    have Hxl := Lib.hid hxl
    have Hbr := Lib.hid hbr
    obtain ⟨g, cap, rfl, hg0, hg1, hgc, hcell⟩ := owns_formT hown (by omega)
    have Hcell := Lib.hid hcell
    have Hown := Lib.hid hown
    clear hrel hxs hxl hbr hcell hown HO HU c1
    by_cases hkl : k < r.l.length
    · obtain ⟨b, off, y, rfl, -, hbl, hyk, e0, e1, e2⟩ := (hx1.below Hbr.out hhi1).at hkl
      have Hy := Lib.hid (show xs ++ [valText y] = (⟨#[35]⟩ ++ nt) :: (r.l.take (k + 1)).map valText by rw [Hxs.out, take_of_get hyk]; simp)
      have hup : Below wr.heap.size wr (wr.alloc (.cells #[.int .i64 y.ty, .int .i64 y.n, .string y.s] 31)) := up_a1 wr _
      have hys := hs y (mem_of_get hyk)
      clear hyk
      go_wp2_with fail
      obtain ⟨wb, hwb⟩ : ∃ wb, (wr.alloc (.cells #[.int .i64 y.ty, .int .i64 y.n, .string y.s] 31)) = wb := ⟨_, rfl⟩
      rw [hwb] at hup ⊢
      clear hwb
      have hbu := below_go Hbr.out hup
      have hV := impl_ValText y wb hys (TabIs.below HT1.out hbu)
      obtain ⟨vt, hvt⟩ : ∃ vt, valText y = vt := ⟨_, rfl⟩
      rw [hvt] at hV Hy
      have HV := Lib.hid hV
      have HO2 := Lib.hid (owns_below Hown.out hup)
      clear hvt hV Hown hup hys
      refine HV.out.mono ?_
      rintro e w3 ⟨rfl, hb3⟩
      have HO3 := Lib.hid (owns_below HO2.out hb3)
      have hb3w := below_go hbu hb3
      have hbs3 := hb3w.size
      clear hb3 hbu HO2
      go_wp2_with (at_builtin; refine wpl_app rfl _ _ 72 rfl w1.heap.size 9 i0 _ 1 16 Tryd.underlying72 hif.out hz0.out hz1.out hz2.out rfl (by decide) (by decide) (HO3.out.alloc _) rfl (heap_alloc_new _ _) rfl rfl (by simp [Value.oneCell']) (by omega) (by simp; omega) ?_)
      intro v4 w4 hown4 hgrow _
      have HB4 := Lib.hid (Below.grown (hb3w.alloc hbs3 _) hgrow (fun g hg => (HO3.out.lt g hg).1) (Nat.le_refl _))
      have HO4 := Lib.hid (show w4.ownsRow w1.heap.size 9 1 v4 (k + 1 + 1) ((xs ++ [vt]).map .string) by
        rw [List.map_append]
        exact hown4)
      clear hown4 hgrow HO3
      go_wp2_with fail
      go_roundw
      case rel => exact ⟨k + 1, xs ++ [vt], Lib.hid ⟨by go_num, by omega, by rw [List.length_append, Hxl.out]; rfl, Hy.out, HO4.out, HB4.out⟩⟩
      case measure => simp [intOf]; omega
    · obtain rfl : k = r.l.length := by omega
      have hxw : xs = rowWords r := by rw [Hxs.out, List.take_length, rowWords, HN.out]
      have hJl : (Lib.join (xs.map (·.data.toList)) [32]).length ≤ 140737488355328 := by
        have h1 := rowPart_len r h0 r.l.length (Nat.le_refl _)
        have h2 : (rowText r).size = (Lib.join (xs.map (·.data.toList)) [32]).length := by rw [← row_join, ← hxw]; exact List.size_toArray
        have h3 : (rowText r).size ≤ 22 + 22 * r.l.length := h1
        omega
      have hJ := Tryd.strings_Join g 0 cap xs ⟨#[32]⟩ wr (fun j x hj => by
        rw [Nat.zero_add]
        exact Hcell.out j _ (by rw [List.getElem?_map, hj]; rfl)) hg1 (by rw [Hxl.out]; omega) (by rw [Hxl.out]; exact hgc) hJl
      have HJ := Lib.hid (by have h := hJ; rw [show (⟨(Lib.join (xs.map (·.data.toList)) (⟨#[32]⟩ : ByteArray).data.toList).toArray⟩ : ByteArray) = rowText r by rw [hxw]; exact row_join r, Hxl.out] at h; exact h)
      clear hJ hJl hxw Hxs Hcell Hown
      go_wp2_with fail
      refine HJ.out.mono ?_
      rintro e w3 ⟨rfl, hb3⟩
      have HB3 := Lib.hid (below_go Hbr.out hb3)
      clear hb3
      go_wp2_with fail
      go_ret
      exact ⟨rfl, below_go HB1.out HB3.out⟩
end Go.Proofs.YtmnmnofjeoanjaaDoor
