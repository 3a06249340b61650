/- Rows and results as text: contracts. -/
import Derived.Test.YtmnmnofjeoanjaaDoorTR
import Derived.Test.YtmnmnofjeoanjaaDoorXL
import Derived.Test.YtmnmnofjeoanjaaDoorMemP
namespace Go.Proofs.YtmnmnofjeoanjaaDoor
open Go.Sort Go.ChangeShapes Go.WideShapes Go.ChangeAt Go.RowKit Go.Lb
/-- The rows' ids are numbers of 64 bits. -/
def IdsIn (l : List R) : Prop := ∀ r ∈ l, -9223372036854775808 ≤ r.id ∧ r.id ≤ 9223372036854775807
theorem lensR_app (a b : List R) : lensR (a ++ b) = lensR a + lensR b := by simp [lensR]
theorem lensR_step {l : List R} {k : Nat} {y : R} (h : l[k]? = some y) : lensR (l.take (k + 1)) = lensR (l.take k) + y.l.length := by
  rw [take_of_get h, lensR_app]
  simp [lensR]
theorem lensR_take (l : List R) (k : Nat) : lensR (l.take k) ≤ lensR l := by
  have h := lensR_app (l.take k) (l.drop k)
  rw [List.take_append_drop] at h
  omega
theorem join_nil (sep : List UInt8) : Lib.join [] sep = [] := by simp [Lib.join, List.intercalate]
theorem join_snoc (xs : List (List UInt8)) (y sep : List UInt8) (h : xs ≠ []) : Lib.join (xs ++ [y]) sep = Lib.join xs sep ++ sep ++ y := by
  cases xs with
  | nil => exact absurd rfl h
  | cons x r => simp [Lib.join_cons, Lib.joinTail]
def rowsPart (l : List R) (k : Nat) : ByteArray := ⟨(Lib.join (((l.take k).map rowText).map (·.data.toList)) [59, 32]).toArray⟩
def rowsText (l : List R) : ByteArray := if l = [] then ⟨#[45]⟩ else rowsPart l l.length
theorem rowsPart_zero (l : List R) : rowsPart l 0 = ⟨#[]⟩ := by
  apply ByteArray.ext
  simp [rowsPart, join_nil]
theorem rowsPart_one {l : List R} {y : R} (h : l[0]? = some y) : rowsPart l 1 = rowsPart l 0 ++ rowText y := by
  apply ByteArray.ext
  rw [rowsPart_zero]
  simp [rowsPart, take_of_get h, Lib.join_one]
theorem rowsPart_step {l : List R} {k : Nat} {y : R} (h : l[k]? = some y) (hk : 0 < k) : rowsPart l (k + 1) = (rowsPart l k ++ ⟨#[59, 32]⟩) ++ rowText y := by
  have hkl := (List.getElem?_eq_some_iff.1 h).1
  have hne : ((l.take k).map rowText).map (·.data.toList) ≠ [] := by
    intro e
    have := congrArg List.length e
    simp at this
    rcases this with h1 | h1
    · omega
    · rw [h1] at hkl
      simp at hkl
  apply ByteArray.ext
  simp only [rowsPart, take_of_get h, List.map_append, List.map_cons, List.map_nil]
  rw [join_snoc _ _ _ hne]
  simp
theorem rowsPart_len (l : List R) (hi : IdsIn l) : ∀ k, k ≤ l.length → (rowsPart l k).size ≤ 24 * k + 22 * lensR (l.take k)
  | 0, _ => by rw [rowsPart_zero]; exact Nat.zero_le _
  | k + 1, h => by
    have ih := rowsPart_len l hi k (by omega)
    have hg : l[k]? = some (l[k]'(by omega)) := List.getElem?_eq_getElem (by omega)
    have hv : (rowText (l[k]'(by omega))).size ≤ _ := rowPart_len (l[k]'(by omega)) (hi _ (mem_of_get hg)) _ (Nat.le_refl _)
    rw [lensR_step hg]
    by_cases h0 : k = 0
    · subst h0
      rw [rowsPart_one hg, ByteArray.size_append, rowsPart_zero]
      show 0 + _ ≤ _
      omega
    · rw [rowsPart_step hg (by omega), ByteArray.size_append, ByteArray.size_append]
      show _ + 2 + _ ≤ _
      omega
theorem rowsText_none {l : List R} (h : l.length = 0) : rowsText l = ⟨#[45]⟩ := by rw [rowsText, if_pos (List.length_eq_zero_iff.1 h)]
theorem rowsText_some {l : List R} (h : ¬ l.length = 0) : rowsText l = rowsPart l l.length := by rw [rowsText, if_neg fun e => h (by rw [e]; rfl)]
def resText (kind : Int) (rows : List R) (n : Int) (has : Bool) (v : V) : ByteArray :=
  if kind = 1 then rowsText rows else if kind = 2 ∨ kind = 3 then numText n else if kind = 4 ∨ kind = 5 then (if has then valText v else ⟨#[110, 111, 110, 101]⟩) else ⟨#[]⟩
set_option maxHeartbeats 2000000 in
set_option maxRecDepth 20000 in
theorem impl_rowsText (l : List R) (x : Value) (w : World) {lo hi : Nat} (hx : RdR w lo hi x l) (hhi : hi ≤ w.heap.size) (hs : RsOk l) (hn : l.length ≤ 1048576 ∧ lensR l ≤ 1048576) (hid : IdsIn l) (ht : Pow w) :
    Calls Tryd.prog 57 #[x] w fun e w' => e = .returned (.string (rowsText l)) ∧ Below w.heap.size w w' := by
  obtain ⟨A, c, rfl, hl, hl2⟩ := hx.form
  by_cases h0 : l.length = 0
  · have hd : ((l.length : Int) == 0) = true := by simp [h0]
    have HE := Lib.hid (rowsText_none h0)
    clear h0 hx hs hid ht hn
    go_enter Tryd.func57, Tryd.ntmps57
    go_wp2_with fail
    go_ret
    exact ⟨by rw [HE.out]; rfl, Below.refl _ _⟩
  · have hd : ((l.length : Int) == 0) = false := beq_eq_false_iff_ne.2 (by omega)
    have HE := Lib.hid (rowsText_some h0)
    have hpos : 0 < l.length := by omega
    have hb0 := up_a1 w (.cells #[] 9)
    have HO := Lib.hid (World.ownsRow_made w (base := w.heap.size) (e := 9) (size := 1) #[] 0 (Nat.le_refl _) (by decide) rfl)
    have HB0 := Lib.hid hb0
    have HT := Lib.hid ht
    have HX := Lib.hid hx
    clear h0 hx ht hb0
    obtain ⟨i0, hif, hz0, hz1, hz2⟩ := info_parts info_str
    replace hif := Lib.hid hif
    replace hz0 := Lib.hid hz0
    replace hz1 := Lib.hid hz1
    replace hz2 := Lib.hid hz2
    go_enter Tryd.func57, Tryd.ntmps57
    go_wp2_with fail
    go_loopw [3, 12] (fun o i wr => ∃ (k : Nat) (xs : List ByteArray), Hid (i = .int .i64 k ∧ k ≤ l.length ∧ xs.length = k ∧ xs = (l.take k).map rowText ∧ wr.ownsRow w.heap.size 9 1 o k (xs.map .string) ∧ Below w.heap.size w wr)) (fun _ i _ => l.length - (intOf i).toNat)
    case atStart => exact ⟨0, [], Lib.hid ⟨rfl, Nat.zero_le _, rfl, rfl, HO.out, HB0.out⟩⟩
    case round =>
      obtain ⟨k, xs, hrel⟩ := hrel
      obtain ⟨rfl, hk, hxl, hxs, hown, hbr⟩ := hrel.out
      have Hxs := Lib.hid hxs
      have Hxl := Lib.hid hxl
      have Hbr := Lib.hid hbr
      have Hown := Lib.hid hown
      clear hrel hxs hxl hbr hown HO HB0
      by_cases hkl : k < l.length
      · obtain ⟨Ao, co, rfl, -, -, -⟩ := (Own.new Hown.out).cells
        obtain ⟨b, off, y, sy, rfl, -, hbl, hyk, e0, e1, hrv⟩ := (HX.out.below Hbr.out hhi).at hkl
        obtain ⟨Ay, cy, rfl, -, -⟩ := hrv.form
        have Hy := Lib.hid (show xs ++ [rowText y] = (l.take (k + 1)).map rowText by rw [Hxs.out, take_of_get hyk]; simp)
        have hup : Below wr.heap.size wr (wr.alloc (.cells #[.int .i64 y.id, .slice Ay y.l.length cy] 83)) := up_a1 wr _
        have hym := mem_of_get hyk
        have hyl : y.l.length ≤ 1048576 := by have h1 := lensR_step hyk; have h2 := lensR_take l (k + 1); omega
        have hhr : hi ≤ wr.heap.size := Nat.le_trans hhi Hbr.out.size
        have HS := Lib.hid (hs y hym)
        have HI := Lib.hid (hid y hym)
        have HRv := Lib.hid hrv
        clear hyk hym hrv
        go_wp2_with fail
        obtain ⟨wb, hwb⟩ : ∃ wb, (wr.alloc (.cells #[.int .i64 y.id, .slice Ay y.l.length cy] 83)) = wb := ⟨_, rfl⟩
        rw [hwb] at hup ⊢
        clear hwb
        have hbu := below_go Hbr.out hup
        have hV := impl_RowText y _ wb (HRv.out.below hup hhr) (Nat.le_trans hhr hup.size) HS.out hyl HI.out (TabIs.below HT.out hbu)
        obtain ⟨vt, hvt⟩ : ∃ vt, rowText y = vt := ⟨_, rfl⟩
        rw [hvt] at hV Hy
        have HV := Lib.hid hV
        have HO2 := Lib.hid (owns_below Hown.out hup)
        clear hvt hV Hown hup HRv HS HI hyl
        refine HV.out.mono ?_
        rintro e w3 ⟨rfl, hb3⟩
        have HO3 := Lib.hid (owns_below HO2.out hb3)
        have hb3w := below_go hbu hb3
        have hbs3 := hb3w.size
        clear hb3 hbu HO2
        go_wp2_with (at_builtin; refine wpl_app rfl _ _ 72 rfl w.heap.size 9 i0 _ 1 16 Tryd.underlying72 hif.out hz0.out hz1.out hz2.out rfl (by decide) (by decide) (HO3.out.alloc _) rfl (heap_alloc_new _ _) rfl rfl (by simp [Value.oneCell']) (by omega) (by simp; omega) ?_)
        intro v4 w4 hown4 hgrow _
        have HB4 := Lib.hid (Below.grown (hb3w.alloc hbs3 _) hgrow (fun g hg => (HO3.out.lt g hg).1) (Nat.le_refl _))
        have HO4 := Lib.hid (show w4.ownsRow w.heap.size 9 1 v4 (k + 1) ((xs ++ [vt]).map .string) by
          rw [List.map_append]
          exact hown4)
        clear hown4 hgrow HO3
        go_wp2_with fail
        go_roundw
        case rel => exact ⟨k + 1, xs ++ [vt], Lib.hid ⟨by go_num, by omega, by rw [List.length_append, Hxl.out]; rfl, Hy.out, HO4.out, HB4.out⟩⟩
        case measure => simp [intOf]; omega
      · obtain rfl : k = l.length := by omega
        obtain ⟨g, cap, rfl, hg0, hg1, hgc, hcell⟩ := owns_formT Hown.out (by omega)
        have Hcell := Lib.hid hcell
        have hxw : (⟨(Lib.join (xs.map (·.data.toList)) (⟨#[59, 32]⟩ : ByteArray).data.toList).toArray⟩ : ByteArray) = rowsText l := by rw [HE.out, Hxs.out]; rfl
        have hJl : (Lib.join (xs.map (·.data.toList)) [59, 32]).length ≤ 140737488355328 := by
          have h1 := rowsPart_len l hid l.length (Nat.le_refl _)
          have h4 := lensR_take l l.length
          have h2 : (rowsText l).size = (Lib.join (xs.map (·.data.toList)) [59, 32]).length := by rw [← hxw]; exact List.size_toArray
          rw [← HE.out] at h1
          omega
        have hJ := Tryd.strings_Join g 0 cap xs ⟨#[59, 32]⟩ wr (fun j x hj => by
          rw [Nat.zero_add]
          exact Hcell.out j _ (by rw [List.getElem?_map, hj]; rfl)) hg1 (by rw [Hxl.out]; omega) (by rw [Hxl.out]; exact hgc) hJl
        have HJ := Lib.hid (by have h := hJ; rw [hxw, Hxl.out] at h; exact h)
        clear hJ hJl hxw Hxs Hcell Hown hcell
        go_wp2_with fail
        refine HJ.out.mono ?_
        rintro e w3 ⟨rfl, hb3⟩
        have HB3 := Lib.hid (below_go Hbr.out hb3)
        clear hb3
        go_wp2_with fail
        go_ret
        exact ⟨rfl, HB3.out⟩
set_option maxHeartbeats 4000000 in
set_option maxRecDepth 20000 in
theorem spec_ResultText0 (q : Q) (sv ov : Value) (rows : List R) (n : Int) (has : Bool) (v : V) (rv : Value) (w : World) {lo hi : Nat} (hx : RdR w lo hi rv rows) (hhi : hi ≤ w.heap.size) (hs : RsOk rows) (hvs : v.s.size ≤ maxLen) (hn : rows.length ≤ 1048576 ∧ lensR rows ≤ 1048576) (hid : IdsIn rows) (h0 : -9223372036854775808 ≤ n ∧ n ≤ 9223372036854775807) (ht : Pow w) :
    Calls Tryd.prog 16 #[.agg #[.int .i64 q.kind, .int .i64 q.p.kind, .int .i64 q.p.col, .int .i64 q.p.op, .int .i64 q.p.v.ty, .int .i64 q.p.v.n, .string q.p.v.s, sv, .int .i64 q.col, ov], .agg #[rv, .int .i64 n, .bool has, .int .i64 v.ty, .int .i64 v.n, .string v.s]] w fun e w' => e = .returned (.string (resText q.kind rows n has v)) ∧ Below w.heap.size w w' := by
  obtain ⟨A, c, rfl, hl, hl2⟩ := hx.form
  have hb0 := up_a2 w (.cells #[.int .i64 q.kind, .int .i64 q.p.kind, .int .i64 q.p.col, .int .i64 q.p.op, .int .i64 q.p.v.ty, .int .i64 q.p.v.n, .string q.p.v.s, sv, .int .i64 q.col, ov] 48) (.cells #[.slice A rows.length c, .int .i64 n, .bool has, .int .i64 v.ty, .int .i64 v.n, .string v.s] 52)
  have g0 : ((w.alloc (.cells #[.int .i64 q.kind, .int .i64 q.p.kind, .int .i64 q.p.col, .int .i64 q.p.op, .int .i64 q.p.v.ty, .int .i64 q.p.v.n, .string q.p.v.s, sv, .int .i64 q.col, ov] 48)).alloc (.cells #[.slice A rows.length c, .int .i64 n, .bool has, .int .i64 v.ty, .int .i64 v.n, .string v.s] 52)).heap[w.heap.size]? = some (.cells #[.int .i64 q.kind, .int .i64 q.p.kind, .int .i64 q.p.col, .int .i64 q.p.op, .int .i64 q.p.v.ty, .int .i64 q.p.v.n, .string q.p.v.s, sv, .int .i64 q.col, ov] 48) := ((up_a1 (w.alloc (.cells #[.int .i64 q.kind, .int .i64 q.p.kind, .int .i64 q.p.col, .int .i64 q.p.op, .int .i64 q.p.v.ty, .int .i64 q.p.v.n, .string q.p.v.s, sv, .int .i64 q.col, ov] 48)) (.cells #[.slice A rows.length c, .int .i64 n, .bool has, .int .i64 v.ty, .int .i64 v.n, .string v.s] 52)).block w.heap.size (by simp)).trans (heap_alloc_new w _)
  have g1 : ((w.alloc (.cells #[.int .i64 q.kind, .int .i64 q.p.kind, .int .i64 q.p.col, .int .i64 q.p.op, .int .i64 q.p.v.ty, .int .i64 q.p.v.n, .string q.p.v.s, sv, .int .i64 q.col, ov] 48)).alloc (.cells #[.slice A rows.length c, .int .i64 n, .bool has, .int .i64 v.ty, .int .i64 v.n, .string v.s] 52)).heap[w.heap.size + 1]? = some (.cells #[.slice A rows.length c, .int .i64 n, .bool has, .int .i64 v.ty, .int .i64 v.n, .string v.s] 52) := by
    have h := heap_alloc_new (w.alloc (.cells #[.int .i64 q.kind, .int .i64 q.p.kind, .int .i64 q.p.col, .int .i64 q.p.op, .int .i64 q.p.v.ty, .int .i64 q.p.v.n, .string q.p.v.s, sv, .int .i64 q.col, ov] 48)) (.cells #[.slice A rows.length c, .int .i64 n, .bool has, .int .i64 v.ty, .int .i64 v.n, .string v.s] 52)
    rwa [World.size_alloc] at h
  have k0 := cell_of_row _ _ 0 _ _ _ g0
  have r0 := cell_of_row _ _ 0 _ _ _ g1
  have r1 := cell_of_row _ _ 1 _ _ _ g1
  have r2 := cell_of_row _ _ 2 _ _ _ g1
  have r3 := cell_of_row _ _ 3 _ _ _ g1
  have r4 := cell_of_row _ _ 4 _ _ _ g1
  have r5 := cell_of_row _ _ 5 _ _ _ g1
  simp only [List.getElem?_toArray, List.getElem?_cons_zero, List.getElem?_cons_succ] at k0 r0 r1 r2 r3 r4 r5
  have HT := Lib.hid (TabIs.below ht hb0)
  have HB0 := Lib.hid hb0
  have HX := Lib.hid (hx.below hb0 hhi)
  have hlt : w.heap.size + 1 < ((w.alloc (.cells #[.int .i64 q.kind, .int .i64 q.p.kind, .int .i64 q.p.col, .int .i64 q.p.op, .int .i64 q.p.v.ty, .int .i64 q.p.v.n, .string q.p.v.s, sv, .int .i64 q.col, ov] 48)).alloc (.cells #[.slice A rows.length c, .int .i64 n, .bool has, .int .i64 v.ty, .int .i64 v.n, .string v.s] 52)).heap.size := by simp
  have hhi0 : hi ≤ ((w.alloc (.cells #[.int .i64 q.kind, .int .i64 q.p.kind, .int .i64 q.p.col, .int .i64 q.p.op, .int .i64 q.p.v.ty, .int .i64 q.p.v.n, .string q.p.v.s, sv, .int .i64 q.col, ov] 48)).alloc (.cells #[.slice A rows.length c, .int .i64 n, .bool has, .int .i64 v.ty, .int .i64 v.n, .string v.s] 52)).heap.size := Nat.le_trans hhi hb0.size
  have G1 := Lib.hid g1
  clear hx ht hb0 g0 g1
  by_cases hk1 : q.kind = 1
  · have d1 : (q.kind == 1) = true := by simp [hk1]
    have HE := Lib.hid (show resText q.kind rows n has v = rowsText rows by rw [resText, if_pos hk1])
    clear hk1
    by_cases hl0 : rows.length = 0
    · have hd : ((rows.length : Int) == 0) = true := by simp [hl0]
      have HE2 := Lib.hid (rowsText_none hl0)
      clear hl0 hs hid hhi0 HX G1 HT hlt hn
      go_enter Tryd.func16, Tryd.ntmps16
      go_wp2_with fail
      go_ret
      exact ⟨by rw [HE.out, HE2.out]; rfl, HB0.out⟩
    have hd : ((rows.length : Int) == 0) = false := beq_eq_false_iff_ne.2 (by omega)
    have HE2 := Lib.hid (rowsText_some hl0)
    clear hl0
    go_enter Tryd.func16, Tryd.ntmps16
    go_wp2_with fail
    obtain ⟨W1, hW1⟩ : ∃ W1, ((w.alloc (.cells #[.int .i64 q.kind, .int .i64 q.p.kind, .int .i64 q.p.col, .int .i64 q.p.op, .int .i64 q.p.v.ty, .int .i64 q.p.v.n, .string q.p.v.s, sv, .int .i64 q.col, ov] 48)).alloc (.cells #[.slice A rows.length c, .int .i64 n, .bool has, .int .i64 v.ty, .int .i64 v.n, .string v.s] 52)) = W1 := ⟨_, rfl⟩
    rw [hW1] at hlt hhi0 HT HB0 HX G1 ⊢
    clear k0 r0 r1 r2 r3 r4 r5 hW1
    go_loopw [5, 6] (fun s i wr => ∃ (k : Nat) (t : ByteArray), Hid (s = .string t ∧ i = .int .i64 k ∧ k ≤ rows.length ∧ t = rowsPart rows k ∧ t.size ≤ 24 * k + 22 * lensR (rows.take k) ∧ Below W1.heap.size W1 wr)) (fun _ i _ => rows.length - (intOf i).toNat)
    case atStart => exact ⟨0, _, Lib.hid ⟨rfl, rfl, Nat.zero_le _, (rowsPart_zero rows).symm, Nat.zero_le _, Below.refl _ _⟩⟩
    case round =>
      obtain ⟨k, t, hrel⟩ := hrel
      obtain ⟨rfl, rfl, hk, ht, hts, hbr⟩ := hrel.out
      have Ht := Lib.hid ht
      have hc := (hbr.block (w.heap.size + 1) hlt).trans G1.out
      have c1 := cell_of_row wr _ 0 _ _ _ hc
      simp only [List.getElem?_toArray, List.getElem?_cons_zero] at c1
      have Hbr := Lib.hid hbr
      have hhr : hi ≤ wr.heap.size := Nat.le_trans hhi0 hbr.size
      have htl := lensR_take rows k
      obtain ⟨M, hM⟩ : ∃ M, lensR (rows.take k) = M := ⟨_, rfl⟩
      rw [hM] at hts htl
      have hts2 : t.size ≤ 100000000 := by omega
      have Hts := Lib.hid hts
      have HM := Lib.hid hM
      clear hrel ht hc hbr hts hM
      by_cases hkl : k < rows.length
      · obtain ⟨b, off, y, sy, rfl, -, hbl, hyk, e0, e1, hrv⟩ := (HX.out.below Hbr.out hhi0).at hkl
        obtain ⟨Ay, cy, rfl, -, -⟩ := hrv.form
        have hst := lensR_step hyk
        have hyl : y.l.length ≤ 1048576 := by have h2 := lensR_take rows (k + 1); omega
        have hym := mem_of_get hyk
        have hV := spec_RowText y _ wr hrv hhr (hs y hym) hyl (hid y hym) (TabIs.below HT.out Hbr.out)
        have hvl : (rowText y).size ≤ 22 + 22 * y.l.length := rowPart_len y (hid y hym) _ (Nat.le_refl _)
        have h1 := rowsPart_step hyk
        have h2 : k = 0 → rowsPart rows (k + 1) = rowsPart rows k ++ rowText y := fun e => by subst e; exact rowsPart_one hyk
        obtain ⟨vt, hvt⟩ : ∃ vt, rowText y = vt := ⟨_, rfl⟩
        rw [hvt] at hV hvl h1 h2
        rw [HM.out] at hst
        have HV := Lib.hid hV
        have H1 := Lib.hid h1
        have H2 := Lib.hid h2
        have Hst := Lib.hid hst
        have Hvl := Lib.hid hvl
        have hvt2 : vt.size ≤ 100000000 := by omega
        clear hvt hyk hV h1 h2 hst hym hrv hyl hvl
        by_cases hk0 : k = 0
        · have dk : decide ((0 : Int) < (k : Int)) = false := decide_eq_false (by omega)
          have HY := Lib.hid (H2.out hk0)
          have hkn : ¬ 0 < k := by omega
          clear hk0 H1 H2
          go_wp2_with fail
          refine HV.out.mono ?_
          rintro e w3 ⟨rfl, hb3⟩
          have HB3 := Lib.hid (below_go Hbr.out hb3)
          clear hb3
          go_wp2_with fail
          go_roundw
          case rel => exact ⟨k + 1, _, Lib.hid ⟨rfl, by go_num, by omega, by rw [HY.out, ← Ht.out], by rw [ByteArray.size_append, Hst.out]; have := Hts.out; have := Hvl.out; omega, HB3.out⟩⟩
          case measure => simp [intOf]; omega
        · have dk : decide ((0 : Int) < (k : Int)) = true := decide_eq_true (by omega)
          have HY := Lib.hid (H1.out (by omega))
          have hkn : 0 < k := by omega
          clear hk0 H1 H2
          go_wp2_with fail
          refine HV.out.mono ?_
          rintro e w3 ⟨rfl, hb3⟩
          have HB3 := Lib.hid (below_go Hbr.out hb3)
          clear hb3
          go_wp2_with fail
          go_roundw
          case rel => exact ⟨k + 1, _, Lib.hid ⟨rfl, by go_num, by omega, by rw [HY.out, ← Ht.out], by rw [ByteArray.size_append, ByteArray.size_append, Hst.out]; have := Hts.out; have := Hvl.out; show t.size + 2 + vt.size ≤ _; omega, HB3.out⟩⟩
          case measure => simp [intOf]; omega
      · obtain rfl : k = rows.length := by omega
        go_wp2_with fail
        go_ret
        exact ⟨by rw [HE.out, HE2.out, ← Ht.out]; rfl, bgo0 HB0.out Hbr.out⟩
  have d1 : (q.kind == 1) = false := by simp [hk1]
  clear hs hid hhi0 HX G1 hlt
  by_cases hk2 : q.kind = 2 ∨ q.kind = 3
  · have HE := Lib.hid (show resText q.kind rows n has v = numText n by rw [resText, if_neg hk1, if_pos hk2])
    have HC := Lib.hid (spec_NumText' n ((w.alloc (.cells #[.int .i64 q.kind, .int .i64 q.p.kind, .int .i64 q.p.col, .int .i64 q.p.op, .int .i64 q.p.v.ty, .int .i64 q.p.v.n, .string q.p.v.s, sv, .int .i64 q.col, ov] 48)).alloc (.cells #[.slice A rows.length c, .int .i64 n, .bool has, .int .i64 v.ty, .int .i64 v.n, .string v.s] 52)) h0.1 h0.2 HT.out)
    rcases hk2 with hk | hk
    all_goals
      first
        | (have d2 : (q.kind == 2) = true := by simp [hk])
        | (have d2 : (q.kind == 2) = false := by simp [hk])
      have d3 : (q.kind == 3) = (q.kind == 3) := rfl
      first
        | (have d4 : (q.kind == 3) = true := by simp [hk])
        | (have d4 : (q.kind == 3) = false := by simp [hk])
      clear hk hk1 HT d3
      go_enter Tryd.func16, Tryd.ntmps16
      go_wp2_with fail
      refine HC.out.mono ?_
      rintro e w3 ⟨rfl, hb3⟩
      have HB3 := Lib.hid (bgo0 HB0.out hb3)
      clear hb3
      go_wp2_with fail
      go_ret
      exact ⟨by rw [HE.out]; rfl, HB3.out⟩
  have d2 : (q.kind == 2) = false := by simp; omega
  have d3 : (q.kind == 3) = false := by simp; omega
  by_cases hk4 : q.kind = 4 ∨ q.kind = 5
  · have HE := Lib.hid (show resText q.kind rows n has v = (if has then valText v else ⟨#[110, 111, 110, 101]⟩) by rw [resText, if_neg hk1, if_neg hk2, if_pos hk4])
    have HC := Lib.hid (spec_ValText v ((w.alloc (.cells #[.int .i64 q.kind, .int .i64 q.p.kind, .int .i64 q.p.col, .int .i64 q.p.op, .int .i64 q.p.v.ty, .int .i64 q.p.v.n, .string q.p.v.s, sv, .int .i64 q.col, ov] 48)).alloc (.cells #[.slice A rows.length c, .int .i64 n, .bool has, .int .i64 v.ty, .int .i64 v.n, .string v.s] 52)) hvs HT.out)
    cases has
    all_goals
      rcases hk4 with hk | hk
      all_goals
        first
          | (have d4 : (q.kind == 4) = true := by simp [hk])
          | (have d4 : (q.kind == 4) = false := by simp [hk])
        first
          | (have d5 : (q.kind == 5) = true := by simp [hk])
          | (have d5 : (q.kind == 5) = false := by simp [hk])
        clear hk hk1 hk2 HT
        go_enter Tryd.func16, Tryd.ntmps16
        go_wp2_with fail
        first
          | (go_ret; exact ⟨by rw [HE.out]; rfl, HB0.out⟩)
          | (refine HC.out.mono ?_
             rintro e w3 ⟨rfl, hb3⟩
             have HB3 := Lib.hid (bgo0 HB0.out hb3)
             clear hb3
             go_wp2_with fail
             go_ret
             exact ⟨by rw [HE.out]; rfl, HB3.out⟩)
  have d4 : (q.kind == 4) = false := by simp; omega
  have d5 : (q.kind == 5) = false := by simp; omega
  have HE := Lib.hid (show resText q.kind rows n has v = ⟨#[]⟩ by rw [resText, if_neg hk1, if_neg hk2, if_neg hk4])
  clear hk1 hk2 hk4 HT
  go_enter Tryd.func16, Tryd.ntmps16
  go_wp2_with fail
  go_ret
  exact ⟨by rw [HE.out]; rfl, HB0.out⟩
set_option maxHeartbeats 4000000 in
set_option maxRecDepth 20000 in
theorem impl_ResultText0 (q : Q) (sv ov : Value) (rows : List R) (n : Int) (has : Bool) (v : V) (rv : Value) (w : World) {lo hi : Nat} (hx : RdR w lo hi rv rows) (hhi : hi ≤ w.heap.size) (hs : RsOk rows) (hvs : v.s.size ≤ maxLen) (hn : rows.length ≤ 1048576 ∧ lensR rows ≤ 1048576) (hid : IdsIn rows) (h0 : -9223372036854775808 ≤ n ∧ n ≤ 9223372036854775807) (ht : Pow w) :
    Calls Tryd.prog 19 #[.agg #[.int .i64 q.kind, .int .i64 q.p.kind, .int .i64 q.p.col, .int .i64 q.p.op, .int .i64 q.p.v.ty, .int .i64 q.p.v.n, .string q.p.v.s, sv, .int .i64 q.col, ov], .agg #[rv, .int .i64 n, .bool has, .int .i64 v.ty, .int .i64 v.n, .string v.s]] w fun e w' => e = .returned (.string (resText q.kind rows n has v)) ∧ Below w.heap.size w w' := by
  obtain ⟨A, c, rfl, hl, hl2⟩ := hx.form
  have hb0 := up_a2 w (.cells #[.int .i64 q.kind, .int .i64 q.p.kind, .int .i64 q.p.col, .int .i64 q.p.op, .int .i64 q.p.v.ty, .int .i64 q.p.v.n, .string q.p.v.s, sv, .int .i64 q.col, ov] 48) (.cells #[.slice A rows.length c, .int .i64 n, .bool has, .int .i64 v.ty, .int .i64 v.n, .string v.s] 52)
  have g0 : ((w.alloc (.cells #[.int .i64 q.kind, .int .i64 q.p.kind, .int .i64 q.p.col, .int .i64 q.p.op, .int .i64 q.p.v.ty, .int .i64 q.p.v.n, .string q.p.v.s, sv, .int .i64 q.col, ov] 48)).alloc (.cells #[.slice A rows.length c, .int .i64 n, .bool has, .int .i64 v.ty, .int .i64 v.n, .string v.s] 52)).heap[w.heap.size]? = some (.cells #[.int .i64 q.kind, .int .i64 q.p.kind, .int .i64 q.p.col, .int .i64 q.p.op, .int .i64 q.p.v.ty, .int .i64 q.p.v.n, .string q.p.v.s, sv, .int .i64 q.col, ov] 48) := ((up_a1 (w.alloc (.cells #[.int .i64 q.kind, .int .i64 q.p.kind, .int .i64 q.p.col, .int .i64 q.p.op, .int .i64 q.p.v.ty, .int .i64 q.p.v.n, .string q.p.v.s, sv, .int .i64 q.col, ov] 48)) (.cells #[.slice A rows.length c, .int .i64 n, .bool has, .int .i64 v.ty, .int .i64 v.n, .string v.s] 52)).block w.heap.size (by simp)).trans (heap_alloc_new w _)
  have g1 : ((w.alloc (.cells #[.int .i64 q.kind, .int .i64 q.p.kind, .int .i64 q.p.col, .int .i64 q.p.op, .int .i64 q.p.v.ty, .int .i64 q.p.v.n, .string q.p.v.s, sv, .int .i64 q.col, ov] 48)).alloc (.cells #[.slice A rows.length c, .int .i64 n, .bool has, .int .i64 v.ty, .int .i64 v.n, .string v.s] 52)).heap[w.heap.size + 1]? = some (.cells #[.slice A rows.length c, .int .i64 n, .bool has, .int .i64 v.ty, .int .i64 v.n, .string v.s] 52) := by
    have h := heap_alloc_new (w.alloc (.cells #[.int .i64 q.kind, .int .i64 q.p.kind, .int .i64 q.p.col, .int .i64 q.p.op, .int .i64 q.p.v.ty, .int .i64 q.p.v.n, .string q.p.v.s, sv, .int .i64 q.col, ov] 48)) (.cells #[.slice A rows.length c, .int .i64 n, .bool has, .int .i64 v.ty, .int .i64 v.n, .string v.s] 52)
    rwa [World.size_alloc] at h
  have k0 := cell_of_row _ _ 0 _ _ _ g0
  have r0 := cell_of_row _ _ 0 _ _ _ g1
  have r1 := cell_of_row _ _ 1 _ _ _ g1
  have r2 := cell_of_row _ _ 2 _ _ _ g1
  have r3 := cell_of_row _ _ 3 _ _ _ g1
  have r4 := cell_of_row _ _ 4 _ _ _ g1
  have r5 := cell_of_row _ _ 5 _ _ _ g1
  simp only [List.getElem?_toArray, List.getElem?_cons_zero, List.getElem?_cons_succ] at k0 r0 r1 r2 r3 r4 r5
  have HT := Lib.hid (TabIs.below ht hb0)
  have HB0 := Lib.hid hb0
  have HX := Lib.hid (hx.below hb0 hhi)
  have hlt : w.heap.size + 1 < ((w.alloc (.cells #[.int .i64 q.kind, .int .i64 q.p.kind, .int .i64 q.p.col, .int .i64 q.p.op, .int .i64 q.p.v.ty, .int .i64 q.p.v.n, .string q.p.v.s, sv, .int .i64 q.col, ov] 48)).alloc (.cells #[.slice A rows.length c, .int .i64 n, .bool has, .int .i64 v.ty, .int .i64 v.n, .string v.s] 52)).heap.size := by simp
  have hhi0 : hi ≤ ((w.alloc (.cells #[.int .i64 q.kind, .int .i64 q.p.kind, .int .i64 q.p.col, .int .i64 q.p.op, .int .i64 q.p.v.ty, .int .i64 q.p.v.n, .string q.p.v.s, sv, .int .i64 q.col, ov] 48)).alloc (.cells #[.slice A rows.length c, .int .i64 n, .bool has, .int .i64 v.ty, .int .i64 v.n, .string v.s] 52)).heap.size := Nat.le_trans hhi hb0.size
  have G1 := Lib.hid g1
  clear hx ht hb0 g0 g1
  by_cases hk1 : q.kind = 1
  · have d1 : (q.kind == 1) = true := by simp [hk1]
    have HE := Lib.hid (show resText q.kind rows n has v = rowsText rows by rw [resText, if_pos hk1])
    clear hk1
    have HC := Lib.hid (impl_rowsText rows _ ((w.alloc (.cells #[.int .i64 q.kind, .int .i64 q.p.kind, .int .i64 q.p.col, .int .i64 q.p.op, .int .i64 q.p.v.ty, .int .i64 q.p.v.n, .string q.p.v.s, sv, .int .i64 q.col, ov] 48)).alloc (.cells #[.slice A rows.length c, .int .i64 n, .bool has, .int .i64 v.ty, .int .i64 v.n, .string v.s] 52)) HX.out hhi0 hs hn hid HT.out)
    clear hs hid hhi0 HX G1 HT hlt
    go_enter Tryd.func19, Tryd.ntmps19
    go_wp2_with fail
    refine HC.out.mono ?_
    rintro e w3 ⟨rfl, hb3⟩
    have HB3 := Lib.hid (bgo0 HB0.out hb3)
    clear hb3
    go_wp2_with fail
    go_ret
    exact ⟨by rw [HE.out]; rfl, HB3.out⟩
  have d1 : (q.kind == 1) = false := by simp [hk1]
  clear hs hid hhi0 HX G1 hlt
  by_cases hk2 : q.kind = 2 ∨ q.kind = 3
  · have HE := Lib.hid (show resText q.kind rows n has v = numText n by rw [resText, if_neg hk1, if_pos hk2])
    have HC := Lib.hid (impl_NumText' n ((w.alloc (.cells #[.int .i64 q.kind, .int .i64 q.p.kind, .int .i64 q.p.col, .int .i64 q.p.op, .int .i64 q.p.v.ty, .int .i64 q.p.v.n, .string q.p.v.s, sv, .int .i64 q.col, ov] 48)).alloc (.cells #[.slice A rows.length c, .int .i64 n, .bool has, .int .i64 v.ty, .int .i64 v.n, .string v.s] 52)) h0.1 h0.2 HT.out)
    rcases hk2 with hk | hk
    all_goals
      first
        | (have d2 : (q.kind == 2) = true := by simp [hk])
        | (have d2 : (q.kind == 2) = false := by simp [hk])
      have d3 : (q.kind == 3) = (q.kind == 3) := rfl
      first
        | (have d4 : (q.kind == 3) = true := by simp [hk])
        | (have d4 : (q.kind == 3) = false := by simp [hk])
      clear hk hk1 HT d3
      go_enter Tryd.func19, Tryd.ntmps19
      go_wp2_with fail
      refine HC.out.mono ?_
      rintro e w3 ⟨rfl, hb3⟩
      have HB3 := Lib.hid (bgo0 HB0.out hb3)
      clear hb3
      go_wp2_with fail
      go_ret
      exact ⟨by rw [HE.out]; rfl, HB3.out⟩
  have d2 : (q.kind == 2) = false := by simp; omega
  have d3 : (q.kind == 3) = false := by simp; omega
  by_cases hk4 : q.kind = 4 ∨ q.kind = 5
  · have HE := Lib.hid (show resText q.kind rows n has v = (if has then valText v else ⟨#[110, 111, 110, 101]⟩) by rw [resText, if_neg hk1, if_neg hk2, if_pos hk4])
    have HC := Lib.hid (impl_ValText v ((w.alloc (.cells #[.int .i64 q.kind, .int .i64 q.p.kind, .int .i64 q.p.col, .int .i64 q.p.op, .int .i64 q.p.v.ty, .int .i64 q.p.v.n, .string q.p.v.s, sv, .int .i64 q.col, ov] 48)).alloc (.cells #[.slice A rows.length c, .int .i64 n, .bool has, .int .i64 v.ty, .int .i64 v.n, .string v.s] 52)) hvs HT.out)
    cases has
    all_goals
      rcases hk4 with hk | hk
      all_goals
        first
          | (have d4 : (q.kind == 4) = true := by simp [hk])
          | (have d4 : (q.kind == 4) = false := by simp [hk])
        first
          | (have d5 : (q.kind == 5) = true := by simp [hk])
          | (have d5 : (q.kind == 5) = false := by simp [hk])
        clear hk hk1 hk2 HT
        go_enter Tryd.func19, Tryd.ntmps19
        go_wp2_with fail
        first
          | (go_ret; exact ⟨by rw [HE.out]; rfl, HB0.out⟩)
          | (refine HC.out.mono ?_
             rintro e w3 ⟨rfl, hb3⟩
             have HB3 := Lib.hid (bgo0 HB0.out hb3)
             clear hb3
             go_wp2_with fail
             go_ret
             exact ⟨by rw [HE.out]; rfl, HB3.out⟩)
  have d4 : (q.kind == 4) = false := by simp; omega
  have d5 : (q.kind == 5) = false := by simp; omega
  have HE := Lib.hid (show resText q.kind rows n has v = ⟨#[]⟩ by rw [resText, if_neg hk1, if_neg hk2, if_neg hk4])
  clear hk1 hk2 hk4 HT
  go_enter Tryd.func19, Tryd.ntmps19
  go_wp2_with fail
  go_ret
  exact ⟨by rw [HE.out]; rfl, HB0.out⟩
end Go.Proofs.YtmnmnofjeoanjaaDoor
