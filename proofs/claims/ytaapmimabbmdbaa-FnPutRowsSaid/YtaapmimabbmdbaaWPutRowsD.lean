/- The law FnPutRows returns true for every input: the walk. -/
import Derived.Test.YtaapmimabbmdbaaD15
import Derived.Test.YtaapmimabbmdbaaS18
import Derived.Test.YtaapmimabbmdbaaS26
import Derived.Test.YtaapmimabbmdbaaS38
import Derived.Test.YtaapmimabbmdbaaS40
import Derived.Test.YtaapmimabbmdbaaS42
namespace Go.Proofs.Ytaapmimabbmdbaa
open Go.RowKit Go.Lb
theorem lensR_small : ∀ {l : List R}, SmallR l → lensR l ≤ 4 * l.length
  | [], _ => by simp [lensR]
  | r :: l, h => by
    have h1 := lensR_small (l := l) fun x hx => h x (List.mem_cons_of_mem _ hx)
    have h2 := (h r (List.mem_cons_self ..)).1
    simp only [lensR, List.map_cons, List.sum_cons, List.length_cons] at *
    omega
theorem put_len (l : List R) (r : R) : (putRow l r).length = l.length + 1 := by
  have h2 := congrArg List.length (List.take_append_drop (putAt l r.id) l)
  rw [List.length_append] at h2
  rw [putRow, List.length_append, List.length_cons]
  omega
theorem put_lens (l : List R) (r : R) : lensR (putRow l r) = lensR l + r.l.length := by
  have h1 := congrArg lensR (List.take_append_drop (putAt l r.id) l)
  rw [lensR_append] at h1
  have h3 : lensR (r :: l.drop (putAt l r.id)) = r.l.length + lensR (l.drop (putAt l r.id)) := by simp [lensR]
  rw [putRow, lensR_append, h3]
  omega
theorem put_there (l : List R) (r : R) : hasRow (putRow l r) r.id = true := by
  unfold hasRow findRow
  rw [List.find?_isSome]
  exact ⟨r, by simp [putRow], by simp⟩
theorem drop_again (l : List R) (ids : List Int) : dropRows (dropRows l ids) ids = dropRows l ids := by
  unfold dropRows
  rw [List.filter_filter]
  simp
theorem drop_in {l : List R} {ids : List Int} {y : R} (h : y ∈ dropRows l ids) : hasI ids y.id = false := by
  have := (List.mem_filter.1 h).2
  simpa [keepRow] using this
theorem drop_len (l : List R) (ids : List Int) : (dropRows l ids).length ≤ l.length := List.length_filter_le ..
theorem drop_lens (l : List R) (ids : List Int) : lensR (dropRows l ids) ≤ lensR l := lensR_filter ..
end Go.Proofs.Ytaapmimabbmdbaa
namespace Go.Proofs.Ytaapmimabbmdbaa
open Go.Sort Go.ChangeShapes Go.WideShapes Go.ChangeAt Go.RowKit Go.Lb

set_option maxRecDepth 20000 in
set_option maxHeartbeats 4000000 in
theorem wPutRows (code : List UInt8) (x : Value) (w : World) (hx : RdB w 0 w.heap.size x code) :
    Calls Try.prog 5 #[x] w fun e w' => e = .returned (.bool true) ∧ Below w.heap.size w w' := by
  go_enter Try.func5, Try.ntmps5
  go_wp2_with fail
  refine (law_big code _ w hx).mono ?_
  rintro e w1 ⟨rfl, rfl⟩
  by_cases hbg : 1048576 < (code.length : Int)
  · have hd := decide_eq_true hbg
    go_wp2_with fail
    go_ret
    exact ⟨rfl, Below.refl _ _⟩
  have hd := decide_eq_false hbg
  have hcl : code.length ≤ 1048576 := by omega
  go_wp2_with fail
  clear hbg hd
  have HB := Lib.hid (Below.refl w.heap.size w)
  refine (spec_DrawPutRow code _ w hx (Nat.le_refl _) hcl).mono ?_
  rintro e w1 ⟨lv, sv, l, r, rfl, hl, hv, hll, hls, hrl, hrs, hb⟩
  have hx := hx.below hb (by omega)
  have z_w1 := hb.size
  have HB := Lib.hid (HB.out.trans (hb.mono HB.out.size))
  obtain ⟨Al, cl, rfl, -, -⟩ := hl.form
  obtain ⟨As, cs, rfl, -, -⟩ := hv.form
  clear hb
  go_wp2_with fail
  have up := up_a1 w1 (.cells #[.int .i64 r.id, .slice As r.l.length cs] 44)
  have B40 := heap_alloc_new w1 (.cells #[.int .i64 r.id, .slice As r.l.length cs] 44)
  have hs : (w1.alloc (.cells #[.int .i64 r.id, .slice As r.l.length cs] 44)).heap.size = w1.heap.size + 1 := by simp
  obtain ⟨w2, hw2⟩ : ∃ w2, w1.alloc (.cells #[.int .i64 r.id, .slice As r.l.length cs] 44) = w2 := ⟨_, rfl⟩
  rw [hw2] at up B40 hs
  simp only [hw2]
  have hx := hx.below up (by omega)
  have hl := hl.below up (by omega)
  have hv := hv.below up (by omega)
  have z_w2 := up.size
  have HB := Lib.hid (HB.out.trans (up.mono HB.out.size))
  have B4 := Lib.hid B40
  clear up B40 z_w2 hw2
  refine (spec_DrawDropRows code _ w2 hx (by omega) hcl).mono ?_
  rintro e w3 ⟨mv, iv, m, ids, rfl, hm, hi, hml, hms, hil, hb⟩
  have hx := hx.below hb (by omega)
  have hl := hl.below hb (by omega)
  have hv := hv.below hb (by omega)
  have B4 := Lib.hid ((hb.block _ (by omega)).trans B4.out)
  have z_w3 := hb.size
  have HB := Lib.hid (HB.out.trans (hb.mono HB.out.size))
  obtain ⟨Am, cm, rfl, -, -⟩ := hm.form
  obtain ⟨Ai, ci, rfl, -, -⟩ := hi.form
  clear hb
  go_wp2_with fail
  refine (spec_DrawFindRow code _ w3 hx (by omega) hcl).mono ?_
  rintro e w4 ⟨av, a, id, rfl, ha, hal, has, hb⟩
  have hx := hx.below hb (by omega)
  have hl := hl.below hb (by omega)
  have hv := hv.below hb (by omega)
  have hm := hm.below hb (by omega)
  have hi := hi.below hb (by omega)
  have B4 := Lib.hid ((hb.block _ (by omega)).trans B4.out)
  have z_w4 := hb.size
  have HB := Lib.hid (HB.out.trans (hb.mono HB.out.size))
  obtain ⟨Aa, ca, rfl, -, -⟩ := ha.form
  clear hb
  have n1 : l.length ≤ 1048576 ∧ lensR l ≤ 1048576 := by have := lensR_small hls; omega
  have n2 : m.length ≤ 1048576 ∧ lensR m ≤ 1048576 := by have := lensR_small hms; omega
  have n3 : lensR a ≤ 1048576 := by have := lensR_small has; omega
  have hrl2 : r.l.length ≤ 1048576 := by omega
  have n6 : lensR l ≤ 36 := by have := lensR_small hls; omega
  clear hls hms has hx
  have b0 := cell_of_row w4 (w1.heap.size) 0 _ _ _ B4.out
  have b1 := cell_of_row w4 (w1.heap.size) 1 _ _ _ B4.out
  simp only [List.getElem?_toArray, List.getElem?_cons_zero, List.getElem?_cons_succ] at b0 b1
  go_wp2_with fail
  refine (impl_PutRow l _ r (.slice As r.l.length cs) w4 hl (by omega) hv (by omega) n1 hrl2).mono ?_
  rintro e w5 ⟨pv, rfl, hown, hb⟩
  clear b0 b1
  have hl := hl.below hb (by omega)
  have hv := hv.below hb (by omega)
  have hm := hm.below hb (by omega)
  have hi := hi.below hb (by omega)
  have ha := ha.below hb (by omega)
  have B4 := Lib.hid ((hb.block _ (by omega)).trans B4.out)
  have z_w5 := hb.size
  have HB := Lib.hid (HB.out.trans (hb.mono HB.out.size))
  have hp := hown.rdR
  obtain ⟨Ap, cp, rfl, -, -⟩ := hp.form
  clear hown hb
  go_wp2_with fail
  refine (impl_DropRows m _ ids _ w5 hm (by omega) hi (by omega) n2).mono ?_
  rintro e w6 ⟨dv, rfl, hown, hb⟩
  have hl := hl.below hb (by omega)
  have hv := hv.below hb (by omega)
  have hm := hm.below hb (by omega)
  have hi := hi.below hb (by omega)
  have ha := ha.below hb (by omega)
  have hp := hp.below hb (by omega)
  have B4 := Lib.hid ((hb.block _ (by omega)).trans B4.out)
  have z_w6 := hb.size
  have HB := Lib.hid (HB.out.trans (hb.mono HB.out.size))
  have hq := hown.rdR
  obtain ⟨Aq, cq, rfl, -, -⟩ := hq.form
  clear hown hb
  go_wp2_with fail
  refine (impl_FindRow a _ id w6 ha (by omega) n3).mono ?_
  rintro e w7 ⟨fv, rfl, hown, hb⟩
  have hl := hl.below hb (by omega)
  have hv := hv.below hb (by omega)
  have hm := hm.below hb (by omega)
  have hi := hi.below hb (by omega)
  have ha := ha.below hb (by omega)
  have hp := hp.below hb (by omega)
  have hq := hq.below hb (by omega)
  have B4 := Lib.hid ((hb.block _ (by omega)).trans B4.out)
  have z_w7 := hb.size
  have HB := Lib.hid (HB.out.trans (hb.mono HB.out.size))
  have hf := hown.rdV
  obtain ⟨Af, cf, rfl, -, -⟩ := hf.form
  clear hown hb
  obtain ⟨F, hF⟩ : ∃ F, foundRow a id = F := ⟨_, rfl⟩
  obtain ⟨H, hH⟩ : ∃ H, hasRow a id = H := ⟨_, rfl⟩
  have HF := Lib.hid hF
  have HH := Lib.hid hH
  rw [hF] at hf ⊢
  rw [hH]
  clear hF hH
  go_wp2_with fail
  have up := up_a1 w7 (.cells #[.int .i64 F.id, .slice Af F.l.length cf] 44)
  have B110 := heap_alloc_new w7 (.cells #[.int .i64 F.id, .slice Af F.l.length cf] 44)
  have hs : (w7.alloc (.cells #[.int .i64 F.id, .slice Af F.l.length cf] 44)).heap.size = w7.heap.size + 1 := by simp
  obtain ⟨w8, hw8⟩ : ∃ w8, w7.alloc (.cells #[.int .i64 F.id, .slice Af F.l.length cf] 44) = w8 := ⟨_, rfl⟩
  rw [hw8] at up B110 hs
  simp only [hw8]
  have hl := hl.below up (by omega)
  have hv := hv.below up (by omega)
  have hm := hm.below up (by omega)
  have hi := hi.below up (by omega)
  have ha := ha.below up (by omega)
  have hp := hp.below up (by omega)
  have hq := hq.below up (by omega)
  have hf := hf.below up (by omega)
  have B4 := Lib.hid ((up.block _ (by omega)).trans B4.out)
  have z_w8 := up.size
  have HB := Lib.hid (HB.out.trans (up.mono HB.out.size))
  have B11 := Lib.hid B110
  clear up B110 z_w8 hw8
  refine (spec_FindRow a _ id w8 ha (by omega) n3).mono ?_
  rintro e w9 ⟨gv, rfl, hown, hb⟩
  have hl := hl.below hb (by omega)
  have hv := hv.below hb (by omega)
  have hm := hm.below hb (by omega)
  have hi := hi.below hb (by omega)
  have ha := ha.below hb (by omega)
  have hp := hp.below hb (by omega)
  have hq := hq.below hb (by omega)
  have hf := hf.below hb (by omega)
  have B4 := Lib.hid ((hb.block _ (by omega)).trans B4.out)
  have B11 := Lib.hid ((hb.block _ (by omega)).trans B11.out)
  have z_w9 := hb.size
  have HB := Lib.hid (HB.out.trans (hb.mono HB.out.size))
  have hg := hown.rdV
  rw [HF.out] at hg
  obtain ⟨Ag, cg, rfl, -, -⟩ := hg.form
  clear hown hb
  rw [HF.out, HH.out]
  have P1 := Lib.hid (put_len l r)
  have b0 := cell_of_row (w9.alloc (.cells #[.int .i64 F.id, .slice Ag F.l.length cg] 44)) w1.heap.size 0 _ _ _ (((up_a1 w9 (.cells #[.int .i64 F.id, .slice Ag F.l.length cg] 44)).block _ (by omega)).trans B4.out)
  have b1 := cell_of_row (w9.alloc (.cells #[.int .i64 F.id, .slice Ag F.l.length cg] 44)) w1.heap.size 1 _ _ _ (((up_a1 w9 (.cells #[.int .i64 F.id, .slice Ag F.l.length cg] 44)).block _ (by omega)).trans B4.out)
  simp only [List.getElem?_toArray, List.getElem?_cons_zero, List.getElem?_cons_succ] at b0 b1
  go_wp2_with fail
  clear b0 b1
  have up := up_a1 w9 (.cells #[.int .i64 F.id, .slice Ag F.l.length cg] 44)
  have B130 := heap_alloc_new w9 (.cells #[.int .i64 F.id, .slice Ag F.l.length cg] 44)
  have hs : (w9.alloc (.cells #[.int .i64 F.id, .slice Ag F.l.length cg] 44)).heap.size = w9.heap.size + 1 := by simp
  obtain ⟨w10, hw10⟩ : ∃ w10, w9.alloc (.cells #[.int .i64 F.id, .slice Ag F.l.length cg] 44) = w10 := ⟨_, rfl⟩
  rw [hw10] at up B130 hs
  simp only [hw10]
  have hl := hl.below up (by omega)
  have hv := hv.below up (by omega)
  have hm := hm.below up (by omega)
  have hi := hi.below up (by omega)
  have ha := ha.below up (by omega)
  have hp := hp.below up (by omega)
  have hq := hq.below up (by omega)
  have hf := hf.below up (by omega)
  have hg := hg.below up (by omega)
  have B4 := Lib.hid ((up.block _ (by omega)).trans B4.out)
  have B11 := Lib.hid ((up.block _ (by omega)).trans B11.out)
  have z_w10 := up.size
  have HB := Lib.hid (HB.out.trans (up.mono HB.out.size))
  have B13 := Lib.hid B130
  clear up B130 z_w10 hw10
  refine (spec_PutRow l _ r (.slice As r.l.length cs) w10 hl (by omega) hv (by omega) n1 hrl2).mono ?_
  rintro e w11 ⟨pv2, rfl, hown, hb⟩
  have hl := hl.below hb (by omega)
  have hv := hv.below hb (by omega)
  have hm := hm.below hb (by omega)
  have hi := hi.below hb (by omega)
  have ha := ha.below hb (by omega)
  have hp := hp.below hb (by omega)
  have hq := hq.below hb (by omega)
  have hf := hf.below hb (by omega)
  have hg := hg.below hb (by omega)
  have B4 := Lib.hid ((hb.block _ (by omega)).trans B4.out)
  have B11 := Lib.hid ((hb.block _ (by omega)).trans B11.out)
  have B13 := Lib.hid ((hb.block _ (by omega)).trans B13.out)
  have z_w11 := hb.size
  have HB := Lib.hid (HB.out.trans (hb.mono HB.out.size))
  have hp2 := hown.rdR
  clear hown hb
  go_wp2_with fail
  refine (law_sameRows (putRow l r) _ _ w11 hp (by omega) hp2 (Nat.le_refl _)).mono ?_
  rintro e w12 ⟨rfl, hb⟩
  clear hp2
  have hl := hl.below hb (by omega)
  have hv := hv.below hb (by omega)
  have hm := hm.below hb (by omega)
  have hi := hi.below hb (by omega)
  have ha := ha.below hb (by omega)
  have hp := hp.below hb (by omega)
  have hq := hq.below hb (by omega)
  have hf := hf.below hb (by omega)
  have hg := hg.below hb (by omega)
  have B4 := Lib.hid ((hb.block _ (by omega)).trans B4.out)
  have B11 := Lib.hid ((hb.block _ (by omega)).trans B11.out)
  have B13 := Lib.hid ((hb.block _ (by omega)).trans B13.out)
  have z_w12 := hb.size
  have HB := Lib.hid (HB.out.trans (hb.mono HB.out.size))
  clear hb
  go_wp2_with fail
  refine (spec_DropRows m _ ids _ w12 hm (by omega) hi (by omega) n2).mono ?_
  rintro e w13 ⟨dv2, rfl, hown, hb⟩
  have hl := hl.below hb (by omega)
  have hv := hv.below hb (by omega)
  have hm := hm.below hb (by omega)
  have hi := hi.below hb (by omega)
  have ha := ha.below hb (by omega)
  have hp := hp.below hb (by omega)
  have hq := hq.below hb (by omega)
  have hf := hf.below hb (by omega)
  have hg := hg.below hb (by omega)
  have B4 := Lib.hid ((hb.block _ (by omega)).trans B4.out)
  have B11 := Lib.hid ((hb.block _ (by omega)).trans B11.out)
  have B13 := Lib.hid ((hb.block _ (by omega)).trans B13.out)
  have z_w13 := hb.size
  have HB := Lib.hid (HB.out.trans (hb.mono HB.out.size))
  have hq2 := hown.rdR
  clear hown hb
  go_wp2_with fail
  refine (law_sameRows (dropRows m ids) _ _ w13 hq (by omega) hq2 (Nat.le_refl _)).mono ?_
  rintro e w14 ⟨rfl, hb⟩
  clear hq2
  have hl := hl.below hb (by omega)
  have hv := hv.below hb (by omega)
  have hm := hm.below hb (by omega)
  have hi := hi.below hb (by omega)
  have ha := ha.below hb (by omega)
  have hp := hp.below hb (by omega)
  have hq := hq.below hb (by omega)
  have hf := hf.below hb (by omega)
  have hg := hg.below hb (by omega)
  have B4 := Lib.hid ((hb.block _ (by omega)).trans B4.out)
  have B11 := Lib.hid ((hb.block _ (by omega)).trans B11.out)
  have B13 := Lib.hid ((hb.block _ (by omega)).trans B13.out)
  have z_w14 := hb.size
  have HB := Lib.hid (HB.out.trans (hb.mono HB.out.size))
  clear hb
  have b0 := cell_of_row w14 (w7.heap.size) 0 _ _ _ B11.out
  have b1 := cell_of_row w14 (w7.heap.size) 1 _ _ _ B11.out
  simp only [List.getElem?_toArray, List.getElem?_cons_zero, List.getElem?_cons_succ] at b0 b1
  have c0 := cell_of_row w14 (w9.heap.size) 0 _ _ _ B13.out
  have c1 := cell_of_row w14 (w9.heap.size) 1 _ _ _ B13.out
  simp only [List.getElem?_toArray, List.getElem?_cons_zero, List.getElem?_cons_succ] at c0 c1
  go_wp2_with fail
  refine (law_sameVals F.l _ _ w14 hf (by omega) hg (by omega)).mono ?_
  rintro e w15 ⟨rfl, hb⟩
  clear b0 b1 c0 c1
  have hl := hl.below hb (by omega)
  have hv := hv.below hb (by omega)
  have hm := hm.below hb (by omega)
  have hi := hi.below hb (by omega)
  have ha := ha.below hb (by omega)
  have hp := hp.below hb (by omega)
  have hq := hq.below hb (by omega)
  have hf := hf.below hb (by omega)
  have hg := hg.below hb (by omega)
  have B4 := Lib.hid ((hb.block _ (by omega)).trans B4.out)
  have B11 := Lib.hid ((hb.block _ (by omega)).trans B11.out)
  have B13 := Lib.hid ((hb.block _ (by omega)).trans B13.out)
  have z_w15 := hb.size
  have HB := Lib.hid (HB.out.trans (hb.mono HB.out.size))
  clear hb
  have b0 := cell_of_row w15 (w1.heap.size) 0 _ _ _ B4.out
  have b1 := cell_of_row w15 (w1.heap.size) 1 _ _ _ B4.out
  simp only [List.getElem?_toArray, List.getElem?_cons_zero, List.getElem?_cons_succ] at b0 b1
  have hln : (((putRow l r).length : Int) != (l.length : Int) + 1) = false := by rw [P1.out]; simp
  have hw1 : IntKind.i64.wrap ((l.length : Int) + 1) = (l.length : Int) + 1 := IntWalk.i64_in _ ⟨by omega, by omega⟩
  go_wp2_with fail
  have n4 : lensR (putRow l r) ≤ 1048576 := by rw [put_lens]; omega
  have n5 : (dropRows m ids).length ≤ 1048576 ∧ lensR (dropRows m ids) ≤ 1048576 := ⟨Nat.le_trans (drop_len _ _) n2.1, Nat.le_trans (drop_lens _ _) n2.2⟩
  refine (impl_FindRow (putRow l r) _ r.id w15 hp (by omega) n4).mono ?_
  rintro e w16 ⟨fv, rfl, hown, hb⟩
  rw [put_there]
  clear b0 b1
  have hl := hl.below hb (by omega)
  have hv := hv.below hb (by omega)
  have hm := hm.below hb (by omega)
  have hi := hi.below hb (by omega)
  have ha := ha.below hb (by omega)
  have hp := hp.below hb (by omega)
  have hq := hq.below hb (by omega)
  have hf := hf.below hb (by omega)
  have hg := hg.below hb (by omega)
  have B4 := Lib.hid ((hb.block _ (by omega)).trans B4.out)
  have B11 := Lib.hid ((hb.block _ (by omega)).trans B11.out)
  have B13 := Lib.hid ((hb.block _ (by omega)).trans B13.out)
  have z_w16 := hb.size
  have HB := Lib.hid (HB.out.trans (hb.mono HB.out.size))
  have hD2 := Lib.hid (drop_again m ids)
  have hD3 := Lib.hid (fun y => drop_in (l := m) (ids := ids) (y := y))
  generalize dropRows m ids = D at *
  generalize foundRow (putRow l r) r.id = G at *
  obtain ⟨Ah, ch, rfl, -, -⟩ := hown.rdV.form
  clear hown hb
  go_wp2_with fail
  have up := up_a1 w16 (.cells #[.int .i64 G.id, .slice Ah G.l.length ch] 44)
  have B150 := heap_alloc_new w16 (.cells #[.int .i64 G.id, .slice Ah G.l.length ch] 44)
  have hs : (w16.alloc (.cells #[.int .i64 G.id, .slice Ah G.l.length ch] 44)).heap.size = w16.heap.size + 1 := by simp
  obtain ⟨w17, hw17⟩ : ∃ w17, w16.alloc (.cells #[.int .i64 G.id, .slice Ah G.l.length ch] 44) = w17 := ⟨_, rfl⟩
  rw [hw17] at up B150 hs
  simp only [hw17]
  have hl := hl.below up (by omega)
  have hv := hv.below up (by omega)
  have hm := hm.below up (by omega)
  have hi := hi.below up (by omega)
  have ha := ha.below up (by omega)
  have hp := hp.below up (by omega)
  have hq := hq.below up (by omega)
  have hf := hf.below up (by omega)
  have hg := hg.below up (by omega)
  have B4 := Lib.hid ((up.block _ (by omega)).trans B4.out)
  have B11 := Lib.hid ((up.block _ (by omega)).trans B11.out)
  have B13 := Lib.hid ((up.block _ (by omega)).trans B13.out)
  have z_w17 := up.size
  have HB := Lib.hid (HB.out.trans (up.mono HB.out.size))
  have B15 := Lib.hid B150
  clear up B150 z_w17 hw17
  go_loopw [17] (fun i wr => ∃ k : Nat, i = .int .i64 k ∧ k ≤ D.length ∧ Below w17.heap.size w17 wr) (fun i _ => D.length - (intOf i).toNat)
  case atStart => exact ⟨0, rfl, Nat.zero_le _, Below.refl _ _⟩
  case round =>
    obtain ⟨k, rfl, hk, hb⟩ := hrel
    have hzr := hb.size
    by_cases hkl : k < D.length
    · obtain ⟨b, off, y, yv, rfl, -, hbl, hyk, e0, -, -⟩ := (hq.below hb (by omega)).at hkl
      have hno := hD3.out y (mem_of_get hyk)
      clear hyk
      go_wp2_with fail
      refine (q_laws_in ids _ y.id wr (hi.below hb (by omega)) (by omega)).mono ?_
      rintro e v1 ⟨rfl, rfl⟩
      rw [hno]
      go_wp2_with fail
      go_roundw
      case rel => exact ⟨k + 1, by go_num, by omega, hb⟩
      case measure => simp [intOf]; omega
    · go_wp2_with fail
      refine (impl_DropRows D _ ids _ wr (hq.below hb (by omega)) (by omega) (hi.below hb (by omega)) (by omega) n5).mono ?_
      rintro e v1 ⟨ev, rfl, hown, hb2⟩
      rw [hD2.out] at hown
      go_wp2_with fail
      refine (law_sameRows D _ _ v1 hown.rdR (Nat.le_refl _) ((hq.below hb (by omega)).below hb2 (by omega)) (by have := hb2.size; omega)).mono ?_
      rintro e v2 ⟨rfl, hb3⟩
      go_wp2_with fail
      go_ret
      exact ⟨rfl, HB.out.trans (((hb.trans (hb2.mono hb.size)).trans (hb3.mono (Nat.le_trans hb.size hb2.size))).mono HB.out.size)⟩
end Go.Proofs.Ytaapmimabbmdbaa
