/- Draws: dictionaries, and what is looked up in them. -/
import Derived.Test.YticimccfeohpcaaXA
import Derived.Test.YticimccfeohpcaaD9
import Derived.Test.YticimccfeohpcaaD26
import Derived.Test.YticimccfeohpcaaEG
import Derived.Test.YticimccfeohpcaaER
namespace Go.Proofs.Yticimccfeohpcaa
open Go.Sort Go.ChangeShapes Go.WideShapes Go.ChangeAt Go.RowKit Go.Lb
set_option maxRecDepth 20000 in
set_option maxHeartbeats 4000000 in
theorem spec_l7Pair (w : World) (g : Nat) (hd : Dr w g) :
    Calls Try.prog 122 #[.pointer (some ⟨g, 0, none⟩)] w (DrP w g fun v w' => ∃ (dv lv : Value) (d l : List V), v = .tuple #[dv, lv] ∧ RdV w' (g + 1) w'.heap.size dv d ∧ RdV w' (g + 1) w'.heap.size lv l ∧ 0 < l.length ∧ l.length ≤ 20 ∧ d.length ≤ 20) := by
  have hlt := hd.lt
  have HC := Lib.hid (spec_l5Draw w g hd)
  go_enter Try.func122, Try.ntmps122
  go_wp2_with fail
  refine HC.out.mono ?_
  rintro e w2 ⟨_, rfl, ⟨l, ⟨hgl, hsm⟩, hl0, hll⟩, hch2, hd2⟩
  have ho := (show Own 66 3 w2 w.heap.size w2.heap.size _ l.length (l.flatMap V.cells) from hgl).up hlt
  obtain ⟨A2, c2, rfl, -, -⟩ := ho.cells.form
  have RL := Lib.hid ho.rdV
  clear HC ho hgl hsm hlt
  have HD := Lib.hid (spec_Dict l _ w2 RL.out (Nat.le_refl _) (by omega))
  have hd1 : 0 < (dictOf l).length := by
    obtain ⟨a, ha⟩ : ∃ a, a ∈ l := ⟨l[0], List.getElem_mem _⟩
    exact List.length_pos_of_mem (mem_dictOf.2 ha)
  have hdl : (dictOf l).length ≤ 20 := Nat.le_trans (dictOf_len l) hll
  go_wp2_with fail
  refine HD.out.mono ?_
  rintro e w3 ⟨dv, rfl, hod, hb3⟩
  replace RL := Lib.hid (RL.out.dgb hb3)
  have hch3 := hch2.trans (.of_below hb3)
  have hd3 := hd2.below hb3
  have hlt2 := hd2.lt
  obtain ⟨gd, cd, rfl, -, -, hcap, hcap2, -, -⟩ := owns_formS hod.1 hd1
  have RD := Lib.hid (hod.rdV.more (show g + 1 ≤ w2.heap.size from hlt2) (Nat.le_refl _))
  generalize dictOf l = d at *
  clear hod hb3 hch2 hd2 HD hlt2
  have HC := Lib.hid (spec_l1Once 6 w3 g hd3 (by decide))
  go_wp2_with fail
  refine HC.out.mono ?_
  rintro e w4 ⟨_, rfl, ⟨on, rfl⟩, hch4, hd4⟩
  replace RL := Lib.hid (RL.out.dgo hch4)
  replace RD := Lib.hid (RD.out.dgo hch4)
  have hch5 := hch3.trans hch4
  clear hch3 hch4 hd3 HC
  cases on
  · go_wp2_with fail
    refine bodyPost_ret (v := .tuple #[.slice (some ⟨gd, 0, none⟩) d.length cd, .slice A2 l.length c2]) (by simp [results, Try.results122, go_sem]) rfl ⟨_, rfl, ⟨_, _, d, l, rfl, RD.out, RL.out, hl0, hll, hdl⟩, hch5, hd4⟩
  · have hdr := rdV_dropIf RD.out (k := 1) hd1 hcap
    have f1 : (1 : Int) ≤ (cd : Int) := by omega
    have f2 : (1 : Int) ≤ (d.length : Int) := by omega
    have f3 : (d.length : Int) ≤ (cd : Int) := by omega
    obtain ⟨AA, hAA⟩ : ∃ AA, (if cd = 1 then some (⟨gd, 0, none⟩ : Addr) else some ⟨gd, 1 * 3, none⟩) = AA := ⟨_, rfl⟩
    rw [hAA] at hdr
    rw [Nat.one_mul] at hAA
    have Hdr := Lib.hid hdr
    have hdd : (d.drop 1).length ≤ 20 := by rw [List.length_drop]; omega
    clear hdr RD
    go_wp2_with fail
    refine bodyPost_ret (v := .tuple #[.slice AA (d.length - 1) (cd - 1), .slice A2 l.length c2]) (by simp [results, Try.results122, go_sem]) rfl ⟨_, rfl, ⟨_, _, d.drop 1, l, rfl, Hdr.out, RL.out, hl0, hll, hdd⟩, hch5, hd4⟩
set_option maxRecDepth 20000 in
set_option maxHeartbeats 4000000 in
theorem spec_DrawPlaces (code : List UInt8) (x : Value) (w : World) {lo hi : Nat} (hx : RdB w lo hi x code) (hhi : hi ≤ w.heap.size) (hn : code.length ≤ 1048576) :
    Calls Try.prog 74 #[x] w fun e w' => ∃ (dv lv : Value) (d l : List V), e = .returned (.tuple #[dv, lv]) ∧ RdV w' w.heap.size w'.heap.size dv d ∧ RdV w' w.heap.size w'.heap.size lv l ∧ d.length ≤ 20 ∧ l.length ≤ 20 ∧ Below w.heap.size w w' := by
  go_enter Try.func74, Try.ntmps74
  go_wp2_with fail
  refine (spec_l1New code x w hx hhi hn).mono ?_
  rintro e w1 ⟨g, rfl, hg, hb, hd⟩
  have HB := Lib.hid hb
  clear hb hx
  have HC := Lib.hid (spec_l7Pair w1 g hd)
  go_wp2_with fail
  refine HC.out.mono ?_
  rintro e w2 ⟨_, rfl, ⟨dv, lv, d, l, rfl, hrd, hrl, hl0, hll, hdl⟩, hch, hd2⟩
  replace HB := Lib.hid (chg_below HB.out hch hg (Nat.le_refl _))
  obtain ⟨Ad, cd, rfl, -, -⟩ := hrd.form
  obtain ⟨Al, cl, rfl, -, -⟩ := hrl.form
  clear hch hd HC
  have r1 := hrd.more (show w.heap.size ≤ g + 1 by omega) (Nat.le_refl _)
  have r2 := hrl.more (show w.heap.size ≤ g + 1 by omega) (Nat.le_refl _)
  clear hrd hrl
  go_wp2_with fail
  refine bodyPost_ret (v := .tuple #[.slice Ad d.length cd, .slice Al l.length cl]) (by simp [results, Try.results74, go_sem]) rfl ⟨_, _, d, l, rfl, r1, r2, hdl, hll, HB.out⟩
set_option maxRecDepth 20000 in
set_option maxHeartbeats 4000000 in
theorem spec_DrawPicked (code : List UInt8) (x : Value) (w : World) {lo hi : Nat} (hx : RdB w lo hi x code) (hhi : hi ≤ w.heap.size) (hn : code.length ≤ 1048576) :
    Calls Try.prog 71 #[x] w fun e w' => ∃ (dv qv : Value) (d : List V) (q : List Int), e = .returned (.tuple #[dv, qv]) ∧ RdV w' w.heap.size w'.heap.size dv d ∧ RdI w' w.heap.size w'.heap.size qv q ∧ d.length ≤ 20 ∧ q.length ≤ 21 ∧ Below w.heap.size w w' := by
  go_enter Try.func71, Try.ntmps71
  go_wp2_with fail
  refine (spec_l1New code x w hx hhi hn).mono ?_
  rintro e w1 ⟨g, rfl, hg, hb, hd⟩
  have HB := Lib.hid hb
  clear hb hx
  have HC := Lib.hid (spec_l7Pair w1 g hd)
  go_wp2_with fail
  refine HC.out.mono ?_
  rintro e w2 ⟨_, rfl, ⟨dv, lv, d, l, rfl, hrd, hrl, hl0, hll, hdl⟩, hch, hd2⟩
  replace HB := Lib.hid (chg_below HB.out hch hg (Nat.le_refl _))
  obtain ⟨Ad, cd, rfl, -, -⟩ := hrd.form
  obtain ⟨Al, cl, rfl, -, -⟩ := hrl.form
  clear hch hd HC
  have hlt := hd2.lt
  have HP := Lib.hid (spec_PlacesQ d l _ _ w2 hrd hrl (Nat.le_refl _) (Nat.le_refl _) (by omega))
  have hpl : ((placesQ d l).getD []).length ≤ 20 := by
    cases h : placesQ d l with
    | none => simp
    | some q =>
      unfold placesQ at h
      split at h
      · injection h with h
        subst h
        rw [Option.getD_some, List.length_map]
        exact hll
      · cases h
  go_wp2_with fail
  refine HP.out.mono ?_
  rintro e w3 ⟨_, rfl, hop, hb3⟩
  generalize (placesQ d l).getD [] = q at *
  generalize (placesQ d l).isSome = okp at *
  have RD := Lib.hid (hrd.below hb3 (Nat.le_refl _))
  have hs23 := hb3.size
  replace HB := Lib.hid (below_go HB.out hb3)
  have hd3 := hd2.below hb3
  obtain ⟨Aq, cq, rfl, -, -⟩ := hop.cells.form
  have RQ := Lib.hid hop.1
  clear hop hb3 hd2 HP hrd hrl
  have HC := Lib.hid (spec_l1Once 6 w3 g hd3 (by decide))
  go_wp2_with fail
  refine HC.out.mono ?_
  rintro e w4 ⟨_, rfl, ⟨on, rfl⟩, hch, hd4⟩
  replace RD := Lib.hid (RD.out.same (.of_chg hch (.inr (Nat.le_refl _)) hs23))
  replace RQ := Lib.hid (owns_chg RQ.out hch hlt)
  replace HB := Lib.hid (chg_below HB.out hch hg (Nat.le_refl _))
  have hs24 := Nat.le_trans hs23 hch.size
  clear hch HC hd3
  cases on
  · have r1 := RD.out.more (show w.heap.size ≤ g + 1 by omega) hs24
    have r2 := (Own.new RQ.out).rdI.more (show w.heap.size ≤ w2.heap.size by omega) (Nat.le_refl _)
    go_wp2_with fail
    refine bodyPost_ret (v := .tuple #[.slice Ad d.length cd, .slice Aq q.length cq]) (by simp [results, Try.results71, go_sem]) rfl ⟨_, _, d, q, rfl, r1, r2, hdl, by omega, HB.out⟩
  · have hxa := rdI_new w4 [-1, (d.length : Int), 0] 3 (by simp [maxLen])
    have hlt4 := hd4.lt
    have hd5 := dr_new hd4 (([-1, (d.length : Int), 0] : List Int).map (Value.int .i64)).toArray 3
    have hc5 := chg_new g w4 (([-1, (d.length : Int), 0] : List Int).map (Value.int .i64)).toArray 3
    go_wp2_with fail
    refine (spec_l1Int [-1, (d.length : Int), 0] _ _ g hd5 (RdG.imp hxa hlt4 (Nat.le_refl _) fun _ _ _ _ _ h => h) (by first | (simp; done) | (simp only [World.size_alloc]; omega)) (by simp) (by simp)).mono ?_
    rintro e w5 ⟨_, rfl, ⟨j, hj, rfl⟩, hch, hd6⟩
    replace hch := hc5.trans hch
    replace RD := Lib.hid (RD.out.same (.of_chg hch (.inr (Nat.le_refl _)) hs24))
    replace RQ := Lib.hid (owns_chg RQ.out hch hlt)
    replace HB := Lib.hid (chg_below HB.out hch hg (Nat.le_refl _))
    have hs25 := Nat.le_trans hs24 hch.size
    clear hch hc5 hd5 hxa hd4 hj
    obtain ⟨i0, hif, hz0, hz1, hz2⟩ := info_parts info_i64
    replace hif := Lib.hid hif
    replace hz0 := Lib.hid hz0
    replace hz1 := Lib.hid hz1
    replace hz2 := Lib.hid hz2
    have hown := RQ.out
    have hup := up_a1 w5 (.cells #[.int .i64 j] 3)
    replace RD := Lib.hid (RD.out.below hup hs25)
    have hs26 := Nat.le_trans hs25 hup.size
    replace HB := Lib.hid (below_go HB.out hup)
    go_wp2_with (at_builtin; refine wpl_app rfl _ _ 26 rfl w2.heap.size 3 i0 _ 1 8 Try.underlying26 hif.out hz0.out hz1.out hz2.out rfl (by decide) (by decide) (hown.alloc _) rfl (heap_alloc_new _ _) rfl rfl (by simp [Value.oneCell']) (by omega) (by simp; omega) ?_)
    intro v' w9 hown' hgrow _
    have HB9 := Below.grown HB.out hgrow (fun b hb => by have := (hown.lt b hb).1; omega) (Nat.le_refl _)
    have r1 := RD.out.same (w' := w9) (fun b _ hb => hgrow.block b (by omega) (fun e => by have := (hown.lt b e.symm).1; omega))
    have r2 := (show Own 3 1 w9 w2.heap.size w9.heap.size v' (q ++ [j]).length ((q ++ [j]).map (Value.int .i64)) by rw [List.length_append, List.map_append]; exact .new hown').rdI.more (show w.heap.size ≤ w2.heap.size by omega) (Nat.le_refl _)
    have hs9 := Nat.le_trans hs26 hgrow.size
    clear hown hown' hgrow RQ
    obtain ⟨Ar, cr, rfl, -, -⟩ := r2.form
    go_wp2_with fail
    refine bodyPost_ret (v := .tuple #[.slice Ad d.length cd, .slice Ar (q ++ [j]).length cr]) (by simp [results, Try.results71, go_sem]) rfl ⟨_, _, d, q ++ [j], rfl, r1.more (show w.heap.size ≤ g + 1 by omega) hs9, r2, hdl, by simp; omega, HB9⟩
set_option maxRecDepth 20000 in
set_option maxHeartbeats 4000000 in
theorem spec_DrawInDict (code : List UInt8) (x : Value) (w : World) {lo hi : Nat} (hx : RdB w lo hi x code) (hhi : hi ≤ w.heap.size) (hn : code.length ≤ 1048576) :
    Calls Try.prog 70 #[x] w fun e w' => ∃ (dv : Value) (d : List V) (x : V), e = .returned (.tuple #[dv, .agg #[.int .i64 x.ty, .int .i64 x.n, .string x.s]]) ∧ RdV w' w.heap.size w'.heap.size dv d ∧ d.length ≤ 20 ∧ Below w.heap.size w w' := by
  have hup0 := up_a1 w (.cells #[.int .i64 0, .int .i64 0, .string ⟨#[]⟩] 66)
  have hx0 := hx.below hup0 hhi
  have hsz0 : (w.alloc (.cells #[.int .i64 0, .int .i64 0, .string ⟨#[]⟩] 66)).heap.size = w.heap.size + 1 := by simp
  have hG0 := heap_alloc_new w (.cells #[.int .i64 0, .int .i64 0, .string ⟨#[]⟩] 66)
  have HN := Lib.hid (spec_l1New code x (w.alloc (.cells #[.int .i64 0, .int .i64 0, .string ⟨#[]⟩] 66)) hx0 (by omega) hn)
  go_enter Try.func70, Try.ntmps70
  go_wp2_with fail
  refine HN.out.mono ?_
  rintro e w1 ⟨g, rfl, hg, hb, hd⟩
  have hgw : w.heap.size < g := by omega
  have hG1 := (hb.block w.heap.size (by omega)).trans hG0
  have HB := Lib.hid (hup0.trans (hb.mono hup0.size))
  clear hb hx hx0 HN hG0 hsz0 hup0
  have HC := Lib.hid (spec_l7Pair w1 g hd)
  go_wp2_with fail
  refine HC.out.mono ?_
  rintro e w2 ⟨_, rfl, ⟨dv, lv, d, l, rfl, hrd, hrl, hl0, hll, hdl⟩, hch, hd2⟩
  have hlt1 := hd.lt
  have hG2 := (hch.block w.heap.size (by omega) (by omega)).trans hG1
  replace HB := Lib.hid (chg_below HB.out hch (by omega) (by have := HB.out.size; omega))
  obtain ⟨Ad, cd, rfl, -, -⟩ := hrd.form
  obtain ⟨Al, cl, rfl, -, -⟩ := hrl.form
  obtain ⟨b, off, -, rfl, hbl, -, -, -, -, -⟩ := hrl.at hl0
  have n0 : b ≠ w.heap.size := by omega
  obtain ⟨c0, c1, c2⟩ := rdV_all hrl
  have Hrl := Lib.hid hrl
  have Hrd := Lib.hid hrd
  have HG := Lib.hid hG2
  have hs2 := HB.out.size
  have HCb := Lib.hid (spec_l1Below l.length w2.drew g hd2.drew (by omega))
  clear hrl hrd hG1 hG2 hch hd HC hlt1 hd2
  go_wp2_with fail
  go_region_held3 (fun w' => (∀ k, k < l.length → w'.cell? ⟨b, off + k * 3, none⟩ = some (.int .i64 (l.getD k V.zero).ty)) ∧ (∀ k, k < l.length → w'.cell? ⟨b, off + k * 3 + 1, none⟩ = some (.int .i64 (l.getD k V.zero).n)) ∧ (∀ k, k < l.length → w'.cell? ⟨b, off + k * 3 + 2, none⟩ = some (.string (l.getD k V.zero).s))) (first | with_reducible exact ⟨c0, c1, c2⟩ | with_reducible exact ⟨q0, q1, q2⟩ | (with_reducible (refine ⟨?_, ?_, ?_⟩ <;> (repeat (first | apply all_drew0 | apply all_drew | apply all_set0 n0 | apply all_set n0)) <;> assumption)) | go_keep) (first | (go_at_call 84; ((with_reducible refine HCb.out.mono ?_); rintro e w4 ⟨_, rfl, ⟨k, rfl, hk1, -⟩, hch4, hd4⟩; have hkl : k < l.length := Int.ofNat_lt.1 (hk1 (Int.ofNat_lt.2 hl0)); have hrl4 := Hrl.out.same (w' := w4) (.of_chg (w := w2.drew) hch4 (.inr (Nat.le_refl _)) (Nat.le_refl _)); obtain ⟨q0, q1, q2⟩ := rdV_all hrl4; have G4 := (hch4.block w.heap.size (Array.getElem?_eq_some_iff.1 HG.out).1 (by omega)).trans HG.out; have hrd4 := Lib.hid (Hrd.out.same (w' := w4) (.of_chg (w := w2.drew) hch4 (.inr (Nat.le_refl _)) (Nat.le_refl _))); have HB4 := Lib.hid (chg_below HB.out.drew hch4 (by omega) (Nat.le_refl _)); have hs4 := hch4.size; clear hk1 hrl4 hch4; have r0 := cell_of_row w4 w.heap.size 0 _ _ _ G4; have r1 := cell_of_row w4 w.heap.size 1 _ _ _ G4; have r2 := cell_of_row w4 w.heap.size 2 _ _ _ G4; simp only [List.getElem?_toArray, List.getElem?_cons_zero, List.getElem?_cons_succ] at r0 r1 r2; have f0 := fun o => frozen_of_row w4 w.heap.size o _ _ G4; clear G4)) | fail)
  generalize l[k] = y
  have hs4' : w2.heap.size ≤ w4.heap.size := hs4
  go_wp2_with fail
  refine bodyPost_ret (v := .tuple #[.slice Ad d.length cd, .agg #[.int .i64 y.ty, .int .i64 y.n, .string y.s]]) ?_ rfl ⟨_, d, y, rfl, ?_, hdl, ?_⟩
  · simp [results, Try.results70, go_sem, r0, r1, r2]
  · refine RdV.more (lo := g + 1) (hi := w2.heap.size) ?_ (by omega) (by simp [World.setCell]; omega)
    exact hrd4.out.same (fun k h1 _ => (Below.heap_setCell _ ⟨w.heap.size, 2, none⟩ _ k (by show k ≠ w.heap.size; omega)).trans ((Below.heap_setCell _ ⟨w.heap.size, 1, none⟩ _ k (by show k ≠ w.heap.size; omega)).trans (Below.heap_setCell _ ⟨w.heap.size, 0, none⟩ _ k (by show k ≠ w.heap.size; omega))))
  · iterate 3 refine Below.setCell ?_ (by simp <;> omega) _
    exact HB4.out
end Go.Proofs.Yticimccfeohpcaa
