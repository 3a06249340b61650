/- Copies of chunks (the program): contracts. -/
import Derived.Test.YtgjjkodlmhmjgaaS29
namespace Go.Proofs.Ytgjjkodlmhmjgaa
open Go.Sort Go.ChangeShapes Go.WideShapes Go.ChangeAt Go.RowKit Go.Lb

set_option maxRecDepth 20000 in
set_option maxHeartbeats 2000000 in
theorem impl_cloneChunk (x : C) (sv : Value) (w : World) {lo hi : Nat} (hx : RdR w lo hi sv x.l) (hhi : hi ≤ w.heap.size) (hn : x.l.length ≤ 1048576 ∧ lensR x.l ≤ 1048576) :
    Calls Try.prog 106 #[.agg #[.int .i64 x.next, sv]] w fun e w' => ∃ v, e = .returned (.agg #[.int .i64 x.next, v]) ∧ OwnR 128 39 w' w.heap.size w'.heap.size v x.l ∧ Below w.heap.size w w' := by
  obtain ⟨A, ca, rfl, hl, hl2⟩ := hx.form
  obtain ⟨i0, hif, hz0, hz1, hz2⟩ := info_parts info_Slot
  have hif := Lib.hid hif
  have hz0 := Lib.hid hz0
  have hz1 := Lib.hid hz1
  have hz2 := Lib.hid hz2
  have hn1 := hn.1
  have Hn := Lib.hid hn.2
  clear hn
  go_enter Try.func106, Try.ntmps106
  go_wp2_with fail
  go_loopw [12] (fun i wr => ∃ (k : Nat) (v : Value) (ps : List (R × Value)), i = .int .i64 k ∧ k ≤ x.l.length ∧ ps.map Prod.fst = x.l.take k ∧ OwnRp 128 39 wr (w.heap.size + 2) wr.heap.size v ps ∧ Far (w.heap.size + 1 + 1) v ps
    ∧ wr.heap[w.heap.size + 1]? = some (.cells #[.int .i64 0, .slice none 0 0] 60) ∧ wr.heap[w.heap.size + 1 + 1]? = some (.cells #[.int .i64 x.next, v] 60) ∧ Below w.heap.size w wr) (fun i _ => x.l.length - (intOf i).toNat)
  case atStart =>
    refine ⟨0, .slice none 0 0, [], rfl, by omega, by simp, (.nil (World.ownsRow_nil _ 0 _ _) (fun g hg => by simp [Value.ownBlock] at hg)), ⟨by simp [Value.ownBlock], by simp⟩, ?_, ?_, ?_⟩
    all_goals first
      | exact up_a3 w _ _ _
      | exact heap_new29 (w := (w.alloc (.cells #[.int .i64 x.next, .slice A x.l.length ca] 60)).alloc (.cells #[.int .i64 0, .slice none 0 0] 60)) (by simp)
      | exact alloc_old29 (heap_new29 (w := w.alloc (.cells #[.int .i64 x.next, .slice A x.l.length ca] 60)) (by simp))
  case round =>
    obtain ⟨k, v, ps, rfl, hk, hps, hown, hfar, hc1, hc3, hb⟩ := hrel
    have hpl : ps.length = k := by
      have h := congrArg List.length hps
      simp at h; omega
    have Hps := Lib.hid hps
    have ho := hown.own
    rw [hpl] at ho
    obtain ⟨Av, cv, rfl, -, -, -⟩ := ho.cells
    have hg3 : w.heap.size + 1 + 1 < wr.heap.size := (Array.getElem?_eq_some_iff.1 hc3).1
    have o0 := cell_of_row wr _ 0 _ _ _ hc3
    have o1 := cell_of_row wr _ 1 _ _ _ hc3
    simp only [List.getElem?_toArray, List.getElem?_cons_zero, List.getElem?_cons_succ] at o0 o1
    have Hc1 := Lib.hid hc1
    have Hc3 := Lib.hid hc3
    have Hown := Lib.hid hown
    have Hfar := Lib.hid hfar
    clear hps hc1 hc3 hown hfar
    by_cases hkl : k < x.l.length
    · obtain ⟨b, off, y, sv', rfl, -, hbl, hyk, e0, e1, hr⟩ := (hx.below hb hhi).at hkl
      obtain ⟨As, cs, rfl, hsl, hsm⟩ := hr.form
      have Hy := Lib.hid (take_of_get hyk)
      have hyl : y.l.length ≤ 1048576 := Nat.le_trans (len_of_lens (mem_of_get hyk)) Hn.out
      have hbs := hb.size
      have hC := Lib.hid (impl_cloneVals y.l (.slice As y.l.length cs) (wr.alloc (.cells #[.int .i64 y.id, .slice As y.l.length cs] 128)).drew ((hr.below (up_a1 wr (.cells #[.int .i64 y.id, .slice As y.l.length cs] 128)).drew (by omega))) (by simp [World.drew]; omega) (by omega))
      have Ho := Lib.hid ho
      have hfr : ∀ B', (B' < w.heap.size + 2 ∨ B' = w.heap.size + 1 + 1) → some B' ≠ (Value.slice Av k cv).ownBlock := fun B' hB e => by
        rcases hB with h | h
        · have := (Ho.out.1.lt B' e.symm).1; omega
        · subst h; exact Hfar.out.1 e.symm
      have hB0 := heap_alloc_new wr (.cells #[.int .i64 y.id, .slice As y.l.length cs] 128)
      have b0 := cell_of_row _ _ 0 _ _ _ hB0
      have b1 := cell_of_row _ _ 1 _ _ _ hB0
      simp only [List.getElem?_toArray, List.getElem?_cons_zero, List.getElem?_cons_succ] at b0 b1
      have o1' := cell_keep o1 (up_a1 wr (.cells #[.int .i64 y.id, .slice As y.l.length cs] 128))
      have HB0 := Lib.hid hB0
      clear hyk hr ho hB0
      go_wp2_with fail
      have hS : (fun w' : World => (w'.cell? ⟨wr.heap.size, 0, none⟩ = some (.int .i64 y.id) ∧ w'.cell? ⟨wr.heap.size, 1, none⟩ = some (.slice As y.l.length cs) ∧ w'.cell? ⟨w.heap.size + 1 + 1, 1, none⟩ = some (.slice Av k cv))) (wr.alloc (.cells #[.int .i64 y.id, .slice As y.l.length cs] 128)).drew := ⟨b0, b1, o1'⟩
      refine wp_region_T (S := fun w' => (w'.cell? ⟨wr.heap.size, 0, none⟩ = some (.int .i64 y.id) ∧ w'.cell? ⟨wr.heap.size, 1, none⟩ = some (.slice As y.l.length cs) ∧ w'.cell? ⟨w.heap.size + 1 + 1, 1, none⟩ = some (.slice Av k cv))) (n := 11) (by kernel_rfl) ?_
      refine wpAnyT_take (i := 0) (oi := _) (v := ?_) rfl (by kernel_rfl) (by kernel_rfl) (by kernel_rfl) (by kernel_rfl) (fun _ _ _ h => h) (Or.inl ⟨by rfl, ?_⟩) hS ?_
      rotate_left
      · (intro w' hSw; (try dsimp only at hSw); go_simp) <;> with_reducible rfl
      simp only [Act.put, List.setIfInBounds_toArray, List.set_cons_zero, List.set_cons_succ]
      refine wpAnyT_take (i := 1) (oi := _) (v := ?_) rfl (by kernel_rfl) (by kernel_rfl) (by kernel_rfl) (by kernel_rfl) (fun _ _ _ h => h) (Or.inl ⟨by rfl, ?_⟩) hS ?_
      rotate_left
      · (intro w' hSw; (try dsimp only at hSw); go_simp) <;> with_reducible rfl
      simp only [Act.put, List.setIfInBounds_toArray, List.set_cons_zero, List.set_cons_succ]
      refine wpAnyT_take (i := 2) (oi := _) (v := ?_) rfl (by kernel_rfl) (by kernel_rfl) (by kernel_rfl) (by kernel_rfl) (fun _ _ _ h => h) (Or.inl ⟨by rfl, ?_⟩) hS ?_
      rotate_left
      · (intro w' hSw; (try dsimp only at hSw); go_simp) <;> with_reducible rfl
      simp only [Act.put, List.setIfInBounds_toArray, List.set_cons_zero, List.set_cons_succ]
      refine wpAnyT_take (i := 3) (oi := _) (v := ?_) rfl (by kernel_rfl) (by kernel_rfl) (by kernel_rfl) (by kernel_rfl) (fun _ _ _ h => h) (Or.inl ⟨by rfl, ?_⟩) hS ?_
      rotate_left
      · (intro w' hSw; (try dsimp only at hSw); go_simp) <;> with_reducible rfl
      simp only [Act.put, List.setIfInBounds_toArray, List.set_cons_zero, List.set_cons_succ]
      refine wpAnyT_take (i := 4) (oi := _) (v := ?_) rfl (by kernel_rfl) (by kernel_rfl) (by kernel_rfl) (by kernel_rfl) (fun _ _ _ h => h) (Or.inl ⟨by rfl, ?_⟩) hS ?_
      rotate_left
      · (intro w' hSw; (try dsimp only at hSw); go_simp) <;> with_reducible rfl
      simp only [Act.put, List.setIfInBounds_toArray, List.set_cons_zero, List.set_cons_succ]
      refine wpAnyT_take (i := 5) (oi := _) (v := ?_) rfl (by kernel_rfl) (by kernel_rfl) (by kernel_rfl) (by kernel_rfl) (fun _ _ _ h => h) (Or.inl ⟨by rfl, ?_⟩) hS ?_
      rotate_left
      · (intro w' hSw; (try dsimp only at hSw); go_simp) <;> with_reducible rfl
      simp only [Act.put, List.setIfInBounds_toArray, List.set_cons_zero, List.set_cons_succ]
      refine wpAnyT_one (k := 6) (o := _) (by kernel_rfl) rfl rfl ?_
      intro K hK
      go_simp
      refine (hC.out).mono ?_
      rintro e w1 ⟨v1, rfl, hown1, hb1⟩
      have hb1u : Below (wr.alloc (.cells #[.int .i64 y.id, .slice As y.l.length cs] 128)).heap.size (wr.alloc (.cells #[.int .i64 y.id, .slice As y.l.length cs] 128)) w1 := Below.undrew hb1
      have G0 := (hb1u.block wr.heap.size (by simp)).trans HB0.out
      have g0 := cell_of_row w1 _ 0 _ _ _ G0
      have g1 := cell_of_row w1 _ 1 _ _ _ G0
      simp only [List.getElem?_toArray, List.getElem?_cons_zero, List.getElem?_cons_succ] at g0 g1
      replace hb1 : Below wr.heap.size wr w1 := (up_a1 wr (.cells #[.int .i64 y.id, .slice As y.l.length cs] 128)).trans (hb1u.mono (by simp))
      have hown1w := hown1.more (lo' := wr.heap.size) (by simp [World.drew]) (Nat.le_refl _)
      obtain ⟨A1, c1, rfl, -, -, -⟩ := hown1.cells
      have o1n := (hb1.cell (p := ⟨w.heap.size + 1 + 1, 1, none⟩) hg3).trans o1
      have hout1 := owns_below Ho.out.1 hb1
      have hs1' : wr.heap.size + 1 ≤ w1.heap.size := by have := hb1u.size; simpa using this
      have hs1 : wr.heap.size ≤ w1.heap.size := by omega
      have Hown1 := Lib.hid hown1w.1
      have Hb1 := Lib.hid hb1
      clear hown1 hown1w hb1 hb1u G0
      refine hK.out _ _ (fun _ => (⟨g0, g1, o1n⟩ : (w1.cell? ⟨wr.heap.size, 0, none⟩ = some (.int .i64 y.id) ∧ w1.cell? ⟨wr.heap.size, 1, none⟩ = some (.slice As y.l.length cs) ∧ w1.cell? ⟨w.heap.size + 1 + 1, 1, none⟩ = some (.slice Av k cv)))) ?_
      clear hK
      refine wpAnyT_one (k := 7) (o := _) (by kernel_rfl) rfl rfl ?_
      intro K hK
      go_simp
      refine hK.out _ _ (fun _ => (⟨g0, g1, o1n⟩ : (w1.cell? ⟨wr.heap.size, 0, none⟩ = some (.int .i64 y.id) ∧ w1.cell? ⟨wr.heap.size, 1, none⟩ = some (.slice As y.l.length cs) ∧ w1.cell? ⟨w.heap.size + 1 + 1, 1, none⟩ = some (.slice Av k cv)))) ?_
      clear hK
      refine wpAnyT_one (k := 8) (o := _) (by kernel_rfl) rfl rfl ?_
      intro K hK
      go_simp
      refine hK.out _ _ (fun _ => ⟨cell_keep g0 (up_a1 _ _), cell_keep g1 (up_a1 _ _), cell_keep o1n (up_a1 _ _)⟩) ?_
      clear hK
      refine wpAnyT_one (k := 9) (o := _) (by kernel_rfl) rfl rfl ?_
      intro K hK
      refine step_app rfl _ _ 58 rfl (w.heap.size + 2) 128 i0 _ 2 32 Try.underlying58 hif.out hz0.out hz1.out hz2.out rfl (by decide) (by decide) (hout1.alloc _) rfl (heap_alloc_new _ _) rfl rfl (by simp [Value.oneCell']) (by omega) (by simp <;> omega) ?_
      intro v2 w3 hown2 hgrow2 hnb2
      obtain ⟨A2, c2, rfl, -, -, -⟩ := (Own.new hown2).cells
      have K2 : ∀ B' o : Nat, B' < w1.heap.size → some B' ≠ (Value.slice Av k cv).ownBlock → w3.cell? ⟨B', o, none⟩ = w1.cell? ⟨B', o, none⟩ := (fun B' o h1 h2 => (hgrow2.cell_far ⟨B', o, none⟩ (by simp; omega) h2).trans ((up_a1 w1 _).cell (p := ⟨B', o, none⟩) h1))
      have hfw : some wr.heap.size ≠ (Value.slice Av k cv).ownBlock := fun e => by have := Ho.out.2 _ e.symm; omega
      have n0 := (K2 wr.heap.size 0 (by omega) hfw).trans g0
      have n1 := (K2 wr.heap.size 1 (by omega) hfw).trans g1
      have Hc4 := Lib.hid ((hgrow2.block (w.heap.size + 1 + 1) (by simp; omega) (hfr _ (.inr rfl))).trans ((Below.heap_alloc w1 _ _ (by omega)).trans ((Hb1.out.block (w.heap.size + 1 + 1) hg3).trans Hc3.out)))
      have p1 := cell_of_row w3 _ 1 _ _ _ Hc4.out
      have pf := fun o => frozen_of_row w3 _ o _ _ Hc4.out
      have Hown2 := Lib.hid hown2
      have Hgrow2 := Lib.hid hgrow2
      have Hnb2 := Lib.hid hnb2
      clear hown2 hgrow2 hnb2 K2
      simp only [List.getElem?_toArray, List.getElem?_cons_zero, List.getElem?_cons_succ] at p1
      refine hK.out _ _ (fun _ => (⟨n0, n1, p1⟩ : (w3.cell? ⟨wr.heap.size, 0, none⟩ = some (.int .i64 y.id) ∧ w3.cell? ⟨wr.heap.size, 1, none⟩ = some (.slice As y.l.length cs) ∧ w3.cell? ⟨w.heap.size + 1 + 1, 1, none⟩ = some (.slice Av k cv)))) ?_
      clear hK
      simp only [Act.put, List.setIfInBounds_toArray, List.set_cons_zero, List.set_cons_succ]
      refine wpAnyT_one (k := 10) (o := _) (by kernel_rfl) rfl rfl ?_
      intro K hK
      go_simp
      refine hK.out _ _ (fun _ => (⟨n0, n1, p1⟩ : (w3.cell? ⟨wr.heap.size, 0, none⟩ = some (.int .i64 y.id) ∧ w3.cell? ⟨wr.heap.size, 1, none⟩ = some (.slice As y.l.length cs) ∧ w3.cell? ⟨w.heap.size + 1 + 1, 1, none⟩ = some (.slice Av k cv)))) ?_
      clear hK
      refine wpAnyT_one (k := 11) (o := _) (by kernel_rfl) rfl rfl ?_
      intro K hK
      go_simp
      refine hK.out _ _ (fun h => absurd rfl h) ?_
      clear hK
      refine wpAnyT_done (by kernel_rfl) ?_ _
      have K3 : ∀ B', B' < wr.heap.size → some B' ≠ (Value.slice Av k cv).ownBlock → w3.heap[B']? = wr.heap[B']? := fun B' h1 h2 => (Hgrow2.out.block B' (by simp; omega) h2).trans (((up_a1 w1 _).block B' (by omega)).trans (Hb1.out.block B' h1))
      have hsn := Hown.out.snoc (x := y) (Hb1.out.alloc hs1 _) (by omega) ((Own.new Hown1.out).below (up_a1 w1 _) (Nat.le_refl _)) (by simp) (by rw [hpl]; exact Hown2.out) Hgrow2.out (by simpa using Hnb2.out)
      have hfar' : Far (w.heap.size + 1 + 1) (Value.slice A2 (k + 1) c2) (ps ++ [(y, Value.slice A1 y.l.length c1)]) := Hfar.out.snoc (fun g hg => by
        rcases Hnb2.out g hg with h | h
        · exact .inl h
        · right; simp at h; omega) (fun g hg => by have := (Hown1.out.lt g hg).1; omega)
      have HsnF := Lib.hid (hsn.far hfar' (fun g hg => Below.heap_setCell w3 ⟨w.heap.size + 1 + 1, 1, none⟩ (Value.slice A2 (k + 1) c2) g hg))
      have Hfar' := Lib.hid hfar'
      have hc1n := Lib.hid ((set_keep29 (w := w3) (b := w.heap.size + 1 + 1) (o := 1) (u := Value.slice A2 (k + 1) c2) (g := w.heap.size + 1) (by omega)).trans ((K3 _ (by omega) (hfr _ (.inl (by omega)))).trans Hc1.out))
      have hc3n := set1 (o := 1) (a := Value.slice A2 (k + 1) c2) Hc4.out
      simp only [List.setIfInBounds_toArray, List.set_cons_succ, List.set_cons_zero] at hc3n
      have Hc3n := Lib.hid hc3n
      have hbn := Lib.hid (below_set29 (Below.grown ((hb.trans (Hb1.out.mono hb.size)).alloc (Nat.le_trans hb.size hs1) _) Hgrow2.out (fun g hg => by have := (Ho.out.1.lt g hg).1; omega) (Nat.le_refl _)) (by omega) : Below w.heap.size w (w3.setCell ⟨w.heap.size + 1 + 1, 1, none⟩ (Value.slice A2 (k + 1) c2)))
      have HM := Lib.hid (show (ps ++ [(y, Value.slice A1 y.l.length c1)]).map Prod.fst = x.l.take (k + 1) by rw [List.map_append, Hps.out, Hy.out]; rfl)
      clear hsn hfar' hc3n K3 p1 pf o1n o0 o1 e0 e1 hS g0 g1 n0 n1 b0 b1 o1'
      go_wp2_with fail
      go_roundw
      case rel => exact ⟨k + 1, _, _, by go_num, by omega, HM.out, HsnF.out.imp (fun _ _ _ => rfl) (Nat.le_refl _) (Nat.le_of_eq (by simp)), Hfar'.out, hc1n.out, Hc3n.out, hbn.out⟩
      case measure => simp [intOf]; omega
    · obtain rfl : k = x.l.length := by omega
      have r0 := cell_of_row wr _ 0 _ _ _ Hc1.out
      have r1 := cell_of_row wr _ 1 _ _ _ Hc1.out
      simp only [List.getElem?_toArray, List.getElem?_cons_zero, List.getElem?_cons_succ] at r0 r1
      have f0 := fun o => frozen_of_row wr _ o _ _ Hc1.out
      go_wp2_with fail
      refine bodyPost_ret (v := .agg #[.int .i64 x.next, .slice Av x.l.length cv]) ?_ rfl ⟨_, rfl, ?_, ?_⟩
      · simp [results, Try.results106, go_sem, r0, r1]
      · refine OwnR.more (lo := w.heap.size + 2) (hi := wr.heap.size) ?_ (by omega) (Nat.le_of_eq (by simp [World.setCell]))
        iterate 2 refine OwnR.set ?_ (by omega) _
        exact ⟨ps, by rw [Hps.out, List.take_length], Hown.out⟩
      · iterate 2 refine below_set29 ?_ (by omega)
        exact hb
end Go.Proofs.Ytgjjkodlmhmjgaa
