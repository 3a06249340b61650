/- Rows put in: contracts. -/
import Derived.Test.YtaapmimabbmdbaaS19
import Derived.Test.YtaapmimabbmdbaaMemJ
import Derived.Test.YtaapmimabbmdbaaLR1
namespace Go.Proofs.Ytaapmimabbmdbaa
open Go.Sort Go.ChangeShapes Go.WideShapes Go.ChangeAt Go.RowKit Go.Lb

def putAt (l : List R) (id : Int) : Nat := (l.takeWhile fun x => decide (x.id < id)).length
def putRow (l : List R) (r : R) : List R := l.take (putAt l r.id) ++ r :: l.drop (putAt l r.id)
theorem takeWhile_len {α : Type} {p : α → Bool} : ∀ {l : List α} {k : Nat}, k ≤ l.length → (l.take k).all p = true → (∀ x, l[k]? = some x → p x = false) → (l.takeWhile p).length = k
  | [], k, hk, _, _ => by simp at hk; simp [hk]
  | a :: l, 0, _, _, h => by
    have h0 := h a rfl
    simp [h0]
  | a :: l, k + 1, hk, ha, h => by
    simp only [List.take_succ_cons, List.all_cons, Bool.and_eq_true] at ha
    rw [List.takeWhile_cons, if_pos ha.1, List.length_cons, takeWhile_len (l := l) (k := k) (by simpa using hk) ha.2 (fun x hx => h x (by simpa using hx))]
theorem putAt_of {l : List R} {id : Int} {k : Nat} (hk : k ≤ l.length) (ha : (l.take k).all (fun x => decide (x.id < id)) = true) (h : ∀ x, l[k]? = some x → ¬ x.id < id) : putAt l id = k :=
  takeWhile_len hk ha fun x hx => decide_eq_false (h x hx)
theorem lensR_append (a b : List R) : lensR (a ++ b) = lensR a + lensR b := by simp [lensR]
theorem lensR_take (l : List R) (k : Nat) : lensR (l.take k) ≤ lensR l := by
  have h := lensR_append (l.take k) (l.drop k)
  rw [List.take_append_drop] at h
  omega
theorem lensR_drop (l : List R) (k : Nat) : lensR (l.drop k) ≤ lensR l := by
  have h := lensR_append (l.take k) (l.drop k)
  rw [List.take_append_drop] at h
  omega
theorem rdR_empty {w : World} {A : Option Addr} {c : Nat} : c ≤ maxLen → RdR w 0 0 (.slice A 0 c) [] := fun hc => ⟨_, c, rfl, Nat.zero_le _, hc, fun _ hk => absurd hk (Nat.not_lt_zero _)⟩
theorem putRow_of {l : List R} {r : R} {k : Nat} {ps qs : List (R × Value)} {u : Value} (h : putAt l r.id = k) (hp : ps.map Prod.fst = l.take k) (hq : qs.map Prod.fst = l.drop k) : (ps ++ [(r, u)] ++ qs).map Prod.fst = putRow l r := by
  rw [List.map_append, List.map_append, hp, hq, putRow, h]; simp
set_option maxRecDepth 20000 in
set_option maxHeartbeats 4000000 in
theorem spec_PutRow1 (l : List R) (x : Value) (r : R) (sv : Value) (w : World) {lo hi l1 h1 : Nat} (hx : RdR w lo hi x l) (hhi : hi ≤ w.heap.size) (hr : RdV w l1 h1 sv r.l) (hh1 : h1 ≤ w.heap.size) (hn : l.length ≤ 1048576 ∧ lensR l ≤ 1048576) (hn2 : r.l.length ≤ 1048576) (hpos : 0 < l.length) :
    Calls Try.prog 31 #[x, .agg #[.int .i64 r.id, sv]] w fun e w' => ∃ v, e = .returned v ∧ OwnR 44 25 w' w.heap.size w'.heap.size v (putRow l r) ∧ Below w.heap.size w w' := by
  obtain ⟨A, c, rfl, hl, hl2⟩ := hx.form
  obtain ⟨Av, cv, rfl, -, -⟩ := hr.form
  obtain ⟨b, off, -, -, rfl, -, hbl, -, -, -, -⟩ := hx.at hpos
  obtain ⟨i0, hif, hz0, hz1, hz2⟩ := info_parts info_Row
  have hif := Lib.hid hif
  have hz0 := Lib.hid hz0
  have hz1 := Lib.hid hz1
  have hz2 := Lib.hid hz2
  have hb0 := Lib.hid (up_a1 w (.cells #[.int .i64 r.id, .slice Av r.l.length cv] 44))
  go_enter Try.func31, Try.ntmps31
  go_wp2_with fail
  go_loopw [5] (fun i wr => ∃ k : Nat, i = .int .i64 k ∧ k ≤ l.length ∧ (l.take k).all (fun x => decide (x.id < r.id)) = true ∧ wr.heap[w.heap.size]? = some (.cells #[.int .i64 r.id, .slice Av r.l.length cv] 44) ∧ Below w.heap.size w wr) (fun i _ => l.length - (intOf i).toNat)
  case atStart => exact ⟨0, rfl, by omega, by simp, heap_alloc_new w _, hb0.out⟩
  case round =>
    obtain ⟨k, rfl, hk, hall, hc, hb⟩ := hrel
    have Hall := Lib.hid hall
    have hg : w.heap.size < wr.heap.size := (Array.getElem?_eq_some_iff.1 hc).1
    have d0 := cell_of_row wr _ 0 _ _ _ hc
    have d1 := cell_of_row wr _ 1 _ _ _ hc
    simp only [List.getElem?_toArray, List.getElem?_cons_zero, List.getElem?_cons_succ] at d0 d1
    have Hc := Lib.hid hc
    have hbs := hb.size
    clear hall hc
    by_cases hgo : k < l.length ∧ ∀ x, l[k]? = some x → x.id < r.id
    · obtain ⟨hkl, hlt⟩ := hgo
      obtain ⟨b', off', y, sv', hA, -, hbl', hyk, e0, e1, -⟩ := (hx.below hb hhi).at hkl
      injection hA with hA
      injection hA with hA1 hA2
      subst hA1 hA2
      have hlt := hlt y hyk
      have hd := decide_eq_true hlt
      have Ht := Lib.hid (show (l.take (k + 1)).all (fun x => decide (x.id < r.id)) = true by rw [take_of_get hyk, List.all_append, Hall.out]; simp [hlt])
      clear hyk hlt
      go_wp2_with fail
      have q_0 := cell_regrown (w := wr) d0
      have q_1 := cell_regrown (w := wr) e0
      refine wp_region_quiet_below (by kernel_rfl) (by kernel_rfl) ?_
      repeat (go_big_quiet_step (fail))
      refine wpQuiet_nil ?_
      intro wq hw'
      obtain ⟨⟨dq, osq⟩, hw''⟩ := hw'
      have hbq := below_regrown wr dq osq
      rw [← hw''] at hbq
      clear hw''
      clear q_0 q_1
      go_wp2_with fail
      go_roundw
      case rel => exact ⟨k + 1, by go_num, by omega, Ht.out, (hbq.block _ hg).trans Hc.out, hb.trans (hbq.mono hb.size)⟩
      case measure => simp [intOf]; omega
    · have HP := Lib.hid (putAt_of hk Hall.out (fun x hx h => hgo ⟨by have := (List.getElem?_eq_some_iff.1 hx).1; omega, fun y hy => by rw [hx] at hy; injection hy with hy; rw [← hy]; exact h⟩))
      by_cases hkl : k < l.length
      · obtain ⟨b', off', y, sv', hA, -, hbl', hyk, e0, e1, -⟩ := (hx.below hb hhi).at hkl
        injection hA with hA
        injection hA with hA1 hA2
        subst hA1 hA2
        have hlt : ¬ y.id < r.id := fun h => hgo ⟨hkl, fun x hx => by rw [hyk] at hx; injection hx with hx; rw [← hx]; exact h⟩
        have hd := decide_eq_false hlt
        clear hyk hlt hgo
        go_wp2_with fail
        have q_0 := cell_regrown (w := wr) d0
        have q_1 := cell_regrown (w := wr) e0
        refine wp_region_quiet_below (by kernel_rfl) (by kernel_rfl) ?_
        repeat (go_big_quiet_step (fail))
        refine wpQuiet_nil ?_
        intro wq hw'
        obtain ⟨⟨dq, osq⟩, hw''⟩ := hw'
        have hbq := below_regrown wr dq osq
        rw [← hw''] at hbq
        clear hw''
        clear q_0 q_1
        have hqs := hbq.size
        have hgq : w.heap.size < wq.heap.size := Nat.lt_of_lt_of_le hg hbq.size
        have d0' := (hbq.cell (p := ⟨w.heap.size, 0, none⟩) hg).trans d0
        have d1' := (hbq.cell (p := ⟨w.heap.size, 1, none⟩) hg).trans d1
        have hrq := hr.below (hb.trans (hbq.mono hb.size)) hh1
        have hxq := hx.below (hb.trans (hbq.mono hb.size)) hhi
        have hT := Lib.hid (fun (W : World) (h : Below wq.heap.size wq W) => spec_l4All (l.take k) _ W ((hxq.take hk).below h (by omega)) (Nat.le_trans (by omega) h.size) ⟨by rw [List.length_take]; omega, Nat.le_trans (lensR_take l k) hn.2⟩)
        have hD := Lib.hid (fun (W : World) (h : Below wq.heap.size wq W) => spec_l4All (l.drop k) _ W ((hxq.drop hk).below h (by omega)) (Nat.le_trans (by omega) h.size) ⟨by rw [List.length_drop]; omega, Nat.le_trans (lensR_drop l k) hn.2⟩)
        have hR := Lib.hid (fun (W : World) (h : Below wq.heap.size wq W) => spec_l4Copy r (.slice Av r.l.length cv) W (hrq.below h (by omega)) (Nat.le_trans (by omega) h.size) (by omega))
        have hk0 : (0 : Int) ≤ (k : Int) := by omega
        have hk1 : (k : Int) ≤ (c : Int) := by omega
        have hk2 : (k : Int) ≤ (l.length : Int) := by omega
        have hk3 : (l.length : Int) ≤ (c : Int) := by omega
        have Hbq := Lib.hid (hb.trans (hbq.mono hb.size))
        have Hbw := Lib.hid hbq
        have hcm : c ≤ maxLen := hl2
        clear hrq d0 d1 hbq hxq e0 e1
        go_wp2_with fail
        go_region_held3 (fun w' => w'.cell? ⟨w.heap.size, 0, none⟩ = some (.int .i64 r.id) ∧ w'.cell? ⟨w.heap.size, 1, none⟩ = some (.slice Av r.l.length cv)) (first | exact ⟨d0', d1'⟩ | exact F.out | go_keep) (first | (go_at_call 54; ((with_reducible refine (hT.out _ (Below.refl _ _).drew).mono ?_); rintro e w1 ⟨v1, rfl, ⟨ps, hps, hp⟩, hb1⟩; replace hb1 : Below wq.heap.size wq w1 := Below.undrew hb1; replace hp : OwnRp 44 25 w1 wq.heap.size w1.heap.size v1 ps := hp; have F := Lib.hid (And.intro ((hb1.cell (p := ⟨w.heap.size, 0, none⟩) hgq).trans d0') ((hb1.cell (p := ⟨w.heap.size, 1, none⟩) hgq).trans d1')); have Hps := Lib.hid hps; have Hp := Lib.hid hp; have Hb1 := Lib.hid hb1; clear hps hp hb1)) | (go_at_call 53; ((with_reducible refine (hR.out _ Hb1.out).mono ?_); rintro e w2 ⟨v2, rfl, hown2, hb2⟩; have F := Lib.hid (And.intro ((hb2.cell (p := ⟨w.heap.size, 0, none⟩) (Nat.lt_of_lt_of_le hgq Hb1.out.size)).trans F.out.1) ((hb2.cell (p := ⟨w.heap.size, 1, none⟩) (Nat.lt_of_lt_of_le hgq Hb1.out.size)).trans F.out.2)); obtain ⟨A2, c2, rfl, -, -, -⟩ := hown2.cells; have hout := owns_below (w' := w2) Hp.out.out hb2; have hpl : ps.length ≤ 1048576 := (by have h1 := congrArg List.length Hps.out; rw [List.length_map] at h1; rw [h1]; first | (simp; done) | (rw [List.length_take]; omega) | (rw [List.length_drop]; omega)); have hs1 := Hb1.out.size; have hs2 := hb2.size; have Hown2 := Lib.hid hown2; have Hb2 := Lib.hid hb2; clear hown2 hb2)) | (refine step_app rfl _ _ 42 rfl 0 44 i0 _ 2 32 Try.underlying42 hif.out hz0.out hz1.out hz2.out rfl (by decide) (by decide) (hout.alloc _) rfl (heap_alloc_new _ _) rfl rfl (by simp [Value.oneCell']) (by omega) (Nat.zero_le _) ?_; intro v3 w3 hown3 hgrow3 hnb3; have hrow3 := (fun g hg => ((hout.lt g hg).1 : 0 ≤ g)); have hfr3 : some w.heap.size ≠ v1.ownBlock := (fun e => by have := Hp.out.outIn _ e.symm; omega); have K3 := (fun (o : Nat) => (hgrow3.cell_far ⟨w.heap.size, o, none⟩ (by simp; omega) hfr3).trans ((up_a1 w2 _).cell (p := ⟨w.heap.size, o, none⟩) (show w.heap.size < w2.heap.size by omega))); have F := Lib.hid (And.intro ((K3 0).trans F.out.1) ((K3 1).trans F.out.2)); have Hsn := Lib.hid (Hp.out.snoc (x := r) (Hb2.out.alloc hs2 _) (by omega) (Hown2.out.below (up_a1 w2 _) (Nat.le_refl _)) (by simp) hown3 hgrow3 (by simpa using hnb3)); have hb3 : Below wq.heap.size wq w3 := Below.grown (((Hb1.out.trans (Hb2.out.mono hs1)).alloc (by omega) _)) hgrow3 (fun g hg => (Hp.out.outIn g hg).1) (Nat.le_refl _); have hs3 := hb3.size; have Hb3 := Lib.hid hb3; clear hown3 hgrow3 hnb3 K3 hrow3 hb3 hout) | (go_at_call 54; ((with_reducible refine (hD.out _ Hb3.out).mono ?_); rintro e w4 ⟨v4, rfl, ⟨qs, hqs, hq⟩, hb4⟩; have F := Lib.hid (And.intro ((hb4.cell (p := ⟨w.heap.size, 0, none⟩) (Nat.lt_of_lt_of_le hgq hs3)).trans F.out.1) ((hb4.cell (p := ⟨w.heap.size, 1, none⟩) (Nat.lt_of_lt_of_le hgq hs3)).trans F.out.2)); have hql : qs.length ≤ 1048576 := (by have h1 := congrArg List.length (Lib.hid hqs).out; rw [List.length_map] at h1; rw [h1]; first | (simp; done) | (rw [List.length_take]; omega) | (rw [List.length_drop]; omega)); have hout4 := owns_below Hsn.out.out hb4; have hnw := hq.own; have hs4 := hb4.size; obtain ⟨A4, c4, rfl, -, -, -⟩ := hnw.cells; have Hnw := Lib.hid hnw.news; have Hqs := Lib.hid hqs; have Hq := Lib.hid hq; have Hb4 := Lib.hid hb4; clear hqs hq hnw hb4)) | (refine step_spread rfl _ _ 42 rfl 0 44 i0 _ 2 32 Try.underlying42 hif.out hz0.out hz1.out hz2.out rfl (by decide) (by decide) hout4 rfl rfl Hnw.out.1 Hnw.out.2.1 Hnw.out.2.2 Hq.out.one (by simp; omega) (Nat.zero_le _) ?_; intro v5 w5 hown5 hgrow5 hnb5; have hfr5 : some w.heap.size ≠ v3.ownBlock := (fun e => by have := Hsn.out.outIn _ e.symm; omega); have K5 := (fun (o : Nat) => hgrow5.cell_far ⟨w.heap.size, o, none⟩ (show w.heap.size < w4.heap.size by omega) hfr5); have F := Lib.hid (And.intro ((K5 0).trans F.out.1) ((K5 1).trans F.out.2)); have Hjn := Lib.hid (Hsn.out.join Hb4.out hs3 Hq.out hown5 hgrow5 hnb5); have Hb5 := Lib.hid (Below.grown (Hb3.out.trans (Hb4.out.mono hs3)) hgrow5 (fun g hg => (Hsn.out.outIn g hg).1) (Nat.le_refl _)); clear hown5 hgrow5 hnb5 K5))
        go_wp2_with fail
        go_ret
        refine ⟨v5, rfl, ⟨_, putRow_of HP.out Hps.out Hqs.out, Hjn.out.imp (fun _ _ _ => rfl) (by omega) (Nat.le_refl _)⟩, Hbq.out.trans (Hb5.out.mono (by omega))⟩
      · obtain rfl : k = l.length := by omega
        clear hgo hkl Hall Hc
        have hdk : decide ((l.length : Int) < (l.length : Int)) = false := decide_eq_false (by omega)
        go_wp2_with fail
        refine wp_region_quiet_below (by kernel_rfl) (by kernel_rfl) ?_
        repeat (go_big_quiet_step (fail))
        refine wpQuiet_nil ?_
        intro wq hw'
        obtain ⟨⟨dq, osq⟩, hw''⟩ := hw'
        have hbq := below_regrown wr dq osq
        rw [← hw''] at hbq
        clear hw''
        by_cases hcl : c = l.length
        · subst hcl
          have hqs := hbq.size
          have hgq : w.heap.size < wq.heap.size := Nat.lt_of_lt_of_le hg hbq.size
          have d0' := (hbq.cell (p := ⟨w.heap.size, 0, none⟩) hg).trans d0
          have d1' := (hbq.cell (p := ⟨w.heap.size, 1, none⟩) hg).trans d1
          have hrq := hr.below (hb.trans (hbq.mono hb.size)) hh1
          have hxq := hx.below (hb.trans (hbq.mono hb.size)) hhi
          have hT := Lib.hid (fun (W : World) (h : Below wq.heap.size wq W) => spec_l4All (l.take l.length) _ W ((hxq.take hk).below h (by omega)) (Nat.le_trans (by omega) h.size) ⟨by rw [List.length_take]; omega, Nat.le_trans (lensR_take l l.length) hn.2⟩)
          have hN := Lib.hid (fun (A' : Option Addr) (c' : Nat) (hc' : c' ≤ maxLen) (W : World) => spec_l4All [] (.slice A' 0 c') W (rdR_empty hc') (Nat.zero_le _) ⟨by simp, by simp [lensR]⟩)
          have hR := Lib.hid (fun (W : World) (h : Below wq.heap.size wq W) => spec_l4Copy r (.slice Av r.l.length cv) W (hrq.below h (by omega)) (Nat.le_trans (by omega) h.size) (by omega))
          have hk0 : (0 : Int) ≤ (l.length : Int) := by omega
          have hk1 : (l.length : Int) ≤ (l.length : Int) := by omega
          have Hbq := Lib.hid (hb.trans (hbq.mono hb.size))
          have Hbw := Lib.hid hbq
          have hcm : l.length ≤ maxLen := hl2
          clear hrq d0 d1 hbq hxq
          go_wp2_with fail
          go_region_held3 (fun w' => w'.cell? ⟨w.heap.size, 0, none⟩ = some (.int .i64 r.id) ∧ w'.cell? ⟨w.heap.size, 1, none⟩ = some (.slice Av r.l.length cv)) (first | exact ⟨d0', d1'⟩ | exact F.out | go_keep) (first | (go_at_call 54; ((with_reducible refine (hT.out _ (Below.refl _ _).drew).mono ?_); rintro e w1 ⟨v1, rfl, ⟨ps, hps, hp⟩, hb1⟩; replace hb1 : Below wq.heap.size wq w1 := Below.undrew hb1; replace hp : OwnRp 44 25 w1 wq.heap.size w1.heap.size v1 ps := hp; have F := Lib.hid (And.intro ((hb1.cell (p := ⟨w.heap.size, 0, none⟩) hgq).trans d0') ((hb1.cell (p := ⟨w.heap.size, 1, none⟩) hgq).trans d1')); have Hps := Lib.hid hps; have Hp := Lib.hid hp; have Hb1 := Lib.hid hb1; clear hps hp hb1)) | (go_at_call 53; ((with_reducible refine (hR.out _ Hb1.out).mono ?_); rintro e w2 ⟨v2, rfl, hown2, hb2⟩; have F := Lib.hid (And.intro ((hb2.cell (p := ⟨w.heap.size, 0, none⟩) (Nat.lt_of_lt_of_le hgq Hb1.out.size)).trans F.out.1) ((hb2.cell (p := ⟨w.heap.size, 1, none⟩) (Nat.lt_of_lt_of_le hgq Hb1.out.size)).trans F.out.2)); obtain ⟨A2, c2, rfl, -, -, -⟩ := hown2.cells; have hout := owns_below (w' := w2) Hp.out.out hb2; have hpl : ps.length ≤ 1048576 := (by have h1 := congrArg List.length Hps.out; rw [List.length_map] at h1; rw [h1]; first | (simp; done) | (rw [List.length_take]; omega) | (rw [List.length_drop]; omega)); have hs1 := Hb1.out.size; have hs2 := hb2.size; have Hown2 := Lib.hid hown2; have Hb2 := Lib.hid hb2; clear hown2 hb2)) | (refine step_app rfl _ _ 42 rfl 0 44 i0 _ 2 32 Try.underlying42 hif.out hz0.out hz1.out hz2.out rfl (by decide) (by decide) (hout.alloc _) rfl (heap_alloc_new _ _) rfl rfl (by simp [Value.oneCell']) (by omega) (Nat.zero_le _) ?_; intro v3 w3 hown3 hgrow3 hnb3; have hrow3 := (fun g hg => ((hout.lt g hg).1 : 0 ≤ g)); have hfr3 : some w.heap.size ≠ v1.ownBlock := (fun e => by have := Hp.out.outIn _ e.symm; omega); have K3 := (fun (o : Nat) => (hgrow3.cell_far ⟨w.heap.size, o, none⟩ (by simp; omega) hfr3).trans ((up_a1 w2 _).cell (p := ⟨w.heap.size, o, none⟩) (show w.heap.size < w2.heap.size by omega))); have F := Lib.hid (And.intro ((K3 0).trans F.out.1) ((K3 1).trans F.out.2)); have Hsn := Lib.hid (Hp.out.snoc (x := r) (Hb2.out.alloc hs2 _) (by omega) (Hown2.out.below (up_a1 w2 _) (Nat.le_refl _)) (by simp) hown3 hgrow3 (by simpa using hnb3)); have hb3 : Below wq.heap.size wq w3 := Below.grown (((Hb1.out.trans (Hb2.out.mono hs1)).alloc (by omega) _)) hgrow3 (fun g hg => (Hp.out.outIn g hg).1) (Nat.le_refl _); have hs3 := hb3.size; have Hb3 := Lib.hid hb3; clear hown3 hgrow3 hnb3 K3 hrow3 hb3 hout) | (go_at_call 54; ((with_reducible refine (hN.out _ _ (by omega) _).mono ?_); rintro e w4 ⟨v4, rfl, ⟨qs, hqs, hq⟩, hb4⟩; have F := Lib.hid (And.intro ((hb4.cell (p := ⟨w.heap.size, 0, none⟩) (Nat.lt_of_lt_of_le hgq hs3)).trans F.out.1) ((hb4.cell (p := ⟨w.heap.size, 1, none⟩) (Nat.lt_of_lt_of_le hgq hs3)).trans F.out.2)); have hql : qs.length ≤ 1048576 := (by have h1 := congrArg List.length (Lib.hid hqs).out; rw [List.length_map] at h1; rw [h1]; first | (simp; done) | (rw [List.length_take]; omega) | (rw [List.length_drop]; omega)); have hout4 := owns_below Hsn.out.out hb4; have hnw := hq.own; have hs4 := hb4.size; obtain ⟨A4, c4, rfl, -, -, -⟩ := hnw.cells; have Hnw := Lib.hid hnw.news; have Hqs := Lib.hid hqs; have Hq := Lib.hid hq; have Hb4 := Lib.hid hb4; clear hqs hq hnw hb4)) | (refine step_spread rfl _ _ 42 rfl 0 44 i0 _ 2 32 Try.underlying42 hif.out hz0.out hz1.out hz2.out rfl (by decide) (by decide) hout4 rfl rfl Hnw.out.1 Hnw.out.2.1 Hnw.out.2.2 Hq.out.one (by simp; omega) (Nat.zero_le _) ?_; intro v5 w5 hown5 hgrow5 hnb5; have hfr5 : some w.heap.size ≠ v3.ownBlock := (fun e => by have := Hsn.out.outIn _ e.symm; omega); have K5 := (fun (o : Nat) => hgrow5.cell_far ⟨w.heap.size, o, none⟩ (show w.heap.size < w4.heap.size by omega) hfr5); have F := Lib.hid (And.intro ((K5 0).trans F.out.1) ((K5 1).trans F.out.2)); have Hjn := Lib.hid (Hsn.out.join Hb4.out hs3 Hq.out hown5 hgrow5 hnb5); have Hb5 := Lib.hid (Below.grown (Hb3.out.trans (Hb4.out.mono hs3)) hgrow5 (fun g hg => (Hsn.out.outIn g hg).1) (Nat.le_refl _)); clear hown5 hgrow5 hnb5 K5))
          go_wp2_with fail
          go_ret
          refine ⟨v5, rfl, ⟨_, putRow_of HP.out Hps.out (by rw [Hqs.out, List.drop_length]), Hjn.out.imp (fun _ _ _ => rfl) (by omega) (Nat.le_refl _)⟩, Hbq.out.trans (Hb5.out.mono (by omega))⟩
        · skip
          have hqs := hbq.size
          have hgq : w.heap.size < wq.heap.size := Nat.lt_of_lt_of_le hg hbq.size
          have d0' := (hbq.cell (p := ⟨w.heap.size, 0, none⟩) hg).trans d0
          have d1' := (hbq.cell (p := ⟨w.heap.size, 1, none⟩) hg).trans d1
          have hrq := hr.below (hb.trans (hbq.mono hb.size)) hh1
          have hxq := hx.below (hb.trans (hbq.mono hb.size)) hhi
          have hT := Lib.hid (fun (W : World) (h : Below wq.heap.size wq W) => spec_l4All (l.take l.length) _ W ((hxq.take hk).below h (by omega)) (Nat.le_trans (by omega) h.size) ⟨by rw [List.length_take]; omega, Nat.le_trans (lensR_take l l.length) hn.2⟩)
          have hN := Lib.hid (fun (A' : Option Addr) (c' : Nat) (hc' : c' ≤ maxLen) (W : World) => spec_l4All [] (.slice A' 0 c') W (rdR_empty hc') (Nat.zero_le _) ⟨by simp, by simp [lensR]⟩)
          have hR := Lib.hid (fun (W : World) (h : Below wq.heap.size wq W) => spec_l4Copy r (.slice Av r.l.length cv) W (hrq.below h (by omega)) (Nat.le_trans (by omega) h.size) (by omega))
          have hk0 : (0 : Int) ≤ (l.length : Int) := by omega
          have hk1 : (l.length : Int) ≤ (c : Int) := by omega
          have Hbq := Lib.hid (hb.trans (hbq.mono hb.size))
          have Hbw := Lib.hid hbq
          have hcm : c ≤ maxLen := hl2
          clear hrq d0 d1 hbq hxq
          go_wp2_with fail
          go_region_held3 (fun w' => w'.cell? ⟨w.heap.size, 0, none⟩ = some (.int .i64 r.id) ∧ w'.cell? ⟨w.heap.size, 1, none⟩ = some (.slice Av r.l.length cv)) (first | exact ⟨d0', d1'⟩ | exact F.out | go_keep) (first | (go_at_call 54; ((with_reducible refine (hT.out _ (Below.refl _ _).drew).mono ?_); rintro e w1 ⟨v1, rfl, ⟨ps, hps, hp⟩, hb1⟩; replace hb1 : Below wq.heap.size wq w1 := Below.undrew hb1; replace hp : OwnRp 44 25 w1 wq.heap.size w1.heap.size v1 ps := hp; have F := Lib.hid (And.intro ((hb1.cell (p := ⟨w.heap.size, 0, none⟩) hgq).trans d0') ((hb1.cell (p := ⟨w.heap.size, 1, none⟩) hgq).trans d1')); have Hps := Lib.hid hps; have Hp := Lib.hid hp; have Hb1 := Lib.hid hb1; clear hps hp hb1)) | (go_at_call 53; ((with_reducible refine (hR.out _ Hb1.out).mono ?_); rintro e w2 ⟨v2, rfl, hown2, hb2⟩; have F := Lib.hid (And.intro ((hb2.cell (p := ⟨w.heap.size, 0, none⟩) (Nat.lt_of_lt_of_le hgq Hb1.out.size)).trans F.out.1) ((hb2.cell (p := ⟨w.heap.size, 1, none⟩) (Nat.lt_of_lt_of_le hgq Hb1.out.size)).trans F.out.2)); obtain ⟨A2, c2, rfl, -, -, -⟩ := hown2.cells; have hout := owns_below (w' := w2) Hp.out.out hb2; have hpl : ps.length ≤ 1048576 := (by have h1 := congrArg List.length Hps.out; rw [List.length_map] at h1; rw [h1]; first | (simp; done) | (rw [List.length_take]; omega) | (rw [List.length_drop]; omega)); have hs1 := Hb1.out.size; have hs2 := hb2.size; have Hown2 := Lib.hid hown2; have Hb2 := Lib.hid hb2; clear hown2 hb2)) | (refine step_app rfl _ _ 42 rfl 0 44 i0 _ 2 32 Try.underlying42 hif.out hz0.out hz1.out hz2.out rfl (by decide) (by decide) (hout.alloc _) rfl (heap_alloc_new _ _) rfl rfl (by simp [Value.oneCell']) (by omega) (Nat.zero_le _) ?_; intro v3 w3 hown3 hgrow3 hnb3; have hrow3 := (fun g hg => ((hout.lt g hg).1 : 0 ≤ g)); have hfr3 : some w.heap.size ≠ v1.ownBlock := (fun e => by have := Hp.out.outIn _ e.symm; omega); have K3 := (fun (o : Nat) => (hgrow3.cell_far ⟨w.heap.size, o, none⟩ (by simp; omega) hfr3).trans ((up_a1 w2 _).cell (p := ⟨w.heap.size, o, none⟩) (show w.heap.size < w2.heap.size by omega))); have F := Lib.hid (And.intro ((K3 0).trans F.out.1) ((K3 1).trans F.out.2)); have Hsn := Lib.hid (Hp.out.snoc (x := r) (Hb2.out.alloc hs2 _) (by omega) (Hown2.out.below (up_a1 w2 _) (Nat.le_refl _)) (by simp) hown3 hgrow3 (by simpa using hnb3)); have hb3 : Below wq.heap.size wq w3 := Below.grown (((Hb1.out.trans (Hb2.out.mono hs1)).alloc (by omega) _)) hgrow3 (fun g hg => (Hp.out.outIn g hg).1) (Nat.le_refl _); have hs3 := hb3.size; have Hb3 := Lib.hid hb3; clear hown3 hgrow3 hnb3 K3 hrow3 hb3 hout) | (go_at_call 54; ((with_reducible refine (hN.out _ _ (by omega) _).mono ?_); rintro e w4 ⟨v4, rfl, ⟨qs, hqs, hq⟩, hb4⟩; have F := Lib.hid (And.intro ((hb4.cell (p := ⟨w.heap.size, 0, none⟩) (Nat.lt_of_lt_of_le hgq hs3)).trans F.out.1) ((hb4.cell (p := ⟨w.heap.size, 1, none⟩) (Nat.lt_of_lt_of_le hgq hs3)).trans F.out.2)); have hql : qs.length ≤ 1048576 := (by have h1 := congrArg List.length (Lib.hid hqs).out; rw [List.length_map] at h1; rw [h1]; first | (simp; done) | (rw [List.length_take]; omega) | (rw [List.length_drop]; omega)); have hout4 := owns_below Hsn.out.out hb4; have hnw := hq.own; have hs4 := hb4.size; obtain ⟨A4, c4, rfl, -, -, -⟩ := hnw.cells; have Hnw := Lib.hid hnw.news; have Hqs := Lib.hid hqs; have Hq := Lib.hid hq; have Hb4 := Lib.hid hb4; clear hqs hq hnw hb4)) | (refine step_spread rfl _ _ 42 rfl 0 44 i0 _ 2 32 Try.underlying42 hif.out hz0.out hz1.out hz2.out rfl (by decide) (by decide) hout4 rfl rfl Hnw.out.1 Hnw.out.2.1 Hnw.out.2.2 Hq.out.one (by simp; omega) (Nat.zero_le _) ?_; intro v5 w5 hown5 hgrow5 hnb5; have hfr5 : some w.heap.size ≠ v3.ownBlock := (fun e => by have := Hsn.out.outIn _ e.symm; omega); have K5 := (fun (o : Nat) => hgrow5.cell_far ⟨w.heap.size, o, none⟩ (show w.heap.size < w4.heap.size by omega) hfr5); have F := Lib.hid (And.intro ((K5 0).trans F.out.1) ((K5 1).trans F.out.2)); have Hjn := Lib.hid (Hsn.out.join Hb4.out hs3 Hq.out hown5 hgrow5 hnb5); have Hb5 := Lib.hid (Below.grown (Hb3.out.trans (Hb4.out.mono hs3)) hgrow5 (fun g hg => (Hsn.out.outIn g hg).1) (Nat.le_refl _)); clear hown5 hgrow5 hnb5 K5))
          go_wp2_with fail
          go_ret
          refine ⟨v5, rfl, ⟨_, putRow_of HP.out Hps.out (by rw [Hqs.out, List.drop_length]), Hjn.out.imp (fun _ _ _ => rfl) (by omega) (Nat.le_refl _)⟩, Hbq.out.trans (Hb5.out.mono (by omega))⟩
set_option maxRecDepth 20000 in
set_option maxHeartbeats 4000000 in
theorem spec_PutRow0 (A : Option Addr) (c : Nat) (hl2 : c ≤ maxLen) (r : R) (sv : Value) (w : World) {l1 h1 : Nat} (hA : A = none ∨ ∃ a, A = some a) (hr : RdV w l1 h1 sv r.l) (hh1 : h1 ≤ w.heap.size) (hn2 : r.l.length ≤ 1048576) :
    Calls Try.prog 31 #[.slice A 0 c, .agg #[.int .i64 r.id, sv]] w fun e w' => ∃ v, e = .returned v ∧ OwnR 44 25 w' w.heap.size w'.heap.size v (putRow [] r) ∧ Below w.heap.size w w' := by
  have HP := Lib.hid (show putAt [] r.id = 0 from rfl)
  obtain ⟨Av, cv, rfl, -, -⟩ := hr.form
  obtain ⟨i0, hif, hz0, hz1, hz2⟩ := info_parts info_Row
  have hif := Lib.hid hif
  have hz0 := Lib.hid hz0
  have hz1 := Lib.hid hz1
  have hz2 := Lib.hid hz2
  have hb0 := Lib.hid (up_a1 w (.cells #[.int .i64 r.id, .slice Av r.l.length cv] 44))
  go_enter Try.func31, Try.ntmps31
  go_wp2_with fail
  go_loopw [5] (fun i wr => i = .int .i64 0 ∧ wr.heap[w.heap.size]? = some (.cells #[.int .i64 r.id, .slice Av r.l.length cv] 44) ∧ Below w.heap.size w wr) (fun i _ => 0)
  case atStart => exact ⟨rfl, heap_alloc_new w _, hb0.out⟩
  case round =>
    obtain ⟨rfl, hc, hb⟩ := hrel
    have hg : w.heap.size < wr.heap.size := (Array.getElem?_eq_some_iff.1 hc).1
    have d0 := cell_of_row wr _ 0 _ _ _ hc
    have d1 := cell_of_row wr _ 1 _ _ _ hc
    simp only [List.getElem?_toArray, List.getElem?_cons_zero, List.getElem?_cons_succ] at d0 d1
    have hbs := hb.size
    clear hc
    go_wp2_with fail
    refine wp_region_quiet_below (by kernel_rfl) (by kernel_rfl) ?_
    repeat (go_big_quiet_step (fail))
    refine wpQuiet_nil ?_
    intro wq hw'
    obtain ⟨⟨dq, osq⟩, hw''⟩ := hw'
    have hbq := below_regrown wr dq osq
    rw [← hw''] at hbq
    clear hw''
    rcases hA with rfl | ⟨ad, rfl⟩
    · have hqs := hbq.size
      have hgq : w.heap.size < wq.heap.size := Nat.lt_of_lt_of_le hg hbq.size
      have d0' := (hbq.cell (p := ⟨w.heap.size, 0, none⟩) hg).trans d0
      have d1' := (hbq.cell (p := ⟨w.heap.size, 1, none⟩) hg).trans d1
      have hrq := hr.below (hb.trans (hbq.mono hb.size)) hh1
      have hN := Lib.hid (fun (A' : Option Addr) (c' : Nat) (hc' : c' ≤ maxLen) (W : World) => spec_l4All [] (.slice A' 0 c') W (rdR_empty hc') (Nat.zero_le _) ⟨by simp, by simp [lensR]⟩)
      have hR := Lib.hid (fun (W : World) (h : Below wq.heap.size wq W) => spec_l4Copy r (.slice Av r.l.length cv) W (hrq.below h (by omega)) (Nat.le_trans (by omega) h.size) (by omega))
      have hk0 : (0 : Int) ≤ (c : Int) := by omega
      have Hbq := Lib.hid (hb.trans (hbq.mono hb.size))
      have Hbw := Lib.hid hbq
      have hcm : c ≤ maxLen := hl2
      clear hrq d0 d1 hbq
      go_wp2_with fail
      go_region_held3 (fun w' => w'.cell? ⟨w.heap.size, 0, none⟩ = some (.int .i64 r.id) ∧ w'.cell? ⟨w.heap.size, 1, none⟩ = some (.slice Av r.l.length cv)) (first | exact ⟨d0', d1'⟩ | exact F.out | go_keep) (first | (go_at_call 54; ((with_reducible refine (hN.out _ _ (by omega) _).mono ?_); rintro e w1 ⟨v1, rfl, ⟨ps, hps, hp⟩, hb1⟩; replace hb1 : Below wq.heap.size wq w1 := Below.undrew hb1; replace hp : OwnRp 44 25 w1 wq.heap.size w1.heap.size v1 ps := hp; have F := Lib.hid (And.intro ((hb1.cell (p := ⟨w.heap.size, 0, none⟩) hgq).trans d0') ((hb1.cell (p := ⟨w.heap.size, 1, none⟩) hgq).trans d1')); have Hps := Lib.hid hps; have Hp := Lib.hid hp; have Hb1 := Lib.hid hb1; clear hps hp hb1)) | (go_at_call 53; ((with_reducible refine (hR.out _ Hb1.out).mono ?_); rintro e w2 ⟨v2, rfl, hown2, hb2⟩; have F := Lib.hid (And.intro ((hb2.cell (p := ⟨w.heap.size, 0, none⟩) (Nat.lt_of_lt_of_le hgq Hb1.out.size)).trans F.out.1) ((hb2.cell (p := ⟨w.heap.size, 1, none⟩) (Nat.lt_of_lt_of_le hgq Hb1.out.size)).trans F.out.2)); obtain ⟨A2, c2, rfl, -, -, -⟩ := hown2.cells; have hout := owns_below (w' := w2) Hp.out.out hb2; have hpl : ps.length ≤ 1048576 := (by have h1 := congrArg List.length Hps.out; rw [List.length_map] at h1; rw [h1]; first | (simp; done) | (rw [List.length_take]; omega) | (rw [List.length_drop]; omega)); have hs1 := Hb1.out.size; have hs2 := hb2.size; have Hown2 := Lib.hid hown2; have Hb2 := Lib.hid hb2; clear hown2 hb2)) | (refine step_app rfl _ _ 42 rfl 0 44 i0 _ 2 32 Try.underlying42 hif.out hz0.out hz1.out hz2.out rfl (by decide) (by decide) (hout.alloc _) rfl (heap_alloc_new _ _) rfl rfl (by simp [Value.oneCell']) (by omega) (Nat.zero_le _) ?_; intro v3 w3 hown3 hgrow3 hnb3; have hrow3 := (fun g hg => ((hout.lt g hg).1 : 0 ≤ g)); have hfr3 : some w.heap.size ≠ v1.ownBlock := (fun e => by have := Hp.out.outIn _ e.symm; omega); have K3 := (fun (o : Nat) => (hgrow3.cell_far ⟨w.heap.size, o, none⟩ (by simp; omega) hfr3).trans ((up_a1 w2 _).cell (p := ⟨w.heap.size, o, none⟩) (show w.heap.size < w2.heap.size by omega))); have F := Lib.hid (And.intro ((K3 0).trans F.out.1) ((K3 1).trans F.out.2)); have Hsn := Lib.hid (Hp.out.snoc (x := r) (Hb2.out.alloc hs2 _) (by omega) (Hown2.out.below (up_a1 w2 _) (Nat.le_refl _)) (by simp) hown3 hgrow3 (by simpa using hnb3)); have hb3 : Below wq.heap.size wq w3 := Below.grown (((Hb1.out.trans (Hb2.out.mono hs1)).alloc (by omega) _)) hgrow3 (fun g hg => (Hp.out.outIn g hg).1) (Nat.le_refl _); have hs3 := hb3.size; have Hb3 := Lib.hid hb3; clear hown3 hgrow3 hnb3 K3 hrow3 hb3 hout) | (go_at_call 54; ((with_reducible refine (hN.out _ _ (by omega) _).mono ?_); rintro e w4 ⟨v4, rfl, ⟨qs, hqs, hq⟩, hb4⟩; have F := Lib.hid (And.intro ((hb4.cell (p := ⟨w.heap.size, 0, none⟩) (Nat.lt_of_lt_of_le hgq hs3)).trans F.out.1) ((hb4.cell (p := ⟨w.heap.size, 1, none⟩) (Nat.lt_of_lt_of_le hgq hs3)).trans F.out.2)); have hql : qs.length ≤ 1048576 := (by have h1 := congrArg List.length (Lib.hid hqs).out; rw [List.length_map] at h1; rw [h1]; first | (simp; done) | (rw [List.length_take]; omega) | (rw [List.length_drop]; omega)); have hout4 := owns_below Hsn.out.out hb4; have hnw := hq.own; have hs4 := hb4.size; obtain ⟨A4, c4, rfl, -, -, -⟩ := hnw.cells; have Hnw := Lib.hid hnw.news; have Hqs := Lib.hid hqs; have Hq := Lib.hid hq; have Hb4 := Lib.hid hb4; clear hqs hq hnw hb4)) | (refine step_spread rfl _ _ 42 rfl 0 44 i0 _ 2 32 Try.underlying42 hif.out hz0.out hz1.out hz2.out rfl (by decide) (by decide) hout4 rfl rfl Hnw.out.1 Hnw.out.2.1 Hnw.out.2.2 Hq.out.one (by simp; omega) (Nat.zero_le _) ?_; intro v5 w5 hown5 hgrow5 hnb5; have hfr5 : some w.heap.size ≠ v3.ownBlock := (fun e => by have := Hsn.out.outIn _ e.symm; omega); have K5 := (fun (o : Nat) => hgrow5.cell_far ⟨w.heap.size, o, none⟩ (show w.heap.size < w4.heap.size by omega) hfr5); have F := Lib.hid (And.intro ((K5 0).trans F.out.1) ((K5 1).trans F.out.2)); have Hjn := Lib.hid (Hsn.out.join Hb4.out hs3 Hq.out hown5 hgrow5 hnb5); have Hb5 := Lib.hid (Below.grown (Hb3.out.trans (Hb4.out.mono hs3)) hgrow5 (fun g hg => (Hsn.out.outIn g hg).1) (Nat.le_refl _)); clear hown5 hgrow5 hnb5 K5))
      go_wp2_with fail
      go_ret
      refine ⟨v5, rfl, ⟨_, putRow_of HP.out (by rw [Hps.out]; rfl) (by rw [Hqs.out]; rfl), Hjn.out.imp (fun _ _ _ => rfl) (by omega) (Nat.le_refl _)⟩, Hbq.out.trans (Hb5.out.mono (by omega))⟩
    · have hqs := hbq.size
      have hgq : w.heap.size < wq.heap.size := Nat.lt_of_lt_of_le hg hbq.size
      have d0' := (hbq.cell (p := ⟨w.heap.size, 0, none⟩) hg).trans d0
      have d1' := (hbq.cell (p := ⟨w.heap.size, 1, none⟩) hg).trans d1
      have hrq := hr.below (hb.trans (hbq.mono hb.size)) hh1
      have hN := Lib.hid (fun (A' : Option Addr) (c' : Nat) (hc' : c' ≤ maxLen) (W : World) => spec_l4All [] (.slice A' 0 c') W (rdR_empty hc') (Nat.zero_le _) ⟨by simp, by simp [lensR]⟩)
      have hR := Lib.hid (fun (W : World) (h : Below wq.heap.size wq W) => spec_l4Copy r (.slice Av r.l.length cv) W (hrq.below h (by omega)) (Nat.le_trans (by omega) h.size) (by omega))
      have hk0 : (0 : Int) ≤ (c : Int) := by omega
      have Hbq := Lib.hid (hb.trans (hbq.mono hb.size))
      have Hbw := Lib.hid hbq
      have hcm : c ≤ maxLen := hl2
      clear hrq d0 d1 hbq
      go_wp2_with fail
      go_region_held3 (fun w' => w'.cell? ⟨w.heap.size, 0, none⟩ = some (.int .i64 r.id) ∧ w'.cell? ⟨w.heap.size, 1, none⟩ = some (.slice Av r.l.length cv)) (first | exact ⟨d0', d1'⟩ | exact F.out | go_keep) (first | (go_at_call 54; ((with_reducible refine (hN.out _ _ (by omega) _).mono ?_); rintro e w1 ⟨v1, rfl, ⟨ps, hps, hp⟩, hb1⟩; replace hb1 : Below wq.heap.size wq w1 := Below.undrew hb1; replace hp : OwnRp 44 25 w1 wq.heap.size w1.heap.size v1 ps := hp; have F := Lib.hid (And.intro ((hb1.cell (p := ⟨w.heap.size, 0, none⟩) hgq).trans d0') ((hb1.cell (p := ⟨w.heap.size, 1, none⟩) hgq).trans d1')); have Hps := Lib.hid hps; have Hp := Lib.hid hp; have Hb1 := Lib.hid hb1; clear hps hp hb1)) | (go_at_call 53; ((with_reducible refine (hR.out _ Hb1.out).mono ?_); rintro e w2 ⟨v2, rfl, hown2, hb2⟩; have F := Lib.hid (And.intro ((hb2.cell (p := ⟨w.heap.size, 0, none⟩) (Nat.lt_of_lt_of_le hgq Hb1.out.size)).trans F.out.1) ((hb2.cell (p := ⟨w.heap.size, 1, none⟩) (Nat.lt_of_lt_of_le hgq Hb1.out.size)).trans F.out.2)); obtain ⟨A2, c2, rfl, -, -, -⟩ := hown2.cells; have hout := owns_below (w' := w2) Hp.out.out hb2; have hpl : ps.length ≤ 1048576 := (by have h1 := congrArg List.length Hps.out; rw [List.length_map] at h1; rw [h1]; first | (simp; done) | (rw [List.length_take]; omega) | (rw [List.length_drop]; omega)); have hs1 := Hb1.out.size; have hs2 := hb2.size; have Hown2 := Lib.hid hown2; have Hb2 := Lib.hid hb2; clear hown2 hb2)) | (refine step_app rfl _ _ 42 rfl 0 44 i0 _ 2 32 Try.underlying42 hif.out hz0.out hz1.out hz2.out rfl (by decide) (by decide) (hout.alloc _) rfl (heap_alloc_new _ _) rfl rfl (by simp [Value.oneCell']) (by omega) (Nat.zero_le _) ?_; intro v3 w3 hown3 hgrow3 hnb3; have hrow3 := (fun g hg => ((hout.lt g hg).1 : 0 ≤ g)); have hfr3 : some w.heap.size ≠ v1.ownBlock := (fun e => by have := Hp.out.outIn _ e.symm; omega); have K3 := (fun (o : Nat) => (hgrow3.cell_far ⟨w.heap.size, o, none⟩ (by simp; omega) hfr3).trans ((up_a1 w2 _).cell (p := ⟨w.heap.size, o, none⟩) (show w.heap.size < w2.heap.size by omega))); have F := Lib.hid (And.intro ((K3 0).trans F.out.1) ((K3 1).trans F.out.2)); have Hsn := Lib.hid (Hp.out.snoc (x := r) (Hb2.out.alloc hs2 _) (by omega) (Hown2.out.below (up_a1 w2 _) (Nat.le_refl _)) (by simp) hown3 hgrow3 (by simpa using hnb3)); have hb3 : Below wq.heap.size wq w3 := Below.grown (((Hb1.out.trans (Hb2.out.mono hs1)).alloc (by omega) _)) hgrow3 (fun g hg => (Hp.out.outIn g hg).1) (Nat.le_refl _); have hs3 := hb3.size; have Hb3 := Lib.hid hb3; clear hown3 hgrow3 hnb3 K3 hrow3 hb3 hout) | (go_at_call 54; ((with_reducible refine (hN.out _ _ (by omega) _).mono ?_); rintro e w4 ⟨v4, rfl, ⟨qs, hqs, hq⟩, hb4⟩; have F := Lib.hid (And.intro ((hb4.cell (p := ⟨w.heap.size, 0, none⟩) (Nat.lt_of_lt_of_le hgq hs3)).trans F.out.1) ((hb4.cell (p := ⟨w.heap.size, 1, none⟩) (Nat.lt_of_lt_of_le hgq hs3)).trans F.out.2)); have hql : qs.length ≤ 1048576 := (by have h1 := congrArg List.length (Lib.hid hqs).out; rw [List.length_map] at h1; rw [h1]; first | (simp; done) | (rw [List.length_take]; omega) | (rw [List.length_drop]; omega)); have hout4 := owns_below Hsn.out.out hb4; have hnw := hq.own; have hs4 := hb4.size; obtain ⟨A4, c4, rfl, -, -, -⟩ := hnw.cells; have Hnw := Lib.hid hnw.news; have Hqs := Lib.hid hqs; have Hq := Lib.hid hq; have Hb4 := Lib.hid hb4; clear hqs hq hnw hb4)) | (refine step_spread rfl _ _ 42 rfl 0 44 i0 _ 2 32 Try.underlying42 hif.out hz0.out hz1.out hz2.out rfl (by decide) (by decide) hout4 rfl rfl Hnw.out.1 Hnw.out.2.1 Hnw.out.2.2 Hq.out.one (by simp; omega) (Nat.zero_le _) ?_; intro v5 w5 hown5 hgrow5 hnb5; have hfr5 : some w.heap.size ≠ v3.ownBlock := (fun e => by have := Hsn.out.outIn _ e.symm; omega); have K5 := (fun (o : Nat) => hgrow5.cell_far ⟨w.heap.size, o, none⟩ (show w.heap.size < w4.heap.size by omega) hfr5); have F := Lib.hid (And.intro ((K5 0).trans F.out.1) ((K5 1).trans F.out.2)); have Hjn := Lib.hid (Hsn.out.join Hb4.out hs3 Hq.out hown5 hgrow5 hnb5); have Hb5 := Lib.hid (Below.grown (Hb3.out.trans (Hb4.out.mono hs3)) hgrow5 (fun g hg => (Hsn.out.outIn g hg).1) (Nat.le_refl _)); clear hown5 hgrow5 hnb5 K5))
      go_wp2_with fail
      go_ret
      refine ⟨v5, rfl, ⟨_, putRow_of HP.out (by rw [Hps.out]; rfl) (by rw [Hqs.out]; rfl), Hjn.out.imp (fun _ _ _ => rfl) (by omega) (Nat.le_refl _)⟩, Hbq.out.trans (Hb5.out.mono (by omega))⟩
set_option maxRecDepth 20000 in
set_option maxHeartbeats 4000000 in
theorem impl_PutRow1 (l : List R) (x : Value) (r : R) (sv : Value) (w : World) {lo hi l1 h1 : Nat} (hx : RdR w lo hi x l) (hhi : hi ≤ w.heap.size) (hr : RdV w l1 h1 sv r.l) (hh1 : h1 ≤ w.heap.size) (hn : l.length ≤ 1048576 ∧ lensR l ≤ 1048576) (hn2 : r.l.length ≤ 1048576) (hpos : 0 < l.length) :
    Calls Try.prog 26 #[x, .agg #[.int .i64 r.id, sv]] w fun e w' => ∃ v, e = .returned v ∧ OwnR 44 25 w' w.heap.size w'.heap.size v (putRow l r) ∧ Below w.heap.size w w' := by
  obtain ⟨A, c, rfl, hl, hl2⟩ := hx.form
  obtain ⟨Av, cv, rfl, -, -⟩ := hr.form
  obtain ⟨b, off, -, -, rfl, -, hbl, -, -, -, -⟩ := hx.at hpos
  obtain ⟨i0, hif, hz0, hz1, hz2⟩ := info_parts info_Row
  have hif := Lib.hid hif
  have hz0 := Lib.hid hz0
  have hz1 := Lib.hid hz1
  have hz2 := Lib.hid hz2
  have hb0 := Lib.hid (up_a1 w (.cells #[.int .i64 r.id, .slice Av r.l.length cv] 44))
  go_enter Try.func26, Try.ntmps26
  go_wp2_with fail
  go_loopw [5] (fun i wr => ∃ k : Nat, i = .int .i64 k ∧ k ≤ l.length ∧ (l.take k).all (fun x => decide (x.id < r.id)) = true ∧ wr.heap[w.heap.size]? = some (.cells #[.int .i64 r.id, .slice Av r.l.length cv] 44) ∧ Below w.heap.size w wr) (fun i _ => l.length - (intOf i).toNat)
  case atStart => exact ⟨0, rfl, by omega, by simp, heap_alloc_new w _, hb0.out⟩
  case round =>
    obtain ⟨k, rfl, hk, hall, hc, hb⟩ := hrel
    have Hall := Lib.hid hall
    have hg : w.heap.size < wr.heap.size := (Array.getElem?_eq_some_iff.1 hc).1
    have d0 := cell_of_row wr _ 0 _ _ _ hc
    have d1 := cell_of_row wr _ 1 _ _ _ hc
    simp only [List.getElem?_toArray, List.getElem?_cons_zero, List.getElem?_cons_succ] at d0 d1
    have Hc := Lib.hid hc
    have hbs := hb.size
    clear hall hc
    by_cases hgo : k < l.length ∧ ∀ x, l[k]? = some x → x.id < r.id
    · obtain ⟨hkl, hlt⟩ := hgo
      obtain ⟨b', off', y, sv', hA, -, hbl', hyk, e0, e1, -⟩ := (hx.below hb hhi).at hkl
      injection hA with hA
      injection hA with hA1 hA2
      subst hA1 hA2
      have hlt := hlt y hyk
      have hd := decide_eq_true hlt
      have Ht := Lib.hid (show (l.take (k + 1)).all (fun x => decide (x.id < r.id)) = true by rw [take_of_get hyk, List.all_append, Hall.out]; simp [hlt])
      clear hyk hlt
      go_wp2_with fail
      have q_0 := cell_regrown (w := wr) d0
      have q_1 := cell_regrown (w := wr) e0
      refine wp_region_quiet_below (by kernel_rfl) (by kernel_rfl) ?_
      repeat (go_big_quiet_step (fail))
      refine wpQuiet_nil ?_
      intro wq hw'
      obtain ⟨⟨dq, osq⟩, hw''⟩ := hw'
      have hbq := below_regrown wr dq osq
      rw [← hw''] at hbq
      clear hw''
      clear q_0 q_1
      go_wp2_with fail
      go_roundw
      case rel => exact ⟨k + 1, by go_num, by omega, Ht.out, (hbq.block _ hg).trans Hc.out, hb.trans (hbq.mono hb.size)⟩
      case measure => simp [intOf]; omega
    · have HP := Lib.hid (putAt_of hk Hall.out (fun x hx h => hgo ⟨by have := (List.getElem?_eq_some_iff.1 hx).1; omega, fun y hy => by rw [hx] at hy; injection hy with hy; rw [← hy]; exact h⟩))
      by_cases hkl : k < l.length
      · obtain ⟨b', off', y, sv', hA, -, hbl', hyk, e0, e1, -⟩ := (hx.below hb hhi).at hkl
        injection hA with hA
        injection hA with hA1 hA2
        subst hA1 hA2
        have hlt : ¬ y.id < r.id := fun h => hgo ⟨hkl, fun x hx => by rw [hyk] at hx; injection hx with hx; rw [← hx]; exact h⟩
        have hd := decide_eq_false hlt
        clear hyk hlt hgo
        go_wp2_with fail
        have q_0 := cell_regrown (w := wr) d0
        have q_1 := cell_regrown (w := wr) e0
        refine wp_region_quiet_below (by kernel_rfl) (by kernel_rfl) ?_
        repeat (go_big_quiet_step (fail))
        refine wpQuiet_nil ?_
        intro wq hw'
        obtain ⟨⟨dq, osq⟩, hw''⟩ := hw'
        have hbq := below_regrown wr dq osq
        rw [← hw''] at hbq
        clear hw''
        clear q_0 q_1
        have hqs := hbq.size
        have hgq : w.heap.size < wq.heap.size := Nat.lt_of_lt_of_le hg hbq.size
        have d0' := (hbq.cell (p := ⟨w.heap.size, 0, none⟩) hg).trans d0
        have d1' := (hbq.cell (p := ⟨w.heap.size, 1, none⟩) hg).trans d1
        have hrq := hr.below (hb.trans (hbq.mono hb.size)) hh1
        have hxq := hx.below (hb.trans (hbq.mono hb.size)) hhi
        have hT := Lib.hid (fun (W : World) (h : Below wq.heap.size wq W) => impl_cloneRows (l.take k) _ W ((hxq.take hk).below h (by omega)) (Nat.le_trans (by omega) h.size) ⟨by rw [List.length_take]; omega, Nat.le_trans (lensR_take l k) hn.2⟩)
        have hD := Lib.hid (fun (W : World) (h : Below wq.heap.size wq W) => impl_cloneRows (l.drop k) _ W ((hxq.drop hk).below h (by omega)) (Nat.le_trans (by omega) h.size) ⟨by rw [List.length_drop]; omega, Nat.le_trans (lensR_drop l k) hn.2⟩)
        have hR := Lib.hid (fun (W : World) (h : Below wq.heap.size wq W) => impl_cloneRow r (.slice Av r.l.length cv) W (hrq.below h (by omega)) (Nat.le_trans (by omega) h.size) (by omega))
        have hk0 : (0 : Int) ≤ (k : Int) := by omega
        have hk1 : (k : Int) ≤ (c : Int) := by omega
        have hk2 : (k : Int) ≤ (l.length : Int) := by omega
        have hk3 : (l.length : Int) ≤ (c : Int) := by omega
        have Hbq := Lib.hid (hb.trans (hbq.mono hb.size))
        have Hbw := Lib.hid hbq
        have hcm : c ≤ maxLen := hl2
        clear hrq d0 d1 hbq hxq e0 e1
        go_wp2_with fail
        go_region_held3 (fun w' => w'.cell? ⟨w.heap.size, 0, none⟩ = some (.int .i64 r.id) ∧ w'.cell? ⟨w.heap.size, 1, none⟩ = some (.slice Av r.l.length cv)) (first | exact ⟨d0', d1'⟩ | exact F.out | go_keep) (first | (go_at_call 50; ((with_reducible refine (hT.out _ (Below.refl _ _).drew).mono ?_); rintro e w1 ⟨v1, rfl, ⟨ps, hps, hp⟩, hb1⟩; replace hb1 : Below wq.heap.size wq w1 := Below.undrew hb1; replace hp : OwnRp 44 25 w1 wq.heap.size w1.heap.size v1 ps := hp; have F := Lib.hid (And.intro ((hb1.cell (p := ⟨w.heap.size, 0, none⟩) hgq).trans d0') ((hb1.cell (p := ⟨w.heap.size, 1, none⟩) hgq).trans d1')); have Hps := Lib.hid hps; have Hp := Lib.hid hp; have Hb1 := Lib.hid hb1; clear hps hp hb1)) | (go_at_call 51; ((with_reducible refine (hR.out _ Hb1.out).mono ?_); rintro e w2 ⟨v2, rfl, hown2, hb2⟩; have F := Lib.hid (And.intro ((hb2.cell (p := ⟨w.heap.size, 0, none⟩) (Nat.lt_of_lt_of_le hgq Hb1.out.size)).trans F.out.1) ((hb2.cell (p := ⟨w.heap.size, 1, none⟩) (Nat.lt_of_lt_of_le hgq Hb1.out.size)).trans F.out.2)); obtain ⟨A2, c2, rfl, -, -, -⟩ := hown2.cells; have hout := owns_below (w' := w2) Hp.out.out hb2; have hpl : ps.length ≤ 1048576 := (by have h1 := congrArg List.length Hps.out; rw [List.length_map] at h1; rw [h1]; first | (simp; done) | (rw [List.length_take]; omega) | (rw [List.length_drop]; omega)); have hs1 := Hb1.out.size; have hs2 := hb2.size; have Hown2 := Lib.hid hown2; have Hb2 := Lib.hid hb2; clear hown2 hb2)) | (refine step_app rfl _ _ 42 rfl 0 44 i0 _ 2 32 Try.underlying42 hif.out hz0.out hz1.out hz2.out rfl (by decide) (by decide) (hout.alloc _) rfl (heap_alloc_new _ _) rfl rfl (by simp [Value.oneCell']) (by omega) (Nat.zero_le _) ?_; intro v3 w3 hown3 hgrow3 hnb3; have hrow3 := (fun g hg => ((hout.lt g hg).1 : 0 ≤ g)); have hfr3 : some w.heap.size ≠ v1.ownBlock := (fun e => by have := Hp.out.outIn _ e.symm; omega); have K3 := (fun (o : Nat) => (hgrow3.cell_far ⟨w.heap.size, o, none⟩ (by simp; omega) hfr3).trans ((up_a1 w2 _).cell (p := ⟨w.heap.size, o, none⟩) (show w.heap.size < w2.heap.size by omega))); have F := Lib.hid (And.intro ((K3 0).trans F.out.1) ((K3 1).trans F.out.2)); have Hsn := Lib.hid (Hp.out.snoc (x := r) (Hb2.out.alloc hs2 _) (by omega) (Hown2.out.below (up_a1 w2 _) (Nat.le_refl _)) (by simp) hown3 hgrow3 (by simpa using hnb3)); have hb3 : Below wq.heap.size wq w3 := Below.grown (((Hb1.out.trans (Hb2.out.mono hs1)).alloc (by omega) _)) hgrow3 (fun g hg => (Hp.out.outIn g hg).1) (Nat.le_refl _); have hs3 := hb3.size; have Hb3 := Lib.hid hb3; clear hown3 hgrow3 hnb3 K3 hrow3 hb3 hout))
        go_wp2_with (first | (go_at_call 50; ((with_reducible refine (hD.out _ Hb3.out).mono ?_); rintro e w4 ⟨v4, rfl, ⟨qs, hqs, hq⟩, hb4⟩; have hql : qs.length ≤ 1048576 := (by have h1 := congrArg List.length (Lib.hid hqs).out; rw [List.length_map] at h1; rw [h1]; first | (simp; done) | (rw [List.length_take]; omega) | (rw [List.length_drop]; omega)); have hout4 := owns_below Hsn.out.out hb4; have hnw := hq.own; have hs4 := hb4.size; obtain ⟨A4, c4, rfl, -, -, -⟩ := hnw.cells; have Hnw := Lib.hid hnw.news; have Hqs := Lib.hid hqs; have Hq := Lib.hid hq; have Hb4 := Lib.hid hb4; clear hqs hq hnw hb4)) | (at_builtin; (refine wpl_spread rfl _ _ 42 rfl 0 44 i0 _ 2 32 Try.underlying42 hif.out hz0.out hz1.out hz2.out rfl (by decide) (by decide) hout4 rfl rfl Hnw.out.1 Hnw.out.2.1 Hnw.out.2.2 Hq.out.one (by simp; omega) (Nat.zero_le _) ?_; intro v5 w5 hown5 hgrow5 hnb5; have Hjn := Lib.hid (Hsn.out.join Hb4.out hs3 Hq.out hown5 hgrow5 hnb5); have Hb5 := Lib.hid (Below.grown (Hb3.out.trans (Hb4.out.mono hs3)) hgrow5 (fun g hg => (Hsn.out.outIn g hg).1) (Nat.le_refl _)); clear hown5 hgrow5 hnb5)))
        go_ret
        refine ⟨v5, rfl, ⟨_, putRow_of HP.out Hps.out Hqs.out, Hjn.out.imp (fun _ _ _ => rfl) (by omega) (Nat.le_refl _)⟩, Hbq.out.trans (Hb5.out.mono (by omega))⟩
      · obtain rfl : k = l.length := by omega
        clear hgo hkl Hall Hc
        have hdk : decide ((l.length : Int) < (l.length : Int)) = false := decide_eq_false (by omega)
        go_wp2_with fail
        refine wp_region_quiet_below (by kernel_rfl) (by kernel_rfl) ?_
        repeat (go_big_quiet_step (fail))
        refine wpQuiet_nil ?_
        intro wq hw'
        obtain ⟨⟨dq, osq⟩, hw''⟩ := hw'
        have hbq := below_regrown wr dq osq
        rw [← hw''] at hbq
        clear hw''
        by_cases hcl : c = l.length
        · subst hcl
          have hqs := hbq.size
          have hgq : w.heap.size < wq.heap.size := Nat.lt_of_lt_of_le hg hbq.size
          have d0' := (hbq.cell (p := ⟨w.heap.size, 0, none⟩) hg).trans d0
          have d1' := (hbq.cell (p := ⟨w.heap.size, 1, none⟩) hg).trans d1
          have hrq := hr.below (hb.trans (hbq.mono hb.size)) hh1
          have hxq := hx.below (hb.trans (hbq.mono hb.size)) hhi
          have hT := Lib.hid (fun (W : World) (h : Below wq.heap.size wq W) => impl_cloneRows (l.take l.length) _ W ((hxq.take hk).below h (by omega)) (Nat.le_trans (by omega) h.size) ⟨by rw [List.length_take]; omega, Nat.le_trans (lensR_take l l.length) hn.2⟩)
          have hN := Lib.hid (fun (A' : Option Addr) (c' : Nat) (hc' : c' ≤ maxLen) (W : World) => impl_cloneRows [] (.slice A' 0 c') W (rdR_empty hc') (Nat.zero_le _) ⟨by simp, by simp [lensR]⟩)
          have hR := Lib.hid (fun (W : World) (h : Below wq.heap.size wq W) => impl_cloneRow r (.slice Av r.l.length cv) W (hrq.below h (by omega)) (Nat.le_trans (by omega) h.size) (by omega))
          have hk0 : (0 : Int) ≤ (l.length : Int) := by omega
          have hk1 : (l.length : Int) ≤ (l.length : Int) := by omega
          have Hbq := Lib.hid (hb.trans (hbq.mono hb.size))
          have Hbw := Lib.hid hbq
          have hcm : l.length ≤ maxLen := hl2
          clear hrq d0 d1 hbq hxq
          go_wp2_with fail
          go_region_held3 (fun w' => w'.cell? ⟨w.heap.size, 0, none⟩ = some (.int .i64 r.id) ∧ w'.cell? ⟨w.heap.size, 1, none⟩ = some (.slice Av r.l.length cv)) (first | exact ⟨d0', d1'⟩ | exact F.out | go_keep) (first | (go_at_call 50; ((with_reducible refine (hT.out _ (Below.refl _ _).drew).mono ?_); rintro e w1 ⟨v1, rfl, ⟨ps, hps, hp⟩, hb1⟩; replace hb1 : Below wq.heap.size wq w1 := Below.undrew hb1; replace hp : OwnRp 44 25 w1 wq.heap.size w1.heap.size v1 ps := hp; have F := Lib.hid (And.intro ((hb1.cell (p := ⟨w.heap.size, 0, none⟩) hgq).trans d0') ((hb1.cell (p := ⟨w.heap.size, 1, none⟩) hgq).trans d1')); have Hps := Lib.hid hps; have Hp := Lib.hid hp; have Hb1 := Lib.hid hb1; clear hps hp hb1)) | (go_at_call 51; ((with_reducible refine (hR.out _ Hb1.out).mono ?_); rintro e w2 ⟨v2, rfl, hown2, hb2⟩; have F := Lib.hid (And.intro ((hb2.cell (p := ⟨w.heap.size, 0, none⟩) (Nat.lt_of_lt_of_le hgq Hb1.out.size)).trans F.out.1) ((hb2.cell (p := ⟨w.heap.size, 1, none⟩) (Nat.lt_of_lt_of_le hgq Hb1.out.size)).trans F.out.2)); obtain ⟨A2, c2, rfl, -, -, -⟩ := hown2.cells; have hout := owns_below (w' := w2) Hp.out.out hb2; have hpl : ps.length ≤ 1048576 := (by have h1 := congrArg List.length Hps.out; rw [List.length_map] at h1; rw [h1]; first | (simp; done) | (rw [List.length_take]; omega) | (rw [List.length_drop]; omega)); have hs1 := Hb1.out.size; have hs2 := hb2.size; have Hown2 := Lib.hid hown2; have Hb2 := Lib.hid hb2; clear hown2 hb2)) | (refine step_app rfl _ _ 42 rfl 0 44 i0 _ 2 32 Try.underlying42 hif.out hz0.out hz1.out hz2.out rfl (by decide) (by decide) (hout.alloc _) rfl (heap_alloc_new _ _) rfl rfl (by simp [Value.oneCell']) (by omega) (Nat.zero_le _) ?_; intro v3 w3 hown3 hgrow3 hnb3; have hrow3 := (fun g hg => ((hout.lt g hg).1 : 0 ≤ g)); have hfr3 : some w.heap.size ≠ v1.ownBlock := (fun e => by have := Hp.out.outIn _ e.symm; omega); have K3 := (fun (o : Nat) => (hgrow3.cell_far ⟨w.heap.size, o, none⟩ (by simp; omega) hfr3).trans ((up_a1 w2 _).cell (p := ⟨w.heap.size, o, none⟩) (show w.heap.size < w2.heap.size by omega))); have F := Lib.hid (And.intro ((K3 0).trans F.out.1) ((K3 1).trans F.out.2)); have Hsn := Lib.hid (Hp.out.snoc (x := r) (Hb2.out.alloc hs2 _) (by omega) (Hown2.out.below (up_a1 w2 _) (Nat.le_refl _)) (by simp) hown3 hgrow3 (by simpa using hnb3)); have hb3 : Below wq.heap.size wq w3 := Below.grown (((Hb1.out.trans (Hb2.out.mono hs1)).alloc (by omega) _)) hgrow3 (fun g hg => (Hp.out.outIn g hg).1) (Nat.le_refl _); have hs3 := hb3.size; have Hb3 := Lib.hid hb3; clear hown3 hgrow3 hnb3 K3 hrow3 hb3 hout))
          go_wp2_with (first | (go_at_call 50; ((with_reducible refine (hN.out _ _ (by omega) _).mono ?_); rintro e w4 ⟨v4, rfl, ⟨qs, hqs, hq⟩, hb4⟩; have hql : qs.length ≤ 1048576 := (by have h1 := congrArg List.length (Lib.hid hqs).out; rw [List.length_map] at h1; rw [h1]; first | (simp; done) | (rw [List.length_take]; omega) | (rw [List.length_drop]; omega)); have hout4 := owns_below Hsn.out.out hb4; have hnw := hq.own; have hs4 := hb4.size; obtain ⟨A4, c4, rfl, -, -, -⟩ := hnw.cells; have Hnw := Lib.hid hnw.news; have Hqs := Lib.hid hqs; have Hq := Lib.hid hq; have Hb4 := Lib.hid hb4; clear hqs hq hnw hb4)) | (at_builtin; (refine wpl_spread rfl _ _ 42 rfl 0 44 i0 _ 2 32 Try.underlying42 hif.out hz0.out hz1.out hz2.out rfl (by decide) (by decide) hout4 rfl rfl Hnw.out.1 Hnw.out.2.1 Hnw.out.2.2 Hq.out.one (by simp; omega) (Nat.zero_le _) ?_; intro v5 w5 hown5 hgrow5 hnb5; have Hjn := Lib.hid (Hsn.out.join Hb4.out hs3 Hq.out hown5 hgrow5 hnb5); have Hb5 := Lib.hid (Below.grown (Hb3.out.trans (Hb4.out.mono hs3)) hgrow5 (fun g hg => (Hsn.out.outIn g hg).1) (Nat.le_refl _)); clear hown5 hgrow5 hnb5)))
          go_ret
          refine ⟨v5, rfl, ⟨_, putRow_of HP.out Hps.out (by rw [Hqs.out, List.drop_length]), Hjn.out.imp (fun _ _ _ => rfl) (by omega) (Nat.le_refl _)⟩, Hbq.out.trans (Hb5.out.mono (by omega))⟩
        · skip
          have hqs := hbq.size
          have hgq : w.heap.size < wq.heap.size := Nat.lt_of_lt_of_le hg hbq.size
          have d0' := (hbq.cell (p := ⟨w.heap.size, 0, none⟩) hg).trans d0
          have d1' := (hbq.cell (p := ⟨w.heap.size, 1, none⟩) hg).trans d1
          have hrq := hr.below (hb.trans (hbq.mono hb.size)) hh1
          have hxq := hx.below (hb.trans (hbq.mono hb.size)) hhi
          have hT := Lib.hid (fun (W : World) (h : Below wq.heap.size wq W) => impl_cloneRows (l.take l.length) _ W ((hxq.take hk).below h (by omega)) (Nat.le_trans (by omega) h.size) ⟨by rw [List.length_take]; omega, Nat.le_trans (lensR_take l l.length) hn.2⟩)
          have hN := Lib.hid (fun (A' : Option Addr) (c' : Nat) (hc' : c' ≤ maxLen) (W : World) => impl_cloneRows [] (.slice A' 0 c') W (rdR_empty hc') (Nat.zero_le _) ⟨by simp, by simp [lensR]⟩)
          have hR := Lib.hid (fun (W : World) (h : Below wq.heap.size wq W) => impl_cloneRow r (.slice Av r.l.length cv) W (hrq.below h (by omega)) (Nat.le_trans (by omega) h.size) (by omega))
          have hk0 : (0 : Int) ≤ (l.length : Int) := by omega
          have hk1 : (l.length : Int) ≤ (c : Int) := by omega
          have Hbq := Lib.hid (hb.trans (hbq.mono hb.size))
          have Hbw := Lib.hid hbq
          have hcm : c ≤ maxLen := hl2
          clear hrq d0 d1 hbq hxq
          go_wp2_with fail
          go_region_held3 (fun w' => w'.cell? ⟨w.heap.size, 0, none⟩ = some (.int .i64 r.id) ∧ w'.cell? ⟨w.heap.size, 1, none⟩ = some (.slice Av r.l.length cv)) (first | exact ⟨d0', d1'⟩ | exact F.out | go_keep) (first | (go_at_call 50; ((with_reducible refine (hT.out _ (Below.refl _ _).drew).mono ?_); rintro e w1 ⟨v1, rfl, ⟨ps, hps, hp⟩, hb1⟩; replace hb1 : Below wq.heap.size wq w1 := Below.undrew hb1; replace hp : OwnRp 44 25 w1 wq.heap.size w1.heap.size v1 ps := hp; have F := Lib.hid (And.intro ((hb1.cell (p := ⟨w.heap.size, 0, none⟩) hgq).trans d0') ((hb1.cell (p := ⟨w.heap.size, 1, none⟩) hgq).trans d1')); have Hps := Lib.hid hps; have Hp := Lib.hid hp; have Hb1 := Lib.hid hb1; clear hps hp hb1)) | (go_at_call 51; ((with_reducible refine (hR.out _ Hb1.out).mono ?_); rintro e w2 ⟨v2, rfl, hown2, hb2⟩; have F := Lib.hid (And.intro ((hb2.cell (p := ⟨w.heap.size, 0, none⟩) (Nat.lt_of_lt_of_le hgq Hb1.out.size)).trans F.out.1) ((hb2.cell (p := ⟨w.heap.size, 1, none⟩) (Nat.lt_of_lt_of_le hgq Hb1.out.size)).trans F.out.2)); obtain ⟨A2, c2, rfl, -, -, -⟩ := hown2.cells; have hout := owns_below (w' := w2) Hp.out.out hb2; have hpl : ps.length ≤ 1048576 := (by have h1 := congrArg List.length Hps.out; rw [List.length_map] at h1; rw [h1]; first | (simp; done) | (rw [List.length_take]; omega) | (rw [List.length_drop]; omega)); have hs1 := Hb1.out.size; have hs2 := hb2.size; have Hown2 := Lib.hid hown2; have Hb2 := Lib.hid hb2; clear hown2 hb2)) | (refine step_app rfl _ _ 42 rfl 0 44 i0 _ 2 32 Try.underlying42 hif.out hz0.out hz1.out hz2.out rfl (by decide) (by decide) (hout.alloc _) rfl (heap_alloc_new _ _) rfl rfl (by simp [Value.oneCell']) (by omega) (Nat.zero_le _) ?_; intro v3 w3 hown3 hgrow3 hnb3; have hrow3 := (fun g hg => ((hout.lt g hg).1 : 0 ≤ g)); have hfr3 : some w.heap.size ≠ v1.ownBlock := (fun e => by have := Hp.out.outIn _ e.symm; omega); have K3 := (fun (o : Nat) => (hgrow3.cell_far ⟨w.heap.size, o, none⟩ (by simp; omega) hfr3).trans ((up_a1 w2 _).cell (p := ⟨w.heap.size, o, none⟩) (show w.heap.size < w2.heap.size by omega))); have F := Lib.hid (And.intro ((K3 0).trans F.out.1) ((K3 1).trans F.out.2)); have Hsn := Lib.hid (Hp.out.snoc (x := r) (Hb2.out.alloc hs2 _) (by omega) (Hown2.out.below (up_a1 w2 _) (Nat.le_refl _)) (by simp) hown3 hgrow3 (by simpa using hnb3)); have hb3 : Below wq.heap.size wq w3 := Below.grown (((Hb1.out.trans (Hb2.out.mono hs1)).alloc (by omega) _)) hgrow3 (fun g hg => (Hp.out.outIn g hg).1) (Nat.le_refl _); have hs3 := hb3.size; have Hb3 := Lib.hid hb3; clear hown3 hgrow3 hnb3 K3 hrow3 hb3 hout))
          go_wp2_with (first | (go_at_call 50; ((with_reducible refine (hN.out _ _ (by omega) _).mono ?_); rintro e w4 ⟨v4, rfl, ⟨qs, hqs, hq⟩, hb4⟩; have hql : qs.length ≤ 1048576 := (by have h1 := congrArg List.length (Lib.hid hqs).out; rw [List.length_map] at h1; rw [h1]; first | (simp; done) | (rw [List.length_take]; omega) | (rw [List.length_drop]; omega)); have hout4 := owns_below Hsn.out.out hb4; have hnw := hq.own; have hs4 := hb4.size; obtain ⟨A4, c4, rfl, -, -, -⟩ := hnw.cells; have Hnw := Lib.hid hnw.news; have Hqs := Lib.hid hqs; have Hq := Lib.hid hq; have Hb4 := Lib.hid hb4; clear hqs hq hnw hb4)) | (at_builtin; (refine wpl_spread rfl _ _ 42 rfl 0 44 i0 _ 2 32 Try.underlying42 hif.out hz0.out hz1.out hz2.out rfl (by decide) (by decide) hout4 rfl rfl Hnw.out.1 Hnw.out.2.1 Hnw.out.2.2 Hq.out.one (by simp; omega) (Nat.zero_le _) ?_; intro v5 w5 hown5 hgrow5 hnb5; have Hjn := Lib.hid (Hsn.out.join Hb4.out hs3 Hq.out hown5 hgrow5 hnb5); have Hb5 := Lib.hid (Below.grown (Hb3.out.trans (Hb4.out.mono hs3)) hgrow5 (fun g hg => (Hsn.out.outIn g hg).1) (Nat.le_refl _)); clear hown5 hgrow5 hnb5)))
          go_ret
          refine ⟨v5, rfl, ⟨_, putRow_of HP.out Hps.out (by rw [Hqs.out, List.drop_length]), Hjn.out.imp (fun _ _ _ => rfl) (by omega) (Nat.le_refl _)⟩, Hbq.out.trans (Hb5.out.mono (by omega))⟩
set_option maxRecDepth 20000 in
set_option maxHeartbeats 4000000 in
theorem impl_PutRow0 (A : Option Addr) (c : Nat) (hl2 : c ≤ maxLen) (r : R) (sv : Value) (w : World) {l1 h1 : Nat} (hA : A = none ∨ ∃ a, A = some a) (hr : RdV w l1 h1 sv r.l) (hh1 : h1 ≤ w.heap.size) (hn2 : r.l.length ≤ 1048576) :
    Calls Try.prog 26 #[.slice A 0 c, .agg #[.int .i64 r.id, sv]] w fun e w' => ∃ v, e = .returned v ∧ OwnR 44 25 w' w.heap.size w'.heap.size v (putRow [] r) ∧ Below w.heap.size w w' := by
  have HP := Lib.hid (show putAt [] r.id = 0 from rfl)
  obtain ⟨Av, cv, rfl, -, -⟩ := hr.form
  obtain ⟨i0, hif, hz0, hz1, hz2⟩ := info_parts info_Row
  have hif := Lib.hid hif
  have hz0 := Lib.hid hz0
  have hz1 := Lib.hid hz1
  have hz2 := Lib.hid hz2
  have hb0 := Lib.hid (up_a1 w (.cells #[.int .i64 r.id, .slice Av r.l.length cv] 44))
  go_enter Try.func26, Try.ntmps26
  go_wp2_with fail
  go_loopw [5] (fun i wr => i = .int .i64 0 ∧ wr.heap[w.heap.size]? = some (.cells #[.int .i64 r.id, .slice Av r.l.length cv] 44) ∧ Below w.heap.size w wr) (fun i _ => 0)
  case atStart => exact ⟨rfl, heap_alloc_new w _, hb0.out⟩
  case round =>
    obtain ⟨rfl, hc, hb⟩ := hrel
    have hg : w.heap.size < wr.heap.size := (Array.getElem?_eq_some_iff.1 hc).1
    have d0 := cell_of_row wr _ 0 _ _ _ hc
    have d1 := cell_of_row wr _ 1 _ _ _ hc
    simp only [List.getElem?_toArray, List.getElem?_cons_zero, List.getElem?_cons_succ] at d0 d1
    have hbs := hb.size
    clear hc
    go_wp2_with fail
    refine wp_region_quiet_below (by kernel_rfl) (by kernel_rfl) ?_
    repeat (go_big_quiet_step (fail))
    refine wpQuiet_nil ?_
    intro wq hw'
    obtain ⟨⟨dq, osq⟩, hw''⟩ := hw'
    have hbq := below_regrown wr dq osq
    rw [← hw''] at hbq
    clear hw''
    rcases hA with rfl | ⟨ad, rfl⟩
    · have hqs := hbq.size
      have hgq : w.heap.size < wq.heap.size := Nat.lt_of_lt_of_le hg hbq.size
      have d0' := (hbq.cell (p := ⟨w.heap.size, 0, none⟩) hg).trans d0
      have d1' := (hbq.cell (p := ⟨w.heap.size, 1, none⟩) hg).trans d1
      have hrq := hr.below (hb.trans (hbq.mono hb.size)) hh1
      have hN := Lib.hid (fun (A' : Option Addr) (c' : Nat) (hc' : c' ≤ maxLen) (W : World) => impl_cloneRows [] (.slice A' 0 c') W (rdR_empty hc') (Nat.zero_le _) ⟨by simp, by simp [lensR]⟩)
      have hR := Lib.hid (fun (W : World) (h : Below wq.heap.size wq W) => impl_cloneRow r (.slice Av r.l.length cv) W (hrq.below h (by omega)) (Nat.le_trans (by omega) h.size) (by omega))
      have hk0 : (0 : Int) ≤ (c : Int) := by omega
      have Hbq := Lib.hid (hb.trans (hbq.mono hb.size))
      have Hbw := Lib.hid hbq
      have hcm : c ≤ maxLen := hl2
      clear hrq d0 d1 hbq
      go_wp2_with fail
      go_region_held3 (fun w' => w'.cell? ⟨w.heap.size, 0, none⟩ = some (.int .i64 r.id) ∧ w'.cell? ⟨w.heap.size, 1, none⟩ = some (.slice Av r.l.length cv)) (first | exact ⟨d0', d1'⟩ | exact F.out | go_keep) (first | (go_at_call 50; ((with_reducible refine (hN.out _ _ (by omega) _).mono ?_); rintro e w1 ⟨v1, rfl, ⟨ps, hps, hp⟩, hb1⟩; replace hb1 : Below wq.heap.size wq w1 := Below.undrew hb1; replace hp : OwnRp 44 25 w1 wq.heap.size w1.heap.size v1 ps := hp; have F := Lib.hid (And.intro ((hb1.cell (p := ⟨w.heap.size, 0, none⟩) hgq).trans d0') ((hb1.cell (p := ⟨w.heap.size, 1, none⟩) hgq).trans d1')); have Hps := Lib.hid hps; have Hp := Lib.hid hp; have Hb1 := Lib.hid hb1; clear hps hp hb1)) | (go_at_call 51; ((with_reducible refine (hR.out _ Hb1.out).mono ?_); rintro e w2 ⟨v2, rfl, hown2, hb2⟩; have F := Lib.hid (And.intro ((hb2.cell (p := ⟨w.heap.size, 0, none⟩) (Nat.lt_of_lt_of_le hgq Hb1.out.size)).trans F.out.1) ((hb2.cell (p := ⟨w.heap.size, 1, none⟩) (Nat.lt_of_lt_of_le hgq Hb1.out.size)).trans F.out.2)); obtain ⟨A2, c2, rfl, -, -, -⟩ := hown2.cells; have hout := owns_below (w' := w2) Hp.out.out hb2; have hpl : ps.length ≤ 1048576 := (by have h1 := congrArg List.length Hps.out; rw [List.length_map] at h1; rw [h1]; first | (simp; done) | (rw [List.length_take]; omega) | (rw [List.length_drop]; omega)); have hs1 := Hb1.out.size; have hs2 := hb2.size; have Hown2 := Lib.hid hown2; have Hb2 := Lib.hid hb2; clear hown2 hb2)) | (refine step_app rfl _ _ 42 rfl 0 44 i0 _ 2 32 Try.underlying42 hif.out hz0.out hz1.out hz2.out rfl (by decide) (by decide) (hout.alloc _) rfl (heap_alloc_new _ _) rfl rfl (by simp [Value.oneCell']) (by omega) (Nat.zero_le _) ?_; intro v3 w3 hown3 hgrow3 hnb3; have hrow3 := (fun g hg => ((hout.lt g hg).1 : 0 ≤ g)); have hfr3 : some w.heap.size ≠ v1.ownBlock := (fun e => by have := Hp.out.outIn _ e.symm; omega); have K3 := (fun (o : Nat) => (hgrow3.cell_far ⟨w.heap.size, o, none⟩ (by simp; omega) hfr3).trans ((up_a1 w2 _).cell (p := ⟨w.heap.size, o, none⟩) (show w.heap.size < w2.heap.size by omega))); have F := Lib.hid (And.intro ((K3 0).trans F.out.1) ((K3 1).trans F.out.2)); have Hsn := Lib.hid (Hp.out.snoc (x := r) (Hb2.out.alloc hs2 _) (by omega) (Hown2.out.below (up_a1 w2 _) (Nat.le_refl _)) (by simp) hown3 hgrow3 (by simpa using hnb3)); have hb3 : Below wq.heap.size wq w3 := Below.grown (((Hb1.out.trans (Hb2.out.mono hs1)).alloc (by omega) _)) hgrow3 (fun g hg => (Hp.out.outIn g hg).1) (Nat.le_refl _); have hs3 := hb3.size; have Hb3 := Lib.hid hb3; clear hown3 hgrow3 hnb3 K3 hrow3 hb3 hout))
      go_wp2_with (first | (go_at_call 50; ((with_reducible refine (hN.out _ _ (by omega) _).mono ?_); rintro e w4 ⟨v4, rfl, ⟨qs, hqs, hq⟩, hb4⟩; have hql : qs.length ≤ 1048576 := (by have h1 := congrArg List.length (Lib.hid hqs).out; rw [List.length_map] at h1; rw [h1]; first | (simp; done) | (rw [List.length_take]; omega) | (rw [List.length_drop]; omega)); have hout4 := owns_below Hsn.out.out hb4; have hnw := hq.own; have hs4 := hb4.size; obtain ⟨A4, c4, rfl, -, -, -⟩ := hnw.cells; have Hnw := Lib.hid hnw.news; have Hqs := Lib.hid hqs; have Hq := Lib.hid hq; have Hb4 := Lib.hid hb4; clear hqs hq hnw hb4)) | (at_builtin; (refine wpl_spread rfl _ _ 42 rfl 0 44 i0 _ 2 32 Try.underlying42 hif.out hz0.out hz1.out hz2.out rfl (by decide) (by decide) hout4 rfl rfl Hnw.out.1 Hnw.out.2.1 Hnw.out.2.2 Hq.out.one (by simp; omega) (Nat.zero_le _) ?_; intro v5 w5 hown5 hgrow5 hnb5; have Hjn := Lib.hid (Hsn.out.join Hb4.out hs3 Hq.out hown5 hgrow5 hnb5); have Hb5 := Lib.hid (Below.grown (Hb3.out.trans (Hb4.out.mono hs3)) hgrow5 (fun g hg => (Hsn.out.outIn g hg).1) (Nat.le_refl _)); clear hown5 hgrow5 hnb5)))
      go_ret
      refine ⟨v5, rfl, ⟨_, putRow_of HP.out (by rw [Hps.out]; rfl) (by rw [Hqs.out]; rfl), Hjn.out.imp (fun _ _ _ => rfl) (by omega) (Nat.le_refl _)⟩, Hbq.out.trans (Hb5.out.mono (by omega))⟩
    · have hqs := hbq.size
      have hgq : w.heap.size < wq.heap.size := Nat.lt_of_lt_of_le hg hbq.size
      have d0' := (hbq.cell (p := ⟨w.heap.size, 0, none⟩) hg).trans d0
      have d1' := (hbq.cell (p := ⟨w.heap.size, 1, none⟩) hg).trans d1
      have hrq := hr.below (hb.trans (hbq.mono hb.size)) hh1
      have hN := Lib.hid (fun (A' : Option Addr) (c' : Nat) (hc' : c' ≤ maxLen) (W : World) => impl_cloneRows [] (.slice A' 0 c') W (rdR_empty hc') (Nat.zero_le _) ⟨by simp, by simp [lensR]⟩)
      have hR := Lib.hid (fun (W : World) (h : Below wq.heap.size wq W) => impl_cloneRow r (.slice Av r.l.length cv) W (hrq.below h (by omega)) (Nat.le_trans (by omega) h.size) (by omega))
      have hk0 : (0 : Int) ≤ (c : Int) := by omega
      have Hbq := Lib.hid (hb.trans (hbq.mono hb.size))
      have Hbw := Lib.hid hbq
      have hcm : c ≤ maxLen := hl2
      clear hrq d0 d1 hbq
      go_wp2_with fail
      go_region_held3 (fun w' => w'.cell? ⟨w.heap.size, 0, none⟩ = some (.int .i64 r.id) ∧ w'.cell? ⟨w.heap.size, 1, none⟩ = some (.slice Av r.l.length cv)) (first | exact ⟨d0', d1'⟩ | exact F.out | go_keep) (first | (go_at_call 50; ((with_reducible refine (hN.out _ _ (by omega) _).mono ?_); rintro e w1 ⟨v1, rfl, ⟨ps, hps, hp⟩, hb1⟩; replace hb1 : Below wq.heap.size wq w1 := Below.undrew hb1; replace hp : OwnRp 44 25 w1 wq.heap.size w1.heap.size v1 ps := hp; have F := Lib.hid (And.intro ((hb1.cell (p := ⟨w.heap.size, 0, none⟩) hgq).trans d0') ((hb1.cell (p := ⟨w.heap.size, 1, none⟩) hgq).trans d1')); have Hps := Lib.hid hps; have Hp := Lib.hid hp; have Hb1 := Lib.hid hb1; clear hps hp hb1)) | (go_at_call 51; ((with_reducible refine (hR.out _ Hb1.out).mono ?_); rintro e w2 ⟨v2, rfl, hown2, hb2⟩; have F := Lib.hid (And.intro ((hb2.cell (p := ⟨w.heap.size, 0, none⟩) (Nat.lt_of_lt_of_le hgq Hb1.out.size)).trans F.out.1) ((hb2.cell (p := ⟨w.heap.size, 1, none⟩) (Nat.lt_of_lt_of_le hgq Hb1.out.size)).trans F.out.2)); obtain ⟨A2, c2, rfl, -, -, -⟩ := hown2.cells; have hout := owns_below (w' := w2) Hp.out.out hb2; have hpl : ps.length ≤ 1048576 := (by have h1 := congrArg List.length Hps.out; rw [List.length_map] at h1; rw [h1]; first | (simp; done) | (rw [List.length_take]; omega) | (rw [List.length_drop]; omega)); have hs1 := Hb1.out.size; have hs2 := hb2.size; have Hown2 := Lib.hid hown2; have Hb2 := Lib.hid hb2; clear hown2 hb2)) | (refine step_app rfl _ _ 42 rfl 0 44 i0 _ 2 32 Try.underlying42 hif.out hz0.out hz1.out hz2.out rfl (by decide) (by decide) (hout.alloc _) rfl (heap_alloc_new _ _) rfl rfl (by simp [Value.oneCell']) (by omega) (Nat.zero_le _) ?_; intro v3 w3 hown3 hgrow3 hnb3; have hrow3 := (fun g hg => ((hout.lt g hg).1 : 0 ≤ g)); have hfr3 : some w.heap.size ≠ v1.ownBlock := (fun e => by have := Hp.out.outIn _ e.symm; omega); have K3 := (fun (o : Nat) => (hgrow3.cell_far ⟨w.heap.size, o, none⟩ (by simp; omega) hfr3).trans ((up_a1 w2 _).cell (p := ⟨w.heap.size, o, none⟩) (show w.heap.size < w2.heap.size by omega))); have F := Lib.hid (And.intro ((K3 0).trans F.out.1) ((K3 1).trans F.out.2)); have Hsn := Lib.hid (Hp.out.snoc (x := r) (Hb2.out.alloc hs2 _) (by omega) (Hown2.out.below (up_a1 w2 _) (Nat.le_refl _)) (by simp) hown3 hgrow3 (by simpa using hnb3)); have hb3 : Below wq.heap.size wq w3 := Below.grown (((Hb1.out.trans (Hb2.out.mono hs1)).alloc (by omega) _)) hgrow3 (fun g hg => (Hp.out.outIn g hg).1) (Nat.le_refl _); have hs3 := hb3.size; have Hb3 := Lib.hid hb3; clear hown3 hgrow3 hnb3 K3 hrow3 hb3 hout))
      go_wp2_with (first | (go_at_call 50; ((with_reducible refine (hN.out _ _ (by omega) _).mono ?_); rintro e w4 ⟨v4, rfl, ⟨qs, hqs, hq⟩, hb4⟩; have hql : qs.length ≤ 1048576 := (by have h1 := congrArg List.length (Lib.hid hqs).out; rw [List.length_map] at h1; rw [h1]; first | (simp; done) | (rw [List.length_take]; omega) | (rw [List.length_drop]; omega)); have hout4 := owns_below Hsn.out.out hb4; have hnw := hq.own; have hs4 := hb4.size; obtain ⟨A4, c4, rfl, -, -, -⟩ := hnw.cells; have Hnw := Lib.hid hnw.news; have Hqs := Lib.hid hqs; have Hq := Lib.hid hq; have Hb4 := Lib.hid hb4; clear hqs hq hnw hb4)) | (at_builtin; (refine wpl_spread rfl _ _ 42 rfl 0 44 i0 _ 2 32 Try.underlying42 hif.out hz0.out hz1.out hz2.out rfl (by decide) (by decide) hout4 rfl rfl Hnw.out.1 Hnw.out.2.1 Hnw.out.2.2 Hq.out.one (by simp; omega) (Nat.zero_le _) ?_; intro v5 w5 hown5 hgrow5 hnb5; have Hjn := Lib.hid (Hsn.out.join Hb4.out hs3 Hq.out hown5 hgrow5 hnb5); have Hb5 := Lib.hid (Below.grown (Hb3.out.trans (Hb4.out.mono hs3)) hgrow5 (fun g hg => (Hsn.out.outIn g hg).1) (Nat.le_refl _)); clear hown5 hgrow5 hnb5)))
      go_ret
      refine ⟨v5, rfl, ⟨_, putRow_of HP.out (by rw [Hps.out]; rfl) (by rw [Hqs.out]; rfl), Hjn.out.imp (fun _ _ _ => rfl) (by omega) (Nat.le_refl _)⟩, Hbq.out.trans (Hb5.out.mono (by omega))⟩
theorem spec_PutRow (l : List R) (x : Value) (r : R) (sv : Value) (w : World) {lo hi l1 h1 : Nat} (hx : RdR w lo hi x l) (hhi : hi ≤ w.heap.size) (hr : RdV w l1 h1 sv r.l) (hh1 : h1 ≤ w.heap.size) (hn : l.length ≤ 1048576 ∧ lensR l ≤ 1048576) (hn2 : r.l.length ≤ 1048576) :
    Calls Try.prog 31 #[x, .agg #[.int .i64 r.id, sv]] w fun e w' => ∃ v, e = .returned v ∧ OwnR 44 25 w' w.heap.size w'.heap.size v (putRow l r) ∧ Below w.heap.size w w' := by
  rcases Nat.eq_zero_or_pos l.length with h | h
  · obtain rfl := List.eq_nil_of_length_eq_zero h
    obtain ⟨A, c, rfl, hl, hl2⟩ := hx.form
    exact spec_PutRow0 A c hl2 r sv w (by cases A <;> simp) hr hh1 hn2
  · exact spec_PutRow1 l x r sv w hx hhi hr hh1 hn hn2 h
theorem impl_PutRow (l : List R) (x : Value) (r : R) (sv : Value) (w : World) {lo hi l1 h1 : Nat} (hx : RdR w lo hi x l) (hhi : hi ≤ w.heap.size) (hr : RdV w l1 h1 sv r.l) (hh1 : h1 ≤ w.heap.size) (hn : l.length ≤ 1048576 ∧ lensR l ≤ 1048576) (hn2 : r.l.length ≤ 1048576) :
    Calls Try.prog 26 #[x, .agg #[.int .i64 r.id, sv]] w fun e w' => ∃ v, e = .returned v ∧ OwnR 44 25 w' w.heap.size w'.heap.size v (putRow l r) ∧ Below w.heap.size w w' := by
  rcases Nat.eq_zero_or_pos l.length with h | h
  · obtain rfl := List.eq_nil_of_length_eq_zero h
    obtain ⟨A, c, rfl, hl, hl2⟩ := hx.form
    exact impl_PutRow0 A c hl2 r sv w (by cases A <;> simp) hr hh1 hn2
  · exact impl_PutRow1 l x r sv w hx hhi hr hh1 hn hn2 h
theorem putRow_bd (l : List R) (r : R) : cntR (putRow l r) ≤ cntR l + 1 + 3 * r.l.length := by
  have h1 := congrArg lensR (List.take_append_drop (putAt l r.id) l)
  have h2 := congrArg List.length (List.take_append_drop (putAt l r.id) l)
  rw [lensR_append] at h1
  rw [List.length_append] at h2
  rw [cntR_eq, cntR_eq, putRow, lensR_append, List.length_append, List.length_cons]
  have h3 : lensR (r :: l.drop (putAt l r.id)) = r.l.length + lensR (l.drop (putAt l r.id)) := by simp [lensR]
  omega
end Go.Proofs.Ytaapmimabbmdbaa
