/- Writing into a chunk: contracts. -/
import Derived.Test.YtgjjkodlmhmjgaaS45
namespace Go.Lb
open Go.RowKit
section
variable {eR eV : TypeId} {w w' : World} {lo hi : Nat}
theorem set2_flat {ps1 ps2 : List (R × Value)} {x y : R} {sv nv : Value} : (((ps1 ++ (x, sv) :: ps2).flatMap rcell).set (ps1.length * 2) (.int .i64 y.id)).set (ps1.length * 2 + 1) nv = (ps1 ++ (y, nv) :: ps2).flatMap rcell := by
  have h1 : (ps1.flatMap rcell).length = ps1.length * 2 := flat_len rcell 2 rcell_len ps1
  rw [List.flatMap_append, List.flatMap_append, List.flatMap_cons, List.flatMap_cons]
  rw [List.set_append_right _ _ (by omega), h1, List.set_append_right _ _ (by omega), h1]
  simp [rcell]
/-- A row is put into the place of another. -/
theorem OwnRp.setRow {ps1 ps2 : List (R × Value)} {x y : R} {sv nv : Value} {g c N : Nat} (h : OwnRp eR eV w lo hi (.slice (some ⟨g, 0, none⟩) N c) (ps1 ++ (x, sv) :: ps2)) (hN : N = (ps1 ++ (x, sv) :: ps2).length)
    (hn : OwnV eV w (y, nv)) (hin : InR lo hi nv.ownBlock) (hg : nv.ownBlock ≠ some g) (hd : ∀ p ∈ ps1 ++ (x, sv) :: ps2, Dis nv.ownBlock p.2.ownBlock)
    (hw : w' = (w.setCell ⟨g, ps1.length * 2, none⟩ (.int .i64 y.id)).setCell ⟨g, ps1.length * 2 + 1, none⟩ nv) : OwnRp eR eV w' lo hi (.slice (some ⟨g, 0, none⟩) N c) (ps1 ++ (y, nv) :: ps2) := by
  subst hN
  have keep : ∀ b, b ≠ g → w'.heap[b]? = w.heap[b]? := fun b hb => by
    rw [hw]
    exact (Below.heap_setCell _ ⟨g, ps1.length * 2 + 1, none⟩ nv b hb).trans (Below.heap_setCell w ⟨g, ps1.length * 2, none⟩ _ b hb)
  have hlen : (ps1 ++ (x, sv) :: ps2).length = (ps1 ++ (y, nv) :: ps2).length := by simp
  have h1 := (h.out.stored (ps1.length * 2) (.int .i64 y.id)).1
  have h2 := (h1.stored (ps1.length * 2 + 1) nv).1
  rw [set2_flat, ← hw] at h2
  have old : ∀ p ∈ ps1 ++ (x, sv) :: ps2, OwnV eV w' p := fun p hp => owns_same (h.inn p hp).1 fun b hb => keep b fun e => (h.inn p hp).2.2 g rfl (by rw [← e]; exact hb)
  have ap := h.apart
  rw [List.pairwise_append, List.pairwise_cons] at ap
  refine ⟨by rw [← hlen]; exact h2, h.outIn, fun p hp => ?_, ?_⟩
  · rcases List.mem_append.1 hp with h3 | h3
    · exact ⟨old p (List.mem_append_left _ h3), (h.inn p (List.mem_append_left _ h3)).2⟩
    · rcases List.mem_cons.1 h3 with h3 | h3
      · subst h3
        refine ⟨owns_same hn fun b hb => keep b fun e => hg (by rw [← e]; exact hb), hin, fun b hb he => ?_⟩
        have : b = g := by simpa [Value.ownBlock] using hb.symm
        exact hg (by rw [← this]; exact he)
      · exact ⟨old p (List.mem_append_right _ (List.mem_cons_of_mem _ h3)), (h.inn p (List.mem_append_right _ (List.mem_cons_of_mem _ h3))).2⟩
  · rw [List.pairwise_append, List.pairwise_cons]
    refine ⟨ap.1, ⟨fun q hq => hd q (by simp [hq]), ap.2.1.2⟩, fun p hp q hq => ?_⟩
    rcases List.mem_cons.1 hq with h3 | h3
    · subst h3
      exact (hd p (by simp [hp])).symm
    · exact ap.2.2 p hp q (List.mem_cons_of_mem _ h3)
end
end Go.Lb
namespace Go.Proofs.Ytgjjkodlmhmjgaa
open Go.Sort Go.ChangeShapes Go.WideShapes Go.ChangeAt Go.RowKit Go.Lb

def writeOk (c : C) (i : Int) : Bool := decide (0 ≤ i) && (decide (i < c.next) && (match c.l[i.toNat]? with | some y => y.id == 0 | none => false))
def wrote (c : C) (i : Int) (l : List V) : C := if writeOk c i then ⟨c.next, c.l.set i.toNat ⟨-1, l⟩⟩ else c
theorem wrote_no {c : C} {i : Int} {l : List V} (h : writeOk c i = false) : wrote c i l = c := by simp [wrote, h]
theorem wrote_yes {c : C} {i : Int} {l : List V} (h : writeOk c i = true) : wrote c i l = ⟨c.next, c.l.set i.toNat ⟨-1, l⟩⟩ := by simp [wrote, h]
theorem lens_set {l : List R} {k : Nat} {y z : R} (h : l[k]? = some y) : lensR (l.set k z) ≤ lensR l + z.l.length := by
  have hk := (List.getElem?_eq_some_iff.1 h).1
  have hd : l = l.take k ++ (y :: l.drop (k + 1)) := by rw [← drop_of_get h, List.take_append_drop]
  rw [List.set_eq_take_append_cons_drop, if_pos hk]
  have h1 := congrArg lensR hd
  simp only [lensR, List.map_append, List.map_cons, List.sum_append, List.sum_cons] at *
  omega
theorem wrote_bd (c : C) (i : Int) (l : List V) : cntR (wrote c i l).l ≤ cntR c.l + 3 * l.length := by
  cases h : writeOk c i
  · rw [wrote_no h]; omega
  · rw [wrote_yes h, cntR_eq, cntR_eq, List.length_set]
    unfold writeOk at h
    cases hy : c.l[i.toNat]? with
    | none => rw [hy] at h; simp at h
    | some y =>
      have h5 : lensR (c.l.set i.toNat ⟨-1, l⟩) ≤ lensR c.l + l.length := lens_set (z := ⟨-1, l⟩) hy
      show c.l.length + 3 * lensR (c.l.set i.toNat ⟨-1, l⟩) ≤ c.l.length + 3 * lensR c.l + 3 * l.length
      omega
theorem map_set_fst {ps : List (R × Value)} {l : List R} {j : Nat} {p q : R × Value} (h : ps.map Prod.fst = l) (hj : ps[j]? = some p) : (ps.take j ++ q :: ps.drop (j + 1)).map Prod.fst = l.set j q.1 := by
  subst h
  have hl : j < ps.length := (List.getElem?_eq_some_iff.1 hj).1
  rw [List.map_append, List.map_cons, List.map_take, List.map_drop, List.set_eq_take_append_cons_drop, if_pos (by simpa using hl)]
theorem impl_hasSlot (c : C) (sv : Value) (i : Int) (w : World) (hsv : ∃ A k, sv = .slice A c.l.length k) :
    Calls Try.prog 107 #[.agg #[.int .i64 c.next, sv], .int .i64 i] w fun e w' => e = .returned (.bool (decide (0 ≤ i) && decide (i < (c.l.length : Int)))) ∧ Below w.heap.size w w' := by
  obtain ⟨A, k, rfl⟩ := hsv
  by_cases h0 : 0 ≤ i
  · have hd := decide_eq_true h0
    have H := Lib.hid (show (decide (0 ≤ i) && decide (i < (c.l.length : Int))) = decide (i < (c.l.length : Int)) by rw [hd]; rfl)
    clear h0
    go_enter Try.func107, Try.ntmps107
    go_wp2_with fail
    go_ret
    exact ⟨ret_bool H.out.symm, up_a1 w _⟩
  · have hd := decide_eq_false h0
    have H := Lib.hid (show (decide (0 ≤ i) && decide (i < (c.l.length : Int))) = false by rw [hd]; rfl)
    clear h0
    go_enter Try.func107, Try.ntmps107
    go_wp2_with fail
    go_ret
    exact ⟨ret_bool H.out.symm, up_a1 w _⟩
theorem cell_set46 {w : World} {b o b' o' : Nat} {x : Option Value} {u : Value} (hne : b ≠ b') (h : w.cell? ⟨b, o, none⟩ = x) : (w.setCell ⟨b', o', none⟩ u).cell? ⟨b, o, none⟩ = x := (World.cell?_of_block (a := ⟨b, o, none⟩) (Below.heap_setCell w ⟨b', o', none⟩ u b hne)).trans h
set_option maxRecDepth 20000 in
set_option maxHeartbeats 4000000 in
theorem spec_Write (c : C) (sv : Value) (i : Int) (l : List V) (x : Value) (w : World) {l1 h1 l2 h2 : Nat} (hc : RdR w l1 h1 sv c.l) (hh1 : h1 ≤ w.heap.size) (hx : RdV w l2 h2 x l) (hh2 : h2 ≤ w.heap.size) (hn : c.l.length ≤ 1048576 ∧ lensR c.l ≤ 1048576) (hn2 : l.length ≤ 1048576) :
    Calls Try.prog 42 #[.agg #[.int .i64 c.next, sv], .int .i64 i, x] w fun e w' => ∃ v, e = .returned (.tuple #[.agg #[.int .i64 (wrote c i l).next, v], .bool (writeOk c i)]) ∧ OwnR 128 39 w' w.heap.size w'.heap.size v (wrote c i l).l ∧ Below w.heap.size w w' := by
  obtain ⟨Ac, cc, rfl, hcl, hcl2⟩ := hc.form
  obtain ⟨Ax, cx, rfl, hxl, hxl2⟩ := hx.form
  obtain ⟨i1, hif1, hy0, hy1, hy2⟩ := info_parts info_val
  have hif1 := Lib.hid hif1
  have hy0 := Lib.hid hy0
  have hy1 := Lib.hid hy1
  have hy2 := Lib.hid hy2
  have hup := up_a2 w (.cells #[.int .i64 c.next, .slice Ac c.l.length cc] 60) (.cells #[.int .i64 0, .slice none 0 0] 60)
  have hs : ((w.alloc (.cells #[.int .i64 c.next, .slice Ac c.l.length cc] 60)).alloc (.cells #[.int .i64 0, .slice none 0 0] 60)).heap.size = w.heap.size + 1 + 1 := by simp
  have HC := Lib.hid (alloc_old29 (o := (.cells #[.int .i64 0, .slice none 0 0] 60)) (heap_alloc_new w (.cells #[.int .i64 c.next, .slice Ac c.l.length cc] 60)))
  have HR := Lib.hid (heap_new29 (w := w.alloc (.cells #[.int .i64 c.next, .slice Ac c.l.length cc] 60)) (o := (.cells #[.int .i64 0, .slice none 0 0] 60)) (n := w.heap.size + 1) (by simp))
  go_enter Try.func42, Try.ntmps42
  go_wp2_with fail
  generalize ((w.alloc (.cells #[.int .i64 c.next, .slice Ac c.l.length cc] 60)).alloc (.cells #[.int .i64 0, .slice none 0 0] 60)) = W0 at *
  refine (spec_l15Copy c (.slice Ac c.l.length cc) W0 (hc.below hup hh1) (by omega) hn).mono ?_
  rintro e w1 ⟨v, rfl, ⟨ps, hps, hp⟩, hb1⟩
  have hpn : ps.length = c.l.length := by rw [← hps, List.length_map]
  have ho := hp.own
  rw [hpn] at ho
  obtain ⟨Av, cv, rfl, -, -, -⟩ := ho.cells
  rw [hs] at hp hb1
  have z1 := hb1.size
  have up2 := up_a1 w1 (.cells #[.int .i64 c.next, .slice Av c.l.length cv] 60)
  have HO0 := heap_alloc_new w1 (.cells #[.int .i64 c.next, .slice Av c.l.length cv] 60)
  have hs2 : (w1.alloc (.cells #[.int .i64 c.next, .slice Av c.l.length cv] 60)).heap.size = w1.heap.size + 1 := by simp
  have hcW := ((hc.below hup hh1).below hb1 (by omega)).below up2 (by omega)
  have hxW := ((hx.below hup hh2).below hb1 (by omega)).below up2 (by omega)
  have HC := Lib.hid ((up2.block _ (by omega)).trans ((hb1.block _ (by omega)).trans HC.out))
  have HR := Lib.hid ((up2.block _ (by omega)).trans ((hb1.block _ (by omega)).trans HR.out))
  have hp2 := hp.imp (w' := w1.alloc (.cells #[.int .i64 c.next, .slice Av c.l.length cv] 60)) (fun b h1 h2 => up2.block b h2) (Nat.le_refl _) up2.size
  have hbW := hup.trans (hb1.mono (by omega)) |>.trans (up2.mono (by omega))
  have c0 := cell_of_row _ _ 0 _ _ _ HC.out
  have c1 := cell_of_row _ _ 1 _ _ _ HC.out
  have r0 := cell_of_row _ _ 0 _ _ _ HR.out
  have r1 := cell_of_row _ _ 1 _ _ _ HR.out
  have p0 := cell_of_row _ _ 0 _ _ _ HO0
  have p1 := cell_of_row _ _ 1 _ _ _ HO0
  simp only [List.getElem?_toArray, List.getElem?_cons_zero, List.getElem?_cons_succ] at c0 c1 r0 r1 p0 p1
  have f0 := fun o => frozen_of_row _ _ o _ _ HR.out
  have hO2 : w1.heap.size < (w1.alloc (.cells #[.int .i64 c.next, .slice Av c.l.length cv] 60)).heap.size := by omega
  have hin1 := Lib.hid hp.outIn
  clear HO0 hc hx ho hp
  have HO := Lib.hid (show OwnR 128 39 (w1.alloc (.cells #[.int .i64 c.next, .slice Av c.l.length cv] 60)) (w.heap.size + 1 + 1) (w1.alloc (.cells #[.int .i64 c.next, .slice Av c.l.length cv] 60)).heap.size (.slice Av c.l.length cv) c.l from ⟨ps, hps, hp2⟩)
  by_cases h0 : i < 0
  · have hd0 := decide_eq_true h0
    have H := Lib.hid (show writeOk c i = false by unfold writeOk; rw [decide_eq_false (by omega)]; rfl)
    go_wp2_with fail
    refine bodyPost_ret (v := .tuple #[.agg #[.int .i64 c.next, .slice Av c.l.length cv], .bool false]) ?_ rfl ⟨.slice Av c.l.length cv, by rw [wrote_no H.out, H.out], ?_, ?_⟩
    · simp [results, Try.results42, go_sem, r0, r1]
    · rw [wrote_no H.out]
      refine OwnR.more (lo := w.heap.size + 1 + 1) (hi := (w1.alloc (.cells #[.int .i64 c.next, .slice Av c.l.length cv] 60)).heap.size) ?_ (by omega) (Nat.le_of_eq (by simp [World.setCell]))
      iterate 2 refine OwnR.set ?_ (by omega) _
      exact HO.out
    · iterate 2 refine below_set29 ?_ (by omega)
      exact hbW
  have hd0 := decide_eq_false h0
  by_cases h1 : c.next ≤ i
  · have hd1 := decide_eq_true h1
    have H := Lib.hid (show writeOk c i = false by unfold writeOk; rw [decide_eq_false (show ¬ i < c.next by omega)]; simp)
    go_wp2_with fail
    refine bodyPost_ret (v := .tuple #[.agg #[.int .i64 c.next, .slice Av c.l.length cv], .bool false]) ?_ rfl ⟨.slice Av c.l.length cv, by rw [wrote_no H.out, H.out], ?_, ?_⟩
    · simp [results, Try.results42, go_sem, r0, r1]
    · rw [wrote_no H.out]
      refine OwnR.more (lo := w.heap.size + 1 + 1) (hi := (w1.alloc (.cells #[.int .i64 c.next, .slice Av c.l.length cv] 60)).heap.size) ?_ (by omega) (Nat.le_of_eq (by simp [World.setCell]))
      iterate 2 refine OwnR.set ?_ (by omega) _
      exact HO.out
    · iterate 2 refine below_set29 ?_ (by omega)
      exact hbW
  have hd1 := decide_eq_false h1
  by_cases h2 : (c.l.length : Int) ≤ i
  · have hd2 := decide_eq_true h2
    have H := Lib.hid (show writeOk c i = false by unfold writeOk; rw [List.getElem?_eq_none (by omega)]; simp)
    go_wp2_with fail
    refine bodyPost_ret (v := .tuple #[.agg #[.int .i64 c.next, .slice Av c.l.length cv], .bool false]) ?_ rfl ⟨.slice Av c.l.length cv, by rw [wrote_no H.out, H.out], ?_, ?_⟩
    · simp [results, Try.results42, go_sem, r0, r1]
    · rw [wrote_no H.out]
      refine OwnR.more (lo := w.heap.size + 1 + 1) (hi := (w1.alloc (.cells #[.int .i64 c.next, .slice Av c.l.length cv] 60)).heap.size) ?_ (by omega) (Nat.le_of_eq (by simp [World.setCell]))
      iterate 2 refine OwnR.set ?_ (by omega) _
      exact HO.out
    · iterate 2 refine below_set29 ?_ (by omega)
      exact hbW
  have hd2 := decide_eq_false h2
  obtain ⟨j, rfl⟩ : ∃ j : Nat, i = (j : Int) := ⟨i.toNat, by omega⟩
  have hjlt : j < c.l.length := by omega
  obtain ⟨b, off, y, sy, rfl, -, hbl, hyk, e0, -, -⟩ := hcW.at hjlt
  by_cases h3 : y.id = 0
  rotate_left
  · have hd3 : (y.id != 0) = true := by simp [h3]
    have H := Lib.hid (show writeOk c j = false by unfold writeOk; rw [Int.toNat_natCast, hyk]; simp [h3])
    clear h3
    go_wp2_with fail
    refine bodyPost_ret (v := .tuple #[.agg #[.int .i64 c.next, .slice Av c.l.length cv], .bool false]) ?_ rfl ⟨.slice Av c.l.length cv, by rw [wrote_no H.out, H.out], ?_, ?_⟩
    · simp [results, Try.results42, go_sem, r0, r1]
    · rw [wrote_no H.out]
      refine OwnR.more (lo := w.heap.size + 1 + 1) (hi := (w1.alloc (.cells #[.int .i64 c.next, .slice Av c.l.length cv] 60)).heap.size) ?_ (by omega) (Nat.le_of_eq (by simp [World.setCell]))
      iterate 2 refine OwnR.set ?_ (by omega) _
      exact HO.out
    · iterate 2 refine below_set29 ?_ (by omega)
      exact hbW
  · have hd3 : (y.id != 0) = false := by simp [h3]
    have H := Lib.hid (show writeOk c j = true by unfold writeOk; rw [Int.toNat_natCast, hyk, decide_eq_true (show (0 : Int) ≤ j by omega), decide_eq_true (show (j : Int) < c.next by omega)]; simp [h3])
    clear h3 hyk
    obtain ⟨g, rfl⟩ : ∃ g, Av = some ⟨g, 0, none⟩ := by
      rcases hp2.out.2 with ⟨h', h0⟩ | ⟨g, cap, cur, h', _⟩
      · omega
      · injection h' with h1 h2 h3
        exact ⟨g, h1⟩
    obtain ⟨p, hpj⟩ : ∃ p, ps[j]? = some p := ⟨_, List.getElem?_eq_getElem (by omega)⟩
    have hjl : (ps.take j).length = j := by rw [List.length_take]; omega
    have hpA := Lib.hid (show OwnRp 128 39 (w1.alloc (.cells #[.int .i64 c.next, .slice (some ⟨g, 0, none⟩) c.l.length cv] 60)) (w.heap.size + 1 + 1) (w1.alloc (.cells #[.int .i64 c.next, .slice (some ⟨g, 0, none⟩) c.l.length cv] 60)).heap.size (.slice (some ⟨g, 0, none⟩) c.l.length cv) (ps.take j ++ (p.1, p.2) :: ps.drop (j + 1)) by
      rw [← drop_of_get hpj, List.take_append_drop]; exact hp2)
    go_wp2_with fail
    generalize (w1.alloc (.cells #[.int .i64 c.next, .slice (some ⟨g, 0, none⟩) c.l.length cv] 60)) = W2 at *
    have hs2' : w1.heap.size + 1 ≤ W2.heap.size := by omega
    clear hs2
    have hO : w1.heap.size < W2.heap.size := hO2
    have hN := Lib.hid ((hxW.below ((up_a1 W2 (.cells #[] 39)).drew) (by omega)).news)
    have own0 := owns_drew (World.ownsRow_made W2 (base := W2.heap.size) (e := 39) (size := 3) #[] 0 (Nat.le_refl _) (by decide) rfl)
    have hS : (fun w' : World => (w'.cell? ⟨w1.heap.size, 1, none⟩ = some (.slice (some ⟨g, 0, none⟩) c.l.length cv))) W2.drew := p1
    refine wp_region_T (S := fun w' => (w'.cell? ⟨w1.heap.size, 1, none⟩ = some (.slice (some ⟨g, 0, none⟩) c.l.length cv))) (n := 8) (by kernel_rfl) ?_
    refine wpAnyT_take (i := 0) (oi := _) (v := ?_) rfl (by kernel_rfl) (by kernel_rfl) (by kernel_rfl) (by kernel_rfl) (fun _ _ _ h => h) (Or.inl ⟨by rfl, ?_⟩) hS ?_
    rotate_left
    · (intro w' hSw; (try dsimp only at hSw); go_simp) <;> with_reducible rfl
    simp only [Act.put, List.setIfInBounds_toArray, List.set_cons_zero, List.set_cons_succ]
    refine wpAnyT_take (i := 1) (oi := _) (v := ?_) rfl (by kernel_rfl) (by kernel_rfl) (by kernel_rfl) (by kernel_rfl) (fun _ _ _ h => h) (Or.inl ⟨by rfl, ?_⟩) hS ?_
    rotate_left
    · (intro w' hSw; (try dsimp only at hSw); go_simp) <;> with_reducible rfl
    simp only [Act.put, List.setIfInBounds_toArray, List.set_cons_zero, List.set_cons_succ]
    refine wpAnyT_take (i := 2) (oi := _) (v := ?_) rfl (by kernel_rfl) (by kernel_rfl) (by kernel_rfl) (by kernel_rfl) (fun _ _ _ h => h) (Or.inl ⟨by rfl, ?_⟩) hS ?_
    rotate_left
    · (intro w' hSw; (try dsimp only at hSw); go_simp) <;> with_reducible rfl
    simp only [Act.put, List.setIfInBounds_toArray, List.set_cons_zero, List.set_cons_succ]
    refine wpAnyT_take (i := 4) (oi := _) (v := ?_) rfl (by kernel_rfl) (by kernel_rfl) (by kernel_rfl) (by kernel_rfl) (fun _ _ _ h => h) (Or.inl ⟨by rfl, ?_⟩) hS ?_
    rotate_left
    · (intro w' hSw; (try dsimp only at hSw); go_simp) <;> with_reducible rfl
    simp only [Act.put, List.setIfInBounds_toArray, List.set_cons_zero, List.set_cons_succ]
    refine wpAnyT_one (k := 3) (o := _) (by kernel_rfl) rfl rfl ?_
    intro K hK
    go_simp
    refine hK.out _ _ (fun _ => (cell_drew29 (cell_keep p1 (up_a1 _ _)) : ((W2.alloc (.cells #[] 39)).drew.cell? ⟨w1.heap.size, 1, none⟩ = some (.slice (some ⟨g, 0, none⟩) c.l.length cv)))) ?_
    clear hK
    refine wpAnyT_one (k := 5) (o := _) (by kernel_rfl) rfl rfl ?_
    intro K hK
    refine step_spread rfl _ _ 49 rfl W2.heap.size 39 i1 _ 3 32 Try.underlying49 hif1.out hy0.out hy1.out hy2.out rfl (by decide) (by decide) own0 rfl rfl (flat_len V.cells 3 V.cells_len l) hN.out.2.1 hN.out.2.2 (one_cells l) (by omega) (by simp [World.drew]) ?_
    intro v3 w3 hown3 hgrow3 hnb3
    simp only [Nat.zero_add, List.nil_append] at hown3
    obtain ⟨A3, c3, rfl, -, -, -⟩ := (Own.new hown3).cells
    have hb3 : Below W2.heap.size W2 w3 := Below.grown (((Below.refl W2.heap.size W2).alloc (Nat.le_refl _) (.cells #[] 39)).drew) hgrow3 (fun g hg => by simp [Value.ownBlock] at hg; omega) (Nat.le_refl _)
    have Hown3 := Lib.hid (Own.new hown3)
    clear hown3 hgrow3 hnb3
    have p1n := (hb3.cell (p := ⟨w1.heap.size, 1, none⟩) hO).trans p1
    refine hK.out _ _ (fun _ => (p1n : (w3.cell? ⟨w1.heap.size, 1, none⟩ = some (.slice (some ⟨g, 0, none⟩) c.l.length cv)))) ?_
    clear hK
    simp only [Act.put, List.setIfInBounds_toArray, List.set_cons_zero, List.set_cons_succ]
    refine wpAnyT_one (k := 6) (o := _) (by kernel_rfl) rfl rfl ?_
    intro K hK
    go_simp
    refine hK.out _ _ (fun _ => (p1n : (w3.cell? ⟨w1.heap.size, 1, none⟩ = some (.slice (some ⟨g, 0, none⟩) c.l.length cv)))) ?_
    clear hK
    have hp3 := hpA.out.imp (w' := w3) (fun b h1 h2 => hb3.block b h2) (Nat.le_refl _) hb3.size
    have hat := hp3.at
    obtain ⟨u0, u1, uf⟩ := hat
    rw [hjl] at u0 u1
    have Hp3 := Lib.hid hp3
    clear hp3
    refine wpAnyT_one (k := 7) (o := _) (by kernel_rfl) rfl rfl ?_
    intro K hK
    go_simp
    refine hK.out _ _ (fun _ => (p1n : (w3.cell? ⟨w1.heap.size, 1, none⟩ = some (.slice (some ⟨g, 0, none⟩) c.l.length cv)))) ?_
    clear hK
    refine wpAnyT_one (k := 8) (o := _) (by kernel_rfl) rfl rfl ?_
    intro K hK
    go_simp
    refine hK.out _ _ (fun h => absurd rfl h) ?_
    clear hK
    refine wpAnyT_done (by kernel_rfl) ?_ _
    have z3 := hb3.size
    have hgl := Hp3.out.outIn g rfl
    have hg2 : g < w1.heap.size := (hin1.out g rfl).2
    have hset := Hp3.out.setRow (y := ⟨-1, l⟩) (nv := .slice A3 l.length c3) (by rw [← hpn]; simp; omega) (owns_zero Hown3.out.1) (fun b hb => ⟨by have := (Hown3.out.1.lt b hb).1; omega, Hown3.out.2 b hb⟩) (fun e => by have := (Hown3.out.1.lt g e).1; omega) (fun p hp b hb he => by
      have h1 := (Hown3.out.1.lt b hb).1
      have h2 := (hpA.out.inn p hp).2.1 b he
      omega) rfl
    rw [hjl] at hset
    have hmap := map_set_fst (q := (⟨-1, l⟩, .slice A3 l.length c3)) hps hpj
    have m0 := cell_set46 (b' := g) (o' := j * 2 + 1) (u := .slice A3 l.length c3) (show w1.heap.size ≠ g by omega) (cell_set46 (b' := g) (o' := j * 2) (u := .int .i64 (-1)) (show w1.heap.size ≠ g by omega) ((hb3.cell (p := ⟨w1.heap.size, 0, none⟩) hO).trans p0))
    have m1 := cell_set46 (b' := g) (o' := j * 2 + 1) (u := .slice A3 l.length c3) (show w1.heap.size ≠ g by omega) (cell_set46 (b' := g) (o' := j * 2) (u := .int .i64 (-1)) (show w1.heap.size ≠ g by omega) p1n)
    have hR4 := (set_keep29 (b := g) (o := j * 2 + 1) (u := .slice A3 l.length c3) (show w.heap.size + 1 ≠ g by omega)).trans ((set_keep29 (w := w3) (b := g) (o := j * 2) (u := .int .i64 (-1)) (show w.heap.size + 1 ≠ g by omega)).trans ((hb3.block _ (by omega)).trans HR.out))
    have hb4 := below_set29 (b := g) (o := j * 2 + 1) (u := .slice A3 l.length c3) (below_set29 (b := g) (o := j * 2) (u := .int .i64 (-1)) (hbW.trans (hb3.mono hbW.size)) (by omega)) (show w.heap.size ≤ g by omega)
    generalize hw4 : (w3.setCell ⟨g, j * 2, none⟩ (.int .i64 (-1))).setCell ⟨g, j * 2 + 1, none⟩ (.slice A3 l.length c3) = w4 at *
    clear r0 r1 f0 u0 u1 uf p0 p1 p1n hS
    have r0 := cell_of_row w4 _ 0 _ _ _ hR4
    have r1 := cell_of_row w4 _ 1 _ _ _ hR4
    simp only [List.getElem?_toArray, List.getElem?_cons_zero, List.getElem?_cons_succ] at r0 r1
    have f0 := fun o => frozen_of_row w4 _ o _ _ hR4
    have Hset := Lib.hid hset
    have Hmap := Lib.hid hmap
    clear hset hmap hR4
    go_wp2_with fail
    refine bodyPost_ret (v := .tuple #[.agg #[.int .i64 c.next, .slice (some ⟨g, 0, none⟩) c.l.length cv], .bool true]) ?_ rfl ⟨.slice (some ⟨g, 0, none⟩) c.l.length cv, by rw [wrote_yes H.out, H.out], ?_, ?_⟩
    · simp [results, Try.results42, go_sem, r0, r1]
    · rw [wrote_yes H.out]
      refine OwnR.more (lo := w.heap.size + 1 + 1) (hi := w3.heap.size) ?_ (by omega) (Nat.le_of_eq (by rw [← hw4]; simp [World.setCell]))
      iterate 2 refine OwnR.set ?_ (by omega) _
      exact ⟨_, Hmap.out, Hset.out⟩
    · iterate 2 refine below_set29 ?_ (by omega)
      exact hb4
set_option maxRecDepth 20000 in
set_option maxHeartbeats 4000000 in
theorem impl_Write (c : C) (sv : Value) (i : Int) (l : List V) (x : Value) (w : World) {l1 h1 l2 h2 : Nat} (hc : RdR w l1 h1 sv c.l) (hh1 : h1 ≤ w.heap.size) (hx : RdV w l2 h2 x l) (hh2 : h2 ≤ w.heap.size) (hn : c.l.length ≤ 1048576 ∧ lensR c.l ≤ 1048576) (hn2 : l.length ≤ 1048576) :
    Calls Try.prog 43 #[.agg #[.int .i64 c.next, sv], .int .i64 i, x] w fun e w' => ∃ v, e = .returned (.tuple #[.agg #[.int .i64 (wrote c i l).next, v], .bool (writeOk c i)]) ∧ OwnR 128 39 w' w.heap.size w'.heap.size v (wrote c i l).l ∧ Below w.heap.size w w' := by
  obtain ⟨Ac, cc, rfl, hcl, hcl2⟩ := hc.form
  obtain ⟨Ax, cx, rfl, hxl, hxl2⟩ := hx.form
  have hup := up_a2 w (.cells #[.int .i64 c.next, .slice Ac c.l.length cc] 60) (.cells #[.int .i64 0, .slice none 0 0] 60)
  have hs : ((w.alloc (.cells #[.int .i64 c.next, .slice Ac c.l.length cc] 60)).alloc (.cells #[.int .i64 0, .slice none 0 0] 60)).heap.size = w.heap.size + 1 + 1 := by simp
  have HC := Lib.hid (alloc_old29 (o := (.cells #[.int .i64 0, .slice none 0 0] 60)) (heap_alloc_new w (.cells #[.int .i64 c.next, .slice Ac c.l.length cc] 60)))
  have HR := Lib.hid (heap_new29 (w := w.alloc (.cells #[.int .i64 c.next, .slice Ac c.l.length cc] 60)) (o := (.cells #[.int .i64 0, .slice none 0 0] 60)) (n := w.heap.size + 1) (by simp))
  go_enter Try.func43, Try.ntmps43
  go_wp2_with fail
  generalize ((w.alloc (.cells #[.int .i64 c.next, .slice Ac c.l.length cc] 60)).alloc (.cells #[.int .i64 0, .slice none 0 0] 60)) = W0 at *
  refine (impl_cloneChunk c (.slice Ac c.l.length cc) W0 (hc.below hup hh1) (by omega) hn).mono ?_
  rintro e w1 ⟨v, rfl, ⟨ps, hps, hp⟩, hb1⟩
  have hpn : ps.length = c.l.length := by rw [← hps, List.length_map]
  have ho := hp.own
  rw [hpn] at ho
  obtain ⟨Av, cv, rfl, -, -, -⟩ := ho.cells
  rw [hs] at hp hb1
  have z1 := hb1.size
  have up2 := up_a1 w1 (.cells #[.int .i64 c.next, .slice Av c.l.length cv] 60)
  have HO0 := heap_alloc_new w1 (.cells #[.int .i64 c.next, .slice Av c.l.length cv] 60)
  have hs2 : (w1.alloc (.cells #[.int .i64 c.next, .slice Av c.l.length cv] 60)).heap.size = w1.heap.size + 1 := by simp
  have hcW := ((hc.below hup hh1).below hb1 (by omega)).below up2 (by omega)
  have hxW := ((hx.below hup hh2).below hb1 (by omega)).below up2 (by omega)
  have HC := Lib.hid ((up2.block _ (by omega)).trans ((hb1.block _ (by omega)).trans HC.out))
  have HR := Lib.hid ((up2.block _ (by omega)).trans ((hb1.block _ (by omega)).trans HR.out))
  have hp2 := hp.imp (w' := w1.alloc (.cells #[.int .i64 c.next, .slice Av c.l.length cv] 60)) (fun b h1 h2 => up2.block b h2) (Nat.le_refl _) up2.size
  have hbW := hup.trans (hb1.mono (by omega)) |>.trans (up2.mono (by omega))
  have c0 := cell_of_row _ _ 0 _ _ _ HC.out
  have c1 := cell_of_row _ _ 1 _ _ _ HC.out
  have r0 := cell_of_row _ _ 0 _ _ _ HR.out
  have r1 := cell_of_row _ _ 1 _ _ _ HR.out
  have p0 := cell_of_row _ _ 0 _ _ _ HO0
  have p1 := cell_of_row _ _ 1 _ _ _ HO0
  simp only [List.getElem?_toArray, List.getElem?_cons_zero, List.getElem?_cons_succ] at c0 c1 r0 r1 p0 p1
  have f0 := fun o => frozen_of_row _ _ o _ _ HR.out
  have hO2 : w1.heap.size < (w1.alloc (.cells #[.int .i64 c.next, .slice Av c.l.length cv] 60)).heap.size := by omega
  have hin1 := Lib.hid hp.outIn
  clear HO0 hc hx ho hp
  have hlen := IntWalk.i64_in
  go_wp2_with fail
  refine (impl_hasSlot c (.slice Ac c.l.length cc) i (w1.alloc (.cells #[.int .i64 c.next, .slice Av c.l.length cv] 60)) ⟨_, _, rfl⟩).mono ?_
  rintro e W2 ⟨rfl, hbs⟩
  replace HC := Lib.hid ((hbs.block _ (by omega)).trans HC.out)
  replace HR := Lib.hid ((hbs.block _ (by omega)).trans HR.out)
  have HOb := (hbs.block w1.heap.size (by omega)).trans (heap_alloc_new w1 (.cells #[.int .i64 c.next, .slice Av c.l.length cv] 60))
  replace hcW := hcW.below hbs (by omega)
  replace hxW := hxW.below hbs (by omega)
  replace hp2 := hp2.imp (w' := W2) (fun b h1 h2 => hbs.block b h2) (Nat.le_refl _) hbs.size
  replace hbW := hbW.trans (hbs.mono hbW.size)
  have hzs := hbs.size
  replace hO2 : w1.heap.size < W2.heap.size := by omega
  clear c0 c1 r0 r1 p0 p1 f0
  have c0 := cell_of_row _ _ 0 _ _ _ HC.out
  have c1 := cell_of_row _ _ 1 _ _ _ HC.out
  have r0 := cell_of_row _ _ 0 _ _ _ HR.out
  have r1 := cell_of_row _ _ 1 _ _ _ HR.out
  have p0 := cell_of_row _ _ 0 _ _ _ HOb
  have p1 := cell_of_row _ _ 1 _ _ _ HOb
  simp only [List.getElem?_toArray, List.getElem?_cons_zero, List.getElem?_cons_succ] at c0 c1 r0 r1 p0 p1
  have f0 := fun o => frozen_of_row _ _ o _ _ HR.out
  clear HOb hbs hlen
  have HO := Lib.hid (show OwnR 128 39 W2 (w.heap.size + 1 + 1) W2.heap.size (.slice Av c.l.length cv) c.l from ⟨ps, hps, hp2⟩)
  by_cases h0 : i < 0
  · rw [decide_eq_false (show ¬ 0 ≤ i by omega)]
    have H := Lib.hid (show writeOk c i = false by unfold writeOk; rw [decide_eq_false (by omega)]; rfl)
    go_wp2_with fail
    refine bodyPost_ret (v := .tuple #[.agg #[.int .i64 c.next, .slice Av c.l.length cv], .bool false]) ?_ rfl ⟨.slice Av c.l.length cv, by rw [wrote_no H.out, H.out], ?_, ?_⟩
    · simp [results, Try.results43, go_sem, r0, r1]
    · rw [wrote_no H.out]
      refine OwnR.more (lo := w.heap.size + 1 + 1) (hi := W2.heap.size) ?_ (by omega) (Nat.le_of_eq (by simp [World.setCell]))
      iterate 2 refine OwnR.set ?_ (by omega) _
      exact HO.out
    · iterate 2 refine below_set29 ?_ (by omega)
      exact hbW
  by_cases h2 : (c.l.length : Int) ≤ i
  · rw [decide_eq_true (show 0 ≤ i by omega), decide_eq_false (show ¬ i < (c.l.length : Int) by omega)]
    have H := Lib.hid (show writeOk c i = false by unfold writeOk; rw [List.getElem?_eq_none (by omega)]; simp)
    go_wp2_with fail
    refine bodyPost_ret (v := .tuple #[.agg #[.int .i64 c.next, .slice Av c.l.length cv], .bool false]) ?_ rfl ⟨.slice Av c.l.length cv, by rw [wrote_no H.out, H.out], ?_, ?_⟩
    · simp [results, Try.results43, go_sem, r0, r1]
    · rw [wrote_no H.out]
      refine OwnR.more (lo := w.heap.size + 1 + 1) (hi := W2.heap.size) ?_ (by omega) (Nat.le_of_eq (by simp [World.setCell]))
      iterate 2 refine OwnR.set ?_ (by omega) _
      exact HO.out
    · iterate 2 refine below_set29 ?_ (by omega)
      exact hbW
  rw [decide_eq_true (show 0 ≤ i by omega), decide_eq_true (show i < (c.l.length : Int) by omega)]
  by_cases h1 : c.next ≤ i
  · have hd1 := decide_eq_true h1
    have H := Lib.hid (show writeOk c i = false by unfold writeOk; rw [decide_eq_false (show ¬ i < c.next by omega)]; simp)
    go_wp2_with fail
    refine bodyPost_ret (v := .tuple #[.agg #[.int .i64 c.next, .slice Av c.l.length cv], .bool false]) ?_ rfl ⟨.slice Av c.l.length cv, by rw [wrote_no H.out, H.out], ?_, ?_⟩
    · simp [results, Try.results43, go_sem, r0, r1]
    · rw [wrote_no H.out]
      refine OwnR.more (lo := w.heap.size + 1 + 1) (hi := W2.heap.size) ?_ (by omega) (Nat.le_of_eq (by simp [World.setCell]))
      iterate 2 refine OwnR.set ?_ (by omega) _
      exact HO.out
    · iterate 2 refine below_set29 ?_ (by omega)
      exact hbW
  have hd1 := decide_eq_false h1
  obtain ⟨j, rfl⟩ : ∃ j : Nat, i = (j : Int) := ⟨i.toNat, by omega⟩
  have hjlt : j < c.l.length := by omega
  obtain ⟨b, off, y, sy, rfl, -, hbl, hyk, e0, -, -⟩ := hcW.at hjlt
  by_cases h3 : y.id = 0
  rotate_left
  · have hd3 : (y.id != 0) = true := by simp [h3]
    have H := Lib.hid (show writeOk c j = false by unfold writeOk; rw [Int.toNat_natCast, hyk]; simp [h3])
    clear h3
    go_wp2_with fail
    refine bodyPost_ret (v := .tuple #[.agg #[.int .i64 c.next, .slice Av c.l.length cv], .bool false]) ?_ rfl ⟨.slice Av c.l.length cv, by rw [wrote_no H.out, H.out], ?_, ?_⟩
    · simp [results, Try.results43, go_sem, r0, r1]
    · rw [wrote_no H.out]
      refine OwnR.more (lo := w.heap.size + 1 + 1) (hi := W2.heap.size) ?_ (by omega) (Nat.le_of_eq (by simp [World.setCell]))
      iterate 2 refine OwnR.set ?_ (by omega) _
      exact HO.out
    · iterate 2 refine below_set29 ?_ (by omega)
      exact hbW
  · have hd3 : (y.id != 0) = false := by simp [h3]
    have H := Lib.hid (show writeOk c j = true by unfold writeOk; rw [Int.toNat_natCast, hyk, decide_eq_true (show (0 : Int) ≤ j by omega), decide_eq_true (show (j : Int) < c.next by omega)]; simp [h3])
    clear h3 hyk
    obtain ⟨g, rfl⟩ : ∃ g, Av = some ⟨g, 0, none⟩ := by
      rcases hp2.out.2 with ⟨h', h0⟩ | ⟨g, cap, cur, h', _⟩
      · omega
      · injection h' with h1 h2 h3
        exact ⟨g, h1⟩
    obtain ⟨p, hpj⟩ : ∃ p, ps[j]? = some p := ⟨_, List.getElem?_eq_getElem (by omega)⟩
    have hjl : (ps.take j).length = j := by rw [List.length_take]; omega
    have hpA := Lib.hid (show OwnRp 128 39 W2 (w.heap.size + 1 + 1) W2.heap.size (.slice (some ⟨g, 0, none⟩) c.l.length cv) (ps.take j ++ (p.1, p.2) :: ps.drop (j + 1)) by
      rw [← drop_of_get hpj, List.take_append_drop]; exact hp2)
    go_wp2_with fail
    have hO : w1.heap.size < W2.heap.size := hO2
    have hC := Lib.hid (impl_cloneVals l (.slice Ax l.length cx) W2.drew (hxW.below (Below.refl _ _).drew (Nat.le_refl _) |>.more (Nat.le_refl _) (Nat.le_refl _)) (by show _ ≤ W2.heap.size; omega) (by omega))
    have hS : (fun w' : World => (w'.cell? ⟨w1.heap.size, 1, none⟩ = some (.slice (some ⟨g, 0, none⟩) c.l.length cv))) W2.drew := p1
    refine wp_region_T (S := fun w' => (w'.cell? ⟨w1.heap.size, 1, none⟩ = some (.slice (some ⟨g, 0, none⟩) c.l.length cv))) (n := 7) (by kernel_rfl) ?_
    refine wpAnyT_take (i := 0) (oi := _) (v := ?_) rfl (by kernel_rfl) (by kernel_rfl) (by kernel_rfl) (by kernel_rfl) (fun _ _ _ h => h) (Or.inl ⟨by rfl, ?_⟩) hS ?_
    rotate_left
    · (intro w' hSw; (try dsimp only at hSw); go_simp) <;> with_reducible rfl
    simp only [Act.put, List.setIfInBounds_toArray, List.set_cons_zero, List.set_cons_succ]
    refine wpAnyT_take (i := 1) (oi := _) (v := ?_) rfl (by kernel_rfl) (by kernel_rfl) (by kernel_rfl) (by kernel_rfl) (fun _ _ _ h => h) (Or.inl ⟨by rfl, ?_⟩) hS ?_
    rotate_left
    · (intro w' hSw; (try dsimp only at hSw); go_simp) <;> with_reducible rfl
    simp only [Act.put, List.setIfInBounds_toArray, List.set_cons_zero, List.set_cons_succ]
    refine wpAnyT_take (i := 2) (oi := _) (v := ?_) rfl (by kernel_rfl) (by kernel_rfl) (by kernel_rfl) (by kernel_rfl) (fun _ _ _ h => h) (Or.inl ⟨by rfl, ?_⟩) hS ?_
    rotate_left
    · (intro w' hSw; (try dsimp only at hSw); go_simp) <;> with_reducible rfl
    simp only [Act.put, List.setIfInBounds_toArray, List.set_cons_zero, List.set_cons_succ]
    refine wpAnyT_take (i := 3) (oi := _) (v := ?_) rfl (by kernel_rfl) (by kernel_rfl) (by kernel_rfl) (by kernel_rfl) (fun _ _ _ h => h) (Or.inl ⟨by rfl, ?_⟩) hS ?_
    rotate_left
    · (intro w' hSw; (try dsimp only at hSw); go_simp) <;> with_reducible rfl
    simp only [Act.put, List.setIfInBounds_toArray, List.set_cons_zero, List.set_cons_succ]
    refine wpAnyT_one (k := 4) (o := _) (by kernel_rfl) rfl rfl ?_
    intro K hK
    go_simp
    refine hC.out.mono ?_
    rintro e w3 ⟨v3, rfl, hown3, hb3⟩
    replace hb3 : Below W2.heap.size W2 w3 := Below.undrew hb3
    replace hown3 : Own 39 3 w3 W2.heap.size w3.heap.size v3 l.length (l.flatMap V.cells) := hown3
    obtain ⟨A3, c3, rfl, -, -, -⟩ := hown3.cells
    have Hown3 := Lib.hid hown3
    clear hown3
    have p1n := (hb3.cell (p := ⟨w1.heap.size, 1, none⟩) hO).trans p1
    refine hK.out _ _ (fun _ => (p1n : (w3.cell? ⟨w1.heap.size, 1, none⟩ = some (.slice (some ⟨g, 0, none⟩) c.l.length cv)))) ?_
    clear hK
    refine wpAnyT_one (k := 5) (o := _) (by kernel_rfl) rfl rfl ?_
    intro K hK
    go_simp
    refine hK.out _ _ (fun _ => (p1n : (w3.cell? ⟨w1.heap.size, 1, none⟩ = some (.slice (some ⟨g, 0, none⟩) c.l.length cv)))) ?_
    clear hK
    have hp3 := hpA.out.imp (w' := w3) (fun b h1 h2 => hb3.block b h2) (Nat.le_refl _) hb3.size
    have hat := hp3.at
    obtain ⟨u0, u1, uf⟩ := hat
    rw [hjl] at u0 u1
    have Hp3 := Lib.hid hp3
    clear hp3
    refine wpAnyT_one (k := 6) (o := _) (by kernel_rfl) rfl rfl ?_
    intro K hK
    go_simp
    refine hK.out _ _ (fun _ => (p1n : (w3.cell? ⟨w1.heap.size, 1, none⟩ = some (.slice (some ⟨g, 0, none⟩) c.l.length cv)))) ?_
    clear hK
    refine wpAnyT_one (k := 7) (o := _) (by kernel_rfl) rfl rfl ?_
    intro K hK
    go_simp
    refine hK.out _ _ (fun h => absurd rfl h) ?_
    clear hK
    refine wpAnyT_done (by kernel_rfl) ?_ _
    have z3 := hb3.size
    have hgl := Hp3.out.outIn g rfl
    have hg2 : g < w1.heap.size := (hin1.out g rfl).2
    have hset := Hp3.out.setRow (y := ⟨-1, l⟩) (nv := .slice A3 l.length c3) (by rw [← hpn]; simp; omega) (owns_zero Hown3.out.1) (fun b hb => ⟨by have := (Hown3.out.1.lt b hb).1; omega, Hown3.out.2 b hb⟩) (fun e => by have := (Hown3.out.1.lt g e).1; omega) (fun p hp b hb he => by
      have h1 := (Hown3.out.1.lt b hb).1
      have h2 := (hpA.out.inn p hp).2.1 b he
      omega) rfl
    rw [hjl] at hset
    have hmap := map_set_fst (q := (⟨-1, l⟩, .slice A3 l.length c3)) hps hpj
    have m0 := cell_set46 (b' := g) (o' := j * 2 + 1) (u := .slice A3 l.length c3) (show w1.heap.size ≠ g by omega) (cell_set46 (b' := g) (o' := j * 2) (u := .int .i64 (-1)) (show w1.heap.size ≠ g by omega) ((hb3.cell (p := ⟨w1.heap.size, 0, none⟩) hO).trans p0))
    have m1 := cell_set46 (b' := g) (o' := j * 2 + 1) (u := .slice A3 l.length c3) (show w1.heap.size ≠ g by omega) (cell_set46 (b' := g) (o' := j * 2) (u := .int .i64 (-1)) (show w1.heap.size ≠ g by omega) p1n)
    have hR4 := (set_keep29 (b := g) (o := j * 2 + 1) (u := .slice A3 l.length c3) (show w.heap.size + 1 ≠ g by omega)).trans ((set_keep29 (w := w3) (b := g) (o := j * 2) (u := .int .i64 (-1)) (show w.heap.size + 1 ≠ g by omega)).trans ((hb3.block _ (by omega)).trans HR.out))
    have hb4 := below_set29 (b := g) (o := j * 2 + 1) (u := .slice A3 l.length c3) (below_set29 (b := g) (o := j * 2) (u := .int .i64 (-1)) (hbW.trans (hb3.mono hbW.size)) (by omega)) (show w.heap.size ≤ g by omega)
    generalize hw4 : (w3.setCell ⟨g, j * 2, none⟩ (.int .i64 (-1))).setCell ⟨g, j * 2 + 1, none⟩ (.slice A3 l.length c3) = w4 at *
    clear r0 r1 f0 u0 u1 uf p0 p1 p1n hS
    have r0 := cell_of_row w4 _ 0 _ _ _ hR4
    have r1 := cell_of_row w4 _ 1 _ _ _ hR4
    simp only [List.getElem?_toArray, List.getElem?_cons_zero, List.getElem?_cons_succ] at r0 r1
    have f0 := fun o => frozen_of_row w4 _ o _ _ hR4
    have Hset := Lib.hid hset
    have Hmap := Lib.hid hmap
    clear hset hmap hR4
    go_wp2_with fail
    refine bodyPost_ret (v := .tuple #[.agg #[.int .i64 c.next, .slice (some ⟨g, 0, none⟩) c.l.length cv], .bool true]) ?_ rfl ⟨.slice (some ⟨g, 0, none⟩) c.l.length cv, by rw [wrote_yes H.out, H.out], ?_, ?_⟩
    · simp [results, Try.results43, go_sem, r0, r1]
    · rw [wrote_yes H.out]
      refine OwnR.more (lo := w.heap.size + 1 + 1) (hi := w3.heap.size) ?_ (by omega) (Nat.le_of_eq (by rw [← hw4]; simp [World.setCell]))
      iterate 2 refine OwnR.set ?_ (by omega) _
      exact ⟨_, Hmap.out, Hset.out⟩
    · iterate 2 refine below_set29 ?_ (by omega)
      exact hb4
end Go.Proofs.Ytgjjkodlmhmjgaa
