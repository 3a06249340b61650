/- A block that is not among the blocks of a list of rows. No conditions; nothing here speaks of the program. -/
import Derived.Test.YtidmlfjolhnnfaaGreatDoorXA
import Derived.Test.YtidmlfjolhnnfaaGreatDoorS27
import Derived.Test.YtidmlfjolhnnfaaGreatDoorRT
import Derived.Deep.RegionHeld3
namespace Go.Lb
open Go.RowKit
section
variable {eR eV : TypeId} {w w' : World} {lo hi X : Nat} {v : Value} {ps : List (R × Value)}
/-- A block that is not among the rows' own. -/
def Far (X : Nat) (v : Value) (ps : List (R × Value)) : Prop := v.ownBlock ≠ some X ∧ ∀ p ∈ ps, p.2.ownBlock ≠ some X
theorem OwnRp.far (h : OwnRp eR eV w lo hi v ps) (hX : Far X v ps) (hs : ∀ g, g ≠ X → w'.heap[g]? = w.heap[g]?) : OwnRp eR eV w' lo hi v ps :=
  ⟨owns_same h.out fun g hg => hs g (fun e => hX.1 (by rw [hg, e])), h.outIn, fun p hp => ⟨owns_same (h.inn p hp).1 fun g hg => hs g (fun e => hX.2 p hp (by rw [hg, e])), (h.inn p hp).2⟩, h.apart⟩
theorem Far.snoc {v' sv : Value} {x : R} (h : Far X v ps) (h1 : ∀ g, v'.ownBlock = some g → v.ownBlock = some g ∨ X < g) (h2 : ∀ g, sv.ownBlock = some g → X < g) : Far X v' (ps ++ [(x, sv)]) := by
  refine ⟨fun e => ?_, fun p hp => ?_⟩
  · rcases h1 X e with h3 | h3
    · exact h.1 h3
    · omega
  · rcases List.mem_append.1 hp with hp | hp
    · exact h.2 p hp
    · simp only [List.mem_singleton] at hp
      subst hp
      intro e
      have := h2 X e
      omega
end
end Go.Lb
namespace Go.Proofs.YtidmlfjolhnnfaaGreatDoor
open Go.Sort Go.ChangeShapes Go.WideShapes Go.ChangeAt Go.RowKit Go.Lb
def cutL (q : List Int) (r : R) : List V := q.filterMap fun k => colAt k r
theorem cut_step {q : List Int} {r : R} {i : Nat} {k : Int} (h : q[i]? = some k) : (q.take (i + 1)).filterMap (fun k => colAt k r) = (q.take i).filterMap (fun k => colAt k r) ++ (colAt k r).toList := by
  rw [take_of_get h, List.filterMap_append]
  cases hc : colAt k r <;> simp [hc]
theorem cutL_len (q : List Int) (r : R) : (cutL q r).length ≤ q.length := List.length_filterMap_le _ _
theorem set_keep47 {w : World} {g b o : Nat} {u : Value} (h : g ≠ b) : (w.setCell ⟨b, o, none⟩ u).heap[g]? = w.heap[g]? := Below.heap_setCell w ⟨b, o, none⟩ u g h
theorem below_set47 {B : Nat} {w w' : World} {b o : Nat} {u : Value} (h : Below B w w') (hb : B ≤ b) : Below B w (w'.setCell ⟨b, o, none⟩ u) := Below.setCell h hb u
theorem alloc_old47 {w : World} {o x : Obj} {k : Nat} (h : w.heap[k]? = some x) : (w.alloc o).heap[k]? = some x := ((up_a1 w o).block k (Array.getElem?_eq_some_iff.1 h).1).trans h
theorem heap_new47 {w : World} {o : Obj} {n : Nat} (h : w.heap.size = n) : (w.alloc o).heap[n]? = some o := h ▸ heap_alloc_new w o
set_option maxRecDepth 20000 in
set_option maxHeartbeats 2000000 in
theorem spec_l12Cut (y : R) (sv : Value) (q : List Int) (ov : Value) (w : World) {l1 h1 l2 h2 : Nat} (hr : RdV w l1 h1 sv y.l) (hh1 : h1 ≤ w.heap.size) (ho : RdI w l2 h2 ov q) (hh2 : h2 ≤ w.heap.size) (hn : q.length ≤ 1048576 ∧ y.l.length ≤ 1048576) :
    Calls Tryz.prog 27 #[.agg #[.int .i64 y.id, sv], ov] w fun e w' => ∃ v, e = .returned (.agg #[.int .i64 y.id, v]) ∧ Own 25 3 w' w.heap.size w'.heap.size v (cutL q y).length ((cutL q y).flatMap V.cells) ∧ Below w.heap.size w w' := by
  obtain ⟨As, cs, rfl, -, -⟩ := hr.form
  obtain ⟨Ao, co, rfl, -, -⟩ := ho.form
  obtain ⟨i0, hif, hz0, hz1, hz2⟩ := info_parts info_val
  have hif := Lib.hid hif
  have hz0 := Lib.hid hz0
  have hz1 := Lib.hid hz1
  have hz2 := Lib.hid hz2
  go_enter Tryz.func27, Tryz.ntmps27
  go_wp2_with fail
  go_loopw [6] (fun i wr => ∃ (k : Nat) (v : Value) (xs : List V), i = .int .i64 k ∧ k ≤ q.length ∧ xs.length ≤ k ∧ xs = (q.take k).filterMap (fun k => colAt k y) ∧ wr.ownsRow (w.heap.size + 2) 25 3 v xs.length (xs.flatMap V.cells) ∧ v.ownBlock ≠ some (w.heap.size + 1 + 1 + 1)
    ∧ wr.heap[w.heap.size]? = some (.cells #[.int .i64 y.id, .slice As y.l.length cs] 51) ∧ wr.heap[w.heap.size + 1]? = some (.cells #[.int .i64 0, .slice none 0 0] 51) ∧ wr.heap[w.heap.size + 1 + 1 + 1]? = some (.cells #[.int .i64 y.id, v] 51) ∧ Below w.heap.size w wr) (fun i _ => q.length - (intOf i).toNat)
  case atStart =>
    have own0 := (World.ownsRow_made ((w.alloc (.cells #[.int .i64 y.id, .slice As y.l.length cs] 51)).alloc (.cells #[.int .i64 0, .slice none 0 0] 51)) (base := w.heap.size + 2) (e := 25) (size := 3) #[] 0 (by simp) (by decide) rfl).alloc (.cells #[.int .i64 y.id, .slice (some ⟨w.heap.size + 1 + 1, 0, none⟩) 0 0] 51)
    simp only [World.size_alloc] at own0
    refine ⟨0, .slice (some ⟨w.heap.size + 1 + 1, 0, none⟩) 0 0, [], rfl, by omega, by simp, by simp, own0, by simp [Value.ownBlock], ?_, ?_, ?_, ?_⟩
    all_goals first
      | exact up_a4 w _ _ _ _
      | exact heap_new47 (w := ((w.alloc (.cells #[.int .i64 y.id, .slice As y.l.length cs] 51)).alloc (.cells #[.int .i64 0, .slice none 0 0] 51)).alloc (.cells #[] 25)) (by simp)
      | exact alloc_old47 (alloc_old47 (heap_new47 (w := w.alloc (.cells #[.int .i64 y.id, .slice As y.l.length cs] 51)) (by simp)))
      | exact alloc_old47 (alloc_old47 (alloc_old47 (heap_alloc_new w _)))
  case round =>
    obtain ⟨k, v, xs, rfl, hk, hxl, hxs, hown, hfar, hc0, hc1, hc3, hb⟩ := hrel
    have Hxs := Lib.hid hxs
    have ho' := Own.new hown
    obtain ⟨Av, cv, rfl, -, -, -⟩ := ho'.cells
    have hg3 : w.heap.size + 1 + 1 + 1 < wr.heap.size := (Array.getElem?_eq_some_iff.1 hc3).1
    have a0 := cell_of_row wr _ 0 _ _ _ hc0
    have a1 := cell_of_row wr _ 1 _ _ _ hc0
    have o0 := cell_of_row wr _ 0 _ _ _ hc3
    have o1 := cell_of_row wr _ 1 _ _ _ hc3
    simp only [List.getElem?_toArray, List.getElem?_cons_zero, List.getElem?_cons_succ] at a0 a1 o0 o1
    have Hc0 := Lib.hid hc0
    have Hc1 := Lib.hid hc1
    have Hc3 := Lib.hid hc3
    have Hown := Lib.hid hown
    have Hfar := Lib.hid hfar
    clear hxs hc0 hc1 hc3 hown hfar ho'
    by_cases hkl : k < q.length
    · obtain ⟨b, off, j, rfl, -, hbl, hjk, e0⟩ := (ho.below hb hh2).at hkl
      have Hj := Lib.hid (cut_step (r := y) hjk)
      have hbs := hb.size
      have hi1 : IntKind.i64.wrap ((y.l.length : Int) - 1) = (y.l.length : Int) - 1 := IntWalk.i64_in _ ⟨by omega, by omega⟩
      clear hjk
      go_wp2_with fail
      have hC := Lib.hid (fun (W : World) => c_spec_l1In j 0 ((y.l.length : Int) - 1) W)
      cases hI : inR j 0 ((y.l.length : Int) - 1)
      · rw [hI] at hC
        have Ht := Lib.hid (show (q.take (k + 1)).filterMap (fun k => colAt k y) = xs by rw [Hj.out, colAt_out hI, Hxs.out]; simp)
        have q_0 := cell_regrown (w := wr) a1
        have q_1 := cell_regrown (w := wr) e0
        refine wp_region_quiet_below (by kernel_rfl) (by kernel_rfl) ?_
        repeat (go_big_quiet_step (first | (go_at_call 49; exact Calls.regrown_of (hC.out _))))
        refine wpQuiet_nil ?_
        intro wq hw'
        obtain ⟨⟨dq, osq⟩, hw''⟩ := hw'
        have hbq := below_regrown wr dq osq
        rw [← hw''] at hbq
        clear hw''
        clear q_0 q_1
        go_wp2_with fail
        go_roundw
        case rel => exact ⟨k + 1, _, xs, by go_num, by omega, by omega, Ht.out.symm, owns_below Hown.out hbq, Hfar.out, (hbq.block _ (by omega)).trans Hc0.out, (hbq.block _ (by omega)).trans Hc1.out, (hbq.block _ (by omega)).trans Hc3.out, hb.trans (hbq.mono hb.size)⟩
        case measure => simp [intOf]; omega
      · rw [hI] at hC
        obtain ⟨k0, k1⟩ := inR_yes hI
        obtain ⟨i, rfl⟩ : ∃ i : Nat, j = (i : Int) := ⟨j.toNat, by omega⟩
        have hil : i < y.l.length := by omega
        obtain ⟨b2, off2, z, rfl, -, hbl2, hzk, v0, v1, v2⟩ := (hr.below hb hh1).at hil
        have Ht := Lib.hid (show (q.take (k + 1)).filterMap (fun k => colAt k y) = xs ++ [z] by rw [Hj.out, colAt_in hzk, Hxs.out]; rfl)
        clear hzk
        have q_0 := cell_regrown (w := wr) a1
        have q_1 := cell_regrown (w := wr) e0
        refine wp_region_quiet_below (by kernel_rfl) (by kernel_rfl) ?_
        repeat (go_big_quiet_step (first | (go_at_call 49; exact Calls.regrown_of (hC.out _))))
        refine wpQuiet_nil ?_
        intro wq hw'
        obtain ⟨⟨dq, osq⟩, hw''⟩ := hw'
        have hbq := below_regrown wr dq osq
        rw [← hw''] at hbq
        clear hw''
        clear q_0 q_1
        have hqs := hbq.size
        have hg3q := Nat.lt_of_lt_of_le hg3 hqs
        replace a1 := cell_keep a1 hbq
        replace e0 := cell_keep e0 hbq
        replace v0 := cell_keep v0 hbq
        replace v1 := cell_keep v1 hbq
        replace v2 := cell_keep v2 hbq
        replace o1 := cell_keep o1 hbq
        replace Hown := Lib.hid (owns_below Hown.out hbq)
        replace Hc0 := Lib.hid ((hbq.block _ (by omega)).trans Hc0.out)
        replace Hc1 := Lib.hid ((hbq.block _ (by omega)).trans Hc1.out)
        replace Hc3 := Lib.hid ((hbq.block _ hg3).trans Hc3.out)
        replace hb := hb.trans (hbq.mono hb.size)
        clear hbq hC hI
        go_wp2_with fail
        refine wp_region_T (S := fun w' => w'.cell? ⟨w.heap.size + 1 + 1 + 1, 1, none⟩ = some (.slice Av xs.length cv) ∧ w'.cell? ⟨w.heap.size, 1, none⟩ = some (.slice (some ⟨b2, off2, none⟩) y.l.length cs) ∧ w'.cell? ⟨b, off + k, none⟩ = some (.int .i64 (i : Int)) ∧ w'.cell? ⟨b2, off2 + i * 3, none⟩ = some (.int .i64 z.ty) ∧ w'.cell? ⟨b2, off2 + i * 3 + 1, none⟩ = some (.int .i64 z.n) ∧ w'.cell? ⟨b2, off2 + i * 3 + 2, none⟩ = some (.string z.s)) (n := 13) (by kernel_rfl) ?_
        generalize hX0 : wq.drew = X0
        have HB0 : Below wq.heap.size wq X0 := hX0 ▸ (Below.refl _ _).drew
        have s0 : wq.heap.size ≤ X0.heap.size := HB0.size
        have x0 := cell_keep o1 HB0
        have x1 := cell_keep a1 HB0
        have x2 := cell_keep e0 HB0
        have x3 := cell_keep v0 HB0
        have x4 := cell_keep v1 HB0
        have x5 := cell_keep v2 HB0
        clear hX0
        have F0 : X0.cell? ⟨w.heap.size + 1 + 1 + 1, 1, none⟩ = some (.slice Av xs.length cv) ∧ X0.cell? ⟨w.heap.size, 1, none⟩ = some (.slice (some ⟨b2, off2, none⟩) y.l.length cs) ∧ X0.cell? ⟨b, off + k, none⟩ = some (.int .i64 (i : Int)) ∧ X0.cell? ⟨b2, off2 + i * 3, none⟩ = some (.int .i64 z.ty) ∧ X0.cell? ⟨b2, off2 + i * 3 + 1, none⟩ = some (.int .i64 z.n) ∧ X0.cell? ⟨b2, off2 + i * 3 + 2, none⟩ = some (.string z.s) := ⟨x0, x1, x2, x3, x4, x5⟩
        refine wpAnyT_take (i := 0) (oi := _) (v := ?_) rfl (by kernel_rfl) (by kernel_rfl) (by kernel_rfl) (by kernel_rfl) (fun _ _ _ h => h) (Or.inl ⟨by rfl, ?_⟩) F0 ?_
        rotate_left
        · (intro w' hSw; (try dsimp only at hSw); go_simp) <;> with_reducible rfl
        try simp only [Act.put, List.setIfInBounds_toArray, List.set_cons_zero, List.set_cons_succ]
        refine wpAnyT_take (i := 1) (oi := _) (v := ?_) rfl (by kernel_rfl) (by kernel_rfl) (by kernel_rfl) (by kernel_rfl) (fun _ _ _ h => h) (Or.inl ⟨by rfl, ?_⟩) F0 ?_
        rotate_left
        · (intro w' hSw; (try dsimp only at hSw); go_simp) <;> with_reducible rfl
        try simp only [Act.put, List.setIfInBounds_toArray, List.set_cons_zero, List.set_cons_succ]
        refine wpAnyT_take (i := 2) (oi := _) (v := ?_) rfl (by kernel_rfl) (by kernel_rfl) (by kernel_rfl) (by kernel_rfl) (fun _ _ _ h => h) (Or.inl ⟨by rfl, ?_⟩) F0 ?_
        rotate_left
        · (intro w' hSw; (try dsimp only at hSw); go_simp) <;> with_reducible rfl
        try simp only [Act.put, List.setIfInBounds_toArray, List.set_cons_zero, List.set_cons_succ]
        refine wpAnyT_take (i := 3) (oi := _) (v := ?_) rfl (by kernel_rfl) (by kernel_rfl) (by kernel_rfl) (by kernel_rfl) (fun _ _ _ h => h) (Or.inl ⟨by rfl, ?_⟩) F0 ?_
        rotate_left
        · (intro w' hSw; (try dsimp only at hSw); go_simp) <;> with_reducible rfl
        try simp only [Act.put, List.setIfInBounds_toArray, List.set_cons_zero, List.set_cons_succ]
        refine wpAnyT_take (i := 4) (oi := _) (v := ?_) rfl (by kernel_rfl) (by kernel_rfl) (by kernel_rfl) (by kernel_rfl) (fun _ _ _ h => h) (Or.inl ⟨by rfl, ?_⟩) F0 ?_
        rotate_left
        · (intro w' hSw; (try dsimp only at hSw); go_simp) <;> with_reducible rfl
        try simp only [Act.put, List.setIfInBounds_toArray, List.set_cons_zero, List.set_cons_succ]
        refine wpAnyT_take (i := 5) (oi := _) (v := ?_) rfl (by kernel_rfl) (by kernel_rfl) (by kernel_rfl) (by kernel_rfl) (fun _ _ _ h => h) (Or.inl ⟨by rfl, ?_⟩) F0 ?_
        rotate_left
        · (intro w' hSw; (try dsimp only at hSw); go_simp) <;> with_reducible rfl
        try simp only [Act.put, List.setIfInBounds_toArray, List.set_cons_zero, List.set_cons_succ]
        refine wpAnyT_take (i := 6) (oi := _) (v := ?_) rfl (by kernel_rfl) (by kernel_rfl) (by kernel_rfl) (by kernel_rfl) (fun _ _ _ h => h) (Or.inl ⟨by rfl, ?_⟩) F0 ?_
        rotate_left
        · (intro w' hSw; (try dsimp only at hSw); go_simp) <;> with_reducible rfl
        try simp only [Act.put, List.setIfInBounds_toArray, List.set_cons_zero, List.set_cons_succ]
        refine wpAnyT_take (i := 7) (oi := _) (v := ?_) rfl (by kernel_rfl) (by kernel_rfl) (by kernel_rfl) (by kernel_rfl) (fun _ _ _ h => h) (Or.inl ⟨by rfl, ?_⟩) F0 ?_
        rotate_left
        · (intro w' hSw; (try dsimp only at hSw); go_simp) <;> with_reducible rfl
        try simp only [Act.put, List.setIfInBounds_toArray, List.set_cons_zero, List.set_cons_succ]
        refine wpAnyT_take (i := 8) (oi := _) (v := ?_) rfl (by kernel_rfl) (by kernel_rfl) (by kernel_rfl) (by kernel_rfl) (fun _ _ _ h => h) (Or.inl ⟨by rfl, ?_⟩) F0 ?_
        rotate_left
        · (intro w' hSw; (try dsimp only at hSw); go_simp) <;> with_reducible rfl
        try simp only [Act.put, List.setIfInBounds_toArray, List.set_cons_zero, List.set_cons_succ]
        refine wpAnyT_take (i := 9) (oi := _) (v := ?_) rfl (by kernel_rfl) (by kernel_rfl) (by kernel_rfl) (by kernel_rfl) (fun _ _ _ h => h) (Or.inl ⟨by rfl, ?_⟩) F0 ?_
        rotate_left
        · (intro w' hSw; (try dsimp only at hSw); go_simp) <;> with_reducible rfl
        try simp only [Act.put, List.setIfInBounds_toArray, List.set_cons_zero, List.set_cons_succ]
        refine wpAnyT_one (k := 10) (o := _) (by kernel_rfl) rfl rfl ?_
        intro K hK
        go_simp
        refine hK.out _ _ (fun _ => ⟨cell_keep x0 (up_a1 _ _), cell_keep x1 (up_a1 _ _), cell_keep x2 (up_a1 _ _), cell_keep x3 (up_a1 _ _), cell_keep x4 (up_a1 _ _), cell_keep x5 (up_a1 _ _)⟩) ?_
        clear hK
        refine wpAnyT_one (k := 11) (o := _) (by kernel_rfl) rfl rfl ?_
        intro K hK
        have HownX := owns_below Hown.out HB0
        refine step_app rfl _ _ 48 rfl (w.heap.size + 2) 25 i0 _ 3 32 Tryz.underlying48 hif.out hz0.out hz1.out hz2.out rfl (by decide) (by decide) (HownX.alloc _) rfl (heap_alloc_new _ _) rfl rfl (by simp [Value.oneCell']) (by omega) (by simp <;> omega) ?_
        intro v' w3 hown' hgrow hnb
        obtain ⟨A2, c2, rfl, -, -, -⟩ := (Own.new hown').cells
        have hbg := hgrow.size
        simp only [World.size_alloc] at hbg
        have lk : ∀ g, g < X0.heap.size → some g ≠ (Value.slice Av xs.length cv).ownBlock → w3.heap[g]? = X0.heap[g]? := fun g h1 h2 => (hgrow.block g (by simp; omega) h2).trans ((up_a1 X0 _).block g h1)
        have nn : ∀ g, g < w.heap.size + 2 → some g ≠ (Value.slice Av xs.length cv).ownBlock := fun g h1 e => by have := (Hown.out.lt g e.symm).1; omega
        have kc : ∀ g u x, g < X0.heap.size → some g ≠ (Value.slice Av xs.length cv).ownBlock → X0.cell? ⟨g, u, none⟩ = some x → w3.cell? ⟨g, u, none⟩ = some x := fun g u x h1 h2 h3 => (World.cell?_of_block (a := ⟨g, u, none⟩) (lk g h1 h2)).trans h3
        have y0 := kc _ _ _ (by omega) (fun e => Hfar.out e.symm) x0
        have y1 := kc _ _ _ (by omega) (nn _ (by omega)) x1
        have y2 := kc _ _ _ (by omega) (nn _ (by omega)) x2
        have y3 := kc _ _ _ (by omega) (nn _ (by omega)) x3
        have y4 := kc _ _ _ (by omega) (nn _ (by omega)) x4
        have y5 := kc _ _ _ (by omega) (nn _ (by omega)) x5
        have far' : (Value.slice A2 (xs.length + 1) c2).ownBlock ≠ some (w.heap.size + 1 + 1 + 1) := fun e => by
          rcases hnb _ e with h | h
          · exact Hfar.out h
          · simp at h; omega
        have Hown' := Lib.hid (owns_same (w' := w3.setCell ⟨w.heap.size + 1 + 1 + 1, 1, none⟩ (.slice A2 (xs.length + 1) c2)) hown' fun g hg => set_keep47 (fun e => far' (e ▸ hg)))
        have HC3 := Lib.hid ((lk (w.heap.size + 1 + 1 + 1) (by omega) (fun e => Hfar.out e.symm)).trans ((HB0.block _ hg3q).trans Hc3.out))
        have HC0 := Lib.hid ((set_keep47 (u := .slice A2 (xs.length + 1) c2) (o := 1) (b := w.heap.size + 1 + 1 + 1) (g := w.heap.size) (by omega)).trans ((lk _ (by omega) (nn _ (by omega))).trans ((HB0.block _ (by omega)).trans Hc0.out)))
        have HC1 := Lib.hid ((set_keep47 (u := .slice A2 (xs.length + 1) c2) (o := 1) (b := w.heap.size + 1 + 1 + 1) (g := w.heap.size + 1) (by omega)).trans ((lk _ (by omega) (nn _ (by omega))).trans ((HB0.block _ (by omega)).trans Hc1.out)))
        have hc3n := set1 (o := 1) (a := .slice A2 (xs.length + 1) c2) HC3.out
        simp only [List.setIfInBounds_toArray, List.set_cons_succ, List.set_cons_zero] at hc3n
        have HC3n := Lib.hid hc3n
        have hbX := hb.trans (HB0.mono hb.size)
        have HBn := Lib.hid (below_set47 (o := 1) (u := .slice A2 (xs.length + 1) c2) (b := w.heap.size + 1 + 1 + 1) (Below.grown (hbX.alloc hbX.size _) hgrow (fun g hg => by have := (Hown.out.lt g hg).1; omega) (Nat.le_refl _)) (by omega))
        have Far' := Lib.hid far'
        have p1 := cell_of_row w3 _ 1 _ _ _ HC3.out
        have pf := fun o => frozen_of_row w3 _ o _ _ HC3.out
        simp only [List.getElem?_toArray, List.getElem?_cons_zero, List.getElem?_cons_succ] at p1
        clear hown' hgrow hnb lk nn kc far' hc3n hbX HownX
        refine hK.out _ _ (fun _ => ⟨y0, y1, y2, y3, y4, y5⟩) ?_
        clear hK
        try simp only [Act.put, List.setIfInBounds_toArray, List.set_cons_zero, List.set_cons_succ]
        refine wpAnyT_one (k := 12) (o := _) (by kernel_rfl) rfl rfl ?_
        intro K hK
        go_simp
        refine hK.out _ _ (fun _ => ⟨y0, y1, y2, y3, y4, y5⟩) ?_
        clear hK
        try simp only [Act.put, List.setIfInBounds_toArray, List.set_cons_zero, List.set_cons_succ]
        refine wpAnyT_one (k := 13) (o := _) (by kernel_rfl) rfl rfl ?_
        intro K hK
        go_simp
        refine hK.out _ _ (fun h => absurd rfl h) ?_
        clear hK
        refine wpAnyT_done (by kernel_rfl) ?_ _
        have HL := Lib.hid (show w3.setCell ⟨w.heap.size + 1 + 1 + 1, 1, none⟩ (.slice A2 (xs.length + 1) c2) |>.ownsRow (w.heap.size + 2) 25 3 (.slice A2 (xs.length + 1) c2) (xs ++ [z]).length ((xs ++ [z]).flatMap V.cells) by
          rw [List.length_append, List.flatMap_append]
          simpa [V.cells] using Hown'.out)
        clear x0 y0 x1 y1 x2 y2 x3 y3 x4 y4 x5 y5 p1 pf a0 a1 o0 o1 e0 v0 v1 v2 F0
        go_wp2_with fail
        go_roundw
        case rel => exact ⟨k + 1, _, xs ++ [z], by go_num, by omega, by simp; omega, Ht.out.symm, HL.out, Far'.out, HC0.out, HC1.out, HC3n.out, HBn.out⟩
        case measure => simp [intOf]; omega
    · obtain rfl : k = q.length := by omega
      have r0 := cell_of_row wr _ 0 _ _ _ Hc1.out
      have r1 := cell_of_row wr _ 1 _ _ _ Hc1.out
      simp only [List.getElem?_toArray, List.getElem?_cons_zero, List.getElem?_cons_succ] at r0 r1
      have f0 := fun o => frozen_of_row wr _ o _ _ Hc1.out
      have hL := Lib.hid (show cutL q y = xs by rw [Hxs.out, List.take_length]; rfl)
      go_wp2_with fail
      refine bodyPost_ret (v := .agg #[.int .i64 y.id, .slice Av xs.length cv]) ?_ rfl ⟨_, rfl, ?_, ?_⟩
      · simp [results, Tryz.results27, go_sem, r0, r1]
      · rw [hL.out]
        refine Own.more (lo := w.heap.size + 2) (hi := wr.heap.size) ?_ (by omega) (Nat.le_of_eq (by simp [World.setCell]))
        iterate 2 refine Own.set ?_ (by omega) _
        exact Own.new Hown.out
      · iterate 2 refine below_set47 ?_ (by omega)
        exact hb
end Go.Proofs.YtidmlfjolhnnfaaGreatDoor
namespace Go.Lb
open Go.RowKit
section
variable {w w' w1 : World} {lo hi base e s n k : Nat} {v v' v2 : Value} {xs : List Value} {eR eV : TypeId} {ps qs : List (R × Value)}
/-- The cells of a row of the call's own, as a spread append asks for them. -/
theorem Own.news {A : Option Addr} {c : Nat} (h : Own e s w lo hi (.slice A n c) n xs) : xs.length = n * s ∧ (A = none → n = 0) ∧ ∀ ad, A = some ad → ∀ j u, xs[j]? = some u → w.cell? (ad.add j) = some u := by
  refine ⟨h.1.1, fun hA => ?_, fun ad had j u hj => ?_⟩
  · rcases h.1.2 with ⟨-, h0⟩ | ⟨g, cap, cur, e1, -⟩
    · exact h0
    · injection e1 with e1
      rw [hA] at e1; cases e1
  · rcases h.1.2 with ⟨-, h0⟩ | ⟨g, cap, cur, e1, hb, hg, hnc, hcm, hsz, htk⟩
    · have h1 := h.1.1
      rw [h0, Nat.zero_mul] at h1
      rw [List.eq_nil_of_length_eq_zero h1] at hj
      cases hj
    · injection e1 with e1 e2 e3
      rw [had] at e1
      injection e1 with e1
      subst e1
      rw [add_plain, Nat.zero_add, cell_of_row w g j cur _ _ hg, ← Array.getElem?_toList]
      rw [← htk, List.getElem?_take] at hj
      split at hj
      · exact hj
      · cases hj
theorem OwnV.one {p : R × Value} (h : OwnV eV w p) : p.2.oneCell' = true := by
  rcases h.2 with ⟨e1, -⟩ | ⟨g, cap, cur, e1, -⟩ <;> rw [e1] <;> rfl
theorem OwnRp.one (h : OwnRp eR eV w lo hi v ps) : ∀ u ∈ ps.flatMap rcell, u.oneCell' = true := fun u hu => by
  obtain ⟨p, hp, h1⟩ := List.mem_flatMap.1 hu
  simp only [rcell, List.mem_cons, List.not_mem_nil, or_false] at h1
  rcases h1 with rfl | rfl
  · rfl
  · exact (h.inn p hp).1.one
/-- The rows of the second list behind those of the first. w: ahead of the second; w1: behind it; w': behind the append. -/
theorem OwnRp.join (h : OwnRp eR eV w lo w.heap.size v ps) (hb : Below w.heap.size w w1) (hlo : lo ≤ w.heap.size) (h2 : OwnRp eR eV w1 w.heap.size w1.heap.size v2 qs)
    (hout : w'.ownsRow base eR 2 v' (ps.length + qs.length) (ps.flatMap rcell ++ qs.flatMap rcell)) (hg : w1.grownBy w' v.ownBlock)
    (hv : ∀ g, v'.ownBlock = some g → v.ownBlock = some g ∨ w1.heap.size ≤ g) : OwnRp eR eV w' lo w'.heap.size v' (ps ++ qs) := by
  have s1 := hb.size
  have s2 := hg.size
  have hvi : InR lo w'.heap.size v'.ownBlock := fun g hg' => by
    refine ⟨?_, (hout.lt g hg').2⟩
    rcases hv g hg' with h1 | h1
    · exact (h.outIn g h1).1
    · omega
  have keep : ∀ g, g < w1.heap.size → v.ownBlock ≠ some g → w'.heap[g]? = w1.heap[g]? := fun g h1 h2 => hg.block g h1 (fun e => h2 e.symm)
  have hold : ∀ p ∈ ps, OwnV eV w' p ∧ InR lo w'.heap.size p.2.ownBlock ∧ Dis v'.ownBlock p.2.ownBlock := fun p hp => by
    obtain ⟨i1, i2, i3⟩ := h.inn p hp
    refine ⟨owns_same i1 fun g hg' => ?_, fun g hg' => by have := i2 g hg'; omega, fun g h1 h2 => ?_⟩
    · have := i2 g hg'
      exact (keep g (by omega) (fun e => i3 g e hg')).trans (hb.block g (by omega))
    · have := i2 g h2
      rcases hv g h1 with h3 | h3
      · exact i3 g h3 h2
      · omega
  have hnew : ∀ q ∈ qs, OwnV eV w' q ∧ InR w.heap.size w1.heap.size q.2.ownBlock ∧ Dis v'.ownBlock q.2.ownBlock := fun q hq => by
    obtain ⟨i1, i2, -⟩ := h2.inn q hq
    refine ⟨owns_same i1 fun g hg' => keep g (by have := i2 g hg'; omega) (fun e => by have := h.outIn g e; have := i2 g hg'; omega), i2, fun g h1 h4 => ?_⟩
    have := i2 g h4
    rcases hv g h1 with h3 | h3
    · have := h.outIn g h3; omega
    · omega
  refine ⟨by rw [List.length_append, List.flatMap_append]; exact owns_zero hout, hvi, fun p hp => ?_, ?_⟩
  · rcases List.mem_append.1 hp with hp | hp
    · exact hold p hp
    · obtain ⟨a1, a2, a3⟩ := hnew p hp
      exact ⟨a1, fun g hg' => by have := a2 g hg'; omega, a3⟩
  · rw [List.pairwise_append]
    refine ⟨h.apart, h2.apart, fun p hp q hq g h3 h4 => ?_⟩
    have := (h.inn p hp).2.1 g h3
    have := (hnew q hq).2.1 g h4
    omega
theorem pl_of {ps : List (R × Value)} {l : List R} {k : Nat} (h : ps.map Prod.fst = l.take k) (hk : k ≤ l.length) : ps.length = k := by
  have h1 := congrArg List.length h
  simp at h1
  omega
theorem pl_drop {ps : List (R × Value)} {l : List R} {k : Nat} (h : ps.map Prod.fst = l.drop k) : ps.length = l.length - k := by
  have h1 := congrArg List.length h
  simp at h1
  omega
theorem RdR.take {A : Option Addr} {c : Nat} {l : List R} (h : RdR w lo hi (.slice A n c) l) (hk : k ≤ l.length) : RdR w lo hi (.slice A k c) (l.take k) := by
  obtain ⟨A', c', e1, hn, hc, hE⟩ := h
  injection e1 with e1 e2 e3
  subst e1 e3
  refine ⟨A, c, by rw [List.length_take, Nat.min_eq_left hk], by rw [List.length_take]; omega, hc, fun i hi' => ?_⟩
  rw [List.length_take] at hi'
  obtain ⟨b, off, ha, hl, hh, x, sv, hx, hr⟩ := hE i (by omega)
  exact ⟨b, off, ha, hl, hh, x, sv, by rw [List.getElem?_take, if_pos (by omega)]; exact hx, hr⟩
theorem RdR.drop {b off c : Nat} {l : List R} (h : RdR w lo hi (.slice (some ⟨b, off, none⟩) n c) l) (hk : k ≤ l.length) : RdR w lo hi (.slice (some ⟨b, off + k * 2, none⟩) (l.length - k) (c - k)) (l.drop k) := by
  obtain ⟨A', c', e1, hn, hc, hE⟩ := h
  injection e1 with e1 e2 e3
  subst e1 e3
  refine ⟨some ⟨b, off + k * 2, none⟩, c - k, by rw [List.length_drop], by rw [List.length_drop]; omega, by omega, fun i hi' => ?_⟩
  rw [List.length_drop] at hi'
  obtain ⟨b', off', ha, hl, hh, x, sv, hx, h0, h1, hr⟩ := hE (k + i) (by omega)
  injection ha with ha
  injection ha with ha1 ha2
  subst ha1 ha2
  have ho : off + k * 2 + i * 2 = off + (k + i) * 2 := by omega
  exact ⟨b, off + k * 2, rfl, hl, hh, x, sv, by rw [List.getElem?_drop]; exact hx, by rw [ho]; exact h0, by rw [ho]; exact h1, hr⟩
theorem RdR.none {c : Nat} : c ≤ maxLen → RdR w lo hi (.slice .none 0 c) [] := fun hc => ⟨_, c, rfl, Nat.zero_le _, hc, fun _ hk => absurd hk (Nat.not_lt_zero _)⟩
end
end Go.Lb
namespace Go.Lb
open Go.RowKit
section
variable {w w' w1 : World} {lo hi h1 l2 h2 X : Nat} {v v' v2 : Value} {eR eV : TypeId} {ps qs : List (R × Value)}
/-- Both lists stand in one world; what is written lies in the first list's own row or behind all. -/
theorem OwnRp.join2 (h : OwnRp eR eV w1 lo h1 v ps) (h12 : h1 ≤ l2) (hl : lo ≤ l2) (g2 : OwnRp eR eV w1 l2 h2 v2 qs) (hh1 : h1 ≤ w1.heap.size) (hh : h2 ≤ w1.heap.size)
    (hout : w'.ownsRow 0 eR 2 v' (ps.length + qs.length) (ps.flatMap rcell ++ qs.flatMap rcell)) (hg : w1.grownBy w' v.ownBlock)
    (hv : ∀ g, v'.ownBlock = some g → v.ownBlock = some g ∨ w1.heap.size ≤ g) (hlo : lo ≤ w1.heap.size) :
    OwnRp eR eV w' lo w'.heap.size v' (ps ++ qs) ∧ ∀ X, X < w1.heap.size → (lo ≤ X → h1 ≤ X) → (l2 ≤ X → h2 ≤ X) → Far X v' (ps ++ qs) := by
  have s2 := hg.size
  have keep : ∀ g, g < w1.heap.size → v.ownBlock ≠ some g → w'.heap[g]? = w1.heap[g]? := fun g h1 h2 => hg.block g h1 (fun e => h2 e.symm)
  have hold : ∀ p ∈ ps, OwnV eV w' p ∧ InR lo h1 p.2.ownBlock ∧ Dis v'.ownBlock p.2.ownBlock := fun p hp => by
    obtain ⟨i1, i2, i3⟩ := h.inn p hp
    refine ⟨owns_same i1 fun g hg' => ?_, i2, fun g k1 k2 => ?_⟩
    · have := i2 g hg'
      exact keep g (by omega) (fun e => i3 g e hg')
    · have := i2 g k2
      rcases hv g k1 with h3 | h3
      · exact i3 g h3 k2
      · omega
  have hnew : ∀ q ∈ qs, OwnV eV w' q ∧ InR l2 h2 q.2.ownBlock ∧ Dis v'.ownBlock q.2.ownBlock := fun q hq => by
    obtain ⟨i1, i2, -⟩ := g2.inn q hq
    refine ⟨owns_same i1 fun g hg' => keep g (by have := i2 g hg'; omega) (fun e => by have := h.outIn g e; have := i2 g hg'; omega), i2, fun g k1 h4 => ?_⟩
    have := i2 g h4
    rcases hv g k1 with h3 | h3
    · have := h.outIn g h3; omega
    · omega
  refine ⟨⟨by rw [List.length_append, List.flatMap_append]; exact hout, fun g hg' => ⟨?_, (hout.lt g hg').2⟩, fun p hp => ?_, ?_⟩, fun X hX hX1 hX2 => ⟨fun e => ?_, fun p hp e => ?_⟩⟩
  · rcases hv g hg' with k | k
    · exact (h.outIn g k).1
    · omega
  · rcases List.mem_append.1 hp with hp | hp
    · obtain ⟨a1, a2, a3⟩ := hold p hp
      exact ⟨a1, fun g hg' => by have := a2 g hg'; omega, a3⟩
    · obtain ⟨a1, a2, a3⟩ := hnew p hp
      exact ⟨a1, fun g hg' => by have := a2 g hg'; omega, a3⟩
  · rw [List.pairwise_append]
    refine ⟨h.apart, g2.apart, fun p hp q hq g h3 h4 => ?_⟩
    have := (h.inn p hp).2.1 g h3
    have := (hnew q hq).2.1 g h4
    omega
  · rcases hv X e with k | k
    · have := h.outIn X k
      omega
    · omega
  · rcases List.mem_append.1 hp with hp | hp
    · have := (hold p hp).2.1 X e
      omega
    · have := (hnew p hp).2.1 X e
      omega
theorem OwnRp.keepFar (h : OwnRp eR eV w lo w.heap.size v ps) (hX : Far X v ps) (hc : Chg X (X + 1) w w') : OwnRp eR eV w' lo w'.heap.size v ps := by
  have hs := hc.size
  have hb : ∀ g, g < w.heap.size → g ≠ X → w'.heap[g]? = w.heap[g]? := fun g h1 h2 => hc.block g h1 (by omega)
  exact ⟨owns_same h.out fun g hg => hb g (h.outIn g hg).2 (fun e => hX.1 (by rw [hg, e])), fun g hg => by have := h.outIn g hg; omega,
    fun p hp => ⟨owns_same (h.inn p hp).1 fun g hg => hb g ((h.inn p hp).2.1 g hg).2 (fun e => hX.2 p hp (by rw [hg, e])), fun g hg => by have := (h.inn p hp).2.1 g hg; omega, (h.inn p hp).2.2⟩, h.apart⟩
theorem far_behind (h : OwnRp eR eV w lo hi v ps) (hX : hi ≤ X) : Far X v ps :=
  ⟨fun e => by have := h.outIn X e; omega, fun p hp e => by have := (h.inn p hp).2.1 X e; omega⟩
theorem far_ahead (h : OwnRp eR eV w lo hi v ps) (hX : X < lo) : Far X v ps :=
  ⟨fun e => by have := h.outIn X e; omega, fun p hp e => by have := (h.inn p hp).2.1 X e; omega⟩
theorem chg_set (w : World) (X o : Nat) (u : Value) : Chg X (X + 1) w (w.setCell ⟨X, o, none⟩ u) := ⟨rfl, rfl, rfl, by simp [World.setCell], fun k hk hne => Below.heap_setCell w ⟨X, o, none⟩ _ k (by show k ≠ X; omega)⟩
theorem set_six {c0 c1 c2 c3 c4 c5 v0 v1 v2 v3 v4 v5 : Value} {e : TypeId} (h : w.heap[X]? = some (.cells #[c0, c1, c2, c3, c4, c5] e)) :
    ((((((w.setCell ⟨X, 0, none⟩ v0).setCell ⟨X, 1, none⟩ v1).setCell ⟨X, 2, none⟩ v2).setCell ⟨X, 3, none⟩ v3).setCell ⟨X, 4, none⟩ v4).setCell ⟨X, 5, none⟩ v5).heap[X]? = some (.cells #[v0, v1, v2, v3, v4, v5] e) := by
  have h1 := set1 (o := 5) (a := v5) (set1 (o := 4) (a := v4) (set1 (o := 3) (a := v3) (set1 (o := 2) (a := v2) (set1 (o := 1) (a := v1) (set1 (o := 0) (a := v0) h)))))
  simpa only [List.setIfInBounds_toArray, List.set_cons_succ, List.set_cons_zero] using h1
theorem set_three {c0 c1 c2 c3 c4 c5 v3 v4 v5 : Value} {e : TypeId} (h : w.heap[X]? = some (.cells #[c0, c1, c2, c3, c4, c5] e)) :
    (((w.setCell ⟨X, 3, none⟩ v3).setCell ⟨X, 4, none⟩ v4).setCell ⟨X, 5, none⟩ v5).heap[X]? = some (.cells #[c0, c1, c2, v3, v4, v5] e) := by
  have h1 := set1 (o := 5) (a := v5) (set1 (o := 4) (a := v4) (set1 (o := 3) (a := v3) h))
  simpa only [List.setIfInBounds_toArray, List.set_cons_succ, List.set_cons_zero] using h1
theorem set_two {c0 c1 c2 c3 c4 c5 v2 : Value} {e : TypeId} (h : w.heap[X]? = some (.cells #[c0, c1, c2, c3, c4, c5] e)) :
    (w.setCell ⟨X, 2, none⟩ v2).heap[X]? = some (.cells #[c0, c1, v2, c3, c4, c5] e) := by
  have h1 := set1 (o := 2) (a := v2) h
  simpa only [List.setIfInBounds_toArray, List.set_cons_succ, List.set_cons_zero] using h1
end
end Go.Lb
