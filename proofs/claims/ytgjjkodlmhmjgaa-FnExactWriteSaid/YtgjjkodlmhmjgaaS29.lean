/- Copies of chunks: contracts. -/
import Derived.Test.YtgjjkodlmhmjgaaS15
import Derived.Test.YtgjjkodlmhmjgaaRT
import Derived.Deep.RegionHeld3
namespace Go.Lb
open Go.RowKit
section
variable {eR eV : TypeId} {w w' : World} {lo hi X : Nat} {v : Value} {ps : List (R × Value)}
/-- A block that is not among the rows' own. -/
def Far (X : Nat) (v : Value) (ps : List (R × Value)) : Prop := v.ownBlock ≠ some X ∧ ∀ p ∈ ps, p.2.ownBlock ≠ some X
theorem OwnRp.far (h : OwnRp eR eV w lo hi v ps) (hX : Far X v ps) (hs : ∀ g, g ≠ X → w'.heap[g]? = w.heap[g]?) : OwnRp eR eV w' lo hi v ps :=
  ⟨owns_same h.out fun g hg => hs g (fun e => hX.1 (by rw [hg, e])), h.outIn, fun p hp => ⟨owns_same (h.inn p hp).1 fun g hg => hs g (fun e => hX.2 p hp (by rw [hg, e])), (h.inn p hp).2⟩, h.apart⟩
theorem Far.snoc {v' sv : Value} {x : R} (h : Far X v ps) (h1 : ∀ g, v'.ownBlock = some g → v.ownBlock = some g ∨ X < g) (h2 : ∀ g, sv.ownBlock = some g → X < g) : Far X v' (ps ++ [(x, sv)]) := by
  refine ⟨fun e => ?_, fun p hp => ?_⟩
  · rcases h1 X e with h3 | h3
    · exact h.1 h3
    · omega
  · rcases List.mem_append.1 hp with hp | hp
    · exact h.2 p hp
    · simp only [List.mem_singleton] at hp
      subst hp
      intro e
      have := h2 X e
      omega
end
end Go.Lb
namespace Go.Proofs.Ytgjjkodlmhmjgaa
open Go.Sort Go.ChangeShapes Go.WideShapes Go.ChangeAt Go.RowKit Go.Lb

theorem set_keep29 {w : World} {g b o : Nat} {u : Value} (h : g ≠ b) : (w.setCell ⟨b, o, none⟩ u).heap[g]? = w.heap[g]? := Below.heap_setCell w ⟨b, o, none⟩ u g h
theorem below_set29 {B : Nat} {w w' : World} {b o : Nat} {u : Value} (h : Below B w w') (hb : B ≤ b) : Below B w (w'.setCell ⟨b, o, none⟩ u) := Below.setCell h hb u
theorem alloc_old29 {w : World} {o x : Obj} {k : Nat} (h : w.heap[k]? = some x) : (w.alloc o).heap[k]? = some x := ((up_a1 w o).block k (Array.getElem?_eq_some_iff.1 h).1).trans h
theorem heap_new29 {w : World} {o : Obj} {n : Nat} (h : w.heap.size = n) : (w.alloc o).heap[n]? = some o := h ▸ heap_alloc_new w o
theorem cell_drew29 {w : World} {a : Addr} {x : Option Value} (h : w.cell? a = x) : w.drew.cell? a = x := h
theorem cell_set29 {w : World} {b o b' o' : Nat} {x : Option Value} {u : Value} (hne : b ≠ b') (h : w.cell? ⟨b, o, none⟩ = x) : (w.setCell ⟨b', o', none⟩ u).cell? ⟨b, o, none⟩ = x := (World.cell?_of_block (a := ⟨b, o, none⟩) (Below.heap_setCell w ⟨b', o', none⟩ u b hne)).trans h
set_option maxRecDepth 20000 in
set_option maxHeartbeats 2000000 in
theorem spec_l15Copy (x : C) (sv : Value) (w : World) {lo hi : Nat} (hx : RdR w lo hi sv x.l) (hhi : hi ≤ w.heap.size) (hn : x.l.length ≤ 1048576 ∧ lensR x.l ≤ 1048576) :
    Calls Try.prog 105 #[.agg #[.int .i64 x.next, sv]] w fun e w' => ∃ v, e = .returned (.agg #[.int .i64 x.next, v]) ∧ OwnR 128 39 w' w.heap.size w'.heap.size v x.l ∧ Below w.heap.size w w' := by
  obtain ⟨A, ca, rfl, hl, hl2⟩ := hx.form
  obtain ⟨i0, hif, hz0, hz1, hz2⟩ := info_parts info_Slot
  obtain ⟨i1, hif1, hy0, hy1, hy2⟩ := info_parts info_val
  have hif := Lib.hid hif
  have hz0 := Lib.hid hz0
  have hz1 := Lib.hid hz1
  have hz2 := Lib.hid hz2
  have hif1 := Lib.hid hif1
  have hy0 := Lib.hid hy0
  have hy1 := Lib.hid hy1
  have hy2 := Lib.hid hy2
  have hn1 := hn.1
  have Hn := Lib.hid hn.2
  clear hn
  go_enter Try.func105, Try.ntmps105
  go_wp2_with fail
  go_loopw [4] (fun i wr => ∃ (k : Nat) (v : Value) (ps : List (R × Value)), i = .int .i64 k ∧ k ≤ x.l.length ∧ ps.map Prod.fst = x.l.take k ∧ OwnRp 128 39 wr (w.heap.size + 2) wr.heap.size v ps ∧ Far (w.heap.size + 1 + 1 + 1) v ps
    ∧ wr.heap[w.heap.size]? = some (.cells #[.int .i64 x.next, .slice A x.l.length ca] 60) ∧ wr.heap[w.heap.size + 1]? = some (.cells #[.int .i64 0, .slice none 0 0] 60) ∧ wr.heap[w.heap.size + 1 + 1 + 1]? = some (.cells #[.int .i64 x.next, v] 60) ∧ Below w.heap.size w wr) (fun i _ => x.l.length - (intOf i).toNat)
  case atStart =>
    have own0 := (World.ownsRow_made ((w.alloc (.cells #[.int .i64 x.next, .slice A x.l.length ca] 60)).alloc (.cells #[.int .i64 0, .slice none 0 0] 60)) (base := w.heap.size + 2) (e := 128) (size := 2) #[] 0 (by simp) (by decide) rfl).alloc (.cells #[.int .i64 x.next, .slice (some ⟨w.heap.size + 1 + 1, 0, none⟩) 0 0] 60)
    simp only [World.size_alloc] at own0
    refine ⟨0, .slice (some ⟨w.heap.size + 1 + 1, 0, none⟩) 0 0, [], rfl, by omega, by simp, .nil own0 (fun g hg => by simp [Value.ownBlock] at hg; simp; omega), ⟨by simp [Value.ownBlock], by simp⟩, ?_, ?_, ?_, ?_⟩
    all_goals first
      | exact up_a4 w _ _ _ _
      | exact heap_new29 (w := ((w.alloc (.cells #[.int .i64 x.next, .slice A x.l.length ca] 60)).alloc (.cells #[.int .i64 0, .slice none 0 0] 60)).alloc (.cells #[] 128)) (by simp)
      | exact alloc_old29 (alloc_old29 (heap_new29 (w := w.alloc (.cells #[.int .i64 x.next, .slice A x.l.length ca] 60)) (by simp)))
      | exact alloc_old29 (alloc_old29 (alloc_old29 (heap_alloc_new w _)))
  case round =>
    obtain ⟨k, v, ps, rfl, hk, hps, hown, hfar, hc0, hc1, hc3, hb⟩ := hrel
    have hpl : ps.length = k := by
      have h := congrArg List.length hps
      simp at h; omega
    have Hps := Lib.hid hps
    have ho := hown.own
    rw [hpl] at ho
    obtain ⟨Av, cv, rfl, -, -, -⟩ := ho.cells
    have hg3 : w.heap.size + 1 + 1 + 1 < wr.heap.size := (Array.getElem?_eq_some_iff.1 hc3).1
    have a1 := cell_of_row wr _ 1 _ _ _ hc0
    have o0 := cell_of_row wr _ 0 _ _ _ hc3
    have o1 := cell_of_row wr _ 1 _ _ _ hc3
    simp only [List.getElem?_toArray, List.getElem?_cons_zero, List.getElem?_cons_succ] at a1 o0 o1
    have Hc0 := Lib.hid hc0
    have Hc1 := Lib.hid hc1
    have Hc3 := Lib.hid hc3
    have Hown := Lib.hid hown
    have Hfar := Lib.hid hfar
    clear hps hc0 hc1 hc3 hown hfar
    by_cases hkl : k < x.l.length
    · obtain ⟨b, off, y, sv', rfl, -, hbl, hyk, e0, e1, hr⟩ := (hx.below hb hhi).at hkl
      obtain ⟨As, cs, rfl, hsl, hsm⟩ := hr.form
      have Hy := Lib.hid (take_of_get hyk)
      have hyl : y.l.length ≤ 1048576 := Nat.le_trans (len_of_lens (mem_of_get hyk)) Hn.out
      have hbs := hb.size
      have hbw : b < wr.heap.size := by omega
      have hN := Lib.hid ((hr.below ((up_a1 wr (.cells #[] 39)).drew) (by omega)).news)
      have own0 := owns_drew (World.ownsRow_made wr (base := wr.heap.size) (e := 39) (size := 3) #[] 0 (Nat.le_refl _) (by decide) rfl)
      have Ho := Lib.hid ho
      have hfr : ∀ B', (B' < w.heap.size + 2 ∨ B' = w.heap.size + 1 + 1 + 1) → some B' ≠ (Value.slice Av k cv).ownBlock := fun B' hB e => by
        rcases hB with h | h
        · have := (Ho.out.1.lt B' e.symm).1; omega
        · subst h; exact Hfar.out.1 e.symm
      clear hyk hr ho
      have n0 : w.heap.size ≠ w.heap.size + 1 + 1 + 1 := by omega
      have n1 : b ≠ w.heap.size + 1 + 1 + 1 := by omega
      go_wp2_with fail
      have hS : (fun w' : World => (w'.cell? ⟨w.heap.size, 1, none⟩ = some (.slice (some ⟨b, off, none⟩) x.l.length ca) ∧ w'.cell? ⟨b, off + k * 2, none⟩ = some (.int .i64 y.id) ∧ w'.cell? ⟨b, off + k * 2 + 1, none⟩ = some (.slice As y.l.length cs) ∧ w'.cell? ⟨w.heap.size + 1 + 1 + 1, 1, none⟩ = some (.slice Av k cv))) wr.drew := ⟨a1, e0, e1, o1⟩
      refine wp_region_T (S := fun w' => (w'.cell? ⟨w.heap.size, 1, none⟩ = some (.slice (some ⟨b, off, none⟩) x.l.length ca) ∧ w'.cell? ⟨b, off + k * 2, none⟩ = some (.int .i64 y.id) ∧ w'.cell? ⟨b, off + k * 2 + 1, none⟩ = some (.slice As y.l.length cs) ∧ w'.cell? ⟨w.heap.size + 1 + 1 + 1, 1, none⟩ = some (.slice Av k cv))) (n := 20) (by kernel_rfl) ?_
      refine wpAnyT_take (i := 0) (oi := _) (v := ?_) rfl (by kernel_rfl) (by kernel_rfl) (by kernel_rfl) (by kernel_rfl) (fun _ _ _ h => h) (Or.inl ⟨by rfl, ?_⟩) hS ?_
      rotate_left
      · (intro w' hSw; (try dsimp only at hSw); go_simp) <;> with_reducible rfl
      simp only [Act.put, List.setIfInBounds_toArray, List.set_cons_zero, List.set_cons_succ]
      refine wpAnyT_take (i := 1) (oi := _) (v := ?_) rfl (by kernel_rfl) (by kernel_rfl) (by kernel_rfl) (by kernel_rfl) (fun _ _ _ h => h) (Or.inl ⟨by rfl, ?_⟩) hS ?_
      rotate_left
      · (intro w' hSw; (try dsimp only at hSw); go_simp) <;> with_reducible rfl
      simp only [Act.put, List.setIfInBounds_toArray, List.set_cons_zero, List.set_cons_succ]
      refine wpAnyT_take (i := 2) (oi := _) (v := ?_) rfl (by kernel_rfl) (by kernel_rfl) (by kernel_rfl) (by kernel_rfl) (fun _ _ _ h => h) (Or.inl ⟨by rfl, ?_⟩) hS ?_
      rotate_left
      · (intro w' hSw; (try dsimp only at hSw); go_simp) <;> with_reducible rfl
      simp only [Act.put, List.setIfInBounds_toArray, List.set_cons_zero, List.set_cons_succ]
      refine wpAnyT_take (i := 3) (oi := _) (v := ?_) rfl (by kernel_rfl) (by kernel_rfl) (by kernel_rfl) (by kernel_rfl) (fun _ _ _ h => h) (Or.inl ⟨by rfl, ?_⟩) hS ?_
      rotate_left
      · (intro w' hSw; (try dsimp only at hSw); go_simp) <;> with_reducible rfl
      simp only [Act.put, List.setIfInBounds_toArray, List.set_cons_zero, List.set_cons_succ]
      refine wpAnyT_take (i := 4) (oi := _) (v := ?_) rfl (by kernel_rfl) (by kernel_rfl) (by kernel_rfl) (by kernel_rfl) (fun _ _ _ h => h) (Or.inl ⟨by rfl, ?_⟩) hS ?_
      rotate_left
      · (intro w' hSw; (try dsimp only at hSw); go_simp) <;> with_reducible rfl
      simp only [Act.put, List.setIfInBounds_toArray, List.set_cons_zero, List.set_cons_succ]
      refine wpAnyT_take (i := 5) (oi := _) (v := ?_) rfl (by kernel_rfl) (by kernel_rfl) (by kernel_rfl) (by kernel_rfl) (fun _ _ _ h => h) (Or.inl ⟨by rfl, ?_⟩) hS ?_
      rotate_left
      · (intro w' hSw; (try dsimp only at hSw); go_simp) <;> with_reducible rfl
      simp only [Act.put, List.setIfInBounds_toArray, List.set_cons_zero, List.set_cons_succ]
      refine wpAnyT_take (i := 6) (oi := _) (v := ?_) rfl (by kernel_rfl) (by kernel_rfl) (by kernel_rfl) (by kernel_rfl) (fun _ _ _ h => h) (Or.inl ⟨by rfl, ?_⟩) hS ?_
      rotate_left
      · (intro w' hSw; (try dsimp only at hSw); go_simp) <;> with_reducible rfl
      simp only [Act.put, List.setIfInBounds_toArray, List.set_cons_zero, List.set_cons_succ]
      refine wpAnyT_take (i := 7) (oi := _) (v := ?_) rfl (by kernel_rfl) (by kernel_rfl) (by kernel_rfl) (by kernel_rfl) (fun _ _ _ h => h) (Or.inl ⟨by rfl, ?_⟩) hS ?_
      rotate_left
      · (intro w' hSw; (try dsimp only at hSw); go_simp) <;> with_reducible rfl
      simp only [Act.put, List.setIfInBounds_toArray, List.set_cons_zero, List.set_cons_succ]
      refine wpAnyT_take (i := 9) (oi := _) (v := ?_) rfl (by kernel_rfl) (by kernel_rfl) (by kernel_rfl) (by kernel_rfl) (fun _ _ _ h => h) (Or.inl ⟨by rfl, ?_⟩) hS ?_
      rotate_left
      · (intro w' hSw; (try dsimp only at hSw); go_simp) <;> with_reducible rfl
      simp only [Act.put, List.setIfInBounds_toArray, List.set_cons_zero, List.set_cons_succ]
      refine wpAnyT_take (i := 10) (oi := _) (v := ?_) rfl (by kernel_rfl) (by kernel_rfl) (by kernel_rfl) (by kernel_rfl) (fun _ _ _ h => h) (Or.inl ⟨by rfl, ?_⟩) hS ?_
      rotate_left
      · (intro w' hSw; (try dsimp only at hSw); go_simp) <;> with_reducible rfl
      simp only [Act.put, List.setIfInBounds_toArray, List.set_cons_zero, List.set_cons_succ]
      refine wpAnyT_take (i := 11) (oi := _) (v := ?_) rfl (by kernel_rfl) (by kernel_rfl) (by kernel_rfl) (by kernel_rfl) (fun _ _ _ h => h) (Or.inl ⟨by rfl, ?_⟩) hS ?_
      rotate_left
      · (intro w' hSw; (try dsimp only at hSw); go_simp) <;> with_reducible rfl
      simp only [Act.put, List.setIfInBounds_toArray, List.set_cons_zero, List.set_cons_succ]
      refine wpAnyT_take (i := 12) (oi := _) (v := ?_) rfl (by kernel_rfl) (by kernel_rfl) (by kernel_rfl) (by kernel_rfl) (fun _ _ _ h => h) (Or.inl ⟨by rfl, ?_⟩) hS ?_
      rotate_left
      · (intro w' hSw; (try dsimp only at hSw); go_simp) <;> with_reducible rfl
      simp only [Act.put, List.setIfInBounds_toArray, List.set_cons_zero, List.set_cons_succ]
      refine wpAnyT_take (i := 13) (oi := _) (v := ?_) rfl (by kernel_rfl) (by kernel_rfl) (by kernel_rfl) (by kernel_rfl) (fun _ _ _ h => h) (Or.inl ⟨by rfl, ?_⟩) hS ?_
      rotate_left
      · (intro w' hSw; (try dsimp only at hSw); go_simp) <;> with_reducible rfl
      simp only [Act.put, List.setIfInBounds_toArray, List.set_cons_zero, List.set_cons_succ]
      refine wpAnyT_take (i := 14) (oi := _) (v := ?_) rfl (by kernel_rfl) (by kernel_rfl) (by kernel_rfl) (by kernel_rfl) (fun _ _ _ h => h) (Or.inl ⟨by rfl, ?_⟩) hS ?_
      rotate_left
      · (intro w' hSw; (try dsimp only at hSw); go_simp) <;> with_reducible rfl
      simp only [Act.put, List.setIfInBounds_toArray, List.set_cons_zero, List.set_cons_succ]
      refine wpAnyT_one (k := 8) (o := _) (by kernel_rfl) rfl rfl ?_
      intro K hK
      go_simp
      refine hK.out _ _ (fun _ => (⟨cell_drew29 (cell_keep a1 (up_a1 _ _)), cell_drew29 (cell_keep e0 (up_a1 _ _)), cell_drew29 (cell_keep e1 (up_a1 _ _)), cell_drew29 (cell_keep o1 (up_a1 _ _))⟩ : ((wr.alloc (.cells #[] 39)).drew.cell? ⟨w.heap.size, 1, none⟩ = some (.slice (some ⟨b, off, none⟩) x.l.length ca) ∧ (wr.alloc (.cells #[] 39)).drew.cell? ⟨b, off + k * 2, none⟩ = some (.int .i64 y.id) ∧ (wr.alloc (.cells #[] 39)).drew.cell? ⟨b, off + k * 2 + 1, none⟩ = some (.slice As y.l.length cs) ∧ (wr.alloc (.cells #[] 39)).drew.cell? ⟨w.heap.size + 1 + 1 + 1, 1, none⟩ = some (.slice Av k cv)))) ?_
      clear hK
      refine wpAnyT_one (k := 15) (o := _) (by kernel_rfl) rfl rfl ?_
      intro K hK
      refine step_spread rfl _ _ 49 rfl wr.heap.size 39 i1 _ 3 32 Try.underlying49 hif1.out hy0.out hy1.out hy2.out rfl (by decide) (by decide) own0 rfl rfl (flat_len V.cells 3 V.cells_len y.l) hN.out.2.1 hN.out.2.2 (one_cells y.l) (by omega) (by simp [World.drew]) ?_
      intro v1 w1 hown1 hgrow1 hnb1
      simp only [Nat.zero_add, List.nil_append] at hown1
      obtain ⟨A1, c1, rfl, -, -, -⟩ := (Own.new hown1).cells
      have hb1 : Below wr.heap.size wr w1 := Below.grown (((Below.refl wr.heap.size wr).alloc (Nat.le_refl _) (.cells #[] 39)).drew) hgrow1 (fun g hg => by simp [Value.ownBlock] at hg; omega) (Nat.le_refl _)
      have F1 := Lib.hid (And.intro ((hb1.cell (p := ⟨w.heap.size, 1, none⟩) (show w.heap.size < wr.heap.size by omega)).trans a1) (And.intro ((hb1.cell (p := ⟨b, off + k * 2, none⟩) hbw).trans e0) ((hb1.cell (p := ⟨b, off + k * 2 + 1, none⟩) hbw).trans e1)))
      have o1n := (hb1.cell (p := ⟨w.heap.size + 1 + 1 + 1, 1, none⟩) hg3).trans o1
      have hout1 := owns_below Ho.out.1 hb1
      have hs1 := hb1.size
      have hg31 : w.heap.size + 1 + 1 + 1 < w1.heap.size := Nat.lt_of_lt_of_le hg3 hs1
      have hne31 : w.heap.size + 1 + 1 + 1 ≠ w1.heap.size := Nat.ne_of_lt hg31
      have Hown1 := Lib.hid hown1
      have Hb1 := Lib.hid hb1
      clear hown1 hgrow1 hnb1 hb1
      refine hK.out _ _ (fun _ => (⟨F1.out.1, F1.out.2.1, F1.out.2.2, o1n⟩ : (w1.cell? ⟨w.heap.size, 1, none⟩ = some (.slice (some ⟨b, off, none⟩) x.l.length ca) ∧ w1.cell? ⟨b, off + k * 2, none⟩ = some (.int .i64 y.id) ∧ w1.cell? ⟨b, off + k * 2 + 1, none⟩ = some (.slice As y.l.length cs) ∧ w1.cell? ⟨w.heap.size + 1 + 1 + 1, 1, none⟩ = some (.slice Av k cv)))) ?_
      clear hK
      simp only [Act.put, List.setIfInBounds_toArray, List.set_cons_zero, List.set_cons_succ]
      refine wpAnyT_one (k := 16) (o := _) (by kernel_rfl) rfl rfl ?_
      intro K hK
      go_simp
      refine hK.out _ _ (fun _ => (⟨F1.out.1, F1.out.2.1, F1.out.2.2, o1n⟩ : (w1.cell? ⟨w.heap.size, 1, none⟩ = some (.slice (some ⟨b, off, none⟩) x.l.length ca) ∧ w1.cell? ⟨b, off + k * 2, none⟩ = some (.int .i64 y.id) ∧ w1.cell? ⟨b, off + k * 2 + 1, none⟩ = some (.slice As y.l.length cs) ∧ w1.cell? ⟨w.heap.size + 1 + 1 + 1, 1, none⟩ = some (.slice Av k cv)))) ?_
      clear hK
      refine wpAnyT_one (k := 17) (o := _) (by kernel_rfl) rfl rfl ?_
      intro K hK
      go_simp
      refine hK.out _ _ (fun _ => ⟨cell_keep F1.out.1 (up_a1 _ _), cell_keep F1.out.2.1 (up_a1 _ _), cell_keep F1.out.2.2 (up_a1 _ _), cell_keep o1n (up_a1 _ _)⟩) ?_
      clear hK
      refine wpAnyT_one (k := 18) (o := _) (by kernel_rfl) rfl rfl ?_
      intro K hK
      refine step_app rfl _ _ 58 rfl (w.heap.size + 2) 128 i0 _ 2 32 Try.underlying58 hif.out hz0.out hz1.out hz2.out rfl (by decide) (by decide) (hout1.alloc _) rfl (heap_alloc_new _ _) rfl rfl (by simp [Value.oneCell']) (by omega) (by simp <;> omega) ?_
      intro v2 w3 hown2 hgrow2 hnb2
      obtain ⟨A2, c2, rfl, -, -, -⟩ := (Own.new hown2).cells
      have K2 : ∀ B' o : Nat, B' < w1.heap.size → some B' ≠ (Value.slice Av k cv).ownBlock → w3.cell? ⟨B', o, none⟩ = w1.cell? ⟨B', o, none⟩ := (fun B' o h1 h2 => (hgrow2.cell_far ⟨B', o, none⟩ (by simp <;> omega) h2).trans ((up_a1 w1 _).cell (p := ⟨B', o, none⟩) h1))
      have F1 := Lib.hid (And.intro ((K2 w.heap.size 1 (by omega) (hfr _ (.inl (by omega)))).trans F1.out.1) (And.intro ((K2 b (off + k * 2) (by omega) (hfr _ (.inl (by omega)))).trans F1.out.2.1) ((K2 b (off + k * 2 + 1) (by omega) (hfr _ (.inl (by omega)))).trans F1.out.2.2)))
      have Hc4 := Lib.hid ((hgrow2.block (w.heap.size + 1 + 1 + 1) (by simp <;> omega) (hfr _ (.inr rfl))).trans ((Below.heap_alloc w1 _ _ (by omega)).trans ((Hb1.out.block (w.heap.size + 1 + 1 + 1) hg3).trans Hc3.out)))
      have p1 := cell_of_row w3 _ 1 _ _ _ Hc4.out
      have pf := fun o => frozen_of_row w3 _ o _ _ Hc4.out
      have Hown2 := Lib.hid hown2
      have Hgrow2 := Lib.hid hgrow2
      have Hnb2 := Lib.hid hnb2
      clear hown2 hgrow2 hnb2 K2
      simp only [List.getElem?_toArray, List.getElem?_cons_zero, List.getElem?_cons_succ] at p1
      refine hK.out _ _ (fun _ => (⟨F1.out.1, F1.out.2.1, F1.out.2.2, p1⟩ : (w3.cell? ⟨w.heap.size, 1, none⟩ = some (.slice (some ⟨b, off, none⟩) x.l.length ca) ∧ w3.cell? ⟨b, off + k * 2, none⟩ = some (.int .i64 y.id) ∧ w3.cell? ⟨b, off + k * 2 + 1, none⟩ = some (.slice As y.l.length cs) ∧ w3.cell? ⟨w.heap.size + 1 + 1 + 1, 1, none⟩ = some (.slice Av k cv)))) ?_
      clear hK
      simp only [Act.put, List.setIfInBounds_toArray, List.set_cons_zero, List.set_cons_succ]
      refine wpAnyT_one (k := 19) (o := _) (by kernel_rfl) rfl rfl ?_
      intro K hK
      go_simp
      refine hK.out _ _ (fun _ => (⟨F1.out.1, F1.out.2.1, F1.out.2.2, p1⟩ : (w3.cell? ⟨w.heap.size, 1, none⟩ = some (.slice (some ⟨b, off, none⟩) x.l.length ca) ∧ w3.cell? ⟨b, off + k * 2, none⟩ = some (.int .i64 y.id) ∧ w3.cell? ⟨b, off + k * 2 + 1, none⟩ = some (.slice As y.l.length cs) ∧ w3.cell? ⟨w.heap.size + 1 + 1 + 1, 1, none⟩ = some (.slice Av k cv)))) ?_
      clear hK
      refine wpAnyT_one (k := 20) (o := _) (by kernel_rfl) rfl rfl ?_
      intro K hK
      go_simp
      refine hK.out _ _ (fun h => absurd rfl h) ?_
      clear hK
      refine wpAnyT_done (by kernel_rfl) ?_ _
      have K3 : ∀ B', B' < wr.heap.size → some B' ≠ (Value.slice Av k cv).ownBlock → w3.heap[B']? = wr.heap[B']? := fun B' h1 h2 => (Hgrow2.out.block B' (by simp; omega) h2).trans (((up_a1 w1 _).block B' (by omega)).trans (Hb1.out.block B' h1))
      have hsn := Hown.out.snoc (x := y) (Hb1.out.alloc hs1 _) (by omega) ((Own.new Hown1.out).below (up_a1 w1 _) (Nat.le_refl _)) (by simp) (by rw [hpl]; exact Hown2.out) Hgrow2.out (by simpa using Hnb2.out)
      have hfar' : Far (w.heap.size + 1 + 1 + 1) (Value.slice A2 (k + 1) c2) (ps ++ [(y, Value.slice A1 y.l.length c1)]) := Hfar.out.snoc (fun g hg => by
        rcases Hnb2.out g hg with h | h
        · exact .inl h
        · right; simp at h; omega) (fun g hg => by have := (Hown1.out.lt g hg).1; omega)
      have HsnF := Lib.hid (hsn.far hfar' (fun g hg => Below.heap_setCell w3 ⟨w.heap.size + 1 + 1 + 1, 1, none⟩ (Value.slice A2 (k + 1) c2) g hg))
      have Hfar' := Lib.hid hfar'
      have hc0n := Lib.hid ((set_keep29 (w := w3) (b := w.heap.size + 1 + 1 + 1) (o := 1) (u := Value.slice A2 (k + 1) c2) (g := w.heap.size) (by omega)).trans ((K3 _ (by omega) (hfr _ (.inl (by omega)))).trans Hc0.out))
      have hc1n := Lib.hid ((set_keep29 (w := w3) (b := w.heap.size + 1 + 1 + 1) (o := 1) (u := Value.slice A2 (k + 1) c2) (g := w.heap.size + 1) (by omega)).trans ((K3 _ (by omega) (hfr _ (.inl (by omega)))).trans Hc1.out))
      have hc3n := set1 (o := 1) (a := Value.slice A2 (k + 1) c2) Hc4.out
      simp only [List.setIfInBounds_toArray, List.set_cons_succ, List.set_cons_zero] at hc3n
      have Hc3n := Lib.hid hc3n
      have hbn := Lib.hid (below_set29 (Below.grown ((hb.trans (Hb1.out.mono hb.size)).alloc (Nat.le_trans hb.size hs1) _) Hgrow2.out (fun g hg => by have := (Ho.out.1.lt g hg).1; omega) (Nat.le_refl _)) (by omega) : Below w.heap.size w (w3.setCell ⟨w.heap.size + 1 + 1 + 1, 1, none⟩ (Value.slice A2 (k + 1) c2)))
      have HM := Lib.hid (show (ps ++ [(y, Value.slice A1 y.l.length c1)]).map Prod.fst = x.l.take (k + 1) by rw [List.map_append, Hps.out, Hy.out]; rfl)
      clear hsn hfar' hc3n K3 p1 pf o1n F1 a1 o0 o1 e0 e1 hS hN own0
      go_wp2_with fail
      go_roundw
      case rel => exact ⟨k + 1, _, _, by go_num, by omega, HM.out, HsnF.out.imp (fun _ _ _ => rfl) (Nat.le_refl _) (Nat.le_of_eq (by simp)), Hfar'.out, hc0n.out, hc1n.out, Hc3n.out, hbn.out⟩
      case measure => simp [intOf]; omega
    · obtain rfl : k = x.l.length := by omega
      have r0 := cell_of_row wr _ 0 _ _ _ Hc1.out
      have r1 := cell_of_row wr _ 1 _ _ _ Hc1.out
      simp only [List.getElem?_toArray, List.getElem?_cons_zero, List.getElem?_cons_succ] at r0 r1
      have f0 := fun o => frozen_of_row wr _ o _ _ Hc1.out
      go_wp2_with fail
      refine bodyPost_ret (v := .agg #[.int .i64 x.next, .slice Av x.l.length cv]) ?_ rfl ⟨_, rfl, ?_, ?_⟩
      · simp [results, Try.results105, go_sem, r0, r1]
      · refine OwnR.more (lo := w.heap.size + 2) (hi := wr.heap.size) ?_ (by omega) (Nat.le_of_eq (by simp [World.setCell]))
        iterate 2 refine OwnR.set ?_ (by omega) _
        exact ⟨ps, by rw [Hps.out, List.take_length], Hown.out⟩
      · iterate 2 refine below_set29 ?_ (by omega)
        exact hb
end Go.Proofs.Ytgjjkodlmhmjgaa
