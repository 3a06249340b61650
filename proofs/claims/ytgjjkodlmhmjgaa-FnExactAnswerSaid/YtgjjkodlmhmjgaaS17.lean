/- Copies of rows (reference): contracts. -/
import Derived.Test.YtgjjkodlmhmjgaaS16
namespace Go.Proofs.Ytgjjkodlmhmjgaa
open Go.Sort Go.ChangeShapes Go.WideShapes Go.ChangeAt Go.RowKit Go.Lb

set_option maxRecDepth 20000 in
set_option maxHeartbeats 1000000 in
theorem spec_l4Copy (x : R) (sv : Value) (w : World) {lo hi : Nat} (hx : RdV w lo hi sv x.l) (hhi : hi ≤ w.heap.size) (hn : x.l.length ≤ 1099511627776) :
    Calls Try.prog 101 #[.agg #[.int .i64 x.id, sv]] w fun e w' => ∃ v, e = .returned (.agg #[.int .i64 x.id, v]) ∧ Own 39 3 w' w.heap.size w'.heap.size v x.l.length (x.l.flatMap V.cells) ∧ Below w.heap.size w w' := by
  obtain ⟨A, c, rfl, hl, hl2⟩ := hx.form
  obtain ⟨i0, hif, hz0, hz1, hz2⟩ := info_parts info_val
  have hif := Lib.hid hif
  have hz0 := Lib.hid hz0
  have hz1 := Lib.hid hz1
  have hz2 := Lib.hid hz2
  have up := up_a2 w (.cells #[.int .i64 x.id, .slice A x.l.length c] 111) (.cells #[.int .i64 0, .slice none 0 0] 111)
  have up3 := (up.alloc (by simp; omega) (.cells #[] 39)).drew
  have hN := Lib.hid ((hx.below up3 hhi).news)
  have own0 := owns_drew (World.ownsRow_made ((w.alloc (.cells #[.int .i64 x.id, .slice A x.l.length c] 111)).alloc (.cells #[.int .i64 0, .slice none 0 0] 111)) (base := w.heap.size) (e := 39) (size := 3) #[] 0 (by simp; omega) (by decide) rfl)
  simp only [World.size_alloc] at own0
  have g0 := heap_alloc_new w (.cells #[.int .i64 x.id, .slice A x.l.length c] 111)
  have g0 := (((Below.refl _ _).alloc (Nat.le_refl _) (.cells #[.int .i64 0, .slice none 0 0] 111)).block w.heap.size (by simp)).trans g0
  have g1 := heap_alloc_new (w.alloc (.cells #[.int .i64 x.id, .slice A x.l.length c] 111)) (.cells #[.int .i64 0, .slice none 0 0] 111)
  simp only [World.size_alloc] at g1
  have G0 := Lib.hid ((((Below.refl _ _).alloc (Nat.le_refl _) (.cells #[] 39)).drew.block w.heap.size (by simp <;> omega)).trans g0)
  have G1 := Lib.hid ((((Below.refl _ _).alloc (Nat.le_refl _) (.cells #[] 39)).drew.block (w.heap.size + 1) (by simp <;> omega)).trans g1)
  have b0 := cell_of_row _ _ 0 _ _ _ g0
  have b1 := cell_of_row _ _ 1 _ _ _ g0
  simp only [List.getElem?_toArray, List.getElem?_cons_zero, List.getElem?_cons_succ] at b0 b1
  have hs : ((w.alloc (.cells #[.int .i64 x.id, .slice A x.l.length c] 111)).alloc (.cells #[.int .i64 0, .slice none 0 0] 111)).drew.heap.size = w.heap.size + 1 + 1 := by simp [World.drew]
  have HS := Lib.hid hs
  clear hs
  go_enter Try.func101, Try.ntmps101
  go_wp2_with fail
  go_region_held3 (fun w' => w'.cell? ⟨w.heap.size, 0, none⟩ = some (.int .i64 x.id) ∧ w'.cell? ⟨w.heap.size, 1, none⟩ = some (.slice A x.l.length c)) (first | exact ⟨b0, b1⟩ | exact ⟨e0, e1⟩ | go_keep) (first | (refine step_spread rfl _ _ 49 rfl w.heap.size 39 i0 _ 3 32 Try.underlying49 hif.out hz0.out hz1.out hz2.out rfl (by decide) (by decide) own0 rfl rfl (flat_len V.cells 3 V.cells_len x.l) hN.out.2.1 hN.out.2.2 (one_cells x.l) (by omega) (by simp [World.drew] <;> omega) ?_; intro v' w1 hown hgrow hnb; obtain ⟨A', c', rfl, -, -, -⟩ := (Own.new hown).cells; have c0 := (hgrow.block w.heap.size (by simp [World.drew] <;> omega) (by simp [Value.ownBlock] <;> omega)).trans G0.out; have c1 := (hgrow.block (w.heap.size + 1) (by simp [World.drew] <;> omega) (by simp [Value.ownBlock])).trans G1.out; have e0 := cell_of_row w1 _ 0 _ _ _ c0; have e1 := cell_of_row w1 _ 1 _ _ _ c0; have d0 := cell_of_row w1 _ 0 _ _ _ c1; have d1 := cell_of_row w1 _ 1 _ _ _ c1; have df := fun o => frozen_of_row w1 _ o _ _ c1; have Hown := Lib.hid hown; have Hg := Lib.hid hgrow; have Hnb := Lib.hid hnb; clear hown hgrow hnb c0 c1))
  go_wp2_with fail
  have hz := Hg.out.size
  simp [World.drew] at hz
  have hO := Hown.out
  simp only [Nat.zero_add, List.nil_append] at hO
  have hI : InR (w.heap.size + 1 + 1) w1.heap.size (Value.slice A' x.l.length c').ownBlock := fun g hg => by
    refine ⟨?_, (hO.lt g hg).2⟩
    rcases Hnb.out g (by simpa using hg) with h | h
    · simp [Value.ownBlock] at h; omega
    · simp [World.drew] at h; omega
  refine bodyPost_ret (v := .agg #[.int .i64 x.id, .slice A' x.l.length c']) ?_ rfl ⟨_, rfl, ?_, ?_⟩
  · simp [results, Try.results101, go_sem, d0, d1]
  · refine Own.more (lo := w.heap.size + 1 + 1) (hi := w1.heap.size) ?_ (by omega) (Nat.le_of_eq (by simp [World.setCell]))
    exact ((Own.of_zero (owns_zero hO) hI).set (by omega) _).set (by omega) _
  · iterate 2 refine Below.setCell ?_ (by simp <;> omega) _
    exact Below.grown up3 Hg.out (fun g h => by simp [Value.ownBlock] at h; omega) (Nat.le_refl _)
end Go.Proofs.Ytgjjkodlmhmjgaa
