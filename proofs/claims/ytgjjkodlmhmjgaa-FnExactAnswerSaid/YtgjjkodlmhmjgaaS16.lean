/- Copies of rows: contracts. -/
import Derived.Test.YtgjjkodlmhmjgaaS15
namespace Go.Proofs.Ytgjjkodlmhmjgaa
open Go.Sort Go.ChangeShapes Go.WideShapes Go.ChangeAt Go.RowKit Go.Lb

set_option maxRecDepth 20000 in
set_option maxHeartbeats 1000000 in
theorem impl_cloneRow (x : R) (sv : Value) (w : World) {lo hi : Nat} (hx : RdV w lo hi sv x.l) (hhi : hi ≤ w.heap.size) (hn : x.l.length ≤ 1099511627776) :
    Calls Try.prog 103 #[.agg #[.int .i64 x.id, sv]] w fun e w' => ∃ v, e = .returned (.agg #[.int .i64 x.id, v]) ∧ Own 39 3 w' w.heap.size w'.heap.size v x.l.length (x.l.flatMap V.cells) ∧ Below w.heap.size w w' := by
  have up := up_a2 w (.cells #[.int .i64 x.id, sv] 111) (.cells #[.int .i64 0, .slice none 0 0] 111)
  have hC := Lib.hid (impl_cloneVals x.l sv ((w.alloc (.cells #[.int .i64 x.id, sv] 111)).alloc (.cells #[.int .i64 0, .slice none 0 0] 111)).drew (hx.below up.drew hhi) (by simp [World.drew]; omega) hn)
  have g0 := heap_alloc_new w (.cells #[.int .i64 x.id, sv] 111)
  have g0 := (((Below.refl _ _).alloc (Nat.le_refl _) (.cells #[.int .i64 0, .slice none 0 0] 111)).block w.heap.size (by simp)).trans g0
  have g1 := heap_alloc_new (w.alloc (.cells #[.int .i64 x.id, sv] 111)) (.cells #[.int .i64 0, .slice none 0 0] 111)
  simp only [World.size_alloc] at g1
  have G0 := Lib.hid g0
  have G1 := Lib.hid g1
  have b0 := cell_of_row _ _ 0 _ _ _ g0
  have b1 := cell_of_row _ _ 1 _ _ _ g0
  simp only [List.getElem?_toArray, List.getElem?_cons_zero, List.getElem?_cons_succ] at b0 b1
  clear g0 g1
  go_enter Try.func103, Try.ntmps103
  go_wp2_with fail
  go_region_held3 (fun w' => w'.cell? ⟨w.heap.size, 0, none⟩ = some (.int .i64 x.id) ∧ w'.cell? ⟨w.heap.size, 1, none⟩ = some sv) (first | exact ⟨b0, b1⟩ | exact ⟨e0, e1⟩ | go_keep) (first | (go_at_call 108; ((with_reducible refine hC.out.mono ?_); rintro e w1 ⟨v, rfl, hown, hb1⟩; obtain ⟨A, c, rfl, -, -, -⟩ := hown.cells; have c0 := (hb1.block w.heap.size (by simp [World.drew] <;> omega)).trans G0.out; have c1 := (hb1.block (w.heap.size + 1) (by simp [World.drew] <;> omega)).trans G1.out; have e0 := cell_of_row w1 _ 0 _ _ _ c0; have e1 := cell_of_row w1 _ 1 _ _ _ c0; have d0 := cell_of_row w1 _ 0 _ _ _ c1; have d1 := cell_of_row w1 _ 1 _ _ _ c1; have df := fun o => frozen_of_row w1 _ o _ _ c1; have Hown := Lib.hid hown; have Hb := Lib.hid hb1; have Hc1 := Lib.hid c1; clear hown c0 c1)))
  go_wp2_with fail
  have hz := Hb.out.size
  have hs : ((w.alloc (.cells #[.int .i64 x.id, sv] 111)).alloc (.cells #[.int .i64 0, .slice none 0 0] 111)).drew.heap.size = w.heap.size + 1 + 1 := by simp [World.drew]
  rw [hs] at hz
  refine bodyPost_ret (v := .agg #[.int .i64 x.id, .slice A x.l.length c]) ?_ rfl ⟨_, rfl, ?_, ?_⟩
  · simp [results, Try.results103, go_sem, d0, d1]
  · have h := Hown.out
    rw [hs] at h
    refine Own.more (lo := w.heap.size + 1 + 1) (hi := w1.heap.size) ?_ (by omega) (Nat.le_of_eq (by simp [World.setCell]))
    exact (h.set (by omega) _).set (by omega) _
  · iterate 2 refine Below.setCell ?_ (by simp <;> omega) _
    exact up.drew.trans (Hb.out.mono (by rw [hs]; omega))
end Go.Proofs.Ytgjjkodlmhmjgaa
