/- Copies of lists of values: contracts. -/
import Derived.Test.YtgjjkodlmhmjgaaLR4
namespace Go.Proofs.Ytgjjkodlmhmjgaa
open Go.Sort Go.ChangeShapes Go.WideShapes Go.ChangeAt Go.RowKit Go.Lb

set_option maxHeartbeats 1000000 in
theorem impl_cloneVals (l : List V) (x : Value) (w : World) {lo hi : Nat} (hx : RdV w lo hi x l) (hhi : hi ≤ w.heap.size) (hn : l.length ≤ 1099511627776) :
    Calls Try.prog 108 #[x] w fun e w' => ∃ v, e = .returned v ∧ Own 39 3 w' w.heap.size w'.heap.size v l.length (l.flatMap V.cells) ∧ Below w.heap.size w w' := by
  obtain ⟨A, c, rfl, hl, hl2⟩ := hx.form
  obtain ⟨i0, hif, hz0, hz1, hz2⟩ := info_parts info_val
  have hif := Lib.hid hif
  have hz0 := Lib.hid hz0
  have hz1 := Lib.hid hz1
  have hz2 := Lib.hid hz2
  have hN := Lib.hid ((hx.below (up_a1 w (.cells #[] 39)) hhi).news)
  have own0 := World.ownsRow_made w (base := w.heap.size) (e := 39) (size := 3) #[] 0 (Nat.le_refl _) (by decide) rfl
  go_enter Try.func108, Try.ntmps108
  go_wp2_with (at_builtin; refine wpl_spread rfl _ _ 49 rfl w.heap.size 39 i0 _ 3 32 Try.underlying49 hif.out hz0.out hz1.out hz2.out rfl (by decide) (by decide) own0 rfl rfl (flat_len V.cells 3 V.cells_len l) hN.out.2.1 hN.out.2.2 (one_cells l) (by omega) (by simp) ?_)
  intro v' w1 hown hgrow _
  have hb := below_app ((Below.refl w.heap.size w).alloc (Nat.le_refl _) _) own0 hgrow (Nat.le_refl _)
  try simp only [Nat.zero_add, List.nil_append] at hown
  clear hgrow own0
  go_wp2_with fail
  go_ret
  exact ⟨_, rfl, .new hown, hb⟩
end Go.Proofs.Ytgjjkodlmhmjgaa
