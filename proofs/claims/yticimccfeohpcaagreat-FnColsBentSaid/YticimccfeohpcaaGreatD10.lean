/- Draws: what the laws on zones draw. -/
import Derived.Test.YticimccfeohpcaaGreatD9
namespace Go.Proofs.YticimccfeohpcaaGreat
open Go.Sort Go.ChangeShapes Go.WideShapes Go.ChangeAt Go.RowKit Go.Lb

set_option maxRecDepth 20000 in
set_option maxHeartbeats 4000000 in
theorem spec_DrawVals (code : List UInt8) (x : Value) (w : World) {lo hi : Nat} (hx : RdB w lo hi x code) (hhi : hi ≤ w.heap.size) (hn : code.length ≤ 1048576) :
    Calls Tryz.prog 51 #[x] w fun e w' => ∃ (v : Value) (l : List V), e = .returned v ∧ RdV w' w.heap.size w'.heap.size v l ∧ 0 < l.length ∧ l.length ≤ 20 ∧ (∀ x ∈ l, x.s.size ≤ 100) ∧ Below w.heap.size w w' := by
  go_enter Tryz.func51, Tryz.ntmps51
  go_wp2_with fail
  refine (spec_l1New code x w hx hhi hn).mono ?_
  rintro e w1 ⟨g, rfl, hg, hb1, hd1⟩
  go_wp2_with fail
  refine (spec_l5Draw w1 g hd1).mono ?_
  rintro e w2 ⟨v, rfl, ⟨l, ⟨hown, hsm⟩, hl0, hll⟩, hch2, hd2⟩
  go_wp2_with fail
  go_ret
  exact ⟨v, l, rfl, hown.rdV.more hb1.size (Nat.le_refl _), hl0, hll, hsm, chg_below hb1 hch2 hg (Nat.le_refl _)⟩
end Go.Proofs.YticimccfeohpcaaGreat
