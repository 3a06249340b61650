/- Draws: columns and rows, as the laws on row groups draw them. -/
import Derived.Test.YticimccfeohpcaaGreatXA
import Derived.Test.YticimccfeohpcaaGreatD14
namespace Go.Lb
theorem rsok_small {l : List R} (h : SmallR l) : RsOk l := fun r hr v hv => Nat.le_trans ((h r hr).2 v hv) (by decide)
end Go.Lb
namespace Go.Proofs.YticimccfeohpcaaGreat
open Go.Sort Go.ChangeShapes Go.WideShapes Go.ChangeAt Go.RowKit Go.Lb
set_option maxRecDepth 20000 in
set_option maxHeartbeats 4000000 in
theorem spec_DrawPutGroup (code : List UInt8) (x : Value) (w : World) {lo hi : Nat} (hx : RdB w lo hi x code) (hhi : hi ≤ w.heap.size) (hn : code.length ≤ 1048576) :
    Calls Tryz.prog 55 #[x] w fun e w' => ∃ (cv lv : Value) (cols : List Int) (l : List R), e = .returned (.tuple #[cv, lv]) ∧ RdI w' w.heap.size w'.heap.size cv cols ∧ cols.length ≤ 3 ∧ RdR w' w.heap.size w'.heap.size lv l ∧ l.length ≤ 9 ∧ SmallR l ∧ Below w.heap.size w w' := by
  go_enter Tryz.func55, Tryz.ntmps55
  go_wp2_with fail
  refine (spec_l1New code x w hx hhi hn).mono ?_
  rintro e w1 ⟨g, rfl, hg, hb1, hd1⟩
  have hs1 := hb1.size
  go_wp2_with fail
  refine (spec_l13Rows w1 g hd1).mono ?_
  rintro e w2 ⟨_, rfl, ⟨cv, lv, cols, l, rfl, hc, hcl, hr, hll, hsm⟩, hch, hd2⟩
  have hr := hr.rdR
  obtain ⟨Ac, cc, rfl, -, -⟩ := hc.form
  obtain ⟨Ar, cr, rfl, -, -⟩ := hr.form
  have hb2 := chg_below hb1 hch hg (Nat.le_refl _)
  go_wp2_with fail
  refine bodyPost_ret (v := .tuple #[.slice Ac cols.length cc, .slice Ar l.length cr]) (by simp [results, Tryz.results55, go_sem]) rfl ?_
  exact ⟨_, _, cols, l, rfl, hc.more hs1 (Nat.le_refl _), hcl, hr.more hs1 (Nat.le_refl _), hll, hsm, hb2⟩
end Go.Proofs.YticimccfeohpcaaGreat
