/- The law FnExactCellText: the walk. No conditions. -/
import Derived.Test.YtjdnjpfjamcilaaDoorTC
namespace Go.Proofs.YtjdnjpfjamcilaaDoor
open Go.Sort Go.ChangeShapes Go.WideShapes Go.ChangeAt Go.RowKit Go.Lb
theorem int_wf {n : Int} (h : (Lit.int .i64 n).wf = true) : -9223372036854775808 ≤ n ∧ n ≤ 9223372036854775807 := by
  simp [Lit.wf] at h
  exact h
set_option maxHeartbeats 1000000 in
theorem wCellText (n : Int) (w : World) (w0 : (Lit.int .i64 n).wf = true) (ht : Pow w) :
    Calls Tryd.prog 3 #[.int .i64 n] w fun e w' => e = .returned (.bool true) ∧ Below w.heap.size w w' := by
  obtain ⟨h0, h1⟩ := int_wf w0
  clear w0
  have HC := Lib.hid (spec_CellText n w h0 h1 ht)
  have HD := Lib.hid (fun W (h : Below w.heap.size w W) => impl_CellText n W h0 h1 (TabIs.below ht h))
  obtain ⟨t, hts⟩ : ∃ t, cellText n = t := ⟨_, rfl⟩
  rw [hts] at HC HD
  clear ht hts
  go_enter Tryd.func3, Tryd.ntmps3
  go_wp2_with fail
  refine HC.out.mono ?_
  rintro e w1 ⟨rfl, hb⟩
  go_wp2_with fail
  refine (HD.out w1 hb).mono ?_
  rintro e w2 ⟨rfl, hb2⟩
  go_wp2_with fail
  go_ret
  exact ⟨rfl, hb.trans (hb2.mono hb.size)⟩
end Go.Proofs.YtjdnjpfjamcilaaDoor
