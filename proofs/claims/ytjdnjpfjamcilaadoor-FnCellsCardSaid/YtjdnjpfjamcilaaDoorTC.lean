/- Cells as text: contracts. -/
import Derived.Test.YtjdnjpfjamcilaaDoorTN
namespace Go.Proofs.YtjdnjpfjamcilaaDoor
open Go.Sort Go.ChangeShapes Go.WideShapes Go.ChangeAt Go.RowKit Go.Lb
def cellText (n : Int) : ByteArray := if n = 0 then ⟨#[45]⟩ else if n = -1 then ⟨#[63]⟩ else numText n
theorem spec_CellText (n : Int) (w : World) (h0 : -9223372036854775808 ≤ n) (h1 : n ≤ 9223372036854775807) (ht : Pow w) :
    Calls Tryd.prog 5 #[.int .i64 n] w fun e w' => e = .returned (.string (cellText n)) ∧ Below w.heap.size w w' := by
  by_cases hn : n = 0
  · subst hn
    clear ht
    go_enter Tryd.func5, Tryd.ntmps5
    go_wp2_with fail
    go_ret
    exact ⟨rfl, Below.refl _ _⟩
  by_cases hm : n = -1
  · subst hm
    clear ht
    go_enter Tryd.func5, Tryd.ntmps5
    go_wp2_with fail
    go_ret
    exact ⟨rfl, Below.refl _ _⟩
  have b0 : (n == 0) = false := by simp [hn]
  have b1 : (n == -1) = false := by simp [hm]
  have HE := Lib.hid (show cellText n = numText n by rw [cellText, if_neg hn, if_neg hm])
  have HC := Lib.hid (spec_NumText' n w h0 h1 ht)
  clear hn hm ht
  go_enter Tryd.func5, Tryd.ntmps5
  go_wp2_with fail
  refine HC.out.mono ?_
  rintro e w' ⟨rfl, hb⟩
  go_wp2_with fail
  go_ret
  refine ⟨?_, hb⟩
  rw [HE.out]
  rfl
theorem impl_CellText (n : Int) (w : World) (h0 : -9223372036854775808 ≤ n) (h1 : n ≤ 9223372036854775807) (ht : Pow w) :
    Calls Tryd.prog 6 #[.int .i64 n] w fun e w' => e = .returned (.string (cellText n)) ∧ Below w.heap.size w w' := by
  by_cases hn : n = 0
  · subst hn
    clear ht
    go_enter Tryd.func6, Tryd.ntmps6
    go_wp2_with fail
    go_ret
    exact ⟨rfl, Below.refl _ _⟩
  by_cases hm : n = -1
  · subst hm
    clear ht
    go_enter Tryd.func6, Tryd.ntmps6
    go_wp2_with fail
    go_ret
    exact ⟨rfl, Below.refl _ _⟩
  have b0 : (n == 0) = false := by simp [hn]
  have b1 : (n == -1) = false := by simp [hm]
  have HE := Lib.hid (show cellText n = numText n by rw [cellText, if_neg hn, if_neg hm])
  have HC := Lib.hid (impl_NumText' n w h0 h1 ht)
  clear hn hm ht
  go_enter Tryd.func6, Tryd.ntmps6
  go_wp2_with fail
  refine HC.out.mono ?_
  rintro e w' ⟨rfl, hb⟩
  go_wp2_with fail
  go_ret
  refine ⟨?_, hb⟩
  rw [HE.out]
  rfl
end Go.Proofs.YtjdnjpfjamcilaaDoor
