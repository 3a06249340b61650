/- Draws: a zone and a value. -/
import Derived.Test.YticimccfeohpcaaXD
import Derived.Test.YticimccfeohpcaaZ1
import Derived.Deep.RegionWith
namespace Go.Proofs.Yticimccfeohpcaa
open Go.Sort Go.ChangeShapes Go.WideShapes Go.ChangeAt Go.RowKit Go.Lb

theorem rdV_all {w : World} {lo hi n c b off : Nat} {l : List V} (h : RdV w lo hi (.slice (some ⟨b, off, none⟩) n c) l) :
    (∀ k, k < n → w.cell? ⟨b, off + k * 3, none⟩ = some (.int .i64 (l.getD k V.zero).ty)) ∧ (∀ k, k < n → w.cell? ⟨b, off + k * 3 + 1, none⟩ = some (.int .i64 (l.getD k V.zero).n)) ∧ (∀ k, k < n → w.cell? ⟨b, off + k * 3 + 2, none⟩ = some (.string (l.getD k V.zero).s)) := by
  refine ⟨fun k hk => ?_, fun k hk => ?_, fun k hk => ?_⟩
  all_goals
    obtain ⟨b', off', x, hA, -, -, hxk, e0, e1, e2⟩ := h.at hk
    injection hA with hA
    injection hA with h1 h2 h3
    subst h1 h2
    rw [List.getD_eq_getElem?_getD, hxk]
    first | exact e0 | exact e1 | exact e2
theorem all_set {w : World} {b off n b' o' d : Nat} {f : Nat → Value} {u : Value} (hne : b ≠ b') (h : ∀ k, k < n → w.cell? ⟨b, off + k * 3 + d, none⟩ = some (f k)) : ∀ k, k < n → (w.setCell ⟨b', o', none⟩ u).cell? ⟨b, off + k * 3 + d, none⟩ = some (f k) := fun k hk => cell_set_ne hne (h k hk)
theorem all_set0 {w : World} {b off n b' o' : Nat} {f : Nat → Value} {u : Value} (hne : b ≠ b') (h : ∀ k, k < n → w.cell? ⟨b, off + k * 3, none⟩ = some (f k)) : ∀ k, k < n → (w.setCell ⟨b', o', none⟩ u).cell? ⟨b, off + k * 3, none⟩ = some (f k) := fun k hk => cell_set_ne hne (h k hk)
theorem all_drew {w : World} {b off n d : Nat} {f : Nat → Value} (h : ∀ k, k < n → w.cell? ⟨b, off + k * 3 + d, none⟩ = some (f k)) : ∀ k, k < n → w.drew.cell? ⟨b, off + k * 3 + d, none⟩ = some (f k) := h
theorem all_drew0 {w : World} {b off n : Nat} {f : Nat → Value} (h : ∀ k, k < n → w.cell? ⟨b, off + k * 3, none⟩ = some (f k)) : ∀ k, k < n → w.drew.cell? ⟨b, off + k * 3, none⟩ = some (f k) := h
end Go.Proofs.Yticimccfeohpcaa
