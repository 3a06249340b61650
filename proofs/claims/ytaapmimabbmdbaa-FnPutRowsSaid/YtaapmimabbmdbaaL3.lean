/- The laws' helper that compares two lists of values: its contract. -/
import Derived.Test.YtaapmimabbmdbaaL1
namespace Go.Proofs.Ytaapmimabbmdbaa
open Go.ChangeShapes Go.WideShapes Go.ChangeAt Go.RowKit Go.Lb

theorem eq_of_drop {α : Type} [DecidableEq α] {xs ys : List α} {k : Nat} {x y : α} (hl : xs.length = ys.length) (ht : xs.take k = ys.take k) (hx : xs[k]? = some x) (hy : ys[k]? = some y) :
    (x = y → xs.take (k + 1) = ys.take (k + 1)) ∧ (x ≠ y → xs ≠ ys) := by
  refine ⟨fun h => ?_, fun h e => ?_⟩
  · rw [take_of_get hx, take_of_get hy, ht, h]
  · subst e
    rw [hx] at hy
    exact h (by injection hy)

theorem keep6 {w W w1 : World} {b o b' o' : Nat} {u0 u1 u2 u0' u1' u2' : Value} (hb : b < w.heap.size) (hb' : b' < w.heap.size)
    (h : (W.cell? ⟨b, o, none⟩ = some u0 ∧ W.cell? ⟨b, o + 1, none⟩ = some u1 ∧ W.cell? ⟨b, o + 2, none⟩ = some u2) ∧ (W.cell? ⟨b', o', none⟩ = some u0' ∧ W.cell? ⟨b', o' + 1, none⟩ = some u1' ∧ W.cell? ⟨b', o' + 2, none⟩ = some u2') ∧ Below w.heap.size w W) (h1 : Below W.heap.size W w1) :
    (w1.cell? ⟨b, o, none⟩ = some u0 ∧ w1.cell? ⟨b, o + 1, none⟩ = some u1 ∧ w1.cell? ⟨b, o + 2, none⟩ = some u2) ∧ (w1.cell? ⟨b', o', none⟩ = some u0' ∧ w1.cell? ⟨b', o' + 1, none⟩ = some u1' ∧ w1.cell? ⟨b', o' + 2, none⟩ = some u2') ∧ Below w.heap.size w w1 := by
  obtain ⟨⟨h2, h3, h4⟩, ⟨h5, h6, h7⟩, h8⟩ := h
  have hs := h8.size
  have k : ∀ o, w1.cell? ⟨b, o, none⟩ = W.cell? ⟨b, o, none⟩ := fun o => h1.cell (p := ⟨b, o, none⟩) (by show b < _; omega)
  have k' : ∀ o, w1.cell? ⟨b', o, none⟩ = W.cell? ⟨b', o, none⟩ := fun o => h1.cell (p := ⟨b', o, none⟩) (by show b' < _; omega)
  simp only [k, k']
  exact ⟨⟨h2, h3, h4⟩, ⟨h5, h6, h7⟩, h8.trans (h1.mono hs)⟩

end Go.Proofs.Ytaapmimabbmdbaa
