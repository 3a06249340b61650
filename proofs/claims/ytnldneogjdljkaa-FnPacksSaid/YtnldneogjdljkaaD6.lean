/- Draws: an operator and two values. -/
import Derived.Test.YtnldneogjdljkaaD5
namespace Go.Proofs.Ytnldneogjdljkaa
open Go.Sort Go.ChangeShapes Go.WideShapes Go.ChangeAt Go.RowKit Go.Lb

theorem Dr.drew {w : World} {g : Nat} (h : Dr w g) : Dr w.drew g := h.below (Below.refl _ _).drew
theorem chg_below {w w1 w2 : World} {g B : Nat} (hb : Below B w w1) (h : Chg g (g + 1) w1 w2) (hB : B ≤ g) (hw : B ≤ w.heap.size) : Below B w w2 := hb.trans (h.below hB (Nat.le_trans hw hb.size))
theorem below_set {B : Nat} {w w' : World} {b o : Nat} (h : Below B w w') (hb : B ≤ b) (u : Value) : Below B w (w'.setCell ⟨b, o, none⟩ u) := Below.setCell h hb u
theorem cell_drew {w : World} {a : Addr} {x : Option Value} (h : w.cell? a = x) : w.drew.cell? a = x := h
theorem cell_set_ne {w : World} {b o b' o' : Nat} {x : Option Value} {u : Value} (hne : b ≠ b') (h : w.cell? ⟨b, o, none⟩ = x) : (w.setCell ⟨b', o', none⟩ u).cell? ⟨b, o, none⟩ = x := (World.cell?_of_block (a := ⟨b, o, none⟩) (Below.heap_setCell w ⟨b', o', none⟩ u b hne)).trans h
end Go.Proofs.Ytnldneogjdljkaa
