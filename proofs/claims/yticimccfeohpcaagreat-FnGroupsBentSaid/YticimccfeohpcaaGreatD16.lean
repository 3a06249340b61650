/- Draws: lists of numbers, bytes. -/
import Derived.Test.YticimccfeohpcaaGreatXD
import Derived.Test.YticimccfeohpcaaGreatXA
namespace Go.Proofs.YticimccfeohpcaaGreat
open Go.Sort Go.ChangeShapes Go.WideShapes Go.ChangeAt Go.RowKit Go.Lb
def GoodI (B : Nat) (w : World) (v : Value) (l : List Int) : Prop := Own 3 1 w B w.heap.size v l.length (l.map (Value.int .i64))
def GoodB (B : Nat) (w : World) (v : Value) (l : List UInt8) : Prop := Own 5 1 w B w.heap.size v l.length (bc l)
theorem app_goodG {w w2 w3 : World} {g e n : Nat} {v v' : Value} {xs ys : List Value} {cs : Array Value} {t : TypeId} (hlt : g < w.heap.size) (hown : w2.ownsRow w.heap.size e 1 v n xs) (hch : Chg g (g + 1) w w2) (hd : Dr w2 g)
    (hown' : w3.ownsRow w.heap.size e 1 v' (n + 1) ys) (hgrow : (w2.alloc (.cells cs t)).grownBy w3 v.ownBlock) :
    w3.ownsRow w.heap.size e 1 v' (n + 1) ys ∧ Chg g (g + 1) w w3 ∧ Dr w3 g := by
  have hr : ∀ b, v.ownBlock = some b → w.heap.size ≤ b := fun b hb => (hown.lt b hb).1
  exact ⟨hown', chg_grown (hch.trans (chg_new g w2 cs t)) hgrow hr, (dr_new hd cs t).grown hgrow fun b hb => Nat.lt_of_lt_of_le hlt (hr b hb)⟩
end Go.Proofs.YticimccfeohpcaaGreat
