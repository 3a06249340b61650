/- Small words for walks of laws that lay predicates themselves. No conditions. -/
import Derived.Test.YtidmlfjolhnnfaaGreatDoorXA
import Derived.Test.YtidmlfjolhnnfaaGreatDoorD33
import Derived.Test.YtidmlfjolhnnfaaGreatDoorXG
namespace Go.Lb
open Go.RowKit
theorem RdP.top {w : World} {lo hi : Nat} {v : Value} {l : List P} (h : RdP w lo hi v l) (hh : hi ≤ w.heap.size) : RdP w 0 w.heap.size v l := h.more (Nat.zero_le _) hh
theorem RdP.go {w w' : World} {v : Value} {l : List P} (h : RdP w 0 w.heap.size v l) (hb : Below w.heap.size w w') : RdP w' 0 w'.heap.size v l := (h.below hb (Nat.le_refl _)).more (Nat.zero_le _) hb.size
theorem RdZ.top {w : World} {lo hi : Nat} {v : Value} {l : List Z} (h : RdZ w lo hi v l) (hh : hi ≤ w.heap.size) : RdZ w 0 w.heap.size v l := RdG.imp h (Nat.zero_le _) hh (fun _ _ _ _ _ h => h)
theorem RdZ.go {w w' : World} {v : Value} {l : List Z} (h : RdZ w 0 w.heap.size v l) (hb : Below w.heap.size w w') : RdZ w' 0 w'.heap.size v l := RdG.imp (RdZ.same h (.of_below hb (Nat.le_refl _))) (Nat.zero_le _) hb.size (fun _ _ _ _ _ h => h)
/-- A block that the law lays itself. -/
def BlkAt (w : World) (b : Nat) (o : Obj) : Prop := w.heap[b]? = some o
theorem BlkAt.go {w w' : World} {b : Nat} {o : Obj} (h : BlkAt w b o) (hb : Below w.heap.size w w') : BlkAt w' b o := (hb.block b (Array.getElem?_eq_some_iff.1 h).1).trans h
theorem rdP_one {w : World} {lo hi b : Nat} {p : P} {sv : Value} {t : TypeId} (hb : BlkAt w b (.cells #[.int .i64 p.kind, .int .i64 p.col, .int .i64 p.op, .int .i64 p.v.ty, .int .i64 p.v.n, .string p.v.s, sv] t)) (h1 : lo ≤ b) (h2 : b < hi) (hs : RdP w lo hi sv p.l) : RdP w lo hi (.slice (some ⟨b, 0, none⟩) 1 1) [p] := by
  have hc : ∀ j, w.cell? ⟨b, j, none⟩ = (#[.int .i64 p.kind, .int .i64 p.col, .int .i64 p.op, .int .i64 p.v.ty, .int .i64 p.v.n, .string p.v.s, sv] : Array Value)[j]? := fun j => cell_of_row w b j _ _ _ hb
  refine RdPi.mk (some ⟨b, 0, none⟩) 1 [p] b 0 (fun _ => sv) (Nat.le_refl _) (by decide) (fun _ => ⟨rfl, h1, h2⟩) (fun k x hx => ?_) (fun k x hx => ?_)
  all_goals
    have hk : k = 0 := by
      have := (List.getElem?_eq_some_iff.1 hx).1
      simp at this
      omega
    subst hk
    simp only [List.getElem?_cons_zero, Option.some.injEq] at hx
    subst hx
  · exact ⟨hc 0, hc 1, hc 2, hc 3, hc 4, hc 5, hc 6⟩
  · exact hs
end Go.Lb
