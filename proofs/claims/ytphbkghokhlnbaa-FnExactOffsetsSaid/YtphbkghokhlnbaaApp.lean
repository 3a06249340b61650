/- Small words for a slice that is built by appends. No conditions; nothing here speaks of the program. -/
import Derived.Test.YtphbkghokhlnbaaMem
import Derived.Deep.AppendLies
import Derived.Lib.QuietBelow
namespace Go.Lb
open Go.RowKit

section
variable {P : Program} {w : World} {ops : Array Oper} {rest : List Oper} {o : Oper} {a : Act} {Q : Exit → Act → World → Prop}
/-- One element is appended (a plain region's list). -/
theorem wpl_app (hgd : o.guard = none) (s x : Operand) (t : TypeId) (ho : o.op = .call { callee := .builtin .append, args := #[s, x], argTypes := #[t, t] })
    (base : Nat) (e : TypeId) (i : TypeInfo) (z : Value) (size bytes : Nat) (ht : P.underlying t = some (.slice e)) (hi : P.info? e = some i) (hz : i.zero = some z)
    (hsize : i.size = size) (hby : i.bytes = bytes) (hzs : z.cells.size = size) (hsz : 0 < size) (hb64 : bytes ≤ 64)
    {v : Value} {n : Nat} {xs : List Value} (hown : w.ownsRow base e size v n xs) (hs : a.eval s = v)
    {B : Nat} {cs : Array Value} {ty : TypeId} {fr : Nat × Nat} (hB : w.heap[B]? = some (.cells cs ty fr)) (hx : a.eval x = .slice (some ⟨B, 0, none⟩) 1 1)
    (hcs : cs.size = size) (h1 : ∀ u ∈ cs.toList, u.oneCell' = true) (hn : n ≤ 1099511627776) (hbase : base ≤ w.heap.size)
    (h : ∀ v' w', w'.ownsRow base e size v' (n + 1) (xs ++ cs.toList) → w.grownBy w' v.ownBlock → wpList P ops Q rest (a.put o.dst v') w') : wpList P ops Q (o :: rest) a w :=
  wpList_append_lies w hgd s x t ho base e i z size bytes ht hi hz hsize hby hzs hsz v n xs hs hown ⟨B, 0, none⟩ 1 1 cs.toList hx (by simp [hcs]) (World.news_of_block hB) h1 (by omega)
    (by unfold maxLen; omega) (by have := Nat.mul_le_mul (show n + 1 ≤ 1099511627777 by omega) hb64; omega) hbase _ rfl fun _ _ w' h2 h3 _ _ => h _ w' h2 h3
/-- The same at a step of a region that draws its order. -/
theorem step_app {K : Act → World → Prop} {E : Prop} (hgd : o.guard = none) (s x : Operand) (t : TypeId) (ho : o.op = .call { callee := .builtin .append, args := #[s, x], argTypes := #[t, t] })
    (base : Nat) (e : TypeId) (i : TypeInfo) (z : Value) (size bytes : Nat) (ht : P.underlying t = some (.slice e)) (hi : P.info? e = some i) (hz : i.zero = some z)
    (hsize : i.size = size) (hby : i.bytes = bytes) (hzs : z.cells.size = size) (hsz : 0 < size) (hb64 : bytes ≤ 64)
    {v : Value} {n : Nat} {xs : List Value} (hown : w.ownsRow base e size v n xs) (hs : a.eval s = v)
    {B : Nat} {cs : Array Value} {ty : TypeId} {fr : Nat × Nat} (hB : w.heap[B]? = some (.cells cs ty fr)) (hx : a.eval x = .slice (some ⟨B, 0, none⟩) 1 1)
    (hcs : cs.size = size) (h1 : ∀ u ∈ cs.toList, u.oneCell' = true) (hn : n ≤ 1099511627776) (hbase : base ≤ w.heap.size)
    (h : ∀ v' w', w'.ownsRow base e size v' (n + 1) (xs ++ cs.toList) → w.grownBy w' v.ownBlock → K (a.put o.dst v') w') :
    if Region.wanted o (yielded ops a.tmps) = true then Oper.wp P o a w K Q else E :=
  step_append_lies w hgd s x t ho base e i z size bytes ht hi hz hsize hby hzs hsz v n xs hs hown ⟨B, 0, none⟩ 1 1 cs.toList hx (by simp [hcs]) (World.news_of_block hB) h1 (by omega)
    (by unfold maxLen; omega) (by have := Nat.mul_le_mul (show n + 1 ≤ 1099511627777 by omega) hb64; omega) hbase _ rfl fun _ _ w' h2 h3 _ _ => h _ w' h2 h3
end

section
variable {w w' w1 : World} {base B e s n : Nat} {v : Value} {xs : List Value}
theorem Below.grown {row : Option Nat} (hb : Below B w w') (hg : w'.grownBy w1 row) (hr : ∀ g, row = some g → B ≤ g) (hB : B ≤ w.heap.size) : Below B w w1 :=
  ⟨hg.os.trans hb.os, hg.tape.trans hb.tape, hg.output.trans hb.output, Nat.le_trans hb.size hg.size, fun k hk =>
    (hg.block k (Nat.lt_of_lt_of_le (Nat.lt_of_lt_of_le hk hB) hb.size) (fun e => by have := hr k e.symm; omega)).trans (hb.block k hk)⟩
/-- Below the base nothing turns when a row of the call's own grows. -/
theorem below_app (hb : Below B w w') (hown : w'.ownsRow B e s v n xs) (hg : w'.grownBy w1 v.ownBlock) (hB : B ≤ w.heap.size) : Below B w w1 :=
  Below.grown hb hg (fun g h => (hown.lt g h).1) hB
theorem owns_below (h : w.ownsRow base e s v n xs) (hb : Below w.heap.size w w') : w'.ownsRow base e s v n xs :=
  h.kept (row := none) ⟨hb.os, hb.tape, hb.output, hb.size, fun k hk _ => hb.block k hk⟩ (by cases v.ownBlock <;> simp)
theorem owns_drew (h : w.ownsRow base e s v n xs) : w.drew.ownsRow base e s v n xs := h
/-- A cell of a block that is not the row's own is kept by the append. -/
theorem cell_app {b o : Nat} {u : Value} (h : w.cell? ⟨b, o, none⟩ = some u) (hg : w.grownBy w1 v.ownBlock) (hne : ∀ g, v.ownBlock = some g → g ≠ b) : w1.cell? ⟨b, o, none⟩ = some u :=
  (hg.cell_far ⟨b, o, none⟩ (block_lt_of_cell h) (fun e => hne b e.symm rfl)).trans h
theorem cell_keep {b o : Nat} {u : Value} (h : w.cell? ⟨b, o, none⟩ = some u) (hb : Below w.heap.size w w1) : w1.cell? ⟨b, o, none⟩ = some u := (hb.cell (p := ⟨b, o, none⟩) (block_lt_of_cell h)).trans h
end
end Go.Lb
