/- Small words for memory: a slice that reads as a list of values, rows or numbers, and how that is kept. No conditions; nothing here speaks of the program. -/
import Derived.Test.YtnldneogjdljkaaRows
import Derived.WalkKit
import Derived.ProofKit
import Derived.OpenShut
import Derived.ShutString
import Derived.Lib.Hide
import Derived.WalkLawsBesides
import Derived.WalkSpells
import Derived.Outline
import Derived.Deep.RegionHeld3
import Derived.Deep.QuietTactic
import Derived.BigQuiet
namespace Go.Lb
open Go.RowKit

/-- A value of the program, as data. -/
structure V where
  ty : Int
  n : Int
  s : ByteArray
deriving DecidableEq

def V.cells (v : V) : List Value := [.int .i64 v.ty, .int .i64 v.n, .string v.s]
theorem V.cells_len (v : V) : v.cells.length = 3 := rfl

/-- A row (or a slot) of the program, as data. -/
structure R where
  id : Int
  l : List V
deriving DecidableEq

section
variable {α : Type}
theorem flat_len (f : α → List Value) (s : Nat) (hf : ∀ a, (f a).length = s) (l : List α) : (l.flatMap f).length = l.length * s := by
  induction l with
  | nil => simp
  | cons a l ih => simp [hf, ih, Nat.add_mul]; omega
theorem flat_get (f : α → List Value) (s : Nat) (hf : ∀ a, (f a).length = s) : ∀ (l : List α) (k j : Nat) (x : α), l[k]? = some x → j < s → (l.flatMap f)[k * s + j]? = (f x)[j]?
  | [], k, j, x, h, _ => by simp at h
  | a :: l, 0, j, x, h, hj => by
    simp at h
    subst h
    simp only [List.flatMap_cons, Nat.zero_mul, Nat.zero_add]
    rw [List.getElem?_append_left (by rw [hf]; exact hj)]
  | a :: l, k + 1, j, x, h, hj => by
    have h' : l[k]? = some x := by simpa using h
    simp only [List.flatMap_cons]
    rw [List.getElem?_append_right (by rw [hf, Nat.add_mul]; omega), hf, show (k + 1) * s + j - s = k * s + j by rw [Nat.add_mul]; omega]
    exact flat_get f s hf l k j x h' hj
end

/-- A slice value of n elements (size cells each): element k lies at block b, offset o, where E k b o says what stands there; the block lies from lo on, below hi. -/
def RdG (lo hi size : Nat) (v : Value) (n : Nat) (E : Nat → Nat → Nat → Prop) : Prop :=
  ∃ A c, v = .slice A n c ∧ n ≤ c ∧ c ≤ maxLen ∧ ∀ k, k < n → ∃ b off, A = some ⟨b, off, none⟩ ∧ lo ≤ b ∧ b < hi ∧ E k b (off + k * size)

theorem RdG.form {lo hi size : Nat} {v : Value} {n : Nat} {E : Nat → Nat → Nat → Prop} (h : RdG lo hi size v n E) : ∃ A c, v = .slice A n c ∧ n ≤ c ∧ c ≤ 9223372036854775807 := by
  obtain ⟨A, c, h1, h2, h3, _⟩ := h
  unfold maxLen at h3
  exact ⟨A, c, h1, h2, by omega⟩
theorem RdG.imp {lo hi lo' hi' size : Nat} {v : Value} {n : Nat} {E E' : Nat → Nat → Nat → Prop} (h : RdG lo hi size v n E) (h1 : lo' ≤ lo) (h2 : hi ≤ hi') (hE : ∀ k b o, lo ≤ b → b < hi → E k b o → E' k b o) : RdG lo' hi' size v n E' := by
  obtain ⟨A, c, e, hn, hc, hk⟩ := h
  refine ⟨A, c, e, hn, hc, fun k h => ?_⟩
  obtain ⟨b, off, ha, hl, hh, he⟩ := hk k h
  exact ⟨b, off, ha, by omega, by omega, hE _ _ _ hl hh he⟩

/-- From lo on, below hi, the world w' is as w was. -/
def Same (lo hi : Nat) (w w' : World) : Prop := ∀ k, lo ≤ k → k < hi → w'.heap[k]? = w.heap[k]?
theorem Same.cell {lo hi : Nat} {w w' : World} (h : Same lo hi w w') {b o : Nat} (hl : lo ≤ b) (hh : b < hi) : w'.cell? ⟨b, o, none⟩ = w.cell? ⟨b, o, none⟩ := World.cell?_of_block (a := ⟨b, o, none⟩) (h b hl hh)
theorem Same.of_below {B lo hi : Nat} {w w' : World} (h : Below B w w') (hb : hi ≤ B) : Same lo hi w w' := fun k _ hk => h.block k (by omega)

def VAt (w : World) (b o : Nat) (x : V) : Prop := w.cell? ⟨b, o, none⟩ = some (.int .i64 x.ty) ∧ w.cell? ⟨b, o + 1, none⟩ = some (.int .i64 x.n) ∧ w.cell? ⟨b, o + 2, none⟩ = some (.string x.s)
/-- A slice that reads as a list of values. -/
def RdV (w : World) (lo hi : Nat) (v : Value) (l : List V) : Prop := RdG lo hi 3 v l.length fun k b o => ∃ x, l[k]? = some x ∧ VAt w b o x
def RdI (w : World) (lo hi : Nat) (v : Value) (l : List Int) : Prop := RdG lo hi 1 v l.length fun k b o => ∃ x, l[k]? = some x ∧ w.cell? ⟨b, o, none⟩ = some (.int .i64 x)
def RdB (w : World) (lo hi : Nat) (v : Value) (l : List UInt8) : Prop := RdG lo hi 1 v l.length fun k b o => ∃ x, l[k]? = some x ∧ w.cell? ⟨b, o, none⟩ = some (.int .u8 (x.toNat : Int))
def RdR (w : World) (lo hi : Nat) (v : Value) (l : List R) : Prop := RdG lo hi 2 v l.length fun k b o => ∃ x sv, l[k]? = some x ∧ w.cell? ⟨b, o, none⟩ = some (.int .i64 x.id) ∧ w.cell? ⟨b, o + 1, none⟩ = some sv ∧ RdV w lo hi sv x.l

section
variable {w w' : World} {lo hi lo' hi' : Nat} {v : Value} {A : Option Addr} {n c k : Nat}
theorem VAt.same {b o : Nat} {x : V} (h : VAt w b o x) (hs : Same lo hi w w') (hl : lo ≤ b) (hh : b < hi) : VAt w' b o x := ⟨(hs.cell hl hh).trans h.1, (hs.cell hl hh).trans h.2.1, (hs.cell hl hh).trans h.2.2⟩
theorem RdV.same {l : List V} (h : RdV w lo hi v l) (hs : Same lo hi w w') : RdV w' lo hi v l := h.imp (Nat.le_refl _) (Nat.le_refl _) fun _ _ _ hl hh ⟨x, hx, hv⟩ => ⟨x, hx, hv.same hs hl hh⟩
theorem RdV.more {l : List V} (h : RdV w lo hi v l) (h1 : lo' ≤ lo) (h2 : hi ≤ hi') : RdV w lo' hi' v l := h.imp h1 h2 fun _ _ _ _ _ h => h
theorem RdV.below {B : Nat} {l : List V} (h : RdV w lo hi v l) (hb : Below B w w') (hB : hi ≤ B) : RdV w' lo hi v l := h.same (.of_below hb hB)
theorem RdI.same {l : List Int} (h : RdI w lo hi v l) (hs : Same lo hi w w') : RdI w' lo hi v l := h.imp (Nat.le_refl _) (Nat.le_refl _) fun _ _ _ hl hh ⟨x, hx, hv⟩ => ⟨x, hx, (hs.cell hl hh).trans hv⟩
theorem RdI.more {l : List Int} (h : RdI w lo hi v l) (h1 : lo' ≤ lo) (h2 : hi ≤ hi') : RdI w lo' hi' v l := h.imp h1 h2 fun _ _ _ _ _ h => h
theorem RdI.below {B : Nat} {l : List Int} (h : RdI w lo hi v l) (hb : Below B w w') (hB : hi ≤ B) : RdI w' lo hi v l := h.same (.of_below hb hB)
theorem RdB.same {l : List UInt8} (h : RdB w lo hi v l) (hs : Same lo hi w w') : RdB w' lo hi v l := h.imp (Nat.le_refl _) (Nat.le_refl _) fun _ _ _ hl hh ⟨x, hx, hv⟩ => ⟨x, hx, (hs.cell hl hh).trans hv⟩
theorem RdB.more {l : List UInt8} (h : RdB w lo hi v l) (h1 : lo' ≤ lo) (h2 : hi ≤ hi') : RdB w lo' hi' v l := h.imp h1 h2 fun _ _ _ _ _ h => h
theorem RdB.below {B : Nat} {l : List UInt8} (h : RdB w lo hi v l) (hb : Below B w w') (hB : hi ≤ B) : RdB w' lo hi v l := h.same (.of_below hb hB)
theorem RdR.same {l : List R} (h : RdR w lo hi v l) (hs : Same lo hi w w') : RdR w' lo hi v l := h.imp (Nat.le_refl _) (Nat.le_refl _) fun _ _ _ hl hh ⟨x, sv, hx, hi, hv, hr⟩ => ⟨x, sv, hx, (hs.cell hl hh).trans hi, (hs.cell hl hh).trans hv, hr.same hs⟩
theorem RdR.more {l : List R} (h : RdR w lo hi v l) (h1 : lo' ≤ lo) (h2 : hi ≤ hi') : RdR w lo' hi' v l := h.imp h1 h2 fun _ _ _ _ _ ⟨x, sv, hx, hi, hv, hr⟩ => ⟨x, sv, hx, hi, hv, hr.more h1 h2⟩
theorem RdR.below {B : Nat} {l : List R} (h : RdR w lo hi v l) (hb : Below B w w') (hB : hi ≤ B) : RdR w' lo hi v l := h.same (.of_below hb hB)

theorem RdV.at {l : List V} (h : RdV w lo hi (.slice A n c) l) (hk : k < n) : ∃ b off x, A = some ⟨b, off, none⟩ ∧ lo ≤ b ∧ b < hi ∧ l[k]? = some x ∧ w.cell? ⟨b, off + k * 3, none⟩ = some (.int .i64 x.ty) ∧ w.cell? ⟨b, off + k * 3 + 1, none⟩ = some (.int .i64 x.n) ∧ w.cell? ⟨b, off + k * 3 + 2, none⟩ = some (.string x.s) := by
  obtain ⟨A', c', e, _, _, h⟩ := h
  injection e with e1 e2 e3
  subst e1
  obtain ⟨b, off, h1, h2, h3, x, hx, hv⟩ := h k (by omega)
  exact ⟨b, off, x, h1, h2, h3, hx, hv⟩
theorem RdI.at {l : List Int} (h : RdI w lo hi (.slice A n c) l) (hk : k < n) : ∃ b off x, A = some ⟨b, off, none⟩ ∧ lo ≤ b ∧ b < hi ∧ l[k]? = some x ∧ w.cell? ⟨b, off + k, none⟩ = some (.int .i64 x) := by
  obtain ⟨A', c', e, _, _, h⟩ := h
  injection e with e1 e2 e3
  subst e1
  obtain ⟨b, off, h1, h2, h3, x, hx, hv⟩ := h k (by omega)
  exact ⟨b, off, x, h1, h2, h3, hx, by simpa using hv⟩
theorem RdB.at {l : List UInt8} (h : RdB w lo hi (.slice A n c) l) (hk : k < n) : ∃ b off x, A = some ⟨b, off, none⟩ ∧ lo ≤ b ∧ b < hi ∧ l[k]? = some x ∧ w.cell? ⟨b, off + k, none⟩ = some (.int .u8 (x.toNat : Int)) := by
  obtain ⟨A', c', e, _, _, h⟩ := h
  injection e with e1 e2 e3
  subst e1
  obtain ⟨b, off, h1, h2, h3, x, hx, hv⟩ := h k (by omega)
  exact ⟨b, off, x, h1, h2, h3, hx, by simpa using hv⟩
theorem RdR.at {l : List R} (h : RdR w lo hi (.slice A n c) l) (hk : k < n) : ∃ b off x sv, A = some ⟨b, off, none⟩ ∧ lo ≤ b ∧ b < hi ∧ l[k]? = some x ∧ w.cell? ⟨b, off + k * 2, none⟩ = some (.int .i64 x.id) ∧ w.cell? ⟨b, off + k * 2 + 1, none⟩ = some sv ∧ RdV w lo hi sv x.l := by
  obtain ⟨A', c', e, _, _, h⟩ := h
  injection e with e1 e2 e3
  subst e1
  obtain ⟨b, off, h1, h2, h3, x, sv, hx, hv⟩ := h k (by omega)
  exact ⟨b, off, x, sv, h1, h2, h3, hx, hv⟩
end

theorem drop_of_get {α : Type} {l : List α} {k : Nat} {x : α} (h : l[k]? = some x) : l.drop k = x :: l.drop (k + 1) := by
  obtain ⟨hk, e⟩ := List.getElem?_eq_some_iff.1 h
  rw [← e]
  exact List.drop_eq_getElem_cons hk
theorem take_of_get {α : Type} {l : List α} {k : Nat} {x : α} (h : l[k]? = some x) : l.take (k + 1) = l.take k ++ [x] := by
  obtain ⟨hk, e⟩ := List.getElem?_eq_some_iff.1 h
  rw [← e]
  exact List.take_succ_eq_append_getElem hk
theorem mem_of_get {α : Type} {l : List α} {k : Nat} {x : α} (h : l[k]? = some x) : x ∈ l := List.mem_of_getElem? h

theorem add_plain (b o j : Nat) : (⟨b, o, none⟩ : Addr).add j = ⟨b, o + j, none⟩ := by
  unfold Addr.add
  by_cases h : j = 0 <;> simp [h]
theorem foldl_push (ns : List UInt8) : ∀ s : ByteArray, (ns.map fun x : UInt8 => (x.toNat : Int)).foldl (fun r n => r.push (UInt8.ofNat n.toNat)) s = ⟨s.data ++ ns.toArray⟩ := by
  induction ns with
  | nil => intro s; simp
  | cons n ns ih =>
    intro s
    rw [List.map_cons, List.foldl_cons, ih]
    simp [ByteArray.push]
/-- Bytes in memory, made into a string. -/
theorem conv_bytes {P : Program} {src dst e : TypeId} (hs : P.underlying src = some (.slice e)) (he : P.underlying e = some (.int .u8)) (hd : P.underlying dst = some .string)
    (w : World) (b o n c : Nat) (l : List UInt8) (hl : l.length = n) (h : ∀ j x, l[j]? = some x → w.cell? ⟨b, o + j, none⟩ = some (.int .u8 (x.toNat : Int))) :
    (convert src dst (.slice (some ⟨b, o, none⟩) n c)).run P w = .ok (.string ⟨l.toArray⟩) w := by
  have hld := run_loadCells_list (P := P) (w := w) ⟨b, o, none⟩ (l.map fun x => Value.int .u8 (x.toNat : Int)) (fun j v hv => by
    rw [List.getElem?_map] at hv
    cases hx : l[j]? with
    | none => rw [hx] at hv; cases hv
    | some x =>
      rw [hx] at hv
      simp only [Option.map_some, Option.some.injEq] at hv
      rw [add_plain, ← hv]
      exact h j x hx)
  rw [List.length_map, hl] at hld
  rw [run_convert_bytes_string w src dst e _ _ _ hs he hd, run_bytesToString w _ n c (l.map fun x : UInt8 => (x.toNat : Int)) (by rw [List.map_map]; exact hld), foldl_push]
  simp [ByteArray.empty, ByteArray.emptyWithCapacity]
  rfl
theorem ba_append (a b : List UInt8) : (⟨a.toArray⟩ ++ ⟨b.toArray⟩ : ByteArray) = ⟨(a ++ b).toArray⟩ := by
  apply ByteArray.ext
  simp [ByteArray.data_append]

theorem set3 {w : World} {g o : Nat} {cur : Array Value} {e : TypeId} {a b c : Value} (h : w.heap[g]? = some (.cells cur e (0, 0))) :
    (((w.setCell ⟨g, o, none⟩ a).setCell ⟨g, o + 1, none⟩ b).setCell ⟨g, o + 2, none⟩ c).heap[g]? = some (.cells (((cur.setIfInBounds o a).setIfInBounds (o + 1) b).setIfInBounds (o + 2) c) e (0, 0)) :=
  heap_setCell_same _ g _ _ e _ (heap_setCell_same _ g _ _ e _ (heap_setCell_same _ g _ _ e _ h))
theorem take_set3 {l : List Value} {o : Nat} {a b c : Value} (h : o + 3 ≤ l.length) : (((l.set o a).set (o + 1) b).set (o + 2) c).take (o + 3) = l.take o ++ [a, b, c] := by
  have hl : (l.take o).length = o := by rw [List.length_take]; omega
  apply List.ext_getElem?
  intro i
  simp only [List.getElem?_append, hl, List.getElem?_take, List.getElem?_set, List.length_set]
  rcases (by omega : i < o ∨ i = o ∨ i = o + 1 ∨ i = o + 2 ∨ o + 3 ≤ i) with hi | rfl | rfl | rfl | hi
  · repeat (first | rw [if_pos (by omega)] | rw [if_neg (by omega)])
  · repeat (first | rw [if_pos (by omega)] | rw [if_neg (by omega)])
    simp
  · repeat (first | rw [if_pos (by omega)] | rw [if_neg (by omega)])
    simp
  · repeat (first | rw [if_pos (by omega)] | rw [if_neg (by omega)])
    simp
  · repeat (first | rw [if_pos (by omega)] | rw [if_neg (by omega)])
    rw [List.getElem?_eq_none (by simp; omega)]

theorem set2 {w : World} {g o p : Nat} {cur : Array Value} {e : TypeId} {a b : Value} (h : w.heap[g]? = some (.cells cur e (0, 0))) :
    ((w.setCell ⟨g, o, none⟩ a).setCell ⟨g, p, none⟩ b).heap[g]? = some (.cells ((cur.setIfInBounds o a).setIfInBounds p b) e (0, 0)) :=
  heap_setCell_same _ g _ _ e _ (heap_setCell_same _ g _ _ e _ h)
theorem set1 {w : World} {g o : Nat} {cur : Array Value} {e : TypeId} {a : Value} (h : w.heap[g]? = some (.cells cur e (0, 0))) :
    (w.setCell ⟨g, o, none⟩ a).heap[g]? = some (.cells (cur.setIfInBounds o a) e (0, 0)) := heap_setCell_same _ g _ _ e _ h
theorem grown_set {w w' : World} {g : Nat} (h : w.grownBy w' (some g)) (o : Nat) (u : Value) : w.grownBy (w'.setCell ⟨g, o, none⟩ u) (some g) :=
  ⟨h.os, h.tape, h.output, by simpa [World.setCell] using h.size, fun k hk hne => (Below.heap_setCell w' ⟨g, o, none⟩ u k (fun e => hne (by rw [e]))).trans (h.block k hk hne)⟩
theorem grown_below {w w' w1 : World} {row : Option Nat} (h : w.grownBy w' row) (hb : Below w'.heap.size w' w1) : w.grownBy w1 row :=
  ⟨hb.os.trans h.os, hb.tape.trans h.tape, hb.output.trans h.output, Nat.le_trans h.size hb.size, fun k hk hne => (hb.block k (Nat.lt_of_lt_of_le hk h.size)).trans (h.block k hk hne)⟩
theorem grown_drew {w w' : World} {row : Option Nat} (h : w.grownBy w' row) : w.grownBy w'.drew row := ⟨h.os, h.tape, h.output, h.size, h.block⟩
theorem make_n {P : Program} (t e : TypeId) (i : TypeInfo) (z : Value) (ht : P.underlying t = some (.slice e)) (hi : P.info? e = some i) (hz : i.zero = some z)
    (n : Nat) (hbytes : i.bytes * n ≤ 281474976710656) (h63 : n ≤ 9223372036854775807) (w : World) :
    (Instr.makeSlice t (.int .i64 (n : Int)) (.int .i64 (n : Int))).run P w = .ok (.slice (some ⟨w.heap.size, 0, none⟩) n n) (w.alloc (.cells (madeCells z.cells (n * i.size)) e)) := by
  have hb : (i.bytes : Int) * (n : Int) ≤ 281474976710656 := by
    have h : ((i.bytes * n : Nat) : Int) ≤ 281474976710656 := by omega
    rwa [Int.natCast_mul] at h
  have hr := run_make (P := P) w t e i z ht hi hz .i64 .i64 n n (by omega) (by omega) hb (by omega)
  simp only [Int.toNat_natCast] at hr
  exact hr

theorem bcell {W w1 : World} (hb : Below W.heap.size W w1) : (∀ b o, b < W.heap.size → w1.cell? ⟨b, o, none⟩ = W.cell? ⟨b, o, none⟩) ∧ (∀ b o, b < W.heap.size → w1.frozen? ⟨b, o, none⟩ = W.frozen? ⟨b, o, none⟩) :=
  ⟨fun b o h => hb.cell (p := ⟨b, o, none⟩) h, fun b o h => hb.frozen (p := ⟨b, o, none⟩) h⟩
structure Z where
  lo : V
  hi : V
deriving DecidableEq
def less (a b : V) : Bool := if a.ty ≠ b.ty then decide (a.ty < b.ty) else if a.n ≠ b.n then decide (a.n < b.n) else Op.bytesLess a.s.toList b.s.toList
def inZone (z : Z) (v : V) : Bool := !less v z.lo && !less z.hi v

def holds1 (op : Int) (a b : V) : Bool := if op = 1 then less a b else if op = 2 then !less b a else if op = 3 then decide (a = b) else if op = 4 then !decide (a = b) else if op = 5 then !less a b else if op = 6 then less b a else false
def mayHold1 (op : Int) (z : Z) (v : V) : Bool := if op = 1 then less z.lo v else if op = 2 then !less v z.lo else if op = 3 then inZone z v else if op = 4 then !decide (z.lo = v) || !decide (z.hi = v) else if op = 5 then !less z.hi v else if op = 6 then less v z.hi else false

theorem below_a1 {w w' : World} {o0 : Obj} (h : Below (w.alloc o0).heap.size (w.alloc o0) w') : Below w.heap.size w w' :=
  ((Below.refl _ _).alloc (Nat.le_refl _) _).trans (h.mono (by simp))
theorem below_a2 {w w' : World} {o0 o1 : Obj} (h : Below ((w.alloc o0).alloc o1).heap.size ((w.alloc o0).alloc o1) w') : Below w.heap.size w w' :=
  ((Below.refl _ _).alloc (Nat.le_refl _) o0).trans (below_a1 h |>.mono (by simp))
theorem below_a3 {w w' : World} {o0 o1 o2 : Obj} (h : Below (((w.alloc o0).alloc o1).alloc o2).heap.size (((w.alloc o0).alloc o1).alloc o2) w') : Below w.heap.size w w' :=
  ((Below.refl _ _).alloc (Nat.le_refl _) o0).trans (below_a2 h |>.mono (by simp))
theorem below_a4 {w w' : World} {o0 o1 o2 o3 : Obj} (h : Below ((((w.alloc o0).alloc o1).alloc o2).alloc o3).heap.size ((((w.alloc o0).alloc o1).alloc o2).alloc o3) w') : Below w.heap.size w w' :=
  ((Below.refl _ _).alloc (Nat.le_refl _) o0).trans (below_a3 h |>.mono (by simp))
theorem below_a5 {w w' : World} {o0 o1 o2 o3 o4 : Obj} (h : Below (((((w.alloc o0).alloc o1).alloc o2).alloc o3).alloc o4).heap.size (((((w.alloc o0).alloc o1).alloc o2).alloc o3).alloc o4) w') : Below w.heap.size w w' :=
  ((Below.refl _ _).alloc (Nat.le_refl _) o0).trans (below_a4 h |>.mono (by simp))
theorem below_a6 {w w' : World} {o0 o1 o2 o3 o4 o5 : Obj} (h : Below ((((((w.alloc o0).alloc o1).alloc o2).alloc o3).alloc o4).alloc o5).heap.size ((((((w.alloc o0).alloc o1).alloc o2).alloc o3).alloc o4).alloc o5) w') : Below w.heap.size w w' :=
  ((Below.refl _ _).alloc (Nat.le_refl _) o0).trans (below_a5 h |>.mono (by simp))
def opposite (op : Int) : Int := if op = 1 then 5 else if op = 2 then 6 else if op = 3 then 4 else if op = 4 then 3 else if op = 5 then 1 else if op = 6 then 2 else 0
def kindText (n : Int) : ByteArray := if n = 0 then ⟨#[112, 108, 97, 105, 110]⟩ else if n = 1 then ⟨#[114, 117, 110, 115]⟩ else if n = 2 then ⟨#[100, 105, 99, 116]⟩ else if n = 3 then ⟨#[102, 114, 97, 109, 101]⟩ else ⟨#[]⟩

def V.zero : V := ⟨0, 0, ⟨#[]⟩⟩
def zstep (z : Z) (v : V) : Z := ⟨if less v z.lo then v else z.lo, if less z.hi v then v else z.hi⟩
def zoneOf : List V → Z
  | [] => ⟨V.zero, V.zero⟩
  | v :: r => r.foldl zstep ⟨v, v⟩
def Z.cells (z : Z) : List Value := z.lo.cells ++ z.hi.cells

theorem keep6' {w W w1 : World} {b b' o0 o1 o2 p0 p1 p2 : Nat} {u0 u1 u2 u0' u1' u2' : Value} (hb : b < w.heap.size) (hb' : b' < w.heap.size)
    (h : (W.cell? ⟨b, o0, none⟩ = some u0 ∧ W.cell? ⟨b, o1, none⟩ = some u1 ∧ W.cell? ⟨b, o2, none⟩ = some u2) ∧ (W.cell? ⟨b', p0, none⟩ = some u0' ∧ W.cell? ⟨b', p1, none⟩ = some u1' ∧ W.cell? ⟨b', p2, none⟩ = some u2') ∧ Below w.heap.size w W) (h1 : Below W.heap.size W w1) :
    (w1.cell? ⟨b, o0, none⟩ = some u0 ∧ w1.cell? ⟨b, o1, none⟩ = some u1 ∧ w1.cell? ⟨b, o2, none⟩ = some u2) ∧ (w1.cell? ⟨b', p0, none⟩ = some u0' ∧ w1.cell? ⟨b', p1, none⟩ = some u1' ∧ w1.cell? ⟨b', p2, none⟩ = some u2') ∧ Below w.heap.size w w1 := by
  obtain ⟨⟨h2, h3, h4⟩, ⟨h5, h6, h7⟩, h8⟩ := h
  have hs := h8.size
  have k : ∀ o, w1.cell? ⟨b, o, none⟩ = W.cell? ⟨b, o, none⟩ := fun o => h1.cell (p := ⟨b, o, none⟩) (by show b < _; omega)
  have k' : ∀ o, w1.cell? ⟨b', o, none⟩ = W.cell? ⟨b', o, none⟩ := fun o => h1.cell (p := ⟨b', o, none⟩) (by show b' < _; omega)
  simp only [k, k']
  exact ⟨⟨h2, h3, h4⟩, ⟨h5, h6, h7⟩, h8.trans (h1.mono hs)⟩

theorem below_drewN' {B : Nat} {a w : World} (h : Below B a w) (n : Nat) : Below B a (w.drewN n) := ⟨h.os, h.tape, h.output, h.size, h.block⟩

theorem up_a1 (w : World) (o0 : Obj) : Below w.heap.size w (w.alloc o0) := below_a1 (Below.refl _ _)
theorem up_a2 (w : World) (o0 o1 : Obj) : Below w.heap.size w ((w.alloc o0).alloc o1) := below_a2 (Below.refl _ _)
theorem up_a3 (w : World) (o0 o1 o2 : Obj) : Below w.heap.size w (((w.alloc o0).alloc o1).alloc o2) := below_a3 (Below.refl _ _)
theorem up_a4 (w : World) (o0 o1 o2 o3 : Obj) : Below w.heap.size w ((((w.alloc o0).alloc o1).alloc o2).alloc o3) := below_a4 (Below.refl _ _)
theorem up_a5 (w : World) (o0 o1 o2 o3 o4 : Obj) : Below w.heap.size w (((((w.alloc o0).alloc o1).alloc o2).alloc o3).alloc o4) := below_a5 (Below.refl _ _)
theorem up_a6 (w : World) (o0 o1 o2 o3 o4 o5 : Obj) : Below w.heap.size w ((((((w.alloc o0).alloc o1).alloc o2).alloc o3).alloc o4).alloc o5) := below_a6 (Below.refl _ _)

def inR (n lo hi : Int) : Bool := decide (lo ≤ n) && decide (n ≤ hi)
theorem inR_yes {n lo hi : Int} (h : inR n lo hi = true) : lo ≤ n ∧ n ≤ hi := by simpa [inR] using h
theorem inR_no {n lo hi : Int} (h : inR n lo hi = false) : n < lo ∨ hi < n := by
  simp [inR] at h
  omega
theorem inR_of {n lo hi : Int} (h1 : lo ≤ n) (h2 : n ≤ hi) : inR n lo hi = true := by simp [inR, h1, h2]
theorem inR_not {n lo hi : Int} (h : n < lo ∨ hi < n) : inR n lo hi = false := by
  simp [inR]
  omega
def isNum (n : Int) : Bool := inR n (-1000000000) 1000000000
def chOk (c : UInt8) : Bool := inR (c.toNat : Int) 97 122 || inR (c.toNat : Int) 48 57
def valOk (v : V) : Bool := if v.ty = 1 then isNum v.n && v.s.data.toList.isEmpty else if v.ty = 2 then v.s.data.toList.all chOk && (decide (v.s.data.toList.length ≤ 6) && decide (v.n = 0)) else false

theorem get_byte (s : ByteArray) (k : Nat) (h : k < s.size) : s.data.toList[k]? = some s[k] := by
  rw [List.getElem?_eq_getElem (by simpa using h)]; rfl
theorem take_byte (s : ByteArray) (k : Nat) (h : k < s.size) : s.data.toList.take (k + 1) = s.data.toList.take k ++ [s[k]] := take_of_get (get_byte s k h)
theorem chOk_yes {c : UInt8} (h : (97 ≤ (c.toNat : Int) ∧ (c.toNat : Int) ≤ 122) ∨ (48 ≤ (c.toNat : Int) ∧ (c.toNat : Int) ≤ 57)) : chOk c = true := by
  unfold chOk
  rcases h with ⟨h1, h2⟩ | ⟨h1, h2⟩
  · rw [inR_of h1 h2]; rfl
  · rw [inR_of h1 h2]; simp
theorem chOk_not {c : UInt8} (h1 : (c.toNat : Int) < 97 ∨ 122 < (c.toNat : Int)) (h2 : (c.toNat : Int) < 48 ∨ 57 < (c.toNat : Int)) : chOk c = false := by
  unfold chOk
  rw [inR_not h1, inR_not h2]; rfl
theorem all_take {l : List UInt8} {p : UInt8 → Bool} {k : Nat} {c : UInt8} (hc : l[k]? = some c) (hp : p c = false) : l.all p = false := by
  rw [List.all_eq_false]
  exact ⟨c, List.mem_of_getElem? hc, by simp [hp]⟩

def tyBad (a v : V) : Bool := !valOk v || decide (v.ty ≠ a.ty)
def typeOf : List V → Int
  | [] => 0
  | a :: r => if inR ((a :: r).length : Int) 1 64 && !(a :: r).any (tyBad a) then a.ty else 0

theorem keep4 {w W w1 : World} {b o0 o1 o2 p0 : Nat} {u0 u1 u2 u0' : Value} (hb : b < w.heap.size)
    (h : (W.cell? ⟨b, o0, none⟩ = some u0 ∧ W.cell? ⟨b, o1, none⟩ = some u1 ∧ W.cell? ⟨b, o2, none⟩ = some u2) ∧ W.cell? ⟨b, p0, none⟩ = some u0' ∧ Below w.heap.size w W) (h1 : Below W.heap.size W w1) :
    (w1.cell? ⟨b, o0, none⟩ = some u0 ∧ w1.cell? ⟨b, o1, none⟩ = some u1 ∧ w1.cell? ⟨b, o2, none⟩ = some u2) ∧ w1.cell? ⟨b, p0, none⟩ = some u0' ∧ Below w.heap.size w w1 := by
  obtain ⟨⟨h2, h3, h4⟩, h5, h8⟩ := h
  have hs := h8.size
  have k : ∀ o, w1.cell? ⟨b, o, none⟩ = W.cell? ⟨b, o, none⟩ := fun o => h1.cell (p := ⟨b, o, none⟩) (by show b < _; omega)
  simp only [k]
  exact ⟨⟨h2, h3, h4⟩, h5, h8.trans (h1.mono hs)⟩

/-- A row of the call's own: it lies in a block from lo on, below hi. -/
def Own (e s : Nat) (w : World) (lo hi : Nat) (v : Value) (n : Nat) (xs : List Value) : Prop := w.ownsRow lo e s v n xs ∧ ∀ g, v.ownBlock = some g → g < hi
/-- Only blocks from lo on, below hi, and new ones, have turned. -/
structure Chg (lo hi : Nat) (w w' : World) : Prop where
  os : w'.os = w.os
  tape : w'.tape = w.tape
  output : w'.output = w.output
  size : w.heap.size ≤ w'.heap.size
  block : ∀ k, k < w.heap.size → (k < lo ∨ hi ≤ k) → w'.heap[k]? = w.heap[k]?
section
variable {w w' w1 : World} {lo hi lo' hi' e s n : Nat} {v : Value} {xs : List Value}
theorem Chg.refl (lo hi : Nat) (w : World) : Chg lo hi w w := ⟨rfl, rfl, rfl, Nat.le_refl _, fun _ _ _ => rfl⟩
theorem Chg.trans (h : Chg lo hi w w') (k : Chg lo hi w' w1) : Chg lo hi w w1 :=
  ⟨k.os.trans h.os, k.tape.trans h.tape, k.output.trans h.output, Nat.le_trans h.size k.size, fun i hi' ho => (k.block i (Nat.lt_of_lt_of_le hi' h.size) ho).trans (h.block i hi' ho)⟩
theorem Chg.of_below (h : Below w.heap.size w w') : Chg lo hi w w' := ⟨h.os, h.tape, h.output, h.size, fun i hi _ => h.block i hi⟩
theorem Chg.of_grown {row : Option Nat} (h : w.grownBy w' row) (hr : ∀ g, row = some g → lo ≤ g ∧ g < hi) : Chg lo hi w w' :=
  ⟨h.os, h.tape, h.output, h.size, fun i hi ho => h.block i hi fun e => by have := hr i e.symm; omega⟩
theorem Chg.mono (h : Chg lo hi w w') (h1 : lo' ≤ lo) (h2 : hi ≤ hi') : Chg lo' hi' w w' := ⟨h.os, h.tape, h.output, h.size, fun i hi ho => h.block i hi (by omega)⟩
theorem Chg.below (h : Chg lo hi w w') {B : Nat} (h1 : B ≤ lo) (h2 : B ≤ w.heap.size) : Below B w w' := ⟨h.os, h.tape, h.output, h.size, fun i hi => h.block i (by omega) (by omega)⟩
theorem Same.of_chg (h : Chg lo hi w w') (h1 : hi' ≤ lo ∨ hi ≤ lo') (h2 : hi' ≤ w.heap.size) : Same lo' hi' w w' := fun k hl hk => h.block k (by omega) (by omega)
theorem Same.refl (lo hi : Nat) (w : World) : Same lo hi w w := fun _ _ _ => rfl
theorem Same.trans (h : Same lo hi w w') (k : Same lo hi w' w1) : Same lo hi w w1 := fun i h1 h2 => (k i h1 h2).trans (h i h1 h2)
theorem Same.less (h : Same lo hi w w') (h1 : lo ≤ lo') (h2 : hi' ≤ hi) : Same lo' hi' w w' := fun k hl hk => h k (by omega) (by omega)
theorem Below.undrew {B : Nat} (h : Below B w.drew w') : Below B w w' := ⟨h.os, h.tape, h.output, h.size, h.block⟩
theorem Own.new (h : w.ownsRow lo e s v n xs) : Own e s w lo w.heap.size v n xs := ⟨h, fun g hg => (h.lt g hg).2⟩
theorem Own.same (h : Own e s w lo hi v n xs) (hs : Same lo hi w w') : Own e s w' lo hi v n xs := by
  refine ⟨⟨h.1.1, ?_⟩, h.2⟩
  have h2 := h.2
  rcases h.1.2 with h0 | ⟨g, cap, cur, rfl, hb, hg, r⟩
  · exact .inl h0
  · exact .inr ⟨g, cap, cur, rfl, hb, by rw [hs g hb (h2 g rfl)]; exact hg, r⟩
theorem Own.below (h : Own e s w lo hi v n xs) {B : Nat} (hb : Below B w w') (hB : hi ≤ B) : Own e s w' lo hi v n xs := h.same (.of_below hb hB)
theorem Own.more (h : Own e s w lo hi v n xs) (h1 : lo' ≤ lo) (h2 : hi ≤ hi') : Own e s w lo' hi' v n xs := by
  refine ⟨⟨h.1.1, ?_⟩, fun g hg => by have := h.2 g hg; omega⟩
  rcases h.1.2 with h0 | ⟨g, cap, cur, rfl, hb, hg, r⟩
  · exact .inl h0
  · exact .inr ⟨g, cap, cur, rfl, by omega, hg, r⟩
theorem Own.cells (h : Own e s w lo hi v n xs) : RdG lo hi s v n fun k b o => ∀ j, j < s → w.cell? ⟨b, o + j, none⟩ = xs[k * s + j]? := by
  have hc := h.1
  have h2 := h.2
  rcases h.1.2 with ⟨rfl, rfl⟩ | ⟨g, cap, cur, rfl, hlo, hcur, hnc, hcm, hsz, -⟩
  · exact ⟨none, 0, rfl, Nat.le_refl _, Nat.zero_le _, fun k hk => absurd hk (by omega)⟩
  · refine ⟨_, cap, rfl, hnc, hcm, fun k hk => ⟨g, 0, rfl, hlo, h2 g rfl, fun j hj => ?_⟩⟩
    rw [Nat.zero_add]
    refine hc.cellAt _ ?_
    calc k * s + j < k * s + s := by omega
      _ = (k + 1) * s := by rw [Nat.add_mul, Nat.one_mul]
      _ ≤ n * s := Nat.mul_le_mul_right _ (by omega)
theorem Own.rdV {l : List V} (h : Own e 3 w lo hi v l.length (l.flatMap V.cells)) : RdV w lo hi v l := by
  obtain ⟨A, c, h1, h2, h3, h4⟩ := h.cells
  refine ⟨A, c, h1, h2, h3, fun k hk => ?_⟩
  obtain ⟨b, off, ha, hl, hh, hc⟩ := h4 k hk
  refine ⟨b, off, ha, hl, hh, l[k], List.getElem?_eq_getElem hk, ?_⟩
  have hg : ∀ j, j < 3 → w.cell? ⟨b, off + k * 3 + j, none⟩ = (V.cells l[k])[j]? := fun j hj => (hc j hj).trans (flat_get V.cells 3 V.cells_len l k j _ (List.getElem?_eq_getElem hk) hj)
  exact ⟨hg 0 (by omega), hg 1 (by omega), hg 2 (by omega)⟩
theorem Own.rdI {l : List Int} (h : Own e 1 w lo hi v l.length (l.map (Value.int .i64))) : RdI w lo hi v l := by
  obtain ⟨A, c, h1, h2, h3, h4⟩ := h.cells
  refine ⟨A, c, h1, h2, h3, fun k hk => ?_⟩
  obtain ⟨b, off, ha, hl, hh, hc⟩ := h4 k hk
  exact ⟨b, off, ha, hl, hh, l[k], List.getElem?_eq_getElem hk, by simpa [hk] using hc 0 (by omega)⟩
theorem Own.rdB {l : List UInt8} (h : Own e 1 w lo hi v l.length (l.map fun x => Value.int .u8 (x.toNat : Int))) : RdB w lo hi v l := by
  obtain ⟨A, c, h1, h2, h3, h4⟩ := h.cells
  refine ⟨A, c, h1, h2, h3, fun k hk => ?_⟩
  obtain ⟨b, off, ha, hl, hh, hc⟩ := h4 k hk
  exact ⟨b, off, ha, hl, hh, l[k], List.getElem?_eq_getElem hk, by simpa [hk] using hc 0 (by omega)⟩
theorem box_new (w : World) (cs : Array Value) (t : TypeId) (o : Nat) : (w.alloc (.cells cs t)).cell? ⟨w.heap.size, o, none⟩ = cs[o]? := cell_of_row _ _ o cs t _ (heap_alloc_new w _)
theorem box_keep {g : Nat} {cs : Array Value} (h : ∀ o, w.cell? ⟨g, o, none⟩ = cs[o]?) {B : Nat} (hb : Below B w w') (hg : g < B) (o : Nat) : w'.cell? ⟨g, o, none⟩ = cs[o]? := (hb.cell (p := ⟨g, o, none⟩) hg).trans (h o)
theorem box_chg {g : Nat} {cs : Array Value} (h : ∀ o, w.cell? ⟨g, o, none⟩ = cs[o]?) (hb : Chg lo hi w w') (hg : g < w.heap.size) (ho : g < lo ∨ hi ≤ g) (o : Nat) : w'.cell? ⟨g, o, none⟩ = cs[o]? := (World.cell?_of_block (a := ⟨g, o, none⟩) (hb.block g hg ho)).trans (h o)
end

/-- Equality as a Bool that the walk does not take apart. -/
def eqd {α : Type} [DecidableEq α] (x y : α) : Bool := decide (x = y)
theorem eqd_self {α : Type} [DecidableEq α] (x : α) : eqd x x = true := by simp [eqd]
theorem eqd_of {α : Type} [DecidableEq α] {x y : α} (h : x = y) : eqd x y = true := by simp [eqd, h]
theorem eqd_no {α : Type} [DecidableEq α] {x y : α} (h : ¬ x = y) : eqd x y = false := by simp [eqd, h]

theorem ret_int {k : IntKind} {a b : Int} (h : a = b) : Ending.returned (.int k a) = .returned (.int k b) := by rw [h]
theorem ret_bool {a b : Bool} (h : a = b) : Ending.returned (.bool a) = .returned (.bool b) := by rw [h]
theorem ret_string {a b : ByteArray} (h : a = b) : Ending.returned (.string a) = .returned (.string b) := by rw [h]

end Go.Lb
