/- Small words for memory: a slice that reads as a list of values, rows or numbers, and how that is kept. No conditions; nothing here speaks of the program. -/
import Derived.Test.YtjogkbkkcaljhaaGreatDoorRows
import Derived.WalkKit
import Derived.ProofKit
import Derived.OpenShut
import Derived.ShutString
import Derived.Lib.Hide
import Derived.WalkLawsBesides
import Derived.WalkSpells
import Derived.Outline
import Derived.Deep.RegionHeld3
import Derived.Deep.QuietTactic
import Derived.BigQuiet
import Derived.Deep.AppendLies
import Derived.Lib.QuietBelow
import Derived.Laws.OwnMore
import Derived.Laws.BitsLemmas
import Derived.Deep.Slices
import Derived.Carry
import Derived.ChangeSame
import Derived.WideKeyArgs
namespace Go.Lb
open Go.RowKit

/-- A value of the program, as data. -/
structure V where
  ty : Int
  n : Int
  s : ByteArray
deriving DecidableEq

def V.cells (v : V) : List Value := [.int .i64 v.ty, .int .i64 v.n, .string v.s]
theorem V.cells_len (v : V) : v.cells.length = 3 := rfl

/-- A row (or a slot) of the program, as data. -/
structure R where
  id : Int
  l : List V
deriving DecidableEq

section
variable {α : Type}
theorem flat_len (f : α → List Value) (s : Nat) (hf : ∀ a, (f a).length = s) (l : List α) : (l.flatMap f).length = l.length * s := by
  induction l with
  | nil => simp
  | cons a l ih => simp [hf, ih, Nat.add_mul]; omega
theorem flat_get (f : α → List Value) (s : Nat) (hf : ∀ a, (f a).length = s) : ∀ (l : List α) (k j : Nat) (x : α), l[k]? = some x → j < s → (l.flatMap f)[k * s + j]? = (f x)[j]?
  | [], k, j, x, h, _ => by simp at h
  | a :: l, 0, j, x, h, hj => by
    simp at h
    subst h
    simp only [List.flatMap_cons, Nat.zero_mul, Nat.zero_add]
    rw [List.getElem?_append_left (by rw [hf]; exact hj)]
  | a :: l, k + 1, j, x, h, hj => by
    have h' : l[k]? = some x := by simpa using h
    simp only [List.flatMap_cons]
    rw [List.getElem?_append_right (by rw [hf, Nat.add_mul]; omega), hf, show (k + 1) * s + j - s = k * s + j by rw [Nat.add_mul]; omega]
    exact flat_get f s hf l k j x h' hj
end

/-- A slice value of n elements (size cells each): element k lies at block b, offset o, where E k b o says what stands there; the block lies from lo on, below hi. -/
def RdG (lo hi size : Nat) (v : Value) (n : Nat) (E : Nat → Nat → Nat → Prop) : Prop :=
  ∃ A c, v = .slice A n c ∧ n ≤ c ∧ c ≤ maxLen ∧ ∀ k, k < n → ∃ b off, A = some ⟨b, off, none⟩ ∧ lo ≤ b ∧ b < hi ∧ E k b (off + k * size)

theorem RdG.form {lo hi size : Nat} {v : Value} {n : Nat} {E : Nat → Nat → Nat → Prop} (h : RdG lo hi size v n E) : ∃ A c, v = .slice A n c ∧ n ≤ c ∧ c ≤ 9223372036854775807 := by
  obtain ⟨A, c, h1, h2, h3, _⟩ := h
  unfold maxLen at h3
  exact ⟨A, c, h1, h2, by omega⟩
theorem RdG.imp {lo hi lo' hi' size : Nat} {v : Value} {n : Nat} {E E' : Nat → Nat → Nat → Prop} (h : RdG lo hi size v n E) (h1 : lo' ≤ lo) (h2 : hi ≤ hi') (hE : ∀ k b o, lo ≤ b → b < hi → E k b o → E' k b o) : RdG lo' hi' size v n E' := by
  obtain ⟨A, c, e, hn, hc, hk⟩ := h
  refine ⟨A, c, e, hn, hc, fun k h => ?_⟩
  obtain ⟨b, off, ha, hl, hh, he⟩ := hk k h
  exact ⟨b, off, ha, by omega, by omega, hE _ _ _ hl hh he⟩

/-- From lo on, below hi, the world w' is as w was. -/
def Same (lo hi : Nat) (w w' : World) : Prop := ∀ k, lo ≤ k → k < hi → w'.heap[k]? = w.heap[k]?
theorem Same.cell {lo hi : Nat} {w w' : World} (h : Same lo hi w w') {b o : Nat} (hl : lo ≤ b) (hh : b < hi) : w'.cell? ⟨b, o, none⟩ = w.cell? ⟨b, o, none⟩ := World.cell?_of_block (a := ⟨b, o, none⟩) (h b hl hh)
theorem Same.of_below {B lo hi : Nat} {w w' : World} (h : Below B w w') (hb : hi ≤ B) : Same lo hi w w' := fun k _ hk => h.block k (by omega)

def VAt (w : World) (b o : Nat) (x : V) : Prop := w.cell? ⟨b, o, none⟩ = some (.int .i64 x.ty) ∧ w.cell? ⟨b, o + 1, none⟩ = some (.int .i64 x.n) ∧ w.cell? ⟨b, o + 2, none⟩ = some (.string x.s)
/-- A slice that reads as a list of values. -/
def RdV (w : World) (lo hi : Nat) (v : Value) (l : List V) : Prop := RdG lo hi 3 v l.length fun k b o => ∃ x, l[k]? = some x ∧ VAt w b o x
def RdI (w : World) (lo hi : Nat) (v : Value) (l : List Int) : Prop := RdG lo hi 1 v l.length fun k b o => ∃ x, l[k]? = some x ∧ w.cell? ⟨b, o, none⟩ = some (.int .i64 x)
def RdB (w : World) (lo hi : Nat) (v : Value) (l : List UInt8) : Prop := RdG lo hi 1 v l.length fun k b o => ∃ x, l[k]? = some x ∧ w.cell? ⟨b, o, none⟩ = some (.int .u8 (x.toNat : Int))
def RdR (w : World) (lo hi : Nat) (v : Value) (l : List R) : Prop := RdG lo hi 2 v l.length fun k b o => ∃ x sv, l[k]? = some x ∧ w.cell? ⟨b, o, none⟩ = some (.int .i64 x.id) ∧ w.cell? ⟨b, o + 1, none⟩ = some sv ∧ RdV w lo hi sv x.l

section
variable {w w' : World} {lo hi lo' hi' : Nat} {v : Value} {A : Option Addr} {n c k : Nat}
theorem VAt.same {b o : Nat} {x : V} (h : VAt w b o x) (hs : Same lo hi w w') (hl : lo ≤ b) (hh : b < hi) : VAt w' b o x := ⟨(hs.cell hl hh).trans h.1, (hs.cell hl hh).trans h.2.1, (hs.cell hl hh).trans h.2.2⟩
theorem RdV.same {l : List V} (h : RdV w lo hi v l) (hs : Same lo hi w w') : RdV w' lo hi v l := h.imp (Nat.le_refl _) (Nat.le_refl _) fun _ _ _ hl hh ⟨x, hx, hv⟩ => ⟨x, hx, hv.same hs hl hh⟩
theorem RdV.more {l : List V} (h : RdV w lo hi v l) (h1 : lo' ≤ lo) (h2 : hi ≤ hi') : RdV w lo' hi' v l := h.imp h1 h2 fun _ _ _ _ _ h => h
theorem RdV.below {B : Nat} {l : List V} (h : RdV w lo hi v l) (hb : Below B w w') (hB : hi ≤ B) : RdV w' lo hi v l := h.same (.of_below hb hB)
theorem RdI.same {l : List Int} (h : RdI w lo hi v l) (hs : Same lo hi w w') : RdI w' lo hi v l := h.imp (Nat.le_refl _) (Nat.le_refl _) fun _ _ _ hl hh ⟨x, hx, hv⟩ => ⟨x, hx, (hs.cell hl hh).trans hv⟩
theorem RdI.more {l : List Int} (h : RdI w lo hi v l) (h1 : lo' ≤ lo) (h2 : hi ≤ hi') : RdI w lo' hi' v l := h.imp h1 h2 fun _ _ _ _ _ h => h
theorem RdI.below {B : Nat} {l : List Int} (h : RdI w lo hi v l) (hb : Below B w w') (hB : hi ≤ B) : RdI w' lo hi v l := h.same (.of_below hb hB)
theorem RdB.same {l : List UInt8} (h : RdB w lo hi v l) (hs : Same lo hi w w') : RdB w' lo hi v l := h.imp (Nat.le_refl _) (Nat.le_refl _) fun _ _ _ hl hh ⟨x, hx, hv⟩ => ⟨x, hx, (hs.cell hl hh).trans hv⟩
theorem RdB.more {l : List UInt8} (h : RdB w lo hi v l) (h1 : lo' ≤ lo) (h2 : hi ≤ hi') : RdB w lo' hi' v l := h.imp h1 h2 fun _ _ _ _ _ h => h
theorem RdB.below {B : Nat} {l : List UInt8} (h : RdB w lo hi v l) (hb : Below B w w') (hB : hi ≤ B) : RdB w' lo hi v l := h.same (.of_below hb hB)
theorem RdR.same {l : List R} (h : RdR w lo hi v l) (hs : Same lo hi w w') : RdR w' lo hi v l := h.imp (Nat.le_refl _) (Nat.le_refl _) fun _ _ _ hl hh ⟨x, sv, hx, hi, hv, hr⟩ => ⟨x, sv, hx, (hs.cell hl hh).trans hi, (hs.cell hl hh).trans hv, hr.same hs⟩
theorem RdR.more {l : List R} (h : RdR w lo hi v l) (h1 : lo' ≤ lo) (h2 : hi ≤ hi') : RdR w lo' hi' v l := h.imp h1 h2 fun _ _ _ _ _ ⟨x, sv, hx, hi, hv, hr⟩ => ⟨x, sv, hx, hi, hv, hr.more h1 h2⟩
theorem RdR.below {B : Nat} {l : List R} (h : RdR w lo hi v l) (hb : Below B w w') (hB : hi ≤ B) : RdR w' lo hi v l := h.same (.of_below hb hB)

theorem RdV.at {l : List V} (h : RdV w lo hi (.slice A n c) l) (hk : k < n) : ∃ b off x, A = some ⟨b, off, none⟩ ∧ lo ≤ b ∧ b < hi ∧ l[k]? = some x ∧ w.cell? ⟨b, off + k * 3, none⟩ = some (.int .i64 x.ty) ∧ w.cell? ⟨b, off + k * 3 + 1, none⟩ = some (.int .i64 x.n) ∧ w.cell? ⟨b, off + k * 3 + 2, none⟩ = some (.string x.s) := by
  obtain ⟨A', c', e, _, _, h⟩ := h
  injection e with e1 e2 e3
  subst e1
  obtain ⟨b, off, h1, h2, h3, x, hx, hv⟩ := h k (by omega)
  exact ⟨b, off, x, h1, h2, h3, hx, hv⟩
theorem RdI.at {l : List Int} (h : RdI w lo hi (.slice A n c) l) (hk : k < n) : ∃ b off x, A = some ⟨b, off, none⟩ ∧ lo ≤ b ∧ b < hi ∧ l[k]? = some x ∧ w.cell? ⟨b, off + k, none⟩ = some (.int .i64 x) := by
  obtain ⟨A', c', e, _, _, h⟩ := h
  injection e with e1 e2 e3
  subst e1
  obtain ⟨b, off, h1, h2, h3, x, hx, hv⟩ := h k (by omega)
  exact ⟨b, off, x, h1, h2, h3, hx, by simpa using hv⟩
theorem RdB.at {l : List UInt8} (h : RdB w lo hi (.slice A n c) l) (hk : k < n) : ∃ b off x, A = some ⟨b, off, none⟩ ∧ lo ≤ b ∧ b < hi ∧ l[k]? = some x ∧ w.cell? ⟨b, off + k, none⟩ = some (.int .u8 (x.toNat : Int)) := by
  obtain ⟨A', c', e, _, _, h⟩ := h
  injection e with e1 e2 e3
  subst e1
  obtain ⟨b, off, h1, h2, h3, x, hx, hv⟩ := h k (by omega)
  exact ⟨b, off, x, h1, h2, h3, hx, by simpa using hv⟩
theorem RdR.at {l : List R} (h : RdR w lo hi (.slice A n c) l) (hk : k < n) : ∃ b off x sv, A = some ⟨b, off, none⟩ ∧ lo ≤ b ∧ b < hi ∧ l[k]? = some x ∧ w.cell? ⟨b, off + k * 2, none⟩ = some (.int .i64 x.id) ∧ w.cell? ⟨b, off + k * 2 + 1, none⟩ = some sv ∧ RdV w lo hi sv x.l := by
  obtain ⟨A', c', e, _, _, h⟩ := h
  injection e with e1 e2 e3
  subst e1
  obtain ⟨b, off, h1, h2, h3, x, sv, hx, hv⟩ := h k (by omega)
  exact ⟨b, off, x, sv, h1, h2, h3, hx, hv⟩
end

theorem drop_of_get {α : Type} {l : List α} {k : Nat} {x : α} (h : l[k]? = some x) : l.drop k = x :: l.drop (k + 1) := by
  obtain ⟨hk, e⟩ := List.getElem?_eq_some_iff.1 h
  rw [← e]
  exact List.drop_eq_getElem_cons hk
theorem take_of_get {α : Type} {l : List α} {k : Nat} {x : α} (h : l[k]? = some x) : l.take (k + 1) = l.take k ++ [x] := by
  obtain ⟨hk, e⟩ := List.getElem?_eq_some_iff.1 h
  rw [← e]
  exact List.take_succ_eq_append_getElem hk
theorem mem_of_get {α : Type} {l : List α} {k : Nat} {x : α} (h : l[k]? = some x) : x ∈ l := List.mem_of_getElem? h

theorem add_plain (b o j : Nat) : (⟨b, o, none⟩ : Addr).add j = ⟨b, o + j, none⟩ := by
  unfold Addr.add
  by_cases h : j = 0 <;> simp [h]
theorem foldl_push (ns : List UInt8) : ∀ s : ByteArray, (ns.map fun x : UInt8 => (x.toNat : Int)).foldl (fun r n => r.push (UInt8.ofNat n.toNat)) s = ⟨s.data ++ ns.toArray⟩ := by
  induction ns with
  | nil => intro s; simp
  | cons n ns ih =>
    intro s
    rw [List.map_cons, List.foldl_cons, ih]
    simp [ByteArray.push]
/-- Bytes in memory, made into a string. -/
theorem conv_bytes {P : Program} {src dst e : TypeId} (hs : P.underlying src = some (.slice e)) (he : P.underlying e = some (.int .u8)) (hd : P.underlying dst = some .string)
    (w : World) (b o n c : Nat) (l : List UInt8) (hl : l.length = n) (h : ∀ j x, l[j]? = some x → w.cell? ⟨b, o + j, none⟩ = some (.int .u8 (x.toNat : Int))) :
    (convert src dst (.slice (some ⟨b, o, none⟩) n c)).run P w = .ok (.string ⟨l.toArray⟩) w := by
  have hld := run_loadCells_list (P := P) (w := w) ⟨b, o, none⟩ (l.map fun x => Value.int .u8 (x.toNat : Int)) (fun j v hv => by
    rw [List.getElem?_map] at hv
    cases hx : l[j]? with
    | none => rw [hx] at hv; cases hv
    | some x =>
      rw [hx] at hv
      simp only [Option.map_some, Option.some.injEq] at hv
      rw [add_plain, ← hv]
      exact h j x hx)
  rw [List.length_map, hl] at hld
  rw [run_convert_bytes_string w src dst e _ _ _ hs he hd, run_bytesToString w _ n c (l.map fun x : UInt8 => (x.toNat : Int)) (by rw [List.map_map]; exact hld), foldl_push]
  simp [ByteArray.empty, ByteArray.emptyWithCapacity]
  rfl
theorem ba_append (a b : List UInt8) : (⟨a.toArray⟩ ++ ⟨b.toArray⟩ : ByteArray) = ⟨(a ++ b).toArray⟩ := by
  apply ByteArray.ext
  simp [ByteArray.data_append]

theorem set3 {w : World} {g o : Nat} {cur : Array Value} {e : TypeId} {a b c : Value} (h : w.heap[g]? = some (.cells cur e (0, 0))) :
    (((w.setCell ⟨g, o, none⟩ a).setCell ⟨g, o + 1, none⟩ b).setCell ⟨g, o + 2, none⟩ c).heap[g]? = some (.cells (((cur.setIfInBounds o a).setIfInBounds (o + 1) b).setIfInBounds (o + 2) c) e (0, 0)) :=
  heap_setCell_same _ g _ _ e _ (heap_setCell_same _ g _ _ e _ (heap_setCell_same _ g _ _ e _ h))
theorem take_set3 {l : List Value} {o : Nat} {a b c : Value} (h : o + 3 ≤ l.length) : (((l.set o a).set (o + 1) b).set (o + 2) c).take (o + 3) = l.take o ++ [a, b, c] := by
  have hl : (l.take o).length = o := by rw [List.length_take]; omega
  apply List.ext_getElem?
  intro i
  simp only [List.getElem?_append, hl, List.getElem?_take, List.getElem?_set, List.length_set]
  rcases (by omega : i < o ∨ i = o ∨ i = o + 1 ∨ i = o + 2 ∨ o + 3 ≤ i) with hi | rfl | rfl | rfl | hi
  · repeat (first | rw [if_pos (by omega)] | rw [if_neg (by omega)])
  · repeat (first | rw [if_pos (by omega)] | rw [if_neg (by omega)])
    simp
  · repeat (first | rw [if_pos (by omega)] | rw [if_neg (by omega)])
    simp
  · repeat (first | rw [if_pos (by omega)] | rw [if_neg (by omega)])
    simp
  · repeat (first | rw [if_pos (by omega)] | rw [if_neg (by omega)])
    rw [List.getElem?_eq_none (by simp; omega)]

theorem set2 {w : World} {g o p : Nat} {cur : Array Value} {e : TypeId} {a b : Value} (h : w.heap[g]? = some (.cells cur e (0, 0))) :
    ((w.setCell ⟨g, o, none⟩ a).setCell ⟨g, p, none⟩ b).heap[g]? = some (.cells ((cur.setIfInBounds o a).setIfInBounds p b) e (0, 0)) :=
  heap_setCell_same _ g _ _ e _ (heap_setCell_same _ g _ _ e _ h)
theorem set1 {w : World} {g o : Nat} {cur : Array Value} {e : TypeId} {a : Value} (h : w.heap[g]? = some (.cells cur e (0, 0))) :
    (w.setCell ⟨g, o, none⟩ a).heap[g]? = some (.cells (cur.setIfInBounds o a) e (0, 0)) := heap_setCell_same _ g _ _ e _ h
theorem grown_set {w w' : World} {g : Nat} (h : w.grownBy w' (some g)) (o : Nat) (u : Value) : w.grownBy (w'.setCell ⟨g, o, none⟩ u) (some g) :=
  ⟨h.os, h.tape, h.output, by simpa [World.setCell] using h.size, fun k hk hne => (Below.heap_setCell w' ⟨g, o, none⟩ u k (fun e => hne (by rw [e]))).trans (h.block k hk hne)⟩
theorem grown_below {w w' w1 : World} {row : Option Nat} (h : w.grownBy w' row) (hb : Below w'.heap.size w' w1) : w.grownBy w1 row :=
  ⟨hb.os.trans h.os, hb.tape.trans h.tape, hb.output.trans h.output, Nat.le_trans h.size hb.size, fun k hk hne => (hb.block k (Nat.lt_of_lt_of_le hk h.size)).trans (h.block k hk hne)⟩
theorem grown_drew {w w' : World} {row : Option Nat} (h : w.grownBy w' row) : w.grownBy w'.drew row := ⟨h.os, h.tape, h.output, h.size, h.block⟩
theorem make_n {P : Program} (t e : TypeId) (i : TypeInfo) (z : Value) (ht : P.underlying t = some (.slice e)) (hi : P.info? e = some i) (hz : i.zero = some z)
    (n : Nat) (hbytes : i.bytes * n ≤ 281474976710656) (h63 : n ≤ 9223372036854775807) (w : World) :
    (Instr.makeSlice t (.int .i64 (n : Int)) (.int .i64 (n : Int))).run P w = .ok (.slice (some ⟨w.heap.size, 0, none⟩) n n) (w.alloc (.cells (madeCells z.cells (n * i.size)) e)) := by
  have hb : (i.bytes : Int) * (n : Int) ≤ 281474976710656 := by
    have h : ((i.bytes * n : Nat) : Int) ≤ 281474976710656 := by omega
    rwa [Int.natCast_mul] at h
  have hr := run_make (P := P) w t e i z ht hi hz .i64 .i64 n n (by omega) (by omega) hb (by omega)
  simp only [Int.toNat_natCast] at hr
  exact hr

theorem bcell {W w1 : World} (hb : Below W.heap.size W w1) : (∀ b o, b < W.heap.size → w1.cell? ⟨b, o, none⟩ = W.cell? ⟨b, o, none⟩) ∧ (∀ b o, b < W.heap.size → w1.frozen? ⟨b, o, none⟩ = W.frozen? ⟨b, o, none⟩) :=
  ⟨fun b o h => hb.cell (p := ⟨b, o, none⟩) h, fun b o h => hb.frozen (p := ⟨b, o, none⟩) h⟩
structure Z where
  lo : V
  hi : V
deriving DecidableEq
def less (a b : V) : Bool := if a.ty ≠ b.ty then decide (a.ty < b.ty) else if a.n ≠ b.n then decide (a.n < b.n) else Op.bytesLess a.s.toList b.s.toList
def inZone (z : Z) (v : V) : Bool := !less v z.lo && !less z.hi v

def holds1 (op : Int) (a b : V) : Bool := if op = 1 then less a b else if op = 2 then !less b a else if op = 3 then decide (a = b) else if op = 4 then !decide (a = b) else if op = 5 then !less a b else if op = 6 then less b a else false
def mayHold1 (op : Int) (z : Z) (v : V) : Bool := if op = 1 then less z.lo v else if op = 2 then !less v z.lo else if op = 3 then inZone z v else if op = 4 then !decide (z.lo = v) || !decide (z.hi = v) else if op = 5 then !less z.hi v else if op = 6 then less v z.hi else false

theorem below_a1 {w w' : World} {o0 : Obj} (h : Below (w.alloc o0).heap.size (w.alloc o0) w') : Below w.heap.size w w' :=
  ((Below.refl _ _).alloc (Nat.le_refl _) _).trans (h.mono (by simp))
theorem below_a2 {w w' : World} {o0 o1 : Obj} (h : Below ((w.alloc o0).alloc o1).heap.size ((w.alloc o0).alloc o1) w') : Below w.heap.size w w' :=
  ((Below.refl _ _).alloc (Nat.le_refl _) o0).trans (below_a1 h |>.mono (by simp))
theorem below_a3 {w w' : World} {o0 o1 o2 : Obj} (h : Below (((w.alloc o0).alloc o1).alloc o2).heap.size (((w.alloc o0).alloc o1).alloc o2) w') : Below w.heap.size w w' :=
  ((Below.refl _ _).alloc (Nat.le_refl _) o0).trans (below_a2 h |>.mono (by simp))
theorem below_a4 {w w' : World} {o0 o1 o2 o3 : Obj} (h : Below ((((w.alloc o0).alloc o1).alloc o2).alloc o3).heap.size ((((w.alloc o0).alloc o1).alloc o2).alloc o3) w') : Below w.heap.size w w' :=
  ((Below.refl _ _).alloc (Nat.le_refl _) o0).trans (below_a3 h |>.mono (by simp))
theorem below_a5 {w w' : World} {o0 o1 o2 o3 o4 : Obj} (h : Below (((((w.alloc o0).alloc o1).alloc o2).alloc o3).alloc o4).heap.size (((((w.alloc o0).alloc o1).alloc o2).alloc o3).alloc o4) w') : Below w.heap.size w w' :=
  ((Below.refl _ _).alloc (Nat.le_refl _) o0).trans (below_a4 h |>.mono (by simp))
theorem below_a6 {w w' : World} {o0 o1 o2 o3 o4 o5 : Obj} (h : Below ((((((w.alloc o0).alloc o1).alloc o2).alloc o3).alloc o4).alloc o5).heap.size ((((((w.alloc o0).alloc o1).alloc o2).alloc o3).alloc o4).alloc o5) w') : Below w.heap.size w w' :=
  ((Below.refl _ _).alloc (Nat.le_refl _) o0).trans (below_a5 h |>.mono (by simp))
def opposite (op : Int) : Int := if op = 1 then 5 else if op = 2 then 6 else if op = 3 then 4 else if op = 4 then 3 else if op = 5 then 1 else if op = 6 then 2 else 0
def kindText (n : Int) : ByteArray := if n = 0 then ⟨#[112, 108, 97, 105, 110]⟩ else if n = 1 then ⟨#[114, 117, 110, 115]⟩ else if n = 2 then ⟨#[100, 105, 99, 116]⟩ else if n = 3 then ⟨#[102, 114, 97, 109, 101]⟩ else ⟨#[]⟩

def V.zero : V := ⟨0, 0, ⟨#[]⟩⟩
def zstep (z : Z) (v : V) : Z := ⟨if less v z.lo then v else z.lo, if less z.hi v then v else z.hi⟩
def zoneOf : List V → Z
  | [] => ⟨V.zero, V.zero⟩
  | v :: r => r.foldl zstep ⟨v, v⟩
def Z.cells (z : Z) : List Value := z.lo.cells ++ z.hi.cells

theorem keep6' {w W w1 : World} {b b' o0 o1 o2 p0 p1 p2 : Nat} {u0 u1 u2 u0' u1' u2' : Value} (hb : b < w.heap.size) (hb' : b' < w.heap.size)
    (h : (W.cell? ⟨b, o0, none⟩ = some u0 ∧ W.cell? ⟨b, o1, none⟩ = some u1 ∧ W.cell? ⟨b, o2, none⟩ = some u2) ∧ (W.cell? ⟨b', p0, none⟩ = some u0' ∧ W.cell? ⟨b', p1, none⟩ = some u1' ∧ W.cell? ⟨b', p2, none⟩ = some u2') ∧ Below w.heap.size w W) (h1 : Below W.heap.size W w1) :
    (w1.cell? ⟨b, o0, none⟩ = some u0 ∧ w1.cell? ⟨b, o1, none⟩ = some u1 ∧ w1.cell? ⟨b, o2, none⟩ = some u2) ∧ (w1.cell? ⟨b', p0, none⟩ = some u0' ∧ w1.cell? ⟨b', p1, none⟩ = some u1' ∧ w1.cell? ⟨b', p2, none⟩ = some u2') ∧ Below w.heap.size w w1 := by
  obtain ⟨⟨h2, h3, h4⟩, ⟨h5, h6, h7⟩, h8⟩ := h
  have hs := h8.size
  have k : ∀ o, w1.cell? ⟨b, o, none⟩ = W.cell? ⟨b, o, none⟩ := fun o => h1.cell (p := ⟨b, o, none⟩) (by show b < _; omega)
  have k' : ∀ o, w1.cell? ⟨b', o, none⟩ = W.cell? ⟨b', o, none⟩ := fun o => h1.cell (p := ⟨b', o, none⟩) (by show b' < _; omega)
  simp only [k, k']
  exact ⟨⟨h2, h3, h4⟩, ⟨h5, h6, h7⟩, h8.trans (h1.mono hs)⟩

theorem below_drewN' {B : Nat} {a w : World} (h : Below B a w) (n : Nat) : Below B a (w.drewN n) := ⟨h.os, h.tape, h.output, h.size, h.block⟩

theorem up_a1 (w : World) (o0 : Obj) : Below w.heap.size w (w.alloc o0) := below_a1 (Below.refl _ _)
theorem up_a2 (w : World) (o0 o1 : Obj) : Below w.heap.size w ((w.alloc o0).alloc o1) := below_a2 (Below.refl _ _)
theorem up_a3 (w : World) (o0 o1 o2 : Obj) : Below w.heap.size w (((w.alloc o0).alloc o1).alloc o2) := below_a3 (Below.refl _ _)
theorem up_a4 (w : World) (o0 o1 o2 o3 : Obj) : Below w.heap.size w ((((w.alloc o0).alloc o1).alloc o2).alloc o3) := below_a4 (Below.refl _ _)
theorem up_a5 (w : World) (o0 o1 o2 o3 o4 : Obj) : Below w.heap.size w (((((w.alloc o0).alloc o1).alloc o2).alloc o3).alloc o4) := below_a5 (Below.refl _ _)
theorem up_a6 (w : World) (o0 o1 o2 o3 o4 o5 : Obj) : Below w.heap.size w ((((((w.alloc o0).alloc o1).alloc o2).alloc o3).alloc o4).alloc o5) := below_a6 (Below.refl _ _)

def inR (n lo hi : Int) : Bool := decide (lo ≤ n) && decide (n ≤ hi)
theorem inR_yes {n lo hi : Int} (h : inR n lo hi = true) : lo ≤ n ∧ n ≤ hi := by simpa [inR] using h
theorem inR_no {n lo hi : Int} (h : inR n lo hi = false) : n < lo ∨ hi < n := by
  simp [inR] at h
  omega
theorem inR_of {n lo hi : Int} (h1 : lo ≤ n) (h2 : n ≤ hi) : inR n lo hi = true := by simp [inR, h1, h2]
theorem inR_not {n lo hi : Int} (h : n < lo ∨ hi < n) : inR n lo hi = false := by
  simp [inR]
  omega
def isNum (n : Int) : Bool := inR n (-1000000000) 1000000000
def chOk (c : UInt8) : Bool := inR (c.toNat : Int) 97 122 || inR (c.toNat : Int) 48 57
def valOk (v : V) : Bool := if v.ty = 1 then isNum v.n && v.s.data.toList.isEmpty else if v.ty = 2 then v.s.data.toList.all chOk && (decide (v.s.data.toList.length ≤ 6) && decide (v.n = 0)) else false

theorem get_byte (s : ByteArray) (k : Nat) (h : k < s.size) : s.data.toList[k]? = some s[k] := by
  rw [List.getElem?_eq_getElem (by simpa using h)]; rfl
theorem take_byte (s : ByteArray) (k : Nat) (h : k < s.size) : s.data.toList.take (k + 1) = s.data.toList.take k ++ [s[k]] := take_of_get (get_byte s k h)
theorem chOk_yes {c : UInt8} (h : (97 ≤ (c.toNat : Int) ∧ (c.toNat : Int) ≤ 122) ∨ (48 ≤ (c.toNat : Int) ∧ (c.toNat : Int) ≤ 57)) : chOk c = true := by
  unfold chOk
  rcases h with ⟨h1, h2⟩ | ⟨h1, h2⟩
  · rw [inR_of h1 h2]; rfl
  · rw [inR_of h1 h2]; simp
theorem chOk_not {c : UInt8} (h1 : (c.toNat : Int) < 97 ∨ 122 < (c.toNat : Int)) (h2 : (c.toNat : Int) < 48 ∨ 57 < (c.toNat : Int)) : chOk c = false := by
  unfold chOk
  rw [inR_not h1, inR_not h2]; rfl
theorem all_take {l : List UInt8} {p : UInt8 → Bool} {k : Nat} {c : UInt8} (hc : l[k]? = some c) (hp : p c = false) : l.all p = false := by
  rw [List.all_eq_false]
  exact ⟨c, List.mem_of_getElem? hc, by simp [hp]⟩

def tyBad (a v : V) : Bool := !valOk v || decide (v.ty ≠ a.ty)
def typeOf : List V → Int
  | [] => 0
  | a :: r => if inR ((a :: r).length : Int) 1 64 && !(a :: r).any (tyBad a) then a.ty else 0

theorem keep4 {w W w1 : World} {b o0 o1 o2 p0 : Nat} {u0 u1 u2 u0' : Value} (hb : b < w.heap.size)
    (h : (W.cell? ⟨b, o0, none⟩ = some u0 ∧ W.cell? ⟨b, o1, none⟩ = some u1 ∧ W.cell? ⟨b, o2, none⟩ = some u2) ∧ W.cell? ⟨b, p0, none⟩ = some u0' ∧ Below w.heap.size w W) (h1 : Below W.heap.size W w1) :
    (w1.cell? ⟨b, o0, none⟩ = some u0 ∧ w1.cell? ⟨b, o1, none⟩ = some u1 ∧ w1.cell? ⟨b, o2, none⟩ = some u2) ∧ w1.cell? ⟨b, p0, none⟩ = some u0' ∧ Below w.heap.size w w1 := by
  obtain ⟨⟨h2, h3, h4⟩, h5, h8⟩ := h
  have hs := h8.size
  have k : ∀ o, w1.cell? ⟨b, o, none⟩ = W.cell? ⟨b, o, none⟩ := fun o => h1.cell (p := ⟨b, o, none⟩) (by show b < _; omega)
  simp only [k]
  exact ⟨⟨h2, h3, h4⟩, h5, h8.trans (h1.mono hs)⟩

/-- A row of the call's own: it lies in a block from lo on, below hi. -/
def Own (e s : Nat) (w : World) (lo hi : Nat) (v : Value) (n : Nat) (xs : List Value) : Prop := w.ownsRow lo e s v n xs ∧ ∀ g, v.ownBlock = some g → g < hi
/-- Only blocks from lo on, below hi, and new ones, have turned. -/
structure Chg (lo hi : Nat) (w w' : World) : Prop where
  os : w'.os = w.os
  tape : w'.tape = w.tape
  output : w'.output = w.output
  size : w.heap.size ≤ w'.heap.size
  block : ∀ k, k < w.heap.size → (k < lo ∨ hi ≤ k) → w'.heap[k]? = w.heap[k]?
section
variable {w w' w1 : World} {lo hi lo' hi' e s n : Nat} {v : Value} {xs : List Value}
theorem Chg.refl (lo hi : Nat) (w : World) : Chg lo hi w w := ⟨rfl, rfl, rfl, Nat.le_refl _, fun _ _ _ => rfl⟩
theorem Chg.trans (h : Chg lo hi w w') (k : Chg lo hi w' w1) : Chg lo hi w w1 :=
  ⟨k.os.trans h.os, k.tape.trans h.tape, k.output.trans h.output, Nat.le_trans h.size k.size, fun i hi' ho => (k.block i (Nat.lt_of_lt_of_le hi' h.size) ho).trans (h.block i hi' ho)⟩
theorem Chg.of_below (h : Below w.heap.size w w') : Chg lo hi w w' := ⟨h.os, h.tape, h.output, h.size, fun i hi _ => h.block i hi⟩
theorem Chg.of_grown {row : Option Nat} (h : w.grownBy w' row) (hr : ∀ g, row = some g → lo ≤ g ∧ g < hi) : Chg lo hi w w' :=
  ⟨h.os, h.tape, h.output, h.size, fun i hi ho => h.block i hi fun e => by have := hr i e.symm; omega⟩
theorem Chg.mono (h : Chg lo hi w w') (h1 : lo' ≤ lo) (h2 : hi ≤ hi') : Chg lo' hi' w w' := ⟨h.os, h.tape, h.output, h.size, fun i hi ho => h.block i hi (by omega)⟩
theorem Chg.below (h : Chg lo hi w w') {B : Nat} (h1 : B ≤ lo) (h2 : B ≤ w.heap.size) : Below B w w' := ⟨h.os, h.tape, h.output, h.size, fun i hi => h.block i (by omega) (by omega)⟩
theorem Same.of_chg (h : Chg lo hi w w') (h1 : hi' ≤ lo ∨ hi ≤ lo') (h2 : hi' ≤ w.heap.size) : Same lo' hi' w w' := fun k hl hk => h.block k (by omega) (by omega)
theorem Same.refl (lo hi : Nat) (w : World) : Same lo hi w w := fun _ _ _ => rfl
theorem Same.trans (h : Same lo hi w w') (k : Same lo hi w' w1) : Same lo hi w w1 := fun i h1 h2 => (k i h1 h2).trans (h i h1 h2)
theorem Same.less (h : Same lo hi w w') (h1 : lo ≤ lo') (h2 : hi' ≤ hi) : Same lo' hi' w w' := fun k hl hk => h k (by omega) (by omega)
theorem Below.undrew {B : Nat} (h : Below B w.drew w') : Below B w w' := ⟨h.os, h.tape, h.output, h.size, h.block⟩
theorem Own.new (h : w.ownsRow lo e s v n xs) : Own e s w lo w.heap.size v n xs := ⟨h, fun g hg => (h.lt g hg).2⟩
theorem Own.same (h : Own e s w lo hi v n xs) (hs : Same lo hi w w') : Own e s w' lo hi v n xs := by
  refine ⟨⟨h.1.1, ?_⟩, h.2⟩
  have h2 := h.2
  rcases h.1.2 with h0 | ⟨g, cap, cur, rfl, hb, hg, r⟩
  · exact .inl h0
  · exact .inr ⟨g, cap, cur, rfl, hb, by rw [hs g hb (h2 g rfl)]; exact hg, r⟩
theorem Own.below (h : Own e s w lo hi v n xs) {B : Nat} (hb : Below B w w') (hB : hi ≤ B) : Own e s w' lo hi v n xs := h.same (.of_below hb hB)
theorem Own.more (h : Own e s w lo hi v n xs) (h1 : lo' ≤ lo) (h2 : hi ≤ hi') : Own e s w lo' hi' v n xs := by
  refine ⟨⟨h.1.1, ?_⟩, fun g hg => by have := h.2 g hg; omega⟩
  rcases h.1.2 with h0 | ⟨g, cap, cur, rfl, hb, hg, r⟩
  · exact .inl h0
  · exact .inr ⟨g, cap, cur, rfl, by omega, hg, r⟩
theorem Own.cells (h : Own e s w lo hi v n xs) : RdG lo hi s v n fun k b o => ∀ j, j < s → w.cell? ⟨b, o + j, none⟩ = xs[k * s + j]? := by
  have hc := h.1
  have h2 := h.2
  rcases h.1.2 with ⟨rfl, rfl⟩ | ⟨g, cap, cur, rfl, hlo, hcur, hnc, hcm, hsz, -⟩
  · exact ⟨none, 0, rfl, Nat.le_refl _, Nat.zero_le _, fun k hk => absurd hk (by omega)⟩
  · refine ⟨_, cap, rfl, hnc, hcm, fun k hk => ⟨g, 0, rfl, hlo, h2 g rfl, fun j hj => ?_⟩⟩
    rw [Nat.zero_add]
    refine hc.cellAt _ ?_
    calc k * s + j < k * s + s := by omega
      _ = (k + 1) * s := by rw [Nat.add_mul, Nat.one_mul]
      _ ≤ n * s := Nat.mul_le_mul_right _ (by omega)
theorem Own.rdV {l : List V} (h : Own e 3 w lo hi v l.length (l.flatMap V.cells)) : RdV w lo hi v l := by
  obtain ⟨A, c, h1, h2, h3, h4⟩ := h.cells
  refine ⟨A, c, h1, h2, h3, fun k hk => ?_⟩
  obtain ⟨b, off, ha, hl, hh, hc⟩ := h4 k hk
  refine ⟨b, off, ha, hl, hh, l[k], List.getElem?_eq_getElem hk, ?_⟩
  have hg : ∀ j, j < 3 → w.cell? ⟨b, off + k * 3 + j, none⟩ = (V.cells l[k])[j]? := fun j hj => (hc j hj).trans (flat_get V.cells 3 V.cells_len l k j _ (List.getElem?_eq_getElem hk) hj)
  exact ⟨hg 0 (by omega), hg 1 (by omega), hg 2 (by omega)⟩
theorem Own.rdI {l : List Int} (h : Own e 1 w lo hi v l.length (l.map (Value.int .i64))) : RdI w lo hi v l := by
  obtain ⟨A, c, h1, h2, h3, h4⟩ := h.cells
  refine ⟨A, c, h1, h2, h3, fun k hk => ?_⟩
  obtain ⟨b, off, ha, hl, hh, hc⟩ := h4 k hk
  exact ⟨b, off, ha, hl, hh, l[k], List.getElem?_eq_getElem hk, by simpa [hk] using hc 0 (by omega)⟩
theorem Own.rdB {l : List UInt8} (h : Own e 1 w lo hi v l.length (l.map fun x => Value.int .u8 (x.toNat : Int))) : RdB w lo hi v l := by
  obtain ⟨A, c, h1, h2, h3, h4⟩ := h.cells
  refine ⟨A, c, h1, h2, h3, fun k hk => ?_⟩
  obtain ⟨b, off, ha, hl, hh, hc⟩ := h4 k hk
  exact ⟨b, off, ha, hl, hh, l[k], List.getElem?_eq_getElem hk, by simpa [hk] using hc 0 (by omega)⟩
theorem box_new (w : World) (cs : Array Value) (t : TypeId) (o : Nat) : (w.alloc (.cells cs t)).cell? ⟨w.heap.size, o, none⟩ = cs[o]? := cell_of_row _ _ o cs t _ (heap_alloc_new w _)
theorem box_keep {g : Nat} {cs : Array Value} (h : ∀ o, w.cell? ⟨g, o, none⟩ = cs[o]?) {B : Nat} (hb : Below B w w') (hg : g < B) (o : Nat) : w'.cell? ⟨g, o, none⟩ = cs[o]? := (hb.cell (p := ⟨g, o, none⟩) hg).trans (h o)
theorem box_chg {g : Nat} {cs : Array Value} (h : ∀ o, w.cell? ⟨g, o, none⟩ = cs[o]?) (hb : Chg lo hi w w') (hg : g < w.heap.size) (ho : g < lo ∨ hi ≤ g) (o : Nat) : w'.cell? ⟨g, o, none⟩ = cs[o]? := (World.cell?_of_block (a := ⟨g, o, none⟩) (hb.block g hg ho)).trans (h o)
end

/-- Equality as a Bool that the walk does not take apart. -/
def eqd {α : Type} [DecidableEq α] (x y : α) : Bool := decide (x = y)
theorem eqd_self {α : Type} [DecidableEq α] (x : α) : eqd x x = true := by simp [eqd]
theorem eqd_of {α : Type} [DecidableEq α] {x y : α} (h : x = y) : eqd x y = true := by simp [eqd, h]
theorem eqd_no {α : Type} [DecidableEq α] {x y : α} (h : ¬ x = y) : eqd x y = false := by simp [eqd, h]

theorem ret_int {k : IntKind} {a b : Int} (h : a = b) : Ending.returned (.int k a) = .returned (.int k b) := by rw [h]
theorem ret_bool {a b : Bool} (h : a = b) : Ending.returned (.bool a) = .returned (.bool b) := by rw [h]
theorem ret_string {a b : ByteArray} (h : a = b) : Ending.returned (.string a) = .returned (.string b) := by rw [h]

end Go.Lb
namespace Go.Lb
open Go.RowKit

section
variable {P : Program} {w : World} {ops : Array Oper} {rest : List Oper} {o : Oper} {a : Act} {Q : Exit → Act → World → Prop}
/-- One element is appended (a plain region's list). -/
theorem wpl_app (hgd : o.guard = none) (s x : Operand) (t : TypeId) (ho : o.op = .call { callee := .builtin .append, args := #[s, x], argTypes := #[t, t] })
    (base : Nat) (e : TypeId) (i : TypeInfo) (z : Value) (size bytes : Nat) (ht : P.underlying t = some (.slice e)) (hi : P.info? e = some i) (hz : i.zero = some z)
    (hsize : i.size = size) (hby : i.bytes = bytes) (hzs : z.cells.size = size) (hsz : 0 < size) (hb64 : bytes ≤ 64)
    {v : Value} {n : Nat} {xs : List Value} (hown : w.ownsRow base e size v n xs) (hs : a.eval s = v)
    {B : Nat} {cs : Array Value} {ty : TypeId} {fr : Nat × Nat} (hB : w.heap[B]? = some (.cells cs ty fr)) (hx : a.eval x = .slice (some ⟨B, 0, none⟩) 1 1)
    (hcs : cs.size = size) (h1 : ∀ u ∈ cs.toList, u.oneCell' = true) (hn : n ≤ 1099511627776) (hbase : base ≤ w.heap.size)
    (h : ∀ v' w', w'.ownsRow base e size v' (n + 1) (xs ++ cs.toList) → w.grownBy w' v.ownBlock → (∀ g, v'.ownBlock = some g → v.ownBlock = some g ∨ w.heap.size ≤ g) → wpList P ops Q rest (a.put o.dst v') w') : wpList P ops Q (o :: rest) a w :=
  wpList_append_lies w hgd s x t ho base e i z size bytes ht hi hz hsize hby hzs hsz v n xs hs hown ⟨B, 0, none⟩ 1 1 cs.toList hx (by simp [hcs]) (World.news_of_block hB) h1 (by omega)
    (by unfold maxLen; omega) (by have := Nat.mul_le_mul (show n + 1 ≤ 1099511627777 by omega) hb64; omega) hbase _ rfl fun g _ w' h2 h3 h4 _ => h _ w' h2 h3 fun g' hg' => by
      injection hg' with hg'
      subst hg'
      rcases h4 with h4 | h4
      · exact .inl h4
      · exact .inr (Nat.le_of_eq h4.symm)
/-- The same at a step of a region that draws its order. -/
theorem step_app {K : Act → World → Prop} {E : Prop} (hgd : o.guard = none) (s x : Operand) (t : TypeId) (ho : o.op = .call { callee := .builtin .append, args := #[s, x], argTypes := #[t, t] })
    (base : Nat) (e : TypeId) (i : TypeInfo) (z : Value) (size bytes : Nat) (ht : P.underlying t = some (.slice e)) (hi : P.info? e = some i) (hz : i.zero = some z)
    (hsize : i.size = size) (hby : i.bytes = bytes) (hzs : z.cells.size = size) (hsz : 0 < size) (hb64 : bytes ≤ 64)
    {v : Value} {n : Nat} {xs : List Value} (hown : w.ownsRow base e size v n xs) (hs : a.eval s = v)
    {B : Nat} {cs : Array Value} {ty : TypeId} {fr : Nat × Nat} (hB : w.heap[B]? = some (.cells cs ty fr)) (hx : a.eval x = .slice (some ⟨B, 0, none⟩) 1 1)
    (hcs : cs.size = size) (h1 : ∀ u ∈ cs.toList, u.oneCell' = true) (hn : n ≤ 1099511627776) (hbase : base ≤ w.heap.size)
    (h : ∀ v' w', w'.ownsRow base e size v' (n + 1) (xs ++ cs.toList) → w.grownBy w' v.ownBlock → (∀ g, v'.ownBlock = some g → v.ownBlock = some g ∨ w.heap.size ≤ g) → K (a.put o.dst v') w') :
    if Region.wanted o (yielded ops a.tmps) = true then Oper.wp P o a w K Q else E :=
  step_append_lies w hgd s x t ho base e i z size bytes ht hi hz hsize hby hzs hsz v n xs hs hown ⟨B, 0, none⟩ 1 1 cs.toList hx (by simp [hcs]) (World.news_of_block hB) h1 (by omega)
    (by unfold maxLen; omega) (by have := Nat.mul_le_mul (show n + 1 ≤ 1099511627777 by omega) hb64; omega) hbase _ rfl fun g _ w' h2 h3 h4 _ => h _ w' h2 h3 fun g' hg' => by
      injection hg' with hg'
      subst hg'
      rcases h4 with h4 | h4
      · exact .inl h4
      · exact .inr (Nat.le_of_eq h4.symm)
end

section
variable {P : Program} {w : World} {ops : Array Oper} {rest : List Oper} {o : Oper} {a : Act} {Q : Exit → Act → World → Prop}
theorem run_app_none (base : Nat) (t ty e : TypeId) (i : TypeInfo) (size c : Nat) (ht : P.underlying t = some (.slice e)) (hi : P.info? e = some i)
    (v : Value) (n : Nat) (xs : List Value) (hown : w.ownsRow base e size v n xs) :
    (Builtin.append_ #[t, t] ty #[v, .slice none 0 c]).run P w = .ok v w := by
  rcases hown.2 with ⟨rfl, rfl⟩ | ⟨g, cap, cur, rfl, _, _, hnc, _⟩
  · simp [Builtin.append_, run_underlying ht, sizeOf, typeInfo, hi, Builtin.lenOf, Builtin.firstCells]
  · simp [Builtin.append_, run_underlying ht, sizeOf, typeInfo, hi, Builtin.lenOf, Builtin.firstCells, hnc, storeCells]
/-- A whole slice is appended: what the operation leaves. -/
theorem wp_spread {K : Act → World → Prop} (s x : Operand) (t : TypeId) (ho : o.op = .call { callee := .builtin .append, args := #[s, x], argTypes := #[t, t] })
    (base : Nat) (e : TypeId) (i : TypeInfo) (z : Value) (size bytes : Nat) (ht : P.underlying t = some (.slice e)) (hi : P.info? e = some i) (hz : i.zero = some z)
    (hsize : i.size = size) (hby : i.bytes = bytes) (hzs : z.cells.size = size) (hsz : 0 < size) (hb64 : bytes ≤ 64)
    {v : Value} {n : Nat} {xs : List Value} (hown : w.ownsRow base e size v n xs) (hs : a.eval s = v)
    {A : Option Addr} {m c : Nat} {news : List Value} (hx : a.eval x = .slice A m c) (hl : news.length = m * size)
    (hA : A = none → m = 0) (hnews : ∀ ad, A = some ad → ∀ j u, news[j]? = some u → w.cell? (ad.add j) = some u) (h1 : ∀ u ∈ news, u.oneCell' = true) (hn : n + m ≤ 1099511627776) (hbase : base ≤ w.heap.size)
    (h : ∀ v' w', w'.ownsRow base e size v' (n + m) (xs ++ news) → w.grownBy w' v.ownBlock → (∀ g, v'.ownBlock = some g → v.ownBlock = some g ∨ w.heap.size ≤ g) → K (a.put o.dst v') w') : o.wp P a w K Q := by
  cases A with
  | none =>
    obtain rfl := hA rfl
    obtain rfl : news = [] := List.eq_nil_of_length_eq_zero (by simpa using hl)
    have hrun := run_app_none (P := P) (w := w) base t o.type e i size c ht hi v n xs hown
    unfold Oper.wp
    simp [execOp, ho, resolve, invoke, builtin, hs, hx, hrun, Result.andThen]
    exact h v w (by simpa using hown) (World.grownBy.refl w _) (fun g hg => .inl hg)
  | some ad =>
    obtain ⟨v', w', hr, h2, h3, _, h5⟩ := run_append_own_at (P := P) w base t o.type e i z size bytes ht hi hz hsize hby hzs hsz v n xs hown ad m c news hl (hnews ad rfl) h1
      (by unfold maxLen; omega) (by have := Nat.mul_le_mul hn hb64; omega) hbase
    unfold Oper.wp execOp
    simp only [ho, resolve, invoke, builtin, Sem.run_bind, Sem.run_pure, Result.andThen_ok, List.map_toArray, List.map_cons, List.map_nil, hs, hx, hr]
    refine h v' w' h2 h3 fun g hg => ?_
    rcases h5 with h5 | h5
    · exact .inl (by rw [← h5]; exact hg)
    · right
      rw [h5] at hg
      injection hg with hg
      omega
/-- The same at a plain region's list. -/
theorem wpl_spread (hgd : o.guard = none) (s x : Operand) (t : TypeId) (ho : o.op = .call { callee := .builtin .append, args := #[s, x], argTypes := #[t, t] })
    (base : Nat) (e : TypeId) (i : TypeInfo) (z : Value) (size bytes : Nat) (ht : P.underlying t = some (.slice e)) (hi : P.info? e = some i) (hz : i.zero = some z)
    (hsize : i.size = size) (hby : i.bytes = bytes) (hzs : z.cells.size = size) (hsz : 0 < size) (hb64 : bytes ≤ 64)
    {v : Value} {n : Nat} {xs : List Value} (hown : w.ownsRow base e size v n xs) (hs : a.eval s = v)
    {A : Option Addr} {m c : Nat} {news : List Value} (hx : a.eval x = .slice A m c) (hl : news.length = m * size)
    (hA : A = none → m = 0) (hnews : ∀ ad, A = some ad → ∀ j u, news[j]? = some u → w.cell? (ad.add j) = some u) (h1 : ∀ u ∈ news, u.oneCell' = true) (hn : n + m ≤ 1099511627776) (hbase : base ≤ w.heap.size)
    (h : ∀ v' w', w'.ownsRow base e size v' (n + m) (xs ++ news) → w.grownBy w' v.ownBlock → (∀ g, v'.ownBlock = some g → v.ownBlock = some g ∨ w.heap.size ≤ g) → wpList P ops Q rest (a.put o.dst v') w') : wpList P ops Q (o :: rest) a w :=
  wpList_plain hgd fun _ hK => wp_spread s x t ho base e i z size bytes ht hi hz hsize hby hzs hsz hb64 hown hs hx hl hA hnews h1 hn hbase fun v' w' h2 h3 h4 => hK _ _ (h v' w' h2 h3 h4)
/-- The same at a step of a region that draws its order. -/
theorem step_spread {K : Act → World → Prop} {E : Prop} (hgd : o.guard = none) (s x : Operand) (t : TypeId) (ho : o.op = .call { callee := .builtin .append, args := #[s, x], argTypes := #[t, t] })
    (base : Nat) (e : TypeId) (i : TypeInfo) (z : Value) (size bytes : Nat) (ht : P.underlying t = some (.slice e)) (hi : P.info? e = some i) (hz : i.zero = some z)
    (hsize : i.size = size) (hby : i.bytes = bytes) (hzs : z.cells.size = size) (hsz : 0 < size) (hb64 : bytes ≤ 64)
    {v : Value} {n : Nat} {xs : List Value} (hown : w.ownsRow base e size v n xs) (hs : a.eval s = v)
    {A : Option Addr} {m c : Nat} {news : List Value} (hx : a.eval x = .slice A m c) (hl : news.length = m * size)
    (hA : A = none → m = 0) (hnews : ∀ ad, A = some ad → ∀ j u, news[j]? = some u → w.cell? (ad.add j) = some u) (h1 : ∀ u ∈ news, u.oneCell' = true) (hn : n + m ≤ 1099511627776) (hbase : base ≤ w.heap.size)
    (h : ∀ v' w', w'.ownsRow base e size v' (n + m) (xs ++ news) → w.grownBy w' v.ownBlock → (∀ g, v'.ownBlock = some g → v.ownBlock = some g ∨ w.heap.size ≤ g) → K (a.put o.dst v') w') :
    if Region.wanted o (yielded ops a.tmps) = true then Oper.wp P o a w K Q else E := by
  have hw : Region.wanted o (yielded ops a.tmps) = true := by simp [Region.wanted, hgd]
  rw [if_pos hw]
  exact wp_spread s x t ho base e i z size bytes ht hi hz hsize hby hzs hsz hb64 hown hs hx hl hA hnews h1 hn hbase h
end

section
variable {w w' w1 : World} {base B e s n : Nat} {v : Value} {xs : List Value}
theorem Below.grown {row : Option Nat} (hb : Below B w w') (hg : w'.grownBy w1 row) (hr : ∀ g, row = some g → B ≤ g) (hB : B ≤ w.heap.size) : Below B w w1 :=
  ⟨hg.os.trans hb.os, hg.tape.trans hb.tape, hg.output.trans hb.output, Nat.le_trans hb.size hg.size, fun k hk =>
    (hg.block k (Nat.lt_of_lt_of_le (Nat.lt_of_lt_of_le hk hB) hb.size) (fun e => by have := hr k e.symm; omega)).trans (hb.block k hk)⟩
/-- Below the base nothing turns when a row of the call's own grows. -/
theorem below_app (hb : Below B w w') (hown : w'.ownsRow B e s v n xs) (hg : w'.grownBy w1 v.ownBlock) (hB : B ≤ w.heap.size) : Below B w w1 :=
  Below.grown hb hg (fun g h => (hown.lt g h).1) hB
theorem owns_below (h : w.ownsRow base e s v n xs) (hb : Below w.heap.size w w') : w'.ownsRow base e s v n xs :=
  h.kept (row := none) ⟨hb.os, hb.tape, hb.output, hb.size, fun k hk _ => hb.block k hk⟩ (by cases v.ownBlock <;> simp)
theorem owns_drew (h : w.ownsRow base e s v n xs) : w.drew.ownsRow base e s v n xs := h
/-- A cell of a block that is not the row's own is kept by the append. -/
theorem cell_app {b o : Nat} {u : Value} (h : w.cell? ⟨b, o, none⟩ = some u) (hg : w.grownBy w1 v.ownBlock) (hne : ∀ g, v.ownBlock = some g → g ≠ b) : w1.cell? ⟨b, o, none⟩ = some u :=
  (hg.cell_far ⟨b, o, none⟩ (block_lt_of_cell h) (fun e => hne b e.symm rfl)).trans h
theorem cell_keep {b o : Nat} {u : Value} (h : w.cell? ⟨b, o, none⟩ = some u) (hb : Below w.heap.size w w1) : w1.cell? ⟨b, o, none⟩ = some u := (hb.cell (p := ⟨b, o, none⟩) (block_lt_of_cell h)).trans h
end

/-- The cells of a slice that is read, as a spread append asks for them. -/
theorem RdG.news {α : Type} {f : α → List Value} {sz : Nat} (hf : ∀ a, (f a).length = sz) (hs0 : 0 < sz) {w : World} {l : List α} {lo hi n c : Nat} {A : Option Addr} {E : Nat → Nat → Nat → Prop}
    (h : RdG lo hi sz (.slice A n c) l.length E) (hE : ∀ k b o, E k b o → ∃ x, l[k]? = some x ∧ ∀ j, j < sz → w.cell? ⟨b, o + j, none⟩ = (f x)[j]?) :
    n = l.length ∧ (A = none → l.length = 0) ∧ ∀ ad, A = some ad → ∀ j u, (l.flatMap f)[j]? = some u → w.cell? (ad.add j) = some u := by
  obtain ⟨A', c', e, hn, hc, hk⟩ := h
  injection e with e1 e2 e3
  subst e1
  refine ⟨e2, fun hA => ?_, fun ad had j u hj => ?_⟩
  · rcases Nat.eq_zero_or_pos l.length with h0 | h0
    · exact h0
    · obtain ⟨b, off, ha, -⟩ := hk 0 h0
      rw [hA] at ha
      cases ha
  · have hjl : j < l.length * sz := by
      have := (List.getElem?_eq_some_iff.1 hj).1
      rwa [flat_len f sz hf] at this
    have hkl : j / sz < l.length := (Nat.div_lt_iff_lt_mul hs0).2 hjl
    obtain ⟨b, off, ha, -, -, hEk⟩ := hk (j / sz) hkl
    obtain ⟨x, hx, hcell⟩ := hE _ _ _ hEk
    rw [had] at ha
    injection ha with ha
    subst ha
    have hm : j % sz < sz := Nat.mod_lt _ hs0
    have h1 := flat_get f sz hf l (j / sz) (j % sz) x hx hm
    rw [Nat.div_add_mod'] at h1
    rw [add_plain, show off + j = off + j / sz * sz + j % sz by rw [Nat.add_assoc, Nat.div_add_mod'], hcell _ hm, ← h1]
    exact hj
theorem V.cells_get (x : V) {w : World} {b o : Nat} (h : VAt w b o x) (j : Nat) (hj : j < 3) : w.cell? ⟨b, o + j, none⟩ = (V.cells x)[j]? := by
  obtain ⟨h0, h1, h2⟩ := h
  match j, hj with
  | 0, _ => exact h0
  | 1, _ => exact h1
  | 2, _ => exact h2
theorem RdV.news {w : World} {l : List V} {lo hi n c : Nat} {A : Option Addr} (h : RdV w lo hi (.slice A n c) l) :
    n = l.length ∧ (A = none → l.length = 0) ∧ ∀ ad, A = some ad → ∀ j u, (l.flatMap V.cells)[j]? = some u → w.cell? (ad.add j) = some u :=
  RdG.news V.cells_len (by decide) h fun k b o ⟨x, hx, hv⟩ => ⟨x, hx, x.cells_get hv⟩
theorem RdI.news {w : World} {l : List Int} {lo hi n c : Nat} {A : Option Addr} (h : RdI w lo hi (.slice A n c) l) :
    n = l.length ∧ (A = none → l.length = 0) ∧ ∀ ad, A = some ad → ∀ j u, (l.flatMap fun x => [Value.int .i64 x])[j]? = some u → w.cell? (ad.add j) = some u :=
  RdG.news (sz := 1) (fun _ => rfl) (by decide) h fun k b o ⟨x, hx, hv⟩ => ⟨x, hx, fun j hj => (show j = 0 by omega) ▸ hv⟩
theorem RdB.news {w : World} {l : List UInt8} {lo hi n c : Nat} {A : Option Addr} (h : RdB w lo hi (.slice A n c) l) :
    n = l.length ∧ (A = none → l.length = 0) ∧ ∀ ad, A = some ad → ∀ j u, (l.flatMap fun x => [Value.int .u8 (x.toNat : Int)])[j]? = some u → w.cell? (ad.add j) = some u :=
  RdG.news (sz := 1) (fun _ => rfl) (by decide) h fun k b o ⟨x, hx, hv⟩ => ⟨x, hx, fun j hj => (show j = 0 by omega) ▸ hv⟩
theorem one_cells (l : List V) : ∀ u ∈ l.flatMap V.cells, u.oneCell' = true := fun u hu => by
  obtain ⟨x, -, h⟩ := List.mem_flatMap.1 hu
  simp only [V.cells, List.mem_cons, List.not_mem_nil, or_false] at h
  rcases h with rfl | rfl | rfl <;> rfl
end Go.Lb
namespace Go.Lb
open Go.RowKit

/-- Two blocks (or none) that are not the same. -/
def Dis (a b : Option Nat) : Prop := ∀ g, a = some g → b ≠ some g
theorem Dis.symm {a b : Option Nat} (h : Dis a b) : Dis b a := fun g hb ha => h g ha hb
def rcell (p : R × Value) : List Value := [.int .i64 p.1.id, p.2]
theorem rcell_len (p : R × Value) : (rcell p).length = 2 := rfl
def InR (lo hi : Nat) (b : Option Nat) : Prop := ∀ g, b = some g → lo ≤ g ∧ g < hi
/-- A row's values: owned, wherever. -/
def OwnV (eV : TypeId) (w : World) (p : R × Value) : Prop := w.ownsRow 0 eV 3 p.2 p.1.l.length (p.1.l.flatMap V.cells)
structure OwnRp (eR eV : TypeId) (w : World) (lo hi : Nat) (v : Value) (ps : List (R × Value)) : Prop where
  out : w.ownsRow 0 eR 2 v ps.length (ps.flatMap rcell)
  outIn : InR lo hi v.ownBlock
  inn : ∀ p ∈ ps, OwnV eV w p ∧ InR lo hi p.2.ownBlock ∧ Dis v.ownBlock p.2.ownBlock
  apart : ps.Pairwise fun p q => Dis p.2.ownBlock q.2.ownBlock
def OwnR (eR eV : TypeId) (w : World) (lo hi : Nat) (v : Value) (l : List R) : Prop := ∃ ps : List (R × Value), ps.map Prod.fst = l ∧ OwnRp eR eV w lo hi v ps

/-- A chunk; a query's result: as data. -/
structure C where
  next : Int
  l : List R
deriving DecidableEq
structure Res where
  rows : List R
  n : Int
  has : Bool
  v : V
deriving DecidableEq
def RsOk (l : List R) : Prop := ∀ r ∈ l, ∀ v ∈ r.l, v.s.size ≤ maxLen
/-- How many cells a marker writes in a list of rows. -/
def cntR (l : List R) : Nat := (l.map fun r => 1 + 3 * r.l.length).sum

section
variable {w w' w1 : World} {lo hi lo' hi' e s n base : Nat} {v : Value} {xs : List Value} {eR eV : TypeId} {ps : List (R × Value)} {l : List R}
theorem owns_same (h : w.ownsRow base e s v n xs) (hs : ∀ g, v.ownBlock = some g → w'.heap[g]? = w.heap[g]?) : w'.ownsRow base e s v n xs := by
  refine ⟨h.1, ?_⟩
  rcases h.2 with h0 | ⟨g, cap, cur, rfl, hb, hg, r⟩
  · exact .inl h0
  · exact .inr ⟨g, cap, cur, rfl, hb, by rw [hs g rfl]; exact hg, r⟩
theorem owns_zero (h : w.ownsRow base e s v n xs) : w.ownsRow 0 e s v n xs := by
  refine ⟨h.1, ?_⟩
  rcases h.2 with h0 | ⟨g, cap, cur, rfl, hb, r⟩
  · exact .inl h0
  · exact .inr ⟨g, cap, cur, rfl, Nat.zero_le _, r⟩
theorem owns_base (h : w.ownsRow 0 e s v n xs) (hi : ∀ g, v.ownBlock = some g → base ≤ g) : w.ownsRow base e s v n xs := by
  refine ⟨h.1, ?_⟩
  rcases h.2 with h0 | ⟨g, cap, cur, rfl, hb, r⟩
  · exact .inl h0
  · exact .inr ⟨g, cap, cur, rfl, hi g rfl, r⟩
theorem Own.of_zero (h : w.ownsRow 0 e s v n xs) (hi' : InR lo hi v.ownBlock) : Own e s w lo hi v n xs := ⟨owns_base h fun g hg => (hi' g hg).1, fun g hg => (hi' g hg).2⟩
theorem Own.zero (h : Own e s w lo hi v n xs) : w.ownsRow 0 e s v n xs ∧ InR lo hi v.ownBlock := ⟨owns_zero h.1, fun g hg => ⟨(h.1.lt g hg).1, h.2 g hg⟩⟩

theorem Own.set (h : Own e s w lo hi v n xs) {b o : Nat} (hb : b < lo) (u : Value) : Own e s (w.setCell ⟨b, o, none⟩ u) lo hi v n xs :=
  h.same fun k h1 _ => Below.heap_setCell w ⟨b, o, none⟩ u k (by show k ≠ b; omega)
theorem OwnRp.imp (h : OwnRp eR eV w lo hi v ps) (hs : ∀ g, lo ≤ g → g < hi → w'.heap[g]? = w.heap[g]?) (h1 : lo' ≤ lo) (h2 : hi ≤ hi') : OwnRp eR eV w' lo' hi' v ps :=
  ⟨owns_same h.out fun g hg => hs g (h.outIn g hg).1 (h.outIn g hg).2, fun g hg => by have := h.outIn g hg; omega,
   fun p hp => ⟨owns_same (h.inn p hp).1 fun g hg => hs g ((h.inn p hp).2.1 g hg).1 ((h.inn p hp).2.1 g hg).2, fun g hg => by have := (h.inn p hp).2.1 g hg; omega, (h.inn p hp).2.2⟩, h.apart⟩
theorem OwnR.same (h : OwnR eR eV w lo hi v l) (hs : Same lo hi w w') : OwnR eR eV w' lo hi v l :=
  let ⟨ps, e, h⟩ := h; ⟨ps, e, h.imp hs (Nat.le_refl _) (Nat.le_refl _)⟩
theorem OwnR.below {B : Nat} (h : OwnR eR eV w lo hi v l) (hb : Below B w w') (hB : hi ≤ B) : OwnR eR eV w' lo hi v l := h.same (.of_below hb hB)
theorem OwnR.more (h : OwnR eR eV w lo hi v l) (h1 : lo' ≤ lo) (h2 : hi ≤ hi') : OwnR eR eV w lo' hi' v l :=
  let ⟨ps, e, h⟩ := h; ⟨ps, e, h.imp (fun _ _ _ => rfl) h1 h2⟩
theorem OwnRp.own (h : OwnRp eR eV w lo hi v ps) : Own eR 2 w lo hi v ps.length (ps.flatMap rcell) := .of_zero h.out h.outIn
theorem OwnR.rdR (h : OwnR eR eV w lo hi v l) : RdR w lo hi v l := by
  obtain ⟨ps, rfl, h⟩ := h
  obtain ⟨A, c, h1, h2, h3, h4⟩ := h.own.cells
  refine ⟨A, c, by rw [List.length_map]; exact h1, by rw [List.length_map]; exact h2, h3, fun k hk => ?_⟩
  rw [List.length_map] at hk
  obtain ⟨b, off, ha, hl, hh, hc⟩ := h4 k hk
  have hp := h.inn ps[k] (List.getElem_mem hk)
  have hg : ∀ j, j < 2 → w.cell? ⟨b, off + k * 2 + j, none⟩ = (rcell ps[k])[j]? := fun j hj => (hc j hj).trans (flat_get rcell 2 rcell_len ps k j _ (List.getElem?_eq_getElem hk) hj)
  exact ⟨b, off, ha, hl, hh, ps[k].1, ps[k].2, by simp [hk], hg 0 (by omega), hg 1 (by omega), (Own.of_zero hp.1 hp.2.1).rdV⟩

/-- Nothing yet. -/
theorem OwnRp.nil (h : w.ownsRow base eR 2 v 0 []) (hi' : InR lo hi v.ownBlock) : OwnRp eR eV w lo hi v [] :=
  ⟨owns_zero h, hi', fun p hp => (by simp at hp), List.Pairwise.nil⟩
/-- One row more. w: before the row's values were made; w1: behind that; w': behind the outer slice's growth. -/
theorem OwnRp.snoc {B : Nat} {v' sv : Value} {x : R} (h : OwnRp eR eV w lo w.heap.size v ps) (hb : Below w.heap.size w w1) (hlo : lo ≤ w.heap.size)
    (hin : Own eV 3 w1 w.heap.size B sv x.l.length (x.l.flatMap V.cells)) (hB : B ≤ w1.heap.size)
    (hout : w'.ownsRow base eR 2 v' (ps.length + 1) (ps.flatMap rcell ++ [.int .i64 x.id, sv])) (hg : w1.grownBy w' v.ownBlock)
    (hv : ∀ g, v'.ownBlock = some g → v.ownBlock = some g ∨ w1.heap.size ≤ g) : OwnRp eR eV w' lo w'.heap.size v' (ps ++ [(x, sv)]) := by
  have s1 := hb.size
  have s2 := hg.size
  have hvi : InR lo w'.heap.size v'.ownBlock := fun g hg' => by
    refine ⟨?_, (hout.lt g hg').2⟩
    rcases hv g hg' with h1 | h1
    · exact (h.outIn g h1).1
    · omega
  have keep : ∀ g, g < w1.heap.size → v.ownBlock ≠ some g → w'.heap[g]? = w1.heap[g]? := fun g h1 h2 => hg.block g h1 (fun e => h2 e.symm)
  have hold : ∀ p ∈ ps, OwnV eV w' p ∧ InR lo w'.heap.size p.2.ownBlock ∧ Dis v'.ownBlock p.2.ownBlock := fun p hp => by
    obtain ⟨i1, i2, i3⟩ := h.inn p hp
    refine ⟨owns_same i1 fun g hg' => ?_, fun g hg' => by have := i2 g hg'; omega, fun g h1 h2 => ?_⟩
    · have := i2 g hg'
      exact (keep g (by omega) (fun e => i3 g e hg')).trans (hb.block g (by omega))
    · have := i2 g h2
      rcases hv g h1 with h3 | h3
      · exact i3 g h3 h2
      · omega
  have hz := hin.zero
  have hnew : OwnV eV w' (x, sv) ∧ InR lo w'.heap.size sv.ownBlock ∧ Dis v'.ownBlock sv.ownBlock := by
    refine ⟨owns_same hz.1 fun g hg' => keep g (by have := hz.2 g hg'; omega) (fun e => by have := h.outIn g e; have := hz.2 g hg'; omega), fun g hg' => by have := hz.2 g hg'; omega, fun g h1 h2 => ?_⟩
    have := hz.2 g h2
    rcases hv g h1 with h3 | h3
    · have := h.outIn g h3; omega
    · omega
  refine ⟨by rw [List.length_append, List.flatMap_append]; exact owns_zero hout, hvi, fun p hp => ?_, ?_⟩
  · rcases List.mem_append.1 hp with hp | hp
    · exact hold p hp
    · simp only [List.mem_singleton] at hp
      subst hp
      exact hnew
  · rw [List.pairwise_append]
    refine ⟨h.apart, List.pairwise_singleton _ _, fun p hp q hq => ?_⟩
    simp only [List.mem_singleton] at hq
    subst hq
    intro g h1 h2
    have := (h.inn p hp).2.1 g h1
    have := hz.2 g h2
    omega

/-- The data behind the marks. -/
def mkV (mt : Int → ByteArray) (k : Int) (i : Nat) : V := ⟨k + 3 * i, k + 3 * i + 1, mt (k + 3 * i + 2)⟩
/-- Row number j's id is marked (its cell alone is written). -/
theorem OwnRp.setId {ps1 ps2 : List (R × Value)} {x : R} {sv : Value} {g c N : Nat} {k : Int} (h : OwnRp eR eV w lo hi v (ps1 ++ (x, sv) :: ps2)) (hv : v = .slice (some ⟨g, 0, none⟩) N c)
    (hw : w' = w.setCell ⟨g, ps1.length * 2, none⟩ (.int .i64 k)) : OwnRp eR eV w' lo hi v (ps1 ++ ({ x with id := k }, sv) :: ps2) ∧ w.grownBy w' (some g) := by
  have hgr : w.grownBy w' (some g) := by rw [hw]; exact grown_set (World.grownBy.refl w _) _ _
  refine ⟨?_, hgr⟩
  obtain ⟨ho, hin, inn, hap⟩ := h
  have hob : v.ownBlock = some g := by rw [hv]; rfl
  have hlen : (ps1 ++ (x, sv) :: ps2).length = (ps1 ++ ({ x with id := k }, sv) :: ps2).length := by simp
  refine ⟨?_, hin, ?_, ?_⟩
  · refine ⟨by rw [flat_len rcell 2 rcell_len], ?_⟩
    rcases ho.2 with ⟨e1, e2⟩ | ⟨g', cap, cur, e1, hb, hg, hnc, hcm, hsz, htk⟩
    · rw [e1] at hv; cases hv
    · rw [hv] at e1
      injection e1 with e1 e2 e3
      injection e1 with e1
      injection e1 with e1
      subst e1
      refine .inr ⟨g, cap, _, by rw [hv, e2, e3, hlen], hb, by rw [hw]; exact set1 hg, by rw [← hlen]; exact hnc, hcm, by simpa using hsz, ?_⟩
      simp only [Array.toList_setIfInBounds]
      rw [← hlen, List.take_set, htk]
      rw [List.flatMap_append, List.flatMap_append, List.flatMap_cons, List.flatMap_cons]
      have hl : (ps1.flatMap rcell).length = ps1.length * 2 := flat_len rcell 2 rcell_len ps1
      rw [List.set_append_right _ _ (by omega), hl, Nat.sub_self]
      rfl
  · intro p hp
    have hk : ∀ q : Value, Dis v.ownBlock q.ownBlock → ∀ b, q.ownBlock = some b → b < w.heap.size → w'.heap[b]? = w.heap[b]? := fun q hd b hq hb => hgr.block b hb (fun e => hd g hob (by rw [hq]; exact e))
    have hbs : ∀ p ∈ ps1 ++ (x, sv) :: ps2, OwnV eV w' p := fun p hp => owns_same (inn p hp).1 fun b hb => hk p.2 (inn p hp).2.2 b hb ((inn p hp).1.lt b hb).2
    rcases List.mem_append.1 hp with h1 | h1
    · exact ⟨hbs p (by simp [h1]), (inn p (by simp [h1])).2⟩
    · rcases List.mem_cons.1 h1 with h1 | h1
      · subst h1
        exact ⟨hbs (x, sv) (by simp), (inn (x, sv) (by simp)).2⟩
      · exact ⟨hbs p (by simp [h1]), (inn p (by simp [h1])).2⟩
  · rw [List.pairwise_append, List.pairwise_cons] at hap ⊢
    exact ⟨hap.1, hap.2.1, fun p hp q hq => by
      rcases List.mem_cons.1 hq with h1 | h1
      · subst h1; exact hap.2.2 p hp (x, sv) (by simp)
      · exact hap.2.2 p hp q (by simp [h1])⟩
/-- Row number j's values have turned (their block alone). -/
theorem OwnRp.setVals {ps1 ps2 : List (R × Value)} {x : R} {sv : Value} {l' : List V} (h : OwnRp eR eV w lo hi v (ps1 ++ (x, sv) :: ps2))
    (hin : w'.ownsRow 0 eV 3 sv l'.length (l'.flatMap V.cells)) (hc : ∀ b, b < w.heap.size → sv.ownBlock ≠ some b → w'.heap[b]? = w.heap[b]?) :
    OwnRp eR eV w' lo hi v (ps1 ++ ({ x with l := l' }, sv) :: ps2) := by
  obtain ⟨ho, hin', inn, hap⟩ := h
  have hx := inn (x, sv) (by simp)
  have hap0 := hap
  rw [List.pairwise_append, List.pairwise_cons] at hap0
  have hout : w'.ownsRow 0 eR 2 v (ps1 ++ (x, sv) :: ps2).length ((ps1 ++ (x, sv) :: ps2).flatMap rcell) :=
    owns_same ho fun b hb => hc b (ho.lt b hb).2 (fun e => hx.2.2 b hb e)
  have hrest : ∀ p ∈ ps1 ++ ps2, OwnV eV w' p := fun p hp => by
    have hm : p ∈ ps1 ++ (x, sv) :: ps2 := by rcases List.mem_append.1 hp with h | h <;> simp [h]
    refine owns_same (inn p hm).1 fun b hb => hc b ((inn p hm).1.lt b hb).2 fun e => ?_
    rcases List.mem_append.1 hp with h | h
    · exact hap0.2.2 p h (x, sv) (by simp) b hb e
    · exact hap0.2.1.1 p h b e hb
  refine ⟨?_, hin', ?_, ?_⟩
  · rw [show (ps1 ++ ({ x with l := l' }, sv) :: ps2).length = (ps1 ++ (x, sv) :: ps2).length by simp, show (ps1 ++ ({ x with l := l' }, sv) :: ps2).flatMap rcell = (ps1 ++ (x, sv) :: ps2).flatMap rcell by simp [rcell]]
    exact hout
  · intro p hp
    rcases List.mem_append.1 hp with h1 | h1
    · exact ⟨hrest p (by simp [h1]), (inn p (by simp [h1])).2⟩
    · rcases List.mem_cons.1 h1 with h1 | h1
      · subst h1
        exact ⟨hin, hx.2⟩
      · exact ⟨hrest p (by simp [h1]), (inn p (by simp [h1])).2⟩
  · rw [List.pairwise_append, List.pairwise_cons] at hap ⊢
    exact ⟨hap.1, hap.2.1, fun p hp q hq => by
      rcases List.mem_cons.1 hq with h1 | h1
      · subst h1; exact hap.2.2 p hp (x, sv) (by simp)
      · exact hap.2.2 p hp q (by simp [h1])⟩
/-- The rows' values alone. -/
structure PartR (eV : TypeId) (w : World) (lo hi : Nat) (ps : List (R × Value)) : Prop where
  inn : ∀ p ∈ ps, OwnV eV w p ∧ InR lo hi p.2.ownBlock
  apart : ps.Pairwise fun p q => Dis p.2.ownBlock q.2.ownBlock
theorem PartR.nil : PartR eV w lo hi [] := ⟨fun p hp => by simp at hp, List.Pairwise.nil⟩
theorem PartR.imp (h : PartR eV w lo hi ps) (hs : ∀ g, lo ≤ g → g < hi → w'.heap[g]? = w.heap[g]?) (h2 : hi ≤ hi') : PartR eV w' lo hi' ps :=
  ⟨fun p hp => ⟨owns_same (h.inn p hp).1 fun g hg => hs g ((h.inn p hp).2 g hg).1 ((h.inn p hp).2 g hg).2, fun g hg => by have := (h.inn p hp).2 g hg; omega⟩, h.apart⟩
theorem PartR.snoc {sv : Value} {x : R} (h : PartR eV w lo w.heap.size ps) (hb : Below w.heap.size w w1) (hlo : lo ≤ w.heap.size)
    (hin : Own eV 3 w1 w.heap.size w1.heap.size sv x.l.length (x.l.flatMap V.cells)) : PartR eV w1 lo w1.heap.size (ps ++ [(x, sv)]) := by
  have h' := h.imp (w' := w1) (hi' := w1.heap.size) (fun g _ h2 => hb.block g h2) hb.size
  have hz := hin.zero
  refine ⟨fun p hp => ?_, ?_⟩
  · rcases List.mem_append.1 hp with hp | hp
    · exact h'.inn p hp
    · simp only [List.mem_singleton] at hp
      subst hp
      exact ⟨hz.1, fun g hg => by have := hz.2 g hg; omega⟩
  · rw [List.pairwise_append]
    refine ⟨h.apart, List.pairwise_singleton _ _, fun p hp q hq => ?_⟩
    simp only [List.mem_singleton] at hq
    subst hq
    intro g h1 h2
    have := (h.inn p hp).2 g h1
    have := hz.2 g h2
    omega
theorem PartR.set (h : PartR eV w lo hi ps) {b o : Nat} (hb : b < lo) (u : Value) : PartR eV (w.setCell ⟨b, o, none⟩ u) lo hi ps :=
  h.imp (fun k h1 _ => Below.heap_setCell w ⟨b, o, none⟩ u k (by show k ≠ b; omega)) (Nat.le_refl _)
theorem PartR.done {g : Nat} (h : PartR eV w lo hi ps) (hout : w.ownsRow 0 eR 2 v ps.length (ps.flatMap rcell)) (hv : v.ownBlock = some g) (h1 : lo' ≤ g) (h2 : g < lo) (h3 : g < hi) : OwnRp eR eV w lo' hi v ps :=
  ⟨hout, fun b hb => by rw [hv] at hb; injection hb with hb; omega, fun p hp => ⟨(h.inn p hp).1, fun b hb => by have := (h.inn p hp).2 b hb; omega, fun b hb hb' => by rw [hv] at hb; injection hb with hb; have := (h.inn p hp).2 b hb'; omega⟩, h.apart⟩
theorem take_set2 {l : List Value} {o : Nat} {a b : Value} (h : o + 2 ≤ l.length) : ((l.set o a).set (o + 1) b).take (o + 2) = l.take o ++ [a, b] := by
  have hl : (l.take o).length = o := by rw [List.length_take]; omega
  apply List.ext_getElem?
  intro i
  simp only [List.getElem?_append, hl, List.getElem?_take, List.getElem?_set, List.length_set]
  rcases (by omega : i < o ∨ i = o ∨ i = o + 1 ∨ o + 2 ≤ i) with hi | rfl | rfl | hi
  · repeat (first | rw [if_pos (by omega)] | rw [if_neg (by omega)])
  · repeat (first | rw [if_pos (by omega)] | rw [if_neg (by omega)])
    simp
  · repeat (first | rw [if_pos (by omega)] | rw [if_neg (by omega)])
    simp
  · repeat (first | rw [if_pos (by omega)] | rw [if_neg (by omega)])
    rw [List.getElem?_eq_none (by simp; omega)]
theorem len_of_lens {l : List R} {x : R} (h : x ∈ l) : x.l.length ≤ (l.map fun r => r.l.length).sum := by
  induction l with
  | nil => simp at h
  | cons a r ih =>
    simp only [List.map_cons, List.sum_cons]
    rcases List.mem_cons.1 h with h | h
    · subst h; omega
    · have := ih h; omega
theorem OwnRp.at {ps1 ps2 : List (R × Value)} {p : R × Value} {g N c : Nat} (h : OwnRp eR eV w lo hi (.slice (some ⟨g, 0, none⟩) N c) (ps1 ++ p :: ps2)) :
    w.cell? ⟨g, ps1.length * 2, none⟩ = some (.int .i64 p.1.id) ∧ w.cell? ⟨g, ps1.length * 2 + 1, none⟩ = some p.2 ∧ ∀ o, w.frozen? ⟨g, o, none⟩ = false := by
  rcases h.out.2 with ⟨e1, e2⟩ | ⟨g', cap, cur, e1, hb, hg, hnc, hcm, hsz, htk⟩
  · cases e1
  · injection e1 with e1 e2 e3
    injection e1 with e1
    injection e1 with e1
    subst e1
    have hl : ps1.length < (ps1 ++ p :: ps2).length := by simp
    have hget : ∀ j, j < 2 → w.cell? ⟨g, ps1.length * 2 + j, none⟩ = (rcell p)[j]? := fun j hj => by
      rw [cell_of_row w g _ cur _ _ hg, ← Array.getElem?_toList]
      have h1 : ((ps1 ++ p :: ps2).flatMap rcell)[ps1.length * 2 + j]? = (rcell p)[j]? := flat_get rcell 2 rcell_len _ _ _ _ (by simp) hj
      rw [← h1, ← htk, List.getElem?_take, if_pos (by omega)]
    exact ⟨hget 0 (by omega), hget 1 (by omega), fun o => frozen_of_row w g o cur _ hg⟩
theorem tightB (b : Option Nat) : ∃ a c, InR a c b ∧ ∀ k, a ≤ k → k < c → b = some k := by
  cases b with
  | none => exact ⟨0, 0, fun g h => by simp at h, fun k _ h => by omega⟩
  | some g => exact ⟨g, g + 1, fun g' h => by simp at h; omega, fun k h1 h2 => by congr; omega⟩
theorem cntR_snoc (a : List R) (y : R) : cntR (a ++ [y]) = cntR a + (1 + 3 * y.l.length) := by simp [cntR]
theorem cntR_take {l : List R} {j : Nat} {y : R} (h : l[j]? = some y) : cntR (l.take (j + 1)) = cntR (l.take j) + (1 + 3 * y.l.length) ∧ cntR (l.take (j + 1)) ≤ cntR l := by
  refine ⟨by rw [take_of_get h, cntR_snoc], ?_⟩
  have h2 : ∀ a b : List R, cntR (a ++ b) = cntR a + cntR b := fun a b => by simp [cntR]
  have h3 := h2 (l.take (j + 1)) (l.drop (j + 1))
  rw [List.take_append_drop] at h3
  omega
theorem OwnR.set (h : OwnR eR eV w lo hi v l) {b o : Nat} (hb : b < lo) (u : Value) : OwnR eR eV (w.setCell ⟨b, o, none⟩ u) lo hi v l :=
  h.same fun k h1 _ => Below.heap_setCell w ⟨b, o, none⟩ u k (by show k ≠ b; omega)
end
end Go.Lb
namespace Go.Lb
def zig (n : Int) : Int := if n < 0 then -2 * n - 1 else 2 * n
def zagzig (n : Int) : Int := if n % 2 = 1 then -((n + 1) / 2) else n / 2
def zigzag (n : Int) : Int := if isNum n then zig n else 0
def zagzigQ (n : Int) : Int := if inR n 0 2000000000 then zagzig n else 0
theorem isNum_yes {n : Int} (h : isNum n = true) : -1000000000 ≤ n ∧ n ≤ 1000000000 := inR_yes h
theorem isNum_no {n : Int} (h : isNum n = false) : n < -1000000000 ∨ 1000000000 < n := inR_no h
theorem isNum_of {n : Int} (h : -1000000000 ≤ n ∧ n ≤ 1000000000) : isNum n = true := inR_of h.1 h.2
theorem zig_in {n : Int} (h : isNum n = true) : 0 ≤ zig n ∧ zig n ≤ 2000000000 := by
  have := isNum_yes h
  unfold zig
  split <;> omega
theorem zagzig_zig {n : Int} : zagzig (zig n) = n := by
  unfold zig zagzig
  split <;> split <;> omega
theorem zig_zagzig {n : Int} (h : 0 ≤ n) : zig (zagzig n) = n := by
  unfold zig zagzig
  split <;> split <;> omega
theorem zagzig_in {n : Int} (h0 : 0 ≤ n) (h1 : n ≤ 2000000000) : isNum (zagzig n) = true := by
  refine isNum_of ?_
  unfold zagzig
  split <;> omega
/-- The groups of seven bits. -/
def vb (x : Nat) : List UInt8 := if x < 128 then [UInt8.ofNat x] else UInt8.ofNat (x % 128 + 128) :: vb (x / 128)
termination_by x
decreasing_by omega
theorem vb_small {x : Nat} (h : x < 128) : vb x = [UInt8.ofNat x] := by rw [vb, if_pos h]
theorem vb_big {x : Nat} (h : 128 ≤ x) : vb x = UInt8.ofNat (x % 128 + 128) :: vb (x / 128) := by rw [vb, if_neg (by omega)]
def numB (n : Int) : List UInt8 := if isNum n then vb (zig n).toNat else []
theorem numB_yes {n : Int} (h : isNum n = true) : numB n = vb (zig n).toNat := by rw [numB, if_pos h]
theorem numB_no {n : Int} (h : isNum n = false) : numB n = [] := by rw [numB, if_neg (by simp [h])]
theorem byte_of_nat {x : Nat} (h : x < 256) : (UInt8.ofNat x).toNat = x := by simp; omega
theorem vb_len (x k : Nat) (hk : 1 ≤ k) (h : x < 128 ^ k) : (vb x).length ≤ k := by
  induction k generalizing x with
  | zero => omega
  | succ k ih =>
    by_cases hx : x < 128
    · rw [vb_small hx]; simp
    · rw [vb_big (by omega)]
      simp only [List.length_cons]
      have hk1 : 1 ≤ k := by
        rcases Nat.eq_zero_or_pos k with h0 | h0
        · subst h0; simp at h; omega
        · exact h0
      have := ih (x / 128) hk1 (by rw [Nat.pow_succ] at h; exact Nat.div_lt_of_lt_mul (by rw [Nat.mul_comm]; exact h))
      omega
theorem vb_pos (x : Nat) : 1 ≤ (vb x).length := by
  by_cases hx : x < 128
  · rw [vb_small hx]; simp
  · rw [vb_big (by omega)]; simp
theorem numB_len (n : Int) : (numB n).length ≤ 5 := by
  by_cases h : isNum n = true
  · rw [numB_yes h]
    have := zig_in h
    exact vb_len _ 5 (by omega) (by omega)
  · rw [numB_no (by simpa using h)]; simp
theorem numB_pos {n : Int} (h : isNum n = true) : 1 ≤ (numB n).length := by rw [numB_yes h]; exact vb_pos _

/-- Reading: from group number i on, x is what the groups ahead of it gave. -/
def rv : List UInt8 → Nat → Nat → Option (Int × Nat)
  | [], _, _ => none
  | c :: r, i, x =>
    if 5 ≤ i then none
    else if 128 ≤ c.toNat then rv r (i + 1) (x + c.toNat % 128 * 128 ^ i)
    else if (0 < i ∧ c.toNat = 0) ∨ 2000000000 < x + c.toNat % 128 * 128 ^ i then none
    else some (zagzig ((x + c.toNat % 128 * 128 ^ i : Nat) : Int), i + 1)
def rdNum (s : List UInt8) : Option (Int × Nat) := rv s 0 0
theorem rv_vb (x : Nat) (r : List UInt8) (i y : Nat) (hi : i + (vb x).length ≤ 5) (h0 : i = 0 ∨ x ≠ 0) (hb : y + x * 128 ^ i ≤ 2000000000) :
    rv (vb x ++ r) i y = some (zagzig ((y + x * 128 ^ i : Nat) : Int), i + (vb x).length) := by
  induction x using Nat.strongRecOn generalizing i y with
  | _ x ih =>
    by_cases hx : x < 128
    · rw [vb_small hx] at hi ⊢
      simp only [List.length_cons, List.length_nil] at hi ⊢
      simp only [List.cons_append, List.nil_append, rv, byte_of_nat (show x < 256 by omega)]
      rw [if_neg (by omega), if_neg (by omega), Nat.mod_eq_of_lt hx, if_neg (by omega)]
    · rw [vb_big (by omega)] at hi ⊢
      simp only [List.length_cons] at hi ⊢
      simp only [List.cons_append, rv, byte_of_nat (show x % 128 + 128 < 256 by omega)]
      have hp := vb_pos (x / 128)
      rw [if_neg (by omega), if_pos (by omega)]
      have e1 : (x % 128 + 128) % 128 = x % 128 := by omega
      have e2 : y + x % 128 * 128 ^ i + x / 128 * 128 ^ (i + 1) = y + x * 128 ^ i := by
        have h1 : x / 128 * 128 ^ (i + 1) = (128 * (x / 128)) * 128 ^ i := by rw [Nat.pow_succ, Nat.mul_comm (128 ^ i) 128, ← Nat.mul_assoc, Nat.mul_comm (x / 128) 128]
        rw [h1, Nat.add_assoc, ← Nat.add_mul, Nat.mod_add_div]
      rw [e1, ih (x / 128) (by omega) (i + 1) _ (by omega) (.inr (by omega)) (by rw [e2]; exact hb), e2]
      congr 2
      omega
theorem vb_rv (s : List UInt8) (i y : Nat) {n : Int} {k : Nat} (h : rv s i y = some (n, k)) :
    ∃ x, (i = 0 ∨ x ≠ 0) ∧ y + x * 128 ^ i ≤ 2000000000 ∧ n = zagzig ((y + x * 128 ^ i : Nat) : Int) ∧ k = i + (vb x).length ∧ ∃ r, s = vb x ++ r := by
  induction s generalizing i y with
  | nil => simp [rv] at h
  | cons c r ih =>
    have hc := c.toNat_lt
    simp only [rv] at h
    split at h
    · cases h
    · rename_i h5
      split at h
      · rename_i hc1
        obtain ⟨x, h1, h2, h3, h4, r', h6⟩ := ih _ _ h
        have hx : x ≠ 0 := h1.resolve_left (by omega)
        have e2 : y + c.toNat % 128 * 128 ^ i + x * 128 ^ (i + 1) = y + (c.toNat % 128 + 128 * x) * 128 ^ i := by
          have h1 : x * 128 ^ (i + 1) = (128 * x) * 128 ^ i := by rw [Nat.pow_succ, Nat.mul_comm (128 ^ i) 128, ← Nat.mul_assoc, Nat.mul_comm x 128]
          rw [h1, Nat.add_assoc, ← Nat.add_mul]
        rw [e2] at h2 h3
        have hv : vb (c.toNat % 128 + 128 * x) = c :: vb x := by
          rw [vb_big (by omega), show (c.toNat % 128 + 128 * x) % 128 + 128 = c.toNat by omega, show (c.toNat % 128 + 128 * x) / 128 = x by omega]
          congr 1
          simp
        refine ⟨c.toNat % 128 + 128 * x, .inr (by omega), h2, h3, ?_, r', ?_⟩
        · rw [hv, h4]; simp; omega
        · rw [hv, h6]; rfl
      · rename_i hc1
        split at h
        · cases h
        · rename_i hn
          rw [not_or] at hn
          injection h with h
          injection h with h1 h2
          have e : c.toNat % 128 = c.toNat := by omega
          rw [e] at hn h1
          refine ⟨c.toNat, ?_, by omega, h1.symm, ?_, r, ?_⟩
          · rcases Nat.eq_zero_or_pos i with h0 | h0
            · exact .inl h0
            · exact .inr fun e0 => hn.1 ⟨h0, e0⟩
          · rw [vb_small (by omega)]; simp; omega
          · rw [vb_small (by omega)]; simp
/-- What is written is read. -/
theorem rdNum_num {n : Int} (h : isNum n = true) (r : List UInt8) : rdNum (numB n ++ r) = some (n, (numB n).length) := by
  have hz := zig_in h
  have hl := numB_len n
  rw [numB_yes h] at hl ⊢
  have h1 := rv_vb (zig n).toNat r 0 0 (by omega) (.inl rfl) (by simp; omega)
  rw [rdNum, h1]
  simp only [Nat.zero_add, Nat.pow_zero, Nat.mul_one]
  rw [show (((zig n).toNat : Nat) : Int) = zig n by omega, zagzig_zig]
/-- What is read was written. -/
theorem num_rdNum {s : List UInt8} {n : Int} {k : Nat} (h : rdNum s = some (n, k)) : isNum n = true ∧ s.take k = numB n ∧ k ≤ s.length ∧ k = (numB n).length ∧ s = numB n ++ s.drop k := by
  obtain ⟨x, -, h2, h3, h4, r, h5⟩ := vb_rv s 0 0 h
  simp only [Nat.zero_add, Nat.pow_zero, Nat.mul_one] at h2 h3 h4
  have hn : isNum n = true := by rw [h3]; exact zagzig_in (by omega) (by omega)
  have hb : numB n = vb x := by
    rw [numB_yes hn, h3, zig_zagzig (by omega)]
    simp
  subst h5
  refine ⟨hn, by rw [hb, h4]; simp, by rw [h4]; simp, by rw [hb, h4], by rw [hb, h4]; simp⟩
def getNum (l : List UInt8) (p : Int) : Int × Int × Bool := if p < 0 then (0, 0, false) else match rdNum (l.drop p.toNat) with
  | none => (0, 0, false)
  | some (n, k) => (n, p + k, true)
theorem getNum_neg {l : List UInt8} {p : Int} (h : p < 0) : getNum l p = (0, 0, false) := by rw [getNum, if_pos h]
theorem getNum_none {l : List UInt8} {p : Nat} (h : rdNum (l.drop p) = none) : getNum l (p : Int) = (0, 0, false) := by rw [getNum, if_neg (by omega), Int.toNat_natCast, h]
theorem getNum_some {l : List UInt8} {p : Nat} {n : Int} {k : Nat} (h : rdNum (l.drop p) = some (n, k)) : getNum l (p : Int) = (n, ((p + k : Nat) : Int), true) := by rw [getNum, if_neg (by omega), Int.toNat_natCast, h]; rfl

/-- Some of a kind, one behind the other. -/
def rdL {α : Type} (f : List UInt8 → Option (α × Nat)) : Nat → List UInt8 → Option (List α × Nat)
  | 0, _ => some ([], 0)
  | k + 1, s => match f s with
    | none => none
    | some (a, m) => match rdL f k (s.drop m) with
      | none => none
      | some (l, m') => some (a :: l, m + m')
/-- f reads what enc writes, of what is ok, and nothing else. -/
structure Codec {α : Type} (f : List UInt8 → Option (α × Nat)) (enc : α → List UInt8) (ok : α → Bool) : Prop where
  rd : ∀ a r, ok a = true → f (enc a ++ r) = some (a, (enc a).length)
  wr : ∀ s a k, f s = some (a, k) → ok a = true ∧ k = (enc a).length ∧ s = enc a ++ s.drop k
theorem codec_num : Codec rdNum numB isNum := ⟨fun _ r h => rdNum_num h r, fun _ _ _ h => let ⟨h1, _, _, h4, h5⟩ := num_rdNum h; ⟨h1, h4, h5⟩⟩
section
variable {α : Type} {f : List UInt8 → Option (α × Nat)} {enc : α → List UInt8} {ok : α → Bool}
theorem rdL_rd (h : Codec f enc ok) (l : List α) (r : List UInt8) (hl : l.all ok = true) : rdL f l.length (l.flatMap enc ++ r) = some (l, (l.flatMap enc).length) := by
  induction l with
  | nil => simp [rdL]
  | cons a l ih =>
    simp only [List.all_cons, Bool.and_eq_true] at hl
    simp only [List.length_cons, List.flatMap_cons, List.append_assoc, rdL, h.rd _ _ hl.1, List.drop_left, ih hl.2, List.length_append]
theorem rdL_wr (h : Codec f enc ok) {k : Nat} {s : List UInt8} {l : List α} {m : Nat} (hr : rdL f k s = some (l, m)) : l.length = k ∧ l.all ok = true ∧ m = (l.flatMap enc).length ∧ s = l.flatMap enc ++ s.drop m := by
  induction k generalizing s l m with
  | zero =>
    simp [rdL] at hr
    obtain ⟨rfl, rfl⟩ := hr
    simp
  | succ k ih =>
    simp only [rdL] at hr
    split at hr
    · cases hr
    · rename_i a m1 h1
      split at hr
      · cases hr
      · rename_i l1 m2 h2
        injection hr with hr
        injection hr with e1 e2
        subst e1 e2
        obtain ⟨g1, g2, g3⟩ := h.wr _ _ _ h1
        obtain ⟨g4, g5, g6, g7⟩ := ih h2
        refine ⟨by simp [g4], by simp [g1, g5], by simp [g2, g6], ?_⟩
        rw [List.flatMap_cons, List.append_assoc]
        rw [List.drop_drop] at g7
        rw [← g7]
        exact g3
theorem rdL_le (h : Codec f enc ok) {k : Nat} {s : List UInt8} {l : List α} {m : Nat} (hr : rdL f k s = some (l, m)) : m ≤ s.length := by
  obtain ⟨-, -, g3, g4⟩ := rdL_wr h hr
  rw [g4, List.length_append]
  omega
/-- One step of a reading, for a loop that appends: what has been read stands ahead. -/
theorem rdL_none {k : Nat} {s : List UInt8} (h : f s = none) : rdL f (k + 1) s = none := by simp only [rdL, h]
theorem rdL_some {k : Nat} {s : List UInt8} {a : α} {m : Nat} (h : f s = some (a, m)) : rdL f (k + 1) s = (rdL f k (s.drop m)).map fun p => (a :: p.1, m + p.2) := by
  simp only [rdL, h]
  cases rdL f k (s.drop m) <;> rfl
/-- i of k have been read; l is what they are; the next one lies at m. -/
def RdSt (f : List UInt8 → Option (α × Nat)) (k : Nat) (s : List UInt8) (i : Nat) (l : List α) (m : Nat) : Prop :=
  i ≤ k ∧ l.length = i ∧ rdL f k s = (rdL f (k - i) (s.drop m)).map fun p => (l ++ p.1, m + p.2)
theorem RdSt.start (k : Nat) (s : List UInt8) : RdSt f k s 0 [] 0 := ⟨Nat.zero_le _, rfl, by
  rw [List.drop_zero, Nat.sub_zero]
  cases rdL f k s <;> simp⟩
theorem RdSt.next {k i m j : Nat} {s : List UInt8} {l : List α} {a : α} (h : RdSt f k s i l m) (hi : i < k) (hf : f (s.drop m) = some (a, j)) : RdSt f k s (i + 1) (l ++ [a]) (m + j) := by
  obtain ⟨h1, h2, h3⟩ := h
  refine ⟨by omega, by simp [h2], ?_⟩
  rw [h3, show k - i = (k - (i + 1)) + 1 by omega, rdL_some hf, List.drop_drop, Option.map_map]
  congr 1
  funext p
  simp [Nat.add_assoc]
theorem RdSt.bad {k i m : Nat} {s : List UInt8} {l : List α} (h : RdSt f k s i l m) (hi : i < k) (hf : f (s.drop m) = none) : rdL f k s = none := by
  rw [h.2.2, show k - i = (k - (i + 1)) + 1 by omega, rdL_none hf]; rfl
theorem RdSt.done {k m : Nat} {s : List UInt8} {l : List α} (h : RdSt f k s k l m) : rdL f k s = some (l, m) := by
  rw [h.2.2, Nat.sub_self]; simp [rdL]
end
def numsOk (l : List Int) : Bool := decide (l.length ≤ 1000000000) && l.all isNum
def numsB (l : List Int) : List UInt8 := if numsOk l then numB l.length ++ l.flatMap numB else []
def rdNums (s : List UInt8) : Option (List Int × Nat) := match rdNum s with
  | none => none
  | some (k, m) => if inR k 0 64 then (rdL rdNum k.toNat (s.drop m)).map fun p => (p.1, m + p.2) else none
theorem rdNums_nums {l : List Int} (h : l.all isNum = true) (hl : l.length ≤ 64) (r : List UInt8) : rdNums (numsB l ++ r) = some (l, (numsB l).length) := by
  have hok : numsOk l = true := by simp [numsOk, h]; omega
  have hn : isNum (l.length : Int) = true := isNum_of (by omega)
  rw [numsB, if_pos hok, rdNums, List.append_assoc, rdNum_num hn]
  simp only [inR_of (show (0 : Int) ≤ (l.length : Int) by omega) (show (l.length : Int) ≤ 64 by omega), if_true, Int.toNat_natCast, List.drop_left, rdL_rd codec_num l r h, Option.map_some, List.length_append]
theorem nums_rdNums {s : List UInt8} {l : List Int} {k : Nat} (h : rdNums s = some (l, k)) : l.all isNum = true ∧ l.length ≤ 64 ∧ k = (numsB l).length ∧ s = numsB l ++ s.drop k := by
  simp only [rdNums] at h
  split at h
  · cases h
  · rename_i n m h1
    split at h
    · rename_i h2
      have hr := inR_yes h2
      cases h3 : rdL rdNum n.toNat (s.drop m) with
      | none => rw [h3] at h; cases h
      | some p =>
        obtain ⟨q, m2⟩ := p
        rw [h3] at h
        injection h with h
        injection h with e1 e2
        simp only at e1 e2
        subst e1 e2
        obtain ⟨g1, -, -, g4, g5⟩ := num_rdNum h1
        obtain ⟨f1, f2, f3, f4⟩ := rdL_wr codec_num h3
        have hok : numsOk q = true := by simp only [numsOk, f2, Bool.and_true, decide_eq_true_eq]; omega
        have hl : (q.length : Int) = n := by omega
        have hb : numsB q = numB n ++ q.flatMap numB := by rw [numsB, if_pos hok, hl]
        refine ⟨f2, by omega, by rw [hb, List.length_append, ← g4, ← f3], ?_⟩
        rw [hb, List.append_assoc]
        rw [List.drop_drop] at f4
        rw [← f4]
        exact g5
    · cases h
end Go.Lb
namespace Go.Proofs.YtjogkbkkcaljhaaGreatDoor
open Go.ChangeShapes Go.WideShapes Go.ChangeAt Go.RowKit Go.Lb

theorem q_spec_l1In (n lo hi : Int) (w : World) :
    Calls Tryz.prog 43 #[.int .i64 n, .int .i64 lo, .int .i64 hi] w fun e w' => e = .returned (.bool (inR n lo hi)) ∧ w = w' := by
  have H := Lib.hid (show inR n lo hi = (decide (lo ≤ n) && decide (n ≤ hi)) from rfl)
  by_cases h1 : lo ≤ n <;> by_cases h2 : n ≤ hi
  all_goals
    go_enter Tryz.func43, Tryz.ntmps43
    go_wp2
    go_ret
    exact ⟨ret_bool (by rw [H.out]; simp [*]), rfl⟩
theorem c_spec_l1In (n lo hi : Int) (w : World) :
    Calls Tryz.prog 43 #[.int .i64 n, .int .i64 lo, .int .i64 hi] w fun e w' => e = .returned (.bool (inR n lo hi)) ∧ Below w.heap.size w w' :=
  (q_spec_l1In n lo hi w).mono fun _ _ ⟨h1, h2⟩ => ⟨h1, h2 ▸ Below.refl _ _⟩

theorem q_impl_within (n lo hi : Int) (w : World) :
    Calls Tryz.prog 45 #[.int .i64 n, .int .i64 lo, .int .i64 hi] w fun e w' => e = .returned (.bool (inR n lo hi)) ∧ w = w' := by
  have H := Lib.hid (show inR n lo hi = (decide (lo ≤ n) && decide (n ≤ hi)) from rfl)
  by_cases h1 : lo ≤ n <;> by_cases h2 : n ≤ hi
  all_goals
    go_enter Tryz.func45, Tryz.ntmps45
    go_wp2
    go_ret
    exact ⟨ret_bool (by rw [H.out]; simp [*]), rfl⟩
theorem c_impl_within (n lo hi : Int) (w : World) :
    Calls Tryz.prog 45 #[.int .i64 n, .int .i64 lo, .int .i64 hi] w fun e w' => e = .returned (.bool (inR n lo hi)) ∧ Below w.heap.size w w' :=
  (q_impl_within n lo hi w).mono fun _ _ ⟨h1, h2⟩ => ⟨h1, h2 ▸ Below.refl _ _⟩

theorem q_spec_l1Right (n : Int) (w : World) :
    Calls Tryz.prog 90 #[.int .i64 n] w fun e w' => e = .returned (.bool (isNum n)) ∧ w = w' := by
  have H := Lib.hid (show isNum n = inR n (-1000000000) 1000000000 from rfl)
  go_enter Tryz.func90, Tryz.ntmps90
  go_wp2_with fail
  refine (q_spec_l1In _ _ _ _).mono ?_
  rintro e w1 ⟨rfl, rfl⟩
  go_wp2_with fail
  go_ret
  exact ⟨ret_bool H.out.symm, rfl⟩
theorem c_spec_l1Right (n : Int) (w : World) :
    Calls Tryz.prog 90 #[.int .i64 n] w fun e w' => e = .returned (.bool (Lb.isNum n)) ∧ Below w.heap.size w w' :=
  (q_spec_l1Right n w).mono fun _ _ ⟨h1, h2⟩ => ⟨h1, h2 ▸ Below.refl _ _⟩

theorem q_impl_isNum (n : Int) (w : World) :
    Calls Tryz.prog 85 #[.int .i64 n] w fun e w' => e = .returned (.bool (isNum n)) ∧ w = w' := by
  have H := Lib.hid (show isNum n = inR n (-1000000000) 1000000000 from rfl)
  go_enter Tryz.func85, Tryz.ntmps85
  go_wp2_with fail
  refine (q_impl_within _ _ _ _).mono ?_
  rintro e w1 ⟨rfl, rfl⟩
  go_wp2_with fail
  go_ret
  exact ⟨ret_bool H.out.symm, rfl⟩
theorem c_impl_isNum (n : Int) (w : World) :
    Calls Tryz.prog 85 #[.int .i64 n] w fun e w' => e = .returned (.bool (Lb.isNum n)) ∧ Below w.heap.size w w' :=
  (q_impl_isNum n w).mono fun _ _ ⟨h1, h2⟩ => ⟨h1, h2 ▸ Below.refl _ _⟩

end Go.Proofs.YtjogkbkkcaljhaaGreatDoor
namespace Go.Lb
open Go.RowKit
def bc (l : List UInt8) : List Value := l.map fun x => Value.int .u8 (x.toNat : Int)
theorem bc_app (a b : List UInt8) : bc (a ++ b) = bc a ++ bc b := by simp [bc]
theorem bc_one (l : List UInt8) : ∀ u ∈ bc l, u.oneCell' = true := fun u hu => by
  obtain ⟨x, -, rfl⟩ := List.mem_map.1 hu
  rfl
theorem bc_flat (l : List UInt8) : (l.flatMap fun x => [Value.int .u8 (x.toNat : Int)]) = bc l := by
  induction l with
  | nil => rfl
  | cons a l ih => rw [List.flatMap_cons, ih]; rfl
theorem bc_len (l : List UInt8) : (bc l).length = l.length * 1 := by simp [bc]
theorem RdB.spread {w : World} {l : List UInt8} {lo hi n c : Nat} {A : Option Addr} (h : RdB w lo hi (.slice A n c) l) :
    n = l.length ∧ (A = none → l.length = 0) ∧ ∀ ad, A = some ad → ∀ j u, (bc l)[j]? = some u → w.cell? (ad.add j) = some u := by rw [← bc_flat]; exact h.news
theorem u8_of {x : Nat} (h : x < 256) : (x : Int) = ((UInt8.ofNat x).toNat : Int) := by rw [byte_of_nat h]
theorem zigzag_yes {n : Int} (h : isNum n = true) : zigzag n = zig n := by rw [zigzag, if_pos h]
theorem zigzag_no {n : Int} (h : isNum n = false) : zigzag n = 0 := by rw [zigzag, if_neg (by simp [h])]
theorem zig_neg {n : Int} (h : n < 0) : zig n = -2 * n - 1 := by rw [zig, if_pos h]
theorem zig_pos {n : Int} (h : ¬ n < 0) : zig n = 2 * n := by rw [zig, if_neg h]
theorem zagzigQ_yes {n : Int} (h : inR n 0 2000000000 = true) : zagzigQ n = zagzig n := by rw [zagzigQ, if_pos h]
theorem zagzigQ_no {n : Int} (h : inR n 0 2000000000 = false) : zagzigQ n = 0 := by rw [zagzigQ, if_neg (by simp [h])]
theorem zagzig_odd {n : Int} (h : n % 2 = 1) : zagzig n = -((n + 1) / 2) := by rw [zagzig, if_pos h]
theorem zagzig_even {n : Int} (h : ¬ n % 2 = 1) : zagzig n = n / 2 := by rw [zagzig, if_neg h]
end Go.Lb
namespace Go.Proofs.YtjogkbkkcaljhaaGreatDoor
open Go.Sort Go.ChangeShapes Go.WideShapes Go.ChangeAt Go.RowKit Go.Lb

theorem info_u8 : (Tryz.prog.info? 5).map (fun i => (i.zero, i.size, i.bytes)) = some (some (.int .u8 0), 1, 1) := by kernel_rfl
theorem info_i64 : (Tryz.prog.info? 3).map (fun i => (i.zero, i.size, i.bytes)) = some (some (.int .i64 0), 1, 8) := by kernel_rfl

end Go.Proofs.YtjogkbkkcaljhaaGreatDoor
namespace Go.Lb
open Go.RowKit
section
variable {w w' w1 : World} {v : Value} {lo hi e : Nat}
theorem RdB.go {l : List UInt8} (h : RdB w 0 w.heap.size v l) (hb : Below w.heap.size w w') : RdB w' 0 w'.heap.size v l := (h.below hb (Nat.le_refl _)).more (Nat.le_refl _) hb.size
theorem RdV.go {l : List V} (h : RdV w 0 w.heap.size v l) (hb : Below w.heap.size w w') : RdV w' 0 w'.heap.size v l := (h.below hb (Nat.le_refl _)).more (Nat.le_refl _) hb.size
theorem RdI.go {l : List Int} (h : RdI w 0 w.heap.size v l) (hb : Below w.heap.size w w') : RdI w' 0 w'.heap.size v l := (h.below hb (Nat.le_refl _)).more (Nat.le_refl _) hb.size
theorem RdR.go {l : List R} (h : RdR w 0 w.heap.size v l) (hb : Below w.heap.size w w') : RdR w' 0 w'.heap.size v l := (h.below hb (Nat.le_refl _)).more (Nat.le_refl _) hb.size
theorem RdB.top {l : List UInt8} (h : RdB w lo hi v l) (hh : hi ≤ w.heap.size) : RdB w 0 w.heap.size v l := h.more (Nat.zero_le _) hh
theorem RdV.top {l : List V} (h : RdV w lo hi v l) (hh : hi ≤ w.heap.size) : RdV w 0 w.heap.size v l := h.more (Nat.zero_le _) hh
theorem RdI.top {l : List Int} (h : RdI w lo hi v l) (hh : hi ≤ w.heap.size) : RdI w 0 w.heap.size v l := h.more (Nat.zero_le _) hh
theorem RdR.top {l : List R} (h : RdR w lo hi v l) (hh : hi ≤ w.heap.size) : RdR w 0 w.heap.size v l := h.more (Nat.zero_le _) hh
theorem Own.topB {l : List UInt8} (h : Own e 1 w lo w.heap.size v l.length (bc l)) : RdB w 0 w.heap.size v l := RdB.top (Own.rdB h) (Nat.le_refl _)
theorem Own.topV {l : List V} (h : Own e 3 w lo w.heap.size v l.length (l.flatMap V.cells)) : RdV w 0 w.heap.size v l := RdV.top (Own.rdV h) (Nat.le_refl _)
theorem Own.topI {l : List Int} (h : Own e 1 w lo w.heap.size v l.length (l.map (Value.int .i64))) : RdI w 0 w.heap.size v l := RdI.top (Own.rdI h) (Nat.le_refl _)
theorem OwnR.topR {eV : Nat} {l : List R} (h : OwnR e eV w lo w.heap.size v l) : RdR w 0 w.heap.size v l := RdR.top (OwnR.rdR h) (Nat.le_refl _)
theorem below_go (h : Below w.heap.size w w1) (hb : Below w1.heap.size w1 w') : Below w.heap.size w w' := h.trans (hb.mono h.size)
end
section
variable {w w' : World} {v : Value} {g e s n : Nat} {xs : List Value}
theorem RdB.dgo {l : List UInt8} (h : RdB w (g + 1) w.heap.size v l) (hc : Chg g (g + 1) w w') : RdB w' (g + 1) w'.heap.size v l := (h.same (.of_chg hc (.inr (Nat.le_refl _)) (Nat.le_refl _))).more (Nat.le_refl _) hc.size
theorem RdV.dgo {l : List V} (h : RdV w (g + 1) w.heap.size v l) (hc : Chg g (g + 1) w w') : RdV w' (g + 1) w'.heap.size v l := (h.same (.of_chg hc (.inr (Nat.le_refl _)) (Nat.le_refl _))).more (Nat.le_refl _) hc.size
theorem RdI.dgo {l : List Int} (h : RdI w (g + 1) w.heap.size v l) (hc : Chg g (g + 1) w w') : RdI w' (g + 1) w'.heap.size v l := (h.same (.of_chg hc (.inr (Nat.le_refl _)) (Nat.le_refl _))).more (Nat.le_refl _) hc.size
theorem RdR.dgo {l : List R} (h : RdR w (g + 1) w.heap.size v l) (hc : Chg g (g + 1) w w') : RdR w' (g + 1) w'.heap.size v l := (h.same (.of_chg hc (.inr (Nat.le_refl _)) (Nat.le_refl _))).more (Nat.le_refl _) hc.size
theorem Own.dgo (h : Own e s w (g + 1) w.heap.size v n xs) (hc : Chg g (g + 1) w w') : Own e s w' (g + 1) w'.heap.size v n xs := (h.same (.of_chg hc (.inr (Nat.le_refl _)) (Nat.le_refl _))).more (Nat.le_refl _) hc.size
theorem RdB.dgb {l : List UInt8} (h : RdB w (g + 1) w.heap.size v l) (hb : Below w.heap.size w w') : RdB w' (g + 1) w'.heap.size v l := h.dgo (.of_below hb)
theorem RdV.dgb {l : List V} (h : RdV w (g + 1) w.heap.size v l) (hb : Below w.heap.size w w') : RdV w' (g + 1) w'.heap.size v l := h.dgo (.of_below hb)
theorem RdI.dgb {l : List Int} (h : RdI w (g + 1) w.heap.size v l) (hb : Below w.heap.size w w') : RdI w' (g + 1) w'.heap.size v l := h.dgo (.of_below hb)
theorem RdR.dgb {l : List R} (h : RdR w (g + 1) w.heap.size v l) (hb : Below w.heap.size w w') : RdR w' (g + 1) w'.heap.size v l := h.dgo (.of_below hb)
theorem Own.dgb (h : Own e s w (g + 1) w.heap.size v n xs) (hb : Below w.heap.size w w') : Own e s w' (g + 1) w'.heap.size v n xs := h.dgo (.of_below hb)
theorem Own.up {B : Nat} (h : Own e s w B w.heap.size v n xs) (hg : g < B) : Own e s w (g + 1) w.heap.size v n xs := h.more hg (Nat.le_refl _)
end
theorem small_max {l : List V} (h : ∀ x ∈ l, x.s.size ≤ 100) : ∀ x ∈ l, x.s.size ≤ maxLen := fun x hx => Nat.le_trans (h x hx) (by decide)
end Go.Lb
namespace Go.Lb
open Go.RowKit Go.ChangeShapes Go.WideShapes Go.Deep

theorem len1 {α : Type} : ∀ {l : List α}, l.length = 1 → ∃ a0, l = [a0]
  | [a0], _ => ⟨a0, rfl⟩
theorem len2 {α : Type} : ∀ {l : List α}, l.length = 2 → ∃ a0 a1, l = [a0, a1]
  | [a0, a1], _ => ⟨a0, a1, rfl⟩
theorem len3 {α : Type} : ∀ {l : List α}, l.length = 3 → ∃ a0 a1 a2, l = [a0, a1, a2]
  | [a0, a1, a2], _ => ⟨a0, a1, a2, rfl⟩
theorem len4 {α : Type} : ∀ {l : List α}, l.length = 4 → ∃ a0 a1 a2 a3, l = [a0, a1, a2, a3]
  | [a0, a1, a2, a3], _ => ⟨a0, a1, a2, a3, rfl⟩
theorem len5 {α : Type} : ∀ {l : List α}, l.length = 5 → ∃ a0 a1 a2 a3 a4, l = [a0, a1, a2, a3, a4]
  | [a0, a1, a2, a3, a4], _ => ⟨a0, a1, a2, a3, a4, rfl⟩
theorem len6 {α : Type} : ∀ {l : List α}, l.length = 6 → ∃ a0 a1 a2 a3 a4 a5, l = [a0, a1, a2, a3, a4, a5]
  | [a0, a1, a2, a3, a4, a5], _ => ⟨a0, a1, a2, a3, a4, a5, rfl⟩
theorem len7 {α : Type} : ∀ {l : List α}, l.length = 7 → ∃ a0 a1 a2 a3 a4 a5 a6, l = [a0, a1, a2, a3, a4, a5, a6]
  | [a0, a1, a2, a3, a4, a5, a6], _ => ⟨a0, a1, a2, a3, a4, a5, a6, rfl⟩
theorem len8 {α : Type} : ∀ {l : List α}, l.length = 8 → ∃ a0 a1 a2 a3 a4 a5 a6 a7, l = [a0, a1, a2, a3, a4, a5, a6, a7]
  | [a0, a1, a2, a3, a4, a5, a6, a7], _ => ⟨a0, a1, a2, a3, a4, a5, a6, a7, rfl⟩
theorem len9 {α : Type} : ∀ {l : List α}, l.length = 9 → ∃ a0 a1 a2 a3 a4 a5 a6 a7 a8, l = [a0, a1, a2, a3, a4, a5, a6, a7, a8]
  | [a0, a1, a2, a3, a4, a5, a6, a7, a8], _ => ⟨a0, a1, a2, a3, a4, a5, a6, a7, a8, rfl⟩
theorem len10 {α : Type} : ∀ {l : List α}, l.length = 10 → ∃ a0 a1 a2 a3 a4 a5 a6 a7 a8 a9, l = [a0, a1, a2, a3, a4, a5, a6, a7, a8, a9]
  | [a0, a1, a2, a3, a4, a5, a6, a7, a8, a9], _ => ⟨a0, a1, a2, a3, a4, a5, a6, a7, a8, a9, rfl⟩

theorem list_of_all {α : Type} {p : Nat → α → Prop} : ∀ n : Nat, (∀ i, i < n → ∃ a, p i a) → ∃ l : List α, l.length = n ∧ ∀ i a, l[i]? = some a → p i a
  | 0, _ => ⟨[], rfl, fun i a h => by simp at h⟩
  | n + 1, h => by
    obtain ⟨l, hl, hp⟩ := list_of_all n fun i hi => h i (by omega)
    obtain ⟨a, ha⟩ := h n (by omega)
    refine ⟨l ++ [a], by simp [hl], fun i b hb => ?_⟩
    rcases Nat.lt_or_ge i l.length with hi | hi
    · rw [List.getElem?_append_left hi] at hb
      exact hp i b hb
    · rw [List.getElem?_append_right hi] at hb
      have : i = n := by
        rcases Nat.lt_or_ge (i - l.length) 1 with h1 | h1
        · omega
        · rw [List.getElem?_eq_none (by simpa using h1)] at hb; cases hb
      subst this
      rw [hl, Nat.sub_self] at hb
      simp at hb
      exact hb ▸ ha

section
variable {H : Type} {enc : TypeId × Value → H} {P : Program} {w : World} {base : Nat} {spare : Nat → Bool} {held : Bool}

/-- A slice that can be read, whatever its elements: a list, each of whose elements is as El says of its cells. -/
theorem open_list {α : Type} {t e : TypeId} {s : Nat} (El : α → List Value → Prop) (ht : P.underlying t = some (.slice e)) (hC : P.cellsOf e = s) (hs : 0 < s)
    (hel : ∀ {n : Nat} {cs : List Value} {x : DataW H × List MemPlace}, DataW.trod enc P w base spare held n e cs = some x → ∃ a, El a cs)
    {n : Nat} {v : Value} {x : DataW H × List MemPlace} (h : DataW.trod enc P w base spare held n t [v] = some x) :
    ∃ l : List α, RdG base w.heap.size s v l.length fun k b o => ∃ a cs, l[k]? = some a ∧ El a cs ∧ ∀ j u, cs[j]? = some u → w.cell? ⟨b, o + j, none⟩ = some u := by
  rcases open_slice ht h with ⟨hcs, -⟩ | ⟨a, len, cap, m, fu, D, Pl, hcs, hb, hl, hm, hmm, -, hi⟩
  · refine ⟨[], none, 0, by simpa using hcs, Nat.le_refl _, Nat.zero_le _, fun k hk => absurd hk (by simp)⟩
  · have hmlen : len ≤ m := by rw [hmm]; split <;> omega
    rw [hC] at hi
    obtain ⟨l, hll, hlp⟩ := list_of_all (p := fun i (a' : α) => ∃ cs, El a' cs ∧ cs.length = s ∧ ∀ j, j < s → w.cell? ((a.add (i * s)).add j) = cs[j]?) len fun i hil => by
      obtain ⟨cs', hc, ht'⟩ := hi i (by omega)
      obtain ⟨a', hE⟩ := hel ht'
      obtain ⟨_, hcl, hat⟩ := World.cells?_some hc
      exact ⟨a', cs', hE, hcl, hat⟩
    refine ⟨l, some a, cap, by rw [hll]; simpa using hcs, by omega, hm, fun k hk => ?_⟩
    obtain ⟨cs, hE, hcl, hat⟩ := hlp k l[k] (List.getElem?_eq_getElem hk)
    have h0 := hat 0 hs
    rw [List.getElem?_eq_getElem (by omega : 0 < cs.length)] at h0
    have hsp : a.spot = none := by
      have h00 := hat 0 hs
      obtain ⟨cs0, _, hc0l, hat0⟩ := hlp 0 l[0] (List.getElem?_eq_getElem (by omega))
      have h01 := hat0 0 hs
      rw [List.getElem?_eq_getElem (by omega : 0 < cs0.length)] at h01
      simp only [Nat.zero_mul] at h01
      unfold Addr.add at h01
      simp only [if_true] at h01
      unfold World.cell? at h01
      split at h01
      · split at h01
        · cases h01
        · rename_i hn
          simpa using hn
      · cases h01
    obtain ⟨b, off, spot⟩ := a
    simp only at hsp
    subst hsp
    have hlt : b < w.heap.size := by
      have := World.block_lt_of_cell? w _ h0
      rwa [add_plain, add_plain] at this
    refine ⟨b, off, rfl, hb, hlt, l[k], cs, List.getElem?_eq_getElem hk, hE, fun j u hu => ?_⟩
    have hj : j < s := by
      rcases Nat.lt_or_ge j cs.length with hj | hj
      · omega
      · rw [List.getElem?_eq_none hj] at hu; cases hu
    have := hat j hj
    rw [add_plain, add_plain] at this
    rw [this, hu]
end

def ElV (a : V) (cs : List Value) : Prop := cs = V.cells a ∧ a.s.size ≤ maxLen
theorem rdG_V {w : World} {lo hi : Nat} {v : Value} {l : List V} (h : RdG lo hi 3 v l.length fun k b o => ∃ a cs, l[k]? = some a ∧ ElV a cs ∧ ∀ j u, cs[j]? = some u → w.cell? ⟨b, o + j, none⟩ = some u) : RdV w lo hi v l ∧ ∀ x ∈ l, x.s.size ≤ maxLen := by
  refine ⟨h.imp (Nat.le_refl _) (Nat.le_refl _) fun _ _ _ _ _ ⟨a, _, ha, hc, hu⟩ => ⟨a, ha, hu 0 _ (by rw [hc.1]; rfl), hu 1 _ (by rw [hc.1]; rfl), hu 2 _ (by rw [hc.1]; rfl)⟩, fun x hx => ?_⟩
  obtain ⟨k, hk, rfl⟩ := List.mem_iff_getElem.1 hx
  obtain ⟨_, _, _, _, _, hh⟩ := h
  obtain ⟨_, _, _, _, _, a, _, ha, hc, _⟩ := hh k hk
  rw [List.getElem?_eq_getElem hk] at ha
  injection ha with ha
  rw [ha]
  exact hc.2

end Go.Lb
namespace Go.Lb
open Go.RowKit Go.ChangeShapes Go.WideShapes Go.Deep

section
variable {H : Type} {enc : TypeId × Value → H} {P : Program}
theorem trodAll_stays (hl : laidOutB P = true) {W W' : World} {sp : Nat → Bool} : ∀ (ts : List TypeId) (vs : List Value) (ds : List (DataW H)) (ps : List MemPlace), (ts.all fun t => P.readableRec t && decide (t < P.types.size)) = true →
    DataW.TrodAll enc P W 0 (fun _ => true) true ts vs ds ps → (∀ p ∈ ps, W.sameAt W' p) → (∀ p ∈ ps, sp p.block = true) → DataW.TrodAll enc P W' 0 sp true ts vs ds ps
  | [], [], [], _, _, h, _, _ => h
  | t :: ts, v :: vs, d :: ds, ps, ht, h, hs, hp => by
    obtain ⟨p, q, h1, h2, rfl⟩ := h
    simp only [List.all_cons, Bool.and_eq_true, decide_eq_true_eq] at ht
    exact ⟨p, q, WideElems.Trod_stays hl ht.1.1 ht.1.2 h1 (fun x hx => hs x (List.mem_append_left _ hx)) (fun x hx => hp x (List.mem_append_left _ hx)),
      trodAll_stays hl ts vs ds q ht.2 h2 (fun x hx => hs x (List.mem_append_right _ hx)) (fun x hx => hp x (List.mem_append_right _ hx)), rfl⟩
  | [], [], _ :: _, _, _, h, _, _ => h.elim
  | [], _ :: _, _, _, _, h, _, _ => h.elim
  | _ :: _, [], _, _, _, h, _, _ => h.elim
  | _ :: _, _ :: _, [], _, _, h, _, _ => h.elim

theorem post_of_below {f : Func} {s : ChangeSpec} {apart fresh handsOn again : Bool} {W W' : World} {args : Array Value} {v : Value} {ds gs : List (DataW H)} {before pa pv : List MemPlace}
    (hW : DataW.Whole enc P f.params.toList s.vars apart W args.toList ds gs before)
    (hres : ∀ (b : Nat) (sp : Nat → Bool) (hd : Bool), DataW.TrodAll enc P W' b sp hd f.resultTypes.toList (v.resultList f.resultTypes.size) (s.fn H (ds ++ gs)).results [])
    (hargs : ∀ sp : Nat → Bool, (∀ p ∈ before, sp p.block = true) → DataW.TrodAll enc P W' 0 sp true f.params.toList args.toList (s.fn H (ds ++ gs)).args pa)
    (hvars : ∀ sp : Nat → Bool, (∀ p ∈ before, sp p.block = true) → DataW.TrodVars enc P W' sp s.vars (s.fn H (ds ++ gs)).vars pv)
    (hps : before = pa ++ pv) (hb : Below W.heap.size W W')
    (hok : ∀ (j : Nat) (t : TypeId) (r : Value), f.resultTypes[j]? = some t → (v.resultList f.resultTypes.size)[j]? = some r → Value.okWide P W' .any 0 t r) :
    s.post enc P f apart fresh handsOn again W args v W' := by
  have hlt : ∀ p ∈ before, p.block < W.heap.size := fun p hp => hW.lt p hp
  have hold : ∀ p ∈ before, (fun b => decide (b < W.heap.size)) p.block = true := fun p hp => by simpa using hlt p hp
  refine ⟨ds, gs, before, [], pa, pv, hW, hres _ _ _, hargs _ hold, hvars _ hold, World.keptBut_mono (fun p hp => ⟨hp, ?_⟩) (hb.frame (· ∈ before)), fun _ => ?_⟩
  · rw [hps, List.mem_append] at hp
    exact Or.inr hp
  · obtain ⟨_, _, _, _, _, hz, hn⟩ := hW
    refine ⟨hok, _, _, ([] ++ pa) ++ pv, ⟨[] ++ pa, pv, trodAll_append (hargs _ (fun _ _ => rfl)) (hres _ _ _), hvars _ (fun _ _ => rfl), rfl, ?_, ?_⟩, ?_⟩
    · intro b off hp
      have hin : MemPlace.cell b off ∈ before := by rw [hps]; simpa using hp
      rw [hb.frozen (hlt _ hin)]
      exact hz b off hin
    · intro ha
      have := hn ha
      rw [hps] at this
      simpa using this
    · intro p hp _
      rw [hps]
      simpa using hp

theorem same_of_below {W W' : World} {f : Func} {s : ChangeSpec} {apart : Bool} {args : Array Value} {ds gs : List (DataW H)} {before : List MemPlace} (hW : DataW.Whole enc P f.params.toList s.vars apart W args.toList ds gs before) (hb : Below W.heap.size W W') :
    ∀ p ∈ before, W.sameAt W' p := fun p hp => hb.same (hW.lt p hp)
end
end Go.Lb
