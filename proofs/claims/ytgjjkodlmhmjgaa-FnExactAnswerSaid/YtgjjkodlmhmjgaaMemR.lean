/- Small words for a list of rows that the call itself made: an outer slice, and a slice of values for each row, all in blocks of their own. No conditions; nothing here speaks of the program. -/
import Derived.Test.YtgjjkodlmhmjgaaApp
namespace Go.Lb
open Go.RowKit

/-- Two blocks (or none) that are not the same. -/
def Dis (a b : Option Nat) : Prop := ∀ g, a = some g → b ≠ some g
theorem Dis.symm {a b : Option Nat} (h : Dis a b) : Dis b a := fun g hb ha => h g ha hb
def rcell (p : R × Value) : List Value := [.int .i64 p.1.id, p.2]
theorem rcell_len (p : R × Value) : (rcell p).length = 2 := rfl
def InR (lo hi : Nat) (b : Option Nat) : Prop := ∀ g, b = some g → lo ≤ g ∧ g < hi
/-- A row's values: owned, wherever. -/
def OwnV (eV : TypeId) (w : World) (p : R × Value) : Prop := w.ownsRow 0 eV 3 p.2 p.1.l.length (p.1.l.flatMap V.cells)
structure OwnRp (eR eV : TypeId) (w : World) (lo hi : Nat) (v : Value) (ps : List (R × Value)) : Prop where
  out : w.ownsRow 0 eR 2 v ps.length (ps.flatMap rcell)
  outIn : InR lo hi v.ownBlock
  inn : ∀ p ∈ ps, OwnV eV w p ∧ InR lo hi p.2.ownBlock ∧ Dis v.ownBlock p.2.ownBlock
  apart : ps.Pairwise fun p q => Dis p.2.ownBlock q.2.ownBlock
def OwnR (eR eV : TypeId) (w : World) (lo hi : Nat) (v : Value) (l : List R) : Prop := ∃ ps : List (R × Value), ps.map Prod.fst = l ∧ OwnRp eR eV w lo hi v ps

/-- A chunk; a query's result: as data. -/
structure C where
  next : Int
  l : List R
deriving DecidableEq
structure Res where
  rows : List R
  n : Int
  has : Bool
  v : V
deriving DecidableEq
def RsOk (l : List R) : Prop := ∀ r ∈ l, ∀ v ∈ r.l, v.s.size ≤ maxLen
/-- How many cells a marker writes in a list of rows. -/
def cntR (l : List R) : Nat := (l.map fun r => 1 + 3 * r.l.length).sum

section
variable {w w' w1 : World} {lo hi lo' hi' e s n base : Nat} {v : Value} {xs : List Value} {eR eV : TypeId} {ps : List (R × Value)} {l : List R}
theorem owns_same (h : w.ownsRow base e s v n xs) (hs : ∀ g, v.ownBlock = some g → w'.heap[g]? = w.heap[g]?) : w'.ownsRow base e s v n xs := by
  refine ⟨h.1, ?_⟩
  rcases h.2 with h0 | ⟨g, cap, cur, rfl, hb, hg, r⟩
  · exact .inl h0
  · exact .inr ⟨g, cap, cur, rfl, hb, by rw [hs g rfl]; exact hg, r⟩
theorem owns_zero (h : w.ownsRow base e s v n xs) : w.ownsRow 0 e s v n xs := by
  refine ⟨h.1, ?_⟩
  rcases h.2 with h0 | ⟨g, cap, cur, rfl, hb, r⟩
  · exact .inl h0
  · exact .inr ⟨g, cap, cur, rfl, Nat.zero_le _, r⟩
theorem owns_base (h : w.ownsRow 0 e s v n xs) (hi : ∀ g, v.ownBlock = some g → base ≤ g) : w.ownsRow base e s v n xs := by
  refine ⟨h.1, ?_⟩
  rcases h.2 with h0 | ⟨g, cap, cur, rfl, hb, r⟩
  · exact .inl h0
  · exact .inr ⟨g, cap, cur, rfl, hi g rfl, r⟩
theorem Own.of_zero (h : w.ownsRow 0 e s v n xs) (hi' : InR lo hi v.ownBlock) : Own e s w lo hi v n xs := ⟨owns_base h fun g hg => (hi' g hg).1, fun g hg => (hi' g hg).2⟩
theorem Own.zero (h : Own e s w lo hi v n xs) : w.ownsRow 0 e s v n xs ∧ InR lo hi v.ownBlock := ⟨owns_zero h.1, fun g hg => ⟨(h.1.lt g hg).1, h.2 g hg⟩⟩

theorem Own.set (h : Own e s w lo hi v n xs) {b o : Nat} (hb : b < lo) (u : Value) : Own e s (w.setCell ⟨b, o, none⟩ u) lo hi v n xs :=
  h.same fun k h1 _ => Below.heap_setCell w ⟨b, o, none⟩ u k (by show k ≠ b; omega)
theorem OwnRp.imp (h : OwnRp eR eV w lo hi v ps) (hs : ∀ g, lo ≤ g → g < hi → w'.heap[g]? = w.heap[g]?) (h1 : lo' ≤ lo) (h2 : hi ≤ hi') : OwnRp eR eV w' lo' hi' v ps :=
  ⟨owns_same h.out fun g hg => hs g (h.outIn g hg).1 (h.outIn g hg).2, fun g hg => by have := h.outIn g hg; omega,
   fun p hp => ⟨owns_same (h.inn p hp).1 fun g hg => hs g ((h.inn p hp).2.1 g hg).1 ((h.inn p hp).2.1 g hg).2, fun g hg => by have := (h.inn p hp).2.1 g hg; omega, (h.inn p hp).2.2⟩, h.apart⟩
theorem OwnR.same (h : OwnR eR eV w lo hi v l) (hs : Same lo hi w w') : OwnR eR eV w' lo hi v l :=
  let ⟨ps, e, h⟩ := h; ⟨ps, e, h.imp hs (Nat.le_refl _) (Nat.le_refl _)⟩
theorem OwnR.below {B : Nat} (h : OwnR eR eV w lo hi v l) (hb : Below B w w') (hB : hi ≤ B) : OwnR eR eV w' lo hi v l := h.same (.of_below hb hB)
theorem OwnR.more (h : OwnR eR eV w lo hi v l) (h1 : lo' ≤ lo) (h2 : hi ≤ hi') : OwnR eR eV w lo' hi' v l :=
  let ⟨ps, e, h⟩ := h; ⟨ps, e, h.imp (fun _ _ _ => rfl) h1 h2⟩
theorem OwnRp.own (h : OwnRp eR eV w lo hi v ps) : Own eR 2 w lo hi v ps.length (ps.flatMap rcell) := .of_zero h.out h.outIn
theorem OwnR.rdR (h : OwnR eR eV w lo hi v l) : RdR w lo hi v l := by
  obtain ⟨ps, rfl, h⟩ := h
  obtain ⟨A, c, h1, h2, h3, h4⟩ := h.own.cells
  refine ⟨A, c, by rw [List.length_map]; exact h1, by rw [List.length_map]; exact h2, h3, fun k hk => ?_⟩
  rw [List.length_map] at hk
  obtain ⟨b, off, ha, hl, hh, hc⟩ := h4 k hk
  have hp := h.inn ps[k] (List.getElem_mem hk)
  have hg : ∀ j, j < 2 → w.cell? ⟨b, off + k * 2 + j, none⟩ = (rcell ps[k])[j]? := fun j hj => (hc j hj).trans (flat_get rcell 2 rcell_len ps k j _ (List.getElem?_eq_getElem hk) hj)
  exact ⟨b, off, ha, hl, hh, ps[k].1, ps[k].2, by simp [hk], hg 0 (by omega), hg 1 (by omega), (Own.of_zero hp.1 hp.2.1).rdV⟩

/-- Nothing yet. -/
theorem OwnRp.nil (h : w.ownsRow base eR 2 v 0 []) (hi' : InR lo hi v.ownBlock) : OwnRp eR eV w lo hi v [] :=
  ⟨owns_zero h, hi', fun p hp => (by simp at hp), List.Pairwise.nil⟩
/-- One row more. w: before the row's values were made; w1: behind that; w': behind the outer slice's growth. -/
theorem OwnRp.snoc {B : Nat} {v' sv : Value} {x : R} (h : OwnRp eR eV w lo w.heap.size v ps) (hb : Below w.heap.size w w1) (hlo : lo ≤ w.heap.size)
    (hin : Own eV 3 w1 w.heap.size B sv x.l.length (x.l.flatMap V.cells)) (hB : B ≤ w1.heap.size)
    (hout : w'.ownsRow base eR 2 v' (ps.length + 1) (ps.flatMap rcell ++ [.int .i64 x.id, sv])) (hg : w1.grownBy w' v.ownBlock)
    (hv : ∀ g, v'.ownBlock = some g → v.ownBlock = some g ∨ w1.heap.size ≤ g) : OwnRp eR eV w' lo w'.heap.size v' (ps ++ [(x, sv)]) := by
  have s1 := hb.size
  have s2 := hg.size
  have hvi : InR lo w'.heap.size v'.ownBlock := fun g hg' => by
    refine ⟨?_, (hout.lt g hg').2⟩
    rcases hv g hg' with h1 | h1
    · exact (h.outIn g h1).1
    · omega
  have keep : ∀ g, g < w1.heap.size → v.ownBlock ≠ some g → w'.heap[g]? = w1.heap[g]? := fun g h1 h2 => hg.block g h1 (fun e => h2 e.symm)
  have hold : ∀ p ∈ ps, OwnV eV w' p ∧ InR lo w'.heap.size p.2.ownBlock ∧ Dis v'.ownBlock p.2.ownBlock := fun p hp => by
    obtain ⟨i1, i2, i3⟩ := h.inn p hp
    refine ⟨owns_same i1 fun g hg' => ?_, fun g hg' => by have := i2 g hg'; omega, fun g h1 h2 => ?_⟩
    · have := i2 g hg'
      exact (keep g (by omega) (fun e => i3 g e hg')).trans (hb.block g (by omega))
    · have := i2 g h2
      rcases hv g h1 with h3 | h3
      · exact i3 g h3 h2
      · omega
  have hz := hin.zero
  have hnew : OwnV eV w' (x, sv) ∧ InR lo w'.heap.size sv.ownBlock ∧ Dis v'.ownBlock sv.ownBlock := by
    refine ⟨owns_same hz.1 fun g hg' => keep g (by have := hz.2 g hg'; omega) (fun e => by have := h.outIn g e; have := hz.2 g hg'; omega), fun g hg' => by have := hz.2 g hg'; omega, fun g h1 h2 => ?_⟩
    have := hz.2 g h2
    rcases hv g h1 with h3 | h3
    · have := h.outIn g h3; omega
    · omega
  refine ⟨by rw [List.length_append, List.flatMap_append]; exact owns_zero hout, hvi, fun p hp => ?_, ?_⟩
  · rcases List.mem_append.1 hp with hp | hp
    · exact hold p hp
    · simp only [List.mem_singleton] at hp
      subst hp
      exact hnew
  · rw [List.pairwise_append]
    refine ⟨h.apart, List.pairwise_singleton _ _, fun p hp q hq => ?_⟩
    simp only [List.mem_singleton] at hq
    subst hq
    intro g h1 h2
    have := (h.inn p hp).2.1 g h1
    have := hz.2 g h2
    omega

/-- The data behind the marks. -/
def mkV (mt : Int → ByteArray) (k : Int) (i : Nat) : V := ⟨k + 3 * i, k + 3 * i + 1, mt (k + 3 * i + 2)⟩
/-- Row number j's id is marked (its cell alone is written). -/
theorem OwnRp.setId {ps1 ps2 : List (R × Value)} {x : R} {sv : Value} {g c N : Nat} {k : Int} (h : OwnRp eR eV w lo hi v (ps1 ++ (x, sv) :: ps2)) (hv : v = .slice (some ⟨g, 0, none⟩) N c)
    (hw : w' = w.setCell ⟨g, ps1.length * 2, none⟩ (.int .i64 k)) : OwnRp eR eV w' lo hi v (ps1 ++ ({ x with id := k }, sv) :: ps2) ∧ w.grownBy w' (some g) := by
  have hgr : w.grownBy w' (some g) := by rw [hw]; exact grown_set (World.grownBy.refl w _) _ _
  refine ⟨?_, hgr⟩
  obtain ⟨ho, hin, inn, hap⟩ := h
  have hob : v.ownBlock = some g := by rw [hv]; rfl
  have hlen : (ps1 ++ (x, sv) :: ps2).length = (ps1 ++ ({ x with id := k }, sv) :: ps2).length := by simp
  refine ⟨?_, hin, ?_, ?_⟩
  · refine ⟨by rw [flat_len rcell 2 rcell_len], ?_⟩
    rcases ho.2 with ⟨e1, e2⟩ | ⟨g', cap, cur, e1, hb, hg, hnc, hcm, hsz, htk⟩
    · rw [e1] at hv; cases hv
    · rw [hv] at e1
      injection e1 with e1 e2 e3
      injection e1 with e1
      injection e1 with e1
      subst e1
      refine .inr ⟨g, cap, _, by rw [hv, e2, e3, hlen], hb, by rw [hw]; exact set1 hg, by rw [← hlen]; exact hnc, hcm, by simpa using hsz, ?_⟩
      simp only [Array.toList_setIfInBounds]
      rw [← hlen, List.take_set, htk]
      rw [List.flatMap_append, List.flatMap_append, List.flatMap_cons, List.flatMap_cons]
      have hl : (ps1.flatMap rcell).length = ps1.length * 2 := flat_len rcell 2 rcell_len ps1
      rw [List.set_append_right _ _ (by omega), hl, Nat.sub_self]
      rfl
  · intro p hp
    have hk : ∀ q : Value, Dis v.ownBlock q.ownBlock → ∀ b, q.ownBlock = some b → b < w.heap.size → w'.heap[b]? = w.heap[b]? := fun q hd b hq hb => hgr.block b hb (fun e => hd g hob (by rw [hq]; exact e))
    have hbs : ∀ p ∈ ps1 ++ (x, sv) :: ps2, OwnV eV w' p := fun p hp => owns_same (inn p hp).1 fun b hb => hk p.2 (inn p hp).2.2 b hb ((inn p hp).1.lt b hb).2
    rcases List.mem_append.1 hp with h1 | h1
    · exact ⟨hbs p (by simp [h1]), (inn p (by simp [h1])).2⟩
    · rcases List.mem_cons.1 h1 with h1 | h1
      · subst h1
        exact ⟨hbs (x, sv) (by simp), (inn (x, sv) (by simp)).2⟩
      · exact ⟨hbs p (by simp [h1]), (inn p (by simp [h1])).2⟩
  · rw [List.pairwise_append, List.pairwise_cons] at hap ⊢
    exact ⟨hap.1, hap.2.1, fun p hp q hq => by
      rcases List.mem_cons.1 hq with h1 | h1
      · subst h1; exact hap.2.2 p hp (x, sv) (by simp)
      · exact hap.2.2 p hp q (by simp [h1])⟩
/-- Row number j's values have turned (their block alone). -/
theorem OwnRp.setVals {ps1 ps2 : List (R × Value)} {x : R} {sv : Value} {l' : List V} (h : OwnRp eR eV w lo hi v (ps1 ++ (x, sv) :: ps2))
    (hin : w'.ownsRow 0 eV 3 sv l'.length (l'.flatMap V.cells)) (hc : ∀ b, b < w.heap.size → sv.ownBlock ≠ some b → w'.heap[b]? = w.heap[b]?) :
    OwnRp eR eV w' lo hi v (ps1 ++ ({ x with l := l' }, sv) :: ps2) := by
  obtain ⟨ho, hin', inn, hap⟩ := h
  have hx := inn (x, sv) (by simp)
  have hap0 := hap
  rw [List.pairwise_append, List.pairwise_cons] at hap0
  have hout : w'.ownsRow 0 eR 2 v (ps1 ++ (x, sv) :: ps2).length ((ps1 ++ (x, sv) :: ps2).flatMap rcell) :=
    owns_same ho fun b hb => hc b (ho.lt b hb).2 (fun e => hx.2.2 b hb e)
  have hrest : ∀ p ∈ ps1 ++ ps2, OwnV eV w' p := fun p hp => by
    have hm : p ∈ ps1 ++ (x, sv) :: ps2 := by rcases List.mem_append.1 hp with h | h <;> simp [h]
    refine owns_same (inn p hm).1 fun b hb => hc b ((inn p hm).1.lt b hb).2 fun e => ?_
    rcases List.mem_append.1 hp with h | h
    · exact hap0.2.2 p h (x, sv) (by simp) b hb e
    · exact hap0.2.1.1 p h b e hb
  refine ⟨?_, hin', ?_, ?_⟩
  · rw [show (ps1 ++ ({ x with l := l' }, sv) :: ps2).length = (ps1 ++ (x, sv) :: ps2).length by simp, show (ps1 ++ ({ x with l := l' }, sv) :: ps2).flatMap rcell = (ps1 ++ (x, sv) :: ps2).flatMap rcell by simp [rcell]]
    exact hout
  · intro p hp
    rcases List.mem_append.1 hp with h1 | h1
    · exact ⟨hrest p (by simp [h1]), (inn p (by simp [h1])).2⟩
    · rcases List.mem_cons.1 h1 with h1 | h1
      · subst h1
        exact ⟨hin, hx.2⟩
      · exact ⟨hrest p (by simp [h1]), (inn p (by simp [h1])).2⟩
  · rw [List.pairwise_append, List.pairwise_cons] at hap ⊢
    exact ⟨hap.1, hap.2.1, fun p hp q hq => by
      rcases List.mem_cons.1 hq with h1 | h1
      · subst h1; exact hap.2.2 p hp (x, sv) (by simp)
      · exact hap.2.2 p hp q (by simp [h1])⟩
/-- The rows' values alone. -/
structure PartR (eV : TypeId) (w : World) (lo hi : Nat) (ps : List (R × Value)) : Prop where
  inn : ∀ p ∈ ps, OwnV eV w p ∧ InR lo hi p.2.ownBlock
  apart : ps.Pairwise fun p q => Dis p.2.ownBlock q.2.ownBlock
theorem PartR.nil : PartR eV w lo hi [] := ⟨fun p hp => by simp at hp, List.Pairwise.nil⟩
theorem PartR.imp (h : PartR eV w lo hi ps) (hs : ∀ g, lo ≤ g → g < hi → w'.heap[g]? = w.heap[g]?) (h2 : hi ≤ hi') : PartR eV w' lo hi' ps :=
  ⟨fun p hp => ⟨owns_same (h.inn p hp).1 fun g hg => hs g ((h.inn p hp).2 g hg).1 ((h.inn p hp).2 g hg).2, fun g hg => by have := (h.inn p hp).2 g hg; omega⟩, h.apart⟩
theorem PartR.snoc {sv : Value} {x : R} (h : PartR eV w lo w.heap.size ps) (hb : Below w.heap.size w w1) (hlo : lo ≤ w.heap.size)
    (hin : Own eV 3 w1 w.heap.size w1.heap.size sv x.l.length (x.l.flatMap V.cells)) : PartR eV w1 lo w1.heap.size (ps ++ [(x, sv)]) := by
  have h' := h.imp (w' := w1) (hi' := w1.heap.size) (fun g _ h2 => hb.block g h2) hb.size
  have hz := hin.zero
  refine ⟨fun p hp => ?_, ?_⟩
  · rcases List.mem_append.1 hp with hp | hp
    · exact h'.inn p hp
    · simp only [List.mem_singleton] at hp
      subst hp
      exact ⟨hz.1, fun g hg => by have := hz.2 g hg; omega⟩
  · rw [List.pairwise_append]
    refine ⟨h.apart, List.pairwise_singleton _ _, fun p hp q hq => ?_⟩
    simp only [List.mem_singleton] at hq
    subst hq
    intro g h1 h2
    have := (h.inn p hp).2 g h1
    have := hz.2 g h2
    omega
theorem PartR.set (h : PartR eV w lo hi ps) {b o : Nat} (hb : b < lo) (u : Value) : PartR eV (w.setCell ⟨b, o, none⟩ u) lo hi ps :=
  h.imp (fun k h1 _ => Below.heap_setCell w ⟨b, o, none⟩ u k (by show k ≠ b; omega)) (Nat.le_refl _)
theorem PartR.done {g : Nat} (h : PartR eV w lo hi ps) (hout : w.ownsRow 0 eR 2 v ps.length (ps.flatMap rcell)) (hv : v.ownBlock = some g) (h1 : lo' ≤ g) (h2 : g < lo) (h3 : g < hi) : OwnRp eR eV w lo' hi v ps :=
  ⟨hout, fun b hb => by rw [hv] at hb; injection hb with hb; omega, fun p hp => ⟨(h.inn p hp).1, fun b hb => by have := (h.inn p hp).2 b hb; omega, fun b hb hb' => by rw [hv] at hb; injection hb with hb; have := (h.inn p hp).2 b hb'; omega⟩, h.apart⟩
theorem take_set2 {l : List Value} {o : Nat} {a b : Value} (h : o + 2 ≤ l.length) : ((l.set o a).set (o + 1) b).take (o + 2) = l.take o ++ [a, b] := by
  have hl : (l.take o).length = o := by rw [List.length_take]; omega
  apply List.ext_getElem?
  intro i
  simp only [List.getElem?_append, hl, List.getElem?_take, List.getElem?_set, List.length_set]
  rcases (by omega : i < o ∨ i = o ∨ i = o + 1 ∨ o + 2 ≤ i) with hi | rfl | rfl | hi
  · repeat (first | rw [if_pos (by omega)] | rw [if_neg (by omega)])
  · repeat (first | rw [if_pos (by omega)] | rw [if_neg (by omega)])
    simp
  · repeat (first | rw [if_pos (by omega)] | rw [if_neg (by omega)])
    simp
  · repeat (first | rw [if_pos (by omega)] | rw [if_neg (by omega)])
    rw [List.getElem?_eq_none (by simp; omega)]
theorem len_of_lens {l : List R} {x : R} (h : x ∈ l) : x.l.length ≤ (l.map fun r => r.l.length).sum := by
  induction l with
  | nil => simp at h
  | cons a r ih =>
    simp only [List.map_cons, List.sum_cons]
    rcases List.mem_cons.1 h with h | h
    · subst h; omega
    · have := ih h; omega
theorem OwnRp.at {ps1 ps2 : List (R × Value)} {p : R × Value} {g N c : Nat} (h : OwnRp eR eV w lo hi (.slice (some ⟨g, 0, none⟩) N c) (ps1 ++ p :: ps2)) :
    w.cell? ⟨g, ps1.length * 2, none⟩ = some (.int .i64 p.1.id) ∧ w.cell? ⟨g, ps1.length * 2 + 1, none⟩ = some p.2 ∧ ∀ o, w.frozen? ⟨g, o, none⟩ = false := by
  rcases h.out.2 with ⟨e1, e2⟩ | ⟨g', cap, cur, e1, hb, hg, hnc, hcm, hsz, htk⟩
  · cases e1
  · injection e1 with e1 e2 e3
    injection e1 with e1
    injection e1 with e1
    subst e1
    have hl : ps1.length < (ps1 ++ p :: ps2).length := by simp
    have hget : ∀ j, j < 2 → w.cell? ⟨g, ps1.length * 2 + j, none⟩ = (rcell p)[j]? := fun j hj => by
      rw [cell_of_row w g _ cur _ _ hg, ← Array.getElem?_toList]
      have h1 : ((ps1 ++ p :: ps2).flatMap rcell)[ps1.length * 2 + j]? = (rcell p)[j]? := flat_get rcell 2 rcell_len _ _ _ _ (by simp) hj
      rw [← h1, ← htk, List.getElem?_take, if_pos (by omega)]
    exact ⟨hget 0 (by omega), hget 1 (by omega), fun o => frozen_of_row w g o cur _ hg⟩
theorem tightB (b : Option Nat) : ∃ a c, InR a c b ∧ ∀ k, a ≤ k → k < c → b = some k := by
  cases b with
  | none => exact ⟨0, 0, fun g h => by simp at h, fun k _ h => by omega⟩
  | some g => exact ⟨g, g + 1, fun g' h => by simp at h; omega, fun k h1 h2 => by congr; omega⟩
theorem cntR_snoc (a : List R) (y : R) : cntR (a ++ [y]) = cntR a + (1 + 3 * y.l.length) := by simp [cntR]
theorem cntR_take {l : List R} {j : Nat} {y : R} (h : l[j]? = some y) : cntR (l.take (j + 1)) = cntR (l.take j) + (1 + 3 * y.l.length) ∧ cntR (l.take (j + 1)) ≤ cntR l := by
  refine ⟨by rw [take_of_get h, cntR_snoc], ?_⟩
  have h2 : ∀ a b : List R, cntR (a ++ b) = cntR a + cntR b := fun a b => by simp [cntR]
  have h3 := h2 (l.take (j + 1)) (l.drop (j + 1))
  rw [List.take_append_drop] at h3
  omega
theorem OwnR.set (h : OwnR eR eV w lo hi v l) {b o : Nat} (hb : b < lo) (u : Value) : OwnR eR eV (w.setCell ⟨b, o, none⟩ u) lo hi v l :=
  h.same fun k h1 _ => Below.heap_setCell w ⟨b, o, none⟩ u k (by show k ≠ b; omega)
end
end Go.Lb
