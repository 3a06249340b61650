/- Predicates of the program: as data, and how a slice reads as a list of them. No conditions; nothing here speaks of the program. -/
import Derived.Test.YtjogkbkkcaljhaaGreatDoorXA
namespace Go.Lb
open Go.RowKit

/-- A predicate of the program, as data. -/
inductive P where
  | mk (kind col op : Int) (v : V) (l : List P)
def P.kind : P → Int | .mk k _ _ _ _ => k
def P.col : P → Int | .mk _ c _ _ _ => c
def P.op : P → Int | .mk _ _ o _ _ => o
def P.v : P → V | .mk _ _ _ v _ => v
def P.l : P → List P | .mk _ _ _ _ l => l
theorem P.eta (p : P) : P.mk p.kind p.col p.op p.v p.l = p := by cases p; rfl
theorem P.l_lt (p : P) : SizeOf.sizeOf p.l < SizeOf.sizeOf p := by cases p; simp [P.l]; omega
theorem P.mem_lt {p : P} {l : List P} (h : p ∈ l) : SizeOf.sizeOf p < SizeOf.sizeOf l := List.sizeOf_lt_of_mem h
theorem P.get_lt {p x : P} {k : Nat} (h : p.l[k]? = some x) : SizeOf.sizeOf x < SizeOf.sizeOf p := Nat.lt_trans (P.mem_lt (List.mem_of_getElem? h)) p.l_lt
def P.cell (p : P) (sv : Value) : List Value := [.int .i64 p.kind, .int .i64 p.col, .int .i64 p.op, .int .i64 p.v.ty, .int .i64 p.v.n, .string p.v.s, sv]

/-- A query of the program, as data. -/
structure Q where
  kind : Int
  p : P
  col : Int
  out : List Int
/-- The cells of a predicate. -/
structure PAt (w : World) (b o : Nat) (x : P) (sv : Value) : Prop where
  kind : w.cell? ⟨b, o, none⟩ = some (.int .i64 x.kind)
  col : w.cell? ⟨b, o + 1, none⟩ = some (.int .i64 x.col)
  op : w.cell? ⟨b, o + 2, none⟩ = some (.int .i64 x.op)
  ty : w.cell? ⟨b, o + 3, none⟩ = some (.int .i64 x.v.ty)
  n : w.cell? ⟨b, o + 4, none⟩ = some (.int .i64 x.v.n)
  s : w.cell? ⟨b, o + 5, none⟩ = some (.string x.v.s)
  sub : w.cell? ⟨b, o + 6, none⟩ = some sv
theorem PAt.same {w w' : World} {lo hi b o : Nat} {x : P} {sv : Value} (h : PAt w b o x sv) (hs : Same lo hi w w') (hl : lo ≤ b) (hh : b < hi) : PAt w' b o x sv :=
  ⟨(hs.cell hl hh).trans h.1, (hs.cell hl hh).trans h.2, (hs.cell hl hh).trans h.3, (hs.cell hl hh).trans h.4, (hs.cell hl hh).trans h.5, (hs.cell hl hh).trans h.6, (hs.cell hl hh).trans h.7⟩
/-- A slice that reads as a list of predicates. -/
inductive RdPi (w : World) (lo hi : Nat) : Value → List P → Prop where
  | mk (A : Option Addr) (c : Nat) (l : List P) (b off : Nat) (sv : Nat → Value) (hc : l.length ≤ c) (hm : c ≤ maxLen)
      (ha : 0 < l.length → A = some ⟨b, off, none⟩ ∧ lo ≤ b ∧ b < hi)
      (hcell : ∀ k x, l[k]? = some x → PAt w b (off + k * 7) x (sv k))
      (hr : ∀ k x, l[k]? = some x → RdPi w lo hi (sv k) x.l) : RdPi w lo hi (.slice A l.length c) l
def RdP (w : World) (lo hi : Nat) (v : Value) (l : List P) : Prop := RdPi w lo hi v l
section
variable {w w' : World} {lo hi lo' hi' : Nat} {v : Value} {A : Option Addr} {n c k : Nat} {l : List P}
theorem RdP.form (h : RdP w lo hi v l) : ∃ A c, v = .slice A l.length c ∧ l.length ≤ c ∧ c ≤ 9223372036854775807 := by
  unfold RdP at h
  cases h with
  | mk A c l b off sv hc hm ha hcell hr => exact ⟨A, c, rfl, hc, by unfold maxLen at hm; omega⟩
theorem RdP.at (h : RdP w lo hi (.slice A n c) l) (hk : k < l.length) : ∃ b off x sv, A = some ⟨b, off, none⟩ ∧ lo ≤ b ∧ b < hi ∧ l[k]? = some x ∧ PAt w b (off + k * 7) x sv ∧ RdP w lo hi sv x.l := by
  unfold RdP at h
  cases h with
  | mk A c l b off sv hc hm ha hcell hr =>
    have h0 := ha (by omega)
    have hx : l[k]? = some l[k] := List.getElem?_eq_getElem hk
    exact ⟨b, off, l[k], sv k, h0.1, h0.2.1, h0.2.2, hx, hcell k _ hx, hr k _ hx⟩
theorem RdP.imp (h : RdP w lo hi v l) (hs : Same lo hi w w') (h1 : lo' ≤ lo) (h2 : hi ≤ hi') : RdP w' lo' hi' v l := by
  unfold RdP at h ⊢
  induction h with
  | mk A c l b off sv hc hm ha hcell hr ih =>
    refine .mk A c l b off sv hc hm (fun h0 => ?_) (fun k x hx => ?_) ih
    · have := ha h0
      exact ⟨this.1, by omega, by omega⟩
    · have h0 := ha (by have := (List.getElem?_eq_some_iff.1 hx).1; omega)
      exact (hcell k x hx).same hs h0.2.1 h0.2.2
theorem RdP.same (h : RdP w lo hi v l) (hs : Same lo hi w w') : RdP w' lo hi v l := h.imp hs (Nat.le_refl _) (Nat.le_refl _)
theorem RdP.more (h : RdP w lo hi v l) (h1 : lo' ≤ lo) (h2 : hi ≤ hi') : RdP w lo' hi' v l := h.imp (.refl _ _ _) h1 h2
theorem RdP.below {B : Nat} (h : RdP w lo hi v l) (hb : Below B w w') (hB : hi ≤ B) : RdP w' lo hi v l := h.same (.of_below hb hB)
end
/-- The strings of a predicate are no longer than a string may be. -/
inductive POks : List P → Prop where
  | mk (l : List P) (h1 : ∀ x ∈ l, x.v.s.size ≤ maxLen) (h2 : ∀ x ∈ l, POks x.l) : POks l
def POk (p : P) : Prop := p.v.s.size ≤ maxLen ∧ POks p.l
theorem POks.get {l : List P} {k : Nat} {x : P} (h : POks l) (hx : l[k]? = some x) : POk x := by
  cases h with
  | mk l h1 h2 => exact ⟨h1 x (List.mem_of_getElem? hx), h2 x (List.mem_of_getElem? hx)⟩
theorem POk.get {p x : P} {k : Nat} (h : POk p) (hx : p.l[k]? = some x) : POk x := h.2.get hx
/-- A list of predicates of the call's own: its row lies in a block from lo on, below hi; each one's parts lie in a stretch of blocks of their own. -/
inductive OwnPi (e : TypeId) (w : World) : Nat → Nat → Value → List P → Prop where
  | mk (lo hi : Nat) (v : Value) (ps : List (P × Value)) (s t : Nat → Nat) (ho : w.ownsRow 0 e 7 v ps.length (ps.flatMap fun p => p.1.cell p.2)) (hin : InR lo hi v.ownBlock)
      (hr : ∀ (k : Nat) (p : P × Value), ps[k]? = some p → OwnPi e w (s k) (t k) p.2 p.1.l)
      (hst : ∀ k, k < ps.length → lo ≤ s k ∧ t k ≤ hi ∧ ∀ g, v.ownBlock = some g → g < s k ∨ t k ≤ g)
      (hts : ∀ j k, j < k → k < ps.length → t j ≤ s k) : OwnPi e w lo hi v (ps.map Prod.fst)
def OwnP (e : TypeId) (w : World) (lo hi : Nat) (v : Value) (l : List P) : Prop := OwnPi e w lo hi v l
section
variable {w w' : World} {lo hi lo' hi' e : Nat} {v : Value} {l : List P}
theorem OwnP.imp (h : OwnP e w lo hi v l) : ∀ {lo' hi' : Nat}, lo' ≤ lo → hi ≤ hi' → Same lo hi w w' → OwnP e w' lo' hi' v l := by
  unfold OwnP at h ⊢
  induction h with
  | mk lo hi v ps s t ho hin hr hst hts ih =>
    intro lo' hi' h1 h2 hs
    refine .mk lo' hi' v ps s t (owns_same ho fun g hg => hs g (hin g hg).1 (hin g hg).2) (fun g hg => by have := hin g hg; omega) (fun k p hp => ?_) (fun k hk => ?_) hts
    · have hk := (List.getElem?_eq_some_iff.1 hp).1
      have := hst k hk
      exact ih k p hp (Nat.le_refl _) (Nat.le_refl _) (hs.less this.1 this.2.1)
    · have := hst k hk
      exact ⟨by omega, by omega, this.2.2⟩
theorem OwnP.same (h : OwnP e w lo hi v l) (hs : Same lo hi w w') : OwnP e w' lo hi v l := h.imp (Nat.le_refl _) (Nat.le_refl _) hs
theorem OwnP.more (h : OwnP e w lo hi v l) (h1 : lo' ≤ lo) (h2 : hi ≤ hi') : OwnP e w lo' hi' v l := h.imp h1 h2 (.refl _ _ _)
theorem OwnP.below {B : Nat} (h : OwnP e w lo hi v l) (hb : Below B w w') (hB : hi ≤ B) : OwnP e w' lo hi v l := h.same (.of_below hb hB)
theorem OwnP.set (h : OwnP e w lo hi v l) {b o : Nat} (hb : b < lo) (u : Value) : OwnP e (w.setCell ⟨b, o, none⟩ u) lo hi v l :=
  h.same fun k h1 _ => Below.heap_setCell w ⟨b, o, none⟩ u k (by show k ≠ b; omega)
theorem P.cell_len (p : P × Value) : (p.1.cell p.2).length = 7 := rfl
theorem OwnP.rdP (h : OwnP e w lo hi v l) : RdP w lo hi v l := by
  unfold OwnP at h
  induction h with
  | mk lo hi v ps s t ho hin hr hst hts ih =>
    obtain ⟨A, c, h1, h2, h3, h4⟩ := (Own.of_zero ho hin).cells
    have hlen : (ps.map Prod.fst).length = ps.length := List.length_map _
    subst h1
    unfold RdP at ih ⊢
    rw [show (Value.slice A ps.length c) = .slice A (ps.map Prod.fst).length c by rw [hlen]]
    have hb : ∃ b off, 0 < ps.length → A = some ⟨b, off, none⟩ ∧ lo ≤ b ∧ b < hi := by
      rcases Nat.eq_zero_or_pos ps.length with h0 | h0
      · exact ⟨0, 0, fun h => by omega⟩
      · obtain ⟨b, off, ha, hl, hh, -⟩ := h4 0 h0
        exact ⟨b, off, fun _ => ⟨ha, hl, hh⟩⟩
    obtain ⟨b, off, hb⟩ := hb
    refine .mk A c _ b off (fun k => (ps.map Prod.snd).getD k (.slice none 0 0)) (by rw [hlen]; exact h2) h3 (fun h0 => hb (by rwa [hlen] at h0)) (fun k x hx => ?_) (fun k x hx => ?_)
    all_goals
      rw [List.getElem?_map] at hx
      obtain ⟨p, hp, rfl⟩ := Option.map_eq_some_iff.1 hx
      have hk := (List.getElem?_eq_some_iff.1 hp).1
      have hsv : (ps.map Prod.snd).getD k (.slice none 0 0) = p.2 := by rw [List.getD_eq_getElem?_getD, List.getElem?_map, hp]; rfl
      rw [hsv]
    · obtain ⟨b', off', ha, -, -, hc⟩ := h4 k hk
      have h0 := (hb (by omega)).1
      rw [h0] at ha
      injection ha with ha
      injection ha with ha1 ha2
      subst ha1 ha2
      have hg : ∀ j, j < 7 → w.cell? ⟨b, off + k * 7 + j, none⟩ = (p.1.cell p.2)[j]? := fun j hj => (hc j hj).trans (flat_get (fun p : P × Value => p.1.cell p.2) 7 P.cell_len ps k j _ hp hj)
      exact ⟨hg 0 (by omega), hg 1 (by omega), hg 2 (by omega), hg 3 (by omega), hg 4 (by omega), hg 5 (by omega), hg 6 (by omega)⟩
    · have := hst k hk
      exact RdP.more (ih k p hp) this.1 this.2.1
end
end Go.Lb
