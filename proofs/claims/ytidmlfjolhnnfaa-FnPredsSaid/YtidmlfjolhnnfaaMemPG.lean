/- A list of predicates of the call's own, that grows. No conditions; nothing here speaks of the program. -/
import Derived.Test.YtidmlfjolhnnfaaLP2
import Derived.Test.YtidmlfjolhnnfaaD13
namespace Go.Lb
open Go.RowKit
def pcells (ps : List (P × Value)) : List Value := ps.flatMap fun p => p.1.cell p.2
/-- The row of the list lies in a block of its own; each one's parts lie in a stretch of blocks of their own. -/
structure OwnPs (e : TypeId) (w : World) (lo hi : Nat) (v : Value) (ps : List (P × Value)) (s t : Nat → Nat) : Prop where
  out : w.ownsRow 0 e 7 v ps.length (pcells ps)
  outIn : InR lo hi v.ownBlock
  inn : ∀ (k : Nat) (p : P × Value), ps[k]? = some p → OwnP e w (s k) (t k) p.2 p.1.l
  stay : ∀ k, k < ps.length → lo ≤ s k ∧ t k ≤ hi ∧ ∀ g, v.ownBlock = some g → g < s k ∨ t k ≤ g
  rise : ∀ j k, j < k → k < ps.length → t j ≤ s k
def OwnPx (e : TypeId) (w : World) (lo hi : Nat) (v : Value) (ps : List (P × Value)) : Prop := ∃ s t, OwnPs e w lo hi v ps s t
section
variable {e : TypeId} {w w' w1 : World} {lo hi lo' hi' base : Nat} {ps : List (P × Value)} {v v' sv : Value} {x : P} {l : List P}
theorem OwnPx.own (h : OwnPx e w lo hi v ps) : OwnP e w lo hi v (ps.map Prod.fst) := by
  obtain ⟨s, t, h⟩ := h
  exact OwnPi.mk lo hi v ps s t h.out h.outIn h.inn h.stay h.rise
theorem OwnP.px (h : OwnP e w lo hi v l) : ∃ ps, ps.map Prod.fst = l ∧ OwnPx e w lo hi v ps := by
  unfold OwnP at h
  cases h with
  | mk lo hi v ps s t ho hin hr hst hts => exact ⟨ps, rfl, s, t, ⟨ho, hin, hr, hst, hts⟩⟩
theorem OwnPx.imp (h : OwnPx e w lo hi v ps) (h1 : lo' ≤ lo) (h2 : hi ≤ hi') (hs : Same lo hi w w') : OwnPx e w' lo' hi' v ps := by
  obtain ⟨s, t, a1, a2, a3, a4, a5⟩ := h
  refine ⟨s, t, owns_same a1 fun g hg => hs g (a2 g hg).1 (a2 g hg).2, fun g hg => by have := a2 g hg; omega, fun k p hp => ?_, fun k hk => ?_, a5⟩
  · have hk := (List.getElem?_eq_some_iff.1 hp).1
    have := a4 k hk
    exact (a3 k p hp).same (hs.less this.1 this.2.1)
  · have := a4 k hk
    exact ⟨by omega, by omega, this.2.2⟩
theorem OwnPx.nil (h : w.ownsRow base e 7 v 0 []) (hi' : InR lo hi v.ownBlock) : OwnPx e w lo hi v [] :=
  ⟨fun _ => 0, fun _ => 0, owns_zero h, hi', fun k p h => by simp at h, fun k h => by simp at h, fun j k _ h => by simp at h⟩
/-- One more (what was made in between may have turned other blocks). -/
theorem OwnPs.snoc {s t : Nat → Nat} (h : OwnPs e w lo w.heap.size v ps s t) (hb : Same lo w.heap.size w w1) (s1 : w.heap.size ≤ w1.heap.size) (hlo : lo ≤ w.heap.size)
    {B : Nat} (hin : OwnP e w1 w.heap.size B sv x.l) (hB : B ≤ w1.heap.size) (hout : w'.ownsRow base e 7 v' (ps.length + 1) (pcells ps ++ x.cell sv)) (hg : w1.grownBy w' v.ownBlock)
    (hv : ∀ g, v'.ownBlock = some g → v.ownBlock = some g ∨ w1.heap.size ≤ g) : OwnPs e w' lo w'.heap.size v' (ps ++ [(x, sv)]) (fun k => if k < ps.length then s k else w.heap.size) (fun k => if k < ps.length then t k else B) := by
  obtain ⟨a1, a2, a3, a4, a5⟩ := h
  have s2 := hg.size
  have hold : ∀ k p, ps[k]? = some p → OwnP e w' (s k) (t k) p.2 p.1.l := fun k p hp => by
    have hk := (List.getElem?_eq_some_iff.1 hp).1
    have h4 := a4 k hk
    refine (a3 k p hp).same fun g h1 h2 => ?_
    rw [hg.block g (by omega) (fun e => by rcases h4.2.2 g e.symm with h | h <;> omega)]
    exact hb g (by omega) (by omega)
  have hnew : OwnP e w' w.heap.size B sv x.l := hin.same fun g h1 h2 => hg.block g (by omega) (fun e => by have := a2 g e.symm; omega)
  refine ⟨by rw [List.length_append]; simpa [pcells] using owns_zero hout, fun g hg' => ?_, fun k p hp => ?_, fun k hk => ?_, fun j k hjk hk => ?_⟩
  · refine ⟨?_, (hout.lt g hg').2⟩
    rcases hv g hg' with h1 | h1
    · exact (a2 g h1).1
    · omega
  · by_cases hk : k < ps.length
    · rw [List.getElem?_append_left hk] at hp
      simp only [if_pos hk]
      exact hold k p hp
    · rw [List.getElem?_append_right (by omega)] at hp
      have h0 : k - ps.length = 0 := by
        have := (List.getElem?_eq_some_iff.1 hp).1
        simp at this; omega
      rw [h0] at hp
      simp only [List.getElem?_cons_zero, Option.some.injEq] at hp
      subst hp
      simp only [if_neg hk]
      exact hnew
  · by_cases hkl : k < ps.length
    · have h4 := a4 k hkl
      simp only [if_pos hkl]
      refine ⟨h4.1, by omega, fun g hg' => ?_⟩
      rcases hv g hg' with h1 | h1
      · exact h4.2.2 g h1
      · right; omega
    · simp only [if_neg hkl]
      refine ⟨hlo, by omega, fun g hg' => ?_⟩
      rcases hv g hg' with h1 | h1
      · left; exact (a2 g h1).2
      · right; omega
  · simp only [List.length_append, List.length_cons, List.length_nil] at hk
    by_cases hkl : k < ps.length
    · simp only [if_pos hkl, if_pos (show j < ps.length by omega)]
      exact a5 j k hjk hkl
    · simp only [if_neg hkl, if_pos (show j < ps.length by omega)]
      exact (a4 j (by omega)).2.1
theorem OwnPx.snoc (h : OwnPx e w lo w.heap.size v ps) (hb : Same lo w.heap.size w w1) (s1 : w.heap.size ≤ w1.heap.size) (hlo : lo ≤ w.heap.size)
    {B : Nat} (hin : OwnP e w1 w.heap.size B sv x.l) (hB : B ≤ w1.heap.size) (hout : w'.ownsRow base e 7 v' (ps.length + 1) (pcells ps ++ x.cell sv)) (hg : w1.grownBy w' v.ownBlock)
    (hv : ∀ g, v'.ownBlock = some g → v.ownBlock = some g ∨ w1.heap.size ≤ g) : OwnPx e w' lo w'.heap.size v' (ps ++ [(x, sv)]) := by
  obtain ⟨s, t, h⟩ := h
  exact ⟨_, _, h.snoc hb s1 hlo hin hB hout hg hv⟩
/-- One more, and a cell of a block that is none of these is written. -/
theorem OwnPx.snocG {X hi0 q : Nat} {u : Value} (h : OwnPx e w lo hi0 v ps) (h0 : hi0 ≤ X) (hX : X < w.heap.size) (hb : Same lo w.heap.size w w1) (s1 : w.heap.size ≤ w1.heap.size) (hlo : lo ≤ w.heap.size)
    {B : Nat} (hin : OwnP e w1 w.heap.size B sv x.l) (hB : B ≤ w1.heap.size) (hout : w'.ownsRow base e 7 v' (ps.length + 1) (pcells ps ++ x.cell sv)) (hg : w1.grownBy w' v.ownBlock)
    (hv : ∀ g, v'.ownBlock = some g → v.ownBlock = some g ∨ w1.heap.size ≤ g) : OwnPx e (w'.setCell ⟨X, q, none⟩ u) lo w'.heap.size v' (ps ++ [(x, sv)]) := by
  obtain ⟨s, t, h⟩ := h
  have h1 : OwnPs e w lo w.heap.size v ps s t := ⟨h.out, fun g hg => by have := h.outIn g hg; omega, h.inn, fun k hk => by have := h.stay k hk; exact ⟨this.1, by omega, this.2.2⟩, h.rise⟩
  have h2 := h1.snoc hb s1 hlo hin hB hout hg hv
  have ne : ∀ b, b ≠ X → (w'.setCell ⟨X, q, none⟩ u).heap[b]? = w'.heap[b]? := fun b hb => Below.heap_setCell w' ⟨X, q, none⟩ u b (by show b ≠ X; exact hb)
  refine ⟨_, _, owns_same h2.out fun g hg => ne g fun e => ?_, h2.outIn, fun k p hp => (h2.inn k p hp).same fun b hb1 hb2 => ne b fun e => ?_, h2.stay, h2.rise⟩
  · subst e
    rcases hv g hg with h3 | h3
    · have := h.outIn g h3; omega
    · omega
  · subst e
    by_cases hk : k < ps.length
    · have := h.stay k hk
      simp only [if_pos hk] at hb1 hb2
      omega
    · simp only [if_neg hk] at hb1 hb2
      omega
/-- The first ones alone. -/
theorem owns_take {n m c s : Nat} {A : Option Addr} {xs : List Value} (h : w.ownsRow base e s (.slice A n c) n xs) (hm : m ≤ n) (h0 : 0 < n) : w.ownsRow base e s (.slice A m c) m (xs.take (m * s)) := by
  obtain ⟨h1, h2⟩ := h
  have hle : m * s ≤ n * s := Nat.mul_le_mul_right s hm
  refine ⟨by rw [List.length_take]; omega, ?_⟩
  rcases h2 with ⟨h2, h3⟩ | ⟨g, cap, cur, h2, h3, h4, h5, h6, h7, h8⟩
  · omega
  · injection h2 with e1 e2 e3
    subst e1 e3
    refine .inr ⟨g, c, cur, rfl, h3, h4, by omega, h6, h7, ?_⟩
    rw [← h8, List.take_take, Nat.min_eq_left hle]
theorem OwnPx.take {n m c : Nat} {A : Option Addr} (h : OwnPx e w lo hi (.slice A n c) ps) (hn : ps.length = n) (hm : m ≤ n) (h0 : 0 < n) : OwnPx e w lo hi (.slice A m c) (ps.take m) := by
  obtain ⟨s, t, a1, a2, a3, a4, a5⟩ := h
  have hl : (ps.take m).length = m := by rw [List.length_take]; omega
  have hcut : ∀ (q : List (P × Value)) (k : Nat), k ≤ q.length → (pcells q).take (k * 7) = pcells (q.take k) := by
    intro q
    induction q with
    | nil => intro k hk; simp [pcells]
    | cons a q ih =>
      intro k hk
      cases k with
      | zero => simp [pcells]
      | succ k =>
        have := ih k (by simpa using hk)
        simp only [pcells, List.flatMap_cons, List.take_succ_cons] at this ⊢
        rw [List.take_append, P.cell_len a, show (k + 1) * 7 - 7 = k * 7 by omega, this, List.take_of_length_le (by rw [P.cell_len a]; omega)]
  refine ⟨s, t, ?_, fun g hg => a2 g (by
    cases A with
    | none => simp [Value.ownBlock] at hg
    | some a => exact hg), fun k p hp => ?_, fun k hk => ?_, fun j k hjk hk => a5 j k hjk (by omega)⟩
  · rw [hl, ← hcut ps m (by omega)]
    rw [hn] at a1
    exact owns_take a1 hm h0
  · rw [List.getElem?_take] at hp
    split at hp
    · exact a3 k p hp
    · cases hp
  · have h4 := a4 k (by omega)
    refine ⟨h4.1, h4.2.1, fun g hg => h4.2.2 g (by
      cases A with
      | none => simp [Value.ownBlock] at hg
      | some a => exact hg)⟩
end
end Go.Lb
