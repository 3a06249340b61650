/- The laws' helpers for predicates: copies: contracts. -/
import Derived.Test.YtidmlfjolhnnfaaLP1
import Derived.Test.YtidmlfjolhnnfaaXL
namespace Go.Lb
open Go.RowKit
/-- The parts of predicates alone, each in a stretch of blocks of its own. -/
def PartP (e : TypeId) (w : World) (lo hi : Nat) (ps : List (P × Value)) : Prop := ∃ s t : Nat → Nat, (∀ (k : Nat) (p : P × Value), ps[k]? = some p → OwnP e w (s k) (t k) p.2 p.1.l) ∧ (∀ k, k < ps.length → lo ≤ s k ∧ t k ≤ hi) ∧ ∀ j k, j < k → k < ps.length → t j ≤ s k
section
variable {e : TypeId} {w w' w1 : World} {lo hi lo' hi' : Nat} {ps : List (P × Value)} {v sv : Value} {x : P}
theorem PartP.nil : PartP e w lo hi [] := ⟨fun _ => 0, fun _ => 0, fun k p h => by simp at h, fun k h => by simp at h, fun j k _ h => by simp at h⟩
theorem PartP.imp (h : PartP e w lo hi ps) (hs : Same lo hi w w') (h2 : hi ≤ hi') : PartP e w' lo hi' ps := by
  obtain ⟨s, t, h1, h3, h4⟩ := h
  refine ⟨s, t, fun k p hp => ?_, fun k hk => ⟨(h3 k hk).1, Nat.le_trans (h3 k hk).2 h2⟩, h4⟩
  have hk := (List.getElem?_eq_some_iff.1 hp).1
  exact (h1 k p hp).same (hs.less (h3 k hk).1 (h3 k hk).2)
theorem PartP.snoc (h : PartP e w lo w.heap.size ps) (hb : Below w.heap.size w w1) (hlo : lo ≤ w.heap.size) (hn : OwnP e w1 w.heap.size w1.heap.size sv x.l) : PartP e w1 lo w1.heap.size (ps ++ [(x, sv)]) := by
  obtain ⟨s, t, h1, h3, h4⟩ := h
  refine ⟨fun k => if k < ps.length then s k else w.heap.size, fun k => if k < ps.length then t k else w1.heap.size, fun k p hp => ?_, fun k hk => ?_, fun j k hjk hk => ?_⟩
  · by_cases hk : k < ps.length
    · rw [List.getElem?_append_left hk] at hp
      simp only [if_pos hk]
      exact (h1 k p hp).below hb (h3 k hk).2
    · rw [List.getElem?_append_right (by omega)] at hp
      have h0 : k - ps.length = 0 := by
        have := (List.getElem?_eq_some_iff.1 hp).1
        simp at this; omega
      rw [h0] at hp
      simp only [List.getElem?_cons_zero, Option.some.injEq] at hp
      subst hp
      simp only [if_neg hk]
      exact hn
  · have hs := hb.size
    by_cases hkl : k < ps.length
    · have := h3 k hkl
      simp only [if_pos hkl]; omega
    · simp only [if_neg hkl]; omega
  · simp only [List.length_append, List.length_cons, List.length_nil] at hk
    by_cases hkl : k < ps.length
    · simp only [if_pos hkl, if_pos (show j < ps.length by omega)]
      exact h4 j k hjk hkl
    · simp only [if_neg hkl, if_pos (show j < ps.length by omega)]
      exact (h3 j (by omega)).2
theorem PartP.set (h : PartP e w lo hi ps) {b o : Nat} (hb : b < lo) (u : Value) : PartP e (w.setCell ⟨b, o, none⟩ u) lo hi ps :=
  h.imp (fun k h1 _ => Below.heap_setCell w ⟨b, o, none⟩ u k (by show k ≠ b; omega)) (Nat.le_refl _)
theorem PartP.done {g : Nat} (h : PartP e w lo hi ps) (ho : w.ownsRow 0 e 7 v ps.length (ps.flatMap fun p => p.1.cell p.2)) (hv : v.ownBlock = some g) (h1 : lo' ≤ g) (h2 : g < lo) (h3 : g < hi) : OwnP e w lo' hi v (ps.map Prod.fst) := by
  obtain ⟨s, t, a1, a3, a4⟩ := h
  refine OwnPi.mk lo' hi v ps s t ho (fun b hb => by rw [hv] at hb; injection hb with hb; omega) a1 (fun k hk => ⟨by have := a3 k hk; omega, (a3 k hk).2, fun b hb => ?_⟩) a4
  rw [hv] at hb
  injection hb with hb
  have := a3 k hk
  exact .inl (by omega)
end
theorem take_set7 {l : List Value} {o : Nat} {a b c d e f g : Value} (h : o + 7 ≤ l.length) : (((((((l.set o a).set (o + 1) b).set (o + 2) c).set (o + 3) d).set (o + 4) e).set (o + 5) f).set (o + 6) g).take (o + 7) = l.take o ++ [a, b, c, d, e, f, g] := by
  have h1 := take_set3 (l := (((l.set o a).set (o + 1) b).set (o + 2) c).set (o + 3) d) (o := o + 4) (a := e) (b := f) (c := g) (by simp; omega)
  have h2 := take_set2 (l := (l.set o a).set (o + 1) b) (o := o + 2) (a := c) (b := d) (by simp; omega)
  have h3 := take_set2 (l := l) (o := o) (a := a) (b := b) (by omega)
  rw [h3] at h2
  rw [h2, List.append_assoc, List.append_assoc] at h1
  exact h1
theorem set7 {w : World} {g o : Nat} {cur : Array Value} {e : TypeId} {a b c d f h i : Value} (hh : w.heap[g]? = some (.cells cur e (0, 0))) :
    (((((((w.setCell ⟨g, o, none⟩ a).setCell ⟨g, o + 1, none⟩ b).setCell ⟨g, o + 2, none⟩ c).setCell ⟨g, o + 3, none⟩ d).setCell ⟨g, o + 4, none⟩ f).setCell ⟨g, o + 5, none⟩ h).setCell ⟨g, o + 6, none⟩ i).heap[g]? = some (.cells (((((((cur.setIfInBounds o a).setIfInBounds (o + 1) b).setIfInBounds (o + 2) c).setIfInBounds (o + 3) d).setIfInBounds (o + 4) f).setIfInBounds (o + 5) h).setIfInBounds (o + 6) i) e (0, 0)) :=
  set1 (set1 (set1 (set1 (set1 (set1 (set1 hh))))))
end Go.Lb
namespace Go.Proofs.Ytidmlfjolhnnfaa
open Go.Sort Go.ChangeShapes Go.WideShapes Go.ChangeAt Go.RowKit Go.Lb

theorem info_pred : (Try.prog.info? 28).map (fun i => (i.zero, i.size, i.bytes)) = some (some (.agg #[.int .i64 0, .int .i64 0, .int .i64 0, .int .i64 0, .int .i64 0, .string ⟨#[]⟩, .slice none 0 0]), 7, 80) := by kernel_rfl
end Go.Proofs.Ytidmlfjolhnnfaa
