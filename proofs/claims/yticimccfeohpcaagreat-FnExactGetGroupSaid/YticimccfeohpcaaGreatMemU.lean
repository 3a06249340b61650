/- Runs in memory. No conditions; nothing here speaks of the program. -/
import Derived.Test.YticimccfeohpcaaGreatXA
import Derived.Test.YticimccfeohpcaaGreatCR
namespace Go.Lb
open Go.RowKit
section
variable {w w' : World} {base e s N c g lo hi lo' hi' : Nat} {v : Value} {xs : List Value}
theorem owns_formS (h : w.ownsRow base e s v N xs) (hN : 0 < N) : ∃ g cap, v = .slice (some ⟨g, 0, none⟩) N cap ∧ base ≤ g ∧ g < w.heap.size ∧ N ≤ cap ∧ cap ≤ 9223372036854775807 ∧ (∀ j u, xs[j]? = some u → w.cell? ⟨g, j, none⟩ = some u) ∧ ∀ o, w.frozen? ⟨g, o, none⟩ = false := by
  rcases h.2 with ⟨e1, e2⟩ | ⟨g, cap, cur, rfl, hb, hg, hnc, hcm, hsz, htk⟩
  · omega
  · refine ⟨g, cap, rfl, hb, (Array.getElem?_eq_some_iff.1 hg).1, hnc, by unfold maxLen at hcm; omega, fun j u hj => ?_, fun o => frozen_of_row w g o cur _ hg⟩
    rw [cell_of_row w g _ cur _ _ hg, ← Array.getElem?_toList]
    rw [← htk, List.getElem?_take] at hj
    split at hj
    · exact hj
    · cases hj
theorem owns_putS {idx : Nat} {u : Value} (h : w.ownsRow base e s (.slice (some ⟨g, 0, none⟩) N c) N xs) : (w.setCell ⟨g, idx, none⟩ u).ownsRow base e s (.slice (some ⟨g, 0, none⟩) N c) N (xs.set idx u) := by
  refine ⟨by rw [List.length_set]; exact h.1, ?_⟩
  rcases h.2 with ⟨e1, e2⟩ | ⟨g', cap, cur, e1, hb, hg, hnc, hcm, hsz, htk⟩
  · cases e1
  · injection e1 with e1 e2 e3
    injection e1 with e1
    injection e1 with e1
    subst e1 e3
    refine .inr ⟨g, c, _, rfl, hb, set1 hg, hnc, hcm, by simpa using hsz, ?_⟩
    simp only [Array.toList_setIfInBounds]
    rw [List.take_set, htk]
def UAt (w : World) (b o : Nat) (x : Ru) : Prop := VAt w b o x.v ∧ w.cell? ⟨b, o + 3, none⟩ = some (.int .i64 x.k)
/-- A slice that reads as a list of runs. -/
def RdU (w : World) (lo hi : Nat) (v : Value) (l : List Ru) : Prop := RdG lo hi 4 v l.length fun k b o => ∃ x, l[k]? = some x ∧ UAt w b o x
theorem UAt.same {b o : Nat} {x : Ru} (h : UAt w b o x) (hs : Same lo hi w w') (hl : lo ≤ b) (hh : b < hi) : UAt w' b o x := And.intro (h.1.same hs hl hh) ((hs.cell hl hh).trans h.2)
theorem RdU.same {l : List Ru} (h : RdU w lo hi v l) (hs : Same lo hi w w') : RdU w' lo hi v l := by
  unfold RdU at h ⊢
  refine h.imp (Nat.le_refl _) (Nat.le_refl _) fun _ _ _ hl hh h1 => ?_
  obtain ⟨x, hx, h1⟩ := h1
  exact Exists.intro x (And.intro hx (h1.same hs hl hh))
theorem RdU.more {l : List Ru} (h : RdU w lo hi v l) (h1 : lo' ≤ lo) (h2 : hi ≤ hi') : RdU w lo' hi' v l := h.imp h1 h2 fun _ _ _ _ _ h => h
theorem RdU.below {B : Nat} {l : List Ru} (h : RdU w lo hi v l) (hb : Below B w w') (hB : hi ≤ B) : RdU w' lo hi v l := h.same (.of_below hb hB)
theorem RdU.go {l : List Ru} (h : RdU w 0 w.heap.size v l) (hb : Below w.heap.size w w') : RdU w' 0 w'.heap.size v l := (h.below hb (Nat.le_refl _)).more (Nat.le_refl _) hb.size
theorem RdU.at {A : Option Addr} {n k : Nat} {l : List Ru} (h : RdU w lo hi (.slice A n c) l) (hk : k < n) : ∃ b off x, A = some ⟨b, off, none⟩ ∧ lo ≤ b ∧ b < hi ∧ l[k]? = some x ∧ w.cell? ⟨b, off + k * 4, none⟩ = some (.int .i64 x.v.ty) ∧ w.cell? ⟨b, off + k * 4 + 1, none⟩ = some (.int .i64 x.v.n) ∧ w.cell? ⟨b, off + k * 4 + 2, none⟩ = some (.string x.v.s) ∧ w.cell? ⟨b, off + k * 4 + 3, none⟩ = some (.int .i64 x.k) := by
  obtain ⟨A', c', e, _, _, h⟩ := h
  injection e with e1 e2 e3
  subst e1
  obtain ⟨b, off, h1, h2, h3, x, hx, ⟨v0, v1, v2⟩, hk⟩ := h k (by omega)
  exact ⟨b, off, x, h1, h2, h3, hx, v0, v1, v2, hk⟩
theorem Own.rdU {l : List Ru} (h : Own e 4 w lo hi v l.length (l.flatMap Ru.cells)) : RdU w lo hi v l := by
  obtain ⟨A, c, h1, h2, h3, h4⟩ := h.cells
  refine ⟨A, c, h1, h2, h3, fun k hk => ?_⟩
  obtain ⟨b, off, ha, hl, hh, hc⟩ := h4 k hk
  refine ⟨b, off, ha, hl, hh, l[k], List.getElem?_eq_getElem hk, ?_⟩
  have hg : ∀ j, j < 4 → w.cell? ⟨b, off + k * 4 + j, none⟩ = (Ru.cells l[k])[j]? := fun j hj => (hc j hj).trans (flat_get Ru.cells 4 Ru.cells_len l k j _ (List.getElem?_eq_getElem hk) hj)
  exact ⟨⟨hg 0 (by omega), hg 1 (by omega), hg 2 (by omega)⟩, hg 3 (by omega)⟩
end
theorem ru_set (p : List Ru) (r : Ru) (k : Int) : ((p ++ [r]).flatMap Ru.cells).set (p.length * 4 + 3) (.int .i64 k) = (p ++ [(⟨r.v, k⟩ : Ru)]).flatMap Ru.cells := by
  have hl := flat_len Ru.cells 4 Ru.cells_len p
  rw [List.flatMap_append, List.flatMap_append, List.set_append_right _ _ (by omega), hl, show p.length * 4 + 3 - p.length * 4 = 3 by omega]
  rfl
theorem ru_last (p : List Ru) (r : Ru) (j : Nat) (hj : j < 4) : ((p ++ [r]).flatMap Ru.cells)[p.length * 4 + j]? = r.cells[j]? := by
  exact flat_get Ru.cells 4 Ru.cells_len (p ++ [r]) p.length j r (by simp) hj
theorem runs_k {l : List V} {j : Nat} {r : Ru} (hj : j ≤ l.length) (h : r ∈ runs (l.take j)) : 1 ≤ r.k ∧ r.k ≤ (j : Int) := by
  have hr := runsOf_take l j hj
  have hp := hr.pos r h
  refine ⟨hp, ?_⟩
  obtain ⟨a, b, e⟩ := List.append_of_mem h
  have h1 := congrArg List.length hr.ex
  rw [e, expand_app, List.length_take] at h1
  simp only [expand, List.flatMap_cons, List.length_append, List.length_replicate] at h1
  omega
theorem runs_len_take {l : List V} {j : Nat} (hj : j ≤ l.length) : (runs (l.take j)).length ≤ j := by
  have := (runsOf_take l j hj).len
  rw [List.length_take] at this
  omega
/-- Behind at least one value: the last run's value is the last value. -/
theorem runs_split {l : List V} {j : Nat} {y : V} (h : l[j]? = some y) : ∃ p r, runs (l.take (j + 1)) = p ++ [r] ∧ r.v = y := by
  have hj := (List.getElem?_eq_some_iff.1 h).1
  have hr := (runsOf_take l (j + 1) (by omega)).last
  rw [take_of_get h, List.getLast?_append] at hr
  rcases List.eq_nil_or_concat (runs (l.take j ++ [y])) with e | ⟨p, r, e⟩
  · rw [e] at hr; simp at hr
  · rw [List.concat_eq_append] at e
    rw [e] at hr
    refine ⟨p, r, by rw [take_of_get h, e], ?_⟩
    simpa using hr
end Go.Lb
