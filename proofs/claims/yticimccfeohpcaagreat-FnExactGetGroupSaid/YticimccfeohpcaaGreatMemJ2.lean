/- Two lists of rows of the call's own, joined with a block laid in between; stores into a struct of six cells. No conditions; nothing here speaks of the program. -/
import Derived.Test.YticimccfeohpcaaGreatMemJ
import Derived.Test.YticimccfeohpcaaGreatMemF
import Derived.Test.YticimccfeohpcaaGreatXN
import Derived.Deep.RegionHeld3
namespace Go.Lb
open Go.RowKit
section
variable {w w' w1 : World} {lo hi h1 l2 h2 X : Nat} {v v' v2 : Value} {eR eV : TypeId} {ps qs : List (R × Value)}
/-- Both lists stand in one world; what is written lies in the first list's own row or behind all. -/
theorem OwnRp.join2 (h : OwnRp eR eV w1 lo h1 v ps) (h12 : h1 ≤ l2) (hl : lo ≤ l2) (g2 : OwnRp eR eV w1 l2 h2 v2 qs) (hh1 : h1 ≤ w1.heap.size) (hh : h2 ≤ w1.heap.size)
    (hout : w'.ownsRow 0 eR 2 v' (ps.length + qs.length) (ps.flatMap rcell ++ qs.flatMap rcell)) (hg : w1.grownBy w' v.ownBlock)
    (hv : ∀ g, v'.ownBlock = some g → v.ownBlock = some g ∨ w1.heap.size ≤ g) (hlo : lo ≤ w1.heap.size) :
    OwnRp eR eV w' lo w'.heap.size v' (ps ++ qs) ∧ ∀ X, X < w1.heap.size → (lo ≤ X → h1 ≤ X) → (l2 ≤ X → h2 ≤ X) → Far X v' (ps ++ qs) := by
  have s2 := hg.size
  have keep : ∀ g, g < w1.heap.size → v.ownBlock ≠ some g → w'.heap[g]? = w1.heap[g]? := fun g h1 h2 => hg.block g h1 (fun e => h2 e.symm)
  have hold : ∀ p ∈ ps, OwnV eV w' p ∧ InR lo h1 p.2.ownBlock ∧ Dis v'.ownBlock p.2.ownBlock := fun p hp => by
    obtain ⟨i1, i2, i3⟩ := h.inn p hp
    refine ⟨owns_same i1 fun g hg' => ?_, i2, fun g k1 k2 => ?_⟩
    · have := i2 g hg'
      exact keep g (by omega) (fun e => i3 g e hg')
    · have := i2 g k2
      rcases hv g k1 with h3 | h3
      · exact i3 g h3 k2
      · omega
  have hnew : ∀ q ∈ qs, OwnV eV w' q ∧ InR l2 h2 q.2.ownBlock ∧ Dis v'.ownBlock q.2.ownBlock := fun q hq => by
    obtain ⟨i1, i2, -⟩ := g2.inn q hq
    refine ⟨owns_same i1 fun g hg' => keep g (by have := i2 g hg'; omega) (fun e => by have := h.outIn g e; have := i2 g hg'; omega), i2, fun g k1 h4 => ?_⟩
    have := i2 g h4
    rcases hv g k1 with h3 | h3
    · have := h.outIn g h3; omega
    · omega
  refine ⟨⟨by rw [List.length_append, List.flatMap_append]; exact hout, fun g hg' => ⟨?_, (hout.lt g hg').2⟩, fun p hp => ?_, ?_⟩, fun X hX hX1 hX2 => ⟨fun e => ?_, fun p hp e => ?_⟩⟩
  · rcases hv g hg' with k | k
    · exact (h.outIn g k).1
    · omega
  · rcases List.mem_append.1 hp with hp | hp
    · obtain ⟨a1, a2, a3⟩ := hold p hp
      exact ⟨a1, fun g hg' => by have := a2 g hg'; omega, a3⟩
    · obtain ⟨a1, a2, a3⟩ := hnew p hp
      exact ⟨a1, fun g hg' => by have := a2 g hg'; omega, a3⟩
  · rw [List.pairwise_append]
    refine ⟨h.apart, g2.apart, fun p hp q hq g h3 h4 => ?_⟩
    have := (h.inn p hp).2.1 g h3
    have := (hnew q hq).2.1 g h4
    omega
  · rcases hv X e with k | k
    · have := h.outIn X k
      omega
    · omega
  · rcases List.mem_append.1 hp with hp | hp
    · have := (hold p hp).2.1 X e
      omega
    · have := (hnew p hp).2.1 X e
      omega
theorem OwnRp.keepFar (h : OwnRp eR eV w lo w.heap.size v ps) (hX : Far X v ps) (hc : Chg X (X + 1) w w') : OwnRp eR eV w' lo w'.heap.size v ps := by
  have hs := hc.size
  have hb : ∀ g, g < w.heap.size → g ≠ X → w'.heap[g]? = w.heap[g]? := fun g h1 h2 => hc.block g h1 (by omega)
  exact ⟨owns_same h.out fun g hg => hb g (h.outIn g hg).2 (fun e => hX.1 (by rw [hg, e])), fun g hg => by have := h.outIn g hg; omega,
    fun p hp => ⟨owns_same (h.inn p hp).1 fun g hg => hb g ((h.inn p hp).2.1 g hg).2 (fun e => hX.2 p hp (by rw [hg, e])), fun g hg => by have := (h.inn p hp).2.1 g hg; omega, (h.inn p hp).2.2⟩, h.apart⟩
theorem far_behind (h : OwnRp eR eV w lo hi v ps) (hX : hi ≤ X) : Far X v ps :=
  ⟨fun e => by have := h.outIn X e; omega, fun p hp e => by have := (h.inn p hp).2.1 X e; omega⟩
theorem far_ahead (h : OwnRp eR eV w lo hi v ps) (hX : X < lo) : Far X v ps :=
  ⟨fun e => by have := h.outIn X e; omega, fun p hp e => by have := (h.inn p hp).2.1 X e; omega⟩
theorem chg_set (w : World) (X o : Nat) (u : Value) : Chg X (X + 1) w (w.setCell ⟨X, o, none⟩ u) := ⟨rfl, rfl, rfl, by simp [World.setCell], fun k hk hne => Below.heap_setCell w ⟨X, o, none⟩ _ k (by show k ≠ X; omega)⟩
theorem set_six {c0 c1 c2 c3 c4 c5 v0 v1 v2 v3 v4 v5 : Value} {e : TypeId} (h : w.heap[X]? = some (.cells #[c0, c1, c2, c3, c4, c5] e)) :
    ((((((w.setCell ⟨X, 0, none⟩ v0).setCell ⟨X, 1, none⟩ v1).setCell ⟨X, 2, none⟩ v2).setCell ⟨X, 3, none⟩ v3).setCell ⟨X, 4, none⟩ v4).setCell ⟨X, 5, none⟩ v5).heap[X]? = some (.cells #[v0, v1, v2, v3, v4, v5] e) := by
  have h1 := set1 (o := 5) (a := v5) (set1 (o := 4) (a := v4) (set1 (o := 3) (a := v3) (set1 (o := 2) (a := v2) (set1 (o := 1) (a := v1) (set1 (o := 0) (a := v0) h)))))
  simpa only [List.setIfInBounds_toArray, List.set_cons_succ, List.set_cons_zero] using h1
theorem set_three {c0 c1 c2 c3 c4 c5 v3 v4 v5 : Value} {e : TypeId} (h : w.heap[X]? = some (.cells #[c0, c1, c2, c3, c4, c5] e)) :
    (((w.setCell ⟨X, 3, none⟩ v3).setCell ⟨X, 4, none⟩ v4).setCell ⟨X, 5, none⟩ v5).heap[X]? = some (.cells #[c0, c1, c2, v3, v4, v5] e) := by
  have h1 := set1 (o := 5) (a := v5) (set1 (o := 4) (a := v4) (set1 (o := 3) (a := v3) h))
  simpa only [List.setIfInBounds_toArray, List.set_cons_succ, List.set_cons_zero] using h1
theorem set_two {c0 c1 c2 c3 c4 c5 v2 : Value} {e : TypeId} (h : w.heap[X]? = some (.cells #[c0, c1, c2, c3, c4, c5] e)) :
    (w.setCell ⟨X, 2, none⟩ v2).heap[X]? = some (.cells #[c0, c1, v2, c3, c4, c5] e) := by
  have h1 := set1 (o := 2) (a := v2) h
  simpa only [List.setIfInBounds_toArray, List.set_cons_succ, List.set_cons_zero] using h1
end
end Go.Lb
