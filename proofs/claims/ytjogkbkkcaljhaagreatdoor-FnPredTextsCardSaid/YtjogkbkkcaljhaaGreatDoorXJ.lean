/- A block that is not among the blocks of a list of rows. No conditions; nothing here speaks of the program. -/
import Derived.Test.YtjogkbkkcaljhaaGreatDoorXA
import Derived.Test.YtjogkbkkcaljhaaGreatDoorS27
import Derived.Test.YtjogkbkkcaljhaaGreatDoorRT
import Derived.Deep.RegionHeld3
namespace Go.Lb
open Go.RowKit
section
variable {eR eV : TypeId} {w w' : World} {lo hi X : Nat} {v : Value} {ps : List (R × Value)}
/-- A block that is not among the rows' own. -/
def Far (X : Nat) (v : Value) (ps : List (R × Value)) : Prop := v.ownBlock ≠ some X ∧ ∀ p ∈ ps, p.2.ownBlock ≠ some X
theorem OwnRp.far (h : OwnRp eR eV w lo hi v ps) (hX : Far X v ps) (hs : ∀ g, g ≠ X → w'.heap[g]? = w.heap[g]?) : OwnRp eR eV w' lo hi v ps :=
  ⟨owns_same h.out fun g hg => hs g (fun e => hX.1 (by rw [hg, e])), h.outIn, fun p hp => ⟨owns_same (h.inn p hp).1 fun g hg => hs g (fun e => hX.2 p hp (by rw [hg, e])), (h.inn p hp).2⟩, h.apart⟩
theorem Far.snoc {v' sv : Value} {x : R} (h : Far X v ps) (h1 : ∀ g, v'.ownBlock = some g → v.ownBlock = some g ∨ X < g) (h2 : ∀ g, sv.ownBlock = some g → X < g) : Far X v' (ps ++ [(x, sv)]) := by
  refine ⟨fun e => ?_, fun p hp => ?_⟩
  · rcases h1 X e with h3 | h3
    · exact h.1 h3
    · omega
  · rcases List.mem_append.1 hp with hp | hp
    · exact h.2 p hp
    · simp only [List.mem_singleton] at hp
      subst hp
      intro e
      have := h2 X e
      omega
end
end Go.Lb
namespace Go.Proofs.YtjogkbkkcaljhaaGreatDoor
open Go.Sort Go.ChangeShapes Go.WideShapes Go.ChangeAt Go.RowKit Go.Lb
def cutL (q : List Int) (r : R) : List V := q.filterMap fun k => colAt k r
theorem cut_step {q : List Int} {r : R} {i : Nat} {k : Int} (h : q[i]? = some k) : (q.take (i + 1)).filterMap (fun k => colAt k r) = (q.take i).filterMap (fun k => colAt k r) ++ (colAt k r).toList := by
  rw [take_of_get h, List.filterMap_append]
  cases hc : colAt k r <;> simp [hc]
theorem cutL_len (q : List Int) (r : R) : (cutL q r).length ≤ q.length := List.length_filterMap_le _ _
theorem set_keep47 {w : World} {g b o : Nat} {u : Value} (h : g ≠ b) : (w.setCell ⟨b, o, none⟩ u).heap[g]? = w.heap[g]? := Below.heap_setCell w ⟨b, o, none⟩ u g h
theorem below_set47 {B : Nat} {w w' : World} {b o : Nat} {u : Value} (h : Below B w w') (hb : B ≤ b) : Below B w (w'.setCell ⟨b, o, none⟩ u) := Below.setCell h hb u
theorem alloc_old47 {w : World} {o x : Obj} {k : Nat} (h : w.heap[k]? = some x) : (w.alloc o).heap[k]? = some x := ((up_a1 w o).block k (Array.getElem?_eq_some_iff.1 h).1).trans h
theorem heap_new47 {w : World} {o : Obj} {n : Nat} (h : w.heap.size = n) : (w.alloc o).heap[n]? = some o := h ▸ heap_alloc_new w o
end Go.Proofs.YtjogkbkkcaljhaaGreatDoor
namespace Go.Lb
open Go.RowKit
section
variable {w w' w1 : World} {lo hi base e s n k : Nat} {v v' v2 : Value} {xs : List Value} {eR eV : TypeId} {ps qs : List (R × Value)}
/-- The cells of a row of the call's own, as a spread append asks for them. -/
theorem Own.news {A : Option Addr} {c : Nat} (h : Own e s w lo hi (.slice A n c) n xs) : xs.length = n * s ∧ (A = none → n = 0) ∧ ∀ ad, A = some ad → ∀ j u, xs[j]? = some u → w.cell? (ad.add j) = some u := by
  refine ⟨h.1.1, fun hA => ?_, fun ad had j u hj => ?_⟩
  · rcases h.1.2 with ⟨-, h0⟩ | ⟨g, cap, cur, e1, -⟩
    · exact h0
    · injection e1 with e1
      rw [hA] at e1; cases e1
  · rcases h.1.2 with ⟨-, h0⟩ | ⟨g, cap, cur, e1, hb, hg, hnc, hcm, hsz, htk⟩
    · have h1 := h.1.1
      rw [h0, Nat.zero_mul] at h1
      rw [List.eq_nil_of_length_eq_zero h1] at hj
      cases hj
    · injection e1 with e1 e2 e3
      rw [had] at e1
      injection e1 with e1
      subst e1
      rw [add_plain, Nat.zero_add, cell_of_row w g j cur _ _ hg, ← Array.getElem?_toList]
      rw [← htk, List.getElem?_take] at hj
      split at hj
      · exact hj
      · cases hj
theorem OwnV.one {p : R × Value} (h : OwnV eV w p) : p.2.oneCell' = true := by
  rcases h.2 with ⟨e1, -⟩ | ⟨g, cap, cur, e1, -⟩ <;> rw [e1] <;> rfl
theorem OwnRp.one (h : OwnRp eR eV w lo hi v ps) : ∀ u ∈ ps.flatMap rcell, u.oneCell' = true := fun u hu => by
  obtain ⟨p, hp, h1⟩ := List.mem_flatMap.1 hu
  simp only [rcell, List.mem_cons, List.not_mem_nil, or_false] at h1
  rcases h1 with rfl | rfl
  · rfl
  · exact (h.inn p hp).1.one
/-- The rows of the second list behind those of the first. w: ahead of the second; w1: behind it; w': behind the append. -/
theorem OwnRp.join (h : OwnRp eR eV w lo w.heap.size v ps) (hb : Below w.heap.size w w1) (hlo : lo ≤ w.heap.size) (h2 : OwnRp eR eV w1 w.heap.size w1.heap.size v2 qs)
    (hout : w'.ownsRow base eR 2 v' (ps.length + qs.length) (ps.flatMap rcell ++ qs.flatMap rcell)) (hg : w1.grownBy w' v.ownBlock)
    (hv : ∀ g, v'.ownBlock = some g → v.ownBlock = some g ∨ w1.heap.size ≤ g) : OwnRp eR eV w' lo w'.heap.size v' (ps ++ qs) := by
  have s1 := hb.size
  have s2 := hg.size
  have hvi : InR lo w'.heap.size v'.ownBlock := fun g hg' => by
    refine ⟨?_, (hout.lt g hg').2⟩
    rcases hv g hg' with h1 | h1
    · exact (h.outIn g h1).1
    · omega
  have keep : ∀ g, g < w1.heap.size → v.ownBlock ≠ some g → w'.heap[g]? = w1.heap[g]? := fun g h1 h2 => hg.block g h1 (fun e => h2 e.symm)
  have hold : ∀ p ∈ ps, OwnV eV w' p ∧ InR lo w'.heap.size p.2.ownBlock ∧ Dis v'.ownBlock p.2.ownBlock := fun p hp => by
    obtain ⟨i1, i2, i3⟩ := h.inn p hp
    refine ⟨owns_same i1 fun g hg' => ?_, fun g hg' => by have := i2 g hg'; omega, fun g h1 h2 => ?_⟩
    · have := i2 g hg'
      exact (keep g (by omega) (fun e => i3 g e hg')).trans (hb.block g (by omega))
    · have := i2 g h2
      rcases hv g h1 with h3 | h3
      · exact i3 g h3 h2
      · omega
  have hnew : ∀ q ∈ qs, OwnV eV w' q ∧ InR w.heap.size w1.heap.size q.2.ownBlock ∧ Dis v'.ownBlock q.2.ownBlock := fun q hq => by
    obtain ⟨i1, i2, -⟩ := h2.inn q hq
    refine ⟨owns_same i1 fun g hg' => keep g (by have := i2 g hg'; omega) (fun e => by have := h.outIn g e; have := i2 g hg'; omega), i2, fun g h1 h4 => ?_⟩
    have := i2 g h4
    rcases hv g h1 with h3 | h3
    · have := h.outIn g h3; omega
    · omega
  refine ⟨by rw [List.length_append, List.flatMap_append]; exact owns_zero hout, hvi, fun p hp => ?_, ?_⟩
  · rcases List.mem_append.1 hp with hp | hp
    · exact hold p hp
    · obtain ⟨a1, a2, a3⟩ := hnew p hp
      exact ⟨a1, fun g hg' => by have := a2 g hg'; omega, a3⟩
  · rw [List.pairwise_append]
    refine ⟨h.apart, h2.apart, fun p hp q hq g h3 h4 => ?_⟩
    have := (h.inn p hp).2.1 g h3
    have := (hnew q hq).2.1 g h4
    omega
theorem pl_of {ps : List (R × Value)} {l : List R} {k : Nat} (h : ps.map Prod.fst = l.take k) (hk : k ≤ l.length) : ps.length = k := by
  have h1 := congrArg List.length h
  simp at h1
  omega
theorem pl_drop {ps : List (R × Value)} {l : List R} {k : Nat} (h : ps.map Prod.fst = l.drop k) : ps.length = l.length - k := by
  have h1 := congrArg List.length h
  simp at h1
  omega
theorem RdR.take {A : Option Addr} {c : Nat} {l : List R} (h : RdR w lo hi (.slice A n c) l) (hk : k ≤ l.length) : RdR w lo hi (.slice A k c) (l.take k) := by
  obtain ⟨A', c', e1, hn, hc, hE⟩ := h
  injection e1 with e1 e2 e3
  subst e1 e3
  refine ⟨A, c, by rw [List.length_take, Nat.min_eq_left hk], by rw [List.length_take]; omega, hc, fun i hi' => ?_⟩
  rw [List.length_take] at hi'
  obtain ⟨b, off, ha, hl, hh, x, sv, hx, hr⟩ := hE i (by omega)
  exact ⟨b, off, ha, hl, hh, x, sv, by rw [List.getElem?_take, if_pos (by omega)]; exact hx, hr⟩
theorem RdR.drop {b off c : Nat} {l : List R} (h : RdR w lo hi (.slice (some ⟨b, off, none⟩) n c) l) (hk : k ≤ l.length) : RdR w lo hi (.slice (some ⟨b, off + k * 2, none⟩) (l.length - k) (c - k)) (l.drop k) := by
  obtain ⟨A', c', e1, hn, hc, hE⟩ := h
  injection e1 with e1 e2 e3
  subst e1 e3
  refine ⟨some ⟨b, off + k * 2, none⟩, c - k, by rw [List.length_drop], by rw [List.length_drop]; omega, by omega, fun i hi' => ?_⟩
  rw [List.length_drop] at hi'
  obtain ⟨b', off', ha, hl, hh, x, sv, hx, h0, h1, hr⟩ := hE (k + i) (by omega)
  injection ha with ha
  injection ha with ha1 ha2
  subst ha1 ha2
  have ho : off + k * 2 + i * 2 = off + (k + i) * 2 := by omega
  exact ⟨b, off + k * 2, rfl, hl, hh, x, sv, by rw [List.getElem?_drop]; exact hx, by rw [ho]; exact h0, by rw [ho]; exact h1, hr⟩
theorem RdR.none {c : Nat} : c ≤ maxLen → RdR w lo hi (.slice .none 0 c) [] := fun hc => ⟨_, c, rfl, Nat.zero_le _, hc, fun _ hk => absurd hk (Nat.not_lt_zero _)⟩
end
end Go.Lb
namespace Go.Lb
open Go.RowKit
section
variable {w w' w1 : World} {lo hi h1 l2 h2 X : Nat} {v v' v2 : Value} {eR eV : TypeId} {ps qs : List (R × Value)}
/-- Both lists stand in one world; what is written lies in the first list's own row or behind all. -/
theorem OwnRp.join2 (h : OwnRp eR eV w1 lo h1 v ps) (h12 : h1 ≤ l2) (hl : lo ≤ l2) (g2 : OwnRp eR eV w1 l2 h2 v2 qs) (hh1 : h1 ≤ w1.heap.size) (hh : h2 ≤ w1.heap.size)
    (hout : w'.ownsRow 0 eR 2 v' (ps.length + qs.length) (ps.flatMap rcell ++ qs.flatMap rcell)) (hg : w1.grownBy w' v.ownBlock)
    (hv : ∀ g, v'.ownBlock = some g → v.ownBlock = some g ∨ w1.heap.size ≤ g) (hlo : lo ≤ w1.heap.size) :
    OwnRp eR eV w' lo w'.heap.size v' (ps ++ qs) ∧ ∀ X, X < w1.heap.size → (lo ≤ X → h1 ≤ X) → (l2 ≤ X → h2 ≤ X) → Far X v' (ps ++ qs) := by
  have s2 := hg.size
  have keep : ∀ g, g < w1.heap.size → v.ownBlock ≠ some g → w'.heap[g]? = w1.heap[g]? := fun g h1 h2 => hg.block g h1 (fun e => h2 e.symm)
  have hold : ∀ p ∈ ps, OwnV eV w' p ∧ InR lo h1 p.2.ownBlock ∧ Dis v'.ownBlock p.2.ownBlock := fun p hp => by
    obtain ⟨i1, i2, i3⟩ := h.inn p hp
    refine ⟨owns_same i1 fun g hg' => ?_, i2, fun g k1 k2 => ?_⟩
    · have := i2 g hg'
      exact keep g (by omega) (fun e => i3 g e hg')
    · have := i2 g k2
      rcases hv g k1 with h3 | h3
      · exact i3 g h3 k2
      · omega
  have hnew : ∀ q ∈ qs, OwnV eV w' q ∧ InR l2 h2 q.2.ownBlock ∧ Dis v'.ownBlock q.2.ownBlock := fun q hq => by
    obtain ⟨i1, i2, -⟩ := g2.inn q hq
    refine ⟨owns_same i1 fun g hg' => keep g (by have := i2 g hg'; omega) (fun e => by have := h.outIn g e; have := i2 g hg'; omega), i2, fun g k1 h4 => ?_⟩
    have := i2 g h4
    rcases hv g k1 with h3 | h3
    · have := h.outIn g h3; omega
    · omega
  refine ⟨⟨by rw [List.length_append, List.flatMap_append]; exact hout, fun g hg' => ⟨?_, (hout.lt g hg').2⟩, fun p hp => ?_, ?_⟩, fun X hX hX1 hX2 => ⟨fun e => ?_, fun p hp e => ?_⟩⟩
  · rcases hv g hg' with k | k
    · exact (h.outIn g k).1
    · omega
  · rcases List.mem_append.1 hp with hp | hp
    · obtain ⟨a1, a2, a3⟩ := hold p hp
      exact ⟨a1, fun g hg' => by have := a2 g hg'; omega, a3⟩
    · obtain ⟨a1, a2, a3⟩ := hnew p hp
      exact ⟨a1, fun g hg' => by have := a2 g hg'; omega, a3⟩
  · rw [List.pairwise_append]
    refine ⟨h.apart, g2.apart, fun p hp q hq g h3 h4 => ?_⟩
    have := (h.inn p hp).2.1 g h3
    have := (hnew q hq).2.1 g h4
    omega
  · rcases hv X e with k | k
    · have := h.outIn X k
      omega
    · omega
  · rcases List.mem_append.1 hp with hp | hp
    · have := (hold p hp).2.1 X e
      omega
    · have := (hnew p hp).2.1 X e
      omega
theorem OwnRp.keepFar (h : OwnRp eR eV w lo w.heap.size v ps) (hX : Far X v ps) (hc : Chg X (X + 1) w w') : OwnRp eR eV w' lo w'.heap.size v ps := by
  have hs := hc.size
  have hb : ∀ g, g < w.heap.size → g ≠ X → w'.heap[g]? = w.heap[g]? := fun g h1 h2 => hc.block g h1 (by omega)
  exact ⟨owns_same h.out fun g hg => hb g (h.outIn g hg).2 (fun e => hX.1 (by rw [hg, e])), fun g hg => by have := h.outIn g hg; omega,
    fun p hp => ⟨owns_same (h.inn p hp).1 fun g hg => hb g ((h.inn p hp).2.1 g hg).2 (fun e => hX.2 p hp (by rw [hg, e])), fun g hg => by have := (h.inn p hp).2.1 g hg; omega, (h.inn p hp).2.2⟩, h.apart⟩
theorem far_behind (h : OwnRp eR eV w lo hi v ps) (hX : hi ≤ X) : Far X v ps :=
  ⟨fun e => by have := h.outIn X e; omega, fun p hp e => by have := (h.inn p hp).2.1 X e; omega⟩
theorem far_ahead (h : OwnRp eR eV w lo hi v ps) (hX : X < lo) : Far X v ps :=
  ⟨fun e => by have := h.outIn X e; omega, fun p hp e => by have := (h.inn p hp).2.1 X e; omega⟩
theorem chg_set (w : World) (X o : Nat) (u : Value) : Chg X (X + 1) w (w.setCell ⟨X, o, none⟩ u) := ⟨rfl, rfl, rfl, by simp [World.setCell], fun k hk hne => Below.heap_setCell w ⟨X, o, none⟩ _ k (by show k ≠ X; omega)⟩
theorem set_six {c0 c1 c2 c3 c4 c5 v0 v1 v2 v3 v4 v5 : Value} {e : TypeId} (h : w.heap[X]? = some (.cells #[c0, c1, c2, c3, c4, c5] e)) :
    ((((((w.setCell ⟨X, 0, none⟩ v0).setCell ⟨X, 1, none⟩ v1).setCell ⟨X, 2, none⟩ v2).setCell ⟨X, 3, none⟩ v3).setCell ⟨X, 4, none⟩ v4).setCell ⟨X, 5, none⟩ v5).heap[X]? = some (.cells #[v0, v1, v2, v3, v4, v5] e) := by
  have h1 := set1 (o := 5) (a := v5) (set1 (o := 4) (a := v4) (set1 (o := 3) (a := v3) (set1 (o := 2) (a := v2) (set1 (o := 1) (a := v1) (set1 (o := 0) (a := v0) h)))))
  simpa only [List.setIfInBounds_toArray, List.set_cons_succ, List.set_cons_zero] using h1
theorem set_three {c0 c1 c2 c3 c4 c5 v3 v4 v5 : Value} {e : TypeId} (h : w.heap[X]? = some (.cells #[c0, c1, c2, c3, c4, c5] e)) :
    (((w.setCell ⟨X, 3, none⟩ v3).setCell ⟨X, 4, none⟩ v4).setCell ⟨X, 5, none⟩ v5).heap[X]? = some (.cells #[c0, c1, c2, v3, v4, v5] e) := by
  have h1 := set1 (o := 5) (a := v5) (set1 (o := 4) (a := v4) (set1 (o := 3) (a := v3) h))
  simpa only [List.setIfInBounds_toArray, List.set_cons_succ, List.set_cons_zero] using h1
theorem set_two {c0 c1 c2 c3 c4 c5 v2 : Value} {e : TypeId} (h : w.heap[X]? = some (.cells #[c0, c1, c2, c3, c4, c5] e)) :
    (w.setCell ⟨X, 2, none⟩ v2).heap[X]? = some (.cells #[c0, c1, v2, c3, c4, c5] e) := by
  have h1 := set1 (o := 2) (a := v2) h
  simpa only [List.setIfInBounds_toArray, List.set_cons_succ, List.set_cons_zero] using h1
end
end Go.Lb
