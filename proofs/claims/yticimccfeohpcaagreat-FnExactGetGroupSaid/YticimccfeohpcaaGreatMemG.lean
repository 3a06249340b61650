/- A list of rows of the call's own: the values of one of them grow. No conditions; nothing here speaks of the program. -/
import Derived.Test.YticimccfeohpcaaGreatXA
import Derived.Test.YticimccfeohpcaaGreatMemU
namespace Go.Lb
open Go.RowKit
section
variable {w w1 : World} {lo : Nat} {eR eV : TypeId}
theorem rcell_set (ps1 ps2 : List (R × Value)) (x x' : R) (sv sv' : Value) (hx : x'.id = x.id) : ((ps1 ++ (x, sv) :: ps2).flatMap rcell).set (ps1.length * 2 + 1) sv' = (ps1 ++ (x', sv') :: ps2).flatMap rcell := by
  have hl : (ps1.flatMap rcell).length = ps1.length * 2 := flat_len rcell 2 rcell_len ps1
  rw [List.flatMap_append, List.flatMap_append, List.set_append_right _ _ (by omega), hl, show ps1.length * 2 + 1 - ps1.length * 2 = 1 by omega]
  simp [rcell, hx]
/-- Row k's values have grown (in place, or in a new block), and its slice is laid back. -/
theorem OwnRp.setSl {ps1 ps2 : List (R × Value)} {x x' : R} {sv sv' : Value} {g N c : Nat} (h : OwnRp eR eV w lo w.heap.size (.slice (some ⟨g, 0, none⟩) N c) (ps1 ++ (x, sv) :: ps2)) (hN : (ps1 ++ (x, sv) :: ps2).length = N)
    (hx : x'.id = x.id) (hin : w1.ownsRow 0 eV 3 sv' x'.l.length (x'.l.flatMap V.cells)) (hg : w.grownBy w1 sv.ownBlock) (hv : ∀ b, sv'.ownBlock = some b → sv.ownBlock = some b ∨ w.heap.size ≤ b) :
    OwnRp eR eV (w1.setCell ⟨g, ps1.length * 2 + 1, none⟩ sv') lo (w1.setCell ⟨g, ps1.length * 2 + 1, none⟩ sv').heap.size (.slice (some ⟨g, 0, none⟩) N c) (ps1 ++ (x', sv') :: ps2) := by
  obtain ⟨ho, hvi, inn, hap⟩ := h
  have hs : (w1.setCell ⟨g, ps1.length * 2 + 1, none⟩ sv').heap.size = w1.heap.size := by simp [World.setCell]
  have hgs := hg.size
  have hgl := hvi g rfl
  have hxm := inn (x, sv) (by simp)
  have hgx : sv.ownBlock ≠ some g := hxm.2.2 g rfl
  have hgg : w1.heap[g]? = w.heap[g]? := hg.block g hgl.2 (fun e => hgx e.symm)
  have hap0 := hap
  rw [List.pairwise_append, List.pairwise_cons] at hap0
  have keep : ∀ b, b < w.heap.size → sv.ownBlock ≠ some b → b ≠ g → (w1.setCell ⟨g, ps1.length * 2 + 1, none⟩ sv').heap[b]? = w.heap[b]? := fun b h1 h2 h3 =>
    (Below.heap_setCell w1 ⟨g, ps1.length * 2 + 1, none⟩ sv' b (by show b ≠ g; exact h3)).trans (hg.block b h1 (fun e => h2 e.symm))
  have hnew : ∀ b, sv'.ownBlock = some b → b ≠ g := fun b hb e => by
    rcases hv b hb with h1 | h1
    · exact hgx (e ▸ h1)
    · omega
  have hout : (w1.setCell ⟨g, ps1.length * 2 + 1, none⟩ sv').ownsRow 0 eR 2 (.slice (some ⟨g, 0, none⟩) N c) N ((ps1 ++ (x', sv') :: ps2).flatMap rcell) := by
    rw [← rcell_set ps1 ps2 x x' sv sv' hx]
    refine owns_putS ?_
    have h1 := owns_same (w' := w1) ho (fun b hb => by
      have e : b = g := by
        injection hb with hb
        exact hb.symm
      rw [e]
      exact hgg)
    rw [hN] at h1
    exact h1
  have hold : ∀ p ∈ ps1 ++ ps2, OwnV eV (w1.setCell ⟨g, ps1.length * 2 + 1, none⟩ sv') p ∧ InR lo (w1.setCell ⟨g, ps1.length * 2 + 1, none⟩ sv').heap.size p.2.ownBlock ∧ Dis (Value.slice (some ⟨g, 0, none⟩) N c).ownBlock p.2.ownBlock := fun p hp => by
    have hm : p ∈ ps1 ++ (x, sv) :: ps2 := by rcases List.mem_append.1 hp with h | h <;> simp [h]
    obtain ⟨i1, i2, i3⟩ := inn p hm
    have hd : ∀ b, p.2.ownBlock = some b → sv.ownBlock ≠ some b := fun b hb e => by
      rcases List.mem_append.1 hp with h | h
      · exact hap0.2.2 p h (x, sv) (by simp) b hb e
      · exact hap0.2.1.1 p h b e hb
    refine ⟨owns_same i1 fun b hb => keep b (i2 b hb).2 (hd b hb) (fun e => i3 g rfl (e ▸ hb)), fun b hb => ?_, i3⟩
    have := i2 b hb
    rw [hs]
    omega
  refine ⟨?_, fun b hb => ?_, fun p hp => ?_, ?_⟩
  · rw [show (ps1 ++ (x', sv') :: ps2).length = N by rw [← hN]; simp]
    exact hout
  · have := hvi b hb
    rw [hs]
    omega
  · rcases List.mem_append.1 hp with h1 | h1
    · exact hold p (by simp [h1])
    · rcases List.mem_cons.1 h1 with h1 | h1
      · subst h1
        refine ⟨owns_same hin fun b hb => Below.heap_setCell w1 ⟨g, ps1.length * 2 + 1, none⟩ sv' b (by show b ≠ g; exact hnew b hb), fun b hb => ?_, fun b h2 h3 => ?_⟩
        · have h4 := (hin.lt b hb).2
          rw [hs]
          rcases hv b hb with h5 | h5
          · have := hxm.2.1 b h5
            omega
          · omega
        · injection h2 with h2
          exact hnew b h3 h2.symm
      · exact hold p (by simp [h1])
  · rw [List.pairwise_append, List.pairwise_cons]
    have far : ∀ p ∈ ps1 ++ ps2, ∀ b, p.2.ownBlock = some b → sv'.ownBlock ≠ some b := fun p hp b hb e => by
      have hm : p ∈ ps1 ++ (x, sv) :: ps2 := by rcases List.mem_append.1 hp with h | h <;> simp [h]
      have i2 := (inn p hm).2.1 b hb
      rcases hv b e with h1 | h1
      · rcases List.mem_append.1 hp with h | h
        · exact hap0.2.2 p h (x, sv) (by simp) b hb h1
        · exact hap0.2.1.1 p h b h1 hb
      · omega
    refine ⟨hap0.1, ⟨fun p hp b h1 h2 => far p (by simp [hp]) b h2 h1, hap0.2.1.2⟩, fun p hp q hq => ?_⟩
    rcases List.mem_cons.1 hq with h1 | h1
    · subst h1
      exact fun b hb e => far p (by simp [hp]) b hb e
    · exact hap0.2.2 p hp q (by simp [h1])
end
end Go.Lb
