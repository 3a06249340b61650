/- A block that is not among the blocks of a list of rows. No conditions; nothing here speaks of the program. -/
import Derived.Test.YticimccfeohpcaaGreatXA
namespace Go.Lb
open Go.RowKit
section
variable {eR eV : TypeId} {w w' : World} {lo hi X : Nat} {v : Value} {ps : List (R × Value)}
/-- A block that is not among the rows' own. -/
def Far (X : Nat) (v : Value) (ps : List (R × Value)) : Prop := v.ownBlock ≠ some X ∧ ∀ p ∈ ps, p.2.ownBlock ≠ some X
theorem OwnRp.far (h : OwnRp eR eV w lo hi v ps) (hX : Far X v ps) (hs : ∀ g, g ≠ X → w'.heap[g]? = w.heap[g]?) : OwnRp eR eV w' lo hi v ps :=
  ⟨owns_same h.out fun g hg => hs g (fun e => hX.1 (by rw [hg, e])), h.outIn, fun p hp => ⟨owns_same (h.inn p hp).1 fun g hg => hs g (fun e => hX.2 p hp (by rw [hg, e])), (h.inn p hp).2⟩, h.apart⟩
theorem Far.snoc {v' sv : Value} {x : R} (h : Far X v ps) (h1 : ∀ g, v'.ownBlock = some g → v.ownBlock = some g ∨ X < g) (h2 : ∀ g, sv.ownBlock = some g → X < g) : Far X v' (ps ++ [(x, sv)]) := by
  refine ⟨fun e => ?_, fun p hp => ?_⟩
  · rcases h1 X e with h3 | h3
    · exact h.1 h3
    · omega
  · rcases List.mem_append.1 hp with hp | hp
    · exact h.2 p hp
    · simp only [List.mem_singleton] at hp
      subst hp
      intro e
      have := h2 X e
      omega
end
end Go.Lb
