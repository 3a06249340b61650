/- The laws' arguments opened: rows, slots, lists of them. -/
import Derived.Test.YtjogkbkkcaljhaaGreatDoorOpenV
import Derived.Test.YtjogkbkkcaljhaaGreatDoorXA
namespace Go.Proofs.YtjogkbkkcaljhaaGreatDoor
open Go.RowKit Go.ChangeShapes Go.WideShapes Go.Deep Go.Lb

section
variable {H : Type} {enc : TypeId × Value → H} {w : World} {base : Nat} {spare : Nat → Bool} {held : Bool} {n : Nat} {cs : List Value} {x : DataW H × List MemPlace}
def ElR (w : World) (base : Nat) (r : R) (cs : List Value) : Prop := ∃ sv, cs = [.int .i64 r.id, sv] ∧ RdV w base w.heap.size sv r.l ∧ ∀ v ∈ r.l, v.s.size ≤ maxLen
theorem rdG_R {base : Nat} {w : World} {v : Value} {l : List R} (h : RdG base w.heap.size 2 v l.length fun k b o => ∃ a cs, l[k]? = some a ∧ ElR w base a cs ∧ ∀ j u, cs[j]? = some u → w.cell? ⟨b, o + j, none⟩ = some u) : RdR w base w.heap.size v l ∧ RsOk l := by
  refine ⟨h.imp (Nat.le_refl _) (Nat.le_refl _) fun k b o _ _ ⟨a, cs, ha, ⟨sv, hcs, hr, _⟩, hc⟩ => ⟨a, sv, ha, ?_, ?_, hr⟩, fun r hr v hv => ?_⟩
  · subst hcs; exact hc 0 _ rfl
  · subst hcs; exact hc 1 _ rfl
  · obtain ⟨k, hk, e⟩ := List.getElem_of_mem hr
    obtain ⟨A, c, -, -, -, h4⟩ := h
    obtain ⟨b, off, -, -, -, a, cs, ha, ⟨sv, -, -, hs⟩, -⟩ := h4 k hk
    rw [List.getElem?_eq_getElem hk, e] at ha
    injection ha with ha
    subst ha
    exact hs v hv
set_option maxRecDepth 20000 in
theorem open_Is {v : Value} {d : DataW H} {p : List MemPlace} {r : Reach} (hv : Value.okWide Tryz.prog w r base 22 v) (h : DataW.Trod enc Tryz.prog w 0 spare held 22 v d p) : ∃ l : List Int, RdI w 0 w.heap.size v l := by
  have hC : Tryz.prog.cellsOf 3 = 1 := by kernel_rfl
  obtain ⟨a, len, cap, rfl⟩ := okWide_slice Tryz.underlying22 hv
  obtain ⟨fuel, hf⟩ := h
  obtain ⟨l, hl⟩ := @open_list H enc Tryz.prog w 0 spare held Int 22 3 1 (fun a cs => cs = [.int .i64 a]) Tryz.underlying22 hC (by omega) (fun h => by
    obtain ⟨a, e0, -, -⟩ := DataW.trod_int Tryz.underlying3 h
    exact ⟨a, e0⟩) _ _ _ hf
  refine ⟨l, hl.imp (Nat.le_refl _) (Nat.le_refl _) fun k b o _ _ ⟨a, cs, ha, hcs, hc⟩ => ⟨a, ha, ?_⟩⟩
  subst hcs
  exact hc 0 _ rfl
end
end Go.Proofs.YtjogkbkkcaljhaaGreatDoor
