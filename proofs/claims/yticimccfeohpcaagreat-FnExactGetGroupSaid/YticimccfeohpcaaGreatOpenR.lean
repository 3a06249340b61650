/- The laws' arguments opened: rows, slots, lists of them. -/
import Derived.Test.YticimccfeohpcaaGreatOpenV
import Derived.Test.YticimccfeohpcaaGreatXA
namespace Go.Proofs.YticimccfeohpcaaGreat
open Go.RowKit Go.ChangeShapes Go.WideShapes Go.Deep Go.Lb

section
variable {H : Type} {enc : TypeId × Value → H} {w : World} {base : Nat} {spare : Nat → Bool} {held : Bool} {n : Nat} {cs : List Value} {x : DataW H × List MemPlace}
def ElR (w : World) (base : Nat) (r : R) (cs : List Value) : Prop := ∃ sv, cs = [.int .i64 r.id, sv] ∧ RdV w base w.heap.size sv r.l ∧ ∀ v ∈ r.l, v.s.size ≤ maxLen
theorem rdG_R {base : Nat} {w : World} {v : Value} {l : List R} (h : RdG base w.heap.size 2 v l.length fun k b o => ∃ a cs, l[k]? = some a ∧ ElR w base a cs ∧ ∀ j u, cs[j]? = some u → w.cell? ⟨b, o + j, none⟩ = some u) : RdR w base w.heap.size v l ∧ RsOk l := by
  refine ⟨h.imp (Nat.le_refl _) (Nat.le_refl _) fun k b o _ _ ⟨a, cs, ha, ⟨sv, hcs, hr, _⟩, hc⟩ => ⟨a, sv, ha, ?_, ?_, hr⟩, fun r hr v hv => ?_⟩
  · subst hcs; exact hc 0 _ rfl
  · subst hcs; exact hc 1 _ rfl
  · obtain ⟨k, hk, e⟩ := List.getElem_of_mem hr
    obtain ⟨A, c, -, -, -, h4⟩ := h
    obtain ⟨b, off, -, -, -, a, cs, ha, ⟨sv, -, -, hs⟩, -⟩ := h4 k hk
    rw [List.getElem?_eq_getElem hk, e] at ha
    injection ha with ha
    subst ha
    exact hs v hv
set_option maxRecDepth 20000 in
theorem trod_Row (h : DataW.trod enc Tryz.prog w base spare held n 67 cs = some x) : ∃ r : R, ElR w base r cs := by
  obtain ⟨xs, m, -, -, hcl, hxl, hf⟩ := DataW.trod_struct Tryz.underlying67 h
  have h0 : DataW.trod enc Tryz.prog w base spare held m 3 ((cs.drop 0).take (Tryz.prog.cellsOf 3)) = xs[0]? := hf 0 _ rfl
  have h1 : DataW.trod enc Tryz.prog w base spare held m 65 ((cs.drop 1).take (Tryz.prog.cellsOf 65)) = xs[1]? := hf 1 _ rfl
  have hC : Tryz.prog.cellsOf 67 = 2 := by kernel_rfl
  have hI : Tryz.prog.cellsOf 3 = 1 := by kernel_rfl
  have hS : Tryz.prog.cellsOf 65 = 1 := by kernel_rfl
  rw [hC] at hcl
  have hxl2 : xs.length = 2 := hxl
  obtain ⟨c0, c1, rfl⟩ := len2 hcl
  obtain ⟨y0, y1, rfl⟩ := len2 hxl2
  simp only [hI, hS] at h0 h1
  obtain ⟨a, e0, -, -⟩ := DataW.trod_int Tryz.underlying3 h0
  obtain ⟨l, hl⟩ := trod_Vs h1
  simp at e0
  exact ⟨⟨a, l⟩, c1, by rw [e0], hl⟩
set_option maxRecDepth 20000 in
theorem open_Row {r : Reach} {v : Value} {d : DataW H} {p : List MemPlace} (hv : Value.okWide Tryz.prog w r base 67 v) (h : DataW.Trod enc Tryz.prog w 0 spare held 67 v d p) :
    ∃ (x : R) (sv : Value), v = .agg #[.int .i64 x.id, sv] ∧ RdV w 0 w.heap.size sv x.l ∧ ∀ v ∈ x.l, v.s.size ≤ maxLen := by
  obtain ⟨cs, rfl, -⟩ := okWide_struct Tryz.underlying67 hv
  obtain ⟨fuel, hf⟩ := h
  obtain ⟨x, sv, hx, hs⟩ := trod_Row hf
  refine ⟨x, sv, ?_, hs⟩
  obtain ⟨l⟩ := cs
  simp only [Value.cells] at hx
  rw [hx]
set_option maxRecDepth 20000 in
theorem open_Rs {v : Value} {d : DataW H} {p : List MemPlace} {r : Reach} (hv : Value.okWide Tryz.prog w r base 23 v) (h : DataW.Trod enc Tryz.prog w 0 spare held 23 v d p) : ∃ l : List R, RdR w 0 w.heap.size v l ∧ RsOk l := by
  have hC : Tryz.prog.cellsOf 67 = 2 := by kernel_rfl
  obtain ⟨a, len, cap, rfl⟩ := okWide_slice Tryz.underlying23 hv
  obtain ⟨fuel, hf⟩ := h
  obtain ⟨l, hl⟩ := @open_list H enc Tryz.prog w 0 spare held R 23 67 2 (ElR w 0) Tryz.underlying23 hC (by omega) (fun h => trod_Row h) _ _ _ hf
  exact ⟨l, rdG_R hl⟩
set_option maxRecDepth 20000 in
theorem open_Is {v : Value} {d : DataW H} {p : List MemPlace} {r : Reach} (hv : Value.okWide Tryz.prog w r base 22 v) (h : DataW.Trod enc Tryz.prog w 0 spare held 22 v d p) : ∃ l : List Int, RdI w 0 w.heap.size v l := by
  have hC : Tryz.prog.cellsOf 3 = 1 := by kernel_rfl
  obtain ⟨a, len, cap, rfl⟩ := okWide_slice Tryz.underlying22 hv
  obtain ⟨fuel, hf⟩ := h
  obtain ⟨l, hl⟩ := @open_list H enc Tryz.prog w 0 spare held Int 22 3 1 (fun a cs => cs = [.int .i64 a]) Tryz.underlying22 hC (by omega) (fun h => by
    obtain ⟨a, e0, -, -⟩ := DataW.trod_int Tryz.underlying3 h
    exact ⟨a, e0⟩) _ _ _ hf
  refine ⟨l, hl.imp (Nat.le_refl _) (Nat.le_refl _) fun k b o _ _ ⟨a, cs, ha, hcs, hc⟩ => ⟨a, ha, ?_⟩⟩
  subst hcs
  exact hc 0 _ rfl
end
end Go.Proofs.YticimccfeohpcaaGreat
