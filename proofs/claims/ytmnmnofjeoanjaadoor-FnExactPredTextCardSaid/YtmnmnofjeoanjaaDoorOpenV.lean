/- The laws' arguments opened: values, zones, lists of values and numbers. -/
import Derived.Test.YtmnmnofjeoanjaaDoorXA
namespace Go.Proofs.YtmnmnofjeoanjaaDoor
open Go.RowKit Go.ChangeShapes Go.WideShapes Go.Deep Go.Lb

section
variable {H : Type} {enc : TypeId × Value → H} {w : World} {base : Nat} {spare : Nat → Bool} {held : Bool} {n : Nat} {cs : List Value} {x : DataW H × List MemPlace}

set_option maxRecDepth 20000 in
theorem trod_V (h : DataW.trod enc Tryd.prog w base spare held n 25 cs = some x) : ∃ v : V, cs = v.cells ∧ v.s.size ≤ maxLen := by
  obtain ⟨xs, m, -, -, hcl, hxl, hf⟩ := DataW.trod_struct Tryd.underlying25 h
  have h0 : DataW.trod enc Tryd.prog w base spare held m 3 ((cs.drop 0).take (Tryd.prog.cellsOf 3)) = xs[0]? := hf 0 _ rfl
  have h1 : DataW.trod enc Tryd.prog w base spare held m 3 ((cs.drop 1).take (Tryd.prog.cellsOf 3)) = xs[1]? := hf 1 _ rfl
  have h2 : DataW.trod enc Tryd.prog w base spare held m 9 ((cs.drop 2).take (Tryd.prog.cellsOf 9)) = xs[2]? := hf 2 _ rfl
  have hC : Tryd.prog.cellsOf 25 = 3 := by kernel_rfl
  have hI : Tryd.prog.cellsOf 3 = 1 := by kernel_rfl
  have hS : Tryd.prog.cellsOf 9 = 1 := by kernel_rfl
  rw [hC] at hcl
  have hxl3 : xs.length = 3 := hxl
  obtain ⟨c0, c1, c2, rfl⟩ := len3 hcl
  obtain ⟨y0, y1, y2, rfl⟩ := len3 hxl3
  simp only [hI, hS] at h0 h1 h2
  obtain ⟨a, e0, -, -⟩ := DataW.trod_int Tryd.underlying3 h0
  obtain ⟨b, e1, -, -⟩ := DataW.trod_int Tryd.underlying3 h1
  obtain ⟨s, e2, -, hs⟩ := DataW.trod_string Tryd.underlying9 h2
  simp at e0 e1 e2
  exact ⟨⟨a, b, s⟩, by rw [e0, e1, e2]; rfl, hs⟩

set_option maxRecDepth 20000 in
theorem open_V {r : Reach} {v : Value} {d : DataW H} {p : List MemPlace} (hv : Value.okWide Tryd.prog w r base 25 v) (h : DataW.Trod enc Tryd.prog w 0 spare held 25 v d p) :
    ∃ x : V, v = .agg #[.int .i64 x.ty, .int .i64 x.n, .string x.s] ∧ x.s.size ≤ maxLen := by
  obtain ⟨cs, rfl, -⟩ := okWide_struct Tryd.underlying25 hv
  obtain ⟨fuel, hf⟩ := h
  obtain ⟨x, hx, hs⟩ := trod_V hf
  refine ⟨x, ?_, hs⟩
  obtain ⟨l⟩ := cs
  simp only [Value.cells] at hx
  rw [hx]
  rfl


set_option maxRecDepth 20000 in
theorem trod_Vs {v : Value} (h : DataW.trod enc Tryd.prog w base spare held n 104 [v] = some x) : ∃ l : List V, RdV w base w.heap.size v l ∧ ∀ x ∈ l, x.s.size ≤ maxLen := by
  have hC : Tryd.prog.cellsOf 25 = 3 := by kernel_rfl
  obtain ⟨l, hl⟩ := @open_list H enc Tryd.prog w base spare held V 104 25 3 ElV Tryd.underlying104 hC (by omega) (fun h => trod_V h) _ _ _ h
  exact ⟨l, rdG_V hl⟩
set_option maxRecDepth 20000 in
theorem open_Vs {v : Value} {d : DataW H} {p : List MemPlace} {r : Reach} (hv : Value.okWide Tryd.prog w r base 104 v) (h : DataW.Trod enc Tryd.prog w 0 spare held 104 v d p) : ∃ l : List V, RdV w 0 w.heap.size v l ∧ ∀ x ∈ l, x.s.size ≤ maxLen := by
  obtain ⟨a, len, cap, rfl⟩ := okWide_slice Tryd.underlying104 hv
  obtain ⟨fuel, hf⟩ := h
  exact trod_Vs hf
end
end Go.Proofs.YtmnmnofjeoanjaaDoor
