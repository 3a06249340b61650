/- The laws' arguments opened: rows, slots, lists of them. -/
import Derived.Test.YtmnmnofjeoanjaaDoorOpenV
import Derived.Test.YtmnmnofjeoanjaaDoorXA
namespace Go.Proofs.YtmnmnofjeoanjaaDoor
open Go.RowKit Go.ChangeShapes Go.WideShapes Go.Deep Go.Lb

section
variable {H : Type} {enc : TypeId × Value → H} {w : World} {base : Nat} {spare : Nat → Bool} {held : Bool} {n : Nat} {cs : List Value} {x : DataW H × List MemPlace}
def ElR (w : World) (base : Nat) (r : R) (cs : List Value) : Prop := ∃ sv, cs = [.int .i64 r.id, sv] ∧ RdV w base w.heap.size sv r.l ∧ ∀ v ∈ r.l, v.s.size ≤ maxLen
theorem rdG_R {base : Nat} {w : World} {v : Value} {l : List R} (h : RdG base w.heap.size 2 v l.length fun k b o => ∃ a cs, l[k]? = some a ∧ ElR w base a cs ∧ ∀ j u, cs[j]? = some u → w.cell? ⟨b, o + j, none⟩ = some u) : RdR w base w.heap.size v l ∧ RsOk l := by
  refine ⟨h.imp (Nat.le_refl _) (Nat.le_refl _) fun k b o _ _ ⟨a, cs, ha, ⟨sv, hcs, hr, _⟩, hc⟩ => ⟨a, sv, ha, ?_, ?_, hr⟩, fun r hr v hv => ?_⟩
  · subst hcs; exact hc 0 _ rfl
  · subst hcs; exact hc 1 _ rfl
  · obtain ⟨k, hk, e⟩ := List.getElem_of_mem hr
    obtain ⟨A, c, -, -, -, h4⟩ := h
    obtain ⟨b, off, -, -, -, a, cs, ha, ⟨sv, -, -, hs⟩, -⟩ := h4 k hk
    rw [List.getElem?_eq_getElem hk, e] at ha
    injection ha with ha
    subst ha
    exact hs v hv
set_option maxRecDepth 20000 in
theorem trod_Row (h : DataW.trod enc Tryd.prog w base spare held n 106 cs = some x) : ∃ r : R, ElR w base r cs := by
  obtain ⟨xs, m, -, -, hcl, hxl, hf⟩ := DataW.trod_struct Tryd.underlying106 h
  have h0 : DataW.trod enc Tryd.prog w base spare held m 3 ((cs.drop 0).take (Tryd.prog.cellsOf 3)) = xs[0]? := hf 0 _ rfl
  have h1 : DataW.trod enc Tryd.prog w base spare held m 104 ((cs.drop 1).take (Tryd.prog.cellsOf 104)) = xs[1]? := hf 1 _ rfl
  have hC : Tryd.prog.cellsOf 106 = 2 := by kernel_rfl
  have hI : Tryd.prog.cellsOf 3 = 1 := by kernel_rfl
  have hS : Tryd.prog.cellsOf 104 = 1 := by kernel_rfl
  rw [hC] at hcl
  have hxl2 : xs.length = 2 := hxl
  obtain ⟨c0, c1, rfl⟩ := len2 hcl
  obtain ⟨y0, y1, rfl⟩ := len2 hxl2
  simp only [hI, hS] at h0 h1
  obtain ⟨a, e0, -, -⟩ := DataW.trod_int Tryd.underlying3 h0
  obtain ⟨l, hl⟩ := trod_Vs h1
  simp at e0
  exact ⟨⟨a, l⟩, c1, by rw [e0], hl⟩
set_option maxRecDepth 20000 in
theorem open_Row {r : Reach} {v : Value} {d : DataW H} {p : List MemPlace} (hv : Value.okWide Tryd.prog w r base 106 v) (h : DataW.Trod enc Tryd.prog w 0 spare held 106 v d p) :
    ∃ (x : R) (sv : Value), v = .agg #[.int .i64 x.id, sv] ∧ RdV w 0 w.heap.size sv x.l ∧ ∀ v ∈ x.l, v.s.size ≤ maxLen := by
  obtain ⟨cs, rfl, -⟩ := okWide_struct Tryd.underlying106 hv
  obtain ⟨fuel, hf⟩ := h
  obtain ⟨x, sv, hx, hs⟩ := trod_Row hf
  refine ⟨x, sv, ?_, hs⟩
  obtain ⟨l⟩ := cs
  simp only [Value.cells] at hx
  rw [hx]
set_option maxRecDepth 20000 in
theorem open_Rs {v : Value} {d : DataW H} {p : List MemPlace} {r : Reach} (hv : Value.okWide Tryd.prog w r base 41 v) (h : DataW.Trod enc Tryd.prog w 0 spare held 41 v d p) : ∃ l : List R, RdR w 0 w.heap.size v l ∧ RsOk l := by
  have hC : Tryd.prog.cellsOf 106 = 2 := by kernel_rfl
  obtain ⟨a, len, cap, rfl⟩ := okWide_slice Tryd.underlying41 hv
  obtain ⟨fuel, hf⟩ := h
  obtain ⟨l, hl⟩ := @open_list H enc Tryd.prog w 0 spare held R 41 106 2 (ElR w 0) Tryd.underlying41 hC (by omega) (fun h => trod_Row h) _ _ _ hf
  exact ⟨l, rdG_R hl⟩
set_option maxRecDepth 20000 in
theorem trod_Result (h : DataW.trod enc Tryd.prog w base spare held n 43 cs = some x) : ∃ (x : Res) (sv : Value), cs = [sv, .int .i64 x.n, .bool x.has, .int .i64 x.v.ty, .int .i64 x.v.n, .string x.v.s] ∧ RdR w base w.heap.size sv x.rows ∧ RsOk x.rows ∧ x.v.s.size ≤ maxLen := by
  obtain ⟨xs, m, -, -, hcl, hxl, hf⟩ := DataW.trod_struct Tryd.underlying43 h
  have h0 : DataW.trod enc Tryd.prog w base spare held m 41 ((cs.drop 0).take (Tryd.prog.cellsOf 41)) = xs[0]? := hf 0 _ rfl
  have h1 : DataW.trod enc Tryd.prog w base spare held m 3 ((cs.drop 1).take (Tryd.prog.cellsOf 3)) = xs[1]? := hf 1 _ rfl
  have h2 : DataW.trod enc Tryd.prog w base spare held m 4 ((cs.drop 2).take (Tryd.prog.cellsOf 4)) = xs[2]? := hf 2 _ rfl
  have h3 : DataW.trod enc Tryd.prog w base spare held m 25 ((cs.drop 3).take (Tryd.prog.cellsOf 25)) = xs[3]? := hf 3 _ rfl
  have hC : Tryd.prog.cellsOf 43 = 6 := by kernel_rfl
  have hI : Tryd.prog.cellsOf 3 = 1 := by kernel_rfl
  have hO : Tryd.prog.cellsOf 4 = 1 := by kernel_rfl
  have hV : Tryd.prog.cellsOf 25 = 3 := by kernel_rfl
  have hS : Tryd.prog.cellsOf 41 = 1 := by kernel_rfl
  have hE : Tryd.prog.cellsOf 106 = 2 := by kernel_rfl
  rw [hC] at hcl
  have hxl2 : xs.length = 4 := hxl
  obtain ⟨c0, c1, c2, c3, c4, c5, rfl⟩ := len6 hcl
  obtain ⟨y0, y1, y2, y3, rfl⟩ := len4 hxl2
  simp only [hI, hS, hO, hV] at h0 h1 h2 h3
  obtain ⟨l, hl⟩ := @open_list H enc Tryd.prog w base spare held R 41 106 2 (ElR w base) Tryd.underlying41 hE (by omega) (fun h => trod_Row h) _ _ _ h0
  obtain ⟨a, e1, -, -⟩ := DataW.trod_int Tryd.underlying3 h1
  obtain ⟨bo, e2, -⟩ := DataW.trod_bool Tryd.underlying4 h2
  obtain ⟨vv, e3, hvs⟩ := trod_V h3
  simp [V.cells] at e1 e2 e3
  refine ⟨⟨l, a, bo, vv⟩, c0, ?_, (rdG_R hl).1, (rdG_R hl).2, hvs⟩
  rw [e1, e2, e3.1, e3.2.1, e3.2.2]
set_option maxRecDepth 20000 in
theorem open_Result {r : Reach} {v : Value} {d : DataW H} {p : List MemPlace} (hv : Value.okWide Tryd.prog w r base 43 v) (h : DataW.Trod enc Tryd.prog w 0 spare held 43 v d p) :
    ∃ (x : Res) (sv : Value), v = .agg #[sv, .int .i64 x.n, .bool x.has, .int .i64 x.v.ty, .int .i64 x.v.n, .string x.v.s] ∧ RdR w 0 w.heap.size sv x.rows ∧ RsOk x.rows ∧ x.v.s.size ≤ maxLen := by
  obtain ⟨cs, rfl, -⟩ := okWide_struct Tryd.underlying43 hv
  obtain ⟨fuel, hf⟩ := h
  obtain ⟨x, sv, hx, hs⟩ := trod_Result hf
  refine ⟨x, sv, ?_, hs⟩
  obtain ⟨l⟩ := cs
  simp only [Value.cells] at hx
  rw [hx]
set_option maxRecDepth 20000 in
theorem open_Is {v : Value} {d : DataW H} {p : List MemPlace} {r : Reach} (hv : Value.okWide Tryd.prog w r base 38 v) (h : DataW.Trod enc Tryd.prog w 0 spare held 38 v d p) : ∃ l : List Int, RdI w 0 w.heap.size v l := by
  have hC : Tryd.prog.cellsOf 3 = 1 := by kernel_rfl
  obtain ⟨a, len, cap, rfl⟩ := okWide_slice Tryd.underlying38 hv
  obtain ⟨fuel, hf⟩ := h
  obtain ⟨l, hl⟩ := @open_list H enc Tryd.prog w 0 spare held Int 38 3 1 (fun a cs => cs = [.int .i64 a]) Tryd.underlying38 hC (by omega) (fun h => by
    obtain ⟨a, e0, -, -⟩ := DataW.trod_int Tryd.underlying3 h
    exact ⟨a, e0⟩) _ _ _ hf
  refine ⟨l, hl.imp (Nat.le_refl _) (Nat.le_refl _) fun k b o _ _ ⟨a, cs, ha, hcs, hc⟩ => ⟨a, ha, ?_⟩⟩
  subst hcs
  exact hc 0 _ rfl
end
end Go.Proofs.YtmnmnofjeoanjaaDoor
