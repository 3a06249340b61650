/- The laws' arguments opened: rows, slots, lists of them. -/
import Derived.Test.YtgjjkodlmhmjgaaOpenV
import Derived.Test.YtgjjkodlmhmjgaaMemR
namespace Go.Proofs.Ytgjjkodlmhmjgaa
open Go.RowKit Go.ChangeShapes Go.WideShapes Go.Deep Go.Lb

section
variable {H : Type} {enc : TypeId × Value → H} {w : World} {base : Nat} {spare : Nat → Bool} {held : Bool} {n : Nat} {cs : List Value} {x : DataW H × List MemPlace}
def ElR (w : World) (base : Nat) (r : R) (cs : List Value) : Prop := ∃ sv, cs = [.int .i64 r.id, sv] ∧ RdV w base w.heap.size sv r.l ∧ ∀ v ∈ r.l, v.s.size ≤ maxLen
theorem rdG_R {base : Nat} {w : World} {v : Value} {l : List R} (h : RdG base w.heap.size 2 v l.length fun k b o => ∃ a cs, l[k]? = some a ∧ ElR w base a cs ∧ ∀ j u, cs[j]? = some u → w.cell? ⟨b, o + j, none⟩ = some u) : RdR w base w.heap.size v l ∧ RsOk l := by
  refine ⟨h.imp (Nat.le_refl _) (Nat.le_refl _) fun k b o _ _ ⟨a, cs, ha, ⟨sv, hcs, hr, _⟩, hc⟩ => ⟨a, sv, ha, ?_, ?_, hr⟩, fun r hr v hv => ?_⟩
  · subst hcs; exact hc 0 _ rfl
  · subst hcs; exact hc 1 _ rfl
  · obtain ⟨k, hk, e⟩ := List.getElem_of_mem hr
    obtain ⟨A, c, -, -, -, h4⟩ := h
    obtain ⟨b, off, -, -, -, a, cs, ha, ⟨sv, -, -, hs⟩, -⟩ := h4 k hk
    rw [List.getElem?_eq_getElem hk, e] at ha
    injection ha with ha
    subst ha
    exact hs v hv
set_option maxRecDepth 20000 in
theorem trod_Row (h : DataW.trod enc Try.prog w base spare held n 108 cs = some x) : ∃ r : R, ElR w base r cs := by
  obtain ⟨xs, m, -, -, hcl, hxl, hf⟩ := DataW.trod_struct Try.underlying108 h
  have h0 : DataW.trod enc Try.prog w base spare held m 3 ((cs.drop 0).take (Try.prog.cellsOf 3)) = xs[0]? := hf 0 _ rfl
  have h1 : DataW.trod enc Try.prog w base spare held m 46 ((cs.drop 1).take (Try.prog.cellsOf 46)) = xs[1]? := hf 1 _ rfl
  have hC : Try.prog.cellsOf 108 = 2 := by kernel_rfl
  have hI : Try.prog.cellsOf 3 = 1 := by kernel_rfl
  have hS : Try.prog.cellsOf 46 = 1 := by kernel_rfl
  rw [hC] at hcl
  have hxl2 : xs.length = 2 := hxl
  obtain ⟨c0, c1, rfl⟩ := len2 hcl
  obtain ⟨y0, y1, rfl⟩ := len2 hxl2
  simp only [hI, hS] at h0 h1
  obtain ⟨a, e0, -, -⟩ := DataW.trod_int Try.underlying3 h0
  obtain ⟨l, hl⟩ := trod_Vs h1
  simp at e0
  exact ⟨⟨a, l⟩, c1, by rw [e0], hl⟩
set_option maxRecDepth 20000 in
theorem open_Row {r : Reach} {v : Value} {d : DataW H} {p : List MemPlace} (hv : Value.okWide Try.prog w r base 108 v) (h : DataW.Trod enc Try.prog w 0 spare held 108 v d p) :
    ∃ (x : R) (sv : Value), v = .agg #[.int .i64 x.id, sv] ∧ RdV w 0 w.heap.size sv x.l ∧ ∀ v ∈ x.l, v.s.size ≤ maxLen := by
  obtain ⟨cs, rfl, -⟩ := okWide_struct Try.underlying108 hv
  obtain ⟨fuel, hf⟩ := h
  obtain ⟨x, sv, hx, hs⟩ := trod_Row hf
  refine ⟨x, sv, ?_, hs⟩
  obtain ⟨l⟩ := cs
  simp only [Value.cells] at hx
  rw [hx]
set_option maxRecDepth 20000 in
theorem open_Rs {v : Value} {d : DataW H} {p : List MemPlace} {r : Reach} (hv : Value.okWide Try.prog w r base 23 v) (h : DataW.Trod enc Try.prog w 0 spare held 23 v d p) : ∃ l : List R, RdR w 0 w.heap.size v l ∧ RsOk l := by
  have hC : Try.prog.cellsOf 108 = 2 := by kernel_rfl
  obtain ⟨a, len, cap, rfl⟩ := okWide_slice Try.underlying23 hv
  obtain ⟨fuel, hf⟩ := h
  obtain ⟨l, hl⟩ := @open_list H enc Try.prog w 0 spare held R 23 108 2 (ElR w 0) Try.underlying23 hC (by omega) (fun h => trod_Row h) _ _ _ hf
  exact ⟨l, rdG_R hl⟩
set_option maxRecDepth 20000 in
theorem trod_Slot (h : DataW.trod enc Try.prog w base spare held n 156 cs = some x) : ∃ r : R, ElR w base r cs := by
  obtain ⟨xs, m, -, -, hcl, hxl, hf⟩ := DataW.trod_struct Try.underlying156 h
  have h0 : DataW.trod enc Try.prog w base spare held m 3 ((cs.drop 0).take (Try.prog.cellsOf 3)) = xs[0]? := hf 0 _ rfl
  have h1 : DataW.trod enc Try.prog w base spare held m 46 ((cs.drop 1).take (Try.prog.cellsOf 46)) = xs[1]? := hf 1 _ rfl
  have hC : Try.prog.cellsOf 156 = 2 := by kernel_rfl
  have hI : Try.prog.cellsOf 3 = 1 := by kernel_rfl
  have hS : Try.prog.cellsOf 46 = 1 := by kernel_rfl
  rw [hC] at hcl
  have hxl2 : xs.length = 2 := hxl
  obtain ⟨c0, c1, rfl⟩ := len2 hcl
  obtain ⟨y0, y1, rfl⟩ := len2 hxl2
  simp only [hI, hS] at h0 h1
  obtain ⟨a, e0, -, -⟩ := DataW.trod_int Try.underlying3 h0
  obtain ⟨l, hl⟩ := trod_Vs h1
  simp at e0
  exact ⟨⟨a, l⟩, c1, by rw [e0], hl⟩
set_option maxRecDepth 20000 in
theorem open_Slot {r : Reach} {v : Value} {d : DataW H} {p : List MemPlace} (hv : Value.okWide Try.prog w r base 156 v) (h : DataW.Trod enc Try.prog w 0 spare held 156 v d p) :
    ∃ (x : R) (sv : Value), v = .agg #[.int .i64 x.id, sv] ∧ RdV w 0 w.heap.size sv x.l ∧ ∀ v ∈ x.l, v.s.size ≤ maxLen := by
  obtain ⟨cs, rfl, -⟩ := okWide_struct Try.underlying156 hv
  obtain ⟨fuel, hf⟩ := h
  obtain ⟨x, sv, hx, hs⟩ := trod_Slot hf
  refine ⟨x, sv, ?_, hs⟩
  obtain ⟨l⟩ := cs
  simp only [Value.cells] at hx
  rw [hx]
set_option maxRecDepth 20000 in
theorem open_Ss {v : Value} {d : DataW H} {p : List MemPlace} {r : Reach} (hv : Value.okWide Try.prog w r base 53 v) (h : DataW.Trod enc Try.prog w 0 spare held 53 v d p) : ∃ l : List R, RdR w 0 w.heap.size v l ∧ RsOk l := by
  have hC : Try.prog.cellsOf 156 = 2 := by kernel_rfl
  obtain ⟨a, len, cap, rfl⟩ := okWide_slice Try.underlying53 hv
  obtain ⟨fuel, hf⟩ := h
  obtain ⟨l, hl⟩ := @open_list H enc Try.prog w 0 spare held R 53 156 2 (ElR w 0) Try.underlying53 hC (by omega) (fun h => trod_Slot h) _ _ _ hf
  exact ⟨l, rdG_R hl⟩
set_option maxRecDepth 20000 in
theorem trod_Chunk (h : DataW.trod enc Try.prog w base spare held n 55 cs = some x) : ∃ (x : C) (sv : Value), cs = [.int .i64 x.next, sv] ∧ RdR w base w.heap.size sv x.l ∧ RsOk x.l := by
  obtain ⟨xs, m, -, -, hcl, hxl, hf⟩ := DataW.trod_struct Try.underlying55 h
  have h0 : DataW.trod enc Try.prog w base spare held m 3 ((cs.drop 0).take (Try.prog.cellsOf 3)) = xs[0]? := hf 0 _ rfl
  have h1 : DataW.trod enc Try.prog w base spare held m 53 ((cs.drop 1).take (Try.prog.cellsOf 53)) = xs[1]? := hf 1 _ rfl
  have hC : Try.prog.cellsOf 55 = 2 := by kernel_rfl
  have hI : Try.prog.cellsOf 3 = 1 := by kernel_rfl
  have hS : Try.prog.cellsOf 53 = 1 := by kernel_rfl
  have hE : Try.prog.cellsOf 156 = 2 := by kernel_rfl
  rw [hC] at hcl
  have hxl2 : xs.length = 2 := hxl
  obtain ⟨c0, c1, rfl⟩ := len2 hcl
  obtain ⟨y0, y1, rfl⟩ := len2 hxl2
  simp only [hI, hS] at h0 h1
  obtain ⟨a, e0, -, -⟩ := DataW.trod_int Try.underlying3 h0
  obtain ⟨l, hl⟩ := @open_list H enc Try.prog w base spare held R 53 156 2 (ElR w base) Try.underlying53 hE (by omega) (fun h => trod_Slot h) _ _ _ h1
  simp at e0
  exact ⟨⟨a, l⟩, c1, by rw [e0], rdG_R hl⟩
set_option maxRecDepth 20000 in
theorem open_Chunk {r : Reach} {v : Value} {d : DataW H} {p : List MemPlace} (hv : Value.okWide Try.prog w r base 55 v) (h : DataW.Trod enc Try.prog w 0 spare held 55 v d p) :
    ∃ (x : C) (sv : Value), v = .agg #[.int .i64 x.next, sv] ∧ RdR w 0 w.heap.size sv x.l ∧ RsOk x.l := by
  obtain ⟨cs, rfl, -⟩ := okWide_struct Try.underlying55 hv
  obtain ⟨fuel, hf⟩ := h
  obtain ⟨x, sv, hx, hs⟩ := trod_Chunk hf
  refine ⟨x, sv, ?_, hs⟩
  obtain ⟨l⟩ := cs
  simp only [Value.cells] at hx
  rw [hx]
set_option maxRecDepth 20000 in
theorem trod_Result (h : DataW.trod enc Try.prog w base spare held n 96 cs = some x) : ∃ (x : Res) (sv : Value), cs = [sv, .int .i64 x.n, .bool x.has, .int .i64 x.v.ty, .int .i64 x.v.n, .string x.v.s] ∧ RdR w base w.heap.size sv x.rows ∧ RsOk x.rows ∧ x.v.s.size ≤ maxLen := by
  obtain ⟨xs, m, -, -, hcl, hxl, hf⟩ := DataW.trod_struct Try.underlying96 h
  have h0 : DataW.trod enc Try.prog w base spare held m 23 ((cs.drop 0).take (Try.prog.cellsOf 23)) = xs[0]? := hf 0 _ rfl
  have h1 : DataW.trod enc Try.prog w base spare held m 3 ((cs.drop 1).take (Try.prog.cellsOf 3)) = xs[1]? := hf 1 _ rfl
  have h2 : DataW.trod enc Try.prog w base spare held m 4 ((cs.drop 2).take (Try.prog.cellsOf 4)) = xs[2]? := hf 2 _ rfl
  have h3 : DataW.trod enc Try.prog w base spare held m 33 ((cs.drop 3).take (Try.prog.cellsOf 33)) = xs[3]? := hf 3 _ rfl
  have hC : Try.prog.cellsOf 96 = 6 := by kernel_rfl
  have hI : Try.prog.cellsOf 3 = 1 := by kernel_rfl
  have hO : Try.prog.cellsOf 4 = 1 := by kernel_rfl
  have hV : Try.prog.cellsOf 33 = 3 := by kernel_rfl
  have hS : Try.prog.cellsOf 23 = 1 := by kernel_rfl
  have hE : Try.prog.cellsOf 108 = 2 := by kernel_rfl
  rw [hC] at hcl
  have hxl2 : xs.length = 4 := hxl
  obtain ⟨c0, c1, c2, c3, c4, c5, rfl⟩ := len6 hcl
  obtain ⟨y0, y1, y2, y3, rfl⟩ := len4 hxl2
  simp only [hI, hS, hO, hV] at h0 h1 h2 h3
  obtain ⟨l, hl⟩ := @open_list H enc Try.prog w base spare held R 23 108 2 (ElR w base) Try.underlying23 hE (by omega) (fun h => trod_Row h) _ _ _ h0
  obtain ⟨a, e1, -, -⟩ := DataW.trod_int Try.underlying3 h1
  obtain ⟨bo, e2, -⟩ := DataW.trod_bool Try.underlying4 h2
  obtain ⟨vv, e3, hvs⟩ := trod_V h3
  simp [V.cells] at e1 e2 e3
  refine ⟨⟨l, a, bo, vv⟩, c0, ?_, (rdG_R hl).1, (rdG_R hl).2, hvs⟩
  rw [e1, e2, e3.1, e3.2.1, e3.2.2]
set_option maxRecDepth 20000 in
theorem open_Result {r : Reach} {v : Value} {d : DataW H} {p : List MemPlace} (hv : Value.okWide Try.prog w r base 96 v) (h : DataW.Trod enc Try.prog w 0 spare held 96 v d p) :
    ∃ (x : Res) (sv : Value), v = .agg #[sv, .int .i64 x.n, .bool x.has, .int .i64 x.v.ty, .int .i64 x.v.n, .string x.v.s] ∧ RdR w 0 w.heap.size sv x.rows ∧ RsOk x.rows ∧ x.v.s.size ≤ maxLen := by
  obtain ⟨cs, rfl, -⟩ := okWide_struct Try.underlying96 hv
  obtain ⟨fuel, hf⟩ := h
  obtain ⟨x, sv, hx, hs⟩ := trod_Result hf
  refine ⟨x, sv, ?_, hs⟩
  obtain ⟨l⟩ := cs
  simp only [Value.cells] at hx
  rw [hx]
set_option maxRecDepth 20000 in
theorem open_Is {v : Value} {d : DataW H} {p : List MemPlace} {r : Reach} (hv : Value.okWide Try.prog w r base 22 v) (h : DataW.Trod enc Try.prog w 0 spare held 22 v d p) : ∃ l : List Int, RdI w 0 w.heap.size v l := by
  have hC : Try.prog.cellsOf 3 = 1 := by kernel_rfl
  obtain ⟨a, len, cap, rfl⟩ := okWide_slice Try.underlying22 hv
  obtain ⟨fuel, hf⟩ := h
  obtain ⟨l, hl⟩ := @open_list H enc Try.prog w 0 spare held Int 22 3 1 (fun a cs => cs = [.int .i64 a]) Try.underlying22 hC (by omega) (fun h => by
    obtain ⟨a, e0, -, -⟩ := DataW.trod_int Try.underlying3 h
    exact ⟨a, e0⟩) _ _ _ hf
  refine ⟨l, hl.imp (Nat.le_refl _) (Nat.le_refl _) fun k b o _ _ ⟨a, cs, ha, hcs, hc⟩ => ⟨a, ha, ?_⟩⟩
  subst hcs
  exact hc 0 _ rfl
end
end Go.Proofs.Ytgjjkodlmhmjgaa
