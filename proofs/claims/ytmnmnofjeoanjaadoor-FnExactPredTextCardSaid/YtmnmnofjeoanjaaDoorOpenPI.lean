/- A law's argument opened: predicates, with the range of their numbers. No conditions. -/
import Derived.Test.YtmnmnofjeoanjaaDoorOpenP
import Derived.Test.YtmnmnofjeoanjaaDoorOpenRI
import Derived.Test.YtmnmnofjeoanjaaDoorTP
namespace Go.Proofs.YtmnmnofjeoanjaaDoor
open Go.RowKit Go.ChangeShapes Go.WideShapes Go.Deep Go.Lb
section
variable {H : Type} {enc : TypeId × Value → H} {w : World} {base : Nat} {spare : Nat → Bool} {held : Bool}
def ElPI (w : World) (base : Nat) (p : Lb.P) (cs : List Value) : Prop := ElP w base p cs ∧ PInOk p
theorem rdG_PI {base : Nat} {w : World} {v : Value} {l : List Lb.P} (h : RdG base w.heap.size 7 v l.length fun k b o => ∃ a cs, l[k]? = some a ∧ ElPI w base a cs ∧ ∀ j u, cs[j]? = some u → w.cell? ⟨b, o + j, none⟩ = some u) : RdP w base w.heap.size v l ∧ POks l ∧ PIns l := by
  have h2 := rdG_P (h.imp (Nat.le_refl _) (Nat.le_refl _) fun k b o _ _ ⟨a, cs, ha, hE, hc⟩ => ⟨a, cs, ha, hE.1, hc⟩)
  have h3 : ∀ r ∈ l, PInOk r := fun r hr => by
    obtain ⟨k, hk, e⟩ := List.getElem_of_mem hr
    obtain ⟨A, c, -, -, -, h4⟩ := h
    obtain ⟨b, off, -, -, -, a, cs, ha, ⟨-, hi⟩, -⟩ := h4 k hk
    rw [List.getElem?_eq_getElem hk, e] at ha
    injection ha with ha
    subst ha
    exact hi
  exact ⟨h2.1, h2.2, .mk l (fun x hx => (h3 x hx).1) (fun x hx => (h3 x hx).2)⟩
set_option maxRecDepth 20000 in
set_option maxHeartbeats 1000000 in
theorem trod_PI_n : ∀ (n m : Nat), m < n → ∀ (cs : List Value) (x : DataW H × List MemPlace), DataW.trod enc Tryd.prog w base spare held m 28 cs = some x → ∃ p : Lb.P, ElPI w base p cs
  | 0, _, h => absurd h (Nat.not_lt_zero _)
  | n + 1, m, hmn => by
    intro cs x h
    obtain ⟨xs, q, hq, -, hcl, hxl, hf⟩ := DataW.trod_struct Tryd.underlying28 h
    have h0 : DataW.trod enc Tryd.prog w base spare held q 3 ((cs.drop 0).take (Tryd.prog.cellsOf 3)) = xs[0]? := hf 0 _ rfl
    have h1 : DataW.trod enc Tryd.prog w base spare held q 3 ((cs.drop 1).take (Tryd.prog.cellsOf 3)) = xs[1]? := hf 1 _ rfl
    have h2 : DataW.trod enc Tryd.prog w base spare held q 3 ((cs.drop 2).take (Tryd.prog.cellsOf 3)) = xs[2]? := hf 2 _ rfl
    have h3 : DataW.trod enc Tryd.prog w base spare held q 25 ((cs.drop 3).take (Tryd.prog.cellsOf 25)) = xs[3]? := hf 3 _ rfl
    have h4 : DataW.trod enc Tryd.prog w base spare held q 26 ((cs.drop 6).take (Tryd.prog.cellsOf 26)) = xs[4]? := hf 4 _ rfl
    have hC : Tryd.prog.cellsOf 28 = 7 := by kernel_rfl
    have hI : Tryd.prog.cellsOf 3 = 1 := by kernel_rfl
    have hV : Tryd.prog.cellsOf 25 = 3 := by kernel_rfl
    have hS : Tryd.prog.cellsOf 26 = 1 := by kernel_rfl
    rw [hC] at hcl
    have hxl2 : xs.length = 5 := hxl
    obtain ⟨c0, c1, c2, c3, c4, c5, c6, rfl⟩ := len7 hcl
    obtain ⟨y0, y1, y2, y3, y4, rfl⟩ := len5 hxl2
    simp only [hI, hS, hV] at h0 h1 h2 h3 h4
    obtain ⟨a0, e0, -, -⟩ := DataW.trod_int Tryd.underlying3 h0
    obtain ⟨a1, e1, -, hwf⟩ := DataW.trod_int Tryd.underlying3 h1
    obtain ⟨a2, e2, -, -⟩ := DataW.trod_int Tryd.underlying3 h2
    obtain ⟨v, e3, hvs⟩ := trod_V h3
    obtain ⟨l, hl⟩ := @open_list_lt H enc Tryd.prog w base spare held Lb.P 26 28 7 (ElPI w base) Tryd.underlying26 hC (by omega) q c6 _ (fun {m'} {cs'} {x'} hm' h' => trod_PI_n n m' (by omega) cs' x' h') h4
    obtain ⟨hr, hok, hin⟩ := rdG_PI hl
    simp [V.cells] at e0 e1 e2 e3
    refine ⟨.mk a0 a1 a2 v l, ⟨c6, ?_, hr, hvs, hok⟩, wf_in hwf, hin⟩
    rw [e0, e1, e2, e3.1, e3.2.1, e3.2.2]
    rfl
set_option maxRecDepth 20000 in
theorem open_PredI {r : Reach} {v : Value} {d : DataW H} {p : List MemPlace} (hv : Value.okWide Tryd.prog w r base 28 v) (h : DataW.Trod enc Tryd.prog w 0 spare held 28 v d p) :
    ∃ (x : Lb.P) (sv : Value), v = .agg #[.int .i64 x.kind, .int .i64 x.col, .int .i64 x.op, .int .i64 x.v.ty, .int .i64 x.v.n, .string x.v.s, sv] ∧ RdP w 0 w.heap.size sv x.l ∧ POk x ∧ PInOk x := by
  obtain ⟨cs, rfl, -⟩ := okWide_struct Tryd.underlying28 hv
  obtain ⟨fuel, hf⟩ := h
  obtain ⟨x, ⟨sv, hx, hs, hs2⟩, hin⟩ := trod_PI_n _ fuel (Nat.lt_succ_self _) _ _ hf
  refine ⟨x, sv, ?_, hs, hs2, hin⟩
  obtain ⟨l⟩ := cs
  simp only [Value.cells] at hx
  rw [hx]
  rfl
end
end Go.Proofs.YtmnmnofjeoanjaaDoor
