/- The laws' arguments opened: predicates, queries. -/
import Derived.Test.YtmnmnofjeoanjaaDoorOpenR
import Derived.Test.YtmnmnofjeoanjaaDoorMemP
namespace Go.Lb
open Go.RowKit Go.ChangeShapes Go.WideShapes Go.Deep
section
variable {H : Type} {enc : TypeId × Value → H} {P : Program} {w : World} {base : Nat} {spare : Nat → Bool} {held : Bool}
/-- A slice that can be read: a list, each of whose elements is as El says of its cells; the elements are read with less fuel. -/
theorem open_list_lt {α : Type} {t e : TypeId} {s : Nat} (El : α → List Value → Prop) (ht : P.underlying t = some (.slice e)) (hC : P.cellsOf e = s) (hs : 0 < s)
    {n : Nat} {v : Value} {x : DataW H × List MemPlace} (hel : ∀ {m : Nat} {cs : List Value} {x : DataW H × List MemPlace}, m < n → DataW.trod enc P w base spare held m e cs = some x → ∃ a, El a cs)
    (h : DataW.trod enc P w base spare held n t [v] = some x) :
    ∃ l : List α, RdG base w.heap.size s v l.length fun k b o => ∃ a cs, l[k]? = some a ∧ El a cs ∧ ∀ j u, cs[j]? = some u → w.cell? ⟨b, o + j, none⟩ = some u := by
  rcases DataW.trod_slice ht h with ⟨hcs, -⟩ | ⟨a, len, cap, elems, rest, m, hfu, hcs, -, hb, hlc, hm, hlen, hi, -, -⟩
  · refine ⟨[], none, 0, by simpa using hcs, Nat.le_refl _, Nat.zero_le _, fun k hk => absurd hk (by simp)⟩
  · rw [hC] at hi
    obtain ⟨l, hll, hlp⟩ := list_of_all (p := fun i (a' : α) => ∃ cs, El a' cs ∧ cs.length = s ∧ ∀ j, j < s → w.cell? ((a.add (i * s)).add j) = cs[j]?) len fun i hil => by
      have h1 := hi i hil
      rw [List.getElem?_eq_getElem (by omega)] at h1
      obtain ⟨cs', hc, ht'⟩ := Option.bind_eq_some_iff.1 h1
      obtain ⟨a', hE⟩ := hel (by omega) ht'
      obtain ⟨_, hcl, hat⟩ := World.cells?_some hc
      exact ⟨a', cs', hE, hcl, hat⟩
    refine ⟨l, some a, cap, by rw [hll]; simpa using hcs, by omega, hm, fun k hk => ?_⟩
    obtain ⟨cs, hE, hcl, hat⟩ := hlp k l[k] (List.getElem?_eq_getElem hk)
    have h0 := hat 0 hs
    rw [List.getElem?_eq_getElem (by omega : 0 < cs.length)] at h0
    have hsp : a.spot = none := by
      obtain ⟨cs0, _, hc0l, hat0⟩ := hlp 0 l[0] (List.getElem?_eq_getElem (by omega))
      have h01 := hat0 0 hs
      rw [List.getElem?_eq_getElem (by omega : 0 < cs0.length)] at h01
      simp only [Nat.zero_mul] at h01
      unfold Addr.add at h01
      simp only [if_true] at h01
      unfold World.cell? at h01
      split at h01
      · split at h01
        · cases h01
        · rename_i hn
          simpa using hn
      · cases h01
    obtain ⟨b, off, spot⟩ := a
    simp only at hsp
    subst hsp
    have hlt : b < w.heap.size := by
      have := World.block_lt_of_cell? w _ h0
      rwa [add_plain, add_plain] at this
    refine ⟨b, off, rfl, hb, hlt, l[k], cs, List.getElem?_eq_getElem hk, hE, fun j u hu => ?_⟩
    have hj : j < s := by
      rcases Nat.lt_or_ge j cs.length with hj | hj
      · omega
      · rw [List.getElem?_eq_none hj] at hu; cases hu
    have := hat j hj
    rw [add_plain, add_plain] at this
    rw [this, hu]
end
def ElP (w : World) (base : Nat) (p : Lb.P) (cs : List Value) : Prop := ∃ sv, cs = p.cell sv ∧ RdP w base w.heap.size sv p.l ∧ POk p
theorem rdG_P {base : Nat} {w : World} {v : Value} {l : List Lb.P} (h : RdG base w.heap.size 7 v l.length fun k b o => ∃ a cs, l[k]? = some a ∧ ElP w base a cs ∧ ∀ j u, cs[j]? = some u → w.cell? ⟨b, o + j, none⟩ = some u) : RdP w base w.heap.size v l ∧ POks l := by
  obtain ⟨A, c, rfl, hc, hm, hk⟩ := h
  have key : ∀ k : Nat, ∃ sv : Value, ∀ x, l[k]? = some x → POk x ∧ RdP w base w.heap.size sv x.l ∧ ∃ b off, A = some ⟨b, off, none⟩ ∧ base ≤ b ∧ b < w.heap.size ∧ PAt w b (off + k * 7) x sv := fun k => by
    by_cases hkl : k < l.length
    · obtain ⟨b, off, ha, hl, hh, a, cs, hak, ⟨sv, hcs, hr, hok⟩, hcell⟩ := hk k hkl
      refine ⟨sv, fun x hx => ?_⟩
      rw [hak] at hx
      injection hx with hx
      subst hx
      subst hcs
      exact ⟨hok, hr, b, off, ha, hl, hh, hcell 0 _ rfl, hcell 1 _ rfl, hcell 2 _ rfl, hcell 3 _ rfl, hcell 4 _ rfl, hcell 5 _ rfl, hcell 6 _ rfl⟩
    · exact ⟨.slice none 0 0, fun x hx => by rw [List.getElem?_eq_none (by omega)] at hx; cases hx⟩
  obtain ⟨sv, hsv⟩ := Classical.axiomOfChoice key
  refine ⟨?_, POks.mk l (fun x hx => ?_) (fun x hx => ?_)⟩
  · have hA : ∃ b off, 0 < l.length → A = some ⟨b, off, none⟩ ∧ base ≤ b ∧ b < w.heap.size := by
      rcases Nat.eq_zero_or_pos l.length with h0 | h0
      · exact ⟨0, 0, fun h => by omega⟩
      · obtain ⟨b, off, ha, hl, hh, -⟩ := hk 0 h0
        exact ⟨b, off, fun _ => ⟨ha, hl, hh⟩⟩
    obtain ⟨b, off, hA⟩ := hA
    refine RdPi.mk A c l b off sv hc hm hA (fun k x hx => ?_) (fun k x hx => (hsv k x hx).2.1)
    obtain ⟨-, -, b', off', ha, -, -, hp⟩ := hsv k x hx
    have h0 := (hA (by have := (List.getElem?_eq_some_iff.1 hx).1; omega)).1
    rw [h0] at ha
    injection ha with ha
    injection ha with ha1 ha2
    subst ha1 ha2
    exact hp
  all_goals
    obtain ⟨k, hk', e⟩ := List.getElem_of_mem hx
    have hx' : l[k]? = some x := by rw [List.getElem?_eq_getElem hk', e]
  · exact (hsv k x hx').1.1
  · exact (hsv k x hx').1.2
end Go.Lb
namespace Go.Proofs.YtmnmnofjeoanjaaDoor
open Go.RowKit Go.ChangeShapes Go.WideShapes Go.Deep Go.Lb

section
variable {H : Type} {enc : TypeId × Value → H} {w : World} {base : Nat} {spare : Nat → Bool} {held : Bool}
set_option maxRecDepth 20000 in
set_option maxHeartbeats 1000000 in
theorem trod_P_n : ∀ (n m : Nat), m < n → ∀ (cs : List Value) (x : DataW H × List MemPlace), DataW.trod enc Tryd.prog w base spare held m 28 cs = some x → ∃ p : Lb.P, ElP w base p cs
  | 0, _, h => absurd h (Nat.not_lt_zero _)
  | n + 1, m, hmn => by
    intro cs x h
    obtain ⟨xs, q, hq, -, hcl, hxl, hf⟩ := DataW.trod_struct Tryd.underlying28 h
    have h0 : DataW.trod enc Tryd.prog w base spare held q 3 ((cs.drop 0).take (Tryd.prog.cellsOf 3)) = xs[0]? := hf 0 _ rfl
    have h1 : DataW.trod enc Tryd.prog w base spare held q 3 ((cs.drop 1).take (Tryd.prog.cellsOf 3)) = xs[1]? := hf 1 _ rfl
    have h2 : DataW.trod enc Tryd.prog w base spare held q 3 ((cs.drop 2).take (Tryd.prog.cellsOf 3)) = xs[2]? := hf 2 _ rfl
    have h3 : DataW.trod enc Tryd.prog w base spare held q 25 ((cs.drop 3).take (Tryd.prog.cellsOf 25)) = xs[3]? := hf 3 _ rfl
    have h4 : DataW.trod enc Tryd.prog w base spare held q 26 ((cs.drop 6).take (Tryd.prog.cellsOf 26)) = xs[4]? := hf 4 _ rfl
    have hC : Tryd.prog.cellsOf 28 = 7 := by kernel_rfl
    have hI : Tryd.prog.cellsOf 3 = 1 := by kernel_rfl
    have hV : Tryd.prog.cellsOf 25 = 3 := by kernel_rfl
    have hS : Tryd.prog.cellsOf 26 = 1 := by kernel_rfl
    rw [hC] at hcl
    have hxl2 : xs.length = 5 := hxl
    obtain ⟨c0, c1, c2, c3, c4, c5, c6, rfl⟩ := len7 hcl
    obtain ⟨y0, y1, y2, y3, y4, rfl⟩ := len5 hxl2
    simp only [hI, hS, hV] at h0 h1 h2 h3 h4
    obtain ⟨a0, e0, -, -⟩ := DataW.trod_int Tryd.underlying3 h0
    obtain ⟨a1, e1, -, -⟩ := DataW.trod_int Tryd.underlying3 h1
    obtain ⟨a2, e2, -, -⟩ := DataW.trod_int Tryd.underlying3 h2
    obtain ⟨v, e3, hvs⟩ := trod_V h3
    obtain ⟨l, hl⟩ := @open_list_lt H enc Tryd.prog w base spare held Lb.P 26 28 7 (ElP w base) Tryd.underlying26 hC (by omega) q c6 _ (fun {m'} {cs'} {x'} hm' h' => trod_P_n n m' (by omega) cs' x' h') h4
    obtain ⟨hr, hok⟩ := rdG_P hl
    simp [V.cells] at e0 e1 e2 e3
    refine ⟨.mk a0 a1 a2 v l, c6, ?_, hr, hvs, hok⟩
    rw [e0, e1, e2, e3.1, e3.2.1, e3.2.2]
    rfl
set_option maxRecDepth 20000 in
theorem open_Pred {r : Reach} {v : Value} {d : DataW H} {p : List MemPlace} (hv : Value.okWide Tryd.prog w r base 28 v) (h : DataW.Trod enc Tryd.prog w 0 spare held 28 v d p) :
    ∃ (x : Lb.P) (sv : Value), v = .agg #[.int .i64 x.kind, .int .i64 x.col, .int .i64 x.op, .int .i64 x.v.ty, .int .i64 x.v.n, .string x.v.s, sv] ∧ RdP w 0 w.heap.size sv x.l ∧ POk x := by
  obtain ⟨cs, rfl, -⟩ := okWide_struct Tryd.underlying28 hv
  obtain ⟨fuel, hf⟩ := h
  obtain ⟨x, sv, hx, hs⟩ := trod_P_n _ fuel (Nat.lt_succ_self _) _ _ hf
  refine ⟨x, sv, ?_, hs⟩
  obtain ⟨l⟩ := cs
  simp only [Value.cells] at hx
  rw [hx]
  rfl
set_option maxRecDepth 20000 in
set_option maxHeartbeats 1000000 in
theorem open_Query {r : Reach} {v : Value} {d : DataW H} {p : List MemPlace} (hv : Value.okWide Tryd.prog w r base 40 v) (h : DataW.Trod enc Tryd.prog w 0 spare held 40 v d p) :
    ∃ (x : Q) (sv ov : Value), v = .agg #[.int .i64 x.kind, .int .i64 x.p.kind, .int .i64 x.p.col, .int .i64 x.p.op, .int .i64 x.p.v.ty, .int .i64 x.p.v.n, .string x.p.v.s, sv, .int .i64 x.col, ov] ∧ RdP w 0 w.heap.size sv x.p.l ∧ RdI w 0 w.heap.size ov x.out ∧ POk x.p := by
  obtain ⟨cs, rfl, -⟩ := okWide_struct Tryd.underlying40 hv
  obtain ⟨fuel, hf⟩ := h
  obtain ⟨cs⟩ := cs
  simp only [Value.cells] at hf
  obtain ⟨xs, q, -, -, hcl, hxl, hf⟩ := DataW.trod_struct Tryd.underlying40 hf
  have h0 : DataW.trod enc Tryd.prog w 0 spare held q 3 ((cs.drop 0).take (Tryd.prog.cellsOf 3)) = xs[0]? := hf 0 _ rfl
  have h1 : DataW.trod enc Tryd.prog w 0 spare held q 28 ((cs.drop 1).take (Tryd.prog.cellsOf 28)) = xs[1]? := hf 1 _ rfl
  have h2 : DataW.trod enc Tryd.prog w 0 spare held q 3 ((cs.drop 8).take (Tryd.prog.cellsOf 3)) = xs[2]? := hf 2 _ rfl
  have h3 : DataW.trod enc Tryd.prog w 0 spare held q 38 ((cs.drop 9).take (Tryd.prog.cellsOf 38)) = xs[3]? := hf 3 _ rfl
  have hC : Tryd.prog.cellsOf 40 = 10 := by kernel_rfl
  have hI : Tryd.prog.cellsOf 3 = 1 := by kernel_rfl
  have hP : Tryd.prog.cellsOf 28 = 7 := by kernel_rfl
  have hS : Tryd.prog.cellsOf 38 = 1 := by kernel_rfl
  rw [hC] at hcl
  have hxl2 : xs.length = 4 := hxl
  obtain ⟨c0, c1, c2, c3, c4, c5, c6, c7, c8, c9, rfl⟩ := len10 hcl
  obtain ⟨y0, y1, y2, y3, rfl⟩ := len4 hxl2
  simp only [hI, hS, hP] at h0 h1 h2 h3
  obtain ⟨a0, e0, -, -⟩ := DataW.trod_int Tryd.underlying3 h0
  obtain ⟨x, sv, e1, hr, hok⟩ := trod_P_n _ q (Nat.lt_succ_self _) _ _ h1
  obtain ⟨a2, e2, -, -⟩ := DataW.trod_int Tryd.underlying3 h2
  obtain ⟨l, hl⟩ := @open_list H enc Tryd.prog w 0 spare held Int 38 3 1 (fun a cs => cs = [.int .i64 a]) Tryd.underlying38 hI (by omega) (fun h => by
    obtain ⟨a, e0, -, -⟩ := DataW.trod_int Tryd.underlying3 h
    exact ⟨a, e0⟩) _ _ _ h3
  simp [P.cell] at e0 e1 e2
  refine ⟨⟨a0, x, a2, l⟩, sv, c9, ?_, hr, hl.imp (Nat.le_refl _) (Nat.le_refl _) fun k b o _ _ ⟨a, cs, ha, hcs, hc⟩ => ⟨a, ha, ?_⟩, hok⟩
  · simp only [e0, e1, e2]
  · subst hcs
    exact hc 0 _ rfl
end
end Go.Proofs.YtmnmnofjeoanjaaDoor
