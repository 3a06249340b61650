/- The laws' helpers for predicates: copies: contracts. -/
import Derived.Test.YtmnmnofjeoanjaaDoorLP1
import Derived.Test.YtmnmnofjeoanjaaDoorXL
namespace Go.Lb
open Go.RowKit
/-- The parts of predicates alone, each in a stretch of blocks of its own. -/
def PartP (e : TypeId) (w : World) (lo hi : Nat) (ps : List (P × Value)) : Prop := ∃ s t : Nat → Nat, (∀ (k : Nat) (p : P × Value), ps[k]? = some p → OwnP e w (s k) (t k) p.2 p.1.l) ∧ (∀ k, k < ps.length → lo ≤ s k ∧ t k ≤ hi) ∧ ∀ j k, j < k → k < ps.length → t j ≤ s k
section
variable {e : TypeId} {w w' w1 : World} {lo hi lo' hi' : Nat} {ps : List (P × Value)} {v sv : Value} {x : P}
theorem PartP.nil : PartP e w lo hi [] := ⟨fun _ => 0, fun _ => 0, fun k p h => by simp at h, fun k h => by simp at h, fun j k _ h => by simp at h⟩
theorem PartP.imp (h : PartP e w lo hi ps) (hs : Same lo hi w w') (h2 : hi ≤ hi') : PartP e w' lo hi' ps := by
  obtain ⟨s, t, h1, h3, h4⟩ := h
  refine ⟨s, t, fun k p hp => ?_, fun k hk => ⟨(h3 k hk).1, Nat.le_trans (h3 k hk).2 h2⟩, h4⟩
  have hk := (List.getElem?_eq_some_iff.1 hp).1
  exact (h1 k p hp).same (hs.less (h3 k hk).1 (h3 k hk).2)
theorem PartP.snoc (h : PartP e w lo w.heap.size ps) (hb : Below w.heap.size w w1) (hlo : lo ≤ w.heap.size) (hn : OwnP e w1 w.heap.size w1.heap.size sv x.l) : PartP e w1 lo w1.heap.size (ps ++ [(x, sv)]) := by
  obtain ⟨s, t, h1, h3, h4⟩ := h
  refine ⟨fun k => if k < ps.length then s k else w.heap.size, fun k => if k < ps.length then t k else w1.heap.size, fun k p hp => ?_, fun k hk => ?_, fun j k hjk hk => ?_⟩
  · by_cases hk : k < ps.length
    · rw [List.getElem?_append_left hk] at hp
      simp only [if_pos hk]
      exact (h1 k p hp).below hb (h3 k hk).2
    · rw [List.getElem?_append_right (by omega)] at hp
      have h0 : k - ps.length = 0 := by
        have := (List.getElem?_eq_some_iff.1 hp).1
        simp at this; omega
      rw [h0] at hp
      simp only [List.getElem?_cons_zero, Option.some.injEq] at hp
      subst hp
      simp only [if_neg hk]
      exact hn
  · have hs := hb.size
    by_cases hkl : k < ps.length
    · have := h3 k hkl
      simp only [if_pos hkl]; omega
    · simp only [if_neg hkl]; omega
  · simp only [List.length_append, List.length_cons, List.length_nil] at hk
    by_cases hkl : k < ps.length
    · simp only [if_pos hkl, if_pos (show j < ps.length by omega)]
      exact h4 j k hjk hkl
    · simp only [if_neg hkl, if_pos (show j < ps.length by omega)]
      exact (h3 j (by omega)).2
theorem PartP.set (h : PartP e w lo hi ps) {b o : Nat} (hb : b < lo) (u : Value) : PartP e (w.setCell ⟨b, o, none⟩ u) lo hi ps :=
  h.imp (fun k h1 _ => Below.heap_setCell w ⟨b, o, none⟩ u k (by show k ≠ b; omega)) (Nat.le_refl _)
theorem PartP.done {g : Nat} (h : PartP e w lo hi ps) (ho : w.ownsRow 0 e 7 v ps.length (ps.flatMap fun p => p.1.cell p.2)) (hv : v.ownBlock = some g) (h1 : lo' ≤ g) (h2 : g < lo) (h3 : g < hi) : OwnP e w lo' hi v (ps.map Prod.fst) := by
  obtain ⟨s, t, a1, a3, a4⟩ := h
  refine OwnPi.mk lo' hi v ps s t ho (fun b hb => by rw [hv] at hb; injection hb with hb; omega) a1 (fun k hk => ⟨by have := a3 k hk; omega, (a3 k hk).2, fun b hb => ?_⟩) a4
  rw [hv] at hb
  injection hb with hb
  have := a3 k hk
  exact .inl (by omega)
end
theorem take_set7 {l : List Value} {o : Nat} {a b c d e f g : Value} (h : o + 7 ≤ l.length) : (((((((l.set o a).set (o + 1) b).set (o + 2) c).set (o + 3) d).set (o + 4) e).set (o + 5) f).set (o + 6) g).take (o + 7) = l.take o ++ [a, b, c, d, e, f, g] := by
  have h1 := take_set3 (l := (((l.set o a).set (o + 1) b).set (o + 2) c).set (o + 3) d) (o := o + 4) (a := e) (b := f) (c := g) (by simp; omega)
  have h2 := take_set2 (l := (l.set o a).set (o + 1) b) (o := o + 2) (a := c) (b := d) (by simp; omega)
  have h3 := take_set2 (l := l) (o := o) (a := a) (b := b) (by omega)
  rw [h3] at h2
  rw [h2, List.append_assoc, List.append_assoc] at h1
  exact h1
theorem set7 {w : World} {g o : Nat} {cur : Array Value} {e : TypeId} {a b c d f h i : Value} (hh : w.heap[g]? = some (.cells cur e (0, 0))) :
    (((((((w.setCell ⟨g, o, none⟩ a).setCell ⟨g, o + 1, none⟩ b).setCell ⟨g, o + 2, none⟩ c).setCell ⟨g, o + 3, none⟩ d).setCell ⟨g, o + 4, none⟩ f).setCell ⟨g, o + 5, none⟩ h).setCell ⟨g, o + 6, none⟩ i).heap[g]? = some (.cells (((((((cur.setIfInBounds o a).setIfInBounds (o + 1) b).setIfInBounds (o + 2) c).setIfInBounds (o + 3) d).setIfInBounds (o + 4) f).setIfInBounds (o + 5) h).setIfInBounds (o + 6) i) e (0, 0)) :=
  set1 (set1 (set1 (set1 (set1 (set1 (set1 hh))))))
end Go.Lb
namespace Go.Proofs.YtmnmnofjeoanjaaDoor
open Go.Sort Go.ChangeShapes Go.WideShapes Go.ChangeAt Go.RowKit Go.Lb

def ToC (l : List P) : Prop := ∀ (x : Value) (w : World) (lo hi : Nat), RdP w lo hi x l → hi ≤ w.heap.size → cntP l ≤ 1048576 →
  Calls Tryd.prog 45 #[x] w fun e w' => ∃ v, e = .returned v ∧ OwnP 34 w' w.heap.size w'.heap.size v l ∧ Below w.heap.size w w'
set_option maxRecDepth 20000 in
set_option maxHeartbeats 2000000 in
theorem toPred_of (p : P) (h : ToC p.l) (sv : Value) (w : World) {lo hi : Nat} (hx : RdP w lo hi sv p.l) (hhi : hi ≤ w.heap.size) (hn : cntP p.l ≤ 1048576) :
    Calls Tryd.prog 11 #[.agg #[.int .i64 p.kind, .int .i64 p.col, .int .i64 p.op, .int .i64 p.v.ty, .int .i64 p.v.n, .string p.v.s, sv]] w fun e w' => ∃ v, e = .returned (.agg #[.int .i64 p.kind, .int .i64 p.col, .int .i64 p.op, .int .i64 p.v.ty, .int .i64 p.v.n, .string p.v.s, v]) ∧ OwnP 34 w' w.heap.size w'.heap.size v p.l ∧ Below w.heap.size w w' := by
  have hC := fun (W : World) (hb : Below w.heap.size w W) => h sv W lo hi (hx.below hb hhi) (Nat.le_trans hhi hb.size) hn
  have HC := Lib.hid hC
  clear hC h
  go_enter Tryd.func11, Tryd.ntmps11
  go_wp2_with fail
  refine (toVal_c p.v _).mono ?_
  rintro e w1 ⟨rfl, hb1⟩
  have hc := (bcell hb1).1
  have hf := (bcell hb1).2
  have hz := hb1.size
  simp at hz
  have z0 : w.heap.size < w1.heap.size := by omega
  have z1 : w.heap.size + 1 < w1.heap.size := by omega
  have z2 : w.heap.size + 1 + 1 < w1.heap.size := by omega
  have hB : Below w.heap.size w w1 := by
    refine Below.trans ?_ (hb1.mono (by simp; omega))
    repeat (first | exact up_a3 _ _ _ _ | refine Below.setCell ?_ (by simp <;> omega) _)
  have HB := Lib.hid hB
  clear hb1 hB
  go_wp2_with fail
  refine (HC.out _ ?_).mono ?_
  · repeat (first | exact HB.out | refine Below.setCell ?_ (by simp <;> omega) _)
  rintro e w2 ⟨v, rfl, hown, hb2⟩
  have hc2 := (bcell hb2).1
  have hf2 := (bcell hb2).2
  have hz2 := hb2.size
  simp [World.setCell] at hz2
  have y0 : w.heap.size < w2.heap.size := by omega
  have y1 : w.heap.size + 1 < w2.heap.size := by omega
  have y2 : w.heap.size + 1 + 1 < w2.heap.size := by omega
  have Hb2 : Below w.heap.size w w2 := by
    refine Below.trans ?_ (hb2.mono (by simp [World.setCell]; omega))
    repeat (first | exact HB.out | refine Below.setCell ?_ (by simp <;> omega) _)
  have Hb2 := Lib.hid Hb2
  have Hown := Lib.hid (hown.more (lo' := w.heap.size + 1 + 1 + 1) (by simp [World.setCell]; omega) (Nat.le_refl _))
  obtain ⟨A, c, rfl, -, -⟩ := hown.rdP.form
  clear hown hb2 HC
  go_wp2_with fail
  refine bodyPost_ret (v := .agg #[.int .i64 p.kind, .int .i64 p.col, .int .i64 p.op, .int .i64 p.v.ty, .int .i64 p.v.n, .string p.v.s, .slice A p.l.length c]) ?_ rfl ⟨_, rfl, ?_, ?_⟩
  · simp [results, Tryd.results11, go_sem, hc2, hc, z1]
  · refine OwnP.more (lo := w.heap.size + 1 + 1 + 1) (hi := w2.heap.size) ?_ (by omega) (Nat.le_of_eq (by simp [World.setCell]))
    iterate 8 refine OwnP.set ?_ (by omega) _
    exact Hown.out
  · iterate 8 refine Below.setCell ?_ (by simp <;> omega) _
    exact Hb2.out
theorem info_pred : (Tryd.prog.info? 34).map (fun i => (i.zero, i.size, i.bytes)) = some (some (.agg #[.int .i64 0, .int .i64 0, .int .i64 0, .int .i64 0, .int .i64 0, .string ⟨#[]⟩, .slice none 0 0]), 7, 80) := by kernel_rfl
set_option maxRecDepth 20000 in
set_option maxHeartbeats 2000000 in
theorem toPredS_n : ∀ (N : Nat) (l : List P), SizeOf.sizeOf l < N → ToC l
  | 0, _, h => absurd h (Nat.not_lt_zero _)
  | N + 1, l, hN => by
    have IH := Lib.hid (toPredS_n N)
    intro x w lo hi hx hhi hn
    obtain ⟨A, c, rfl, hl, hl2⟩ := hx.form
    obtain ⟨i0, hif, hz0, hz1, hz2⟩ := info_parts info_pred
    have hn1 : l.length ≤ 1048576 := Nat.le_trans (cntP_len l) hn
    have hmk : ∀ W : World, _ := fun W => make_n (P := Tryd.prog) 32 34 i0 _ Tryd.underlying32 hif hz0 l.length (by rw [hz2]; omega) (by omega) W
    rw [hz1] at hmk
    clear hz0 hz1 hz2 hif
    go_enter Tryd.func45, Tryd.ntmps45
    go_wp2_with fail
    go_loopw [4] (fun i wr => ∃ (k : Nat) (cur : Array Value) (ps : List (P × Value)), i = .int .i64 k ∧ k ≤ l.length ∧ wr.heap[w.heap.size]? = some (.cells cur 34 (0, 0)) ∧ cur.size = l.length * 7 ∧ ps.map Prod.fst = l.take k ∧ cur.toList.take (k * 7) = (ps.flatMap fun p => p.1.cell p.2) ∧ PartP 34 wr (w.heap.size + 1) wr.heap.size ps ∧ Below w.heap.size w wr) (fun i _ => l.length - (intOf i).toNat)
    case atStart => exact ⟨0, _, [], by simp, by omega, heap_alloc_new w _, size_madeCells _ _, by simp, by simp, .nil, (Below.refl _ _).alloc (Nat.le_refl _) _⟩
    case round =>
      obtain ⟨k, cur, ps, rfl, hk, hcur, hsz, hps, htk, hpart, hb⟩ := hrel
      have Hc := Lib.hid hcur
      have Hsz := Lib.hid hsz
      have Htk := Lib.hid htk
      have Hps := Lib.hid hps
      have Hpart := Lib.hid hpart
      have hg : w.heap.size < wr.heap.size := (Array.getElem?_eq_some_iff.1 hcur).1
      clear hcur hsz htk hps hpart
      by_cases hkl : k < l.length
      · obtain ⟨b, off, y, sv, rfl, -, hbl, hyk, hat, hr⟩ := (hx.below hb hhi).at hkl
        obtain ⟨e0, e1, e2, e3, e4, e5, e6⟩ := hat
        have hy := Lib.hid (take_of_get hyk)
        have hcn := (cntP_take hyk).1
        have hcn2 := (cntP_take hyk).2
        have hlt := Nat.lt_trans y.l_lt (P.mem_lt (mem_of_get hyk))
        have hbs := hb.size
        have hC := Lib.hid (toPred_of y (IH.out y.l (by omega)) sv _ hr (by omega) (by omega))
        clear hyk hr
        go_wp2_with fail
        refine hC.out.mono ?_
        rintro e w1 ⟨nv, rfl, hown, hb1⟩
        have Hc1 := Lib.hid ((hb1.block _ hg).trans Hc.out)
        have Hpart1 := Lib.hid (Hpart.out.snoc hb1 (by omega) hown)
        obtain ⟨A', c', rfl, -, -⟩ := hown.rdP.form
        have hs1 := hb1.size
        clear e0 e1 e2 e3 e4 e5 e6 hown
        have k0 := cell_of_row w1 w.heap.size (k * 7) cur _ _ Hc1.out
        have k1 := cell_of_row w1 w.heap.size (k * 7 + 1) cur _ _ Hc1.out
        have k2 := cell_of_row w1 w.heap.size (k * 7 + 2) cur _ _ Hc1.out
        have k3 := cell_of_row w1 w.heap.size (k * 7 + 3) cur _ _ Hc1.out
        have k4 := cell_of_row w1 w.heap.size (k * 7 + 4) cur _ _ Hc1.out
        have k5 := cell_of_row w1 w.heap.size (k * 7 + 5) cur _ _ Hc1.out
        have k6 := cell_of_row w1 w.heap.size (k * 7 + 6) cur _ _ Hc1.out
        have f0 := fun o => frozen_of_row w1 w.heap.size o cur _ Hc1.out
        rw [Array.getElem?_eq_getElem (by rw [Hsz.out]; omega)] at k0 k1 k2 k3 k4 k5 k6
        go_wp2_with fail
        go_roundw
        case rel =>
          refine ⟨k + 1, _, ps ++ [(y, .slice A' y.l.length c')], by go_num, by omega, set7 Hc1.out, by simpa using Hsz.out, ?_, ?_, ?_, ?_⟩
          rotate_left 2
          · refine PartP.imp (w := w1) ?_ ?_ (Nat.le_of_eq (by simp [World.setCell])) (hi := w1.heap.size)
            · exact Hpart1.out
            · intro g h1 _
              iterate 7 refine (Below.heap_setCell _ ⟨w.heap.size, _, none⟩ _ g (by show g ≠ w.heap.size; omega)).trans ?_
              rfl
          · iterate 7 refine Below.setCell ?_ (by simp) _
            exact hb.trans (hb1.mono (Nat.le_of_lt hg))
          · rw [hy.out, List.map_append, Hps.out]; rfl
          · simp only [Array.toList_setIfInBounds]
            rw [show (k + 1) * 7 = k * 7 + 7 by omega]
            refine (take_set7 (by rw [Array.length_toList, Hsz.out]; omega)).trans ?_
            rw [Htk.out, List.flatMap_append]
            simp [P.cell]
        case measure => simp [intOf]; omega
      · go_wp2_with fail
        go_ret
        obtain rfl : k = l.length := by omega
        have hp := Hps.out
        rw [List.take_length] at hp
        have hpl : ps.length = l.length := by rw [← hp, List.length_map]
        refine ⟨.slice (some ⟨w.heap.size, 0, none⟩) l.length l.length, rfl, ?_, hb⟩
        rw [← hp]
        refine Hpart.out.done (g := w.heap.size) ⟨flat_len (fun p : P × Value => p.1.cell p.2) 7 P.cell_len ps, .inr ⟨w.heap.size, l.length, cur, ?_, Nat.zero_le _, Hc.out, by omega, by unfold maxLen; omega, Hsz.out, by rw [hpl]; exact Htk.out⟩⟩ rfl (Nat.le_refl _) (by omega) hg
        rw [hpl, List.length_map, hpl]
theorem toPredS_c (l : List P) : ToC l := toPredS_n _ l (Nat.lt_succ_self _)
theorem toPred_c (p : P) (sv : Value) (w : World) {lo hi : Nat} (hx : RdP w lo hi sv p.l) (hhi : hi ≤ w.heap.size) (hn : p.l.length ≤ 1048576 ∧ cntP p.l ≤ 1048576) :
    Calls Tryd.prog 11 #[.agg #[.int .i64 p.kind, .int .i64 p.col, .int .i64 p.op, .int .i64 p.v.ty, .int .i64 p.v.n, .string p.v.s, sv]] w fun e w' => ∃ v, e = .returned (.agg #[.int .i64 p.kind, .int .i64 p.col, .int .i64 p.op, .int .i64 p.v.ty, .int .i64 p.v.n, .string p.v.s, v]) ∧ OwnP 34 w' w.heap.size w'.heap.size v p.l ∧ Below w.heap.size w w' :=
  toPred_of p (toPredS_c p.l) sv w hx hhi hn.2
end Go.Proofs.YtmnmnofjeoanjaaDoor
