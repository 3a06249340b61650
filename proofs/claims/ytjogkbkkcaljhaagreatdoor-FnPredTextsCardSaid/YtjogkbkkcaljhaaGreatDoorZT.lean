/- The reference's reader of a predicate's text: operands, the walk. Conditions as for numbers. -/
import Derived.Test.YtjogkbkkcaljhaaGreatDoorZS
import Derived.Test.YtjogkbkkcaljhaaGreatDoorZR
namespace Go.Proofs.YtjogkbkkcaljhaaGreatDoor
open Go.Sort Go.ChangeShapes Go.WideShapes Go.ChangeAt Go.RowKit Go.Lb
/-- How many predicates the reader makes in one of some depth, at most. -/
def rnD : Nat → Nat
  | 0 => 0
  | k + 1 => 5 * (1 + rnD k)
/-- A predicate of the call's own, and where the reader stands behind it. -/
def ReadP (R : P → Nat → Bool → Prop) (s : ByteArray) (g : Nat) (w : World) (e : Ending) (w' : World) : Prop := ∃ (p : P) (sv : Value) (a' : Nat) (b' : Bool), e = .returned (.agg #[.int .i64 p.kind, .int .i64 p.col, .int .i64 p.op, .int .i64 p.v.ty, .int .i64 p.v.n, .string p.v.s, sv]) ∧ OwnP 27 w' w.heap.size w'.heap.size sv p.l ∧ Hid (R p a' b') ∧ RS w' g s a' b' ∧ Chg g (g + 1) w w'
theorem ReadP.mk {R : P → Nat → Bool → Prop} {s : ByteArray} {g : Nat} {w w' : World} (p : P) (sv : Value) (a' : Nat) (b' : Bool) {v : Value} (hv : v = .agg #[.int .i64 p.kind, .int .i64 p.col, .int .i64 p.op, .int .i64 p.v.ty, .int .i64 p.v.n, .string p.v.s, sv]) (ho : OwnP 27 w' w.heap.size w'.heap.size sv p.l) (hR : R p a' b') (hr : RS w' g s a' b') (hc : Chg g (g + 1) w w') : ReadP R s g w (.returned v) w' := ⟨p, sv, a', b', congrArg _ hv, ho, Lib.hid hR, hr, hc⟩
/-- The same of a list of them. -/
def ReadL (R : List P → Nat → Bool → Prop) (s : ByteArray) (g : Nat) (w : World) (e : Ending) (w' : World) : Prop := ∃ (l : List P) (sv : Value) (a' : Nat) (b' : Bool), e = .returned sv ∧ OwnP 27 w' w.heap.size w'.heap.size sv l ∧ Hid (R l a' b') ∧ RS w' g s a' b' ∧ Chg g (g + 1) w w'
theorem ReadL.mk {R : List P → Nat → Bool → Prop} {s : ByteArray} {g : Nat} {w w' : World} (l : List P) (sv : Value) (a' : Nat) (b' : Bool) {v : Value} (hv : v = sv) (ho : OwnP 27 w' w.heap.size w'.heap.size sv l) (hR : R l a' b') (hr : RS w' g s a' b') (hc : Chg g (g + 1) w w') : ReadL R s g w (.returned v) w' := ⟨l, sv, a', b', congrArg _ hv, ho, Lib.hid hR, hr, hc⟩
def ReadC (cols : List Int) (k : Nat) : Prop := ∀ (n : Int) (s : ByteArray) (g a : Nat) (b : Bool) (w : World), n + k = 5 → RS w g s a b → s.size ≤ 1048576 → EnvP w →
    Calls Tryz.prog 22 #[.pointer (some ⟨g, 0, none⟩), .int .i64 n] w (ReadP (fun p a' b' => ReadS cols k s a b p a' b' ∧ POk p ∧ PInOk p ∧ cntP p.l ≤ rnD k) s g w)
def PartsC (cols : List Int) (k : Nat) : Prop := ∀ (n : Int) (s : ByteArray) (g a : Nat) (b : Bool) (w : World), n + (k + 1 : Nat) = 5 → RS w g s a b → s.size ≤ 1048576 → EnvP w →
    Calls Tryz.prog 51 #[.pointer (some ⟨g, 0, none⟩), .int .i64 n] w (ReadL (fun l a' b' => PartsS cols k s a b l a' b' ∧ POks l ∧ PIns l ∧ cntP l ≤ rnD (k + 1)) s g w)
/-- While the operands are read. -/
def PartsL (cols : List Int) (k : Nat) (s : ByteArray) (g a : Nat) (b : Bool) (w : World) (gk : Nat) (o ag : Value) (wr : World) : Prop := ∃ (ps : List (P × Value)) (a1 : Nat) (gb bb : Bool), ag = .bool gb ∧ ps.length + gk = 5 ∧ (gk = 0 → bb = true) ∧ Hid (OwnPx 27 wr w.heap.size wr.heap.size o ps) ∧ Hid (POks (ps.map Prod.fst) ∧ PIns (ps.map Prod.fst) ∧ cntP (ps.map Prod.fst) ≤ ps.length * (1 + rnD k)) ∧ Hid (PartsI cols k s a b (ps.map Prod.fst) a1 gb bb) ∧ Hid (RS wr g s a1 bb) ∧ Hid (Chg g (g + 1) w wr)
set_option maxRecDepth 20000 in
set_option maxHeartbeats 16000000 in
theorem spec_l11Parts (cols : List Int) (k : Nat) (hk4 : k ≤ 4) (ih : ReadC cols k) : PartsC cols k := by
  have IH := Lib.hid ih
  obtain ⟨i0, hif, hz0, hz1, hz2⟩ := info_parts info_PD
  have hif := Lib.hid hif
  have hz0 := Lib.hid hz0
  have hz1 := Lib.hid hz1
  have hz2 := Lib.hid hz2
  clear ih
  intro n s g a b w hn hr hs he
  have hnw : IntKind.i64.wrap (n + 1) = n + 1 := IntWalk.i64_in _ ⟨by omega, by omega⟩
  have Hn1 := Lib.hid (show n + 1 + (k : Int) = 5 by omega)
  have hgl : g < w.heap.size := (Array.getElem?_eq_some_iff.1 hr.1).1
  have hE := Lib.hid he
  have HRw := Lib.hid hr
  have own0 := World.ownsRow_made w (base := w.heap.size) (e := 27) (size := 7) #[] 0 (Nat.le_refl _) (by decide) rfl
  have up0 := up_a1 w (.cells #[] 27)
  have hs0 : (w.alloc (.cells #[] 27)).heap.size = w.heap.size + 1 := by simp
  obtain ⟨W0, hW0⟩ : ∃ W0, w.alloc (.cells #[] 27) = W0 := ⟨_, rfl⟩
  rw [hW0] at own0 up0 hs0
  have HW0 := Lib.hid hW0
  have Own0 := Lib.hid own0
  have HR0 := Lib.hid (show RS W0 g s a b from ⟨(up0.block g hgl).trans hr.1, hr.2⟩)
  have HC0 := Lib.hid (chg_belowV (g := g) up0)
  clear hW0 own0 up0 hr he hn
  go_enter Tryz.func51, Tryz.ntmps51
  go_wp2_with fail
  rw [HW0.out]
  clear HW0
  go_loopg [5, 6] 5 (fun gk o ag wr => PartsL cols k s g a b w gk o ag wr)
  case atStart => exact ⟨[], a, true, b, rfl, rfl, fun h => absurd h (by decide), Lib.hid (OwnPx.nil Own0.out (fun q hq => Own0.out.lt q hq)), Lib.hid ⟨POks.nil, PIns.nil, by simp [cntP_nil]⟩, Lib.hid (PartsI.zero _ _ _ _ _), HR0, HC0⟩
  case round =>
    obtain ⟨ps, a1, gb, bb, rfl, hpg, h0, Hown, HK, HI, HR, HC⟩ := hrel
    have hcz := HC.out.size
    have k0 := cell_of_row wr (g) 0 _ _ _ HR.out.1
    have k1 := cell_of_row wr (g) 1 _ _ _ HR.out.1
    have k2 := cell_of_row wr (g) 2 _ _ _ HR.out.1
    simp only [List.getElem?_toArray, List.getElem?_cons_zero, List.getElem?_cons_succ] at k0 k1 k2
    have fk := fun o => frozen_of_row wr g o _ _ HR.out.1
    cases gb
    · have HN := Lib.hid (HI.out.yes (.inl rfl))
      have HM := Lib.hid (HI.out.no (.inl rfl))
      have HIs := spec_l11Is s ⟨#[41]⟩ g a1 bb wr HR.out hs (by decide)
      obtain ⟨bi, hbi⟩ : ∃ bi, isAt s a1 bb ⟨#[41]⟩ = bi := ⟨_, rfl⟩
      rw [hbi] at HIs
      have HIs := Lib.hid HIs
      have HBi := Lib.hid hbi
      clear hbi
      have hof := Hown.out.own.rdP.form
      rw [List.length_map] at hof
      obtain ⟨Av, cv, rfl, -, -⟩ := hof
      have HCn := Lib.hid (show cntP (ps.map Prod.fst) ≤ rnD (k + 1) from Nat.le_trans HK.out.2.2 (Nat.mul_le_mul_right _ (by omega)))
      go_wp2_with fail
      refine HIs.out.mono ?_
      rintro e w4 ⟨rfl, hr4, hc4⟩
      have Ho4 := Lib.hid (show OwnPx 27 w4 w.heap.size w4.heap.size _ ps from Hown.out.imp (Nat.le_refl _) hc4.size (Same.of_chg hc4 (.inr (by omega)) (Nat.le_refl _)))
      have H5 := Lib.hid (HC.out.trans hc4)
      have Hr4 := Lib.hid hr4
      clear hr4 hc4 HIs k0 k1 k2 fk
      cases bi
      · have H4 := Lib.hid (show RS w4 g s a1 bb by have h := Hr4.out; rw [if_neg (by simp)] at h; exact h)
        have HP := Lib.hid (HM.out HBi.out)
        have k0 := cell_of_row w4 (g) 0 _ _ _ H4.out.1
        have k1 := cell_of_row w4 (g) 1 _ _ _ H4.out.1
        have k2 := cell_of_row w4 (g) 2 _ _ _ H4.out.1
        simp only [List.getElem?_toArray, List.getElem?_cons_zero, List.getElem?_cons_succ] at k0 k1 k2
        have fk := fun o => frozen_of_row w4 g o _ _ H4.out.1
        go_wp2_with fail
        go_ret
        refine ReadL.mk (ps.map Prod.fst) (.slice Av ps.length cv) a1 true rfl ?_ ⟨HP.out, HK.out.1, HK.out.2.1, HCn.out⟩ ⟨set2r H4.out.1, H4.out.2⟩ (H5.out.trans (chg_setR _ _ _ _))
        exact OwnP.imp Ho4.out.own (Nat.le_refl _) (by simp [World.setCell]) fun q h1 _ => Below.heap_setCell w4 ⟨g, 2, none⟩ _ q (by show q ≠ g; omega)
      · have H4 := Lib.hid (show RS w4 g s (a1 + 1) bb by have h := Hr4.out; rw [if_pos rfl] at h; exact h)
        have HP := Lib.hid HN.out
        go_wp2_with fail
        go_ret
        exact ReadL.mk (ps.map Prod.fst) (.slice Av ps.length cv) (a1 + 1) bb rfl Ho4.out.own ⟨HP.out, HK.out.1, HK.out.2.1, HCn.out⟩ H4.out H5.out
    · cases bb
      · have hgk : gk = gk - 1 + 1 := by
          rcases Nat.eq_zero_or_pos gk with h | h
          · exact absurd (h0 h) (by decide)
          · omega
        have hpl : ps.length ≤ 4 := by omega
        have Hgk := Lib.hid hgk
        clear hgk h0
        go_wp2_with fail
        refine (IH.out (n + 1) s g a1 false wr Hn1.out HR.out hs (hE.out.chg HRw.out HC.out)).mono ?_
        rintro e w2 ⟨xp, sv, a2, b2, rfl, hop, HX, hr2, hc2⟩
        obtain ⟨As, cs, rfl, -, -⟩ := hop.rdP.form
        obtain ⟨s0, t0, HO⟩ := Hown.out
        have hob := HO.outIn
        have Hout2 := Lib.hid (owns_same (w' := w2) HO.out fun q hq => hc2.block q (hob q hq).2 (.inr (by have := (hob q hq).1; omega)))
        have hs2 := hc2.size
        have hB := Lib.hid (show ((w2.alloc (.cells #[.int .i64 xp.kind, .int .i64 xp.col, .int .i64 xp.op, .int .i64 xp.v.ty, .int .i64 xp.v.n, .string xp.v.s, .slice As xp.l.length cs] 27)).alloc (.cells #[.int .i64 xp.kind, .int .i64 xp.col, .int .i64 xp.op, .int .i64 xp.v.ty, .int .i64 xp.v.n, .string xp.v.s, .slice As xp.l.length cs] 27)).heap[w2.heap.size + 1]? = some (.cells #[.int .i64 xp.kind, .int .i64 xp.col, .int .i64 xp.op, .int .i64 xp.v.ty, .int .i64 xp.v.n, .string xp.v.s, .slice As xp.l.length cs] 27) by have h := heap_alloc_new (w2.alloc (.cells #[.int .i64 xp.kind, .int .i64 xp.col, .int .i64 xp.op, .int .i64 xp.v.ty, .int .i64 xp.v.n, .string xp.v.s, .slice As xp.l.length cs] 27)) (.cells #[.int .i64 xp.kind, .int .i64 xp.col, .int .i64 xp.op, .int .i64 xp.v.ty, .int .i64 xp.v.n, .string xp.v.s, .slice As xp.l.length cs] 27); rw [World.size_alloc] at h; exact h)
        have hup := up_a2 w2 (.cells #[.int .i64 xp.kind, .int .i64 xp.col, .int .i64 xp.op, .int .i64 xp.v.ty, .int .i64 xp.v.n, .string xp.v.s, .slice As xp.l.length cs] 27) (.cells #[.int .i64 xp.kind, .int .i64 xp.col, .int .i64 xp.op, .int .i64 xp.v.ty, .int .i64 xp.v.n, .string xp.v.s, .slice As xp.l.length cs] 27)
        have hus : ((w2.alloc (.cells #[.int .i64 xp.kind, .int .i64 xp.col, .int .i64 xp.op, .int .i64 xp.v.ty, .int .i64 xp.v.n, .string xp.v.s, .slice As xp.l.length cs] 27)).alloc (.cells #[.int .i64 xp.kind, .int .i64 xp.col, .int .i64 xp.op, .int .i64 xp.v.ty, .int .i64 xp.v.n, .string xp.v.s, .slice As xp.l.length cs] 27)).heap.size = w2.heap.size + 1 + 1 := by simp
        have Hop := Lib.hid (hop.below hup (Nat.le_refl _))
        have Hob := Lib.hid hob
        have Hup := Lib.hid hup
        have Hc2 := Lib.hid hc2
        have Hus := Lib.hid hus
        have Hr2 := Lib.hid hr2
        clear HO s0 t0 hop hob hup hc2 hus hr2 k0 k1 k2 fk
        go_wp2_with (at_builtin; refine wpl_appL rfl _ _ 25 rfl 0 27 i0 _ 7 80 Tryz.underlying25 hif.out hz0.out hz1.out hz2.out rfl (by decide) (by decide) ((Hout2.out.alloc _).alloc _) rfl hB.out rfl rfl (by simp [Value.oneCell']) (by omega) (Nat.zero_le _) ?_)
        intro v' w3 hown' hgrow hnb
        have hw1 : Chg g (g + 1) wr ((w2.alloc (.cells #[.int .i64 xp.kind, .int .i64 xp.col, .int .i64 xp.op, .int .i64 xp.v.ty, .int .i64 xp.v.n, .string xp.v.s, .slice As xp.l.length cs] 27)).alloc (.cells #[.int .i64 xp.kind, .int .i64 xp.col, .int .i64 xp.op, .int .i64 xp.v.ty, .int .i64 xp.v.n, .string xp.v.s, .slice As xp.l.length cs] 27)) := Hc2.out.trans (.of_below Hup.out)
        have H1 := Hown.out.snoc (x := xp) (sv := .slice As xp.l.length cs) (Same.of_chg hw1 (.inr (by omega)) (Nat.le_refl _)) hw1.size (by omega) Hop.out Hup.out.size hown' hgrow (fun q hq => by rw [Hus.out]; exact hnb q hq)
        have H2 := Lib.hid (chg_grown (HC.out.trans hw1) hgrow (fun q hq => by have := (Hob.out q hq).1; omega))
        have hgr2 : g < w2.heap.size := by omega
        have H3 := Lib.hid (show RS w3 g s a2 b2 from ⟨(hgrow.block g (by rw [Hus.out]; omega) (fun e => by have := (Hob.out g e.symm).1; omega)).trans ((Hup.out.block g hgr2).trans Hr2.out.1), Hr2.out.2⟩)
        have hvf := H1.own.rdP.form
        simp only [List.length_map, List.length_append, List.length_cons, List.length_nil, Nat.zero_add] at hvf
        obtain ⟨Av, cv, rfl, -, -⟩ := hvf
        have H1' := Lib.hid H1
        have Hcn := Lib.hid (show POks ((ps ++ [(xp, Value.slice As xp.l.length cs)]).map Prod.fst) ∧ PIns ((ps ++ [(xp, Value.slice As xp.l.length cs)]).map Prod.fst) ∧ cntP ((ps ++ [(xp, Value.slice As xp.l.length cs)]).map Prod.fst) ≤ (ps ++ [(xp, Value.slice As xp.l.length cs)]).length * (1 + rnD k) by
          rw [List.map_append, List.length_append, Nat.add_mul]
          simp only [List.map_cons, List.map_nil, List.length_cons, List.length_nil]
          refine ⟨HK.out.1.snoc HX.out.2.1, HK.out.2.1.snoc HX.out.2.2.1, ?_⟩
          rw [cntP_snoc]
          have h1 := HK.out.2.2
          have h2 := HX.out.2.2.2
          omega)
        have Hsx : Hid (ReadS cols k s a1 false xp a2 b2) := Lib.hid HX.out.1
        have hs3 : w.heap.size ≤ w3.heap.size := H2.out.size
        clear H1 hown' hgrow hnb hw1 Hop Hob Hup Hc2 Hus Hr2 hB Hout2 HX hgr2
        have HIs := spec_l11Is s ⟨#[44]⟩ g a2 b2 w3 H3.out hs (by decide)
        obtain ⟨bi, hbi⟩ : ∃ bi, isAt s a2 b2 ⟨#[44]⟩ = bi := ⟨_, rfl⟩
        rw [hbi] at HIs
        have HIs := Lib.hid HIs
        have HSt := Lib.hid (HI.out.step Hsx.out hbi)
        clear hbi
        go_wp2_with fail
        refine HIs.out.mono ?_
        rintro e w4 ⟨rfl, hr4, hc4⟩
        have H4 := Lib.hid (show RS w4 g s (if bi = true then a2 + 1 else a2) b2 from hr4)
        have H5 := Lib.hid (H2.out.trans hc4)
        have H6 := Lib.hid (show OwnPx 27 w4 w.heap.size w4.heap.size (.slice Av (ps.length + 1) cv) (ps ++ [(xp, Value.slice As xp.l.length cs)]) from H1'.out.imp (Nat.le_refl _) hc4.size (Same.of_chg hc4 (.inr (by omega)) (Nat.le_refl _)))
        clear hr4 hc4 HIs H1' H2 H3
        obtain ⟨a4, ha4⟩ : ∃ a4, (if bi = true then a2 + 1 else a2) = a4 := ⟨_, rfl⟩
        rw [ha4] at H4 HSt
        clear ha4
        have k0 := cell_of_row w4 (g) 0 _ _ _ H4.out.1
        have k1 := cell_of_row w4 (g) 1 _ _ _ H4.out.1
        have k2 := cell_of_row w4 (g) 2 _ _ _ H4.out.1
        simp only [List.getElem?_toArray, List.getElem?_cons_zero, List.getElem?_cons_succ] at k0 k1 k2
        have fk := fun o => frozen_of_row w4 g o _ _ H4.out.1
        have hln : ((ps ++ [(xp, Value.slice As xp.l.length cs)]).map Prod.fst).length = ps.length + 1 := by simp
        cases b2
        · by_cases h5 : ps.length = 4
          · have hd5 : decide ((4 : Int) < (ps.length : Int) + 1) = true := decide_eq_true (by omega)
            have hd6 : decide (4 < ps.length + 1) = true := decide_eq_true (by omega)
            clear h5
            have HSx := Lib.hid (show PartsI cols k s a b ((ps ++ [(xp, Value.slice As xp.l.length cs)]).map Prod.fst) a4 bi true by
              have h := HSt.out
              rw [show (ps.map Prod.fst ++ [xp]) = (ps ++ [(xp, Value.slice As xp.l.length cs)]).map Prod.fst by simp, hln] at h
              rw [hd6] at h
              exact h)
            have h7s : w4.heap.size ≤ (w4.setCell ⟨g, 2, none⟩ (.bool true)).heap.size := by simp [World.setCell]
            have H7 := Lib.hid (show OwnPx 27 (w4.setCell ⟨g, 2, none⟩ (.bool true)) w.heap.size (w4.setCell ⟨g, 2, none⟩ (.bool true)).heap.size (.slice Av (ps.length + 1) cv) (ps ++ [(xp, Value.slice As xp.l.length cs)]) from H6.out.imp (Nat.le_refl _) h7s fun q h1 _ => Below.heap_setCell w4 ⟨g, 2, none⟩ _ q (by show q ≠ g; omega))
            clear h7s
            go_wp2_with fail
            go_roundg (gk - 1)
            case measure => have := Hgk.out; omega
            case rel => exact ⟨(ps ++ [(xp, Value.slice As xp.l.length cs)]), a4, bi, true, rfl, by simp; omega, fun h => rfl, H7, Hcn, HSx, Lib.hid ⟨set2r H4.out.1, H4.out.2⟩, Lib.hid (H5.out.trans (chg_setR _ _ _ _))⟩
          · have hd5 : decide ((4 : Int) < (ps.length : Int) + 1) = false := decide_eq_false (by omega)
            have hd6 : decide (4 < ps.length + 1) = false := decide_eq_false (by omega)
            have HSx := Lib.hid (show PartsI cols k s a b ((ps ++ [(xp, Value.slice As xp.l.length cs)]).map Prod.fst) a4 bi false by
              have h := HSt.out
              rw [show (ps.map Prod.fst ++ [xp]) = (ps ++ [(xp, Value.slice As xp.l.length cs)]).map Prod.fst by simp, hln] at h
              rw [hd6] at h
              exact h)
            have h7s : w4.heap.size ≤ (w4.setCell ⟨g, 2, none⟩ (.bool false)).heap.size := by simp [World.setCell]
            have H7 := Lib.hid (show OwnPx 27 (w4.setCell ⟨g, 2, none⟩ (.bool false)) w.heap.size (w4.setCell ⟨g, 2, none⟩ (.bool false)).heap.size (.slice Av (ps.length + 1) cv) (ps ++ [(xp, Value.slice As xp.l.length cs)]) from H6.out.imp (Nat.le_refl _) h7s fun q h1 _ => Below.heap_setCell w4 ⟨g, 2, none⟩ _ q (by show q ≠ g; omega))
            clear h7s
            go_wp2_with fail
            go_roundg (gk - 1)
            case measure => have := Hgk.out; omega
            case rel => exact ⟨(ps ++ [(xp, Value.slice As xp.l.length cs)]), a4, bi, false, rfl, by simp; omega, fun h => by first | rfl | omega, H7, Hcn, HSx, Lib.hid ⟨set2r H4.out.1, H4.out.2⟩, Lib.hid (H5.out.trans (chg_setR _ _ _ _))⟩
        · have HSx := Lib.hid (show PartsI cols k s a b ((ps ++ [(xp, Value.slice As xp.l.length cs)]).map Prod.fst) a4 bi true by
            have h := HSt.out
            rw [show (ps.map Prod.fst ++ [xp]) = (ps ++ [(xp, Value.slice As xp.l.length cs)]).map Prod.fst by simp, hln] at h
            skip
            exact h)
          have h7s : w4.heap.size ≤ (w4.setCell ⟨g, 2, none⟩ (.bool true)).heap.size := by simp [World.setCell]
          have H7 := Lib.hid (show OwnPx 27 (w4.setCell ⟨g, 2, none⟩ (.bool true)) w.heap.size (w4.setCell ⟨g, 2, none⟩ (.bool true)).heap.size (.slice Av (ps.length + 1) cv) (ps ++ [(xp, Value.slice As xp.l.length cs)]) from H6.out.imp (Nat.le_refl _) h7s fun q h1 _ => Below.heap_setCell w4 ⟨g, 2, none⟩ _ q (by show q ≠ g; omega))
          clear h7s
          go_wp2_with fail
          go_roundg (gk - 1)
          case measure => have := Hgk.out; omega
          case rel => exact ⟨(ps ++ [(xp, Value.slice As xp.l.length cs)]), a4, bi, true, rfl, by simp; omega, fun h => rfl, H7, Hcn, HSx, Lib.hid ⟨set2r H4.out.1, H4.out.2⟩, Lib.hid (H5.out.trans (chg_setR _ _ _ _))⟩
      · have HN := Lib.hid (HI.out.yes (.inr rfl))
        have HM := Lib.hid (HI.out.no (.inr rfl))
        have HIs := spec_l11Is s ⟨#[41]⟩ g a1 true wr HR.out hs (by decide)
        obtain ⟨bi, hbi⟩ : ∃ bi, isAt s a1 true ⟨#[41]⟩ = bi := ⟨_, rfl⟩
        rw [hbi] at HIs
        have HIs := Lib.hid HIs
        have HBi := Lib.hid hbi
        clear hbi
        have hof := Hown.out.own.rdP.form
        rw [List.length_map] at hof
        obtain ⟨Av, cv, rfl, -, -⟩ := hof
        have HCn := Lib.hid (show cntP (ps.map Prod.fst) ≤ rnD (k + 1) from Nat.le_trans HK.out.2.2 (Nat.mul_le_mul_right _ (by omega)))
        go_wp2_with fail
        refine HIs.out.mono ?_
        rintro e w4 ⟨rfl, hr4, hc4⟩
        have Ho4 := Lib.hid (show OwnPx 27 w4 w.heap.size w4.heap.size _ ps from Hown.out.imp (Nat.le_refl _) hc4.size (Same.of_chg hc4 (.inr (by omega)) (Nat.le_refl _)))
        have H5 := Lib.hid (HC.out.trans hc4)
        have Hr4 := Lib.hid hr4
        clear hr4 hc4 HIs k0 k1 k2 fk
        cases bi
        · have H4 := Lib.hid (show RS w4 g s a1 true by have h := Hr4.out; rw [if_neg (by simp)] at h; exact h)
          have HP := Lib.hid (HM.out HBi.out)
          have k0 := cell_of_row w4 (g) 0 _ _ _ H4.out.1
          have k1 := cell_of_row w4 (g) 1 _ _ _ H4.out.1
          have k2 := cell_of_row w4 (g) 2 _ _ _ H4.out.1
          simp only [List.getElem?_toArray, List.getElem?_cons_zero, List.getElem?_cons_succ] at k0 k1 k2
          have fk := fun o => frozen_of_row w4 g o _ _ H4.out.1
          go_wp2_with fail
          go_ret
          refine ReadL.mk (ps.map Prod.fst) (.slice Av ps.length cv) a1 true rfl ?_ ⟨HP.out, HK.out.1, HK.out.2.1, HCn.out⟩ ⟨set2r H4.out.1, H4.out.2⟩ (H5.out.trans (chg_setR _ _ _ _))
          exact OwnP.imp Ho4.out.own (Nat.le_refl _) (by simp [World.setCell]) fun q h1 _ => Below.heap_setCell w4 ⟨g, 2, none⟩ _ q (by show q ≠ g; omega)
        · have H4 := Lib.hid (show RS w4 g s (a1 + 1) true by have h := Hr4.out; rw [if_pos rfl] at h; exact h)
          have HP := Lib.hid HN.out
          go_wp2_with fail
          go_ret
          exact ReadL.mk (ps.map Prod.fst) (.slice Av ps.length cv) (a1 + 1) true rfl Ho4.out.own ⟨HP.out, HK.out.1, HK.out.2.1, HCn.out⟩ H4.out H5.out
end Go.Proofs.YtjogkbkkcaljhaaGreatDoor
namespace Go.Proofs.YtjogkbkkcaljhaaGreatDoor
open Go.Sort Go.ChangeShapes Go.WideShapes Go.ChangeAt Go.RowKit Go.Lb
theorem word_3 : word 3 = ⟨#[97, 110, 100, 40]⟩ := rfl
theorem word_4 : word 4 = ⟨#[111, 114, 40]⟩ := rfl
theorem word_5 : word 5 = ⟨#[110, 111, 116, 40]⟩ := rfl
set_option maxRecDepth 20000 in
set_option maxHeartbeats 16000000 in
theorem spec_l11Read_0 (cols : List Int) : ReadC cols 0 := by
  intro n s g a b w hn hr hs he
  have ha := hr.2
  have hgl : g < w.heap.size := (Array.getElem?_eq_some_iff.1 hr.1).1
  have hE := Lib.hid he
  have HRw := Lib.hid hr
  have up0 := up_a1 w (.cells #[.int .i64 0, .int .i64 0, .int .i64 0, .int .i64 0, .int .i64 0, .string ⟨#[]⟩, .slice none 0 0] 27)
  have g0 := heap_alloc_new w (.cells #[.int .i64 0, .int .i64 0, .int .i64 0, .int .i64 0, .int .i64 0, .string ⟨#[]⟩, .slice none 0 0] 27)
  have hs0 : (w.alloc (.cells #[.int .i64 0, .int .i64 0, .int .i64 0, .int .i64 0, .int .i64 0, .string ⟨#[]⟩, .slice none 0 0] 27)).heap.size = w.heap.size + 1 := by simp
  obtain ⟨W0, hW0⟩ : ∃ W0, w.alloc (.cells #[.int .i64 0, .int .i64 0, .int .i64 0, .int .i64 0, .int .i64 0, .string ⟨#[]⟩, .slice none 0 0] 27) = W0 := ⟨_, rfl⟩
  rw [hW0] at up0 g0 hs0
  have HW0 := Lib.hid hW0
  have HZ0 := Lib.hid g0
  have HR0 := Lib.hid (show RS W0 g s a b from ⟨(up0.block g hgl).trans hr.1, hr.2⟩)
  have HC0 := Lib.hid (chg_belowV (g := g) up0)
  clear hW0 up0 g0 hr he
  obtain rfl : n = 5 := by simpa using hn
  go_enter Tryz.func22, Tryz.ntmps22
  go_upto_region 1 with fail
  rw [HW0.out]
  clear HW0 hn
  have k0 := cell_of_row W0 (g) 0 _ _ _ HR0.out.1
  have k1 := cell_of_row W0 (g) 1 _ _ _ HR0.out.1
  have k2 := cell_of_row W0 (g) 2 _ _ _ HR0.out.1
  simp only [List.getElem?_toArray, List.getElem?_cons_zero, List.getElem?_cons_succ] at k0 k1 k2
  have fk := fun o => frozen_of_row W0 g o _ _ HR0.out.1
  go_upto_region 3 with fail
  have b0 : RS (W0.setCell ⟨g, 2, none⟩ (.bool true)) g s a true := ⟨set2r HR0.out.1, HR0.out.2⟩
  have b1 : (W0.setCell ⟨g, 2, none⟩ (.bool true)).heap[w.heap.size]? = some (.cells #[.int .i64 0, .int .i64 0, .int .i64 0, .int .i64 0, .int .i64 0, .string ⟨#[]⟩, .slice none 0 0] 27) := keepC (by omega) HZ0.out
  have b2 : Chg g (g + 1) w (W0.setCell ⟨g, 2, none⟩ (.bool true)) := HC0.out.trans (chg_setR _ _ _ _)
  obtain ⟨X, hX⟩ : ∃ X, (W0.setCell ⟨g, 2, none⟩ (.bool true)) = X := ⟨_, rfl⟩
  rw [hX] at b0 b1 b2
  have HRX := Lib.hid b0
  have HZX := Lib.hid b1
  have HCX := Lib.hid b2
  have HWX := Lib.hid hX
  clear b0 b1 b2 hX
  rw [HWX.out]
  clear HWX
  clear k0 k1 k2 fk
  have k0 := cell_of_row X (g) 0 _ _ _ HRX.out.1
  have k1 := cell_of_row X (g) 1 _ _ _ HRX.out.1
  have k2 := cell_of_row X (g) 2 _ _ _ HRX.out.1
  simp only [List.getElem?_toArray, List.getElem?_cons_zero, List.getElem?_cons_succ] at k0 k1 k2
  have r0 := cell_of_row X (w.heap.size) 0 _ _ _ HZX.out
  have r1 := cell_of_row X (w.heap.size) 1 _ _ _ HZX.out
  have r2 := cell_of_row X (w.heap.size) 2 _ _ _ HZX.out
  have r3 := cell_of_row X (w.heap.size) 3 _ _ _ HZX.out
  have r4 := cell_of_row X (w.heap.size) 4 _ _ _ HZX.out
  have r5 := cell_of_row X (w.heap.size) 5 _ _ _ HZX.out
  have r6 := cell_of_row X (w.heap.size) 6 _ _ _ HZX.out
  simp only [List.getElem?_toArray, List.getElem?_cons_zero, List.getElem?_cons_succ] at r0 r1 r2 r3 r4 r5 r6
  have f0 := fun o => frozen_of_row X w.heap.size o _ _ HZX.out
  go_wp2_with fail
  refine bodyPost_ret (v := .agg #[.int .i64 0, .int .i64 0, .int .i64 0, .int .i64 0, .int .i64 0, .string ⟨#[]⟩, .slice none 0 0]) ?_ rfl (ReadP.mk ⟨0, 0, 0, V.zero, []⟩ (.slice none 0 0) a true rfl ?_ ⟨readS_zero _ _ _ _ _ _, good_none.1, good_none.2, cnt_none _⟩ ⟨?_, HRX.out.2⟩ ?_)
  · simp [results, Tryz.results22, go_sem, r0, r1, r2, r3, r4, r5, r6]
  · exact ownP_none _ _ _ _
  · iterate 7 refine keepC (by omega) ?_
    exact HRX.out.1
  · iterate 7 refine chg_setZ ?_ (Nat.le_refl _) _
    exact HCX.out
set_option maxRecDepth 20000 in
set_option maxHeartbeats 16000000 in
theorem spec_l11Read_s (cols : List Int) (k : Nat) (hk4 : k ≤ 3) (ih : PartsC cols k) : ReadC cols (k + 1) := by
  have IH := Lib.hid ih
  clear ih
  intro n s g a b w hn hr hs he
  have ha := hr.2
  have hgl : g < w.heap.size := (Array.getElem?_eq_some_iff.1 hr.1).1
  have hE := Lib.hid he
  have HRw := Lib.hid hr
  have up0 := up_a1 w (.cells #[.int .i64 0, .int .i64 0, .int .i64 0, .int .i64 0, .int .i64 0, .string ⟨#[]⟩, .slice none 0 0] 27)
  have g0 := heap_alloc_new w (.cells #[.int .i64 0, .int .i64 0, .int .i64 0, .int .i64 0, .int .i64 0, .string ⟨#[]⟩, .slice none 0 0] 27)
  have hs0 : (w.alloc (.cells #[.int .i64 0, .int .i64 0, .int .i64 0, .int .i64 0, .int .i64 0, .string ⟨#[]⟩, .slice none 0 0] 27)).heap.size = w.heap.size + 1 := by simp
  obtain ⟨W0, hW0⟩ : ∃ W0, w.alloc (.cells #[.int .i64 0, .int .i64 0, .int .i64 0, .int .i64 0, .int .i64 0, .string ⟨#[]⟩, .slice none 0 0] 27) = W0 := ⟨_, rfl⟩
  rw [hW0] at up0 g0 hs0
  have HW0 := Lib.hid hW0
  have HZ0 := Lib.hid g0
  have HR0 := Lib.hid (show RS W0 g s a b from ⟨(up0.block g hgl).trans hr.1, hr.2⟩)
  have HC0 := Lib.hid (chg_belowV (g := g) up0)
  clear hW0 up0 g0 hr he
  have hdn : decide (4 < n) = false := decide_eq_false (by omega)
  have Hn := Lib.hid hn
  clear hn
  go_enter Tryz.func22, Tryz.ntmps22
  go_upto_region 1 with fail
  rw [HW0.out]
  clear HW0
  have k0 := cell_of_row W0 (g) 0 _ _ _ HR0.out.1
  have k1 := cell_of_row W0 (g) 1 _ _ _ HR0.out.1
  have k2 := cell_of_row W0 (g) 2 _ _ _ HR0.out.1
  simp only [List.getElem?_toArray, List.getElem?_cons_zero, List.getElem?_cons_succ] at k0 k1 k2
  cases b
  · go_wp2_with fail
    have HIs := spec_l11Is s ⟨#[97, 108, 108]⟩ g a false W0 HR0.out hs (by decide)
    obtain ⟨bi, hbi⟩ : ∃ bi, isAt s a false ⟨#[97, 108, 108]⟩ = bi := ⟨_, rfl⟩
    rw [hbi] at HIs
    have HIs := Lib.hid HIs
    have HB0 := Lib.hid hbi
    clear hbi k0 k1 k2
    refine HIs.out.mono ?_
    rintro e w1 ⟨rfl, hr, hc⟩
    have hs1 := hc.size
    have HZ1 := Lib.hid ((hc.block w.heap.size (by omega) (by omega)).trans HZ0.out)
    have HC1 := Lib.hid (HC0.out.trans hc)
    have Hr := Lib.hid hr
    clear hr hc HIs
    cases bi
    · have HR1 := Lib.hid (show RS w1 g s a false by have h := Hr.out; rw [if_neg (by simp)] at h; exact h)
      clear Hr
      have HIs := spec_l11Is s ⟨#[97, 110, 100, 40]⟩ g a false w1 HR1.out hs (by decide)
      obtain ⟨bi, hbi⟩ : ∃ bi, isAt s a false ⟨#[97, 110, 100, 40]⟩ = bi := ⟨_, rfl⟩
      rw [hbi] at HIs
      have HIs := Lib.hid HIs
      have HB1 := Lib.hid hbi
      clear hbi
      go_wp2_with fail
      refine HIs.out.mono ?_
      rintro e w2 ⟨rfl, hr, hc⟩
      have hs2 := hc.size
      have HZ2 := Lib.hid ((hc.block w.heap.size (by omega) (by omega)).trans HZ1.out)
      have HC2 := Lib.hid (HC1.out.trans hc)
      have Hr := Lib.hid hr
      clear hr hc HIs
      cases bi
      · have HR2 := Lib.hid (show RS w2 g s a false by have h := Hr.out; rw [if_neg (by simp)] at h; exact h)
        clear Hr
        have HIs := spec_l11Is s ⟨#[111, 114, 40]⟩ g a false w2 HR2.out hs (by decide)
        obtain ⟨bi, hbi⟩ : ∃ bi, isAt s a false ⟨#[111, 114, 40]⟩ = bi := ⟨_, rfl⟩
        rw [hbi] at HIs
        have HIs := Lib.hid HIs
        have HB2 := Lib.hid hbi
        clear hbi
        go_wp2_with fail
        refine HIs.out.mono ?_
        rintro e w3 ⟨rfl, hr, hc⟩
        have hs3 := hc.size
        have HZ3 := Lib.hid ((hc.block w.heap.size (by omega) (by omega)).trans HZ2.out)
        have HC3 := Lib.hid (HC2.out.trans hc)
        have Hr := Lib.hid hr
        clear hr hc HIs
        cases bi
        · have HR3 := Lib.hid (show RS w3 g s a false by have h := Hr.out; rw [if_neg (by simp)] at h; exact h)
          clear Hr
          have HIs := spec_l11Is s ⟨#[110, 111, 116, 40]⟩ g a false w3 HR3.out hs (by decide)
          obtain ⟨bi, hbi⟩ : ∃ bi, isAt s a false ⟨#[110, 111, 116, 40]⟩ = bi := ⟨_, rfl⟩
          rw [hbi] at HIs
          have HIs := Lib.hid HIs
          have HB3 := Lib.hid hbi
          clear hbi
          go_wp2_with fail
          refine HIs.out.mono ?_
          rintro e w4 ⟨rfl, hr, hc⟩
          have hs4 := hc.size
          have HZ4 := Lib.hid ((hc.block w.heap.size (by omega) (by omega)).trans HZ3.out)
          have HC4 := Lib.hid (HC3.out.trans hc)
          have Hr := Lib.hid hr
          clear hr hc HIs
          cases bi
          · have HR4 := Lib.hid (show RS w4 g s a false by have h := Hr.out; rw [if_neg (by simp)] at h; exact h)
            clear Hr
            have HIs := spec_l11Is s ⟨#[99]⟩ g a false w4 HR4.out hs (by decide)
            obtain ⟨bi, hbi⟩ : ∃ bi, isAt s a false ⟨#[99]⟩ = bi := ⟨_, rfl⟩
            rw [hbi] at HIs
            have HIs := Lib.hid HIs
            have HB4 := Lib.hid hbi
            clear hbi
            go_wp2_with fail
            refine HIs.out.mono ?_
            rintro e w5 ⟨rfl, hr, hc⟩
            have hs5 := hc.size
            have HZ5 := Lib.hid ((hc.block w.heap.size (by omega) (by omega)).trans HZ4.out)
            have HC5 := Lib.hid (HC4.out.trans hc)
            have Hr := Lib.hid hr
            clear hr hc HIs
            cases bi
            · have HR5 := Lib.hid (show RS w5 g s a false by have h := Hr.out; rw [if_neg (by simp)] at h; exact h)
              clear Hr
              have fk := fun o => frozen_of_row w5 g o _ _ HR5.out.1
              have k0 := cell_of_row w5 (g) 0 _ _ _ HR5.out.1
              have k1 := cell_of_row w5 (g) 1 _ _ _ HR5.out.1
              have k2 := cell_of_row w5 (g) 2 _ _ _ HR5.out.1
              simp only [List.getElem?_toArray, List.getElem?_cons_zero, List.getElem?_cons_succ] at k0 k1 k2
              go_upto_region 16 with fail
              have b0 : RS (w5.setCell ⟨g, 2, none⟩ (.bool true)) g s a true := ⟨set2r HR5.out.1, HR5.out.2⟩
              have b1 : (w5.setCell ⟨g, 2, none⟩ (.bool true)).heap[w.heap.size]? = some (.cells #[.int .i64 0, .int .i64 0, .int .i64 0, .int .i64 0, .int .i64 0, .string ⟨#[]⟩, .slice none 0 0] 27) := keepC (by omega) HZ5.out
              have b2 : Chg g (g + 1) w (w5.setCell ⟨g, 2, none⟩ (.bool true)) := HC5.out.trans (chg_setR _ _ _ _)
              obtain ⟨X, hX⟩ : ∃ X, (w5.setCell ⟨g, 2, none⟩ (.bool true)) = X := ⟨_, rfl⟩
              rw [hX] at b0 b1 b2
              have HRX := Lib.hid b0
              have HZX := Lib.hid b1
              have HCX := Lib.hid b2
              have HWX := Lib.hid hX
              clear b0 b1 b2 hX
              rw [HWX.out]
              clear HWX
              clear k0 k1 k2 fk
              have r0 := cell_of_row X (w.heap.size) 0 _ _ _ HZX.out
              have r1 := cell_of_row X (w.heap.size) 1 _ _ _ HZX.out
              have r2 := cell_of_row X (w.heap.size) 2 _ _ _ HZX.out
              have r3 := cell_of_row X (w.heap.size) 3 _ _ _ HZX.out
              have r4 := cell_of_row X (w.heap.size) 4 _ _ _ HZX.out
              have r5 := cell_of_row X (w.heap.size) 5 _ _ _ HZX.out
              have r6 := cell_of_row X (w.heap.size) 6 _ _ _ HZX.out
              simp only [List.getElem?_toArray, List.getElem?_cons_zero, List.getElem?_cons_succ] at r0 r1 r2 r3 r4 r5 r6
              have f0 := fun o => frozen_of_row X w.heap.size o _ _ HZX.out
              go_wp2_with fail
              refine bodyPost_ret (v := .agg #[.int .i64 0, .int .i64 0, .int .i64 0, .int .i64 0, .int .i64 0, .string ⟨#[]⟩, .slice none 0 0]) ?_ rfl (ReadP.mk ⟨0, 0, 0, V.zero, []⟩ (.slice none 0 0) a true rfl ?_ ⟨readS_none HB0.out HB1.out HB2.out HB3.out HB4.out _ _ _, good_none.1, good_none.2, cnt_none _⟩ ⟨?_, HRX.out.2⟩ ?_)
              · simp [results, Tryz.results22, go_sem, r0, r1, r2, r3, r4, r5, r6]
              · exact ownP_none _ _ _ _
              · iterate 7 refine keepC (by omega) ?_
                exact HRX.out.1
              · iterate 7 refine chg_setZ ?_ (Nat.le_refl _) _
                exact HCX.out
            · have HR5 := Lib.hid (show RS w5 g s (a + 1) false by have h := Hr.out; rw [if_pos rfl] at h; exact h)
              clear Hr
              go_wp2_with fail
              refine (spec_l11Cmp cols s g (a + 1) false w5 HR5.out hs (hE.out.chg HRw.out HC5.out)).mono ?_
              rintro e w9 ⟨p, a9, b9, rfl, HX, hr9, hc9⟩
              have HZ9 := Lib.hid ((hc9.block w.heap.size (by omega) (by omega)).trans HZ5.out)
              have HC9 := Lib.hid (HC5.out.trans hc9)
              have HR9 := Lib.hid hr9
              have hs9 := hc9.size
              clear hr9 hc9
              have r0 := cell_of_row w9 (w.heap.size) 0 _ _ _ HZ9.out
              have r1 := cell_of_row w9 (w.heap.size) 1 _ _ _ HZ9.out
              have r2 := cell_of_row w9 (w.heap.size) 2 _ _ _ HZ9.out
              have r3 := cell_of_row w9 (w.heap.size) 3 _ _ _ HZ9.out
              have r4 := cell_of_row w9 (w.heap.size) 4 _ _ _ HZ9.out
              have r5 := cell_of_row w9 (w.heap.size) 5 _ _ _ HZ9.out
              have r6 := cell_of_row w9 (w.heap.size) 6 _ _ _ HZ9.out
              simp only [List.getElem?_toArray, List.getElem?_cons_zero, List.getElem?_cons_succ] at r0 r1 r2 r3 r4 r5 r6
              have f0 := fun o => frozen_of_row w9 w.heap.size o _ _ HZ9.out
              go_wp2_with fail
              refine bodyPost_ret (v := .agg #[.int .i64 p.kind, .int .i64 p.col, .int .i64 p.op, .int .i64 p.v.ty, .int .i64 p.v.n, .string p.v.s, .slice none 0 0]) ?_ rfl (ReadP.mk p (.slice none 0 0) a9 b9 rfl ?_ ⟨readS_cmp HB4.out HX.out.1, ⟨Nat.le_trans HX.out.2.2.1 (by decide), by rw [HX.out.2.1]; exact POks.nil⟩, ⟨⟨by have := HX.out.2.2.2.1; omega, by have := HX.out.2.2.2.2; omega⟩, by rw [HX.out.2.1]; exact PIns.nil⟩, by rw [HX.out.2.1, cntP_nil]; exact Nat.zero_le _⟩ ⟨?_, HR9.out.2⟩ ?_)
              · simp [results, Tryz.results22, go_sem, r0, r1, r2, r3, r4, r5, r6]
              · rw [HX.out.2.1]; exact ownP_none _ _ _ _
              · iterate 7 refine keepC (by omega) ?_
                exact HR9.out.1
              · iterate 7 refine chg_setZ ?_ (Nat.le_refl _) _
                exact HC9.out
          · have HR4 := Lib.hid (show RS w4 g s (a + 4) false by have h := Hr.out; rw [if_pos rfl] at h; exact h)
            clear Hr
            go_wp2_with fail
            refine (IH.out n s g (a + 4) false w4 Hn.out HR4.out hs (hE.out.chg HRw.out HC4.out)).mono ?_
            rintro e w9 ⟨l, sv, a9, b9, rfl, hop, HX, hr9, hc9⟩
            obtain ⟨As, cs, rfl, -, -⟩ := hop.rdP.form
            have HZ9 := Lib.hid ((hc9.block w.heap.size (by omega) (by omega)).trans HZ4.out)
            have HC9 := Lib.hid (HC4.out.trans hc9)
            have HR9 := Lib.hid hr9
            have hs9 := hc9.size
            have Hop := Lib.hid hop
            clear hr9 hc9 hop
            have r0 := cell_of_row w9 (w.heap.size) 0 _ _ _ HZ9.out
            have r1 := cell_of_row w9 (w.heap.size) 1 _ _ _ HZ9.out
            have r2 := cell_of_row w9 (w.heap.size) 2 _ _ _ HZ9.out
            have r3 := cell_of_row w9 (w.heap.size) 3 _ _ _ HZ9.out
            have r4 := cell_of_row w9 (w.heap.size) 4 _ _ _ HZ9.out
            have r5 := cell_of_row w9 (w.heap.size) 5 _ _ _ HZ9.out
            have r6 := cell_of_row w9 (w.heap.size) 6 _ _ _ HZ9.out
            simp only [List.getElem?_toArray, List.getElem?_cons_zero, List.getElem?_cons_succ] at r0 r1 r2 r3 r4 r5 r6
            have f0 := fun o => frozen_of_row w9 w.heap.size o _ _ HZ9.out
            go_wp2_with fail
            refine bodyPost_ret (v := .agg #[.int .i64 5, .int .i64 0, .int .i64 0, .int .i64 0, .int .i64 0, .string ⟨#[]⟩, .slice As l.length cs]) ?_ rfl (ReadP.mk ⟨5, 0, 0, V.zero, l⟩ (.slice As l.length cs) a9 b9 rfl ?_ ⟨readS_ops (.inr (.inr rfl)) HB3.out HX.out.1, ⟨Nat.zero_le _, HX.out.2.1⟩, ⟨⟨show (-9223372036854775808 : Int) ≤ 0 by decide, show (0 : Int) ≤ 9223372036854775807 by decide⟩, HX.out.2.2.1⟩, HX.out.2.2.2⟩ ⟨?_, HR9.out.2⟩ ?_)
            · simp [results, Tryz.results22, go_sem, r0, r1, r2, r3, r4, r5, r6]
            · refine OwnP.imp Hop.out (by omega) (by simp [World.setCell]) fun q h1 h2 => ?_
              have hne : q ≠ w.heap.size := by omega
              iterate 7 rw [Below.heap_setCell _ ⟨w.heap.size, _, none⟩ _ q hne]
            · iterate 7 refine keepC (by omega) ?_
              exact HR9.out.1
            · iterate 7 refine chg_setZ ?_ (Nat.le_refl _) _
              exact HC9.out
        · have HR3 := Lib.hid (show RS w3 g s (a + 3) false by have h := Hr.out; rw [if_pos rfl] at h; exact h)
          clear Hr
          go_wp2_with fail
          refine (IH.out n s g (a + 3) false w3 Hn.out HR3.out hs (hE.out.chg HRw.out HC3.out)).mono ?_
          rintro e w9 ⟨l, sv, a9, b9, rfl, hop, HX, hr9, hc9⟩
          obtain ⟨As, cs, rfl, -, -⟩ := hop.rdP.form
          have HZ9 := Lib.hid ((hc9.block w.heap.size (by omega) (by omega)).trans HZ3.out)
          have HC9 := Lib.hid (HC3.out.trans hc9)
          have HR9 := Lib.hid hr9
          have hs9 := hc9.size
          have Hop := Lib.hid hop
          clear hr9 hc9 hop
          have r0 := cell_of_row w9 (w.heap.size) 0 _ _ _ HZ9.out
          have r1 := cell_of_row w9 (w.heap.size) 1 _ _ _ HZ9.out
          have r2 := cell_of_row w9 (w.heap.size) 2 _ _ _ HZ9.out
          have r3 := cell_of_row w9 (w.heap.size) 3 _ _ _ HZ9.out
          have r4 := cell_of_row w9 (w.heap.size) 4 _ _ _ HZ9.out
          have r5 := cell_of_row w9 (w.heap.size) 5 _ _ _ HZ9.out
          have r6 := cell_of_row w9 (w.heap.size) 6 _ _ _ HZ9.out
          simp only [List.getElem?_toArray, List.getElem?_cons_zero, List.getElem?_cons_succ] at r0 r1 r2 r3 r4 r5 r6
          have f0 := fun o => frozen_of_row w9 w.heap.size o _ _ HZ9.out
          go_wp2_with fail
          refine bodyPost_ret (v := .agg #[.int .i64 4, .int .i64 0, .int .i64 0, .int .i64 0, .int .i64 0, .string ⟨#[]⟩, .slice As l.length cs]) ?_ rfl (ReadP.mk ⟨4, 0, 0, V.zero, l⟩ (.slice As l.length cs) a9 b9 rfl ?_ ⟨readS_ops (.inr (.inl rfl)) HB2.out HX.out.1, ⟨Nat.zero_le _, HX.out.2.1⟩, ⟨⟨show (-9223372036854775808 : Int) ≤ 0 by decide, show (0 : Int) ≤ 9223372036854775807 by decide⟩, HX.out.2.2.1⟩, HX.out.2.2.2⟩ ⟨?_, HR9.out.2⟩ ?_)
          · simp [results, Tryz.results22, go_sem, r0, r1, r2, r3, r4, r5, r6]
          · refine OwnP.imp Hop.out (by omega) (by simp [World.setCell]) fun q h1 h2 => ?_
            have hne : q ≠ w.heap.size := by omega
            iterate 7 rw [Below.heap_setCell _ ⟨w.heap.size, _, none⟩ _ q hne]
          · iterate 7 refine keepC (by omega) ?_
            exact HR9.out.1
          · iterate 7 refine chg_setZ ?_ (Nat.le_refl _) _
            exact HC9.out
      · have HR2 := Lib.hid (show RS w2 g s (a + 4) false by have h := Hr.out; rw [if_pos rfl] at h; exact h)
        clear Hr
        go_wp2_with fail
        refine (IH.out n s g (a + 4) false w2 Hn.out HR2.out hs (hE.out.chg HRw.out HC2.out)).mono ?_
        rintro e w9 ⟨l, sv, a9, b9, rfl, hop, HX, hr9, hc9⟩
        obtain ⟨As, cs, rfl, -, -⟩ := hop.rdP.form
        have HZ9 := Lib.hid ((hc9.block w.heap.size (by omega) (by omega)).trans HZ2.out)
        have HC9 := Lib.hid (HC2.out.trans hc9)
        have HR9 := Lib.hid hr9
        have hs9 := hc9.size
        have Hop := Lib.hid hop
        clear hr9 hc9 hop
        have r0 := cell_of_row w9 (w.heap.size) 0 _ _ _ HZ9.out
        have r1 := cell_of_row w9 (w.heap.size) 1 _ _ _ HZ9.out
        have r2 := cell_of_row w9 (w.heap.size) 2 _ _ _ HZ9.out
        have r3 := cell_of_row w9 (w.heap.size) 3 _ _ _ HZ9.out
        have r4 := cell_of_row w9 (w.heap.size) 4 _ _ _ HZ9.out
        have r5 := cell_of_row w9 (w.heap.size) 5 _ _ _ HZ9.out
        have r6 := cell_of_row w9 (w.heap.size) 6 _ _ _ HZ9.out
        simp only [List.getElem?_toArray, List.getElem?_cons_zero, List.getElem?_cons_succ] at r0 r1 r2 r3 r4 r5 r6
        have f0 := fun o => frozen_of_row w9 w.heap.size o _ _ HZ9.out
        go_wp2_with fail
        refine bodyPost_ret (v := .agg #[.int .i64 3, .int .i64 0, .int .i64 0, .int .i64 0, .int .i64 0, .string ⟨#[]⟩, .slice As l.length cs]) ?_ rfl (ReadP.mk ⟨3, 0, 0, V.zero, l⟩ (.slice As l.length cs) a9 b9 rfl ?_ ⟨readS_ops (.inl rfl) HB1.out HX.out.1, ⟨Nat.zero_le _, HX.out.2.1⟩, ⟨⟨show (-9223372036854775808 : Int) ≤ 0 by decide, show (0 : Int) ≤ 9223372036854775807 by decide⟩, HX.out.2.2.1⟩, HX.out.2.2.2⟩ ⟨?_, HR9.out.2⟩ ?_)
        · simp [results, Tryz.results22, go_sem, r0, r1, r2, r3, r4, r5, r6]
        · refine OwnP.imp Hop.out (by omega) (by simp [World.setCell]) fun q h1 h2 => ?_
          have hne : q ≠ w.heap.size := by omega
          iterate 7 rw [Below.heap_setCell _ ⟨w.heap.size, _, none⟩ _ q hne]
        · iterate 7 refine keepC (by omega) ?_
          exact HR9.out.1
        · iterate 7 refine chg_setZ ?_ (Nat.le_refl _) _
          exact HC9.out
    · have HR1 := Lib.hid (show RS w1 g s (a + 3) false by have h := Hr.out; rw [if_pos rfl] at h; exact h)
      clear Hr
      have r0 := cell_of_row w1 (w.heap.size) 0 _ _ _ HZ1.out
      have r1 := cell_of_row w1 (w.heap.size) 1 _ _ _ HZ1.out
      have r2 := cell_of_row w1 (w.heap.size) 2 _ _ _ HZ1.out
      have r3 := cell_of_row w1 (w.heap.size) 3 _ _ _ HZ1.out
      have r4 := cell_of_row w1 (w.heap.size) 4 _ _ _ HZ1.out
      have r5 := cell_of_row w1 (w.heap.size) 5 _ _ _ HZ1.out
      have r6 := cell_of_row w1 (w.heap.size) 6 _ _ _ HZ1.out
      simp only [List.getElem?_toArray, List.getElem?_cons_zero, List.getElem?_cons_succ] at r0 r1 r2 r3 r4 r5 r6
      have f0 := fun o => frozen_of_row w1 w.heap.size o _ _ HZ1.out
      go_wp2_with fail
      refine bodyPost_ret (v := .agg #[.int .i64 1, .int .i64 0, .int .i64 0, .int .i64 0, .int .i64 0, .string ⟨#[]⟩, .slice none 0 0]) ?_ rfl (ReadP.mk ⟨1, 0, 0, V.zero, []⟩ (.slice none 0 0) (a + 3) false rfl ?_ ⟨readS_all HB0.out, ⟨Nat.zero_le _, POks.nil⟩, ⟨⟨show (-9223372036854775808 : Int) ≤ 0 by decide, show (0 : Int) ≤ 9223372036854775807 by decide⟩, PIns.nil⟩, by show cntP [] ≤ _; rw [cntP_nil]; exact Nat.zero_le _⟩ ⟨?_, HR1.out.2⟩ ?_)
      · simp [results, Tryz.results22, go_sem, r0, r1, r2, r3, r4, r5, r6]
      · exact ownP_none _ _ _ _
      · iterate 7 refine keepC (by omega) ?_
        exact HR1.out.1
      · iterate 7 refine chg_setZ ?_ (Nat.le_refl _) _
        exact HC1.out
  · clear k0 k1
    have r0 := cell_of_row W0 (w.heap.size) 0 _ _ _ HZ0.out
    have r1 := cell_of_row W0 (w.heap.size) 1 _ _ _ HZ0.out
    have r2 := cell_of_row W0 (w.heap.size) 2 _ _ _ HZ0.out
    have r3 := cell_of_row W0 (w.heap.size) 3 _ _ _ HZ0.out
    have r4 := cell_of_row W0 (w.heap.size) 4 _ _ _ HZ0.out
    have r5 := cell_of_row W0 (w.heap.size) 5 _ _ _ HZ0.out
    have r6 := cell_of_row W0 (w.heap.size) 6 _ _ _ HZ0.out
    simp only [List.getElem?_toArray, List.getElem?_cons_zero, List.getElem?_cons_succ] at r0 r1 r2 r3 r4 r5 r6
    have f0 := fun o => frozen_of_row W0 w.heap.size o _ _ HZ0.out
    go_wp2_with fail
    refine bodyPost_ret (v := .agg #[.int .i64 0, .int .i64 0, .int .i64 0, .int .i64 0, .int .i64 0, .string ⟨#[]⟩, .slice none 0 0]) ?_ rfl (ReadP.mk ⟨0, 0, 0, V.zero, []⟩ (.slice none 0 0) a true rfl ?_ ⟨readS_bad _ _ _ _ _, good_none.1, good_none.2, cnt_none _⟩ ⟨?_, HR0.out.2⟩ ?_)
    · simp [results, Tryz.results22, go_sem, r0, r1, r2, r3, r4, r5, r6]
    · exact ownP_none _ _ _ _
    · iterate 7 refine keepC (by omega) ?_
      exact HR0.out.1
    · iterate 7 refine chg_setZ ?_ (Nat.le_refl _) _
      exact HC0.out
theorem spec_l11Read (cols : List Int) : ∀ k, k ≤ 4 → ReadC cols k
  | 0, _ => spec_l11Read_0 cols
  | k + 1, h => spec_l11Read_s cols k (by omega) (spec_l11Parts cols k (by omega) (spec_l11Read cols k (by omega)))
end Go.Proofs.YtjogkbkkcaljhaaGreatDoor
namespace Go.Proofs.YtjogkbkkcaljhaaGreatDoor
open Go.Sort Go.ChangeShapes Go.WideShapes Go.ChangeAt Go.RowKit Go.Lb
theorem predOk_len {cols : List Int} {p : P} (h : predOk cols p = true) : cols.length ≤ 3 ∧ cntP p.l ≤ 340 := by
  unfold predOk at h
  simp only [Bool.and_eq_true, colsOk, inR, decide_eq_true_eq] at h
  omega
set_option maxRecDepth 20000 in
set_option maxHeartbeats 16000000 in
theorem spec_ParsePred (cols : List Int) (cv : Value) (s : ByteArray) (w : World) {lo hi : Nat} (hx : RdI w lo hi cv cols) (hhi : hi ≤ w.heap.size) (hs : s.size ≤ 1048576) (he : EnvP w) :
    Calls Tryz.prog 5 #[cv, .string s] w fun e w' => ParseP (PredG cols s) w e w' := by
  obtain ⟨Ac, cc, rfl, -, -⟩ := hx.form
  have up := up_a2 w (.cells #[.int .i64 0, .int .i64 0, .int .i64 0, .int .i64 0, .int .i64 0, .string ⟨#[]⟩, .slice none 0 0] 27) (.cells #[.string s, .int .i64 0, .bool false] 49)
  have G0 := Lib.hid (show ((w.alloc (.cells #[.int .i64 0, .int .i64 0, .int .i64 0, .int .i64 0, .int .i64 0, .string ⟨#[]⟩, .slice none 0 0] 27)).alloc (.cells #[.string s, .int .i64 0, .bool false] 49)).heap[w.heap.size]? = some _ from alloc_oldQ (heap_alloc_new w (.cells #[.int .i64 0, .int .i64 0, .int .i64 0, .int .i64 0, .int .i64 0, .string ⟨#[]⟩, .slice none 0 0] 27)))
  have G1 := Lib.hid (show ((w.alloc (.cells #[.int .i64 0, .int .i64 0, .int .i64 0, .int .i64 0, .int .i64 0, .string ⟨#[]⟩, .slice none 0 0] 27)).alloc (.cells #[.string s, .int .i64 0, .bool false] 49)).heap[w.heap.size + 1]? = some (.cells #[.string s, .int .i64 0, .bool false] 49) by have h := heap_alloc_new (w.alloc (.cells #[.int .i64 0, .int .i64 0, .int .i64 0, .int .i64 0, .int .i64 0, .string ⟨#[]⟩, .slice none 0 0] 27)) (.cells #[.string s, .int .i64 0, .bool false] 49); rw [World.size_alloc] at h; exact h)
  have hs0 : ((w.alloc (.cells #[.int .i64 0, .int .i64 0, .int .i64 0, .int .i64 0, .int .i64 0, .string ⟨#[]⟩, .slice none 0 0] 27)).alloc (.cells #[.string s, .int .i64 0, .bool false] 49)).heap.size = w.heap.size + 1 + 1 := by simp
  have Hx := Lib.hid (hx.below up hhi)
  obtain ⟨W0, hW0⟩ : ∃ W0, ((w.alloc (.cells #[.int .i64 0, .int .i64 0, .int .i64 0, .int .i64 0, .int .i64 0, .string ⟨#[]⟩, .slice none 0 0] 27)).alloc (.cells #[.string s, .int .i64 0, .bool false] 49)) = W0 := ⟨_, rfl⟩
  rw [hW0] at up G0 G1 hs0 Hx
  have HW0 := Lib.hid hW0
  have UP := Lib.hid up
  have HE := Lib.hid (he.below up)
  have HPP := Lib.hid (spec_l11Read cols 4 (by decide) 1 s (w.heap.size + 1) 0 false W0 (by decide) ⟨G1.out, Nat.zero_le _⟩ hs HE.out)
  clear hW0 up he hx
  go_enter Tryz.func5, Tryz.ntmps5
  go_wp2_with fail
  rw [HW0.out]
  clear HW0
  refine HPP.out.mono ?_
  clear HPP
  rintro e w2 ⟨p, sv, a9, b9, rfl, hop, HR, hr2, hc2⟩
  obtain ⟨As, cs, rfl, -, -⟩ := hop.rdP.form
  have hz2 := hc2.size
  have hb2 : Below w.heap.size W0 w2 := hc2.below (by omega) (by omega)
  have hupx := up_a1 w2 (.cells #[.int .i64 p.kind, .int .i64 p.col, .int .i64 p.op, .int .i64 p.v.ty, .int .i64 p.v.n, .string p.v.s, .slice As p.l.length cs] 27)
  have hsx : (w2.alloc (.cells #[.int .i64 p.kind, .int .i64 p.col, .int .i64 p.op, .int .i64 p.v.ty, .int .i64 p.v.n, .string p.v.s, .slice As p.l.length cs] 27)).heap.size = w2.heap.size + 1 := by simp
  obtain ⟨X, hX⟩ : ∃ X, w2.alloc (.cells #[.int .i64 p.kind, .int .i64 p.col, .int .i64 p.op, .int .i64 p.v.ty, .int .i64 p.v.n, .string p.v.s, .slice As p.l.length cs] 27) = X := ⟨_, rfl⟩
  have gx := heap_alloc_new w2 (.cells #[.int .i64 p.kind, .int .i64 p.col, .int .i64 p.op, .int .i64 p.v.ty, .int .i64 p.v.n, .string p.v.s, .slice As p.l.length cs] 27)
  rw [hX] at hupx hsx gx
  have G0x := Lib.hid ((hupx.block w.heap.size (by omega)).trans ((hc2.block w.heap.size (by omega) (by omega)).trans G0.out))
  have GR := Lib.hid (show X.heap[w.heap.size + 1]? = some _ from (hupx.block (w.heap.size + 1) (by omega)).trans hr2.1)
  have GX := Lib.hid gx
  have HBx := Lib.hid ((UP.out.trans hb2).trans (hupx.mono (by omega)))
  have HX := Lib.hid hX
  have Hop := Lib.hid (hop.below hupx (Nat.le_refl _))
  have HEx := Lib.hid ((HE.out.chg ⟨G1.out, Nat.zero_le _⟩ hc2).below hupx)
  have Hxx := Lib.hid ((Hx.out.below hb2 hhi).below hupx (by omega))
  have HOne := Lib.hid (show ∀ p', predOk cols p' = true → predT p' = s → b9 = false ∧ p = p' from fun p' h e => by
    obtain ⟨h1, h2, -⟩ := HR.out.1 rfl (predOk_len h).1 p' [] (predOk_deep4 h) stop_nil (by rw [e, List.append_nil]; rfl)
    exact ⟨by simpa using h1, h2⟩)
  have hz3 : w.heap.size + 1 + 1 ≤ w2.heap.size := by omega
  have q0 := cell_of_row X (w2.heap.size) 0 _ _ _ GX.out
  have q1 := cell_of_row X (w2.heap.size) 1 _ _ _ GX.out
  have q2 := cell_of_row X (w2.heap.size) 2 _ _ _ GX.out
  have q3 := cell_of_row X (w2.heap.size) 3 _ _ _ GX.out
  have q4 := cell_of_row X (w2.heap.size) 4 _ _ _ GX.out
  have q5 := cell_of_row X (w2.heap.size) 5 _ _ _ GX.out
  have q6 := cell_of_row X (w2.heap.size) 6 _ _ _ GX.out
  simp only [List.getElem?_toArray, List.getElem?_cons_zero, List.getElem?_cons_succ] at q0 q1 q2 q3 q4 q5 q6
  have r0 := cell_of_row X (w.heap.size) 0 _ _ _ G0x.out
  have r1 := cell_of_row X (w.heap.size) 1 _ _ _ G0x.out
  have r2 := cell_of_row X (w.heap.size) 2 _ _ _ G0x.out
  have r3 := cell_of_row X (w.heap.size) 3 _ _ _ G0x.out
  have r4 := cell_of_row X (w.heap.size) 4 _ _ _ G0x.out
  have r5 := cell_of_row X (w.heap.size) 5 _ _ _ G0x.out
  have r6 := cell_of_row X (w.heap.size) 6 _ _ _ G0x.out
  simp only [List.getElem?_toArray, List.getElem?_cons_zero, List.getElem?_cons_succ] at r0 r1 r2 r3 r4 r5 r6
  have k0 := cell_of_row X (w.heap.size + 1) 0 _ _ _ GR.out
  have k1 := cell_of_row X (w.heap.size + 1) 1 _ _ _ GR.out
  have k2 := cell_of_row X (w.heap.size + 1) 2 _ _ _ GR.out
  simp only [List.getElem?_toArray, List.getElem?_cons_zero, List.getElem?_cons_succ] at k0 k1 k2
  have f0 := fun o => frozen_of_row X w.heap.size o _ _ G0x.out
  clear hX gx hupx hc2 hop hb2 hr2
  go_upto_region 3 with fail
  rw [HX.out]
  clear HX
  cases b9
  · have HPO := Lib.hid (spec_PredOk cols (.slice Ac cols.length cc) p (.slice As p.l.length cs) X Hxx.out (by omega) Hop.out.rdP (by omega) HR.out.2.1 (Nat.le_trans HR.out.2.2.2 (by decide)))
    cases hpo : predOk cols p
    · rw [hpo] at HPO
      have HN := Lib.hid (predG_no (cols := cols) (s := s) fun p' h e => by
        have := (HOne.out p' h e).2
        rw [this, h] at hpo
        cases hpo)
      clear hpo
      go_wp2_with fail
      refine HPO.out.mono ?_
      rintro e w3 ⟨rfl, hb3⟩
      clear q0 q1 q2 q3 q4 q5 q6 r0 r1 r2 r3 r4 r5 r6 k0 k1 k2 f0
      have Hb3 := Lib.hid hb3
      have g2 := (Hb3.out.block w.heap.size (by omega)).trans G0x.out
      have r0 := cell_of_row w3 (w.heap.size) 0 _ _ _ g2
      have r1 := cell_of_row w3 (w.heap.size) 1 _ _ _ g2
      have r2 := cell_of_row w3 (w.heap.size) 2 _ _ _ g2
      have r3 := cell_of_row w3 (w.heap.size) 3 _ _ _ g2
      have r4 := cell_of_row w3 (w.heap.size) 4 _ _ _ g2
      have r5 := cell_of_row w3 (w.heap.size) 5 _ _ _ g2
      have r6 := cell_of_row w3 (w.heap.size) 6 _ _ _ g2
      simp only [List.getElem?_toArray, List.getElem?_cons_zero, List.getElem?_cons_succ] at r0 r1 r2 r3 r4 r5 r6
      have f0 := fun o => frozen_of_row w3 w.heap.size o _ _ g2
      clear g2
      clear hb3
      go_wp2_with fail
      refine bodyPost_ret (v := .tuple #[.agg #[.int .i64 0, .int .i64 0, .int .i64 0, .int .i64 0, .int .i64 0, .string ⟨#[]⟩, .slice none 0 0], .bool false]) ?_ rfl (ParseP.mk ⟨0, 0, 0, V.zero, []⟩ (.slice none 0 0) false rfl (ownP_none _ _ _ _) HN.out ?_)
      · simp [results, Tryz.results5, go_sem, r0, r1, r2, r3, r4, r5, r6]
      · iterate 7 refine below_set0 ?_ (Nat.le_refl _) _
        exact HBx.out.trans (Hb3.out.mono (by omega))
    · rw [hpo] at HPO
      go_wp2_with fail
      refine HPO.out.mono ?_
      rintro e w3 ⟨rfl, hb3⟩
      have HPT := Lib.hid (spec_PredText p (.slice As p.l.length cs) w3 (Hop.out.rdP.below hb3 (by omega)) (by have := hb3.size; omega) HR.out.2.1 HR.out.2.2.1 (Nat.le_trans HR.out.2.2.2 (by decide)) (HEx.out.below hb3).1)
      have Hb3 := Lib.hid hb3
      have g0 := Lib.hid ((hb3.block w.heap.size (by omega)).trans G0x.out)
      have g1 := Lib.hid ((hb3.block w2.heap.size (by omega)).trans GX.out)
      have hz3 := hb3.size
      clear q0 q1 q2 q3 q4 q5 q6 r0 r1 r2 r3 r4 r5 r6 k0 k1 k2 f0 hb3
      have q0 := cell_of_row w3 (w2.heap.size) 0 _ _ _ g1.out
      have q1 := cell_of_row w3 (w2.heap.size) 1 _ _ _ g1.out
      have q2 := cell_of_row w3 (w2.heap.size) 2 _ _ _ g1.out
      have q3 := cell_of_row w3 (w2.heap.size) 3 _ _ _ g1.out
      have q4 := cell_of_row w3 (w2.heap.size) 4 _ _ _ g1.out
      have q5 := cell_of_row w3 (w2.heap.size) 5 _ _ _ g1.out
      have q6 := cell_of_row w3 (w2.heap.size) 6 _ _ _ g1.out
      simp only [List.getElem?_toArray, List.getElem?_cons_zero, List.getElem?_cons_succ] at q0 q1 q2 q3 q4 q5 q6
      by_cases heq : predT p = s
      · have hne : ((predT p).toList == s.toList) = true := str_eq heq
        have HN := Lib.hid (show PredG cols s p true from ⟨.inl ⟨rfl, hpo, heq, fun p' h e => (HOne.out p' h e).2.symm⟩, HR.out.2.1, HR.out.2.2.1, (predOk_len hpo).2⟩)
        clear hpo heq
        go_wp2_with fail
        refine HPT.out.mono ?_
        rintro e w4 ⟨rfl, hb4⟩
        have g2 := (hb4.block w.heap.size (by omega)).trans g0.out
        have g3 := (hb4.block w2.heap.size (by omega)).trans g1.out
        clear q0 q1 q2 q3 q4 q5 q6
        have q0 := cell_of_row w4 (w2.heap.size) 0 _ _ _ g3
        have q1 := cell_of_row w4 (w2.heap.size) 1 _ _ _ g3
        have q2 := cell_of_row w4 (w2.heap.size) 2 _ _ _ g3
        have q3 := cell_of_row w4 (w2.heap.size) 3 _ _ _ g3
        have q4 := cell_of_row w4 (w2.heap.size) 4 _ _ _ g3
        have q5 := cell_of_row w4 (w2.heap.size) 5 _ _ _ g3
        have q6 := cell_of_row w4 (w2.heap.size) 6 _ _ _ g3
        simp only [List.getElem?_toArray, List.getElem?_cons_zero, List.getElem?_cons_succ] at q0 q1 q2 q3 q4 q5 q6
        have r0 := cell_of_row w4 (w.heap.size) 0 _ _ _ g2
        have r1 := cell_of_row w4 (w.heap.size) 1 _ _ _ g2
        have r2 := cell_of_row w4 (w.heap.size) 2 _ _ _ g2
        have r3 := cell_of_row w4 (w.heap.size) 3 _ _ _ g2
        have r4 := cell_of_row w4 (w.heap.size) 4 _ _ _ g2
        have r5 := cell_of_row w4 (w.heap.size) 5 _ _ _ g2
        have r6 := cell_of_row w4 (w.heap.size) 6 _ _ _ g2
        simp only [List.getElem?_toArray, List.getElem?_cons_zero, List.getElem?_cons_succ] at r0 r1 r2 r3 r4 r5 r6
        have f0 := fun o => frozen_of_row w4 w.heap.size o _ _ g2
        have Hb4 := Lib.hid (Hb3.out.trans (hb4.mono Hb3.out.size))
        have hz4 := hb4.size
        clear g2 g3 hb4
        go_wp2_with fail
        refine bodyPost_ret (v := .tuple #[.agg #[.int .i64 p.kind, .int .i64 p.col, .int .i64 p.op, .int .i64 p.v.ty, .int .i64 p.v.n, .string p.v.s, .slice As p.l.length cs], .bool true]) ?_ rfl (ParseP.mk p (.slice As p.l.length cs) true rfl ?_ HN.out ?_)
        · simp [results, Tryz.results5, go_sem, r0, r1, r2, r3, r4, r5, r6]
        · refine OwnP.imp (Hop.out.below Hb4.out (by omega)) (by omega) (by simp [World.setCell]; omega) fun b h1 h2 => ?_
          have hbne : b ≠ w.heap.size := by omega
          iterate 7 rw [Below.heap_setCell _ ⟨w.heap.size, _, none⟩ _ b hbne]
        · iterate 7 refine below_set0 ?_ (Nat.le_refl _) _
          exact HBx.out.trans (Hb4.out.mono (by omega))
      · have hne : ((predT p).toList == s.toList) = false := str_ne heq
        have HN := Lib.hid (predG_no (cols := cols) (s := s) fun p' h e => heq (by
          rw [(HOne.out p' h e).2]
          exact e))
        clear hpo heq
        go_wp2_with fail
        refine HPT.out.mono ?_
        rintro e w4 ⟨rfl, hb4⟩
        have Hb4 := Lib.hid (Hb3.out.trans (hb4.mono Hb3.out.size))
        clear q0 q1 q2 q3 q4 q5 q6 hb4
        have g2 := (Hb4.out.block w.heap.size (by omega)).trans G0x.out
        have r0 := cell_of_row w4 (w.heap.size) 0 _ _ _ g2
        have r1 := cell_of_row w4 (w.heap.size) 1 _ _ _ g2
        have r2 := cell_of_row w4 (w.heap.size) 2 _ _ _ g2
        have r3 := cell_of_row w4 (w.heap.size) 3 _ _ _ g2
        have r4 := cell_of_row w4 (w.heap.size) 4 _ _ _ g2
        have r5 := cell_of_row w4 (w.heap.size) 5 _ _ _ g2
        have r6 := cell_of_row w4 (w.heap.size) 6 _ _ _ g2
        simp only [List.getElem?_toArray, List.getElem?_cons_zero, List.getElem?_cons_succ] at r0 r1 r2 r3 r4 r5 r6
        have f0 := fun o => frozen_of_row w4 w.heap.size o _ _ g2
        clear g2
        go_wp2_with fail
        refine bodyPost_ret (v := .tuple #[.agg #[.int .i64 0, .int .i64 0, .int .i64 0, .int .i64 0, .int .i64 0, .string ⟨#[]⟩, .slice none 0 0], .bool false]) ?_ rfl (ParseP.mk ⟨0, 0, 0, V.zero, []⟩ (.slice none 0 0) false rfl (ownP_none _ _ _ _) HN.out ?_)
        · simp [results, Tryz.results5, go_sem, r0, r1, r2, r3, r4, r5, r6]
        · iterate 7 refine below_set0 ?_ (Nat.le_refl _) _
          exact HBx.out.trans (Hb4.out.mono (by omega))
  · have HN := Lib.hid (predG_no (cols := cols) (s := s) fun p' h e => by have := (HOne.out p' h e).1; cases this)
    go_wp2_with fail
    refine bodyPost_ret (v := .tuple #[.agg #[.int .i64 0, .int .i64 0, .int .i64 0, .int .i64 0, .int .i64 0, .string ⟨#[]⟩, .slice none 0 0], .bool false]) ?_ rfl (ParseP.mk ⟨0, 0, 0, V.zero, []⟩ (.slice none 0 0) false rfl (ownP_none _ _ _ _) HN.out ?_)
    · simp [results, Tryz.results5, go_sem, r0, r1, r2, r3, r4, r5, r6]
    · iterate 7 refine below_set0 ?_ (Nat.le_refl _) _
      exact HBx.out
end Go.Proofs.YtjogkbkkcaljhaaGreatDoor
