/- The beginning of a predicate's text read by the program, by depth: contracts. Conditions as for numbers. -/
import Derived.Test.YtjogkbkkcaljhaaGreatDoorZQ
import Derived.Test.YtjogkbkkcaljhaaGreatDoorD30i
import Derived.Test.YtjogkbkkcaljhaaGreatDoorTP2
import Derived.Test.YtjogkbkkcaljhaaGreatDoorYA
namespace Go.Proofs.YtjogkbkkcaljhaaGreatDoor
open Go.Sort Go.ChangeShapes Go.WideShapes Go.ChangeAt Go.RowKit Go.Lb
/-- How many predicates there are in one of some depth, at most. -/
def cnD : Nat → Nat
  | 0 => 0
  | k + 1 => 4 * (1 + cnD k)
theorem good_none : POk ⟨0, 0, 0, V.zero, []⟩ ∧ PInOk ⟨0, 0, 0, V.zero, []⟩ := ⟨⟨Nat.zero_le _, POks.nil⟩, ⟨⟨by decide, by decide⟩, PIns.nil⟩⟩
theorem cnt_none (x : Nat) : cntP (P.l ⟨0, 0, 0, V.zero, []⟩) ≤ x := by show cntP [] ≤ _; rw [cntP_nil]; exact Nat.zero_le _
theorem heap_drewQ (W : World) : W.drew.heap = W.heap := rfl
theorem set6v {w : World} {X : Nat} {c0 c1 c2 c3 c4 c5 c6 a : Value} {e : TypeId} (h : w.heap[X]? = some (.cells #[c0, c1, c2, c3, c4, c5, c6] e)) : (w.setCell ⟨X, 6, none⟩ a).heap[X]? = some (.cells #[c0, c1, c2, c3, c4, c5, a] e) := by
  have h1 := set1 (o := 6) (a := a) h
  simpa only [List.setIfInBounds_toArray, List.set_cons_succ, List.set_cons_zero] using h1
/-- A predicate of the call's own, what is left of the text, and whether it could be read. -/
def PartP (R : P → ByteArray → Bool → Prop) (w : World) (e : Ending) (w' : World) : Prop := ∃ (p : P) (sv : Value) (rest : ByteArray) (ok : Bool), e = .returned (.tuple #[.agg #[.int .i64 p.kind, .int .i64 p.col, .int .i64 p.op, .int .i64 p.v.ty, .int .i64 p.v.n, .string p.v.s, sv], .string rest, .bool ok]) ∧ OwnP 27 w' w.heap.size w'.heap.size sv p.l ∧ Hid (R p rest ok) ∧ Below w.heap.size w w'
theorem PartP.mk {R : P → ByteArray → Bool → Prop} {w w' : World} (p : P) (sv : Value) (rest : ByteArray) (ok : Bool) {v : Value} (hv : v = .tuple #[.agg #[.int .i64 p.kind, .int .i64 p.col, .int .i64 p.op, .int .i64 p.v.ty, .int .i64 p.v.n, .string p.v.s, sv], .string rest, .bool ok]) (ho : OwnP 27 w' w.heap.size w'.heap.size sv p.l) (hR : R p rest ok) (hb : Below w.heap.size w w') : PartP R w (.returned v) w' := ⟨p, sv, rest, ok, congrArg _ hv, ho, Lib.hid hR, hb⟩
def PartC (cols : List Int) (k : Nat) : Prop := ∀ (n : Int) (s : ByteArray) (w : World), n = k → s.size ≤ 1048576 → EnvP w →
    Calls Tryz.prog 23 #[.string s, .int .i64 n] w fun e w' => PartP (fun p rest ok => PartR cols k s.data.toList p rest.data.toList ok ∧ rest.size ≤ s.size ∧ POk p ∧ PInOk p ∧ cntP p.l ≤ cnD k) w e w'
def OpsC (cols : List Int) (k : Nat) : Prop := ∀ (n d : Int) (s : ByteArray) (w : World), d = (k + 1 : Nat) → (n = 3 ∨ n = 4 ∨ n = 5) → s.size ≤ 1048576 → EnvP w →
    Calls Tryz.prog 54 #[.int .i64 n, .string s, .int .i64 d] w fun e w' => PartP (fun p rest ok => OpsR cols k n s.data.toList p rest.data.toList ok ∧ rest.size ≤ s.size ∧ POk p ∧ PInOk p ∧ cntP p.l ≤ 4 * (1 + cnD k)) w e w'
set_option maxRecDepth 20000 in
set_option maxHeartbeats 8000000 in
theorem impl_parseOperands (cols : List Int) (k : Nat) (hk : k ≤ 3) (ih : PartC cols k) : OpsC cols k := by
  have IH := Lib.hid ih
  obtain ⟨i0, hif, hz0, hz1, hz2⟩ := info_parts info_PD
  have hif := Lib.hid hif
  have hz0 := Lib.hid hz0
  have hz1 := Lib.hid hz1
  have hz2 := Lib.hid hz2
  clear ih
  intro n d s w hd hn hs he
  have hdw : IntKind.i64.wrap (d - 1) = d - 1 := IntWalk.i64_in _ ⟨by omega, by omega⟩
  have Hd1 := Lib.hid (show d - 1 = (k : Int) by omega)
  have HE := Lib.hid he
  have HN := Lib.hid hn
  have up := up_a2 w (.cells #[.int .i64 0, .int .i64 0, .int .i64 0, .int .i64 0, .int .i64 0, .string ⟨#[]⟩, .slice none 0 0] 27) (.cells #[.int .i64 n, .int .i64 0, .int .i64 0, .int .i64 0, .int .i64 0, .string ⟨#[]⟩, .slice none 0 0] 27)
  have G0 := Lib.hid (show ((w.alloc (.cells #[.int .i64 0, .int .i64 0, .int .i64 0, .int .i64 0, .int .i64 0, .string ⟨#[]⟩, .slice none 0 0] 27)).alloc (.cells #[.int .i64 n, .int .i64 0, .int .i64 0, .int .i64 0, .int .i64 0, .string ⟨#[]⟩, .slice none 0 0] 27)).heap[w.heap.size]? = some _ from alloc_oldQ (heap_alloc_new w (.cells #[.int .i64 0, .int .i64 0, .int .i64 0, .int .i64 0, .int .i64 0, .string ⟨#[]⟩, .slice none 0 0] 27)))
  have G1 := Lib.hid (show ((w.alloc (.cells #[.int .i64 0, .int .i64 0, .int .i64 0, .int .i64 0, .int .i64 0, .string ⟨#[]⟩, .slice none 0 0] 27)).alloc (.cells #[.int .i64 n, .int .i64 0, .int .i64 0, .int .i64 0, .int .i64 0, .string ⟨#[]⟩, .slice none 0 0] 27)).heap[w.heap.size + 1]? = some (.cells #[.int .i64 n, .int .i64 0, .int .i64 0, .int .i64 0, .int .i64 0, .string ⟨#[]⟩, .slice none 0 0] 27) by have h := heap_alloc_new (w.alloc (.cells #[.int .i64 0, .int .i64 0, .int .i64 0, .int .i64 0, .int .i64 0, .string ⟨#[]⟩, .slice none 0 0] 27)) (.cells #[.int .i64 n, .int .i64 0, .int .i64 0, .int .i64 0, .int .i64 0, .string ⟨#[]⟩, .slice none 0 0] 27); rw [World.size_alloc] at h; exact h)
  have hs0 : ((w.alloc (.cells #[.int .i64 0, .int .i64 0, .int .i64 0, .int .i64 0, .int .i64 0, .string ⟨#[]⟩, .slice none 0 0] 27)).alloc (.cells #[.int .i64 n, .int .i64 0, .int .i64 0, .int .i64 0, .int .i64 0, .string ⟨#[]⟩, .slice none 0 0] 27)).heap.size = w.heap.size + 1 + 1 := by simp
  obtain ⟨W0, hW0⟩ : ∃ W0, ((w.alloc (.cells #[.int .i64 0, .int .i64 0, .int .i64 0, .int .i64 0, .int .i64 0, .string ⟨#[]⟩, .slice none 0 0] 27)).alloc (.cells #[.int .i64 n, .int .i64 0, .int .i64 0, .int .i64 0, .int .i64 0, .string ⟨#[]⟩, .slice none 0 0] 27)) = W0 := ⟨_, rfl⟩
  rw [hW0] at up G0 G1 hs0
  have HW0 := Lib.hid hW0
  have UP := Lib.hid up
  clear hW0 up hd he hn
  go_enter Tryz.func54, Tryz.ntmps54
  go_wp2_with fail
  rw [HW0.out]
  clear HW0
  go_loopg [1] 4 (fun g sv wr => ∃ (sc : ByteArray) (ps : List (P × Value)) (v : Value), sv = .string sc ∧ ps.length + g = 4 ∧ sc.size ≤ s.size ∧ Hid (OwnPx 27 wr (w.heap.size + 1 + 1) wr.heap.size v ps) ∧ Hid (POks (ps.map Prod.fst) ∧ PIns (ps.map Prod.fst) ∧ cntP (ps.map Prod.fst) ≤ ps.length * (1 + cnD k) ∧ OpsI cols k s.data.toList (ps.map Prod.fst) sc.data.toList) ∧ Hid (wr.heap[w.heap.size]? = some (.cells #[.int .i64 0, .int .i64 0, .int .i64 0, .int .i64 0, .int .i64 0, .string ⟨#[]⟩, .slice none 0 0] 27) ∧ wr.heap[w.heap.size + 1]? = some (.cells #[.int .i64 n, .int .i64 0, .int .i64 0, .int .i64 0, .int .i64 0, .string ⟨#[]⟩, v] 27)) ∧ Hid (Below w.heap.size w wr))
  case atStart => exact ⟨s, [], .slice none 0 0, rfl, rfl, Nat.le_refl _, Lib.hid (OwnPx.nil (base := 0) ⟨by simp, .inl ⟨rfl, rfl⟩⟩ (fun g hg => by simp [Value.ownBlock] at hg)), Lib.hid ⟨POks.nil, PIns.nil, by simp [cntP_nil], OpsI.zero _ _ _⟩, Lib.hid ⟨G0.out, G1.out⟩, UP⟩
  case round =>
    obtain ⟨sc, ps, v, rfl, hpg, hsc, Hown, HK, HG, HB⟩ := hrel
    have hf := Hown.out.own.rdP.form
    rw [List.length_map] at hf
    obtain ⟨A, c, rfl, -, -⟩ := hf
    have hzr : w.heap.size + 1 < wr.heap.size := (Array.getElem?_eq_some_iff.1 HG.out.2).1
    have q0 := cell_of_row wr (w.heap.size + 1) 0 _ _ _ HG.out.2
    have q1 := cell_of_row wr (w.heap.size + 1) 1 _ _ _ HG.out.2
    have q2 := cell_of_row wr (w.heap.size + 1) 2 _ _ _ HG.out.2
    have q3 := cell_of_row wr (w.heap.size + 1) 3 _ _ _ HG.out.2
    have q4 := cell_of_row wr (w.heap.size + 1) 4 _ _ _ HG.out.2
    have q5 := cell_of_row wr (w.heap.size + 1) 5 _ _ _ HG.out.2
    have q6 := cell_of_row wr (w.heap.size + 1) 6 _ _ _ HG.out.2
    simp only [List.getElem?_toArray, List.getElem?_cons_zero, List.getElem?_cons_succ] at q0 q1 q2 q3 q4 q5 q6
    clear q0 q1 q2 q3 q4 q5
    by_cases hl4 : ps.length < 4
    · have hdl : decide ((ps.length : Int) < 4) = true := decide_eq_true (by omega)
      have hscs : sc.size ≤ 1048576 := by omega
      have hgk : gk = gk - 1 + 1 := by omega
      go_wp2_with fail
      refine (IH.out (d - 1) sc wr Hd1.out hscs (HE.out.below HB.out)).mono ?_
      rintro e w2 ⟨q, svq, rest, ok, rfl, hop, HR, hb2⟩
      obtain ⟨Aq, cq, rfl, -, -⟩ := hop.rdP.form
      have hw2s := hb2.size
      have HB2 := Lib.hid (HB.out.trans (hb2.mono HB.out.size))
      have g0 := (hb2.block w.heap.size (by omega)).trans HG.out.1
      have g1 := (hb2.block (w.heap.size + 1) (by omega)).trans HG.out.2
      have hrs := HR.out.2.1
      obtain ⟨X2, hX2⟩ : ∃ X2, w2.alloc (.cells #[.int .i64 q.kind, .int .i64 q.col, .int .i64 q.op, .int .i64 q.v.ty, .int .i64 q.v.n, .string q.v.s, .slice Aq q.l.length cq] 27) = X2 := ⟨_, rfl⟩
      have hupx := up_a1 w2 (.cells #[.int .i64 q.kind, .int .i64 q.col, .int .i64 q.op, .int .i64 q.v.ty, .int .i64 q.v.n, .string q.v.s, .slice Aq q.l.length cq] 27)
      have hsx : (w2.alloc (.cells #[.int .i64 q.kind, .int .i64 q.col, .int .i64 q.op, .int .i64 q.v.ty, .int .i64 q.v.n, .string q.v.s, .slice Aq q.l.length cq] 27)).heap.size = w2.heap.size + 1 := by simp
      rw [hX2] at hupx hsx
      have G0x := Lib.hid ((hupx.block w.heap.size (by omega)).trans g0)
      have G1x := Lib.hid ((hupx.block (w.heap.size + 1) (by omega)).trans g1)
      have GX := Lib.hid (show X2.heap[w2.heap.size]? = some (.cells #[.int .i64 q.kind, .int .i64 q.col, .int .i64 q.op, .int .i64 q.v.ty, .int .i64 q.v.n, .string q.v.s, .slice Aq q.l.length cq] 27) from hX2 ▸ heap_alloc_new w2 _)
      have HBx := Lib.hid (HB2.out.trans (hupx.mono HB2.out.size))
      have HX2 := Lib.hid hX2
      have Hop := Lib.hid (hop.below hupx (Nat.le_refl _))
      have Hupx := Lib.hid hupx
      have Hb2 := Lib.hid hb2
      have Hsx := Lib.hid hsx
      clear g0 g1 hX2 hop hupx hb2 q6 hsx
      go_upto_region 4 with fail
      rw [HX2.out]
      have HFail := Lib.hid (show (ok = false ∨ rest.data.toList = []) → OpsR cols k n s.data.toList ⟨0, 0, 0, V.zero, []⟩ [] false from fun h => HK.out.2.2.2.no HR.out.1 h _ _ _)
      cases ok
      · have HF := Lib.hid (HFail.out (.inl rfl))
        have r0 := cell_of_row X2 (w.heap.size) 0 _ _ _ G0x.out
        have r1 := cell_of_row X2 (w.heap.size) 1 _ _ _ G0x.out
        have r2 := cell_of_row X2 (w.heap.size) 2 _ _ _ G0x.out
        have r3 := cell_of_row X2 (w.heap.size) 3 _ _ _ G0x.out
        have r4 := cell_of_row X2 (w.heap.size) 4 _ _ _ G0x.out
        have r5 := cell_of_row X2 (w.heap.size) 5 _ _ _ G0x.out
        have r6 := cell_of_row X2 (w.heap.size) 6 _ _ _ G0x.out
        simp only [List.getElem?_toArray, List.getElem?_cons_zero, List.getElem?_cons_succ] at r0 r1 r2 r3 r4 r5 r6
        have f0 := fun o => frozen_of_row X2 w.heap.size o _ _ G0x.out
        go_wp2_with fail
        refine bodyPost_ret (v := .tuple #[.agg #[.int .i64 0, .int .i64 0, .int .i64 0, .int .i64 0, .int .i64 0, .string ⟨#[]⟩, .slice none 0 0], .string ⟨#[]⟩, .bool false]) ?_ rfl (PartP.mk ⟨0, 0, 0, V.zero, []⟩ (.slice none 0 0) ⟨#[]⟩ false rfl (ownP_none _ _ _ _) ⟨HF.out, Nat.zero_le _, good_none.1, good_none.2, cnt_none _⟩ ?_)
        · simp [results, Tryz.results54, go_sem, r0, r1, r2, r3, r4, r5, r6]
        · iterate 7 refine below_set0 ?_ (Nat.le_refl _) _
          exact HBx.out
      · rcases Nat.eq_zero_or_pos rest.size with hz | hpos
        · have hrl : rest.data.toList = [] := List.length_eq_zero_iff.1 (by have : rest.data.toList.length = rest.size := by simp
                                                                            omega)
          have hem : rest.toList.isEmpty = true := by rw [Lib.toList_data, hrl]; rfl
          have HF := Lib.hid (HFail.out (.inr hrl))
          have r0 := cell_of_row X2 (w.heap.size) 0 _ _ _ G0x.out
          have r1 := cell_of_row X2 (w.heap.size) 1 _ _ _ G0x.out
          have r2 := cell_of_row X2 (w.heap.size) 2 _ _ _ G0x.out
          have r3 := cell_of_row X2 (w.heap.size) 3 _ _ _ G0x.out
          have r4 := cell_of_row X2 (w.heap.size) 4 _ _ _ G0x.out
          have r5 := cell_of_row X2 (w.heap.size) 5 _ _ _ G0x.out
          have r6 := cell_of_row X2 (w.heap.size) 6 _ _ _ G0x.out
          simp only [List.getElem?_toArray, List.getElem?_cons_zero, List.getElem?_cons_succ] at r0 r1 r2 r3 r4 r5 r6
          have f0 := fun o => frozen_of_row X2 w.heap.size o _ _ G0x.out
          go_wp2_with fail
          refine bodyPost_ret (v := .tuple #[.agg #[.int .i64 0, .int .i64 0, .int .i64 0, .int .i64 0, .int .i64 0, .string ⟨#[]⟩, .slice none 0 0], .string ⟨#[]⟩, .bool false]) ?_ rfl (PartP.mk ⟨0, 0, 0, V.zero, []⟩ (.slice none 0 0) ⟨#[]⟩ false rfl (ownP_none _ _ _ _) ⟨HF.out, Nat.zero_le _, good_none.1, good_none.2, cnt_none _⟩ ?_)
          · simp [results, Tryz.results54, go_sem, r0, r1, r2, r3, r4, r5, r6]
          · iterate 7 refine below_set0 ?_ (Nat.le_refl _) _
            exact HBx.out
        · have hcons := list_cons hpos
          have hem : rest.toList.isEmpty = false := by rw [Lib.toList_data, hcons]; rfl
          have hpi : (0 : Int) < (rest.size : Int) := by omega
          have h1s : (1 : Int) ≤ (rest.size : Int) := by omega
          have hrn : rest.data.toList = rest[0] :: (rest.extract 1 rest.size).data.toList := by rw [ext_list]; exact hcons
          have HRN := Lib.hid hrn
          have hes : (rest.extract 1 rest.size).size ≤ s.size := by
            have : (rest.extract 1 rest.size).size ≤ rest.size := by simp
            omega
          clear hcons hrn
          obtain ⟨s0, t0, HO⟩ := Hown.out
          have Hob := Lib.hid HO.outIn
          have hbx : Below wr.heap.size wr X2 := Hb2.out.trans (Hupx.out.mono Hb2.out.size)
          have Hout2 := Lib.hid (owns_same (w' := X2) HO.out fun b hb => hbx.block b (HO.outIn b hb).2)
          have Hbx := Lib.hid hbx
          have hupy := up_a1 X2 (.cells #[.int .i64 q.kind, .int .i64 q.col, .int .i64 q.op, .int .i64 q.v.ty, .int .i64 q.v.n, .string q.v.s, .slice Aq q.l.length cq] 27)
          have hsy : (X2.alloc (.cells #[.int .i64 q.kind, .int .i64 q.col, .int .i64 q.op, .int .i64 q.v.ty, .int .i64 q.v.n, .string q.v.s, .slice Aq q.l.length cq] 27)).heap.size = X2.heap.size + 1 := by simp
          have hB := Lib.hid (heap_alloc_new X2 (.cells #[.int .i64 q.kind, .int .i64 q.col, .int .i64 q.op, .int .i64 q.v.ty, .int .i64 q.v.n, .string q.v.s, .slice Aq q.l.length cq] 27))
          have Hupy := Lib.hid hupy
          have Hsy := Lib.hid hsy
          have q0 := cell_of_row X2 (w.heap.size + 1) 0 _ _ _ G1x.out
          have q1 := cell_of_row X2 (w.heap.size + 1) 1 _ _ _ G1x.out
          have q2 := cell_of_row X2 (w.heap.size + 1) 2 _ _ _ G1x.out
          have q3 := cell_of_row X2 (w.heap.size + 1) 3 _ _ _ G1x.out
          have q4 := cell_of_row X2 (w.heap.size + 1) 4 _ _ _ G1x.out
          have q5 := cell_of_row X2 (w.heap.size + 1) 5 _ _ _ G1x.out
          have q6 := cell_of_row X2 (w.heap.size + 1) 6 _ _ _ G1x.out
          simp only [List.getElem?_toArray, List.getElem?_cons_zero, List.getElem?_cons_succ] at q0 q1 q2 q3 q4 q5 q6
          have x0 := cell_of_row X2 (w2.heap.size) 0 _ _ _ GX.out
          have x1 := cell_of_row X2 (w2.heap.size) 1 _ _ _ GX.out
          have x2 := cell_of_row X2 (w2.heap.size) 2 _ _ _ GX.out
          have x3 := cell_of_row X2 (w2.heap.size) 3 _ _ _ GX.out
          have x4 := cell_of_row X2 (w2.heap.size) 4 _ _ _ GX.out
          have x5 := cell_of_row X2 (w2.heap.size) 5 _ _ _ GX.out
          have x6 := cell_of_row X2 (w2.heap.size) 6 _ _ _ GX.out
          simp only [List.getElem?_toArray, List.getElem?_cons_zero, List.getElem?_cons_succ] at x0 x1 x2 x3 x4 x5 x6
          clear HO s0 t0 hbx hupy hsy
          go_upto_region 6 with fail
          go_wp2_with (at_builtin; refine wpl_appL rfl _ _ 25 rfl 0 27 i0 _ 7 80 Tryz.underlying25 hif.out hz0.out hz1.out hz2.out rfl (by decide) (by decide) (Hout2.out.alloc _) rfl hB.out rfl rfl (by simp [Value.oneCell']) (by omega) (Nat.zero_le _) ?_)
          intro v' w3 hown' hgrow hnb
          clear q0 q1 q2 q3 q4 q5 q6 x0 x1 x2 x3 x4 x5 x6
          have hob := Hob.out
          have hsx := Hsx.out
          have hs3 := hgrow.size
          rw [Hsy.out] at hs3
          have H1 := Hown.out.snoc (x := q) (sv := .slice Aq q.l.length cq) (.of_below (Hbx.out.trans (Hupy.out.mono Hbx.out.size)) (Nat.le_refl _)) (Nat.le_trans Hbx.out.size Hupy.out.size) (by omega) ((Hop.out.below Hupy.out (by omega)).more (by omega) (Nat.le_refl _)) (by rw [Hsy.out]; omega) hown' hgrow (fun b hb => by rw [Hsy.out]; exact hnb b hb)
          have g0 := (hgrow.block w.heap.size (by rw [Hsy.out]; omega) (fun e => by have := (hob _ e.symm).1; omega)).trans ((Hupy.out.block w.heap.size (by omega)).trans G0x.out)
          have g1 := (hgrow.block (w.heap.size + 1) (by rw [Hsy.out]; omega) (fun e => by have := (hob _ e.symm).1; omega)).trans ((Hupy.out.block (w.heap.size + 1) (by omega)).trans G1x.out)
          have hb3 : Below w.heap.size w w3 := Below.grown (HBx.out.trans (Hupy.out.mono HBx.out.size)) hgrow (fun b hb => by have := (hob b hb).1; omega) (by have := HBx.out.size; have := Hupy.out.size; omega)
          have G0' := Lib.hid g0
          have G1' := Lib.hid g1
          have H1' := Lib.hid H1
          have Hb3 := Lib.hid hb3
          have hz3 : w.heap.size + 1 + 1 ≤ w3.heap.size := by omega
          have hvf := H1.own.rdP.form
          simp only [List.length_map, List.length_append, List.length_cons, List.length_nil, Nat.zero_add] at hvf
          obtain ⟨Av, cv, rfl, -, -⟩ := hvf
          have q0 := cell_of_row w3 (w.heap.size + 1) 0 _ _ _ G1'.out
          have q1 := cell_of_row w3 (w.heap.size + 1) 1 _ _ _ G1'.out
          have q2 := cell_of_row w3 (w.heap.size + 1) 2 _ _ _ G1'.out
          have q3 := cell_of_row w3 (w.heap.size + 1) 3 _ _ _ G1'.out
          have q4 := cell_of_row w3 (w.heap.size + 1) 4 _ _ _ G1'.out
          have q5 := cell_of_row w3 (w.heap.size + 1) 5 _ _ _ G1'.out
          have q6 := cell_of_row w3 (w.heap.size + 1) 6 _ _ _ G1'.out
          simp only [List.getElem?_toArray, List.getElem?_cons_zero, List.getElem?_cons_succ] at q0 q1 q2 q3 q4 q5 q6
          have f1 := fun o => frozen_of_row w3 (w.heap.size + 1) o _ _ G1'.out
          obtain ⟨W4, hW4⟩ : ∃ W4, w3.setCell ⟨w.heap.size + 1, 6, none⟩ (.slice Av (ps.length + 1) cv) = W4 := ⟨_, rfl⟩
          have k0 := (Below.heap_setCell w3 ⟨w.heap.size + 1, 6, none⟩ (.slice Av (ps.length + 1) cv) w.heap.size (by show w.heap.size ≠ w.heap.size + 1; omega)).trans G0'.out
          have k1 := set6v (a := .slice Av (ps.length + 1) cv) G1'.out
          have k2 := below_set0 (o := 6) Hb3.out (show w.heap.size ≤ w.heap.size + 1 by omega) (.slice Av (ps.length + 1) cv)
          have k3 : (w3.setCell ⟨w.heap.size + 1, 6, none⟩ (.slice Av (ps.length + 1) cv)).heap.size = w3.heap.size := by simp [World.setCell]
          have k4 : OwnPx 27 (w3.setCell ⟨w.heap.size + 1, 6, none⟩ (.slice Av (ps.length + 1) cv)) (w.heap.size + 1 + 1) w3.heap.size (.slice Av (ps.length + 1) cv) (ps ++ [(q, Value.slice Aq q.l.length cq)]) := H1'.out.imp (Nat.le_refl _) (Nat.le_refl _) fun b h1 _ => Below.heap_setCell w3 ⟨w.heap.size + 1, 6, none⟩ _ b (by show b ≠ w.heap.size + 1; omega)
          rw [hW4] at k0 k1 k2 k3 k4
          rw [← k3] at k4
          have K0 := Lib.hid k0
          have K1 := Lib.hid k1
          have K2 := Lib.hid k2
          have K4 := Lib.hid k4
          have HW4 := Lib.hid hW4
          have hz4 : w.heap.size + 1 + 1 ≤ W4.heap.size := by omega
          clear k0 k1 k2 k3 k4 hW4 hown' hgrow hnb g0 g1 hb3 H1 hob hs3 hsx
          go_upto_region 7 with fail
          rw [HW4.out]
          clear HW4 q0 q1 q2 q3 q4 q5 q6 f1
          have HPk := Lib.hid (show POks ((ps ++ [(q, Value.slice Aq q.l.length cq)]).map Prod.fst) ∧ PIns ((ps ++ [(q, Value.slice Aq q.l.length cq)]).map Prod.fst) by
            rw [List.map_append]
            exact ⟨HK.out.1.snoc HR.out.2.2.1, HK.out.2.1.snoc HR.out.2.2.2.1⟩)
          have HCn := Lib.hid (show cntP ((ps ++ [(q, Value.slice Aq q.l.length cq)]).map Prod.fst) ≤ (ps.length + 1) * (1 + cnD k) by
            have h1 := HK.out.2.2.1
            have h2 := HR.out.2.2.2.2
            rw [List.map_append, Nat.add_mul]
            simp only [List.map_cons, List.map_nil]
            rw [cntP_snoc]
            omega)
          by_cases h41 : rest[0].toNat = 41
          · have hbq : ((rest[0].toNat : Int) == 41) = true := by rw [h41]; rfl
            have HF := Lib.hid (show OpsR cols k n s.data.toList ⟨n, 0, 0, V.zero, (ps ++ [(q, Value.slice Aq q.l.length cq)]).map Prod.fst⟩ (rest.extract 1 rest.size).data.toList true by
              have h := HR.out.1
              rw [HRN.out, show rest[0] = 41 from UInt8.toNat_inj.1 h41] at h
              rw [List.map_append]
              exact HK.out.2.2.2.last h)
            have HC4 := Lib.hid (show cntP ((ps ++ [(q, Value.slice Aq q.l.length cq)]).map Prod.fst) ≤ 4 * (1 + cnD k) from Nat.le_trans HCn.out (Nat.mul_le_mul_right _ (by omega)))
            have q0 := cell_of_row W4 (w.heap.size + 1) 0 _ _ _ K1.out
            have q1 := cell_of_row W4 (w.heap.size + 1) 1 _ _ _ K1.out
            have q2 := cell_of_row W4 (w.heap.size + 1) 2 _ _ _ K1.out
            have q3 := cell_of_row W4 (w.heap.size + 1) 3 _ _ _ K1.out
            have q4 := cell_of_row W4 (w.heap.size + 1) 4 _ _ _ K1.out
            have q5 := cell_of_row W4 (w.heap.size + 1) 5 _ _ _ K1.out
            have q6 := cell_of_row W4 (w.heap.size + 1) 6 _ _ _ K1.out
            simp only [List.getElem?_toArray, List.getElem?_cons_zero, List.getElem?_cons_succ] at q0 q1 q2 q3 q4 q5 q6
            have r0 := cell_of_row W4 (w.heap.size) 0 _ _ _ K0.out
            have r1 := cell_of_row W4 (w.heap.size) 1 _ _ _ K0.out
            have r2 := cell_of_row W4 (w.heap.size) 2 _ _ _ K0.out
            have r3 := cell_of_row W4 (w.heap.size) 3 _ _ _ K0.out
            have r4 := cell_of_row W4 (w.heap.size) 4 _ _ _ K0.out
            have r5 := cell_of_row W4 (w.heap.size) 5 _ _ _ K0.out
            have r6 := cell_of_row W4 (w.heap.size) 6 _ _ _ K0.out
            simp only [List.getElem?_toArray, List.getElem?_cons_zero, List.getElem?_cons_succ] at r0 r1 r2 r3 r4 r5 r6
            have f0 := fun o => frozen_of_row W4 w.heap.size o _ _ K0.out
            go_wp2_with fail
            go_region
            all_goals
              go_wp2_with fail
              refine bodyPost_ret (v := .tuple #[.agg #[.int .i64 n, .int .i64 0, .int .i64 0, .int .i64 0, .int .i64 0, .string ⟨#[]⟩, .slice Av (ps.length + 1) cv], .string (rest.extract 1 rest.size), .bool true]) ?_ rfl (PartP.mk ⟨n, 0, 0, V.zero, (ps ++ [(q, Value.slice Aq q.l.length cq)]).map Prod.fst⟩ (.slice Av (ps.length + 1) cv) (rest.extract 1 rest.size) true rfl ?_ ⟨HF.out, hes, ⟨Nat.zero_le _, HPk.out.1⟩, ⟨⟨show (-9223372036854775808 : Int) ≤ 0 by decide, show (0 : Int) ≤ 9223372036854775807 by decide⟩, HPk.out.2⟩, HC4.out⟩ ?_)
              · simp [results, Tryz.results54, go_sem, r0, r1, r2, r3, r4, r5, r6]
              · refine OwnP.imp K4.out.own (Nat.le_trans (Nat.le_succ _) (Nat.le_succ _)) (by simp [World.setCell, World.drew]) fun b h1 h2 => ?_
                have hbne : b ≠ w.heap.size := Nat.ne_of_gt (Nat.lt_of_lt_of_le (Nat.lt_succ_of_lt (Nat.lt_succ_self _)) h1)
                rw [heap_drewQ]
                iterate 7 rw [Below.heap_setCell _ ⟨w.heap.size, _, none⟩ _ b hbne]
              · refine Below.drew ?_
                iterate 7 refine below_set0 ?_ (Nat.le_refl _) _
                exact K2.out
          · have hbq : ((rest[0].toNat : Int) == 41) = false := by simp; omega
            have HI := Lib.hid (show OpsI cols k s.data.toList ((ps ++ [(q, Value.slice Aq q.l.length cq)]).map Prod.fst) (rest.extract 1 rest.size).data.toList by
              have h := HR.out.1
              rw [HRN.out] at h
              rw [List.map_append]
              exact HK.out.2.2.2.more h (fun e => h41 (by rw [e]; rfl)))
            go_wp2_with fail
            go_roundg (gk - 1)
            case measure => omega
            case rel => exact ⟨rest.extract 1 rest.size, _, _, rfl, by simp; omega, hes, K4, Lib.hid ⟨HPk.out.1, HPk.out.2, by rw [List.length_append]; exact HCn.out, HI.out⟩, Lib.hid ⟨K0.out, K1.out⟩, K2⟩
    · have h4 : ps.length = 4 := by omega
      have hdl : decide ((ps.length : Int) < 4) = false := decide_eq_false (by omega)
      have HF := Lib.hid (HK.out.2.2.2.full (kind := n) (by rw [List.length_map]; omega) ⟨0, 0, 0, V.zero, []⟩ [] false)
      have r0 := cell_of_row wr (w.heap.size) 0 _ _ _ HG.out.1
      have r1 := cell_of_row wr (w.heap.size) 1 _ _ _ HG.out.1
      have r2 := cell_of_row wr (w.heap.size) 2 _ _ _ HG.out.1
      have r3 := cell_of_row wr (w.heap.size) 3 _ _ _ HG.out.1
      have r4 := cell_of_row wr (w.heap.size) 4 _ _ _ HG.out.1
      have r5 := cell_of_row wr (w.heap.size) 5 _ _ _ HG.out.1
      have r6 := cell_of_row wr (w.heap.size) 6 _ _ _ HG.out.1
      simp only [List.getElem?_toArray, List.getElem?_cons_zero, List.getElem?_cons_succ] at r0 r1 r2 r3 r4 r5 r6
      have f0 := fun o => frozen_of_row wr w.heap.size o _ _ HG.out.1
      go_wp2_with fail
      refine bodyPost_ret (v := .tuple #[.agg #[.int .i64 0, .int .i64 0, .int .i64 0, .int .i64 0, .int .i64 0, .string ⟨#[]⟩, .slice none 0 0], .string ⟨#[]⟩, .bool false]) ?_ rfl (PartP.mk ⟨0, 0, 0, V.zero, []⟩ (.slice none 0 0) ⟨#[]⟩ false rfl (ownP_none _ _ _ _) ⟨HF.out, Nat.zero_le _, good_none.1, good_none.2, cnt_none _⟩ ?_)
      · simp [results, Tryz.results54, go_sem, r0, r1, r2, r3, r4, r5, r6]
      · iterate 7 refine below_set0 ?_ (Nat.le_refl _) _
        exact HB.out
end Go.Proofs.YtjogkbkkcaljhaaGreatDoor
namespace Go.Proofs.YtjogkbkkcaljhaaGreatDoor
open Go.Sort Go.ChangeShapes Go.WideShapes Go.ChangeAt Go.RowKit Go.Lb
theorem indexAny_le (chars : List UInt8) : ∀ l : List UInt8, Lib.indexAny l chars ≤ l.length
  | [] => by show (-1 : Int) ≤ 0; decide
  | b :: l => by
    have ih := indexAny_le chars l
    unfold Lib.indexAny
    simp only [List.length_cons]
    split
    · omega
    · split <;> omega
theorem ext_le (s : ByteArray) (a b : Nat) : (s.extract a b).size ≤ s.size := by simp; omega
theorem take_all (s : ByteArray) : (⟨(s.data.toList.take s.size).toArray⟩ : ByteArray) = s := by
  apply ba_inj
  exact List.take_of_length_le (by simp)
theorem rest_none (s : ByteArray) : (⟨#[]⟩ : ByteArray).data.toList = s.data.toList.drop s.size := (List.drop_of_length_le (by simp)).symm
theorem take_ext (s : ByteArray) (e : Nat) : s.extract 0 e = ⟨(s.data.toList.take e).toArray⟩ := by
  apply ba_inj
  simp
theorem trim_yes {s p : List UInt8} (h : Lib.hasPrefix s p = true) : s = p ++ Lib.trimPrefix s p := by
  unfold Lib.trimPrefix
  rw [if_pos h]
  unfold Lib.hasPrefix at h
  obtain ⟨r, hr⟩ := List.isPrefixOf_iff_prefix.1 h
  rw [← hr, List.drop_left]
theorem word_nat (j : Nat) (h : j < 3) : (3 + (j : Int)) = 3 ∨ (3 + (j : Int)) = 4 ∨ (3 + (j : Int)) = 5 := by omega
theorem impl_parsePart_0 (cols : List Int) : PartC cols 0 := by
  intro n s w hn hs he
  obtain rfl : n = 0 := hn
  have hR := part_zero (cols := cols) s.data.toList ⟨0, 0, 0, V.zero, []⟩ (⟨#[]⟩ : ByteArray).data.toList false
  have up := up_a1 w (.cells #[.int .i64 0, .int .i64 0, .int .i64 0, .int .i64 0, .int .i64 0, .string ⟨#[]⟩, .slice none 0 0] 27)
  have hg := heap_alloc_new w (.cells #[.int .i64 0, .int .i64 0, .int .i64 0, .int .i64 0, .int .i64 0, .string ⟨#[]⟩, .slice none 0 0] 27)
  have r0 := cell_of_row (w.alloc (.cells #[.int .i64 0, .int .i64 0, .int .i64 0, .int .i64 0, .int .i64 0, .string ⟨#[]⟩, .slice none 0 0] 27)) (w.heap.size) 0 _ _ _ hg
  have r1 := cell_of_row (w.alloc (.cells #[.int .i64 0, .int .i64 0, .int .i64 0, .int .i64 0, .int .i64 0, .string ⟨#[]⟩, .slice none 0 0] 27)) (w.heap.size) 1 _ _ _ hg
  have r2 := cell_of_row (w.alloc (.cells #[.int .i64 0, .int .i64 0, .int .i64 0, .int .i64 0, .int .i64 0, .string ⟨#[]⟩, .slice none 0 0] 27)) (w.heap.size) 2 _ _ _ hg
  have r3 := cell_of_row (w.alloc (.cells #[.int .i64 0, .int .i64 0, .int .i64 0, .int .i64 0, .int .i64 0, .string ⟨#[]⟩, .slice none 0 0] 27)) (w.heap.size) 3 _ _ _ hg
  have r4 := cell_of_row (w.alloc (.cells #[.int .i64 0, .int .i64 0, .int .i64 0, .int .i64 0, .int .i64 0, .string ⟨#[]⟩, .slice none 0 0] 27)) (w.heap.size) 4 _ _ _ hg
  have r5 := cell_of_row (w.alloc (.cells #[.int .i64 0, .int .i64 0, .int .i64 0, .int .i64 0, .int .i64 0, .string ⟨#[]⟩, .slice none 0 0] 27)) (w.heap.size) 5 _ _ _ hg
  have r6 := cell_of_row (w.alloc (.cells #[.int .i64 0, .int .i64 0, .int .i64 0, .int .i64 0, .int .i64 0, .string ⟨#[]⟩, .slice none 0 0] 27)) (w.heap.size) 6 _ _ _ hg
  simp only [List.getElem?_toArray, List.getElem?_cons_zero, List.getElem?_cons_succ] at r0 r1 r2 r3 r4 r5 r6
  have f0 := fun o => frozen_of_row (w.alloc (.cells #[.int .i64 0, .int .i64 0, .int .i64 0, .int .i64 0, .int .i64 0, .string ⟨#[]⟩, .slice none 0 0] 27)) w.heap.size o _ _ hg
  have HR := Lib.hid hR
  have UP := Lib.hid up
  clear hR up he hg
  go_enter Tryz.func23, Tryz.ntmps23
  go_wp2_with fail
  refine bodyPost_ret (v := .tuple #[.agg #[.int .i64 0, .int .i64 0, .int .i64 0, .int .i64 0, .int .i64 0, .string ⟨#[]⟩, .slice none 0 0], .string ⟨#[]⟩, .bool false]) ?_ rfl (PartP.mk ⟨0, 0, 0, V.zero, []⟩ (.slice none 0 0) ⟨#[]⟩ false rfl (ownP_none _ _ _ _) ⟨HR.out, Nat.zero_le _, good_none.1, good_none.2, cnt_none _⟩ ?_)
  · simp [results, Tryz.results23, go_sem]
  · first | exact UP.out | (iterate 7 refine below_set0 ?_ (Nat.le_refl _) _; exact UP.out)
set_option maxRecDepth 20000 in
set_option maxHeartbeats 8000000 in
theorem impl_parsePart_s (cols : List Int) (hc : cols.length ≤ 1048576) (k : Nat) (hk : k ≤ 3) (ih : OpsC cols k) : PartC cols (k + 1) := by
  have IH := Lib.hid ih
  clear ih
  intro n s w hn hs he
  have hn1 : decide (n < 1) = false := decide_eq_false (by omega)
  have Hn := Lib.hid hn
  have up := up_a1 w (.cells #[.int .i64 0, .int .i64 0, .int .i64 0, .int .i64 0, .int .i64 0, .string ⟨#[]⟩, .slice none 0 0] 27)
  have G0 := Lib.hid (heap_alloc_new w (.cells #[.int .i64 0, .int .i64 0, .int .i64 0, .int .i64 0, .int .i64 0, .string ⟨#[]⟩, .slice none 0 0] 27))
  have hs0 : (w.alloc (.cells #[.int .i64 0, .int .i64 0, .int .i64 0, .int .i64 0, .int .i64 0, .string ⟨#[]⟩, .slice none 0 0] 27)).heap.size = w.heap.size + 1 := by simp
  obtain ⟨W0, hW0⟩ : ∃ W0, w.alloc (.cells #[.int .i64 0, .int .i64 0, .int .i64 0, .int .i64 0, .int .i64 0, .string ⟨#[]⟩, .slice none 0 0] 27) = W0 := ⟨_, rfl⟩
  rw [hW0] at up G0 hs0
  have HW0 := Lib.hid hW0
  have UP := Lib.hid up
  have HE := Lib.hid (he.below up)
  clear hW0 up he hn
  have HCA := Lib.hid (Tryz.strings_CutPrefix s ⟨#[97, 108, 108]⟩ W0)
  go_enter Tryz.func23, Tryz.ntmps23
  go_wp2_with fail
  rw [HW0.out]
  clear HW0
  refine HCA.out.mono ?_
  rintro e w1 ⟨rfl, hw⟩
  rw [hw]
  clear hw HCA
  cases hpa : Lib.hasPrefix s.data.toList (⟨#[97, 108, 108]⟩ : ByteArray).data.toList
  · have HPA := Lib.hid hpa
    clear hpa
    go_wp2_with fail
    go_loopg [9] 3 (fun g kv wr => ∃ j : Nat, kv = .int .i64 (3 + (j : Int)) ∧ j + g = 3 ∧ W0 = wr ∧ Hid (∀ m : Nat, m < j → (word (3 + (m : Int))).data.toList.isPrefixOf s.data.toList = false))
    case atStart => exact ⟨0, rfl, rfl, rfl, Lib.hid (fun m h => by omega)⟩
    case round =>
      obtain ⟨j, rfl, hj, rfl, HJ⟩ := hrel
      by_cases hj3 : j < 3
      · have hdj : decide (3 + (j : Int) ≤ 5) = true := decide_eq_true (by omega)
        have HPW := Lib.hid (impl_predWord (3 + (j : Int)) (word_nat j hj3) W0)
        have HCW := Lib.hid (Tryz.strings_CutPrefix s (word (3 + (j : Int))) W0)
        have hwj : IntKind.i64.wrap (3 + (j : Int) + 1) = 3 + (j : Int) + 1 := IntWalk.i64_in _ ⟨by omega, by omega⟩
        have hgk : gk = gk - 1 + 1 := by omega
        go_wp2_with fail
        refine HPW.out.mono ?_
        rintro e w1 ⟨rfl, hw⟩
        rw [hw]
        clear hw
        go_wp2_with fail
        refine HCW.out.mono ?_
        rintro e w1 ⟨rfl, hw⟩
        rw [hw]
        clear hw HPW HCW
        cases hpw : Lib.hasPrefix s.data.toList (word (3 + (j : Int))).data.toList
        · have HX := Lib.hid (show ∀ m : Nat, m < j + 1 → (word (3 + (m : Int))).data.toList.isPrefixOf s.data.toList = false from fun m hm => by
            by_cases e : m = j
            · subst e; exact hpw
            · exact HJ.out m (by omega))
          clear hpw
          go_wp2_with fail
          go_roundg (gk - 1)
          case measure => omega
          case rel => exact ⟨j + 1, congrArg (Value.int .i64) (by omega), by omega, rfl, HX⟩
        · have HT := Lib.hid (trim_yes hpw)
          obtain ⟨rs, hrs⟩ : ∃ rs : ByteArray, ⟨(Lib.trimPrefix s.data.toList (word (3 + (j : Int))).data.toList).toArray⟩ = rs := ⟨_, rfl⟩
          have hrl : rs.data.toList = Lib.trimPrefix s.data.toList (word (3 + (j : Int))).data.toList := by rw [← hrs]
          have hrz : rs.size ≤ s.size := by
            have h1 : rs.data.toList.length = rs.size := by simp
            have h2 : s.data.toList.length = s.size := by simp
            have h3 := congrArg List.length HT.out
            rw [List.length_append, ← hrl] at h3
            omega
          have HRL := Lib.hid hrl
          simp only [hrs]
          have HO := Lib.hid (IH.out (3 + (j : Int)) n rs W0 Hn.out (word_nat j hj3) (by omega) HE.out)
          clear hrs hrl hpw
          go_wp2_with fail
          refine HO.out.mono ?_
          rintro e w2 ⟨p, sv, rest, ok, rfl, hop, HR, hb2⟩
          obtain ⟨As, cs, rfl, -, -⟩ := hop.rdP.form
          have HP := Lib.hid (show PartR cols (k + 1) s.data.toList p rest.data.toList ok from part_ops (word_nat j hj3) (by rw [HRL.out]; exact HT.out) HR.out.1)
          have hg := (hb2.block w.heap.size (by omega)).trans G0.out
          have hz2 := hb2.size
          have r0 := cell_of_row w2 (w.heap.size) 0 _ _ _ hg
          have r1 := cell_of_row w2 (w.heap.size) 1 _ _ _ hg
          have r2 := cell_of_row w2 (w.heap.size) 2 _ _ _ hg
          have r3 := cell_of_row w2 (w.heap.size) 3 _ _ _ hg
          have r4 := cell_of_row w2 (w.heap.size) 4 _ _ _ hg
          have r5 := cell_of_row w2 (w.heap.size) 5 _ _ _ hg
          have r6 := cell_of_row w2 (w.heap.size) 6 _ _ _ hg
          simp only [List.getElem?_toArray, List.getElem?_cons_zero, List.getElem?_cons_succ] at r0 r1 r2 r3 r4 r5 r6
          have f0 := fun o => frozen_of_row w2 w.heap.size o _ _ hg
          have Hb := Lib.hid (UP.out.trans (hb2.mono (by omega)))
          have Hop := Lib.hid hop
          clear hg hb2 hop
          go_wp2_with fail
          refine bodyPost_ret (v := .tuple #[.agg #[.int .i64 p.kind, .int .i64 p.col, .int .i64 p.op, .int .i64 p.v.ty, .int .i64 p.v.n, .string p.v.s, .slice As p.l.length cs], .string rest, .bool ok]) ?_ rfl (PartP.mk p (.slice As p.l.length cs) rest ok rfl ?_ ⟨HP.out, Nat.le_trans HR.out.2.1 hrz, HR.out.2.2.1, HR.out.2.2.2.1, HR.out.2.2.2.2⟩ ?_)
          · simp [results, Tryz.results23, go_sem, r0, r1, r2, r3, r4, r5, r6]
          · refine OwnP.imp Hop.out (by omega) (by simp [World.setCell]) fun b h1 h2 => ?_
            have hbne : b ≠ w.heap.size := by omega
            iterate 7 rw [Below.heap_setCell _ ⟨w.heap.size, _, none⟩ _ b hbne]
          · iterate 7 refine below_set0 ?_ (Nat.le_refl _) _
            exact Hb.out
      · obtain rfl : j = 3 := by omega
        have HW3 := Lib.hid (HJ.out 0 (by omega))
        have HW4 := Lib.hid (HJ.out 1 (by omega))
        have HW5 := Lib.hid (HJ.out 2 (by omega))
        have HIX := Lib.hid (indexAny_c s W0 hs)
        have hix1 := Lib.indexAny_ge [44, 41] s.data.toList
        have hix2 := indexAny_le [44, 41] s.data.toList
        have hsl : s.data.toList.length = s.size := by simp
        rw [hsl] at hix2
        have hgx := trivial
        go_wp2_with fail
        refine HIX.out.mono ?_
        rintro e w2 ⟨rfl, hb2⟩
        have Hb2 := Lib.hid hb2
        clear hb2 HIX
        obtain ⟨ix, hix⟩ : ∃ ix, Lib.indexAny s.data.toList [44, 41] = ix := ⟨_, rfl⟩
        have HIx := Lib.hid hix
        rw [hix] at hix1 hix2
        simp only [hix]
        clear hix
        by_cases hneg : ix < 0
        · have hdn : decide (ix < 0) = true := decide_eq_true hneg
          have HE2 := Lib.hid (show (Lib.indexAny s.data.toList [44, 41] < 0 ∧ s.size = s.data.toList.length) ∨ Lib.indexAny s.data.toList [44, 41] = (s.size : Int) from .inl ⟨by rw [HIx.out]; exact hneg, hsl.symm⟩)
          clear hneg hix1 hix2 HIx hsl
          have HPC := Lib.hid (impl_parseCompare cols s w2 hc hs (HE.out.below Hb2.out))
          go_wp2_with fail
          refine HPC.out.mono ?_
          rintro e3 w3 ⟨p, ok, rfl, hcr, hpl, hb3⟩
          have HP := Lib.hid (show PartR cols (k + 1) s.data.toList p (⟨#[]⟩ : ByteArray).data.toList ok by
            rw [rest_none]
            refine part_cmp HPA.out HW3.out HW4.out HW5.out HE2.out ?_
            rw [take_all]
            exact hcr)
          have HPL := Lib.hid hpl
          have Hb3 := Lib.hid (Hb2.out.trans (hb3.mono Hb2.out.size))
          have hupx := up_a1 w3 (.cells #[.int .i64 p.kind, .int .i64 p.col, .int .i64 p.op, .int .i64 p.v.ty, .int .i64 p.v.n, .string p.v.s, .slice none 0 0] 27)
          have hsx : (w3.alloc (.cells #[.int .i64 p.kind, .int .i64 p.col, .int .i64 p.op, .int .i64 p.v.ty, .int .i64 p.v.n, .string p.v.s, .slice none 0 0] 27)).heap.size = w3.heap.size + 1 := by simp
          obtain ⟨X, hX⟩ : ∃ X, w3.alloc (.cells #[.int .i64 p.kind, .int .i64 p.col, .int .i64 p.op, .int .i64 p.v.ty, .int .i64 p.v.n, .string p.v.s, .slice none 0 0] 27) = X := ⟨_, rfl⟩
          have gx := heap_alloc_new w3 (.cells #[.int .i64 p.kind, .int .i64 p.col, .int .i64 p.op, .int .i64 p.v.ty, .int .i64 p.v.n, .string p.v.s, .slice none 0 0] 27)
          rw [hX] at hupx hsx gx
          have hz3 := Hb3.out.size
          have G0x := Lib.hid ((hupx.block w.heap.size (by omega)).trans ((Hb3.out.block w.heap.size (by omega)).trans G0.out))
          have GX := Lib.hid gx
          have HBx := Lib.hid (UP.out.trans ((Hb3.out.trans (hupx.mono Hb3.out.size)).mono (by omega)))
          have HX := Lib.hid hX
          clear hupx hsx gx hX hcr hpl hb3
          have q0 := cell_of_row X (w3.heap.size) 0 _ _ _ GX.out
          have q1 := cell_of_row X (w3.heap.size) 1 _ _ _ GX.out
          have q2 := cell_of_row X (w3.heap.size) 2 _ _ _ GX.out
          have q3 := cell_of_row X (w3.heap.size) 3 _ _ _ GX.out
          have q4 := cell_of_row X (w3.heap.size) 4 _ _ _ GX.out
          have q5 := cell_of_row X (w3.heap.size) 5 _ _ _ GX.out
          have q6 := cell_of_row X (w3.heap.size) 6 _ _ _ GX.out
          simp only [List.getElem?_toArray, List.getElem?_cons_zero, List.getElem?_cons_succ] at q0 q1 q2 q3 q4 q5 q6
          have r0 := cell_of_row X (w.heap.size) 0 _ _ _ G0x.out
          have r1 := cell_of_row X (w.heap.size) 1 _ _ _ G0x.out
          have r2 := cell_of_row X (w.heap.size) 2 _ _ _ G0x.out
          have r3 := cell_of_row X (w.heap.size) 3 _ _ _ G0x.out
          have r4 := cell_of_row X (w.heap.size) 4 _ _ _ G0x.out
          have r5 := cell_of_row X (w.heap.size) 5 _ _ _ G0x.out
          have r6 := cell_of_row X (w.heap.size) 6 _ _ _ G0x.out
          simp only [List.getElem?_toArray, List.getElem?_cons_zero, List.getElem?_cons_succ] at r0 r1 r2 r3 r4 r5 r6
          have f0 := fun o => frozen_of_row X w.heap.size o _ _ G0x.out
          go_upto_region 16 with fail
          rw [HX.out]
          clear HX
          go_region
          all_goals
            go_wp2_with fail
            refine bodyPost_ret (v := .tuple #[.agg #[.int .i64 p.kind, .int .i64 p.col, .int .i64 p.op, .int .i64 p.v.ty, .int .i64 p.v.n, .string p.v.s, .slice none 0 0], .string (⟨#[]⟩ : ByteArray), .bool ok]) ?_ rfl (PartP.mk p (.slice none 0 0) (⟨#[]⟩ : ByteArray) ok rfl (by rw [HPL.out.1]; exact ownP_none _ _ _ _) ⟨HP.out, Nat.zero_le _, ⟨Nat.le_trans HPL.out.2.1 (by decide), by rw [HPL.out.1]; exact POks.nil⟩, ⟨⟨by have := HPL.out.2.2.1; omega, by have := HPL.out.2.2.2; omega⟩, by rw [HPL.out.1]; exact PIns.nil⟩, by rw [HPL.out.1, cntP_nil]; exact Nat.zero_le _⟩ ?_)
            · simp [results, Tryz.results23, go_sem, r0, r1, r2, r3, r4, r5, r6]
              rfl
            · refine Below.drew ?_
              iterate 7 refine below_set0 ?_ (Nat.le_refl _) _
              exact HBx.out
        · have hdn : decide (ix < 0) = false := decide_eq_false hneg
          obtain ⟨e, rfl⟩ : ∃ e : Nat, ix = (e : Int) := ⟨ix.toNat, by omega⟩
          have hes : e ≤ s.size := by omega
          have hesi : (e : Int) ≤ (s.size : Int) := by omega
          have HE2 := Lib.hid (show (Lib.indexAny s.data.toList [44, 41] < 0 ∧ e = s.data.toList.length) ∨ Lib.indexAny s.data.toList [44, 41] = (e : Int) from .inr HIx.out)
          clear hneg hix1 hix2 HIx hsl
          have HPC := Lib.hid (impl_parseCompare cols (s.extract 0 e) w2 hc (Nat.le_trans (ext_le s 0 e) hs) (HE.out.below Hb2.out))
          go_wp2_with fail
          refine HPC.out.mono ?_
          rintro e3 w3 ⟨p, ok, rfl, hcr, hpl, hb3⟩
          have HP := Lib.hid (show PartR cols (k + 1) s.data.toList p (s.extract e s.size).data.toList ok by
            rw [ext_list]
            refine part_cmp HPA.out HW3.out HW4.out HW5.out HE2.out ?_
            rw [← take_ext]
            exact hcr)
          have HPL := Lib.hid hpl
          have Hb3 := Lib.hid (Hb2.out.trans (hb3.mono Hb2.out.size))
          have hupx := up_a1 w3 (.cells #[.int .i64 p.kind, .int .i64 p.col, .int .i64 p.op, .int .i64 p.v.ty, .int .i64 p.v.n, .string p.v.s, .slice none 0 0] 27)
          have hsx : (w3.alloc (.cells #[.int .i64 p.kind, .int .i64 p.col, .int .i64 p.op, .int .i64 p.v.ty, .int .i64 p.v.n, .string p.v.s, .slice none 0 0] 27)).heap.size = w3.heap.size + 1 := by simp
          obtain ⟨X, hX⟩ : ∃ X, w3.alloc (.cells #[.int .i64 p.kind, .int .i64 p.col, .int .i64 p.op, .int .i64 p.v.ty, .int .i64 p.v.n, .string p.v.s, .slice none 0 0] 27) = X := ⟨_, rfl⟩
          have gx := heap_alloc_new w3 (.cells #[.int .i64 p.kind, .int .i64 p.col, .int .i64 p.op, .int .i64 p.v.ty, .int .i64 p.v.n, .string p.v.s, .slice none 0 0] 27)
          rw [hX] at hupx hsx gx
          have hz3 := Hb3.out.size
          have G0x := Lib.hid ((hupx.block w.heap.size (by omega)).trans ((Hb3.out.block w.heap.size (by omega)).trans G0.out))
          have GX := Lib.hid gx
          have HBx := Lib.hid (UP.out.trans ((Hb3.out.trans (hupx.mono Hb3.out.size)).mono (by omega)))
          have HX := Lib.hid hX
          clear hupx hsx gx hX hcr hpl hb3
          have q0 := cell_of_row X (w3.heap.size) 0 _ _ _ GX.out
          have q1 := cell_of_row X (w3.heap.size) 1 _ _ _ GX.out
          have q2 := cell_of_row X (w3.heap.size) 2 _ _ _ GX.out
          have q3 := cell_of_row X (w3.heap.size) 3 _ _ _ GX.out
          have q4 := cell_of_row X (w3.heap.size) 4 _ _ _ GX.out
          have q5 := cell_of_row X (w3.heap.size) 5 _ _ _ GX.out
          have q6 := cell_of_row X (w3.heap.size) 6 _ _ _ GX.out
          simp only [List.getElem?_toArray, List.getElem?_cons_zero, List.getElem?_cons_succ] at q0 q1 q2 q3 q4 q5 q6
          have r0 := cell_of_row X (w.heap.size) 0 _ _ _ G0x.out
          have r1 := cell_of_row X (w.heap.size) 1 _ _ _ G0x.out
          have r2 := cell_of_row X (w.heap.size) 2 _ _ _ G0x.out
          have r3 := cell_of_row X (w.heap.size) 3 _ _ _ G0x.out
          have r4 := cell_of_row X (w.heap.size) 4 _ _ _ G0x.out
          have r5 := cell_of_row X (w.heap.size) 5 _ _ _ G0x.out
          have r6 := cell_of_row X (w.heap.size) 6 _ _ _ G0x.out
          simp only [List.getElem?_toArray, List.getElem?_cons_zero, List.getElem?_cons_succ] at r0 r1 r2 r3 r4 r5 r6
          have f0 := fun o => frozen_of_row X w.heap.size o _ _ G0x.out
          go_upto_region 16 with fail
          rw [HX.out]
          clear HX
          go_region
          all_goals
            go_wp2_with fail
            refine bodyPost_ret (v := .tuple #[.agg #[.int .i64 p.kind, .int .i64 p.col, .int .i64 p.op, .int .i64 p.v.ty, .int .i64 p.v.n, .string p.v.s, .slice none 0 0], .string (s.extract e s.size), .bool ok]) ?_ rfl (PartP.mk p (.slice none 0 0) (s.extract e s.size) ok rfl (by rw [HPL.out.1]; exact ownP_none _ _ _ _) ⟨HP.out, by simp, ⟨Nat.le_trans HPL.out.2.1 (by decide), by rw [HPL.out.1]; exact POks.nil⟩, ⟨⟨by have := HPL.out.2.2.1; omega, by have := HPL.out.2.2.2; omega⟩, by rw [HPL.out.1]; exact PIns.nil⟩, by rw [HPL.out.1, cntP_nil]; exact Nat.zero_le _⟩ ?_)
            · simp [results, Tryz.results23, go_sem, r0, r1, r2, r3, r4, r5, r6]
            · refine Below.drew ?_
              iterate 7 refine below_set0 ?_ (Nat.le_refl _) _
              exact HBx.out
  · have hsl := trim_yes hpa
    obtain ⟨rs, hrs⟩ : ∃ rs : ByteArray, ⟨(Lib.trimPrefix s.data.toList (⟨#[97, 108, 108]⟩ : ByteArray).data.toList).toArray⟩ = rs := ⟨_, rfl⟩
    have hrl : rs.data.toList = Lib.trimPrefix s.data.toList (⟨#[97, 108, 108]⟩ : ByteArray).data.toList := by rw [← hrs]
    have hrz : rs.size ≤ s.size := by
      have h1 : rs.data.toList.length = rs.size := by simp
      have h2 : s.data.toList.length = s.size := by simp
      have h3 := congrArg List.length hsl
      rw [List.length_append, ← hrl] at h3
      omega
    have HP := Lib.hid (show PartR cols (k + 1) s.data.toList ⟨1, 0, 0, V.zero, []⟩ rs.data.toList true from part_all (by rw [hrl]; exact hsl))
    simp only [hrs]
    clear hrs hrl hsl hpa
    have r0 := cell_of_row W0 (w.heap.size) 0 _ _ _ G0.out
    have r1 := cell_of_row W0 (w.heap.size) 1 _ _ _ G0.out
    have r2 := cell_of_row W0 (w.heap.size) 2 _ _ _ G0.out
    have r3 := cell_of_row W0 (w.heap.size) 3 _ _ _ G0.out
    have r4 := cell_of_row W0 (w.heap.size) 4 _ _ _ G0.out
    have r5 := cell_of_row W0 (w.heap.size) 5 _ _ _ G0.out
    have r6 := cell_of_row W0 (w.heap.size) 6 _ _ _ G0.out
    simp only [List.getElem?_toArray, List.getElem?_cons_zero, List.getElem?_cons_succ] at r0 r1 r2 r3 r4 r5 r6
    have f0 := fun o => frozen_of_row W0 w.heap.size o _ _ G0.out
    go_wp2_with fail
    refine bodyPost_ret (v := .tuple #[.agg #[.int .i64 1, .int .i64 0, .int .i64 0, .int .i64 0, .int .i64 0, .string ⟨#[]⟩, .slice none 0 0], .string rs, .bool true]) ?_ rfl (PartP.mk ⟨1, 0, 0, V.zero, []⟩ (.slice none 0 0) rs true rfl (ownP_none _ _ _ _) ⟨HP.out, hrz, ⟨Nat.zero_le _, POks.nil⟩, ⟨⟨show (-9223372036854775808 : Int) ≤ 0 by decide, show (0 : Int) ≤ 9223372036854775807 by decide⟩, PIns.nil⟩, by show cntP [] ≤ _; rw [cntP_nil]; exact Nat.zero_le _⟩ ?_)
    · simp [results, Tryz.results23, go_sem, r0, r1, r2, r3, r4, r5, r6]
    · iterate 7 refine below_set0 ?_ (Nat.le_refl _) _
      exact UP.out
theorem impl_parsePart (cols : List Int) (hc : cols.length ≤ 1048576) : ∀ k, k ≤ 4 → PartC cols k
  | 0, _ => impl_parsePart_0 cols
  | k + 1, h => impl_parsePart_s cols hc k (by omega) (impl_parseOperands cols k (by omega) (impl_parsePart cols hc k (by omega)))
end Go.Proofs.YtjogkbkkcaljhaaGreatDoor
namespace Go.Proofs.YtjogkbkkcaljhaaGreatDoor
open Go.Sort Go.ChangeShapes Go.WideShapes Go.ChangeAt Go.RowKit Go.Lb
/-- What a predicate's text is read as. -/
def PredR (cols : List Int) (s : ByteArray) (p : P) (ok : Bool) : Prop := (ok = true ∧ predOk cols p = true ∧ predT p = s ∧ ∀ p', predOk cols p' = true → predT p' = s → p' = p) ∨ (ok = false ∧ p = ⟨0, 0, 0, V.zero, []⟩ ∧ ∀ p', predOk cols p' = true → predT p' ≠ s)
theorem PredR.one {cols : List Int} {s : ByteArray} {p p' : P} {ok ok' : Bool} (h : PredR cols s p ok) (h' : PredR cols s p' ok') : p = p' ∧ ok = ok' := by
  rcases h with ⟨a1, a2, a3, a4⟩ | ⟨a1, a2, a3⟩ <;> rcases h' with ⟨b1, b2, b3, b4⟩ | ⟨b1, b2, b3⟩
  · exact ⟨b4 p a2 a3, a1.trans b1.symm⟩
  · exact absurd a3 (b3 p a2)
  · exact absurd b3 (a3 p' b2)
  · exact ⟨a2.trans b2.symm, a1.trans b1.symm⟩
theorem predOk_deep4 {cols : List Int} {p : P} (h : predOk cols p = true) : deepOk cols 4 p = true := by
  unfold predOk at h
  simp only [Bool.and_eq_true] at h
  exact h.2.1
/-- A predicate of the call's own, and whether it could be read. -/
def ParseP (R : P → Bool → Prop) (w : World) (e : Ending) (w' : World) : Prop := ∃ (p : P) (sv : Value) (ok : Bool), e = .returned (.tuple #[.agg #[.int .i64 p.kind, .int .i64 p.col, .int .i64 p.op, .int .i64 p.v.ty, .int .i64 p.v.n, .string p.v.s, sv], .bool ok]) ∧ OwnP 27 w' w.heap.size w'.heap.size sv p.l ∧ Hid (R p ok) ∧ Below w.heap.size w w'
theorem ParseP.mk {R : P → Bool → Prop} {w w' : World} (p : P) (sv : Value) (ok : Bool) {v : Value} (hv : v = .tuple #[.agg #[.int .i64 p.kind, .int .i64 p.col, .int .i64 p.op, .int .i64 p.v.ty, .int .i64 p.v.n, .string p.v.s, sv], .bool ok]) (ho : OwnP 27 w' w.heap.size w'.heap.size sv p.l) (hR : R p ok) (hb : Below w.heap.size w w') : ParseP R w (.returned v) w' := ⟨p, sv, ok, congrArg _ hv, ho, Lib.hid hR, hb⟩
def PredG (cols : List Int) (s : ByteArray) (p : P) (ok : Bool) : Prop := PredR cols s p ok ∧ POk p ∧ PInOk p ∧ cntP p.l ≤ 340
theorem predG_no {cols : List Int} {s : ByteArray} (h : ∀ p', predOk cols p' = true → predT p' ≠ s) : PredG cols s ⟨0, 0, 0, V.zero, []⟩ false := ⟨.inr ⟨rfl, rfl, h⟩, good_none.1, good_none.2, cnt_none _⟩
set_option maxRecDepth 20000 in
set_option maxHeartbeats 8000000 in
theorem impl_ParsePred (cols : List Int) (cv : Value) (s : ByteArray) (w : World) {lo hi : Nat} (hx : RdI w lo hi cv cols) (hhi : hi ≤ w.heap.size) (hc : cols.length ≤ 1048576) (hs : s.size ≤ 1048576) (he : EnvP w) :
    Calls Tryz.prog 7 #[cv, .string s] w fun e w' => ParseP (PredG cols s) w e w' := by
  obtain ⟨Ac, cc, rfl, -, -⟩ := hx.form
  have up := up_a1 w (.cells #[.int .i64 0, .int .i64 0, .int .i64 0, .int .i64 0, .int .i64 0, .string ⟨#[]⟩, .slice none 0 0] 27)
  have G0 := Lib.hid (heap_alloc_new w (.cells #[.int .i64 0, .int .i64 0, .int .i64 0, .int .i64 0, .int .i64 0, .string ⟨#[]⟩, .slice none 0 0] 27))
  have hs0 : (w.alloc (.cells #[.int .i64 0, .int .i64 0, .int .i64 0, .int .i64 0, .int .i64 0, .string ⟨#[]⟩, .slice none 0 0] 27)).heap.size = w.heap.size + 1 := by simp
  have Hx := Lib.hid (hx.below up hhi)
  obtain ⟨W0, hW0⟩ : ∃ W0, w.alloc (.cells #[.int .i64 0, .int .i64 0, .int .i64 0, .int .i64 0, .int .i64 0, .string ⟨#[]⟩, .slice none 0 0] 27) = W0 := ⟨_, rfl⟩
  rw [hW0] at up G0 hs0 Hx
  have HW0 := Lib.hid hW0
  have UP := Lib.hid up
  have HE := Lib.hid (he.below up)
  have HPP := Lib.hid (impl_parsePart cols hc 4 (by decide) 4 s W0 rfl hs HE.out)
  clear hW0 up he hx
  go_enter Tryz.func7, Tryz.ntmps7
  go_wp2_with fail
  rw [HW0.out]
  clear HW0
  refine HPP.out.mono ?_
  clear HPP
  rintro e w2 ⟨p, sv, rest, ok, rfl, hop, HR, hb2⟩
  obtain ⟨As, cs, rfl, -, -⟩ := hop.rdP.form
  have hz2 := hb2.size
  have hupx := up_a1 w2 (.cells #[.int .i64 p.kind, .int .i64 p.col, .int .i64 p.op, .int .i64 p.v.ty, .int .i64 p.v.n, .string p.v.s, .slice As p.l.length cs] 27)
  have hsx : (w2.alloc (.cells #[.int .i64 p.kind, .int .i64 p.col, .int .i64 p.op, .int .i64 p.v.ty, .int .i64 p.v.n, .string p.v.s, .slice As p.l.length cs] 27)).heap.size = w2.heap.size + 1 := by simp
  obtain ⟨X, hX⟩ : ∃ X, w2.alloc (.cells #[.int .i64 p.kind, .int .i64 p.col, .int .i64 p.op, .int .i64 p.v.ty, .int .i64 p.v.n, .string p.v.s, .slice As p.l.length cs] 27) = X := ⟨_, rfl⟩
  have gx := heap_alloc_new w2 (.cells #[.int .i64 p.kind, .int .i64 p.col, .int .i64 p.op, .int .i64 p.v.ty, .int .i64 p.v.n, .string p.v.s, .slice As p.l.length cs] 27)
  rw [hX] at hupx hsx gx
  have hbx : Below W0.heap.size W0 X := hb2.trans (hupx.mono hb2.size)
  have G0x := Lib.hid ((hbx.block w.heap.size (by omega)).trans G0.out)
  have GX := Lib.hid gx
  have HBx := Lib.hid (UP.out.trans (hbx.mono (by omega)))
  have HX := Lib.hid hX
  have Hop := Lib.hid (hop.below hupx (Nat.le_refl _))
  have HEx := Lib.hid (HE.out.below hbx)
  have Hxx := Lib.hid (Hx.out.below hbx (by omega))
  have HOne := Lib.hid (show ∀ p', predOk cols p' = true → predT p' = s → ok = true ∧ p = p' ∧ rest.data.toList = [] from fun p' h e => HR.out.1 p' [] (predOk_deep4 h) stop_nil (by rw [e, List.append_nil]))
  have q0 := cell_of_row X (w2.heap.size) 0 _ _ _ GX.out
  have q1 := cell_of_row X (w2.heap.size) 1 _ _ _ GX.out
  have q2 := cell_of_row X (w2.heap.size) 2 _ _ _ GX.out
  have q3 := cell_of_row X (w2.heap.size) 3 _ _ _ GX.out
  have q4 := cell_of_row X (w2.heap.size) 4 _ _ _ GX.out
  have q5 := cell_of_row X (w2.heap.size) 5 _ _ _ GX.out
  have q6 := cell_of_row X (w2.heap.size) 6 _ _ _ GX.out
  simp only [List.getElem?_toArray, List.getElem?_cons_zero, List.getElem?_cons_succ] at q0 q1 q2 q3 q4 q5 q6
  have r0 := cell_of_row X (w.heap.size) 0 _ _ _ G0x.out
  have r1 := cell_of_row X (w.heap.size) 1 _ _ _ G0x.out
  have r2 := cell_of_row X (w.heap.size) 2 _ _ _ G0x.out
  have r3 := cell_of_row X (w.heap.size) 3 _ _ _ G0x.out
  have r4 := cell_of_row X (w.heap.size) 4 _ _ _ G0x.out
  have r5 := cell_of_row X (w.heap.size) 5 _ _ _ G0x.out
  have r6 := cell_of_row X (w.heap.size) 6 _ _ _ G0x.out
  simp only [List.getElem?_toArray, List.getElem?_cons_zero, List.getElem?_cons_succ] at r0 r1 r2 r3 r4 r5 r6
  have f0 := fun o => frozen_of_row X w.heap.size o _ _ G0x.out
  clear hX gx hupx hb2 hop hbx
  go_upto_region 2 with fail
  rw [HX.out]
  clear HX
  cases ok
  · have HN := Lib.hid (predG_no (cols := cols) (s := s) fun p' h e => by have := (HOne.out p' h e).1; cases this)
    go_wp2_with fail
    refine bodyPost_ret (v := .tuple #[.agg #[.int .i64 0, .int .i64 0, .int .i64 0, .int .i64 0, .int .i64 0, .string ⟨#[]⟩, .slice none 0 0], .bool false]) ?_ rfl (ParseP.mk ⟨0, 0, 0, V.zero, []⟩ (.slice none 0 0) false rfl (ownP_none _ _ _ _) HN.out ?_)
    · simp [results, Tryz.results7, go_sem, r0, r1, r2, r3, r4, r5, r6]
    · iterate 7 refine below_set0 ?_ (Nat.le_refl _) _
      exact HBx.out
  · rcases Nat.eq_zero_or_pos rest.size with hz | hpos
    · have hem : rest.toList.isEmpty = true := by
        have : rest.data.toList.length = rest.size := by simp
        rw [Lib.toList_data, List.isEmpty_iff, ← List.length_eq_zero_iff]
        omega
      have HPO := Lib.hid (impl_PredOk cols (.slice Ac cols.length cc) p (.slice As p.l.length cs) X Hxx.out (by omega) Hop.out.rdP (by omega) HR.out.2.2.1 (Nat.le_trans HR.out.2.2.2.2 (by decide)))
      cases hpo : predOk cols p
      · rw [hpo] at HPO
        have HN := Lib.hid (predG_no (cols := cols) (s := s) fun p' h e => by
          have := (HOne.out p' h e).2.1
          rw [this, h] at hpo
          cases hpo)
        clear hpo
        go_wp2_with fail
        refine HPO.out.mono ?_
        rintro e w3 ⟨rfl, hb3⟩
        clear q0 q1 q2 q3 q4 q5 q6 r0 r1 r2 r3 r4 r5 r6 f0
        have Hb3 := Lib.hid hb3
        have g2 := (Hb3.out.block w.heap.size (by omega)).trans G0x.out
        have r0 := cell_of_row w3 (w.heap.size) 0 _ _ _ g2
        have r1 := cell_of_row w3 (w.heap.size) 1 _ _ _ g2
        have r2 := cell_of_row w3 (w.heap.size) 2 _ _ _ g2
        have r3 := cell_of_row w3 (w.heap.size) 3 _ _ _ g2
        have r4 := cell_of_row w3 (w.heap.size) 4 _ _ _ g2
        have r5 := cell_of_row w3 (w.heap.size) 5 _ _ _ g2
        have r6 := cell_of_row w3 (w.heap.size) 6 _ _ _ g2
        simp only [List.getElem?_toArray, List.getElem?_cons_zero, List.getElem?_cons_succ] at r0 r1 r2 r3 r4 r5 r6
        have f0 := fun o => frozen_of_row w3 w.heap.size o _ _ g2
        clear g2
        clear hb3
        go_wp2_with fail
        refine bodyPost_ret (v := .tuple #[.agg #[.int .i64 0, .int .i64 0, .int .i64 0, .int .i64 0, .int .i64 0, .string ⟨#[]⟩, .slice none 0 0], .bool false]) ?_ rfl (ParseP.mk ⟨0, 0, 0, V.zero, []⟩ (.slice none 0 0) false rfl (ownP_none _ _ _ _) HN.out ?_)
        · simp [results, Tryz.results7, go_sem, r0, r1, r2, r3, r4, r5, r6]
        · iterate 7 refine below_set0 ?_ (Nat.le_refl _) _
          exact HBx.out.trans (Hb3.out.mono (by omega))
      · rw [hpo] at HPO
        go_wp2_with fail
        refine HPO.out.mono ?_
        rintro e w3 ⟨rfl, hb3⟩
        have HPT := Lib.hid (impl_PredText p (.slice As p.l.length cs) w3 (Hop.out.rdP.below hb3 (by omega)) (by have := hb3.size; omega) HR.out.2.2.1 HR.out.2.2.2.1 (Nat.le_trans HR.out.2.2.2.2 (by decide)) (HEx.out.below hb3).1)
        have Hb3 := Lib.hid hb3
        have g0 := Lib.hid ((hb3.block w.heap.size (by omega)).trans G0x.out)
        have g1 := Lib.hid ((hb3.block w2.heap.size (by omega)).trans GX.out)
        have hz3 := hb3.size
        clear q0 q1 q2 q3 q4 q5 q6 r0 r1 r2 r3 r4 r5 r6 f0 hb3
        have q0 := cell_of_row w3 (w2.heap.size) 0 _ _ _ g1.out
        have q1 := cell_of_row w3 (w2.heap.size) 1 _ _ _ g1.out
        have q2 := cell_of_row w3 (w2.heap.size) 2 _ _ _ g1.out
        have q3 := cell_of_row w3 (w2.heap.size) 3 _ _ _ g1.out
        have q4 := cell_of_row w3 (w2.heap.size) 4 _ _ _ g1.out
        have q5 := cell_of_row w3 (w2.heap.size) 5 _ _ _ g1.out
        have q6 := cell_of_row w3 (w2.heap.size) 6 _ _ _ g1.out
        simp only [List.getElem?_toArray, List.getElem?_cons_zero, List.getElem?_cons_succ] at q0 q1 q2 q3 q4 q5 q6
        by_cases heq : predT p = s
        · have hne : ((predT p).toList == s.toList) = true := str_eq heq
          have HN := Lib.hid (show PredG cols s p true from ⟨.inl ⟨rfl, hpo, heq, fun p' h e => (HOne.out p' h e).2.1.symm⟩, HR.out.2.2.1, HR.out.2.2.2.1, Nat.le_trans HR.out.2.2.2.2 (by decide)⟩)
          clear hpo heq
          go_wp2_with fail
          refine HPT.out.mono ?_
          rintro e w4 ⟨rfl, hb4⟩
          have g2 := (hb4.block w.heap.size (by omega)).trans g0.out
          have g3 := (hb4.block w2.heap.size (by omega)).trans g1.out
          clear q0 q1 q2 q3 q4 q5 q6
          have q0 := cell_of_row w4 (w2.heap.size) 0 _ _ _ g3
          have q1 := cell_of_row w4 (w2.heap.size) 1 _ _ _ g3
          have q2 := cell_of_row w4 (w2.heap.size) 2 _ _ _ g3
          have q3 := cell_of_row w4 (w2.heap.size) 3 _ _ _ g3
          have q4 := cell_of_row w4 (w2.heap.size) 4 _ _ _ g3
          have q5 := cell_of_row w4 (w2.heap.size) 5 _ _ _ g3
          have q6 := cell_of_row w4 (w2.heap.size) 6 _ _ _ g3
          simp only [List.getElem?_toArray, List.getElem?_cons_zero, List.getElem?_cons_succ] at q0 q1 q2 q3 q4 q5 q6
          have r0 := cell_of_row w4 (w.heap.size) 0 _ _ _ g2
          have r1 := cell_of_row w4 (w.heap.size) 1 _ _ _ g2
          have r2 := cell_of_row w4 (w.heap.size) 2 _ _ _ g2
          have r3 := cell_of_row w4 (w.heap.size) 3 _ _ _ g2
          have r4 := cell_of_row w4 (w.heap.size) 4 _ _ _ g2
          have r5 := cell_of_row w4 (w.heap.size) 5 _ _ _ g2
          have r6 := cell_of_row w4 (w.heap.size) 6 _ _ _ g2
          simp only [List.getElem?_toArray, List.getElem?_cons_zero, List.getElem?_cons_succ] at r0 r1 r2 r3 r4 r5 r6
          have f0 := fun o => frozen_of_row w4 w.heap.size o _ _ g2
          have Hb4 := Lib.hid (Hb3.out.trans (hb4.mono Hb3.out.size))
          have hz4 := hb4.size
          clear g2 g3 hb4
          go_wp2_with fail
          refine bodyPost_ret (v := .tuple #[.agg #[.int .i64 p.kind, .int .i64 p.col, .int .i64 p.op, .int .i64 p.v.ty, .int .i64 p.v.n, .string p.v.s, .slice As p.l.length cs], .bool true]) ?_ rfl (ParseP.mk p (.slice As p.l.length cs) true rfl ?_ HN.out ?_)
          · simp [results, Tryz.results7, go_sem, r0, r1, r2, r3, r4, r5, r6]
          · refine OwnP.imp (Hop.out.below Hb4.out (by omega)) (by omega) (by simp [World.setCell]; omega) fun b h1 h2 => ?_
            have hbne : b ≠ w.heap.size := by omega
            iterate 7 rw [Below.heap_setCell _ ⟨w.heap.size, _, none⟩ _ b hbne]
          · iterate 7 refine below_set0 ?_ (Nat.le_refl _) _
            exact HBx.out.trans (Hb4.out.mono (by omega))
        · have hne : ((predT p).toList == s.toList) = false := str_ne heq
          have HN := Lib.hid (predG_no (cols := cols) (s := s) fun p' h e => heq (by
            rw [(HOne.out p' h e).2.1]
            exact e))
          clear hpo heq
          go_wp2_with fail
          refine HPT.out.mono ?_
          rintro e w4 ⟨rfl, hb4⟩
          have Hb4 := Lib.hid (Hb3.out.trans (hb4.mono Hb3.out.size))
          clear q0 q1 q2 q3 q4 q5 q6 hb4
          have g2 := (Hb4.out.block w.heap.size (by omega)).trans G0x.out
          have r0 := cell_of_row w4 (w.heap.size) 0 _ _ _ g2
          have r1 := cell_of_row w4 (w.heap.size) 1 _ _ _ g2
          have r2 := cell_of_row w4 (w.heap.size) 2 _ _ _ g2
          have r3 := cell_of_row w4 (w.heap.size) 3 _ _ _ g2
          have r4 := cell_of_row w4 (w.heap.size) 4 _ _ _ g2
          have r5 := cell_of_row w4 (w.heap.size) 5 _ _ _ g2
          have r6 := cell_of_row w4 (w.heap.size) 6 _ _ _ g2
          simp only [List.getElem?_toArray, List.getElem?_cons_zero, List.getElem?_cons_succ] at r0 r1 r2 r3 r4 r5 r6
          have f0 := fun o => frozen_of_row w4 w.heap.size o _ _ g2
          clear g2
          go_wp2_with fail
          refine bodyPost_ret (v := .tuple #[.agg #[.int .i64 0, .int .i64 0, .int .i64 0, .int .i64 0, .int .i64 0, .string ⟨#[]⟩, .slice none 0 0], .bool false]) ?_ rfl (ParseP.mk ⟨0, 0, 0, V.zero, []⟩ (.slice none 0 0) false rfl (ownP_none _ _ _ _) HN.out ?_)
          · simp [results, Tryz.results7, go_sem, r0, r1, r2, r3, r4, r5, r6]
          · iterate 7 refine below_set0 ?_ (Nat.le_refl _) _
            exact HBx.out.trans (Hb4.out.mono (by omega))
    · have hem : rest.toList.isEmpty = false := by rw [Lib.toList_data, list_cons hpos]; rfl
      have HN := Lib.hid (predG_no (cols := cols) (s := s) fun p' h e => by
        have h1 := (HOne.out p' h e).2.2
        have : rest.data.toList.length = rest.size := by simp
        rw [h1] at this
        simp at this
        omega)
      go_wp2_with fail
      refine bodyPost_ret (v := .tuple #[.agg #[.int .i64 0, .int .i64 0, .int .i64 0, .int .i64 0, .int .i64 0, .string ⟨#[]⟩, .slice none 0 0], .bool false]) ?_ rfl (ParseP.mk ⟨0, 0, 0, V.zero, []⟩ (.slice none 0 0) false rfl (ownP_none _ _ _ _) HN.out ?_)
      · simp [results, Tryz.results7, go_sem, r0, r1, r2, r3, r4, r5, r6]
      · iterate 7 refine below_set0 ?_ (Nat.le_refl _) _
        exact HBx.out
end Go.Proofs.YtjogkbkkcaljhaaGreatDoor
