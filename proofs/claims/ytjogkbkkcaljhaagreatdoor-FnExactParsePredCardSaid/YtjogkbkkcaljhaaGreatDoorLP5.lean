/- The laws' helpers for predicates: marks, with what lies there behind them, and marks looked for: contracts. -/
import Derived.Test.YtjogkbkkcaljhaaGreatDoorLP4
import Derived.Test.YtjogkbkkcaljhaaGreatDoorXI
namespace Go.Proofs.YtjogkbkkcaljhaaGreatDoor
open Go.Sort Go.ChangeShapes Go.WideShapes Go.ChangeAt Go.RowKit Go.Lb
/-- The marked predicates of a list. -/
def markPs (k : Int) : List P → List P
  | [] => []
  | (.mk _ _ _ _ l) :: r => .mk k (k + 1) (k + 1 + 1) ⟨k + 1 + 1 + 1, k + 1 + 1 + 1 + 1, mkText (k + 1 + 1 + 1 + 1 + 1)⟩ (markPs (k + 1 + 1 + 1 + 1 + 1 + 1) l) :: markPs (k + 6 * ((1 + cntP l : Nat) : Int)) r
termination_by l => SizeOf.sizeOf l
decreasing_by all_goals (simp; try omega)
def markP1 (k : Int) (p : P) : P := .mk k (k + 1) (k + 1 + 1) ⟨k + 1 + 1 + 1, k + 1 + 1 + 1 + 1, mkText (k + 1 + 1 + 1 + 1 + 1)⟩ (markPs (k + 1 + 1 + 1 + 1 + 1 + 1) p.l)
theorem markPs_nil (k : Int) : markPs k [] = [] := by rw [markPs]
theorem markPs_cons (k : Int) (p : P) (r : List P) : markPs k (p :: r) = markP1 k p :: markPs (k + 6 * ((1 + cntP p.l : Nat) : Int)) r := by cases p; rw [markPs]; rfl
theorem markPs_len (l : List P) : ∀ k, (markPs k l).length = l.length := by
  induction l with
  | nil => intro k; rw [markPs_nil]
  | cons x l ih => intro k; rw [markPs_cons, List.length_cons, List.length_cons, ih]
theorem markPs_get : ∀ (l : List P) (j : Nat) (y : P) (k : Int), l[j]? = some y → (markPs k l)[j]? = some (markP1 (k + 6 * (cntP (l.take j) : Nat)) y)
  | [], j, y, k, h => by simp at h
  | x :: l, 0, y, k, h => by
    simp only [List.getElem?_cons_zero, Option.some.injEq] at h
    subst h
    rw [markPs_cons, List.take_zero, cntP_nil]
    simp
  | x :: l, j + 1, y, k, h => by
    rw [List.getElem?_cons_succ] at h
    rw [markPs_cons, List.getElem?_cons_succ, markPs_get l j y _ h, List.take_succ_cons, cntP_cons]
    congr 2
    omega
def markPx (k : Int) : List (P × Value) → List (P × Value)
  | [] => []
  | (p, v) :: r => (markP1 k p, v) :: markPx (k + 6 * ((1 + cntP p.l : Nat) : Int)) r
theorem markPx_fst : ∀ (ps : List (P × Value)) (k : Int), (markPx k ps).map Prod.fst = markPs k (ps.map Prod.fst)
  | [], k => by simp [markPx, markPs_nil]
  | (p, v) :: r, k => by rw [markPx, List.map_cons, List.map_cons, markPs_cons, markPx_fst r]
theorem markPx_len (ps : List (P × Value)) (k : Int) : (markPx k ps).length = ps.length := by
  have := congrArg List.length (markPx_fst ps k)
  rw [List.length_map, markPs_len, List.length_map] at this
  exact this
theorem markPx_get : ∀ (ps : List (P × Value)) (j : Nat) (p : P × Value) (k : Int), (markPx k ps)[j]? = some p → ∃ q, ps[j]? = some q ∧ p = (markP1 (k + 6 * (cntP ((ps.map Prod.fst).take j) : Nat)) q.1, q.2)
  | [], j, p, k, h => by simp [markPx] at h
  | (x, v) :: r, 0, p, k, h => by
    rw [markPx, List.getElem?_cons_zero, Option.some.injEq] at h
    exact ⟨(x, v), rfl, by rw [← h]; simp [cntP_nil]⟩
  | (x, v) :: r, j + 1, p, k, h => by
    rw [markPx, List.getElem?_cons_succ] at h
    obtain ⟨q, h1, h2⟩ := markPx_get r j p _ h
    refine ⟨q, h1, ?_⟩
    rw [h2, List.map_cons, List.take_succ_cons, cntP_cons]
    congr 2
    dsimp only
    omega
/-- The six marked cells of one predicate. -/
def MkAt (cu : Array Value) (i : Nat) (K : Int) : Prop := cu[i * 7]? = some (.int .i64 K) ∧ cu[i * 7 + 1]? = some (.int .i64 (K + 1)) ∧ cu[i * 7 + 2]? = some (.int .i64 (K + 1 + 1)) ∧ cu[i * 7 + 3]? = some (.int .i64 (K + 1 + 1 + 1)) ∧ cu[i * 7 + 4]? = some (.int .i64 (K + 1 + 1 + 1 + 1)) ∧ cu[i * 7 + 5]? = some (.string (mkText (K + 1 + 1 + 1 + 1 + 1)))
theorem MkAt.set {cu : Array Value} {i q : Nat} {K : Int} {u : Value} (h : MkAt cu i K) (hq : i * 7 + 6 < q) : MkAt (cu.setIfInBounds q u) i K := by
  obtain ⟨h0, h1, h2, h3, h4, h5⟩ := h
  refine ⟨?_, ?_, ?_, ?_, ?_, ?_⟩ <;> rw [Array.getElem?_setIfInBounds_ne (by omega)] <;> assumption
theorem MkAt.new {cu : Array Value} {j : Nat} {K : Int} (h : j * 7 + 7 ≤ cu.size) : MkAt ((((((cu.setIfInBounds (j * 7) (.int .i64 K)).setIfInBounds (j * 7 + 1) (.int .i64 (K + 1))).setIfInBounds (j * 7 + 2) (.int .i64 (K + 1 + 1))).setIfInBounds (j * 7 + 3) (.int .i64 (K + 1 + 1 + 1))).setIfInBounds (j * 7 + 4) (.int .i64 (K + 1 + 1 + 1 + 1))).setIfInBounds (j * 7 + 5) (.string (mkText (K + 1 + 1 + 1 + 1 + 1)))) j K := by
  refine ⟨?_, ?_, ?_, ?_, ?_, ?_⟩
  · iterate 5 rw [Array.getElem?_setIfInBounds_ne (by omega)]
    exact Array.getElem?_setIfInBounds_self_of_lt (by omega)
  · iterate 4 rw [Array.getElem?_setIfInBounds_ne (by omega)]
    exact Array.getElem?_setIfInBounds_self_of_lt (by simp; omega)
  · iterate 3 rw [Array.getElem?_setIfInBounds_ne (by omega)]
    exact Array.getElem?_setIfInBounds_self_of_lt (by simp; omega)
  · iterate 2 rw [Array.getElem?_setIfInBounds_ne (by omega)]
    exact Array.getElem?_setIfInBounds_self_of_lt (by simp; omega)
  · rw [Array.getElem?_setIfInBounds_ne (by omega)]
    exact Array.getElem?_setIfInBounds_self_of_lt (by simp; omega)
  · exact Array.getElem?_setIfInBounds_self_of_lt (by simp; omega)
theorem pcells_take {cu : Array Value} {ps : List (P × Value)} (h : ∀ (i : Nat) (p : P × Value), ps[i]? = some p → ∀ o, o < 7 → cu[i * 7 + o]? = (p.1.cell p.2)[o]?) : cu.toList.take (ps.length * 7) = ps.flatMap fun p => p.1.cell p.2 := by
  apply List.ext_getElem?
  intro m
  by_cases hm : m < ps.length * 7
  · rw [List.getElem?_take, if_pos hm, Array.getElem?_toList]
    have hd : m / 7 < ps.length := by omega
    have h1 := h (m / 7) _ (List.getElem?_eq_getElem hd) (m % 7) (Nat.mod_lt _ (by omega))
    have h2 := flat_get (fun p : P × Value => p.1.cell p.2) 7 P.cell_len ps (m / 7) (m % 7) _ (List.getElem?_eq_getElem hd) (Nat.mod_lt _ (by omega))
    rw [show m / 7 * 7 + m % 7 = m by omega] at h1 h2
    rw [h1, h2]
  · rw [List.getElem?_eq_none (by simp; omega), List.getElem?_eq_none (by rw [flat_len (fun p : P × Value => p.1.cell p.2) 7 P.cell_len]; omega)]
theorem pcells_mark {cu : Array Value} {ps : List (P × Value)} {k : Int} (h1 : ∀ (i : Nat) (p : P × Value), ps[i]? = some p → MkAt cu i (k + 6 * (cntP ((ps.map Prod.fst).take i) : Nat))) (h2 : ∀ (i : Nat) (p : P × Value), ps[i]? = some p → cu[i * 7 + 6]? = some p.2) : cu.toList.take (ps.length * 7) = (markPx k ps).flatMap fun p => p.1.cell p.2 := by
  rw [← markPx_len ps k]
  refine pcells_take fun i p hp o ho => ?_
  obtain ⟨q, hq, rfl⟩ := markPx_get ps i p k hp
  obtain ⟨a0, a1, a2, a3, a4, a5⟩ := h1 i q hq
  have a6 := h2 i q hq
  rcases (by omega : o = 0 ∨ o = 1 ∨ o = 2 ∨ o = 3 ∨ o = 4 ∨ o = 5 ∨ o = 6) with rfl | rfl | rfl | rfl | rfl | rfl | rfl
  · exact a0
  · exact a1
  · exact a2
  · exact a3
  · exact a4
  · exact a5
  · exact a6
set_option maxRecDepth 20000 in
set_option maxHeartbeats 4000000 in
theorem markPredW_n : ∀ (N : Nat) (l : List P), SizeOf.sizeOf l < N → ∀ (v : Value) (k : Int) (w : World) (lo hi : Nat), OwnP 27 w lo hi v l → hi ≤ w.heap.size → 1 ≤ k → k + 6 * (cntP l : Nat) ≤ 10000000000000 →
    Calls Tryz.prog 26 #[v, .int .i64 k] w fun e w' => e = .returned (.int .i64 (k + 6 * (cntP l : Nat))) ∧ Chg lo hi w w' ∧ OwnP 27 w' lo hi v (markPs k l)
  | 0, _, h => absurd h (Nat.not_lt_zero _)
  | N + 1, l, hN => by
    have IH := Lib.hid (markPredW_n N)
    intro v k w lo hi hown hhi hk0 hk
    unfold OwnP at hown
    cases hown with
    | mk lo hi v ps s t ho hin hr hst hts =>
    have HO := Lib.hid (show World.ownsRow w 0 27 7 v ps.length _ from ho)
    rcases ho.2 with ⟨rfl, h0⟩ | ⟨g, cap, cur, rfl, -, hcur, hnc, hcm, hsz, htk⟩
    · have hp0 : ps = [] := List.eq_nil_of_length_eq_zero (h0)
      subst hp0
      go_enter Tryz.func26, Tryz.ntmps26
      go_wp2_with fail
      go_loop [5, 1] (fun i q => i = .int .i64 0 ∧ q = .int .i64 k) (fun _ _ => 0)
      case atStart => exact ⟨rfl, rfl⟩
      case round =>
        obtain ⟨rfl, rfl⟩ := hrel
        go_wp2_with fail
        go_ret
        refine ⟨by simp [cntP_nil], Chg.refl _ _ _, ?_⟩
        show OwnP _ _ _ _ _ (markPs k [])
        rw [markPs_nil]
        exact OwnPi.mk _ _ _ [] s t ho hin hr hst hts
    · have hlg := hin g rfl
      have Hst := Lib.hid hst
      have Hts := Lib.hid hts
      have hcm0 := hcm
      unfold maxLen at hcm
      have hhdr : ∀ (j : Nat) (p : P × Value), ps[j]? = some p → cur[j * 7 + 6]? = some p.2 := fun j p hp => by
        have hjl := (List.getElem?_eq_some_iff.1 hp).1
        have h1 := flat_get (fun p : P × Value => p.1.cell p.2) 7 P.cell_len ps j 6 p hp (by omega)
        rw [← htk, List.getElem?_take, if_pos (by omega)] at h1
        rw [← Array.getElem?_toList, h1]; rfl
      have Hhdr := Lib.hid hhdr
      have Hcur := Lib.hid hcur
      have Hsz := Lib.hid hsz
      have Hr := Lib.hid hr
      have hgs : g < w.heap.size := (Array.getElem?_eq_some_iff.1 hcur).1
      have Hin := Lib.hid hin
      clear hcur hsz htk hhdr hr hst hts ho hin
      go_enter Tryz.func26, Tryz.ntmps26
      go_wp2_with fail
      go_loopw [5, 1] (fun i q wr => ∃ (j : Nat) (cu : Array Value), i = .int .i64 j ∧ j ≤ ps.length ∧ q = .int .i64 (k + 6 * (cntP ((ps.map Prod.fst).take j) : Nat)) ∧ wr.heap[g]? = some (.cells cu 27 (0, 0)) ∧ cu.size = cap * 7 ∧ (∀ (j : Nat) (p : P × Value), ps[j]? = some p → cu[j * 7 + 6]? = some p.2) ∧ (∀ (i : Nat) (p : P × Value), ps[i]? = some p → OwnP 27 wr (s i) (t i) p.2 (if i < j then markPs (k + 6 * (cntP ((ps.map Prod.fst).take i) : Nat) + 1 + 1 + 1 + 1 + 1 + 1) p.1.l else p.1.l)) ∧ (∀ (i : Nat) (p : P × Value), i < j → ps[i]? = some p → MkAt cu i (k + 6 * (cntP ((ps.map Prod.fst).take i) : Nat))) ∧ Chg lo hi w wr) (fun i _ _ => ps.length - (intOf i).toNat)
      case atStart => exact ⟨0, cur, by simp, by omega, by simp [cntP_nil], Hcur.out, Hsz.out, Hhdr.out, fun i p hp => by rw [if_neg (by omega)]; exact Hr.out i p hp, fun i p hi => by omega, Chg.refl _ _ _⟩
      case round =>
        obtain ⟨j, cu, rfl, hj, rfl, hcu, hcs, hhd, hch, hmk, hc⟩ := hrel
        have Hmk := Lib.hid hmk
        have Hcu := Lib.hid hcu
        have Hcs := Lib.hid hcs
        have Hhd := Lib.hid hhd
        have Hch := Lib.hid hch
        have Hc := Lib.hid hc
        have hws := hc.size
        have hgl : g < wr.heap.size := (Array.getElem?_eq_some_iff.1 hcu).1
        clear hcu hcs hhd hch hmk hc
        by_cases hjn : j < ps.length
        · have hp : ps[j]? = some ps[j] := List.getElem?_eq_getElem hjn
          generalize ps[j] = p at hp
          have hpl : (ps.map Prod.fst)[j]? = some p.1 := by rw [List.getElem?_map, hp]; rfl
          have hcn := (cntP_take hpl).1
          have hcn2 := (cntP_take hpl).2
          have hlt := Nat.lt_trans p.1.l_lt (P.mem_lt (mem_of_get hpl))
          have hI := Hst.out j hjn
          have hgI := hI.2.2 g rfl
          have k0 := cell_of_row wr g (j * 7) cu _ _ Hcu.out
          have k1 := cell_of_row wr g (j * 7 + 1) cu _ _ Hcu.out
          have k2 := cell_of_row wr g (j * 7 + 2) cu _ _ Hcu.out
          have k3 := cell_of_row wr g (j * 7 + 3) cu _ _ Hcu.out
          have k4 := cell_of_row wr g (j * 7 + 4) cu _ _ Hcu.out
          have f0 := fun o => frozen_of_row wr g o cu _ Hcu.out
          rw [Array.getElem?_eq_getElem (by rw [Hcs.out]; omega)] at k0 k1 k2 k3 k4
          generalize hK : k + 6 * (cntP ((ps.map Prod.fst).take j) : Int) = K
          have Hp := Lib.hid hp
          clear hp hpl
          go_wp2_with fail
          refine (markText_c _ _ (by omega)).mono ?_
          rintro e w1 ⟨rfl, hb1⟩
          have Hc1 := Lib.hid ((hb1.block g (by simpa [World.setCell] using hgl)).trans (set1 (o := j * 7 + 4) (a := .int .i64 (K + 1 + 1 + 1 + 1)) (set1 (o := j * 7 + 3) (a := .int .i64 (K + 1 + 1 + 1)) (set1 (o := j * 7 + 2) (a := .int .i64 (K + 1 + 1)) (set1 (o := j * 7 + 1) (a := .int .i64 (K + 1)) (set1 (o := j * 7) (a := .int .i64 K) Hcu.out))))))
          have hg1 := grown_below (grown_set (grown_set (grown_set (grown_set (grown_set (World.grownBy.refl wr (some g)) (j * 7) (.int .i64 K)) (j * 7 + 1) (.int .i64 (K + 1))) (j * 7 + 2) (.int .i64 (K + 1 + 1))) (j * 7 + 3) (.int .i64 (K + 1 + 1 + 1))) (j * 7 + 4) (.int .i64 (K + 1 + 1 + 1 + 1))) hb1
          have Hhd1 := Lib.hid (hdr_set (i := j) (j := 4) (u := .int .i64 (K + 1 + 1 + 1 + 1)) (hdr_set (i := j) (j := 3) (u := .int .i64 (K + 1 + 1 + 1)) (hdr_set (i := j) (j := 2) (u := .int .i64 (K + 1 + 1)) (hdr_set (i := j) (j := 1) (u := .int .i64 (K + 1)) (hdr_set (i := j) (j := 0) (u := .int .i64 K) Hhd.out (by omega)) (by omega)) (by omega)) (by omega)) (by omega))
          have Hg1 := Lib.hid hg1
          have hs1 := hg1.size
          have hgl1 : g < w1.heap.size := by omega
          clear k0 k1 k2 k3 k4 f0 hb1 hg1
          have k5 := cell_of_row w1 g (j * 7 + 5) _ _ _ Hc1.out
          have k6 := (cell_of_row w1 g (j * 7 + 6) _ _ _ Hc1.out).trans (Hhd1.out j p Hp.out)
          have f1 := fun o => frozen_of_row w1 g o _ _ Hc1.out
          rw [Array.getElem?_eq_getElem (by simp only [Array.size_setIfInBounds]; rw [Hcs.out]; omega)] at k5
          have hsame : Same (s j) (t j) wr (w1.setCell ⟨g, j * 7 + 5, none⟩ (.string (mkText (K + 1 + 1 + 1 + 1 + 1)))) := fun b h1 h2 =>
            (Below.heap_setCell w1 ⟨g, j * 7 + 5, none⟩ _ b (show b ≠ g by omega)).trans (Hg1.out.block b (by omega) (fun e => by injection e with e; omega))
          have HC := Lib.hid (IH.out p.1.l (by omega) p.2 (K + 1 + 1 + 1 + 1 + 1 + 1) (w1.setCell ⟨g, j * 7 + 5, none⟩ (.string (mkText (K + 1 + 1 + 1 + 1 + 1)))) (s j) (t j) ((show OwnP 27 wr (s j) (t j) p.2 p.1.l by have h := Hch.out j p Hp.out; rw [if_neg (by omega)] at h; exact h).same hsame) (by simp [World.setCell]; omega) (by omega) (by omega))
          clear hsame
          go_wp2_with fail
          refine HC.out.mono ?_
          rintro e w2 ⟨rfl, hc2, hon2⟩
          have Hc2 := Lib.hid hc2
          have Hon2 := Lib.hid hon2
          clear hon2
          have hs2 := hc2.size
          simp [World.setCell] at hs2
          clear hc2 HC k5 k6 f1
          go_wp2_with fail
          go_roundw
          case rel =>
            refine ⟨j + 1, _, by go_num, by omega, congrArg (Value.int .i64) (by omega), (Hc2.out.block g (by simp [World.setCell]; omega) (by omega)).trans (set1 (o := j * 7 + 5) Hc1.out), by simpa using Hcs.out, hdr_set Hhd1.out (by omega), fun i q hq => ?_, fun i q hi hq => ?_, ?_⟩
            · have hil := (List.getElem?_eq_some_iff.1 hq).1
              have hst := Hst.out i hil
              have hgi := hst.2.2 g rfl
              by_cases hij : i = j
              · subst hij
                obtain rfl : p = q := Option.some.inj (Hp.out.symm.trans hq)
                rw [if_pos (by omega), hK]
                exact Hon2.out
              · have hto : t j ≤ s i ∨ t i ≤ s j := by
                  rcases Nat.lt_or_ge i j with h | h
                  · exact .inr (Hts.out i j h hjn)
                  · exact .inl (Hts.out j i (by omega) hil)
                have key : Same (s i) (t i) wr w2 := fun b h1 h2 => (Hc2.out.block b (by simp [World.setCell]; omega) (by omega)).trans ((Below.heap_setCell w1 ⟨g, j * 7 + 5, none⟩ _ b (show b ≠ g by omega)).trans (Hg1.out.block b (by omega) (fun e => by injection e with e; omega)))
                have h := (Hch.out i q hq).same key
                by_cases hlt2 : i < j
                · rw [if_pos hlt2] at h
                  rw [if_pos (by omega)]
                  exact h
                · rw [if_neg hlt2] at h
                  rw [if_neg (by omega)]
                  exact h
            · by_cases hij : i = j
              · subst hij
                rw [hK]
                exact MkAt.new (by rw [Hcs.out]; omega)
              · have h1 := Hmk.out i q (by omega) hq
                exact (((((h1.set (by omega)).set (by omega)).set (by omega)).set (by omega)).set (by omega)).set (by omega)
            · refine Hc.out.trans ((Chg.of_grown (grown_set Hg1.out (j * 7 + 5) (.string (mkText (K + 1 + 1 + 1 + 1 + 1)))) (fun g' e => by injection e with e; omega)).trans (Hc2.out.mono hI.1 hI.2.1))
          case measure => simp [intOf]; omega
        · obtain rfl : j = ps.length := by omega
          have hlm : (ps.map Prod.fst).length = ps.length := List.length_map _
          rw [← hlm, List.take_length]
          rw [hlm]
          go_wp2_with fail
          go_ret
          refine ⟨rfl, Hc.out, ?_⟩
          rw [← markPx_fst]
          refine OwnPi.mk lo hi _ (markPx k ps) s t ⟨by rw [flat_len (fun p : P × Value => p.1.cell p.2) 7 P.cell_len], .inr ⟨g, cap, cu, by rw [markPx_len], Nat.zero_le _, Hcu.out, by rw [markPx_len]; exact hnc, hcm0, Hcs.out, by rw [markPx_len]; exact pcells_mark (fun i p hp => Hmk.out i p (List.getElem?_eq_some_iff.1 hp).1 hp) Hhd.out⟩⟩ Hin.out (fun i p hp => ?_) (fun i hi => Hst.out i (by rwa [markPx_len] at hi)) (fun a b h1 h2 => Hts.out a b h1 (by rwa [markPx_len] at h2))
          obtain ⟨q, hq, rfl⟩ := markPx_get ps i p k hp
          have h := Hch.out i q hq
          rw [if_pos (List.getElem?_eq_some_iff.1 hq).1] at h
          exact h
theorem markPredW_c (p : P) (sv : Value) (k : Int) (w : World) {lo hi : Nat} (hown : OwnP 27 w lo hi sv p.l) (hhi : hi ≤ w.heap.size) (hk0 : 1 ≤ k) (hk : k + 6 * (cntP p.l : Nat) ≤ 10000000000000) :
    Calls Tryz.prog 11 #[.agg #[.int .i64 p.kind, .int .i64 p.col, .int .i64 p.op, .int .i64 p.v.ty, .int .i64 p.v.n, .string p.v.s, sv], .int .i64 k] w fun e w' => e = .returned (.int .i64 (k + 6 * (cntP p.l : Nat))) ∧ Chg lo hi w w' ∧ OwnP 27 w' lo hi sv (markPs k p.l) := by
  have up := up_a1 w (.cells #[.int .i64 p.kind, .int .i64 p.col, .int .i64 p.op, .int .i64 p.v.ty, .int .i64 p.v.n, .string p.v.s, sv] 27)
  have hc := Lib.hid (markPredW_n _ p.l (Nat.lt_succ_self _) sv k _ lo hi (hown.below up hhi) (by simp only [World.size_alloc]; omega) hk0 hk)
  have Hup := Lib.hid up
  clear up hown
  go_enter Tryz.func11, Tryz.ntmps11
  go_wp2_with fail
  refine hc.out.mono ?_
  rintro e w1 ⟨rfl, hc1, ho1⟩
  have H2 := Lib.hid hc1
  have H3 := Lib.hid ho1
  clear hc1 ho1
  go_wp2_with fail
  go_ret
  exact ⟨rfl, (Chg.of_below Hup.out).trans H2.out, H3.out⟩
set_option maxRecDepth 20000 in
set_option maxHeartbeats 4000000 in
theorem heldPredS_n : ∀ (N : Nat) (l : List P), SizeOf.sizeOf l < N → ∀ (x : Value) (k : Int) (w : World) (lo hi : Nat), RdP w lo hi x (markPs k l) → hi ≤ w.heap.size → 1 ≤ k → k + 6 * (cntP l : Nat) ≤ 10000000000000 →
    Calls Tryz.prog 27 #[x, .int .i64 k] w fun e w' => e = .returned (.int .i64 (k + 6 * (cntP l : Nat))) ∧ Below w.heap.size w w'
  | 0, _, h => absurd h (Nat.not_lt_zero _)
  | N + 1, l, hN => by
    have IH := Lib.hid (heldPredS_n N)
    intro x k w lo hi hx hhi hk0 hk
    have hxf := hx.form
    rw [markPs_len] at hxf
    obtain ⟨A, c, rfl, hl, hl2⟩ := hxf
    have Hx := Lib.hid hx
    clear hx
    go_enter Tryz.func27, Tryz.ntmps27
    go_wp2_with fail
    go_loopw [5, 1] (fun i q wr => ∃ (j : Nat), i = .int .i64 j ∧ j ≤ l.length ∧ q = .int .i64 (k + 6 * (cntP (l.take j) : Nat)) ∧ Below w.heap.size w wr) (fun i _ _ => l.length - (intOf i).toNat)
    case atStart => exact ⟨0, by simp, by omega, by simp [cntP_nil], Below.refl _ _⟩
    case round =>
      obtain ⟨j, rfl, hj, rfl, hb⟩ := hrel
      by_cases hjn : j < l.length
      · have hy : l[j]? = some l[j] := List.getElem?_eq_getElem hjn
        generalize l[j] = y at hy
        obtain ⟨b, off, u, sv, rfl, -, hbl, huk, hat, hr⟩ := (Hx.out.below hb hhi).at (k := j) (by rw [markPs_len]; exact hjn)
        rw [markPs_get l j y k hy] at huk
        have hcn := (cntP_take hy).1
        have hcn2 := (cntP_take hy).2
        have hlt := Nat.lt_trans y.l_lt (P.mem_lt (mem_of_get hy))
        generalize hK : k + 6 * (cntP (l.take j) : Int) = K at huk
        obtain rfl : markP1 K y = u := Option.some.inj huk
        have e0 : wr.cell? ⟨b, off + j * 7, none⟩ = some (.int .i64 K) := hat.kind
        have e1 : wr.cell? ⟨b, off + j * 7 + 1, none⟩ = some (.int .i64 (K + 1)) := hat.col
        have e2 : wr.cell? ⟨b, off + j * 7 + 2, none⟩ = some (.int .i64 (K + 1 + 1)) := hat.op
        have e3 : wr.cell? ⟨b, off + j * 7 + 3, none⟩ = some (.int .i64 (K + 1 + 1 + 1)) := hat.ty
        have e4 : wr.cell? ⟨b, off + j * 7 + 4, none⟩ = some (.int .i64 (K + 1 + 1 + 1 + 1)) := hat.n
        have e5 : wr.cell? ⟨b, off + j * 7 + 5, none⟩ = some (.string (mkText (K + 1 + 1 + 1 + 1 + 1))) := hat.s
        have e6 : wr.cell? ⟨b, off + j * 7 + 6, none⟩ = some sv := hat.sub
        have hbw : b < wr.heap.size := Nat.lt_of_lt_of_le hbl (Nat.le_trans hhi hb.size)
        have Hr := Lib.hid (show RdP wr lo hi sv (markPs (K + 1 + 1 + 1 + 1 + 1 + 1) y.l) from hr)
        have Hy := Lib.hid hy
        have Hb := Lib.hid hb
        have hbs := hb.size
        clear hat hr huk hy hb
        go_wp2_with fail
        go_region_held3 (fun w' => w'.cell? ⟨b, off + j * 7 + 5, none⟩ = some (.string (mkText (K + 1 + 1 + 1 + 1 + 1))) ∧ w'.cell? ⟨b, off + j * 7 + 6, none⟩ = some sv ∧ Below wr.heap.size wr w') (first | exact ⟨e5, e6, (Below.refl _ _).drew⟩ | exact ⟨(hb1.cell (p := ⟨b, _, none⟩) hbw).trans e5, (hb1.cell (p := ⟨b, _, none⟩) hbw).trans e6, ((Below.refl wr.heap.size wr).drew.trans hb1)⟩) (first | (go_at_call 57; refine (markText_c _ _ (by omega)).mono ?_; rintro e w1 ⟨rfl, hb1⟩))
        have e7 : w1.cell? ⟨b, off + j * 7 + 6, none⟩ = some sv := (hb1.cell (p := ⟨b, _, none⟩) hbw).trans e6
        have Hb1 := Lib.hid (show Below wr.heap.size wr w1 from ((Below.refl wr.heap.size wr).drew.trans hb1))
        have HC := Lib.hid (IH.out y.l (by omega) sv (K + 1 + 1 + 1 + 1 + 1 + 1) w1 lo hi (Hr.out.below Hb1.out (by omega)) (by have := Hb1.out.size; omega) (by omega) (by omega))
        clear e0 e1 e2 e3 e4 e5 e6 hb1
        go_wp2_with fail
        refine HC.out.mono ?_
        rintro e w2 ⟨rfl, hb2⟩
        have Hb2 := Lib.hid (Hb.out.trans ((Hb1.out.trans (hb2.mono Hb1.out.size)).mono hbs))
        clear hb2 HC e7
        have hpos : ¬ (K + 1 + 1 + 1 + 1 + 1 + 1 + 6 * (cntP y.l : Int) < 0) := by omega
        go_wp2_with fail
        go_roundw
        case rel => exact ⟨j + 1, by go_num, by omega, congrArg (Value.int .i64) (by omega), Hb2.out⟩
        case measure => simp [intOf]; omega
      · obtain rfl : j = l.length := by omega
        rw [List.take_length]
        go_wp2_with fail
        go_ret
        exact ⟨rfl, hb⟩
theorem heldPred_c (p : P) (sv : Value) (k : Int) (w : World) {lo hi : Nat} (hx : RdP w lo hi sv (markPs k p.l)) (hhi : hi ≤ w.heap.size) (hk0 : 1 ≤ k) (hk : k + 6 * (cntP p.l : Nat) ≤ 10000000000000) :
    Calls Tryz.prog 12 #[.agg #[.int .i64 p.kind, .int .i64 p.col, .int .i64 p.op, .int .i64 p.v.ty, .int .i64 p.v.n, .string p.v.s, sv], .int .i64 k] w fun e w' => e = .returned (.int .i64 (k + 6 * (cntP p.l : Nat))) ∧ Below w.heap.size w w' := by
  have up := up_a1 w (.cells #[.int .i64 p.kind, .int .i64 p.col, .int .i64 p.op, .int .i64 p.v.ty, .int .i64 p.v.n, .string p.v.s, sv] 27)
  have hc := Lib.hid (heldPredS_n _ p.l (Nat.lt_succ_self _) sv k _ lo hi (hx.below up hhi) (by simp only [World.size_alloc]; omega) hk0 hk)
  have Hup := Lib.hid up
  clear up hx
  go_enter Tryz.func12, Tryz.ntmps12
  go_wp2_with fail
  refine hc.out.mono ?_
  rintro e w1 ⟨rfl, hc1⟩
  have H2 := Lib.hid hc1
  clear hc1
  have hpos : ¬ (k + 6 * (cntP p.l : Int) < 0) := by omega
  go_wp2_with fail
  go_ret
  exact ⟨rfl, Hup.out.trans (H2.out.mono Hup.out.size)⟩
end Go.Proofs.YtjogkbkkcaljhaaGreatDoor
