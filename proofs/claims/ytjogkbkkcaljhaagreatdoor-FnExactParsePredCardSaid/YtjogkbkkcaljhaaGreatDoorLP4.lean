/- The laws' helpers for predicates: marks: contracts (what is marked is not looked at again). -/
import Derived.Test.YtjogkbkkcaljhaaGreatDoorYA
import Derived.Test.YtjogkbkkcaljhaaGreatDoorXG
import Derived.Test.YtjogkbkkcaljhaaGreatDoorYC
namespace Go.Lb
open Go.RowKit
theorem hdr_set {cur : Array Value} {ps : List (P × Value)} {i j : Nat} {u : Value} (h : ∀ (k : Nat) (p : P × Value), ps[k]? = some p → cur[k * 7 + 6]? = some p.2) (hj : j < 6) : ∀ (k : Nat) (p : P × Value), ps[k]? = some p → (cur.setIfInBounds (i * 7 + j) u)[k * 7 + 6]? = some p.2 := fun k p hp => by
  rw [Array.getElem?_setIfInBounds_ne (by omega)]
  exact h k p hp
end Go.Lb
namespace Go.Proofs.YtjogkbkkcaljhaaGreatDoor
open Go.Sort Go.ChangeShapes Go.WideShapes Go.ChangeAt Go.RowKit Go.Lb

set_option maxRecDepth 20000 in
set_option maxHeartbeats 4000000 in
theorem markPredS_n : ∀ (N : Nat) (l : List P), SizeOf.sizeOf l < N → ∀ (v : Value) (k : Int) (w : World) (lo hi : Nat), OwnP 27 w lo hi v l → hi ≤ w.heap.size → 1 ≤ k → k + 6 * (cntP l : Nat) ≤ 10000000000000 →
    Calls Tryz.prog 26 #[v, .int .i64 k] w fun e w' => e = .returned (.int .i64 (k + 6 * (cntP l : Nat))) ∧ Chg lo hi w w'
  | 0, _, h => absurd h (Nat.not_lt_zero _)
  | N + 1, l, hN => by
    have IH := Lib.hid (markPredS_n N)
    intro v k w lo hi hown hhi hk0 hk
    unfold OwnP at hown
    cases hown with
    | mk lo hi v ps s t ho hin hr hst hts =>
    rcases ho.2 with ⟨rfl, h0⟩ | ⟨g, cap, cur, rfl, -, hcur, hnc, hcm, hsz, htk⟩
    · have hp0 : ps = [] := List.eq_nil_of_length_eq_zero (h0)
      subst hp0
      go_enter Tryz.func26, Tryz.ntmps26
      go_wp2_with fail
      go_loop [5, 1] (fun i q => i = .int .i64 0 ∧ q = .int .i64 k) (fun _ _ => 0)
      case atStart => exact ⟨rfl, rfl⟩
      case round =>
        obtain ⟨rfl, rfl⟩ := hrel
        go_wp2_with fail
        go_ret
        exact ⟨by simp [cntP_nil], Chg.refl _ _ _⟩
    · have hlg := hin g rfl
      have Hst := Lib.hid hst
      have Hts := Lib.hid hts
      unfold maxLen at hcm
      have hhdr : ∀ (j : Nat) (p : P × Value), ps[j]? = some p → cur[j * 7 + 6]? = some p.2 := fun j p hp => by
        have hjl := (List.getElem?_eq_some_iff.1 hp).1
        have h1 := flat_get (fun p : P × Value => p.1.cell p.2) 7 P.cell_len ps j 6 p hp (by omega)
        rw [← htk, List.getElem?_take, if_pos (by omega)] at h1
        rw [← Array.getElem?_toList, h1]; rfl
      have Hhdr := Lib.hid hhdr
      have Hcur := Lib.hid hcur
      have Hsz := Lib.hid hsz
      have Hr := Lib.hid hr
      have hgs : g < w.heap.size := (Array.getElem?_eq_some_iff.1 hcur).1
      have Hin := Lib.hid hin
      clear hcur hsz htk hhdr hr hst hts ho hin
      go_enter Tryz.func26, Tryz.ntmps26
      go_wp2_with fail
      go_loopw [5, 1] (fun i q wr => ∃ (j : Nat) (cu : Array Value), i = .int .i64 j ∧ j ≤ ps.length ∧ q = .int .i64 (k + 6 * (cntP ((ps.map Prod.fst).take j) : Nat)) ∧ wr.heap[g]? = some (.cells cu 27 (0, 0)) ∧ cu.size = cap * 7 ∧ (∀ (j : Nat) (p : P × Value), ps[j]? = some p → cu[j * 7 + 6]? = some p.2) ∧ (∀ (i : Nat) (p : P × Value), j ≤ i → ps[i]? = some p → OwnP 27 wr (s i) (t i) p.2 p.1.l) ∧ Chg lo hi w wr) (fun i _ _ => ps.length - (intOf i).toNat)
      case atStart => exact ⟨0, cur, by simp, by omega, by simp [cntP_nil], Hcur.out, Hsz.out, Hhdr.out, fun i p _ hp => Hr.out i p hp, Chg.refl _ _ _⟩
      case round =>
        obtain ⟨j, cu, rfl, hj, rfl, hcu, hcs, hhd, hch, hc⟩ := hrel
        have Hcu := Lib.hid hcu
        have Hcs := Lib.hid hcs
        have Hhd := Lib.hid hhd
        have Hch := Lib.hid hch
        have Hc := Lib.hid hc
        have hws := hc.size
        have hgl : g < wr.heap.size := (Array.getElem?_eq_some_iff.1 hcu).1
        clear hcu hcs hhd hch hc
        by_cases hjn : j < ps.length
        · have hp : ps[j]? = some ps[j] := List.getElem?_eq_getElem hjn
          generalize ps[j] = p at hp
          have hpl : (ps.map Prod.fst)[j]? = some p.1 := by rw [List.getElem?_map, hp]; rfl
          have hcn := (cntP_take hpl).1
          have hcn2 := (cntP_take hpl).2
          have hlt := Nat.lt_trans p.1.l_lt (P.mem_lt (mem_of_get hpl))
          have hI := Hst.out j hjn
          have hgI := hI.2.2 g rfl
          have k0 := cell_of_row wr g (j * 7) cu _ _ Hcu.out
          have k1 := cell_of_row wr g (j * 7 + 1) cu _ _ Hcu.out
          have k2 := cell_of_row wr g (j * 7 + 2) cu _ _ Hcu.out
          have k3 := cell_of_row wr g (j * 7 + 3) cu _ _ Hcu.out
          have k4 := cell_of_row wr g (j * 7 + 4) cu _ _ Hcu.out
          have f0 := fun o => frozen_of_row wr g o cu _ Hcu.out
          rw [Array.getElem?_eq_getElem (by rw [Hcs.out]; omega)] at k0 k1 k2 k3 k4
          generalize hK : k + 6 * (cntP ((ps.map Prod.fst).take j) : Int) = K
          have Hp := Lib.hid hp
          clear hp hpl
          go_wp2_with fail
          refine (markText_c _ _ (by omega)).mono ?_
          rintro e w1 ⟨rfl, hb1⟩
          have Hc1 := Lib.hid ((hb1.block g (by simpa [World.setCell] using hgl)).trans (set1 (o := j * 7 + 4) (a := .int .i64 (K + 1 + 1 + 1 + 1)) (set1 (o := j * 7 + 3) (a := .int .i64 (K + 1 + 1 + 1)) (set1 (o := j * 7 + 2) (a := .int .i64 (K + 1 + 1)) (set1 (o := j * 7 + 1) (a := .int .i64 (K + 1)) (set1 (o := j * 7) (a := .int .i64 K) Hcu.out))))))
          have hg1 := grown_below (grown_set (grown_set (grown_set (grown_set (grown_set (World.grownBy.refl wr (some g)) (j * 7) (.int .i64 K)) (j * 7 + 1) (.int .i64 (K + 1))) (j * 7 + 2) (.int .i64 (K + 1 + 1))) (j * 7 + 3) (.int .i64 (K + 1 + 1 + 1))) (j * 7 + 4) (.int .i64 (K + 1 + 1 + 1 + 1))) hb1
          have Hhd1 := Lib.hid (hdr_set (i := j) (j := 4) (u := .int .i64 (K + 1 + 1 + 1 + 1)) (hdr_set (i := j) (j := 3) (u := .int .i64 (K + 1 + 1 + 1)) (hdr_set (i := j) (j := 2) (u := .int .i64 (K + 1 + 1)) (hdr_set (i := j) (j := 1) (u := .int .i64 (K + 1)) (hdr_set (i := j) (j := 0) (u := .int .i64 K) Hhd.out (by omega)) (by omega)) (by omega)) (by omega)) (by omega))
          have Hg1 := Lib.hid hg1
          have hs1 := hg1.size
          have hgl1 : g < w1.heap.size := by omega
          clear k0 k1 k2 k3 k4 f0 hb1 hg1
          have k5 := cell_of_row w1 g (j * 7 + 5) _ _ _ Hc1.out
          have k6 := (cell_of_row w1 g (j * 7 + 6) _ _ _ Hc1.out).trans (Hhd1.out j p Hp.out)
          have f1 := fun o => frozen_of_row w1 g o _ _ Hc1.out
          rw [Array.getElem?_eq_getElem (by simp only [Array.size_setIfInBounds]; rw [Hcs.out]; omega)] at k5
          have hsame : Same (s j) (t j) wr (w1.setCell ⟨g, j * 7 + 5, none⟩ (.string (mkText (K + 1 + 1 + 1 + 1 + 1)))) := fun b h1 h2 =>
            (Below.heap_setCell w1 ⟨g, j * 7 + 5, none⟩ _ b (show b ≠ g by omega)).trans (Hg1.out.block b (by omega) (fun e => by injection e with e; omega))
          have HC := Lib.hid (IH.out p.1.l (by omega) p.2 (K + 1 + 1 + 1 + 1 + 1 + 1) (w1.setCell ⟨g, j * 7 + 5, none⟩ (.string (mkText (K + 1 + 1 + 1 + 1 + 1)))) (s j) (t j) ((Hch.out j p (Nat.le_refl _) Hp.out).same hsame) (by simp [World.setCell]; omega) (by omega) (by omega))
          clear hsame
          go_wp2_with fail
          refine HC.out.mono ?_
          rintro e w2 ⟨rfl, hc2⟩
          have Hc2 := Lib.hid hc2
          have hs2 := hc2.size
          simp [World.setCell] at hs2
          clear hc2 HC k5 k6 f1
          go_wp2_with fail
          go_roundw
          case rel =>
            refine ⟨j + 1, _, by go_num, by omega, congrArg (Value.int .i64) (by omega), (Hc2.out.block g (by simp [World.setCell]; omega) (by omega)).trans (set1 (o := j * 7 + 5) Hc1.out), by simpa using Hcs.out, hdr_set Hhd1.out (by omega), fun i q hi hq => ?_, ?_⟩
            · have hil := (List.getElem?_eq_some_iff.1 hq).1
              have hst := Hst.out i hil
              have hgi := hst.2.2 g rfl
              have hto := Hts.out j i (by omega) hil
              refine (Hch.out i q (by omega) hq).same fun b h1 h2 => ?_
              refine (Hc2.out.block b (by simp [World.setCell]; omega) (by omega)).trans ?_
              exact (Below.heap_setCell w1 ⟨g, j * 7 + 5, none⟩ _ b (show b ≠ g by omega)).trans (Hg1.out.block b (by omega) (fun e => by injection e with e; omega))
            · refine Hc.out.trans ((Chg.of_grown (grown_set Hg1.out (j * 7 + 5) (.string (mkText (K + 1 + 1 + 1 + 1 + 1)))) (fun g' e => by injection e with e; omega)).trans (Hc2.out.mono hI.1 hI.2.1))
          case measure => simp [intOf]; omega
        · obtain rfl : j = ps.length := by omega
          have hlm : (ps.map Prod.fst).length = ps.length := List.length_map _
          rw [← hlm, List.take_length]
          rw [hlm]
          go_wp2_with fail
          go_ret
          exact ⟨rfl, Hc.out⟩
theorem markPred_c (p : P) (sv : Value) (k : Int) (w : World) {lo hi : Nat} (hown : OwnP 27 w lo hi sv p.l) (hhi : hi ≤ w.heap.size) (hk0 : 1 ≤ k) (hk : k + 6 * (cntP p.l : Nat) ≤ 10000000000000) :
    Calls Tryz.prog 11 #[.agg #[.int .i64 p.kind, .int .i64 p.col, .int .i64 p.op, .int .i64 p.v.ty, .int .i64 p.v.n, .string p.v.s, sv], .int .i64 k] w fun e w' => e = .returned (.int .i64 (k + 6 * (cntP p.l : Nat))) ∧ Chg lo hi w w' := by
  have up := up_a1 w (.cells #[.int .i64 p.kind, .int .i64 p.col, .int .i64 p.op, .int .i64 p.v.ty, .int .i64 p.v.n, .string p.v.s, sv] 27)
  have hc := Lib.hid (markPredS_n _ p.l (Nat.lt_succ_self _) sv k _ lo hi (hown.below up hhi) (by simp only [World.size_alloc]; omega) hk0 hk)
  have Hup := Lib.hid up
  clear up hown
  go_enter Tryz.func11, Tryz.ntmps11
  go_wp2_with fail
  refine hc.out.mono ?_
  rintro e w1 ⟨rfl, hc1⟩
  have H2 := Lib.hid hc1
  clear hc1
  go_wp2_with fail
  go_ret
  exact ⟨rfl, (Chg.of_below Hup.out).trans H2.out⟩
end Go.Proofs.YtjogkbkkcaljhaaGreatDoor
