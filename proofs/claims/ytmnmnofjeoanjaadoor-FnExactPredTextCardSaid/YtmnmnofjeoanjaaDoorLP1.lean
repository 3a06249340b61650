/- The laws' helpers for predicates: sizes: contracts. -/
import Derived.Test.YtmnmnofjeoanjaaDoorMemP
import Derived.Test.YtmnmnofjeoanjaaDoorXL
namespace Go.Lb
/-- How many predicates a list holds, all told. -/
def cntP : List P → Nat
  | [] => 0
  | (.mk _ _ _ _ l) :: r => 1 + cntP l + cntP r
termination_by l => SizeOf.sizeOf l
decreasing_by all_goals (simp; try omega)
theorem cntP_cons (p : P) (r : List P) : cntP (p :: r) = 1 + cntP p.l + cntP r := by cases p; rw [cntP]; rfl
theorem cntP_nil : cntP [] = 0 := by rw [cntP]
theorem cntP_append (a b : List P) : cntP (a ++ b) = cntP a + cntP b := by
  induction a with
  | nil => simp [cntP_nil]
  | cons x a ih => rw [List.cons_append, cntP_cons, cntP_cons, ih]; omega
theorem cntP_len (l : List P) : l.length ≤ cntP l := by
  induction l with
  | nil => simp
  | cons x l ih => rw [cntP_cons, List.length_cons]; omega
theorem cntP_take {l : List P} {k : Nat} {x : P} (h : l[k]? = some x) : cntP (l.take (k + 1)) = cntP (l.take k) + (1 + cntP x.l) ∧ cntP (l.take (k + 1)) ≤ cntP l := by
  refine ⟨by rw [take_of_get h, cntP_append, cntP_cons, cntP_nil]; omega, ?_⟩
  have h2 := cntP_append (l.take (k + 1)) (l.drop (k + 1))
  rw [List.take_append_drop] at h2
  omega
end Go.Lb
namespace Go.Proofs.YtmnmnofjeoanjaaDoor
open Go.Sort Go.ChangeShapes Go.WideShapes Go.ChangeAt Go.RowKit Go.Lb

def SzC (l : List P) : Prop := ∀ (x : Value) (left : Int) (w : World) (lo hi : Nat), RdP w lo hi x l → hi ≤ w.heap.size → 0 ≤ left → left ≤ 1048576 →
  Calls Tryd.prog 40 #[x, .int .i64 left] w fun e w' => ∃ m : Int, e = .returned (.int .i64 m) ∧ m ≤ left ∧ (0 ≤ m → m + cntP l ≤ left) ∧ Below w.heap.size w w'
set_option maxHeartbeats 1000000 in
theorem szPred_of (p : P) (hs : p.v.s.size ≤ maxLen) (h : SzC p.l) (sv : Value) (left : Int) (w : World) {lo hi : Nat} (hx : RdP w lo hi sv p.l) (hhi : hi ≤ w.heap.size) (h0 : 0 ≤ left) (h1 : left ≤ 1048576) :
    Calls Tryd.prog 9 #[.agg #[.int .i64 p.kind, .int .i64 p.col, .int .i64 p.op, .int .i64 p.v.ty, .int .i64 p.v.n, .string p.v.s, sv], .int .i64 left] w fun e w' => ∃ m : Int, e = .returned (.int .i64 m) ∧ m ≤ left ∧ (0 ≤ m → m + cntP p.l ≤ left) ∧ Below w.heap.size w w' := by
  have up := up_a1 w (.cells #[.int .i64 p.kind, .int .i64 p.col, .int .i64 p.op, .int .i64 p.v.ty, .int .i64 p.v.n, .string p.v.s, sv] 28)
  have hv := szVal_c p.v left (w.alloc (.cells #[.int .i64 p.kind, .int .i64 p.col, .int .i64 p.op, .int .i64 p.v.ty, .int .i64 p.v.n, .string p.v.s, sv] 28)) hs h0 h1
  have hle := szVal_le p.v left h0 h1
  have hde := szVal_dec p.v left
  have H := Lib.hid h
  have hx1 := hx.below up hhi
  clear h hx up
  go_enter Tryd.func9, Tryd.ntmps9
  go_wp2_with fail
  refine hv.mono ?_
  rintro e w1 ⟨rfl, hb1⟩
  have hcl := (bcell hb1).1
  have hz := hb1.size
  have hx2 := hx1.below hb1 (by simp only [World.size_alloc]; omega)
  have hb2 := below_a1 hb1
  simp only [World.size_alloc] at hz
  have z0 : w.heap.size < w1.heap.size := by omega
  clear hx1 hb1
  generalize szVal p.v left = q at *
  by_cases hq : q < 0
  · go_wp2_with fail
    go_ret
    exact ⟨-1, rfl, by omega, fun h => by omega, hb2⟩
  · have hde := hde (by omega)
    go_wp2_with fail
    refine (H.out sv q w1 lo hi hx2 (by omega) (by omega) hle).mono ?_
    rintro e w2 ⟨m, rfl, hm1, hm2, hb3⟩
    have hb4 := hb2.trans (hb3.mono hb2.size)
    by_cases hm : m < 0
    · go_wp2_with fail
      go_ret
      exact ⟨-1, rfl, by omega, fun h => by omega, hb4⟩
    · have hm2 := hm2 (by omega)
      go_wp2_with fail
      go_ret
      exact ⟨m, rfl, by omega, fun _ => by omega, hb4⟩
set_option maxHeartbeats 1000000 in
theorem szPredS_n : ∀ (N : Nat) (l : List P), SizeOf.sizeOf l < N → POks l → SzC l
  | 0, _, h, _ => absurd h (Nat.not_lt_zero _)
  | N + 1, l, hN, hok => by
    have IH := Lib.hid (szPredS_n N)
    have Hok := Lib.hid hok
    clear hok
    intro x left w lo hi hx hhi h0 h1
    obtain ⟨A, c, rfl, hl, hl2⟩ := hx.form
    by_cases hlt : left - l.length < 0
    · go_enter Tryd.func40, Tryd.ntmps40
      go_wp2_with fail
      go_ret
      exact ⟨-1, rfl, by omega, fun h => by omega, Below.refl _ _⟩
    · go_enter Tryd.func40, Tryd.ntmps40
      go_wp2_with fail
      go_loopw [5, 1] (fun i q wr => ∃ (k : Nat) (m : Int), i = .int .i64 k ∧ k ≤ l.length ∧ q = .int .i64 m ∧ 0 ≤ m ∧ m + cntP (l.take k) + l.length ≤ left + k ∧ Below w.heap.size w wr) (fun i _ _ => l.length - (intOf i).toNat)
      case atStart => exact ⟨0, left - l.length, by simp, by omega, rfl, by omega, by simp [cntP_nil], Below.refl _ _⟩
      case round =>
        obtain ⟨k, m, rfl, hk, rfl, hm0, hm1, hb⟩ := hrel
        by_cases hkl : k < l.length
        · obtain ⟨b, off, y, sv, rfl, -, hbl, hyk, hat, hr⟩ := (hx.below hb hhi).at hkl
          obtain ⟨e0, e1, e2, e3, e4, e5, e6⟩ := hat
          have hy := Lib.hid (cntP_take hyk)
          have hyo := Hok.out.get hyk
          have hlt := Nat.lt_trans y.l_lt (P.mem_lt (mem_of_get hyk))
          have hC := Lib.hid (szPred_of y hyo.1 (IH.out y.l (by omega) hyo.2) sv m _ hr (Nat.le_trans hhi hb.size) hm0 (by omega))
          clear hyk hr hyo
          go_wp2_with fail
          refine hC.out.mono ?_
          rintro e w1 ⟨q, rfl, hq1, hq2, hb1⟩
          clear e0 e1 e2 e3 e4 e5 e6
          by_cases hneg : q < 0
          · go_wp2_with fail
            go_ret
            exact ⟨-1, rfl, by omega, fun h => by omega, hb.trans (hb1.mono hb.size)⟩
          · have hq2 := hq2 (by omega)
            go_wp2_with fail
            go_roundw
            case rel => exact ⟨k + 1, q, by go_num, by omega, rfl, by omega, by have := hy.out; omega, hb.trans (hb1.mono hb.size)⟩
            case measure => simp [intOf]; omega
        · obtain rfl : k = l.length := by omega
          rw [List.take_length] at hm1
          go_wp2_with fail
          go_ret
          exact ⟨m, rfl, by omega, fun _ => by omega, hb⟩
theorem szPredS_c (l : List P) (hok : POks l) : SzC l := szPredS_n _ l (Nat.lt_succ_self _) hok
theorem szPred_c (p : P) (sv : Value) (left : Int) (w : World) {lo hi : Nat} (hx : RdP w lo hi sv p.l) (hhi : hi ≤ w.heap.size) (hs : POk p) (h0 : 0 ≤ left) (h1 : left ≤ 1048576) :
    Calls Tryd.prog 9 #[.agg #[.int .i64 p.kind, .int .i64 p.col, .int .i64 p.op, .int .i64 p.v.ty, .int .i64 p.v.n, .string p.v.s, sv], .int .i64 left] w fun e w' => ∃ m : Int, e = .returned (.int .i64 m) ∧ m ≤ 1048576 ∧ (0 ≤ m → p.l.length ≤ 1048576 ∧ cntP p.l ≤ 1048576) ∧ Below w.heap.size w w' :=
  (szPred_of p hs.1 (szPredS_c p.l hs.2) sv left w hx hhi h0 h1).mono fun e w' ⟨m, e1, h2, h3, hb⟩ => ⟨m, e1, by omega, fun h => by have h4 := h3 (by omega); have h5 := cntP_len p.l; omega, hb⟩
end Go.Proofs.YtmnmnofjeoanjaaDoor
