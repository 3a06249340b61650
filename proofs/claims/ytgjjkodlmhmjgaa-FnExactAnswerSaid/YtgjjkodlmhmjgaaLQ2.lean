/- The laws' helpers for queries: marks: contracts. -/
import Derived.Test.YtgjjkodlmhmjgaaLQ
import Derived.Test.YtgjjkodlmhmjgaaLP4
namespace Go.Proofs.Ytgjjkodlmhmjgaa
open Go.Sort Go.ChangeShapes Go.WideShapes Go.ChangeAt Go.RowKit Go.Lb

set_option maxRecDepth 20000 in
set_option maxHeartbeats 1000000 in
theorem markQuery_c (q : Q) (sv ov : Value) (k : Int) (w : World) {lo m hi : Nat} (hown : OwnP 42 w lo m sv q.p.l) (hown2 : Own 3 1 w m hi ov q.out.length (q.out.map (Value.int .i64))) (h1 : lo ≤ m) (h2 : m ≤ hi) (hhi : hi ≤ w.heap.size) (hk0 : 1 ≤ k) (hk : k + 6 * (cntP q.p.l : Nat) + (q.out.length : Nat) ≤ 10000000000000) :
    Calls Try.prog 63 #[.agg #[.int .i64 q.kind, .int .i64 q.p.kind, .int .i64 q.p.col, .int .i64 q.p.op, .int .i64 q.p.v.ty, .int .i64 q.p.v.n, .string q.p.v.s, sv, .int .i64 q.col, ov], .int .i64 k] w fun e w' => e = .returned (.int .i64 (k + 6 * (cntP q.p.l : Nat) + (q.out.length : Nat))) ∧ Chg lo hi w w' := by
  obtain ⟨A, c, rfl, -, -⟩ := hown2.rdI.form
  have up := up_a1 w (.cells #[.int .i64 q.kind, .int .i64 q.p.kind, .int .i64 q.p.col, .int .i64 q.p.op, .int .i64 q.p.v.ty, .int .i64 q.p.v.n, .string q.p.v.s, sv, .int .i64 q.col, .slice A q.out.length c] 83)
  have n9 := box_new w #[.int .i64 q.kind, .int .i64 q.p.kind, .int .i64 q.p.col, .int .i64 q.p.op, .int .i64 q.p.v.ty, .int .i64 q.p.v.n, .string q.p.v.s, sv, .int .i64 q.col, .slice A q.out.length c] 83 9
  have hc := Lib.hid (markPred_c q.p sv k _ (hown.below up (by omega)) (by simp only [World.size_alloc]; omega) hk0 (by omega))
  have Ho := Lib.hid (hown2.below up hhi)
  have Hup := Lib.hid up
  have N9 := Lib.hid n9
  clear up hown hown2 n9
  go_enter Try.func63, Try.ntmps63
  go_wp2_with fail
  refine hc.out.mono ?_
  rintro e w1 ⟨rfl, hc1⟩
  have hs1 := hc1.size
  simp only [World.size_alloc] at hs1
  have b9 : w1.cell? ⟨w.heap.size, 9, none⟩ = some (.slice A q.out.length c) := (World.cell?_of_block (a := ⟨w.heap.size, 9, none⟩) (hc1.block w.heap.size (by simp only [World.size_alloc]; omega) (by omega))).trans N9.out
  have Hc1 := Lib.hid hc1
  have hI := Lib.hid (markIntS_c (.slice A q.out.length c) q.out (k + 6 * (cntP q.p.l : Nat)) w1 (Ho.out.same (Same.of_chg hc1 (.inr (Nat.le_refl _)) (by simp only [World.size_alloc]; omega))) (by omega) (by omega))
  clear hc1 hc
  go_wp2_with fail
  refine hI.out.mono ?_
  rintro e w2 ⟨rfl, -, hc2⟩
  have Hc2 := Lib.hid hc2
  clear hc2 hI b9
  go_wp2_with fail
  go_ret
  exact ⟨rfl, (Chg.of_below Hup.out).trans ((Hc1.out.mono (Nat.le_refl _) h2).trans (Hc2.out.mono h1 (Nat.le_refl _)))⟩
end Go.Proofs.Ytgjjkodlmhmjgaa
