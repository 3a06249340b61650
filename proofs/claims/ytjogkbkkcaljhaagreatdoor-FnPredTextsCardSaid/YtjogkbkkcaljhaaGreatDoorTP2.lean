/- Predicates as text: the contracts as the law asks for them. -/
import Derived.Test.YtjogkbkkcaljhaaGreatDoorTP
namespace Go.Proofs.YtjogkbkkcaljhaaGreatDoor
open Go.RowKit Go.Lb
theorem spec_PredText (p : P) (sv : Value) (w : World) {lo hi : Nat} (hx : RdP w lo hi sv p.l) (hhi : hi ≤ w.heap.size) (hok : POk p) (hin : PInOk p) (hn : cntP p.l ≤ 1048576) (ht : Pow w) :
    Calls Tryz.prog 18 #[.agg #[.int .i64 p.kind, .int .i64 p.col, .int .i64 p.op, .int .i64 p.v.ty, .int .i64 p.v.n, .string p.v.s, sv]] w fun e w' => e = .returned (.string (predT p)) ∧ Below w.heap.size w w' :=
  spec_PredText_n _ p (Nat.lt_succ_self _) sv w lo hi hx hhi hok hin hn ht
theorem impl_PredText (p : P) (sv : Value) (w : World) {lo hi : Nat} (hx : RdP w lo hi sv p.l) (hhi : hi ≤ w.heap.size) (hok : POk p) (hin : PInOk p) (hn : cntP p.l ≤ 1048576) (ht : Pow w) :
    Calls Tryz.prog 15 #[.agg #[.int .i64 p.kind, .int .i64 p.col, .int .i64 p.op, .int .i64 p.v.ty, .int .i64 p.v.n, .string p.v.s, sv]] w fun e w' => e = .returned (.string (predT p)) ∧ Below w.heap.size w w' :=
  impl_PredText_n _ p (Nat.lt_succ_self _) sv w lo hi hx hhi hok hin hn ht
end Go.Proofs.YtjogkbkkcaljhaaGreatDoor
