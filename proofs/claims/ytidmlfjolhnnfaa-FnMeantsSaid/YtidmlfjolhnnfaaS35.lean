/- Valid predicates (the program): contracts. -/
import Derived.Test.YtidmlfjolhnnfaaS35B
import Derived.Test.YtidmlfjolhnnfaaS35C
import Derived.Test.YtidmlfjolhnnfaaS35D
import Derived.Test.YtidmlfjolhnnfaaS35E
namespace Go.Proofs.Ytidmlfjolhnnfaa
open Go.Sort Go.ChangeShapes Go.WideShapes Go.ChangeAt Go.RowKit Go.Lb
theorem impl_cnt (cols : List Int) (cv : Value) : ∀ (k : Nat) (p : P), CntC cols cv k p
  | 0, p => cnt_0 cols cv p
  | k + 1, p => by
    have IH := impl_cnt cols cv k
    by_cases k1 : p.kind = 1
    · exact cnt_k1 cols cv k IH p k1
    by_cases k5 : p.kind = 5
    · exact cnt_k5 cols cv k IH p k5
    by_cases k3 : p.kind = 3
    · exact cnt_k3 cols cv k IH p k3
    by_cases k4 : p.kind = 4
    · exact cnt_k4 cols cv k IH p k4
    by_cases k2 : p.kind = 2
    · exact cnt_k2 cols cv k IH p k2
    exact cnt_no cols cv k IH p k1 k2 k3 k4 k5
theorem impl_count (cols : List Int) (cv : Value) (k : Nat) (p : P) (d : Int) (hd : d = (k : Int)) (hk : k ≤ 4) (hok : POk p) (hn : cntP p.l ≤ 1048576) (sv : Value) (w : World) (lo hi l1 h1 : Nat) (hx : RdP w lo hi sv p.l) (hhi : hi ≤ w.heap.size) (hc : RdI w l1 h1 cv cols) (hh1 : h1 ≤ w.heap.size) :
    Calls Try.prog 43 #[cv, .agg #[.int .i64 p.kind, .int .i64 p.col, .int .i64 p.op, .int .i64 p.v.ty, .int .i64 p.v.n, .string p.v.s, sv], .int .i64 d] w fun e w' => e = .returned (.int .i64 (cntV cols k p)) ∧ Below w.heap.size w w' :=
  impl_cnt cols cv k p d hd hk hok hn sv w lo hi l1 h1 hx hhi hc hh1
end Go.Proofs.Ytidmlfjolhnnfaa
