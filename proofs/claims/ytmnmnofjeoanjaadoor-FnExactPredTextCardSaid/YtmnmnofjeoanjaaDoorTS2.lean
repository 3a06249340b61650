/- Results as text: the contracts as the law asks for them. -/
import Derived.Test.YtmnmnofjeoanjaaDoorTS
namespace Go.Proofs.YtmnmnofjeoanjaaDoor
open Go.RowKit Go.Lb
theorem pow_below {w w' : World} (h : Pow w) (hb : Below w.heap.size w w') : Pow w' := TabIs.below h hb
def IdsInOk (l : List R) : Prop := IdsIn l
def NOk (n : Int) : Prop := -9223372036854775808 ≤ n ∧ n ≤ 9223372036854775807
theorem spec_ResultText (q : Q) (sv ov : Value) (x : Res) (rv : Value) (w : World) {l1 h1 l2 h2 lo hi : Nat} (_hp : RdP w l1 h1 sv q.p.l) (_hh1 : h1 ≤ w.heap.size) (_ho : RdI w l2 h2 ov q.out) (_hh2 : h2 ≤ w.heap.size) (hx : RdR w lo hi rv x.rows) (hhi : hi ≤ w.heap.size)
    (_hq : POk q.p) (hs : RsOk x.rows) (hvs : x.v.s.size ≤ maxLen) (hid : IdsInOk x.rows) (h0 : NOk x.n) (hn : x.rows.length ≤ 1048576 ∧ lensR x.rows ≤ 1048576) (ht : Pow w) :
    Calls Tryd.prog 16 #[.agg #[.int .i64 q.kind, .int .i64 q.p.kind, .int .i64 q.p.col, .int .i64 q.p.op, .int .i64 q.p.v.ty, .int .i64 q.p.v.n, .string q.p.v.s, sv, .int .i64 q.col, ov], .agg #[rv, .int .i64 x.n, .bool x.has, .int .i64 x.v.ty, .int .i64 x.v.n, .string x.v.s]] w fun e w' => e = .returned (.string (resText q.kind x.rows x.n x.has x.v)) ∧ Below w.heap.size w w' :=
  spec_ResultText0 q sv ov x.rows x.n x.has x.v rv w hx hhi hs hvs hn hid h0 ht
theorem impl_ResultText (q : Q) (sv ov : Value) (x : Res) (rv : Value) (w : World) {l1 h1 l2 h2 lo hi : Nat} (_hp : RdP w l1 h1 sv q.p.l) (_hh1 : h1 ≤ w.heap.size) (_ho : RdI w l2 h2 ov q.out) (_hh2 : h2 ≤ w.heap.size) (hx : RdR w lo hi rv x.rows) (hhi : hi ≤ w.heap.size)
    (_hq : POk q.p) (hs : RsOk x.rows) (hvs : x.v.s.size ≤ maxLen) (hid : IdsInOk x.rows) (h0 : NOk x.n) (hn : x.rows.length ≤ 1048576 ∧ lensR x.rows ≤ 1048576) (ht : Pow w) :
    Calls Tryd.prog 19 #[.agg #[.int .i64 q.kind, .int .i64 q.p.kind, .int .i64 q.p.col, .int .i64 q.p.op, .int .i64 q.p.v.ty, .int .i64 q.p.v.n, .string q.p.v.s, sv, .int .i64 q.col, ov], .agg #[rv, .int .i64 x.n, .bool x.has, .int .i64 x.v.ty, .int .i64 x.v.n, .string x.v.s]] w fun e w' => e = .returned (.string (resText q.kind x.rows x.n x.has x.v)) ∧ Below w.heap.size w w' :=
  impl_ResultText0 q sv ov x.rows x.n x.has x.v rv w hx hhi hs hvs hn hid h0 ht
end Go.Proofs.YtmnmnofjeoanjaaDoor
