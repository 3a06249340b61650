/- The laws' helpers for predicates: sizes: contracts. -/
import Derived.Test.YtidmlfjolhnnfaaMemP
import Derived.Test.YtidmlfjolhnnfaaXL
namespace Go.Lb
/-- How many predicates a list holds, all told. -/
def cntP : List P → Nat
  | [] => 0
  | (.mk _ _ _ _ l) :: r => 1 + cntP l + cntP r
termination_by l => SizeOf.sizeOf l
decreasing_by all_goals (simp; try omega)
theorem cntP_cons (p : P) (r : List P) : cntP (p :: r) = 1 + cntP p.l + cntP r := by cases p; rw [cntP]; rfl
theorem cntP_nil : cntP [] = 0 := by rw [cntP]
theorem cntP_append (a b : List P) : cntP (a ++ b) = cntP a + cntP b := by
  induction a with
  | nil => simp [cntP_nil]
  | cons x a ih => rw [List.cons_append, cntP_cons, cntP_cons, ih]; omega
theorem cntP_len (l : List P) : l.length ≤ cntP l := by
  induction l with
  | nil => simp
  | cons x l ih => rw [cntP_cons, List.length_cons]; omega
theorem cntP_take {l : List P} {k : Nat} {x : P} (h : l[k]? = some x) : cntP (l.take (k + 1)) = cntP (l.take k) + (1 + cntP x.l) ∧ cntP (l.take (k + 1)) ≤ cntP l := by
  refine ⟨by rw [take_of_get h, cntP_append, cntP_cons, cntP_nil]; omega, ?_⟩
  have h2 := cntP_append (l.take (k + 1)) (l.drop (k + 1))
  rw [List.take_append_drop] at h2
  omega
end Go.Lb
namespace Go.Proofs.Ytidmlfjolhnnfaa
open Go.Sort Go.ChangeShapes Go.WideShapes Go.ChangeAt Go.RowKit Go.Lb

end Go.Proofs.Ytidmlfjolhnnfaa
