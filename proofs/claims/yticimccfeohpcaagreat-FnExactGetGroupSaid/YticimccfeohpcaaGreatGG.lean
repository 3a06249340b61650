/- Row groups that are read: their sizes. -/
import Derived.Test.YticimccfeohpcaaGreatCG
namespace Go.Proofs.YticimccfeohpcaaGreat
open Go.RowKit Go.Lb
theorem cntR_three : ∀ l : List R, (∀ r ∈ l, r.l.length ≤ 3) → cntR l ≤ l.length * 10
  | [], _ => by simp [cntR]
  | r :: l, h => by
    have ih := cntR_three l (fun x hx => h x (List.mem_cons_of_mem _ hx))
    have h0 := h r (List.mem_cons_self ..)
    have e : cntR (r :: l) = (1 + 3 * r.l.length) + cntR l := by simp [cntR]
    rw [e, List.length_cons, Nat.add_mul]
    omega
theorem getGroup_len (cols : List Int) (b : List UInt8) : cntR ((getGroup cols b).getD []) ≤ 120 := by
  cases h : getGroup cols b with
  | none => simp [cntR]
  | some l =>
    obtain ⟨h1, h2, h3⟩ := rowsOk_parts (put_getGroup h).1
    obtain ⟨-, c2, -⟩ := colsOk_parts h1
    have h4 := cntR_three l fun r hr => by
      obtain ⟨g1, -⟩ := h3 r hr
      simp only [rowOk, Bool.and_eq_true] at g1
      obtain ⟨f1, -⟩ := fits_parts g1.2
      omega
    simp only [Option.getD_some]
    omega
end Go.Proofs.YticimccfeohpcaaGreat
