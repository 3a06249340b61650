/- Runs of values as functions on lists: what is written is read, and what is read was written. No conditions; nothing here speaks of the program. -/
import Derived.Test.YticimccfeohpcaaGreatXV
import Derived.Test.YticimccfeohpcaaGreatXN
namespace Go.Lb
/-- A run, as data. -/
structure Ru where
  v : V
  k : Int
deriving DecidableEq
def Ru.cells (r : Ru) : List Value := r.v.cells ++ [.int .i64 r.k]
theorem Ru.cells_len (r : Ru) : r.cells.length = 4 := rfl
def runStep (acc : List Ru) (v : V) : List Ru := match acc.getLast? with
  | some r => if r.v = v then acc.dropLast ++ [⟨v, r.k + 1⟩] else acc ++ [⟨v, 1⟩]
  | none => acc ++ [⟨v, 1⟩]
def runs (l : List V) : List Ru := l.foldl runStep []
theorem runs_step {l : List V} {i : Nat} {v : V} (h : l[i]? = some v) : runs (l.take (i + 1)) = runStep (runs (l.take i)) v := by
  rw [take_of_get h, runs, runs, List.foldl_append]
  rfl
theorem runStep_nil (v : V) : runStep [] v = [⟨v, 1⟩] := rfl
theorem runStep_same (p : List Ru) (r : Ru) : runStep (p ++ [r]) r.v = p ++ [⟨r.v, r.k + 1⟩] := by simp [runStep]
theorem runStep_else (p : List Ru) {r : Ru} {v : V} (h : r.v ≠ v) : runStep (p ++ [r]) v = p ++ [r] ++ [⟨v, 1⟩] := by simp [runStep, h]
def expand (l : List Ru) : List V := l.flatMap fun r => List.replicate r.k.toNat r.v
theorem expand_app (a b : List Ru) : expand (a ++ b) = expand a ++ expand b := by simp [expand]
/-- What holds of the runs of some values. -/
structure RunsOf (l : List V) (q : List Ru) : Prop where
  ex : expand q = l
  pos : ∀ r ∈ q, 1 ≤ r.k
  len : q.length ≤ l.length
  last : q.getLast?.map Ru.v = l.getLast?
theorem RunsOf.nil : RunsOf [] [] := ⟨rfl, by simp, by simp, rfl⟩
theorem RunsOf.step {l : List V} {q : List Ru} (h : RunsOf l q) (v : V) : RunsOf (l ++ [v]) (runStep q v) := by
  rcases List.eq_nil_or_concat q with rfl | ⟨p, r, rfl⟩
  · have hl : l = [] := by
      have h1 := h.ex
      simpa [expand] using h1.symm
    subst hl
    rw [runStep_nil]
    exact ⟨by simp [expand], by simp, by simp, by simp⟩
  · rw [List.concat_eq_append] at h ⊢
    have hp := h.pos r (by simp)
    have he := h.ex
    have hl := h.len
    rw [expand_app] at he
    simp only [List.length_append, List.length_cons, List.length_nil] at hl
    by_cases hv : r.v = v
    · subst hv
      rw [runStep_same]
      refine ⟨?_, ?_, ?_, by simp⟩
      · rw [expand_app, ← he, List.append_assoc]
        congr 1
        have e1 : (r.k + 1).toNat = r.k.toNat + 1 := by omega
        simp only [expand, List.flatMap_cons, List.flatMap_nil, List.append_nil, e1, List.replicate_succ']
      · intro x hx
        rcases List.mem_append.1 hx with h1 | h1
        · exact h.pos x (List.mem_append.2 (.inl h1))
        · obtain rfl := List.mem_singleton.1 h1
          simp only
          omega
      · simp only [List.length_append, List.length_cons, List.length_nil]
        omega
    · rw [runStep_else _ hv]
      refine ⟨?_, ?_, ?_, by simp⟩
      · rw [expand_app, expand_app, ← he]
        simp [expand]
      · intro x hx
        rcases List.mem_append.1 hx with h1 | h1
        · exact h.pos x h1
        · obtain rfl := List.mem_singleton.1 h1
          simp
      · simp only [List.length_append, List.length_cons, List.length_nil]
        omega
theorem runsOf_take (l : List V) : ∀ i, i ≤ l.length → RunsOf (l.take i) (runs (l.take i))
  | 0, _ => by simpa [runs] using RunsOf.nil
  | i + 1, h => by
    have hg : l[i]? = some l[i] := List.getElem?_eq_getElem (by omega)
    rw [runs_step hg, take_of_get hg]
    exact (runsOf_take l i (by omega)).step _
theorem runsOf (l : List V) : RunsOf l (runs l) := by
  have h := runsOf_take l l.length (Nat.le_refl _)
  rwa [List.take_length] at h
/-- The values of runs; none where a run has no length, or there are too many. -/
def spreadS : List Ru → List V → Option (List V)
  | [], out => some out
  | r :: rs, out => if inR r.k 1 (64 - (out.length : Int)) then spreadS rs (out ++ List.replicate r.k.toNat r.v) else none
def spread (l : List Ru) : List V := (spreadS l []).getD []
theorem spreadS_of (q : List Ru) (out : List V) (h : ∀ r ∈ q, 1 ≤ r.k) (hl : out.length + (expand q).length ≤ 64) : spreadS q out = some (out ++ expand q) := by
  induction q generalizing out with
  | nil => simp [spreadS, expand]
  | cons r q ih =>
    have hr := h r (by simp)
    have e : expand (r :: q) = List.replicate r.k.toNat r.v ++ expand q := by simp [expand]
    rw [e, List.length_append, List.length_replicate] at hl
    rw [spreadS, if_pos (inR_of hr (by omega)), ih _ (fun x hx => h x (by simp [hx])) (by rw [List.length_append, List.length_replicate]; omega), e, List.append_assoc]
theorem spreadS_len {q : List Ru} {out l : List V} (ho : out.length ≤ 64) (h : spreadS q out = some l) : l.length ≤ 64 ∧ ∀ v ∈ l, v ∈ out ∨ ∃ r ∈ q, r.v = v := by
  induction q generalizing out with
  | nil =>
    simp only [spreadS, Option.some.injEq] at h
    subst h
    exact ⟨ho, fun v hv => .inl hv⟩
  | cons r q ih =>
    rw [spreadS] at h
    split at h
    · rename_i hr
      have hr := inR_yes hr
      obtain ⟨h1, h2⟩ := ih (by rw [List.length_append, List.length_replicate]; omega) h
      refine ⟨h1, fun v hv => ?_⟩
      rcases h2 v hv with h3 | ⟨x, hx, hxv⟩
      · rcases List.mem_append.1 h3 with h4 | h4
        · exact .inl h4
        · exact .inr ⟨r, by simp, (List.eq_of_mem_replicate h4).symm⟩
      · exact .inr ⟨x, by simp [hx], hxv⟩
    · cases h
theorem spread_len (q : List Ru) : (spread q).length ≤ 64 := by
  unfold spread
  cases h : spreadS q [] with
  | none => simp
  | some l => exact (spreadS_len (by simp) h).1
theorem spread_mem {q : List Ru} {v : V} (h : v ∈ spread q) : ∃ r ∈ q, r.v = v := by
  unfold spread at h
  cases h1 : spreadS q [] with
  | none => rw [h1] at h; simp at h
  | some l =>
    rw [h1] at h
    rcases (spreadS_len (by simp) h1).2 v h with h2 | h2
    · cases h2
    · exact h2
theorem spread_runs {l : List V} (h : l.length ≤ 64) : spread (runs l) = l := by
  have hr := runsOf l
  rw [spread, spreadS_of _ _ hr.pos (by rw [hr.ex]; simp; exact h), hr.ex]
  rfl
/-- One step of the spreading. -/
theorem spreadS_app (a b : List Ru) (out : List V) : spreadS (a ++ b) out = (spreadS a out).bind (spreadS b) := by
  induction a generalizing out with
  | nil => rfl
  | cons r a ih =>
    rw [List.cons_append, spreadS, spreadS]
    split
    · exact ih _
    · rfl
theorem spread_step {q : List Ru} {i : Nat} {r : Ru} {out : List V} (h : q[i]? = some r) (h1 : spreadS (q.take i) [] = some out) (hr : inR r.k 1 (64 - (out.length : Int)) = true) : spreadS (q.take (i + 1)) [] = some (out ++ List.replicate r.k.toNat r.v) := by
  rw [take_of_get h, spreadS_app, h1]
  simp [spreadS, hr]
theorem spread_bad {q : List Ru} {i : Nat} {r : Ru} {out : List V} (h : q[i]? = some r) (h1 : spreadS (q.take i) [] = some out) (hr : inR r.k 1 (64 - (out.length : Int)) = false) : spread q = [] := by
  have e : q = q.take i ++ (r :: q.drop (i + 1)) := by
    rw [← drop_of_get h, List.take_append_drop]
  rw [spread, e, spreadS_app, h1]
  simp [spreadS, hr]
theorem spread_done {q : List Ru} {out : List V} (h : spreadS (q.take q.length) [] = some out) : spread q = out := by
  rw [List.take_length] at h
  rw [spread, h]
  rfl

def runB (r : Ru) : List UInt8 := numB r.k ++ valB r.v
def encRuns (l : List V) : List UInt8 := if typeOf l = 0 then [] else numB (runs l).length ++ (runs l).flatMap runB
theorem encRuns_no {l : List V} (h : typeOf l = 0) : encRuns l = [] := by rw [encRuns, if_pos h]
theorem encRuns_yes {l : List V} (h : typeOf l ≠ 0) : encRuns l = numB (runs l).length ++ (runs l).flatMap runB := by rw [encRuns, if_neg h]
theorem runB_len (r : Ru) : (runB r).length ≤ 12 := by
  rw [runB, List.length_append]
  have := numB_len r.k
  have := valB_len r.v
  omega
theorem flatR_len (l : List Ru) : (l.flatMap runB).length ≤ 12 * l.length := by
  induction l with
  | nil => simp
  | cons a l ih =>
    have := runB_len a
    simp only [List.flatMap_cons, List.length_append, List.length_cons]
    omega
theorem encRuns_len (l : List V) : (encRuns l).length ≤ 800 := by
  by_cases h : typeOf l = 0
  · rw [encRuns_no h]; simp
  · rw [encRuns_yes h, List.length_append]
    have := flatR_len (runs l)
    have := (runsOf l).len
    have := typeOf_len64 rfl h
    have := numB_len (runs l).length
    omega
def rdRun (ty : Int) (s : List UInt8) : Option (Ru × Nat) := match rdNum s with
  | none => none
  | some (n, p) => match rdVal ty (s.drop p) with
    | none => none
    | some (v, q) => some (⟨v, n⟩, p + q)
theorem rdRun_1 {ty : Int} {s : List UInt8} (h : rdNum s = none) : rdRun ty s = none := by simp only [rdRun, h]
theorem rdRun_2 {ty n : Int} {s : List UInt8} {p : Nat} (h : rdNum s = some (n, p)) (h2 : rdVal ty (s.drop p) = none) : rdRun ty s = none := by simp only [rdRun, h, h2]
theorem rdRun_3 {ty n : Int} {s : List UInt8} {p q : Nat} {v : V} (h : rdNum s = some (n, p)) (h2 : rdVal ty (s.drop p) = some (v, q)) : rdRun ty s = some (⟨v, n⟩, p + q) := by simp only [rdRun, h, h2]
def runOk (ty : Int) (r : Ru) : Bool := isNum r.k && valOkT ty r.v
theorem codec_run (ty : Int) : Codec (rdRun ty) runB (runOk ty) := by
  constructor
  · intro a r h
    simp only [runOk, Bool.and_eq_true] at h
    have h1 := rdNum_num h.1 (valB a.v ++ r)
    have h2 := (codec_val ty).rd a.v r h.2
    rw [runB, List.append_assoc]
    rw [rdRun_3 h1 (by rw [List.drop_left]; exact h2), List.length_append]
  · intro s a k h
    cases h1 : rdNum s with
    | none => rw [rdRun_1 h1] at h; cases h
    | some np =>
      obtain ⟨n, p⟩ := np
      cases h2 : rdVal ty (s.drop p) with
      | none => rw [rdRun_2 h1 h2] at h; cases h
      | some vq =>
        obtain ⟨v, q⟩ := vq
        rw [rdRun_3 h1 h2] at h
        simp only [Option.some.injEq, Prod.mk.injEq] at h
        obtain ⟨rfl, rfl⟩ := h
        obtain ⟨g1, -, -, g4, g5⟩ := num_rdNum h1
        obtain ⟨f1, f2, f3⟩ := (codec_val ty).wr _ _ _ h2
        refine ⟨by simp [runOk, g1, f1], by rw [runB, List.length_append, ← g4, ← f2], ?_⟩
        rw [runB, List.append_assoc]
        rw [List.drop_drop] at f3
        rw [← f3]
        exact g5
def decRuns (b : List UInt8) (ty k : Int) : Option (List V) := match rdNum b with
  | none => none
  | some (n, p) => if inR n 1 64 then match rdL (rdRun ty) n.toNat (b.drop p) with
      | none => none
      | some (q, _) => if inR k 1 64 && (decide (((spread q).length : Int) = k) && eqd b (encRuns (spread q))) then some (spread q) else none
    else none
theorem decRuns_1 {b : List UInt8} {ty k : Int} (h : rdNum b = none) : decRuns b ty k = none := by simp only [decRuns, h]
theorem decRuns_2 {b : List UInt8} {ty k n : Int} {p : Nat} (h : rdNum b = some (n, p)) (h2 : inR n 1 64 = false) : decRuns b ty k = none := by
  simp only [decRuns, h]
  rw [if_neg (by simp [h2])]
theorem decRuns_3 {b : List UInt8} {ty k : Int} {n p : Nat} (h : rdNum b = some ((n : Int), p)) (h3 : rdL (rdRun ty) n (b.drop p) = none) : decRuns b ty k = none := by
  simp only [decRuns, h, Int.toNat_natCast, h3]
  split <;> rfl
theorem decRuns_4 {b : List UInt8} {ty k : Int} {n p m : Nat} {q : List Ru} (h : rdNum b = some ((n : Int), p)) (h2 : inR (n : Int) 1 64 = true) (h3 : rdL (rdRun ty) n (b.drop p) = some (q, m)) :
    decRuns b ty k = if inR k 1 64 && (decide (((spread q).length : Int) = k) && eqd b (encRuns (spread q))) then some (spread q) else none := by
  simp only [decRuns, h, Int.toNat_natCast, h3]
  rw [if_pos h2]
theorem enc_decRuns {b : List UInt8} {ty k : Int} {l : List V} (h : decRuns b ty k = some l) : encRuns l = b ∧ (l.length : Int) = k ∧ inR k 1 64 = true ∧ l.length ≤ 64 := by
  cases h1 : rdNum b with
  | none => rw [decRuns_1 h1] at h; cases h
  | some np =>
    obtain ⟨n, p⟩ := np
    cases h2 : inR n 1 64
    · rw [decRuns_2 h1 h2] at h; cases h
    · have hr := inR_yes h2
      obtain ⟨n, rfl⟩ := Int.eq_ofNat_of_zero_le (show 0 ≤ n by omega)
      cases h3 : rdL (rdRun ty) n (b.drop p) with
      | none => rw [decRuns_3 h1 h3] at h; cases h
      | some qm =>
        obtain ⟨q, m⟩ := qm
        rw [decRuns_4 h1 h2 h3] at h
        split at h
        · rename_i hc
          simp only [Bool.and_eq_true, decide_eq_true_eq, eqd] at hc
          injection h with h
          subst h
          exact ⟨hc.2.2.symm, hc.2.1, hc.1, spread_len q⟩
        · cases h
theorem runs_ok {l : List V} (h : typeOf l ≠ 0) : (runs l).all (runOk (typeOf l)) = true := by
  have hr := runsOf l
  have hl := typeOf_len64 rfl h
  have ha := all_typeOf (l := l) rfl h
  rw [List.all_eq_true] at ha ⊢
  intro r hrm
  have hp := hr.pos r hrm
  have hsub : ∀ v ∈ List.replicate r.k.toNat r.v, v ∈ l := fun v hv => by
    rw [← hr.ex]
    exact List.mem_flatMap.2 ⟨r, hrm, hv⟩
  have hle : r.k.toNat ≤ l.length := by
    obtain ⟨a, b, e⟩ := List.append_of_mem hrm
    have h1 := hr.ex
    rw [e, expand_app] at h1
    rw [← h1]
    simp only [expand, List.flatMap_cons, List.length_append, List.length_replicate]
    omega
  have hv : valOkT (typeOf l) r.v = true := ha _ (hsub _ (by rw [List.mem_replicate]; exact ⟨by omega, rfl⟩))
  rw [runOk, hv, isNum_of (by omega)]
  rfl
theorem dec_encRuns {l : List V} (h : typeOf l ≠ 0) : decRuns (encRuns l) (typeOf l) l.length = some l := by
  have hl := typeOf_len64 rfl h
  have hp := typeOf_pos h
  have hr := runsOf l
  have hq : 1 ≤ (runs l).length := by
    cases hrl : runs l with
    | nil =>
      have h1 := hr.ex
      rw [hrl] at h1
      have h2 : l = [] := by simpa [expand] using h1.symm
      rw [h2] at hp
      simp at hp
    | cons a r => simp
  have hql := hr.len
  have h1 : rdNum (encRuns l) = some (((runs l).length : Int), (numB (runs l).length).length) := by
    rw [encRuns_yes h]
    exact rdNum_num (isNum_of (by omega)) _
  have h2 := rdL_rd (codec_run (typeOf l)) (runs l) [] (runs_ok h)
  rw [List.append_nil] at h2
  rw [decRuns_4 h1 (inR_of (by omega) (by omega)) (by rw [encRuns_yes h, List.drop_left]; exact h2), spread_runs hl, inR_of (by omega) (by omega), decide_eq_true rfl, eqd_self]
  rfl
end Go.Lb
