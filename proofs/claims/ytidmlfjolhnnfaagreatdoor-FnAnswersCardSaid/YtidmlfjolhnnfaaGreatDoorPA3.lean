/- What comes of rows that are drawn: the size of its value, the lengths of its rows, parts of them; the laws' comparison of any two results. -/
import Derived.Test.YtidmlfjolhnnfaaGreatDoorPA2
import Derived.Test.YtidmlfjolhnnfaaGreatDoorYD
namespace Go.Proofs.YtidmlfjolhnnfaaGreatDoor
open Go.Sort Go.ChangeShapes Go.WideShapes Go.ChangeAt Go.RowKit Go.Lb
theorem column_small {l : List R} {k : Int} (h : SmallR l) : ∀ v ∈ column l k, v.s.size ≤ 100 := by
  intro v hv
  obtain ⟨r, hr, hk⟩ := List.mem_filterMap.1 hv
  exact (h r hr).2 v (colAt_mem hk)
theorem zone_small {l : List V} (h : ∀ v ∈ l, v.s.size ≤ 100) : (zoneOf l).lo.s.size ≤ 100 ∧ (zoneOf l).hi.s.size ≤ 100 := by
  by_cases e : l = []
  · subst e; exact ⟨by decide, by decide⟩
  · exact ⟨h _ (zone_mem e).1, h _ (zone_mem e).2⟩
theorem meant_small {q : Q} {l : List R} (h : SmallR l) : SmallR (meant q l) := fun r hr => h r (meant_mem hr)
theorem answer_v {q : Q} {l : List R} (h : SmallI l) : (answer q l).v.s.size ≤ maxLen := by
  have hz := zone_small (column_small (k := q.col) (meant_small (q := q) h.1))
  have h0 : (V.zero).s.size ≤ maxLen := by decide
  have h1 : 100 ≤ maxLen := by decide
  unfold answer answerOf
  repeat' split
  all_goals first | exact h0 | exact Nat.le_trans hz.1 h1 | exact Nat.le_trans hz.2 h1
theorem answer_lens (q : Q) (l : List R) : lensR (answer q l).rows ≤ q.out.length * l.length := by
  have key : ∀ m : List R, lensR (m.map (cutR q.out)) ≤ q.out.length * m.length := by
    intro m
    induction m with
    | nil => simp [lensR]
    | cons r m ih =>
      have h2 : (cutR q.out r).l.length ≤ q.out.length := cutL_len q.out r
      simp only [lensR, List.map_cons, List.sum_cons, List.length_cons] at ih ⊢
      rw [Nat.mul_add]
      omega
  rcases answer_rows q l with e | e
  · rw [e]; simp [lensR]
  · rw [e]; exact Nat.le_trans (key _) (Nat.mul_le_mul_left _ (meant_len q l))
theorem answer_sizes {q : Q} {l : List R} (hq : q.out.length ≤ 5) (hl : l.length ≤ 6) : (answer q l).rows.length ≤ 1048576 ∧ lensR (answer q l).rows ≤ 1048576 :=
  ⟨Nat.le_trans (answer_len q l) (by omega), Nat.le_trans (answer_lens q l) (Nat.le_trans (Nat.mul_le_mul hq hl) (by decide))⟩
theorem lensR_smallI {l : List R} (h : SmallI l) (hl : l.length ≤ 6) : lensR l ≤ 1048576 := by
  have := lensR_sm h.1
  omega
theorem SmallI.take {l : List R} (h : SmallI l) (k : Nat) : SmallI (l.take k) := ⟨fun r hr => h.1 r (List.mem_of_mem_take hr), fun r hr => h.2 r (List.mem_of_mem_take hr)⟩
theorem SmallI.drop {l : List R} (h : SmallI l) (k : Nat) : SmallI (l.drop k) := ⟨fun r hr => h.1 r (List.mem_of_mem_drop hr), fun r hr => h.2 r (List.mem_of_mem_drop hr)⟩
set_option maxRecDepth 20000 in
set_option maxHeartbeats 2000000 in
theorem law_sameResult2 (x : Res) (sv : Value) (y : Res) (sv' : Value) (w : World) {l1 h1 l2 h2 : Nat} (hx : RdR w l1 h1 sv x.rows) (hh1 : h1 ≤ w.heap.size) (hy : RdR w l2 h2 sv' y.rows) (hh2 : h2 ≤ w.heap.size) :
    Calls Tryz.prog 9 #[.agg #[sv, .int .i64 x.n, .bool x.has, .int .i64 x.v.ty, .int .i64 x.v.n, .string x.v.s], .agg #[sv', .int .i64 y.n, .bool y.has, .int .i64 y.v.ty, .int .i64 y.v.n, .string y.v.s]] w fun e w' => e = .returned (.bool (eqd x y)) ∧ Below w.heap.size w w' := by
  have hE : eqd x y = (eqd x.rows y.rows && x.n == y.n && x.has == y.has && eqd x.v y.v) := by
    obtain ⟨a, b, h, v⟩ := x
    obtain ⟨a', b', h', v'⟩ := y
    unfold eqd
    rw [Bool.eq_iff_iff]
    simp [and_assoc]
  have HE := Lib.hid hE
  clear hE
  have hgd := guard_V
  have he := eql_V x.v y.v
  have up := up_a2 w (.cells #[sv, .int .i64 x.n, .bool x.has, .int .i64 x.v.ty, .int .i64 x.v.n, .string x.v.s] 37) (.cells #[sv', .int .i64 y.n, .bool y.has, .int .i64 y.v.ty, .int .i64 y.v.n, .string y.v.s] 37)
  have hc := Lib.hid (laws_sameRows2 x.rows sv y.rows sv' _ (hx.below up hh1) (by simp only [World.size_alloc]; omega) (hy.below up hh2) (by simp only [World.size_alloc]; omega))
  go_enter Tryz.func9, Tryz.ntmps9
  go_wp2_with fail
  refine hc.out.mono ?_
  rintro e w1 ⟨rfl, hb1⟩
  have hcl := (bcell hb1).1
  have hz := hb1.size
  simp only [World.size_alloc] at hz
  have z0 : w.heap.size < w1.heap.size := by omega
  have z1 : w.heap.size + 1 < w1.heap.size := by omega
  replace hb1 := Lib.hid (below_a2 hb1)
  clear up hc
  cases q1 : eqd x.rows y.rows <;> cases q2 : (x.n == y.n) <;> cases q3 : (x.has == y.has)
  all_goals
    rw [q1, q2, q3] at HE
    have HE := Lib.hid HE.out
    go_wp2_with fail
    go_ret
    exact ⟨ret_bool (by rw [HE.out]; simp), hb1.out⟩
end Go.Proofs.YtidmlfjolhnnfaaGreatDoor
