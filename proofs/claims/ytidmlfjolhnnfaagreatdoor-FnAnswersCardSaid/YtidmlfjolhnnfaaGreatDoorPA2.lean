/- What comes of rows that are drawn: its numbers and sizes. -/
import Derived.Test.YtidmlfjolhnnfaaGreatDoorPA
import Derived.Test.YtidmlfjolhnnfaaGreatDoorD37
import Derived.Test.YtidmlfjolhnnfaaGreatDoorYB
namespace Go.Proofs.YtidmlfjolhnnfaaGreatDoor
open Go.RowKit Go.Lb
theorem answer_rows (q : Q) (l : List R) : (answer q l).rows = [] ∨ (answer q l).rows = (meant q l).map (cutR q.out) := by
  unfold answer answerOf
  split
  · exact .inr rfl
  · left
    repeat' split
    all_goals rfl
theorem meant_mem {q : Q} {l : List R} {r : R} (h : r ∈ meant q l) : r ∈ l := (List.mem_filter.1 h).1
theorem answer_ids {q : Q} {l : List R} (h : SmallI l) : IdsInOk (answer q l).rows := by
  intro r hr
  rcases answer_rows q l with e | e
  · rw [e] at hr; cases hr
  · rw [e] at hr
    obtain ⟨r0, h0, rfl⟩ := List.mem_map.1 hr
    have h1 := h.2 r0 (meant_mem h0)
    exact ⟨show _ ≤ r0.id by omega, show r0.id ≤ _ by omega⟩
theorem sum_in (l : List V) : NOk (sumN l) := by
  have h := sum_wrap l
  rw [IntKind.wrap_i64] at h
  unfold NOk
  omega
theorem zero_in : NOk 0 := ⟨by decide, by decide⟩
theorem answer_n {q : Q} {l : List R} (hl : l.length ≤ 1048576) : NOk (answer q l).n := by
  have hm := meant_len q l
  unfold answer answerOf
  split
  · exact zero_in
  · split
    · exact (show NOk ((meant q l).length : Int) from ⟨by omega, by omega⟩)
    · split
      · exact sum_in _
      · repeat' split
        all_goals exact zero_in
theorem colAt_mem {k : Int} {r : R} {v : V} (h : colAt k r = some v) : v ∈ r.l := by
  unfold colAt at h
  split at h
  · exact List.mem_of_getElem? h
  · cases h
theorem answer_rs {q : Q} {l : List R} (h : SmallI l) : RsOk (answer q l).rows := by
  intro r hr v hv
  rcases answer_rows q l with e | e
  · rw [e] at hr; cases hr
  · rw [e] at hr
    obtain ⟨r0, h0, rfl⟩ := List.mem_map.1 hr
    obtain ⟨k, -, hk⟩ := List.mem_filterMap.1 hv
    exact Nat.le_trans ((h.1 r0 (meant_mem h0)).2 v (colAt_mem hk)) (by decide)
theorem answer_len (q : Q) (l : List R) : (answer q l).rows.length ≤ l.length := by
  rcases answer_rows q l with e | e
  · rw [e]; exact Nat.zero_le _
  · rw [e, List.length_map]; exact meant_len q l
end Go.Proofs.YtidmlfjolhnnfaaGreatDoor
