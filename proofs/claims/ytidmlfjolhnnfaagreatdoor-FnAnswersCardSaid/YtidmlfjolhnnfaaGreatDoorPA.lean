/- The plain law of FnAnswers: what comes of two lists, one behind the other, is what comes of each, joined. -/
import Derived.Test.YtidmlfjolhnnfaaGreatDoorS44
import Derived.Test.YtidmlfjolhnnfaaGreatDoorJA
import Derived.Test.YtidmlfjolhnnfaaGreatDoorXG
namespace Go.Proofs.YtidmlfjolhnnfaaGreatDoor
open Go.RowKit Go.Lb
theorem meant_app (q : Q) (a b : List R) : meant q (a ++ b) = meant q a ++ meant q b := by simp [meant]
theorem column_app (a b : List R) (k : Int) : column (a ++ b) k = column a k ++ column b k := by simp [column]
theorem wrap_wrap_add (x y : Int) : IntKind.i64.wrap (IntKind.i64.wrap x + y) = IntKind.i64.wrap (x + y) := by
  rw [IntKind.wrap_i64, IntKind.wrap_i64, IntKind.wrap_i64]
  omega
theorem wrap_add_wrap (x y : Int) : IntKind.i64.wrap (x + IntKind.i64.wrap y) = IntKind.i64.wrap (x + y) := by
  rw [IntKind.wrap_i64, IntKind.wrap_i64, IntKind.wrap_i64]
  omega
theorem sum_from (l : List V) : ∀ n : Int, IntKind.i64.wrap n = n → l.foldl (fun n v => IntKind.i64.wrap (n + v.n)) n = IntKind.i64.wrap (n + sumN l) := by
  induction l with
  | nil => intro n hn; simp [sumN, hn]
  | cons v r ih =>
    intro n hn
    have h1 : ∀ m : Int, IntKind.i64.wrap (IntKind.i64.wrap m) = IntKind.i64.wrap m := fun m => by have := wrap_wrap_add m 0; simpa using this
    rw [List.foldl_cons, ih _ (h1 _), wrap_wrap_add]
    have h2 : sumN (v :: r) = IntKind.i64.wrap (v.n + sumN r) := by
      unfold sumN
      rw [List.foldl_cons, ih _ (h1 _), wrap_wrap_add]
      simp [sumN]
    rw [h2, wrap_add_wrap]
    congr 1
    omega
theorem sum_wrap (l : List V) : IntKind.i64.wrap (sumN l) = sumN l := by
  have h := sum_from l 0 (by decide)
  rw [Int.zero_add] at h
  exact h.symm
theorem sum_app (a b : List V) : sumN (a ++ b) = IntKind.i64.wrap (sumN a + sumN b) := by
  unfold sumN
  rw [List.foldl_append]
  exact sum_from b _ (sum_wrap a)
theorem le_anti {a b : V} (h1 : le a b) (h2 : le b a) : a = b := less_tri h2 h1
theorem lo_is {l : List V} {x : V} (hx : x ∈ l) (h : ∀ y ∈ l, le x y) : (zoneOf l).lo = x := by
  have hm := zone_mem (l := l) (fun e => by rw [e] at hx; cases hx)
  exact le_anti (zone_le hx).1 (h _ hm.1)
theorem hi_is {l : List V} {x : V} (hx : x ∈ l) (h : ∀ y ∈ l, le y x) : (zoneOf l).hi = x := by
  have hm := zone_mem (l := l) (fun e => by rw [e] at hx; cases hx)
  exact le_anti (h _ hm.2) (zone_le hx).2
def one (b : Bool) (v : V) : List V := if b then [v] else []
theorem lo_app (a b : List V) : (zoneOf (a ++ b)).lo = (zoneOf ((if decide ((0 : Int) < (a.length : Int)) then [(zoneOf a).lo] else []) ++ (if decide ((0 : Int) < (b.length : Int)) then [(zoneOf b).lo] else []))).lo := by
  cases a with
  | nil =>
    cases b with
    | nil => rfl
    | cons y r => simp [zoneOf]
  | cons x s =>
    cases b with
    | nil => simp [zoneOf]
    | cons y r =>
      have ha := zone_mem (l := x :: s) (by simp)
      have hb := zone_mem (l := y :: r) (by simp)
      have hz := zone_mem (l := [(zoneOf (x :: s)).lo, (zoneOf (y :: r)).lo]) (by simp)
      have e : ((if decide ((0 : Int) < ((x :: s).length : Int)) then [(zoneOf (x :: s)).lo] else []) ++ (if decide ((0 : Int) < ((y :: r).length : Int)) then [(zoneOf (y :: r)).lo] else [])) = [(zoneOf (x :: s)).lo, (zoneOf (y :: r)).lo] := by
        rw [if_pos (by simp), if_pos (by simp)]; rfl
      rw [e]
      refine lo_is ?_ fun z hzm => ?_
      · rcases List.mem_cons.1 hz.1 with h | h
        · rw [h]; exact List.mem_append_left _ ha.1
        · rw [List.mem_singleton.1 h]; exact List.mem_append_right _ hb.1
      · rcases List.mem_append.1 hzm with h | h
        · exact le_trans (zone_le (l := [(zoneOf (x :: s)).lo, (zoneOf (y :: r)).lo]) (by simp)).1 (zone_le h).1
        · exact le_trans (zone_le (l := [(zoneOf (x :: s)).lo, (zoneOf (y :: r)).lo]) (x := (zoneOf (y :: r)).lo) (by simp)).1 (zone_le h).1
theorem hi_app (a b : List V) : (zoneOf (a ++ b)).hi = (zoneOf ((if decide ((0 : Int) < (a.length : Int)) then [(zoneOf a).hi] else []) ++ (if decide ((0 : Int) < (b.length : Int)) then [(zoneOf b).hi] else []))).hi := by
  cases a with
  | nil =>
    cases b with
    | nil => rfl
    | cons y r => simp [zoneOf]
  | cons x s =>
    cases b with
    | nil => simp [zoneOf]
    | cons y r =>
      have ha := zone_mem (l := x :: s) (by simp)
      have hb := zone_mem (l := y :: r) (by simp)
      have hz := zone_mem (l := [(zoneOf (x :: s)).hi, (zoneOf (y :: r)).hi]) (by simp)
      have e : ((if decide ((0 : Int) < ((x :: s).length : Int)) then [(zoneOf (x :: s)).hi] else []) ++ (if decide ((0 : Int) < ((y :: r).length : Int)) then [(zoneOf (y :: r)).hi] else [])) = [(zoneOf (x :: s)).hi, (zoneOf (y :: r)).hi] := by
        rw [if_pos (by simp), if_pos (by simp)]; rfl
      rw [e]
      refine hi_is ?_ fun z hzm => ?_
      · rcases List.mem_cons.1 hz.2 with h | h
        · rw [h]; exact List.mem_append_left _ ha.2
        · rw [List.mem_singleton.1 h]; exact List.mem_append_right _ hb.2
      · rcases List.mem_append.1 hzm with h | h
        · exact le_trans (zone_le h).2 (zone_le (l := [(zoneOf (x :: s)).hi, (zoneOf (y :: r)).hi]) (by simp)).2
        · exact le_trans (zone_le h).2 (zone_le (l := [(zoneOf (x :: s)).hi, (zoneOf (y :: r)).hi]) (x := (zoneOf (y :: r)).hi) (by simp)).2
theorem len_app_pos (a b : List V) : decide ((0 : Int) < ((a ++ b).length : Int)) = (decide ((0 : Int) < (a.length : Int)) || decide ((0 : Int) < (b.length : Int))) := by
  rw [List.length_append, Bool.eq_iff_iff]
  simp only [Bool.or_eq_true, decide_eq_true_eq]
  omega
/-- What comes of two lists, one behind the other, is what comes of each, joined. -/
theorem joined_answers (q : Q) (a b : List R) (hn : a.length + b.length ≤ 1048576) : joined q (answer q a) (answer q b) = answer q (a ++ b) := by
  have h0 : IntKind.i64.wrap 0 = 0 := by decide
  unfold answer
  rw [meant_app]
  have la := meant_len q a
  have lb := meant_len q b
  generalize meant q a = A at *
  generalize meant q b = B at *
  unfold answerOf
  by_cases k1 : q.kind = 1
  · rw [joined_0 _ _ (by omega) (by omega)]
    simp [k1, h0]
  by_cases k2 : q.kind = 2
  · rw [joined_0 _ _ (by omega) (by omega)]
    have hw : IntKind.i64.wrap ((A.length : Int) + (B.length : Int)) = (A.length : Int) + (B.length : Int) := IntWalk.i64_in _ ⟨by omega, by omega⟩
    simp [k2, hw]
  by_cases k3 : q.kind = 3
  · rw [joined_0 _ _ (by omega) (by omega)]
    simp [k3, column_app, sum_app]
  by_cases k4 : q.kind = 4
  · rw [joined_4 _ _ k4]
    rw [if_neg k1, if_neg k2, if_neg k3, if_pos k4, if_neg k1, if_neg k2, if_neg k3, if_pos k4, if_neg k1, if_neg k2, if_neg k3, if_pos k4]
    rw [column_app, len_app_pos, lo_app]
    simp [hasVals, h0]
  by_cases k5 : q.kind = 5
  · rw [joined_5 _ _ k5]
    rw [if_neg k1, if_neg k2, if_neg k3, if_neg k4, if_pos k5, if_neg k1, if_neg k2, if_neg k3, if_neg k4, if_pos k5, if_neg k1, if_neg k2, if_neg k3, if_neg k4, if_pos k5]
    rw [column_app, len_app_pos, hi_app]
    simp [hasVals, h0]
  rw [joined_0 _ _ k4 k5]
  simp [k1, k2, k3, k4, k5, h0]
end Go.Proofs.YtidmlfjolhnnfaaGreatDoor
