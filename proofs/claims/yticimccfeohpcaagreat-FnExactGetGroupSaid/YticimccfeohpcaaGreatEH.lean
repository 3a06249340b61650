/- The place of a value in a dictionary, and the places of some: contracts. -/
import Derived.Test.YticimccfeohpcaaGreatEG
import Derived.Test.YticimccfeohpcaaGreatEF
import Derived.Test.YticimccfeohpcaaGreatXN
namespace Go.Lb
theorem map_take {α β : Type} (f : α → β) {l : List α} {j : Nat} {y : α} (h : l[j]? = some y) : (l.take (j + 1)).map f = (l.take j).map f ++ [f y] := by
  rw [take_of_get h, List.map_append]
  rfl
theorem hit_more {d : List V} {v y : V} {k : Nat} (h : ∀ j x, j < k → d[j]? = some x → x ≠ v) (hk : d[k]? = some y) (hn : y ≠ v) : ∀ j x, j < k + 1 → d[j]? = some x → x ≠ v := by
  intro j x hj hx
  rcases Nat.lt_or_ge j k with h1 | h1
  · exact h j x h1 hx
  · obtain rfl : j = k := by omega
    rw [hk] at hx
    injection hx with hx
    rw [← hx]
    exact hn
theorem miss_all {d : List V} {v : V} (h : ∀ j x, j < d.length → d[j]? = some x → x ≠ v) : inDict d v = -1 := inDict_miss (fun hm => by
  obtain ⟨j, hj, e⟩ := List.getElem_of_mem hm
  exact h j v hj (by rw [List.getElem?_eq_getElem hj, e]) rfl)
theorem inDict_mem {d : List V} {v : V} (h : v ∈ d) : ∃ k : Nat, inDict d v = k ∧ k < d.length := by
  rcases inDict_cases d v with ⟨h1, -⟩ | ⟨k, h1, h2⟩
  · exact absurd h h1
  · exact ⟨k, h1, (List.getElem?_eq_some_iff.1 h2).1⟩
end Go.Lb
namespace Go.Proofs.YticimccfeohpcaaGreat
open Go.Sort Go.ChangeShapes Go.WideShapes Go.ChangeAt Go.RowKit Go.Lb
set_option maxHeartbeats 4000000 in
set_option maxRecDepth 20000 in
theorem spec_InDict (d : List V) (v : V) (x : Value) (w : World) {lo hi : Nat} (hx : RdV w lo hi x d) (hhi : hi ≤ w.heap.size) :
    Calls Tryz.prog 178 #[x, .agg #[.int .i64 v.ty, .int .i64 v.n, .string v.s]] w fun e w' => e = .returned (.int .i64 (inDict d v)) ∧ Below w.heap.size w w' := by
  obtain ⟨A, c, rfl, hl, hl2⟩ := hx.form
  have hgd := guard_V
  have hup := up_a1 w (.cells #[.int .i64 v.ty, .int .i64 v.n, .string v.s] 83)
  have hx0 := hx.below hup hhi
  have n0 := box_new w #[.int .i64 v.ty, .int .i64 v.n, .string v.s] 83 0
  have n1 := box_new w #[.int .i64 v.ty, .int .i64 v.n, .string v.s] 83 1
  have n2 := box_new w #[.int .i64 v.ty, .int .i64 v.n, .string v.s] 83 2
  simp only [List.getElem?_toArray, List.getElem?_cons_zero, List.getElem?_cons_succ] at n0 n1 n2
  have sz0 : (w.alloc (.cells #[.int .i64 v.ty, .int .i64 v.n, .string v.s] 83)).heap.size = w.heap.size + 1 := by simp
  go_enter Tryz.func178, Tryz.ntmps178
  go_wp2_with fail
  obtain ⟨W0, hW0⟩ : ∃ W0, (w.alloc (.cells #[.int .i64 v.ty, .int .i64 v.n, .string v.s] 83)) = W0 := ⟨_, rfl⟩
  rw [hW0] at hup hx0 n0 n1 n2 sz0 ⊢
  clear hW0 hx
  have hs0 : w.heap.size < W0.heap.size := by omega
  go_loopw [5] (fun i wr => ∃ k : Nat, Hid (i = .int .i64 k ∧ k ≤ d.length ∧ (∀ j x, j < k → d[j]? = some x → x ≠ v) ∧ Below W0.heap.size W0 wr)) (fun i _ => d.length - (intOf i).toNat)
  case atStart => exact ⟨0, Lib.hid ⟨rfl, Nat.zero_le _, fun j x hj => absurd hj (Nat.not_lt_zero _), Below.refl _ _⟩⟩
  case round =>
    obtain ⟨k, hrel⟩ := hrel
    obtain ⟨rfl, hk, hne, hb⟩ := hrel.out
    have Hne := Lib.hid hne
    have HB := Lib.hid (below_go0 hup hb)
    have HB0 := Lib.hid hb
    have b0 := cell_keep n0 hb
    have b1 := cell_keep n1 hb
    have b2 := cell_keep n2 hb
    have hbs := hb.size
    have hgw : w.heap.size < wr.heap.size := Nat.lt_of_lt_of_le hs0 hbs
    have hX := hx0.below hb (by omega)
    clear hrel hne hb
    by_cases hkd : k < d.length
    · obtain ⟨b, off, y, rfl, -, hbl, hyk, e0, e1, e2⟩ := hX.at hkd
      have dk : decide ((k : Int) < (d.length : Int)) = true := decide_eq_true (by omega)
      have HY := eql_V y v
      by_cases hyv : y = v
      · subst hyv
        rw [eqd_self] at HY
        have HE := Lib.hid (inDict_hit hyk Hne.out)
        clear hyk
        go_wp2_with fail
        have q_0 := cell_regrown (w := wr) e0
        have q_1 := cell_regrown (w := wr) e1
        have q_2 := cell_regrown (w := wr) e2
        have q_3 := cell_regrown (w := wr) b0
        have q_4 := cell_regrown (w := wr) b1
        have q_5 := cell_regrown (w := wr) b2
        refine wp_region_quiet_below (by kernel_rfl) (by kernel_rfl) ?_
        repeat (go_big_quiet_step (fail))
        refine wpQuiet_nil ?_
        intro wq hw'
        obtain ⟨⟨dq, osq⟩, hw''⟩ := hw'
        have hbq := below_regrown wr dq osq
        rw [← hw''] at hbq
        clear hw''
        clear q_0 q_1 q_2 q_3 q_4 q_5
        have HBq := Lib.hid (below_go HB.out hbq)
        clear hbq e0 e1 e2 b0 b1 b2
        go_wp2_with fail
        go_ret
        exact ⟨by rw [HE.out]; rfl, HBq.out⟩
      · have hd : eqd y v = false := eqd_no hyv
        rw [hd] at HY
        have Hne2 := Lib.hid (hit_more Hne.out hyk hyv)
        clear hyk hd hyv
        go_wp2_with fail
        have q_0 := cell_regrown (w := wr) e0
        have q_1 := cell_regrown (w := wr) e1
        have q_2 := cell_regrown (w := wr) e2
        have q_3 := cell_regrown (w := wr) b0
        have q_4 := cell_regrown (w := wr) b1
        have q_5 := cell_regrown (w := wr) b2
        refine wp_region_quiet_below (by kernel_rfl) (by kernel_rfl) ?_
        repeat (go_big_quiet_step (fail))
        refine wpQuiet_nil ?_
        intro wq hw'
        obtain ⟨⟨dq, osq⟩, hw''⟩ := hw'
        have hbq := below_regrown wr dq osq
        rw [← hw''] at hbq
        clear hw''
        clear q_0 q_1 q_2 q_3 q_4 q_5
        have HBq := Lib.hid (below_go HB0.out hbq)
        clear hbq e0 e1 e2 b0 b1 b2
        go_wp2_with fail
        go_roundw
        case rel => exact ⟨k + 1, Lib.hid ⟨by go_num, by omega, Hne2.out, HBq.out⟩⟩
        case measure => simp [intOf]; omega
    · obtain rfl : k = d.length := by omega
      have HE := Lib.hid (miss_all Hne.out)
      go_wp2_with fail
      go_ret
      exact ⟨by rw [HE.out]; rfl, HB.out⟩
set_option maxHeartbeats 4000000 in
set_option maxRecDepth 20000 in
theorem slices_IndexV (d : List V) (v : V) (x : Value) (w : World) {lo hi : Nat} (hx : RdV w lo hi x d) (hhi : hi ≤ w.heap.size) :
    Calls Tryz.prog 186 #[x, .agg #[.int .i64 v.ty, .int .i64 v.n, .string v.s]] w fun e w' => e = .returned (.int .i64 (inDict d v)) ∧ Below w.heap.size w w' := by
  obtain ⟨A, c, rfl, hl, hl2⟩ := hx.form
  have hgd := guard_V
  have hup := up_a1 w (.cells #[.int .i64 v.ty, .int .i64 v.n, .string v.s] 83)
  have hx0 := hx.below hup hhi
  have n0 := box_new w #[.int .i64 v.ty, .int .i64 v.n, .string v.s] 83 0
  have n1 := box_new w #[.int .i64 v.ty, .int .i64 v.n, .string v.s] 83 1
  have n2 := box_new w #[.int .i64 v.ty, .int .i64 v.n, .string v.s] 83 2
  simp only [List.getElem?_toArray, List.getElem?_cons_zero, List.getElem?_cons_succ] at n0 n1 n2
  have sz0 : (w.alloc (.cells #[.int .i64 v.ty, .int .i64 v.n, .string v.s] 83)).heap.size = w.heap.size + 1 := by simp
  go_enter Tryz.func186, Tryz.ntmps186
  go_wp2_with fail
  obtain ⟨W0, hW0⟩ : ∃ W0, (w.alloc (.cells #[.int .i64 v.ty, .int .i64 v.n, .string v.s] 83)) = W0 := ⟨_, rfl⟩
  rw [hW0] at hup hx0 n0 n1 n2 sz0 ⊢
  clear hW0 hx
  have hs0 : w.heap.size < W0.heap.size := by omega
  go_loopw [5, 8] (fun u i wr => ∃ k : Nat, Hid (i = .int .i64 k ∧ k ≤ d.length ∧ (∀ j x, j < k → d[j]? = some x → x ≠ v) ∧ Below W0.heap.size W0 wr)) (fun _ i _ => d.length - (intOf i).toNat)
  case atStart => exact ⟨0, Lib.hid ⟨rfl, Nat.zero_le _, fun j x hj => absurd hj (Nat.not_lt_zero _), Below.refl _ _⟩⟩
  case round =>
    obtain ⟨k, hrel⟩ := hrel
    obtain ⟨rfl, hk, hne, hb⟩ := hrel.out
    have Hne := Lib.hid hne
    have HB := Lib.hid (below_go0 hup hb)
    have HB0 := Lib.hid hb
    have b0 := cell_keep n0 hb
    have b1 := cell_keep n1 hb
    have b2 := cell_keep n2 hb
    have hbs := hb.size
    have hgw : w.heap.size < wr.heap.size := Nat.lt_of_lt_of_le hs0 hbs
    have hX := hx0.below hb (by omega)
    clear hrel hne hb
    by_cases hkd : k < d.length
    · obtain ⟨b, off, y, rfl, -, hbl, hyk, e0, e1, e2⟩ := hX.at hkd
      have dk : decide ((k : Int) < (d.length : Int)) = true := decide_eq_true (by omega)
      have HY := eql_V v y
      by_cases hyv : y = v
      · subst hyv
        rw [eqd_self] at HY
        have HE := Lib.hid (inDict_hit hyk Hne.out)
        clear hyk
        go_wp2_with fail
        have q_0 := cell_regrown (w := wr) e0
        have q_1 := cell_regrown (w := wr) e1
        have q_2 := cell_regrown (w := wr) e2
        have q_3 := cell_regrown (w := wr) b0
        have q_4 := cell_regrown (w := wr) b1
        have q_5 := cell_regrown (w := wr) b2
        refine wp_region_quiet_below (by kernel_rfl) (by kernel_rfl) ?_
        repeat (go_big_quiet_step (fail))
        refine wpQuiet_nil ?_
        intro wq hw'
        obtain ⟨⟨dq, osq⟩, hw''⟩ := hw'
        have hbq := below_regrown wr dq osq
        rw [← hw''] at hbq
        clear hw''
        clear q_0 q_1 q_2 q_3 q_4 q_5
        have HBq := Lib.hid (below_go HB.out hbq)
        clear hbq e0 e1 e2 b0 b1 b2
        go_wp2_with fail
        go_ret
        exact ⟨by rw [HE.out]; rfl, HBq.out⟩
      · have hd : eqd v y = false := eqd_no (fun e => hyv e.symm)
        rw [hd] at HY
        have Hne2 := Lib.hid (hit_more Hne.out hyk hyv)
        clear hyk hd hyv
        go_wp2_with fail
        have q_0 := cell_regrown (w := wr) e0
        have q_1 := cell_regrown (w := wr) e1
        have q_2 := cell_regrown (w := wr) e2
        have q_3 := cell_regrown (w := wr) b0
        have q_4 := cell_regrown (w := wr) b1
        have q_5 := cell_regrown (w := wr) b2
        refine wp_region_quiet_below (by kernel_rfl) (by kernel_rfl) ?_
        repeat (go_big_quiet_step (fail))
        refine wpQuiet_nil ?_
        intro wq hw'
        obtain ⟨⟨dq, osq⟩, hw''⟩ := hw'
        have hbq := below_regrown wr dq osq
        rw [← hw''] at hbq
        clear hw''
        clear q_0 q_1 q_2 q_3 q_4 q_5
        have HBq := Lib.hid (below_go HB0.out hbq)
        clear hbq e0 e1 e2 b0 b1 b2
        go_wp2_with fail
        go_roundw
        case rel => exact ⟨k + 1, Lib.hid ⟨by go_num, by omega, Hne2.out, HBq.out⟩⟩
        case measure => simp [intOf]; omega
    · obtain rfl : k = d.length := by omega
      have HE := Lib.hid (miss_all Hne.out)
      go_wp2_with fail
      go_ret
      exact ⟨by rw [HE.out]; rfl, HB.out⟩
theorem impl_InDict (d : List V) (v : V) (x : Value) (w : World) {lo hi : Nat} (hx : RdV w lo hi x d) (hhi : hi ≤ w.heap.size) :
    Calls Tryz.prog 176 #[x, .agg #[.int .i64 v.ty, .int .i64 v.n, .string v.s]] w fun e w' => e = .returned (.int .i64 (inDict d v)) ∧ Below w.heap.size w w' := by
  obtain ⟨A, c, rfl, hl, hl2⟩ := hx.form
  have hup := up_a1 w (.cells #[.int .i64 v.ty, .int .i64 v.n, .string v.s] 83)
  have hx0 := hx.below hup hhi
  have n0 := box_new w #[.int .i64 v.ty, .int .i64 v.n, .string v.s] 83 0
  have n1 := box_new w #[.int .i64 v.ty, .int .i64 v.n, .string v.s] 83 1
  have n2 := box_new w #[.int .i64 v.ty, .int .i64 v.n, .string v.s] 83 2
  simp only [List.getElem?_toArray, List.getElem?_cons_zero, List.getElem?_cons_succ] at n0 n1 n2
  have sz0 : (w.alloc (.cells #[.int .i64 v.ty, .int .i64 v.n, .string v.s] 83)).heap.size = w.heap.size + 1 := by simp
  go_enter Tryz.func176, Tryz.ntmps176
  go_wp2_with fail
  obtain ⟨W0, hW0⟩ : ∃ W0, (w.alloc (.cells #[.int .i64 v.ty, .int .i64 v.n, .string v.s] 83)) = W0 := ⟨_, rfl⟩
  rw [hW0] at hup hx0 n0 n1 n2 sz0 ⊢
  clear hW0 hx
  go_wp2_with fail
  refine (slices_IndexV d v _ W0 hx0 (by omega)).mono ?_
  rintro e w1 ⟨rfl, hb1⟩
  have HB := Lib.hid (below_go0 hup hb1)
  clear hb1 n0 n1 n2
  obtain ⟨r, hr⟩ : ∃ r, inDict d v = r := ⟨_, rfl⟩
  rw [hr]
  have HR := Lib.hid hr
  clear hr
  go_wp2_with fail
  refine bodyPost_ret (v := .int .i64 r) (by simp [results, Tryz.results176, go_sem]) rfl ⟨by rw [HR.out], HB.out⟩
set_option maxHeartbeats 4000000 in
set_option maxRecDepth 20000 in
theorem spec_Places (d l : List V) (x y : Value) (w : World) {lo hi lo' hi' : Nat} (hx : RdV w lo hi x d) (hy : RdV w lo' hi' y l) (hhi : hi ≤ w.heap.size) (hhi' : hi' ≤ w.heap.size) (hm : ∀ v ∈ l, v ∈ d) (hn : l.length ≤ 1000000000) :
    Calls Tryz.prog 147 #[x, y] w fun e w' => ∃ r, e = .returned (.tuple #[r, .bool true]) ∧ Own 3 1 w' w.heap.size w'.heap.size r (l.map (inDict d)).length ((l.map (inDict d)).map (.int .i64)) ∧ Below w.heap.size w w' := by
  obtain ⟨A, c, rfl, hl, hl2⟩ := hx.form
  obtain ⟨A', c', rfl, hl', hl2'⟩ := hy.form
  obtain ⟨j0, jif, jz0, jz1, jz2⟩ := info_parts info_i64
  replace jif := Lib.hid jif
  replace jz0 := Lib.hid jz0
  replace jz1 := Lib.hid jz1
  replace jz2 := Lib.hid jz2
  have hb0 : Below w.heap.size w (w.alloc (.cells #[] 3)) := up_a1 w _
  have own0 := World.ownsRow_made w (base := w.heap.size) (e := 3) (size := 1) #[] 0 (Nat.le_refl _) (by decide) rfl
  go_enter Tryz.func147, Tryz.ntmps147
  go_wp2_with fail
  go_loopw [6, 7, 8] (fun o i u wr => ∃ (j : Nat) (q : List Int) (u0 : Value), Hid (i = .int .i64 j ∧ u = u0 ∧ j ≤ l.length ∧ q.length = j ∧ q = (l.take j).map (inDict d) ∧ wr.ownsRow w.heap.size 3 1 o j (q.map (.int .i64)) ∧ Below w.heap.size w wr)) (fun _ i _ _ => l.length - (intOf i).toNat)
  case atStart => exact ⟨0, [], _, Lib.hid ⟨rfl, rfl, Nat.zero_le _, rfl, rfl, own0, hb0⟩⟩
  case round =>
    obtain ⟨j, q, u0, hrel⟩ := hrel
    obtain ⟨rfl, rfl, hj, hql, hq, hown, hb⟩ := hrel.out
    have Hq := Lib.hid hq
    have Hown := Lib.hid hown
    have Hql := Lib.hid hql
    have hbs := hb.size
    obtain ⟨Ao, co, rfl, -, -, -⟩ := (Own.new hown).cells
    clear hrel hq hown own0 hb0 hql
    by_cases hjl : j < l.length
    · obtain ⟨b, off, y, rfl, -, hbl, hyk, e0, e1, e2⟩ := (hy.below hb hhi').at hjl
      have Hs := Lib.hid (map_take (inDict d) hyk)
      obtain ⟨k, hk, hkd⟩ := inDict_mem (hm y (mem_of_get hyk))
      clear hyk
      have dk : decide ((k : Int) < 0) = false := decide_eq_false (by omega)
      have hX := hx.below hb hhi
      have hI := spec_InDict d y _ wr hX (by omega)
      rw [hk] at hI
      have HI := Lib.hid hI
      have HB := Lib.hid hb
      clear hI hX
      go_wp2_with fail
      refine HI.out.mono ?_
      rintro e w1 ⟨rfl, hb1⟩
      have HO1 := Lib.hid (owns_below Hown.out hb1)
      have HB1 := Lib.hid (below_go HB.out hb1)
      have hbs1 := HB1.out.size
      clear hb1 HI Hown HB
      go_wp2_with (at_builtin; refine wpl_app rfl _ _ 22 rfl w.heap.size 3 j0 _ 1 8 Tryz.underlying22 jif.out jz0.out jz1.out jz2.out rfl (by decide) (by decide) (HO1.out.alloc _) rfl (heap_alloc_new _ _) rfl rfl (by simp [Value.oneCell']) (by omega) (by simp; omega) ?_)
      intro v' w3 hown' hgrow hnb
      have HB3 := Lib.hid (Below.grown (HB1.out.alloc HB1.out.size _) hgrow (fun g hg => (HO1.out.lt g hg).1) (Nat.le_refl _))
      have HO3 := Lib.hid (show w3.ownsRow w.heap.size 3 1 v' (j + 1) ((q ++ [(k : Int)]).map (.int .i64)) by
        rw [List.map_append]
        exact hown')
      have HS2 := Lib.hid (show q ++ [(k : Int)] = (l.take (j + 1)).map (inDict d) by rw [Hs.out, hk, ← Hq.out])
      clear hown' hgrow hnb hk
      go_wp2_with fail
      go_roundw
      case rel => exact ⟨j + 1, q ++ [(k : Int)], _, Lib.hid ⟨by go_num, rfl, by omega, by rw [List.length_append, Hql.out]; rfl, HS2.out, HO3.out, HB3.out⟩⟩
      case measure => simp [intOf]; omega
    · obtain rfl : j = l.length := by omega
      have HE := Lib.hid (show l.map (inDict d) = q by rw [Hq.out, List.take_length])
      go_wp2_with fail
      refine bodyPost_ret (v := .tuple #[.slice Ao l.length co, .bool true]) (by simp [results, Tryz.results147, go_sem]) rfl ⟨_, rfl, ?_, hb⟩
      rw [HE.out, Hql.out]
      exact .new Hown.out
set_option maxHeartbeats 4000000 in
set_option maxRecDepth 20000 in
theorem impl_Places (d l : List V) (x y : Value) (w : World) {lo hi lo' hi' : Nat} (hx : RdV w lo hi x d) (hy : RdV w lo' hi' y l) (hhi : hi ≤ w.heap.size) (hhi' : hi' ≤ w.heap.size) (hm : ∀ v ∈ l, v ∈ d) (hn : l.length ≤ 1000000000) :
    Calls Tryz.prog 140 #[x, y] w fun e w' => ∃ r, e = .returned (.tuple #[r, .bool true]) ∧ Own 3 1 w' w.heap.size w'.heap.size r (l.map (inDict d)).length ((l.map (inDict d)).map (.int .i64)) ∧ Below w.heap.size w w' := by
  obtain ⟨A, c, rfl, hl, hl2⟩ := hx.form
  obtain ⟨A', c', rfl, hl', hl2'⟩ := hy.form
  obtain ⟨j0, jif, jz0, jz1, jz2⟩ := info_parts info_i64
  replace jif := Lib.hid jif
  replace jz0 := Lib.hid jz0
  replace jz1 := Lib.hid jz1
  replace jz2 := Lib.hid jz2
  have hb0 : Below w.heap.size w (w.alloc (.cells #[] 3)) := up_a1 w _
  have own0 := World.ownsRow_made w (base := w.heap.size) (e := 3) (size := 1) #[] 0 (Nat.le_refl _) (by decide) rfl
  go_enter Tryz.func140, Tryz.ntmps140
  go_wp2_with fail
  go_loopw [6, 13] (fun o i wr => ∃ (j : Nat) (q : List Int), Hid (i = .int .i64 j ∧ j ≤ l.length ∧ q.length = j ∧ q = (l.take j).map (inDict d) ∧ wr.ownsRow w.heap.size 3 1 o j (q.map (.int .i64)) ∧ Below w.heap.size w wr)) (fun _ i _ => l.length - (intOf i).toNat)
  case atStart => exact ⟨0, [], Lib.hid ⟨rfl, Nat.zero_le _, rfl, rfl, own0, hb0⟩⟩
  case round =>
    obtain ⟨j, q, hrel⟩ := hrel
    obtain ⟨rfl, hj, hql, hq, hown, hb⟩ := hrel.out
    have Hq := Lib.hid hq
    have Hown := Lib.hid hown
    have Hql := Lib.hid hql
    have hbs := hb.size
    obtain ⟨Ao, co, rfl, -, -, -⟩ := (Own.new hown).cells
    clear hrel hq hown own0 hb0 hql
    by_cases hjl : j < l.length
    · obtain ⟨b, off, y, rfl, -, hbl, hyk, e0, e1, e2⟩ := (hy.below hb hhi').at hjl
      have Hs := Lib.hid (map_take (inDict d) hyk)
      obtain ⟨k, hk, hkd⟩ := inDict_mem (hm y (mem_of_get hyk))
      clear hyk
      have dk : decide ((k : Int) < 0) = false := decide_eq_false (by omega)
      have hX := hx.below hb hhi
      have hup := up_a1 wr (.cells #[.int .i64 y.ty, .int .i64 y.n, .string y.s] 83)
      have hI := impl_InDict d y _ (wr.alloc (.cells #[.int .i64 y.ty, .int .i64 y.n, .string y.s] 83)) (hX.below hup (by omega)) (by have := hup.size; omega)
      rw [hk] at hI
      have HI := Lib.hid hI
      have HB := Lib.hid (below_go hb hup)
      replace Hown := Lib.hid (owns_below Hown.out hup)
      have hsz := hup.size
      have n0 := box_new wr #[.int .i64 y.ty, .int .i64 y.n, .string y.s] 83 0
      have n1 := box_new wr #[.int .i64 y.ty, .int .i64 y.n, .string y.s] 83 1
      have n2 := box_new wr #[.int .i64 y.ty, .int .i64 y.n, .string y.s] 83 2
      simp only [List.getElem?_toArray, List.getElem?_cons_zero, List.getElem?_cons_succ] at n0 n1 n2
      clear hI hX
      go_wp2_with fail
      obtain ⟨wb, hwb⟩ : ∃ wb, (wr.alloc (.cells #[.int .i64 y.ty, .int .i64 y.n, .string y.s] 83)) = wb := ⟨_, rfl⟩
      rw [hwb] at HI HB Hown hsz n0 n1 n2 hup ⊢
      clear hwb
      go_wp2_with fail
      refine HI.out.mono ?_
      rintro e w1 ⟨rfl, hb1⟩
      have HO1 := Lib.hid (owns_below Hown.out hb1)
      have HB1 := Lib.hid (below_go HB.out hb1)
      have hbs1 := HB1.out.size
      clear hb1 HI Hown HB
      go_wp2_with (at_builtin; refine wpl_app rfl _ _ 22 rfl w.heap.size 3 j0 _ 1 8 Tryz.underlying22 jif.out jz0.out jz1.out jz2.out rfl (by decide) (by decide) (HO1.out.alloc _) rfl (heap_alloc_new _ _) rfl rfl (by simp [Value.oneCell']) (by omega) (by simp; omega) ?_)
      intro v' w3 hown' hgrow hnb
      have HB3 := Lib.hid (Below.grown (HB1.out.alloc HB1.out.size _) hgrow (fun g hg => (HO1.out.lt g hg).1) (Nat.le_refl _))
      have HO3 := Lib.hid (show w3.ownsRow w.heap.size 3 1 v' (j + 1) ((q ++ [(k : Int)]).map (.int .i64)) by
        rw [List.map_append]
        exact hown')
      have HS2 := Lib.hid (show q ++ [(k : Int)] = (l.take (j + 1)).map (inDict d) by rw [Hs.out, hk, ← Hq.out])
      clear hown' hgrow hnb hk
      go_wp2_with fail
      go_roundw
      case rel => exact ⟨j + 1, q ++ [(k : Int)], Lib.hid ⟨by go_num, by omega, by rw [List.length_append, Hql.out]; rfl, HS2.out, HO3.out, HB3.out⟩⟩
      case measure => simp [intOf]; omega
    · obtain rfl : j = l.length := by omega
      have HE := Lib.hid (show l.map (inDict d) = q by rw [Hq.out, List.take_length])
      go_wp2_with fail
      refine bodyPost_ret (v := .tuple #[.slice Ao l.length co, .bool true]) (by simp [results, Tryz.results140, go_sem]) rfl ⟨_, rfl, ?_, hb⟩
      rw [HE.out, Hql.out]
      exact .new Hown.out
end Go.Proofs.YticimccfeohpcaaGreat
