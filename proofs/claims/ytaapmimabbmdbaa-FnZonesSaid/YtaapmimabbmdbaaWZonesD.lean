/- The law FnZones returns true for every input: the walk. -/
import Derived.Test.YtaapmimabbmdbaaD10
import Derived.Test.YtaapmimabbmdbaaZ2
import Derived.Test.YtaapmimabbmdbaaZ3
import Derived.Test.YtaapmimabbmdbaaS5
import Derived.Test.YtaapmimabbmdbaaS4
import Derived.Test.YtaapmimabbmdbaaS40
import Derived.Test.YtaapmimabbmdbaaS41
namespace Go.Lb
theorem any_take_succ {α : Type} {l : List α} {k : Nat} {x : α} {p : α → Bool} (h : l[k]? = some x) : (l.take (k + 1)).any p = ((l.take k).any p || p x) := by
  rw [take_of_get h, List.any_append]
  simp
theorem any_mem {l : List V} {y : V} (h : y ∈ l) : (l.take l.length).any (fun v => eqd v y) = true := by
  rw [List.take_length, List.any_eq_true]
  exact ⟨y, h, eqd_self y⟩
end Go.Lb
namespace Go.Proofs.Ytaapmimabbmdbaa
open Go.Sort Go.ChangeShapes Go.WideShapes Go.ChangeAt Go.RowKit Go.Lb

set_option maxRecDepth 20000 in
set_option maxHeartbeats 4000000 in
theorem wZones (code : List UInt8) (x : Value) (w : World) (hx : RdB w 0 w.heap.size x code) :
    Calls Try.prog 4 #[x] w fun e w' => e = .returned (.bool true) ∧ Below w.heap.size w w' := by
  go_enter Try.func4, Try.ntmps4
  go_wp2_with fail
  refine (law_big code _ w hx).mono ?_
  rintro e w1 ⟨rfl, rfl⟩
  by_cases hbg : 1048576 < (code.length : Int)
  · have hd := decide_eq_true hbg
    go_wp2_with fail
    go_ret
    exact ⟨rfl, Below.refl _ _⟩
  have hd := decide_eq_false hbg
  have hcl : code.length ≤ 1048576 := by omega
  go_wp2_with fail
  clear hbg hd
  refine (spec_DrawVals code _ w hx (Nat.le_refl _) hcl).mono ?_
  rintro e w1 ⟨_, l, rfl, hrd, hl0, hll, hsm, hb1⟩
  obtain ⟨A, c, rfl, -, -⟩ := hrd.form
  go_wp2_with fail
  refine (spec_DrawMayHold1 code _ w1 (hx.below hb1 (Nat.le_refl _)) hb1.size hcl).mono ?_
  rintro e w2 ⟨op, z, v, rfl, hb2⟩
  have hrd := (hrd.below hb2 (Nat.le_refl _)).more (Nat.le_refl _) hb2.size
  have hb2 := hb1.trans (hb2.mono hb1.size)
  clear hb1
  go_wp2_with fail
  have hz2 := hb2.size
  have up := up_a2 w2 (.cells #[.int .i64 z.lo.ty, .int .i64 z.lo.n, .string z.lo.s, .int .i64 z.hi.ty, .int .i64 z.hi.n, .string z.hi.s] 34) (.cells #[.int .i64 v.ty, .int .i64 v.n, .string v.s] 25)
  have B5 := heap_alloc_new w2 (.cells #[.int .i64 z.lo.ty, .int .i64 z.lo.n, .string z.lo.s, .int .i64 z.hi.ty, .int .i64 z.hi.n, .string z.hi.s] 34)
  have B5 := Lib.hid ((((Below.refl _ _).alloc (Nat.le_refl _) (.cells #[.int .i64 v.ty, .int .i64 v.n, .string v.s] 25)).block w2.heap.size (by simp)).trans B5)
  have B6 := heap_alloc_new (w2.alloc (.cells #[.int .i64 z.lo.ty, .int .i64 z.lo.n, .string z.lo.s, .int .i64 z.hi.ty, .int .i64 z.hi.n, .string z.hi.s] 34)) (.cells #[.int .i64 v.ty, .int .i64 v.n, .string v.s] 25)
  simp only [World.size_alloc] at B6
  have B6 := Lib.hid B6
  have hrd := (hrd.below up (Nat.le_refl _)).more (Nat.le_refl _) up.size
  have hb3 := hb2.trans (up.mono hz2)
  have hs : ((w2.alloc (.cells #[.int .i64 z.lo.ty, .int .i64 z.lo.n, .string z.lo.s, .int .i64 z.hi.ty, .int .i64 z.hi.n, .string z.hi.s] 34)).alloc (.cells #[.int .i64 v.ty, .int .i64 v.n, .string v.s] 25)).heap.size = w2.heap.size + 1 + 1 := by simp
  have hZ := impl_ZoneOf l _ _ hrd (Nat.le_refl _)
  generalize ((w2.alloc (.cells #[.int .i64 z.lo.ty, .int .i64 z.lo.n, .string z.lo.s, .int .i64 z.hi.ty, .int .i64 z.hi.n, .string z.hi.s] 34)).alloc (.cells #[.int .i64 v.ty, .int .i64 v.n, .string v.s] 25)) = w3 at *
  clear up hb2
  refine hZ.mono ?_
  clear hZ
  obtain ⟨y, hy⟩ : ∃ y, zoneOf l = y := ⟨_, rfl⟩
  rw [hy]
  rintro e w4 ⟨rfl, hb4⟩
  have B5 := Lib.hid ((hb4.block _ (by omega)).trans B5.out)
  have B6 := Lib.hid ((hb4.block _ (by omega)).trans B6.out)
  have hrd := (hrd.below hb4 (Nat.le_refl _)).more (Nat.le_refl _) hb4.size
  have hz4 := hb4.size
  have hb4 := hb3.trans (hb4.mono hb3.size)
  clear hb3
  go_wp2_with fail
  have B7 := Lib.hid (heap_alloc_new w4 (.cells #[.int .i64 y.lo.ty, .int .i64 y.lo.n, .string y.lo.s, .int .i64 y.hi.ty, .int .i64 y.hi.n, .string y.hi.s] 34))
  have B5 := Lib.hid (((up_a1 w4 (.cells #[.int .i64 y.lo.ty, .int .i64 y.lo.n, .string y.lo.s, .int .i64 y.hi.ty, .int .i64 y.hi.n, .string y.hi.s] 34)).block _ (by omega)).trans B5.out)
  have B6 := Lib.hid (((up_a1 w4 (.cells #[.int .i64 y.lo.ty, .int .i64 y.lo.n, .string y.lo.s, .int .i64 y.hi.ty, .int .i64 y.hi.n, .string y.hi.s] 34)).block _ (by omega)).trans B6.out)
  have hrd := (hrd.below (up_a1 w4 (.cells #[.int .i64 y.lo.ty, .int .i64 y.lo.n, .string y.lo.s, .int .i64 y.hi.ty, .int .i64 y.hi.n, .string y.hi.s] 34)) (Nat.le_refl _)).more (Nat.le_refl _) (up_a1 w4 (.cells #[.int .i64 y.lo.ty, .int .i64 y.lo.n, .string y.lo.s, .int .i64 y.hi.ty, .int .i64 y.hi.n, .string y.hi.s] 34)).size
  have hb5 := hb4.trans ((up_a1 w4 (.cells #[.int .i64 y.lo.ty, .int .i64 y.lo.n, .string y.lo.s, .int .i64 y.hi.ty, .int .i64 y.hi.n, .string y.hi.s] 34)).mono hb4.size)
  have hs5 : (w4.alloc (.cells #[.int .i64 y.lo.ty, .int .i64 y.lo.n, .string y.lo.s, .int .i64 y.hi.ty, .int .i64 y.hi.n, .string y.hi.s] 34)).heap.size = w4.heap.size + 1 := by simp
  have hD := spec_DrawInZone code _ _ (hx.below hb5 (Nat.le_refl _)) hb5.size hcl
  generalize (w4.alloc (.cells #[.int .i64 y.lo.ty, .int .i64 y.lo.n, .string y.lo.s, .int .i64 y.hi.ty, .int .i64 y.hi.n, .string y.hi.s] 34)) = w5 at *
  clear hb4
  refine hD.mono ?_
  clear hD
  rintro e w6 ⟨s, t, rfl, hb6⟩
  have B5 := Lib.hid ((hb6.block _ (by omega)).trans B5.out)
  have B6 := Lib.hid ((hb6.block _ (by omega)).trans B6.out)
  have B7 := Lib.hid ((hb6.block _ (by omega)).trans B7.out)
  have hrd := (hrd.below hb6 (Nat.le_refl _)).more (Nat.le_refl _) hb6.size
  have hz6 := hb6.size
  have hb6 := hb5.trans (hb6.mono hb5.size)
  clear hb5
  go_wp2_with fail
  have up := up_a2 w6 (.cells #[.int .i64 s.lo.ty, .int .i64 s.lo.n, .string s.lo.s, .int .i64 s.hi.ty, .int .i64 s.hi.n, .string s.hi.s] 34) (.cells #[.int .i64 t.ty, .int .i64 t.n, .string t.s] 25)
  have B8 := heap_alloc_new w6 (.cells #[.int .i64 s.lo.ty, .int .i64 s.lo.n, .string s.lo.s, .int .i64 s.hi.ty, .int .i64 s.hi.n, .string s.hi.s] 34)
  have B8 := Lib.hid ((((Below.refl _ _).alloc (Nat.le_refl _) (.cells #[.int .i64 t.ty, .int .i64 t.n, .string t.s] 25)).block w6.heap.size (by simp)).trans B8)
  have B9 := heap_alloc_new (w6.alloc (.cells #[.int .i64 s.lo.ty, .int .i64 s.lo.n, .string s.lo.s, .int .i64 s.hi.ty, .int .i64 s.hi.n, .string s.hi.s] 34)) (.cells #[.int .i64 t.ty, .int .i64 t.n, .string t.s] 25)
  simp only [World.size_alloc] at B9
  have B9 := Lib.hid B9
  have B5 := Lib.hid ((up.block _ (by omega)).trans B5.out)
  have B6 := Lib.hid ((up.block _ (by omega)).trans B6.out)
  have B7 := Lib.hid ((up.block _ (by omega)).trans B7.out)
  have hrd := (hrd.below up (Nat.le_refl _)).more (Nat.le_refl _) up.size
  have hs7 : ((w6.alloc (.cells #[.int .i64 s.lo.ty, .int .i64 s.lo.n, .string s.lo.s, .int .i64 s.hi.ty, .int .i64 s.hi.n, .string s.hi.s] 34)).alloc (.cells #[.int .i64 t.ty, .int .i64 t.n, .string t.s] 25)).heap.size = w6.heap.size + 1 + 1 := by simp
  have hb7 := hb6.trans (up.mono hb6.size)
  generalize ((w6.alloc (.cells #[.int .i64 s.lo.ty, .int .i64 s.lo.n, .string s.lo.s, .int .i64 s.hi.ty, .int .i64 s.hi.n, .string s.hi.s] 34)).alloc (.cells #[.int .i64 t.ty, .int .i64 t.n, .string t.s] 25)) = w7 at *
  clear up hb6 hx
  have hz7 := hb7.size
  have a0 := cell_of_row w7 (w2.heap.size) 0 _ _ _ B5.out
  have a1 := cell_of_row w7 (w2.heap.size) 1 _ _ _ B5.out
  have a2 := cell_of_row w7 (w2.heap.size) 2 _ _ _ B5.out
  have a3 := cell_of_row w7 (w2.heap.size) 3 _ _ _ B5.out
  have a4 := cell_of_row w7 (w2.heap.size) 4 _ _ _ B5.out
  have a5 := cell_of_row w7 (w2.heap.size) 5 _ _ _ B5.out
  have b0 := cell_of_row w7 (w2.heap.size + 1) 0 _ _ _ B6.out
  have b1 := cell_of_row w7 (w2.heap.size + 1) 1 _ _ _ B6.out
  have b2 := cell_of_row w7 (w2.heap.size + 1) 2 _ _ _ B6.out
  have c0 := cell_of_row w7 (w4.heap.size) 0 _ _ _ B7.out
  have c1 := cell_of_row w7 (w4.heap.size) 1 _ _ _ B7.out
  have c2 := cell_of_row w7 (w4.heap.size) 2 _ _ _ B7.out
  have c3 := cell_of_row w7 (w4.heap.size) 3 _ _ _ B7.out
  have c4 := cell_of_row w7 (w4.heap.size) 4 _ _ _ B7.out
  have c5 := cell_of_row w7 (w4.heap.size) 5 _ _ _ B7.out
  have d0 := cell_of_row w7 (w6.heap.size) 0 _ _ _ B8.out
  have d1 := cell_of_row w7 (w6.heap.size) 1 _ _ _ B8.out
  have d2 := cell_of_row w7 (w6.heap.size) 2 _ _ _ B8.out
  have d3 := cell_of_row w7 (w6.heap.size) 3 _ _ _ B8.out
  have d4 := cell_of_row w7 (w6.heap.size) 4 _ _ _ B8.out
  have d5 := cell_of_row w7 (w6.heap.size) 5 _ _ _ B8.out
  have f0 := cell_of_row w7 (w6.heap.size + 1) 0 _ _ _ B9.out
  have f1 := cell_of_row w7 (w6.heap.size + 1) 1 _ _ _ B9.out
  have f2 := cell_of_row w7 (w6.heap.size + 1) 2 _ _ _ B9.out
  simp only [List.getElem?_toArray, List.getElem?_cons_zero, List.getElem?_cons_succ] at a0 a1 a2 a3 a4 a5 b0 b1 b2 c0 c1 c2 c3 c4 c5 d0 d1 d2 d3 d4 d5 f0 f1 f2
  have hC : ∀ w', Below w7.heap.size w7 w' → Calls Try.prog 18 #[.slice A l.length c] w' fun e w'' => e = .returned (.agg #[.int .i64 y.lo.ty, .int .i64 y.lo.n, .string y.lo.s, .int .i64 y.hi.ty, .int .i64 y.hi.n, .string y.hi.s]) ∧ Below w'.heap.size w' w'' := fun w' hb => hy ▸ spec_ZoneOf l _ w' (hrd.below hb (Nat.le_refl _)) hb.size
  have hC := Lib.hid hC
  have hQ := neqZ_self y
  have Hrd := Lib.hid hrd
  have Hsm := Lib.hid hsm
  clear hrd hsm
  have Hy := Lib.hid hy
  clear hy
  have q_0 := cell_regrown (w := w7) a0
  have q_1 := cell_regrown (w := w7) a1
  have q_2 := cell_regrown (w := w7) a2
  have q_3 := cell_regrown (w := w7) a3
  have q_4 := cell_regrown (w := w7) a4
  have q_5 := cell_regrown (w := w7) a5
  have q_6 := cell_regrown (w := w7) b0
  have q_7 := cell_regrown (w := w7) b1
  have q_8 := cell_regrown (w := w7) b2
  have q_9 := cell_regrown (w := w7) c0
  have q_10 := cell_regrown (w := w7) c1
  have q_11 := cell_regrown (w := w7) c2
  have q_12 := cell_regrown (w := w7) c3
  have q_13 := cell_regrown (w := w7) c4
  have q_14 := cell_regrown (w := w7) c5
  have q_15 := cell_regrown (w := w7) d0
  have q_16 := cell_regrown (w := w7) d1
  have q_17 := cell_regrown (w := w7) d2
  have q_18 := cell_regrown (w := w7) d3
  have q_19 := cell_regrown (w := w7) d4
  have q_20 := cell_regrown (w := w7) d5
  have q_21 := cell_regrown (w := w7) f0
  have q_22 := cell_regrown (w := w7) f1
  have q_23 := cell_regrown (w := w7) f2
  refine wp_region_quiet_below (by kernel_rfl) (by kernel_rfl) ?_
  repeat (go_big_quiet_step (first | (go_at_call 18; exact Calls.regrown_of (hC.out _ (below_regrown _ _ _))) | (go_at_call 19; exact Calls.regrown_of (impl_MayHold1 op z v _)) | (go_at_call 20; exact Calls.regrown_of (spec_MayHold1 op z v _)) | (go_at_call 21; exact Calls.regrown_of (impl_InZone s t _)) | (go_at_call 22; exact Calls.regrown_of (spec_InZone s t _))))
  refine wpQuiet_nil ?_
  intro wq hw'
  obtain ⟨⟨dq, osq⟩, hw''⟩ := hw'
  have hbq := below_regrown w7 dq osq
  rw [← hw''] at hbq
  clear hw''
  clear q_0 q_1 q_2 q_3 q_4 q_5 q_6 q_7 q_8 q_9 q_10 q_11 q_12 q_13 q_14 q_15 q_16 q_17 q_18 q_19 q_20 q_21 q_22 q_23
  rename World => w8
  have B5 := Lib.hid ((hbq.block _ (by omega)).trans B5.out)
  have B6 := Lib.hid ((hbq.block _ (by omega)).trans B6.out)
  have B7 := Lib.hid ((hbq.block _ (by omega)).trans B7.out)
  have hrd := (Hrd.out.below hbq (Nat.le_refl _)).more (Nat.le_refl _) hbq.size
  have hb8 := Lib.hid (hb7.trans (hbq.mono hb7.size))
  have hz8 := hbq.size
  clear hbq Hrd a0 a1 a2 a3 a4 a5 b0 b1 b2 c0 c1 c2 c3 c4 c5 d0 d1 d2 d3 d4 d5 f0 f1 f2 hQ
  go_wp2_with fail
  go_loopw [10, 11, 12] (fun p q i wr => ∃ k : Nat, i = .int .i64 k ∧ k ≤ l.length ∧ p = .bool ((l.take k).any fun u => eqd u y.lo) ∧ q = .bool ((l.take k).any fun u => eqd u y.hi) ∧ Below w8.heap.size w8 wr) (fun _ _ i _ => l.length - (intOf i).toNat)
  case atStart => exact ⟨0, rfl, Nat.zero_le _, by simp, by simp, Below.refl _ _⟩
  case round =>
    obtain ⟨k, rfl, hk, rfl, rfl, hb⟩ := hrel
    have hzr := hb.size
    by_cases hkl : k < l.length
    · obtain ⟨b, off, u, rfl, -, hbl, huk, e0, e1, e2⟩ := (hrd.below hb (Nat.le_refl _)).at hkl
      have hmem := mem_of_get huk
      have hz : inZone y u = true := Hy.out ▸ zone_in hmem
      have hle : le y.lo u ∧ le u y.hi := Hy.out ▸ zone_le hmem
      obtain ⟨h, hh⟩ : ∃ h, holds1 op u v = h := ⟨_, rfl⟩
      obtain ⟨m, hm⟩ : ∃ m, mayHold1 op y v = m := ⟨_, rfl⟩
      have hmm : h = true → m = true := fun h1 => hm ▸ may_of_holds hle.1 hle.2 (hh.trans h1)
      have HP := Lib.hid (any_take_succ (p := fun u => eqd u y.lo) huk)
      have HQ := Lib.hid (any_take_succ (p := fun u => eqd u y.hi) huk)
      have hI : ∀ w, Calls Try.prog 21 #[.agg #[.int .i64 y.lo.ty, .int .i64 y.lo.n, .string y.lo.s, .int .i64 y.hi.ty, .int .i64 y.hi.n, .string y.hi.s], .agg #[.int .i64 u.ty, .int .i64 u.n, .string u.s]] w fun e w' => e = .returned (.bool true) ∧ Below w.heap.size w w' := fun w => hz ▸ impl_InZone y u w
      have hH : ∀ w, Calls Try.prog 12 #[.int .i64 op, .agg #[.int .i64 u.ty, .int .i64 u.n, .string u.s], .agg #[.int .i64 v.ty, .int .i64 v.n, .string v.s]] w fun e w' => e = .returned (.bool h) ∧ Below w.heap.size w w' := fun w => hh ▸ impl_Holds1 op u v w
      have hM : ∀ w, Calls Try.prog 19 #[.int .i64 op, .agg #[.int .i64 y.lo.ty, .int .i64 y.lo.n, .string y.lo.s, .int .i64 y.hi.ty, .int .i64 y.hi.n, .string y.hi.s], .agg #[.int .i64 v.ty, .int .i64 v.n, .string v.s]] w fun e w' => e = .returned (.bool m) ∧ Below w.heap.size w w' := fun w => hm ▸ impl_MayHold1 op y v w
      have hI := Lib.hid hI
      have hH := Lib.hid hH
      have hM := Lib.hid hM
      have hE1 := eql_V u y.lo
      have hE2 := eql_V u y.hi
      clear hz hle hh hm hmem huk
      have C6 := Lib.hid ((hb.block _ (by omega)).trans B6.out)
      have C7 := Lib.hid ((hb.block _ (by omega)).trans B7.out)
      have b0 := cell_of_row wr (w2.heap.size + 1) 0 _ _ _ C6.out
      have b1 := cell_of_row wr (w2.heap.size + 1) 1 _ _ _ C6.out
      have b2 := cell_of_row wr (w2.heap.size + 1) 2 _ _ _ C6.out
      have c0 := cell_of_row wr (w4.heap.size) 0 _ _ _ C7.out
      have c1 := cell_of_row wr (w4.heap.size) 1 _ _ _ C7.out
      have c2 := cell_of_row wr (w4.heap.size) 2 _ _ _ C7.out
      have c3 := cell_of_row wr (w4.heap.size) 3 _ _ _ C7.out
      have c4 := cell_of_row wr (w4.heap.size) 4 _ _ _ C7.out
      have c5 := cell_of_row wr (w4.heap.size) 5 _ _ _ C7.out
      simp only [List.getElem?_toArray, List.getElem?_cons_zero, List.getElem?_cons_succ] at b0 b1 b2 c0 c1 c2 c3 c4 c5
      generalize (l.take k).any (fun u => eqd u y.lo) = P at *
      generalize (l.take k).any (fun u => eqd u y.hi) = Q at *
      cases P <;> cases Q <;> cases h
      all_goals try (obtain rfl := hmm rfl)
      all_goals
        clear hmm
        go_wp2_with fail
        have q_0 := cell_regrown (w := wr) e0
        have q_1 := cell_regrown (w := wr) e1
        have q_2 := cell_regrown (w := wr) e2
        have q_3 := cell_regrown (w := wr) b0
        have q_4 := cell_regrown (w := wr) b1
        have q_5 := cell_regrown (w := wr) b2
        have q_6 := cell_regrown (w := wr) c0
        have q_7 := cell_regrown (w := wr) c1
        have q_8 := cell_regrown (w := wr) c2
        have q_9 := cell_regrown (w := wr) c3
        have q_10 := cell_regrown (w := wr) c4
        have q_11 := cell_regrown (w := wr) c5
        refine wp_region_quiet_below (by kernel_rfl) (by kernel_rfl) ?_
        repeat (go_big_quiet_step (first | (go_at_call 21; exact Calls.regrown_of (hI.out _)) | (go_at_call 12; exact Calls.regrown_of (hH.out _)) | (go_at_call 19; exact Calls.regrown_of (hM.out _))))
        refine wpQuiet_nil ?_
        intro wq hw'
        obtain ⟨⟨dq, osq⟩, hw''⟩ := hw'
        have hbq := below_regrown wr dq osq
        rw [← hw''] at hbq
        clear hw''
        clear q_0 q_1 q_2 q_3 q_4 q_5 q_6 q_7 q_8 q_9 q_10 q_11
        rename World => v1
        have hb' := hb.trans (hbq.mono hb.size)
        have C6 := Lib.hid ((hbq.block _ (by omega)).trans C6.out)
        have C7 := Lib.hid ((hbq.block _ (by omega)).trans C7.out)
        have e0 := (hbq.cell (p := ⟨b, off + k * 3, none⟩) (by show b < _; omega)).trans e0
        have e1 := (hbq.cell (p := ⟨b, off + k * 3 + 1, none⟩) (by show b < _; omega)).trans e1
        have e2 := (hbq.cell (p := ⟨b, off + k * 3 + 2, none⟩) (by show b < _; omega)).trans e2
        have hzv := hbq.size
        clear b0 b1 b2 c0 c1 c2 c3 c4 c5 hbq
        have c0 := cell_of_row v1 (w4.heap.size) 0 _ _ _ C7.out
        have c1 := cell_of_row v1 (w4.heap.size) 1 _ _ _ C7.out
        have c2 := cell_of_row v1 (w4.heap.size) 2 _ _ _ C7.out
        have c3 := cell_of_row v1 (w4.heap.size) 3 _ _ _ C7.out
        have c4 := cell_of_row v1 (w4.heap.size) 4 _ _ _ C7.out
        have c5 := cell_of_row v1 (w4.heap.size) 5 _ _ _ C7.out
        simp only [List.getElem?_toArray, List.getElem?_cons_zero, List.getElem?_cons_succ] at c0 c1 c2 c3 c4 c5
        go_wp2_with fail
        have q_0 := cell_regrown (w := v1) e0
        have q_1 := cell_regrown (w := v1) e1
        have q_2 := cell_regrown (w := v1) e2
        have q_3 := cell_regrown (w := v1) c0
        have q_4 := cell_regrown (w := v1) c1
        have q_5 := cell_regrown (w := v1) c2
        have q_6 := cell_regrown (w := v1) c3
        have q_7 := cell_regrown (w := v1) c4
        have q_8 := cell_regrown (w := v1) c5
        refine wp_region_quiet_below (by kernel_rfl) (by kernel_rfl) ?_
        repeat (go_big_quiet_step (fail))
        refine wpQuiet_nil ?_
        intro wq hw'
        obtain ⟨⟨dq, osq⟩, hw''⟩ := hw'
        have hbq := below_regrown v1 dq osq
        rw [← hw''] at hbq
        clear hw''
        clear q_0 q_1 q_2 q_3 q_4 q_5 q_6 q_7 q_8
        rename World => v2
        have hb' := hb'.trans (hbq.mono hb'.size)
        have C7 := Lib.hid ((hbq.block _ (by omega)).trans C7.out)
        have e0 := (hbq.cell (p := ⟨b, off + k * 3, none⟩) (by show b < _; omega)).trans e0
        have e1 := (hbq.cell (p := ⟨b, off + k * 3 + 1, none⟩) (by show b < _; omega)).trans e1
        have e2 := (hbq.cell (p := ⟨b, off + k * 3 + 2, none⟩) (by show b < _; omega)).trans e2
        clear c0 c1 c2 c3 c4 c5 hbq
        have c0 := cell_of_row v2 (w4.heap.size) 0 _ _ _ C7.out
        have c1 := cell_of_row v2 (w4.heap.size) 1 _ _ _ C7.out
        have c2 := cell_of_row v2 (w4.heap.size) 2 _ _ _ C7.out
        have c3 := cell_of_row v2 (w4.heap.size) 3 _ _ _ C7.out
        have c4 := cell_of_row v2 (w4.heap.size) 4 _ _ _ C7.out
        have c5 := cell_of_row v2 (w4.heap.size) 5 _ _ _ C7.out
        simp only [List.getElem?_toArray, List.getElem?_cons_zero, List.getElem?_cons_succ] at c0 c1 c2 c3 c4 c5
        go_wp2_with fail
        have q_0 := cell_regrown (w := v2) e0
        have q_1 := cell_regrown (w := v2) e1
        have q_2 := cell_regrown (w := v2) e2
        have q_3 := cell_regrown (w := v2) c0
        have q_4 := cell_regrown (w := v2) c1
        have q_5 := cell_regrown (w := v2) c2
        have q_6 := cell_regrown (w := v2) c3
        have q_7 := cell_regrown (w := v2) c4
        have q_8 := cell_regrown (w := v2) c5
        refine wp_region_quiet_below (by kernel_rfl) (by kernel_rfl) ?_
        repeat (go_big_quiet_step (fail))
        refine wpQuiet_nil ?_
        intro wq hw'
        obtain ⟨⟨dq, osq⟩, hw''⟩ := hw'
        have hbq := below_regrown v2 dq osq
        rw [← hw''] at hbq
        clear hw''
        clear q_0 q_1 q_2 q_3 q_4 q_5 q_6 q_7 q_8
        rename World => v3
        have hb' := hb'.trans (hbq.mono hb'.size)
        clear c0 c1 c2 c3 c4 c5 hbq
        go_wp2_with fail
        go_roundw
        case rel => exact ⟨k + 1, by go_num, by omega, by rw [HP.out]; simp, by rw [HQ.out]; simp, hb'⟩
        case measure => simp [intOf]; omega
    · obtain rfl : k = l.length := by omega
      have hne : l ≠ [] := by rintro rfl; simp at hl0
      obtain ⟨m1, m2⟩ := zone_mem hne
      rw [Hy.out] at m1 m2
      rw [any_mem m1, any_mem m2]
      clear m1 m2
      go_wp2_with fail
      go_ret
      exact ⟨rfl, hb8.out.trans (hb.mono hb8.out.size)⟩
end Go.Proofs.Ytaapmimabbmdbaa
