/- The law FnOps returns true for every input: the walk. -/
import Derived.Test.YtaapmimabbmdbaaD6
import Derived.Test.YtaapmimabbmdbaaS4
import Derived.Test.YtaapmimabbmdbaaS6
import Derived.Test.YtaapmimabbmdbaaS39
import Derived.Test.YtaapmimabbmdbaaS40
namespace Go.Lb
theorem ops_out {op : Int} (h : op < 1 ∨ 6 < op) (a b : V) : opposite op = 0 ∧ holds1 op a b = false := by
  unfold opposite holds1
  iterate 6 rw [if_neg (by omega)]
  iterate 6 rw [if_neg (by omega)]
  exact ⟨rfl, rfl⟩
theorem ops_in {op : Int} (h1 : 1 ≤ op) (h2 : op ≤ 6) (a b : V) : opposite (opposite op) = op ∧ (holds1 op a b != holds1 (opposite op) a b) = true := by
  obtain rfl | rfl | rfl | rfl | rfl | rfl : op = 1 ∨ op = 2 ∨ op = 3 ∨ op = 4 ∨ op = 5 ∨ op = 6 := by omega
  all_goals
    simp [opposite, holds1]
end Go.Lb
namespace Go.Proofs.Ytaapmimabbmdbaa
open Go.Sort Go.ChangeShapes Go.WideShapes Go.ChangeAt Go.RowKit Go.Lb

set_option maxRecDepth 20000 in
set_option maxHeartbeats 4000000 in
theorem wOps (code : List UInt8) (x : Value) (w : World) (hx : RdB w 0 w.heap.size x code) :
    Calls Try.prog 3 #[x] w fun e w' => e = .returned (.bool true) ∧ Below w.heap.size w w' := by
  go_enter Try.func3, Try.ntmps3
  go_wp2_with fail
  refine (law_big code _ w hx).mono ?_
  rintro e w1 ⟨rfl, rfl⟩
  by_cases hbg : 1048576 < (code.length : Int)
  · have hd := decide_eq_true hbg
    go_wp2_with fail
    go_ret
    exact ⟨rfl, Below.refl _ _⟩
  have hd := decide_eq_false hbg
  go_wp2_with fail
  refine (spec_DrawHolds1 code _ w hx (Nat.le_refl _) (by omega)).mono ?_
  rintro e w1 ⟨op, a, b, rfl, -, -, hb1⟩
  clear hbg hd
  go_wp2_with fail
  have hz1 := hb1.size
  have up := up_a2 w1 (.cells #[.int .i64 a.ty, .int .i64 a.n, .string a.s] 25) (.cells #[.int .i64 b.ty, .int .i64 b.n, .string b.s] 25)
  have G0 := heap_alloc_new w1 (.cells #[.int .i64 a.ty, .int .i64 a.n, .string a.s] 25)
  have G0 := ((((Below.refl _ _).alloc (Nat.le_refl _) (.cells #[.int .i64 b.ty, .int .i64 b.n, .string b.s] 25)).block w1.heap.size (by simp)).trans G0)
  have G1 := heap_alloc_new (w1.alloc (.cells #[.int .i64 a.ty, .int .i64 a.n, .string a.s] 25)) (.cells #[.int .i64 b.ty, .int .i64 b.n, .string b.s] 25)
  have hs : ((w1.alloc (.cells #[.int .i64 a.ty, .int .i64 a.n, .string a.s] 25)).alloc (.cells #[.int .i64 b.ty, .int .i64 b.n, .string b.s] 25)).heap.size = w1.heap.size + 1 + 1 := by simp
  simp only [World.size_alloc] at G1
  have hC := impl_Opposite op ((w1.alloc (.cells #[.int .i64 a.ty, .int .i64 a.n, .string a.s] 25)).alloc (.cells #[.int .i64 b.ty, .int .i64 b.n, .string b.s] 25))
  generalize ((w1.alloc (.cells #[.int .i64 a.ty, .int .i64 a.n, .string a.s] 25)).alloc (.cells #[.int .i64 b.ty, .int .i64 b.n, .string b.s] 25)) = W0 at *
  refine hC.mono ?_
  clear hC
  rintro e w2 ⟨rfl, hb2⟩
  rw [hs] at hb2
  have R0 := (hb2.block w1.heap.size (by omega)).trans G0
  have R1 := (hb2.block (w1.heap.size + 1) (by omega)).trans G1
  have r0 := cell_of_row w2 w1.heap.size 0 _ _ _ R0
  have r1 := cell_of_row w2 w1.heap.size 1 _ _ _ R0
  have r2 := cell_of_row w2 w1.heap.size 2 _ _ _ R0
  have s0 := cell_of_row w2 (w1.heap.size + 1) 0 _ _ _ R1
  have s1 := cell_of_row w2 (w1.heap.size + 1) 1 _ _ _ R1
  have s2 := cell_of_row w2 (w1.heap.size + 1) 2 _ _ _ R1
  simp only [List.getElem?_toArray, List.getElem?_cons_zero, List.getElem?_cons_succ] at r0 r1 r2 s0 s1 s2
  have hb := Lib.hid ((hb1.trans (up.mono hz1)).trans (hb2.mono (show w.heap.size ≤ _ by omega)))
  have H2 := Lib.hid R0
  have H3 := Lib.hid R1
  have hz2 := hb2.size
  clear hb1 hb2 up R0 R1 G0 G1 hx
  go_wp2_with fail
  have q_0 := cell_regrown (w := w2) r0
  have q_1 := cell_regrown (w := w2) r1
  have q_2 := cell_regrown (w := w2) r2
  have q_3 := cell_regrown (w := w2) s0
  have q_4 := cell_regrown (w := w2) s1
  have q_5 := cell_regrown (w := w2) s2
  refine wp_region_quiet_below (by kernel_rfl) (by kernel_rfl) ?_
  repeat (go_big_quiet_step (first | (go_at_call 9; exact Calls.regrown_of (spec_Opposite op _)) | (go_at_call 10; exact Calls.regrown_of (impl_OpText op _)) | (go_at_call 11; exact Calls.regrown_of (spec_OpText op _)) | (go_at_call 12; exact Calls.regrown_of (impl_Holds1 op a b _)) | (go_at_call 13; exact Calls.regrown_of (spec_Holds1 op a b _))))
  refine wpQuiet_nil ?_
  intro wq hw'
  obtain ⟨⟨dq, osq⟩, hw''⟩ := hw'
  have hbq := below_regrown w2 dq osq
  rw [← hw''] at hbq
  clear hw''
  clear q_0 q_1 q_2 q_3 q_4 q_5
  rename World => w3
  have R0 := (hbq.block w1.heap.size (by omega)).trans H2.out
  have R1 := (hbq.block (w1.heap.size + 1) (by omega)).trans H3.out
  have hb3 := Lib.hid (hb.out.trans (hbq.mono hb.out.size))
  clear hb H2 H3 r0 r1 r2 s0 s1 s2 hbq
  have r0 := cell_of_row w3 w1.heap.size 0 _ _ _ R0
  have r1 := cell_of_row w3 w1.heap.size 1 _ _ _ R0
  have r2 := cell_of_row w3 w1.heap.size 2 _ _ _ R0
  have s0 := cell_of_row w3 (w1.heap.size + 1) 0 _ _ _ R1
  have s1 := cell_of_row w3 (w1.heap.size + 1) 1 _ _ _ R1
  have s2 := cell_of_row w3 (w1.heap.size + 1) 2 _ _ _ R1
  simp only [List.getElem?_toArray, List.getElem?_cons_zero, List.getElem?_cons_succ] at r0 r1 r2 s0 s1 s2
  clear R0 R1
  generalize hN : opposite op = N
  by_cases hr : op < 1 ∨ 6 < op
  · obtain ⟨ho, hh⟩ := ops_out hr a b
    rw [ho] at hN
    subst hN
    clear ho
    by_cases h1 : op < 1
    · have d1 := decide_eq_true h1
      clear hr h1
      go_wp2_with fail
      refine (impl_Holds1 op a b _).mono ?_
      rintro e w4 ⟨rfl, hb4⟩
      rw [hh]
      go_wp2_with fail
      go_ret
      exact ⟨rfl, hb3.out.trans (hb4.mono hb3.out.size)⟩
    · have h2 : 6 < op := by omega
      have d1 := decide_eq_false h1
      have d2 := decide_eq_true h2
      clear hr h1 h2
      go_wp2_with fail
      refine (impl_Holds1 op a b _).mono ?_
      rintro e w4 ⟨rfl, hb4⟩
      rw [hh]
      go_wp2_with fail
      go_ret
      exact ⟨rfl, hb3.out.trans (hb4.mono hb3.out.size)⟩
  · obtain ⟨ho, hh⟩ := ops_in (op := op) (by omega) (by omega) a b
    rw [hN] at ho hh
    have d1 := decide_eq_false (show ¬ op < 1 by omega)
    have d2 := decide_eq_false (show ¬ 6 < op by omega)
    clear hr hN
    go_wp2_with fail
    have hC : ∀ w, Calls Try.prog 8 #[.int .i64 N] w fun e w' => e = .returned (.int .i64 op) ∧ Below w.heap.size w w' := fun w => ho ▸ impl_Opposite N w
    have hC := Lib.hid hC
    clear ho
    have q_0 := cell_regrown (w := w3) r0
    have q_1 := cell_regrown (w := w3) r1
    have q_2 := cell_regrown (w := w3) r2
    have q_3 := cell_regrown (w := w3) s0
    have q_4 := cell_regrown (w := w3) s1
    have q_5 := cell_regrown (w := w3) s2
    refine wp_region_quiet_below (by kernel_rfl) (by kernel_rfl) ?_
    repeat (go_big_quiet_step (first | (go_at_call 8; exact Calls.regrown_of (hC.out _)) | (go_at_call 12; exact Calls.regrown_of (impl_Holds1 _ a b _))))
    refine wpQuiet_nil ?_
    intro wq hw'
    obtain ⟨⟨dq, osq⟩, hw''⟩ := hw'
    have hbq := below_regrown w3 dq osq
    rw [← hw''] at hbq
    clear hw''
    clear q_0 q_1 q_2 q_3 q_4 q_5
    go_wp2_with fail
    go_ret
    exact ⟨ret_bool hh, hb3.out.trans (hbq.mono hb3.out.size)⟩
end Go.Proofs.Ytaapmimabbmdbaa
