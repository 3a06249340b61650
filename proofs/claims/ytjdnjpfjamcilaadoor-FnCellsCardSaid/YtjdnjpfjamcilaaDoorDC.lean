/- Cells: claims, stamps, lives: contracts; draws of them. -/
import Derived.Test.YtjdnjpfjamcilaaDoorXD
namespace Go.Lb
def claimV (n : Int) : Int × Bool := if n = 0 then (-1, true) else (n, false)
def stampV (n s : Int) : Int × Bool := if n = -1 ∧ 0 < s then (s, true) else (n, false)
def cameV (n ts : Int) : Bool := decide (1 ≤ n) && decide (n ≤ ts)
end Go.Lb
namespace Go.Proofs.YtjdnjpfjamcilaaDoor
open Go.Sort Go.ChangeShapes Go.WideShapes Go.ChangeAt Go.RowKit Go.Lb
theorem ret_tup {a b : Int} {c d : Bool} (h : (a, c) = (b, d)) : Ending.returned (.tuple #[.int .i64 a, .bool c]) = .returned (.tuple #[.int .i64 b, .bool d]) := by
  injection h with h1 h2
  rw [h1, h2]
theorem q_spec_Claim (n : Int) (w : World) : Calls Tryd.prog 12 #[.int .i64 n] w fun e w' => e = .returned (.tuple #[.int .i64 (claimV n).1, .bool (claimV n).2]) ∧ w = w' := by
  by_cases hn : n = 0
  · subst hn
    go_enter Tryd.func12, Tryd.ntmps12
    go_wp2_with fail
    exact bodyPost_ret (v := .tuple #[.int .i64 (-1), .bool true]) (by simp [results, Tryd.results12, go_sem]) rfl ⟨rfl, rfl⟩
  · have b0 : (n == 0) = false := by simp [hn]
    have b1 : (n != 0) = true := by simp [hn]
    have H := Lib.hid (show claimV n = (n, false) by rw [claimV, if_neg hn])
    clear hn
    go_enter Tryd.func12, Tryd.ntmps12
    go_wp2_with fail
    refine bodyPost_ret (v := .tuple #[.int .i64 n, .bool false]) (by simp [results, Tryd.results12, go_sem]) rfl ⟨?_, rfl⟩
    rw [H.out]
theorem q_spec_Stamp (n s : Int) (w : World) : Calls Tryd.prog 14 #[.int .i64 n, .int .i64 s] w fun e w' => e = .returned (.tuple #[.int .i64 (stampV n s).1, .bool (stampV n s).2]) ∧ w = w' := by
  by_cases hn : n = -1
  · have b0 : (n == -1) = true := by simp [hn]
    have b1 : (n != -1) = false := by simp [hn]
    by_cases hs : 0 < s
    · have d0 : decide (0 < s) = true := decide_eq_true hs
      have d1 : decide (s < 1) = false := decide_eq_false (by omega)
      have H := Lib.hid (show stampV n s = (s, true) by rw [stampV, if_pos ⟨hn, hs⟩])
      clear hn hs
      go_enter Tryd.func14, Tryd.ntmps14
      go_wp2_with fail
      all_goals first | (exfalso; simp at d0 d1; omega) | skip
      refine bodyPost_ret (v := .tuple #[.int .i64 s, .bool true]) (by simp [results, Tryd.results14, go_sem]) rfl ⟨?_, rfl⟩
      rw [H.out]
    · have d0 : decide (0 < s) = false := decide_eq_false hs
      have d1 : decide (s < 1) = true := decide_eq_true (by omega)
      have H := Lib.hid (show stampV n s = (n, false) by rw [stampV, if_neg (fun h => hs h.2)])
      clear hn hs
      go_enter Tryd.func14, Tryd.ntmps14
      go_wp2_with fail
      all_goals first | (exfalso; simp at d0 d1; omega) | skip
      refine bodyPost_ret (v := .tuple #[.int .i64 n, .bool false]) (by simp [results, Tryd.results14, go_sem]) rfl ⟨?_, rfl⟩
      rw [H.out]
  · have b0 : (n == -1) = false := by simp [hn]
    have b1 : (n != -1) = true := by simp [hn]
    have H := Lib.hid (show stampV n s = (n, false) by rw [stampV, if_neg (fun h => hn h.1)])
    clear hn
    go_enter Tryd.func14, Tryd.ntmps14
    go_wp2_with fail
    refine bodyPost_ret (v := .tuple #[.int .i64 n, .bool false]) (by simp [results, Tryd.results14, go_sem]) rfl ⟨?_, rfl⟩
    rw [H.out]
theorem q_spec_CellOk (n : Int) (w : World) : Calls Tryd.prog 18 #[.int .i64 n] w fun e w' => e = .returned (.bool (decide (-1 ≤ n))) ∧ w = w' := by
  go_enter Tryd.func18, Tryd.ntmps18
  go_wp2_with fail
  go_ret
  exact ⟨by simp, rfl⟩
theorem q_spec_NeedsHelp (n : Int) (w : World) : Calls Tryd.prog 20 #[.int .i64 n] w fun e w' => e = .returned (.bool (n == -1)) ∧ w = w' := by
  go_enter Tryd.func20, Tryd.ntmps20
  go_wp2_with fail
  go_ret
  exact ⟨by simp, rfl⟩
theorem q_impl_Claim (n : Int) (w : World) : Calls Tryd.prog 11 #[.int .i64 n] w fun e w' => e = .returned (.tuple #[.int .i64 (claimV n).1, .bool (claimV n).2]) ∧ w = w' := by
  by_cases hn : n = 0
  · subst hn
    go_enter Tryd.func11, Tryd.ntmps11
    go_wp2_with fail
    exact bodyPost_ret (v := .tuple #[.int .i64 (-1), .bool true]) (by simp [results, Tryd.results11, go_sem]) rfl ⟨rfl, rfl⟩
  · have b0 : (n == 0) = false := by simp [hn]
    have b1 : (n != 0) = true := by simp [hn]
    have H := Lib.hid (show claimV n = (n, false) by rw [claimV, if_neg hn])
    clear hn
    go_enter Tryd.func11, Tryd.ntmps11
    go_wp2_with fail
    refine bodyPost_ret (v := .tuple #[.int .i64 n, .bool false]) (by simp [results, Tryd.results11, go_sem]) rfl ⟨?_, rfl⟩
    rw [H.out]
theorem q_impl_Stamp (n s : Int) (w : World) : Calls Tryd.prog 13 #[.int .i64 n, .int .i64 s] w fun e w' => e = .returned (.tuple #[.int .i64 (stampV n s).1, .bool (stampV n s).2]) ∧ w = w' := by
  by_cases hn : n = -1
  · have b0 : (n == -1) = true := by simp [hn]
    have b1 : (n != -1) = false := by simp [hn]
    by_cases hs : 0 < s
    · have d0 : decide (0 < s) = true := decide_eq_true hs
      have d1 : decide (s < 1) = false := decide_eq_false (by omega)
      have H := Lib.hid (show stampV n s = (s, true) by rw [stampV, if_pos ⟨hn, hs⟩])
      clear hn hs
      go_enter Tryd.func13, Tryd.ntmps13
      go_wp2_with fail
      all_goals first | (exfalso; simp at d0 d1; omega) | skip
      refine bodyPost_ret (v := .tuple #[.int .i64 s, .bool true]) (by simp [results, Tryd.results13, go_sem]) rfl ⟨?_, rfl⟩
      rw [H.out]
    · have d0 : decide (0 < s) = false := decide_eq_false hs
      have d1 : decide (s < 1) = true := decide_eq_true (by omega)
      have H := Lib.hid (show stampV n s = (n, false) by rw [stampV, if_neg (fun h => hs h.2)])
      clear hn hs
      go_enter Tryd.func13, Tryd.ntmps13
      go_wp2_with fail
      all_goals first | (exfalso; simp at d0 d1; omega) | skip
      refine bodyPost_ret (v := .tuple #[.int .i64 n, .bool false]) (by simp [results, Tryd.results13, go_sem]) rfl ⟨?_, rfl⟩
      rw [H.out]
  · have b0 : (n == -1) = false := by simp [hn]
    have b1 : (n != -1) = true := by simp [hn]
    have H := Lib.hid (show stampV n s = (n, false) by rw [stampV, if_neg (fun h => hn h.1)])
    clear hn
    go_enter Tryd.func13, Tryd.ntmps13
    go_wp2_with fail
    refine bodyPost_ret (v := .tuple #[.int .i64 n, .bool false]) (by simp [results, Tryd.results13, go_sem]) rfl ⟨?_, rfl⟩
    rw [H.out]
theorem q_impl_CellOk (n : Int) (w : World) : Calls Tryd.prog 17 #[.int .i64 n] w fun e w' => e = .returned (.bool (decide (-1 ≤ n))) ∧ w = w' := by
  go_enter Tryd.func17, Tryd.ntmps17
  go_wp2_with fail
  go_ret
  exact ⟨by simp, rfl⟩
theorem q_impl_NeedsHelp (n : Int) (w : World) : Calls Tryd.prog 19 #[.int .i64 n] w fun e w' => e = .returned (.bool (n == -1)) ∧ w = w' := by
  go_enter Tryd.func19, Tryd.ntmps19
  go_wp2_with fail
  go_ret
  exact ⟨by simp, rfl⟩
theorem q_impl_Came (n ts : Int) (w : World) : Calls Tryd.prog 21 #[.int .i64 n, .int .i64 ts] w fun e w' => e = .returned (.bool (cameV n ts)) ∧ w = w' := by
  by_cases h : 1 ≤ n
  · have d0 : decide (1 ≤ n) = true := decide_eq_true h
    have H := Lib.hid (show cameV n ts = decide (n ≤ ts) by rw [cameV, d0]; rfl)
    clear h
    go_enter Tryd.func21, Tryd.ntmps21
    go_wp2_with fail
    go_ret
    exact ⟨by rw [H.out]; simp, rfl⟩
  · have d0 : decide (1 ≤ n) = false := decide_eq_false h
    have H := Lib.hid (show cameV n ts = false by rw [cameV, d0]; rfl)
    clear h
    go_enter Tryd.func21, Tryd.ntmps21
    go_wp2_with fail
    go_ret
    exact ⟨by rw [H.out]; simp, rfl⟩
theorem q_spec_l1InC (n ts : Int) (w : World) : Calls Tryd.prog 31 #[.int .i64 n, .int .i64 1, .int .i64 ts] w fun e w' => e = .returned (.bool (cameV n ts)) ∧ w = w' := by
  by_cases h : 1 ≤ n
  · have d0 : decide (1 ≤ n) = true := decide_eq_true h
    have H := Lib.hid (show cameV n ts = decide (n ≤ ts) by rw [cameV, d0]; rfl)
    clear h
    go_enter Tryd.func31, Tryd.ntmps31
    go_wp2_with fail
    go_ret
    exact ⟨by rw [H.out]; simp, rfl⟩
  · have d0 : decide (1 ≤ n) = false := decide_eq_false h
    have H := Lib.hid (show cameV n ts = false by rw [cameV, d0]; rfl)
    clear h
    go_enter Tryd.func31, Tryd.ntmps31
    go_wp2_with fail
    go_ret
    exact ⟨by rw [H.out]; simp, rfl⟩
theorem q_spec_Came (n ts : Int) (w : World) : Calls Tryd.prog 27 #[.int .i64 n, .int .i64 ts] w fun e w' => e = .returned (.bool (cameV n ts)) ∧ w = w' := by
  have HC := Lib.hid (q_spec_l1InC n ts w)
  go_enter Tryd.func27, Tryd.ntmps27
  go_wp2_with fail
  refine HC.out.mono ?_
  rintro e w' ⟨rfl, rfl⟩
  go_wp2_with fail
  go_ret
  exact ⟨rfl, rfl⟩
theorem impl_Came_of {n ts : Int} {b : Bool} (h : cameV n ts = b) (w : World) : Calls Tryd.prog 21 #[.int .i64 n, .int .i64 ts] w fun e w' => e = .returned (.bool b) ∧ w = w' := h ▸ q_impl_Came n ts w
theorem q_spec_Lives (a b ts : Int) (w : World) : Calls Tryd.prog 16 #[.int .i64 a, .int .i64 b, .int .i64 ts] w fun e w' => e = .returned (.bool (cameV a ts && !cameV b ts)) ∧ w = w' := by
  have HA := q_spec_Came a ts w
  have HB := q_spec_Came b ts w
  obtain ⟨ca, hca⟩ : ∃ ca, cameV a ts = ca := ⟨_, rfl⟩
  obtain ⟨cb, hcb⟩ : ∃ cb, cameV b ts = cb := ⟨_, rfl⟩
  rw [hca] at HA ⊢
  rw [hcb] at HB ⊢
  have HA := Lib.hid HA
  have HB := Lib.hid HB
  clear hca hcb
  cases ca
  · go_enter Tryd.func16, Tryd.ntmps16
    go_wp2_with fail
    refine HA.out.mono ?_
    rintro e w' ⟨rfl, rfl⟩
    go_wp2_with fail
    go_ret
    exact ⟨rfl, rfl⟩
  · go_enter Tryd.func16, Tryd.ntmps16
    go_wp2_with fail
    refine HA.out.mono ?_
    rintro e w' ⟨rfl, rfl⟩
    go_wp2_with fail
    refine HB.out.mono ?_
    rintro e w' ⟨rfl, rfl⟩
    go_wp2_with fail
    go_ret
    exact ⟨by simp, rfl⟩
theorem q_impl_Lives (a b ts : Int) (w : World) : Calls Tryd.prog 15 #[.int .i64 a, .int .i64 b, .int .i64 ts] w fun e w' => e = .returned (.bool (cameV a ts && !cameV b ts)) ∧ w = w' := by
  have HA := q_impl_Came a ts w
  have HB := q_impl_Came b ts w
  obtain ⟨ca, hca⟩ : ∃ ca, cameV a ts = ca := ⟨_, rfl⟩
  obtain ⟨cb, hcb⟩ : ∃ cb, cameV b ts = cb := ⟨_, rfl⟩
  rw [hca] at HA ⊢
  rw [hcb] at HB ⊢
  have HA := Lib.hid HA
  have HB := Lib.hid HB
  clear hca hcb
  cases ca
  · go_enter Tryd.func15, Tryd.ntmps15
    go_wp2_with fail
    refine HA.out.mono ?_
    rintro e w' ⟨rfl, rfl⟩
    go_wp2_with fail
    go_ret
    exact ⟨rfl, rfl⟩
  · go_enter Tryd.func15, Tryd.ntmps15
    go_wp2_with fail
    refine HA.out.mono ?_
    rintro e w' ⟨rfl, rfl⟩
    go_wp2_with fail
    refine HB.out.mono ?_
    rintro e w' ⟨rfl, rfl⟩
    go_wp2_with fail
    go_ret
    exact ⟨by simp, rfl⟩
set_option maxRecDepth 20000 in
set_option maxHeartbeats 2000000 in
theorem spec_l14Cell (w : World) (g : Nat) (hd : Dr w g) :
    Calls Tryd.prog 25 #[.pointer (some ⟨g, 0, none⟩)] w (DrP w g fun v _ => ∃ n : Int, v = .int .i64 n ∧ -2 ≤ n ∧ n ≤ 7) := by
  have hx := rdI_new w [0, 0, -1, -1, 1, 2, 3, 7, -2] 3 (by decide)
  have hlt := hd.lt
  have hd2 : Dr (w.alloc (.cells (([0, 0, -1, -1, 1, 2, 3, 7, -2] : List Int).map (Value.int .i64)).toArray 3)) g := hd.below (up_a1 w _)
  have hc2 : Chg g (g + 1) w (w.alloc (.cells (([0, 0, -1, -1, 1, 2, 3, 7, -2] : List Int).map (Value.int .i64)).toArray 3)) := .of_below (up_a1 w _)
  go_enter Tryd.func25, Tryd.ntmps25
  go_wp2_with fail
  refine (spec_l1Int [0, 0, -1, -1, 1, 2, 3, 7, -2] _ _ g hd2 (RdG.imp hx hlt (Nat.le_refl _) fun _ _ _ _ _ h => h) (by simp) (by decide) (by decide)).mono ?_
  rintro e w3 ⟨_, rfl, ⟨j, hj, rfl⟩, hch3, hd3⟩
  have hj' : -2 ≤ j ∧ j ≤ 7 := by
    simp only [List.mem_cons, List.not_mem_nil, or_false] at hj
    omega
  clear hj
  go_wp2_with fail
  go_ret
  exact ⟨_, rfl, ⟨_, rfl, by omega, by omega⟩, hc2.trans hch3, hd3⟩
theorem chg_belowC {w w1 w2 : World} {g B : Nat} (hb : Below B w w1) (h : Chg g (g + 1) w1 w2) (hB : B ≤ g) (hw : B ≤ w.heap.size) : Below B w w2 := hb.trans (h.below hB (Nat.le_trans hw hb.size))
set_option maxRecDepth 20000 in
set_option maxHeartbeats 2000000 in
theorem spec_DrawClaim (code : List UInt8) (x : Value) (w : World) {lo hi : Nat} (hx : RdB w lo hi x code) (hhi : hi ≤ w.heap.size) (hn : code.length ≤ 1048576) :
    Calls Tryd.prog 8 #[x] w fun e w' => ∃ n : Int, e = .returned (.int .i64 n) ∧ -2 ≤ n ∧ n ≤ 7 ∧ Below w.heap.size w w' := by
  go_enter Tryd.func8, Tryd.ntmps8
  go_wp2_with fail
  refine (spec_l1New code x w hx hhi hn).mono ?_
  rintro e w1 ⟨g, rfl, hg, hb1, hd1⟩
  go_wp2_with fail
  refine (spec_l14Cell w1 g hd1).mono ?_
  rintro e w2 ⟨_, rfl, ⟨n, rfl, hn0, hn1⟩, hch, hd2⟩
  have hb2 := chg_belowC hb1 hch hg (Nat.le_refl _)
  clear hch
  go_wp2_with fail
  go_ret
  exact ⟨n, rfl, hn0, hn1, hb2⟩
set_option maxRecDepth 20000 in
set_option maxHeartbeats 2000000 in
theorem spec_DrawStamp (code : List UInt8) (x : Value) (w : World) {lo hi : Nat} (hx : RdB w lo hi x code) (hhi : hi ≤ w.heap.size) (hn : code.length ≤ 1048576) :
    Calls Tryd.prog 9 #[x] w fun e w' => ∃ m s : Int, e = .returned (.tuple #[.int .i64 m, .int .i64 s]) ∧ -2 ≤ m ∧ m ≤ 7 ∧ -2 ≤ s ∧ s ≤ 7 ∧ Below w.heap.size w w' := by
  go_enter Tryd.func9, Tryd.ntmps9
  go_wp2_with fail
  refine (spec_l1New code x w hx hhi hn).mono ?_
  rintro e w1 ⟨g, rfl, hg, hb1, hd1⟩
  go_wp2_with fail
  refine (spec_l14Cell w1 g hd1).mono ?_
  rintro e w2 ⟨_, rfl, ⟨m, rfl, hm0, hm1⟩, hch, hd2⟩
  have hb2 := chg_belowC hb1 hch hg (Nat.le_refl _)
  clear hch
  go_wp2_with fail
  refine (spec_l1Below 8 w2 g hd2 (by decide)).mono ?_
  rintro e w3 ⟨_, rfl, ⟨j, rfl, hj, -⟩, hch, hd3⟩
  have hj8 : j < 8 := by have := hj (by decide); omega
  have hjw : IntKind.i64.wrap ((j : Int) - 1) = (j : Int) - 1 := IntWalk.i64_in _ ⟨by omega, by omega⟩
  obtain ⟨s, hs⟩ : ∃ s : Int, (j : Int) - 1 = s := ⟨_, rfl⟩
  have hs0 : -2 ≤ s := by omega
  have hs1 : s ≤ 7 := by omega
  have hb3 := chg_belowC hb2 hch hg (Nat.le_refl _)
  clear hch hj
  go_wp2_with fail
  refine bodyPost_ret (v := (.tuple #[.int .i64 m, .int .i64 s])) ?_ rfl ⟨m, s, rfl, hm0, hm1, hs0, hs1, hb3⟩
  simp [results, Tryd.results9, go_sem]
set_option maxRecDepth 20000 in
set_option maxHeartbeats 2000000 in
theorem spec_DrawLives (code : List UInt8) (x : Value) (w : World) {lo hi : Nat} (hx : RdB w lo hi x code) (hhi : hi ≤ w.heap.size) (hn : code.length ≤ 1048576) :
    Calls Tryd.prog 10 #[x] w fun e w' => ∃ a b ts : Int, e = .returned (.tuple #[.int .i64 a, .int .i64 b, .int .i64 ts]) ∧ -2 ≤ a ∧ a ≤ 7 ∧ -2 ≤ b ∧ b ≤ 7 ∧ -2 ≤ ts ∧ ts ≤ 7 ∧ Below w.heap.size w w' := by
  go_enter Tryd.func10, Tryd.ntmps10
  go_wp2_with fail
  refine (spec_l1New code x w hx hhi hn).mono ?_
  rintro e w1 ⟨g, rfl, hg, hb1, hd1⟩
  go_wp2_with fail
  refine (spec_l14Cell w1 g hd1).mono ?_
  rintro e w2 ⟨_, rfl, ⟨a, rfl, ha0, ha1⟩, hch, hd2⟩
  have hb2 := chg_belowC hb1 hch hg (Nat.le_refl _)
  clear hch
  go_wp2_with fail
  refine (spec_l14Cell w2 g hd2).mono ?_
  rintro e w3 ⟨_, rfl, ⟨b, rfl, hb0, hb1⟩, hch, hd3⟩
  have hb3 := chg_belowC hb2 hch hg (Nat.le_refl _)
  clear hch
  go_wp2_with fail
  refine (spec_l1Below 8 w3 g hd3 (by decide)).mono ?_
  rintro e w4 ⟨_, rfl, ⟨j, rfl, hj, -⟩, hch, hd4⟩
  have hj8 : j < 8 := by have := hj (by decide); omega
  have hjw : IntKind.i64.wrap ((j : Int) - 1) = (j : Int) - 1 := IntWalk.i64_in _ ⟨by omega, by omega⟩
  obtain ⟨ts, hts⟩ : ∃ ts : Int, (j : Int) - 1 = ts := ⟨_, rfl⟩
  have hts0 : -2 ≤ ts := by omega
  have hts1 : ts ≤ 7 := by omega
  have hb4 := chg_belowC hb3 hch hg (Nat.le_refl _)
  clear hch hj
  go_wp2_with fail
  refine bodyPost_ret (v := (.tuple #[.int .i64 a, .int .i64 b, .int .i64 ts])) ?_ rfl ⟨a, b, ts, rfl, ha0, ha1, hb0, hb1, hts0, hts1, hb4⟩
  simp [results, Tryd.results10, go_sem]
end Go.Proofs.YtjdnjpfjamcilaaDoor
