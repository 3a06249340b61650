/- Values by a kind of encoding; the kind with the fewest bytes; columns: contracts. -/
import Derived.Test.YticimccfeohpcaaGreatCC
import Derived.Test.YticimccfeohpcaaGreatED
import Derived.Test.YticimccfeohpcaaGreatEI
namespace Go.Lb
/-- The best of the first kinds. -/
def bestN (l : List V) : Nat → Int
  | 0 => 0
  | 1 => 0
  | j + 2 => if ((j ≠ 2 ∨ typeOf l = 1) ∧ (encBy ((j + 1 : Nat) : Int) l).length < (encBy (bestN l (j + 1)) l).length) then ((j + 1 : Nat) : Int) else bestN l (j + 1)
theorem bestN_1 (l : List V) : bestN l 1 = 0 := rfl
theorem bestN_succ (l : List V) (j : Nat) : bestN l (j + 2) = if ((j ≠ 2 ∨ typeOf l = 1) ∧ (encBy ((j + 1 : Nat) : Int) l).length < (encBy (bestN l (j + 1)) l).length) then ((j + 1 : Nat) : Int) else bestN l (j + 1) := rfl
theorem bestN_2 (l : List V) : bestN l 2 = best1 l := by
  have h := bestN_succ l 0
  simp only [Nat.reduceAdd, bestN_1, encBy_0] at h
  rw [h, show ((1 : Nat) : Int) = 1 from rfl, encBy_1, best1]
  simp
theorem bestN_3 (l : List V) : bestN l 3 = best2 l := by
  have h := bestN_succ l 1
  simp only [Nat.reduceAdd, bestN_2] at h
  rw [h, show ((2 : Nat) : Int) = 2 from rfl, encBy_2, best2]
  simp
theorem bestN_4 (l : List V) : bestN l 4 = best3 l := by
  have h := bestN_succ l 2
  simp only [Nat.reduceAdd, bestN_3] at h
  rw [h, show ((3 : Nat) : Int) = 3 from rfl, encBy_3, best3]
  simp
theorem bestN_in (l : List V) (j : Nat) (h1 : 1 ≤ j) (h4 : j ≤ 4) : 0 ≤ bestN l j ∧ bestN l j ≤ 3 := by
  have g1 := best1_in l
  have g2 := best2_in l
  have g3 := best3_in l
  rcases (by omega : j = 1 ∨ j = 2 ∨ j = 3 ∨ j = 4) with rfl | rfl | rfl | rfl
  · exact ⟨Int.le_refl 0, (by decide : (0 : Int) ≤ 3)⟩
  · rw [bestN_2]; omega
  · rw [bestN_3]; omega
  · rw [bestN_4]; omega
theorem bestN_next {l : List V} {j : Nat} (h1 : 1 ≤ j) : bestN l (j + 1) = if ((j ≠ 3 ∨ typeOf l = 1) ∧ (encBy (j : Int) l).length < (encBy (bestN l j) l).length) then (j : Int) else bestN l j := by
  obtain ⟨i, rfl⟩ : ∃ i, j = i + 1 := ⟨j - 1, by omega⟩
  show (if ((i ≠ 2 ∨ typeOf l = 1) ∧ _) then _ else _) = _
  congr 2
  simp
end Go.Lb
namespace Go.Proofs.YticimccfeohpcaaGreat
open Go.Sort Go.ChangeShapes Go.WideShapes Go.ChangeAt Go.RowKit Go.Lb
set_option maxHeartbeats 4000000 in
set_option maxRecDepth 20000 in
theorem spec_EncBy (k : Int) (l : List V) (x : Value) (w : World) {lo hi : Nat} (hx : RdV w lo hi x l) (hhi : hi ≤ w.heap.size) (hs : ∀ v ∈ l, v.s.size ≤ maxLen) :
    Calls Tryz.prog 44 #[.int .i64 k, x] w fun e w' => ∃ r, e = .returned r ∧ Own 5 1 w' w.heap.size w'.heap.size r (encBy k l).length (bc (encBy k l)) ∧ Below w.heap.size w w' := by
  have Hx := Lib.hid hx
  obtain ⟨A, c, rfl, hl, hl2⟩ := hx.form
  clear hx
  by_cases h0 : k = 0
  · subst h0
    have HE := Lib.hid (encBy_0 l)
    have HC := Lib.hid (spec_EncPlain l _ w Hx.out hhi hs)
    clear hs
    go_enter Tryz.func44, Tryz.ntmps44
    go_wp2_with fail
    refine HC.out.mono ?_
    rintro e w1 ⟨r, rfl, ho, hb⟩
    have HO := Lib.hid ho
    obtain ⟨Ar, cr, rfl, -, -, -⟩ := ho.cells
    clear ho
    go_wp2_with fail
    go_ret
    exact ⟨_, rfl, by rw [HE.out]; exact HO.out, hb⟩
  by_cases h1 : k = 1
  · subst h1
    have HE := Lib.hid (encBy_1 l)
    have HC := Lib.hid (spec_EncRuns l _ w Hx.out hhi hs)
    clear hs
    go_enter Tryz.func44, Tryz.ntmps44
    go_wp2_with fail
    refine HC.out.mono ?_
    rintro e w1 ⟨r, rfl, ho, hb⟩
    have HO := Lib.hid ho
    obtain ⟨Ar, cr, rfl, -, -, -⟩ := ho.cells
    clear ho
    go_wp2_with fail
    go_ret
    exact ⟨_, rfl, by rw [HE.out]; exact HO.out, hb⟩
  by_cases h2 : k = 2
  · subst h2
    have HE := Lib.hid (encBy_2 l)
    have HC := Lib.hid (spec_EncDict l _ w Hx.out hhi hs)
    clear hs
    go_enter Tryz.func44, Tryz.ntmps44
    go_wp2_with fail
    refine HC.out.mono ?_
    rintro e w1 ⟨r, rfl, ho, hb⟩
    have HO := Lib.hid ho
    obtain ⟨Ar, cr, rfl, -, -, -⟩ := ho.cells
    clear ho
    go_wp2_with fail
    go_ret
    exact ⟨_, rfl, by rw [HE.out]; exact HO.out, hb⟩
  by_cases h3 : k = 3
  · subst h3
    have HE := Lib.hid (encBy_3 l)
    have HC := Lib.hid (spec_EncFrame l _ w Hx.out hhi hs)
    clear hs
    go_enter Tryz.func44, Tryz.ntmps44
    go_wp2_with fail
    refine HC.out.mono ?_
    rintro e w1 ⟨r, rfl, ho, hb⟩
    have HO := Lib.hid ho
    obtain ⟨Ar, cr, rfl, -, -, -⟩ := ho.cells
    clear ho
    go_wp2_with fail
    go_ret
    exact ⟨_, rfl, by rw [HE.out]; exact HO.out, hb⟩
  have HE := Lib.hid (encBy_no h0 h1 h2 h3 l)
  have d0 : (k == 0) = false := by simp [h0]
  have d1 : (k == 1) = false := by simp [h1]
  have d2 : (k == 2) = false := by simp [h2]
  have d3 : (k == 3) = false := by simp [h3]
  clear h0 h1 h2 h3
  go_enter Tryz.func44, Tryz.ntmps44
  go_wp2_with fail
  go_ret
  exact ⟨_, rfl, by rw [HE.out]; exact .new (World.ownsRow_made w (base := w.heap.size) (e := 5) (size := 1) #[] 0 (Nat.le_refl _) (by decide) rfl), up_a1 w _⟩
set_option maxHeartbeats 4000000 in
set_option maxRecDepth 20000 in
theorem impl_EncBy (k : Int) (l : List V) (x : Value) (w : World) {lo hi : Nat} (hx : RdV w lo hi x l) (hhi : hi ≤ w.heap.size) (hs : ∀ v ∈ l, v.s.size ≤ maxLen) :
    Calls Tryz.prog 43 #[.int .i64 k, x] w fun e w' => ∃ r, e = .returned r ∧ Own 5 1 w' w.heap.size w'.heap.size r (encBy k l).length (bc (encBy k l)) ∧ Below w.heap.size w w' := by
  have Hx := Lib.hid hx
  obtain ⟨A, c, rfl, hl, hl2⟩ := hx.form
  clear hx
  by_cases h0 : k = 0
  · subst h0
    have HE := Lib.hid (encBy_0 l)
    have HC := Lib.hid (impl_EncPlain l _ w Hx.out hhi hs)
    clear hs
    go_enter Tryz.func43, Tryz.ntmps43
    go_wp2_with fail
    refine HC.out.mono ?_
    rintro e w1 ⟨r, rfl, ho, hb⟩
    have HO := Lib.hid ho
    obtain ⟨Ar, cr, rfl, -, -, -⟩ := ho.cells
    clear ho
    go_wp2_with fail
    go_ret
    exact ⟨_, rfl, by rw [HE.out]; exact HO.out, hb⟩
  by_cases h1 : k = 1
  · subst h1
    have HE := Lib.hid (encBy_1 l)
    have HC := Lib.hid (impl_EncRuns l _ w Hx.out hhi hs)
    clear hs
    go_enter Tryz.func43, Tryz.ntmps43
    go_wp2_with fail
    refine HC.out.mono ?_
    rintro e w1 ⟨r, rfl, ho, hb⟩
    have HO := Lib.hid ho
    obtain ⟨Ar, cr, rfl, -, -, -⟩ := ho.cells
    clear ho
    go_wp2_with fail
    go_ret
    exact ⟨_, rfl, by rw [HE.out]; exact HO.out, hb⟩
  by_cases h2 : k = 2
  · subst h2
    have HE := Lib.hid (encBy_2 l)
    have HC := Lib.hid (impl_EncDict l _ w Hx.out hhi hs)
    clear hs
    go_enter Tryz.func43, Tryz.ntmps43
    go_wp2_with fail
    refine HC.out.mono ?_
    rintro e w1 ⟨r, rfl, ho, hb⟩
    have HO := Lib.hid ho
    obtain ⟨Ar, cr, rfl, -, -, -⟩ := ho.cells
    clear ho
    go_wp2_with fail
    go_ret
    exact ⟨_, rfl, by rw [HE.out]; exact HO.out, hb⟩
  by_cases h3 : k = 3
  · subst h3
    have HE := Lib.hid (encBy_3 l)
    have HC := Lib.hid (impl_EncFrame l _ w Hx.out hhi hs)
    clear hs
    go_enter Tryz.func43, Tryz.ntmps43
    go_wp2_with fail
    refine HC.out.mono ?_
    rintro e w1 ⟨r, rfl, ho, hb⟩
    have HO := Lib.hid ho
    obtain ⟨Ar, cr, rfl, -, -, -⟩ := ho.cells
    clear ho
    go_wp2_with fail
    go_ret
    exact ⟨_, rfl, by rw [HE.out]; exact HO.out, hb⟩
  have HE := Lib.hid (encBy_no h0 h1 h2 h3 l)
  have d0 : (k == 0) = false := by simp [h0]
  have d1 : (k == 1) = false := by simp [h1]
  have d2 : (k == 2) = false := by simp [h2]
  have d3 : (k == 3) = false := by simp [h3]
  clear h0 h1 h2 h3
  go_enter Tryz.func43, Tryz.ntmps43
  go_wp2_with fail
  go_ret
  exact ⟨_, rfl, by rw [HE.out]; exact own_ints_none _ _ _ _, Below.refl _ _⟩
set_option maxHeartbeats 4000000 in
set_option maxRecDepth 20000 in
theorem spec_BestKind (l : List V) (x : Value) (w : World) {lo hi : Nat} (hx : RdV w lo hi x l) (hhi : hi ≤ w.heap.size) (hs : ∀ v ∈ l, v.s.size ≤ maxLen) :
    Calls Tryz.prog 42 #[x] w fun e w' => e = .returned (.int .i64 (bestKind l)) ∧ Below w.heap.size w w' := by
  obtain ⟨A, c, rfl, hl, hl2⟩ := hx.form
  have hT := spec_TypeOf l _ w hx hhi hs
  by_cases h0 : typeOf l = 0
  · rw [h0] at hT
    have HT := Lib.hid hT
    have HE := Lib.hid (bestKind_no h0)
    clear hT h0
    go_enter Tryz.func42, Tryz.ntmps42
    go_wp2_with fail
    refine HT.out.mono ?_
    rintro e w1 ⟨rfl, hb1⟩
    go_wp2_with fail
    go_ret
    exact ⟨by rw [HE.out]; rfl, hb1⟩
  · have hd : (typeOf l == 0) = false := by simp [h0]
    have HE := Lib.hid (bestKind_yes h0)
    have HBy := Lib.hid (fun (k : Int) W (h : Below w.heap.size w W) => spec_EncBy k l _ W (hx.below h hhi) (Nat.le_trans hhi h.size) hs)
    have HN := Lib.hid (fun (j : Nat) (h : 1 ≤ j) => bestN_next (l := l) h)
    have H4 := Lib.hid (bestN_4 l)
    have HLn := Lib.hid (fun k => encBy_len k l)
    have HPl := Lib.hid (fun W (h : Below w.heap.size w W) => spec_EncPlain l _ W (hx.below h hhi) (Nat.le_trans hhi h.size) hs)
    generalize typeOf l = t at *
    have HT := Lib.hid hT
    clear hT h0 hx
    go_enter Tryz.func42, Tryz.ntmps42
    go_wp2_with fail
    refine HT.out.mono ?_
    rintro e w1 ⟨rfl, hb1⟩
    clear HT
    go_wp2_with fail
    refine (HPl.out w1 hb1).mono ?_
    rintro e w2 ⟨_, rfl, ho, hb2⟩
    obtain ⟨A2, c2, rfl, -, -, -⟩ := ho.cells
    have hb2w := below_go hb1 hb2
    clear ho hb2 hb1
    go_wp2_with fail
    go_loopw [4, 5, 6, 7] (fun b e k n wr => ∃ (j : Nat) (u0 : Value), Hid (k = .int .i64 j ∧ n = u0 ∧ b = .int .i64 (bestN l j) ∧ e = .int .i64 ((encBy (bestN l j) l).length : Nat) ∧ 1 ≤ j ∧ j ≤ 4 ∧ Below w.heap.size w wr)) (fun _ _ k _ _ => 4 - (intOf k).toNat)
    case atStart => exact ⟨1, _, Lib.hid ⟨rfl, rfl, rfl, rfl, by omega, by omega, hb2w⟩⟩
    case round =>
      obtain ⟨j, u0, hrel⟩ := hrel
      obtain ⟨rfl, rfl, rfl, rfl, hj1, hj4, hb⟩ := hrel.out
      have HNj := Lib.hid (HN.out j hj1)
      by_cases hj : j ≤ 3
      · have dj : decide ((j : Int) ≤ 3) = true := decide_eq_true (by omega)
        have HE := HE
        have hE := HBy.out (j : Int) wr hb
        have hm1 := HLn.out (j : Int)
        have hm2 := HLn.out (bestN l j)
        have HLj := Lib.hid (show ∃ m, m = encBy (j : Int) l from ⟨_, rfl⟩)
        clear hrel
        obtain ⟨B, hB⟩ : ∃ B, bestN l j = B := ⟨_, rfl⟩
        rw [hB] at hm2 ⊢
        obtain ⟨mb, hmb⟩ : ∃ mb, encBy B l = mb := ⟨_, rfl⟩
        obtain ⟨m, hm⟩ : ∃ m, encBy (j : Int) l = m := ⟨_, rfl⟩
        rw [hm] at hE hm1
        rw [hmb] at hm2 ⊢
        have HNx := Lib.hid (show bestN l (j + 1) = if ((j ≠ 3 ∨ t = 1) ∧ m.length < mb.length) then (j : Int) else B by rw [HNj.out, hB, hm, hmb])
        have Hm := Lib.hid hm
        have Hmb := Lib.hid hmb
        clear HNj hB hm hmb HLj
        have HEj := Lib.hid hE
        clear hE
        go_wp2_with fail
        refine HEj.out.mono ?_
        rintro e w2 ⟨_, rfl, ho, hb2⟩
        obtain ⟨Ar, cr, rfl, -, -, -⟩ := ho.cells
        have hbw := below_go hb hb2
        clear ho hb2 hb HEj
        cases h3 : ((j : Int) != 3) <;> cases h1 : (t == 1) <;> cases h2 : decide ((m.length : Int) < (mb.length : Int))
        all_goals
          have HX : Hid ((bestN l (j + 1) = (j : Int) ∧ (encBy (bestN l (j + 1)) l).length = m.length) ∨ (bestN l (j + 1) = B ∧ (encBy (bestN l (j + 1)) l).length = mb.length)) := Lib.hid (by
            rw [HNx.out]
            split
            · exact .inl ⟨rfl, by rw [Hm.out]⟩
            · exact .inr ⟨rfl, by rw [Hmb.out]⟩)
          have HY : Hid (bestN l (j + 1) = if ((j ≠ 3 ∨ t = 1) ∧ m.length < mb.length) then (j : Int) else B) := HNx
          have f3 : Hid (j ≠ 3 ↔ ((j : Int) != 3) = true) := Lib.hid (by rw [bne_iff_ne]; omega)
          have f1 : Hid (t = 1 ↔ (t == 1) = true) := Lib.hid (by rw [beq_iff_eq])
          have f2 : Hid (m.length < mb.length ↔ decide ((m.length : Int) < (mb.length : Int)) = true) := Lib.hid (by rw [decide_eq_true_iff]; omega)
          have HZ : Hid (bestN l (j + 1) = if (((j : Int) != 3) = true ∨ (t == 1) = true) ∧ decide ((m.length : Int) < (mb.length : Int)) = true then (j : Int) else B) := Lib.hid (by rw [HY.out]; simp only [f3.out, f1.out, f2.out])
          have HZ2 := Lib.hid (by have h := HZ.out; rw [h3, h1, h2] at h; exact h)
          clear HX HY f3 f1 f2 HZ HNx
          go_wp2_with fail
        all_goals
          first
            | (exfalso
               simp at h2
               omega)
            | (go_roundw
               case rel =>
                 refine ⟨j + 1, _, Lib.hid ⟨by go_num, rfl, ?_, ?_, by omega, by omega, hbw⟩⟩
                 · have h := HZ2.out
                   simp at h
                   rw [h]
                 · have h := HZ2.out
                   simp at h
                   first
                     | rw [h, Hm.out]
                     | rw [h, Hmb.out]
               case measure => simp [intOf]; omega)
      · obtain rfl : j = 4 := by omega
        have HR := Lib.hid (show bestKind l = bestN l 4 by rw [HE.out, H4.out])
        clear hrel
        go_wp2_with fail
        go_ret
        exact ⟨by rw [HR.out]; rfl, hb⟩
set_option maxHeartbeats 4000000 in
set_option maxRecDepth 20000 in
theorem impl_BestKind (l : List V) (x : Value) (w : World) {lo hi : Nat} (hx : RdV w lo hi x l) (hhi : hi ≤ w.heap.size) (hs : ∀ v ∈ l, v.s.size ≤ maxLen) :
    Calls Tryz.prog 41 #[x] w fun e w' => e = .returned (.int .i64 (bestKind l)) ∧ Below w.heap.size w w' := by
  obtain ⟨A, c, rfl, hl, hl2⟩ := hx.form
  have hT := impl_TypeOf l _ w hx hhi hs
  by_cases h0 : typeOf l = 0
  · rw [h0] at hT
    have HT := Lib.hid hT
    have HE := Lib.hid (bestKind_no h0)
    clear hT h0
    go_enter Tryz.func41, Tryz.ntmps41
    go_wp2_with fail
    refine HT.out.mono ?_
    rintro e w1 ⟨rfl, hb1⟩
    go_wp2_with fail
    go_ret
    exact ⟨by rw [HE.out]; rfl, hb1⟩
  · have hd : (typeOf l == 0) = false := by simp [h0]
    have HE := Lib.hid (bestKind_yes h0)
    have HBy := Lib.hid (fun (k : Int) W (h : Below w.heap.size w W) => impl_EncBy k l _ W (hx.below h hhi) (Nat.le_trans hhi h.size) hs)
    have HN := Lib.hid (fun (j : Nat) (h : 1 ≤ j) => bestN_next (l := l) h)
    have H4 := Lib.hid (bestN_4 l)
    have HLn := Lib.hid (fun k => encBy_len k l)
    generalize typeOf l = t at *
    have HT := Lib.hid hT
    clear hT h0 hx
    go_enter Tryz.func41, Tryz.ntmps41
    go_wp2_with fail
    refine HT.out.mono ?_
    rintro e w1 ⟨rfl, hb1⟩
    clear HT
    go_wp2_with fail
    go_loopw [4, 5] (fun b k wr => ∃ (j : Nat), Hid (k = .int .i64 j ∧ b = .int .i64 (bestN l j) ∧ 1 ≤ j ∧ j ≤ 4 ∧ Below w.heap.size w wr)) (fun _ k _ => 4 - (intOf k).toNat)
    case atStart => exact ⟨1, Lib.hid ⟨rfl, rfl, by omega, by omega, hb1⟩⟩
    case round =>
      obtain ⟨j, hrel⟩ := hrel
      obtain ⟨rfl, rfl, hj1, hj4, hb⟩ := hrel.out
      have HNj := Lib.hid (HN.out j hj1)
      by_cases hj : j ≤ 3
      · have dj : decide ((j : Int) ≤ 3) = true := decide_eq_true (by omega)
        have hE := HBy.out (j : Int) wr hb
        have hm1 := HLn.out (j : Int)
        have hm2 := HLn.out (bestN l j)
        clear hrel
        obtain ⟨B, hB⟩ : ∃ B, bestN l j = B := ⟨_, rfl⟩
        rw [hB] at hm2 ⊢
        have hE2 := HBy.out B
        obtain ⟨mb, hmb⟩ : ∃ mb, encBy B l = mb := ⟨_, rfl⟩
        obtain ⟨m, hm⟩ : ∃ m, encBy (j : Int) l = m := ⟨_, rfl⟩
        rw [hm] at hE hm1
        rw [hmb] at hm2 hE2
        have HNx := Lib.hid (show bestN l (j + 1) = if ((j ≠ 3 ∨ t = 1) ∧ m.length < mb.length) then (j : Int) else B by rw [HNj.out, hB, hm, hmb])
        clear HNj hB hm hmb
        have HEj := Lib.hid hE
        have HEb := Lib.hid hE2
        clear hE hE2
        have f3 : Hid (j ≠ 3 ↔ ¬ ((j : Int) == 3) = true) := Lib.hid (by rw [beq_iff_eq]; omega)
        have f1 : Hid (t = 1 ↔ ¬ (t != 1) = true) := Lib.hid (by rw [bne_iff_ne]; simp)
        have f2 : Hid (m.length < mb.length ↔ decide ((m.length : Int) < (mb.length : Int)) = true) := Lib.hid (by rw [decide_eq_true_iff]; omega)
        have HZ : Hid (bestN l (j + 1) = if (¬ ((j : Int) == 3) = true ∨ ¬ (t != 1) = true) ∧ decide ((m.length : Int) < (mb.length : Int)) = true then (j : Int) else B) := Lib.hid (by rw [HNx.out]; simp only [f3.out, f1.out, f2.out])
        clear f3 f1 f2 HNx
        cases h3 : ((j : Int) == 3) <;> cases h1 : (t != 1) <;> cases h2 : decide ((m.length : Int) < (mb.length : Int))
        all_goals
          have HZ2 := Lib.hid (by have h := HZ.out; rw [h3, h1, h2] at h; exact h)
          clear HZ
          go_wp2_with fail
        all_goals
          first
            | (go_roundw
               case rel =>
                 refine ⟨j + 1, Lib.hid ⟨by go_num, ?_, by omega, by omega, hb⟩⟩
                 have h := HZ2.out
                 simp at h
                 rw [h]
               case measure => simp [intOf]; omega)
            | (refine HEj.out.mono ?_
               rintro e w2 ⟨_, rfl, ho, hb2⟩
               obtain ⟨Ar, cr, rfl, -, -, -⟩ := ho.cells
               have hbw := below_go hb hb2
               clear ho hb2 hb
               have HEb2 := Lib.hid (HEb.out w2 hbw)
               clear HEb HEj
               go_wp2_with fail
               refine HEb2.out.mono ?_
               rintro e w3 ⟨_, rfl, ho, hb3⟩
               obtain ⟨Ar3, cr3, rfl, -, -, -⟩ := ho.cells
               have hbw3 := below_go hbw hb3
               clear ho hb3 HEb2
               go_wp2_with fail
               all_goals first | (exfalso; simp at h2; omega) | skip
               go_roundw
               case rel =>
                 refine ⟨j + 1, Lib.hid ⟨by go_num, ?_, by omega, by omega, hbw3⟩⟩
                 have h := HZ2.out
                 simp at h
                 rw [h]
               case measure => simp [intOf]; omega)
      · obtain rfl : j = 4 := by omega
        have HR := Lib.hid (show bestKind l = bestN l 4 by rw [HE.out, H4.out])
        clear hrel
        go_wp2_with fail
        go_ret
        exact ⟨by rw [HR.out]; rfl, hb⟩
set_option maxHeartbeats 4000000 in
set_option maxRecDepth 20000 in
theorem spec_EncCol (l : List V) (x : Value) (w : World) {lo hi : Nat} (hx : RdV w lo hi x l) (hhi : hi ≤ w.heap.size) (hs : ∀ v ∈ l, v.s.size ≤ maxLen) :
    Calls Tryz.prog 40 #[x] w fun e w' => ∃ r, e = .returned r ∧ Own 5 1 w' w.heap.size w'.heap.size r (encCol l).length (bc (encCol l)) ∧ Below w.heap.size w w' := by
  obtain ⟨A, c, rfl, hl, hl2⟩ := hx.form
  obtain ⟨i0, hif, hz0, hz1, hz2⟩ := info_parts info_u8
  replace hif := Lib.hid hif
  replace hz0 := Lib.hid hz0
  replace hz1 := Lib.hid hz1
  replace hz2 := Lib.hid hz2
  have hK := spec_BestKind l _ w hx hhi hs
  have hin := bestKind_in l
  by_cases h0 : bestKind l < 0
  · have HE := Lib.hid (show encCol l = [] by rw [encCol, if_pos h0])
    have hd : decide (bestKind l < 0) = true := decide_eq_true h0
    have HK := Lib.hid hK
    clear hK hin h0
    generalize bestKind l = k at *
    go_enter Tryz.func40, Tryz.ntmps40
    go_wp2_with fail
    refine HK.out.mono ?_
    rintro e w1 ⟨rfl, hb1⟩
    go_wp2_with fail
    go_ret
    exact ⟨_, rfl, by rw [HE.out]; exact .new (World.ownsRow_made w1 (base := w.heap.size) (e := 5) (size := 1) #[] 0 hb1.size (by decide) rfl), hb1.alloc hb1.size _⟩
  · have HE := Lib.hid (show encCol l = UInt8.ofNat (bestKind l).toNat :: encBy (bestKind l) l by rw [encCol, if_neg h0])
    have hd : decide (bestKind l < 0) = false := decide_eq_false h0
    have HBy := Lib.hid (fun W (h : Below w.heap.size w W) => spec_EncBy (bestKind l) l _ W (hx.below h hhi) (Nat.le_trans hhi h.size) hs)
    have hbl := encBy_len (bestKind l) l
    have HK := Lib.hid hK
    clear hK h0
    generalize bestKind l = k at *
    generalize encBy k l = pk at *
    obtain ⟨hk1, hk2⟩ := hin
    have hcw : k % 256 = ((UInt8.ofNat k.toNat).toNat : Int) := by
      have hk0 : 0 ≤ k := by simpa using hd
      obtain ⟨n, rfl⟩ := Int.eq_ofNat_of_zero_le hk0
      rw [Int.toNat_natCast, byte_of_nat (by omega)]
      omega
    generalize UInt8.ofNat k.toNat = c0 at *
    have Hcw := Lib.hid hcw
    clear hcw
    go_enter Tryz.func40, Tryz.ntmps40
    go_wp2_with fail
    refine HK.out.mono ?_
    rintro e w1 ⟨rfl, hb1⟩
    have hs1 := hb1.size
    clear HK
    go_wp2_with fail
    rw [Hcw.out]
    have hup := up_a1 w1 (.cells #[.int .u8 (c0.toNat : Int)] 5)
    have own0 := owns_full w1 w.heap.size 5 1 #[.int .u8 (c0.toNat : Int)] hs1 (by decide) rfl
    have hbw := below_go hb1 hup
    obtain ⟨W0, hW0⟩ : ∃ W0, (w1.alloc (.cells #[.int .u8 (c0.toNat : Int)] 5)) = W0 := ⟨_, rfl⟩
    rw [hW0] at hup own0 hbw ⊢
    have Own0 := Lib.hid own0
    clear hW0 own0 hup
    refine (HBy.out W0 hbw).mono ?_
    rintro e w8 ⟨v8, rfl, hown8, hb8⟩
    have hb8w := below_go hbw hb8
    have HO8 := Lib.hid (owns_below Own0.out hb8)
    obtain ⟨A8, c8, rfl, -, -, -⟩ := hown8.cells
    have hN := Lib.hid (hown8.rdBc.spread)
    have hs8 := hb8w.size
    clear hb8 hown8 Own0 HBy
    go_wp2_with (at_builtin; refine wpl_spread rfl _ _ 34 rfl w.heap.size 5 i0 _ 1 1 Tryz.underlying34 hif.out hz0.out hz1.out hz2.out rfl (by decide) (by decide) HO8.out rfl rfl (bc_len pk) hN.out.2.1 hN.out.2.2 (bc_one pk) (by omega) (by omega) ?_)
    intro v9 w9 hown9 hgrow _
    have hb9 := Below.grown hb8w hgrow (fun g hg => (HO8.out.lt g hg).1) (Nat.le_refl _)
    have HO9 := Lib.hid (show w9.ownsRow w.heap.size 5 1 v9 (c0 :: pk).length (bc (c0 :: pk)) by
      rw [List.length_cons, Nat.add_comm]
      exact hown9)
    clear hgrow hown9
    go_wp2_with fail
    go_ret
    exact ⟨_, rfl, by rw [HE.out]; exact Own.new HO9.out, hb9⟩
set_option maxHeartbeats 4000000 in
set_option maxRecDepth 20000 in
theorem impl_EncCol (l : List V) (x : Value) (w : World) {lo hi : Nat} (hx : RdV w lo hi x l) (hhi : hi ≤ w.heap.size) (hs : ∀ v ∈ l, v.s.size ≤ maxLen) :
    Calls Tryz.prog 37 #[x] w fun e w' => ∃ r, e = .returned r ∧ Own 5 1 w' w.heap.size w'.heap.size r (encCol l).length (bc (encCol l)) ∧ Below w.heap.size w w' := by
  obtain ⟨A, c, rfl, hl, hl2⟩ := hx.form
  obtain ⟨i0, hif, hz0, hz1, hz2⟩ := info_parts info_u8
  replace hif := Lib.hid hif
  replace hz0 := Lib.hid hz0
  replace hz1 := Lib.hid hz1
  replace hz2 := Lib.hid hz2
  have hK := impl_BestKind l _ w hx hhi hs
  have hin := bestKind_in l
  by_cases h0 : bestKind l < 0
  · have HE := Lib.hid (show encCol l = [] by rw [encCol, if_pos h0])
    have hd : decide (bestKind l < 0) = true := decide_eq_true h0
    have HK := Lib.hid hK
    clear hK hin h0
    generalize bestKind l = k at *
    go_enter Tryz.func37, Tryz.ntmps37
    go_wp2_with fail
    refine HK.out.mono ?_
    rintro e w1 ⟨rfl, hb1⟩
    go_wp2_with fail
    go_ret
    exact ⟨_, rfl, by rw [HE.out]; exact own_ints_none _ _ _ _, hb1⟩
  · have HE := Lib.hid (show encCol l = UInt8.ofNat (bestKind l).toNat :: encBy (bestKind l) l by rw [encCol, if_neg h0])
    have hd : decide (bestKind l < 0) = false := decide_eq_false h0
    have HBy := Lib.hid (fun W (h : Below w.heap.size w W) => impl_EncBy (bestKind l) l _ W (hx.below h hhi) (Nat.le_trans hhi h.size) hs)
    have hbl := encBy_len (bestKind l) l
    have HK := Lib.hid hK
    clear hK h0
    generalize bestKind l = k at *
    generalize encBy k l = pk at *
    obtain ⟨hk1, hk2⟩ := hin
    have hcw : k % 256 = ((UInt8.ofNat k.toNat).toNat : Int) := by
      have hk0 : 0 ≤ k := by simpa using hd
      obtain ⟨n, rfl⟩ := Int.eq_ofNat_of_zero_le hk0
      rw [Int.toNat_natCast, byte_of_nat (by omega)]
      omega
    generalize UInt8.ofNat k.toNat = c0 at *
    have Hcw := Lib.hid hcw
    clear hcw
    go_enter Tryz.func37, Tryz.ntmps37
    go_wp2_with fail
    refine HK.out.mono ?_
    rintro e w1 ⟨rfl, hb1⟩
    have hs1 := hb1.size
    clear HK
    go_wp2_with fail
    rw [Hcw.out]
    have hup := up_a1 w1 (.cells #[.int .u8 (c0.toNat : Int)] 5)
    have own0 := owns_full w1 w.heap.size 5 1 #[.int .u8 (c0.toNat : Int)] hs1 (by decide) rfl
    have hbw := below_go hb1 hup
    obtain ⟨W0, hW0⟩ : ∃ W0, (w1.alloc (.cells #[.int .u8 (c0.toNat : Int)] 5)) = W0 := ⟨_, rfl⟩
    rw [hW0] at hup own0 hbw ⊢
    have Own0 := Lib.hid own0
    clear hW0 own0 hup
    refine (HBy.out W0 hbw).mono ?_
    rintro e w8 ⟨v8, rfl, hown8, hb8⟩
    have hb8w := below_go hbw hb8
    have HO8 := Lib.hid (owns_below Own0.out hb8)
    obtain ⟨A8, c8, rfl, -, -, -⟩ := hown8.cells
    have hN := Lib.hid (hown8.rdBc.spread)
    have hs8 := hb8w.size
    clear hb8 hown8 Own0 HBy
    go_wp2_with (at_builtin; refine wpl_spread rfl _ _ 34 rfl w.heap.size 5 i0 _ 1 1 Tryz.underlying34 hif.out hz0.out hz1.out hz2.out rfl (by decide) (by decide) HO8.out rfl rfl (bc_len pk) hN.out.2.1 hN.out.2.2 (bc_one pk) (by omega) (by omega) ?_)
    intro v9 w9 hown9 hgrow _
    have hb9 := Below.grown hb8w hgrow (fun g hg => (HO8.out.lt g hg).1) (Nat.le_refl _)
    have HO9 := Lib.hid (show w9.ownsRow w.heap.size 5 1 v9 (c0 :: pk).length (bc (c0 :: pk)) by
      rw [List.length_cons, Nat.add_comm]
      exact hown9)
    clear hgrow hown9
    go_wp2_with fail
    go_ret
    exact ⟨_, rfl, by rw [HE.out]; exact Own.new HO9.out, hb9⟩
set_option maxHeartbeats 4000000 in
set_option maxRecDepth 20000 in
theorem spec_Saved (l : List V) (x : Value) (w : World) {lo hi : Nat} (hx : RdV w lo hi x l) (hhi : hi ≤ w.heap.size) (hs : ∀ v ∈ l, v.s.size ≤ maxLen) :
    Calls Tryz.prog 46 #[x] w fun e w' => e = .returned (.int .i64 (((encPlain l).length : Int) - ((encCol l).length : Int))) ∧ Below w.heap.size w w' := by
  obtain ⟨A, c, rfl, hl, hl2⟩ := hx.form
  have HP := Lib.hid (spec_EncPlain l _ w hx hhi hs)
  have HC := Lib.hid (fun W (h : Below w.heap.size w W) => spec_EncCol l _ W (hx.below h hhi) (Nat.le_trans hhi h.size) hs)
  have h1 := encPlain_len l
  have h2 := encCol_len l
  generalize encPlain l = p at *
  generalize encCol l = q at *
  clear hx
  go_enter Tryz.func46, Tryz.ntmps46
  go_wp2_with fail
  refine HP.out.mono ?_
  rintro e w1 ⟨_, rfl, ho, hb1⟩
  obtain ⟨A1, c1, rfl, -, -, -⟩ := ho.cells
  clear ho HP
  go_wp2_with fail
  refine (HC.out w1 hb1).mono ?_
  rintro e w2 ⟨_, rfl, ho, hb2⟩
  obtain ⟨A2, c2, rfl, -, -, -⟩ := ho.cells
  have hb2w := below_go hb1 hb2
  clear ho HC hb2
  go_wp2_with fail
  go_ret
  exact ⟨rfl, hb2w⟩
set_option maxHeartbeats 4000000 in
set_option maxRecDepth 20000 in
theorem impl_Saved (l : List V) (x : Value) (w : World) {lo hi : Nat} (hx : RdV w lo hi x l) (hhi : hi ≤ w.heap.size) (hs : ∀ v ∈ l, v.s.size ≤ maxLen) :
    Calls Tryz.prog 45 #[x] w fun e w' => e = .returned (.int .i64 (((encPlain l).length : Int) - ((encCol l).length : Int))) ∧ Below w.heap.size w w' := by
  obtain ⟨A, c, rfl, hl, hl2⟩ := hx.form
  have HP := Lib.hid (impl_EncPlain l _ w hx hhi hs)
  have HC := Lib.hid (fun W (h : Below w.heap.size w W) => impl_EncCol l _ W (hx.below h hhi) (Nat.le_trans hhi h.size) hs)
  have h1 := encPlain_len l
  have h2 := encCol_len l
  generalize encPlain l = p at *
  generalize encCol l = q at *
  clear hx
  go_enter Tryz.func45, Tryz.ntmps45
  go_wp2_with fail
  refine HP.out.mono ?_
  rintro e w1 ⟨_, rfl, ho, hb1⟩
  obtain ⟨A1, c1, rfl, -, -, -⟩ := ho.cells
  clear ho HP
  go_wp2_with fail
  refine (HC.out w1 hb1).mono ?_
  rintro e w2 ⟨_, rfl, ho, hb2⟩
  obtain ⟨A2, c2, rfl, -, -, -⟩ := ho.cells
  have hb2w := below_go hb1 hb2
  clear ho HC hb2
  go_wp2_with fail
  go_ret
  exact ⟨rfl, hb2w⟩
end Go.Proofs.YticimccfeohpcaaGreat
