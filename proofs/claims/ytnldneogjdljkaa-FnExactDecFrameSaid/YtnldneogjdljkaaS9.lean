/- Valid values: contracts. -/
import Derived.Test.YtnldneogjdljkaaS8
namespace Go.Proofs.Ytnldneogjdljkaa
open Go.ChangeShapes Go.WideShapes Go.ChangeAt Go.RowKit Go.Lb

set_option maxRecDepth 20000 in
set_option maxHeartbeats 2000000 in
theorem impl_ValOk (v : V) (w : World) (hs : v.s.size ≤ maxLen) :
    Calls Try.prog 92 #[.agg #[.int .i64 v.ty, .int .i64 v.n, .string v.s]] w fun e w' => e = .returned (.bool (valOk v)) ∧ Below w.heap.size w w' := by
  have hb0 : Below w.heap.size w (w.alloc (.cells #[.int .i64 v.ty, .int .i64 v.n, .string v.s] 87)) := (Below.refl _ _).alloc (Nat.le_refl _) _
  by_cases h1 : v.ty = 1
  · cases hn : Lb.isNum v.n
    all_goals
      cases he : v.s.toList.isEmpty
      all_goals
        have H := Lib.hid (show valOk v = (Lb.isNum v.n && v.s.data.toList.isEmpty) by simp [valOk, h1])
        rw [hn, ← ByteArray.toList_eq, he] at H
        have hb1 : (v.ty == 1) = true := by simp [h1]
        have h1 := Lib.hid h1
        go_enter Try.func92, Try.ntmps92
        go_wp2_with fail
        refine (c_impl_isNum _ _).mono ?_
        rintro e w1 ⟨rfl, hb⟩
        have hc := (bcell hb).1
        rw [hn]
        go_wp2_with fail
        go_ret
        exact ⟨ret_bool H.out.symm, below_a1 hb⟩
  by_cases h2 : v.ty = 2
  · have H := Lib.hid (show valOk v = (v.s.data.toList.all chOk && (decide (v.s.data.toList.length ≤ 6) && decide (v.n = 0))) by simp [valOk, h2])
    have hb1 : (v.ty == 1) = false := by simp [h1]
    have hb2 : (v.ty == 2) = true := by simp [h2]
    clear h1 h2
    unfold maxLen at hs
    go_enter Try.func92, Try.ntmps92
    go_wp2_with fail
    go_loop [3] (fun i => ∃ k : Nat, i = .int .i64 k ∧ k ≤ v.s.size ∧ (v.s.data.toList.take k).all chOk = true) (fun i => v.s.size - (intOf i).toNat)
    case atStart => exact ⟨0, rfl, by omega, by simp⟩
    case round =>
      obtain ⟨k, rfl, hk, hall⟩ := hrel
      have Hall := Lib.hid hall
      clear hall
      by_cases hkl : k < v.s.size
      · have hgb := get_byte v.s k hkl
        have htb := take_byte v.s k hkl
        have HX := Lib.hid (show chOk v.s[k] = true → (v.s.data.toList.take (k + 1)).all chOk = true by intro h; rw [htb, List.all_append, Hall.out]; simp [h])
        have HN := Lib.hid (show chOk v.s[k] = false → valOk v = false by intro h; rw [H.out, all_take hgb h]; rfl)
        clear hgb htb Hall
        rcases (by omega : (v.s[k].toNat : Int) < 48 ∨ (48 ≤ (v.s[k].toNat : Int) ∧ (v.s[k].toNat : Int) ≤ 57) ∨ (57 < (v.s[k].toNat : Int) ∧ (v.s[k].toNat : Int) < 97) ∨ (97 ≤ (v.s[k].toNat : Int) ∧ (v.s[k].toNat : Int) ≤ 122) ∨ 122 < (v.s[k].toNat : Int)) with g | ⟨g, g'⟩ | ⟨g, g'⟩ | ⟨g, g'⟩ | g
        · have HN := Lib.hid (HN.out (chOk_not (.inl (by omega)) (.inl g)))
          go_wp2_with fail
          go_ret
          exact ⟨ret_bool HN.out.symm, hb0⟩
        · have HX := Lib.hid (HX.out (chOk_yes (.inr ⟨g, g'⟩)))
          go_wp2_with fail
          go_round
          case rel => exact ⟨k + 1, by go_num, by omega, HX.out⟩
          case measure => simp [intOf]; omega
        · have HN := Lib.hid (HN.out (chOk_not (.inl (by omega)) (.inr g)))
          have d57 : decide ((v.s[k].toNat : Int) ≤ 57) = false := decide_eq_false (by omega)
          go_wp2_with fail
          go_ret
          exact ⟨ret_bool HN.out.symm, hb0⟩
        · have HX := Lib.hid (HX.out (chOk_yes (.inl ⟨g, g'⟩)))
          go_wp2_with fail
          go_round
          case rel => exact ⟨k + 1, by go_num, by omega, HX.out⟩
          case measure => simp [intOf]; omega
        · have HN := Lib.hid (HN.out (chOk_not (.inr g) (.inr (by omega))))
          have d57 : decide ((v.s[k].toNat : Int) ≤ 57) = false := decide_eq_false (by omega)
          have d122 : decide ((v.s[k].toNat : Int) ≤ 122) = false := decide_eq_false (by omega)
          go_wp2_with fail
          go_ret
          exact ⟨ret_bool HN.out.symm, hb0⟩
      · have hall : v.s.data.toList.all chOk = true := by have h := Hall.out; rwa [List.take_of_length_le (by show v.s.data.toList.length ≤ k; simp only [Array.length_toList]; exact Nat.le_of_not_lt hkl)] at h
        have hsz : v.s.data.toList.length = v.s.size := by simp
        have HH := H.out
        rw [hall, hsz] at HH
        by_cases g6 : v.s.size ≤ 6
        · by_cases gn : v.n = 0
          · have HF := Lib.hid (show valOk v = true by rw [HH]; simp [g6, gn])
            have gb : (v.n == 0) = true := by simp [gn]
            clear gn HH H hall hsz
            go_wp2_with fail
            go_ret
            exact ⟨ret_bool HF.out.symm, hb0⟩
          · have HF := Lib.hid (show valOk v = false by rw [HH]; simp [g6, gn])
            have gb : (v.n == 0) = false := by simp [gn]
            clear gn HH H hall hsz
            go_wp2_with fail
            go_ret
            exact ⟨ret_bool HF.out.symm, hb0⟩
        · have HF := Lib.hid (show valOk v = false by rw [HH]; simp [g6])
          clear HH H hall hsz
          go_wp2_with fail
          go_ret
          exact ⟨ret_bool HF.out.symm, hb0⟩
  · have H := Lib.hid (show valOk v = false by simp [valOk, h1, h2])
    have hb1 : (v.ty == 1) = false := by simp [h1]
    have hb2 : (v.ty == 2) = false := by simp [h2]
    clear h1 h2
    go_enter Try.func92, Try.ntmps92
    go_wp2_with fail
    go_ret
    exact ⟨ret_bool H.out.symm, hb0⟩
set_option maxRecDepth 20000 in
set_option maxHeartbeats 2000000 in
theorem spec_ValOk (v : V) (w : World) (hs : v.s.size ≤ maxLen) :
    Calls Try.prog 104 #[.agg #[.int .i64 v.ty, .int .i64 v.n, .string v.s]] w fun e w' => e = .returned (.bool (valOk v)) ∧ Below w.heap.size w w' := by
  have hb0 : Below w.heap.size w (w.alloc (.cells #[.int .i64 v.ty, .int .i64 v.n, .string v.s] 87)) := (Below.refl _ _).alloc (Nat.le_refl _) _
  by_cases h1 : v.ty = 1
  · cases hn : Lb.isNum v.n
    all_goals
      cases he : v.s.toList.isEmpty
      all_goals
        have H := Lib.hid (show valOk v = (Lb.isNum v.n && v.s.data.toList.isEmpty) by simp [valOk, h1])
        rw [hn, ← ByteArray.toList_eq, he] at H
        have hb1 : (v.ty == 1) = true := by simp [h1]
        have h1 := Lib.hid h1
        go_enter Try.func104, Try.ntmps104
        go_wp2_with fail
        refine (q_spec_l1Right _ _).mono ?_
        rintro e w1 ⟨rfl, rfl⟩
        rw [hn]
        go_wp2_with fail
        go_ret
        exact ⟨ret_bool H.out.symm, (Below.refl _ _).alloc (Nat.le_refl _) _⟩
  · have H := Lib.hid (show valOk v = if v.ty = 2 then v.s.data.toList.all chOk && (decide (v.s.data.toList.length ≤ 6) && decide (v.n = 0)) else false by simp [valOk, h1])
    have hb1 : (v.ty == 1) = false := by simp [h1]
    clear h1
    unfold maxLen at hs
    go_enter Try.func104, Try.ntmps104
    go_wp2_with fail
    go_loop [3] (fun i => ∃ k : Nat, i = .int .i64 k ∧ k ≤ v.s.size ∧ k ≤ 7 ∧ (v.s.data.toList.take k).all chOk = true) (fun i => v.s.size - (intOf i).toNat)
    case atStart => exact ⟨0, rfl, by omega, by omega, by simp⟩
    case round =>
      obtain ⟨k, rfl, hk, hk7, hall⟩ := hrel
      have Hall := Lib.hid hall
      clear hall
      by_cases hkl : k < v.s.size ∧ k ≤ 6
      · obtain ⟨hkl, hk6⟩ := hkl
        have hgb := get_byte v.s k hkl
        have htb := take_byte v.s k hkl
        have HX := Lib.hid (show chOk v.s[k] = true → (v.s.data.toList.take (k + 1)).all chOk = true by intro h; rw [htb, List.all_append, Hall.out]; simp [h])
        have HN := Lib.hid (show chOk v.s[k] = false → valOk v = false by intro h; rw [H.out, all_take hgb h]; simp)
        have HC := Lib.hid (show chOk v.s[k] = (inR (v.s[k].toNat : Int) 97 122 || inR (v.s[k].toNat : Int) 48 57) from rfl)
        clear hgb htb Hall
        have hq : (v.s[k].toNat : Int) ≤ 255 := by have h := v.s[k].toNat_lt; omega
        cases g1 : inR (v.s[k].toNat : Int) 97 122
        · cases g2 : inR (v.s[k].toNat : Int) 48 57
          · have HN := Lib.hid (HN.out (by rw [HC.out, g1, g2]; rfl))
            clear HX
            go_wp2_with fail
            refine (q_spec_l1In _ _ _ _).mono ?_
            rintro e w1 ⟨rfl, rfl⟩
            rw [g1]
            go_wp2_with fail
            refine (q_spec_l1In _ _ _ _).mono ?_
            rintro e w1 ⟨rfl, rfl⟩
            rw [g2]
            go_wp2_with fail
            go_ret
            exact ⟨ret_bool HN.out.symm, hb0⟩
          · have HX := Lib.hid (HX.out (by rw [HC.out, g1, g2]; rfl))
            clear HN
            go_wp2_with fail
            refine (q_spec_l1In _ _ _ _).mono ?_
            rintro e w1 ⟨rfl, rfl⟩
            rw [g1]
            go_wp2_with fail
            refine (q_spec_l1In _ _ _ _).mono ?_
            rintro e w1 ⟨rfl, rfl⟩
            rw [g2]
            go_wp2_with fail
            go_round
            case rel => exact ⟨k + 1, by go_num, by omega, by omega, HX.out⟩
            case measure => simp [intOf]; omega
        · have HX := Lib.hid (HX.out (by rw [HC.out, g1]; rfl))
          clear HN
          go_wp2_with fail
          refine (q_spec_l1In _ _ _ _).mono ?_
          rintro e w1 ⟨rfl, rfl⟩
          rw [g1]
          go_wp2_with fail
          go_round
          case rel => exact ⟨k + 1, by go_num, by omega, by omega, HX.out⟩
          case measure => simp [intOf]; omega
      · have hd : (decide ((k : Int) < (v.s.size : Int)) && decide ((k : Int) ≤ 6)) = false := by simp; omega
        have hsz : v.s.data.toList.length = v.s.size := by simp
        have hall : v.s.size ≤ 6 → v.s.data.toList.all chOk = true := by
          intro h6
          have h := Hall.out
          rwa [List.take_of_length_le (by rw [hsz]; omega)] at h
        have HH := H.out
        rw [hsz] at HH
        have hcase : (k < v.s.size ∧ 6 < k) ∨ v.s.size ≤ k := by omega
        by_cases g2 : v.ty = 2
        · rw [if_pos g2] at HH
          by_cases gn : v.n = 0
          · by_cases g6 : v.s.size ≤ 6
            · have HF := Lib.hid (show valOk v = true by rw [HH, hall g6]; simp [g6, gn])
              have gb : (v.n == 0) = true := by simp [gn]
              have gb2 : (v.ty == 2) = true := by simp [g2]
              have hkk : v.s.size ≤ k := by omega
              clear gn HH H hall hsz hd g2 hkl hcase
              go_wp2_with fail
              go_ret
              exact ⟨ret_bool (by first | exact HF.out.symm | (rw [HF.out]; simp; omega)), hb0⟩
            · have HF := Lib.hid (show valOk v = false by rw [HH]; simp [g6])
              have gb : (v.n == 0) = true := by simp [gn]
              have gb2 : (v.ty == 2) = true := by simp [g2]
              clear gn HH H hall hsz hd g2 hkl
              rcases hcase with ⟨a1, a2⟩ | a1
              all_goals
                go_wp2_with fail
                go_ret
                exact ⟨ret_bool (by first | exact HF.out.symm | (rw [HF.out]; simp; omega)), hb0⟩
          · have HF := Lib.hid (show valOk v = false by rw [HH]; simp [gn])
            have gb : (v.n == 0) = false := by simp [gn]
            have gb2 : (v.ty == 2) = true := by simp [g2]
            clear gn HH H hall hsz hd g2 hkl
            rcases hcase with ⟨a1, a2⟩ | a1
            all_goals
              go_wp2_with fail
              go_ret
              exact ⟨ret_bool (by first | exact HF.out.symm | (rw [HF.out]; simp; omega)), hb0⟩
        · rw [if_neg g2] at HH
          have HF := Lib.hid HH
          have gb2 : (v.ty == 2) = false := by simp [g2]
          clear HH H hall hsz hd g2 hkl
          rcases hcase with ⟨a1, a2⟩ | a1
          all_goals
            go_wp2_with fail
            go_ret
            exact ⟨ret_bool (by first | exact HF.out.symm | (rw [HF.out]; simp; omega)), hb0⟩
end Go.Proofs.Ytnldneogjdljkaa
