/- Valid values: contracts. -/
import Derived.Test.YtjogkbkkcaljhaaGreatDoorXA
import Derived.Lib.QuietBelow
import Derived.BigQuiet
import Derived.Laws.BitsLemmas
namespace Go.Proofs.YtjogkbkkcaljhaaGreatDoor
open Go.ChangeShapes Go.WideShapes Go.ChangeAt Go.RowKit Go.Lb

set_option maxRecDepth 20000 in
set_option maxHeartbeats 2000000 in
theorem impl_ValOk (v : V) (w : World) (hs : v.s.size ≤ maxLen) :
    Calls Tryz.prog 64 #[.agg #[.int .i64 v.ty, .int .i64 v.n, .string v.s]] w fun e w' => e = .returned (.bool (valOk v)) ∧ Below w.heap.size w w' := by
  have hb0 : Below w.heap.size w (w.alloc (.cells #[.int .i64 v.ty, .int .i64 v.n, .string v.s] 24)) := (Below.refl _ _).alloc (Nat.le_refl _) _
  by_cases h1 : v.ty = 1
  · cases hn : Lb.isNum v.n
    all_goals
      cases he : v.s.toList.isEmpty
      all_goals
        have H := Lib.hid (show valOk v = (Lb.isNum v.n && v.s.data.toList.isEmpty) by simp [valOk, h1])
        rw [hn, ← ByteArray.toList_eq, he] at H
        have hb1 : (v.ty == 1) = true := by simp [h1]
        have h1 := Lib.hid h1
        go_enter Tryz.func64, Tryz.ntmps64
        go_wp2_with fail
        refine (c_impl_isNum _ _).mono ?_
        rintro e w1 ⟨rfl, hb⟩
        have hc := (bcell hb).1
        rw [hn]
        go_wp2_with fail
        go_ret
        exact ⟨ret_bool H.out.symm, below_a1 hb⟩
  by_cases h2 : v.ty = 2
  · have H := Lib.hid (show valOk v = (v.s.data.toList.all chOk && (decide (v.s.data.toList.length ≤ 6) && decide (v.n = 0))) by simp [valOk, h2])
    have hb1 : (v.ty == 1) = false := by simp [h1]
    have hb2 : (v.ty == 2) = true := by simp [h2]
    clear h1 h2
    unfold maxLen at hs
    go_enter Tryz.func64, Tryz.ntmps64
    go_wp2_with fail
    go_loop [3] (fun i => ∃ k : Nat, i = .int .i64 k ∧ k ≤ v.s.size ∧ (v.s.data.toList.take k).all chOk = true) (fun i => v.s.size - (intOf i).toNat)
    case atStart => exact ⟨0, rfl, by omega, by simp⟩
    case round =>
      obtain ⟨k, rfl, hk, hall⟩ := hrel
      have Hall := Lib.hid hall
      clear hall
      by_cases hkl : k < v.s.size
      · have hgb := get_byte v.s k hkl
        have htb := take_byte v.s k hkl
        have HX := Lib.hid (show chOk v.s[k] = true → (v.s.data.toList.take (k + 1)).all chOk = true by intro h; rw [htb, List.all_append, Hall.out]; simp [h])
        have HN := Lib.hid (show chOk v.s[k] = false → valOk v = false by intro h; rw [H.out, all_take hgb h]; rfl)
        clear hgb htb Hall
        rcases (by omega : (v.s[k].toNat : Int) < 48 ∨ (48 ≤ (v.s[k].toNat : Int) ∧ (v.s[k].toNat : Int) ≤ 57) ∨ (57 < (v.s[k].toNat : Int) ∧ (v.s[k].toNat : Int) < 97) ∨ (97 ≤ (v.s[k].toNat : Int) ∧ (v.s[k].toNat : Int) ≤ 122) ∨ 122 < (v.s[k].toNat : Int)) with g | ⟨g, g'⟩ | ⟨g, g'⟩ | ⟨g, g'⟩ | g
        · have HN := Lib.hid (HN.out (chOk_not (.inl (by omega)) (.inl g)))
          go_wp2_with fail
          go_ret
          exact ⟨ret_bool HN.out.symm, hb0⟩
        · have HX := Lib.hid (HX.out (chOk_yes (.inr ⟨g, g'⟩)))
          go_wp2_with fail
          go_round
          case rel => exact ⟨k + 1, by go_num, by omega, HX.out⟩
          case measure => simp [intOf]; omega
        · have HN := Lib.hid (HN.out (chOk_not (.inl (by omega)) (.inr g)))
          have d57 : decide ((v.s[k].toNat : Int) ≤ 57) = false := decide_eq_false (by omega)
          go_wp2_with fail
          go_ret
          exact ⟨ret_bool HN.out.symm, hb0⟩
        · have HX := Lib.hid (HX.out (chOk_yes (.inl ⟨g, g'⟩)))
          go_wp2_with fail
          go_round
          case rel => exact ⟨k + 1, by go_num, by omega, HX.out⟩
          case measure => simp [intOf]; omega
        · have HN := Lib.hid (HN.out (chOk_not (.inr g) (.inr (by omega))))
          have d57 : decide ((v.s[k].toNat : Int) ≤ 57) = false := decide_eq_false (by omega)
          have d122 : decide ((v.s[k].toNat : Int) ≤ 122) = false := decide_eq_false (by omega)
          go_wp2_with fail
          go_ret
          exact ⟨ret_bool HN.out.symm, hb0⟩
      · have hall : v.s.data.toList.all chOk = true := by have h := Hall.out; rwa [List.take_of_length_le (by show v.s.data.toList.length ≤ k; simp only [Array.length_toList]; exact Nat.le_of_not_lt hkl)] at h
        have hsz : v.s.data.toList.length = v.s.size := by simp
        have HH := H.out
        rw [hall, hsz] at HH
        by_cases g6 : v.s.size ≤ 6
        · by_cases gn : v.n = 0
          · have HF := Lib.hid (show valOk v = true by rw [HH]; simp [g6, gn])
            have gb : (v.n == 0) = true := by simp [gn]
            clear gn HH H hall hsz
            go_wp2_with fail
            go_ret
            exact ⟨ret_bool HF.out.symm, hb0⟩
          · have HF := Lib.hid (show valOk v = false by rw [HH]; simp [g6, gn])
            have gb : (v.n == 0) = false := by simp [gn]
            clear gn HH H hall hsz
            go_wp2_with fail
            go_ret
            exact ⟨ret_bool HF.out.symm, hb0⟩
        · have HF := Lib.hid (show valOk v = false by rw [HH]; simp [g6])
          clear HH H hall hsz
          go_wp2_with fail
          go_ret
          exact ⟨ret_bool HF.out.symm, hb0⟩
  · have H := Lib.hid (show valOk v = false by simp [valOk, h1, h2])
    have hb1 : (v.ty == 1) = false := by simp [h1]
    have hb2 : (v.ty == 2) = false := by simp [h2]
    clear h1 h2
    go_enter Tryz.func64, Tryz.ntmps64
    go_wp2_with fail
    go_ret
    exact ⟨ret_bool H.out.symm, hb0⟩
set_option maxRecDepth 20000 in
set_option maxHeartbeats 2000000 in
theorem spec_ValOk (v : V) (w : World) (hs : v.s.size ≤ maxLen) :
    Calls Tryz.prog 71 #[.agg #[.int .i64 v.ty, .int .i64 v.n, .string v.s]] w fun e w' => e = .returned (.bool (valOk v)) ∧ Below w.heap.size w w' := by
  have hb0 : Below w.heap.size w (w.alloc (.cells #[.int .i64 v.ty, .int .i64 v.n, .string v.s] 24)) := (Below.refl _ _).alloc (Nat.le_refl _) _
  by_cases h1 : v.ty = 1
  · cases hn : Lb.isNum v.n
    all_goals
      cases he : v.s.toList.isEmpty
      all_goals
        have H := Lib.hid (show valOk v = (Lb.isNum v.n && v.s.data.toList.isEmpty) by simp [valOk, h1])
        rw [hn, ← ByteArray.toList_eq, he] at H
        have hb1 : (v.ty == 1) = true := by simp [h1]
        have h1 := Lib.hid h1
        go_enter Tryz.func71, Tryz.ntmps71
        go_wp2_with fail
        refine (q_spec_l1Right _ _).mono ?_
        rintro e w1 ⟨rfl, rfl⟩
        rw [hn]
        go_wp2_with fail
        go_ret
        exact ⟨ret_bool H.out.symm, (Below.refl _ _).alloc (Nat.le_refl _) _⟩
  · have H := Lib.hid (show valOk v = if v.ty = 2 then v.s.data.toList.all chOk && (decide (v.s.data.toList.length ≤ 6) && decide (v.n = 0)) else false by simp [valOk, h1])
    have hb1 : (v.ty == 1) = false := by simp [h1]
    clear h1
    unfold maxLen at hs
    go_enter Tryz.func71, Tryz.ntmps71
    go_wp2_with fail
    go_loop [3] (fun i => ∃ k : Nat, i = .int .i64 k ∧ k ≤ v.s.size ∧ k ≤ 7 ∧ (v.s.data.toList.take k).all chOk = true) (fun i => v.s.size - (intOf i).toNat)
    case atStart => exact ⟨0, rfl, by omega, by omega, by simp⟩
    case round =>
      obtain ⟨k, rfl, hk, hk7, hall⟩ := hrel
      have Hall := Lib.hid hall
      clear hall
      by_cases hkl : k < v.s.size ∧ k ≤ 6
      · obtain ⟨hkl, hk6⟩ := hkl
        have hgb := get_byte v.s k hkl
        have htb := take_byte v.s k hkl
        have HX := Lib.hid (show chOk v.s[k] = true → (v.s.data.toList.take (k + 1)).all chOk = true by intro h; rw [htb, List.all_append, Hall.out]; simp [h])
        have HN := Lib.hid (show chOk v.s[k] = false → valOk v = false by intro h; rw [H.out, all_take hgb h]; simp)
        have HC := Lib.hid (show chOk v.s[k] = (inR (v.s[k].toNat : Int) 97 122 || inR (v.s[k].toNat : Int) 48 57) from rfl)
        clear hgb htb Hall
        have hq : (v.s[k].toNat : Int) ≤ 255 := by have h := v.s[k].toNat_lt; omega
        cases g1 : inR (v.s[k].toNat : Int) 97 122
        · cases g2 : inR (v.s[k].toNat : Int) 48 57
          · have HN := Lib.hid (HN.out (by rw [HC.out, g1, g2]; rfl))
            clear HX
            go_wp2_with fail
            refine (q_spec_l1In _ _ _ _).mono ?_
            rintro e w1 ⟨rfl, rfl⟩
            rw [g1]
            go_wp2_with fail
            refine (q_spec_l1In _ _ _ _).mono ?_
            rintro e w1 ⟨rfl, rfl⟩
            rw [g2]
            go_wp2_with fail
            go_ret
            exact ⟨ret_bool HN.out.symm, hb0⟩
          · have HX := Lib.hid (HX.out (by rw [HC.out, g1, g2]; rfl))
            clear HN
            go_wp2_with fail
            refine (q_spec_l1In _ _ _ _).mono ?_
            rintro e w1 ⟨rfl, rfl⟩
            rw [g1]
            go_wp2_with fail
            refine (q_spec_l1In _ _ _ _).mono ?_
            rintro e w1 ⟨rfl, rfl⟩
            rw [g2]
            go_wp2_with fail
            go_round
            case rel => exact ⟨k + 1, by go_num, by omega, by omega, HX.out⟩
            case measure => simp [intOf]; omega
        · have HX := Lib.hid (HX.out (by rw [HC.out, g1]; rfl))
          clear HN
          go_wp2_with fail
          refine (q_spec_l1In _ _ _ _).mono ?_
          rintro e w1 ⟨rfl, rfl⟩
          rw [g1]
          go_wp2_with fail
          go_round
          case rel => exact ⟨k + 1, by go_num, by omega, by omega, HX.out⟩
          case measure => simp [intOf]; omega
      · have hd : (decide ((k : Int) < (v.s.size : Int)) && decide ((k : Int) ≤ 6)) = false := by simp; omega
        have hsz : v.s.data.toList.length = v.s.size := by simp
        have hall : v.s.size ≤ 6 → v.s.data.toList.all chOk = true := by
          intro h6
          have h := Hall.out
          rwa [List.take_of_length_le (by rw [hsz]; omega)] at h
        have HH := H.out
        rw [hsz] at HH
        have hcase : (k < v.s.size ∧ 6 < k) ∨ v.s.size ≤ k := by omega
        by_cases g2 : v.ty = 2
        · rw [if_pos g2] at HH
          by_cases gn : v.n = 0
          · by_cases g6 : v.s.size ≤ 6
            · have HF := Lib.hid (show valOk v = true by rw [HH, hall g6]; simp [g6, gn])
              have gb : (v.n == 0) = true := by simp [gn]
              have gb2 : (v.ty == 2) = true := by simp [g2]
              have hkk : v.s.size ≤ k := by omega
              clear gn HH H hall hsz hd g2 hkl hcase
              go_wp2_with fail
              go_ret
              exact ⟨ret_bool (by first | exact HF.out.symm | (rw [HF.out]; simp; omega)), hb0⟩
            · have HF := Lib.hid (show valOk v = false by rw [HH]; simp [g6])
              have gb : (v.n == 0) = true := by simp [gn]
              have gb2 : (v.ty == 2) = true := by simp [g2]
              clear gn HH H hall hsz hd g2 hkl
              rcases hcase with ⟨a1, a2⟩ | a1
              all_goals
                go_wp2_with fail
                go_ret
                exact ⟨ret_bool (by first | exact HF.out.symm | (rw [HF.out]; simp; omega)), hb0⟩
          · have HF := Lib.hid (show valOk v = false by rw [HH]; simp [gn])
            have gb : (v.n == 0) = false := by simp [gn]
            have gb2 : (v.ty == 2) = true := by simp [g2]
            clear gn HH H hall hsz hd g2 hkl
            rcases hcase with ⟨a1, a2⟩ | a1
            all_goals
              go_wp2_with fail
              go_ret
              exact ⟨ret_bool (by first | exact HF.out.symm | (rw [HF.out]; simp; omega)), hb0⟩
        · rw [if_neg g2] at HH
          have HF := Lib.hid HH
          have gb2 : (v.ty == 2) = false := by simp [g2]
          clear HH H hall hsz hd g2 hkl
          rcases hcase with ⟨a1, a2⟩ | a1
          all_goals
            go_wp2_with fail
            go_ret
            exact ⟨ret_bool (by first | exact HF.out.symm | (rw [HF.out]; simp; omega)), hb0⟩
end Go.Proofs.YtjogkbkkcaljhaaGreatDoor
namespace Go.Proofs.YtjogkbkkcaljhaaGreatDoor
open Go.Sort Go.ChangeShapes Go.WideShapes Go.ChangeAt Go.RowKit Go.Lb

theorem typeOf_len {l : List V} (h : inR (l.length : Int) 1 64 = false) : typeOf l = 0 := by
  cases l with
  | nil => rfl
  | cons a r => rw [typeOf, h]; rfl
theorem typeOf_bad {l : List V} {a v : V} {k : Nat} (h0 : l[0]? = some a) (h : l[k]? = some v) (hb : tyBad a v = true) : typeOf l = 0 := by
  cases l with
  | nil => rfl
  | cons x r =>
    simp at h0
    subst h0
    have hx : (x :: r).any (tyBad x) = true := List.any_eq_true.2 ⟨v, List.mem_of_getElem? h, hb⟩
    rw [typeOf, hx]
    simp
theorem typeOf_good {l : List V} {a : V} (h0 : l[0]? = some a) (hr : inR (l.length : Int) 1 64 = true) (h : (l.take l.length).any (tyBad a) = false) : typeOf l = a.ty := by
  cases l with
  | nil => simp at h0
  | cons x r =>
    simp at h0
    subst h0
    rw [List.take_length] at h
    rw [typeOf, hr, h]
    simp

end Go.Proofs.YtjogkbkkcaljhaaGreatDoor
namespace Go.Lb
def lower (b : Int) (v : V) : Int := if v.n < b then v.n else b
def baseOf : List V → Int
  | [] => 0
  | a :: r => r.foldl lower a.n
def offsets (l : List V) : List Int := if typeOf l = 1 then l.map (fun v => v.n - baseOf l) else []

theorem baseOf_step {l : List V} {k : Nat} {y : V} (h : l[k]? = some y) (h0 : 0 < k) : baseOf (l.take (k + 1)) = if y.n < baseOf (l.take k) then y.n else baseOf (l.take k) := by
  rw [take_of_get h]
  cases l with
  | nil => simp at h
  | cons a r =>
    cases k with
    | zero => omega
    | succ k =>
      simp [baseOf, List.foldl_append]
      rfl
theorem baseOf_one {l : List V} {y : V} (h : l[0]? = some y) : baseOf (l.take (0 + 1)) = y.n := by
  cases l with
  | nil => simp at h
  | cons a r => simp at h; subst h; simp [baseOf]
theorem foldl_in (r : List V) (b lo hi : Int) (hb : lo ≤ b ∧ b ≤ hi) (h : ∀ v ∈ r, lo ≤ v.n ∧ v.n ≤ hi) : lo ≤ r.foldl lower b ∧ r.foldl lower b ≤ hi := by
  induction r generalizing b with
  | nil => exact hb
  | cons a r ih =>
    refine ih _ ?_ (fun v hv => h v (by simp [hv]))
    have := h a (by simp)
    unfold lower
    split <;> omega
theorem baseOf_in {l : List V} {lo hi : Int} (h0 : lo ≤ 0 ∧ 0 ≤ hi) (h : ∀ v ∈ l, lo ≤ v.n ∧ v.n ≤ hi) : lo ≤ baseOf l ∧ baseOf l ≤ hi := by
  cases l with
  | nil => exact h0
  | cons a r => exact foldl_in r a.n lo hi (h a (by simp)) (fun v hv => h v (by simp [hv]))
theorem typeOf_mem {l : List V} {t : Int} (h : typeOf l = t) (ht : t ≠ 0) : ∀ v ∈ l, valOk v = true ∧ v.ty = t := by
  cases l with
  | nil => simp [typeOf] at h; exact absurd h.symm ht
  | cons a r =>
    simp only [typeOf] at h
    split at h
    · rename_i hc
      intro v hv
      simp only [Bool.and_eq_true, Bool.not_eq_true', List.any_eq_false] at hc
      have := hc.2 v hv
      simp [tyBad] at this
      exact ⟨this.1, this.2.trans h⟩
    · exact absurd h.symm ht
theorem typeOf_len64 {l : List V} {t : Int} (h : typeOf l = t) (ht : t ≠ 0) : l.length ≤ 64 := by
  cases l with
  | nil => simp
  | cons a r =>
    simp only [typeOf] at h
    split at h
    · rename_i hc
      simp only [Bool.and_eq_true] at hc
      have := inR_yes hc.1
      omega
    · exact absurd h.symm ht
theorem valOk_int {v : V} (h : valOk v = true) (ht : v.ty = 1) : -1000000000 ≤ v.n ∧ v.n ≤ 1000000000 := by
  simp only [valOk, ht, if_true, Bool.and_eq_true] at h
  exact inR_yes h.1
theorem ints_in {l : List V} (h : typeOf l = 1) : ∀ v ∈ l, -1000000000 ≤ v.n ∧ v.n ≤ 1000000000 := fun v hv =>
  valOk_int (typeOf_mem h (by omega) v hv).1 (typeOf_mem h (by omega) v hv).2
theorem base_in {l : List V} (h : typeOf l = 1) : -1000000000 ≤ baseOf l ∧ baseOf l ≤ 1000000000 := baseOf_in ⟨by omega, by omega⟩ (ints_in h)
def offCells (B : Int) (l : List V) : List Value := l.map fun v => .int .i64 (v.n - B)
theorem offCells_snoc {B : Int} {a b : List V} {y : V} (h : a = b ++ [y]) : offCells B a = offCells B b ++ [.int .i64 (y.n - B)] := by rw [h]; simp [offCells]
theorem offsets_cells {l : List V} {B : Int} (h : offsets l = l.map (fun v => v.n - B)) : (offsets l).map (Value.int .i64) = offCells B l ∧ (offsets l).length = l.length := by rw [h]; simp [offCells]
theorem offsets_len (l : List V) : (offsets l).length ≤ l.length := by unfold offsets; split <;> simp
end Go.Lb
namespace Go.Proofs.YtjogkbkkcaljhaaGreatDoor
open Go.Sort Go.ChangeShapes Go.WideShapes Go.ChangeAt Go.RowKit Go.Lb

end Go.Proofs.YtjogkbkkcaljhaaGreatDoor
namespace Go.Proofs.YtjogkbkkcaljhaaGreatDoor
open Go.Sort Go.ChangeShapes Go.WideShapes Go.ChangeAt Go.RowKit Go.Lb

theorem baseOf_self {l : List V} {u : V} (h : l[0]? = some u) : l.foldl lower u.n = baseOf l := by
  cases l with
  | nil => simp at h
  | cons a r => simp at h; subst h; simp [baseOf, lower]
theorem base_next {l : List V} {k : Nat} {y : V} (h : l[k]? = some y) (b : Int) : (l.take (k + 1)).foldl lower b = lower ((l.take k).foldl lower b) y := by
  rw [take_of_get h, List.foldl_append]; rfl
end Go.Proofs.YtjogkbkkcaljhaaGreatDoor
namespace Go.Proofs.YtjogkbkkcaljhaaGreatDoor
open Go.Sort Go.ChangeShapes Go.WideShapes Go.ChangeAt Go.RowKit Go.Lb

theorem info_int : (Tryz.prog.info? 3).map (fun i => (i.zero, i.size, i.bytes)) = some (some (.int .i64 0), 1, 8) := by kernel_rfl

theorem offsets_no {l : List V} (h : typeOf l ≠ 1) : offsets l = [] := by simp [offsets, h]
theorem offsets_yes {l : List V} (h : typeOf l = 1) : offsets l = l.map (fun v => v.n - baseOf l) := by simp [offsets, h]

end Go.Proofs.YtjogkbkkcaljhaaGreatDoor
namespace Go.Proofs.YtjogkbkkcaljhaaGreatDoor
open Go.Sort Go.ChangeShapes Go.WideShapes Go.ChangeAt Go.RowKit Go.Lb

end Go.Proofs.YtjogkbkkcaljhaaGreatDoor
namespace Go.Lb
open Go.Proofs.YtjogkbkkcaljhaaGreatDoor
def valB (v : V) : List UInt8 := if valOk v then (if v.ty = 1 then numB v.n else UInt8.ofNat v.s.size :: v.s.data.toList) else []
def txtOk (r : List UInt8) : Bool := r.all chOk && decide (r.length ≤ 6)
def rdText : List UInt8 → Option (V × Nat)
  | [] => none
  | c :: r => if decide (c.toNat ≤ r.length) && txtOk (r.take c.toNat) then some (⟨2, 0, ⟨(r.take c.toNat).toArray⟩⟩, c.toNat + 1) else none
def rdVal (ty : Int) (s : List UInt8) : Option (V × Nat) :=
  if ty = 1 then (rdNum s).map fun p => (⟨1, p.1, ⟨#[]⟩⟩, p.2) else if ty = 2 then rdText s else none
def valOkT (ty : Int) (v : V) : Bool := valOk v && decide (v.ty = ty)
theorem ba_list (l : List UInt8) : (⟨l.toArray⟩ : ByteArray).data.toList = l := rfl
theorem ba_of (s : ByteArray) : (⟨s.data.toList.toArray⟩ : ByteArray) = s := by
  cases s; rfl
theorem valOk_1 {v : V} (h : valOk v = true) (ht : v.ty = 1) : isNum v.n = true ∧ v = ⟨1, v.n, ⟨#[]⟩⟩ := by
  unfold valOk at h
  rw [if_pos ht, Bool.and_eq_true] at h
  refine ⟨h.1, ?_⟩
  obtain ⟨ty, n, s⟩ := v
  obtain rfl : ty = 1 := ht
  have h2 : s.data.toList = [] := by simpa using h.2
  have h3 := ba_of s
  rw [h2] at h3
  rw [← h3]
theorem valOk_2 {v : V} (h : valOk v = true) (ht : v.ty = 2) : txtOk v.s.data.toList = true ∧ v = ⟨2, 0, v.s⟩ := by
  unfold valOk at h
  rw [if_neg (by omega), if_pos ht] at h
  simp only [Bool.and_eq_true, decide_eq_true_eq] at h
  obtain ⟨h1, h2, h3⟩ := h
  refine ⟨by simp only [txtOk, h1, Bool.true_and, decide_eq_true_eq]; exact h2, ?_⟩
  obtain ⟨ty, n, s⟩ := v
  obtain rfl : ty = 2 := ht
  obtain rfl : n = 0 := h3
  rfl
theorem valOk_ty {v : V} (h : valOk v = true) : v.ty = 1 ∨ v.ty = 2 := by
  unfold valOk at h
  split at h
  · exact .inl ‹_›
  · split at h
    · exact .inr ‹_›
    · cases h
theorem valOk_mk1 {n : Int} (h : isNum n = true) : valOk ⟨1, n, ⟨#[]⟩⟩ = true := by simp [valOk, h]
theorem valOk_mk2 {r : List UInt8} (h : txtOk r = true) : valOk ⟨2, 0, ⟨r.toArray⟩⟩ = true := by
  simp only [txtOk, Bool.and_eq_true, decide_eq_true_eq] at h
  simp [valOk, h.1, h.2]
theorem valB_1 {v : V} (h : valOk v = true) (ht : v.ty = 1) : valB v = numB v.n := by rw [valB, if_pos h, if_pos ht]
theorem valB_2 {v : V} (h : valOk v = true) (ht : v.ty = 2) : valB v = UInt8.ofNat v.s.size :: v.s.data.toList := by rw [valB, if_pos h, if_neg (by omega)]
theorem valB_no {v : V} (h : valOk v = false) : valB v = [] := by rw [valB, if_neg (by simp [h])]
theorem valB_len (v : V) : (valB v).length ≤ 7 := by
  cases h : valOk v
  · rw [valB_no h]; simp
  · rcases valOk_ty h with ht | ht
    · rw [valB_1 h ht]; have := numB_len v.n; omega
    · rw [valB_2 h ht]
      have h1 := (valOk_2 h ht).1
      simp only [txtOk, Bool.and_eq_true, decide_eq_true_eq] at h1
      simp only [List.length_cons]
      omega
theorem rdVal_1 (s : List UInt8) : rdVal 1 s = (rdNum s).map fun p => (⟨1, p.1, ⟨#[]⟩⟩, p.2) := by rw [rdVal, if_pos rfl]
theorem rdVal_2 (s : List UInt8) : rdVal 2 s = rdText s := by rw [rdVal, if_neg (by decide), if_pos rfl]
theorem rdVal_no {ty : Int} (h1 : ty ≠ 1) (h2 : ty ≠ 2) (s : List UInt8) : rdVal ty s = none := by rw [rdVal, if_neg h1, if_neg h2]
theorem codec_val (ty : Int) : Codec (rdVal ty) valB (valOkT ty) := by
  constructor
  · intro v r h
    simp only [valOkT, Bool.and_eq_true, decide_eq_true_eq] at h
    obtain ⟨h, rfl⟩ := h
    rcases valOk_ty h with ht | ht
    · obtain ⟨h1, h2⟩ := valOk_1 h ht
      rw [valB_1 h ht, ht, rdVal_1, rdNum_num h1, Option.map_some, ← h2]
    · obtain ⟨h1, h2⟩ := valOk_2 h ht
      have h3 : v.s.data.toList.length ≤ 6 := by
        simp only [txtOk, Bool.and_eq_true, decide_eq_true_eq] at h1
        exact h1.2
      have hsz : v.s.size = v.s.data.toList.length := by rw [Array.length_toList]; rfl
      have hb : (UInt8.ofNat v.s.size).toNat = v.s.data.toList.length := by rw [byte_of_nat (by omega), hsz]
      rw [valB_2 h ht, ht, rdVal_2]
      simp only [List.cons_append, rdText, hb, List.take_left, List.length_append, List.length_cons, ba_of]
      rw [h1, decide_eq_true (by omega)]
      simp only [Bool.and_self, if_true]
      rw [← h2]
  · intro s v k h
    by_cases h1 : ty = 1
    · subst h1
      rw [rdVal_1] at h
      cases hr : rdNum s with
      | none => rw [hr] at h; cases h
      | some p =>
        obtain ⟨n, m⟩ := p
        rw [hr] at h
        simp only [Option.map_some, Option.some.injEq, Prod.mk.injEq] at h
        obtain ⟨rfl, rfl⟩ := h
        obtain ⟨g1, -, -, g4, g5⟩ := num_rdNum hr
        have hok := valOk_mk1 g1
        refine ⟨by simp [valOkT, hok], ?_, ?_⟩
        · rw [valB_1 hok rfl]; exact g4
        · rw [valB_1 hok rfl]; exact g5
    · by_cases h2 : ty = 2
      · subst h2
        rw [rdVal_2] at h
        cases s with
        | nil => cases h
        | cons c r =>
          simp only [rdText] at h
          split at h
          · rename_i hc
            simp only [Bool.and_eq_true, decide_eq_true_eq] at hc
            simp only [Option.some.injEq, Prod.mk.injEq] at h
            obtain ⟨rfl, rfl⟩ := h
            have hok := valOk_mk2 hc.2
            have hb := valB_2 hok rfl
            have hsz : (⟨(r.take c.toNat).toArray⟩ : ByteArray).size = c.toNat := by simp [ByteArray.size]; omega
            rw [hsz, ba_list, show UInt8.ofNat c.toNat = c by simp] at hb
            refine ⟨by simp [valOkT, hok], ?_, ?_⟩
            · rw [hb]; simp; omega
            · rw [hb]; simp
          · cases h
      · rw [rdVal_no h1 h2] at h
        cases h
/-- Reading at a place. -/
def getVal (b : List UInt8) (p ty : Int) : V × Int × Bool := if p < 0 then (V.zero, 0, false) else match rdVal ty (b.drop p.toNat) with
  | none => (V.zero, 0, false)
  | some (v, k) => (v, p + k, true)
theorem getVal_neg {l : List UInt8} {p ty : Int} (h : p < 0) : getVal l p ty = (V.zero, 0, false) := by rw [getVal, if_pos h]
theorem getVal_none {l : List UInt8} {p : Nat} {ty : Int} (h : rdVal ty (l.drop p) = none) : getVal l (p : Int) ty = (V.zero, 0, false) := by rw [getVal, if_neg (by omega), Int.toNat_natCast, h]
theorem getVal_some {l : List UInt8} {p : Nat} {ty : Int} {v : V} {k : Nat} (h : rdVal ty (l.drop p) = some (v, k)) : getVal l (p : Int) ty = (v, ((p + k : Nat) : Int), true) := by rw [getVal, if_neg (by omega), Int.toNat_natCast, h]; rfl

def encPlain (l : List V) : List UInt8 := if typeOf l = 0 then [] else l.flatMap valB
theorem encPlain_no {l : List V} (h : typeOf l = 0) : encPlain l = [] := by rw [encPlain, if_pos h]
theorem encPlain_yes {l : List V} (h : typeOf l ≠ 0) : encPlain l = l.flatMap valB := by rw [encPlain, if_neg h]
theorem flatV_len (l : List V) : (l.flatMap valB).length ≤ 7 * l.length := by
  induction l with
  | nil => simp
  | cons a l ih =>
    have := valB_len a
    simp only [List.flatMap_cons, List.length_append, List.length_cons]
    omega
theorem encPlain_len (l : List V) : (encPlain l).length ≤ 448 := by
  by_cases h : typeOf l = 0
  · rw [encPlain_no h]; simp
  · rw [encPlain_yes h]
    have := flatV_len l
    have := typeOf_len64 rfl h
    omega
theorem typeOf_nil : typeOf [] = 0 := rfl
/-- One type and every value right: the type of the list. -/
theorem typeOf_all {l : List V} {ty : Int} (h : l.all (valOkT ty) = true) (h0 : 1 ≤ l.length) (h1 : l.length ≤ 64) : typeOf l = ty := by
  cases l with
  | nil => simp at h0
  | cons a r =>
    have hm : ∀ v ∈ a :: r, valOk v = true ∧ v.ty = ty := fun v hv => by
      rw [List.all_eq_true] at h
      have := h v hv
      simpa [valOkT] using this
    have ha := (hm a (by simp)).2
    refine (typeOf_good (a := a) rfl (inR_of (by omega) (by omega)) ?_).trans ha
    rw [List.take_length, List.any_eq_false]
    intro v hv
    obtain ⟨g1, g2⟩ := hm v hv
    simp [tyBad, g1, g2, ha]
theorem all_typeOf {l : List V} {ty : Int} (h : typeOf l = ty) (ht : ty ≠ 0) : l.all (valOkT ty) = true := by
  rw [List.all_eq_true]
  intro v hv
  obtain ⟨g1, g2⟩ := typeOf_mem h ht v hv
  simp [valOkT, g1, g2]
theorem typeOf_12 {l : List V} (h : typeOf l ≠ 0) : typeOf l = 1 ∨ typeOf l = 2 := by
  cases l with
  | nil => exact absurd rfl h
  | cons a r =>
    obtain ⟨g1, g2⟩ := typeOf_mem rfl h a (by simp)
    rw [← g2]
    exact valOk_ty g1
theorem typeOf_pos {l : List V} (h : typeOf l ≠ 0) : 1 ≤ l.length := by
  cases l with
  | nil => exact absurd rfl h
  | cons a r => simp
def decPlain (b : List UInt8) (ty k : Int) : Option (List V) := if inR k 1 64 then match rdL (rdVal ty) k.toNat b with
    | some (l, m) => if m = b.length then some l else none
    | none => none
  else none
theorem decPlain_k {b : List UInt8} {ty k : Int} (h : inR k 1 64 = false) : decPlain b ty k = none := by rw [decPlain, if_neg (by simp [h])]
theorem decPlain_none {b : List UInt8} {ty : Int} {k : Nat} (h : rdL (rdVal ty) k b = none) : decPlain b ty k = none := by
  rw [decPlain]
  simp only [Int.toNat_natCast, h]
  split <;> rfl
theorem decPlain_some {b : List UInt8} {ty : Int} {k m : Nat} {l : List V} (hk : inR (k : Int) 1 64 = true) (h : rdL (rdVal ty) k b = some (l, m)) : decPlain b ty k = if m = b.length then some l else none := by
  rw [decPlain, if_pos hk]
  simp only [Int.toNat_natCast, h]
theorem enc_decPlain {b : List UInt8} {ty k : Int} {l : List V} (h : decPlain b ty k = some l) : encPlain l = b ∧ (l.length : Int) = k ∧ typeOf l = ty ∧ inR k 1 64 = true := by
  cases hk : inR k 1 64
  · rw [decPlain_k hk] at h; cases h
  · have hr := inR_yes hk
    obtain ⟨k, rfl⟩ := Int.eq_ofNat_of_zero_le (show 0 ≤ k by omega)
    cases hd : rdL (rdVal ty) k b with
    | none => rw [decPlain_none hd] at h; cases h
    | some p =>
      obtain ⟨q, m⟩ := p
      rw [decPlain_some hk hd] at h
      split at h
      · rename_i hm
        injection h with h
        subst h
        obtain ⟨g1, g2, g3, g4⟩ := rdL_wr (codec_val ty) hd
        have ht : typeOf q = ty := typeOf_all g2 (by omega) (by omega)
        have ht0 : typeOf q ≠ 0 := by
          cases q with
          | nil => simp at g1; omega
          | cons a r =>
            have := List.all_eq_true.1 g2 a (by simp)
            simp only [valOkT, Bool.and_eq_true, decide_eq_true_eq] at this
            have := valOk_ty this.1
            omega
        refine ⟨?_, by omega, ht, rfl⟩
        rw [encPlain_yes ht0]
        rw [hm, List.drop_length, List.append_nil] at g4
        exact g4.symm
      · cases h
theorem dec_encPlain {l : List V} (h : typeOf l ≠ 0) : decPlain (encPlain l) (typeOf l) l.length = some l := by
  have h1 := rdL_rd (codec_val (typeOf l)) l [] (all_typeOf rfl h)
  rw [List.append_nil] at h1
  rw [encPlain_yes h, decPlain_some (inR_of (by have := typeOf_pos h; omega) (by have := typeOf_len64 rfl h; omega)) h1, if_pos rfl]
/-- What the program asks: the values' encoding is these bytes. -/
theorem decPlain_impl {b : List UInt8} {ty : Int} {k : Nat} (hk : inR (k : Int) 1 64 = true) {l : List V} (hl : l = ((rdL (rdVal ty) k b).map Prod.fst).getD []) :
    (decide ((l.length : Int) = (k : Int)) && eqd b (encPlain l)) = (decPlain b ty k).isSome ∧ ((decPlain b ty k).isSome = true → decPlain b ty k = some l) := by
  have hr := inR_yes hk
  cases hd : rdL (rdVal ty) k b with
  | none =>
    rw [hd] at hl
    simp only [Option.map_none, Option.getD_none] at hl
    subst hl
    rw [decPlain_none hd, decide_eq_false (by simp only [List.length_nil]; omega)]
    simp
  | some p =>
    obtain ⟨q, m⟩ := p
    rw [hd] at hl
    simp only [Option.map_some, Option.getD_some] at hl
    subst hl
    obtain ⟨g1, g2, g3, g4⟩ := rdL_wr (codec_val ty) hd
    rw [decPlain_some hk hd, g1, decide_eq_true rfl, Bool.true_and]
    have ht : typeOf l = ty := typeOf_all g2 (by omega) (by omega)
    have ht0 : typeOf l ≠ 0 := by
      cases l with
      | nil => simp at g1; omega
      | cons a r =>
        have := List.all_eq_true.1 g2 a (by simp)
        simp only [valOkT, Bool.and_eq_true, decide_eq_true_eq] at this
        have := valOk_ty this.1
        omega
    rw [encPlain_yes ht0]
    by_cases hm : m = b.length
    · rw [if_pos hm]
      rw [hm, List.drop_length, List.append_nil] at g4
      simp [eqd, ← g4]
    · rw [if_neg hm]
      have hne : b ≠ l.flatMap valB := fun e => by rw [← e] at g3; exact hm g3
      simp [eqd, hne]
end Go.Lb
namespace Go.Lb
/-- The number with these bits below n. -/
def natOf (g : Nat → Bool) : Nat → Nat
  | 0 => 0
  | n + 1 => (if g n then 2 ^ n else 0) + natOf g n
theorem natOf_lt (g : Nat → Bool) : ∀ n, natOf g n < 2 ^ n
  | 0 => by simp [natOf]
  | n + 1 => by
    have := natOf_lt g n
    rw [natOf, Nat.pow_succ]
    split <;> omega
theorem natOf_bit (g : Nat → Bool) (n i : Nat) : (natOf g n).testBit i = (decide (i < n) && g i) := by
  induction n with
  | zero => simp [natOf]
  | succ n ih =>
    have hl := natOf_lt g n
    rw [natOf]
    by_cases hg : g n = true
    · rw [if_pos hg]
      rcases Nat.lt_trichotomy i n with h | h | h
      · rw [Nat.testBit_two_pow_add_gt h, ih]
        simp [h, Nat.lt_succ_of_lt h]
      · subst h
        rw [Nat.testBit_two_pow_add_eq, Nat.testBit_lt_two_pow hl]
        simp [hg]
      · rw [Nat.testBit_lt_two_pow (i := i) (Nat.lt_of_lt_of_le (show 2 ^ n + natOf g n < 2 ^ (n + 1) by rw [Nat.pow_succ]; omega) (Nat.pow_le_pow_right (by decide) h))]
        simp; omega
    · rw [if_neg hg, Nat.zero_add, ih]
      by_cases h : i = n
      · subst h; simp [hg]
      · have : decide (i < n + 1) = decide (i < n) := by simp only [decide_eq_decide]; omega
        rw [this]
theorem natOf_ext {g h : Nat → Bool} {n : Nat} (e : ∀ i, i < n → g i = h i) : natOf g n = natOf h n := by
  apply Nat.eq_of_testBit_eq
  intro i
  rw [natOf_bit, natOf_bit]
  by_cases hi : i < n
  · simp [hi, e i hi]
  · simp [hi]
theorem natOf_self {x n : Nat} (h : x < 2 ^ n) : natOf x.testBit n = x := by
  apply Nat.eq_of_testBit_eq
  intro i
  rw [natOf_bit]
  by_cases hi : i < n
  · simp [hi]
  · simp [hi]
    exact Nat.testBit_lt_two_pow (Nat.lt_of_lt_of_le h (Nat.pow_le_pow_right (by decide) (by omega)))
theorem getD_in {α : Type} {l : List α} {i : Nat} {d : α} (h : i < l.length) : l.getD i d = l[i] := by
  rw [List.getD_eq_getElem?_getD, List.getElem?_eq_getElem h]
  rfl
def bitB (c : UInt8) (t : Nat) : Bool := c.toNat.testBit t
theorem bitB_high {c : UInt8} {t : Nat} (h : 8 ≤ t) : bitB c t = false := Nat.testBit_lt_two_pow (Nat.lt_of_lt_of_le c.toNat_lt (Nat.pow_le_pow_right (by decide) h))
theorem bitB_ext {a b : UInt8} (h : ∀ t, t < 8 → bitB a t = bitB b t) : a = b := by
  apply UInt8.toNat_inj.1
  apply Nat.eq_of_testBit_eq
  intro i
  by_cases hi : i < 8
  · exact h i hi
  · exact (bitB_high (by omega)).trans (bitB_high (by omega)).symm
def byteOf (g : Nat → Bool) : UInt8 := UInt8.ofNat (natOf g 8)
theorem byteOf_nat (g : Nat → Bool) : (byteOf g).toNat = natOf g 8 := byte_of_nat (natOf_lt g 8)
theorem bitB_byteOf (g : Nat → Bool) (t : Nat) : bitB (byteOf g) t = (decide (t < 8) && g t) := by rw [bitB, byteOf_nat, natOf_bit]
/-- Bit n of some bytes. -/
def bitL (b : List UInt8) (n : Nat) : Bool := bitB (b.getD (n / 8) 0) (n % 8)
theorem bitL_far {b : List UInt8} {n : Nat} (h : 8 * b.length ≤ n) : bitL b n = false := by
  rw [bitL, List.getD_eq_getElem?_getD, List.getElem?_eq_none (by omega)]
  simp [bitB]
theorem bitL_ext {a b : List UInt8} (hl : a.length = b.length) (h : ∀ n, n < 8 * a.length → bitL a n = bitL b n) : a = b := by
  apply List.ext_getElem hl
  intro j h1 h2
  apply bitB_ext
  intro t ht
  have h3 := h (8 * j + t) (by omega)
  simp only [bitL, show (8 * j + t) / 8 = j by omega, show (8 * j + t) % 8 = t by omega] at h3
  rwa [getD_in h1, getD_in h2] at h3
/-- m bytes with the bits f, of which those below n alone. -/
def packM (f : Nat → Bool) (m n : Nat) : List UInt8 := (List.range m).map fun j => byteOf fun t => decide (8 * j + t < n) && f (8 * j + t)
theorem packM_len (f : Nat → Bool) (m n : Nat) : (packM f m n).length = m := by simp [packM]
theorem packM_get (f : Nat → Bool) {m n j : Nat} (h : j < m) : (packM f m n)[j]? = some (byteOf fun t => decide (8 * j + t < n) && f (8 * j + t)) := by simp [packM, h]
theorem packM_bit (f : Nat → Bool) (m n i : Nat) : bitL (packM f m n) i = (decide (i < 8 * m) && (decide (i < n) && f i)) := by
  by_cases h : i < 8 * m
  · have hj : i / 8 < m := by omega
    rw [bitL, List.getD_eq_getElem?_getD, packM_get f hj, Option.getD_some, bitB_byteOf, show 8 * (i / 8) + i % 8 = i by omega]
    simp [h, Nat.mod_lt]
  · rw [bitL_far (by rw [packM_len]; omega)]
    simp [h]
theorem packM_more {f : Nat → Bool} {m n : Nat} (h : n ≤ 8 * m) : packM f m n ++ [0] = packM f (m + 1) n := by
  apply bitL_ext (by simp [packM_len])
  intro i hi
  simp only [List.length_append, packM_len, List.length_cons, List.length_nil] at hi
  rw [packM_bit]
  by_cases h1 : i < 8 * m
  · have : bitL (packM f m n ++ [0]) i = bitL (packM f m n) i := by
      simp only [bitL, List.getD_eq_getElem?_getD]
      rw [List.getElem?_append_left (by rw [packM_len]; omega)]
    rw [this, packM_bit]
    simp [h1, show i < 8 * (m + 1) by omega]
  · have : bitL (packM f m n ++ [0]) i = false := by
      simp only [bitL, List.getD_eq_getElem?_getD]
      rw [List.getElem?_append_right (by rw [packM_len]; omega), packM_len, show i / 8 - m = 0 by omega]
      simp [bitB]
    rw [this, decide_eq_false (show ¬ i < n by omega)]
    simp
/-- One bit more. -/
theorem packM_set {f : Nat → Bool} {m n : Nat} {old c : UInt8} (hn : n < 8 * m) (ho : (packM f m n)[n / 8]? = some old) (hc : c.toNat = old.toNat ||| (if f n then 2 ^ (n % 8) else 0)) : packM f m (n + 1) = (packM f m n).set (n / 8) c := by
  have hb : ∀ t, bitB c t = (bitB old t || (decide (t = n % 8) && f n)) := fun t => by
    rw [bitB, hc, Nat.testBit_or]
    congr 1
    by_cases hf : f n = true
    · rw [if_pos hf, Nat.testBit_two_pow, hf, Bool.and_true]
      exact decide_eq_decide.2 eq_comm
    · simp [hf]
  rw [packM_get f (by omega)] at ho
  injection ho with ho
  apply bitL_ext (by simp [packM_len])
  intro i hi
  rw [packM_len] at hi
  rw [packM_bit]
  by_cases h1 : i / 8 = n / 8
  · have e : bitL ((packM f m n).set (n / 8) c) i = bitB c (i % 8) := by
      rw [bitL, h1, List.getD_eq_getElem?_getD, List.getElem?_set_self (by rw [packM_len]; omega)]
      rfl
    rw [e, hb, ← ho, bitB_byteOf, ← h1, show 8 * (i / 8) + i % 8 = i by omega]
    by_cases h2 : i = n
    · subst h2; simp [hi, Nat.mod_lt]
    · rw [decide_eq_false (show ¬ i % 8 = n % 8 by omega), show decide (i < n + 1) = decide (i < n) by simp only [decide_eq_decide]; omega]
      simp [hi, Nat.mod_lt]
  · have e : bitL ((packM f m n).set (n / 8) c) i = bitL (packM f m n) i := by
      simp only [bitL, List.getD_eq_getElem?_getD]
      rw [List.getElem?_set_ne (by omega)]
    rw [e, packM_bit, show decide (i < n + 1) = decide (i < n) by simp only [decide_eq_decide]; omega]
theorem packM_skip {f : Nat → Bool} {m n : Nat} (h : f n = false) : packM f m (n + 1) = packM f m n := by
  apply bitL_ext (by simp [packM_len])
  intro i _
  rw [packM_bit, packM_bit]
  by_cases h1 : i = n
  · subst h1; simp [h]
  · rw [show decide (i < n + 1) = decide (i < n) by simp only [decide_eq_decide]; omega]
theorem packM_zero (f : Nat → Bool) (m : Nat) : packM f m 0 = List.replicate m 0 := by
  apply bitL_ext (by simp [packM_len])
  intro i hi
  rw [packM_bit]
  simp only [bitL, List.getD_eq_getElem?_getD, List.getElem?_replicate]
  split <;> simp [bitB]

/-- How many halvings till nothing is left. -/
def bl (x : Nat) : Nat := if x = 0 then 0 else bl (x / 2) + 1
termination_by x
decreasing_by omega
theorem bl_zero : bl 0 = 0 := by rw [bl, if_pos rfl]
theorem bl_pos {x : Nat} (h : x ≠ 0) : bl x = bl (x / 2) + 1 := by rw [bl, if_neg h]
theorem bl_le {x w : Nat} : bl x ≤ w ↔ x < 2 ^ w := by
  induction x using Nat.strongRecOn generalizing w with
  | _ x ih =>
    by_cases h : x = 0
    · subst h
      rw [bl_zero]
      simp [Nat.two_pow_pos]
    · rw [bl_pos h]
      cases w with
      | zero => simp; omega
      | succ w =>
        have := ih (x / 2) (by omega) (w := w)
        rw [Nat.pow_succ]
        omega
theorem bl_max {x : Nat} (h : x < 2147483648) : bl x ≤ 31 := bl_le.2 h
def widthOf (n : Int) : Nat := if inR n 1 2147483647 then bl n.toNat else 0
theorem widthOf_le (n : Int) : widthOf n ≤ 31 := by
  unfold widthOf
  split
  · rename_i h
    have := inR_yes h
    exact bl_max (by omega)
  · omega
/-- A number that can be packed in w bits. -/
theorem widthOf_iff {n : Int} {w : Nat} (h : inR n 0 2147483647 = true) : widthOf n ≤ w ↔ n.toNat < 2 ^ w := by
  have hr := inR_yes h
  unfold widthOf
  split
  · exact bl_le
  · rename_i h1
    have := inR_no (Bool.not_eq_true _ ▸ h1)
    rw [show n.toNat = 0 by omega]
    simp [Nat.two_pow_pos]
def widthFor (l : List Int) : Nat := l.foldl (fun w n => max w (widthOf n)) 0
theorem foldl_max_le {l : List Int} {a b : Nat} : l.foldl (fun w n => max w (widthOf n)) a ≤ b ↔ a ≤ b ∧ ∀ n ∈ l, widthOf n ≤ b := by
  induction l generalizing a with
  | nil => simp
  | cons x l ih =>
    rw [List.foldl_cons, ih]
    simp only [List.mem_cons, forall_eq_or_imp]
    rw [Nat.max_le, and_assoc]
theorem widthFor_le (l : List Int) : widthFor l ≤ 31 := foldl_max_le.2 ⟨by omega, fun n _ => widthOf_le n⟩
theorem widthFor_mem {l : List Int} {n : Int} (h : n ∈ l) : widthOf n ≤ widthFor l := (foldl_max_le.1 (Nat.le_refl (widthFor l))).2 n h
theorem widthFor_step {l : List Int} {i : Nat} {n : Int} (h : l[i]? = some n) : widthFor (l.take (i + 1)) = max (widthFor (l.take i)) (widthOf n) := by
  unfold widthFor
  rw [take_of_get h, List.foldl_append]
  rfl

def fitsW (w : Int) (n : Int) : Bool := inR n 0 2147483647 && decide ((widthOf n : Int) ≤ w)
def packOk (l : List Int) (w : Int) : Bool := inR w 0 31 && l.all (fitsW w)
def bitsOf (l : List Int) (w n : Nat) : Bool := ((l.getD (n / w) 0).toNat).testBit (n % w)
def packB (l : List Int) (w : Int) : List UInt8 := if packOk l w then packM (bitsOf l w.toNat) ((l.length * w.toNat + 7) / 8) (l.length * w.toNat) else []
def bytesFor (k w : Int) : Int := if inR k 0 64 && inR w 0 31 then (k * w + 7) / 8 else 0
def bitAt (b : List UInt8) (n : Int) : Int := if n < 0 then 0 else if bitL b n.toNat then 1 else 0
def numAt (b : List UInt8) (w i : Nat) : Int := (natOf (fun j => bitL b (i * w + j)) w : Nat)
def numsAt (b : List UInt8) (w k : Nat) : List Int := (List.range k).map (numAt b w)
def clearFrom (b : List UInt8) (n : Nat) : Prop := ∀ i, n ≤ i → i < 8 * b.length → bitL b i = false
def unpackOk (b : List UInt8) (w k : Int) : Prop := inR w 0 31 = true ∧ inR k 0 64 = true ∧ (b.length : Int) = bytesFor k w ∧ clearFrom b (k.toNat * w.toNat)
theorem packB_len {l : List Int} {w : Int} (h : packOk l w = true) : (packB l w).length = (l.length * w.toNat + 7) / 8 := by rw [packB, if_pos h, packM_len]
theorem packOk_w {l : List Int} {w : Int} (h : packOk l w = true) : 0 ≤ w ∧ w ≤ 31 := by
  simp only [packOk, Bool.and_eq_true] at h
  exact inR_yes h.1
theorem packOk_mem {l : List Int} {w n : Int} (h : packOk l w = true) (hn : n ∈ l) : (0 ≤ n ∧ n ≤ 2147483647) ∧ n.toNat < 2 ^ w.toNat := by
  have hw := packOk_w h
  simp only [packOk, Bool.and_eq_true, List.all_eq_true] at h
  have h1 := h.2 n hn
  simp only [fitsW, Bool.and_eq_true, decide_eq_true_eq] at h1
  exact ⟨inR_yes h1.1, (widthOf_iff h1.1).1 (by omega)⟩
theorem div_lt_of_mul {i w n : Nat} (h : i < n * w) : i / w < n := by
  rcases Nat.eq_zero_or_pos w with h0 | h0
  · subst h0; simp at h
  · exact (Nat.div_lt_iff_lt_mul h0).2 h
/-- What is packed is unpacked. -/
theorem numsAt_pack {l : List Int} {w : Int} (h : packOk l w = true) : numsAt (packB l w) w.toNat l.length = l := by
  apply List.ext_getElem?
  intro i
  simp only [numsAt, List.getElem?_map]
  by_cases hi : i < l.length
  · have hm := packOk_mem h (List.getElem_mem hi)
    rw [List.getElem?_range hi, List.getElem?_eq_getElem hi, Option.map_some, numAt]
    congr 1
    have e : natOf (fun j => bitL (packB l w) (i * w.toNat + j)) w.toNat = (l[i]).toNat := by
      rw [← natOf_self hm.2]
      refine natOf_ext fun j hj => ?_
      have hlt : i * w.toNat + j < l.length * w.toNat := Nat.lt_of_lt_of_le (show i * w.toNat + j < (i + 1) * w.toNat by rw [Nat.add_mul]; omega) (Nat.mul_le_mul_right _ hi)
      have hd : (i * w.toNat + j) / w.toNat = i := by rw [Nat.mul_comm, Nat.mul_add_div (by omega), Nat.div_eq_of_lt hj]; rfl
      have hr : (i * w.toNat + j) % w.toNat = j := by rw [Nat.mul_comm, Nat.mul_add_mod, Nat.mod_eq_of_lt hj]
      rw [packB, if_pos h, packM_bit, bitsOf, hd, hr, getD_in hi]
      simp [hlt]
      omega
    rw [e]
    omega
  · have e1 : (List.range l.length)[i]? = none := List.getElem?_eq_none (by simp; omega)
    have e2 : l[i]? = none := List.getElem?_eq_none (by omega)
    rw [e1, e2]
    rfl
theorem clear_pack {l : List Int} {w : Int} (h : packOk l w = true) : clearFrom (packB l w) (l.length * w.toNat) := fun i h1 _ => by
  rw [packB, if_pos h, packM_bit, decide_eq_false (by omega : ¬ i < l.length * w.toNat)]
  simp
theorem bytesFor_nat {k w : Nat} (hk : k ≤ 64) (hw : w ≤ 31) : bytesFor (k : Int) (w : Int) = (((k * w + 7) / 8 : Nat) : Int) := by
  rw [bytesFor, inR_of (show (0 : Int) ≤ k by omega) (by omega), inR_of (show (0 : Int) ≤ w by omega) (by omega)]
  simp
theorem unpackOk_pack {l : List Int} {w : Int} (h : packOk l w = true) (hl : l.length ≤ 64) : unpackOk (packB l w) w l.length := by
  have hw := packOk_w h
  refine ⟨inR_of hw.1 hw.2, inR_of (by omega) (by omega), ?_, by simpa using clear_pack h⟩
  obtain ⟨n, rfl⟩ := Int.eq_ofNat_of_zero_le hw.1
  have := packB_len h
  rw [this]
  exact (bytesFor_nat hl (by omega)).symm
/-- What is unpacked was packed. -/
theorem pack_unpack {b : List UInt8} {w k : Int} (h : unpackOk b w k) : packOk (numsAt b w.toNat k.toNat) w = true ∧ packB (numsAt b w.toNat k.toNat) w = b ∧ (numsAt b w.toNat k.toNat).length = k.toNat := by
  obtain ⟨h1, h2, h3, h4⟩ := h
  have hw := inR_yes h1
  have hk := inR_yes h2
  obtain ⟨w, rfl⟩ := Int.eq_ofNat_of_zero_le hw.1
  obtain ⟨k, rfl⟩ := Int.eq_ofNat_of_zero_le hk.1
  simp only [Int.toNat_natCast] at *
  rw [bytesFor_nat (by omega) (by omega)] at h3
  have hlen : (numsAt b w k).length = k := by simp [numsAt]
  have hok : packOk (numsAt b w k) w = true := by
    simp only [packOk, Bool.and_eq_true, List.all_eq_true]
    refine ⟨h1, fun n hn => ?_⟩
    simp only [numsAt, List.mem_map] at hn
    obtain ⟨i, -, rfl⟩ := hn
    have hlt := natOf_lt (fun j => bitL b (i * w + j)) w
    have hp : 2 ^ w ≤ 2 ^ 31 := Nat.pow_le_pow_right (by decide) (by omega)
    have hin : inR (numAt b w i) 0 2147483647 = true := inR_of (by unfold numAt; omega) (by unfold numAt; omega)
    simp only [fitsW, Bool.and_eq_true, decide_eq_true_eq]
    refine ⟨hin, ?_⟩
    have := (widthOf_iff (w := w) hin).2 (by simpa [numAt] using hlt)
    omega
  refine ⟨hok, ?_, hlen⟩
  apply bitL_ext (by rw [packB_len hok, hlen]; simp; omega)
  intro i hi
  rw [packB_len hok, hlen, Int.toNat_natCast] at hi
  rw [packB, if_pos hok, packM_bit, hlen, Int.toNat_natCast]
  by_cases h5 : i < k * w
  · have hd := div_lt_of_mul h5
    have hw0 : 0 < w := by
      rcases Nat.eq_zero_or_pos w with h0 | h0
      · subst h0; simp at h5
      · exact h0
    have hm := Nat.mod_lt i hw0
    rw [bitsOf, List.getD_eq_getElem?_getD]
    simp only [numsAt, List.getElem?_map, List.getElem?_range hd, Option.map_some, Option.getD_some, numAt, Int.toNat_natCast, natOf_bit]
    have e : i / w * w + i % w = i := Nat.div_add_mod' i w
    rw [e]
    simp [hi, h5, hm]
  · have := h4 i (by omega) (by omega)
    rw [this]
    simp [h5]
theorem clear_of_none {b : List UInt8} {n : Nat} (h : 8 * b.length ≤ n) : clearFrom b n := fun i h1 h2 => by omega
end Go.Lb
