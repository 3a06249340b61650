/- Columns of rows: contracts. -/
import Derived.Test.YtidmlfjolhnnfaaGreatDoorXA
import Derived.Test.YtidmlfjolhnnfaaGreatDoorXL
namespace Go.Proofs.YtidmlfjolhnnfaaGreatDoor
open Go.Sort Go.ChangeShapes Go.WideShapes Go.ChangeAt Go.RowKit Go.Lb

def colAt (k : Int) (r : R) : Option V := if 0 ≤ k then r.l[k.toNat]? else none
def column (l : List R) (k : Int) : List V := l.filterMap (colAt k)
theorem col_step {l : List R} {k : Int} {i : Nat} {y : R} (h : l[i]? = some y) : (l.take (i + 1)).filterMap (colAt k) = (l.take i).filterMap (colAt k) ++ (colAt k y).toList := by
  rw [take_of_get h, List.filterMap_append]
  cases hc : colAt k y <;> simp [hc]
theorem colAt_in {y : R} {j : Nat} {v : V} (h : y.l[j]? = some v) : colAt (j : Int) y = some v := by simp [colAt, h]
theorem colAt_out {y : R} {k : Int} (h : inR k 0 ((y.l.length : Int) - 1) = false) : colAt k y = none := by
  unfold colAt
  split
  · rcases inR_no h with h1 | h1
    · omega
    · exact List.getElem?_eq_none (by omega)
  · rfl
theorem column_len (l : List R) (k : Int) : (column l k).length ≤ l.length := List.length_filterMap_le _ _

set_option maxRecDepth 20000 in
set_option maxHeartbeats 1000000 in
theorem spec_Column (l : List R) (x : Value) (k : Int) (w : World) {lo hi : Nat} (hx : RdR w lo hi x l) (hhi : hi ≤ w.heap.size) (hn : l.length ≤ 1048576) :
    Calls Tryz.prog 26 #[x, .int .i64 k] w fun e w' => ∃ v, e = .returned v ∧ Own 25 3 w' w.heap.size w'.heap.size v (column l k).length ((column l k).flatMap V.cells) ∧ Below w.heap.size w w' := by
  obtain ⟨A, c, rfl, hl, hl2⟩ := hx.form
  obtain ⟨i0, hif, hz0, hz1, hz2⟩ := info_parts info_val
  have hif := Lib.hid hif
  have hz0 := Lib.hid hz0
  have hz1 := Lib.hid hz1
  have hz2 := Lib.hid hz2
  have own0 := World.ownsRow_made w (base := w.heap.size) (e := 25) (size := 3) #[] 0 (Nat.le_refl _) (by decide) rfl
  go_enter Tryz.func26, Tryz.ntmps26
  go_wp2_with fail
  go_loopw [5, 6] (fun o i wr => ∃ (q : Nat) (xs : List V), i = .int .i64 q ∧ q ≤ l.length ∧ xs.length ≤ q ∧ xs = (l.take q).filterMap (colAt k) ∧ wr.ownsRow w.heap.size 25 3 o xs.length (xs.flatMap V.cells) ∧ Below w.heap.size w wr) (fun _ i _ => l.length - (intOf i).toNat)
  case atStart => exact ⟨0, [], rfl, by omega, by simp, by simp, own0, (Below.refl _ _).alloc (Nat.le_refl _) _⟩
  case round =>
    obtain ⟨q, xs, rfl, hq, hxl, hxs, hown, hb⟩ := hrel
    have Hxs := Lib.hid hxs
    clear hxs
    by_cases hql : q < l.length
    · obtain ⟨b, off, y, sv, rfl, -, hbl, hyk, e0, e1, hr⟩ := (hx.below hb hhi).at hql
      obtain ⟨As, cs, rfl, hsl, hsm⟩ := hr.form
      have Hy := Lib.hid (col_step (k := k) hyk)
      have hbs := hb.size
      have hi1 : IntKind.i64.wrap ((y.l.length : Int) - 1) = (y.l.length : Int) - 1 := IntWalk.i64_in _ ⟨by omega, by omega⟩
      clear hyk
      cases hI : inR k 0 ((y.l.length : Int) - 1)
      · have Ht := Lib.hid (show (l.take (q + 1)).filterMap (colAt k) = xs by rw [Hy.out, colAt_out hI, Hxs.out]; simp)
        have Hown := Lib.hid hown
        clear hr hown
        go_wp2_with fail
        refine (q_spec_l1In _ _ _ _).mono ?_
        rintro e w1 ⟨rfl, rfl⟩
        rw [hI]
        go_wp2_with fail
        go_roundw
        case rel => exact ⟨q + 1, xs, by go_num, by omega, by omega, Ht.out.symm, Hown.out, hb⟩
        case measure => simp [intOf]; omega
      · obtain ⟨k0, k1⟩ := inR_yes hI
        obtain ⟨j, rfl⟩ : ∃ j : Nat, k = (j : Int) := ⟨k.toNat, by omega⟩
        have hjl : j < y.l.length := by omega
        obtain ⟨b2, off2, z, rfl, -, hbl2, hzk, v0, v1, v2⟩ := hr.at hjl
        have Ht := Lib.hid (show (l.take (q + 1)).filterMap (colAt (j : Int)) = xs ++ [z] by rw [Hy.out, colAt_in hzk, Hxs.out]; rfl)
        clear hr hzk k0 k1
        go_wp2_with fail
        refine (q_spec_l1In _ _ _ _).mono ?_
        rintro e w1 ⟨rfl, rfl⟩
        rw [hI]
        go_wp2_with (at_builtin; refine wpl_app rfl _ _ 48 rfl w.heap.size 25 i0 _ 3 32 Tryz.underlying48 hif.out hz0.out hz1.out hz2.out rfl (by decide) (by decide) (hown.alloc _) rfl (heap_alloc_new _ _) rfl rfl (by simp [Value.oneCell']) (by omega) (by simp; omega) ?_)
        intro v' w3 hown' hgrow hnb
        have hb3 := below_app (hb.alloc hb.size _) (hown.alloc _) hgrow (Nat.le_refl _)
        have Hown' := Lib.hid (show w3.ownsRow w.heap.size 25 3 v' (xs ++ [z]).length ((xs ++ [z]).flatMap V.cells) by
          rw [List.length_append, List.flatMap_append]
          simpa [V.cells] using hown')
        clear hown' hgrow hnb hown
        go_wp2_with fail
        go_roundw
        case rel => exact ⟨q + 1, xs ++ [z], by go_num, by omega, by simp; omega, Ht.out.symm, Hown'.out, hb3⟩
        case measure => simp [intOf]; omega
    · go_wp2_with fail
      go_ret
      obtain rfl : q = l.length := by omega
      have hp := Hxs.out
      rw [List.take_length] at hp
      refine ⟨_, rfl, ?_, hb⟩
      rw [show column l k = xs from hp.symm]
      exact .new hown
set_option maxRecDepth 20000 in
set_option maxHeartbeats 1000000 in
theorem impl_Column (l : List R) (x : Value) (k : Int) (w : World) {lo hi : Nat} (hx : RdR w lo hi x l) (hhi : hi ≤ w.heap.size) (hn : l.length ≤ 1048576) :
    Calls Tryz.prog 19 #[x, .int .i64 k] w fun e w' => ∃ v, e = .returned v ∧ Own 25 3 w' w.heap.size w'.heap.size v (column l k).length ((column l k).flatMap V.cells) ∧ Below w.heap.size w w' := by
  obtain ⟨A, c, rfl, hl, hl2⟩ := hx.form
  obtain ⟨i0, hif, hz0, hz1, hz2⟩ := info_parts info_val
  have hif := Lib.hid hif
  have hz0 := Lib.hid hz0
  have hz1 := Lib.hid hz1
  have hz2 := Lib.hid hz2
  have own0 := World.ownsRow_made w (base := w.heap.size) (e := 25) (size := 3) #[] 0 (Nat.le_refl _) (by decide) rfl
  go_enter Tryz.func19, Tryz.ntmps19
  go_wp2_with fail
  go_loopw [5, 11] (fun o i wr => ∃ (q : Nat) (xs : List V), i = .int .i64 q ∧ q ≤ l.length ∧ xs.length ≤ q ∧ xs = (l.take q).filterMap (colAt k) ∧ wr.ownsRow w.heap.size 25 3 o xs.length (xs.flatMap V.cells) ∧ Below w.heap.size w wr) (fun _ i _ => l.length - (intOf i).toNat)
  case atStart => exact ⟨0, [], rfl, by omega, by simp, by simp, own0, (Below.refl _ _).alloc (Nat.le_refl _) _⟩
  case round =>
    obtain ⟨q, xs, rfl, hq, hxl, hxs, hown, hb⟩ := hrel
    have Hxs := Lib.hid hxs
    clear hxs
    by_cases hql : q < l.length
    · obtain ⟨b, off, y, sv, rfl, -, hbl, hyk, e0, e1, hr⟩ := (hx.below hb hhi).at hql
      obtain ⟨As, cs, rfl, hsl, hsm⟩ := hr.form
      have Hy := Lib.hid (col_step (k := k) hyk)
      have hbs := hb.size
      have hup := up_a1 wr (.cells #[.int .i64 y.id, .slice As y.l.length cs] 51)
      have hr1 := hr.below hup (by omega)
      have Hup := Lib.hid hup
      clear hyk hr hup
      cases hI : inR k 0 ((y.l.length : Int) - 1)
      · have Ht := Lib.hid (show (l.take (q + 1)).filterMap (colAt k) = xs by rw [Hy.out, colAt_out hI, Hxs.out]; simp)
        have Hown := Lib.hid (hown.alloc (.cells #[.int .i64 y.id, .slice As y.l.length cs] 51))
        rcases inR_no hI with h | h
        · clear hr1 hown hI
          have h2 : ¬ (0 ≤ k) := by omega
          go_wp2_with fail
          go_roundw
          case rel => exact ⟨q + 1, xs, by go_num, by omega, by omega, Ht.out.symm, Hown.out, hb.trans (Hup.out.mono hb.size)⟩
          case measure => simp [intOf]; omega
        · by_cases h0 : 0 ≤ k
          · have h2 : ¬ (k < (y.l.length : Int)) := by omega
            clear hr1 hown hI
            go_wp2_with fail
            go_roundw
            case rel => exact ⟨q + 1, xs, by go_num, by omega, by omega, Ht.out.symm, Hown.out, hb.trans (Hup.out.mono hb.size)⟩
            case measure => simp [intOf]; omega
          · omega
      · obtain ⟨k0, k1⟩ := inR_yes hI
        obtain ⟨j, rfl⟩ : ∃ j : Nat, k = (j : Int) := ⟨k.toNat, by omega⟩
        have hjl : j < y.l.length := by omega
        obtain ⟨b2, off2, z, rfl, -, hbl2, hzk, v0, v1, v2⟩ := hr1.at hjl
        have Ht := Lib.hid (show (l.take (q + 1)).filterMap (colAt (j : Int)) = xs ++ [z] by rw [Hy.out, colAt_in hzk, Hxs.out]; rfl)
        clear hr1 hzk k0 k1 hI
        have hown1 := hown.alloc (.cells #[.int .i64 y.id, .slice (some ⟨b2, off2, none⟩) y.l.length cs] 51)
        clear hown
        go_wp2_with (at_builtin; refine wpl_app rfl _ _ 48 rfl w.heap.size 25 i0 _ 3 32 Tryz.underlying48 hif.out hz0.out hz1.out hz2.out rfl (by decide) (by decide) (hown1.alloc _) rfl ((by rw [← World.size_alloc (w := wr)]; exact heap_alloc_new _ _)) rfl rfl (by simp [Value.oneCell']) (by omega) (by simp; omega) ?_)
        intro v' w3 hown' hgrow hnb
        have hb3 := below_app ((hb.alloc hb.size _).alloc (by simp; omega) _) (hown1.alloc _) hgrow (Nat.le_refl _)
        have Hown' := Lib.hid (show w3.ownsRow w.heap.size 25 3 v' (xs ++ [z]).length ((xs ++ [z]).flatMap V.cells) by
          rw [List.length_append, List.flatMap_append]
          simpa [V.cells] using hown')
        clear hown' hgrow hnb hown1
        go_wp2_with fail
        go_roundw
        case rel => exact ⟨q + 1, xs ++ [z], by go_num, by omega, by simp; omega, Ht.out.symm, Hown'.out, hb3⟩
        case measure => simp [intOf]; omega
    · go_wp2_with fail
      go_ret
      obtain rfl : q = l.length := by omega
      have hp := Hxs.out
      rw [List.take_length] at hp
      refine ⟨_, rfl, ?_, hb⟩
      rw [show column l k = xs from hp.symm]
      exact .new hown
end Go.Proofs.YtidmlfjolhnnfaaGreatDoor
