/- Values written one behind the other: contracts. -/
import Derived.Test.YticimccfeohpcaaGreatEA
import Derived.Test.YticimccfeohpcaaGreatXF
import Derived.Test.YticimccfeohpcaaGreatXA
namespace Go.Lb
theorem flatV_take {l : List V} {j : Nat} {y : V} (h : l[j]? = some y) : (l.take (j + 1)).flatMap valB = (l.take j).flatMap valB ++ valB y := by
  rw [take_of_get h, List.flatMap_append]
  simp
theorem flatV_len7 (l : List V) (j : Nat) (h : l.length ≤ 64) : ((l.take j).flatMap valB).length ≤ 448 := by
  have := flatV_len (l.take j)
  rw [List.length_take] at this
  omega
end Go.Lb
namespace Go.Proofs.YticimccfeohpcaaGreat
open Go.Sort Go.ChangeShapes Go.WideShapes Go.ChangeAt Go.RowKit Go.Lb
set_option maxHeartbeats 4000000 in
set_option maxRecDepth 20000 in
theorem spec_EncPlain (l : List V) (x : Value) (w : World) {lo hi : Nat} (hx : RdV w lo hi x l) (hhi : hi ≤ w.heap.size) (hs : ∀ v ∈ l, v.s.size ≤ maxLen) :
    Calls Tryz.prog 96 #[x] w fun e w' => ∃ r, e = .returned r ∧ Own 5 1 w' w.heap.size w'.heap.size r (encPlain l).length (bc (encPlain l)) ∧ Below w.heap.size w w' := by
  obtain ⟨A, c, rfl, hl, hl2⟩ := hx.form
  have hb0 := up_a1 w (.cells #[] 5)
  have own0 := World.ownsRow_made w (base := w.heap.size) (e := 5) (size := 1) #[] 0 (Nat.le_refl _) (by decide) rfl
  have Own0 := Lib.hid (Own.new own0)
  clear own0
  have hx0 := hx.below hb0 hhi
  have hsz0 := hb0.size
  go_enter Tryz.func96, Tryz.ntmps96
  go_wp2_with fail
  obtain ⟨W0, hW0⟩ : ∃ W0, (w.alloc (.cells #[] 5)) = W0 := ⟨_, rfl⟩
  rw [hW0] at hb0 Own0 hx0 hsz0 ⊢
  clear hW0 hx
  have hT := spec_TypeOf l _ W0 hx0 (Nat.le_trans hhi hsz0) hs
  by_cases h0 : typeOf l = 0
  · rw [h0] at hT
    have HT := Lib.hid hT
    have HE := Lib.hid (encPlain_no h0)
    clear hT h0
    refine HT.out.mono ?_
    rintro e w1 ⟨rfl, hb1⟩
    have HO := Lib.hid ((Own0.out.below hb1 (Nat.le_refl _)).more (Nat.le_refl _) hb1.size)
    have HB := Lib.hid (below_go0 hb0 hb1)
    clear hb1 hb0
    go_wp2_with fail
    go_ret
    exact ⟨_, rfl, by rw [HE.out]; exact HO.out, HB.out⟩
  · have hd : (typeOf l == 0) = false := by simp [h0]
    have h64 := typeOf_len64 rfl h0
    have HE := Lib.hid (encPlain_yes h0)
    obtain ⟨t, ht⟩ : ∃ t, typeOf l = t := ⟨_, rfl⟩
    rw [ht] at hT hd
    have HT := Lib.hid hT
    clear hT h0 ht
    refine HT.out.mono ?_
    rintro e w1 ⟨rfl, hb1⟩
    have HO := Lib.hid ((Own0.out.below hb1 (Nat.le_refl _)).more (Nat.le_refl _) hb1.size)
    have hb := below_go0 hb0 hb1
    have hx1 := hx0.below hb1 (Nat.le_trans hhi hsz0)
    have hhi1 : hi ≤ w1.heap.size := Nat.le_trans hhi (Nat.le_trans hsz0 hb1.size)
    clear hb1 hb0 Own0 hx0
    go_wp2_with fail
    go_loopw [3, 4] (fun o i wr => ∃ (j : Nat) (acc : List UInt8), Hid (i = .int .i64 j ∧ j ≤ l.length ∧ acc = (l.take j).flatMap valB ∧ Own 5 1 wr w.heap.size wr.heap.size o acc.length (bc acc) ∧ Below w1.heap.size w1 wr)) (fun _ i _ => l.length - (intOf i).toNat)
    case atStart => exact ⟨0, [], Lib.hid ⟨rfl, by omega, rfl, HO.out, Below.refl _ _⟩⟩
    case round =>
      obtain ⟨j, acc, hrel⟩ := hrel
      obtain ⟨rfl, hj, hacc, hown, hbr⟩ := hrel.out
      obtain ⟨Ao, co, rfl, -, -, -⟩ := hown.cells
      have hal : acc.length ≤ 448 := by rw [hacc]; exact flatV_len7 l j h64
      have Hacc := Lib.hid hacc
      have Hown := Lib.hid hown
      have Hbr := Lib.hid hbr
      have hbs := hbr.size
      clear hacc hown hrel HO
      by_cases hjl : j < l.length
      · obtain ⟨b, off, y, rfl, -, hbl, hyk, e0, e1, e2⟩ := (hx1.below Hbr.out hhi1).at hjl
        have Hy := Lib.hid (flatV_take hyk)
        have hys := hs y (mem_of_get hyk)
        clear hyk
        go_wp2_with fail
        have hPV := spec_PutVal acc _ y wr Hown.out.rdBc (Nat.le_refl _) (by omega) hys
        have Hup := Lib.hid (Below.refl wr.heap.size wr)
        obtain ⟨r2, hr2⟩ : ∃ r2, acc ++ valB y = r2 := ⟨_, rfl⟩
        rw [hr2] at hPV
        have HP := Lib.hid hPV
        have Hr2 := Lib.hid hr2
        clear hPV hr2
        refine HP.out.mono ?_
        rintro e w3 ⟨v', rfl, ho, hb3⟩
        obtain ⟨A', c', rfl, -, -, -⟩ := ho.cells
        have HO2 := Lib.hid (ho.more (Nat.le_trans (Nat.le_trans hb.size hbs) Hup.out.size) (Nat.le_refl _))
        have HB3 := Lib.hid (below_go (below_go Hbr.out Hup.out) hb3)
        have HE2 := Lib.hid (show r2 = (l.take (j + 1)).flatMap valB by rw [← Hr2.out, Hacc.out, Hy.out])
        clear ho hb3
        go_wp2_with fail
        go_roundw
        case rel => exact ⟨j + 1, r2, Lib.hid ⟨by go_num, by omega, HE2.out, HO2.out, HB3.out⟩⟩
        case measure => simp [intOf]; omega
      · obtain rfl : j = l.length := by omega
        have HR := Lib.hid (show encPlain l = acc by rw [HE.out, Hacc.out, List.take_length])
        go_wp2_with fail
        go_ret
        exact ⟨_, rfl, by rw [HR.out]; exact Hown.out, below_go hb Hbr.out⟩
set_option maxHeartbeats 4000000 in
set_option maxRecDepth 20000 in
theorem impl_EncPlain (l : List V) (x : Value) (w : World) {lo hi : Nat} (hx : RdV w lo hi x l) (hhi : hi ≤ w.heap.size) (hs : ∀ v ∈ l, v.s.size ≤ maxLen) :
    Calls Tryz.prog 54 #[x] w fun e w' => ∃ r, e = .returned r ∧ Own 5 1 w' w.heap.size w'.heap.size r (encPlain l).length (bc (encPlain l)) ∧ Below w.heap.size w w' := by
  obtain ⟨A, c, rfl, hl, hl2⟩ := hx.form
  have hb0 := up_a1 w (.cells #[] 5)
  have own0 := World.ownsRow_made w (base := w.heap.size) (e := 5) (size := 1) #[] 0 (Nat.le_refl _) (by decide) rfl
  have Own0 := Lib.hid (Own.new own0)
  clear own0
  have hx0 := hx.below hb0 hhi
  have hsz0 := hb0.size
  go_enter Tryz.func54, Tryz.ntmps54
  go_wp2_with fail
  obtain ⟨W0, hW0⟩ : ∃ W0, (w.alloc (.cells #[] 5)) = W0 := ⟨_, rfl⟩
  rw [hW0] at hb0 Own0 hx0 hsz0 ⊢
  clear hW0 hx
  have hT := impl_TypeOf l _ W0 hx0 (Nat.le_trans hhi hsz0) hs
  by_cases h0 : typeOf l = 0
  · rw [h0] at hT
    have HT := Lib.hid hT
    have HE := Lib.hid (encPlain_no h0)
    clear hT h0
    refine HT.out.mono ?_
    rintro e w1 ⟨rfl, hb1⟩
    have HO := Lib.hid ((Own0.out.below hb1 (Nat.le_refl _)).more (Nat.le_refl _) hb1.size)
    have HB := Lib.hid (below_go0 hb0 hb1)
    clear hb1 hb0
    go_wp2_with fail
    go_ret
    exact ⟨_, rfl, by rw [HE.out]; exact HO.out, HB.out⟩
  · have hd : (typeOf l == 0) = false := by simp [h0]
    have h64 := typeOf_len64 rfl h0
    have HE := Lib.hid (encPlain_yes h0)
    obtain ⟨t, ht⟩ : ∃ t, typeOf l = t := ⟨_, rfl⟩
    rw [ht] at hT hd
    have HT := Lib.hid hT
    clear hT h0 ht
    refine HT.out.mono ?_
    rintro e w1 ⟨rfl, hb1⟩
    have HO := Lib.hid ((Own0.out.below hb1 (Nat.le_refl _)).more (Nat.le_refl _) hb1.size)
    have hb := below_go0 hb0 hb1
    have hx1 := hx0.below hb1 (Nat.le_trans hhi hsz0)
    have hhi1 : hi ≤ w1.heap.size := Nat.le_trans hhi (Nat.le_trans hsz0 hb1.size)
    clear hb1 hb0 Own0 hx0
    go_wp2_with fail
    go_loopw [3, 13] (fun o i wr => ∃ (j : Nat) (acc : List UInt8), Hid (i = .int .i64 j ∧ j ≤ l.length ∧ acc = (l.take j).flatMap valB ∧ Own 5 1 wr w.heap.size wr.heap.size o acc.length (bc acc) ∧ Below w1.heap.size w1 wr)) (fun _ i _ => l.length - (intOf i).toNat)
    case atStart => exact ⟨0, [], Lib.hid ⟨rfl, by omega, rfl, HO.out, Below.refl _ _⟩⟩
    case round =>
      obtain ⟨j, acc, hrel⟩ := hrel
      obtain ⟨rfl, hj, hacc, hown, hbr⟩ := hrel.out
      obtain ⟨Ao, co, rfl, -, -, -⟩ := hown.cells
      have hal : acc.length ≤ 448 := by rw [hacc]; exact flatV_len7 l j h64
      have Hacc := Lib.hid hacc
      have Hown := Lib.hid hown
      have Hbr := Lib.hid hbr
      have hbs := hbr.size
      clear hacc hown hrel HO
      by_cases hjl : j < l.length
      · obtain ⟨b, off, y, rfl, -, hbl, hyk, e0, e1, e2⟩ := (hx1.below Hbr.out hhi1).at hjl
        have Hy := Lib.hid (flatV_take hyk)
        have hys := hs y (mem_of_get hyk)
        clear hyk
        go_wp2_with fail
        obtain ⟨wb, hwb⟩ : ∃ wb, (wr.alloc (.cells #[.int .i64 y.ty, .int .i64 y.n, .string y.s] 83)) = wb := ⟨_, rfl⟩
        have hup : Below wr.heap.size wr wb := hwb ▸ up_a1 wr _
        rw [hwb]
        clear hwb
        have Hup := Lib.hid hup
        have hPV := impl_PutVal acc _ y wb (Hown.out.rdBc.below hup (Nat.le_refl _)) hup.size (by omega) hys
        clear hup
        obtain ⟨r2, hr2⟩ : ∃ r2, acc ++ valB y = r2 := ⟨_, rfl⟩
        rw [hr2] at hPV
        have HP := Lib.hid hPV
        have Hr2 := Lib.hid hr2
        clear hPV hr2
        refine HP.out.mono ?_
        rintro e w3 ⟨v', rfl, ho, hb3⟩
        obtain ⟨A', c', rfl, -, -, -⟩ := ho.cells
        have HO2 := Lib.hid (ho.more (Nat.le_trans (Nat.le_trans hb.size hbs) Hup.out.size) (Nat.le_refl _))
        have HB3 := Lib.hid (below_go (below_go Hbr.out Hup.out) hb3)
        have HE2 := Lib.hid (show r2 = (l.take (j + 1)).flatMap valB by rw [← Hr2.out, Hacc.out, Hy.out])
        clear ho hb3
        go_wp2_with fail
        go_roundw
        case rel => exact ⟨j + 1, r2, Lib.hid ⟨by go_num, by omega, HE2.out, HO2.out, HB3.out⟩⟩
        case measure => simp [intOf]; omega
      · obtain rfl : j = l.length := by omega
        have HR := Lib.hid (show encPlain l = acc by rw [HE.out, Hacc.out, List.take_length])
        go_wp2_with fail
        go_ret
        exact ⟨_, rfl, by rw [HR.out]; exact Hown.out, below_go hb Hbr.out⟩
end Go.Proofs.YticimccfeohpcaaGreat
