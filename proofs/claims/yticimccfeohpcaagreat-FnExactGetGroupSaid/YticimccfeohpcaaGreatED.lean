/- Values by their runs: contracts. -/
import Derived.Test.YticimccfeohpcaaGreatEB
import Derived.Test.YticimccfeohpcaaGreatEC
namespace Go.Lb
theorem flatR_take {q : List Ru} {j : Nat} {y : Ru} (h : q[j]? = some y) : (q.take (j + 1)).flatMap runB = (q.take j).flatMap runB ++ runB y := by
  rw [take_of_get h, List.flatMap_append]
  simp
theorem flatR_len12 (q : List Ru) (j : Nat) (h : q.length ≤ 64) : ((q.take j).flatMap runB).length ≤ 768 := by
  have := flatR_len (q.take j)
  rw [List.length_take] at this
  omega
theorem runs_small {l : List V} {r : Ru} (hs : ∀ v ∈ l, v.s.size ≤ maxLen) (h : r ∈ runs l) : r.v.s.size ≤ maxLen := by
  have hr := runsOf l
  have hp := hr.pos r h
  refine hs r.v ?_
  rw [← hr.ex]
  exact List.mem_flatMap.2 ⟨r, h, by rw [List.mem_replicate]; exact ⟨by omega, rfl⟩⟩
end Go.Lb
namespace Go.Proofs.YticimccfeohpcaaGreat
open Go.Sort Go.ChangeShapes Go.WideShapes Go.ChangeAt Go.RowKit Go.Lb
set_option maxHeartbeats 4000000 in
set_option maxRecDepth 20000 in
theorem spec_EncRuns (l : List V) (x : Value) (w : World) {lo hi : Nat} (hx : RdV w lo hi x l) (hhi : hi ≤ w.heap.size) (hs : ∀ v ∈ l, v.s.size ≤ maxLen) :
    Calls Tryz.prog 100 #[x] w fun e w' => ∃ r, e = .returned r ∧ Own 5 1 w' w.heap.size w'.heap.size r (encRuns l).length (bc (encRuns l)) ∧ Below w.heap.size w w' := by
  obtain ⟨A, c, rfl, hl, hl2⟩ := hx.form
  have hT := spec_TypeOf l _ w hx hhi hs
  by_cases h0 : typeOf l = 0
  · rw [h0] at hT
    have HT := Lib.hid hT
    have HE := Lib.hid (encRuns_no h0)
    clear hT h0
    go_enter Tryz.func100, Tryz.ntmps100
    go_wp2_with fail
    refine HT.out.mono ?_
    rintro e w1 ⟨rfl, hb1⟩
    have hs1 := hb1.size
    have own0 := World.ownsRow_made w1 (base := w.heap.size) (e := 5) (size := 1) #[] 0 hs1 (by decide) rfl
    have HO := Lib.hid (Own.new own0)
    have HB := Lib.hid (hb1.alloc hs1 (.cells #[] 5))
    clear own0 hb1
    go_wp2_with fail
    go_ret
    exact ⟨_, rfl, by rw [HE.out]; exact HO.out, HB.out⟩
  · have hd : (typeOf l == 0) = false := by simp [h0]
    have h64 := typeOf_len64 rfl h0
    have HE := Lib.hid (encRuns_yes h0)
    obtain ⟨t, ht⟩ : ∃ t, typeOf l = t := ⟨_, rfl⟩
    rw [ht] at hT hd
    have HT := Lib.hid hT
    obtain ⟨q, hq⟩ : ∃ q, runs l = q := ⟨_, rfl⟩
    have hql : q.length ≤ 64 := by have := (runsOf l).len; rw [hq] at this; omega
    have Hsm := Lib.hid (fun (r : Ru) (h : r ∈ q) => runs_small hs (hq ▸ h))
    have Hq := Lib.hid hq
    clear hT h0 ht hq
    go_enter Tryz.func100, Tryz.ntmps100
    go_wp2_with fail
    refine HT.out.mono ?_
    rintro e w1 ⟨rfl, hb1⟩
    have hR := spec_Runs l _ w1 (hx.below hb1 hhi) (Nat.le_trans hhi hb1.size) (by omega)
    rw [Hq.out] at hR
    have HR := Lib.hid hR
    clear hR HT
    go_wp2_with fail
    refine HR.out.mono ?_
    rintro e w2 ⟨_, rfl, hor, hb2⟩
    have hb2w := below_go hb1 hb2
    have hru := hor.rdU
    obtain ⟨Ar, cr, rfl, hrl, hrm⟩ := hru.form
    clear hb1 hb2 hor HR
    go_wp2_with fail
    obtain ⟨W0, hW0⟩ : ∃ W0, (w2.alloc (.cells #[] 5)) = W0 := ⟨_, rfl⟩
    have hup : Below w2.heap.size w2 W0 := hW0 ▸ up_a1 w2 _
    have hemp : RdB W0 0 W0.heap.size (.slice (some ⟨w2.heap.size, 0, none⟩) 0 0) [] := rdB_empty _ _ _ _
    rw [hW0]
    clear hW0
    have hru0 := hru.below hup (Nat.le_refl _)
    have hs2 := hb2w.size
    have hb0w := below_go hb2w hup
    have hP0 := spec_PutNum [] _ q.length W0 hemp (Nat.le_refl _) (by simp)
    rw [List.nil_append] at hP0
    have hsz0 := hup.size
    obtain ⟨n0, hn0⟩ : ∃ n0, numB (q.length : Int) = n0 := ⟨_, rfl⟩
    have hnl := numB_len (q.length : Int)
    rw [hn0] at hP0 hnl
    have HP0 := Lib.hid hP0
    have Hn0 := Lib.hid hn0
    clear hP0 hn0
    refine HP0.out.mono ?_
    rintro e w3 ⟨v3, rfl, ho3, hb3⟩
    obtain ⟨A3, c3, rfl, -, -, -⟩ := ho3.cells
    have hb3w := below_go hb0w hb3
    have hru3 := hru0.below hb3 hsz0
    have hrh : w2.heap.size ≤ w3.heap.size := Nat.le_trans hsz0 hb3.size
    have HO3 := Lib.hid (ho3.more (show w.heap.size ≤ W0.heap.size from hb0w.size) (Nat.le_refl _))
    clear hb3 ho3 hru0 HP0 hru hb0w
    go_wp2_with fail
    go_loopw [4, 5] (fun o i wr => ∃ (j : Nat) (acc : List UInt8), Hid (i = .int .i64 j ∧ j ≤ q.length ∧ acc = n0 ++ (q.take j).flatMap runB ∧ Own 5 1 wr w.heap.size wr.heap.size o acc.length (bc acc) ∧ Below w3.heap.size w3 wr)) (fun _ i _ => q.length - (intOf i).toNat)
    case atStart => exact ⟨0, n0, Lib.hid ⟨rfl, by omega, by simp, HO3.out, Below.refl _ _⟩⟩
    case round =>
      obtain ⟨j, acc, hrel⟩ := hrel
      obtain ⟨rfl, hj, hacc, hown, hbr⟩ := hrel.out
      obtain ⟨Ao, co, rfl, -, -, -⟩ := hown.cells
      have hal : acc.length ≤ 1000 := by rw [hacc, List.length_append]; have := flatR_len12 q j hql; omega
      have Hacc := Lib.hid hacc
      have Hown := Lib.hid hown
      have Hbr := Lib.hid hbr
      have hbs := hbr.size
      clear hacc hown hrel HO3
      by_cases hjl : j < q.length
      · obtain ⟨b, off, y, rfl, -, hbl, hyk, e0, e1, e2, e3⟩ := (hru3.below Hbr.out hrh).at hjl
        have Hy := Lib.hid (flatR_take hyk)
        have hys := Hsm.out y (mem_of_get hyk)
        clear hyk
        obtain ⟨r1, hr1⟩ : ∃ r, acc ++ numB y.k = r := ⟨_, rfl⟩
        obtain ⟨r2, hr2⟩ : ∃ r, r1 ++ valB y.v = r := ⟨_, rfl⟩
        have hr1l : r1.length ≤ 1010 := by rw [← hr1, List.length_append]; have := numB_len y.k; omega
        have HE2 := Lib.hid (show r2 = n0 ++ (q.take (j + 1)).flatMap runB by rw [← hr2, ← hr1, Hacc.out, Hy.out, runB]; simp)
        have Hr1 := Lib.hid hr1
        have Hr2 := Lib.hid hr2
        clear hr1 hr2
        go_wp2_with fail
        have Hbb := Hbr
        have hwl : w.heap.size ≤ wr.heap.size := Nat.le_trans hb3w.size hbs
        have HPN := Lib.hid (fun (W : World) (h : Below wr.heap.size wr W) => (by have h2 := spec_PutNum acc _ y.k W (Hown.out.rdBc.below h (Nat.le_refl _)) h.size (by omega); rw [Hr1.out] at h2; exact h2 : Calls Tryz.prog 68 _ W fun e w' => ∃ v, e = .returned v ∧ Own 5 1 w' W.heap.size w'.heap.size v r1.length (bc r1) ∧ Below W.heap.size W w'))
        have HPV := Lib.hid (fun (W : World) (v : Value) (lo : Nat) (h : RdB W lo W.heap.size v r1) => (by have h2 := spec_PutVal r1 v y.v W h (Nat.le_refl _) (by omega) hys; rw [Hr2.out] at h2; exact h2 : Calls Tryz.prog 137 _ W fun e w' => ∃ v, e = .returned v ∧ Own 5 1 w' W.heap.size w'.heap.size v r2.length (bc r2) ∧ Below W.heap.size W w'))
        go_region_held3 (fun w' => w'.cell? ⟨b, off + j * 4 + 3, none⟩ = some (.int .i64 y.k) ∧ w'.cell? ⟨b, off + j * 4, none⟩ = some (.int .i64 y.v.ty) ∧ w'.cell? ⟨b, off + j * 4 + 1, none⟩ = some (.int .i64 y.v.n) ∧ w'.cell? ⟨b, off + j * 4 + 2, none⟩ = some (.string y.v.s)) (first | exact ⟨e3, e0, e1, e2⟩ | exact ⟨cell_keep e3 BA, cell_keep e0 BA, cell_keep e1 BA, cell_keep e2 BA⟩ | exact ⟨cell_keep e3 BB, cell_keep e0 BB, cell_keep e1 BB, cell_keep e2 BB⟩ | go_keep)
          (first
            | (go_at_call 68; ((with_reducible refine (HPN.out _ (Below.refl _ _).drew).mono ?_); rintro e wa ⟨va, rfl, hoa, hba⟩; have BA : Below wr.heap.size wr wa := after1 hba; have HRA := Lib.hid hoa.rdBc; obtain ⟨Aa, ca, rfl, -, -, -⟩ := hoa.cells))
            | (go_at_call 137; ((with_reducible refine (HPV.out _ _ _ HRA.out).mono ?_); rintro e wc ⟨vc, rfl, hoc, hbc⟩; have BB : Below wr.heap.size wr wc := below_go BA hbc; obtain ⟨Ac, cc, rfl, -, -, -⟩ := hoc.cells))
            | fail)
        have HO2 := Lib.hid (hoc.more (Nat.le_trans hwl BA.size) (Nat.le_refl _))
        have HB2 := Lib.hid (below_go Hbb.out BB)
        clear hoc hbc BB hoa hba BA
        go_wp2_with fail
        go_roundw
        case rel => exact ⟨j + 1, r2, Lib.hid ⟨by go_num, by omega, HE2.out, HO2.out, HB2.out⟩⟩
        case measure => simp [intOf]; omega
      · obtain rfl : j = q.length := by omega
        have HR := Lib.hid (show encRuns l = acc by rw [HE.out, Hacc.out, List.take_length, Hq.out, Hn0.out])
        go_wp2_with fail
        go_ret
        exact ⟨_, rfl, by rw [HR.out]; exact Hown.out, below_go hb3w Hbr.out⟩
set_option maxHeartbeats 4000000 in
set_option maxRecDepth 20000 in
theorem impl_EncRuns (l : List V) (x : Value) (w : World) {lo hi : Nat} (hx : RdV w lo hi x l) (hhi : hi ≤ w.heap.size) (hs : ∀ v ∈ l, v.s.size ≤ maxLen) :
    Calls Tryz.prog 97 #[x] w fun e w' => ∃ r, e = .returned r ∧ Own 5 1 w' w.heap.size w'.heap.size r (encRuns l).length (bc (encRuns l)) ∧ Below w.heap.size w w' := by
  obtain ⟨A, c, rfl, hl, hl2⟩ := hx.form
  have hb0 := up_a1 w (.cells #[] 5)
  have own0 := World.ownsRow_made w (base := w.heap.size) (e := 5) (size := 1) #[] 0 (Nat.le_refl _) (by decide) rfl
  have Own0 := Lib.hid (Own.new own0)
  clear own0
  have hx0 := hx.below hb0 hhi
  have hsz0 := hb0.size
  go_enter Tryz.func97, Tryz.ntmps97
  go_wp2_with fail
  obtain ⟨W0, hW0⟩ : ∃ W0, (w.alloc (.cells #[] 5)) = W0 := ⟨_, rfl⟩
  rw [hW0] at hb0 Own0 hx0 hsz0 ⊢
  clear hW0 hx
  have hT := impl_TypeOf l _ W0 hx0 (Nat.le_trans hhi hsz0) hs
  by_cases h0 : typeOf l = 0
  · rw [h0] at hT
    have HT := Lib.hid hT
    have HE := Lib.hid (encRuns_no h0)
    clear hT h0
    refine HT.out.mono ?_
    rintro e w1 ⟨rfl, hb1⟩
    have HO := Lib.hid ((Own0.out.below hb1 (Nat.le_refl _)).more (Nat.le_refl _) hb1.size)
    have HB := Lib.hid (below_go0 hb0 hb1)
    clear hb1 hb0
    go_wp2_with fail
    go_ret
    exact ⟨_, rfl, by rw [HE.out]; exact HO.out, HB.out⟩
  · have hd : (typeOf l == 0) = false := by simp [h0]
    have h64 := typeOf_len64 rfl h0
    have HE := Lib.hid (encRuns_yes h0)
    obtain ⟨t, ht⟩ : ∃ t, typeOf l = t := ⟨_, rfl⟩
    rw [ht] at hT hd
    have HT := Lib.hid hT
    obtain ⟨q, hq⟩ : ∃ q, runs l = q := ⟨_, rfl⟩
    have hql : q.length ≤ 64 := by have := (runsOf l).len; rw [hq] at this; omega
    have Hsm := Lib.hid (fun (r : Ru) (h : r ∈ q) => runs_small hs (hq ▸ h))
    have Hq := Lib.hid hq
    clear hT h0 ht hq
    refine HT.out.mono ?_
    rintro e w1 ⟨rfl, hb1⟩
    have hR := impl_Runs l _ w1 (hx0.below hb1 (Nat.le_trans hhi hsz0)) (Nat.le_trans hhi (Nat.le_trans hsz0 hb1.size)) (by omega)
    rw [Hq.out] at hR
    have HR := Lib.hid hR
    have Own1 := Lib.hid ((Own0.out.below hb1 (Nat.le_refl _)).more (Nat.le_refl _) hb1.size)
    clear hR HT Own0
    go_wp2_with fail
    refine HR.out.mono ?_
    rintro e w2 ⟨_, rfl, hor, hb2⟩
    have hb0w := below_go0 hb0 (below_go hb1 hb2)
    have hru := hor.rdU
    obtain ⟨Ar, cr, rfl, hrl, hrm⟩ := hru.form
    have hemp := ((Own1.out.below hb2 (Nat.le_refl _)).more (Nat.le_refl _) hb2.size).rdBc (l := [])
    clear hb1 hb2 hor HR hx0 Own1
    go_wp2_with fail
    have hru0 := hru
    have hs2 := hb0w.size
    have hP0 := impl_PutNum [] _ q.length w2 hemp (Nat.le_refl _) (by simp)
    rw [List.nil_append] at hP0
    have hsz0 := hb0w.size
    obtain ⟨n0, hn0⟩ : ∃ n0, numB (q.length : Int) = n0 := ⟨_, rfl⟩
    have hnl := numB_len (q.length : Int)
    rw [hn0] at hP0 hnl
    have HP0 := Lib.hid hP0
    have Hn0 := Lib.hid hn0
    clear hP0 hn0
    refine HP0.out.mono ?_
    rintro e w3 ⟨v3, rfl, ho3, hb3⟩
    obtain ⟨A3, c3, rfl, -, -, -⟩ := ho3.cells
    have hb3w := below_go hb0w hb3
    have hru3 := hru0.below hb3 (Nat.le_refl _)
    have hrh : w2.heap.size ≤ w3.heap.size := Nat.le_trans (Nat.le_refl _) hb3.size
    have HO3 := Lib.hid (ho3.more (show w.heap.size ≤ w2.heap.size from hb0w.size) (Nat.le_refl _))
    clear hb3 ho3 hru0 HP0 hru hb0w
    go_wp2_with fail
    go_loopw [3, 20] (fun o i wr => ∃ (j : Nat) (acc : List UInt8), Hid (i = .int .i64 j ∧ j ≤ q.length ∧ acc = n0 ++ (q.take j).flatMap runB ∧ Own 5 1 wr w.heap.size wr.heap.size o acc.length (bc acc) ∧ Below w3.heap.size w3 wr)) (fun _ i _ => q.length - (intOf i).toNat)
    case atStart => exact ⟨0, n0, Lib.hid ⟨rfl, by omega, by simp, HO3.out, Below.refl _ _⟩⟩
    case round =>
      obtain ⟨j, acc, hrel⟩ := hrel
      obtain ⟨rfl, hj, hacc, hown, hbr⟩ := hrel.out
      obtain ⟨Ao, co, rfl, -, -, -⟩ := hown.cells
      have hal : acc.length ≤ 1000 := by rw [hacc, List.length_append]; have := flatR_len12 q j hql; omega
      have Hacc := Lib.hid hacc
      have Hown := Lib.hid hown
      have Hbr := Lib.hid hbr
      have hbs := hbr.size
      clear hacc hown hrel HO3
      by_cases hjl : j < q.length
      · obtain ⟨b, off, y, rfl, -, hbl, hyk, e0, e1, e2, e3⟩ := (hru3.below Hbr.out hrh).at hjl
        have Hy := Lib.hid (flatR_take hyk)
        have hys := Hsm.out y (mem_of_get hyk)
        clear hyk
        obtain ⟨r1, hr1⟩ : ∃ r, acc ++ numB y.k = r := ⟨_, rfl⟩
        obtain ⟨r2, hr2⟩ : ∃ r, r1 ++ valB y.v = r := ⟨_, rfl⟩
        have hr1l : r1.length ≤ 1010 := by rw [← hr1, List.length_append]; have := numB_len y.k; omega
        have HE2 := Lib.hid (show r2 = n0 ++ (q.take (j + 1)).flatMap runB by rw [← hr2, ← hr1, Hacc.out, Hy.out, runB]; simp)
        have Hr1 := Lib.hid hr1
        have Hr2 := Lib.hid hr2
        clear hr1 hr2
        go_wp2_with fail
        have n0' := box_new wr #[.int .i64 y.v.ty, .int .i64 y.v.n, .string y.v.s, .int .i64 y.k] 108 0
        have n1 := box_new wr #[.int .i64 y.v.ty, .int .i64 y.v.n, .string y.v.s, .int .i64 y.k] 108 1
        have n2 := box_new wr #[.int .i64 y.v.ty, .int .i64 y.v.n, .string y.v.s, .int .i64 y.k] 108 2
        have n3 := box_new wr #[.int .i64 y.v.ty, .int .i64 y.v.n, .string y.v.s, .int .i64 y.k] 108 3
        simp only [List.getElem?_toArray, List.getElem?_cons_zero, List.getElem?_cons_succ] at n0' n1 n2 n3
        obtain ⟨wb, hwb⟩ : ∃ wb, (wr.alloc (.cells #[.int .i64 y.v.ty, .int .i64 y.v.n, .string y.v.s, .int .i64 y.k] 108)) = wb := ⟨_, rfl⟩
        have hup : Below wr.heap.size wr wb := hwb ▸ up_a1 wr _
        rw [hwb] at n0' n1 n2 n3 ⊢
        clear hwb e0 e1 e2 e3
        have Hbb := Lib.hid (below_go Hbr.out hup)
        have hwl : w.heap.size ≤ wb.heap.size := Nat.le_trans (Nat.le_trans hb3w.size hbs) hup.size
        have HPN := Lib.hid (fun (W : World) (h : Below wb.heap.size wb W) => (by have h2 := impl_PutNum acc _ y.k W ((Hown.out.rdBc.below hup (Nat.le_refl _)).below h hup.size) (Nat.le_trans hup.size h.size) (by omega); rw [Hr1.out] at h2; exact h2 : Calls Tryz.prog 70 _ W fun e w' => ∃ v, e = .returned v ∧ Own 5 1 w' W.heap.size w'.heap.size v r1.length (bc r1) ∧ Below W.heap.size W w'))
        have HPV := Lib.hid (fun (W : World) (v : Value) (lo : Nat) (h : RdB W lo W.heap.size v r1) => (by have h2 := impl_PutVal r1 v y.v W h (Nat.le_refl _) (by omega) hys; rw [Hr2.out] at h2; exact h2 : Calls Tryz.prog 108 _ W fun e w' => ∃ v, e = .returned v ∧ Own 5 1 w' W.heap.size w'.heap.size v r2.length (bc r2) ∧ Below W.heap.size W w'))
        go_region_held3 (fun w' => w'.cell? ⟨wr.heap.size, 3, none⟩ = some (.int .i64 y.k) ∧ w'.cell? ⟨wr.heap.size, 0, none⟩ = some (.int .i64 y.v.ty) ∧ w'.cell? ⟨wr.heap.size, 1, none⟩ = some (.int .i64 y.v.n) ∧ w'.cell? ⟨wr.heap.size, 2, none⟩ = some (.string y.v.s)) (first | exact ⟨n3, n0', n1, n2⟩ | exact ⟨cell_keep n3 BA, cell_keep n0' BA, cell_keep n1 BA, cell_keep n2 BA⟩ | exact ⟨cell_keep n3 BB, cell_keep n0' BB, cell_keep n1 BB, cell_keep n2 BB⟩ | go_keep)
          (first
            | (go_at_call 70; ((with_reducible refine (HPN.out _ (Below.refl _ _).drew).mono ?_); rintro e wa ⟨va, rfl, hoa, hba⟩; have BA : Below wb.heap.size wb wa := after1 hba; have HRA := Lib.hid hoa.rdBc; obtain ⟨Aa, ca, rfl, -, -, -⟩ := hoa.cells))
            | (go_at_call 108; ((with_reducible refine (HPV.out _ _ _ HRA.out).mono ?_); rintro e wc ⟨vc, rfl, hoc, hbc⟩; have BB : Below wb.heap.size wb wc := below_go BA hbc; obtain ⟨Ac, cc, rfl, -, -, -⟩ := hoc.cells))
            | fail)
        have HO2 := Lib.hid (hoc.more (Nat.le_trans hwl BA.size) (Nat.le_refl _))
        have HB2 := Lib.hid (below_go Hbb.out BB)
        clear hoc hbc BB hoa hba BA
        go_wp2_with fail
        go_roundw
        case rel => exact ⟨j + 1, r2, Lib.hid ⟨by go_num, by omega, HE2.out, HO2.out, HB2.out⟩⟩
        case measure => simp [intOf]; omega
      · obtain rfl : j = q.length := by omega
        have HR := Lib.hid (show encRuns l = acc by rw [HE.out, Hacc.out, List.take_length, Hq.out, Hn0.out])
        go_wp2_with fail
        go_ret
        exact ⟨_, rfl, by rw [HR.out]; exact Hown.out, below_go hb3w Hbr.out⟩
end Go.Proofs.YticimccfeohpcaaGreat
