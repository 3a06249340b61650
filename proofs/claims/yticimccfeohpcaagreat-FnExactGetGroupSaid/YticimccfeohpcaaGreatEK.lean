/- A value read: contracts. -/
import Derived.Test.YticimccfeohpcaaGreatXV
import Derived.Test.YticimccfeohpcaaGreatXN
import Derived.Test.YticimccfeohpcaaGreatXF
import Derived.Test.YticimccfeohpcaaGreatEA
namespace Go.Lb
open Go.RowKit
theorem RdB.takeN {w : World} {lo hi n c k : Nat} {A : Option Addr} {l : List UInt8} (h : RdB w lo hi (.slice A n c) l) (hk : k ≤ l.length) : RdB w lo hi (.slice A k c) (l.take k) := by
  obtain ⟨A', c', e1, hn, hc, hE⟩ := h
  injection e1 with e1 e2 e3
  subst e1 e3
  have ht : (l.take k).length = k := by rw [List.length_take]; omega
  refine ⟨A, c, by rw [ht], by omega, hc, fun i hi' => ?_⟩
  rw [ht] at hi'
  obtain ⟨b', off', ha, hl, hh, x, hx, h0⟩ := hE i (by omega)
  exact ⟨b', off', ha, hl, hh, x, by rw [List.getElem?_take, if_pos hi']; exact hx, h0⟩
theorem valOk_txt (r : List UInt8) : valOk ⟨2, 0, ⟨r.toArray⟩⟩ = txtOk r := by simp [valOk, txtOk]
theorem getVal_1 (l : List UInt8) (p : Int) : getVal l p 1 = if (getNum l p).2.2 then (⟨1, (getNum l p).1, ⟨#[]⟩⟩, (getNum l p).2.1, true) else (V.zero, 0, false) := by
  by_cases h : p < 0
  · rw [getVal_neg h, getNum_neg h]; rfl
  · obtain ⟨k, rfl⟩ := Int.eq_ofNat_of_zero_le (show 0 ≤ p by omega)
    cases hr : rdNum (l.drop k) with
    | none => rw [getVal_none (by rw [rdVal_1, hr]; rfl), getNum_none hr]; rfl
    | some q =>
      obtain ⟨n, m⟩ := q
      rw [getVal_some (v := ⟨1, n, ⟨#[]⟩⟩) (k := m) (by rw [rdVal_1, hr]; rfl), getNum_some hr]
      rfl
theorem getNum_good {l : List UInt8} {p n nx : Int} (h : getNum l p = (n, nx, true)) : isNum n = true ∧ 1 ≤ nx := by
  by_cases h0 : p < 0
  · rw [getNum_neg h0] at h; cases h
  · obtain ⟨k, rfl⟩ := Int.eq_ofNat_of_zero_le (show 0 ≤ p by omega)
    cases hr : rdNum (l.drop k) with
    | none => rw [getNum_none hr] at h; cases h
    | some q =>
      obtain ⟨n', m⟩ := q
      rw [getNum_some hr] at h
      injection h with h1 h2
      injection h2 with h2 _
      subst h1 h2
      obtain ⟨g1, -, -, g4, -⟩ := num_rdNum hr
      have := numB_pos g1
      exact ⟨g1, by omega⟩
theorem getVal_other {l : List UInt8} {p ty : Int} (h1 : ty ≠ 1) (h2 : ty ≠ 2) : getVal l p ty = (V.zero, 0, false) := by
  by_cases h : p < 0
  · exact getVal_neg h
  · obtain ⟨k, rfl⟩ := Int.eq_ofNat_of_zero_le (show 0 ≤ p by omega)
    exact getVal_none (rdVal_no h1 h2 _)
theorem getVal_out {l : List UInt8} {p : Int} (h : p < 0 ∨ (l.length : Int) ≤ p) : getVal l p 2 = (V.zero, 0, false) := by
  by_cases h0 : p < 0
  · exact getVal_neg h0
  · obtain ⟨k, rfl⟩ := Int.eq_ofNat_of_zero_le (show 0 ≤ p by omega)
    exact getVal_none (by rw [rdVal_2, List.drop_eq_nil_of_le (by omega)]; rfl)
theorem getVal_txt {l : List UInt8} {p : Nat} {c : UInt8} (h : l[p]? = some c) : getVal l (p : Int) 2 = if decide (c.toNat ≤ l.length - (p + 1)) && txtOk ((l.drop (p + 1)).take c.toNat) then (⟨2, 0, ⟨((l.drop (p + 1)).take c.toNat).toArray⟩⟩, ((p + 1 + c.toNat : Nat) : Int), true) else (V.zero, 0, false) := by
  have hd := drop_of_get h
  cases hc : (decide (c.toNat ≤ l.length - (p + 1)) && txtOk ((l.drop (p + 1)).take c.toNat))
  · rw [getVal_none (by rw [rdVal_2, hd, rdText, List.length_drop, if_neg (by rw [hc]; simp)])]
    rfl
  · rw [getVal_some (v := ⟨2, 0, ⟨((l.drop (p + 1)).take c.toNat).toArray⟩⟩) (k := c.toNat + 1) (by rw [rdVal_2, hd, rdText, List.length_drop, if_pos hc])]
    rw [if_pos rfl]
    congr 2
    omega
end Go.Lb
namespace Go.Proofs.YticimccfeohpcaaGreat
open Go.Sort Go.ChangeShapes Go.WideShapes Go.ChangeAt Go.RowKit Go.Lb
set_option maxHeartbeats 4000000 in
set_option maxRecDepth 20000 in
theorem spec_GetVal (l : List UInt8) (x : Value) (p ty : Int) (w : World) {lo hi : Nat} (hx : RdB w lo hi x l) (hhi : hi ≤ w.heap.size) (hln : l.length ≤ 1000000000) :
    Calls Tryz.prog 121 #[x, .int .i64 p, .int .i64 ty] w fun e w' => e = .returned (.tuple #[.agg #[.int .i64 (getVal l p ty).1.ty, .int .i64 (getVal l p ty).1.n, .string (getVal l p ty).1.s], .int .i64 (getVal l p ty).2.1, .bool (getVal l p ty).2.2]) ∧ Below w.heap.size w w' := by
  obtain ⟨A, c, rfl, hl, hl2⟩ := hx.form
  have hup := up_a1 w (.cells #[.int .i64 0, .int .i64 0, .string ⟨#[]⟩] 83)
  have hx0 := hx.below hup hhi
  have hg0 := heap_alloc_new w (.cells #[.int .i64 0, .int .i64 0, .string ⟨#[]⟩] 83)
  obtain ⟨W0, hW0⟩ : ∃ W0, (w.alloc (.cells #[.int .i64 0, .int .i64 0, .string ⟨#[]⟩] 83)) = W0 := ⟨_, rfl⟩
  rw [hW0] at hup hx0 hg0
  have HW0 := Lib.hid hW0
  clear hW0 hx
  have hg : w.heap.size < W0.heap.size := (Array.getElem?_eq_some_iff.1 hg0).1
  have d0 := cell_of_row W0 _ 0 _ _ _ hg0
  have d1 := cell_of_row W0 _ 1 _ _ _ hg0
  have d2 := cell_of_row W0 _ 2 _ _ _ hg0
  simp only [List.getElem?_toArray, List.getElem?_cons_zero, List.getElem?_cons_succ] at d0 d1 d2
  have df := fun o => frozen_of_row W0 _ o _ _ hg0
  by_cases h1 : ty = 1
  · subst h1
    have hT := q_spec_GetNum l _ p W0 hx0
    have hG := getVal_1 l p
    clear hx0 hg0
    generalize getNum l p = r at hT hG
    obtain ⟨n, nx, ok⟩ := r
    have HT := Lib.hid hT
    clear hT
    cases ok
    · have HE := Lib.hid (show getVal l p 1 = (V.zero, 0, false) from hG)
      clear hG
      go_enter Tryz.func121, Tryz.ntmps121
      go_wp2_with fail
      rw [HW0.out]
      refine HT.out.mono ?_
      rintro e w1 ⟨rfl, rfl⟩
      go_wp2_with fail
      refine bodyPost_ret (v := .tuple #[.agg #[.int .i64 0, .int .i64 0, .string ⟨#[]⟩], .int .i64 0, .bool false]) ?_ rfl ⟨by rw [HE.out]; try rfl, ?_⟩
      · simp [results, Tryz.results121, go_sem, d0, d1, d2]
      · first
          | exact hup
          | (iterate 3 refine Below.setCell ?_ (by simp <;> omega) _
             exact hup)
    · have HE := Lib.hid (show getVal l p 1 = (⟨1, n, ⟨#[]⟩⟩, nx, true) from hG)
      clear hG
      go_enter Tryz.func121, Tryz.ntmps121
      go_wp2_with fail
      rw [HW0.out]
      refine HT.out.mono ?_
      rintro e w1 ⟨rfl, rfl⟩
      go_wp2_with fail
      refine bodyPost_ret (v := .tuple #[.agg #[.int .i64 1, .int .i64 n, .string ⟨#[]⟩], .int .i64 nx, .bool true]) ?_ rfl ⟨by rw [HE.out]; try rfl, ?_⟩
      · simp [results, Tryz.results121, go_sem, d0, d1, d2]
      · first
          | exact hup
          | (iterate 3 refine Below.setCell ?_ (by simp <;> omega) _
             exact hup)
  · have b1 : (ty == 1) = false := by simp [h1]
    by_cases h2 : ty = 2
    rotate_left
    · have b2 : (ty != 2) = true := by simp [h2]
      have HE := Lib.hid (getVal_other (l := l) (p := p) h1 h2)
      clear h1 h2 hx0 hg0
      go_enter Tryz.func121, Tryz.ntmps121
      go_wp2_with fail
      try rw [HW0.out]
      refine bodyPost_ret (v := .tuple #[.agg #[.int .i64 0, .int .i64 0, .string ⟨#[]⟩], .int .i64 0, .bool false]) ?_ rfl ⟨by rw [HE.out]; try rfl, ?_⟩
      · simp [results, Tryz.results121, go_sem, d0, d1, d2]
      · first
          | exact hup
          | (iterate 3 refine Below.setCell ?_ (by simp <;> omega) _
             exact hup)
    subst h2
    have hI := q_spec_l1In p 0 ((l.length : Int) - 1) W0
    cases hin : inR p 0 ((l.length : Int) - 1)
    · have HE := Lib.hid (getVal_out (l := l) (p := p) (by have := inR_no hin; omega))
      rw [hin] at hI
      have HI := Lib.hid hI
      clear h1 hI hin hx0 hg0
      go_enter Tryz.func121, Tryz.ntmps121
      go_wp2_with fail
      rw [HW0.out]
      refine HI.out.mono ?_
      rintro e w1 ⟨rfl, rfl⟩
      go_wp2_with fail
      refine bodyPost_ret (v := .tuple #[.agg #[.int .i64 0, .int .i64 0, .string ⟨#[]⟩], .int .i64 0, .bool false]) ?_ rfl ⟨by rw [HE.out]; try rfl, ?_⟩
      · simp [results, Tryz.results121, go_sem, d0, d1, d2]
      · first
          | exact hup
          | (iterate 3 refine Below.setCell ?_ (by simp <;> omega) _
             exact hup)
    · have hpr := inR_yes hin
      rw [hin] at hI
      have HI := Lib.hid hI
      obtain ⟨k, rfl⟩ := Int.eq_ofNat_of_zero_le hpr.1
      have hkl : k < l.length := by omega
      obtain ⟨b, off, cc, rfl, -, hbl, hk, e0⟩ := hx0.at hkl
      have hG := getVal_txt hk
      have hcc := cc.toNat_lt
      have hcw : IntKind.i64.wrap (cc.toNat : Int) = (cc.toNat : Int) := by rw [IntKind.wrap_i64]; omega
      clear h1 hI hin hpr
      by_cases hle : cc.toNat ≤ l.length - (k + 1)
      rotate_left
      · have HE := Lib.hid (show getVal l (k : Int) 2 = (V.zero, 0, false) by rw [hG, decide_eq_false hle]; rfl)
        have dg : decide ((l.length : Int) - (k : Int) - 1 < (cc.toNat : Int)) = true := decide_eq_true (by omega)
        clear hG hx0 hk
        go_enter Tryz.func121, Tryz.ntmps121
        go_wp2_with fail
        rw [HW0.out]
        refine HI.out.mono ?_
        rintro e w1 ⟨rfl, rfl⟩
        go_wp2_with fail
        refine bodyPost_ret (v := .tuple #[.agg #[.int .i64 0, .int .i64 0, .string ⟨#[]⟩], .int .i64 0, .bool false]) ?_ rfl ⟨by rw [HE.out]; try rfl, ?_⟩
        · simp [results, Tryz.results121, go_sem, d0, d1, d2]
        · first
            | exact hup
            | (iterate 3 refine Below.setCell ?_ (by simp <;> omega) _
               exact hup)
      have dg : decide ((l.length : Int) - (k : Int) - 1 < (cc.toNat : Int)) = false := decide_eq_false (by omega)
      obtain ⟨p1, hp1⟩ : ∃ p1, k + 1 = p1 := ⟨_, rfl⟩
      obtain ⟨p2, hp2⟩ : ∃ p2, p1 + cc.toNat = p2 := ⟨_, rfl⟩
      have hsub := (hx0.dropIf (k := p1) (by omega) hl).takeN (k := cc.toNat) (by rw [List.length_drop]; omega)
      rw [decide_eq_true hle, Bool.true_and, hp1, hp2] at hG
      have g1 : (k : Int) + 1 = (p1 : Int) := by omega
      have g2 : (p1 : Int) + (cc.toNat : Int) = (p2 : Int) := by omega
      have w1' : IntKind.i64.wrap (p1 : Int) = (p1 : Int) := by rw [IntKind.wrap_i64]; omega
      have w2' : IntKind.i64.wrap (p2 : Int) = (p2 : Int) := by rw [IntKind.wrap_i64]; omega
      have f1 : (0 : Int) ≤ (p1 : Int) := by omega
      have f2 : (p1 : Int) ≤ (p2 : Int) := by omega
      have f3 : (p2 : Int) ≤ (c : Int) := by omega
      have hm : p2 - p1 = cc.toNat := by omega
      obtain ⟨AA, hAA⟩ : ∃ AA, (if c = p1 then some (⟨b, off, none⟩ : Addr) else some ⟨b, off + p1, none⟩) = AA := ⟨_, rfl⟩
      rw [hAA] at hsub
      have c1 := hsub.conv Tryz.underlying34 Tryz.underlying5 Tryz.underlying9
      obtain ⟨s, hs⟩ : ∃ s : ByteArray, ⟨((l.drop p1).take cc.toNat).toArray⟩ = s := ⟨_, rfl⟩
      have hvt := valOk_txt ((l.drop p1).take cc.toNat)
      have hsz : s.size ≤ 255 := by
        rw [← hs]
        show (((l.drop p1).take cc.toNat).toArray).size ≤ 255
        rw [List.size_toArray, List.length_take]
        omega
      rw [hs] at c1 hG hvt
      rw [← hvt] at hG
      clear hvt hs hsub hk hx0 hle hp1 hp2
      have hV := spec_ValOk ⟨2, 0, s⟩
      cases hv : valOk ⟨2, 0, s⟩
      · rw [hv] at hG
        have HE := Lib.hid (show getVal l (k : Int) 2 = (V.zero, 0, false) from hG)
        have HV := Lib.hid (fun W => (by have h := hV W (Nat.le_trans hsz (by decide)); rw [hv] at h; exact h))
        clear hG hV hv
        go_enter Tryz.func121, Tryz.ntmps121
        go_wp2_with fail
        rw [HW0.out]
        refine HI.out.mono ?_
        rintro e w1 ⟨rfl, rfl⟩
        go_wp2_with fail
        have hgX := ((up_a1 W0 (.cells #[.int .i64 2, .int .i64 0, .string s] 83)).block _ hg).trans hg0
        have hgV := heap_alloc_new W0 (.cells #[.int .i64 2, .int .i64 0, .string s] 83)
        have hbX := below_go hup (up_a1 W0 (.cells #[.int .i64 2, .int .i64 0, .string s] 83))
        refine (HV.out _).mono ?_
        rintro e w2 ⟨rfl, hb2⟩
        have g2 := (hb2.block _ (Array.getElem?_eq_some_iff.1 hgX).1).trans hgX
        have v2 := (hb2.block _ (Array.getElem?_eq_some_iff.1 hgV).1).trans hgV
        have hbw := below_go hbX hb2
        clear hb2 hgX hgV hbX d0 d1 d2 df
        have d0 := cell_of_row w2 _ 0 _ _ _ g2
        have d1 := cell_of_row w2 _ 1 _ _ _ g2
        have d2 := cell_of_row w2 _ 2 _ _ _ g2
        have n0 := cell_of_row w2 _ 0 _ _ _ v2
        have n1 := cell_of_row w2 _ 1 _ _ _ v2
        have n2 := cell_of_row w2 _ 2 _ _ _ v2
        simp at d0 d1 d2 n0 n1 n2
        have df := fun o => frozen_of_row w2 _ o _ _ g2
        clear g2 v2
        go_wp2_with fail
        refine bodyPost_ret (v := .tuple #[.agg #[.int .i64 0, .int .i64 0, .string ⟨#[]⟩], .int .i64 0, .bool false]) ?_ rfl ⟨by rw [HE.out]; try rfl, ?_⟩
        · simp [results, Tryz.results121, go_sem, d0, d1, d2]
        · first
            | exact hbw
            | (iterate 3 refine Below.setCell ?_ (by simp <;> omega) _
               exact hbw)
      · rw [hv] at hG
        have HE := Lib.hid (show getVal l (k : Int) 2 = (⟨2, 0, s⟩, (p2 : Int), true) from hG)
        have HV := Lib.hid (fun W => (by have h := hV W (Nat.le_trans hsz (by decide)); rw [hv] at h; exact h))
        clear hG hV hv
        go_enter Tryz.func121, Tryz.ntmps121
        go_wp2_with fail
        rw [HW0.out]
        refine HI.out.mono ?_
        rintro e w1 ⟨rfl, rfl⟩
        go_wp2_with fail
        have hgX := ((up_a1 W0 (.cells #[.int .i64 2, .int .i64 0, .string s] 83)).block _ hg).trans hg0
        have hgV := heap_alloc_new W0 (.cells #[.int .i64 2, .int .i64 0, .string s] 83)
        have hbX := below_go hup (up_a1 W0 (.cells #[.int .i64 2, .int .i64 0, .string s] 83))
        refine (HV.out _).mono ?_
        rintro e w2 ⟨rfl, hb2⟩
        have g2 := (hb2.block _ (Array.getElem?_eq_some_iff.1 hgX).1).trans hgX
        have v2 := (hb2.block _ (Array.getElem?_eq_some_iff.1 hgV).1).trans hgV
        have hbw := below_go hbX hb2
        clear hb2 hgX hgV hbX d0 d1 d2 df
        have d0 := cell_of_row w2 _ 0 _ _ _ g2
        have d1 := cell_of_row w2 _ 1 _ _ _ g2
        have d2 := cell_of_row w2 _ 2 _ _ _ g2
        have n0 := cell_of_row w2 _ 0 _ _ _ v2
        have n1 := cell_of_row w2 _ 1 _ _ _ v2
        have n2 := cell_of_row w2 _ 2 _ _ _ v2
        simp at d0 d1 d2 n0 n1 n2
        have df := fun o => frozen_of_row w2 _ o _ _ g2
        clear g2 v2
        go_wp2_with fail
        refine bodyPost_ret (v := .tuple #[.agg #[.int .i64 2, .int .i64 0, .string s], .int .i64 p2, .bool true]) ?_ rfl ⟨by rw [HE.out]; try rfl, ?_⟩
        · simp [results, Tryz.results121, go_sem, d0, d1, d2]
        · first
            | exact hbw
            | (iterate 3 refine Below.setCell ?_ (by simp <;> omega) _
               exact hbw)
set_option maxHeartbeats 4000000 in
set_option maxRecDepth 20000 in
theorem impl_GetVal (l : List UInt8) (x : Value) (p ty : Int) (w : World) {lo hi : Nat} (hx : RdB w lo hi x l) (hhi : hi ≤ w.heap.size) (hln : l.length ≤ 1000000000) :
    Calls Tryz.prog 129 #[x, .int .i64 p, .int .i64 ty] w fun e w' => e = .returned (.tuple #[.agg #[.int .i64 (getVal l p ty).1.ty, .int .i64 (getVal l p ty).1.n, .string (getVal l p ty).1.s], .int .i64 (getVal l p ty).2.1, .bool (getVal l p ty).2.2]) ∧ Below w.heap.size w w' := by
  obtain ⟨A, c, rfl, hl, hl2⟩ := hx.form
  have hup := up_a2 w (.cells #[.int .i64 0, .int .i64 0, .string ⟨#[]⟩] 83) (.cells #[.int .i64 ty, .int .i64 0, .string ⟨#[]⟩] 83)
  have hx0 := hx.below hup hhi
  have hg0 := ((up_a1 (w.alloc (.cells #[.int .i64 0, .int .i64 0, .string ⟨#[]⟩] 83)) (.cells #[.int .i64 ty, .int .i64 0, .string ⟨#[]⟩] 83)).block w.heap.size (by simp)).trans (heap_alloc_new w (.cells #[.int .i64 0, .int .i64 0, .string ⟨#[]⟩] 83))
  have hv0 := heap_alloc_new (w.alloc (.cells #[.int .i64 0, .int .i64 0, .string ⟨#[]⟩] 83)) (.cells #[.int .i64 ty, .int .i64 0, .string ⟨#[]⟩] 83)
  rw [World.size_alloc] at hv0
  obtain ⟨W0, hW0⟩ : ∃ W0, ((w.alloc (.cells #[.int .i64 0, .int .i64 0, .string ⟨#[]⟩] 83)).alloc (.cells #[.int .i64 ty, .int .i64 0, .string ⟨#[]⟩] 83)) = W0 := ⟨_, rfl⟩
  rw [hW0] at hup hx0 hg0 hv0
  have HW0 := Lib.hid hW0
  clear hW0 hx
  have hg : w.heap.size < W0.heap.size := (Array.getElem?_eq_some_iff.1 hg0).1
  have hgv : w.heap.size + 1 < W0.heap.size := (Array.getElem?_eq_some_iff.1 hv0).1
  have d0 := cell_of_row W0 _ 0 _ _ _ hg0
  have d1 := cell_of_row W0 _ 1 _ _ _ hg0
  have d2 := cell_of_row W0 _ 2 _ _ _ hg0
  have u0 := cell_of_row W0 _ 0 _ _ _ hv0
  have u1 := cell_of_row W0 _ 1 _ _ _ hv0
  have u2 := cell_of_row W0 _ 2 _ _ _ hv0
  simp only [List.getElem?_toArray, List.getElem?_cons_zero, List.getElem?_cons_succ] at d0 d1 d2 u0 u1 u2
  have df := fun o => frozen_of_row W0 _ o _ _ hg0
  have dv := fun o => frozen_of_row W0 _ o _ _ hv0
  by_cases h1 : ty = 1
  · subst h1
    have hT := q_impl_GetNum l _ p W0 hx0
    have hG := getVal_1 l p
    have hgd := fun n nx h => getNum_good (l := l) (p := p) (n := n) (nx := nx) h
    generalize getNum l p = r at hT hG hgd
    obtain ⟨n, nx, ok⟩ := r
    have HT := Lib.hid hT
    clear hT hx0
    cases ok
    · have HE := Lib.hid (show getVal l p 1 = (V.zero, 0, false) from hG)
      clear hG hgd
      go_enter Tryz.func129, Tryz.ntmps129
      go_wp2_with fail
      rw [HW0.out]
      refine HT.out.mono ?_
      rintro e w1 ⟨rfl, rfl⟩
      go_wp2_with fail
      refine bodyPost_ret (v := .tuple #[.agg #[.int .i64 0, .int .i64 0, .string ⟨#[]⟩], .int .i64 0, .bool false]) ?_ rfl ⟨by rw [HE.out]; try rfl, ?_⟩
      · simp [results, Tryz.results129, go_sem, d0, d1, d2]
      · first
          | exact hup
          | (iterate 3 refine Below.setCell ?_ (by simp <;> omega) _
             exact hup)
    · have HE := Lib.hid (show getVal l p 1 = (⟨1, n, ⟨#[]⟩⟩, nx, true) from hG)
      obtain ⟨hn, hnx⟩ := hgd n nx rfl
      have hz : (nx == 0) = false := by simp; omega
      have HV := Lib.hid (fun W => (by have h := impl_ValOk ⟨1, n, ⟨#[]⟩⟩ W (Nat.zero_le _); rw [valOk_mk1 hn] at h; exact h))
      clear hG hgd hn
      go_enter Tryz.func129, Tryz.ntmps129
      go_wp2_with fail
      rw [HW0.out]
      refine HT.out.mono ?_
      rintro e w1 ⟨rfl, rfl⟩
      go_wp2_with fail
      have hgX := (Below.heap_setCell W0 ⟨w.heap.size + 1, 1, none⟩ (.int .i64 n) w.heap.size (by simp)).trans hg0
      have hgV := set1 (o := 1) (a := .int .i64 n) hv0
      have hbX := Below.setCell (p := ⟨w.heap.size + 1, 1, none⟩) hup (Nat.le_succ _) (.int .i64 n)
      refine (HV.out _).mono ?_
      rintro e w2 ⟨rfl, hb2⟩
      have g2 := (hb2.block _ (Array.getElem?_eq_some_iff.1 hgX).1).trans hgX
      have v2 := (hb2.block _ (Array.getElem?_eq_some_iff.1 hgV).1).trans hgV
      have hbw := below_go hbX hb2
      clear hb2 hgX hgV hbX d0 d1 d2 df
      have d0 := cell_of_row w2 _ 0 _ _ _ g2
      have d1 := cell_of_row w2 _ 1 _ _ _ g2
      have d2 := cell_of_row w2 _ 2 _ _ _ g2
      have n0 := cell_of_row w2 _ 0 _ _ _ v2
      have n1 := cell_of_row w2 _ 1 _ _ _ v2
      have n2 := cell_of_row w2 _ 2 _ _ _ v2
      simp at d0 d1 d2 n0 n1 n2
      have df := fun o => frozen_of_row w2 _ o _ _ g2
      clear g2 v2
      go_wp2_with fail
      refine bodyPost_ret (v := .tuple #[.agg #[.int .i64 1, .int .i64 n, .string ⟨#[]⟩], .int .i64 nx, .bool true]) ?_ rfl ⟨by rw [HE.out]; try rfl, ?_⟩
      · simp [results, Tryz.results129, go_sem, d0, d1, d2]
      · first
          | exact hbw
          | (iterate 3 refine Below.setCell ?_ (by simp <;> omega) _
             exact hbw)
  · have b1 : (ty == 1) = false := by simp [h1]
    by_cases h2 : ty = 2 ∧ 0 ≤ p ∧ p < (l.length : Int)
    rotate_left
    · have HE : Hid (getVal l p ty = (V.zero, 0, false)) := Lib.hid (by
        by_cases h3 : ty = 2
        · subst h3
          exact getVal_out (by omega)
        · exact getVal_other h1 h3)
      have HV := Lib.hid (fun W => impl_ValOk ⟨ty, 0, ⟨#[]⟩⟩ W (Nat.zero_le _))
      obtain ⟨ok, hok⟩ : ∃ ok, valOk ⟨ty, 0, ⟨#[]⟩⟩ = ok := ⟨_, rfl⟩
      rw [hok] at HV
      have HW := Lib.hid (show (ty == 2) = false ∨ ((ty == 2) = true ∧ (decide ((0 : Int) ≤ p) = false ∨ (decide ((0 : Int) ≤ p) = true ∧ decide (p < (l.length : Int)) = false))) by
        by_cases h3 : ty = 2
        · right
          refine ⟨by simp [h3], ?_⟩
          by_cases h4 : 0 ≤ p
          · exact .inr ⟨decide_eq_true h4, decide_eq_false (by omega)⟩
          · exact .inl (decide_eq_false h4)
        · left
          simp [h3])
      clear h1 h2 hok hx0
      rcases HW.out with c1 | ⟨c1, c2 | ⟨c2, c3⟩⟩
      all_goals
        clear HW
        cases ok
      all_goals
        go_enter Tryz.func129, Tryz.ntmps129
        go_wp2_with fail
        rw [HW0.out]
        have hgX := hg0
        have hgV := hv0
        have hbX := hup
        refine (HV.out _).mono ?_
        rintro e w2 ⟨rfl, hb2⟩
        have g2 := (hb2.block _ (Array.getElem?_eq_some_iff.1 hgX).1).trans hgX
        have v2 := (hb2.block _ (Array.getElem?_eq_some_iff.1 hgV).1).trans hgV
        have hbw := below_go hbX hb2
        clear hb2 hgX hgV hbX d0 d1 d2 df
        have d0 := cell_of_row w2 _ 0 _ _ _ g2
        have d1 := cell_of_row w2 _ 1 _ _ _ g2
        have d2 := cell_of_row w2 _ 2 _ _ _ g2
        have n0 := cell_of_row w2 _ 0 _ _ _ v2
        have n1 := cell_of_row w2 _ 1 _ _ _ v2
        have n2 := cell_of_row w2 _ 2 _ _ _ v2
        simp at d0 d1 d2 n0 n1 n2
        have df := fun o => frozen_of_row w2 _ o _ _ g2
        clear g2 v2
        go_wp2_with fail
        refine bodyPost_ret (v := .tuple #[.agg #[.int .i64 0, .int .i64 0, .string ⟨#[]⟩], .int .i64 0, .bool false]) ?_ rfl ⟨by rw [HE.out]; try rfl, ?_⟩
        · simp [results, Tryz.results129, go_sem, d0, d1, d2]
        · first
            | exact hbw
            | (iterate 3 refine Below.setCell ?_ (by simp <;> omega) _
               exact hbw)
    obtain ⟨rfl, hp0, hpl⟩ := h2
    obtain ⟨k, rfl⟩ := Int.eq_ofNat_of_zero_le hp0
    have hkl : k < l.length := by omega
    have c2 : decide ((0 : Int) ≤ (k : Int)) = true := decide_eq_true hp0
    have c3 : decide ((k : Int) < (l.length : Int)) = true := decide_eq_true hpl
    obtain ⟨b, off, cc, rfl, -, hbl, hk, e0⟩ := hx0.at hkl
    have e0' := e0
    rw [← HW0.out] at e0'
    have hG := getVal_txt hk
    have hcc := cc.toNat_lt
    have hcw : IntKind.i64.wrap (cc.toNat : Int) = (cc.toNat : Int) := by rw [IntKind.wrap_i64]; omega
    obtain ⟨p1, hp1⟩ : ∃ p1, k + 1 = p1 := ⟨_, rfl⟩
    obtain ⟨p2, hp2⟩ : ∃ p2, p1 + cc.toNat = p2 := ⟨_, rfl⟩
    have g1 : (k : Int) + 1 = (p1 : Int) := by omega
    have g2 : (p1 : Int) + (cc.toNat : Int) = (p2 : Int) := by omega
    have w1' : IntKind.i64.wrap (p1 : Int) = (p1 : Int) := by rw [IntKind.wrap_i64]; omega
    have w2' : IntKind.i64.wrap (p2 : Int) = (p2 : Int) := by rw [IntKind.wrap_i64]; omega
    clear h1 hp0 hpl
    by_cases hle : cc.toNat ≤ l.length - (k + 1)
    rotate_left
    · have HE := Lib.hid (show getVal l (k : Int) 2 = (V.zero, 0, false) by rw [hG, decide_eq_false hle]; rfl)
      have dg : decide ((l.length : Int) < (p2 : Int)) = true := decide_eq_true (by omega)
      have dn : l.length < p2 := by omega
      clear hG hx0 hk hle hp1 hp2
      go_enter Tryz.func129, Tryz.ntmps129
      go_wp2_with fail
      all_goals first | (exfalso; omega) | skip
      try rw [HW0.out]
      refine bodyPost_ret (v := .tuple #[.agg #[.int .i64 0, .int .i64 0, .string ⟨#[]⟩], .int .i64 0, .bool false]) ?_ rfl ⟨by rw [HE.out]; try rfl, ?_⟩
      · simp [results, Tryz.results129, go_sem, d0, d1, d2]
      · first
          | exact hup
          | (iterate 3 refine Below.setCell ?_ (by simp <;> omega) _
             exact hup)
    have dg : decide ((l.length : Int) < (p2 : Int)) = false := decide_eq_false (by omega)
    have dn : ¬ l.length < p2 := by omega
    have hsub := (hx0.dropIf (k := p1) (by omega) hl).takeN (k := cc.toNat) (by rw [List.length_drop]; omega)
    rw [decide_eq_true hle, Bool.true_and, hp1, hp2] at hG
    have f1 : (0 : Int) ≤ (p1 : Int) := by omega
    have f2 : (p1 : Int) ≤ (p2 : Int) := by omega
    have f3 : (p2 : Int) ≤ (c : Int) := by omega
    have hm : p2 - p1 = cc.toNat := by omega
    have hz : ((p2 : Int) == 0) = false := by simp; omega
    obtain ⟨AA, hAA⟩ : ∃ AA, (if c = p1 then some (⟨b, off, none⟩ : Addr) else some ⟨b, off + p1, none⟩) = AA := ⟨_, rfl⟩
    rw [hAA] at hsub
    have c1 := hsub.conv Tryz.underlying34 Tryz.underlying5 Tryz.underlying9
    rw [← HW0.out] at c1
    obtain ⟨s, hs⟩ : ∃ s : ByteArray, ⟨((l.drop p1).take cc.toNat).toArray⟩ = s := ⟨_, rfl⟩
    have hvt := valOk_txt ((l.drop p1).take cc.toNat)
    have hsz : s.size ≤ 255 := by
      rw [← hs]
      show (((l.drop p1).take cc.toNat).toArray).size ≤ 255
      rw [List.size_toArray, List.length_take]
      omega
    rw [hs] at c1 hG hvt
    rw [← hvt] at hG
    clear hvt hs hsub hk hx0 hle hp1 hp2
    have hV := impl_ValOk ⟨2, 0, s⟩
    cases hv : valOk ⟨2, 0, s⟩
    · rw [hv] at hG
      have HE := Lib.hid (show getVal l (k : Int) 2 = (V.zero, 0, false) from hG)
      have HV := Lib.hid (fun W => (by have h := hV W (Nat.le_trans hsz (by decide)); rw [hv] at h; exact h))
      clear hG hV hv
      go_enter Tryz.func129, Tryz.ntmps129
      go_wp2_with fail
      all_goals first | (exfalso; omega) | skip
      have hgX := ((up_a1 (w.alloc (.cells #[.int .i64 0, .int .i64 0, .string ⟨#[]⟩] 83)) (.cells #[.int .i64 2, .int .i64 0, .string s] 83)).block w.heap.size (by simp)).trans (heap_alloc_new w (.cells #[.int .i64 0, .int .i64 0, .string ⟨#[]⟩] 83))
      have hgV := (by have h := heap_alloc_new (w.alloc (.cells #[.int .i64 0, .int .i64 0, .string ⟨#[]⟩] 83)) (.cells #[.int .i64 2, .int .i64 0, .string s] 83); rw [World.size_alloc] at h; exact h : ((w.alloc (.cells #[.int .i64 0, .int .i64 0, .string ⟨#[]⟩] 83)).alloc (.cells #[.int .i64 2, .int .i64 0, .string s] 83)).heap[w.heap.size + 1]? = some (.cells #[.int .i64 2, .int .i64 0, .string s] 83))
      have hbX := up_a2 w (.cells #[.int .i64 0, .int .i64 0, .string ⟨#[]⟩] 83) (.cells #[.int .i64 2, .int .i64 0, .string s] 83)
      refine (HV.out _).mono ?_
      rintro e w2 ⟨rfl, hb2⟩
      have g2 := (hb2.block _ (Array.getElem?_eq_some_iff.1 hgX).1).trans hgX
      have v2 := (hb2.block _ (Array.getElem?_eq_some_iff.1 hgV).1).trans hgV
      have hbw := below_go hbX hb2
      clear hb2 hgX hgV hbX d0 d1 d2 df
      have d0 := cell_of_row w2 _ 0 _ _ _ g2
      have d1 := cell_of_row w2 _ 1 _ _ _ g2
      have d2 := cell_of_row w2 _ 2 _ _ _ g2
      have n0 := cell_of_row w2 _ 0 _ _ _ v2
      have n1 := cell_of_row w2 _ 1 _ _ _ v2
      have n2 := cell_of_row w2 _ 2 _ _ _ v2
      simp at d0 d1 d2 n0 n1 n2
      have df := fun o => frozen_of_row w2 _ o _ _ g2
      clear g2 v2
      go_wp2_with fail
      refine bodyPost_ret (v := .tuple #[.agg #[.int .i64 0, .int .i64 0, .string ⟨#[]⟩], .int .i64 0, .bool false]) ?_ rfl ⟨by rw [HE.out]; try rfl, ?_⟩
      · simp [results, Tryz.results129, go_sem, d0, d1, d2]
      · first
          | exact hbw
          | (iterate 3 refine Below.setCell ?_ (by simp <;> omega) _
             exact hbw)
    · rw [hv] at hG
      have HE := Lib.hid (show getVal l (k : Int) 2 = (⟨2, 0, s⟩, (p2 : Int), true) from hG)
      have HV := Lib.hid (fun W => (by have h := hV W (Nat.le_trans hsz (by decide)); rw [hv] at h; exact h))
      clear hG hV hv
      go_enter Tryz.func129, Tryz.ntmps129
      go_wp2_with fail
      all_goals first | (exfalso; omega) | skip
      have hgX := ((up_a1 (w.alloc (.cells #[.int .i64 0, .int .i64 0, .string ⟨#[]⟩] 83)) (.cells #[.int .i64 2, .int .i64 0, .string s] 83)).block w.heap.size (by simp)).trans (heap_alloc_new w (.cells #[.int .i64 0, .int .i64 0, .string ⟨#[]⟩] 83))
      have hgV := (by have h := heap_alloc_new (w.alloc (.cells #[.int .i64 0, .int .i64 0, .string ⟨#[]⟩] 83)) (.cells #[.int .i64 2, .int .i64 0, .string s] 83); rw [World.size_alloc] at h; exact h : ((w.alloc (.cells #[.int .i64 0, .int .i64 0, .string ⟨#[]⟩] 83)).alloc (.cells #[.int .i64 2, .int .i64 0, .string s] 83)).heap[w.heap.size + 1]? = some (.cells #[.int .i64 2, .int .i64 0, .string s] 83))
      have hbX := up_a2 w (.cells #[.int .i64 0, .int .i64 0, .string ⟨#[]⟩] 83) (.cells #[.int .i64 2, .int .i64 0, .string s] 83)
      refine (HV.out _).mono ?_
      rintro e w2 ⟨rfl, hb2⟩
      have g2 := (hb2.block _ (Array.getElem?_eq_some_iff.1 hgX).1).trans hgX
      have v2 := (hb2.block _ (Array.getElem?_eq_some_iff.1 hgV).1).trans hgV
      have hbw := below_go hbX hb2
      clear hb2 hgX hgV hbX d0 d1 d2 df
      have d0 := cell_of_row w2 _ 0 _ _ _ g2
      have d1 := cell_of_row w2 _ 1 _ _ _ g2
      have d2 := cell_of_row w2 _ 2 _ _ _ g2
      have n0 := cell_of_row w2 _ 0 _ _ _ v2
      have n1 := cell_of_row w2 _ 1 _ _ _ v2
      have n2 := cell_of_row w2 _ 2 _ _ _ v2
      simp at d0 d1 d2 n0 n1 n2
      have df := fun o => frozen_of_row w2 _ o _ _ g2
      clear g2 v2
      go_wp2_with fail
      refine bodyPost_ret (v := .tuple #[.agg #[.int .i64 2, .int .i64 0, .string s], .int .i64 p2, .bool true]) ?_ rfl ⟨by rw [HE.out]; try rfl, ?_⟩
      · simp [results, Tryz.results129, go_sem, d0, d1, d2]
      · first
          | exact hbw
          | (iterate 3 refine Below.setCell ?_ (by simp <;> omega) _
             exact hbw)
end Go.Proofs.YticimccfeohpcaaGreat
