/- Lists of varints: contracts. -/
import Derived.Test.YtnldneogjdljkaaNC
import Derived.Test.YtnldneogjdljkaaND
namespace Go.Lb
open Go.RowKit
theorem Own.rdBc {w : World} {e lo hi : Nat} {v : Value} {l : List UInt8} (h : Own e 1 w lo hi v l.length (bc l)) : RdB w lo hi v l := h.rdB
theorem numsB_yes {l : List Int} (h : l.all isNum = true) (hl : l.length ≤ 1000000) : numsB l = numB l.length ++ l.flatMap numB := by
  rw [numsB, if_pos (by simp [numsOk, h]; omega)]
theorem numsB_no {l : List Int} (h : l.all isNum = false) : numsB l = [] := by
  rw [numsB, if_neg (by simp only [numsOk, h, Bool.and_false]; decide)]
theorem flat_take {q : List Int} {i : Nat} {n : Int} (h : q[i]? = some n) : (q.take (i + 1)).flatMap numB = (q.take i).flatMap numB ++ numB n := by
  rw [take_of_get h, List.flatMap_append]
  simp
theorem all_step {q : List Int} {i : Nat} {n : Int} (h : q[i]? = some n) (h1 : (q.take i).all isNum = true) (h2 : isNum n = true) : (q.take (i + 1)).all isNum = true := by
  rw [take_of_get h, List.all_append, h1]
  simp [h2]
theorem all_not {q : List Int} {i : Nat} {n : Int} (h : q[i]? = some n) (h2 : isNum n = false) : q.all isNum = false := by
  rw [Bool.eq_false_iff]
  intro h3
  rw [List.all_eq_true] at h3
  rw [h3 n (mem_of_get h)] at h2
  cases h2
theorem flat_len5 (q : List Int) : (q.flatMap numB).length ≤ 5 * q.length := by
  induction q with
  | nil => simp
  | cons a q ih =>
    have := numB_len a
    simp only [List.flatMap_cons, List.length_append, List.length_cons]
    omega
def getNums (l : List UInt8) (p : Int) : List Int × Int × Bool := if p < 0 then ([], 0, false) else match rdNums (l.drop p.toNat) with
  | none => ([], 0, false)
  | some (q, k) => (q, p + k, true)
theorem getNums_neg {l : List UInt8} {p : Int} (h : p < 0) : getNums l p = ([], 0, false) := by rw [getNums, if_pos h]
theorem getNums_none {l : List UInt8} {p : Nat} (h : rdNums (l.drop p) = none) : getNums l (p : Int) = ([], 0, false) := by rw [getNums, if_neg (by omega), Int.toNat_natCast, h]
theorem getNums_some {l : List UInt8} {p : Nat} {q : List Int} {k : Nat} (h : rdNums (l.drop p) = some (q, k)) : getNums l (p : Int) = (q, ((p + k : Nat) : Int), true) := by rw [getNums, if_neg (by omega), Int.toNat_natCast, h]; rfl
theorem rdNums_none {s : List UInt8} (h : rdNum s = none) : rdNums s = none := by simp only [rdNums, h]
theorem rdNums_big {s : List UInt8} {n : Int} {m : Nat} (h : rdNum s = some (n, m)) (hn : inR n 0 64 = false) : rdNums s = none := by simp only [rdNums, h, hn]; rfl
theorem rdNums_some {s : List UInt8} {k m : Nat} (h : rdNum s = some ((k : Int), m)) (hn : inR (k : Int) 0 64 = true) : rdNums s = (rdL rdNum k (s.drop m)).map fun p => (p.1, m + p.2) := by simp only [rdNums, h, hn]; rfl
theorem own_ints_none (w : World) (e lo hi : Nat) : Own e 1 w lo hi (.slice none 0 0) 0 [] := ⟨⟨by simp, .inl ⟨rfl, rfl⟩⟩, fun g hg => by simp [Value.ownBlock] at hg⟩
end Go.Lb
namespace Go.Proofs.Ytnldneogjdljkaa
open Go.Sort Go.ChangeShapes Go.WideShapes Go.ChangeAt Go.RowKit Go.Lb
set_option maxHeartbeats 4000000 in
set_option maxRecDepth 20000 in
theorem spec_PutNums (l : List UInt8) (x : Value) (q : List Int) (y : Value) (w : World) {l1 h1 l2 h2 : Nat} (hx : RdB w l1 h1 x l) (hh1 : h1 ≤ w.heap.size) (hy : RdI w l2 h2 y q) (hh2 : h2 ≤ w.heap.size) (hn : l.length ≤ 100000000000) (hq : q.length ≤ 1000000) :
    Calls Try.prog 35 #[x, y] w fun e w' => ∃ v, e = .returned v ∧ Own 5 1 w' w.heap.size w'.heap.size v (l ++ numsB q).length (bc (l ++ numsB q)) ∧ Below w.heap.size w w' := by
  obtain ⟨A, c, rfl, hl, hl2⟩ := hx.form
  obtain ⟨A2, c2, rfl, hl3, hl4⟩ := hy.form
  obtain ⟨i0, hif, hz0, hz1, hz2⟩ := info_parts info_u8
  replace hif := Lib.hid hif
  replace hz0 := Lib.hid hz0
  replace hz1 := Lib.hid hz1
  replace hz2 := Lib.hid hz2
  have hfl := flat_len5 q
  go_enter Try.func35, Try.ntmps35
  go_wp2_with fail
  refine (spec_PutNum l _ q.length w hx hh1 (by omega)).mono ?_
  rintro e w1 ⟨v, rfl, hown, hb⟩
  generalize hr1 : l ++ numB (q.length : Int) = r1 at hown
  have Hr1 := Lib.hid hr1
  clear hr1
  obtain ⟨Av, cv, rfl, -, -, -⟩ := hown.cells
  go_wp2_with fail
  go_loopw [5, 6] (fun o i wr => ∃ (j : Nat) (acc : List UInt8), Hid (i = .int .i64 j ∧ j ≤ q.length ∧ (q.take j).all Lb.isNum = true ∧ acc = l ++ (numB q.length ++ (q.take j).flatMap numB) ∧ Own 5 1 wr w.heap.size wr.heap.size o acc.length (bc acc) ∧ Below w.heap.size w wr)) (fun _ i _ => q.length - (intOf i).toNat)
  case atStart => exact ⟨0, r1, Lib.hid ⟨rfl, by omega, rfl, by rw [← Hr1.out]; simp, hown, hb⟩⟩
  case round =>
    obtain ⟨j, acc, hrel⟩ := hrel
    obtain ⟨rfl, hj, hall, hacc, hown, hb⟩ := hrel.out
    obtain ⟨Ao, co, rfl, -, -, -⟩ := hown.cells
    have Hacc := Lib.hid hacc
    have hcl : ((q.take j).flatMap numB).length ≤ 5 * 1000000 := Nat.le_trans (flat_len5 _) (by rw [List.length_take]; omega)
    have hnl := numB_len q.length
    have hal : acc.length ≤ 200000000000 := by rw [hacc]; simp only [List.length_append]; omega
    clear hacc hcl hnl
    have Hown := Lib.hid hown
    have Hall := Lib.hid hall
    clear hown hall hrel
    have hbs := hb.size
    by_cases hjl : j < q.length
    · obtain ⟨b, off, n, rfl, -, hbl, hjk, e0⟩ := (hy.below hb hh2).at hjl
      have Hj := Lib.hid hjk
      clear hjk
      have hQ := q_spec_l1Right n wr
      cases hI : Lb.isNum n
      · rw [hI] at hQ
        have HR := Lib.hid (show l ++ numsB q = l by rw [numsB_no (all_not Hj.out hI), List.append_nil])
        have hN := Lib.hid (((hx.below hb hh1).below (up_a1 wr (.cells #[] 5)) (by omega)).spread)
        have own0 := World.ownsRow_made wr (base := w.heap.size) (e := 5) (size := 1) #[] 0 hb.size (by decide) rfl
        have HQ := Lib.hid hQ
        clear hI hQ
        go_wp2_with fail
        refine HQ.out.mono ?_
        rintro e w2 ⟨rfl, rfl⟩
        go_wp2_with (at_builtin; refine wpl_spread rfl _ _ 22 rfl w.heap.size 5 i0 _ 1 1 Try.underlying22 hif.out hz0.out hz1.out hz2.out rfl (by decide) (by decide) own0 rfl rfl (bc_len l) hN.out.2.1 hN.out.2.2 (bc_one l) (by omega) (by simp; omega) ?_)
        intro v' w3 hown' hgrow _
        have hb3 := below_app (hb.alloc hb.size _) own0 hgrow (Nat.le_refl _)
        try simp only [Nat.zero_add, List.nil_append] at hown'
        clear hgrow own0
        go_wp2_with fail
        go_ret
        exact ⟨_, rfl, by rw [HR.out]; exact .new hown', hb3⟩
      · rw [hI] at hQ
        have Hall' := Lib.hid (all_step Hj.out Hall.out hI)
        have HQ := Lib.hid hQ
        clear hI hQ
        go_wp2_with fail
        refine HQ.out.mono ?_
        rintro e w2 ⟨rfl, rfl⟩
        go_wp2_with fail
        refine (spec_PutNum acc _ n wr Hown.out.rdBc (Nat.le_refl _) (by omega)).mono ?_
        rintro e w3 ⟨v', rfl, hown', hb'⟩
        generalize hr2 : acc ++ numB n = r2 at hown'
        have Hr2 := Lib.hid hr2
        clear hr2
        obtain ⟨A', c', rfl, -, -, -⟩ := hown'.cells
        have HO := Lib.hid (hown'.more hbs (Nat.le_refl _))
        have hb3 := hb.trans (hb'.mono hbs)
        have HE := Lib.hid (show r2 = l ++ (numB q.length ++ (q.take (j + 1)).flatMap numB) by rw [← Hr2.out, Hacc.out, flat_take Hj.out]; simp)
        clear hown' hb'
        go_wp2_with fail
        go_roundw
        case rel => exact ⟨j + 1, r2, Lib.hid ⟨by go_num, by omega, Hall'.out, HE.out, HO.out, hb3⟩⟩
        case measure => simp [intOf]; omega
    · obtain rfl : j = q.length := by omega
      have Hall2 := Lib.hid (show q.all Lb.isNum = true by have h := Hall.out; rwa [List.take_length] at h)
      have HR := Lib.hid (show l ++ numsB q = acc by rw [Hacc.out, numsB_yes Hall2.out hq, List.take_length])
      go_wp2_with fail
      go_ret
      exact ⟨_, rfl, by rw [HR.out]; exact Hown.out, hb⟩
set_option maxHeartbeats 4000000 in
set_option maxRecDepth 20000 in
theorem impl_PutNums (l : List UInt8) (x : Value) (q : List Int) (y : Value) (w : World) {l1 h1 l2 h2 : Nat} (hx : RdB w l1 h1 x l) (hh1 : h1 ≤ w.heap.size) (hy : RdI w l2 h2 y q) (hh2 : h2 ≤ w.heap.size) (hn : l.length ≤ 100000000000) (hq : q.length ≤ 1000000) :
    Calls Try.prog 31 #[x, y] w fun e w' => ∃ v, e = .returned v ∧ Own 5 1 w' w.heap.size w'.heap.size v (l ++ numsB q).length (bc (l ++ numsB q)) ∧ Below w.heap.size w w' := by
  obtain ⟨A, c, rfl, hl, hl2⟩ := hx.form
  obtain ⟨A2, c2, rfl, hl3, hl4⟩ := hy.form
  have hfl := flat_len5 q
  go_enter Try.func31, Try.ntmps31
  go_wp2_with fail
  refine (impl_cloneBytes l _ w hx hh1 (by omega)).mono ?_
  rintro e w1 ⟨v, rfl, hown, hb⟩
  obtain ⟨Av, cv, rfl, -, -, -⟩ := hown.cells
  have hnb : decide (1000000000 < (q.length : Int)) = false := decide_eq_false (by omega)
  have Hown := Lib.hid hown
  clear hown
  go_wp2_with fail
  go_loopw [18] (fun i wr => ∃ j : Nat, Hid (i = .int .i64 j ∧ j ≤ q.length ∧ (q.take j).all Lb.isNum = true ∧ wr = w1)) (fun i _ => q.length - (intOf i).toNat)
  case atStart => exact ⟨0, Lib.hid ⟨rfl, by omega, rfl, rfl⟩⟩
  case round =>
    obtain ⟨j, hrel⟩ := hrel
    obtain ⟨rfl, hj, hall, hww⟩ := hrel.out
    subst hww
    have Hall := Lib.hid hall
    clear hall hrel
    have hbs := hb.size
    by_cases hjl : j < q.length
    · obtain ⟨b, off, n, rfl, -, hbl, hjk, e0⟩ := (hy.below hb hh2).at hjl
      have Hj := Lib.hid hjk
      clear hjk
      have hQ := q_impl_isNum n wr
      cases hI : Lb.isNum n
      · rw [hI] at hQ
        have HR := Lib.hid (show l ++ numsB q = l by rw [numsB_no (all_not Hj.out hI), List.append_nil])
        have HQ := Lib.hid hQ
        clear hI hQ
        go_wp2_with fail
        refine HQ.out.mono ?_
        rintro e w2 ⟨rfl, rfl⟩
        go_wp2_with fail
        go_ret
        exact ⟨_, rfl, by rw [HR.out]; exact Hown.out, hb⟩
      · rw [hI] at hQ
        have Hall' := Lib.hid (all_step Hj.out Hall.out hI)
        have HQ := Lib.hid hQ
        clear hI hQ
        go_wp2_with fail
        refine HQ.out.mono ?_
        rintro e w2 ⟨rfl, rfl⟩
        go_wp2_with fail
        go_roundw
        case rel => exact ⟨j + 1, Lib.hid ⟨by go_num, by omega, Hall'.out, by first | rfl | trivial⟩⟩
        case measure => simp [intOf]; omega
    · obtain rfl : j = q.length := by omega
      have Hall2 := Lib.hid (show q.all Lb.isNum = true by have h := Hall.out; rwa [List.take_length] at h)
      clear Hall
      go_wp2_with fail
      refine (impl_PutNum l _ q.length wr Hown.out.rdBc (Nat.le_refl _) (by omega)).mono ?_
      rintro e w2 ⟨v2, rfl, hown2, hb2⟩
      generalize hr1 : l ++ numB (q.length : Int) = r1 at hown2
      have Hr1 := Lib.hid hr1
      clear hr1
      obtain ⟨Av2, cv2, rfl, -, -, -⟩ := hown2.cells
      have hb2' := hb.trans (hb2.mono hbs)
      have Hown2 := Lib.hid (hown2.more hbs (Nat.le_refl _))
      clear hown2 hb2
      go_wp2_with fail
      go_loopw [5, 33] (fun o i wr => ∃ (j : Nat) (acc : List UInt8), Hid (i = .int .i64 j ∧ j ≤ q.length ∧ (q.take j).all Lb.isNum = true ∧ acc = l ++ (numB q.length ++ (q.take j).flatMap numB) ∧ Own 5 1 wr w.heap.size wr.heap.size o acc.length (bc acc) ∧ Below w.heap.size w wr)) (fun _ i _ => q.length - (intOf i).toNat)
      case atStart => exact ⟨0, r1, Lib.hid ⟨rfl, by omega, rfl, by rw [← Hr1.out]; simp, Hown2.out, hb2'⟩⟩
      case round =>
        obtain ⟨j, acc, hrel⟩ := hrel
        obtain ⟨rfl, hj, -, hacc, hown, hb⟩ := hrel.out
        obtain ⟨Ao, co, rfl, -, -, -⟩ := hown.cells
        have Hacc := Lib.hid hacc
        have hcl : ((q.take j).flatMap numB).length ≤ 5 * 1000000 := Nat.le_trans (flat_len5 _) (by rw [List.length_take]; omega)
        have hnl := numB_len q.length
        have hal : acc.length ≤ 200000000000 := by rw [hacc]; simp only [List.length_append]; omega
        clear hacc hcl hnl
        have Hown := Lib.hid hown
        clear hown hrel
        have hbs := hb.size
        by_cases hjl : j < q.length
        · obtain ⟨b, off, n, rfl, -, hbl, hjk, e0⟩ := (hy.below hb hh2).at hjl
          have Hj := Lib.hid hjk
          clear hjk
          have Hall' := Lib.hid (show (q.take (j + 1)).all Lb.isNum = true by
            have h := Hall2.out
            rw [List.all_eq_true] at h ⊢
            exact fun a ha => h a (List.mem_of_mem_take ha))
          go_wp2_with fail
          refine (impl_PutNum acc _ n _ Hown.out.rdBc (Nat.le_refl _) (by omega)).mono ?_
          rintro e w3 ⟨v', rfl, hown', hb'⟩
          generalize hr2 : acc ++ numB n = r2 at hown'
          have Hr2 := Lib.hid hr2
          clear hr2
          obtain ⟨A', c', rfl, -, -, -⟩ := hown'.cells
          have HO := Lib.hid (hown'.more hbs (Nat.le_refl _))
          have hb3 := hb.trans (hb'.mono hbs)
          have HE := Lib.hid (show r2 = l ++ (numB q.length ++ (q.take (j + 1)).flatMap numB) by rw [← Hr2.out, Hacc.out, flat_take Hj.out]; simp)
          clear hown' hb'
          go_wp2_with fail
          go_roundw
          case rel => exact ⟨j + 1, r2, Lib.hid ⟨by go_num, by omega, Hall'.out, HE.out, HO.out, hb3⟩⟩
          case measure => simp [intOf]; omega
        · obtain rfl : j = q.length := by omega
          have HR := Lib.hid (show l ++ numsB q = acc by rw [Hacc.out, numsB_yes Hall2.out hq, List.take_length])
          go_wp2_with fail
          go_ret
          exact ⟨_, rfl, by rw [HR.out]; exact Hown.out, hb⟩
set_option maxHeartbeats 4000000 in
set_option maxRecDepth 20000 in
theorem spec_GetNums (l : List UInt8) (x : Value) (p : Int) (w : World) {lo hi : Nat} (hx : RdB w lo hi x l) (hhi : hi ≤ w.heap.size) :
    Calls Try.prog 34 #[x, .int .i64 p] w fun e w' => ∃ v, e = .returned (.tuple #[v, .int .i64 (getNums l p).2.1, .bool (getNums l p).2.2]) ∧ Own 3 1 w' w.heap.size w'.heap.size v (getNums l p).1.length ((getNums l p).1.map (.int .i64)) ∧ Below w.heap.size w w' := by
  obtain ⟨A, c, rfl, hl, hl2⟩ := hx.form
  obtain ⟨j0, jif, jz0, jz1, jz2⟩ := info_parts info_i64
  replace jif := Lib.hid jif
  replace jz0 := Lib.hid jz0
  replace jz1 := Lib.hid jz1
  replace jz2 := Lib.hid jz2
  have hb0 : Below w.heap.size w w := Below.refl _ _
  have HG1 := Lib.hid (q_spec_GetNum l _ p w hx)
  by_cases hp : p < 0
  · have HG := Lib.hid (getNums_neg (l := l) hp)
    have HT := Lib.hid (by have h := HG1.out; rw [getNum_neg hp] at h; exact h)
    clear HG1 hp
    go_enter Try.func34, Try.ntmps34
    go_wp2_with fail
    refine HT.out.mono ?_
    rintro e w1 ⟨rfl, rfl⟩
    go_wp2_with fail
    refine bodyPost_ret (v := .tuple #[.slice (some ⟨w.heap.size, 0, none⟩) 0 0, .int .i64 0, .bool false]) (by simp [results, Try.results34, go_sem]) rfl ⟨_, by rw [HG.out], ?_, hb0.alloc hb0.size _⟩
    rw [HG.out]
    exact .new (World.ownsRow_made w (base := w.heap.size) (e := 3) (size := 1) #[] 0 hb0.size (by decide) rfl)
  obtain ⟨p, rfl⟩ := Int.eq_ofNat_of_zero_le (show 0 ≤ p by omega)
  clear hp
  cases hr : rdNum (l.drop p) with
  | none =>
    have HG := Lib.hid (getNums_none (rdNums_none hr))
    have HT := Lib.hid (by have h := HG1.out; rw [getNum_none hr] at h; exact h)
    clear HG1 hr
    go_enter Try.func34, Try.ntmps34
    go_wp2_with fail
    refine HT.out.mono ?_
    rintro e w1 ⟨rfl, rfl⟩
    go_wp2_with fail
    refine bodyPost_ret (v := .tuple #[.slice (some ⟨w.heap.size, 0, none⟩) 0 0, .int .i64 0, .bool false]) (by simp [results, Try.results34, go_sem]) rfl ⟨_, by rw [HG.out], ?_, hb0.alloc hb0.size _⟩
    rw [HG.out]
    exact .new (World.ownsRow_made w (base := w.heap.size) (e := 3) (size := 1) #[] 0 hb0.size (by decide) rfl)
  | some nm =>
    obtain ⟨n, m0⟩ := nm
    have HT := Lib.hid (by have h := HG1.out; rw [getNum_some hr] at h; exact h)
    clear HG1
    have hI := q_spec_l1In n 0 64 w
    cases hin : inR n 0 64
    · rw [hin] at hI
      have HI := Lib.hid hI
      have HG := Lib.hid (getNums_none (rdNums_big hr hin))
      clear hr hin hI
      go_enter Try.func34, Try.ntmps34
      go_wp2_with fail
      refine HT.out.mono ?_
      rintro e w1 ⟨rfl, rfl⟩
      go_wp2_with fail
      refine HI.out.mono ?_
      rintro e w1 ⟨rfl, rfl⟩
      go_wp2_with fail
      refine bodyPost_ret (v := .tuple #[.slice (some ⟨w.heap.size, 0, none⟩) 0 0, .int .i64 0, .bool false]) (by simp [results, Try.results34, go_sem]) rfl ⟨_, by rw [HG.out], ?_, hb0.alloc hb0.size _⟩
      rw [HG.out]
      exact .new (World.ownsRow_made w (base := w.heap.size) (e := 3) (size := 1) #[] 0 hb0.size (by decide) rfl)
    · rw [hin] at hI
      have HI := Lib.hid hI
      have hn := inR_yes hin
      obtain ⟨k, rfl⟩ := Int.eq_ofNat_of_zero_le hn.1
      have hk64 : k ≤ 64 := by omega
      have HS := Lib.hid (rdNums_some hr hin)
      clear hr hin hI hn
      go_enter Try.func34, Try.ntmps34
      go_wp2_with fail
      refine HT.out.mono ?_
      rintro e w1 ⟨rfl, rfl⟩
      go_wp2_with fail
      refine HI.out.mono ?_
      rintro e w1 ⟨rfl, rfl⟩
      have own0 := World.ownsRow_made w (base := w.heap.size) (e := 3) (size := 1) #[] 0 (Nat.le_refl _) (by decide) rfl
      go_wp2_with fail
      go_loopw [8, 10, 11] (fun a o i wr => ∃ (j m : Nat) (q : List Int), Hid (i = .int .i64 j ∧ a = .int .i64 ((p + m0 + m : Nat) : Int) ∧ RdSt rdNum k (l.drop (p + m0)) j q m ∧ wr.ownsRow w.heap.size 3 1 o j (q.map (.int .i64)) ∧ Below w.heap.size w wr)) (fun _ _ i _ => k - (intOf i).toNat)
      case atStart => exact ⟨0, 0, [], Lib.hid ⟨rfl, rfl, RdSt.start _ _, own0, up_a1 _ _⟩⟩
      case round =>
        obtain ⟨j, m, q, hrel⟩ := hrel
        obtain ⟨rfl, rfl, hst, hown, hb⟩ := hrel.out
        clear hrel
        have hj : j ≤ k := hst.1
        have HST := Lib.hid hst
        clear hst
        have hbs := hb.size
        obtain ⟨Ao, co, rfl, -, -, -⟩ := (Own.new hown).cells
        have HG1 := Lib.hid (q_spec_GetNum l _ ((p + m0 + m : Nat) : Int) wr (hx.below hb hhi))
        by_cases hjk : j < k
        · cases hr : rdNum (l.drop (p + m0 + m)) with
          | none =>
            have HG := Lib.hid (getNums_none (show rdNums (l.drop p) = none by rw [HS.out, List.drop_drop, HST.out.bad hjk (by rw [List.drop_drop]; exact hr)]; rfl))
            have HT := Lib.hid (by have h := HG1.out; rw [getNum_none hr] at h; exact h)
            clear HG1 hr
            go_wp2_with fail
            refine HT.out.mono ?_
            rintro e w1 ⟨rfl, rfl⟩
            go_wp2_with fail
            refine bodyPost_ret (v := .tuple #[.slice (some ⟨wr.heap.size, 0, none⟩) 0 0, .int .i64 0, .bool false]) (by simp [results, Try.results34, go_sem]) rfl ⟨_, by rw [HG.out], ?_, hb.alloc hb.size _⟩
            rw [HG.out]
            exact .new (World.ownsRow_made wr (base := w.heap.size) (e := 3) (size := 1) #[] 0 hb.size (by decide) rfl)
          | some nm =>
            obtain ⟨n, d⟩ := nm
            have HT := Lib.hid (by have h := HG1.out; rw [getNum_some hr] at h; exact h)
            have HST2 := Lib.hid (HST.out.next hjk (by rw [List.drop_drop]; exact hr))
            clear HG1 hr
            go_wp2_with fail
            refine HT.out.mono ?_
            rintro e w1 ⟨rfl, rfl⟩
            go_wp2_with (at_builtin; refine wpl_app rfl _ _ 24 rfl w.heap.size 3 j0 _ 1 8 Try.underlying24 jif.out jz0.out jz1.out jz2.out rfl (by decide) (by decide) (hown.alloc _) rfl (heap_alloc_new _ _) rfl rfl (by simp [Value.oneCell']) (by omega) (by simp; omega) ?_)
            intro v' w3 hown' hgrow hnb
            have hb3 := Below.grown (hb.alloc hb.size _) hgrow (fun g hg => (hown.lt g hg).1) (Nat.le_refl _)
            have HO := Lib.hid (show w3.ownsRow w.heap.size 3 1 v' (j + 1) ((q ++ [n]).map (.int .i64)) by rw [List.map_append]; exact hown')
            clear hown' hgrow hnb hown
            go_wp2_with fail
            go_roundw
            case rel => exact ⟨j + 1, m + d, q ++ [n], Lib.hid ⟨by go_num, by go_num, HST2.out, HO.out, hb3⟩⟩
            case measure => simp [intOf]; omega
        · obtain rfl : j = k := by omega
          have HG := Lib.hid (getNums_some (show rdNums (l.drop p) = some (q, m0 + m) by rw [HS.out, List.drop_drop, HST.out.done]; rfl))
          have HL := Lib.hid HST.out.2.1
          go_wp2_with fail
          refine bodyPost_ret (v := .tuple #[.slice Ao j co, .int .i64 ((p + (m0 + m) : Nat) : Int), .bool true]) (by simp [results, Try.results34, go_sem, Int.add_assoc]) rfl ⟨_, by rw [HG.out], ?_, hb⟩
          rw [HG.out]
          show Own _ 1 _ _ _ _ q.length _
          rw [HL.out]
          exact .new hown
set_option maxHeartbeats 4000000 in
set_option maxRecDepth 20000 in
theorem impl_GetNums (l : List UInt8) (x : Value) (p : Int) (w : World) {lo hi : Nat} (hx : RdB w lo hi x l) (hhi : hi ≤ w.heap.size) :
    Calls Try.prog 33 #[x, .int .i64 p] w fun e w' => ∃ v, e = .returned (.tuple #[v, .int .i64 (getNums l p).2.1, .bool (getNums l p).2.2]) ∧ Own 3 1 w' w.heap.size w'.heap.size v (getNums l p).1.length ((getNums l p).1.map (.int .i64)) ∧ Below w.heap.size w w' := by
  obtain ⟨A, c, rfl, hl, hl2⟩ := hx.form
  obtain ⟨j0, jif, jz0, jz1, jz2⟩ := info_parts info_i64
  replace jif := Lib.hid jif
  replace jz0 := Lib.hid jz0
  replace jz1 := Lib.hid jz1
  replace jz2 := Lib.hid jz2
  have hb0 : Below w.heap.size w w := Below.refl _ _
  have HG1 := Lib.hid (q_impl_GetNum l _ p w hx)
  by_cases hp : p < 0
  · have HG := Lib.hid (getNums_neg (l := l) hp)
    have HT := Lib.hid (by have h := HG1.out; rw [getNum_neg hp] at h; exact h)
    clear HG1 hp
    go_enter Try.func33, Try.ntmps33
    go_wp2_with fail
    refine HT.out.mono ?_
    rintro e w1 ⟨rfl, rfl⟩
    go_wp2_with fail
    refine bodyPost_ret (v := .tuple #[.slice none 0 0, .int .i64 0, .bool false]) (by simp [results, Try.results33, go_sem]) rfl ⟨_, by rw [HG.out], ?_, hb0⟩
    rw [HG.out]
    exact own_ints_none _ _ _ _
  obtain ⟨p, rfl⟩ := Int.eq_ofNat_of_zero_le (show 0 ≤ p by omega)
  clear hp
  cases hr : rdNum (l.drop p) with
  | none =>
    have HG := Lib.hid (getNums_none (rdNums_none hr))
    have HT := Lib.hid (by have h := HG1.out; rw [getNum_none hr] at h; exact h)
    clear HG1 hr
    go_enter Try.func33, Try.ntmps33
    go_wp2_with fail
    refine HT.out.mono ?_
    rintro e w1 ⟨rfl, rfl⟩
    go_wp2_with fail
    refine bodyPost_ret (v := .tuple #[.slice none 0 0, .int .i64 0, .bool false]) (by simp [results, Try.results33, go_sem]) rfl ⟨_, by rw [HG.out], ?_, hb0⟩
    rw [HG.out]
    exact own_ints_none _ _ _ _
  | some nm =>
    obtain ⟨n, m0⟩ := nm
    have HT := Lib.hid (by have h := HG1.out; rw [getNum_some hr] at h; exact h)
    clear HG1
    have hI := q_impl_within n 0 64 w
    cases hin : inR n 0 64
    · rw [hin] at hI
      have HI := Lib.hid hI
      have HG := Lib.hid (getNums_none (rdNums_big hr hin))
      clear hr hin hI
      go_enter Try.func33, Try.ntmps33
      go_wp2_with fail
      refine HT.out.mono ?_
      rintro e w1 ⟨rfl, rfl⟩
      go_wp2_with fail
      refine HI.out.mono ?_
      rintro e w1 ⟨rfl, rfl⟩
      go_wp2_with fail
      refine bodyPost_ret (v := .tuple #[.slice none 0 0, .int .i64 0, .bool false]) (by simp [results, Try.results33, go_sem]) rfl ⟨_, by rw [HG.out], ?_, hb0⟩
      rw [HG.out]
      exact own_ints_none _ _ _ _
    · rw [hin] at hI
      have HI := Lib.hid hI
      have hn := inR_yes hin
      obtain ⟨k, rfl⟩ := Int.eq_ofNat_of_zero_le hn.1
      have hk64 : k ≤ 64 := by omega
      have HS := Lib.hid (rdNums_some hr hin)
      clear hr hin hI hn
      go_enter Try.func33, Try.ntmps33
      go_wp2_with fail
      refine HT.out.mono ?_
      rintro e w1 ⟨rfl, rfl⟩
      go_wp2_with fail
      refine HI.out.mono ?_
      rintro e w1 ⟨rfl, rfl⟩
      have own0 := World.ownsRow_made w (base := w.heap.size) (e := 3) (size := 1) #[] 0 (Nat.le_refl _) (by decide) rfl
      go_wp2_with fail
      go_loopw [1, 9, 10] (fun a o i wr => ∃ (j m : Nat) (q : List Int), Hid (i = .int .i64 j ∧ a = .int .i64 ((p + m0 + m : Nat) : Int) ∧ RdSt rdNum k (l.drop (p + m0)) j q m ∧ wr.ownsRow w.heap.size 3 1 o j (q.map (.int .i64)) ∧ Below w.heap.size w wr)) (fun _ _ i _ => k - (intOf i).toNat)
      case atStart => exact ⟨0, 0, [], Lib.hid ⟨rfl, rfl, RdSt.start _ _, own0, up_a1 _ _⟩⟩
      case round =>
        obtain ⟨j, m, q, hrel⟩ := hrel
        obtain ⟨rfl, rfl, hst, hown, hb⟩ := hrel.out
        clear hrel
        have hj : j ≤ k := hst.1
        have HST := Lib.hid hst
        clear hst
        have hbs := hb.size
        obtain ⟨Ao, co, rfl, -, -, -⟩ := (Own.new hown).cells
        have HG1 := Lib.hid (q_impl_GetNum l _ ((p + m0 + m : Nat) : Int) wr (hx.below hb hhi))
        by_cases hjk : j < k
        · cases hr : rdNum (l.drop (p + m0 + m)) with
          | none =>
            have HG := Lib.hid (getNums_none (show rdNums (l.drop p) = none by rw [HS.out, List.drop_drop, HST.out.bad hjk (by rw [List.drop_drop]; exact hr)]; rfl))
            have HT := Lib.hid (by have h := HG1.out; rw [getNum_none hr] at h; exact h)
            clear HG1 hr
            go_wp2_with fail
            refine HT.out.mono ?_
            rintro e w1 ⟨rfl, rfl⟩
            go_wp2_with fail
            refine bodyPost_ret (v := .tuple #[.slice none 0 0, .int .i64 0, .bool false]) (by simp [results, Try.results33, go_sem]) rfl ⟨_, by rw [HG.out], ?_, hb⟩
            rw [HG.out]
            exact own_ints_none _ _ _ _
          | some nm =>
            obtain ⟨n, d⟩ := nm
            have HT := Lib.hid (by have h := HG1.out; rw [getNum_some hr] at h; exact h)
            have HST2 := Lib.hid (HST.out.next hjk (by rw [List.drop_drop]; exact hr))
            clear HG1 hr
            go_wp2_with fail
            refine HT.out.mono ?_
            rintro e w1 ⟨rfl, rfl⟩
            go_wp2_with (at_builtin; refine wpl_app rfl _ _ 24 rfl w.heap.size 3 j0 _ 1 8 Try.underlying24 jif.out jz0.out jz1.out jz2.out rfl (by decide) (by decide) (hown.alloc _) rfl (heap_alloc_new _ _) rfl rfl (by simp [Value.oneCell']) (by omega) (by simp; omega) ?_)
            intro v' w3 hown' hgrow hnb
            have hb3 := Below.grown (hb.alloc hb.size _) hgrow (fun g hg => (hown.lt g hg).1) (Nat.le_refl _)
            have HO := Lib.hid (show w3.ownsRow w.heap.size 3 1 v' (j + 1) ((q ++ [n]).map (.int .i64)) by rw [List.map_append]; exact hown')
            clear hown' hgrow hnb hown
            go_wp2_with fail
            go_roundw
            case rel => exact ⟨j + 1, m + d, q ++ [n], Lib.hid ⟨by go_num, by go_num, HST2.out, HO.out, hb3⟩⟩
            case measure => simp [intOf]; omega
        · obtain rfl : j = k := by omega
          have HG := Lib.hid (getNums_some (show rdNums (l.drop p) = some (q, m0 + m) by rw [HS.out, List.drop_drop, HST.out.done]; rfl))
          have HL := Lib.hid HST.out.2.1
          go_wp2_with fail
          refine bodyPost_ret (v := .tuple #[.slice Ao j co, .int .i64 ((p + (m0 + m) : Nat) : Int), .bool true]) (by simp [results, Try.results33, go_sem, Int.add_assoc]) rfl ⟨_, by rw [HG.out], ?_, hb⟩
          rw [HG.out]
          show Own _ 1 _ _ _ _ q.length _
          rw [HL.out]
          exact .new hown
end Go.Proofs.Ytnldneogjdljkaa
