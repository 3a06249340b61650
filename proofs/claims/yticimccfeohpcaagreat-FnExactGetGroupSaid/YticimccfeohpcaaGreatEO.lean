/- Values picked out of a dictionary; dictionary decodings: contracts. -/
import Derived.Test.YticimccfeohpcaaGreatEN
import Derived.Test.YticimccfeohpcaaGreatEI
namespace Go.Lb
theorem pickV_step (d : List V) {q : List Int} {j : Nat} {z : Int} (h : q[j]? = some z) : (q.take (j + 1)).map (pickV d) = (q.take j).map (pickV d) ++ [pickV d z] := by
  rw [take_of_get h, List.map_append]
  rfl
theorem pickP_step (d : List V) {q : List Int} {j : Nat} {z : Int} (h : q[j]? = some z) (h1 : (q.take j).all (pickP d) = true) (h2 : pickP d z = true) : (q.take (j + 1)).all (pickP d) = true := by
  rw [take_of_get h, List.all_append, h1]
  simp [h2]
theorem picked_small {d : List V} {q : List Int} (hs : ∀ v ∈ d, v.s.size ≤ maxLen) : ∀ v ∈ (pickedQ d q).getD [], v.s.size ≤ maxLen := by
  intro v hv
  cases h : pickedQ d q with
  | none => rw [h] at hv; simp at hv
  | some l =>
    rw [h] at hv
    obtain ⟨g1, g2⟩ := pickedQ_some h
    rw [Option.getD_some, g1] at hv
    obtain ⟨i, hi, rfl⟩ := List.mem_map.1 hv
    exact hs _ (pickV_mem (List.all_eq_true.1 g2 i hi))
theorem picked_len {d : List V} {q : List Int} : ((pickedQ d q).getD []).length ≤ q.length := by
  cases h : pickedQ d q with
  | none => simp
  | some l =>
    obtain ⟨g1, -⟩ := pickedQ_some h
    rw [Option.getD_some, g1, List.length_map]
    omega
theorem decDict_k {b : List UInt8} {ty k : Int} (h : inR k 1 64 = false) : decDict b ty k = none := by
  cases hd : decDict b ty k with
  | none => rfl
  | some l => rw [(enc_decDict hd).2.2.1] at h; cases h
theorem rd_at {ty : Int} {k p m : Nat} {s : List UInt8} {l : List V} (h : rdL (rdVal ty) k (s.drop p) = some (l, m)) (hp : p ≤ s.length) : p + m ≤ s.length := by
  have := rdL_le (codec_val ty) h
  rw [List.length_drop] at this
  omega
theorem rdNum_le {s : List UInt8} {n : Int} {p : Nat} (h : rdNum s = some (n, p)) : p ≤ s.length := (num_rdNum h).2.2.1
end Go.Lb
namespace Go.Proofs.YticimccfeohpcaaGreat
open Go.Sort Go.ChangeShapes Go.WideShapes Go.ChangeAt Go.RowKit Go.Lb
set_option maxHeartbeats 4000000 in
set_option maxRecDepth 20000 in
theorem spec_Picked (d : List V) (q : List Int) (x y : Value) (w : World) {lo hi lo' hi' : Nat} (hx : RdV w lo hi x d) (hy : RdI w lo' hi' y q) (hhi : hi ≤ w.heap.size) (hhi' : hi' ≤ w.heap.size) (hn : q.length ≤ 1000000000) :
    Calls Tryz.prog 125 #[x, y] w fun e w' => ∃ r, e = .returned (.tuple #[r, .bool (pickedQ d q).isSome]) ∧ Own 83 3 w' w.heap.size w'.heap.size r ((pickedQ d q).getD []).length (((pickedQ d q).getD []).flatMap V.cells) ∧ Below w.heap.size w w' := by
  obtain ⟨A, c, rfl, hl, hl2⟩ := hx.form
  obtain ⟨A', c', rfl, hl', hl2'⟩ := hy.form
  obtain ⟨i0, hif, hz0, hz1, hz2⟩ := info_parts info_val
  replace hif := Lib.hid hif
  replace hz0 := Lib.hid hz0
  replace hz1 := Lib.hid hz1
  replace hz2 := Lib.hid hz2
  have hb0 := up_a1 w (.cells #[] 83)
  have own0 := World.ownsRow_made w (base := w.heap.size) (e := 83) (size := 3) #[] 0 (Nat.le_refl _) (by decide) rfl
  go_enter Tryz.func125, Tryz.ntmps125
  go_wp2_with fail
  go_loopw [6, 7] (fun o i wr => ∃ (j : Nat) (acc : List V), Hid (i = .int .i64 j ∧ j ≤ q.length ∧ acc.length = j ∧ acc = (q.take j).map (pickV d) ∧ (q.take j).all (pickP d) = true ∧ wr.ownsRow w.heap.size 83 3 o acc.length (acc.flatMap V.cells) ∧ Below w.heap.size w wr)) (fun _ i _ => q.length - (intOf i).toNat)
  case atStart => exact ⟨0, [], Lib.hid ⟨rfl, Nat.zero_le _, rfl, rfl, rfl, own0, hb0⟩⟩
  case round =>
    obtain ⟨j, acc, hrel⟩ := hrel
    obtain ⟨rfl, hj, hal, hacc, hall, hown, hb⟩ := hrel.out
    have Hal := Lib.hid hal
    have hal2 : acc.length ≤ 1000000000 := by omega
    have Hacc := Lib.hid hacc
    have Hall := Lib.hid hall
    have Hown := Lib.hid hown
    have hbs := hb.size
    obtain ⟨Ao, co, rfl, -, -, -⟩ := (Own.new hown).cells
    clear hrel hal hacc hall hown own0 hb0
    by_cases hjl : j < q.length
    · obtain ⟨b, off, z, rfl, -, hbl, hzk, e0⟩ := (hy.below hb hhi').at hjl
      cases hp : pickP d z
      · have HN := Lib.hid (pickedQ_no hzk hp)
        have hI := q_spec_l1In z 0 ((d.length : Int) - 1) wr
        rw [show inR z 0 ((d.length : Int) - 1) = false from hp] at hI
        have HI := Lib.hid hI
        have HOn := Lib.hid (World.ownsRow_made wr (base := w.heap.size) (e := 83) (size := 3) #[] 0 hbs (by decide) rfl)
        have HBn := Lib.hid (hb.alloc hbs (.cells #[] 83))
        clear hp hI hzk
        go_wp2_with fail
        refine HI.out.mono ?_
        rintro e w1 ⟨rfl, rfl⟩
        go_wp2_with fail
        refine bodyPost_ret (v := .tuple #[.slice (some ⟨wr.heap.size, 0, none⟩) 0 0, .bool false]) (by simp [results, Tryz.results125, go_sem]) rfl ⟨_, by rw [HN.out]; rfl, ?_, HBn.out⟩
        rw [HN.out]
        exact Own.new HOn.out
      · have hz := inR_yes (show inR z 0 ((d.length : Int) - 1) = true from hp)
        obtain ⟨i, rfl⟩ := Int.eq_ofNat_of_zero_le hz.1
        have hid : i < d.length := by omega
        obtain ⟨b2, off2, v, rfl, -, hbl2, hvk, c0, c1, c2⟩ := (hx.below hb hhi).at hid
        have HS := Lib.hid (show (q.take (j + 1)).map (pickV d) = acc ++ [v] by rw [pickV_step d hzk, pickV_get hvk, ← Hacc.out])
        have HA := Lib.hid (pickP_step d hzk Hall.out hp)
        have hI := q_spec_l1In i 0 ((d.length : Int) - 1) wr
        rw [show inR (i : Int) 0 ((d.length : Int) - 1) = true from hp] at hI
        have HI := Lib.hid hI
        clear hp hI hzk hz hvk
        go_wp2_with fail
        refine HI.out.mono ?_
        rintro e w1 ⟨rfl, rfl⟩
        go_wp2_with (at_builtin; refine wpl_app rfl _ _ 42 rfl w.heap.size 83 i0 _ 3 32 Tryz.underlying42 hif.out hz0.out hz1.out hz2.out rfl (by decide) (by decide) (Hown.out.alloc _) rfl (heap_alloc_new _ _) rfl rfl (by simp [Value.oneCell']) (by omega) (by simp; omega) ?_)
        intro v4 w4 hown4 hgrow _
        have HB4 := Lib.hid (Below.grown (hb.alloc hbs _) hgrow (fun g hg => (Hown.out.lt g hg).1) (Nat.le_refl _))
        have HO4 := Lib.hid (show w4.ownsRow w.heap.size 83 3 v4 (acc ++ [v]).length ((acc ++ [v]).flatMap V.cells) by
          rw [List.flatMap_append, List.length_append]
          exact hown4)
        clear hown4 hgrow c0 c1 c2 e0
        go_wp2_with fail
        go_roundw
        case rel => exact ⟨j + 1, acc ++ [v], Lib.hid ⟨by go_num, by omega, by rw [List.length_append, Hal.out]; rfl, HS.out.symm, HA.out, HO4.out, HB4.out⟩⟩
        case measure => simp [intOf]; omega
    · obtain rfl : j = q.length := by omega
      have HN := Lib.hid (show pickedQ d q = some acc by rw [pickedQ_yes (by have h := Hall.out; rwa [List.take_length] at h), Hacc.out, List.take_length])
      go_wp2_with fail
      refine bodyPost_ret (v := .tuple #[.slice Ao acc.length co, .bool true]) (by simp [results, Tryz.results125, go_sem]) rfl ⟨_, by rw [HN.out]; rfl, ?_, hb⟩
      rw [HN.out]
      exact Own.new Hown.out
set_option maxHeartbeats 4000000 in
set_option maxRecDepth 20000 in
theorem impl_Picked (d : List V) (q : List Int) (x y : Value) (w : World) {lo hi lo' hi' : Nat} (hx : RdV w lo hi x d) (hy : RdI w lo' hi' y q) (hhi : hi ≤ w.heap.size) (hhi' : hi' ≤ w.heap.size) (hn : q.length ≤ 1000000000) :
    Calls Tryz.prog 133 #[x, y] w fun e w' => ∃ r, e = .returned (.tuple #[r, .bool (pickedQ d q).isSome]) ∧ Own 83 3 w' w.heap.size w'.heap.size r ((pickedQ d q).getD []).length (((pickedQ d q).getD []).flatMap V.cells) ∧ Below w.heap.size w w' := by
  obtain ⟨A, c, rfl, hl, hl2⟩ := hx.form
  obtain ⟨A', c', rfl, hl', hl2'⟩ := hy.form
  obtain ⟨i0, hif, hz0, hz1, hz2⟩ := info_parts info_val
  replace hif := Lib.hid hif
  replace hz0 := Lib.hid hz0
  replace hz1 := Lib.hid hz1
  replace hz2 := Lib.hid hz2
  have hb0 := up_a1 w (.cells #[] 83)
  have own0 := World.ownsRow_made w (base := w.heap.size) (e := 83) (size := 3) #[] 0 (Nat.le_refl _) (by decide) rfl
  go_enter Tryz.func133, Tryz.ntmps133
  go_wp2_with fail
  go_loopw [6, 12] (fun o i wr => ∃ (j : Nat) (acc : List V), Hid (i = .int .i64 j ∧ j ≤ q.length ∧ acc.length = j ∧ acc = (q.take j).map (pickV d) ∧ (q.take j).all (pickP d) = true ∧ wr.ownsRow w.heap.size 83 3 o acc.length (acc.flatMap V.cells) ∧ Below w.heap.size w wr)) (fun _ i _ => q.length - (intOf i).toNat)
  case atStart => exact ⟨0, [], Lib.hid ⟨rfl, Nat.zero_le _, rfl, rfl, rfl, own0, hb0⟩⟩
  case round =>
    obtain ⟨j, acc, hrel⟩ := hrel
    obtain ⟨rfl, hj, hal, hacc, hall, hown, hb⟩ := hrel.out
    have Hal := Lib.hid hal
    have hal2 : acc.length ≤ 1000000000 := by omega
    have Hacc := Lib.hid hacc
    have Hall := Lib.hid hall
    have Hown := Lib.hid hown
    have hbs := hb.size
    obtain ⟨Ao, co, rfl, -, -, -⟩ := (Own.new hown).cells
    clear hrel hal hacc hall hown own0 hb0
    by_cases hjl : j < q.length
    · obtain ⟨b, off, z, rfl, -, hbl, hzk, e0⟩ := (hy.below hb hhi').at hjl
      cases hp : pickP d z
      · have HN := Lib.hid (pickedQ_no hzk hp)
        have hz : z < 0 ∨ (0 ≤ z ∧ (d.length : Int) ≤ z) := by
          have := inR_no (show inR z 0 ((d.length : Int) - 1) = false from hp)
          omega
        clear hp hzk
        rcases hz with hz | ⟨hz, hz2⟩
        · have d1 : decide (z < 0) = true := decide_eq_true hz
          go_wp2_with fail
          refine bodyPost_ret (v := .tuple #[.slice none 0 0, .bool false]) (by simp [results, Tryz.results133, go_sem]) rfl ⟨_, by rw [HN.out]; rfl, ?_, hb⟩
          rw [HN.out]
          exact own_none_s _ _ _ _ _
        · have d1 : decide (z < 0) = false := decide_eq_false (by omega)
          have d2 : decide ((d.length : Int) ≤ z) = true := decide_eq_true hz2
          go_wp2_with fail
          refine bodyPost_ret (v := .tuple #[.slice none 0 0, .bool false]) (by simp [results, Tryz.results133, go_sem]) rfl ⟨_, by rw [HN.out]; rfl, ?_, hb⟩
          rw [HN.out]
          exact own_none_s _ _ _ _ _
      · have hz := inR_yes (show inR z 0 ((d.length : Int) - 1) = true from hp)
        obtain ⟨i, rfl⟩ := Int.eq_ofNat_of_zero_le hz.1
        have hid : i < d.length := by omega
        obtain ⟨b2, off2, v, rfl, -, hbl2, hvk, c0, c1, c2⟩ := (hx.below hb hhi).at hid
        have HS := Lib.hid (show (q.take (j + 1)).map (pickV d) = acc ++ [v] by rw [pickV_step d hzk, pickV_get hvk, ← Hacc.out])
        have HA := Lib.hid (pickP_step d hzk Hall.out hp)
        have d1 : decide ((i : Int) < 0) = false := decide_eq_false (by omega)
        have d2 : decide ((d.length : Int) ≤ (i : Int)) = false := decide_eq_false (by omega)
        have d3 : ¬ d.length ≤ i := by omega
        clear hp hzk hz hvk
        go_wp2_with (at_builtin; refine wpl_app rfl _ _ 42 rfl w.heap.size 83 i0 _ 3 32 Tryz.underlying42 hif.out hz0.out hz1.out hz2.out rfl (by decide) (by decide) (Hown.out.alloc _) rfl (heap_alloc_new _ _) rfl rfl (by simp [Value.oneCell']) (by omega) (by simp; omega) ?_)
        intro v4 w4 hown4 hgrow _
        have HB4 := Lib.hid (Below.grown (hb.alloc hbs _) hgrow (fun g hg => (Hown.out.lt g hg).1) (Nat.le_refl _))
        have HO4 := Lib.hid (show w4.ownsRow w.heap.size 83 3 v4 (acc ++ [v]).length ((acc ++ [v]).flatMap V.cells) by
          rw [List.flatMap_append, List.length_append]
          exact hown4)
        clear hown4 hgrow c0 c1 c2 e0
        go_wp2_with fail
        go_roundw
        case rel => exact ⟨j + 1, acc ++ [v], Lib.hid ⟨by go_num, by omega, by rw [List.length_append, Hal.out]; rfl, HS.out.symm, HA.out, HO4.out, HB4.out⟩⟩
        case measure => simp [intOf]; omega
    · obtain rfl : j = q.length := by omega
      have HN := Lib.hid (show pickedQ d q = some acc by rw [pickedQ_yes (by have h := Hall.out; rwa [List.take_length] at h), Hacc.out, List.take_length])
      go_wp2_with fail
      refine bodyPost_ret (v := .tuple #[.slice Ao acc.length co, .bool true]) (by simp [results, Tryz.results133, go_sem]) rfl ⟨_, by rw [HN.out]; rfl, ?_, hb⟩
      rw [HN.out]
      exact Own.new Hown.out
set_option maxHeartbeats 4000000 in
set_option maxRecDepth 20000 in
theorem impl_DecDict (b : List UInt8) (x : Value) (ty k : Int) (w : World) {lo hi : Nat} (hx : RdB w lo hi x b) (hhi : hi ≤ w.heap.size) (hbl : b.length ≤ 1000000000) :
    Calls Tryz.prog 88 #[x, .int .i64 ty, .int .i64 k] w fun e w' => ∃ r, e = .returned (.tuple #[r, .bool (decDict b ty k).isSome]) ∧ Own 83 3 w' w.heap.size w'.heap.size r ((decDict b ty k).getD []).length (((decDict b ty k).getD []).flatMap V.cells) ∧ Below w.heap.size w w' := by
  obtain ⟨A, c, rfl, hl, hl2⟩ := hx.form
  have hx0 := hx
  have HG1 := Lib.hid (q_impl_GetNum b _ 0 w hx0)
  cases hr : rdNum b with
  | none =>
    have HG := Lib.hid (decDict_1 (ty := ty) (k := k) hr)
    have HT := Lib.hid (by have h := HG1.out; rw [show (0 : Int) = ((0 : Nat) : Int) from rfl, getNum_none (p := 0) (by rw [List.drop_zero]; exact hr)] at h; exact h)
    clear HG1 hr
    go_enter Tryz.func88, Tryz.ntmps88
    go_wp2_with fail
    refine HT.out.mono ?_
    rintro e w1 ⟨rfl, rfl⟩
    go_wp2_with fail
    refine bodyPost_ret (v := .tuple #[.slice none 0 0, .bool false]) (by simp [results, Tryz.results88, go_sem]) rfl ⟨_, by rw [HG.out]; rfl, ?_, Below.refl _ _⟩
    rw [HG.out]
    exact own_none_s _ _ _ _ _
  | some np =>
    obtain ⟨n, p⟩ := np
    have HT := Lib.hid (by have h := HG1.out; rw [show (0 : Int) = ((0 : Nat) : Int) from rfl, getNum_some (p := 0) (by rw [List.drop_zero]; exact hr), Nat.zero_add] at h; exact h)
    have hpl := rdNum_le hr
    clear HG1
    have hQ := q_impl_within n 1 64 w
    cases hn : inR n 1 64
    · rw [hn] at hQ
      have HQ := Lib.hid hQ
      have HG := Lib.hid (decDict_2 (ty := ty) (k := k) hr hn)
      clear hn hQ hr
      go_enter Tryz.func88, Tryz.ntmps88
      go_wp2_with fail
      refine HT.out.mono ?_
      rintro e w1 ⟨rfl, rfl⟩
      go_wp2_with fail
      refine HQ.out.mono ?_
      rintro e w1 ⟨rfl, rfl⟩
      go_wp2_with fail
      refine bodyPost_ret (v := .tuple #[.slice none 0 0, .bool false]) (by simp [results, Tryz.results88, go_sem]) rfl ⟨_, by rw [HG.out]; rfl, ?_, Below.refl _ _⟩
      rw [HG.out]
      exact own_none_s _ _ _ _ _
    · rw [hn] at hQ
      have HQ := Lib.hid hQ
      have hnr := inR_yes hn
      obtain ⟨n, rfl⟩ := Int.eq_ofNat_of_zero_le (show 0 ≤ n by omega)
      have hn64 : n ≤ 64 := by omega
      have hn1 : 1 ≤ n := by omega
      have HGV := Lib.hid (impl_getVals b _ p n ty w hx hhi hbl hpl hn64)
      have hp1 : 1 ≤ p := by
        have h1 := (num_rdNum hr).2.2.2.1
        have h2 := numB_pos (num_rdNum hr).1
        omega
      have Hr := Lib.hid hr
      have Hn := Lib.hid hn
      clear hn hQ hnr hr
      cases hv : rdL (rdVal ty) n (b.drop p) with
      | none =>
        rw [hv] at HGV
        have HG := Lib.hid (decDict_3 (ty := ty) (k := k) Hr.out hv)
        clear hv
        go_enter Tryz.func88, Tryz.ntmps88
        go_wp2_with fail
        refine HT.out.mono ?_
        rintro e w1 ⟨rfl, rfl⟩
        go_wp2_with fail
        refine HQ.out.mono ?_
        rintro e w1 ⟨rfl, rfl⟩
        go_wp2_with fail
        refine HGV.out.mono ?_
        rintro e w3 ⟨r3, rfl, -, hb3w⟩
        simp only [Option.isSome_none]
        go_wp2_with fail
        refine bodyPost_ret (v := .tuple #[.slice none 0 0, .bool false]) (by simp [results, Tryz.results88, go_sem]) rfl ⟨_, by rw [HG.out]; rfl, ?_, hb3w⟩
        rw [HG.out]
        exact own_none_s _ _ _ _ _
      | some dm =>
        obtain ⟨d, m⟩ := dm
        have hds : ∀ v ∈ d, v.s.size ≤ maxLen := by
          have h := gvL_small (ty := ty) (k := n) (s := b.drop p)
          rw [hv] at h
          exact h
        have hat := rd_at hv hpl
        have hgv := HGV.out
        rw [hv] at hgv
        have HGV2 := Lib.hid (show Calls Tryz.prog 128 _ w fun e w' => ∃ r, e = .returned (.tuple #[r, .int .i64 ((p + m : Nat) : Int), .bool true]) ∧ Own 83 3 w' w.heap.size w'.heap.size r d.length (d.flatMap V.cells) ∧ Below w.heap.size w w' from hgv)
        have Hv := Lib.hid hv
        have Hds := Lib.hid hds
        clear hv hds hgv HGV
        obtain ⟨at1, hat1⟩ : ∃ a, p + m = a := ⟨_, rfl⟩
        have ha1 : 1 ≤ at1 := by omega
        rw [hat1] at hat HGV2
        have Hat1 := Lib.hid hat1
        clear hat1
        have HX0 := Lib.hid hx0
        go_enter Tryz.func88, Tryz.ntmps88
        go_wp2_with fail
        refine HT.out.mono ?_
        rintro e w1 ⟨rfl, rfl⟩
        go_wp2_with fail
        refine HQ.out.mono ?_
        rintro e w1 ⟨rfl, rfl⟩
        go_wp2_with fail
        refine HGV2.out.mono ?_
        rintro e wb ⟨_, rfl, hod, hbb⟩
        have hrd := hod.rdV
        obtain ⟨Ad, cd, rfl, -, -⟩ := hrd.form
        have Hrd := Lib.hid hrd
        clear hod hrd HT HQ HGV2
        have hpos : c ≠ 0 := by omega
        obtain ⟨gb, goff, rfl⟩ : ∃ gb goff, A = some ⟨gb, goff, none⟩ := by
          obtain ⟨b', off', -, h, -⟩ := hx0.at (show 0 < b.length by omega)
          exact ⟨b', off', h⟩
        have hdrop := hx0.dropIf (k := at1) hat hl
        have f1 : (0 : Int) ≤ (at1 : Int) := by omega
        have f2 : (at1 : Int) ≤ (c : Int) := by omega
        have f3 : (at1 : Int) ≤ (b.length : Int) := by omega
        have f4 : (b.length : Int) ≤ (c : Int) := by omega
        obtain ⟨AA, hAA⟩ : ∃ AA, (if c = at1 then some (⟨gb, goff, none⟩ : Addr) else some ⟨gb, goff + at1, none⟩) = AA := ⟨_, rfl⟩
        rw [hAA] at hdrop
        have HU := Lib.hid (fun W (h : Below wb.heap.size wb W) => impl_UnpackBits (b.drop at1) _ (dictW n : Int) k W (hdrop.below (hbb.trans (h.mono hbb.size)) hhi) (Nat.le_trans hhi (Nat.le_trans hbb.size h.size)) (by rw [List.length_drop]; omega))
        have hwn : IntKind.i64.wrap ((n : Int) - 1) = (n : Int) - 1 := by rw [IntKind.wrap_i64]; omega
        have hWd : ∀ W, Calls Tryz.prog 132 #[.int .i64 (IntKind.i64.wrap ((n : Int) - 1))] W fun e w' => e = .returned (.int .i64 (dictW n : Nat)) ∧ W = w' := fun W => by rw [hwn]; exact q_impl_WidthOf ((n : Int) - 1) W
        have HWd := Lib.hid hWd
        have hw31 := dictW_le n
        clear hdrop hWd hwn
        obtain ⟨wd, hwd⟩ : ∃ wd, dictW n = wd := ⟨_, rfl⟩
        rw [hwd] at HU HWd hw31
        have Hwd := Lib.hid hwd
        clear hwd
        go_wp2_with fail
        go_region_held3 (fun w' => True) (first | trivial | exact trivial | go_keep)
          (first
            | (go_at_call 132; ((with_reducible refine (HWd.out _).mono ?_); rintro e wq ⟨rfl, rfl⟩))
            | (go_at_call 131; ((with_reducible refine (HU.out _ (Below.refl _ _).drew).mono ?_); rintro e wu ⟨r, rfl, hou, hbu⟩))
            | fail)
        have hbu2 : Below wb.heap.size wb wu := Below.undrew hbu
        have hbuw := below_go hbb hbu2
        have hri := hou.rdI
        have hrd2 := Hrd.out.below hbu2 (Nat.le_refl _)
        have hws := hbu2.size
        clear hbu hou HU hAA f1 f2 f3 f4 Hrd
        obtain ⟨Ar, cr, rfl, -, -⟩ := hri.form
        cases hu : unpackB (b.drop at1) (wd : Int) k with
        | none =>
          have HG := Lib.hid (decDict_4 (ty := ty) (k := k) Hr.out Hv.out (by rw [Hat1.out, Hwd.out]; exact hu))
          simp only [hu, Option.isSome_none, Option.getD_none, List.length_nil] at hri ⊢
          clear hu hri
          go_wp2_with fail
          refine bodyPost_ret (v := .tuple #[.slice none 0 0, .bool false]) (by simp [results, Tryz.results88, go_sem]) rfl ⟨_, by rw [HG.out]; rfl, ?_, hbuw⟩
          rw [HG.out]
          exact own_none_s _ _ _ _ _
        | some q =>
          have Hu := Lib.hid hu
          simp only [hu, Option.isSome_some, Option.getD_some] at hri ⊢
          obtain ⟨hqk, hq64⟩ := unpackB_len hu
          have hP := impl_Picked d q _ _ wu hrd2 hri hws (Nat.le_refl _) (by omega)
          have HL2 := Lib.hid (picked_small (q := q) Hds.out)
          have hLl := picked_len (d := d) (q := q)
          have HL4 : Hid (decDict b ty k = if decOk b (encDict ((pickedQ d q).getD [])) k ((pickedQ d q).getD []).length then some ((pickedQ d q).getD []) else none) := Lib.hid (by
            cases hra : pickedQ d q with
            | none =>
              rw [decDict_5 Hr.out Hv.out (by rw [Hat1.out, Hwd.out]; exact Hu.out) hra]
              have : decOk b (encDict []) k ([] : List V).length = false := by
                unfold decOk
                by_cases h0 : (0 : Int) = k
                · subst h0; rfl
                · rw [show (([] : List V).length : Int) = 0 from rfl, decide_eq_false h0]; simp
              show none = if decOk b (encDict []) k ([] : List V).length then _ else none
              rw [this]
              rfl
            | some l =>
              have hl3 : l.length = q.length := by rw [(pickedQ_some hra).1, List.length_map]
              rw [decDict_6 Hr.out Hn.out Hv.out (by rw [Hat1.out, Hwd.out]; exact Hu.out) hra]
              show _ = if decOk b (encDict l) k l.length then some l else none
              rw [decOk, decide_eq_true (show (l.length : Int) = k by omega), Bool.true_and, eqd_comm])
          clear hu hri hqk hrd2 Hu Hds
          generalize (pickedQ d q).getD [] = L at *
          generalize (pickedQ d q).isSome = okp at *
          have HP := Lib.hid hP
          clear hP
          go_wp2_with fail
          refine HP.out.mono ?_
          rintro e w3 ⟨_, rfl, ho3, hb3⟩
          have hb3w := below_go hbuw hb3
          have hrd := ho3.rdV
          obtain ⟨A3, c3, rfl, -, -⟩ := hrd.form
          have Ho3 := Lib.hid (ho3.more hbuw.size (Nat.le_refl _))
          have Hrd := Lib.hid hrd
          clear ho3 hrd HP hb3 hbuw hbb
          have HE := Lib.hid (impl_EncDict L _ w3 Hrd.out (Nat.le_refl _) HL2.out)
          have hsu := hb3w.size
          clear Hrd
          go_wp2_with fail
          refine HE.out.mono ?_
          rintro e w4 ⟨r4, rfl, ho4, hb4⟩
          have hb4w := hb3w.trans (hb4.mono hb3w.size)
          have hre := ho4.rdBc
          obtain ⟨A4, c4, rfl, -, -⟩ := hre.form
          have hS := q_impl_decoded b (encDict L) _ _ k A3 L.length c3 w4 (hx0.below hb4w hhi) hre
          have Ho4 := Lib.hid (Ho3.out.below hb4 (Nat.le_refl _))
          have hs4 := hb4.size
          clear Ho3 hb4 ho4 hre HE
          generalize encDict L = en at *
          cases he : decOk b en k L.length
          · rw [he] at hS
            have HS := Lib.hid hS
            have HG := Lib.hid (show decDict b ty k = none by rw [HL4.out, he]; rfl)
            clear hS he HL4
            go_wp2_with fail
            refine HS.out.mono ?_
            rintro e w5 ⟨rfl, rfl⟩
            rw [show decRes false (.slice A3 L.length c3) = .slice none 0 0 from rfl]
            go_wp2_with fail
            refine bodyPost_ret (v := .tuple #[.slice none 0 0, .bool false]) (by simp [results, Tryz.results88, go_sem]) rfl ⟨_, by rw [HG.out]; rfl, ?_, hb4w⟩
            rw [HG.out]
            exact own_none_s _ _ _ _ _
          · rw [he] at hS
            have HS := Lib.hid hS
            have HG := Lib.hid (show decDict b ty k = some L by rw [HL4.out, he]; rfl)
            clear hS he HL4
            go_wp2_with fail
            refine HS.out.mono ?_
            rintro e w5 ⟨rfl, rfl⟩
            rw [show decRes true (.slice A3 L.length c3) = .slice A3 L.length c3 from rfl]
            go_wp2_with fail
            refine bodyPost_ret (v := .tuple #[.slice A3 L.length c3, .bool true]) (by simp [results, Tryz.results88, go_sem]) rfl ⟨_, by rw [HG.out]; rfl, ?_, hb4w⟩
            rw [HG.out]
            exact Ho4.out.more (by omega) (by omega)
set_option maxHeartbeats 4000000 in
set_option maxRecDepth 20000 in
theorem spec_DecDict (b : List UInt8) (x : Value) (ty k : Int) (w : World) {lo hi : Nat} (hx : RdB w lo hi x b) (hhi : hi ≤ w.heap.size) (hbl : b.length ≤ 1000000000) :
    Calls Tryz.prog 82 #[x, .int .i64 ty, .int .i64 k] w fun e w' => ∃ r, e = .returned (.tuple #[r, .bool (decDict b ty k).isSome]) ∧ Own 83 3 w' w.heap.size w'.heap.size r ((decDict b ty k).getD []).length (((decDict b ty k).getD []).flatMap V.cells) ∧ Below w.heap.size w w' := by
  obtain ⟨A, c, rfl, hl, hl2⟩ := hx.form
  obtain ⟨i0, hif, hz0, hz1, hz2⟩ := info_parts info_val
  replace hif := Lib.hid hif
  replace hz0 := Lib.hid hz0
  replace hz1 := Lib.hid hz1
  replace hz2 := Lib.hid hz2
  have hb0 := up_a1 w (.cells #[] 83)
  have own0 := World.ownsRow_made w (base := w.heap.size) (e := 83) (size := 3) #[] 0 (Nat.le_refl _) (by decide) rfl
  have Own0 := Lib.hid (Own.new own0)
  clear own0
  have hx0 := hx.below hb0 hhi
  have hsz0 := hb0.size
  obtain ⟨W0, hW0⟩ : ∃ W0, (w.alloc (.cells #[] 83)) = W0 := ⟨_, rfl⟩
  have hsz1 : W0.heap.size = w.heap.size + 1 := by rw [← hW0]; simp
  rw [hW0] at hb0 Own0 hx0 hsz0
  have HW0 := Lib.hid hW0
  have Hsz1 := Lib.hid hsz1
  clear hW0 hx hsz1
  have HG1 := Lib.hid (q_spec_GetNum b _ 0 W0 hx0)
  cases hr : rdNum b with
  | none =>
    have HG := Lib.hid (decDict_1 (ty := ty) (k := k) hr)
    have HT := Lib.hid (by have h := HG1.out; rw [show (0 : Int) = ((0 : Nat) : Int) from rfl, getNum_none (p := 0) (by rw [List.drop_zero]; exact hr)] at h; exact h)
    clear HG1 hr
    go_enter Tryz.func82, Tryz.ntmps82
    go_wp2_with fail
    rw [HW0.out]
    refine HT.out.mono ?_
    rintro e w1 ⟨rfl, rfl⟩
    go_wp2_with fail
    refine bodyPost_ret (v := .tuple #[.slice (some ⟨w.heap.size, 0, none⟩) 0 0, .bool false]) (by simp [results, Tryz.results82, go_sem]) rfl ⟨_, by rw [HG.out]; rfl, ?_, hb0⟩
    rw [HG.out]
    exact Own0.out
  | some np =>
    obtain ⟨n, p⟩ := np
    have HT := Lib.hid (by have h := HG1.out; rw [show (0 : Int) = ((0 : Nat) : Int) from rfl, getNum_some (p := 0) (by rw [List.drop_zero]; exact hr), Nat.zero_add] at h; exact h)
    have hpl := rdNum_le hr
    clear HG1
    have hQ := q_spec_l1In k 1 64 W0
    have hQ2 := q_spec_l1In n 1 k W0
    cases hk : inR k 1 64
    · rw [hk] at hQ
      have HQ := Lib.hid hQ
      have HG := Lib.hid (decDict_k (b := b) (ty := ty) hk)
      clear hk hQ hr hQ2
      go_enter Tryz.func82, Tryz.ntmps82
      go_wp2_with fail
      rw [HW0.out]
      refine HT.out.mono ?_
      rintro e w1 ⟨rfl, rfl⟩
      go_wp2_with fail
      refine HQ.out.mono ?_
      rintro e w1 ⟨rfl, rfl⟩
      go_wp2_with fail
      refine bodyPost_ret (v := .tuple #[.slice (some ⟨w.heap.size, 0, none⟩) 0 0, .bool false]) (by simp [results, Tryz.results82, go_sem]) rfl ⟨_, by rw [HG.out]; rfl, ?_, hb0⟩
      rw [HG.out]
      exact Own0.out
    rw [hk] at hQ
    have HQ := Lib.hid hQ
    have hkr := inR_yes hk
    cases hn : inR n 1 k
    · rw [hn] at hQ2
      have HQ2 := Lib.hid hQ2
      have HG : Hid (decDict b ty k = none) := Lib.hid (by
        cases hn4 : inR n 1 64
        · exact decDict_2 hr hn4
        · have h1 := inR_yes hn4
          have h2 := inR_no hn
          obtain ⟨n, rfl⟩ := Int.eq_ofNat_of_zero_le (show 0 ≤ n by omega)
          exact decDict_more hr (by omega))
      clear hk hQ hr hQ2 hn
      go_enter Tryz.func82, Tryz.ntmps82
      go_wp2_with fail
      rw [HW0.out]
      refine HT.out.mono ?_
      rintro e w1 ⟨rfl, rfl⟩
      go_wp2_with fail
      refine HQ.out.mono ?_
      rintro e w1 ⟨rfl, rfl⟩
      go_wp2_with fail
      refine HQ2.out.mono ?_
      rintro e w1 ⟨rfl, rfl⟩
      go_wp2_with fail
      refine bodyPost_ret (v := .tuple #[.slice (some ⟨w.heap.size, 0, none⟩) 0 0, .bool false]) (by simp [results, Tryz.results82, go_sem]) rfl ⟨_, by rw [HG.out]; rfl, ?_, hb0⟩
      rw [HG.out]
      exact Own0.out
    rw [hn] at hQ2
    have HQ2 := Lib.hid hQ2
    have hnr := inR_yes hn
    obtain ⟨n, rfl⟩ := Int.eq_ofNat_of_zero_le (show 0 ≤ n by omega)
    have hn64 : n ≤ 64 := by omega
    have hn1 : 1 ≤ n := by omega
    have hn4 : inR (n : Int) 1 64 = true := inR_of (by omega) (by omega)
    have hp1 : 1 ≤ p := by
      have h1 := (num_rdNum hr).2.2.2.1
      have h2 := numB_pos (num_rdNum hr).1
      omega
    have Hr := Lib.hid hr
    have Hn := Lib.hid hn4
    have Hk := Lib.hid hk
    have HST := Lib.hid (RdSt.start (f := rdVal ty) n (b.drop p))
    have HGV := Lib.hid (fun (z : Nat) W (h : Below W0.heap.size W0 W) => spec_GetVal b _ (z : Int) ty W (hx0.below h (Nat.le_trans hhi hsz0)) (Nat.le_trans (Nat.le_trans hhi hsz0) h.size) hbl)
    clear hk hQ hkr hr hQ2 hn hnr hn4
    have own1 := World.ownsRow_made W0 (base := w.heap.size + 1) (e := 83) (size := 3) #[] 0 (by rw [Hsz1.out]; exact Nat.le_refl _) (by decide) rfl
    have hb1 := up_a1 W0 (.cells #[] 83)
    have hx00 := Lib.hid hx0
    go_enter Tryz.func82, Tryz.ntmps82
    go_wp2_with fail
    rw [HW0.out]
    refine HT.out.mono ?_
    rintro e w1 ⟨rfl, rfl⟩
    go_wp2_with fail
    refine HQ.out.mono ?_
    rintro e w1 ⟨rfl, rfl⟩
    go_wp2_with fail
    refine HQ2.out.mono ?_
    rintro e w1 ⟨rfl, rfl⟩
    clear HT HQ HQ2
    go_wp2_with fail
    go_loopw [10, 12, 13] (fun a o i wr => ∃ (j m : Nat) (q : List V), Hid (a = .int .i64 ((p + m : Nat) : Int) ∧ i = .int .i64 j ∧ p + m ≤ b.length ∧ RdSt (rdVal ty) n (b.drop p) j q m ∧ wr.ownsRow (w.heap.size + 1) 83 3 o q.length (q.flatMap V.cells) ∧ Below W0.heap.size W0 wr)) (fun _ _ i _ => n - (intOf i).toNat)
    case atStart => exact ⟨0, 0, [], Lib.hid ⟨rfl, rfl, hpl, HST.out, own1, hb1⟩⟩
    case round =>
      obtain ⟨j, m, q, hrel⟩ := hrel
      obtain ⟨rfl, rfl, hpm, hst, hown, hb⟩ := hrel.out
      have hj := hst.1
      have hqj := Lib.hid hst.2.1
      have hq64 : q.length ≤ 64 := by rw [hqj.out]; omega
      have Hst := Lib.hid hst
      have Hown := Lib.hid hown
      have hbs := hb.size
      have hs01 : w.heap.size + 1 ≤ W0.heap.size := by rw [Hsz1.out]; exact Nat.le_refl _
      have hbs1 : w.heap.size + 1 ≤ wr.heap.size := Nat.le_trans hs01 hbs
      obtain ⟨Ao, co, rfl, -, -, -⟩ := (Own.new hown).cells
      clear hrel hst hown own1 hb1 HST
      by_cases hjk : j < n
      · have hG := HGV.out (p + m) wr hb
        cases hr : rdVal ty (b.drop (p + m)) with
        | none =>
          rw [getVal_none hr] at hG
          have HN := Lib.hid (decDict_3 (ty := ty) (k := k) Hr.out (RdSt.bad Hst.out hjk (by rw [List.drop_drop]; exact hr)))
          have HG := Lib.hid hG
          clear hr hG
          go_wp2_with fail
          refine HG.out.mono ?_
          rintro e w1 ⟨rfl, hb1⟩
          have hb1w := below_go hb hb1
          have hs1 := hb1w.size
          have HBx := Lib.hid (hb1w.alloc hs1 (.cells #[.int .i64 V.zero.ty, .int .i64 V.zero.n, .string V.zero.s] 83))
          clear hb1
          go_wp2_with fail
          refine bodyPost_ret (v := .tuple #[.slice (some ⟨w.heap.size, 0, none⟩) 0 0, .bool false]) (by simp [results, Tryz.results82, go_sem]) rfl ⟨_, by rw [HN.out]; rfl, ?_, below_go0 hb0 HBx.out⟩
          rw [HN.out]
          exact (Own0.out.below HBx.out (Nat.le_refl _)).more (Nat.le_refl _) HBx.out.size
        | some x =>
          obtain ⟨v, jj⟩ := x
          have hr2 := getVal_some (l := b) (p := p + m) (ty := ty) hr
          rw [hr2] at hG
          have Hnx := Lib.hid (RdSt.next Hst.out hjk (by rw [List.drop_drop]; exact hr))
          have hjl := rdVal_le hr
          rw [List.length_drop] at hjl
          have HG := Lib.hid hG
          clear hr hr2 hG
          obtain ⟨nx, hnx⟩ : ∃ nx, p + m + jj = nx := ⟨_, rfl⟩
          rw [hnx] at HG
          go_wp2_with fail
          refine HG.out.mono ?_
          rintro e w1 ⟨rfl, hb1⟩
          have HO1 := Lib.hid ((owns_below Hown.out hb1).alloc (.cells #[.int .i64 v.ty, .int .i64 v.n, .string v.s] 83))
          have hb1w := below_go hb hb1
          have hs1 := hb1w.size
          have hbx := hb1w.alloc hs1 (.cells #[.int .i64 v.ty, .int .i64 v.n, .string v.s] 83)
          have hbxs := hbx.size
          have m0 := box_new w1 #[.int .i64 v.ty, .int .i64 v.n, .string v.s] 83 0
          have m1 := box_new w1 #[.int .i64 v.ty, .int .i64 v.n, .string v.s] 83 1
          have m2 := box_new w1 #[.int .i64 v.ty, .int .i64 v.n, .string v.s] 83 2
          simp only [List.getElem?_toArray, List.getElem?_cons_zero, List.getElem?_cons_succ] at m0 m1 m2
          have hblk : ((w1.alloc (.cells #[.int .i64 v.ty, .int .i64 v.n, .string v.s] 83)).alloc (.cells #[.int .i64 v.ty, .int .i64 v.n, .string v.s] 83)).heap[w1.heap.size + 1]? = some (.cells #[.int .i64 v.ty, .int .i64 v.n, .string v.s] 83) := by
            have h := heap_alloc_new (w1.alloc (.cells #[.int .i64 v.ty, .int .i64 v.n, .string v.s] 83)) (.cells #[.int .i64 v.ty, .int .i64 v.n, .string v.s] 83)
            rw [World.size_alloc] at h
            exact h
          have Hblk := Lib.hid hblk
          clear hblk hb1 HG Hown
          go_wp2_with (at_builtin; refine wpl_app rfl _ _ 42 rfl (w.heap.size + 1) 83 i0 _ 3 32 Tryz.underlying42 hif.out hz0.out hz1.out hz2.out rfl (by decide) (by decide) (HO1.out.alloc _) rfl Hblk.out rfl rfl (by simp [Value.oneCell']) (by omega) (by simp; omega) ?_)
          intro v4 w4 hown4 hgrow _
          have HB4 := Lib.hid (Below.grown (hbx.alloc hbxs _) hgrow (fun g hg => Nat.le_trans (Nat.le_of_eq Hsz1.out) (HO1.out.lt g hg).1) (Nat.le_refl _))
          have HO4 := Lib.hid (show w4.ownsRow (w.heap.size + 1) 83 3 v4 (q ++ [v]).length ((q ++ [v]).flatMap V.cells) by
            rw [List.flatMap_append, List.length_append]
            exact hown4)
          clear hown4 hgrow HO1 Hblk m0 m1 m2
          go_wp2_with fail
          go_roundw
          case rel => exact ⟨j + 1, m + jj, q ++ [v], Lib.hid ⟨by rw [← hnx]; go_num, by go_num, by omega, Hnx.out, HO4.out, HB4.out⟩⟩
          case measure => simp [intOf]; omega
      · obtain rfl : j = n := by omega
        have Hv := Lib.hid (RdSt.done Hst.out)
        have Hds : Hid (∀ v ∈ q, v.s.size ≤ maxLen) := Lib.hid (by
          have h := gvL_small (ty := ty) (k := j) (s := b.drop p)
          rw [Hv.out] at h
          exact h)
        obtain ⟨at1, hat1⟩ : ∃ a, p + m = a := ⟨_, rfl⟩
        have ha1 : 1 ≤ at1 := by omega
        rw [hat1] at hpm ⊢
        have hat := hpm
        have Hat1 := Lib.hid hat1
        have hrdq := (Own.new Hown.out).rdV
        clear hat1 hpm Hst HGV Hown
        obtain ⟨ws, hws⟩ : ∃ ws, ws = wr := ⟨_, rfl⟩
        subst hws
        generalize hjn : j = n at *
        clear hjn
        have hpos : c ≠ 0 := by omega
        obtain ⟨gb, goff, rfl⟩ : ∃ gb goff, A = some ⟨gb, goff, none⟩ := by
          obtain ⟨b', off', -, h, -⟩ := hx00.out.at (show 0 < b.length by omega)
          exact ⟨b', off', h⟩
        have hdrop := hx00.out.dropIf (k := at1) hat hl
        have f1 : (0 : Int) ≤ (at1 : Int) := by omega
        have f2 : (at1 : Int) ≤ (c : Int) := by omega
        have f3 : (at1 : Int) ≤ (b.length : Int) := by omega
        have f4 : (b.length : Int) ≤ (c : Int) := by omega
        obtain ⟨AA, hAA⟩ : ∃ AA, (if c = at1 then some (⟨gb, goff, none⟩ : Addr) else some ⟨gb, goff + at1, none⟩) = AA := ⟨_, rfl⟩
        rw [hAA] at hdrop
        have HU := Lib.hid (fun W (h : Below ws.heap.size ws W) => spec_UnpackBits (b.drop at1) _ (dictW n : Int) k W (hdrop.below (hb.trans (h.mono hb.size)) (Nat.le_trans hhi hsz0)) (Nat.le_trans (Nat.le_trans hhi hsz0) (Nat.le_trans hb.size h.size)) (by rw [List.length_drop]; omega))
        have hwn : IntKind.i64.wrap ((n : Int) - 1) = (n : Int) - 1 := by rw [IntKind.wrap_i64]; omega
        have hWd : ∀ W, Calls Tryz.prog 124 #[.int .i64 (IntKind.i64.wrap ((n : Int) - 1))] W fun e w' => e = .returned (.int .i64 (dictW n : Nat)) ∧ W = w' := fun W => by rw [hwn]; exact q_spec_WidthOf ((n : Int) - 1) W
        have HWd := Lib.hid hWd
        have hw31 := dictW_le n
        clear hdrop hWd hwn
        obtain ⟨wd, hwd⟩ : ∃ wd, dictW n = wd := ⟨_, rfl⟩
        rw [hwd] at HU HWd hw31
        have Hwd := Lib.hid hwd
        clear hwd
        go_wp2_with fail
        go_region_held3 (fun w' => True) (first | trivial | exact trivial | go_keep)
          (first
            | (go_at_call 124; ((with_reducible refine (HWd.out _).mono ?_); rintro e wq ⟨rfl, rfl⟩))
            | (go_at_call 123; ((with_reducible refine (HU.out _ (Below.refl _ _).drew).mono ?_); rintro e wu ⟨r, rfl, hou, hbu⟩))
            | fail)
        have hbu2 : Below ws.heap.size ws wu := Below.undrew hbu
        have hbuw := below_go hb hbu2
        have hri := hou.rdI
        have hrd2 := hrdq.below hbu2 (Nat.le_refl _)
        have hws2 := hbu2.size
        clear hbu hou HU hAA f1 f2 f3 f4 hrdq
        obtain ⟨Ar, cr, rfl, -, -⟩ := hri.form
        cases hu : unpackB (b.drop at1) (wd : Int) k with
        | none =>
          have HG := Lib.hid (decDict_4 (ty := ty) (k := k) Hr.out Hv.out (by rw [Hat1.out, Hwd.out]; exact hu))
          simp only [hu, Option.isSome_none, Option.getD_none, List.length_nil] at hri ⊢
          have HP := Lib.hid (spec_Picked q [] _ _ wu hrd2 hri hws2 (Nat.le_refl _) (by simp))
          clear hu hri
          go_wp2_with fail
          refine HP.out.mono ?_
          rintro e w3 ⟨_, rfl, ho3, hb3⟩
          have hb3w := below_go hbuw hb3
          generalize (pickedQ q []).isSome = may at *
          clear hb3 ho3
          go_wp2_with fail
          refine bodyPost_ret (v := .tuple #[.slice (some ⟨w.heap.size, 0, none⟩) 0 0, .bool false]) (by simp [results, Tryz.results82, go_sem]) rfl ⟨_, by rw [HG.out]; rfl, ?_, below_go0 hb0 hb3w⟩
          rw [HG.out]
          exact (Own0.out.below hb3w (Nat.le_refl _)).more (Nat.le_refl _) hb3w.size
        | some z =>
          have Hu := Lib.hid hu
          simp only [hu, Option.isSome_some, Option.getD_some] at hri ⊢
          obtain ⟨hzk, hz64⟩ := unpackB_len hu
          have hP := spec_Picked q z _ _ wu hrd2 hri hws2 (Nat.le_refl _) (by omega)
          clear hu hri hzk
          cases hra : pickedQ q z with
          | none =>
            have HG := Lib.hid (decDict_5 (ty := ty) (k := k) Hr.out Hv.out (by rw [Hat1.out, Hwd.out]; exact Hu.out) hra)
            simp only [hra, Option.isSome_none, Option.getD_none, List.length_nil] at hP
            have HP := Lib.hid hP
            clear hP hra
            go_wp2_with fail
            refine HP.out.mono ?_
            rintro e w3 ⟨_, rfl, ho3, hb3⟩
            have hb3w := below_go hbuw hb3
            clear hb3 ho3
            go_wp2_with fail
            refine bodyPost_ret (v := .tuple #[.slice (some ⟨w.heap.size, 0, none⟩) 0 0, .bool false]) (by simp [results, Tryz.results82, go_sem]) rfl ⟨_, by rw [HG.out]; rfl, ?_, below_go0 hb0 hb3w⟩
            rw [HG.out]
            exact (Own0.out.below hb3w (Nat.le_refl _)).more (Nat.le_refl _) hb3w.size
          | some L =>
            have HG6 := Lib.hid (decDict_6 (ty := ty) (k := k) Hr.out Hn.out Hv.out (by rw [Hat1.out, Hwd.out]; exact Hu.out) hra)
            have HLs : Hid (∀ v ∈ L, v.s.size ≤ maxLen) := Lib.hid (by
              have h := picked_small (q := z) Hds.out
              rw [hra] at h
              exact h)
            have hLl : L.length ≤ 64 := by
              have h := picked_len (d := q) (q := z)
              rw [hra] at h
              exact Nat.le_trans h hz64
            simp only [hra, Option.isSome_some, Option.getD_some] at hP
            have HP := Lib.hid hP
            clear hP hra Hds hrd2
            go_wp2_with fail
            refine HP.out.mono ?_
            rintro e w3 ⟨_, rfl, ho3, hb3⟩
            have hb3w := below_go hbuw hb3
            have hrd3 := ho3.rdV
            obtain ⟨A3, c3, rfl, -, -⟩ := hrd3.form
            have Ho3 := Lib.hid (ho3.more (Nat.le_trans hbs1 hws2) (Nat.le_refl _))
            have HE := Lib.hid (spec_EncDict L _ w3 hrd3 (Nat.le_refl _) HLs.out)
            clear hb3 ho3 hrd3 HP
            go_wp2_with fail
            refine HE.out.mono ?_
            rintro e w4 ⟨r4, rfl, ho4, hb4⟩
            have hb4w := below_go hb3w hb4
            have hre := ho4.rdBc
            obtain ⟨A4, c4, rfl, -, -⟩ := hre.form
            have hS := q_spec_l5Same (encDict L) b _ _ w4 hre (hx00.out.below hb4w (Nat.le_trans hhi hsz0))
            have Ho4 := Lib.hid ((Ho3.out.below hb4 (Nat.le_refl _)).more (Nat.le_refl _) hb4.size)
            clear Ho3 hb4 ho4 hre HE
            cases he : eqd (encDict L) b
            · rw [he] at hS
              have HS := Lib.hid hS
              have HG := Lib.hid (show decDict b ty k = none by rw [HG6.out, eqd_comm, he, Bool.and_false]; rfl)
              clear hS he
              generalize encDict L = en at *
              go_wp2_with fail
              refine HS.out.mono ?_
              rintro e w5 ⟨rfl, rfl⟩
              go_wp2_with fail
              refine bodyPost_ret (v := .tuple #[.slice (some ⟨w.heap.size, 0, none⟩) 0 0, .bool false]) (by simp [results, Tryz.results82, go_sem]) rfl ⟨_, by rw [HG.out]; rfl, ?_, below_go0 hb0 hb4w⟩
              rw [HG.out]
              exact (Own0.out.below hb4w (Nat.le_refl _)).more (Nat.le_refl _) hb4w.size
            · rw [he] at hS
              have HS := Lib.hid hS
              have HG := Lib.hid (show decDict b ty k = some L by rw [HG6.out, eqd_comm, he, Hk.out]; rfl)
              clear hS he
              generalize encDict L = en at *
              go_wp2_with fail
              refine HS.out.mono ?_
              rintro e w5 ⟨rfl, rfl⟩
              go_wp2_with fail
              refine bodyPost_ret (v := .tuple #[.slice A3 L.length c3, .bool true]) (by simp [results, Tryz.results82, go_sem]) rfl ⟨_, by rw [HG.out]; rfl, ?_, below_go0 hb0 hb4w⟩
              rw [HG.out]
              exact Ho4.out.more (Nat.le_succ _) (Nat.le_refl _)
end Go.Proofs.YticimccfeohpcaaGreat
