/- Packed bits, unpacked: contracts. -/
import Derived.Test.YtnldneogjdljkaaNF
import Derived.Test.YtnldneogjdljkaaNE
namespace Go.Lb
open Go.RowKit
def clearB (b : List UInt8) (n : Nat) : Bool := (List.range (8 * b.length)).all fun i => decide (i < n) || !bitL b i
theorem clearB_yes {b : List UInt8} {n : Nat} (h : clearB b n = true) : clearFrom b n := fun i h1 h2 => by
  rw [clearB, List.all_eq_true] at h
  have h3 := h i (List.mem_range.2 h2)
  simp only [Bool.or_eq_true, decide_eq_true_eq, Bool.not_eq_true'] at h3
  exact h3.resolve_left (by omega)
theorem clearB_of {b : List UInt8} {n : Nat} (h : clearFrom b n) : clearB b n = true := by
  rw [clearB, List.all_eq_true]
  intro i hi
  by_cases h1 : i < n
  · simp [h1]
  · simp [h i (by omega) (List.mem_range.1 hi)]
theorem clearB_not {b : List UInt8} {n i : Nat} (h1 : n ≤ i) (h2 : i < 8 * b.length) (h3 : bitL b i = true) : clearB b n = false := by
  rw [Bool.eq_false_iff]
  intro h
  rw [clearB_yes h i h1 h2] at h3
  cases h3
def unpackB (b : List UInt8) (v k : Int) : Option (List Int) := if (inR v 0 31 && (inR k 0 64 && (decide ((b.length : Int) = bytesFor k v) && clearB b (k.toNat * v.toNat)))) = true then some (numsAt b v.toNat k.toNat) else none
theorem unpackB_no1 {b : List UInt8} {v k : Int} (h : inR v 0 31 = false) : unpackB b v k = none := by rw [unpackB, h]; rfl
theorem unpackB_no2 {b : List UInt8} {v k : Int} (h : inR k 0 64 = false) : unpackB b v k = none := by rw [unpackB, h]; simp
theorem unpackB_no3 {b : List UInt8} {v k : Int} (h : ¬ (b.length : Int) = bytesFor k v) : unpackB b v k = none := by rw [unpackB, decide_eq_false h]; simp
theorem unpackB_no4 {b : List UInt8} {v k : Nat} (h : clearB b (k * v) = false) : unpackB b v k = none := by rw [unpackB, Int.toNat_natCast, Int.toNat_natCast, h]; simp
theorem unpackB_yes {b : List UInt8} {v k : Nat} (h1 : inR v 0 31 = true) (h2 : inR k 0 64 = true) (h3 : (b.length : Int) = bytesFor k v) (h4 : clearB b (k * v) = true) : unpackB b v k = some (numsAt b v k) := by
  rw [unpackB, Int.toNat_natCast, Int.toNat_natCast, h4, h1, h2, decide_eq_true h3]
  rfl
theorem unpackB_some {b : List UInt8} {v k : Int} {l : List Int} (h : unpackB b v k = some l) : unpackOk b v k ∧ l = numsAt b v.toNat k.toNat := by
  rw [unpackB] at h
  split at h
  · rename_i h1
    simp only [Bool.and_eq_true, decide_eq_true_eq] at h1
    injection h with h
    exact ⟨⟨h1.1, h1.2.1, h1.2.2.1, clearB_yes h1.2.2.2⟩, h.symm⟩
  · cases h
theorem unpackB_of {b : List UInt8} {v k : Int} (h : unpackOk b v k) : unpackB b v k = some (numsAt b v.toNat k.toNat) := by
  rw [unpackB, if_pos]
  simp only [Bool.and_eq_true, decide_eq_true_eq]
  exact ⟨h.1, h.2.1, h.2.2.1, clearB_of h.2.2.2⟩
theorem numsAt_succ (b : List UInt8) (v k : Nat) : numsAt b v (k + 1) = numsAt b v k ++ [numAt b v k] := by simp [numsAt, List.range_succ]
theorem numsAt_len (b : List UInt8) (v k : Nat) : (numsAt b v k).length = k := by simp [numsAt]
theorem bitAt_nat (b : List UInt8) (n : Nat) : bitAt b (n : Int) = ((if bitL b n then 1 else 0 : Nat) : Int) := by
  rw [bitAt, if_neg (by omega), Int.toNat_natCast]
  split <;> rfl
theorem or_bit {x j be : Nat} (hx : x < 2 ^ j) (hj : j < 31) (hb : be ≤ 1) : bits .or .i64 (x : Int) (wrap64 ((be : Int) * 2 ^ j)) = ((be * 2 ^ j + x : Nat) : Int) := by
  have hp : 2 ^ j ≤ 1073741824 := Nat.pow_le_pow_right (by decide) (show j ≤ 30 by omega)
  have hm : be * 2 ^ j ≤ 1073741824 := Nat.le_trans (Nat.mul_le_mul_right _ hb) (by omega)
  have hw : ∀ n : Int, 0 ≤ n → n < 2 ^ 62 → IntKind.i64.wrap n = n := fun n h0 h1 => by rw [IntKind.wrap_i64]; omega
  have e : (be : Int) * 2 ^ j = ((be * 2 ^ j : Nat) : Int) := by simp
  rw [e, wrap64_in (by omega) (by omega), (bits_nat .i64 62 (by decide) hw x _ (by omega) (by omega)).2, Nat.or_comm, Nat.mul_comm, ← Nat.two_pow_add_eq_or_of_lt hx]
theorem natOf_step (g : Nat → Bool) (j : Nat) : natOf g (j + 1) = (if g j then 1 else 0) * 2 ^ j + natOf g j := by
  rw [natOf]
  split <;> simp
end Go.Lb
namespace Go.Proofs.Ytnldneogjdljkaa
open Go.Sort Go.ChangeShapes Go.WideShapes Go.ChangeAt Go.RowKit Go.Lb
set_option maxHeartbeats 4000000 in
set_option maxRecDepth 20000 in
theorem spec_UnpackBits (b : List UInt8) (x : Value) (v k : Int) (w : World) {lo hi : Nat} (hx : RdB w lo hi x b) (hhi : hi ≤ w.heap.size) (hbl : b.length ≤ 1000000000) :
    Calls Try.prog 23 #[x, .int .i64 v, .int .i64 k] w fun e w' => ∃ r, e = .returned (.tuple #[r, .bool (unpackB b v k).isSome]) ∧ Own 3 1 w' w.heap.size w'.heap.size r ((unpackB b v k).getD []).length (((unpackB b v k).getD []).map (.int .i64)) ∧ Below w.heap.size w w' := by
  obtain ⟨A, c, rfl, hl, hl2⟩ := hx.form
  obtain ⟨j0, jif, jz0, jz1, jz2⟩ := info_parts info_i64
  replace jif := Lib.hid jif
  replace jz0 := Lib.hid jz0
  replace jz1 := Lib.hid jz1
  replace jz2 := Lib.hid jz2
  have hb0 : Below w.heap.size w (w.alloc (.cells #[] 3)) := up_a1 w _
  have own0 := World.ownsRow_made w (base := w.heap.size) (e := 3) (size := 1) #[] 0 (Nat.le_refl _) (by decide) rfl
  have hQ := q_spec_l1In k 0 64 (w.alloc (.cells #[] 3))
  have hR := q_spec_l1In v 0 31 (w.alloc (.cells #[] 3))
  have hB := q_spec_BytesFor k v (w.alloc (.cells #[] 3))
  cases h1 : inR k 0 64
  · rw [h1] at hQ
    have HQ := Lib.hid hQ
    have HG := Lib.hid (unpackB_no2 (b := b) (v := v) h1)
    clear h1 hQ hR hB
    go_enter Try.func23, Try.ntmps23
    go_wp2_with fail
    refine HQ.out.mono ?_
    rintro e w1 ⟨rfl, rfl⟩
    go_wp2_with fail
    refine bodyPost_ret (v := .tuple #[.slice (some ⟨w.heap.size, 0, none⟩) 0 0, .bool false]) (by simp [results, Try.results23, go_sem]) rfl ⟨_, by rw [HG.out]; rfl, ?_, hb0⟩
    rw [HG.out]
    exact .new own0
  rw [h1] at hQ
  have HQ := Lib.hid hQ
  clear hQ
  cases h2 : inR v 0 31
  · rw [h2] at hR
    have HR := Lib.hid hR
    have HG := Lib.hid (unpackB_no1 (b := b) (k := k) h2)
    clear h1 h2 hR hB
    go_enter Try.func23, Try.ntmps23
    go_wp2_with fail
    refine HQ.out.mono ?_
    rintro e w1 ⟨rfl, rfl⟩
    go_wp2_with fail
    refine HR.out.mono ?_
    rintro e w1 ⟨rfl, rfl⟩
    go_wp2_with fail
    refine bodyPost_ret (v := .tuple #[.slice (some ⟨w.heap.size, 0, none⟩) 0 0, .bool false]) (by simp [results, Try.results23, go_sem]) rfl ⟨_, by rw [HG.out]; rfl, ?_, hb0⟩
    rw [HG.out]
    exact .new own0
  rw [h2] at hR
  have HR := Lib.hid hR
  clear hR
  by_cases h3 : (b.length : Int) = bytesFor k v
  case neg =>
    have HB := Lib.hid hB
    have HG := Lib.hid (unpackB_no3 h3)
    clear h1 h2 hB
    generalize bytesFor k v = n at HB h3
    have hd : ((b.length : Int) != n) = true := by simp [h3]
    clear h3
    go_enter Try.func23, Try.ntmps23
    go_wp2_with fail
    refine HQ.out.mono ?_
    rintro e w1 ⟨rfl, rfl⟩
    go_wp2_with fail
    refine HR.out.mono ?_
    rintro e w1 ⟨rfl, rfl⟩
    go_wp2_with fail
    refine HB.out.mono ?_
    rintro e w1 ⟨rfl, rfl⟩
    go_wp2_with fail
    refine bodyPost_ret (v := .tuple #[.slice (some ⟨w.heap.size, 0, none⟩) 0 0, .bool false]) (by simp [results, Try.results23, go_sem]) rfl ⟨_, by rw [HG.out]; rfl, ?_, hb0⟩
    rw [HG.out]
    exact .new own0
  rw [← h3] at hB
  have HB := Lib.hid hB
  clear hB
  have e1 := inR_yes h2
  have e2 := inR_yes h1
  obtain ⟨v, rfl⟩ := Int.eq_ofNat_of_zero_le e1.1
  obtain ⟨k, rfl⟩ := Int.eq_ofNat_of_zero_le e2.1
  have hv : v ≤ 31 := by omega
  have hk : k ≤ 64 := by omega
  have hlen : k * v ≤ 8 * b.length := by
    rw [bytesFor_nat hk hv] at h3
    omega
  have hkv := (mul_le_1984 hk hv).1
  have hkv0 := (mul_le_1984 hk hv).2
  have Hlen := Lib.hid hlen
  have HY := Lib.hid (fun h4 => unpackB_yes h2 h1 h3 h4)
  have HN := Lib.hid (fun h4 => unpackB_no4 (b := b) (v := v) (k := k) h4)
  clear h1 h2 h3 e1 e2 hlen
  have hdl : ((b.length : Int) != (b.length : Int)) = false := by simp
  go_enter Try.func23, Try.ntmps23
  go_wp2_with fail
  refine HQ.out.mono ?_
  rintro e w1 ⟨rfl, rfl⟩
  go_wp2_with fail
  refine HR.out.mono ?_
  rintro e w1 ⟨rfl, rfl⟩
  go_wp2_with fail
  refine HB.out.mono ?_
  rintro e w1 ⟨rfl, rfl⟩
  go_wp2_with fail
  go_loopw [8, 9] (fun o i wr => ∃ (j : Nat), Hid (i = .int .i64 j ∧ j ≤ k ∧ wr.ownsRow w.heap.size 3 1 o j ((numsAt b v j).map (.int .i64)) ∧ Below w.heap.size w wr)) (fun _ i _ => k - (intOf i).toNat)
  case atStart => exact ⟨0, Lib.hid ⟨rfl, by omega, own0, hb0⟩⟩
  case round =>
    obtain ⟨i, hrel⟩ := hrel
    obtain ⟨rfl, hi, hown, hb⟩ := hrel.out
    clear hrel
    have hbs := hb.size
    obtain ⟨Ao, co, rfl, -, -, -⟩ := (Own.new hown).cells
    have hX := hx.below hb hhi
    by_cases hik : i < k
    · have him : (i : Int) * v ≤ 1984 ∧ 0 ≤ (i : Int) * v := mul_le_1984 (by omega) hv
      obtain ⟨him1, him0⟩ := him
      go_wp2_with fail
      go_loop [10, 11] (fun n t => ∃ j : Nat, Hid (t = .int .i64 j ∧ n = .int .i64 (natOf (fun t => bitL b (i * v + t)) j : Nat) ∧ j ≤ v)) (fun _ t => v - (intOf t).toNat)
      case atStart => exact ⟨0, Lib.hid ⟨rfl, rfl, by omega⟩⟩
      case round =>
        obtain ⟨j, hrel⟩ := hrel
        obtain ⟨rfl, rfl, hj⟩ := hrel.out
        clear hrel
        by_cases hjv : j < v
        · have hT := q_spec_BitAt b _ ((i : Int) * v + j) _ hX (by omega)
          rw [show (i : Int) * v + j = ((i * v + j : Nat) : Int) by simp, bitAt_nat] at hT
          rw [show ((i * v + j : Nat) : Int) = (i : Int) * v + j by simp] at hT
          have HS := Lib.hid (natOf_step (fun t => bitL b (i * v + t)) j)
          have hnl := natOf_lt (fun t => bitL b (i * v + t)) j
          generalize natOf (fun t => bitL b (i * v + t)) j = a at HS hnl ⊢
          obtain ⟨be, hbe⟩ : ∃ be : Nat, (if bitL b (i * v + j) then 1 else 0) = be := ⟨_, rfl⟩
          have hbe1 : be ≤ 1 := by rw [← hbe]; split <;> omega
          simp only [hbe] at HS hT
          have HT := Lib.hid hT
          have Hnl := Lib.hid hnl
          clear hT hbe hnl
          go_wp2_with fail
          refine HT.out.mono ?_
          rintro e w1 ⟨rfl, rfl⟩
          go_upto_region 10 with fail
          rw [or_bit Hnl.out (by omega) hbe1]
          have HS2 := Lib.hid (show natOf (fun t => bitL b (i * v + t)) (j + 1) = be * 2 ^ j + a from HS.out)
          clear HS
          generalize be * 2 ^ j + a = a2 at HS2 ⊢
          go_wp2_with fail
          go_round
          case rel => exact ⟨j + 1, Lib.hid ⟨by go_num, by rw [HS2.out], by omega⟩⟩
          case measure => simp [intOf]; omega
        · obtain rfl : j = v := by omega
          have HA := Lib.hid (show ((natOf (fun t => bitL b (i * j + t)) j : Nat) : Int) = numAt b j i from rfl)
          rw [HA.out]
          go_wp2_with (at_builtin; refine wpl_app rfl _ _ 24 rfl w.heap.size 3 j0 _ 1 8 Try.underlying24 jif.out jz0.out jz1.out jz2.out rfl (by decide) (by decide) (hown.alloc _) rfl (heap_alloc_new _ _) rfl rfl (by simp [Value.oneCell']) (by omega) (by simp; omega) ?_)
          intro v' w3 hown' hgrow hnb
          have hb3 := Below.grown (hb.alloc hb.size _) hgrow (fun g hg => (hown.lt g hg).1) (Nat.le_refl _)
          have HO := Lib.hid (show w3.ownsRow w.heap.size 3 1 v' (i + 1) ((numsAt b j (i + 1)).map (.int .i64)) by rw [numsAt_succ, List.map_append]; exact hown')
          clear hown' hgrow hnb hown hX
          go_wp2_with fail
          go_roundw
          case rel => exact ⟨i + 1, Lib.hid ⟨by go_num, by omega, HO.out, hb3⟩⟩
          case measure => simp [intOf]; omega
    · obtain rfl : i = k := by omega
      have Hown := Lib.hid hown
      clear hown
      go_wp2_with fail
      go_loop [12] (fun n => ∃ j : Nat, Hid (n = .int .i64 j ∧ i * v ≤ j ∧ j ≤ 8 * b.length ∧ ∀ t, i * v ≤ t → t < j → bitL b t = false)) (fun n => 8 * b.length - (intOf n).toNat)
      case atStart => exact ⟨i * v, Lib.hid ⟨by simp, by omega, Hlen.out, fun t h1 h2 => by omega⟩⟩
      case round =>
        obtain ⟨j, hrel⟩ := hrel
        obtain ⟨rfl, hj0, hj, hz⟩ := hrel.out
        have Hz := Lib.hid hz
        have Hj0 := Lib.hid hj0
        clear hrel hz hj0
        by_cases hjl : j < 8 * b.length
        · have hT := q_spec_BitAt b _ (j : Int) _ hX (by omega)
          rw [bitAt_nat] at hT
          cases hg : bitL b j
          · simp only [hg] at hT
            have HT := Lib.hid hT
            have Hz2 := Lib.hid (show ∀ t, i * v ≤ t → t < j + 1 → bitL b t = false from fun t h1 h2 => by
              rcases Nat.lt_succ_iff_lt_or_eq.1 h2 with h | h
              · exact Hz.out t h1 h
              · rw [h]; exact hg)
            clear hT hg
            go_wp2_with fail
            refine HT.out.mono ?_
            rintro e w1 ⟨rfl, rfl⟩
            go_wp2_with fail
            go_round
            case rel => exact ⟨j + 1, Lib.hid ⟨by go_num, by have := Hj0.out; omega, by omega, Hz2.out⟩⟩
            case measure => simp [intOf]; omega
          · simp only [hg] at hT
            have HT := Lib.hid hT
            have HG := Lib.hid (HN.out (clearB_not Hj0.out hjl hg))
            clear hT hg
            go_wp2_with fail
            refine HT.out.mono ?_
            rintro e w1 ⟨rfl, rfl⟩
            go_wp2_with fail
            refine bodyPost_ret (v := .tuple #[.slice (some ⟨wr.heap.size, 0, none⟩) 0 0, .bool false]) (by simp [results, Try.results23, go_sem]) rfl ⟨_, by rw [HG.out]; rfl, ?_, hb.alloc hb.size _⟩
            rw [HG.out]
            exact .new (World.ownsRow_made wr (base := w.heap.size) (e := 3) (size := 1) #[] 0 hb.size (by decide) rfl)
        · obtain rfl : j = 8 * b.length := by omega
          have HG := Lib.hid (HY.out (clearB_of fun t h1 h2 => Hz.out t h1 h2))
          go_wp2_with fail
          refine bodyPost_ret (v := .tuple #[.slice Ao i co, .bool true]) (by simp [results, Try.results23, go_sem]) rfl ⟨_, by rw [HG.out]; rfl, ?_, hb⟩
          rw [HG.out]
          show Own _ 1 _ _ _ _ (numsAt b v i).length _
          rw [numsAt_len]
          exact .new Hown.out
set_option maxHeartbeats 4000000 in
set_option maxRecDepth 20000 in
theorem impl_UnpackBits (b : List UInt8) (x : Value) (v k : Int) (w : World) {lo hi : Nat} (hx : RdB w lo hi x b) (hhi : hi ≤ w.heap.size) (hbl : b.length ≤ 1000000000) :
    Calls Try.prog 18 #[x, .int .i64 v, .int .i64 k] w fun e w' => ∃ r, e = .returned (.tuple #[r, .bool (unpackB b v k).isSome]) ∧ Own 3 1 w' w.heap.size w'.heap.size r ((unpackB b v k).getD []).length (((unpackB b v k).getD []).map (.int .i64)) ∧ Below w.heap.size w w' := by
  obtain ⟨A, c, rfl, hl, hl2⟩ := hx.form
  obtain ⟨j0, jif, jz0, jz1, jz2⟩ := info_parts info_i64
  replace jif := Lib.hid jif
  replace jz0 := Lib.hid jz0
  replace jz1 := Lib.hid jz1
  replace jz2 := Lib.hid jz2
  have hb0 : Below w.heap.size w w := Below.refl _ _
  have hQ := q_impl_within v 0 31 w
  have hR := q_impl_within k 0 64 w
  have hB := q_impl_BytesFor k v w
  cases h1 : inR v 0 31
  · rw [h1] at hQ
    have HQ := Lib.hid hQ
    have HG := Lib.hid (unpackB_no1 (b := b) (k := k) h1)
    clear h1 hQ hR hB
    go_enter Try.func18, Try.ntmps18
    go_wp2_with fail
    refine HQ.out.mono ?_
    rintro e w1 ⟨rfl, rfl⟩
    go_wp2_with fail
    refine bodyPost_ret (v := .tuple #[.slice none 0 0, .bool false]) (by simp [results, Try.results18, go_sem]) rfl ⟨_, by rw [HG.out]; rfl, ?_, hb0⟩
    rw [HG.out]
    exact own_ints_none _ _ _ _
  rw [h1] at hQ
  have HQ := Lib.hid hQ
  clear hQ
  cases h2 : inR k 0 64
  · rw [h2] at hR
    have HR := Lib.hid hR
    have HG := Lib.hid (unpackB_no2 (b := b) (v := v) h2)
    clear h1 h2 hR hB
    go_enter Try.func18, Try.ntmps18
    go_wp2_with fail
    refine HQ.out.mono ?_
    rintro e w1 ⟨rfl, rfl⟩
    go_wp2_with fail
    refine HR.out.mono ?_
    rintro e w1 ⟨rfl, rfl⟩
    go_wp2_with fail
    refine bodyPost_ret (v := .tuple #[.slice none 0 0, .bool false]) (by simp [results, Try.results18, go_sem]) rfl ⟨_, by rw [HG.out]; rfl, ?_, hb0⟩
    rw [HG.out]
    exact own_ints_none _ _ _ _
  rw [h2] at hR
  have HR := Lib.hid hR
  clear hR
  by_cases h3 : (b.length : Int) = bytesFor k v
  case neg =>
    have HB := Lib.hid hB
    have HG := Lib.hid (unpackB_no3 h3)
    clear h1 h2 hB
    generalize bytesFor k v = n at HB h3
    have hd : ((b.length : Int) != n) = true := by simp [h3]
    clear h3
    go_enter Try.func18, Try.ntmps18
    go_wp2_with fail
    refine HQ.out.mono ?_
    rintro e w1 ⟨rfl, rfl⟩
    go_wp2_with fail
    refine HR.out.mono ?_
    rintro e w1 ⟨rfl, rfl⟩
    go_wp2_with fail
    refine HB.out.mono ?_
    rintro e w1 ⟨rfl, rfl⟩
    go_wp2_with fail
    refine bodyPost_ret (v := .tuple #[.slice none 0 0, .bool false]) (by simp [results, Try.results18, go_sem]) rfl ⟨_, by rw [HG.out]; rfl, ?_, hb0⟩
    rw [HG.out]
    exact own_ints_none _ _ _ _
  rw [← h3] at hB
  have HB := Lib.hid hB
  clear hB
  have e1 := inR_yes h1
  have e2 := inR_yes h2
  obtain ⟨v, rfl⟩ := Int.eq_ofNat_of_zero_le e1.1
  obtain ⟨k, rfl⟩ := Int.eq_ofNat_of_zero_le e2.1
  have hv : v ≤ 31 := by omega
  have hk : k ≤ 64 := by omega
  have hlen : k * v ≤ 8 * b.length := by
    rw [bytesFor_nat hk hv] at h3
    omega
  have hkv := (mul_le_1984 hk hv).1
  have hkv0 := (mul_le_1984 hk hv).2
  have Hlen := Lib.hid hlen
  have HY := Lib.hid (fun h4 => unpackB_yes h1 h2 h3 h4)
  have HN := Lib.hid (fun h4 => unpackB_no4 (b := b) (v := v) (k := k) h4)
  clear h1 h2 h3 e1 e2 hlen
  have hdl : ((b.length : Int) != (b.length : Int)) = false := by simp
  go_enter Try.func18, Try.ntmps18
  go_wp2_with fail
  refine HQ.out.mono ?_
  rintro e w1 ⟨rfl, rfl⟩
  go_wp2_with fail
  refine HR.out.mono ?_
  rintro e w1 ⟨rfl, rfl⟩
  go_wp2_with fail
  refine HB.out.mono ?_
  rintro e w1 ⟨rfl, rfl⟩
  go_wp2_with fail
  have own0 := World.ownsRow_made w (base := w.heap.size) (e := 3) (size := 1) #[] 0 (Nat.le_refl _) (by decide) rfl
  have hb0 : Below w.heap.size w (w.alloc (.cells #[] 3)) := up_a1 w _
  go_loopw [8, 9] (fun o i wr => ∃ (j : Nat), Hid (i = .int .i64 j ∧ j ≤ k ∧ wr.ownsRow w.heap.size 3 1 o j ((numsAt b v j).map (.int .i64)) ∧ Below w.heap.size w wr)) (fun _ i _ => k - (intOf i).toNat)
  case atStart => exact ⟨0, Lib.hid ⟨rfl, by omega, own0, hb0⟩⟩
  case round =>
    obtain ⟨i, hrel⟩ := hrel
    obtain ⟨rfl, hi, hown, hb⟩ := hrel.out
    clear hrel
    have hbs := hb.size
    obtain ⟨Ao, co, rfl, -, -, -⟩ := (Own.new hown).cells
    have hX := hx.below hb hhi
    by_cases hik : i < k
    · have him : (i : Int) * v ≤ 1984 ∧ 0 ≤ (i : Int) * v := mul_le_1984 (by omega) hv
      obtain ⟨him1, him0⟩ := him
      go_wp2_with fail
      go_loop [10, 11] (fun n t => ∃ j : Nat, Hid (t = .int .i64 j ∧ n = .int .i64 (natOf (fun t => bitL b (i * v + t)) j : Nat) ∧ j ≤ v)) (fun _ t => v - (intOf t).toNat)
      case atStart => exact ⟨0, Lib.hid ⟨rfl, rfl, by omega⟩⟩
      case round =>
        obtain ⟨j, hrel⟩ := hrel
        obtain ⟨rfl, rfl, hj⟩ := hrel.out
        clear hrel
        by_cases hjv : j < v
        · have hT := q_impl_BitAt b _ ((i : Int) * v + j) _ hX (by omega)
          rw [show (i : Int) * v + j = ((i * v + j : Nat) : Int) by simp, bitAt_nat] at hT
          rw [show ((i * v + j : Nat) : Int) = (i : Int) * v + j by simp] at hT
          have HS := Lib.hid (natOf_step (fun t => bitL b (i * v + t)) j)
          have hnl := natOf_lt (fun t => bitL b (i * v + t)) j
          generalize natOf (fun t => bitL b (i * v + t)) j = a at HS hnl ⊢
          obtain ⟨be, hbe⟩ : ∃ be : Nat, (if bitL b (i * v + j) then 1 else 0) = be := ⟨_, rfl⟩
          have hbe1 : be ≤ 1 := by rw [← hbe]; split <;> omega
          simp only [hbe] at HS hT
          have HT := Lib.hid hT
          have Hnl := Lib.hid hnl
          clear hT hbe hnl
          go_wp2_with fail
          refine HT.out.mono ?_
          rintro e w1 ⟨rfl, rfl⟩
          go_upto_region 10 with fail
          rw [or_bit Hnl.out (by omega) hbe1]
          have HS2 := Lib.hid (show natOf (fun t => bitL b (i * v + t)) (j + 1) = be * 2 ^ j + a from HS.out)
          clear HS
          generalize be * 2 ^ j + a = a2 at HS2 ⊢
          go_wp2_with fail
          go_round
          case rel => exact ⟨j + 1, Lib.hid ⟨by go_num, by rw [HS2.out], by omega⟩⟩
          case measure => simp [intOf]; omega
        · obtain rfl : j = v := by omega
          have HA := Lib.hid (show ((natOf (fun t => bitL b (i * j + t)) j : Nat) : Int) = numAt b j i from rfl)
          rw [HA.out]
          go_wp2_with (at_builtin; refine wpl_app rfl _ _ 24 rfl w.heap.size 3 j0 _ 1 8 Try.underlying24 jif.out jz0.out jz1.out jz2.out rfl (by decide) (by decide) (hown.alloc _) rfl (heap_alloc_new _ _) rfl rfl (by simp [Value.oneCell']) (by omega) (by simp; omega) ?_)
          intro v' w3 hown' hgrow hnb
          have hb3 := Below.grown (hb.alloc hb.size _) hgrow (fun g hg => (hown.lt g hg).1) (Nat.le_refl _)
          have HO := Lib.hid (show w3.ownsRow w.heap.size 3 1 v' (i + 1) ((numsAt b j (i + 1)).map (.int .i64)) by rw [numsAt_succ, List.map_append]; exact hown')
          clear hown' hgrow hnb hown hX
          go_wp2_with fail
          go_roundw
          case rel => exact ⟨i + 1, Lib.hid ⟨by go_num, by omega, HO.out, hb3⟩⟩
          case measure => simp [intOf]; omega
    · obtain rfl : i = k := by omega
      have Hown := Lib.hid hown
      clear hown
      go_wp2_with fail
      go_loop [12] (fun n => ∃ j : Nat, Hid (n = .int .i64 j ∧ i * v ≤ j ∧ j ≤ 8 * b.length ∧ ∀ t, i * v ≤ t → t < j → bitL b t = false)) (fun n => 8 * b.length - (intOf n).toNat)
      case atStart => exact ⟨i * v, Lib.hid ⟨by simp, by omega, Hlen.out, fun t h1 h2 => by omega⟩⟩
      case round =>
        obtain ⟨j, hrel⟩ := hrel
        obtain ⟨rfl, hj0, hj, hz⟩ := hrel.out
        have Hz := Lib.hid hz
        have Hj0 := Lib.hid hj0
        clear hrel hz hj0
        by_cases hjl : j < 8 * b.length
        · have hT := q_impl_BitAt b _ (j : Int) _ hX (by omega)
          rw [bitAt_nat] at hT
          cases hg : bitL b j
          · simp only [hg] at hT
            have HT := Lib.hid hT
            have Hz2 := Lib.hid (show ∀ t, i * v ≤ t → t < j + 1 → bitL b t = false from fun t h1 h2 => by
              rcases Nat.lt_succ_iff_lt_or_eq.1 h2 with h | h
              · exact Hz.out t h1 h
              · rw [h]; exact hg)
            clear hT hg
            go_wp2_with fail
            refine HT.out.mono ?_
            rintro e w1 ⟨rfl, rfl⟩
            go_wp2_with fail
            go_round
            case rel => exact ⟨j + 1, Lib.hid ⟨by go_num, by have := Hj0.out; omega, by omega, Hz2.out⟩⟩
            case measure => simp [intOf]; omega
          · simp only [hg] at hT
            have HT := Lib.hid hT
            have HG := Lib.hid (HN.out (clearB_not Hj0.out hjl hg))
            clear hT hg
            go_wp2_with fail
            refine HT.out.mono ?_
            rintro e w1 ⟨rfl, rfl⟩
            go_wp2_with fail
            refine bodyPost_ret (v := .tuple #[.slice none 0 0, .bool false]) (by simp [results, Try.results18, go_sem]) rfl ⟨_, by rw [HG.out]; rfl, ?_, hb⟩
            rw [HG.out]
            exact own_ints_none _ _ _ _
        · obtain rfl : j = 8 * b.length := by omega
          have HG := Lib.hid (HY.out (clearB_of fun t h1 h2 => Hz.out t h1 h2))
          go_wp2_with fail
          refine bodyPost_ret (v := .tuple #[.slice Ao i co, .bool true]) (by simp [results, Try.results18, go_sem]) rfl ⟨_, by rw [HG.out]; rfl, ?_, hb⟩
          rw [HG.out]
          show Own _ 1 _ _ _ _ (numsAt b v i).length _
          rw [numsAt_len]
          exact .new Hown.out
end Go.Proofs.Ytnldneogjdljkaa
