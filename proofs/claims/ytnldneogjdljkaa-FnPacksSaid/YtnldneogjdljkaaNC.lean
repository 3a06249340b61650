/- Varints written: contracts. -/
import Derived.Test.YtnldneogjdljkaaNB
namespace Go.Proofs.Ytnldneogjdljkaa
open Go.Sort Go.ChangeShapes Go.WideShapes Go.ChangeAt Go.RowKit Go.Lb

set_option maxHeartbeats 1000000 in
theorem impl_cloneBytes (l : List UInt8) (x : Value) (w : World) {lo hi : Nat} (hx : RdB w lo hi x l) (hhi : hi ≤ w.heap.size) (hn : l.length ≤ 1099511627776) :
    Calls Try.prog 76 #[x] w fun e w' => ∃ v, e = .returned v ∧ Own 5 1 w' w.heap.size w'.heap.size v l.length (bc l) ∧ Below w.heap.size w w' := by
  obtain ⟨A, c, rfl, hl, hl2⟩ := hx.form
  obtain ⟨i0, hif, hz0, hz1, hz2⟩ := info_parts info_u8
  replace hif := Lib.hid hif
  replace hz0 := Lib.hid hz0
  replace hz1 := Lib.hid hz1
  replace hz2 := Lib.hid hz2
  have hN := Lib.hid ((hx.below (up_a1 w (.cells #[] 5)) hhi).spread)
  have own0 := World.ownsRow_made w (base := w.heap.size) (e := 5) (size := 1) #[] 0 (Nat.le_refl _) (by decide) rfl
  go_enter Try.func76, Try.ntmps76
  go_wp2_with (at_builtin; refine wpl_spread rfl _ _ 22 rfl w.heap.size 5 i0 _ 1 1 Try.underlying22 hif.out hz0.out hz1.out hz2.out rfl (by decide) (by decide) own0 rfl rfl (bc_len l) hN.out.2.1 hN.out.2.2 (bc_one l) (by omega) (by simp) ?_)
  intro v' w1 hown hgrow _
  have hb := below_app ((Below.refl w.heap.size w).alloc (Nat.le_refl _) _) own0 hgrow (Nat.le_refl _)
  try simp only [Nat.zero_add, List.nil_append] at hown
  clear hgrow own0
  go_wp2_with fail
  go_ret
  exact ⟨_, rfl, .new hown, hb⟩
set_option maxHeartbeats 4000000 in
set_option maxRecDepth 20000 in
theorem spec_PutNum (l : List UInt8) (x : Value) (n : Int) (w : World) {lo hi : Nat} (hx : RdB w lo hi x l) (hhi : hi ≤ w.heap.size) (hn : l.length ≤ 1000000000000) :
    Calls Try.prog 79 #[x, .int .i64 n] w fun e w' => ∃ v, e = .returned v ∧ Own 5 1 w' w.heap.size w'.heap.size v (l ++ numB n).length (bc (l ++ numB n)) ∧ Below w.heap.size w w' := by
  obtain ⟨A, c, rfl, hl, hl2⟩ := hx.form
  obtain ⟨i0, hif, hz0, hz1, hz2⟩ := info_parts info_u8
  replace hif := Lib.hid hif
  replace hz0 := Lib.hid hz0
  replace hz1 := Lib.hid hz1
  replace hz2 := Lib.hid hz2
  have hN := Lib.hid ((hx.below (up_a1 w (.cells #[] 5)) hhi).spread)
  have own0 := World.ownsRow_made w (base := w.heap.size) (e := 5) (size := 1) #[] 0 (Nat.le_refl _) (by decide) rfl
  go_enter Try.func79, Try.ntmps79
  go_wp2_with (at_builtin; refine wpl_spread rfl _ _ 22 rfl w.heap.size 5 i0 _ 1 1 Try.underlying22 hif.out hz0.out hz1.out hz2.out rfl (by decide) (by decide) own0 rfl rfl (bc_len l) hN.out.2.1 hN.out.2.2 (bc_one l) (by omega) (by simp) ?_)
  intro v' w1 hown hgrow _
  have hb := below_app ((Below.refl w.heap.size w).alloc (Nat.le_refl _) _) own0 hgrow (Nat.le_refl _)
  try simp only [Nat.zero_add, List.nil_append] at hown
  clear hgrow own0
  have hQ := fun W => q_spec_l1Right n W
  have hZ := fun W => q_spec_ZigZag n W
  cases h : isNum n
  · simp only [h] at hQ
    have H := Lib.hid (show l ++ numB n = l by rw [numB_no h, List.append_nil])
    clear h hZ
    replace hQ := Lib.hid hQ
    go_wp2_with fail
    refine (hQ.out _).mono ?_
    rintro e w2 ⟨rfl, rfl⟩
    go_wp2_with fail
    go_ret
    exact ⟨_, rfl, by rw [H.out]; exact .new hown, hb⟩
  · simp only [h] at hQ
    have hz := zig_in h
    simp only [zigzag_yes h] at hZ
    obtain ⟨z, hzz⟩ := Int.eq_ofNat_of_zero_le hz.1
    rw [hzz] at hZ hz
    have H := Lib.hid (show numB n = vb z by rw [numB_yes h, hzz, Int.toNat_natCast])
    have Hlen := numB_len n
    clear h hzz
    replace hQ := Lib.hid hQ
    replace hZ := Lib.hid hZ
    go_wp2_with fail
    refine (hQ.out _).mono ?_
    rintro e w2 ⟨rfl, rfl⟩
    go_wp2_with fail
    refine (hZ.out _).mono ?_
    rintro e w2 ⟨rfl, rfl⟩
    go_wp2_with fail
    go_loopw [5, 6] (fun o x wr => ∃ (acc : List UInt8) (k : Nat), Hid (x = .int .i64 k ∧ k ≤ 2000000000 ∧ acc ++ vb k = l ++ numB n ∧ wr.ownsRow w.heap.size 5 1 o acc.length (bc acc) ∧ Below w.heap.size w wr)) (fun _ x _ => (intOf x).toNat)
    case atStart => exact ⟨l, z, Lib.hid ⟨rfl, by omega, by rw [H.out], hown, hb⟩⟩
    case round =>
      obtain ⟨acc, k, hrel⟩ := hrel
      obtain ⟨rfl, hk, heq, hown, hb⟩ := hrel.out
      have hlen := congrArg List.length heq
      simp only [List.length_append] at hlen
      have Heq := Lib.hid heq
      clear heq hrel
      have hbs := hb.size
      obtain ⟨Av, cv, rfl, -, -, -⟩ := (Own.new hown).cells
      by_cases hkb : 128 ≤ k
      · have He := Lib.hid (show (acc ++ [UInt8.ofNat (k % 128 + 128)]) ++ vb (k / 128) = l ++ numB n by rw [← Heq.out, vb_big hkb]; simp)
        go_wp2_with (at_builtin; refine wpl_app rfl _ _ 22 rfl w.heap.size 5 i0 _ 1 1 Try.underlying22 hif.out hz0.out hz1.out hz2.out rfl (by decide) (by decide) (hown.alloc _) rfl (heap_alloc_new _ _) rfl rfl (by simp [Value.oneCell']) (by omega) (by simp; omega) ?_)
        intro v' w3 hown' hgrow hnb
        have hb3 := Below.grown (hb.alloc hb.size _) hgrow (fun g hg => (hown.lt g hg).1) (Nat.le_refl _)
        have HO := Lib.hid (show w3.ownsRow w.heap.size 5 1 v' (acc ++ [UInt8.ofNat (k % 128 + 128)]).length (bc (acc ++ [UInt8.ofNat (k % 128 + 128)])) by
          have v1 : (128 : Int) + (k : Int) % 128 = ((UInt8.ofNat (k % 128 + 128)).toNat : Int) := by rw [byte_of_nat (by omega)]; omega
          have v2 : (k : Int) % 128 + 128 = ((UInt8.ofNat (k % 128 + 128)).toNat : Int) := by rw [byte_of_nat (by omega)]; omega
          rw [bc_app, List.length_append]
          first
            | (rw [v1] at hown'; exact hown')
            | (rw [v2] at hown'; exact hown'))
        clear hown' hgrow hnb hown
        go_wp2_with fail
        go_roundw
        case rel => exact ⟨acc ++ [UInt8.ofNat (k % 128 + 128)], k / 128, Lib.hid ⟨by simp, by omega, He.out, HO.out, hb3⟩⟩
        case measure => simp [intOf]; omega
      · have He := Lib.hid (show acc ++ [UInt8.ofNat k] = l ++ numB n by rw [← Heq.out, vb_small (by omega)])
        go_wp2_with (at_builtin; refine wpl_app rfl _ _ 22 rfl w.heap.size 5 i0 _ 1 1 Try.underlying22 hif.out hz0.out hz1.out hz2.out rfl (by decide) (by decide) (hown.alloc _) rfl (heap_alloc_new _ _) rfl rfl (by simp [Value.oneCell']) (by omega) (by simp; omega) ?_)
        intro v' w3 hown' hgrow hnb
        have hb3 := Below.grown (hb.alloc hb.size _) hgrow (fun g hg => (hown.lt g hg).1) (Nat.le_refl _)
        have HO := Lib.hid (show w3.ownsRow w.heap.size 5 1 v' (acc ++ [UInt8.ofNat k]).length (bc (acc ++ [UInt8.ofNat k])) by
          rw [bc_app, List.length_append]
          simpa [bc, byte_of_nat (show k < 256 by omega), IntKind.wrap_u8] using hown')
        clear hown' hgrow hnb hown
        go_wp2_with fail
        go_ret
        exact ⟨_, rfl, by rw [← He.out]; exact .new HO.out, hb3⟩
set_option maxHeartbeats 4000000 in
set_option maxRecDepth 20000 in
theorem impl_PutNum (l : List UInt8) (x : Value) (n : Int) (w : World) {lo hi : Nat} (hx : RdB w lo hi x l) (hhi : hi ≤ w.heap.size) (hn : l.length ≤ 1000000000000) :
    Calls Try.prog 78 #[x, .int .i64 n] w fun e w' => ∃ v, e = .returned v ∧ Own 5 1 w' w.heap.size w'.heap.size v (l ++ numB n).length (bc (l ++ numB n)) ∧ Below w.heap.size w w' := by
  obtain ⟨A, c, rfl, hl, hl2⟩ := hx.form
  obtain ⟨i0, hif, hz0, hz1, hz2⟩ := info_parts info_u8
  replace hif := Lib.hid hif
  replace hz0 := Lib.hid hz0
  replace hz1 := Lib.hid hz1
  replace hz2 := Lib.hid hz2
  have hN := Lib.hid ((hx.below (up_a1 w (.cells #[] 5)) hhi).spread)
  have own0 := World.ownsRow_made w (base := w.heap.size) (e := 5) (size := 1) #[] 0 (Nat.le_refl _) (by decide) rfl
  go_enter Try.func78, Try.ntmps78
  have hC := impl_cloneBytes l (.slice A l.length c) w hx hhi (by omega)
  clear own0 hN
  go_wp2_with fail
  refine hC.mono ?_
  clear hC
  rintro e w1 ⟨v', rfl, hown', hb⟩
  have hown := hown'.1
  clear hown' 
  have hQ := fun W => q_impl_isNum n W
  have hZ := fun W => q_impl_ZigZag n W
  cases h : isNum n
  · simp only [h] at hQ
    have H := Lib.hid (show l ++ numB n = l by rw [numB_no h, List.append_nil])
    clear h hZ
    replace hQ := Lib.hid hQ
    go_wp2_with fail
    refine (hQ.out _).mono ?_
    rintro e w2 ⟨rfl, rfl⟩
    go_wp2_with fail
    go_ret
    exact ⟨_, rfl, by rw [H.out]; exact .new hown, hb⟩
  · simp only [h] at hQ
    have hz := zig_in h
    simp only [zigzag_yes h] at hZ
    obtain ⟨z, hzz⟩ := Int.eq_ofNat_of_zero_le hz.1
    rw [hzz] at hZ hz
    have H := Lib.hid (show numB n = vb z by rw [numB_yes h, hzz, Int.toNat_natCast])
    have Hlen := numB_len n
    clear h hzz
    replace hQ := Lib.hid hQ
    replace hZ := Lib.hid hZ
    go_wp2_with fail
    refine (hQ.out _).mono ?_
    rintro e w2 ⟨rfl, rfl⟩
    go_wp2_with fail
    refine (hZ.out _).mono ?_
    rintro e w2 ⟨rfl, rfl⟩
    go_wp2_with fail
    go_loopw [5, 6] (fun o x wr => ∃ (acc : List UInt8) (k : Nat), Hid (x = .int .i64 k ∧ k ≤ 2000000000 ∧ acc ++ vb k = l ++ numB n ∧ wr.ownsRow w.heap.size 5 1 o acc.length (bc acc) ∧ Below w.heap.size w wr)) (fun _ x _ => (intOf x).toNat)
    case atStart => exact ⟨l, z, Lib.hid ⟨rfl, by omega, by rw [H.out], hown, hb⟩⟩
    case round =>
      obtain ⟨acc, k, hrel⟩ := hrel
      obtain ⟨rfl, hk, heq, hown, hb⟩ := hrel.out
      have hlen := congrArg List.length heq
      simp only [List.length_append] at hlen
      have Heq := Lib.hid heq
      clear heq hrel
      have hbs := hb.size
      obtain ⟨Av, cv, rfl, -, -, -⟩ := (Own.new hown).cells
      by_cases hkb : 128 ≤ k
      · have He := Lib.hid (show (acc ++ [UInt8.ofNat (k % 128 + 128)]) ++ vb (k / 128) = l ++ numB n by rw [← Heq.out, vb_big hkb]; simp)
        go_wp2_with (at_builtin; refine wpl_app rfl _ _ 22 rfl w.heap.size 5 i0 _ 1 1 Try.underlying22 hif.out hz0.out hz1.out hz2.out rfl (by decide) (by decide) (hown.alloc _) rfl (heap_alloc_new _ _) rfl rfl (by simp [Value.oneCell']) (by omega) (by simp; omega) ?_)
        intro v' w3 hown' hgrow hnb
        have hb3 := Below.grown (hb.alloc hb.size _) hgrow (fun g hg => (hown.lt g hg).1) (Nat.le_refl _)
        have HO := Lib.hid (show w3.ownsRow w.heap.size 5 1 v' (acc ++ [UInt8.ofNat (k % 128 + 128)]).length (bc (acc ++ [UInt8.ofNat (k % 128 + 128)])) by
          have v1 : (128 : Int) + (k : Int) % 128 = ((UInt8.ofNat (k % 128 + 128)).toNat : Int) := by rw [byte_of_nat (by omega)]; omega
          have v2 : (k : Int) % 128 + 128 = ((UInt8.ofNat (k % 128 + 128)).toNat : Int) := by rw [byte_of_nat (by omega)]; omega
          rw [bc_app, List.length_append]
          first
            | (rw [v1] at hown'; exact hown')
            | (rw [v2] at hown'; exact hown'))
        clear hown' hgrow hnb hown
        go_wp2_with fail
        go_roundw
        case rel => exact ⟨acc ++ [UInt8.ofNat (k % 128 + 128)], k / 128, Lib.hid ⟨by simp, by omega, He.out, HO.out, hb3⟩⟩
        case measure => simp [intOf]; omega
      · have He := Lib.hid (show acc ++ [UInt8.ofNat k] = l ++ numB n by rw [← Heq.out, vb_small (by omega)])
        go_wp2_with (at_builtin; refine wpl_app rfl _ _ 22 rfl w.heap.size 5 i0 _ 1 1 Try.underlying22 hif.out hz0.out hz1.out hz2.out rfl (by decide) (by decide) (hown.alloc _) rfl (heap_alloc_new _ _) rfl rfl (by simp [Value.oneCell']) (by omega) (by simp; omega) ?_)
        intro v' w3 hown' hgrow hnb
        have hb3 := Below.grown (hb.alloc hb.size _) hgrow (fun g hg => (hown.lt g hg).1) (Nat.le_refl _)
        have HO := Lib.hid (show w3.ownsRow w.heap.size 5 1 v' (acc ++ [UInt8.ofNat k]).length (bc (acc ++ [UInt8.ofNat k])) by
          rw [bc_app, List.length_append]
          simpa [bc, byte_of_nat (show k < 256 by omega), IntKind.wrap_u8] using hown')
        clear hown' hgrow hnb hown
        go_wp2_with fail
        go_ret
        exact ⟨_, rfl, by rw [← He.out]; exact .new HO.out, hb3⟩
end Go.Proofs.Ytnldneogjdljkaa
