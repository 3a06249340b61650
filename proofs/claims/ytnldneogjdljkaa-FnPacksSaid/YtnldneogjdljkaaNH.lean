/- Packed bits: contracts. -/
import Derived.Test.YtnldneogjdljkaaNF
import Derived.Test.YtnldneogjdljkaaNE
import Derived.Test.YtnldneogjdljkaaRT
namespace Go.Lb
open Go.RowKit
theorem owns_form1 {w : World} {base e N : Nat} {v : Value} {xs : List Value} (h : w.ownsRow base e 1 v N xs) (hN : 0 < N) : ∃ g cap, v = .slice (some ⟨g, 0, none⟩) N cap ∧ base ≤ g ∧ g < w.heap.size ∧ N ≤ cap ∧ cap ≤ 9223372036854775807 ∧ (∀ j u, xs[j]? = some u → w.cell? ⟨g, j, none⟩ = some u) ∧ ∀ o, w.frozen? ⟨g, o, none⟩ = false := by
  rcases h.2 with ⟨e1, e2⟩ | ⟨g, cap, cur, rfl, hb, hg, hnc, hcm, hsz, htk⟩
  · omega
  · refine ⟨g, cap, rfl, hb, (Array.getElem?_eq_some_iff.1 hg).1, hnc, by unfold maxLen at hcm; omega, fun j u hj => ?_, fun o => frozen_of_row w g o cur _ hg⟩
    have hl := (List.getElem?_eq_some_iff.1 hj).1
    rw [cell_of_row w g _ cur _ _ hg, ← Array.getElem?_toList]
    rw [← htk, List.getElem?_take] at hj
    split at hj
    · exact hj
    · cases hj
theorem owns_put1 {w : World} {base e g N c idx : Nat} {xs : List Value} {u : Value} (h : w.ownsRow base e 1 (.slice (some ⟨g, 0, none⟩) N c) N xs) : (w.setCell ⟨g, idx, none⟩ u).ownsRow base e 1 (.slice (some ⟨g, 0, none⟩) N c) N (xs.set idx u) := by
  refine ⟨by rw [List.length_set]; exact h.1, ?_⟩
  rcases h.2 with ⟨e1, e2⟩ | ⟨g', cap, cur, e1, hb, hg, hnc, hcm, hsz, htk⟩
  · cases e1
  · injection e1 with e1 e2 e3
    injection e1 with e1
    injection e1 with e1
    subst e1 e3
    refine .inr ⟨g, c, _, rfl, hb, set1 hg, hnc, hcm, by simpa using hsz, ?_⟩
    simp only [Array.toList_setIfInBounds]
    rw [List.take_set, htk]
theorem bc_set (l : List UInt8) (i : Nat) (c : UInt8) : (bc l).set i (.int .u8 (c.toNat : Int)) = bc (l.set i c) := by simp [bc, List.map_set]
theorem bc_get {l : List UInt8} {i : Nat} {c : UInt8} (h : l[i]? = some c) : (bc l)[i]? = some (.int .u8 (c.toNat : Int)) := by simp [bc, h]
theorem bitsOf_at {q : List Int} {v i t x : Nat} (h : q[i]? = some (x : Int)) (ht : t < v) : bitsOf q v (i * v + t) = x.testBit t := by
  have hd : (i * v + t) / v = i := by rw [Nat.mul_comm, Nat.mul_add_div (by omega), Nat.div_eq_of_lt ht]; rfl
  have hr : (i * v + t) % v = t := by rw [Nat.mul_comm, Nat.mul_add_mod, Nat.mod_eq_of_lt ht]
  rw [bitsOf, hd, hr, List.getD_eq_getElem?_getD, h]
  rfl
theorem bit_of (x t : Nat) (hx : x ≤ 2147483647) : bits .and .i64 ((x : Int) / 2 ^ t) 1 = ((x.testBit t).toNat : Int) := by
  have hlt : x / 2 ^ t ≤ 2147483647 := Nat.le_trans (Nat.div_le_self _ _) hx
  rw [show (x : Int) / 2 ^ t = ((x / 2 ^ t : Nat) : Int) by simp, Nat.testBit_eq_decide_div_mod_eq]
  generalize x / 2 ^ t = y at hlt ⊢
  refine (bits_mask .i64 62 (by decide) (fun n h0 h1 => by rw [IntKind.wrap_i64]; omega) 1 (by decide) (y : Int) (by omega) (by omega)).trans ?_
  rw [show (y : Int) % 2 ^ 1 = ((y % 2 : Nat) : Int) by simp]
  rcases Nat.mod_two_eq_zero_or_one y with h1 | h1 <;> rw [h1] <;> rfl
theorem p7_le {t : Nat} (h : t < 8) : 2 ^ t ≤ 128 := Nat.pow_le_pow_right (by decide) (show t ≤ 7 by omega)
theorem wrap_pow {m : Nat} (h : m < 8) : IntKind.u8.wrap (2 ^ m) = ((2 ^ m : Nat) : Int) := by
  have h1 := p7_le h
  rw [show (2 : Int) ^ m = ((2 ^ m : Nat) : Int) by simp]
  generalize 2 ^ m = y at *
  exact wraps_u8 _ (by omega) (by omega)
theorem wrap_mul {be m : Nat} (h : be * 2 ^ m ≤ 128) : IntKind.u8.wrap (IntKind.i64.wrap ((be : Int) * 2 ^ m)) = ((be * 2 ^ m : Nat) : Int) := by
  rw [show (be : Int) * 2 ^ m = ((be * 2 ^ m : Nat) : Int) by simp]
  generalize be * 2 ^ m = y at *
  rw [show IntKind.i64.wrap (y : Int) = (y : Int) by rw [IntKind.wrap_i64]; omega]
  exact wraps_u8 _ (by omega) (by omega)
theorem or_u8 (old : UInt8) {y : Nat} (hy : y ≤ 128) : bits .or .u8 (old.toNat : Int) (y : Int) = ((UInt8.ofNat (old.toNat ||| y)).toNat : Int) := by
  have ho := old.toNat_lt
  rw [byte_of_nat (Nat.or_lt_two_pow (n := 8) ho (by omega))]
  exact (bits_nat .u8 8 (by decide) wraps_u8 old.toNat y ho (by omega)).2
theorem or_old (old : UInt8) {y : Nat} (hy : y ≤ 128) : (UInt8.ofNat (old.toNat ||| y)).toNat = old.toNat ||| y := byte_of_nat (Nat.or_lt_two_pow (n := 8) old.toNat_lt (by omega))
theorem pack_next (N : Nat) : (N + 1 + 7) / 8 = N / 8 + 1 := by omega
theorem owns_full (w : World) (base e N : Nat) (cur : Array Value) (hb : base ≤ w.heap.size) (hm : N ≤ maxLen) (hs : cur.size = N * 1) : (w.alloc (.cells cur e)).ownsRow base e 1 (.slice (some ⟨w.heap.size, 0, none⟩) N N) N cur.toList :=
  ⟨by rw [Array.length_toList]; exact hs, .inr ⟨w.heap.size, N, cur, rfl, hb, heap_alloc_new w _, Nat.le_refl _, hm, hs, by rw [← hs, List.take_of_length_le (by simp)]⟩⟩
theorem made_pack (f : Nat → Bool) (M : Nat) : (madeCells #[Value.int .u8 0] M).toList = bc (packM f M 0) := by
  rw [toList_madeCells_one, packM_zero, bc, List.map_replicate]
  rfl
theorem packB_yes {l : List Int} {v : Nat} (h : packOk l v = true) : packB l v = packM (bitsOf l v) ((l.length * v + 7) / 8) (l.length * v) := by rw [packB, if_pos h, Int.toNat_natCast]
theorem packB_no {l : List Int} {v : Int} (h : packOk l v = false) : packB l v = [] := by rw [packB, if_neg (by simp [h])]
theorem bc_packM_len (f : Nat → Bool) (m n : Nat) : (packM f m n).length = m := packM_len f m n
end Go.Lb
namespace Go.Proofs.Ytnldneogjdljkaa
open Go.Sort Go.ChangeShapes Go.WideShapes Go.ChangeAt Go.RowKit Go.Lb
set_option maxHeartbeats 4000000 in
set_option maxRecDepth 20000 in
theorem spec_PackBits (q : List Int) (x : Value) (v : Int) (w : World) {lo hi : Nat} (hx : RdI w lo hi x q) (hhi : hi ≤ w.heap.size) (hq : q.length ≤ 1000000) :
    Calls Try.prog 14 #[x, .int .i64 v] w fun e w' => ∃ r, e = .returned r ∧ Own 5 1 w' w.heap.size w'.heap.size r (packB q v).length (bc (packB q v)) ∧ Below w.heap.size w w' := by
  obtain ⟨A, c, rfl, hl, hl2⟩ := hx.form
  obtain ⟨i0, hif, hz0, hz1, hz2⟩ := info_parts info_u8
  replace hif := Lib.hid hif
  replace hz0 := Lib.hid hz0
  replace hz1 := Lib.hid hz1
  replace hz2 := Lib.hid hz2
  have hb0 := up_a1 w (.cells #[] 5)
  have own0 := World.ownsRow_made w (base := w.heap.size) (e := 5) (size := 1) #[] 0 (Nat.le_refl _) (by decide) rfl
  have hQ := q_spec_l2Fits q _ v (w.alloc (.cells #[] 5)) (hx.below hb0 hhi)
  cases hok : packOk q v
  · rw [hok] at hQ
    have HQ := Lib.hid hQ
    have HP := Lib.hid (packB_no hok)
    clear hok hQ
    go_enter Try.func14, Try.ntmps14
    go_wp2_with fail
    refine HQ.out.mono ?_
    rintro e w1 ⟨rfl, rfl⟩
    go_wp2_with fail
    go_ret
    exact ⟨_, rfl, by rw [HP.out]; exact .new own0, hb0⟩
  rw [hok] at hQ
  have HQ := Lib.hid hQ
  clear hQ
  have hv := packOk_w hok
  obtain ⟨v, rfl⟩ := Int.eq_ofNat_of_zero_le hv.1
  have hv31 : v ≤ 31 := by omega
  have HP := Lib.hid (packB_yes hok)
  have HM := Lib.hid (fun n hn => packOk_mem (n := n) hok hn)
  clear hok hv
  go_enter Try.func14, Try.ntmps14
  go_wp2_with fail
  refine HQ.out.mono ?_
  rintro e w1 ⟨rfl, rfl⟩
  go_wp2_with fail
  go_loopw [5, 6, 7] (fun o n i wr => ∃ j N : Nat, Hid (i = .int .i64 j ∧ n = .int .i64 N ∧ N = j * v ∧ j ≤ q.length ∧ wr.ownsRow w.heap.size 5 1 o ((N + 7) / 8) (bc (packM (bitsOf q v) ((N + 7) / 8) N)) ∧ Below w.heap.size w wr)) (fun _ _ i _ => q.length - (intOf i).toNat)
  case atStart => exact ⟨0, 0, Lib.hid ⟨rfl, rfl, by simp, by omega, own0, hb0⟩⟩
  case round =>
    obtain ⟨i, N, hrel⟩ := hrel
    obtain ⟨rfl, rfl, hN, hi, hown, hb⟩ := hrel.out
    clear hrel
    have HN := Lib.hid hN
    clear hN
    obtain ⟨Ao, co, rfl, -, -, -⟩ := (Own.new hown).cells
    have Hown := Lib.hid hown
    clear hown
    by_cases hiq : i < q.length
    · obtain ⟨b, off, x, rfl, -, -, hxi, -⟩ := hx.at hiq
      obtain ⟨⟨x0, x1⟩, -⟩ := HM.out x (mem_of_get hxi)
      obtain ⟨x, rfl⟩ := Int.eq_ofNat_of_zero_le x0
      have Hxi := Lib.hid hxi
      clear hxi
      go_wp2_with fail
      go_loopw [5, 6, 8] (fun o n k wr => ∃ t N : Nat, Hid (k = .int .i64 t ∧ n = .int .i64 N ∧ N = i * v + t ∧ t ≤ v ∧ wr.ownsRow w.heap.size 5 1 o ((N + 7) / 8) (bc (packM (bitsOf q v) ((N + 7) / 8) N)) ∧ Below w.heap.size w wr)) (fun _ _ k _ => v - (intOf k).toNat)
      case atStart => exact ⟨0, N, Lib.hid ⟨rfl, rfl, by rw [HN.out]; rfl, by omega, Hown.out, hb⟩⟩
      case round =>
        clear Hown hb HN
        obtain ⟨t, N, hrel⟩ := hrel
        obtain ⟨rfl, rfl, hN, ht, hown, hb⟩ := hrel.out
        clear hrel
        have hbs := hb.size
        by_cases htv : t < v
        · have hNb : N ≤ 31000031 := by
            have := Nat.mul_le_mul (show i ≤ 1000000 by omega) hv31
            omega
          have HF := Lib.hid (show bitsOf q v N = x.testBit t by rw [hN]; exact bitsOf_at Hxi.out htv)
          have HN := Lib.hid hN
          clear hN
          have hand := bit_of x t (by omega)
          have Hand := Lib.hid hand
          clear hand
          by_cases h8 : N % 8 = 0
          · have h8' : (N + 7) / 8 = N / 8 := by omega
            have hd : ((N : Int) % 8 == 0) = true := by simp; omega
            rw [h8'] at hown
            clear h8
            obtain ⟨Ao, co, rfl, -, -, -⟩ := (Own.new hown).cells
            go_wp2_with (at_builtin; refine wpl_app rfl _ _ 22 rfl w.heap.size 5 i0 _ 1 1 Try.underlying22 hif.out hz0.out hz1.out hz2.out rfl (by decide) (by decide) (hown.alloc _) rfl (heap_alloc_new _ _) rfl rfl (by simp [Value.oneCell']) (by omega) (by simp; omega) ?_)
            intro v' w3 hown' hgrow hnb
            have hb3 := Below.grown (hb.alloc hb.size _) hgrow (fun g hg => (hown.lt g hg).1) (Nat.le_refl _)
            have hownW : w3.ownsRow w.heap.size 5 1 v' (N / 8 + 1) (bc (packM (bitsOf q v) (N / 8 + 1) N)) := by
              rw [← packM_more (by omega), bc_app]
              exact hown'
            clear hown' hgrow hnb hown h8'
            obtain ⟨d, hd8⟩ : ∃ d, N / 8 = d := ⟨_, rfl⟩
            obtain ⟨m, hm8⟩ : ∃ m, N % 8 = m := ⟨_, rfl⟩
            have hm7 : m < 8 := by omega
            have hw8 : IntKind.i64.wrap ((N : Int) / 8) = (d : Int) := by rw [IntKind.wrap_i64]; omega
            have hw9 : (N : Int).tmod 8 = (m : Int) := by rw [Int.tmod_eq_emod_of_nonneg (by omega)]; omega
            have hdd2 : (d : Int) < (d : Int) + 1 := by omega
            have hm0 : (0 : Int) ≤ (m : Int) := by omega
            have hm9 : (m : Int) ≤ 8 := by omega
            have hNd := pack_next N
            rw [hd8] at hownW hNd
            obtain ⟨g, cap, rfl, hgl, hgh, hcap, hcap2, hcells, hfz⟩ := owns_form1 hownW (by omega)
            obtain ⟨old, hold⟩ : ∃ old, (packM (bitsOf q v) (d + 1) N)[N / 8]? = some old := ⟨_, packM_get _ (by omega)⟩
            have HND := Lib.hid hNd
            have Hd8 := Lib.hid hd8
            have Hm8 := Lib.hid hm8
            have hN8 : N < 8 * (d + 1) := by omega
            have hold2 := hold
            rw [hd8] at hold2
            clear hd8 hm8 hNd
            have c0 := hcells _ _ (bc_get hold2)
            have Hold := Lib.hid hold
            have HownW := Lib.hid hownW
            clear hcells hold hold2 hownW
            obtain ⟨b', off', x', e', -, hbh, hxk, e0⟩ := (hx.below hb3 hhi).at hiq
            injection e' with e'
            injection e' with e1 e2
            subst e1 e2
            obtain rfl : (x : Int) = x' := by have h := Hxi.out; rw [hxk] at h; injection h with h; exact h.symm
            clear hxk
            have hdd : d < d + 1 := by omega
            cases hbit : x.testBit t
            · have hand := Hand.out
              rw [hbit] at hand
              have HS := Lib.hid (packM_skip (f := bitsOf q v) (m := d + 1) (HF.out.trans hbit))
              have hand2 : bits .and .i64 ((x : Int) / 2 ^ t) 1 = 0 := hand
              clear hbit hand
              go_wp2_with fail
              go_roundw
              case rel => exact ⟨t + 1, N + 1, Lib.hid ⟨by go_num, by go_num, by rw [HN.out]; omega, by omega, by rw [HND.out, HS.out]; exact HownW.out, hb3⟩⟩
              case measure => simp [intOf]; omega
            · have hand := Hand.out
              rw [hbit] at hand
              have hand2 : bits .and .i64 ((x : Int) / 2 ^ t) 1 = 1 := hand
              have HF1 := Lib.hid (HF.out.trans hbit)
              clear hbit hand
              go_upto_region 14 with fail
              refine wp_region_T (S := fun w' => w'.cell? ⟨g, d, none⟩ = some (.int .u8 (old.toNat : Int))) (n := 13) (by kernel_rfl) ?_
              generalize hX0 : w3.drew = X0
              have HB0 : Below w3.heap.size w3 X0 := hX0 ▸ (Below.refl _ _).drew
              have s0 : w3.heap.size ≤ X0.heap.size := HB0.size
              have x0 := cell_keep c0 HB0
              clear hX0
              have F0 : X0.cell? ⟨g, d, none⟩ = some (.int .u8 (old.toNat : Int)) := x0
              refine wpAnyT_take (i := 0) (oi := _) (v := ?_) rfl (by kernel_rfl) (by kernel_rfl) (by kernel_rfl) (by kernel_rfl) (fun _ _ _ h => h) (Or.inl ⟨by rfl, ?_⟩) F0 ?_
              rotate_left
              · (intro w' hSw; (try dsimp only at hSw); go_simp) <;> with_reducible rfl
              try simp only [Act.put, List.setIfInBounds_toArray, List.set_cons_zero, List.set_cons_succ]
              refine wpAnyT_take (i := 1) (oi := _) (v := ?_) rfl (by kernel_rfl) (by kernel_rfl) (by kernel_rfl) (by kernel_rfl) (fun _ _ _ h => h) (Or.inl ⟨by rfl, ?_⟩) F0 ?_
              rotate_left
              · (intro w' hSw; (try dsimp only at hSw); go_simp) <;> with_reducible rfl
              try simp only [Act.put, List.setIfInBounds_toArray, List.set_cons_zero, List.set_cons_succ]
              refine wpAnyT_take (i := 2) (oi := _) (v := ?_) rfl (by kernel_rfl) (by kernel_rfl) (by kernel_rfl) (by kernel_rfl) (fun _ _ _ h => h) (Or.inl ⟨by rfl, ?_⟩) F0 ?_
              rotate_left
              · (intro w' hSw; (try dsimp only at hSw); go_simp) <;> with_reducible rfl
              try simp only [Act.put, List.setIfInBounds_toArray, List.set_cons_zero, List.set_cons_succ]
              refine wpAnyT_take (i := 3) (oi := _) (v := ?_) rfl (by kernel_rfl) (by kernel_rfl) (by kernel_rfl) (by kernel_rfl) (fun _ _ _ h => h) (Or.inl ⟨by rfl, ?_⟩) F0 ?_
              rotate_left
              · (intro w' hSw; (try dsimp only at hSw); go_simp) <;> with_reducible rfl
              try simp only [Act.put, List.setIfInBounds_toArray, List.set_cons_zero, List.set_cons_succ]
              refine wpAnyT_take (i := 4) (oi := _) (v := ?_) rfl (by kernel_rfl) (by kernel_rfl) (by kernel_rfl) (by kernel_rfl) (fun _ _ _ h => h) (Or.inl ⟨by rfl, ?_⟩) F0 ?_
              rotate_left
              · (intro w' hSw; (try dsimp only at hSw); go_simp) <;> with_reducible rfl
              try simp only [Act.put, List.setIfInBounds_toArray, List.set_cons_zero, List.set_cons_succ]
              refine wpAnyT_take (i := 5) (oi := _) (v := ?_) rfl (by kernel_rfl) (by kernel_rfl) (by kernel_rfl) (by kernel_rfl) (fun _ _ _ h => h) (Or.inl ⟨by rfl, ?_⟩) F0 ?_
              rotate_left
              · (intro w' hSw; (try dsimp only at hSw); go_simp) <;> with_reducible rfl
              try simp only [Act.put, List.setIfInBounds_toArray, List.set_cons_zero, List.set_cons_succ]
              refine wpAnyT_take (i := 6) (oi := _) (v := ?_) rfl (by kernel_rfl) (by kernel_rfl) (by kernel_rfl) (by kernel_rfl) (fun _ _ _ h => h) (Or.inl ⟨by rfl, ?_⟩) F0 ?_
              rotate_left
              · (intro w' hSw; (try dsimp only at hSw); go_simp) <;> with_reducible rfl
              try simp only [Act.put, List.setIfInBounds_toArray, List.set_cons_zero, List.set_cons_succ]
              refine wpAnyT_take (i := 7) (oi := _) (v := ?_) rfl (by kernel_rfl) (by kernel_rfl) (by kernel_rfl) (by kernel_rfl) (fun _ _ _ h => h) (Or.inl ⟨by rfl, ?_⟩) F0 ?_
              rotate_left
              · (intro w' hSw; (try dsimp only at hSw); go_simp) <;> with_reducible rfl
              try simp only [Act.put, List.setIfInBounds_toArray, List.set_cons_zero, List.set_cons_succ]
              refine wpAnyT_take (i := 8) (oi := _) (v := ?_) rfl (by kernel_rfl) (by kernel_rfl) (by kernel_rfl) (by kernel_rfl) (fun _ _ _ h => h) (Or.inl ⟨by rfl, ?_⟩) F0 ?_
              rotate_left
              · (intro w' hSw; (try dsimp only at hSw); go_simp) <;> with_reducible rfl
              try simp only [Act.put, List.setIfInBounds_toArray, List.set_cons_zero, List.set_cons_succ]
              refine wpAnyT_take (i := 9) (oi := _) (v := ?_) rfl (by kernel_rfl) (by kernel_rfl) (by kernel_rfl) (by kernel_rfl) (fun _ _ _ h => h) (Or.inl ⟨by rfl, ?_⟩) F0 ?_
              rotate_left
              · (intro w' hSw; (try dsimp only at hSw); go_simp) <;> with_reducible rfl
              try simp only [Act.put, List.setIfInBounds_toArray, List.set_cons_zero, List.set_cons_succ]
              refine wpAnyT_take (i := 10) (oi := _) (v := ?_) rfl (by kernel_rfl) (by kernel_rfl) (by kernel_rfl) (by kernel_rfl) (fun _ _ _ h => h) (Or.inl ⟨by rfl, ?_⟩) F0 ?_
              rotate_left
              · (intro w' hSw; (try dsimp only at hSw); go_simp) <;> with_reducible rfl
              try simp only [Act.put, List.setIfInBounds_toArray, List.set_cons_zero, List.set_cons_succ]
              refine wpAnyT_take (i := 11) (oi := _) (v := ?_) rfl (by kernel_rfl) (by kernel_rfl) (by kernel_rfl) (by kernel_rfl) (fun _ _ _ h => h) (Or.inl ⟨by rfl, ?_⟩) F0 ?_
              rotate_left
              · (intro w' hSw; (try dsimp only at hSw); go_simp) <;> with_reducible rfl
              try simp only [Act.put, List.setIfInBounds_toArray, List.set_cons_zero, List.set_cons_succ]
              have hp8 := p7_le hm7
              obtain ⟨cc, hcc⟩ : ∃ cc, UInt8.ofNat (old.toNat ||| 2 ^ m) = cc := ⟨_, rfl⟩
              have EX : bits .or .u8 (old.toNat : Int) (IntKind.u8.wrap (2 ^ m)) = (cc.toNat : Int) := by
                rw [wrap_pow hm7, ← hcc]
                exact or_u8 old hp8
              rw [EX]
              have HS := Lib.hid (show packM (bitsOf q v) (d + 1) (N + 1) = (packM (bitsOf q v) (d + 1) N).set d cc by
                have h := packM_set (c := cc) hN8 Hold.out (by rw [HF1.out, if_pos rfl, Hm8.out, ← hcc]; exact or_old old hp8)
                rwa [Hd8.out] at h)
              clear hcc EX hp8
              have pf : ∀ o, X0.frozen? ⟨g, o, none⟩ = false := fun o => ((bcell HB0).2 g o hgh).trans (hfz o)
              have HO := Lib.hid (show (X0.setCell ⟨g, d, none⟩ (.int .u8 (cc.toNat : Int))).ownsRow w.heap.size 5 1 (.slice (some ⟨g, 0, none⟩) (d + 1) cap) ((N + 1 + 7) / 8) (bc (packM (bitsOf q v) ((N + 1 + 7) / 8) (N + 1))) by
                rw [HND.out, HS.out, ← bc_set]
                exact owns_put1 (owns_below HownW.out HB0))
              have hbF := Below.setCell (p := ⟨g, d, none⟩) (hb3.trans (HB0.mono hb3.size)) hgl (.int .u8 (cc.toNat : Int))
              refine wpAnyT_one (k := 12) (o := _) (by kernel_rfl) rfl rfl ?_
              intro K hK
              go_simp
              refine hK.out _ _ (fun _ => x0) ?_
              clear hK
              try simp only [Act.put, List.setIfInBounds_toArray, List.set_cons_zero, List.set_cons_succ]
              refine wpAnyT_one (k := 13) (o := _) (by kernel_rfl) rfl rfl ?_
              intro K hK
              go_simp
              refine hK.out _ _ (fun h => absurd rfl h) ?_
              clear hK
              refine wpAnyT_done (by kernel_rfl) ?_ _
              go_wp2_with fail
              go_roundw
              case rel => exact ⟨t + 1, N + 1, Lib.hid ⟨by go_num, by go_num, by rw [HN.out]; omega, by omega, HO.out, hbF⟩⟩
              case measure => simp [intOf]; omega
          · have h8' : (N + 7) / 8 = N / 8 + 1 := by omega
            have hd : ((N : Int) % 8 == 0) = false := by simp; omega
            rw [h8'] at hown
            have hownW := hown
            clear hown h8'
            obtain ⟨d, hd8⟩ : ∃ d, N / 8 = d := ⟨_, rfl⟩
            obtain ⟨m, hm8⟩ : ∃ m, N % 8 = m := ⟨_, rfl⟩
            have hm7 : m < 8 := by omega
            have hw8 : IntKind.i64.wrap ((N : Int) / 8) = (d : Int) := by rw [IntKind.wrap_i64]; omega
            have hw9 : (N : Int).tmod 8 = (m : Int) := by rw [Int.tmod_eq_emod_of_nonneg (by omega)]; omega
            have hdd2 : (d : Int) < (d : Int) + 1 := by omega
            have hm0 : (0 : Int) ≤ (m : Int) := by omega
            have hm9 : (m : Int) ≤ 8 := by omega
            have hNd := pack_next N
            rw [hd8] at hownW hNd
            obtain ⟨g, cap, rfl, hgl, hgh, hcap, hcap2, hcells, hfz⟩ := owns_form1 hownW (by omega)
            obtain ⟨old, hold⟩ : ∃ old, (packM (bitsOf q v) (d + 1) N)[N / 8]? = some old := ⟨_, packM_get _ (by omega)⟩
            have HND := Lib.hid hNd
            have Hd8 := Lib.hid hd8
            have Hm8 := Lib.hid hm8
            have hN8 : N < 8 * (d + 1) := by omega
            have hold2 := hold
            rw [hd8] at hold2
            have hdm : ((m : Int) == 0) = false := by simp; omega
            clear h8 hd
            clear hd8 hm8 hNd
            have c0 := hcells _ _ (bc_get hold2)
            have Hold := Lib.hid hold
            have HownW := Lib.hid hownW
            clear hcells hold hold2 hownW
            obtain ⟨b', off', x', e', -, hbh, hxk, e0⟩ := (hx.below hb hhi).at hiq
            injection e' with e'
            injection e' with e1 e2
            subst e1 e2
            obtain rfl : (x : Int) = x' := by have h := Hxi.out; rw [hxk] at h; injection h with h; exact h.symm
            clear hxk
            have hdd : d < d + 1 := by omega
            cases hbit : x.testBit t
            · have hand := Hand.out
              rw [hbit] at hand
              have HS := Lib.hid (packM_skip (f := bitsOf q v) (m := d + 1) (HF.out.trans hbit))
              have hand2 : bits .and .i64 ((x : Int) / 2 ^ t) 1 = 0 := hand
              clear hbit hand
              go_wp2_with fail
              go_roundw
              case rel => exact ⟨t + 1, N + 1, Lib.hid ⟨by go_num, by go_num, by rw [HN.out]; omega, by omega, by rw [HND.out, HS.out]; exact HownW.out, hb⟩⟩
              case measure => simp [intOf]; omega
            · have hand := Hand.out
              rw [hbit] at hand
              have hand2 : bits .and .i64 ((x : Int) / 2 ^ t) 1 = 1 := hand
              have HF1 := Lib.hid (HF.out.trans hbit)
              clear hbit hand
              go_upto_region 14 with fail
              refine wp_region_T (S := fun w' => w'.cell? ⟨g, d, none⟩ = some (.int .u8 (old.toNat : Int))) (n := 13) (by kernel_rfl) ?_
              generalize hX0 : wr.drew = X0
              have HB0 : Below wr.heap.size wr X0 := hX0 ▸ (Below.refl _ _).drew
              have s0 : wr.heap.size ≤ X0.heap.size := HB0.size
              have x0 := cell_keep c0 HB0
              clear hX0
              have F0 : X0.cell? ⟨g, d, none⟩ = some (.int .u8 (old.toNat : Int)) := x0
              refine wpAnyT_take (i := 0) (oi := _) (v := ?_) rfl (by kernel_rfl) (by kernel_rfl) (by kernel_rfl) (by kernel_rfl) (fun _ _ _ h => h) (Or.inl ⟨by rfl, ?_⟩) F0 ?_
              rotate_left
              · (intro w' hSw; (try dsimp only at hSw); go_simp) <;> with_reducible rfl
              try simp only [Act.put, List.setIfInBounds_toArray, List.set_cons_zero, List.set_cons_succ]
              refine wpAnyT_take (i := 1) (oi := _) (v := ?_) rfl (by kernel_rfl) (by kernel_rfl) (by kernel_rfl) (by kernel_rfl) (fun _ _ _ h => h) (Or.inl ⟨by rfl, ?_⟩) F0 ?_
              rotate_left
              · (intro w' hSw; (try dsimp only at hSw); go_simp) <;> with_reducible rfl
              try simp only [Act.put, List.setIfInBounds_toArray, List.set_cons_zero, List.set_cons_succ]
              refine wpAnyT_take (i := 2) (oi := _) (v := ?_) rfl (by kernel_rfl) (by kernel_rfl) (by kernel_rfl) (by kernel_rfl) (fun _ _ _ h => h) (Or.inl ⟨by rfl, ?_⟩) F0 ?_
              rotate_left
              · (intro w' hSw; (try dsimp only at hSw); go_simp) <;> with_reducible rfl
              try simp only [Act.put, List.setIfInBounds_toArray, List.set_cons_zero, List.set_cons_succ]
              refine wpAnyT_take (i := 3) (oi := _) (v := ?_) rfl (by kernel_rfl) (by kernel_rfl) (by kernel_rfl) (by kernel_rfl) (fun _ _ _ h => h) (Or.inl ⟨by rfl, ?_⟩) F0 ?_
              rotate_left
              · (intro w' hSw; (try dsimp only at hSw); go_simp) <;> with_reducible rfl
              try simp only [Act.put, List.setIfInBounds_toArray, List.set_cons_zero, List.set_cons_succ]
              refine wpAnyT_take (i := 4) (oi := _) (v := ?_) rfl (by kernel_rfl) (by kernel_rfl) (by kernel_rfl) (by kernel_rfl) (fun _ _ _ h => h) (Or.inl ⟨by rfl, ?_⟩) F0 ?_
              rotate_left
              · (intro w' hSw; (try dsimp only at hSw); go_simp) <;> with_reducible rfl
              try simp only [Act.put, List.setIfInBounds_toArray, List.set_cons_zero, List.set_cons_succ]
              refine wpAnyT_take (i := 5) (oi := _) (v := ?_) rfl (by kernel_rfl) (by kernel_rfl) (by kernel_rfl) (by kernel_rfl) (fun _ _ _ h => h) (Or.inl ⟨by rfl, ?_⟩) F0 ?_
              rotate_left
              · (intro w' hSw; (try dsimp only at hSw); go_simp) <;> with_reducible rfl
              try simp only [Act.put, List.setIfInBounds_toArray, List.set_cons_zero, List.set_cons_succ]
              refine wpAnyT_take (i := 6) (oi := _) (v := ?_) rfl (by kernel_rfl) (by kernel_rfl) (by kernel_rfl) (by kernel_rfl) (fun _ _ _ h => h) (Or.inl ⟨by rfl, ?_⟩) F0 ?_
              rotate_left
              · (intro w' hSw; (try dsimp only at hSw); go_simp) <;> with_reducible rfl
              try simp only [Act.put, List.setIfInBounds_toArray, List.set_cons_zero, List.set_cons_succ]
              refine wpAnyT_take (i := 7) (oi := _) (v := ?_) rfl (by kernel_rfl) (by kernel_rfl) (by kernel_rfl) (by kernel_rfl) (fun _ _ _ h => h) (Or.inl ⟨by rfl, ?_⟩) F0 ?_
              rotate_left
              · (intro w' hSw; (try dsimp only at hSw); go_simp) <;> with_reducible rfl
              try simp only [Act.put, List.setIfInBounds_toArray, List.set_cons_zero, List.set_cons_succ]
              refine wpAnyT_take (i := 8) (oi := _) (v := ?_) rfl (by kernel_rfl) (by kernel_rfl) (by kernel_rfl) (by kernel_rfl) (fun _ _ _ h => h) (Or.inl ⟨by rfl, ?_⟩) F0 ?_
              rotate_left
              · (intro w' hSw; (try dsimp only at hSw); go_simp) <;> with_reducible rfl
              try simp only [Act.put, List.setIfInBounds_toArray, List.set_cons_zero, List.set_cons_succ]
              refine wpAnyT_take (i := 9) (oi := _) (v := ?_) rfl (by kernel_rfl) (by kernel_rfl) (by kernel_rfl) (by kernel_rfl) (fun _ _ _ h => h) (Or.inl ⟨by rfl, ?_⟩) F0 ?_
              rotate_left
              · (intro w' hSw; (try dsimp only at hSw); go_simp) <;> with_reducible rfl
              try simp only [Act.put, List.setIfInBounds_toArray, List.set_cons_zero, List.set_cons_succ]
              refine wpAnyT_take (i := 10) (oi := _) (v := ?_) rfl (by kernel_rfl) (by kernel_rfl) (by kernel_rfl) (by kernel_rfl) (fun _ _ _ h => h) (Or.inl ⟨by rfl, ?_⟩) F0 ?_
              rotate_left
              · (intro w' hSw; (try dsimp only at hSw); go_simp) <;> with_reducible rfl
              try simp only [Act.put, List.setIfInBounds_toArray, List.set_cons_zero, List.set_cons_succ]
              refine wpAnyT_take (i := 11) (oi := _) (v := ?_) rfl (by kernel_rfl) (by kernel_rfl) (by kernel_rfl) (by kernel_rfl) (fun _ _ _ h => h) (Or.inl ⟨by rfl, ?_⟩) F0 ?_
              rotate_left
              · (intro w' hSw; (try dsimp only at hSw); go_simp) <;> with_reducible rfl
              try simp only [Act.put, List.setIfInBounds_toArray, List.set_cons_zero, List.set_cons_succ]
              have hp8 := p7_le hm7
              obtain ⟨cc, hcc⟩ : ∃ cc, UInt8.ofNat (old.toNat ||| 2 ^ m) = cc := ⟨_, rfl⟩
              have EX : bits .or .u8 (old.toNat : Int) (IntKind.u8.wrap (2 ^ m)) = (cc.toNat : Int) := by
                rw [wrap_pow hm7, ← hcc]
                exact or_u8 old hp8
              rw [EX]
              have HS := Lib.hid (show packM (bitsOf q v) (d + 1) (N + 1) = (packM (bitsOf q v) (d + 1) N).set d cc by
                have h := packM_set (c := cc) hN8 Hold.out (by rw [HF1.out, if_pos rfl, Hm8.out, ← hcc]; exact or_old old hp8)
                rwa [Hd8.out] at h)
              clear hcc EX hp8
              have pf : ∀ o, X0.frozen? ⟨g, o, none⟩ = false := fun o => ((bcell HB0).2 g o hgh).trans (hfz o)
              have HO := Lib.hid (show (X0.setCell ⟨g, d, none⟩ (.int .u8 (cc.toNat : Int))).ownsRow w.heap.size 5 1 (.slice (some ⟨g, 0, none⟩) (d + 1) cap) ((N + 1 + 7) / 8) (bc (packM (bitsOf q v) ((N + 1 + 7) / 8) (N + 1))) by
                rw [HND.out, HS.out, ← bc_set]
                exact owns_put1 (owns_below HownW.out HB0))
              have hbF := Below.setCell (p := ⟨g, d, none⟩) (hb.trans (HB0.mono hb.size)) hgl (.int .u8 (cc.toNat : Int))
              refine wpAnyT_one (k := 12) (o := _) (by kernel_rfl) rfl rfl ?_
              intro K hK
              go_simp
              refine hK.out _ _ (fun _ => x0) ?_
              clear hK
              try simp only [Act.put, List.setIfInBounds_toArray, List.set_cons_zero, List.set_cons_succ]
              refine wpAnyT_one (k := 13) (o := _) (by kernel_rfl) rfl rfl ?_
              intro K hK
              go_simp
              refine hK.out _ _ (fun h => absurd rfl h) ?_
              clear hK
              refine wpAnyT_done (by kernel_rfl) ?_ _
              go_wp2_with fail
              go_roundw
              case rel => exact ⟨t + 1, N + 1, Lib.hid ⟨by go_num, by go_num, by rw [HN.out]; omega, by omega, HO.out, hbF⟩⟩
              case measure => simp [intOf]; omega
        · obtain rfl : t = v := by omega
          have HN2 := Lib.hid (show N = (i + 1) * t by rw [hN, Nat.add_mul]; omega)
          have Hown := Lib.hid hown
          obtain ⟨Ao, co, rfl, -, -, -⟩ := (Own.new hown).cells
          clear hN hown
          go_wp2_with fail
          go_roundw
          case rel => exact ⟨i + 1, N, Lib.hid ⟨by go_num, rfl, HN2.out, by omega, Hown.out, hb⟩⟩
          case measure => simp [intOf]; omega
    · obtain rfl : i = q.length := by omega
      go_wp2_with fail
      go_ret
      refine ⟨_, rfl, ?_, hb⟩
      rw [HP.out, packM_len, ← HN.out]
      exact .new Hown.out
set_option maxHeartbeats 4000000 in
set_option maxRecDepth 20000 in
theorem impl_PackBits (q : List Int) (x : Value) (v : Int) (w : World) {lo hi : Nat} (hx : RdI w lo hi x q) (hhi : hi ≤ w.heap.size) (hq : q.length ≤ 1000000) :
    Calls Try.prog 12 #[x, .int .i64 v] w fun e w' => ∃ r, e = .returned r ∧ Own 5 1 w' w.heap.size w'.heap.size r (packB q v).length (bc (packB q v)) ∧ Below w.heap.size w w' := by
  obtain ⟨A, c, rfl, hl, hl2⟩ := hx.form
  obtain ⟨i0, hif, hz0, hz1, hz2⟩ := info_parts info_u8
  have hQ := q_impl_within v 0 31 w
  cases hv : inR v 0 31
  · rw [hv] at hQ
    have HQ := Lib.hid hQ
    have HP := Lib.hid (packB_no (l := q) (v := v) (by rw [packOk, hv]; rfl))
    clear hv hQ hif hz0 hz1 hz2
    go_enter Try.func12, Try.ntmps12
    go_wp2_with fail
    refine HQ.out.mono ?_
    rintro e w1 ⟨rfl, rfl⟩
    go_wp2_with fail
    go_ret
    exact ⟨_, rfl, by rw [HP.out]; exact own_ints_none _ _ _ _, Below.refl _ _⟩
  rw [hv] at hQ
  have HQ := Lib.hid hQ
  clear hQ
  have hv2 := inR_yes hv
  obtain ⟨v, rfl⟩ := Int.eq_ofNat_of_zero_le hv2.1
  have hv31 : v ≤ 31 := by omega
  have Hv := Lib.hid hv
  have hMb : (q.length * v + 7) / 8 ≤ 4000000 := by
    have := Nat.mul_le_mul hq hv31
    omega
  have hMe : ((q.length : Int) * v + 7) / 8 = (((q.length * v + 7) / 8 : Nat) : Int) := by simp
  have hMw : (q.length : Int) * v ≤ 31000000 ∧ 0 ≤ (q.length : Int) * v := by
    have := Nat.mul_le_mul hq hv31
    rw [← Int.natCast_mul]
    omega
  obtain ⟨hMw1, hMw0⟩ := hMw
  have hmk : ∀ W : World, _ := fun W => make_n (P := Try.prog) 22 5 i0 _ Try.underlying22 hif hz0 ((q.length * v + 7) / 8) (by rw [hz2]; omega) (by omega) W
  rw [hz1, ← hMe] at hmk
  have own0 := owns_full w w.heap.size 5 ((q.length * v + 7) / 8) (madeCells #[Value.int .u8 0] ((q.length * v + 7) / 8)) (Nat.le_refl _) (by unfold maxLen; omega) (by rw [size_madeCells, Nat.mul_one])
  rw [made_pack (bitsOf q v)] at own0
  have hb0 := up_a1 w (.cells (madeCells #[Value.int .u8 0] ((q.length * v + 7) / 8)) 5)
  have HMK := Lib.hid hmk
  have HO0 := Lib.hid own0
  have HB0' := Lib.hid hb0
  clear hv hv2 hif hz0 hz1 hz2 hmk own0 hb0 hMe
  obtain ⟨M, hM⟩ : ∃ M, (q.length * v + 7) / 8 = M := ⟨_, rfl⟩
  rw [hM] at hMb HMK HO0 HB0'
  have HM0 := Lib.hid hM
  clear hM
  go_enter Try.func12, Try.ntmps12
  go_wp2_with fail
  refine HQ.out.mono ?_
  rintro e w1 ⟨rfl, rfl⟩
  go_wp2_with fail
  go_loop [17] (fun i => ∃ j : Nat, Hid (i = .int .i64 j ∧ (q.take j).all (fitsW v) = true ∧ j ≤ q.length)) (fun i => q.length - (intOf i).toNat)
  case atStart => exact ⟨0, Lib.hid ⟨rfl, rfl, by omega⟩⟩
  case round =>
    obtain ⟨j, hrel⟩ := hrel
    obtain ⟨rfl, hall, hj⟩ := hrel.out
    have Hall := Lib.hid hall
    clear hrel hall
    by_cases hjl : j < q.length
    · obtain ⟨b, off, n, rfl, -, -, hn, e0⟩ := hx.at hjl
      have Hn := Lib.hid hn
      clear hn
      have hQ := q_impl_within n 0 2147483647 w
      cases h1 : inR n 0 2147483647
      · rw [h1] at hQ
        have HQ := Lib.hid hQ
        have HP := Lib.hid (packB_no (packOk_not (w := (v : Int)) Hn.out (by rw [fitsW, h1]; rfl)))
        clear h1 hQ
        go_wp2_with fail
        refine HQ.out.mono ?_
        rintro e w1 ⟨rfl, rfl⟩
        go_wp2_with fail
        go_ret
        exact ⟨_, rfl, by rw [HP.out]; exact own_ints_none _ _ _ _, Below.refl _ _⟩
      · rw [h1] at hQ
        have HQ := Lib.hid hQ
        have HW := Lib.hid (q_impl_WidthOf n w)
        by_cases h2 : (widthOf n : Int) ≤ v
        · have Hall' := Lib.hid (allf_step Hn.out Hall.out (by rw [fitsW, h1, decide_eq_true h2]; rfl))
          have hd : decide ((v : Int) < (widthOf n : Int)) = false := decide_eq_false (by omega)
          clear h1 hQ
          generalize widthOf n = d at *
          go_wp2_with fail
          refine HQ.out.mono ?_
          rintro e w1 ⟨rfl, rfl⟩
          go_wp2_with fail
          refine HW.out.mono ?_
          rintro e w1 ⟨rfl, rfl⟩
          go_wp2_with fail
          go_round
          case rel => exact ⟨j + 1, Lib.hid ⟨by go_num, Hall'.out, by omega⟩⟩
          case measure => simp [intOf]; omega
        · have HP := Lib.hid (packB_no (packOk_not (w := (v : Int)) Hn.out (by rw [fitsW, h1, decide_eq_false h2]; rfl)))
          have hd : decide ((v : Int) < (widthOf n : Int)) = true := decide_eq_true (by omega)
          clear h1 hQ
          generalize widthOf n = d at *
          go_wp2_with fail
          refine HQ.out.mono ?_
          rintro e w1 ⟨rfl, rfl⟩
          go_wp2_with fail
          refine HW.out.mono ?_
          rintro e w1 ⟨rfl, rfl⟩
          go_wp2_with fail
          go_ret
          exact ⟨_, rfl, by rw [HP.out]; exact own_ints_none _ _ _ _, Below.refl _ _⟩
    · obtain rfl : j = q.length := by omega
      have hok : packOk q v = true := by
        have h := Hall.out
        rw [List.take_length] at h
        rw [packOk, h, Hv.out]
        rfl
      have HP := Lib.hid (packB_yes hok)
      have HM := Lib.hid (fun n hn => packOk_mem (n := n) hok hn)
      have hmk := HMK.out
      clear hok Hall Hv HQ
      go_wp2_with fail
      clear hmk
      go_loopw [40] (fun i wr => ∃ j : Nat, Hid (i = .int .i64 j ∧ j ≤ q.length ∧ wr.ownsRow w.heap.size 5 1 (.slice (some ⟨w.heap.size, 0, none⟩) M M) M (bc (packM (bitsOf q v) M (j * v))) ∧ Below w.heap.size w wr)) (fun i _ => q.length - (intOf i).toNat)
      case atStart => exact ⟨0, Lib.hid ⟨rfl, by omega, by rw [Nat.zero_mul]; exact HO0.out, HB0'.out⟩⟩
      case round =>
        obtain ⟨i, hrel⟩ := hrel
        obtain ⟨rfl, hi, hown, hb⟩ := hrel.out
        clear hrel
        have Hown := Lib.hid hown
        clear hown
        by_cases hiq : i < q.length
        · obtain ⟨b, off, x, rfl, -, hbl, hxi, e0⟩ := (hx.below hb hhi).at hiq
          obtain ⟨⟨x0, x1⟩, -⟩ := HM.out x (mem_of_get hxi)
          obtain ⟨x, rfl⟩ := Int.eq_ofNat_of_zero_le x0
          have Hxi := Lib.hid hxi
          clear hxi
          go_wp2_with fail
          clear e0
          go_loopw [10] (fun k wr => ∃ t : Nat, Hid (k = .int .i64 t ∧ t ≤ v ∧ wr.ownsRow w.heap.size 5 1 (.slice (some ⟨w.heap.size, 0, none⟩) M M) M (bc (packM (bitsOf q v) M (i * v + t))) ∧ Below w.heap.size w wr)) (fun k _ => v - (intOf k).toNat)
          case atStart => exact ⟨0, Lib.hid ⟨rfl, by omega, Hown.out, hb⟩⟩
          case round =>
            clear Hown hb
            obtain ⟨t, hrel⟩ := hrel
            obtain ⟨rfl, ht, hown, hb⟩ := hrel.out
            clear hrel
            have hbs := hb.size
            by_cases htv : t < v
            · obtain ⟨N, hN⟩ : ∃ N, i * v + t = N := ⟨_, rfl⟩
              have hNb : N ≤ 31000031 := by
                have := Nat.mul_le_mul (show i ≤ 1000000 by omega) hv31
                omega
              have hNM : N < q.length * v := by
                rw [← hN]
                exact Nat.lt_of_lt_of_le (show i * v + t < (i + 1) * v by rw [Nat.add_mul]; omega) (Nat.mul_le_mul_right _ hiq)
              have hiv : (i : Int) * v ≤ 31000000 ∧ 0 ≤ (i : Int) * v := by
                have := Nat.mul_le_mul (show i ≤ 1000000 by omega) hv31
                rw [← Int.natCast_mul]
                omega
              obtain ⟨hiv1, hiv0⟩ := hiv
              have hNe : (i : Int) * v + t = (N : Int) := by rw [← hN]; simp
              have HF := Lib.hid (show bitsOf q v N = x.testBit t by rw [← hN]; exact bitsOf_at Hxi.out htv)
              have HN := Lib.hid hN
              rw [hN] at hown
              have hand := bit_of x t (by omega)
              obtain ⟨be, hbe⟩ : ∃ be, (x.testBit t).toNat = be := ⟨_, rfl⟩
              have hbe1 : be ≤ 1 := by rw [← hbe]; exact Bool.toNat_le _
              rw [hbe] at hand
              have Hbe := Lib.hid hbe
              obtain ⟨d, hd8⟩ : ∃ d, N / 8 = d := ⟨_, rfl⟩
              obtain ⟨m, hm8⟩ : ∃ m, N % 8 = m := ⟨_, rfl⟩
              have hm7 : m < 8 := by omega
              have hw8 : IntKind.i64.wrap ((N : Int) / 8) = (d : Int) := by rw [IntKind.wrap_i64]; omega
              have hw9 : (N : Int).tmod 8 = (m : Int) := by rw [Int.tmod_eq_emod_of_nonneg (by omega)]; omega
              have hdM : d < M := by have := HM0.out; omega
              have hdd2 : (d : Int) < (M : Int) := by omega
              have hm0 : (0 : Int) ≤ (m : Int) := by omega
              have hm9 : (m : Int) ≤ 64 := by omega
              have ht9 : (t : Int) ≤ 64 := by omega
              obtain ⟨old, hold⟩ : ∃ old, (packM (bitsOf q v) M N)[N / 8]? = some old := ⟨_, packM_get _ (by omega)⟩
              obtain ⟨g, cap, e', hgl, hgh, hcap, hcap2, hcells, hfz⟩ := owns_form1 hown (by omega)
              injection e' with e1 _ ec
              injection e1 with e1
              injection e1 with e1
              subst e1 ec
              have Hd8 := Lib.hid hd8
              have Hm8 := Lib.hid hm8
              have hN8 : N < 8 * M := by omega
              have Hold := Lib.hid hold
              rw [hd8] at hold
              have c0 := hcells _ _ (bc_get hold)
              have HownW := Lib.hid hown
              clear hd8 hm8 hold hcells hown hbe hN hNM
              go_upto_region 17 with fail
              refine wp_region_T (S := fun w' => w'.cell? ⟨w.heap.size, d, none⟩ = some (.int .u8 (old.toNat : Int))) (n := 15) (by kernel_rfl) ?_
              generalize hX0 : wr.drew = X0
              have HB0 : Below wr.heap.size wr X0 := hX0 ▸ (Below.refl _ _).drew
              have s0 : wr.heap.size ≤ X0.heap.size := HB0.size
              have x0 := cell_keep c0 HB0
              clear hX0
              have F0 : X0.cell? ⟨w.heap.size, d, none⟩ = some (.int .u8 (old.toNat : Int)) := x0
              refine wpAnyT_take (i := 0) (oi := _) (v := ?_) rfl (by kernel_rfl) (by kernel_rfl) (by kernel_rfl) (by kernel_rfl) (fun _ _ _ h => h) (Or.inl ⟨by rfl, ?_⟩) F0 ?_
              rotate_left
              · (intro w' hSw; (try dsimp only at hSw); go_simp) <;> with_reducible rfl
              try simp only [Act.put, List.setIfInBounds_toArray, List.set_cons_zero, List.set_cons_succ]
              refine wpAnyT_take (i := 1) (oi := _) (v := ?_) rfl (by kernel_rfl) (by kernel_rfl) (by kernel_rfl) (by kernel_rfl) (fun _ _ _ h => h) (Or.inl ⟨by rfl, ?_⟩) F0 ?_
              rotate_left
              · (intro w' hSw; (try dsimp only at hSw); go_simp) <;> with_reducible rfl
              try simp only [Act.put, List.setIfInBounds_toArray, List.set_cons_zero, List.set_cons_succ]
              refine wpAnyT_take (i := 2) (oi := _) (v := ?_) rfl (by kernel_rfl) (by kernel_rfl) (by kernel_rfl) (by kernel_rfl) (fun _ _ _ h => h) (Or.inl ⟨by rfl, ?_⟩) F0 ?_
              rotate_left
              · (intro w' hSw; (try dsimp only at hSw); go_simp) <;> with_reducible rfl
              try simp only [Act.put, List.setIfInBounds_toArray, List.set_cons_zero, List.set_cons_succ]
              refine wpAnyT_take (i := 3) (oi := _) (v := ?_) rfl (by kernel_rfl) (by kernel_rfl) (by kernel_rfl) (by kernel_rfl) (fun _ _ _ h => h) (Or.inl ⟨by rfl, ?_⟩) F0 ?_
              rotate_left
              · (intro w' hSw; (try dsimp only at hSw); go_simp) <;> with_reducible rfl
              try simp only [Act.put, List.setIfInBounds_toArray, List.set_cons_zero, List.set_cons_succ]
              refine wpAnyT_take (i := 4) (oi := _) (v := ?_) rfl (by kernel_rfl) (by kernel_rfl) (by kernel_rfl) (by kernel_rfl) (fun _ _ _ h => h) (Or.inl ⟨by rfl, ?_⟩) F0 ?_
              rotate_left
              · (intro w' hSw; (try dsimp only at hSw); go_simp) <;> with_reducible rfl
              try simp only [Act.put, List.setIfInBounds_toArray, List.set_cons_zero, List.set_cons_succ]
              refine wpAnyT_take (i := 5) (oi := _) (v := ?_) rfl (by kernel_rfl) (by kernel_rfl) (by kernel_rfl) (by kernel_rfl) (fun _ _ _ h => h) (Or.inl ⟨by rfl, ?_⟩) F0 ?_
              rotate_left
              · (intro w' hSw; (try dsimp only at hSw); go_simp) <;> with_reducible rfl
              try simp only [Act.put, List.setIfInBounds_toArray, List.set_cons_zero, List.set_cons_succ]
              refine wpAnyT_take (i := 6) (oi := _) (v := ?_) rfl (by kernel_rfl) (by kernel_rfl) (by kernel_rfl) (by kernel_rfl) (fun _ _ _ h => h) (Or.inl ⟨by rfl, ?_⟩) F0 ?_
              rotate_left
              · (intro w' hSw; (try dsimp only at hSw); go_simp) <;> with_reducible rfl
              try simp only [Act.put, List.setIfInBounds_toArray, List.set_cons_zero, List.set_cons_succ]
              refine wpAnyT_take (i := 7) (oi := _) (v := ?_) rfl (by kernel_rfl) (by kernel_rfl) (by kernel_rfl) (by kernel_rfl) (fun _ _ _ h => h) (Or.inl ⟨by rfl, ?_⟩) F0 ?_
              rotate_left
              · (intro w' hSw; (try dsimp only at hSw); go_simp) <;> with_reducible rfl
              try simp only [Act.put, List.setIfInBounds_toArray, List.set_cons_zero, List.set_cons_succ]
              refine wpAnyT_take (i := 8) (oi := _) (v := ?_) rfl (by kernel_rfl) (by kernel_rfl) (by kernel_rfl) (by kernel_rfl) (fun _ _ _ h => h) (Or.inl ⟨by rfl, ?_⟩) F0 ?_
              rotate_left
              · (intro w' hSw; (try dsimp only at hSw); go_simp) <;> with_reducible rfl
              try simp only [Act.put, List.setIfInBounds_toArray, List.set_cons_zero, List.set_cons_succ]
              refine wpAnyT_take (i := 9) (oi := _) (v := ?_) rfl (by kernel_rfl) (by kernel_rfl) (by kernel_rfl) (by kernel_rfl) (fun _ _ _ h => h) (Or.inl ⟨by rfl, ?_⟩) F0 ?_
              rotate_left
              · (intro w' hSw; (try dsimp only at hSw); go_simp) <;> with_reducible rfl
              try simp only [Act.put, List.setIfInBounds_toArray, List.set_cons_zero, List.set_cons_succ]
              refine wpAnyT_take (i := 10) (oi := _) (v := ?_) rfl (by kernel_rfl) (by kernel_rfl) (by kernel_rfl) (by kernel_rfl) (fun _ _ _ h => h) (Or.inl ⟨by rfl, ?_⟩) F0 ?_
              rotate_left
              · (intro w' hSw; (try dsimp only at hSw); go_simp) <;> with_reducible rfl
              try simp only [Act.put, List.setIfInBounds_toArray, List.set_cons_zero, List.set_cons_succ]
              refine wpAnyT_take (i := 11) (oi := _) (v := ?_) rfl (by kernel_rfl) (by kernel_rfl) (by kernel_rfl) (by kernel_rfl) (fun _ _ _ h => h) (Or.inl ⟨by rfl, ?_⟩) F0 ?_
              rotate_left
              · (intro w' hSw; (try dsimp only at hSw); go_simp) <;> with_reducible rfl
              try simp only [Act.put, List.setIfInBounds_toArray, List.set_cons_zero, List.set_cons_succ]
              refine wpAnyT_take (i := 12) (oi := _) (v := ?_) rfl (by kernel_rfl) (by kernel_rfl) (by kernel_rfl) (by kernel_rfl) (fun _ _ _ h => h) (Or.inl ⟨by rfl, ?_⟩) F0 ?_
              rotate_left
              · (intro w' hSw; (try dsimp only at hSw); go_simp) <;> with_reducible rfl
              try simp only [Act.put, List.setIfInBounds_toArray, List.set_cons_zero, List.set_cons_succ]
              refine wpAnyT_take (i := 13) (oi := _) (v := ?_) rfl (by kernel_rfl) (by kernel_rfl) (by kernel_rfl) (by kernel_rfl) (fun _ _ _ h => h) (Or.inl ⟨by rfl, ?_⟩) F0 ?_
              rotate_left
              · (intro w' hSw; (try dsimp only at hSw); go_simp) <;> with_reducible rfl
              try simp only [Act.put, List.setIfInBounds_toArray, List.set_cons_zero, List.set_cons_succ]
              have hp8 := p7_le hm7
              have hbm : be * 2 ^ m ≤ 128 := Nat.le_trans (Nat.mul_le_mul_right _ hbe1) (by omega)
              obtain ⟨cc, hcc⟩ : ∃ cc, UInt8.ofNat (old.toNat ||| be * 2 ^ m) = cc := ⟨_, rfl⟩
              have EX : bits .or .u8 (old.toNat : Int) (IntKind.u8.wrap (IntKind.i64.wrap ((be : Int) * 2 ^ m))) = (cc.toNat : Int) := by
                rw [wrap_mul hbm, ← hcc]
                exact or_u8 old hbm
              rw [EX]
              have HS := Lib.hid (show packM (bitsOf q v) M (N + 1) = (packM (bitsOf q v) M N).set d cc by
                have h := packM_set (c := cc) hN8 Hold.out (by
                  rw [HF.out, Hm8.out, ← hcc, or_old old hbm, ← Hbe.out]
                  cases x.testBit t <;> simp)
                rwa [Hd8.out] at h)
              clear hcc EX hp8 hbm
              have pf : ∀ o, X0.frozen? ⟨w.heap.size, o, none⟩ = false := fun o => ((bcell HB0).2 _ o hgh).trans (hfz o)
              have HO := Lib.hid (show (X0.setCell ⟨w.heap.size, d, none⟩ (.int .u8 (cc.toNat : Int))).ownsRow w.heap.size 5 1 (.slice (some ⟨w.heap.size, 0, none⟩) M M) M (bc (packM (bitsOf q v) M (i * v + (t + 1)))) by
                rw [← Nat.add_assoc, HN.out, HS.out, ← bc_set]
                exact owns_put1 (owns_below HownW.out HB0))
              have hbF := Below.setCell (p := ⟨w.heap.size, d, none⟩) (hb.trans (HB0.mono hb.size)) hgl (.int .u8 (cc.toNat : Int))
              refine wpAnyT_one (k := 14) (o := _) (by kernel_rfl) rfl rfl ?_
              intro K hK
              go_simp
              refine hK.out _ _ (fun _ => x0) ?_
              clear hK
              try simp only [Act.put, List.setIfInBounds_toArray, List.set_cons_zero, List.set_cons_succ]
              refine wpAnyT_one (k := 15) (o := _) (by kernel_rfl) rfl rfl ?_
              intro K hK
              go_simp
              refine hK.out _ _ (fun h => absurd rfl h) ?_
              clear hK
              refine wpAnyT_done (by kernel_rfl) ?_ _
              go_wp2_with fail
              go_roundw
              case rel => exact ⟨t + 1, Lib.hid ⟨by go_num, by omega, HO.out, hbF⟩⟩
              case measure => simp [intOf]; omega
            · obtain rfl : t = v := by omega
              have Hown := Lib.hid (show wr.ownsRow w.heap.size 5 1 (.slice (some ⟨w.heap.size, 0, none⟩) M M) M (bc (packM (bitsOf q t) M ((i + 1) * t))) by rw [Nat.add_mul, Nat.one_mul]; exact hown)
              clear hown
              go_wp2_with fail
              go_roundw
              case rel => exact ⟨i + 1, Lib.hid ⟨by go_num, by omega, Hown.out, hb⟩⟩
              case measure => simp [intOf]; omega
        · obtain rfl : i = q.length := by omega
          go_wp2_with fail
          go_ret
          refine ⟨_, rfl, ?_, hb⟩
          rw [HP.out, packM_len, HM0.out]
          exact .new Hown.out
end Go.Proofs.Ytnldneogjdljkaa
