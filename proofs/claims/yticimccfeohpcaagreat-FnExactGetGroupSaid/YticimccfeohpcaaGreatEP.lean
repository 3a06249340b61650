/- Runs spread; decodings by runs: contracts. -/
import Derived.Test.YticimccfeohpcaaGreatEN
import Derived.Test.YticimccfeohpcaaGreatED
namespace Go.Lb
open Go.RowKit
theorem rep_step (acc : List V) (t : Nat) (v : V) : acc ++ List.replicate (t + 1) v = (acc ++ List.replicate t v) ++ [v] := by
  rw [List.replicate_succ', List.append_assoc]
theorem decRuns_k {b : List UInt8} {ty k : Int} (h : inR k 1 64 = false) : decRuns b ty k = none := by
  cases hd : decRuns b ty k with
  | none => rfl
  | some l => rw [(enc_decRuns hd).2.2.1] at h; cases h
theorem rdNum_le' {s : List UInt8} {n : Int} {p : Nat} (h : rdNum s = some (n, p)) : p ≤ s.length := (num_rdNum h).2.2.1
theorem runs_rd_small {ty : Int} {k m : Nat} {s : List UInt8} {q : List Ru} (h : rdL (rdRun ty) k s = some (q, m)) : ∀ v ∈ spread q, v.s.size ≤ maxLen := by
  intro v hv
  obtain ⟨r, hr, rfl⟩ := spread_mem hv
  have h1 := List.all_eq_true.1 (rdL_wr (codec_run ty) h).2.1 r hr
  simp only [runOk, valOkT, Bool.and_eq_true, decide_eq_true_eq] at h1
  rcases valOk_ty h1.2.1 with ht | ht
  · rw [(valOk_1 h1.2.1 ht).2]
    exact Nat.zero_le _
  · exact Nat.le_trans (txt_len h1.2.1 ht) (by decide)
theorem rdRun_le {ty : Int} {s : List UInt8} {r : Ru} {j : Nat} (h : rdRun ty s = some (r, j)) : j ≤ s.length := by
  obtain ⟨-, g2, g3⟩ := (codec_run ty).wr _ _ _ h
  have := congrArg List.length g3
  rw [List.length_append] at this
  omega
theorem spreadS_small {q : List Ru} {acc : List V} {j : Nat} (h : spreadS (q.take j) [] = some acc) : acc.length ≤ 64 := (spreadS_len (by simp) h).1
end Go.Lb
namespace Go.Proofs.YticimccfeohpcaaGreat
open Go.Sort Go.ChangeShapes Go.WideShapes Go.ChangeAt Go.RowKit Go.Lb
set_option maxHeartbeats 4000000 in
set_option maxRecDepth 20000 in
theorem spec_Spread (q : List Ru) (x : Value) (w : World) {lo hi : Nat} (hx : RdU w lo hi x q) (hhi : hi ≤ w.heap.size) :
    Calls Tryz.prog 122 #[x] w fun e w' => ∃ r, e = .returned r ∧ Own 83 3 w' w.heap.size w'.heap.size r (spread q).length ((spread q).flatMap V.cells) ∧ Below w.heap.size w w' := by
  obtain ⟨A, c, rfl, hl, hl2⟩ := RdG.form hx
  obtain ⟨i0, hif, hz0, hz1, hz2⟩ := info_parts info_val
  replace hif := Lib.hid hif
  replace hz0 := Lib.hid hz0
  replace hz1 := Lib.hid hz1
  replace hz2 := Lib.hid hz2
  have hb0 := up_a1 w (.cells #[] 83)
  have own0 := World.ownsRow_made w (base := w.heap.size) (e := 83) (size := 3) #[] 0 (Nat.le_refl _) (by decide) rfl
  go_enter Tryz.func122, Tryz.ntmps122
  go_wp2_with fail
  go_loopw [3, 4] (fun o i wr => ∃ (j : Nat) (acc : List V), Hid (i = .int .i64 j ∧ j ≤ q.length ∧ spreadS (q.take j) [] = some acc ∧ wr.ownsRow w.heap.size 83 3 o acc.length (acc.flatMap V.cells) ∧ Below w.heap.size w wr)) (fun _ i _ => q.length - (intOf i).toNat)
  case atStart => exact ⟨0, [], Lib.hid ⟨rfl, Nat.zero_le _, rfl, own0, hb0⟩⟩
  case round =>
    obtain ⟨j, acc, hrel⟩ := hrel
    obtain ⟨rfl, hj, hacc, hown, hb⟩ := hrel.out
    obtain ⟨wo, hwo⟩ : ∃ wo, wo = wr := ⟨_, rfl⟩
    subst hwo
    have Hacc := Lib.hid hacc
    have hal := spreadS_small hacc
    have Hown := Lib.hid hown
    have hbs := hb.size
    obtain ⟨Ao, co, rfl, -, -, -⟩ := (Own.new hown).cells
    clear hrel hacc hown own0 hb0
    by_cases hjl : j < q.length
    · obtain ⟨b, off, y, rfl, -, hbl, hyk, e0, e1, e2, e3⟩ := (hx.below hb hhi).at hjl
      have hw64 : IntKind.i64.wrap (64 - (acc.length : Int)) = 64 - (acc.length : Int) := by rw [IntKind.wrap_i64]; omega
      cases hr : inR y.k 1 (64 - (acc.length : Int))
      · have HN := Lib.hid (spread_bad hyk Hacc.out hr)
        have hz : y.k < 1 ∨ (1 ≤ y.k ∧ 64 - (acc.length : Int) < y.k) := by
          have := inR_no hr
          omega
        clear hr hyk
        rcases hz with hz | ⟨hz, hz2⟩
        · have d1 : decide (y.k < 1) = true := decide_eq_true hz
          have HOn := Lib.hid (World.ownsRow_made wo (base := w.heap.size) (e := 83) (size := 3) #[] 0 hbs (by decide) rfl)
          have HBn := Lib.hid (hb.alloc hbs (.cells #[] 83))
          go_wp2_with fail
          go_ret
          exact ⟨_, rfl, by rw [HN.out]; exact Own.new HOn.out, HBn.out⟩
        · have d1 : decide (y.k < 1) = false := decide_eq_false (by omega)
          have d2 : decide (64 - (acc.length : Int) < y.k) = true := decide_eq_true hz2
          have HOn := Lib.hid (World.ownsRow_made wo (base := w.heap.size) (e := 83) (size := 3) #[] 0 hbs (by decide) rfl)
          have HBn := Lib.hid (hb.alloc hbs (.cells #[] 83))
          go_wp2_with fail
          go_ret
          exact ⟨_, rfl, by rw [HN.out]; exact Own.new HOn.out, HBn.out⟩
      · have HS := Lib.hid (spread_step hyk Hacc.out hr)
        have hz := inR_yes hr
        obtain ⟨K, hK⟩ := Int.eq_ofNat_of_zero_le (show 0 ≤ y.k by omega)
        rw [hK] at hz HS e3
        have HS := Lib.hid (by have h := HS.out; rw [Int.toNat_natCast] at h; exact h)
        have hK64 : acc.length + K ≤ 64 := by omega
        have d1 : decide ((K : Int) < 1) = false := decide_eq_false (by omega)
        have d2 : decide (64 - (acc.length : Int) < (K : Int)) = false := decide_eq_false (by omega)
        have hne0 : Hid (∀ g, (Value.slice Ao acc.length co).ownBlock = some g → g ≠ b) := Lib.hid (fun g h => by have := Hown.out.lt g h; omega)
        have HO0 := Hown
        have HB0 := Lib.hid hb
        have hc0 := Lib.hid (⟨e0, e1, e2, e3⟩ : _ ∧ _ ∧ _ ∧ _)
        clear hr hyk hz hK
        go_wp2_with fail
        clear hb hbs e0 e1 e2 e3
        go_loopw [3, 5] (fun o i wr => ∃ (t : Nat), Hid (i = .int .i64 t ∧ t ≤ K ∧ (∀ g, o.ownBlock = some g → g ≠ b) ∧ (wr.cell? ⟨b, off + j * 4, none⟩ = some (.int .i64 y.v.ty) ∧ wr.cell? ⟨b, off + j * 4 + 1, none⟩ = some (.int .i64 y.v.n) ∧ wr.cell? ⟨b, off + j * 4 + 2, none⟩ = some (.string y.v.s) ∧ wr.cell? ⟨b, off + j * 4 + 3, none⟩ = some (.int .i64 (K : Int))) ∧ wr.ownsRow w.heap.size 83 3 o (acc ++ List.replicate t y.v).length ((acc ++ List.replicate t y.v).flatMap V.cells) ∧ Below w.heap.size w wr)) (fun _ i _ => K - (intOf i).toNat)
        case atStart => exact ⟨0, Lib.hid ⟨rfl, Nat.zero_le _, hne0.out, hc0.out, by simpa using HO0.out, HB0.out⟩⟩
        case round =>
          obtain ⟨t, hrel⟩ := hrel
          obtain ⟨rfl, ht, hne, ⟨c0, c1, c2, c3⟩, hown, hb⟩ := hrel.out
          have hbs := hb.size
          obtain ⟨zs, hzs⟩ : ∃ zs, acc ++ List.replicate t y.v = zs := ⟨_, rfl⟩
          have hzl : zs.length ≤ 64 := by rw [← hzs, List.length_append, List.length_replicate]; omega
          rw [hzs] at hown
          have HZ := Lib.hid hzs
          have HOw := Lib.hid hown
          have Hne := Lib.hid hne
          obtain ⟨Ap, cp, rfl, -, -, -⟩ := (Own.new hown).cells
          clear hrel hown hne hzs HO0 HB0 hc0 hne0
          by_cases htk : t < K
          · go_wp2_with (at_builtin; refine wpl_app rfl _ _ 42 rfl w.heap.size 83 i0 _ 3 32 Tryz.underlying42 hif.out hz0.out hz1.out hz2.out rfl (by decide) (by decide) (HOw.out.alloc _) rfl (heap_alloc_new _ _) rfl rfl (by simp [Value.oneCell']) (by omega) (by simp; omega) ?_)
            intro v4 w4 hown4 hgrow hnb
            have HB4 := Lib.hid (Below.grown (hb.alloc hbs _) hgrow (fun g hg => (HOw.out.lt g hg).1) (Nat.le_refl _))
            have HO4 := Lib.hid (show w4.ownsRow w.heap.size 83 3 v4 (acc ++ List.replicate (t + 1) y.v).length ((acc ++ List.replicate (t + 1) y.v).flatMap V.cells) by
              rw [rep_step, HZ.out, List.flatMap_append, List.length_append]
              exact hown4)
            have HC4 := Lib.hid (⟨cell_app (cell_keep c0 (up_a1 _ _)) hgrow Hne.out, cell_app (cell_keep c1 (up_a1 _ _)) hgrow Hne.out, cell_app (cell_keep c2 (up_a1 _ _)) hgrow Hne.out, cell_app (cell_keep c3 (up_a1 _ _)) hgrow Hne.out⟩ : _ ∧ _ ∧ _ ∧ _)
            have HN4 : Hid (∀ g, v4.ownBlock = some g → g ≠ b) := Lib.hid (fun g hg => by
              have hlt := block_lt_of_cell c0
              rcases hnb g hg with h | h
              · exact Hne.out g h
              · try simp at h
                show g ≠ _
                have hlt2 : b < wr.heap.size := hlt
                omega)
            clear hown4 hgrow hnb c0 c1 c2 c3
            go_wp2_with fail
            go_roundw
            case rel => exact ⟨t + 1, Lib.hid ⟨by go_num, by omega, HN4.out, HC4.out, HO4.out, HB4.out⟩⟩
            case measure => simp [intOf]; omega
          · obtain rfl : t = K := by omega
            have HS2 := Lib.hid (by have h := HS.out; rw [HZ.out] at h; exact h)
            clear HS HZ
            go_wp2_with fail
            go_roundw
            case rel => exact ⟨j + 1, zs, Lib.hid ⟨by go_num, by omega, HS2.out, HOw.out, hb⟩⟩
            case measure => simp [intOf]; omega
    · obtain rfl : j = q.length := by omega
      have HE := Lib.hid (spread_done Hacc.out)
      go_wp2_with fail
      go_ret
      exact ⟨_, rfl, by rw [HE.out]; exact Own.new Hown.out, hb⟩
set_option maxHeartbeats 4000000 in
set_option maxRecDepth 20000 in
theorem impl_Spread (q : List Ru) (x : Value) (w : World) {lo hi : Nat} (hx : RdU w lo hi x q) (hhi : hi ≤ w.heap.size) :
    Calls Tryz.prog 130 #[x] w fun e w' => ∃ r, e = .returned r ∧ Own 83 3 w' w.heap.size w'.heap.size r (spread q).length ((spread q).flatMap V.cells) ∧ Below w.heap.size w w' := by
  obtain ⟨A, c, rfl, hl, hl2⟩ := RdG.form hx
  obtain ⟨i0, hif, hz0, hz1, hz2⟩ := info_parts info_val
  replace hif := Lib.hid hif
  replace hz0 := Lib.hid hz0
  replace hz1 := Lib.hid hz1
  replace hz2 := Lib.hid hz2
  have hb0 := up_a1 w (.cells #[] 83)
  have own0 := World.ownsRow_made w (base := w.heap.size) (e := 83) (size := 3) #[] 0 (Nat.le_refl _) (by decide) rfl
  go_enter Tryz.func130, Tryz.ntmps130
  go_wp2_with fail
  go_loopw [3, 10] (fun o i wr => ∃ (j : Nat) (acc : List V), Hid (i = .int .i64 j ∧ j ≤ q.length ∧ spreadS (q.take j) [] = some acc ∧ wr.ownsRow w.heap.size 83 3 o acc.length (acc.flatMap V.cells) ∧ Below w.heap.size w wr)) (fun _ i _ => q.length - (intOf i).toNat)
  case atStart => exact ⟨0, [], Lib.hid ⟨rfl, Nat.zero_le _, rfl, own0, hb0⟩⟩
  case round =>
    obtain ⟨j, acc, hrel⟩ := hrel
    obtain ⟨rfl, hj, hacc, hown, hb⟩ := hrel.out
    obtain ⟨wo, hwo⟩ : ∃ wo, wo = wr := ⟨_, rfl⟩
    subst hwo
    have Hacc := Lib.hid hacc
    have hal := spreadS_small hacc
    have Hown := Lib.hid hown
    have hbs := hb.size
    obtain ⟨Ao, co, rfl, -, -, -⟩ := (Own.new hown).cells
    clear hrel hacc hown own0 hb0
    by_cases hjl : j < q.length
    · obtain ⟨b, off, y, rfl, -, hbl, hyk, e0, e1, e2, e3⟩ := (hx.below hb hhi).at hjl
      have hw64 : IntKind.i64.wrap (64 - (acc.length : Int)) = 64 - (acc.length : Int) := by rw [IntKind.wrap_i64]; omega
      cases hr : inR y.k 1 (64 - (acc.length : Int))
      · have HN := Lib.hid (spread_bad hyk Hacc.out hr)
        have hz : y.k < 1 ∨ (1 ≤ y.k ∧ 64 - (acc.length : Int) < y.k) := by
          have := inR_no hr
          omega
        clear hr hyk
        rcases hz with hz | ⟨hz, hz2⟩
        · have d1 : decide (y.k < 1) = true := decide_eq_true hz
          have n3 := box_new wo #[.int .i64 y.v.ty, .int .i64 y.v.n, .string y.v.s, .int .i64 y.k] 108 3
          simp only [List.getElem?_toArray, List.getElem?_cons_zero, List.getElem?_cons_succ] at n3
          have HBn := Lib.hid (hb.alloc hbs (.cells #[.int .i64 y.v.ty, .int .i64 y.v.n, .string y.v.s, .int .i64 y.k] 108))
          go_wp2_with fail
          go_ret
          exact ⟨_, rfl, by rw [HN.out]; exact own_none_s _ _ _ _ _, HBn.out⟩
        · have d1 : decide (y.k < 1) = false := decide_eq_false (by omega)
          have d2 : decide (64 - (acc.length : Int) < y.k) = true := decide_eq_true hz2
          have n3 := box_new wo #[.int .i64 y.v.ty, .int .i64 y.v.n, .string y.v.s, .int .i64 y.k] 108 3
          simp only [List.getElem?_toArray, List.getElem?_cons_zero, List.getElem?_cons_succ] at n3
          have HBn := Lib.hid (hb.alloc hbs (.cells #[.int .i64 y.v.ty, .int .i64 y.v.n, .string y.v.s, .int .i64 y.k] 108))
          go_wp2_with fail
          go_ret
          exact ⟨_, rfl, by rw [HN.out]; exact own_none_s _ _ _ _ _, HBn.out⟩
      · have HS := Lib.hid (spread_step hyk Hacc.out hr)
        have hz := inR_yes hr
        obtain ⟨K, hK⟩ := Int.eq_ofNat_of_zero_le (show 0 ≤ y.k by omega)
        rw [hK] at hz HS e3
        have HS := Lib.hid (by have h := HS.out; rw [Int.toNat_natCast] at h; exact h)
        have hK64 : acc.length + K ≤ 64 := by omega
        have d1 : decide ((K : Int) < 1) = false := decide_eq_false (by omega)
        have d2 : decide (64 - (acc.length : Int) < (K : Int)) = false := decide_eq_false (by omega)
        have hne0 : Hid (∀ g, (Value.slice Ao acc.length co).ownBlock = some g → g ≠ wo.heap.size) := Lib.hid (fun g h => by have := Hown.out.lt g h; omega)
        have Hq := Lib.hid (show y.cells = [.int .i64 y.v.ty, .int .i64 y.v.n, .string y.v.s, .int .i64 y.k] from rfl)
        have n0 := box_new wo #[.int .i64 y.v.ty, .int .i64 y.v.n, .string y.v.s, .int .i64 K] 108 0
        have n1 := box_new wo #[.int .i64 y.v.ty, .int .i64 y.v.n, .string y.v.s, .int .i64 K] 108 1
        have n2 := box_new wo #[.int .i64 y.v.ty, .int .i64 y.v.n, .string y.v.s, .int .i64 K] 108 2
        have n3 := box_new wo #[.int .i64 y.v.ty, .int .i64 y.v.n, .string y.v.s, .int .i64 K] 108 3
        simp only [List.getElem?_toArray, List.getElem?_cons_zero, List.getElem?_cons_succ] at n0 n1 n2 n3
        have HO0 := Lib.hid (Hown.out.alloc (.cells #[.int .i64 y.v.ty, .int .i64 y.v.n, .string y.v.s, .int .i64 K] 108))
        have HB0 := Lib.hid (hb.alloc hbs (.cells #[.int .i64 y.v.ty, .int .i64 y.v.n, .string y.v.s, .int .i64 K] 108))
        have hc0 := Lib.hid (⟨n0, n1, n2, n3⟩ : _ ∧ _ ∧ _ ∧ _)
        clear hr hyk hz hK Hq
        go_wp2_with fail
        clear hb hbs e0 e1 e2 e3 n0 n1 n2 n3 Hown
        go_loopw [3, 6] (fun o i wr => ∃ (t : Nat), Hid (i = .int .i64 t ∧ t ≤ K ∧ (∀ g, o.ownBlock = some g → g ≠ wo.heap.size) ∧ (wr.cell? ⟨wo.heap.size, 0, none⟩ = some (.int .i64 y.v.ty) ∧ wr.cell? ⟨wo.heap.size, 1, none⟩ = some (.int .i64 y.v.n) ∧ wr.cell? ⟨wo.heap.size, 2, none⟩ = some (.string y.v.s) ∧ wr.cell? ⟨wo.heap.size, 3, none⟩ = some (.int .i64 (K : Int))) ∧ wr.ownsRow w.heap.size 83 3 o (acc ++ List.replicate t y.v).length ((acc ++ List.replicate t y.v).flatMap V.cells) ∧ Below w.heap.size w wr)) (fun _ i _ => K - (intOf i).toNat)
        case atStart => exact ⟨0, Lib.hid ⟨rfl, Nat.zero_le _, hne0.out, hc0.out, by simpa using HO0.out, HB0.out⟩⟩
        case round =>
          obtain ⟨t, hrel⟩ := hrel
          obtain ⟨rfl, ht, hne, ⟨c0, c1, c2, c3⟩, hown, hb⟩ := hrel.out
          have hbs := hb.size
          obtain ⟨zs, hzs⟩ : ∃ zs, acc ++ List.replicate t y.v = zs := ⟨_, rfl⟩
          have hzl : zs.length ≤ 64 := by rw [← hzs, List.length_append, List.length_replicate]; omega
          rw [hzs] at hown
          have HZ := Lib.hid hzs
          have HOw := Lib.hid hown
          have Hne := Lib.hid hne
          obtain ⟨Ap, cp, rfl, -, -, -⟩ := (Own.new hown).cells
          clear hrel hown hne hzs HO0 HB0 hc0 hne0
          by_cases htk : t < K
          · go_wp2_with (at_builtin; refine wpl_app rfl _ _ 42 rfl w.heap.size 83 i0 _ 3 32 Tryz.underlying42 hif.out hz0.out hz1.out hz2.out rfl (by decide) (by decide) (HOw.out.alloc _) rfl (heap_alloc_new _ _) rfl rfl (by simp [Value.oneCell']) (by omega) (by simp; omega) ?_)
            intro v4 w4 hown4 hgrow hnb
            have HB4 := Lib.hid (Below.grown (hb.alloc hbs _) hgrow (fun g hg => (HOw.out.lt g hg).1) (Nat.le_refl _))
            have HO4 := Lib.hid (show w4.ownsRow w.heap.size 83 3 v4 (acc ++ List.replicate (t + 1) y.v).length ((acc ++ List.replicate (t + 1) y.v).flatMap V.cells) by
              rw [rep_step, HZ.out, List.flatMap_append, List.length_append]
              exact hown4)
            have HC4 := Lib.hid (⟨cell_app (cell_keep c0 (up_a1 _ _)) hgrow Hne.out, cell_app (cell_keep c1 (up_a1 _ _)) hgrow Hne.out, cell_app (cell_keep c2 (up_a1 _ _)) hgrow Hne.out, cell_app (cell_keep c3 (up_a1 _ _)) hgrow Hne.out⟩ : _ ∧ _ ∧ _ ∧ _)
            have HN4 : Hid (∀ g, v4.ownBlock = some g → g ≠ wo.heap.size) := Lib.hid (fun g hg => by
              have hlt := block_lt_of_cell c0
              rcases hnb g hg with h | h
              · exact Hne.out g h
              · try simp at h
                show g ≠ _
                have hlt2 : wo.heap.size < wr.heap.size := hlt
                omega)
            clear hown4 hgrow hnb c0 c1 c2 c3
            go_wp2_with fail
            go_roundw
            case rel => exact ⟨t + 1, Lib.hid ⟨by go_num, by omega, HN4.out, HC4.out, HO4.out, HB4.out⟩⟩
            case measure => simp [intOf]; omega
          · obtain rfl : t = K := by omega
            have HS2 := Lib.hid (by have h := HS.out; rw [HZ.out] at h; exact h)
            clear HS HZ
            go_wp2_with fail
            go_roundw
            case rel => exact ⟨j + 1, zs, Lib.hid ⟨by go_num, by omega, HS2.out, HOw.out, hb⟩⟩
            case measure => simp [intOf]; omega
    · obtain rfl : j = q.length := by omega
      have HE := Lib.hid (spread_done Hacc.out)
      go_wp2_with fail
      go_ret
      exact ⟨_, rfl, by rw [HE.out]; exact Own.new Hown.out, hb⟩
set_option maxHeartbeats 4000000 in
set_option maxRecDepth 20000 in
theorem spec_DecRuns (b : List UInt8) (x : Value) (ty k : Int) (w : World) {lo hi : Nat} (hx : RdB w lo hi x b) (hhi : hi ≤ w.heap.size) (hbl : b.length ≤ 1000000000) :
    Calls Tryz.prog 81 #[x, .int .i64 ty, .int .i64 k] w fun e w' => ∃ r, e = .returned (.tuple #[r, .bool (decRuns b ty k).isSome]) ∧ Own 83 3 w' w.heap.size w'.heap.size r ((decRuns b ty k).getD []).length (((decRuns b ty k).getD []).flatMap V.cells) ∧ Below w.heap.size w w' := by
  obtain ⟨A, c, rfl, hl, hl2⟩ := hx.form
  obtain ⟨i0, hif, hz0, hz1, hz2⟩ := info_parts info_Ru
  replace hif := Lib.hid hif
  replace hz0 := Lib.hid hz0
  replace hz1 := Lib.hid hz1
  replace hz2 := Lib.hid hz2
  have hb0 := up_a1 w (.cells #[] 83)
  have own0 := World.ownsRow_made w (base := w.heap.size) (e := 83) (size := 3) #[] 0 (Nat.le_refl _) (by decide) rfl
  have Own0 := Lib.hid (Own.new own0)
  clear own0
  have hx0 := hx.below hb0 hhi
  have hsz0 := hb0.size
  obtain ⟨W0, hW0⟩ : ∃ W0, (w.alloc (.cells #[] 83)) = W0 := ⟨_, rfl⟩
  have hsz1 : w.heap.size + 1 ≤ W0.heap.size := by rw [← hW0]; simp
  rw [hW0] at hb0 Own0 hx0 hsz0
  have HW0 := Lib.hid hW0
  have Hsz1 := Lib.hid hsz1
  clear hW0 hx hsz1
  have HG1 := Lib.hid (q_spec_GetNum b _ 0 W0 hx0)
  cases hr : rdNum b with
  | none =>
    have HG := Lib.hid (decRuns_1 (ty := ty) (k := k) hr)
    have HT := Lib.hid (by have h := HG1.out; rw [show (0 : Int) = ((0 : Nat) : Int) from rfl, getNum_none (p := 0) (by rw [List.drop_zero]; exact hr)] at h; exact h)
    clear HG1 hr
    go_enter Tryz.func81, Tryz.ntmps81
    go_wp2_with fail
    rw [HW0.out]
    refine HT.out.mono ?_
    rintro e w1 ⟨rfl, rfl⟩
    go_wp2_with fail
    refine bodyPost_ret (v := .tuple #[.slice (some ⟨w.heap.size, 0, none⟩) 0 0, .bool false]) (by simp [results, Tryz.results81, go_sem]) rfl ⟨_, by rw [HG.out]; rfl, ?_, below_go0 hb0 (Below.refl W0.heap.size W0)⟩
    rw [HG.out]
    exact (Own0.out.below (Below.refl W0.heap.size W0) (Nat.le_refl _)).more (Nat.le_refl _) (Below.refl W0.heap.size W0).size
  | some np =>
    obtain ⟨n, p⟩ := np
    have HT := Lib.hid (by have h := HG1.out; rw [show (0 : Int) = ((0 : Nat) : Int) from rfl, getNum_some (p := 0) (by rw [List.drop_zero]; exact hr), Nat.zero_add] at h; exact h)
    have hpl := rdNum_le' hr
    clear HG1
    have hQk := q_spec_l1In k 1 64 W0
    cases hk : inR k 1 64
    · rw [hk] at hQk
      have HQk := Lib.hid hQk
      have HG := Lib.hid (decRuns_k (b := b) (ty := ty) hk)
      clear hk hQk hr
      go_enter Tryz.func81, Tryz.ntmps81
      go_wp2_with fail
      rw [HW0.out]
      refine HT.out.mono ?_
      rintro e w1 ⟨rfl, rfl⟩
      go_wp2_with fail
      refine HQk.out.mono ?_
      rintro e w1 ⟨rfl, rfl⟩
      go_wp2_with fail
      refine bodyPost_ret (v := .tuple #[.slice (some ⟨w.heap.size, 0, none⟩) 0 0, .bool false]) (by simp [results, Tryz.results81, go_sem]) rfl ⟨_, by rw [HG.out]; rfl, ?_, below_go0 hb0 (Below.refl W0.heap.size W0)⟩
      rw [HG.out]
      exact (Own0.out.below (Below.refl W0.heap.size W0) (Nat.le_refl _)).more (Nat.le_refl _) (Below.refl W0.heap.size W0).size
    rw [hk] at hQk
    have HQk := Lib.hid hQk
    have Hk := Lib.hid hk
    clear hk hQk
    have hQ := q_spec_l1In n 1 64 W0
    cases hn : inR n 1 64
    · rw [hn] at hQ
      have HQ := Lib.hid hQ
      have HG := Lib.hid (decRuns_2 (ty := ty) (k := k) hr hn)
      clear hn hQ hr
      go_enter Tryz.func81, Tryz.ntmps81
      go_wp2_with fail
      rw [HW0.out]
      refine HT.out.mono ?_
      rintro e w1 ⟨rfl, rfl⟩
      go_wp2_with fail
      refine HQk.out.mono ?_
      rintro e w1 ⟨rfl, rfl⟩
      go_wp2_with fail
      refine HQ.out.mono ?_
      rintro e w1 ⟨rfl, rfl⟩
      go_wp2_with fail
      refine bodyPost_ret (v := .tuple #[.slice (some ⟨w.heap.size, 0, none⟩) 0 0, .bool false]) (by simp [results, Tryz.results81, go_sem]) rfl ⟨_, by rw [HG.out]; rfl, ?_, below_go0 hb0 (Below.refl W0.heap.size W0)⟩
      rw [HG.out]
      exact (Own0.out.below (Below.refl W0.heap.size W0) (Nat.le_refl _)).more (Nat.le_refl _) (Below.refl W0.heap.size W0).size
    rw [hn] at hQ
    have HQ := Lib.hid hQ
    have hnr := inR_yes hn
    obtain ⟨n, rfl⟩ := Int.eq_ofNat_of_zero_le (show 0 ≤ n by omega)
    have hn64 : n ≤ 64 := by omega
    have Hr := Lib.hid hr
    have Hn := Lib.hid hn
    have HST := Lib.hid (RdSt.start (f := rdRun ty) n (b.drop p))
    have HGN := Lib.hid (fun (z : Nat) W (h : Below W0.heap.size W0 W) => q_spec_GetNum b _ (z : Int) W (hx0.below h (Nat.le_trans hhi hsz0)))
    have HGV := Lib.hid (fun (z : Int) W (h : Below W0.heap.size W0 W) => spec_GetVal b _ z ty W (hx0.below h (Nat.le_trans hhi hsz0)) (Nat.le_trans (Nat.le_trans hhi hsz0) h.size) hbl)
    have own1 := World.ownsRow_made W0 (base := (w.heap.size + 1)) (e := 108) (size := 4) #[] 0 Hsz1.out (by decide) rfl
    have hb1 := up_a1 W0 (.cells #[] 108)
    have hx00 := Lib.hid hx0
    have HszE := Lib.hid (show W0.heap.size ≤ (w.heap.size + 1) by rw [← HW0.out]; simp)
    clear hr hn hQ hnr hx0
    go_enter Tryz.func81, Tryz.ntmps81
    go_wp2_with fail
    rw [HW0.out]
    refine HT.out.mono ?_
    rintro e w1 ⟨rfl, rfl⟩
    go_wp2_with fail
    refine HQk.out.mono ?_
    rintro e w1 ⟨rfl, rfl⟩
    go_wp2_with fail
    refine HQ.out.mono ?_
    rintro e w1 ⟨rfl, rfl⟩
    clear HT HQ
    go_wp2_with fail
    go_loopw [10, 12, 13] (fun a o i wr => ∃ (j m : Nat) (q : List Ru), Hid (a = .int .i64 ((p + m : Nat) : Int) ∧ i = .int .i64 j ∧ p + m ≤ b.length ∧ RdSt (rdRun ty) n (b.drop p) j q m ∧ wr.ownsRow (w.heap.size + 1) 108 4 o q.length (q.flatMap Ru.cells) ∧ Below W0.heap.size W0 wr)) (fun _ _ i _ => n - (intOf i).toNat)
    case atStart => exact ⟨0, 0, [], Lib.hid ⟨rfl, rfl, hpl, HST.out, own1, hb1⟩⟩
    case round =>
      obtain ⟨j, m, q, hrel⟩ := hrel
      obtain ⟨rfl, rfl, hpm, hst, hown, hb⟩ := hrel.out
      have hj := hst.1
      have hqj := Lib.hid hst.2.1
      have hq64 : q.length ≤ 64 := by rw [hqj.out]; omega
      have Hst := Lib.hid hst
      have Hown := Lib.hid hown
      have hbs := hb.size
      have hbs1 : (w.heap.size + 1) ≤ wr.heap.size := Nat.le_trans Hsz1.out hbs
      obtain ⟨Ao, co, rfl, -, -, -⟩ := (Own.new hown).cells
      clear hrel hst hown own1 hb1 HST
      by_cases hjk : j < n
      · have hGN := HGN.out (p + m) wr hb
        cases hrn : rdNum (b.drop (p + m)) with
        | none =>
          rw [getNum_none hrn] at hGN
          have HN := Lib.hid (decRuns_3 (ty := ty) (k := k) Hr.out (RdSt.bad Hst.out hjk (by rw [List.drop_drop]; exact rdRun_1 hrn)))
          have HGn := Lib.hid hGN
          clear hrn hGN
          go_wp2_with fail
          refine HGn.out.mono ?_
          rintro e w1 ⟨rfl, rfl⟩
          have HGv := Lib.hid (HGV.out 0 wr hb)
          generalize getVal b 0 ty = gv at *
          obtain ⟨⟨v1, v2, v3⟩, gnx, gok⟩ := gv
          go_wp2_with fail
          refine HGv.out.mono ?_
          rintro e w1 ⟨rfl, hbv⟩
          have hbvw := below_go hb hbv
          have HBx := Lib.hid (hbvw.alloc hbvw.size (.cells #[.int .i64 v1, .int .i64 v2, .string v3] 83))
          clear hbv
          go_wp2_with fail
          refine bodyPost_ret (v := .tuple #[.slice (some ⟨w.heap.size, 0, none⟩) 0 0, .bool false]) (by simp [results, Tryz.results81, go_sem]) rfl ⟨_, by rw [HN.out]; rfl, ?_, below_go0 hb0 (HBx.out)⟩
          rw [HN.out]
          exact (Own0.out.below (HBx.out) (Nat.le_refl _)).more (Nat.le_refl _) (HBx.out).size
        | some cp =>
          obtain ⟨cnt, pj⟩ := cp
          rw [getNum_some hrn] at hGN
          have HGn := Lib.hid hGN
          have hpj := rdNum_le' hrn
          rw [List.length_drop] at hpj
          have hG := HGV.out ((p + m + pj : Nat) : Int) wr hb
          obtain ⟨nn, hnn⟩ : ∃ nn, p + m + pj = nn := ⟨_, rfl⟩
          rw [hnn] at hG HGn
          clear hGN
          cases hr : rdVal ty (b.drop nn) with
          | none =>
            rw [getVal_none hr] at hG
            have HN := Lib.hid (decRuns_3 (ty := ty) (k := k) Hr.out (RdSt.bad Hst.out hjk (by rw [List.drop_drop]; exact rdRun_2 hrn (by rw [List.drop_drop, hnn]; exact hr))))
            have HG := Lib.hid hG
            clear hr hG hrn
            go_wp2_with fail
            refine HGn.out.mono ?_
            rintro e w1 ⟨rfl, rfl⟩
            go_wp2_with fail
            refine HG.out.mono ?_
            rintro e w1 ⟨rfl, hb1⟩
            have hb1w := below_go hb hb1
            have hs1 := hb1w.size
            have HBx := Lib.hid (hb1w.alloc hs1 (.cells #[.int .i64 V.zero.ty, .int .i64 V.zero.n, .string V.zero.s] 83))
            clear hb1
            go_wp2_with fail
            refine bodyPost_ret (v := .tuple #[.slice (some ⟨w.heap.size, 0, none⟩) 0 0, .bool false]) (by simp [results, Tryz.results81, go_sem]) rfl ⟨_, by rw [HN.out]; rfl, ?_, below_go0 hb0 (HBx.out)⟩
            rw [HN.out]
            exact (Own0.out.below (HBx.out) (Nat.le_refl _)).more (Nat.le_refl _) (HBx.out).size
          | some x =>
            obtain ⟨v, jj⟩ := x
            rw [getVal_some hr] at hG
            have Hnx := Lib.hid (RdSt.next Hst.out hjk (by rw [List.drop_drop]; exact rdRun_3 hrn (by rw [List.drop_drop, hnn]; exact hr)))
            have hjl := rdVal_le hr
            rw [List.length_drop] at hjl
            have HG := Lib.hid hG
            clear hr hG hrn
            obtain ⟨nx, hnx⟩ : ∃ nx, nn + jj = nx := ⟨_, rfl⟩
            rw [hnx] at HG
            go_wp2_with fail
            refine HGn.out.mono ?_
            rintro e w1 ⟨rfl, rfl⟩
            go_wp2_with fail
            refine HG.out.mono ?_
            rintro e w1 ⟨rfl, hb1⟩
            have HO1 := Lib.hid ((owns_below Hown.out hb1).alloc (.cells #[.int .i64 v.ty, .int .i64 v.n, .string v.s] 83))
            have hb1w := below_go hb hb1
            have hs1 := hb1w.size
            have hs1b : (w.heap.size + 1) ≤ w1.heap.size := Nat.le_trans Hsz1.out hs1
            have hbx := hb1w.alloc hs1 (.cells #[.int .i64 v.ty, .int .i64 v.n, .string v.s] 83)
            have hbxs := hbx.size
            have m0 := box_new w1 #[.int .i64 v.ty, .int .i64 v.n, .string v.s] 83 0
            have m1 := box_new w1 #[.int .i64 v.ty, .int .i64 v.n, .string v.s] 83 1
            have m2 := box_new w1 #[.int .i64 v.ty, .int .i64 v.n, .string v.s] 83 2
            simp only [List.getElem?_toArray, List.getElem?_cons_zero, List.getElem?_cons_succ] at m0 m1 m2
            have hblk : ((w1.alloc (.cells #[.int .i64 v.ty, .int .i64 v.n, .string v.s] 83)).alloc (.cells #[.int .i64 v.ty, .int .i64 v.n, .string v.s, .int .i64 cnt] 108)).heap[w1.heap.size + 1]? = some (.cells #[.int .i64 v.ty, .int .i64 v.n, .string v.s, .int .i64 cnt] 108) := by
              have h := heap_alloc_new (w1.alloc (.cells #[.int .i64 v.ty, .int .i64 v.n, .string v.s] 83)) (.cells #[.int .i64 v.ty, .int .i64 v.n, .string v.s, .int .i64 cnt] 108)
              rw [World.size_alloc] at h
              exact h
            have Hblk := Lib.hid hblk
            clear hblk hb1 HG Hown HGn
            go_wp2_with (at_builtin; refine wpl_app rfl _ _ 106 rfl (w.heap.size + 1) 108 i0 _ 4 40 Tryz.underlying106 hif.out hz0.out hz1.out hz2.out rfl (by decide) (by decide) (HO1.out.alloc _) rfl Hblk.out rfl rfl (by simp [Value.oneCell']) (by omega) (by simp; omega) ?_)
            intro v4 w4 hown4 hgrow _
            have HB4 := Lib.hid (Below.grown (hbx.alloc hbxs _) hgrow (fun g hg => Nat.le_trans HszE.out (HO1.out.lt g hg).1) (Nat.le_refl _))
            have HO4 := Lib.hid (show w4.ownsRow (w.heap.size + 1) 108 4 v4 (q ++ [(⟨v, cnt⟩ : Ru)]).length ((q ++ [(⟨v, cnt⟩ : Ru)]).flatMap Ru.cells) by
              rw [List.flatMap_append, List.length_append]
              exact hown4)
            clear hown4 hgrow HO1 Hblk m0 m1 m2
            go_wp2_with fail
            go_roundw
            case rel => exact ⟨j + 1, m + (pj + jj), q ++ [⟨v, cnt⟩], Lib.hid ⟨by rw [← hnx, ← hnn]; go_num, by go_num, by omega, Hnx.out, HO4.out, HB4.out⟩⟩
            case measure => simp [intOf]; omega
      · obtain rfl : j = n := by omega
        have Hv := Lib.hid (RdSt.done Hst.out)
        have HD := Lib.hid (decRuns_4 (ty := ty) (k := k) Hr.out Hn.out Hv.out)
        have HL2 := Lib.hid (runs_rd_small Hv.out)
        have hLl := spread_len q
        have HSp := Lib.hid (spec_Spread q _ wr (Own.new Hown.out).rdU (Nat.le_refl _))
        clear Hst HGV HGN Hown Hv
        generalize spread q = L at *
        go_wp2_with fail
        refine HSp.out.mono ?_
        rintro e w3 ⟨_, rfl, ho3, hb3⟩
        have hb30 := below_go hb hb3
        have hrd := ho3.rdV
        obtain ⟨A3, c3, rfl, -, -⟩ := hrd.form
        have Ho3 := Lib.hid (ho3.more (show w.heap.size ≤ wr.heap.size from Nat.le_trans hsz0 hbs) (Nat.le_refl _))
        have Hrd := Lib.hid hrd
        clear ho3 hrd HSp hb3
        by_cases hlk : (L.length : Int) = k
        rotate_left
        · have hd : ((L.length : Int) != k) = true := by simp [hlk]
          have HN := Lib.hid (show decRuns b ty k = none by rw [HD.out, decide_eq_false hlk]; simp)
          clear hlk
          go_wp2_with fail
          refine bodyPost_ret (v := .tuple #[.slice (some ⟨w.heap.size, 0, none⟩) 0 0, .bool false]) (by simp [results, Tryz.results81, go_sem]) rfl ⟨_, by rw [HN.out]; rfl, ?_, below_go0 hb0 (hb30)⟩
          rw [HN.out]
          exact (Own0.out.below (hb30) (Nat.le_refl _)).more (Nat.le_refl _) (hb30).size
        have hd : ((L.length : Int) != k) = false := by simp [hlk]
        have HD2 := Lib.hid (show decRuns b ty k = if eqd b (encRuns L) then some L else none by rw [HD.out, decide_eq_true hlk, Hk.out, Bool.true_and, Bool.true_and])
        have HE := Lib.hid (spec_EncRuns L _ w3 Hrd.out (Nat.le_refl _) HL2.out)
        clear hlk HD Hrd
        go_wp2_with fail
        refine HE.out.mono ?_
        rintro e w4 ⟨r4, rfl, ho4, hb4⟩
        have hb4w := below_go hb30 hb4
        have hre := ho4.rdBc
        obtain ⟨A4, c4, rfl, -, -⟩ := hre.form
        have hS := q_spec_l5Same (encRuns L) b _ _ w4 hre (hx00.out.below hb4w (Nat.le_trans hhi hsz0))
        have Ho4 := Lib.hid ((Ho3.out.below hb4 (Nat.le_refl _)).more (Nat.le_refl _) hb4.size)
        clear Ho3 hb4 ho4 hre HE
        cases he : eqd (encRuns L) b
        · rw [he] at hS
          have HS := Lib.hid hS
          have HG := Lib.hid (show decRuns b ty k = none by rw [HD2.out, eqd_comm, he]; rfl)
          clear hS he
          generalize encRuns L = en at *
          go_wp2_with fail
          refine HS.out.mono ?_
          rintro e w5 ⟨rfl, rfl⟩
          go_wp2_with fail
          refine bodyPost_ret (v := .tuple #[.slice (some ⟨w.heap.size, 0, none⟩) 0 0, .bool false]) (by simp [results, Tryz.results81, go_sem]) rfl ⟨_, by rw [HG.out]; rfl, ?_, below_go0 hb0 (hb4w)⟩
          rw [HG.out]
          exact (Own0.out.below (hb4w) (Nat.le_refl _)).more (Nat.le_refl _) (hb4w).size
        · rw [he] at hS
          have HS := Lib.hid hS
          have HG := Lib.hid (show decRuns b ty k = some L by rw [HD2.out, eqd_comm, he]; rfl)
          clear hS he
          generalize encRuns L = en at *
          go_wp2_with fail
          refine HS.out.mono ?_
          rintro e w5 ⟨rfl, rfl⟩
          go_wp2_with fail
          refine bodyPost_ret (v := .tuple #[.slice A3 L.length c3, .bool true]) (by simp [results, Tryz.results81, go_sem]) rfl ⟨_, by rw [HG.out]; rfl, ?_, below_go0 hb0 hb4w⟩
          rw [HG.out]
          exact Ho4.out
set_option maxHeartbeats 4000000 in
set_option maxRecDepth 20000 in
theorem impl_DecRuns (b : List UInt8) (x : Value) (ty k : Int) (w : World) {lo hi : Nat} (hx : RdB w lo hi x b) (hhi : hi ≤ w.heap.size) (hbl : b.length ≤ 1000000000) :
    Calls Tryz.prog 87 #[x, .int .i64 ty, .int .i64 k] w fun e w' => ∃ r, e = .returned (.tuple #[r, .bool (decRuns b ty k).isSome]) ∧ Own 83 3 w' w.heap.size w'.heap.size r ((decRuns b ty k).getD []).length (((decRuns b ty k).getD []).flatMap V.cells) ∧ Below w.heap.size w w' := by
  obtain ⟨A, c, rfl, hl, hl2⟩ := hx.form
  obtain ⟨i0, hif, hz0, hz1, hz2⟩ := info_parts info_Ru
  replace hif := Lib.hid hif
  replace hz0 := Lib.hid hz0
  replace hz1 := Lib.hid hz1
  replace hz2 := Lib.hid hz2
  have hb0 := Below.refl w.heap.size w
  have hx0 := hx
  have hsz0 := Nat.le_refl w.heap.size
  obtain ⟨W0, hW0⟩ : ∃ W0, w = W0 := ⟨_, rfl⟩
  have Hsz1 := Lib.hid (show w.heap.size ≤ W0.heap.size by rw [hW0]; exact Nat.le_refl _)
  rw [show Below w.heap.size w w = Below w.heap.size w W0 by rw [← hW0]] at hb0
  rw [show RdB w lo hi (.slice A b.length c) b = RdB W0 lo hi (.slice A b.length c) b by rw [← hW0]] at hx0
  have HW0 := Lib.hid hW0
  have hsz0 := hb0.size
  clear hW0 hx
  have HG1 := Lib.hid (q_impl_GetNum b _ 0 W0 hx0)
  cases hr : rdNum b with
  | none =>
    have HG := Lib.hid (decRuns_1 (ty := ty) (k := k) hr)
    have HT := Lib.hid (by have h := HG1.out; rw [show (0 : Int) = ((0 : Nat) : Int) from rfl, getNum_none (p := 0) (by rw [List.drop_zero]; exact hr)] at h; exact h)
    clear HG1 hr
    go_enter Tryz.func87, Tryz.ntmps87
    go_wp2_with fail
    rw [HW0.out]
    refine HT.out.mono ?_
    rintro e w1 ⟨rfl, rfl⟩
    go_wp2_with fail
    refine bodyPost_ret (v := .tuple #[.slice none 0 0, .bool false]) (by simp [results, Tryz.results87, go_sem]) rfl ⟨_, by rw [HG.out]; rfl, ?_, below_go0 hb0 (Below.refl W0.heap.size W0)⟩
    rw [HG.out]
    exact own_none_s _ _ _ _ _
  | some np =>
    obtain ⟨n, p⟩ := np
    have HT := Lib.hid (by have h := HG1.out; rw [show (0 : Int) = ((0 : Nat) : Int) from rfl, getNum_some (p := 0) (by rw [List.drop_zero]; exact hr), Nat.zero_add] at h; exact h)
    have hpl := rdNum_le' hr
    clear HG1
    have hQ := q_impl_within n 1 64 W0
    cases hn : inR n 1 64
    · rw [hn] at hQ
      have HQ := Lib.hid hQ
      have HG := Lib.hid (decRuns_2 (ty := ty) (k := k) hr hn)
      clear hn hQ hr
      go_enter Tryz.func87, Tryz.ntmps87
      go_wp2_with fail
      rw [HW0.out]
      refine HT.out.mono ?_
      rintro e w1 ⟨rfl, rfl⟩
      go_wp2_with fail
      refine HQ.out.mono ?_
      rintro e w1 ⟨rfl, rfl⟩
      go_wp2_with fail
      refine bodyPost_ret (v := .tuple #[.slice none 0 0, .bool false]) (by simp [results, Tryz.results87, go_sem]) rfl ⟨_, by rw [HG.out]; rfl, ?_, below_go0 hb0 (Below.refl W0.heap.size W0)⟩
      rw [HG.out]
      exact own_none_s _ _ _ _ _
    rw [hn] at hQ
    have HQ := Lib.hid hQ
    have hnr := inR_yes hn
    obtain ⟨n, rfl⟩ := Int.eq_ofNat_of_zero_le (show 0 ≤ n by omega)
    have hn64 : n ≤ 64 := by omega
    have Hr := Lib.hid hr
    have Hn := Lib.hid hn
    have HST := Lib.hid (RdSt.start (f := rdRun ty) n (b.drop p))
    have HGN := Lib.hid (fun (z : Nat) W (h : Below W0.heap.size W0 W) => q_impl_GetNum b _ (z : Int) W (hx0.below h (Nat.le_trans hhi hsz0)))
    have HGV := Lib.hid (fun (z : Int) W (h : Below W0.heap.size W0 W) => impl_GetVal b _ z ty W (hx0.below h (Nat.le_trans hhi hsz0)) (Nat.le_trans (Nat.le_trans hhi hsz0) h.size) hbl)
    have own1 := World.ownsRow_made W0 (base := w.heap.size) (e := 108) (size := 4) #[] 0 Hsz1.out (by decide) rfl
    have hb1 := up_a1 W0 (.cells #[] 108)
    have hx00 := Lib.hid hx0
    have HszE := Lib.hid (show W0.heap.size ≤ w.heap.size by rw [← HW0.out]; exact Nat.le_refl _)
    clear hr hn hQ hnr hx0
    go_enter Tryz.func87, Tryz.ntmps87
    go_wp2_with fail
    rw [HW0.out]
    refine HT.out.mono ?_
    rintro e w1 ⟨rfl, rfl⟩
    go_wp2_with fail
    refine HQ.out.mono ?_
    rintro e w1 ⟨rfl, rfl⟩
    clear HT HQ
    go_wp2_with fail
    go_loopw [9, 11, 12] (fun a o i wr => ∃ (j m : Nat) (q : List Ru), Hid (a = .int .i64 ((p + m : Nat) : Int) ∧ i = .int .i64 j ∧ p + m ≤ b.length ∧ RdSt (rdRun ty) n (b.drop p) j q m ∧ wr.ownsRow w.heap.size 108 4 o q.length (q.flatMap Ru.cells) ∧ Below W0.heap.size W0 wr)) (fun _ _ i _ => n - (intOf i).toNat)
    case atStart => exact ⟨0, 0, [], Lib.hid ⟨rfl, rfl, hpl, HST.out, own1, hb1⟩⟩
    case round =>
      obtain ⟨j, m, q, hrel⟩ := hrel
      obtain ⟨rfl, rfl, hpm, hst, hown, hb⟩ := hrel.out
      have hj := hst.1
      have hqj := Lib.hid hst.2.1
      have hq64 : q.length ≤ 64 := by rw [hqj.out]; omega
      have Hst := Lib.hid hst
      have Hown := Lib.hid hown
      have hbs := hb.size
      have hbs1 : w.heap.size ≤ wr.heap.size := Nat.le_trans Hsz1.out hbs
      obtain ⟨Ao, co, rfl, -, -, -⟩ := (Own.new hown).cells
      clear hrel hst hown own1 hb1 HST
      by_cases hjk : j < n
      · have hGN := HGN.out (p + m) wr hb
        cases hrn : rdNum (b.drop (p + m)) with
        | none =>
          rw [getNum_none hrn] at hGN
          have HN := Lib.hid (decRuns_3 (ty := ty) (k := k) Hr.out (RdSt.bad Hst.out hjk (by rw [List.drop_drop]; exact rdRun_1 hrn)))
          have HGn := Lib.hid hGN
          clear hrn hGN
          go_wp2_with fail
          refine HGn.out.mono ?_
          rintro e w1 ⟨rfl, rfl⟩
          go_wp2_with fail
          refine bodyPost_ret (v := .tuple #[.slice none 0 0, .bool false]) (by simp [results, Tryz.results87, go_sem]) rfl ⟨_, by rw [HN.out]; rfl, ?_, below_go0 hb0 (hb)⟩
          rw [HN.out]
          exact own_none_s _ _ _ _ _
        | some cp =>
          obtain ⟨cnt, pj⟩ := cp
          rw [getNum_some hrn] at hGN
          have HGn := Lib.hid hGN
          have hpj := rdNum_le' hrn
          rw [List.length_drop] at hpj
          have hG := HGV.out ((p + m + pj : Nat) : Int) wr hb
          obtain ⟨nn, hnn⟩ : ∃ nn, p + m + pj = nn := ⟨_, rfl⟩
          rw [hnn] at hG HGn
          clear hGN
          cases hr : rdVal ty (b.drop nn) with
          | none =>
            rw [getVal_none hr] at hG
            have HN := Lib.hid (decRuns_3 (ty := ty) (k := k) Hr.out (RdSt.bad Hst.out hjk (by rw [List.drop_drop]; exact rdRun_2 hrn (by rw [List.drop_drop, hnn]; exact hr))))
            have HG := Lib.hid hG
            clear hr hG hrn
            go_wp2_with fail
            refine HGn.out.mono ?_
            rintro e w1 ⟨rfl, rfl⟩
            go_wp2_with fail
            refine HG.out.mono ?_
            rintro e w1 ⟨rfl, hb1⟩
            have hb1w := below_go hb hb1
            have hs1 := hb1w.size
            have HBx := Lib.hid (hb1w.alloc hs1 (.cells #[.int .i64 V.zero.ty, .int .i64 V.zero.n, .string V.zero.s] 83))
            clear hb1
            go_wp2_with fail
            refine bodyPost_ret (v := .tuple #[.slice none 0 0, .bool false]) (by simp [results, Tryz.results87, go_sem]) rfl ⟨_, by rw [HN.out]; rfl, ?_, below_go0 hb0 (HBx.out)⟩
            rw [HN.out]
            exact own_none_s _ _ _ _ _
          | some x =>
            obtain ⟨v, jj⟩ := x
            rw [getVal_some hr] at hG
            have Hnx := Lib.hid (RdSt.next Hst.out hjk (by rw [List.drop_drop]; exact rdRun_3 hrn (by rw [List.drop_drop, hnn]; exact hr)))
            have hjl := rdVal_le hr
            rw [List.length_drop] at hjl
            have HG := Lib.hid hG
            clear hr hG hrn
            obtain ⟨nx, hnx⟩ : ∃ nx, nn + jj = nx := ⟨_, rfl⟩
            rw [hnx] at HG
            go_wp2_with fail
            refine HGn.out.mono ?_
            rintro e w1 ⟨rfl, rfl⟩
            go_wp2_with fail
            refine HG.out.mono ?_
            rintro e w1 ⟨rfl, hb1⟩
            have HO1 := Lib.hid ((owns_below Hown.out hb1).alloc (.cells #[.int .i64 v.ty, .int .i64 v.n, .string v.s] 83))
            have hb1w := below_go hb hb1
            have hs1 := hb1w.size
            have hs1b : w.heap.size ≤ w1.heap.size := Nat.le_trans Hsz1.out hs1
            have hbx := hb1w.alloc hs1 (.cells #[.int .i64 v.ty, .int .i64 v.n, .string v.s] 83)
            have hbxs := hbx.size
            have m0 := box_new w1 #[.int .i64 v.ty, .int .i64 v.n, .string v.s] 83 0
            have m1 := box_new w1 #[.int .i64 v.ty, .int .i64 v.n, .string v.s] 83 1
            have m2 := box_new w1 #[.int .i64 v.ty, .int .i64 v.n, .string v.s] 83 2
            simp only [List.getElem?_toArray, List.getElem?_cons_zero, List.getElem?_cons_succ] at m0 m1 m2
            have hblk : ((w1.alloc (.cells #[.int .i64 v.ty, .int .i64 v.n, .string v.s] 83)).alloc (.cells #[.int .i64 v.ty, .int .i64 v.n, .string v.s, .int .i64 cnt] 108)).heap[w1.heap.size + 1]? = some (.cells #[.int .i64 v.ty, .int .i64 v.n, .string v.s, .int .i64 cnt] 108) := by
              have h := heap_alloc_new (w1.alloc (.cells #[.int .i64 v.ty, .int .i64 v.n, .string v.s] 83)) (.cells #[.int .i64 v.ty, .int .i64 v.n, .string v.s, .int .i64 cnt] 108)
              rw [World.size_alloc] at h
              exact h
            have Hblk := Lib.hid hblk
            clear hblk hb1 HG Hown HGn
            go_wp2_with (at_builtin; refine wpl_app rfl _ _ 106 rfl w.heap.size 108 i0 _ 4 40 Tryz.underlying106 hif.out hz0.out hz1.out hz2.out rfl (by decide) (by decide) (HO1.out.alloc _) rfl Hblk.out rfl rfl (by simp [Value.oneCell']) (by omega) (by simp; omega) ?_)
            intro v4 w4 hown4 hgrow _
            have HB4 := Lib.hid (Below.grown (hbx.alloc hbxs _) hgrow (fun g hg => Nat.le_trans HszE.out (HO1.out.lt g hg).1) (Nat.le_refl _))
            have HO4 := Lib.hid (show w4.ownsRow w.heap.size 108 4 v4 (q ++ [(⟨v, cnt⟩ : Ru)]).length ((q ++ [(⟨v, cnt⟩ : Ru)]).flatMap Ru.cells) by
              rw [List.flatMap_append, List.length_append]
              exact hown4)
            clear hown4 hgrow HO1 Hblk m0 m1 m2
            go_wp2_with fail
            go_roundw
            case rel => exact ⟨j + 1, m + (pj + jj), q ++ [⟨v, cnt⟩], Lib.hid ⟨by rw [← hnx, ← hnn]; go_num, by go_num, by omega, Hnx.out, HO4.out, HB4.out⟩⟩
            case measure => simp [intOf]; omega
      · obtain rfl : j = n := by omega
        have Hv := Lib.hid (RdSt.done Hst.out)
        have HD := Lib.hid (decRuns_4 (ty := ty) (k := k) Hr.out Hn.out Hv.out)
        have HL2 := Lib.hid (runs_rd_small Hv.out)
        have hLl := spread_len q
        have HSp := Lib.hid (impl_Spread q _ wr (Own.new Hown.out).rdU (Nat.le_refl _))
        clear Hst HGV HGN Hown Hv
        generalize spread q = L at *
        go_wp2_with fail
        refine HSp.out.mono ?_
        rintro e w3 ⟨_, rfl, ho3, hb3⟩
        have hb30 := below_go hb hb3
        have hrd := ho3.rdV
        obtain ⟨A3, c3, rfl, -, -⟩ := hrd.form
        have Ho3 := Lib.hid (ho3.more (show w.heap.size ≤ wr.heap.size from Nat.le_trans hsz0 hbs) (Nat.le_refl _))
        have Hrd := Lib.hid hrd
        clear ho3 hrd HSp hb3
        have hb3w := below_go0 hb0 hb30
        have hx0 := (hx00.out.below hb (Nat.le_trans hhi hsz0))
        have HL4 : Hid (decRuns b ty k = if decOk b (encRuns L) k L.length then some L else none) := Lib.hid HD.out
        clear HD hx0 hb30
        have hx0 : RdB w lo hi (.slice A b.length c) b := by rw [HW0.out]; exact hx00.out
        have HE := Lib.hid (impl_EncRuns L _ w3 Hrd.out (Nat.le_refl _) HL2.out)
        have hsu := hb3w.size
        clear Hrd
        go_wp2_with fail
        refine HE.out.mono ?_
        rintro e w4 ⟨r4, rfl, ho4, hb4⟩
        have hb4w := hb3w.trans (hb4.mono hb3w.size)
        have hre := ho4.rdBc
        obtain ⟨A4, c4, rfl, -, -⟩ := hre.form
        have hS := q_impl_decoded b (encRuns L) _ _ k A3 L.length c3 w4 (hx0.below hb4w hhi) hre
        have Ho4 := Lib.hid (Ho3.out.below hb4 (Nat.le_refl _))
        have hs4 := hb4.size
        clear Ho3 hb4 ho4 hre HE
        generalize encRuns L = en at *
        cases he : decOk b en k L.length
        · rw [he] at hS
          have HS := Lib.hid hS
          have HG := Lib.hid (show decRuns b ty k = none by rw [HL4.out, he]; rfl)
          clear hS he HL4
          go_wp2_with fail
          refine HS.out.mono ?_
          rintro e w5 ⟨rfl, rfl⟩
          rw [show decRes false (.slice A3 L.length c3) = .slice none 0 0 from rfl]
          go_wp2_with fail
          refine bodyPost_ret (v := .tuple #[.slice none 0 0, .bool false]) (by simp [results, Tryz.results87, go_sem]) rfl ⟨_, by rw [HG.out]; rfl, ?_, hb4w⟩
          rw [HG.out]
          exact own_none_s _ _ _ _ _
        · rw [he] at hS
          have HS := Lib.hid hS
          have HG := Lib.hid (show decRuns b ty k = some L by rw [HL4.out, he]; rfl)
          clear hS he HL4
          go_wp2_with fail
          refine HS.out.mono ?_
          rintro e w5 ⟨rfl, rfl⟩
          rw [show decRes true (.slice A3 L.length c3) = .slice A3 L.length c3 from rfl]
          go_wp2_with fail
          refine bodyPost_ret (v := .tuple #[.slice A3 L.length c3, .bool true]) (by simp [results, Tryz.results87, go_sem]) rfl ⟨_, by rw [HG.out]; rfl, ?_, hb4w⟩
          rw [HG.out]
          exact Ho4.out.more (by omega) (by omega)
end Go.Proofs.YticimccfeohpcaaGreat
