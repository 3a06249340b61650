/- Plain decodings: contracts. -/
import Derived.Test.YticimccfeohpcaaGreatEM
namespace Go.Proofs.YticimccfeohpcaaGreat
open Go.Sort Go.ChangeShapes Go.WideShapes Go.ChangeAt Go.RowKit Go.Lb
set_option maxHeartbeats 4000000 in
set_option maxRecDepth 20000 in
theorem impl_DecPlain (b : List UInt8) (x : Value) (ty k : Int) (w : World) {lo hi : Nat} (hx : RdB w lo hi x b) (hhi : hi ≤ w.heap.size) (hbl : b.length ≤ 1000000000) :
    Calls Tryz.prog 86 #[x, .int .i64 ty, .int .i64 k] w fun e w' => ∃ r, e = .returned (.tuple #[r, .bool (decPlain b ty k).isSome]) ∧ Own 83 3 w' w.heap.size w'.heap.size r ((decPlain b ty k).getD []).length (((decPlain b ty k).getD []).flatMap V.cells) ∧ Below w.heap.size w w' := by
  obtain ⟨A, c, rfl, hl, hl2⟩ := hx.form
  have hx0 := hx
  have hQ := q_impl_within k 1 64 w
  cases hk : inR k 1 64
  · rw [hk] at hQ
    have HQ := Lib.hid hQ
    have HG := Lib.hid (decPlain_k (b := b) (ty := ty) hk)
    clear hk hQ
    go_enter Tryz.func86, Tryz.ntmps86
    go_wp2_with fail
    refine HQ.out.mono ?_
    rintro e w1 ⟨rfl, rfl⟩
    go_wp2_with fail
    refine bodyPost_ret (v := .tuple #[.slice none 0 0, .bool false]) (by simp [results, Tryz.results86, go_sem]) rfl ⟨_, by rw [HG.out]; rfl, ?_, Below.refl _ _⟩
    rw [HG.out]
    exact own_none_s _ _ _ _ _
  · rw [hk] at hQ
    have HQ := Lib.hid hQ
    have hkr := inR_yes hk
    obtain ⟨kn, rfl⟩ := Int.eq_ofNat_of_zero_le (show 0 ≤ k by omega)
    have HGV := Lib.hid (impl_getVals b _ 0 kn ty w hx hhi hbl (Nat.zero_le _) (by omega))
    rw [List.drop_zero] at HGV
    have HD := decPlain_impl (b := b) (ty := ty) (k := kn) hk (l := gvL (rdL (rdVal ty) kn b)) rfl
    have HL2 := Lib.hid (gvL_small (ty := ty) (k := kn) (s := b))
    have hgl := gvL_len (ty := ty) (k := kn) (s := b)
    have HL4 : Hid (decPlain b ty kn = if decOk b (encPlain (gvL (rdL (rdVal ty) kn b))) (kn : Int) (gvL (rdL (rdVal ty) kn b)).length then some (gvL (rdL (rdVal ty) kn b)) else none) := Lib.hid (by
      rw [decOk, hk, Bool.true_and, HD.1]
      cases hs : (decPlain b ty kn).isSome
      · cases hd : decPlain b ty kn with
        | none => rfl
        | some q => rw [hd] at hs; cases hs
      · rw [HD.2 hs]; rfl)
    clear hk hQ HD hkr
    generalize gvL (rdL (rdVal ty) kn b) = L at *
    generalize (rdL (rdVal ty) kn b).isSome = ok0 at *
    generalize gvAt (rdL (rdVal ty) kn b) 0 = at0 at *
    obtain ⟨k, hkk⟩ : ∃ k : Int, (kn : Int) = k := ⟨_, rfl⟩
    have Hkn := Lib.hid hkk
    rw [hkk] at HQ HGV HL4 ⊢
    clear hkk
    go_enter Tryz.func86, Tryz.ntmps86
    go_wp2_with fail
    refine HQ.out.mono ?_
    rintro e w1 ⟨rfl, rfl⟩
    go_wp2_with fail
    refine HGV.out.mono ?_
    rintro e w3 ⟨r3, rfl, ho3, hb3w⟩
    have hrd := ho3.rdV
    obtain ⟨A3, c3, rfl, -, -⟩ := hrd.form
    have Ho3 := Lib.hid ho3
    have Hrd := Lib.hid hrd
    clear ho3 hrd HGV
    have HE := Lib.hid (impl_EncPlain L _ w3 Hrd.out (Nat.le_refl _) HL2.out)
    have hsu := hb3w.size
    clear Hrd
    go_wp2_with fail
    refine HE.out.mono ?_
    rintro e w4 ⟨r4, rfl, ho4, hb4⟩
    have hb4w := hb3w.trans (hb4.mono hb3w.size)
    have hre := ho4.rdBc
    obtain ⟨A4, c4, rfl, -, -⟩ := hre.form
    have hS := q_impl_decoded b (encPlain L) _ _ k A3 L.length c3 w4 (hx0.below hb4w hhi) hre
    have Ho4 := Lib.hid (Ho3.out.below hb4 (Nat.le_refl _))
    have hs4 := hb4.size
    clear Ho3 hb4 ho4 hre HE
    generalize encPlain L = en at *
    cases he : decOk b en k L.length
    · rw [he] at hS
      have HS := Lib.hid hS
      have HG := Lib.hid (show decPlain b ty k = none by rw [HL4.out, he]; rfl)
      clear hS he HL4
      go_wp2_with fail
      refine HS.out.mono ?_
      rintro e w5 ⟨rfl, rfl⟩
      rw [show decRes false (.slice A3 L.length c3) = .slice none 0 0 from rfl]
      go_wp2_with fail
      refine bodyPost_ret (v := .tuple #[.slice none 0 0, .bool false]) (by simp [results, Tryz.results86, go_sem]) rfl ⟨_, by rw [HG.out]; rfl, ?_, hb4w⟩
      rw [HG.out]
      exact own_none_s _ _ _ _ _
    · rw [he] at hS
      have HS := Lib.hid hS
      have HG := Lib.hid (show decPlain b ty k = some L by rw [HL4.out, he]; rfl)
      clear hS he HL4
      go_wp2_with fail
      refine HS.out.mono ?_
      rintro e w5 ⟨rfl, rfl⟩
      rw [show decRes true (.slice A3 L.length c3) = .slice A3 L.length c3 from rfl]
      go_wp2_with fail
      refine bodyPost_ret (v := .tuple #[.slice A3 L.length c3, .bool true]) (by simp [results, Tryz.results86, go_sem]) rfl ⟨_, by rw [HG.out]; rfl, ?_, hb4w⟩
      rw [HG.out]
      exact Ho4.out.more (by omega) (by omega)
set_option maxHeartbeats 4000000 in
set_option maxRecDepth 20000 in
theorem spec_DecPlain (b : List UInt8) (x : Value) (ty k : Int) (w : World) {lo hi : Nat} (hx : RdB w lo hi x b) (hhi : hi ≤ w.heap.size) (hbl : b.length ≤ 1000000000) :
    Calls Tryz.prog 80 #[x, .int .i64 ty, .int .i64 k] w fun e w' => ∃ r, e = .returned (.tuple #[r, .bool (decPlain b ty k).isSome]) ∧ Own 83 3 w' w.heap.size w'.heap.size r ((decPlain b ty k).getD []).length (((decPlain b ty k).getD []).flatMap V.cells) ∧ Below w.heap.size w w' := by
  obtain ⟨A, c, rfl, hl, hl2⟩ := hx.form
  obtain ⟨i0, hif, hz0, hz1, hz2⟩ := info_parts info_val
  replace hif := Lib.hid hif
  replace hz0 := Lib.hid hz0
  replace hz1 := Lib.hid hz1
  replace hz2 := Lib.hid hz2
  have hb0 := up_a1 w (.cells #[] 83)
  have own0 := World.ownsRow_made w (base := w.heap.size) (e := 83) (size := 3) #[] 0 (Nat.le_refl _) (by decide) rfl
  have hQ := q_spec_l1In k 1 64 (w.alloc (.cells #[] 83))
  cases hk : inR k 1 64
  · rw [hk] at hQ
    have HQ := Lib.hid hQ
    have HG := Lib.hid (decPlain_k (b := b) (ty := ty) hk)
    clear hk hQ
    go_enter Tryz.func80, Tryz.ntmps80
    go_wp2_with fail
    refine HQ.out.mono ?_
    rintro e w1 ⟨rfl, rfl⟩
    go_wp2_with fail
    refine bodyPost_ret (v := .tuple #[.slice (some ⟨w.heap.size, 0, none⟩) 0 0, .bool false]) (by simp [results, Tryz.results80, go_sem]) rfl ⟨_, by rw [HG.out]; rfl, ?_, hb0⟩
    rw [HG.out]
    exact Own.new own0
  · rw [hk] at hQ
    have HQ := Lib.hid hQ
    have hkr := inR_yes hk
    obtain ⟨kn, rfl⟩ := Int.eq_ofNat_of_zero_le (show 0 ≤ k by omega)
    have hk64 : kn ≤ 64 := by omega
    have HST := Lib.hid (RdSt.start (f := rdVal ty) kn b)
    have HGV := Lib.hid (fun (z : Nat) W (h : Below w.heap.size w W) => spec_GetVal b _ (z : Int) ty W (hx.below h hhi) (Nat.le_trans hhi h.size) hbl)
    have Hk := Lib.hid hk
    clear hk hQ hkr hx
    go_enter Tryz.func80, Tryz.ntmps80
    go_wp2_with fail
    refine HQ.out.mono ?_
    rintro e w1 ⟨rfl, rfl⟩
    go_wp2_with fail
    go_loopw [8, 9, 10] (fun o a i wr => ∃ (j m : Nat) (q : List V), Hid (a = .int .i64 ((m : Nat) : Int) ∧ i = .int .i64 j ∧ m ≤ b.length ∧ RdSt (rdVal ty) kn b j q m ∧ wr.ownsRow w.heap.size 83 3 o q.length (q.flatMap V.cells) ∧ Below w.heap.size w wr)) (fun _ _ i _ => kn - (intOf i).toNat)
    case atStart => exact ⟨0, 0, [], Lib.hid ⟨rfl, rfl, Nat.zero_le _, HST.out, own0, hb0⟩⟩
    case round =>
      obtain ⟨j, m, q, hrel⟩ := hrel
      obtain ⟨rfl, rfl, hpm, hst, hown, hb⟩ := hrel.out
      have hj := hst.1
      have hqj := Lib.hid hst.2.1
      have hq64 : q.length ≤ 64 := by rw [hqj.out]; omega
      have Hst := Lib.hid hst
      have Hown := Lib.hid hown
      have hbs := hb.size
      obtain ⟨Ao, co, rfl, -, -, -⟩ := (Own.new hown).cells
      clear hrel hst hown own0 hb0
      by_cases hjk : j < kn
      · have hG := HGV.out m wr hb
        cases hr : rdVal ty (b.drop m) with
        | none =>
          rw [getVal_none hr] at hG
          have HN := Lib.hid (show decPlain b ty kn = none from decPlain_none (RdSt.bad Hst.out hjk hr))
          have HG := Lib.hid hG
          clear hr hG
          go_wp2_with fail
          refine HG.out.mono ?_
          rintro e w1 ⟨rfl, hb1⟩
          have hb1w := below_go hb hb1
          have hs1 := hb1w.size
          have hbx := hb1w.alloc hs1 (.cells #[.int .i64 V.zero.ty, .int .i64 V.zero.n, .string V.zero.s] 83)
          have hbxs := hbx.size
          have own1 := World.ownsRow_made (w1.alloc (.cells #[.int .i64 V.zero.ty, .int .i64 V.zero.n, .string V.zero.s] 83)) (base := w.heap.size) (e := 83) (size := 3) #[] 0 hbxs (by decide) rfl
          rw [World.size_alloc] at own1
          have HOn := Lib.hid own1
          have HBn := Lib.hid (hbx.alloc hbxs (.cells #[] 83))
          clear hb1 own1
          go_wp2_with fail
          refine bodyPost_ret (v := .tuple #[.slice (some ⟨w1.heap.size + 1, 0, none⟩) 0 0, .bool false]) (by simp [results, Tryz.results80, go_sem]) rfl ⟨_, by rw [HN.out]; rfl, ?_, HBn.out⟩
          rw [HN.out]
          exact Own.new HOn.out
        | some x =>
          obtain ⟨v, jj⟩ := x
          have hr2 := getVal_some (l := b) (p := m) (ty := ty) hr
          rw [hr2] at hG
          have Hnx := Lib.hid (RdSt.next Hst.out hjk hr)
          have hjl := rdVal_le hr
          rw [List.length_drop] at hjl
          have HG := Lib.hid hG
          clear hr hr2 hG
          obtain ⟨nx, hnx⟩ : ∃ nx, m + jj = nx := ⟨_, rfl⟩
          rw [hnx] at HG
          go_wp2_with fail
          refine HG.out.mono ?_
          rintro e w1 ⟨rfl, hb1⟩
          have HO1 := Lib.hid ((owns_below Hown.out hb1).alloc (.cells #[.int .i64 v.ty, .int .i64 v.n, .string v.s] 83))
          have hb1w := below_go hb hb1
          have hs1 := hb1w.size
          have hbx := hb1w.alloc hs1 (.cells #[.int .i64 v.ty, .int .i64 v.n, .string v.s] 83)
          have hbxs := hbx.size
          have m0 := box_new w1 #[.int .i64 v.ty, .int .i64 v.n, .string v.s] 83 0
          have m1 := box_new w1 #[.int .i64 v.ty, .int .i64 v.n, .string v.s] 83 1
          have m2 := box_new w1 #[.int .i64 v.ty, .int .i64 v.n, .string v.s] 83 2
          simp only [List.getElem?_toArray, List.getElem?_cons_zero, List.getElem?_cons_succ] at m0 m1 m2
          have hblk : ((w1.alloc (.cells #[.int .i64 v.ty, .int .i64 v.n, .string v.s] 83)).alloc (.cells #[.int .i64 v.ty, .int .i64 v.n, .string v.s] 83)).heap[w1.heap.size + 1]? = some (.cells #[.int .i64 v.ty, .int .i64 v.n, .string v.s] 83) := by
            have h := heap_alloc_new (w1.alloc (.cells #[.int .i64 v.ty, .int .i64 v.n, .string v.s] 83)) (.cells #[.int .i64 v.ty, .int .i64 v.n, .string v.s] 83)
            rw [World.size_alloc] at h
            exact h
          have Hblk := Lib.hid hblk
          clear hblk hb1 HG Hown
          go_wp2_with (at_builtin; refine wpl_app rfl _ _ 42 rfl w.heap.size 83 i0 _ 3 32 Tryz.underlying42 hif.out hz0.out hz1.out hz2.out rfl (by decide) (by decide) (HO1.out.alloc _) rfl Hblk.out rfl rfl (by simp [Value.oneCell']) (by omega) (by simp; omega) ?_)
          intro v4 w4 hown4 hgrow _
          have HB4 := Lib.hid (Below.grown (hbx.alloc hbxs _) hgrow (fun g hg => (HO1.out.lt g hg).1) (Nat.le_refl _))
          have HO4 := Lib.hid (show w4.ownsRow w.heap.size 83 3 v4 (q ++ [v]).length ((q ++ [v]).flatMap V.cells) by
            rw [List.flatMap_append, List.length_append]
            exact hown4)
          clear hown4 hgrow HO1 Hblk m0 m1 m2
          go_wp2_with fail
          go_roundw
          case rel => exact ⟨j + 1, m + jj, q ++ [v], Lib.hid ⟨by rw [← hnx], by go_num, by omega, Hnx.out, HO4.out, HB4.out⟩⟩
          case measure => simp [intOf]; omega
      · obtain rfl : j = kn := by omega
        have HD := Lib.hid (decPlain_some (b := b) Hk.out (RdSt.done Hst.out))
        by_cases hmb : m = b.length
        · have hd : ((m : Int) != (b.length : Int)) = false := by simp [hmb]
          have HN := Lib.hid (show decPlain b ty j = some q by rw [HD.out, if_pos hmb])
          clear hmb
          go_wp2_with fail
          refine bodyPost_ret (v := .tuple #[.slice Ao q.length co, .bool true]) (by simp [results, Tryz.results80, go_sem]) rfl ⟨_, by rw [HN.out]; rfl, ?_, hb⟩
          rw [HN.out]
          exact Own.new Hown.out
        · have hd : ((m : Int) != (b.length : Int)) = true := by simp; omega
          have HN := Lib.hid (show decPlain b ty j = none by rw [HD.out, if_neg hmb])
          have HOn := Lib.hid (World.ownsRow_made wr (base := w.heap.size) (e := 83) (size := 3) #[] 0 hbs (by decide) rfl)
          have HBn := Lib.hid (hb.alloc hbs (.cells #[] 83))
          clear hmb
          go_wp2_with fail
          refine bodyPost_ret (v := .tuple #[.slice (some ⟨wr.heap.size, 0, none⟩) 0 0, .bool false]) (by simp [results, Tryz.results80, go_sem]) rfl ⟨_, by rw [HN.out]; rfl, ?_, HBn.out⟩
          rw [HN.out]
          exact Own.new HOn.out
end Go.Proofs.YticimccfeohpcaaGreat
