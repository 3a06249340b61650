/- Columns decoded: contracts. -/
import Derived.Test.YticimccfeohpcaaGreatCC
import Derived.Test.YticimccfeohpcaaGreatEO
import Derived.Test.YticimccfeohpcaaGreatEP
import Derived.Test.YticimccfeohpcaaGreatEJ
namespace Go.Lb
open Go.RowKit
theorem small_of_type {l : List V} (h : typeOf l ≠ 0) : ∀ v ∈ l, v.s.size ≤ maxLen := fun v hv => by
  have h1 := (typeOf_mem rfl h v hv).1
  rcases valOk_ty h1 with ht | ht
  · rw [(valOk_1 h1 ht).2]
    exact Nat.zero_le _
  · exact Nat.le_trans (txt_len h1 ht) (by decide)
theorem decPlain_small {b : List UInt8} {ty k : Int} {l : List V} (h : decPlain b ty k = some l) : ∀ v ∈ l, v.s.size ≤ maxLen := by
  cases hk : inR k 1 64
  · rw [decPlain_k hk] at h; cases h
  · obtain ⟨n, rfl⟩ := Int.eq_ofNat_of_zero_le (show 0 ≤ k by have := inR_yes hk; omega)
    cases hr : rdL (rdVal ty) n b with
    | none => rw [decPlain_none hr] at h; cases h
    | some x =>
      obtain ⟨q, m⟩ := x
      rw [decPlain_some hk hr] at h
      split at h
      · injection h with h
        subst h
        have g := gvL_small (ty := ty) (k := n) (s := b)
        rw [hr] at g
        exact g
      · cases h
theorem decRuns_small {b : List UInt8} {ty k : Int} {l : List V} (h : decRuns b ty k = some l) : ∀ v ∈ l, v.s.size ≤ maxLen := by
  cases h1 : rdNum b with
  | none => rw [decRuns_1 h1] at h; cases h
  | some np =>
    obtain ⟨n, p⟩ := np
    cases h2 : inR n 1 64
    · rw [decRuns_2 h1 h2] at h; cases h
    · obtain ⟨n, rfl⟩ := Int.eq_ofNat_of_zero_le (show 0 ≤ n by have := inR_yes h2; omega)
      cases hr : rdL (rdRun ty) n (b.drop p) with
      | none => rw [decRuns_3 h1 hr] at h; cases h
      | some x =>
        obtain ⟨q, m⟩ := x
        rw [decRuns_4 h1 h2 hr] at h
        split at h
        · injection h with h
          subst h
          exact runs_rd_small hr
        · cases h
theorem decDict_small {b : List UInt8} {ty k : Int} {l : List V} (h : decDict b ty k = some l) : ∀ v ∈ l, v.s.size ≤ maxLen := by
  cases h1 : rdNum b with
  | none => rw [decDict_1 h1] at h; cases h
  | some np =>
    obtain ⟨n, p⟩ := np
    cases h2 : inR n 1 64
    · rw [decDict_2 h1 h2] at h; cases h
    · obtain ⟨n, rfl⟩ := Int.eq_ofNat_of_zero_le (show 0 ≤ n by have := inR_yes h2; omega)
      cases h3 : rdL (rdVal ty) n (b.drop p) with
      | none => rw [decDict_3 h1 h3] at h; cases h
      | some x =>
        obtain ⟨d, m⟩ := x
        cases h4 : unpackB (b.drop (p + m)) (dictW n) k with
        | none => rw [decDict_4 h1 h3 h4] at h; cases h
        | some q =>
          cases h5 : pickedQ d q with
          | none => rw [decDict_5 h1 h3 h4 h5] at h; cases h
          | some L =>
            rw [decDict_6 h1 h2 h3 h4 h5] at h
            split at h
            · injection h with h
              subst h
              have g := gvL_small (ty := ty) (k := n) (s := b.drop p)
              rw [h3] at g
              have g2 := picked_small (q := q) g
              rw [show (pickedQ (gvL (some (d, m))) q) = pickedQ d q from rfl, h5] at g2
              exact g2
            · cases h
theorem decBy_small {kd : Int} {b : List UInt8} {ty k : Int} {l : List V} (h : decBy kd b ty k = some l) : ∀ v ∈ l, v.s.size ≤ maxLen := by
  unfold decBy at h
  split at h
  · exact decPlain_small h
  · split at h
    · exact decRuns_small h
    · split at h
      · exact decDict_small h
      · split at h
        · exact small_of_type (by rw [(enc_decFrame h).2.2.2.2]; decide)
        · cases h
theorem decBy_len {kd : Int} {b : List UInt8} {ty k : Int} : ((decBy kd b ty k).getD []).length ≤ 64 := by
  cases h : decBy kd b ty k with
  | none => simp
  | some l => exact (decBy_enc h).2.2.2
theorem decCol_none' {b : List UInt8} {cc : UInt8} {ty k : Int} (h0 : b[0]? = some cc) (h : decBy (cc.toNat : Int) (b.drop 1) ty k = none) : decCol b ty k = none := by
  cases b with
  | nil => cases h0
  | cons c r =>
    simp at h0
    subst h0
    exact decCol_none h
theorem decCol_some' {b : List UInt8} {cc : UInt8} {ty k : Int} {l : List V} (h0 : b[0]? = some cc) (h : decBy (cc.toNat : Int) (b.drop 1) ty k = some l) : decCol b ty k = if decide (typeOf l = ty) && eqd b (encCol l) then some l else none := by
  cases b with
  | nil => cases h0
  | cons c r =>
    simp at h0
    subst h0
    exact decCol_some h
theorem decCol_ty {b : List UInt8} {ty k : Int} (h : inR ty 1 2 = false) : decCol b ty k = none := by
  cases hd : decCol b ty k with
  | none => rfl
  | some l =>
    obtain ⟨g1, g2, g3, g4, g5⟩ := enc_decCol hd
    by_cases h0 : typeOf l = 0
    · rw [encCol_no h0] at g1
      subst g1
      cases hd
    · have := typeOf_12 h0
      have := inR_no h
      omega
end Go.Lb
namespace Go.Proofs.YticimccfeohpcaaGreat
open Go.Sort Go.ChangeShapes Go.WideShapes Go.ChangeAt Go.RowKit Go.Lb
theorem decCol_impl {b : List UInt8} {cc : UInt8} {ty k : Int} (h0 : b[0]? = some cc) : decCol b ty k = if typeOf ((decBy (cc.toNat : Int) (b.drop 1) ty k).getD []) = ty then (if decOk b (encCol ((decBy (cc.toNat : Int) (b.drop 1) ty k).getD [])) k ((decBy (cc.toNat : Int) (b.drop 1) ty k).getD []).length then some ((decBy (cc.toNat : Int) (b.drop 1) ty k).getD []) else none) else none := by
  cases hd : decBy (cc.toNat : Int) (b.drop 1) ty k with
  | none =>
    rw [decCol_none' h0 hd]
    have h1 : decOk b (encCol ([] : List V)) k ([] : List V).length = false := by
      unfold decOk
      have h2 : eqd b (encCol []) = false := eqd_no (by
        rw [encCol_no rfl]
        intro e
        subst e
        cases h0)
      rw [h2]
      simp
    show none = if typeOf [] = ty then (if decOk b (encCol []) k ([] : List V).length then some [] else none) else none
    rw [h1]
    simp
  | some l =>
    obtain ⟨-, g2, g3, -⟩ := decBy_enc hd
    rw [decCol_some' h0 hd]
    show _ = if typeOf l = ty then (if decOk b (encCol l) k l.length then some l else none) else none
    rw [decOk, g3, decide_eq_true g2, Bool.true_and, Bool.true_and]
    by_cases ht : typeOf l = ty
    · rw [if_pos ht, decide_eq_true ht, Bool.true_and]
    · rw [if_neg ht, decide_eq_false ht]
      simp
set_option maxHeartbeats 4000000 in
set_option maxRecDepth 20000 in
theorem impl_DecCol (b : List UInt8) (x : Value) (ty k : Int) (w : World) {lo hi : Nat} (hx : RdB w lo hi x b) (hhi : hi ≤ w.heap.size) (hbl : b.length ≤ 1000000000) :
    Calls Tryz.prog 31 #[x, .int .i64 ty, .int .i64 k] w fun e w' => ∃ r, e = .returned (.tuple #[r, .bool (decCol b ty k).isSome]) ∧ Own 83 3 w' w.heap.size w'.heap.size r ((decCol b ty k).getD []).length (((decCol b ty k).getD []).flatMap V.cells) ∧ Below w.heap.size w w' := by
  obtain ⟨A, c, rfl, hl, hl2⟩ := hx.form
  have hx0 := hx
  have hb00 := Below.refl w.heap.size w
  by_cases h0 : b.length = 0
  · have HG := Lib.hid (show decCol b ty k = none by
      cases b with
      | nil => rfl
      | cons a r => simp at h0)
    have hd : ((b.length : Int) == 0) = true := by simp [h0]
    clear h0
    go_enter Tryz.func31, Tryz.ntmps31
    go_wp2_with fail
    refine bodyPost_ret (v := .tuple #[.slice none 0 0, .bool false]) (by simp [results, Tryz.results31, go_sem]) rfl ⟨_, by rw [HG.out]; rfl, ?_, hb00⟩
    rw [HG.out]
    exact own_none_s _ _ _ _ _
  have hd : ((b.length : Int) == 0) = false := by simp only [beq_eq_false_iff_ne, ne_eq]; omega
  have h1l : 1 ≤ b.length := by omega
  obtain ⟨gb, off, cc, rfl, -, hbl0, hcc, e0⟩ := hx0.at (show 0 < b.length by omega)
  rw [Nat.add_zero] at e0
  have hsub := hx0.dropIf (k := 1) h1l hl
  have f1 : (1 : Int) ≤ (c : Int) := by omega
  have f2 : (1 : Int) ≤ (b.length : Int) := by omega
  have f3 : (b.length : Int) ≤ (c : Int) := by omega
  obtain ⟨AA, hAA⟩ : ∃ AA, (if c = 1 then some (⟨gb, off, none⟩ : Addr) else some ⟨gb, off + 1, none⟩) = AA := ⟨_, rfl⟩
  rw [hAA] at hsub
  have hct := cc.toNat_lt
  have HL := Lib.hid (decCol_impl (ty := ty) (k := k) hcc)
  have hLl := decBy_len (kd := (cc.toNat : Int)) (b := b.drop 1) (ty := ty) (k := k)
  have HL2 : Hid (∀ v ∈ (decBy (cc.toNat : Int) (b.drop 1) ty k).getD [], v.s.size ≤ maxLen) := Lib.hid (by
    cases hD : decBy (cc.toNat : Int) (b.drop 1) ty k with
    | none => simp
    | some l => exact decBy_small hD)
  clear hcc h0 h1l
  by_cases q0 : cc.toNat = 0
  · have e0 : decBy (cc.toNat : Int) (b.drop 1) ty k = decPlain (b.drop 1) ty k := by rw [q0]; rfl
    have hD := impl_DecPlain (b.drop 1) _ ty k w hsub hhi (by rw [List.length_drop]; omega)
    rw [← e0] at hD
    have HD := Lib.hid hD
    have s0 : ((cc.toNat : Int) == 0) = true := by simp [q0]
    clear hD e0 q0 hsub
    generalize (decBy (cc.toNat : Int) (b.drop 1) ty k).getD [] = L at *
    generalize (decBy (cc.toNat : Int) (b.drop 1) ty k).isSome = okD at *
    go_enter Tryz.func31, Tryz.ntmps31
    go_wp2_with fail
    refine HD.out.mono ?_
    rintro e w3 ⟨_, rfl, ho3, hb3w⟩
    clear HD
    have hrd := ho3.rdV
    obtain ⟨A3, c3, rfl, -, -⟩ := hrd.form
    have Ho3 := Lib.hid ho3
    have Hrd := Lib.hid hrd
    have hT := impl_TypeOf L _ w3 hrd (Nat.le_refl _) HL2.out
    clear ho3 hrd
    by_cases ht : typeOf L = ty
    rotate_left
    · have hdt : (typeOf L != ty) = true := by simp [ht]
      have HG := Lib.hid (show decCol b ty k = none by rw [HL.out, if_neg ht])
      have HT := Lib.hid hT
      clear ht hT HL
      generalize typeOf L = tl at *
      go_wp2_with fail
      refine HT.out.mono ?_
      rintro e w4 ⟨rfl, hb4⟩
      have hb4w := below_go hb3w hb4
      clear hb4
      go_wp2_with fail
      refine bodyPost_ret (v := .tuple #[.slice none 0 0, .bool false]) (by simp [results, Tryz.results31, go_sem]) rfl ⟨_, by rw [HG.out]; rfl, ?_, hb4w⟩
      rw [HG.out]
      exact own_none_s _ _ _ _ _
    have HL4 := Lib.hid (show decCol b ty k = if decOk b (encCol L) k L.length then some L else none by rw [HL.out, if_pos ht])
    rw [ht] at hT
    have HT := Lib.hid hT
    clear ht hT HL
    go_wp2_with fail
    refine HT.out.mono ?_
    rintro e w6 ⟨rfl, hb6⟩
    have hrd6 := Hrd.out.below hb6 (Nat.le_refl _)
    have Ho6 := Lib.hid ((Ho3.out.below hb6 (Nat.le_refl _)).more (Nat.le_refl _) hb6.size)
    have hb6w := below_go hb3w hb6
    have Hrd6 := Lib.hid (hrd6.more (Nat.le_refl _) hb6.size)
    clear hb6 hrd6 Hrd Ho3 HT
    have HE := Lib.hid (impl_EncCol L _ w6 Hrd6.out (Nat.le_refl _) HL2.out)
    have hsu := hb6w.size
    clear Hrd6
    go_wp2_with fail
    refine HE.out.mono ?_
    rintro e w4 ⟨r4, rfl, ho4, hb4⟩
    have hb4w := hb6w.trans (hb4.mono hb6w.size)
    have hre := ho4.rdBc
    obtain ⟨A4, c4, rfl, -, -⟩ := hre.form
    have hS := q_impl_decoded b (encCol L) _ _ k A3 L.length c3 w4 (hx0.below hb4w hhi) hre
    have Ho4 := Lib.hid (Ho6.out.below hb4 (Nat.le_refl _))
    have hs4 := hb4.size
    clear Ho6 hb4 ho4 hre HE
    generalize encCol L = en at *
    cases he : decOk b en k L.length
    · rw [he] at hS
      have HS := Lib.hid hS
      have HG := Lib.hid (show decCol b ty k = none by rw [HL4.out, he]; rfl)
      clear hS he HL4
      go_wp2_with fail
      refine HS.out.mono ?_
      rintro e w5 ⟨rfl, rfl⟩
      rw [show decRes false (.slice A3 L.length c3) = .slice none 0 0 from rfl]
      go_wp2_with fail
      refine bodyPost_ret (v := .tuple #[.slice none 0 0, .bool false]) (by simp [results, Tryz.results31, go_sem]) rfl ⟨_, by rw [HG.out]; rfl, ?_, hb4w⟩
      rw [HG.out]
      exact own_none_s _ _ _ _ _
    · rw [he] at hS
      have HS := Lib.hid hS
      have HG := Lib.hid (show decCol b ty k = some L by rw [HL4.out, he]; rfl)
      clear hS he HL4
      go_wp2_with fail
      refine HS.out.mono ?_
      rintro e w5 ⟨rfl, rfl⟩
      rw [show decRes true (.slice A3 L.length c3) = .slice A3 L.length c3 from rfl]
      go_wp2_with fail
      refine bodyPost_ret (v := .tuple #[.slice A3 L.length c3, .bool true]) (by simp [results, Tryz.results31, go_sem]) rfl ⟨_, by rw [HG.out]; rfl, ?_, hb4w⟩
      rw [HG.out]
      exact Ho4.out.more (by omega) (by omega)
  by_cases q1 : cc.toNat = 1
  · have e1 : decBy (cc.toNat : Int) (b.drop 1) ty k = decRuns (b.drop 1) ty k := by rw [q1]; rfl
    have hD := impl_DecRuns (b.drop 1) _ ty k w hsub hhi (by rw [List.length_drop]; omega)
    rw [← e1] at hD
    have HD := Lib.hid hD
    have s0 : ((cc.toNat : Int) == 0) = false := by simp [q1]
    have s1 : ((cc.toNat : Int) == 1) = true := by simp [q1]
    clear hD e1 q0 q1 hsub
    generalize (decBy (cc.toNat : Int) (b.drop 1) ty k).getD [] = L at *
    generalize (decBy (cc.toNat : Int) (b.drop 1) ty k).isSome = okD at *
    go_enter Tryz.func31, Tryz.ntmps31
    go_wp2_with fail
    refine HD.out.mono ?_
    rintro e w3 ⟨_, rfl, ho3, hb3w⟩
    clear HD
    have hrd := ho3.rdV
    obtain ⟨A3, c3, rfl, -, -⟩ := hrd.form
    have Ho3 := Lib.hid ho3
    have Hrd := Lib.hid hrd
    have hT := impl_TypeOf L _ w3 hrd (Nat.le_refl _) HL2.out
    clear ho3 hrd
    by_cases ht : typeOf L = ty
    rotate_left
    · have hdt : (typeOf L != ty) = true := by simp [ht]
      have HG := Lib.hid (show decCol b ty k = none by rw [HL.out, if_neg ht])
      have HT := Lib.hid hT
      clear ht hT HL
      generalize typeOf L = tl at *
      go_wp2_with fail
      refine HT.out.mono ?_
      rintro e w4 ⟨rfl, hb4⟩
      have hb4w := below_go hb3w hb4
      clear hb4
      go_wp2_with fail
      refine bodyPost_ret (v := .tuple #[.slice none 0 0, .bool false]) (by simp [results, Tryz.results31, go_sem]) rfl ⟨_, by rw [HG.out]; rfl, ?_, hb4w⟩
      rw [HG.out]
      exact own_none_s _ _ _ _ _
    have HL4 := Lib.hid (show decCol b ty k = if decOk b (encCol L) k L.length then some L else none by rw [HL.out, if_pos ht])
    rw [ht] at hT
    have HT := Lib.hid hT
    clear ht hT HL
    go_wp2_with fail
    refine HT.out.mono ?_
    rintro e w6 ⟨rfl, hb6⟩
    have hrd6 := Hrd.out.below hb6 (Nat.le_refl _)
    have Ho6 := Lib.hid ((Ho3.out.below hb6 (Nat.le_refl _)).more (Nat.le_refl _) hb6.size)
    have hb6w := below_go hb3w hb6
    have Hrd6 := Lib.hid (hrd6.more (Nat.le_refl _) hb6.size)
    clear hb6 hrd6 Hrd Ho3 HT
    have HE := Lib.hid (impl_EncCol L _ w6 Hrd6.out (Nat.le_refl _) HL2.out)
    have hsu := hb6w.size
    clear Hrd6
    go_wp2_with fail
    refine HE.out.mono ?_
    rintro e w4 ⟨r4, rfl, ho4, hb4⟩
    have hb4w := hb6w.trans (hb4.mono hb6w.size)
    have hre := ho4.rdBc
    obtain ⟨A4, c4, rfl, -, -⟩ := hre.form
    have hS := q_impl_decoded b (encCol L) _ _ k A3 L.length c3 w4 (hx0.below hb4w hhi) hre
    have Ho4 := Lib.hid (Ho6.out.below hb4 (Nat.le_refl _))
    have hs4 := hb4.size
    clear Ho6 hb4 ho4 hre HE
    generalize encCol L = en at *
    cases he : decOk b en k L.length
    · rw [he] at hS
      have HS := Lib.hid hS
      have HG := Lib.hid (show decCol b ty k = none by rw [HL4.out, he]; rfl)
      clear hS he HL4
      go_wp2_with fail
      refine HS.out.mono ?_
      rintro e w5 ⟨rfl, rfl⟩
      rw [show decRes false (.slice A3 L.length c3) = .slice none 0 0 from rfl]
      go_wp2_with fail
      refine bodyPost_ret (v := .tuple #[.slice none 0 0, .bool false]) (by simp [results, Tryz.results31, go_sem]) rfl ⟨_, by rw [HG.out]; rfl, ?_, hb4w⟩
      rw [HG.out]
      exact own_none_s _ _ _ _ _
    · rw [he] at hS
      have HS := Lib.hid hS
      have HG := Lib.hid (show decCol b ty k = some L by rw [HL4.out, he]; rfl)
      clear hS he HL4
      go_wp2_with fail
      refine HS.out.mono ?_
      rintro e w5 ⟨rfl, rfl⟩
      rw [show decRes true (.slice A3 L.length c3) = .slice A3 L.length c3 from rfl]
      go_wp2_with fail
      refine bodyPost_ret (v := .tuple #[.slice A3 L.length c3, .bool true]) (by simp [results, Tryz.results31, go_sem]) rfl ⟨_, by rw [HG.out]; rfl, ?_, hb4w⟩
      rw [HG.out]
      exact Ho4.out.more (by omega) (by omega)
  by_cases q2 : cc.toNat = 2
  · have e2 : decBy (cc.toNat : Int) (b.drop 1) ty k = decDict (b.drop 1) ty k := by rw [q2]; rfl
    have hD := impl_DecDict (b.drop 1) _ ty k w hsub hhi (by rw [List.length_drop]; omega)
    rw [← e2] at hD
    have HD := Lib.hid hD
    have s0 : ((cc.toNat : Int) == 0) = false := by simp [q2]
    have s1 : ((cc.toNat : Int) == 1) = false := by simp [q2]
    have s2 : ((cc.toNat : Int) == 2) = true := by simp [q2]
    clear hD e2 q0 q1 q2 hsub
    generalize (decBy (cc.toNat : Int) (b.drop 1) ty k).getD [] = L at *
    generalize (decBy (cc.toNat : Int) (b.drop 1) ty k).isSome = okD at *
    go_enter Tryz.func31, Tryz.ntmps31
    go_wp2_with fail
    refine HD.out.mono ?_
    rintro e w3 ⟨_, rfl, ho3, hb3w⟩
    clear HD
    have hrd := ho3.rdV
    obtain ⟨A3, c3, rfl, -, -⟩ := hrd.form
    have Ho3 := Lib.hid ho3
    have Hrd := Lib.hid hrd
    have hT := impl_TypeOf L _ w3 hrd (Nat.le_refl _) HL2.out
    clear ho3 hrd
    by_cases ht : typeOf L = ty
    rotate_left
    · have hdt : (typeOf L != ty) = true := by simp [ht]
      have HG := Lib.hid (show decCol b ty k = none by rw [HL.out, if_neg ht])
      have HT := Lib.hid hT
      clear ht hT HL
      generalize typeOf L = tl at *
      go_wp2_with fail
      refine HT.out.mono ?_
      rintro e w4 ⟨rfl, hb4⟩
      have hb4w := below_go hb3w hb4
      clear hb4
      go_wp2_with fail
      refine bodyPost_ret (v := .tuple #[.slice none 0 0, .bool false]) (by simp [results, Tryz.results31, go_sem]) rfl ⟨_, by rw [HG.out]; rfl, ?_, hb4w⟩
      rw [HG.out]
      exact own_none_s _ _ _ _ _
    have HL4 := Lib.hid (show decCol b ty k = if decOk b (encCol L) k L.length then some L else none by rw [HL.out, if_pos ht])
    rw [ht] at hT
    have HT := Lib.hid hT
    clear ht hT HL
    go_wp2_with fail
    refine HT.out.mono ?_
    rintro e w6 ⟨rfl, hb6⟩
    have hrd6 := Hrd.out.below hb6 (Nat.le_refl _)
    have Ho6 := Lib.hid ((Ho3.out.below hb6 (Nat.le_refl _)).more (Nat.le_refl _) hb6.size)
    have hb6w := below_go hb3w hb6
    have Hrd6 := Lib.hid (hrd6.more (Nat.le_refl _) hb6.size)
    clear hb6 hrd6 Hrd Ho3 HT
    have HE := Lib.hid (impl_EncCol L _ w6 Hrd6.out (Nat.le_refl _) HL2.out)
    have hsu := hb6w.size
    clear Hrd6
    go_wp2_with fail
    refine HE.out.mono ?_
    rintro e w4 ⟨r4, rfl, ho4, hb4⟩
    have hb4w := hb6w.trans (hb4.mono hb6w.size)
    have hre := ho4.rdBc
    obtain ⟨A4, c4, rfl, -, -⟩ := hre.form
    have hS := q_impl_decoded b (encCol L) _ _ k A3 L.length c3 w4 (hx0.below hb4w hhi) hre
    have Ho4 := Lib.hid (Ho6.out.below hb4 (Nat.le_refl _))
    have hs4 := hb4.size
    clear Ho6 hb4 ho4 hre HE
    generalize encCol L = en at *
    cases he : decOk b en k L.length
    · rw [he] at hS
      have HS := Lib.hid hS
      have HG := Lib.hid (show decCol b ty k = none by rw [HL4.out, he]; rfl)
      clear hS he HL4
      go_wp2_with fail
      refine HS.out.mono ?_
      rintro e w5 ⟨rfl, rfl⟩
      rw [show decRes false (.slice A3 L.length c3) = .slice none 0 0 from rfl]
      go_wp2_with fail
      refine bodyPost_ret (v := .tuple #[.slice none 0 0, .bool false]) (by simp [results, Tryz.results31, go_sem]) rfl ⟨_, by rw [HG.out]; rfl, ?_, hb4w⟩
      rw [HG.out]
      exact own_none_s _ _ _ _ _
    · rw [he] at hS
      have HS := Lib.hid hS
      have HG := Lib.hid (show decCol b ty k = some L by rw [HL4.out, he]; rfl)
      clear hS he HL4
      go_wp2_with fail
      refine HS.out.mono ?_
      rintro e w5 ⟨rfl, rfl⟩
      rw [show decRes true (.slice A3 L.length c3) = .slice A3 L.length c3 from rfl]
      go_wp2_with fail
      refine bodyPost_ret (v := .tuple #[.slice A3 L.length c3, .bool true]) (by simp [results, Tryz.results31, go_sem]) rfl ⟨_, by rw [HG.out]; rfl, ?_, hb4w⟩
      rw [HG.out]
      exact Ho4.out.more (by omega) (by omega)
  by_cases q3 : cc.toNat = 3
  · have e3 : decBy (cc.toNat : Int) (b.drop 1) ty k = decFrame (b.drop 1) k := by rw [q3]; rfl
    have hD := impl_DecFrame (b.drop 1) _ k w hsub hhi (by rw [List.length_drop]; omega)
    rw [← e3] at hD
    have HD := Lib.hid hD
    have s0 : ((cc.toNat : Int) == 0) = false := by simp [q3]
    have s1 : ((cc.toNat : Int) == 1) = false := by simp [q3]
    have s2 : ((cc.toNat : Int) == 2) = false := by simp [q3]
    have s3 : ((cc.toNat : Int) == 3) = true := by simp [q3]
    clear hD e3 q0 q1 q2 q3 hsub
    generalize (decBy (cc.toNat : Int) (b.drop 1) ty k).getD [] = L at *
    generalize (decBy (cc.toNat : Int) (b.drop 1) ty k).isSome = okD at *
    go_enter Tryz.func31, Tryz.ntmps31
    go_wp2_with fail
    refine HD.out.mono ?_
    rintro e w3 ⟨_, rfl, ho3, hb3w⟩
    clear HD
    have hrd := ho3.rdV
    obtain ⟨A3, c3, rfl, -, -⟩ := hrd.form
    have Ho3 := Lib.hid ho3
    have Hrd := Lib.hid hrd
    have hT := impl_TypeOf L _ w3 hrd (Nat.le_refl _) HL2.out
    clear ho3 hrd
    by_cases ht : typeOf L = ty
    rotate_left
    · have hdt : (typeOf L != ty) = true := by simp [ht]
      have HG := Lib.hid (show decCol b ty k = none by rw [HL.out, if_neg ht])
      have HT := Lib.hid hT
      clear ht hT HL
      generalize typeOf L = tl at *
      go_wp2_with fail
      refine HT.out.mono ?_
      rintro e w4 ⟨rfl, hb4⟩
      have hb4w := below_go hb3w hb4
      clear hb4
      go_wp2_with fail
      refine bodyPost_ret (v := .tuple #[.slice none 0 0, .bool false]) (by simp [results, Tryz.results31, go_sem]) rfl ⟨_, by rw [HG.out]; rfl, ?_, hb4w⟩
      rw [HG.out]
      exact own_none_s _ _ _ _ _
    have HL4 := Lib.hid (show decCol b ty k = if decOk b (encCol L) k L.length then some L else none by rw [HL.out, if_pos ht])
    rw [ht] at hT
    have HT := Lib.hid hT
    clear ht hT HL
    go_wp2_with fail
    refine HT.out.mono ?_
    rintro e w6 ⟨rfl, hb6⟩
    have hrd6 := Hrd.out.below hb6 (Nat.le_refl _)
    have Ho6 := Lib.hid ((Ho3.out.below hb6 (Nat.le_refl _)).more (Nat.le_refl _) hb6.size)
    have hb6w := below_go hb3w hb6
    have Hrd6 := Lib.hid (hrd6.more (Nat.le_refl _) hb6.size)
    clear hb6 hrd6 Hrd Ho3 HT
    have HE := Lib.hid (impl_EncCol L _ w6 Hrd6.out (Nat.le_refl _) HL2.out)
    have hsu := hb6w.size
    clear Hrd6
    go_wp2_with fail
    refine HE.out.mono ?_
    rintro e w4 ⟨r4, rfl, ho4, hb4⟩
    have hb4w := hb6w.trans (hb4.mono hb6w.size)
    have hre := ho4.rdBc
    obtain ⟨A4, c4, rfl, -, -⟩ := hre.form
    have hS := q_impl_decoded b (encCol L) _ _ k A3 L.length c3 w4 (hx0.below hb4w hhi) hre
    have Ho4 := Lib.hid (Ho6.out.below hb4 (Nat.le_refl _))
    have hs4 := hb4.size
    clear Ho6 hb4 ho4 hre HE
    generalize encCol L = en at *
    cases he : decOk b en k L.length
    · rw [he] at hS
      have HS := Lib.hid hS
      have HG := Lib.hid (show decCol b ty k = none by rw [HL4.out, he]; rfl)
      clear hS he HL4
      go_wp2_with fail
      refine HS.out.mono ?_
      rintro e w5 ⟨rfl, rfl⟩
      rw [show decRes false (.slice A3 L.length c3) = .slice none 0 0 from rfl]
      go_wp2_with fail
      refine bodyPost_ret (v := .tuple #[.slice none 0 0, .bool false]) (by simp [results, Tryz.results31, go_sem]) rfl ⟨_, by rw [HG.out]; rfl, ?_, hb4w⟩
      rw [HG.out]
      exact own_none_s _ _ _ _ _
    · rw [he] at hS
      have HS := Lib.hid hS
      have HG := Lib.hid (show decCol b ty k = some L by rw [HL4.out, he]; rfl)
      clear hS he HL4
      go_wp2_with fail
      refine HS.out.mono ?_
      rintro e w5 ⟨rfl, rfl⟩
      rw [show decRes true (.slice A3 L.length c3) = .slice A3 L.length c3 from rfl]
      go_wp2_with fail
      refine bodyPost_ret (v := .tuple #[.slice A3 L.length c3, .bool true]) (by simp [results, Tryz.results31, go_sem]) rfl ⟨_, by rw [HG.out]; rfl, ?_, hb4w⟩
      rw [HG.out]
      exact Ho4.out.more (by omega) (by omega)
  have eD : decBy (cc.toNat : Int) (b.drop 1) ty k = none := by
    unfold decBy
    rw [if_neg (by omega), if_neg (by omega), if_neg (by omega), if_neg (by omega)]
  have s0 : ((cc.toNat : Int) == 0) = false := by simp; omega
  have s1 : ((cc.toNat : Int) == 1) = false := by simp; omega
  have s2 : ((cc.toNat : Int) == 2) = false := by simp; omega
  have s3 : ((cc.toNat : Int) == 3) = false := by simp; omega
  rw [eD] at HL HL2 hLl
  simp only [Option.getD_none] at HL HL2 hLl
  clear q0 q1 q2 q3 eD hsub
  have ho3 := own_none_s w 83 3 w.heap.size w.heap.size
  have hb3w := hb00
  obtain ⟨L, hL⟩ : ∃ L : List V, [] = L := ⟨_, rfl⟩
  have hL0 : L.length = 0 := by rw [← hL]; rfl
  rw [hL] at HL HL2 hLl
  have ho3 : Own 83 3 w w.heap.size w.heap.size (.slice none 0 0) L.length (L.flatMap V.cells) := by rw [← hL]; exact ho3
  have HL0 := Lib.hid hL0
  clear hL hL0
  go_enter Tryz.func31, Tryz.ntmps31
  go_wp2_with fail
  have hrd := ho3.rdV
  have Ho3 := Lib.hid ho3
  have Hrd := Lib.hid hrd
  have hT := impl_TypeOf L _ w hrd (Nat.le_refl _) HL2.out
  clear ho3 hrd
  by_cases ht : typeOf L = ty
  rotate_left
  · have hdt : (typeOf L != ty) = true := by simp [ht]
    have HG := Lib.hid (show decCol b ty k = none by rw [HL.out, if_neg ht])
    have HT := Lib.hid hT
    clear ht hT HL
    generalize typeOf L = tl at *
    refine HT.out.mono ?_
    rintro e w4 ⟨rfl, hb4⟩
    have hb4w := below_go hb3w hb4
    clear hb4
    go_wp2_with fail
    refine bodyPost_ret (v := .tuple #[.slice none 0 0, .bool false]) (by simp [results, Tryz.results31, go_sem]) rfl ⟨_, by rw [HG.out]; rfl, ?_, hb4w⟩
    rw [HG.out]
    exact own_none_s _ _ _ _ _
  have HL4 := Lib.hid (show decCol b ty k = if decOk b (encCol L) k 0 then some L else none by rw [HL.out, if_pos ht, HL0.out])
  rw [ht] at hT
  have HT := Lib.hid hT
  clear ht hT HL
  refine HT.out.mono ?_
  rintro e w6 ⟨rfl, hb6⟩
  have hrd6 := Hrd.out.below hb6 (Nat.le_refl _)
  have Ho6 := Lib.hid ((Ho3.out.below hb6 (Nat.le_refl _)).more (Nat.le_refl _) hb6.size)
  have hb6w := below_go hb3w hb6
  have Hrd6 := Lib.hid (hrd6.more (Nat.le_refl _) hb6.size)
  clear hb6 hrd6 Hrd Ho3 HT
  have HE := Lib.hid (impl_EncCol L _ w6 Hrd6.out (Nat.le_refl _) HL2.out)
  have hsu := hb6w.size
  clear Hrd6
  go_wp2_with fail
  refine HE.out.mono ?_
  rintro e w4 ⟨r4, rfl, ho4, hb4⟩
  have hb4w := hb6w.trans (hb4.mono hb6w.size)
  have hre := ho4.rdBc
  obtain ⟨A4, c4, rfl, -, -⟩ := hre.form
  have hS := q_impl_decoded b (encCol L) _ _ k none 0 0 w4 (hx0.below hb4w hhi) hre
  have Ho4 := Lib.hid (Ho6.out.below hb4 (Nat.le_refl _))
  have hs4 := hb4.size
  clear Ho6 hb4 ho4 hre HE
  generalize encCol L = en at *
  cases he : decOk b en k 0
  · rw [he] at hS
    have HS := Lib.hid hS
    have HG := Lib.hid (show decCol b ty k = none by rw [HL4.out, he]; rfl)
    clear hS he HL4
    go_wp2_with fail
    refine HS.out.mono ?_
    rintro e w5 ⟨rfl, rfl⟩
    rw [show decRes false (.slice none 0 0) = .slice none 0 0 from rfl]
    go_wp2_with fail
    refine bodyPost_ret (v := .tuple #[.slice none 0 0, .bool false]) (by simp [results, Tryz.results31, go_sem]) rfl ⟨_, by rw [HG.out]; rfl, ?_, hb4w⟩
    rw [HG.out]
    exact own_none_s _ _ _ _ _
  · rw [he] at hS
    have HS := Lib.hid hS
    have HG := Lib.hid (show decCol b ty k = some L by rw [HL4.out, he]; rfl)
    clear hS he HL4
    go_wp2_with fail
    refine HS.out.mono ?_
    rintro e w5 ⟨rfl, rfl⟩
    rw [show decRes true (.slice none 0 0) = .slice none 0 0 from rfl]
    go_wp2_with fail
    refine bodyPost_ret (v := .tuple #[.slice none 0 0, .bool true]) (by simp [results, Tryz.results31, go_sem]) rfl ⟨_, by rw [HG.out]; rfl, ?_, hb4w⟩
    rw [HG.out]
    exact Ho4.out.more (by omega) (by omega)
set_option maxHeartbeats 4000000 in
set_option maxRecDepth 20000 in
theorem spec_DecCol (b : List UInt8) (x : Value) (ty k : Int) (w : World) {lo hi : Nat} (hx : RdB w lo hi x b) (hhi : hi ≤ w.heap.size) (hbl : b.length ≤ 1000000000) :
    Calls Tryz.prog 30 #[x, .int .i64 ty, .int .i64 k] w fun e w' => ∃ r, e = .returned (.tuple #[r, .bool (decCol b ty k).isSome]) ∧ Own 83 3 w' w.heap.size w'.heap.size r ((decCol b ty k).getD []).length (((decCol b ty k).getD []).flatMap V.cells) ∧ Below w.heap.size w w' := by
  obtain ⟨A, c, rfl, hl, hl2⟩ := hx.form
  have hb0 := up_a1 w (.cells #[] 83)
  have own0 := World.ownsRow_made w (base := w.heap.size) (e := 83) (size := 3) #[] 0 (Nat.le_refl _) (by decide) rfl
  have Own0 := Lib.hid (Own.new own0)
  clear own0
  have hx0 := hx.below hb0 hhi
  have hsz0 := hb0.size
  obtain ⟨W0, hW0⟩ : ∃ W0, (w.alloc (.cells #[] 83)) = W0 := ⟨_, rfl⟩
  have HR0 := Below.refl W0.heap.size W0
  rw [hW0] at hb0 Own0 hx0 hsz0
  have HW0 := Lib.hid hW0
  clear hW0 hx
  by_cases h0 : b.length = 0
  · have HG := Lib.hid (show decCol b ty k = none by
      cases b with
      | nil => rfl
      | cons a r => simp at h0)
    have hd : ((b.length : Int) == 0) = true := by simp [h0]
    clear h0
    go_enter Tryz.func30, Tryz.ntmps30
    go_wp2_with fail
    try rw [HW0.out]
    refine bodyPost_ret (v := .tuple #[.slice (some ⟨w.heap.size, 0, none⟩) 0 0, .bool false]) (by simp [results, Tryz.results30, go_sem]) rfl ⟨_, by rw [HG.out]; rfl, ?_, below_go0 hb0 (HR0)⟩
    rw [HG.out]
    exact (Own0.out.below (HR0) (Nat.le_refl _)).more (Nat.le_refl _) (HR0).size
  have hd : ((b.length : Int) == 0) = false := by simp only [beq_eq_false_iff_ne, ne_eq]; omega
  have hQ := q_spec_l1In ty 1 2 W0
  cases hty : inR ty 1 2
  · rw [hty] at hQ
    have HQ := Lib.hid hQ
    have HG := Lib.hid (decCol_ty (b := b) (k := k) hty)
    clear hty hQ h0
    go_enter Tryz.func30, Tryz.ntmps30
    go_wp2_with fail
    rw [HW0.out]
    refine HQ.out.mono ?_
    rintro e w1 ⟨rfl, rfl⟩
    go_wp2_with fail
    refine bodyPost_ret (v := .tuple #[.slice (some ⟨w.heap.size, 0, none⟩) 0 0, .bool false]) (by simp [results, Tryz.results30, go_sem]) rfl ⟨_, by rw [HG.out]; rfl, ?_, below_go0 hb0 (HR0)⟩
    rw [HG.out]
    exact (Own0.out.below (HR0) (Nat.le_refl _)).more (Nat.le_refl _) (HR0).size
  rw [hty] at hQ
  have HQ := Lib.hid hQ
  clear hQ hty
  have h1l : 1 ≤ b.length := by omega
  obtain ⟨gb, off, cc, rfl, -, hbl0, hcc, e0⟩ := hx0.at (show 0 < b.length by omega)
  rw [Nat.add_zero] at e0
  have hsub := hx0.dropIf (k := 1) h1l hl
  have f1 : (1 : Int) ≤ (c : Int) := by omega
  have f2 : (1 : Int) ≤ (b.length : Int) := by omega
  have f3 : (b.length : Int) ≤ (c : Int) := by omega
  obtain ⟨AA, hAA⟩ : ∃ AA, (if c = 1 then some (⟨gb, off, none⟩ : Addr) else some ⟨gb, off + 1, none⟩) = AA := ⟨_, rfl⟩
  rw [hAA] at hsub
  have hct := cc.toNat_lt
  have HC := Lib.hid hcc
  clear hcc h0 h1l
  by_cases q0 : cc.toNat = 0
  · have e0 : decBy (cc.toNat : Int) (b.drop 1) ty k = decPlain (b.drop 1) ty k := by rw [q0]; rfl
    have hD := spec_DecPlain (b.drop 1) _ ty k W0 hsub (Nat.le_trans hhi hsz0) (by rw [List.length_drop]; omega)
    rw [← e0] at hD
    have s0 : ((cc.toNat : Int) == 0) = true := by simp [q0]
    clear e0 q0 hsub
    cases hB : decBy (cc.toNat : Int) (b.drop 1) ty k with
    | none =>
      rw [hB] at hD
      have HD := Lib.hid hD
      have HG := Lib.hid (decCol_none' HC.out hB)
      clear hD hB
      go_enter Tryz.func30, Tryz.ntmps30
      go_wp2_with fail
      rw [HW0.out]
      refine HQ.out.mono ?_
      rintro e w1 ⟨rfl, rfl⟩
      go_wp2_with fail
      refine HD.out.mono ?_
      rintro e w3 ⟨_, rfl, -, hb3⟩
      simp only [Option.isSome_none]
      go_wp2_with fail
      refine bodyPost_ret (v := .tuple #[.slice (some ⟨w.heap.size, 0, none⟩) 0 0, .bool false]) (by simp [results, Tryz.results30, go_sem]) rfl ⟨_, by rw [HG.out]; rfl, ?_, below_go0 hb0 (hb3)⟩
      rw [HG.out]
      exact (Own0.out.below (hb3) (Nat.le_refl _)).more (Nat.le_refl _) (hb3).size
    | some L =>
      rw [hB] at hD
      have HD := Lib.hid (show Calls Tryz.prog 80 _ W0 fun e w' => ∃ r, e = .returned (.tuple #[r, .bool true]) ∧ Own 83 3 w' W0.heap.size w'.heap.size r L.length (L.flatMap V.cells) ∧ Below W0.heap.size W0 w' from hD)
      have HG0 := Lib.hid (decCol_some' HC.out hB)
      have HLs := Lib.hid (decBy_small hB)
      have hLl : L.length ≤ 64 := (decBy_enc hB).2.2.2
      clear hD hB
      go_enter Tryz.func30, Tryz.ntmps30
      go_wp2_with fail
      rw [HW0.out]
      refine HQ.out.mono ?_
      rintro e w1 ⟨rfl, rfl⟩
      go_wp2_with fail
      refine HD.out.mono ?_
      rintro e w3 ⟨_, rfl, ho3, hb3⟩
      have hrd := ho3.rdV
      obtain ⟨A3, c3, rfl, -, -⟩ := hrd.form
      have Ho3 := Lib.hid (ho3.more hsz0 (Nat.le_refl _))
      have Hrd := Lib.hid hrd
      have hT := spec_TypeOf L _ w3 hrd (Nat.le_refl _) HLs.out
      clear ho3 hrd HD HQ
      by_cases ht : typeOf L = ty
      rotate_left
      · have hdt : (typeOf L != ty) = true := by simp [ht]
        have HG := Lib.hid (show decCol b ty k = none by rw [HG0.out, decide_eq_false ht]; simp)
        have HT := Lib.hid hT
        clear ht hT
        generalize typeOf L = tl at *
        go_wp2_with fail
        refine HT.out.mono ?_
        rintro e w4 ⟨rfl, hb4⟩
        have hb4w := below_go hb3 hb4
        clear hb4
        go_wp2_with fail
        refine bodyPost_ret (v := .tuple #[.slice (some ⟨w.heap.size, 0, none⟩) 0 0, .bool false]) (by simp [results, Tryz.results30, go_sem]) rfl ⟨_, by rw [HG.out]; rfl, ?_, below_go0 hb0 (hb4w)⟩
        rw [HG.out]
        exact (Own0.out.below (hb4w) (Nat.le_refl _)).more (Nat.le_refl _) (hb4w).size
      have HG1 := Lib.hid (show decCol b ty k = if eqd b (encCol L) then some L else none by rw [HG0.out, decide_eq_true ht, Bool.true_and])
      rw [ht] at hT
      have HT := Lib.hid hT
      clear ht hT HG0
      go_wp2_with fail
      refine HT.out.mono ?_
      rintro e w6 ⟨rfl, hb6⟩
      have hrd6 := Hrd.out.below hb6 (Nat.le_refl _)
      have Ho6 := Lib.hid ((Ho3.out.below hb6 (Nat.le_refl _)).more (Nat.le_refl _) hb6.size)
      have hb6w := below_go hb3 hb6
      have HE := Lib.hid (spec_EncCol L _ w6 hrd6 hb6.size HLs.out)
      clear hb6 hrd6 Hrd Ho3 HT
      go_wp2_with fail
      refine HE.out.mono ?_
      rintro e w4 ⟨r4, rfl, ho4, hb4⟩
      have hb4w := below_go hb6w hb4
      have hre := ho4.rdBc
      obtain ⟨A4, c4, rfl, -, -⟩ := hre.form
      have hS := q_spec_l5Same (encCol L) b _ _ w4 hre (hx0.below hb4w (Nat.le_trans hhi hsz0))
      have Ho4 := Lib.hid ((Ho6.out.below hb4 (Nat.le_refl _)).more (Nat.le_refl _) hb4.size)
      clear Ho6 hb4 ho4 hre HE
      cases he : eqd (encCol L) b
      · rw [he] at hS
        have HS := Lib.hid hS
        have HG := Lib.hid (show decCol b ty k = none by rw [HG1.out, eqd_comm, he]; rfl)
        clear hS he
        generalize encCol L = en at *
        go_wp2_with fail
        refine HS.out.mono ?_
        rintro e w5 ⟨rfl, rfl⟩
        go_wp2_with fail
        refine bodyPost_ret (v := .tuple #[.slice (some ⟨w.heap.size, 0, none⟩) 0 0, .bool false]) (by simp [results, Tryz.results30, go_sem]) rfl ⟨_, by rw [HG.out]; rfl, ?_, below_go0 hb0 (hb4w)⟩
        rw [HG.out]
        exact (Own0.out.below (hb4w) (Nat.le_refl _)).more (Nat.le_refl _) (hb4w).size
      · rw [he] at hS
        have HS := Lib.hid hS
        have HG := Lib.hid (show decCol b ty k = some L by rw [HG1.out, eqd_comm, he]; rfl)
        clear hS he
        generalize encCol L = en at *
        go_wp2_with fail
        refine HS.out.mono ?_
        rintro e w5 ⟨rfl, rfl⟩
        go_wp2_with fail
        refine bodyPost_ret (v := .tuple #[.slice A3 L.length c3, .bool true]) (by simp [results, Tryz.results30, go_sem]) rfl ⟨_, by rw [HG.out]; rfl, ?_, below_go0 hb0 hb4w⟩
        rw [HG.out]
        exact Ho4.out
  by_cases q1 : cc.toNat = 1
  · have e1 : decBy (cc.toNat : Int) (b.drop 1) ty k = decRuns (b.drop 1) ty k := by rw [q1]; rfl
    have hD := spec_DecRuns (b.drop 1) _ ty k W0 hsub (Nat.le_trans hhi hsz0) (by rw [List.length_drop]; omega)
    rw [← e1] at hD
    have s0 : ((cc.toNat : Int) == 0) = false := by simp [q1]
    have s1 : ((cc.toNat : Int) == 1) = true := by simp [q1]
    clear e1 q0 q1 hsub
    cases hB : decBy (cc.toNat : Int) (b.drop 1) ty k with
    | none =>
      rw [hB] at hD
      have HD := Lib.hid hD
      have HG := Lib.hid (decCol_none' HC.out hB)
      clear hD hB
      go_enter Tryz.func30, Tryz.ntmps30
      go_wp2_with fail
      rw [HW0.out]
      refine HQ.out.mono ?_
      rintro e w1 ⟨rfl, rfl⟩
      go_wp2_with fail
      refine HD.out.mono ?_
      rintro e w3 ⟨_, rfl, -, hb3⟩
      simp only [Option.isSome_none]
      go_wp2_with fail
      refine bodyPost_ret (v := .tuple #[.slice (some ⟨w.heap.size, 0, none⟩) 0 0, .bool false]) (by simp [results, Tryz.results30, go_sem]) rfl ⟨_, by rw [HG.out]; rfl, ?_, below_go0 hb0 (hb3)⟩
      rw [HG.out]
      exact (Own0.out.below (hb3) (Nat.le_refl _)).more (Nat.le_refl _) (hb3).size
    | some L =>
      rw [hB] at hD
      have HD := Lib.hid (show Calls Tryz.prog 81 _ W0 fun e w' => ∃ r, e = .returned (.tuple #[r, .bool true]) ∧ Own 83 3 w' W0.heap.size w'.heap.size r L.length (L.flatMap V.cells) ∧ Below W0.heap.size W0 w' from hD)
      have HG0 := Lib.hid (decCol_some' HC.out hB)
      have HLs := Lib.hid (decBy_small hB)
      have hLl : L.length ≤ 64 := (decBy_enc hB).2.2.2
      clear hD hB
      go_enter Tryz.func30, Tryz.ntmps30
      go_wp2_with fail
      rw [HW0.out]
      refine HQ.out.mono ?_
      rintro e w1 ⟨rfl, rfl⟩
      go_wp2_with fail
      refine HD.out.mono ?_
      rintro e w3 ⟨_, rfl, ho3, hb3⟩
      have hrd := ho3.rdV
      obtain ⟨A3, c3, rfl, -, -⟩ := hrd.form
      have Ho3 := Lib.hid (ho3.more hsz0 (Nat.le_refl _))
      have Hrd := Lib.hid hrd
      have hT := spec_TypeOf L _ w3 hrd (Nat.le_refl _) HLs.out
      clear ho3 hrd HD HQ
      by_cases ht : typeOf L = ty
      rotate_left
      · have hdt : (typeOf L != ty) = true := by simp [ht]
        have HG := Lib.hid (show decCol b ty k = none by rw [HG0.out, decide_eq_false ht]; simp)
        have HT := Lib.hid hT
        clear ht hT
        generalize typeOf L = tl at *
        go_wp2_with fail
        refine HT.out.mono ?_
        rintro e w4 ⟨rfl, hb4⟩
        have hb4w := below_go hb3 hb4
        clear hb4
        go_wp2_with fail
        refine bodyPost_ret (v := .tuple #[.slice (some ⟨w.heap.size, 0, none⟩) 0 0, .bool false]) (by simp [results, Tryz.results30, go_sem]) rfl ⟨_, by rw [HG.out]; rfl, ?_, below_go0 hb0 (hb4w)⟩
        rw [HG.out]
        exact (Own0.out.below (hb4w) (Nat.le_refl _)).more (Nat.le_refl _) (hb4w).size
      have HG1 := Lib.hid (show decCol b ty k = if eqd b (encCol L) then some L else none by rw [HG0.out, decide_eq_true ht, Bool.true_and])
      rw [ht] at hT
      have HT := Lib.hid hT
      clear ht hT HG0
      go_wp2_with fail
      refine HT.out.mono ?_
      rintro e w6 ⟨rfl, hb6⟩
      have hrd6 := Hrd.out.below hb6 (Nat.le_refl _)
      have Ho6 := Lib.hid ((Ho3.out.below hb6 (Nat.le_refl _)).more (Nat.le_refl _) hb6.size)
      have hb6w := below_go hb3 hb6
      have HE := Lib.hid (spec_EncCol L _ w6 hrd6 hb6.size HLs.out)
      clear hb6 hrd6 Hrd Ho3 HT
      go_wp2_with fail
      refine HE.out.mono ?_
      rintro e w4 ⟨r4, rfl, ho4, hb4⟩
      have hb4w := below_go hb6w hb4
      have hre := ho4.rdBc
      obtain ⟨A4, c4, rfl, -, -⟩ := hre.form
      have hS := q_spec_l5Same (encCol L) b _ _ w4 hre (hx0.below hb4w (Nat.le_trans hhi hsz0))
      have Ho4 := Lib.hid ((Ho6.out.below hb4 (Nat.le_refl _)).more (Nat.le_refl _) hb4.size)
      clear Ho6 hb4 ho4 hre HE
      cases he : eqd (encCol L) b
      · rw [he] at hS
        have HS := Lib.hid hS
        have HG := Lib.hid (show decCol b ty k = none by rw [HG1.out, eqd_comm, he]; rfl)
        clear hS he
        generalize encCol L = en at *
        go_wp2_with fail
        refine HS.out.mono ?_
        rintro e w5 ⟨rfl, rfl⟩
        go_wp2_with fail
        refine bodyPost_ret (v := .tuple #[.slice (some ⟨w.heap.size, 0, none⟩) 0 0, .bool false]) (by simp [results, Tryz.results30, go_sem]) rfl ⟨_, by rw [HG.out]; rfl, ?_, below_go0 hb0 (hb4w)⟩
        rw [HG.out]
        exact (Own0.out.below (hb4w) (Nat.le_refl _)).more (Nat.le_refl _) (hb4w).size
      · rw [he] at hS
        have HS := Lib.hid hS
        have HG := Lib.hid (show decCol b ty k = some L by rw [HG1.out, eqd_comm, he]; rfl)
        clear hS he
        generalize encCol L = en at *
        go_wp2_with fail
        refine HS.out.mono ?_
        rintro e w5 ⟨rfl, rfl⟩
        go_wp2_with fail
        refine bodyPost_ret (v := .tuple #[.slice A3 L.length c3, .bool true]) (by simp [results, Tryz.results30, go_sem]) rfl ⟨_, by rw [HG.out]; rfl, ?_, below_go0 hb0 hb4w⟩
        rw [HG.out]
        exact Ho4.out
  by_cases q2 : cc.toNat = 2
  · have e2 : decBy (cc.toNat : Int) (b.drop 1) ty k = decDict (b.drop 1) ty k := by rw [q2]; rfl
    have hD := spec_DecDict (b.drop 1) _ ty k W0 hsub (Nat.le_trans hhi hsz0) (by rw [List.length_drop]; omega)
    rw [← e2] at hD
    have s0 : ((cc.toNat : Int) == 0) = false := by simp [q2]
    have s1 : ((cc.toNat : Int) == 1) = false := by simp [q2]
    have s2 : ((cc.toNat : Int) == 2) = true := by simp [q2]
    clear e2 q0 q1 q2 hsub
    cases hB : decBy (cc.toNat : Int) (b.drop 1) ty k with
    | none =>
      rw [hB] at hD
      have HD := Lib.hid hD
      have HG := Lib.hid (decCol_none' HC.out hB)
      clear hD hB
      go_enter Tryz.func30, Tryz.ntmps30
      go_wp2_with fail
      rw [HW0.out]
      refine HQ.out.mono ?_
      rintro e w1 ⟨rfl, rfl⟩
      go_wp2_with fail
      refine HD.out.mono ?_
      rintro e w3 ⟨_, rfl, -, hb3⟩
      simp only [Option.isSome_none]
      go_wp2_with fail
      refine bodyPost_ret (v := .tuple #[.slice (some ⟨w.heap.size, 0, none⟩) 0 0, .bool false]) (by simp [results, Tryz.results30, go_sem]) rfl ⟨_, by rw [HG.out]; rfl, ?_, below_go0 hb0 (hb3)⟩
      rw [HG.out]
      exact (Own0.out.below (hb3) (Nat.le_refl _)).more (Nat.le_refl _) (hb3).size
    | some L =>
      rw [hB] at hD
      have HD := Lib.hid (show Calls Tryz.prog 82 _ W0 fun e w' => ∃ r, e = .returned (.tuple #[r, .bool true]) ∧ Own 83 3 w' W0.heap.size w'.heap.size r L.length (L.flatMap V.cells) ∧ Below W0.heap.size W0 w' from hD)
      have HG0 := Lib.hid (decCol_some' HC.out hB)
      have HLs := Lib.hid (decBy_small hB)
      have hLl : L.length ≤ 64 := (decBy_enc hB).2.2.2
      clear hD hB
      go_enter Tryz.func30, Tryz.ntmps30
      go_wp2_with fail
      rw [HW0.out]
      refine HQ.out.mono ?_
      rintro e w1 ⟨rfl, rfl⟩
      go_wp2_with fail
      refine HD.out.mono ?_
      rintro e w3 ⟨_, rfl, ho3, hb3⟩
      have hrd := ho3.rdV
      obtain ⟨A3, c3, rfl, -, -⟩ := hrd.form
      have Ho3 := Lib.hid (ho3.more hsz0 (Nat.le_refl _))
      have Hrd := Lib.hid hrd
      have hT := spec_TypeOf L _ w3 hrd (Nat.le_refl _) HLs.out
      clear ho3 hrd HD HQ
      by_cases ht : typeOf L = ty
      rotate_left
      · have hdt : (typeOf L != ty) = true := by simp [ht]
        have HG := Lib.hid (show decCol b ty k = none by rw [HG0.out, decide_eq_false ht]; simp)
        have HT := Lib.hid hT
        clear ht hT
        generalize typeOf L = tl at *
        go_wp2_with fail
        refine HT.out.mono ?_
        rintro e w4 ⟨rfl, hb4⟩
        have hb4w := below_go hb3 hb4
        clear hb4
        go_wp2_with fail
        refine bodyPost_ret (v := .tuple #[.slice (some ⟨w.heap.size, 0, none⟩) 0 0, .bool false]) (by simp [results, Tryz.results30, go_sem]) rfl ⟨_, by rw [HG.out]; rfl, ?_, below_go0 hb0 (hb4w)⟩
        rw [HG.out]
        exact (Own0.out.below (hb4w) (Nat.le_refl _)).more (Nat.le_refl _) (hb4w).size
      have HG1 := Lib.hid (show decCol b ty k = if eqd b (encCol L) then some L else none by rw [HG0.out, decide_eq_true ht, Bool.true_and])
      rw [ht] at hT
      have HT := Lib.hid hT
      clear ht hT HG0
      go_wp2_with fail
      refine HT.out.mono ?_
      rintro e w6 ⟨rfl, hb6⟩
      have hrd6 := Hrd.out.below hb6 (Nat.le_refl _)
      have Ho6 := Lib.hid ((Ho3.out.below hb6 (Nat.le_refl _)).more (Nat.le_refl _) hb6.size)
      have hb6w := below_go hb3 hb6
      have HE := Lib.hid (spec_EncCol L _ w6 hrd6 hb6.size HLs.out)
      clear hb6 hrd6 Hrd Ho3 HT
      go_wp2_with fail
      refine HE.out.mono ?_
      rintro e w4 ⟨r4, rfl, ho4, hb4⟩
      have hb4w := below_go hb6w hb4
      have hre := ho4.rdBc
      obtain ⟨A4, c4, rfl, -, -⟩ := hre.form
      have hS := q_spec_l5Same (encCol L) b _ _ w4 hre (hx0.below hb4w (Nat.le_trans hhi hsz0))
      have Ho4 := Lib.hid ((Ho6.out.below hb4 (Nat.le_refl _)).more (Nat.le_refl _) hb4.size)
      clear Ho6 hb4 ho4 hre HE
      cases he : eqd (encCol L) b
      · rw [he] at hS
        have HS := Lib.hid hS
        have HG := Lib.hid (show decCol b ty k = none by rw [HG1.out, eqd_comm, he]; rfl)
        clear hS he
        generalize encCol L = en at *
        go_wp2_with fail
        refine HS.out.mono ?_
        rintro e w5 ⟨rfl, rfl⟩
        go_wp2_with fail
        refine bodyPost_ret (v := .tuple #[.slice (some ⟨w.heap.size, 0, none⟩) 0 0, .bool false]) (by simp [results, Tryz.results30, go_sem]) rfl ⟨_, by rw [HG.out]; rfl, ?_, below_go0 hb0 (hb4w)⟩
        rw [HG.out]
        exact (Own0.out.below (hb4w) (Nat.le_refl _)).more (Nat.le_refl _) (hb4w).size
      · rw [he] at hS
        have HS := Lib.hid hS
        have HG := Lib.hid (show decCol b ty k = some L by rw [HG1.out, eqd_comm, he]; rfl)
        clear hS he
        generalize encCol L = en at *
        go_wp2_with fail
        refine HS.out.mono ?_
        rintro e w5 ⟨rfl, rfl⟩
        go_wp2_with fail
        refine bodyPost_ret (v := .tuple #[.slice A3 L.length c3, .bool true]) (by simp [results, Tryz.results30, go_sem]) rfl ⟨_, by rw [HG.out]; rfl, ?_, below_go0 hb0 hb4w⟩
        rw [HG.out]
        exact Ho4.out
  by_cases q3 : cc.toNat = 3
  · have e3 : decBy (cc.toNat : Int) (b.drop 1) ty k = decFrame (b.drop 1) k := by rw [q3]; rfl
    have hD := spec_DecFrame (b.drop 1) _ k W0 hsub (Nat.le_trans hhi hsz0) (by rw [List.length_drop]; omega)
    rw [← e3] at hD
    have s0 : ((cc.toNat : Int) == 0) = false := by simp [q3]
    have s1 : ((cc.toNat : Int) == 1) = false := by simp [q3]
    have s2 : ((cc.toNat : Int) == 2) = false := by simp [q3]
    have s3 : ((cc.toNat : Int) == 3) = true := by simp [q3]
    clear e3 q0 q1 q2 q3 hsub
    cases hB : decBy (cc.toNat : Int) (b.drop 1) ty k with
    | none =>
      rw [hB] at hD
      have HD := Lib.hid hD
      have HG := Lib.hid (decCol_none' HC.out hB)
      clear hD hB
      go_enter Tryz.func30, Tryz.ntmps30
      go_wp2_with fail
      rw [HW0.out]
      refine HQ.out.mono ?_
      rintro e w1 ⟨rfl, rfl⟩
      go_wp2_with fail
      refine HD.out.mono ?_
      rintro e w3 ⟨_, rfl, -, hb3⟩
      simp only [Option.isSome_none]
      go_wp2_with fail
      refine bodyPost_ret (v := .tuple #[.slice (some ⟨w.heap.size, 0, none⟩) 0 0, .bool false]) (by simp [results, Tryz.results30, go_sem]) rfl ⟨_, by rw [HG.out]; rfl, ?_, below_go0 hb0 (hb3)⟩
      rw [HG.out]
      exact (Own0.out.below (hb3) (Nat.le_refl _)).more (Nat.le_refl _) (hb3).size
    | some L =>
      rw [hB] at hD
      have HD := Lib.hid (show Calls Tryz.prog 83 _ W0 fun e w' => ∃ r, e = .returned (.tuple #[r, .bool true]) ∧ Own 83 3 w' W0.heap.size w'.heap.size r L.length (L.flatMap V.cells) ∧ Below W0.heap.size W0 w' from hD)
      have HG0 := Lib.hid (decCol_some' HC.out hB)
      have HLs := Lib.hid (decBy_small hB)
      have hLl : L.length ≤ 64 := (decBy_enc hB).2.2.2
      clear hD hB
      go_enter Tryz.func30, Tryz.ntmps30
      go_wp2_with fail
      rw [HW0.out]
      refine HQ.out.mono ?_
      rintro e w1 ⟨rfl, rfl⟩
      go_wp2_with fail
      refine HD.out.mono ?_
      rintro e w3 ⟨_, rfl, ho3, hb3⟩
      have hrd := ho3.rdV
      obtain ⟨A3, c3, rfl, -, -⟩ := hrd.form
      have Ho3 := Lib.hid (ho3.more hsz0 (Nat.le_refl _))
      have Hrd := Lib.hid hrd
      have hT := spec_TypeOf L _ w3 hrd (Nat.le_refl _) HLs.out
      clear ho3 hrd HD HQ
      by_cases ht : typeOf L = ty
      rotate_left
      · have hdt : (typeOf L != ty) = true := by simp [ht]
        have HG := Lib.hid (show decCol b ty k = none by rw [HG0.out, decide_eq_false ht]; simp)
        have HT := Lib.hid hT
        clear ht hT
        generalize typeOf L = tl at *
        go_wp2_with fail
        refine HT.out.mono ?_
        rintro e w4 ⟨rfl, hb4⟩
        have hb4w := below_go hb3 hb4
        clear hb4
        go_wp2_with fail
        refine bodyPost_ret (v := .tuple #[.slice (some ⟨w.heap.size, 0, none⟩) 0 0, .bool false]) (by simp [results, Tryz.results30, go_sem]) rfl ⟨_, by rw [HG.out]; rfl, ?_, below_go0 hb0 (hb4w)⟩
        rw [HG.out]
        exact (Own0.out.below (hb4w) (Nat.le_refl _)).more (Nat.le_refl _) (hb4w).size
      have HG1 := Lib.hid (show decCol b ty k = if eqd b (encCol L) then some L else none by rw [HG0.out, decide_eq_true ht, Bool.true_and])
      rw [ht] at hT
      have HT := Lib.hid hT
      clear ht hT HG0
      go_wp2_with fail
      refine HT.out.mono ?_
      rintro e w6 ⟨rfl, hb6⟩
      have hrd6 := Hrd.out.below hb6 (Nat.le_refl _)
      have Ho6 := Lib.hid ((Ho3.out.below hb6 (Nat.le_refl _)).more (Nat.le_refl _) hb6.size)
      have hb6w := below_go hb3 hb6
      have HE := Lib.hid (spec_EncCol L _ w6 hrd6 hb6.size HLs.out)
      clear hb6 hrd6 Hrd Ho3 HT
      go_wp2_with fail
      refine HE.out.mono ?_
      rintro e w4 ⟨r4, rfl, ho4, hb4⟩
      have hb4w := below_go hb6w hb4
      have hre := ho4.rdBc
      obtain ⟨A4, c4, rfl, -, -⟩ := hre.form
      have hS := q_spec_l5Same (encCol L) b _ _ w4 hre (hx0.below hb4w (Nat.le_trans hhi hsz0))
      have Ho4 := Lib.hid ((Ho6.out.below hb4 (Nat.le_refl _)).more (Nat.le_refl _) hb4.size)
      clear Ho6 hb4 ho4 hre HE
      cases he : eqd (encCol L) b
      · rw [he] at hS
        have HS := Lib.hid hS
        have HG := Lib.hid (show decCol b ty k = none by rw [HG1.out, eqd_comm, he]; rfl)
        clear hS he
        generalize encCol L = en at *
        go_wp2_with fail
        refine HS.out.mono ?_
        rintro e w5 ⟨rfl, rfl⟩
        go_wp2_with fail
        refine bodyPost_ret (v := .tuple #[.slice (some ⟨w.heap.size, 0, none⟩) 0 0, .bool false]) (by simp [results, Tryz.results30, go_sem]) rfl ⟨_, by rw [HG.out]; rfl, ?_, below_go0 hb0 (hb4w)⟩
        rw [HG.out]
        exact (Own0.out.below (hb4w) (Nat.le_refl _)).more (Nat.le_refl _) (hb4w).size
      · rw [he] at hS
        have HS := Lib.hid hS
        have HG := Lib.hid (show decCol b ty k = some L by rw [HG1.out, eqd_comm, he]; rfl)
        clear hS he
        generalize encCol L = en at *
        go_wp2_with fail
        refine HS.out.mono ?_
        rintro e w5 ⟨rfl, rfl⟩
        go_wp2_with fail
        refine bodyPost_ret (v := .tuple #[.slice A3 L.length c3, .bool true]) (by simp [results, Tryz.results30, go_sem]) rfl ⟨_, by rw [HG.out]; rfl, ?_, below_go0 hb0 hb4w⟩
        rw [HG.out]
        exact Ho4.out
  have eD : decBy (cc.toNat : Int) (b.drop 1) ty k = none := by
    unfold decBy
    rw [if_neg (by omega), if_neg (by omega), if_neg (by omega), if_neg (by omega)]
  have s0 : ((cc.toNat : Int) == 0) = false := by simp; omega
  have s1 : ((cc.toNat : Int) == 1) = false := by simp; omega
  have s2 : ((cc.toNat : Int) == 2) = false := by simp; omega
  have s3 : ((cc.toNat : Int) == 3) = false := by simp; omega
  have HG := Lib.hid (decCol_none' HC.out eD)
  clear q0 q1 q2 q3 eD hsub
  go_enter Tryz.func30, Tryz.ntmps30
  go_wp2_with fail
  rw [HW0.out]
  refine HQ.out.mono ?_
  rintro e w1 ⟨rfl, rfl⟩
  go_wp2_with fail
  refine bodyPost_ret (v := .tuple #[.slice (some ⟨w.heap.size, 0, none⟩) 0 0, .bool false]) (by simp [results, Tryz.results30, go_sem]) rfl ⟨_, by rw [HG.out]; rfl, ?_, below_go0 hb0 (HR0)⟩
  rw [HG.out]
  exact (Own0.out.below (HR0) (Nat.le_refl _)).more (Nat.le_refl _) (HR0).size
end Go.Proofs.YticimccfeohpcaaGreat
