/- Rows decoded of their group (the reference): contracts. -/
import Derived.Test.YticimccfeohpcaaGreatES
namespace Go.Proofs.YticimccfeohpcaaGreat
open Go.Sort Go.ChangeShapes Go.WideShapes Go.ChangeAt Go.RowKit Go.Lb
set_option maxHeartbeats 8000000 in
set_option maxRecDepth 20000 in
theorem spec_GetGroup (cols : List Int) (cv0 : Value) (b : List UInt8) (x : Value) (w : World) {l1 h1 lo hi : Nat} (hc : RdI w l1 h1 cv0 cols) (hh1 : h1 ≤ w.heap.size) (hx : RdB w lo hi x b) (hhi : hi ≤ w.heap.size) (hbl : b.length ≤ 1000000000) :
    Calls Tryz.prog 26 #[cv0, x] w fun e w' => ∃ r, e = .returned (.tuple #[r, .bool (getGroup cols b).isSome]) ∧ OwnR 70 83 w' w.heap.size w'.heap.size r ((getGroup cols b).getD []) ∧ Below w.heap.size w w' := by
  obtain ⟨A, c, rfl, hl, hl2⟩ := hx.form
  obtain ⟨Ac, cc, rfl, hcl, hcl2⟩ := hc.form
  obtain ⟨i0, hif, hz0, hz1, hz2⟩ := info_parts info_Row
  replace hif := Lib.hid hif
  replace hz0 := Lib.hid hz0
  replace hz1 := Lib.hid hz1
  replace hz2 := Lib.hid hz2
  obtain ⟨i1, hif1, hy0, hy1, hy2⟩ := info_parts info_val
  replace hif1 := Lib.hid hif1
  replace hy0 := Lib.hid hy0
  replace hy1 := Lib.hid hy1
  replace hy2 := Lib.hid hy2
  have own00 := World.ownsRow_made w (base := w.heap.size) (e := 70) (size := 2) #[] 0 (Nat.le_refl _) (by decide) rfl
  have hW0b := up_a1 w (.cells #[] 70)
  obtain ⟨W0, hW0⟩ : ∃ W0, (w.alloc (.cells #[] 70)) = W0 := ⟨_, rfl⟩
  rw [hW0] at own00 hW0b
  have HW0 := Lib.hid hW0
  have hw0s : w.heap.size ≤ W0.heap.size := hW0b.size
  have hw0l : w.heap.size < W0.heap.size := by rw [← hW0]; simp
  have HNO := Lib.hid (fun W (h : Below W0.heap.size W0 W) => (show OwnR 70 83 W w.heap.size W.heap.size (.slice (some ⟨w.heap.size, 0, none⟩) 0 0) [] from ⟨[], rfl, OwnRp.nil (base := w.heap.size) (owns_same own00 fun g hg => by simp [Value.ownBlock] at hg; subst hg; exact h.block _ hw0l) (fun g hg => by simp [Value.ownBlock] at hg; subst hg; exact ⟨Nat.le_refl _, Nat.lt_of_lt_of_le hw0l h.size⟩)⟩))
  replace hc := hc.below hW0b hh1
  replace hx := hx.below hW0b hhi
  replace hh1 := Nat.le_trans hh1 hw0s
  replace hhi := Nat.le_trans hhi hw0s
  clear hW0 own00
  have HN := Lib.hid (spec_GetNums b _ 0 W0 hx hhi)
  cases hr : rdNums b with
  | none =>
    have HG := Lib.hid (getG_1 (cols := cols) hr)
    have HT := Lib.hid (by have h := HN.out; rw [show (0 : Int) = ((0 : Nat) : Int) from rfl, getNums_none (p := 0) (by rw [List.drop_zero]; exact hr)] at h; exact h)
    clear HN hr
    go_enter Tryz.func26, Tryz.ntmps26
    go_wp2_with fail
    rw [HW0.out]
    refine HT.out.mono ?_
    rintro e w1 ⟨_, rfl, -, hb1⟩
    go_wp2_with fail
    refine bodyPost_ret (v := .tuple #[.slice (some ⟨w.heap.size, 0, none⟩) 0 0, .bool false]) (by simp [results, Tryz.results26, go_sem]) rfl ⟨_, by rw [HG.out]; rfl, ?_, hW0b.trans ((hb1).mono hw0s)⟩
    rw [HG.out]
    exact HNO.out _ (hb1)
  | some ip =>
    obtain ⟨ids, p⟩ := ip
    obtain ⟨gb, ob, yb, rfl, -, -, -, -⟩ := hx.at (k := 0) (by
      cases b with
      | nil => rw [rdNums_nil] at hr; cases hr
      | cons a l => simp)
    have HT := Lib.hid (by have h := HN.out; rw [show (0 : Int) = ((0 : Nat) : Int) from rfl, getNums_some (p := 0) (by rw [List.drop_zero]; exact hr), Nat.zero_add] at h; exact h)
    have hids := (nums_rdNums hr).2.1
    have hpl : p ≤ b.length := by
      obtain ⟨-, -, g3, g4⟩ := nums_rdNums hr
      have := congrArg List.length g4
      rw [List.length_append] at this
      omega
    have HC := Lib.hid (fun W (h : Below W0.heap.size W0 W) => spec_ColsOk cols _ W (hc.below h hh1) (Nat.le_trans hh1 h.size))
    have Hr := Lib.hid hr
    clear HN hr
    cases hco : colsOk cols
    · rw [hco] at HC
      have HG := Lib.hid (getG_2 (b := b) hco)
      clear hco
      go_enter Tryz.func26, Tryz.ntmps26
      go_wp2_with fail
      rw [HW0.out]
      refine HT.out.mono ?_
      rintro e w1 ⟨_, rfl, -, hb1⟩
      go_wp2_with fail
      refine (HC.out w1 hb1).mono ?_
      rintro e w2 ⟨rfl, rfl⟩
      go_wp2_with fail
      refine bodyPost_ret (v := .tuple #[.slice (some ⟨w.heap.size, 0, none⟩) 0 0, .bool false]) (by simp [results, Tryz.results26, go_sem]) rfl ⟨_, by rw [HG.out]; rfl, ?_, hW0b.trans ((hb1).mono hw0s)⟩
      rw [HG.out]
      exact HNO.out _ (hb1)
    rw [hco] at HC
    obtain ⟨hc1, hc3, -⟩ := colsOk_parts hco
    have Hco := Lib.hid hco
    clear hco
    go_enter Tryz.func26, Tryz.ntmps26
    go_wp2_with fail
    rw [HW0.out]
    refine HT.out.mono ?_
    rintro e w1 ⟨_, rfl, hoi, hb1⟩
    have hri := hoi.rdI
    obtain ⟨Ai, ci, rfl, hil, him⟩ := hri.form
    clear hoi HT
    go_wp2_with fail
    refine (HC.out w1 hb1).mono ?_
    rintro e w2 ⟨rfl, rfl⟩
    clear HC
    by_cases hmany : 12 < ids.length
    · have hdm : decide ((12 : Int) < (ids.length : Int)) = true := decide_eq_true (by omega)
      have HG := Lib.hid (getG_many (cols := cols) Hr.out hmany)
      go_wp2_with fail
      refine bodyPost_ret (v := .tuple #[.slice (some ⟨w.heap.size, 0, none⟩) 0 0, .bool false]) (by simp [results, Tryz.results26, go_sem]) rfl ⟨_, by rw [HG.out]; rfl, ?_, hW0b.trans ((hb1).mono hw0s)⟩
      rw [HG.out]
      exact HNO.out _ (hb1)
    have hdm : decide ((12 : Int) < (ids.length : Int)) = false := decide_eq_false (by omega)
    have hid12 : ids.length ≤ 12 := by omega
    clear hmany
    go_wp2_with fail
    have own0 := World.ownsRow_made w1 (base := 0) (e := 70) (size := 2) #[] 0 (Nat.zero_le _) (by decide) rfl
    have hb1s := hb1.size
    have HO0 := Lib.hid (OwnRp.nil (eR := 70) (eV := 83) (lo := w1.heap.size) (hi := (w1.alloc (.cells #[] 70)).heap.size) own0 (fun g hg => by simp [Value.ownBlock] at hg; subst hg; simp))
    have hb2 := hb1.alloc hb1s (.cells #[] 70)
    have hup := up_a1 w1 (.cells #[] 70)
    clear own0
    go_loopw [10, 11] (fun o i wr => ∃ (j : Nat) (ps : List (R × Value)), Hid (i = .int .i64 j ∧ j ≤ ids.length ∧ ps.length = j ∧ ps.map Prod.fst = (ids.take j).map (fun x => (⟨x, []⟩ : R)) ∧ OwnRp 70 83 wr w1.heap.size wr.heap.size o ps ∧ Below w1.heap.size w1 wr)) (fun _ i _ => ids.length - (intOf i).toNat)
    case atStart => exact ⟨0, [], Lib.hid ⟨rfl, Nat.zero_le _, rfl, rfl, HO0.out, hup⟩⟩
    case round =>
      obtain ⟨j, ps, hrel⟩ := hrel
      obtain ⟨rfl, hj, hpsl, hps, hown, hbr⟩ := hrel.out
      have Hps := Lib.hid hps
      have Hown := Lib.hid hown
      have Hpsl := Lib.hid hpsl
      have hbs := hbr.size
      have ho := hown.own
      rw [hpsl] at ho
      obtain ⟨Av, cv, rfl, -, -, -⟩ := ho.cells
      clear hrel hps hown HO0 hb2 hup ho hpsl
      by_cases hjl : j < ids.length
      · obtain ⟨gi, off, y, rfl, -, hbl2, hyk, e0⟩ := (hri.below hbr (Nat.le_refl _)).at hjl
        have Hs := Lib.hid (take_row hyk)
        have hout := Hown.out.out
        rw [Hpsl.out] at hout
        have Hout := Lib.hid hout
        have hws : W0.heap.size ≤ wr.heap.size := Nat.le_trans hb1s hbs
        clear hyk hout
        go_wp2_with (at_builtin; refine wpl_app rfl _ _ 27 rfl 0 70 i0 _ 2 32 Tryz.underlying27 hif.out hz0.out hz1.out hz2.out rfl (by decide) (by decide) (Hout.out.alloc _) rfl (heap_alloc_new _ _) rfl rfl (by simp [Value.oneCell']) (by omega) (by simp) ?_)
        intro v4 w4 hown4 hgrow hnb
        have hsn := Hown.out.snoc (x := ⟨y, []⟩) (sv := .slice none 0 0) (B := wr.heap.size) (up_a1 wr (.cells #[.int .i64 y, .slice none 0 0] 70)) hbs (own_none_s _ _ _ _ _) (by simp) (by rw [Hpsl.out]; exact hown4) hgrow (by simpa using hnb)
        have HSn := Lib.hid hsn
        have HB4 := Lib.hid (Below.grown (hbr.alloc hbs _) hgrow (fun g hg => (Hown.out.outIn g hg).1) (Nat.le_refl _))
        have HS2 := Lib.hid (show (ps ++ [((⟨y, []⟩ : R), Value.slice none 0 0)]).map Prod.fst = (ids.take (j + 1)).map (fun x => (⟨x, []⟩ : R)) by rw [Hs.out, ← Hps.out, List.map_append]; rfl)
        clear hown4 hgrow hnb hsn Hout
        go_wp2_with fail
        go_roundw
        case rel => exact ⟨j + 1, _, Lib.hid ⟨by go_num, by omega, by rw [List.length_append, Hpsl.out]; rfl, HS2.out, HSn.out, HB4.out⟩⟩
        case measure => simp [intOf]; omega
      · obtain rfl : j = ids.length := by omega
        have Hps0 := Lib.hid (show ps.map Prod.fst = rowsFrom ids [] by rw [rowsFrom_nil, Hps.out, List.take_length])
        have Hown0 := Lib.hid Hown.out
        clear Hps Hown
        have HGN := Lib.hid (fun (z : Nat) W (h : Below w1.heap.size w1 W) => q_spec_GetNum b _ (z : Int) W (hx.below (below_go hb1 h) hhi))
        have HST := Lib.hid (ColSt.start ids.length cols (b.drop p))
        go_wp2_with fail
        go_loopw [8, 12] (fun a i wr => ∃ (j m at0 : Nat) (q : List (List V)) (ps : List (R × Value)), Hid (a = .int .i64 at0 ∧ at0 = p + m ∧ i = .int .i64 j ∧ (ids = [] → j = 0 ∧ m = 0) ∧ ColSt ids.length cols (b.drop p) j q m ∧ at0 ≤ b.length ∧ ps.map Prod.fst = rowsFrom ids q ∧ OwnRp 70 83 wr w1.heap.size wr.heap.size (.slice Av ids.length cv) ps ∧ (∀ c ∈ q, ∀ v ∈ c, v.s.size ≤ maxLen) ∧ Below w1.heap.size w1 wr)) (fun _ i _ => cols.length - (intOf i).toNat)
        case atStart => exact ⟨0, 0, p, [], ps, Lib.hid ⟨rfl, rfl, rfl, fun _ => ⟨rfl, rfl⟩, HST.out, hpl, Hps0.out, Hown0.out, fun c hc => by simp at hc, hbr⟩⟩
        case round =>
          obtain ⟨j, m, at0, q, ps, hrel⟩ := hrel
          obtain ⟨rfl, hat0, rfl, hij, hst, hpm, hps, hown, hqs, hbq⟩ := hrel.out
          have hj := hst.1
          have hqj := Lib.hid hst.2.1
          have Hat0 := Lib.hid hat0
          clear hat0
          have Hst := Lib.hid hst
          have Hps := Lib.hid hps
          have Hqs := Lib.hid hqs
          have Hown := Lib.hid hown
          have Hij := Lib.hid hij
          have Hpsl := Lib.hid (show ps.length = ids.length by have h := congrArg List.length hps; rwa [List.length_map, rowsFrom_len] at h)
          have hbqs := hbq.size
          clear hrel hij hst hps hown hqs HST Hps0 Hown0
          by_cases hjl : j < cols.length
          · obtain ⟨gc, offc, ty, rfl, -, hgc, hty, e0⟩ := (hc.below (below_go hb1 hbq) hh1).at hjl
            have Hty := Lib.hid hty
            clear hty
            by_cases hn0 : ids.length = 0
            · obtain ⟨hij, hm0⟩ := Hij.out (List.length_eq_zero_iff.1 hn0)
              have HM0 := Lib.hid hm0
              clear hm0
              have hig2 : ¬ 0 < ids.length := by omega
              have hie : ((ids.length : Int) == 0) = true := by simp [hn0]
              have hig : decide ((0 : Int) < (ids.length : Int)) = false := decide_eq_false (by omega)
              have HBd := Lib.hid (show rdBody cols ids (b.drop p) = some (q, 0) by rw [List.length_eq_zero_iff.1 hn0, List.length_eq_zero_iff.1 (hqj.out.trans hij)]; rfl)
              have HOR := Lib.hid (Hown.out.imp (w' := wr) (fun _ _ _ => rfl) (show W0.heap.size ≤ w1.heap.size from hb1s) (Nat.le_refl _))
              clear Hij hij Hst Hown HGN Hpsl hqj hn0
              have HAT := Lib.hid (show at0 = p + 0 by
                have h := Hat0.out
                rw [h, show m = 0 from HM0.out])
              have HRs := Lib.hid (rows_small (ids := ids) Hqs.out)
              have hOR : OwnR 70 83 wr W0.heap.size wr.heap.size (.slice Av ids.length cv) (rowsFrom ids q) := ⟨ps, Hps.out, HOR.out⟩
              have HR := Lib.hid (spec_RowsOk cols _ (rowsFrom ids q) _ wr (hc.below (below_go hb1 hbq) hh1) (Nat.le_trans hh1 ((below_go hb1 hbq)).size) hOR.rdR (Nat.le_refl _) HRs.out)
              have HOR2 := Lib.hid hOR
              clear hOR HOR Hps
              by_cases hat : at0 = b.length
              · have hne : ((at0 : Int) != (b.length : Int)) = false := by simp [hat]
                have HGI := Lib.hid (show getGroup cols b = if rowsOk cols (rowsFrom ids q) then some (rowsFrom ids q) else none by
                  rw [getG_4 Hr.out Hco.out HBd.out, decide_eq_true (by have := HAT.out; omega), Bool.and_true])
                clear hat
                generalize rowsFrom ids q = RL at *
                cases hro : rowsOk cols RL
                · rw [hro] at HR HGI
                  have HG := Lib.hid (show getGroup cols b = none from HGI.out)
                  clear HGI hro
                  go_wp2_with fail
                  refine HR.out.mono ?_
                  rintro e w6 ⟨rfl, hb6⟩
                  have hbw6 := below_go ((below_go hb1 hbq)) hb6
                  go_wp2_with fail
                  refine bodyPost_ret (v := .tuple #[.slice (some ⟨w.heap.size, 0, none⟩) 0 0, .bool false]) (by simp [results, Tryz.results26, go_sem]) rfl ⟨_, by rw [HG.out]; rfl, ?_, hW0b.trans ((hbw6).mono hw0s)⟩
                  rw [HG.out]
                  exact HNO.out _ (hbw6)
                · rw [hro] at HR HGI
                  have HG := Lib.hid (show getGroup cols b = some RL from HGI.out)
                  clear HGI hro
                  go_wp2_with fail
                  refine HR.out.mono ?_
                  rintro e w6 ⟨rfl, hb6⟩
                  have hbw6 := below_go ((below_go hb1 hbq)) hb6
                  have HOR3 := Lib.hid ((HOR2.out.below hb6 (Nat.le_refl _)).more hw0s hb6.size)
                  go_wp2_with fail
                  refine bodyPost_ret (v := .tuple #[.slice Av ids.length cv, .bool true]) (by simp [results, Tryz.results26, go_sem]) rfl ⟨_, by rw [HG.out]; rfl, ?_, hW0b.trans ((hbw6).mono hw0s)⟩
                  rw [HG.out]
                  exact HOR3.out
              · have hne : ((at0 : Int) != (b.length : Int)) = true := by simp; omega
                have HG := Lib.hid (show getGroup cols b = none by
                  rw [getG_4 Hr.out Hco.out HBd.out, decide_eq_false (by have := HAT.out; omega), Bool.and_false]
                  rfl)
                clear hat HR HOR2
                go_wp2_with fail
                refine bodyPost_ret (v := .tuple #[.slice (some ⟨w.heap.size, 0, none⟩) 0 0, .bool false]) (by simp [results, Tryz.results26, go_sem]) rfl ⟨_, by rw [HG.out]; rfl, ?_, hW0b.trans (((below_go hb1 hbq)).mono hw0s)⟩
                rw [HG.out]
                exact HNO.out _ ((below_go hb1 hbq))
            · have hie : ((ids.length : Int) == 0) = false := by simp [hn0]
              have hig : decide ((0 : Int) < (ids.length : Int)) = true := decide_eq_true (by omega)
              have hig2 : 0 < ids.length := by omega
              have hne : ids.isEmpty = false := by
                cases h : ids with
                | nil => exact absurd (by rw [h]; rfl) hn0
                | cons a l => rfl
              have Hne := Lib.hid (show rdBody cols ids (b.drop p) = rdCols ids.length cols (b.drop p) by unfold rdBody; rw [hne]; rfl)
              have HT := Lib.hid (HGN.out at0 wr hbq)
              clear hn0 hne HGN
              cases hr : rdNum (b.drop at0) with
              | none =>
                have HG := Lib.hid (getG_3 (cols := cols) Hr.out (Hne.out.trans (Hst.out.bad Hty.out (rdCol_1 (by rw [List.drop_drop, ← Hat0.out]; exact hr)))))
                have HT2 := Lib.hid (by have h := HT.out; rw [getNum_none hr] at h; exact h)
                clear HT hr Hst Hij Hown
                go_wp2_with fail
                go_wp2_with fail
                refine HT2.out.mono ?_
                rintro e w3 ⟨rfl, rfl⟩
                go_wp2_with fail
                refine bodyPost_ret (v := .tuple #[.slice (some ⟨w.heap.size, 0, none⟩) 0 0, .bool false]) (by simp [results, Tryz.results26, go_sem]) rfl ⟨_, by rw [HG.out]; rfl, ?_, hW0b.trans (((below_go hb1 hbq)).mono hw0s)⟩
                rw [HG.out]
                exact HNO.out _ ((below_go hb1 hbq))
              | some np =>
                obtain ⟨n, pj⟩ := np
                have hnl : at0 + pj ≤ b.length := by have := next_len hr; omega
                obtain ⟨nx, hnx⟩ : ∃ nx, at0 + pj = nx := ⟨_, rfl⟩
                have Hnx := Lib.hid hnx
                have hr' : rdNum ((b.drop p).drop m) = some (n, pj) := by rw [List.drop_drop, ← Hat0.out]; exact hr
                have HT2 := Lib.hid (by have h := HT.out; rw [getNum_some hr, hnx] at h; exact h)
                have hlen : (((b.drop p).drop m).length : Int) - (pj : Int) = (b.length : Int) - (nx : Int) := by have := Hat0.out; rw [List.length_drop, List.length_drop]; omega
                have hwr : IntKind.i64.wrap ((b.length : Int) - (nx : Int)) = (b.length : Int) - (nx : Int) := by rw [IntKind.wrap_i64]; omega
                have hQ := q_spec_l1In n 0 ((b.length : Int) - (nx : Int)) wr
                cases hin : inR n 0 ((b.length : Int) - (nx : Int))
                · rw [hin] at hQ
                  have HQ := Lib.hid hQ
                  have HG := Lib.hid (getG_3 (cols := cols) Hr.out (Hne.out.trans (Hst.out.bad Hty.out (rdCol_2 hr' (by rw [hlen]; exact hin)))))
                  clear HT hr hr' hlen hQ hin hnx Hst Hij Hown hnl
                  go_wp2_with fail
                  go_wp2_with fail
                  refine HT2.out.mono ?_
                  rintro e w3 ⟨rfl, rfl⟩
                  go_wp2_with fail
                  refine HQ.out.mono ?_
                  rintro e w3 ⟨rfl, rfl⟩
                  go_wp2_with fail
                  refine bodyPost_ret (v := .tuple #[.slice (some ⟨w.heap.size, 0, none⟩) 0 0, .bool false]) (by simp [results, Tryz.results26, go_sem]) rfl ⟨_, by rw [HG.out]; rfl, ?_, hW0b.trans (((below_go hb1 hbq)).mono hw0s)⟩
                  rw [HG.out]
                  exact HNO.out _ ((below_go hb1 hbq))
                · rw [hin] at hQ
                  have HQ := Lib.hid hQ
                  obtain ⟨hn1, hn2⟩ := inR_yes hin
                  obtain ⟨nj, rfl⟩ := Int.eq_ofNat_of_zero_le hn1
                  have Hin := Lib.hid hin
                  obtain ⟨p2, hp2⟩ : ∃ p2, nx + nj = p2 := ⟨_, rfl⟩
                  have hp2l : p2 ≤ b.length := by omega
                  have g2 : (nx : Int) + (nj : Int) = (p2 : Int) := by omega
                  have w2' : IntKind.i64.wrap (p2 : Int) = (p2 : Int) := by rw [IntKind.wrap_i64]; omega
                  have f1 : (0 : Int) ≤ (nx : Int) := by omega
                  have f2 : (nx : Int) ≤ (p2 : Int) := by omega
                  have f3 : (p2 : Int) ≤ (c : Int) := by omega
                  have hm : p2 - nx = nj := by omega
                  have hbw := below_go hb1 hbq
                  have hsub := ((hx.below hbw hhi).dropIf (k := nx) (by omega) hl).takeN (k := nj) (by rw [List.length_drop]; omega)
                  obtain ⟨AA, hAA⟩ : ∃ AA, (if c = nx then some (⟨gb, ob, none⟩ : Addr) else some ⟨gb, ob + nx, none⟩) = AA := ⟨_, rfl⟩
                  rw [hAA] at hsub
                  have HD := Lib.hid (spec_DecCol ((b.drop nx).take nj) _ ty (ids.length : Int) wr.drew (show RdB wr.drew lo hi _ _ from hsub) (by show _ ≤ wr.heap.size; exact Nat.le_trans hhi hbw.size) (by rw [List.length_take, List.length_drop]; omega))
                  have Hat2 := Lib.hid (show p2 = p + (m + (pj + nj)) by have := Hat0.out; omega)
                  have Hdn := Lib.hid (show (b.drop nx) = ((b.drop p).drop m).drop pj by rw [List.drop_drop, List.drop_drop]; congr 1; have := Hat0.out; omega)
                  have Hr' := Lib.hid hr'
                  have Hlen := Lib.hid hlen
                  clear HT hr hr' hlen hQ hin hnx hsub hp2 hn1 hn2 hnl
                  cases hdc : decCol ((b.drop nx).take nj) ty (ids.length : Int) with
                  | none =>
                    have HG := Lib.hid (getG_3 (cols := cols) Hr.out (Hne.out.trans (Hst.out.bad Hty.out (rdCol_3 Hr'.out (by rw [← Hdn.out]; exact hdc)))))
                    have HD2 := Lib.hid (by have h := HD.out; rw [hdc] at h; exact h)
                    clear HD hdc Hst Hij Hown Hin Hdn Hr' Hlen
                    go_wp2_with fail
                    go_wp2_with fail
                    refine HT2.out.mono ?_
                    rintro e w3 ⟨rfl, rfl⟩
                    go_wp2_with fail
                    refine HQ.out.mono ?_
                    rintro e w3 ⟨rfl, rfl⟩
                    go_wp2_with fail
                    have e0d : wr.drew.cell? ⟨gc, offc + j, none⟩ = some (.int .i64 ty) := e0
                    go_region_held3 (fun w' => w'.cell? ⟨gc, offc + j, none⟩ = some (.int .i64 ty)) (first | with_reducible exact e0d | with_reducible exact e0e | go_keep) (first | (go_at_call 30; ((with_reducible refine HD2.out.mono ?_); rintro e w3 ⟨rv, rfl, hod, hb3⟩; have hrv9 := hod.rdV; (obtain ⟨A9, c9, rfl, -, -⟩ := hrv9.form); have e0e := cell_keep e0d hb3; clear hrv9)))
                    replace hb3 : Below wr.heap.size wr w3 := ((Below.refl wr.heap.size wr).drew).trans hb3
                    have hbw3 := below_go hbw hb3
                    go_wp2_with fail
                    refine bodyPost_ret (v := .tuple #[.slice (some ⟨w.heap.size, 0, none⟩) 0 0, .bool false]) (by simp [results, Tryz.results26, go_sem]) rfl ⟨_, by rw [HG.out]; rfl, ?_, hW0b.trans ((hbw3).mono hw0s)⟩
                    rw [HG.out]
                    exact HNO.out _ (hbw3)
                  | some lc =>
                    obtain ⟨-, hk0, -, -, -⟩ := enc_decCol hdc
                    have hlc : lc.length = ids.length := by omega
                    have Hsml := Lib.hid (col_small2 hdc)
                    have Hst2 := Lib.hid (Hst.out.next Hty.out (rdCol_4 Hr'.out (by rw [Hlen.out]; exact Hin.out) (by rw [← Hdn.out]; exact hdc)))
                    have HD2 := Lib.hid (by have h := HD.out; rw [hdc] at h; simp only [Option.getD_some, Option.isSome_some] at h; exact h)
                    clear HD hdc Hst Hij Hin Hdn Hr' Hlen hk0
                    go_wp2_with fail
                    go_wp2_with fail
                    refine HT2.out.mono ?_
                    rintro e w3 ⟨rfl, rfl⟩
                    go_wp2_with fail
                    refine HQ.out.mono ?_
                    rintro e w3 ⟨rfl, rfl⟩
                    go_wp2_with fail
                    have e0d : wr.drew.cell? ⟨gc, offc + j, none⟩ = some (.int .i64 ty) := e0
                    go_region_held3 (fun w' => w'.cell? ⟨gc, offc + j, none⟩ = some (.int .i64 ty)) (first | with_reducible exact e0d | with_reducible exact e0e | go_keep) (first | (go_at_call 30; ((with_reducible refine HD2.out.mono ?_); rintro e wd ⟨rv, rfl, hod, hbd⟩; have hrv9 := hod.rdV; (obtain ⟨A9, c9, rfl, -, -⟩ := hrv9.form); have e0e := cell_keep e0d hbd; clear hrv9)))
                    replace hbd : Below wr.heap.size wr wd := ((Below.refl wr.heap.size wr).drew).trans hbd
                    replace hod := (show Own 83 3 wd wr.heap.size wd.heap.size _ lc.length (lc.flatMap V.cells) from hod)
                    have hbw3 := below_go hbw hbd
                    have hbds := hbd.size
                    have hn1 : 0 < ids.length := by
                      rcases Nat.eq_zero_or_pos ids.length with h | h
                      · exact absurd h (by intro h; rw [h] at hie; cases hie)
                      · exact h
                    obtain ⟨gv, cl, hA9, hgv1, hgv2, hcl1, hcl2, -, -⟩ := owns_formS hod.1 (by omega)
                    injection hA9 with hA9 h9n h9c
                    subst hA9
                    replace h9c := h9c.symm
                    subst h9c
                    clear h9n
                    obtain ⟨gr, cr, hA, -, -, -, -, -, -⟩ := owns_formS Hown.out.out (by rw [Hpsl.out]; exact hn1)
                    injection hA with hA hA2 hA3
                    subst hA
                    clear hA2 hA3
                    have Hrv := Lib.hid (Own.of_zero (owns_zero hod.1) (lo := gv) (hi := gv + 1) (fun g hg => by simp [Value.ownBlock] at hg; omega)).rdV
                    have Hfar := Lib.hid (show Far gv (.slice (some ⟨gr, 0, none⟩) ids.length cv) ps from ⟨fun e => by have := Hown.out.outIn gv e; omega, fun p hp e => by have := (Hown.out.inn p hp).2.1 gv e; omega⟩)
                    have Hown2 := Lib.hid (Hown.out.imp (w' := wd) (fun g _ h2 => hbd.block g h2) (Nat.le_refl _) hbds)
                    have Hbi := Lib.hid (hbq.trans (hbd.mono hbqs))
                    have hgvd : gv < wd.heap.size := hgv2
                    clear hod hbd hbq Hown
                    obtain ⟨ps0, hps0⟩ : ∃ ps0, ps0 = ps := ⟨_, rfl⟩
                    subst hps0
                    obtain ⟨wo, hwo⟩ : ∃ wo, wo = wr := ⟨_, rfl⟩
                    subst hwo
                    go_wp2_with fail
                    go_loopw [18] (fun i wr => ∃ (t : Nat) (ps : List (R × Value)), Hid (i = .int .i64 t ∧ t ≤ ids.length ∧ ps.map Prod.fst = mix ids q lc t ∧ OwnRp 70 83 wr w1.heap.size wr.heap.size (.slice (some ⟨gr, 0, none⟩) ids.length cv) ps ∧ Far gv (.slice (some ⟨gr, 0, none⟩) ids.length cv) ps ∧ RdV wr gv (gv + 1) (.slice (some ⟨gv, 0, none⟩) lc.length cl) lc ∧ gv < wr.heap.size ∧ Below w1.heap.size w1 wr)) (fun i _ => ids.length - (intOf i).toNat)
                    case atStart => exact ⟨0, ps0, Lib.hid ⟨rfl, Nat.zero_le _, by rw [mix_zero]; exact Hps.out, Hown2.out, Hfar.out, Hrv.out, hgvd, Hbi.out⟩⟩
                    case round =>
                      obtain ⟨t, ps, hrel⟩ := hrel
                      obtain ⟨rfl, ht, hps, hown, hfar, hrv, hgv, hbi⟩ := hrel.out
                      have Hps2 := Lib.hid hps
                      have Hown3 := Lib.hid hown
                      have Hfar2 := Lib.hid hfar
                      have Hrv2 := Lib.hid hrv
                      have Hbi2 := Lib.hid hbi
                      have hbis := hbi.size
                      clear hrel hps hown hfar hrv hbi Hfar Hown2 Hrv Hbi
                      by_cases htl : t < ids.length
                      · obtain ⟨ps1, sv, ps2, hsp, hp1⟩ := part_at Hps2.out (mix_get (q := q) (l := lc) htl)
                        subst hsp
                        obtain ⟨gx, ox, y, hA, -, -, hyk, e0, e1, e2⟩ := Hrv2.out.at (k := t) (by omega)
                        injection hA with hA
                        injection hA with hA1 hA2 hA3
                        subst hA1 hA2
                        rw [Nat.zero_add] at e0 e1 e2
                        have hxm : mixAt ids q lc t t = rowAt ids q t := by simp [mixAt]
                        rw [hxm] at Hps2 Hown3 Hfar2
                        have HN := Lib.hid (show (ps1 ++ (rowAt ids q t, sv) :: ps2).length = ids.length by have h := congrArg List.length Hps2.out; rwa [List.length_map, mix_len] at h)
                        have hrow := Hown3.out.out
                        rw [HN.out] at hrow
                        have r1 := hrow.cellAt (t * 2 + 1) (by omega)
                        rw [flat_get rcell 2 rcell_len _ t 1 (rowAt ids q t, sv) (by rw [← hp1]; simp) (by decide)] at r1
                        simp only [rcell, List.getElem?_cons_succ, List.getElem?_cons_zero] at r1
                        have hin := Hown3.out.inn (rowAt ids q t, sv) (by simp)
                        have hsv := hin.1
                        unfold OwnV at hsv
                        simp only at hsv
                        have hql : (rowAt ids q t).l.length ≤ 3 := by
                          have := hqj.out
                          simp only [rowAt, List.length_map]
                          omega
                        have Hsv := Lib.hid hsv
                        have Hne := Lib.hid (show some gr ≠ sv.ownBlock from fun e => hin.2.2 gr rfl e.symm)
                        have Hnv := Lib.hid (show some gv ≠ sv.ownBlock from fun e => Hfar2.out.2 _ (show (rowAt ids q t, sv) ∈ ps1 ++ (rowAt ids q t, sv) :: ps2 by simp) e.symm)
                        have hgrl := (Hown3.out.outIn gr rfl).2
                        have Hnext := Lib.hid (row_next (ids := ids) (q := q) hyk)
                        have Hyk := Lib.hid hyk
                        clear hxm hin hsv hyk hrow
                        go_wp2_with fail
                        refine wp_region_T (S := fun w' => w'.cell? ⟨gr, t * 2 + 1, none⟩ = some (sv) ∧ w'.cell? ⟨gv, t * 3, none⟩ = some (.int .i64 y.ty) ∧ w'.cell? ⟨gv, t * 3 + 1, none⟩ = some (.int .i64 y.n) ∧ w'.cell? ⟨gv, t * 3 + 2, none⟩ = some (.string y.s)) (n := 15) (by kernel_rfl) ?_
                        generalize hX0 : wr.drew = X0
                        have HB0 : Below wr.heap.size wr X0 := hX0 ▸ (Below.refl _ _).drew
                        have s0 : wr.heap.size ≤ X0.heap.size := HB0.size
                        have x0 := cell_keep r1 HB0
                        have x1 := cell_keep e0 HB0
                        have x2 := cell_keep e1 HB0
                        have x3 := cell_keep e2 HB0
                        clear hX0
                        have F0 : X0.cell? ⟨gr, t * 2 + 1, none⟩ = some (sv) ∧ X0.cell? ⟨gv, t * 3, none⟩ = some (.int .i64 y.ty) ∧ X0.cell? ⟨gv, t * 3 + 1, none⟩ = some (.int .i64 y.n) ∧ X0.cell? ⟨gv, t * 3 + 2, none⟩ = some (.string y.s) := ⟨x0, x1, x2, x3⟩
                        refine wpAnyT_take (i := 0) (oi := _) (v := ?_) rfl (by kernel_rfl) (by kernel_rfl) (by kernel_rfl) (by kernel_rfl) (fun _ _ _ h => h) (Or.inl ⟨by rfl, ?_⟩) F0 ?_
                        rotate_left
                        · (intro w' hSw; (try dsimp only at hSw); go_simp) <;> with_reducible rfl
                        try simp only [Act.put, List.setIfInBounds_toArray, List.set_cons_zero, List.set_cons_succ]
                        refine wpAnyT_take (i := 1) (oi := _) (v := ?_) rfl (by kernel_rfl) (by kernel_rfl) (by kernel_rfl) (by kernel_rfl) (fun _ _ _ h => h) (Or.inl ⟨by rfl, ?_⟩) F0 ?_
                        rotate_left
                        · (intro w' hSw; (try dsimp only at hSw); go_simp) <;> with_reducible rfl
                        try simp only [Act.put, List.setIfInBounds_toArray, List.set_cons_zero, List.set_cons_succ]
                        refine wpAnyT_take (i := 2) (oi := _) (v := ?_) rfl (by kernel_rfl) (by kernel_rfl) (by kernel_rfl) (by kernel_rfl) (fun _ _ _ h => h) (Or.inl ⟨by rfl, ?_⟩) F0 ?_
                        rotate_left
                        · (intro w' hSw; (try dsimp only at hSw); go_simp) <;> with_reducible rfl
                        try simp only [Act.put, List.setIfInBounds_toArray, List.set_cons_zero, List.set_cons_succ]
                        refine wpAnyT_take (i := 3) (oi := _) (v := ?_) rfl (by kernel_rfl) (by kernel_rfl) (by kernel_rfl) (by kernel_rfl) (fun _ _ _ h => h) (Or.inl ⟨by rfl, ?_⟩) F0 ?_
                        rotate_left
                        · (intro w' hSw; (try dsimp only at hSw); go_simp) <;> with_reducible rfl
                        try simp only [Act.put, List.setIfInBounds_toArray, List.set_cons_zero, List.set_cons_succ]
                        refine wpAnyT_take (i := 4) (oi := _) (v := ?_) rfl (by kernel_rfl) (by kernel_rfl) (by kernel_rfl) (by kernel_rfl) (fun _ _ _ h => h) (Or.inl ⟨by rfl, ?_⟩) F0 ?_
                        rotate_left
                        · (intro w' hSw; (try dsimp only at hSw); go_simp) <;> with_reducible rfl
                        try simp only [Act.put, List.setIfInBounds_toArray, List.set_cons_zero, List.set_cons_succ]
                        refine wpAnyT_take (i := 5) (oi := _) (v := ?_) rfl (by kernel_rfl) (by kernel_rfl) (by kernel_rfl) (by kernel_rfl) (fun _ _ _ h => h) (Or.inl ⟨by rfl, ?_⟩) F0 ?_
                        rotate_left
                        · (intro w' hSw; (try dsimp only at hSw); go_simp) <;> with_reducible rfl
                        try simp only [Act.put, List.setIfInBounds_toArray, List.set_cons_zero, List.set_cons_succ]
                        refine wpAnyT_take (i := 6) (oi := _) (v := ?_) rfl (by kernel_rfl) (by kernel_rfl) (by kernel_rfl) (by kernel_rfl) (fun _ _ _ h => h) (Or.inl ⟨by rfl, ?_⟩) F0 ?_
                        rotate_left
                        · (intro w' hSw; (try dsimp only at hSw); go_simp) <;> with_reducible rfl
                        try simp only [Act.put, List.setIfInBounds_toArray, List.set_cons_zero, List.set_cons_succ]
                        refine wpAnyT_take (i := 7) (oi := _) (v := ?_) rfl (by kernel_rfl) (by kernel_rfl) (by kernel_rfl) (by kernel_rfl) (fun _ _ _ h => h) (Or.inl ⟨by rfl, ?_⟩) F0 ?_
                        rotate_left
                        · (intro w' hSw; (try dsimp only at hSw); go_simp) <;> with_reducible rfl
                        try simp only [Act.put, List.setIfInBounds_toArray, List.set_cons_zero, List.set_cons_succ]
                        refine wpAnyT_take (i := 8) (oi := _) (v := ?_) rfl (by kernel_rfl) (by kernel_rfl) (by kernel_rfl) (by kernel_rfl) (fun _ _ _ h => h) (Or.inl ⟨by rfl, ?_⟩) F0 ?_
                        rotate_left
                        · (intro w' hSw; (try dsimp only at hSw); go_simp) <;> with_reducible rfl
                        try simp only [Act.put, List.setIfInBounds_toArray, List.set_cons_zero, List.set_cons_succ]
                        refine wpAnyT_take (i := 9) (oi := _) (v := ?_) rfl (by kernel_rfl) (by kernel_rfl) (by kernel_rfl) (by kernel_rfl) (fun _ _ _ h => h) (Or.inl ⟨by rfl, ?_⟩) F0 ?_
                        rotate_left
                        · (intro w' hSw; (try dsimp only at hSw); go_simp) <;> with_reducible rfl
                        try simp only [Act.put, List.setIfInBounds_toArray, List.set_cons_zero, List.set_cons_succ]
                        refine wpAnyT_take (i := 10) (oi := _) (v := ?_) rfl (by kernel_rfl) (by kernel_rfl) (by kernel_rfl) (by kernel_rfl) (fun _ _ _ h => h) (Or.inl ⟨by rfl, ?_⟩) F0 ?_
                        rotate_left
                        · (intro w' hSw; (try dsimp only at hSw); go_simp) <;> with_reducible rfl
                        try simp only [Act.put, List.setIfInBounds_toArray, List.set_cons_zero, List.set_cons_succ]
                        refine wpAnyT_one (k := 11) (o := _) (by kernel_rfl) rfl rfl ?_
                        intro K hK
                        go_simp
                        refine hK.out _ _ (fun _ => (⟨cell_keep x0 (up_a1 _ _), cell_keep x1 (up_a1 _ _), cell_keep x2 (up_a1 _ _), cell_keep x3 (up_a1 _ _)⟩ : (X0.alloc (.cells #[.int .i64 y.ty, .int .i64 y.n, .string y.s] 83)).cell? ⟨gr, t * 2 + 1, none⟩ = some (sv) ∧ (X0.alloc (.cells #[.int .i64 y.ty, .int .i64 y.n, .string y.s] 83)).cell? ⟨gv, t * 3, none⟩ = some (.int .i64 y.ty) ∧ (X0.alloc (.cells #[.int .i64 y.ty, .int .i64 y.n, .string y.s] 83)).cell? ⟨gv, t * 3 + 1, none⟩ = some (.int .i64 y.n) ∧ (X0.alloc (.cells #[.int .i64 y.ty, .int .i64 y.n, .string y.s] 83)).cell? ⟨gv, t * 3 + 2, none⟩ = some (.string y.s))) ?_
                        clear hK
                        try simp only [Act.put, List.setIfInBounds_toArray, List.set_cons_zero, List.set_cons_succ]
                        have Hsv0 := Lib.hid (owns_same (w' := X0) Hsv.out fun g hg => HB0.block g (Hsv.out.lt g hg).2)
                        refine wpAnyT_one (k := 12) (o := _) (by kernel_rfl) rfl rfl ?_
                        intro K hK
                        refine step_app rfl _ _ 42 rfl 0 83 i1 _ 3 32 Tryz.underlying42 hif1.out hy0.out hy1.out hy2.out rfl (by decide) (by decide) (Hsv0.out.alloc _) rfl (heap_alloc_new _ _) rfl rfl (by simp [Value.oneCell']) (by omega) (Nat.zero_le _) ?_
                        intro v4 w4 hown4 hgrow4 hnb4
                        obtain ⟨A4, c4, rfl, -, -, -⟩ := (Own.new hown4).cells
                        have Hown4 := Lib.hid hown4
                        have K4 := fun (b o : Nat) (h1 : b < X0.heap.size) (h2 : some b ≠ sv.ownBlock) => (hgrow4.cell_far ⟨b, o, none⟩ (by simp; omega) h2).trans ((up_a1 X0 (.cells #[.int .i64 y.ty, .int .i64 y.n, .string y.s] 83)).cell (p := ⟨b, o, none⟩) h1)
                        have y0 := (K4 gr _ (by omega) Hne.out).trans x0
                        have y1 := (K4 gv _ (by omega) Hnv.out).trans x1
                        have y2 := (K4 gv _ (by omega) Hnv.out).trans x2
                        have y3 := (K4 gv _ (by omega) Hnv.out).trans x3
                        have Hrow4 := Lib.hid (owns_same (w' := w4) Hown3.out.out fun g hg => by
                          obtain rfl : gr = g := by simpa [Value.ownBlock] using hg
                          rw [hgrow4.block gr (by simp; omega) Hne.out, (up_a1 X0 (.cells #[.int .i64 y.ty, .int .i64 y.n, .string y.s] 83)).block gr (by omega), HB0.block gr hgrl])
                        have hfz := (show w4.ownsRow 0 70 2 (.slice (some ⟨gr, 0, none⟩) ids.length cv) ids.length _ by have h := Hrow4.out; rw [HN.out] at h; exact h).frozenAt (t * 2 + 1)
                        have Hst4 := Lib.hid (grow_row (o := (.cells #[.int .i64 y.ty, .int .i64 y.n, .string y.s] 83)) (y := y) (B := w1.heap.size) (Hown3.out.imp (w' := X0) (fun g _ h2 => HB0.block g h2) (Nat.le_refl _) s0) HN.out Hfar2.out (Hrv2.out.below HB0 (by omega)) (by omega) (Hbi2.out.trans (HB0.mono hbis)) (Nat.le_refl _) (Nat.le_trans hbis s0) hown4 hgrow4 hnb4)
                        rw [hp1] at Hst4
                        rw [← Hnext.out] at Hst4
                        have HM := Lib.hid (show (ps1 ++ (rowAt ids (q ++ [lc]) t, Value.slice A4 ((rowAt ids q t).l.length + 1) c4) :: ps2).map Prod.fst = mix ids q lc (t + 1) by rw [set_fst ps1 ps2 (rowAt ids q t) _ sv _, Hps2.out, hp1, mix_set])
                        clear hown4 hgrow4 hnb4 K4 Hrow4
                        have F4 : w4.cell? ⟨gr, t * 2 + 1, none⟩ = some (sv) ∧ w4.cell? ⟨gv, t * 3, none⟩ = some (.int .i64 y.ty) ∧ w4.cell? ⟨gv, t * 3 + 1, none⟩ = some (.int .i64 y.n) ∧ w4.cell? ⟨gv, t * 3 + 2, none⟩ = some (.string y.s) := ⟨y0, y1, y2, y3⟩
                        refine hK.out _ _ (fun _ => F4) ?_
                        clear hK
                        try simp only [Act.put, List.setIfInBounds_toArray, List.set_cons_zero, List.set_cons_succ]
                        refine wpAnyT_one (k := 13) (o := _) (by kernel_rfl) rfl rfl ?_
                        intro K hK
                        go_simp
                        refine hK.out _ _ (fun _ => F4) ?_
                        clear hK
                        refine wpAnyT_one (k := 14) (o := _) (by kernel_rfl) rfl rfl ?_
                        intro K hK
                        go_simp
                        refine hK.out _ _ (fun _ => F4) ?_
                        clear hK
                        refine wpAnyT_one (k := 15) (o := _) (by kernel_rfl) rfl rfl ?_
                        intro K hK
                        go_simp
                        refine hK.out _ _ (fun h => absurd rfl h) ?_
                        clear hK
                        refine wpAnyT_done (by kernel_rfl) ?_ _
                        clear F0 F4 x0 x1 x2 x3 y0 y1 y2 y3 hfz
                        go_wp2_with fail
                        go_roundw
                        case rel => exact ⟨t + 1, _, Lib.hid ⟨by go_num, by omega, HM.out, Hst4.out.1, Hst4.out.2.1, Hst4.out.2.2.1, Hst4.out.2.2.2.1, Hst4.out.2.2.2.2⟩⟩
                        case measure => simp [intOf]; omega
                      · obtain rfl : t = ids.length := by omega
                        have Hps3 := Lib.hid (show ps.map Prod.fst = rowsFrom ids (q ++ [lc]) by rw [Hps2.out, mix_full])
                        have Hqs3 := Lib.hid (show ∀ c ∈ q ++ [lc], ∀ v ∈ c, v.s.size ≤ maxLen from fun c hc => by
                          rcases List.mem_append.1 hc with h | h
                          · exact Hqs.out c h
                          · rw [List.mem_singleton.1 h]; exact Hsml.out)
                        have hne1 : ids ≠ [] := fun e => by rw [e] at hn1; simp at hn1
                        have Hne1 := Lib.hid hne1
                        clear hne1
                        go_wp2_with fail
                        go_roundw
                        case rel => exact ⟨j + 1, m + (pj + nj), p2, q ++ [lc], ps, Lib.hid ⟨rfl, Hat2.out, by go_num, fun e => absurd e Hne1.out, Hst2.out, hp2l, Hps3.out, Hown3.out, Hqs3.out, Hbi2.out⟩⟩
                        case measure => simp [intOf]; omega
          · obtain rfl : j = cols.length := by omega
            have HBd := Lib.hid (show ∃ m', rdBody cols ids (b.drop p) = some (q, m') ∧ at0 = p + m' by
              by_cases hn0 : ids.length = 0
              · obtain ⟨hij, hm0⟩ := Hij.out (List.length_eq_zero_iff.1 hn0)
                exact ⟨0, by rw [List.length_eq_zero_iff.1 hn0, List.length_eq_zero_iff.1 (hqj.out.trans hij)]; rfl, by have h := Hat0.out; rw [h, hm0]⟩
              · refine ⟨m, ?_, Hat0.out⟩
                unfold rdBody
                rw [if_neg (by simp; intro e; exact hn0 (by rw [e]; rfl))]
                exact Hst.out.done)
            obtain ⟨m', hBd, hm9⟩ := HBd.out
            have HM9 := Lib.hid hm9
            have hjc : decide ((cols.length : Int) < (cols.length : Int)) = false := by simp
            replace HBd := Lib.hid hBd
            have HOR := Lib.hid (Hown.out.imp (w' := wr) (fun _ _ _ => rfl) (show W0.heap.size ≤ w1.heap.size from hb1s) (Nat.le_refl _))
            clear hBd hm9 Hij Hst Hown HGN Hpsl hqj
            skip
            have HAT := Lib.hid (show at0 = p + m' from HM9.out)
            have HRs := Lib.hid (rows_small (ids := ids) Hqs.out)
            have hOR : OwnR 70 83 wr W0.heap.size wr.heap.size (.slice Av ids.length cv) (rowsFrom ids q) := ⟨ps, Hps.out, HOR.out⟩
            have HR := Lib.hid (spec_RowsOk cols _ (rowsFrom ids q) _ wr (hc.below (below_go hb1 hbq) hh1) (Nat.le_trans hh1 ((below_go hb1 hbq)).size) hOR.rdR (Nat.le_refl _) HRs.out)
            have HOR2 := Lib.hid hOR
            clear hOR HOR Hps
            by_cases hat : at0 = b.length
            · have hne : ((at0 : Int) != (b.length : Int)) = false := by simp [hat]
              have HGI := Lib.hid (show getGroup cols b = if rowsOk cols (rowsFrom ids q) then some (rowsFrom ids q) else none by
                rw [getG_4 Hr.out Hco.out HBd.out, decide_eq_true (by have := HAT.out; omega), Bool.and_true])
              clear hat
              generalize rowsFrom ids q = RL at *
              cases hro : rowsOk cols RL
              · rw [hro] at HR HGI
                have HG := Lib.hid (show getGroup cols b = none from HGI.out)
                clear HGI hro
                go_wp2_with fail
                refine HR.out.mono ?_
                rintro e w6 ⟨rfl, hb6⟩
                have hbw6 := below_go ((below_go hb1 hbq)) hb6
                go_wp2_with fail
                refine bodyPost_ret (v := .tuple #[.slice (some ⟨w.heap.size, 0, none⟩) 0 0, .bool false]) (by simp [results, Tryz.results26, go_sem]) rfl ⟨_, by rw [HG.out]; rfl, ?_, hW0b.trans ((hbw6).mono hw0s)⟩
                rw [HG.out]
                exact HNO.out _ (hbw6)
              · rw [hro] at HR HGI
                have HG := Lib.hid (show getGroup cols b = some RL from HGI.out)
                clear HGI hro
                go_wp2_with fail
                refine HR.out.mono ?_
                rintro e w6 ⟨rfl, hb6⟩
                have hbw6 := below_go ((below_go hb1 hbq)) hb6
                have HOR3 := Lib.hid ((HOR2.out.below hb6 (Nat.le_refl _)).more hw0s hb6.size)
                go_wp2_with fail
                refine bodyPost_ret (v := .tuple #[.slice Av ids.length cv, .bool true]) (by simp [results, Tryz.results26, go_sem]) rfl ⟨_, by rw [HG.out]; rfl, ?_, hW0b.trans ((hbw6).mono hw0s)⟩
                rw [HG.out]
                exact HOR3.out
            · have hne : ((at0 : Int) != (b.length : Int)) = true := by simp; omega
              have HG := Lib.hid (show getGroup cols b = none by
                rw [getG_4 Hr.out Hco.out HBd.out, decide_eq_false (by have := HAT.out; omega), Bool.and_false]
                rfl)
              clear hat HR HOR2
              go_wp2_with fail
              refine bodyPost_ret (v := .tuple #[.slice (some ⟨w.heap.size, 0, none⟩) 0 0, .bool false]) (by simp [results, Tryz.results26, go_sem]) rfl ⟨_, by rw [HG.out]; rfl, ?_, hW0b.trans (((below_go hb1 hbq)).mono hw0s)⟩
              rw [HG.out]
              exact HNO.out _ ((below_go hb1 hbq))
end Go.Proofs.YticimccfeohpcaaGreat
