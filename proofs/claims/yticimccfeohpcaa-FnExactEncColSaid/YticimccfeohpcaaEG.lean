/- The dictionary of some values: the reference's contract. -/
import Derived.Test.YticimccfeohpcaaEE
import Derived.Test.YticimccfeohpcaaS1
namespace Go.Lb
open Go.RowKit
theorem rdV_take {w : World} {lo hi n c k : Nat} {A : Option Addr} {l : List V} (h : RdV w lo hi (.slice A n c) l) (hk : k ≤ l.length) : RdV w lo hi (.slice A k c) (l.take k) := by
  obtain ⟨A', c', e, hn, hc, hE⟩ := h
  injection e with e1 e2 e3
  subst e1 e3
  refine ⟨A, c, by rw [List.length_take, Nat.min_eq_left hk], by rw [List.length_take]; omega, hc, fun j hj => ?_⟩
  rw [List.length_take] at hj
  obtain ⟨b, off, h1, h2, h3, x, hx, hv⟩ := hE j (by omega)
  exact ⟨b, off, h1, h2, h3, x, by rw [List.getElem?_take, if_pos (by omega)]; exact hx, hv⟩
theorem rdV_dropIf {w : World} {lo hi g n c k : Nat} {l : List V} (h : RdV w lo hi (.slice (some ⟨g, 0, none⟩) n c) l) (hk : k ≤ l.length) (hlc : l.length ≤ c) : RdV w lo hi (.slice (if c = k then some ⟨g, 0, none⟩ else some ⟨g, k * 3, none⟩) (l.length - k) (c - k)) (l.drop k) := by
  obtain ⟨A', c', e, hn, hc, hE⟩ := h
  injection e with e1 e2 e3
  subst e1 e3
  refine ⟨_, c - k, by rw [List.length_drop], by rw [List.length_drop]; omega, by omega, fun j hj => ?_⟩
  rw [List.length_drop] at hj
  rw [if_neg (by omega)]
  obtain ⟨b, off, h1, h2, h3, x, hx, hv⟩ := hE (k + j) (by omega)
  injection h1 with h1
  injection h1 with h1 h1'
  subst h1 h1'
  refine ⟨g, k * 3, rfl, h2, h3, x, by rw [List.getElem?_drop]; exact hx, ?_⟩
  rw [show k * 3 + j * 3 = 0 + (k + j) * 3 by omega]
  exact hv
theorem owns_rdV {w : World} {base e : Nat} {v : Value} {l : List V} (h : w.ownsRow base e 3 v l.length (l.flatMap V.cells)) : RdV w base w.heap.size v l := (Own.new h).rdV
end Go.Lb
namespace Go.Proofs.Yticimccfeohpcaa
open Go.Sort Go.ChangeShapes Go.WideShapes Go.ChangeAt Go.RowKit Go.Lb
theorem below_trans_go {wo wr wq : World} (h : Below wo.heap.size wo wr) (hb : Below wr.heap.size wr wq) : Below wo.heap.size wo wq := h.trans (hb.mono h.size)
theorem ne_row1 (n : Nat) : some (n + 1) ≠ (Value.slice (some ⟨n, 0, none⟩) 0 0).ownBlock := by simp [Value.ownBlock]
theorem ne_row2 (n : Nat) : some n ≠ (Value.slice (some ⟨n + 1, 0, none⟩) 0 0).ownBlock := by simp [Value.ownBlock]
set_option maxHeartbeats 8000000 in
set_option maxRecDepth 20000 in
theorem spec_Dict (l : List V) (x : Value) (w : World) {lo hi : Nat} (hx : RdV w lo hi x l) (hhi : hi ≤ w.heap.size) (hn : l.length ≤ 1000000000) :
    Calls Try.prog 143 #[x] w fun e w' => ∃ r, e = .returned r ∧ Own 66 3 w' w.heap.size w'.heap.size r (dictOf l).length ((dictOf l).flatMap V.cells) ∧ Below w.heap.size w w' := by
  obtain ⟨A, c, rfl, hl, hl2⟩ := hx.form
  obtain ⟨i0, hif, hz0, hz1, hz2⟩ := info_parts info_val
  replace hif := Lib.hid hif
  replace hz0 := Lib.hid hz0
  replace hz1 := Lib.hid hz1
  replace hz2 := Lib.hid hz2
  have hgd := guard_V
  have hb0 := up_a1 w (.cells #[] 66)
  have own0 := World.ownsRow_made w (base := w.heap.size) (e := 66) (size := 3) #[] 0 (Nat.le_refl _) (by decide) rfl
  go_enter Try.func143, Try.ntmps143
  go_wp2_with fail
  go_loopw [3, 4] (fun o i wr => ∃ (j : Nat) (d : List V) (g cap : Nat), Hid (i = .int .i64 j ∧ o = .slice (some ⟨g, 0, none⟩) d.length cap ∧ j ≤ l.length ∧ d = dictOf (l.take j) ∧ wr.ownsRow w.heap.size 66 3 (.slice (some ⟨g, 0, none⟩) d.length cap) d.length (d.flatMap V.cells) ∧ Below w.heap.size w wr)) (fun _ i _ => l.length - (intOf i).toNat)
  case atStart => exact ⟨0, [], w.heap.size, 0, Lib.hid ⟨rfl, rfl, by omega, rfl, own0, hb0⟩⟩
  case round =>
    obtain ⟨j, d, g, cap, hrel⟩ := hrel
    obtain ⟨rfl, rfl, hj, hd, hown, hb⟩ := hrel.out
    have hdl : d.length ≤ j := by rw [hd]; have := dictOf_len (l.take j); rw [List.length_take] at this; omega
    have Hd := Lib.hid hd
    have Hown := Lib.hid hown
    have hbs := hb.size
    have hdc : d.length ≤ cap := by
      rcases hown.2 with ⟨e1, -⟩ | ⟨g', cap', cur, e1, -, -, hnc, -⟩
      · cases e1
      · injection e1 with e1 e2 e3
        omega
    clear hd hown hrel own0 hb0
    by_cases hjl : j < l.length
    · obtain ⟨b, off, y, rfl, -, hbl, hyk, e0, e1, e2⟩ := (hx.below hb hhi).at hjl
      have Hs := Lib.hid (dict_step hyk)
      clear hyk
      obtain ⟨wo, hwo⟩ : ∃ wo, wo = wr := ⟨_, rfl⟩
      subst hwo
      go_wp2_with fail
      go_loopw [5] (fun kk wr => ∃ k : Nat, Hid (kk = .int .i64 k ∧ k ≤ d.length ∧ (∀ i x, i < k → d[i]? = some x → less x y = true) ∧ Below wo.heap.size wo wr)) (fun kk _ => d.length - (intOf kk).toNat)
      case atStart => exact ⟨0, Lib.hid ⟨rfl, Nat.zero_le _, fun i x hi => absurd hi (Nat.not_lt_zero _), Below.refl _ _⟩⟩
      case round =>
        obtain ⟨k, hrel⟩ := hrel
        obtain ⟨rfl, hkd, hless, hbw⟩ := hrel.out
        have Hless := Lib.hid hless
        have f0 := cell_keep e0 hbw
        have f1 := cell_keep e1 hbw
        have f2 := cell_keep e2 hbw
        have HO1 := Lib.hid (owns_below Hown.out hbw)
        have HBW := Lib.hid hbw
        have hb1 := below_go hb hbw
        have hbs1 := hb1.size
        clear hrel hless hbw
        by_cases hkl : k < d.length
        · obtain ⟨z, hz⟩ : ∃ z, d[k]? = some z := ⟨_, List.getElem?_eq_getElem hkl⟩
          obtain ⟨c0, c1, c2⟩ := owns_atV HO1.out hz
          have dk : decide ((k : Int) < (d.length : Int)) = true := decide_eq_true (by omega)
          have dk2 : decide (k < d.length) = true := decide_eq_true hkl
          have hLV := fun W => spec_LessVal z y W
          cases hzy : less z y
          · simp only [hzy] at hLV
            have HLV := Lib.hid hLV
            have hAt := fun (v : V) (e : v = y) => dictIns_at (d := d) (v := v) (k := k) (fun i x h1 h2 => e ▸ Hless.out i x h1 h2) (fun x hx => by rw [hz] at hx; injection hx with hx; rw [← hx, e]; exact hzy) (Nat.le_of_lt hkl)
            have hAt2 := hAt y rfl
            rw [hz] at hAt2
            have kn : ((k : Int) == (d.length : Int)) = false := by simp; omega
            have HY := neq_V z y
            clear hLV hzy hAt
            go_wp2_with fail
            have q_0 := cell_regrown (w := wr) c0
            have q_1 := cell_regrown (w := wr) c1
            have q_2 := cell_regrown (w := wr) c2
            have q_3 := cell_regrown (w := wr) f0
            have q_4 := cell_regrown (w := wr) f1
            have q_5 := cell_regrown (w := wr) f2
            refine wp_region_quiet_below (by kernel_rfl) (by kernel_rfl) ?_
            repeat (go_big_quiet_step (first | (go_at_call 153; exact Calls.regrown_of (HLV.out _))))
            refine wpQuiet_nil ?_
            intro wq hw'
            obtain ⟨⟨dq, osq⟩, hw''⟩ := hw'
            have hbq := below_regrown wr dq osq
            rw [← hw''] at hbq
            clear hw''
            clear q_0 q_1 q_2 q_3 q_4 q_5
            have HO2 := Lib.hid (owns_below HO1.out hbq)
            have hb2 := below_go hb1 hbq
            have e0 := cell_keep f0 hbq
            have e1 := cell_keep f1 hbq
            have e2 := cell_keep f2 hbq
            have c0 := cell_keep c0 hbq
            have c1 := cell_keep c1 hbq
            have c2 := cell_keep c2 hbq
            clear hbq f0 f1 f2 HO1 hb1 hb Hown
            by_cases hze : z = y
            · subst hze
              rw [eqd_self] at HY
              rw [if_pos rfl] at hAt2
              have HS2 := Lib.hid (show d = dictOf (l.take (j + 1)) by rw [Hs.out, ← Hd.out, hAt2])
              clear hAt2 hz
              go_wp2_with fail
              obtain ⟨wp, hwp⟩ : ∃ wp, wp = wq := ⟨_, rfl⟩
              subst hwp
              have q_0 := cell_regrown (w := wp) c0
              have q_1 := cell_regrown (w := wp) c1
              have q_2 := cell_regrown (w := wp) c2
              have q_3 := cell_regrown (w := wp) e0
              have q_4 := cell_regrown (w := wp) e1
              have q_5 := cell_regrown (w := wp) e2
              refine wp_region_quiet_below (by kernel_rfl) (by kernel_rfl) ?_
              repeat (go_big_quiet_step (fail))
              refine wpQuiet_nil ?_
              intro wq hw'
              obtain ⟨⟨dq, osq⟩, hw''⟩ := hw'
              have hbq := below_regrown wp dq osq
              rw [← hw''] at hbq
              clear hw''
              clear q_0 q_1 q_2 q_3 q_4 q_5
              have HO3 := Lib.hid (owns_below HO2.out hbq)
              have hb3 := below_go hb2 hbq
              clear hbq c0 c1 c2 e0 e1 e2 HO2 HY
              go_wp2_with fail
              go_roundw
              case rel => exact ⟨j + 1, d, g, cap, Lib.hid ⟨by go_num, rfl, by omega, HS2.out, HO3.out, hb3⟩⟩
              case measure => simp [intOf]; omega
            · have hd2 : eqd z y = false := eqd_no hze
              rw [hd2] at HY
              rw [if_neg (fun e => hze (by injection e))] at hAt2
              have HS2 := Lib.hid (show d.take k ++ [y] ++ d.drop k = dictOf (l.take (j + 1)) by rw [Hs.out, ← Hd.out, hAt2])
              clear hAt2 hz hd2 hze
              go_wp2_with fail
              obtain ⟨wp, hwp⟩ : ∃ wp, wp = wq := ⟨_, rfl⟩
              subst hwp
              have q_0 := cell_regrown (w := wp) c0
              have q_1 := cell_regrown (w := wp) c1
              have q_2 := cell_regrown (w := wp) c2
              have q_3 := cell_regrown (w := wp) e0
              have q_4 := cell_regrown (w := wp) e1
              have q_5 := cell_regrown (w := wp) e2
              refine wp_region_quiet_below (by kernel_rfl) (by kernel_rfl) ?_
              repeat (go_big_quiet_step (fail))
              refine wpQuiet_nil ?_
              intro wq hw'
              obtain ⟨⟨dq, osq⟩, hw''⟩ := hw'
              have hbq := below_regrown wp dq osq
              rw [← hw''] at hbq
              clear hw''
              clear q_0 q_1 q_2 q_3 q_4 q_5
              replace HO2 := Lib.hid (owns_below HO2.out hbq)
              replace hb2 := below_go hb2 hbq
              replace e0 := cell_keep e0 hbq
              replace e1 := cell_keep e1 hbq
              replace e2 := cell_keep e2 hbq
              have hbs2 := hb2.size
              clear hbq c0 c1 c2 HY
              obtain ⟨d2, hd2⟩ : ∃ d2, d.take k ++ [y] ++ d.drop k = d2 := ⟨_, rfl⟩
              have Hd2 := Lib.hid hd2
              have HS3 := Lib.hid (show d2 = dictOf (l.take (j + 1)) by rw [← hd2, HS2.out])
              clear hd2
              have hN1 := fun (W : World) (h : Below wq.heap.size wq W) => RdV.news ((rdV_take (owns_rdV HO2.out) hkd).below h (Nat.le_refl _))
              have hN2 := fun (W : World) (h : Below wq.heap.size wq W) => RdV.news ((rdV_dropIf (owns_rdV HO2.out) hkd hdc).below h (Nat.le_refl _))
              obtain ⟨AA, hAA⟩ : ∃ AA, (if cap = k then some (⟨g, 0, none⟩ : Addr) else some ⟨g, k * 3, none⟩) = AA := ⟨_, rfl⟩
              rw [hAA] at hN2
              have hlt1 : (d.take k).length = k := by rw [List.length_take]; omega
              have hlt2 : (d.drop k).length = d.length - k := List.length_drop
              have HN1 := Lib.hid (fun W h => (⟨rfl, (fun h0 => by cases h0), (hN1 W h).2.2⟩ : k = k ∧ ((some (⟨g, 0, none⟩ : Addr)) = none → k = 0) ∧ ∀ ad, (some (⟨g, 0, none⟩ : Addr)) = some ad → ∀ j u, ((d.take k).flatMap V.cells)[j]? = some u → W.cell? (ad.add j) = some u))
              have HN2 := Lib.hid (fun W h => (⟨rfl, fun h0 => hlt2 ▸ (hN2 W h).2.1 h0, (hN2 W h).2.2⟩ : d.length - k = d.length - k ∧ (AA = none → d.length - k = 0) ∧ ∀ ad, AA = some ad → ∀ j u, ((d.drop k).flatMap V.cells)[j]? = some u → W.cell? (ad.add j) = some u))
              have hl1 : ((d.take k).flatMap V.cells).length = k * 3 := by rw [flat_len V.cells 3 V.cells_len, hlt1]
              have hl2 : ((d.drop k).flatMap V.cells).length = (d.length - k) * 3 := by rw [flat_len V.cells 3 V.cells_len, hlt2]
              have HL1 := Lib.hid hl1
              have HL2 := Lib.hid hl2
              have j1 : (0 : Int) ≤ (k : Int) := by omega
              have j2 : (k : Int) ≤ (cap : Int) := by omega
              have j3 : (k : Int) ≤ (d.length : Int) := by omega
              have j4 : (d.length : Int) ≤ (cap : Int) := by omega
              have MA := Lib.hid (owns_drew (World.ownsRow_made wq (base := wq.heap.size) (e := 66) (size := 3) #[] 0 (Nat.le_refl _) (by decide) rfl))
              have MB := Lib.hid (owns_drew ((World.ownsRow_made wq (base := wq.heap.size) (e := 66) (size := 3) #[] 0 (Nat.le_refl _) (by decide) rfl).alloc (.cells #[.int .i64 y.ty, .int .i64 y.n, .string y.s] 66)))
              have mc := owns_drew (World.ownsRow_made (wq.alloc (.cells #[.int .i64 y.ty, .int .i64 y.n, .string y.s] 66)) (base := wq.heap.size) (e := 66) (size := 3) #[] 0 (by simp) (by decide) rfl)
              have sz1 : (wq.alloc (.cells #[.int .i64 y.ty, .int .i64 y.n, .string y.s] 66)).heap.size = wq.heap.size + 1 := by simp
              have sz2 : (wq.alloc (.cells #[] 66)).heap.size = wq.heap.size + 1 := by simp
              rw [sz1] at mc
              have MC := Lib.hid mc
              have BA := Lib.hid ((up_a1 wq (.cells #[] 66)).drew)
              have BB := Lib.hid ((up_a2 wq (.cells #[] 66) (.cells #[.int .i64 y.ty, .int .i64 y.n, .string y.s] 66)).drew)
              have BC := Lib.hid ((up_a2 wq (.cells #[.int .i64 y.ty, .int .i64 y.n, .string y.s] 66) (.cells #[] 66)).drew)
              have kb := heap_alloc_new (wq.alloc (.cells #[] 66)) (.cells #[.int .i64 y.ty, .int .i64 y.n, .string y.s] 66)
              rw [sz2] at kb
              have KB := Lib.hid (show ((wq.alloc (.cells #[] 66)).alloc (.cells #[.int .i64 y.ty, .int .i64 y.n, .string y.s] 66)).drew.heap[wq.heap.size + 1]? = some (.cells #[.int .i64 y.ty, .int .i64 y.n, .string y.s] 66) from kb)
              have KC := Lib.hid (show ((wq.alloc (.cells #[.int .i64 y.ty, .int .i64 y.n, .string y.s] 66)).alloc (.cells #[] 66)).drew.heap[wq.heap.size]? = some (.cells #[.int .i64 y.ty, .int .i64 y.n, .string y.s] 66) from ((up_a1 (wq.alloc (.cells #[.int .i64 y.ty, .int .i64 y.n, .string y.s] 66)) (.cells #[] 66)).block wq.heap.size (by simp)).trans (heap_alloc_new wq (.cells #[.int .i64 y.ty, .int .i64 y.n, .string y.s] 66)))
              have s2 : wq.heap.size + 1 < ((wq.alloc (.cells #[] 66)).alloc (.cells #[.int .i64 y.ty, .int .i64 y.n, .string y.s] 66)).drew.heap.size := by show _ < ((wq.alloc (.cells #[] 66)).alloc (.cells #[.int .i64 y.ty, .int .i64 y.n, .string y.s] 66)).heap.size; simp
              have s3 : wq.heap.size + 1 < ((wq.alloc (.cells #[.int .i64 y.ty, .int .i64 y.n, .string y.s] 66)).alloc (.cells #[] 66)).drew.heap.size := by show _ < ((wq.alloc (.cells #[.int .i64 y.ty, .int .i64 y.n, .string y.s] 66)).alloc (.cells #[] 66)).heap.size; simp
              have HS2' := Lib.hid s2
              have HS3' := Lib.hid s3
              clear hN1 hN2 hlt1 hlt2 hl1 hl2 mc sz1 sz2 kb s2 s3
              go_upto_region 9 with fail
              go_region_held3 (fun w' => w'.cell? ⟨b, off + j * 3, none⟩ = some (.int .i64 y.ty) ∧ w'.cell? ⟨b, off + j * 3 + 1, none⟩ = some (.int .i64 y.n) ∧ w'.cell? ⟨b, off + j * 3 + 2, none⟩ = some (.string y.s)) (first | exact ⟨e0, e1, e2⟩ | exact ⟨cell_keep e0 B5, cell_keep e1 B5, cell_keep e2 B5⟩ | exact ⟨cell_keep e0 B4, cell_keep e1 B4, cell_keep e2 B4⟩ | exact ⟨cell_keep e0 (B3.alloc B3.size _), cell_keep e1 (B3.alloc B3.size _), cell_keep e2 (B3.alloc B3.size _)⟩ | exact ⟨cell_keep e0 B3, cell_keep e1 B3, cell_keep e2 B3⟩ | exact ⟨cell_keep e0 (up_a2 _ _ _), cell_keep e1 (up_a2 _ _ _), cell_keep e2 (up_a2 _ _ _)⟩ | exact ⟨cell_keep e0 (up_a1 _ _), cell_keep e1 (up_a1 _ _), cell_keep e2 (up_a1 _ _)⟩ | go_keep)
                (first
                  | (refine step_spread rfl _ _ 45 rfl wq.heap.size 66 i0 _ 3 32 Try.underlying45 hif.out hz0.out hz1.out hz2.out rfl (by decide) (by decide) MA.out rfl rfl HL1.out (HN1.out _ BA.out).2.1 (HN1.out _ BA.out).2.2 (one_cells _) (by omega) BA.out.size ?_; intro v3 w3 hown3 hgrow3 _; have B3 : Below wq.heap.size wq w3 := Below.grown BA.out hgrow3 (fun b h => (MA.out.lt b h).1) (Nat.le_refl _); have O3 := Lib.hid hown3; have kbA := True.intro)
                  | (refine step_spread rfl _ _ 45 rfl wq.heap.size 66 i0 _ 3 32 Try.underlying45 hif.out hz0.out hz1.out hz2.out rfl (by decide) (by decide) MB.out rfl rfl HL1.out (HN1.out _ BB.out).2.1 (HN1.out _ BB.out).2.2 (one_cells _) (by omega) BB.out.size ?_; intro v3 w3 hown3 hgrow3 _; have B3 : Below wq.heap.size wq w3 := Below.grown BB.out hgrow3 (fun b h => (MB.out.lt b h).1) (Nat.le_refl _); have O3 := Lib.hid hown3; have kbB := (hgrow3.block _ HS2'.out (ne_row1 wq.heap.size)).trans KB.out)
                  | (refine step_spread rfl _ _ 45 rfl wq.heap.size 66 i0 _ 3 32 Try.underlying45 hif.out hz0.out hz1.out hz2.out rfl (by decide) (by decide) MC.out rfl rfl HL1.out (HN1.out _ BC.out).2.1 (HN1.out _ BC.out).2.2 (one_cells _) (by omega) BC.out.size ?_; intro v3 w3 hown3 hgrow3 _; have B3 : Below wq.heap.size wq w3 := Below.grown BC.out hgrow3 (fun b h => (MC.out.lt b h).1) (Nat.le_refl _); have O3 := Lib.hid hown3; have kbB := (hgrow3.block _ (Nat.lt_of_succ_lt HS3'.out) (ne_row2 wq.heap.size)).trans KC.out)
                  | (clear kbA; refine step_app rfl _ _ 45 rfl wq.heap.size 66 i0 _ 3 32 Try.underlying45 hif.out hz0.out hz1.out hz2.out rfl (by decide) (by decide) (O3.out.alloc _) rfl (heap_alloc_new _ _) rfl rfl (by simp [Value.oneCell']) (by omega) (Nat.le_trans B3.size (up_a1 _ _).size) ?_; intro v4 w4 hown4 hgrow4 _; have B4 : Below wq.heap.size wq w4 := Below.grown (B3.alloc B3.size _) hgrow4 (fun b h => (O3.out.lt b h).1) (Nat.le_refl _); have O4 := Lib.hid hown4)
                  | (refine step_app rfl _ _ 45 rfl wq.heap.size 66 i0 _ 3 32 Try.underlying45 hif.out hz0.out hz1.out hz2.out rfl (by decide) (by decide) O3.out rfl kbB rfl rfl (by simp [Value.oneCell']) (by omega) B3.size ?_; intro v4 w4 hown4 hgrow4 _; have B4 : Below wq.heap.size wq w4 := Below.grown B3 hgrow4 (fun b h => (O3.out.lt b h).1) (Nat.le_refl _); have O4 := Lib.hid hown4)
                  | (refine step_spread rfl _ _ 45 rfl wq.heap.size 66 i0 _ 3 32 Try.underlying45 hif.out hz0.out hz1.out hz2.out rfl (by decide) (by decide) O4.out rfl rfl HL2.out (HN2.out _ B4).2.1 (HN2.out _ B4).2.2 (one_cells _) (by omega) B4.size ?_; intro v5 w5 hown5 hgrow5 _; have B5 : Below wq.heap.size wq w5 := Below.grown B4 hgrow5 (fun b h => (O4.out.lt b h).1) (Nat.le_refl _); have O5 := Lib.hid hown5)
                  | fail)
              all_goals
                have HO5 := Lib.hid (show w5.ownsRow w.heap.size 66 3 v5 d2.length (d2.flatMap V.cells) by
                  rw [← Hd2.out, List.length_append, List.length_append, List.flatMap_append, List.flatMap_append]
                  have h5 := owns_base (owns_zero O5.out) (fun b hb => Nat.le_trans hbs2 (O5.out.lt b hb).1)
                  have e1 : (d.take k).length + [y].length + (d.drop k).length = 0 + k + 1 + (d.length - k) := by rw [List.length_take, List.length_drop, List.length_singleton]; omega
                  rw [e1]
                  simpa [V.cells] using h5)
                have HB5 := Lib.hid (hb2.trans (B5.mono hbs2))
                obtain ⟨g5, cap5, e5, -, -, -, -, -, -⟩ := owns_formS HO5.out (by rw [← Hd2.out]; simp; omega)
                subst e5
                clear O5 B5
                go_wp2_with fail
                go_roundw
                case rel => exact ⟨j + 1, d2, g5, cap5, Lib.hid ⟨by go_num, rfl, by omega, HS3.out, HO5.out, HB5.out⟩⟩
                case measure => simp [intOf]; omega
          · have hAt : dictIns d z = d → True := fun _ => trivial
            simp only [hzy] at hLV
            have HLV := Lib.hid hLV
            have HL2 := Lib.hid (fun (i : Nat) (x : V) (hi : i < k + 1) (hx : d[i]? = some x) => (show less x y = true from by
              rcases Nat.lt_or_ge i k with h1 | h1
              · exact Hless.out i x h1 hx
              · obtain rfl : i = k := by omega
                rw [hz] at hx
                injection hx with hx
                rw [← hx]
                exact hzy))
            clear hLV hzy hz hAt
            go_wp2_with fail
            have q_0 := cell_regrown (w := wr) c0
            have q_1 := cell_regrown (w := wr) c1
            have q_2 := cell_regrown (w := wr) c2
            have q_3 := cell_regrown (w := wr) f0
            have q_4 := cell_regrown (w := wr) f1
            have q_5 := cell_regrown (w := wr) f2
            refine wp_region_quiet_below (by kernel_rfl) (by kernel_rfl) ?_
            repeat (go_big_quiet_step (first | (go_at_call 153; exact Calls.regrown_of (HLV.out _))))
            refine wpQuiet_nil ?_
            intro wq hw'
            obtain ⟨⟨dq, osq⟩, hw''⟩ := hw'
            have hbq := below_regrown wr dq osq
            rw [← hw''] at hbq
            clear hw''
            clear q_0 q_1 q_2 q_3 q_4 q_5
            have hbw2 := below_trans_go HBW.out hbq
            clear hbq c0 c1 c2 f0 f1 f2
            go_wp2_with fail
            go_roundw
            case rel => exact ⟨k + 1, Lib.hid ⟨by go_num, by omega, HL2.out, hbw2⟩⟩
            case measure => simp [intOf]; omega
        · obtain rfl : k = d.length := by omega
          have dk : decide ((d.length : Int) < (d.length : Int)) = false := decide_eq_false (by omega)
          have kn : ((d.length : Int) == (d.length : Int)) = true := by simp
          have hAt := dictIns_at (d := d) (v := y) (k := d.length) (fun i x h1 h2 => Hless.out i x h1 h2) (fun x hx => by rw [List.getElem?_eq_none (Nat.le_refl _)] at hx; cases hx) (Nat.le_refl _)
          rw [if_neg (by rw [List.getElem?_eq_none (Nat.le_refl _)]; simp)] at hAt
          have HS0 := Lib.hid (show d.take d.length ++ [y] ++ d.drop d.length = dictOf (l.take (j + 1)) by rw [Hs.out, ← Hd.out, hAt])
          clear hAt
          go_wp2_with fail
          refine wp_region_quiet_below (by kernel_rfl) (by kernel_rfl) ?_
          repeat (go_big_quiet_step (fail))
          refine wpQuiet_nil ?_
          intro wq hw'
          obtain ⟨⟨dq, osq⟩, hw''⟩ := hw'
          have hbq := below_regrown wr dq osq
          rw [← hw''] at hbq
          clear hw''
          have HO2 := Lib.hid (owns_below HO1.out hbq)
          have hb2 := below_go hb1 hbq
          have e0 := cell_keep f0 hbq
          have e1 := cell_keep f1 hbq
          have e2 := cell_keep f2 hbq
          clear hbq f0 f1 f2 HO1 hb1 hb Hown
          go_wp2_with fail
          obtain ⟨wp, hwp⟩ : ∃ wp, wp = wq := ⟨_, rfl⟩
          subst hwp
          refine wp_region_quiet_below (by kernel_rfl) (by kernel_rfl) ?_
          repeat (go_big_quiet_step (fail))
          refine wpQuiet_nil ?_
          intro wq hw'
          obtain ⟨⟨dq, osq⟩, hw''⟩ := hw'
          have hbq := below_regrown wp dq osq
          rw [← hw''] at hbq
          clear hw''
          replace HO2 := Lib.hid (owns_below HO2.out hbq)
          replace hb2 := below_go hb2 hbq
          replace e0 := cell_keep e0 hbq
          replace e1 := cell_keep e1 hbq
          replace e2 := cell_keep e2 hbq
          have hbs2 := hb2.size
          have HS2 := HS0
          have hkd : d.length ≤ d.length := Nat.le_refl _
          obtain ⟨d2, hd2⟩ : ∃ d2, d.take d.length ++ [y] ++ d.drop d.length = d2 := ⟨_, rfl⟩
          have Hd2 := Lib.hid hd2
          have HS3 := Lib.hid (show d2 = dictOf (l.take (j + 1)) by rw [← hd2, HS2.out])
          clear hd2
          have hN1 := fun (W : World) (h : Below wq.heap.size wq W) => RdV.news ((rdV_take (owns_rdV HO2.out) hkd).below h (Nat.le_refl _))
          have hN2 := fun (W : World) (h : Below wq.heap.size wq W) => RdV.news ((rdV_dropIf (owns_rdV HO2.out) hkd hdc).below h (Nat.le_refl _))
          obtain ⟨AA, hAA⟩ : ∃ AA, (if cap = d.length then some (⟨g, 0, none⟩ : Addr) else some ⟨g, d.length * 3, none⟩) = AA := ⟨_, rfl⟩
          rw [hAA] at hN2
          have hlt1 : (d.take d.length).length = d.length := by rw [List.length_take]; omega
          have hlt2 : (d.drop d.length).length = 0 := by simp
          have HN1 := Lib.hid (fun W h => (⟨rfl, (fun h0 => by cases h0), (hN1 W h).2.2⟩ : d.length = d.length ∧ ((some (⟨g, 0, none⟩ : Addr)) = none → d.length = 0) ∧ ∀ ad, (some (⟨g, 0, none⟩ : Addr)) = some ad → ∀ j u, ((d.take d.length).flatMap V.cells)[j]? = some u → W.cell? (ad.add j) = some u))
          have HN2 := Lib.hid (fun W h => (⟨rfl, fun _ => rfl, (hN2 W h).2.2⟩ : 0 = 0 ∧ (AA = none → 0 = 0) ∧ ∀ ad, AA = some ad → ∀ j u, ((d.drop d.length).flatMap V.cells)[j]? = some u → W.cell? (ad.add j) = some u))
          have hl1 : ((d.take d.length).flatMap V.cells).length = d.length * 3 := by rw [flat_len V.cells 3 V.cells_len, hlt1]
          have hl2 : ((d.drop d.length).flatMap V.cells).length = (0) * 3 := by rw [flat_len V.cells 3 V.cells_len, hlt2]
          have HL1 := Lib.hid hl1
          have HL2 := Lib.hid hl2
          have j1 : (0 : Int) ≤ (d.length : Int) := by omega
          have j2 : (d.length : Int) ≤ (cap : Int) := by omega
          have j3 : (d.length : Int) ≤ (d.length : Int) := by omega
          have j4 : (d.length : Int) ≤ (cap : Int) := by omega
          have MA := Lib.hid (owns_drew (World.ownsRow_made wq (base := wq.heap.size) (e := 66) (size := 3) #[] 0 (Nat.le_refl _) (by decide) rfl))
          have MB := Lib.hid (owns_drew ((World.ownsRow_made wq (base := wq.heap.size) (e := 66) (size := 3) #[] 0 (Nat.le_refl _) (by decide) rfl).alloc (.cells #[.int .i64 y.ty, .int .i64 y.n, .string y.s] 66)))
          have mc := owns_drew (World.ownsRow_made (wq.alloc (.cells #[.int .i64 y.ty, .int .i64 y.n, .string y.s] 66)) (base := wq.heap.size) (e := 66) (size := 3) #[] 0 (by simp) (by decide) rfl)
          have sz1 : (wq.alloc (.cells #[.int .i64 y.ty, .int .i64 y.n, .string y.s] 66)).heap.size = wq.heap.size + 1 := by simp
          have sz2 : (wq.alloc (.cells #[] 66)).heap.size = wq.heap.size + 1 := by simp
          rw [sz1] at mc
          have MC := Lib.hid mc
          have BA := Lib.hid ((up_a1 wq (.cells #[] 66)).drew)
          have BB := Lib.hid ((up_a2 wq (.cells #[] 66) (.cells #[.int .i64 y.ty, .int .i64 y.n, .string y.s] 66)).drew)
          have BC := Lib.hid ((up_a2 wq (.cells #[.int .i64 y.ty, .int .i64 y.n, .string y.s] 66) (.cells #[] 66)).drew)
          have kb := heap_alloc_new (wq.alloc (.cells #[] 66)) (.cells #[.int .i64 y.ty, .int .i64 y.n, .string y.s] 66)
          rw [sz2] at kb
          have KB := Lib.hid (show ((wq.alloc (.cells #[] 66)).alloc (.cells #[.int .i64 y.ty, .int .i64 y.n, .string y.s] 66)).drew.heap[wq.heap.size + 1]? = some (.cells #[.int .i64 y.ty, .int .i64 y.n, .string y.s] 66) from kb)
          have KC := Lib.hid (show ((wq.alloc (.cells #[.int .i64 y.ty, .int .i64 y.n, .string y.s] 66)).alloc (.cells #[] 66)).drew.heap[wq.heap.size]? = some (.cells #[.int .i64 y.ty, .int .i64 y.n, .string y.s] 66) from ((up_a1 (wq.alloc (.cells #[.int .i64 y.ty, .int .i64 y.n, .string y.s] 66)) (.cells #[] 66)).block wq.heap.size (by simp)).trans (heap_alloc_new wq (.cells #[.int .i64 y.ty, .int .i64 y.n, .string y.s] 66)))
          have s2 : wq.heap.size + 1 < ((wq.alloc (.cells #[] 66)).alloc (.cells #[.int .i64 y.ty, .int .i64 y.n, .string y.s] 66)).drew.heap.size := by show _ < ((wq.alloc (.cells #[] 66)).alloc (.cells #[.int .i64 y.ty, .int .i64 y.n, .string y.s] 66)).heap.size; simp
          have s3 : wq.heap.size + 1 < ((wq.alloc (.cells #[.int .i64 y.ty, .int .i64 y.n, .string y.s] 66)).alloc (.cells #[] 66)).drew.heap.size := by show _ < ((wq.alloc (.cells #[.int .i64 y.ty, .int .i64 y.n, .string y.s] 66)).alloc (.cells #[] 66)).heap.size; simp
          have HS2' := Lib.hid s2
          have HS3' := Lib.hid s3
          clear hN1 hN2 hlt1 hlt2 hl1 hl2 mc sz1 sz2 kb s2 s3
          go_upto_region 9 with fail
          go_region_held3 (fun w' => w'.cell? ⟨b, off + j * 3, none⟩ = some (.int .i64 y.ty) ∧ w'.cell? ⟨b, off + j * 3 + 1, none⟩ = some (.int .i64 y.n) ∧ w'.cell? ⟨b, off + j * 3 + 2, none⟩ = some (.string y.s)) (first | exact ⟨e0, e1, e2⟩ | exact ⟨cell_keep e0 B5, cell_keep e1 B5, cell_keep e2 B5⟩ | exact ⟨cell_keep e0 B4, cell_keep e1 B4, cell_keep e2 B4⟩ | exact ⟨cell_keep e0 (B3.alloc B3.size _), cell_keep e1 (B3.alloc B3.size _), cell_keep e2 (B3.alloc B3.size _)⟩ | exact ⟨cell_keep e0 B3, cell_keep e1 B3, cell_keep e2 B3⟩ | exact ⟨cell_keep e0 (up_a2 _ _ _), cell_keep e1 (up_a2 _ _ _), cell_keep e2 (up_a2 _ _ _)⟩ | exact ⟨cell_keep e0 (up_a1 _ _), cell_keep e1 (up_a1 _ _), cell_keep e2 (up_a1 _ _)⟩ | go_keep)
            (first
              | (refine step_spread rfl _ _ 45 rfl wq.heap.size 66 i0 _ 3 32 Try.underlying45 hif.out hz0.out hz1.out hz2.out rfl (by decide) (by decide) MA.out rfl rfl HL1.out (HN1.out _ BA.out).2.1 (HN1.out _ BA.out).2.2 (one_cells _) (by omega) BA.out.size ?_; intro v3 w3 hown3 hgrow3 _; have B3 : Below wq.heap.size wq w3 := Below.grown BA.out hgrow3 (fun b h => (MA.out.lt b h).1) (Nat.le_refl _); have O3 := Lib.hid hown3; have kbA := True.intro)
              | (refine step_spread rfl _ _ 45 rfl wq.heap.size 66 i0 _ 3 32 Try.underlying45 hif.out hz0.out hz1.out hz2.out rfl (by decide) (by decide) MB.out rfl rfl HL1.out (HN1.out _ BB.out).2.1 (HN1.out _ BB.out).2.2 (one_cells _) (by omega) BB.out.size ?_; intro v3 w3 hown3 hgrow3 _; have B3 : Below wq.heap.size wq w3 := Below.grown BB.out hgrow3 (fun b h => (MB.out.lt b h).1) (Nat.le_refl _); have O3 := Lib.hid hown3; have kbB := (hgrow3.block _ HS2'.out (ne_row1 wq.heap.size)).trans KB.out)
              | (refine step_spread rfl _ _ 45 rfl wq.heap.size 66 i0 _ 3 32 Try.underlying45 hif.out hz0.out hz1.out hz2.out rfl (by decide) (by decide) MC.out rfl rfl HL1.out (HN1.out _ BC.out).2.1 (HN1.out _ BC.out).2.2 (one_cells _) (by omega) BC.out.size ?_; intro v3 w3 hown3 hgrow3 _; have B3 : Below wq.heap.size wq w3 := Below.grown BC.out hgrow3 (fun b h => (MC.out.lt b h).1) (Nat.le_refl _); have O3 := Lib.hid hown3; have kbB := (hgrow3.block _ (Nat.lt_of_succ_lt HS3'.out) (ne_row2 wq.heap.size)).trans KC.out)
              | (clear kbA; refine step_app rfl _ _ 45 rfl wq.heap.size 66 i0 _ 3 32 Try.underlying45 hif.out hz0.out hz1.out hz2.out rfl (by decide) (by decide) (O3.out.alloc _) rfl (heap_alloc_new _ _) rfl rfl (by simp [Value.oneCell']) (by omega) (Nat.le_trans B3.size (up_a1 _ _).size) ?_; intro v4 w4 hown4 hgrow4 _; have B4 : Below wq.heap.size wq w4 := Below.grown (B3.alloc B3.size _) hgrow4 (fun b h => (O3.out.lt b h).1) (Nat.le_refl _); have O4 := Lib.hid hown4)
              | (refine step_app rfl _ _ 45 rfl wq.heap.size 66 i0 _ 3 32 Try.underlying45 hif.out hz0.out hz1.out hz2.out rfl (by decide) (by decide) O3.out rfl kbB rfl rfl (by simp [Value.oneCell']) (by omega) B3.size ?_; intro v4 w4 hown4 hgrow4 _; have B4 : Below wq.heap.size wq w4 := Below.grown B3 hgrow4 (fun b h => (O3.out.lt b h).1) (Nat.le_refl _); have O4 := Lib.hid hown4)
              | (refine step_spread rfl _ _ 45 rfl wq.heap.size 66 i0 _ 3 32 Try.underlying45 hif.out hz0.out hz1.out hz2.out rfl (by decide) (by decide) O4.out rfl rfl HL2.out (HN2.out _ B4).2.1 (HN2.out _ B4).2.2 (one_cells _) (by omega) B4.size ?_; intro v5 w5 hown5 hgrow5 _; have B5 : Below wq.heap.size wq w5 := Below.grown B4 hgrow5 (fun b h => (O4.out.lt b h).1) (Nat.le_refl _); have O5 := Lib.hid hown5)
              | fail)
          all_goals
            have HO5 := Lib.hid (show w5.ownsRow w.heap.size 66 3 v5 d2.length (d2.flatMap V.cells) by
              rw [← Hd2.out, List.length_append, List.length_append, List.flatMap_append, List.flatMap_append]
              have h5 := owns_base (owns_zero O5.out) (fun b hb => Nat.le_trans hbs2 (O5.out.lt b hb).1)
              have e1 : (d.take d.length).length + [y].length + (d.drop d.length).length = 0 + d.length + 1 + (0) := by rw [List.length_take, List.length_drop, List.length_singleton]; omega
              rw [e1]
              simpa [V.cells] using h5)
            have HB5 := Lib.hid (hb2.trans (B5.mono hbs2))
            obtain ⟨g5, cap5, e5, -, -, -, -, -, -⟩ := owns_formS HO5.out (by rw [← Hd2.out]; simp)
            subst e5
            clear O5 B5
            go_wp2_with fail
            go_roundw
            case rel => exact ⟨j + 1, d2, g5, cap5, Lib.hid ⟨by go_num, rfl, by omega, HS3.out, HO5.out, HB5.out⟩⟩
            case measure => simp [intOf]; omega
    · obtain rfl : j = l.length := by omega
      have HE := Lib.hid (show dictOf l = d by rw [Hd.out, List.take_length])
      go_wp2_with fail
      go_ret
      exact ⟨_, rfl, by rw [HE.out]; exact .new Hown.out, hb⟩
end Go.Proofs.Yticimccfeohpcaa
