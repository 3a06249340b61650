/- The law FnCells: the walk. A cell is claimed once and stamped once; a timestamp that came by a time came by every later time. No conditions. -/
import Derived.Test.YtjdnjpfjamcilaaDoorXA
import Derived.Test.YtjdnjpfjamcilaaDoorDC
import Derived.Test.YtjdnjpfjamcilaaDoorTC
import Derived.Test.YtjdnjpfjamcilaaDoorXL
namespace Go.Proofs.YtjdnjpfjamcilaaDoor
open Go.Sort Go.ChangeShapes Go.WideShapes Go.ChangeAt Go.RowKit Go.Lb
set_option maxRecDepth 20000 in
set_option maxHeartbeats 4000000 in
theorem wCells (code : List UInt8) (x : Value) (w : World) (hx : RdB w 0 w.heap.size x code) (ht0P : Pow w) :
    Calls Tryd.prog 4 #[x] w fun e w' => e = .returned (.bool true) ∧ Below w.heap.size w w' := by
  go_enter Tryd.func4, Tryd.ntmps4
  go_wp2_with fail
  refine (law_big code _ w hx).mono ?_
  rintro e w1 ⟨rfl, rfl⟩
  by_cases hbg : 1048576 < (code.length : Int)
  · have hd := decide_eq_true hbg
    go_wp2_with fail
    go_ret
    exact ⟨rfl, Below.refl _ _⟩
  have hd := decide_eq_false hbg
  have hcl : code.length ≤ 1048576 := by omega
  have RC := Lib.hid hx
  have HB := Lib.hid (Below.refl w.heap.size w)
  go_wp2_with fail
  clear hbg hd hx
  have hC := spec_DrawClaim code _ w RC.out (Nat.le_refl _) hcl
  have HC := Lib.hid hC
  clear hC
  refine HC.out.mono ?_
  rintro e w1 ⟨n, rfl, hn0, hn1, hb⟩
  replace RC := Lib.hid (RC.out.go hb)
  replace HB := Lib.hid (below_go HB.out hb)
  clear hb HC
  have hC := spec_DrawStamp code _ w1 RC.out (Nat.le_refl _) hcl
  have HC := Lib.hid hC
  clear hC
  go_wp2_with fail
  refine HC.out.mono ?_
  rintro e w2 ⟨m, s, rfl, hm0, hm1, hs0, hs1, hb⟩
  replace RC := Lib.hid (RC.out.go hb)
  replace HB := Lib.hid (below_go HB.out hb)
  clear hb HC
  have hC := spec_DrawLives code _ w2 RC.out (Nat.le_refl _) hcl
  have HC := Lib.hid hC
  clear hC
  go_wp2_with fail
  refine HC.out.mono ?_
  rintro e w3 ⟨a, b, ts, rfl, ha0, ha1, hb0, hb1, ht0, ht1, hb⟩
  replace RC := Lib.hid (RC.out.go hb)
  replace HB := Lib.hid (below_go HB.out hb)
  clear hb HC
  have hwt : IntKind.i64.wrap (ts + 1) = ts + 1 := IntWalk.i64_in _ ⟨by omega, by omega⟩
  have hws : IntKind.i64.wrap (s - 1) = s - 1 := IntWalk.i64_in _ ⟨by omega, by omega⟩
  have HP := Lib.hid (TabIs.below ht0P HB.out)
  obtain ⟨x, ok, hcl⟩ : ∃ x ok, claimV n = (x, ok) := ⟨_, _, rfl⟩
  obtain ⟨u, may, hst⟩ : ∃ u may, stampV m s = (u, may) := ⟨_, _, rfl⟩
  obtain ⟨x2, hcl2⟩ : ∃ x2, claimV x = (x2, false) := by
    refine ⟨_, Prod.ext rfl ?_⟩
    simp only [claimV] at hcl ⊢
    split at hcl
    · injection hcl with h1 h2; subst h1; rfl
    · injection hcl with h1 h2; subst h1; rename_i h; rw [if_neg h]
  obtain ⟨u2, hst2⟩ : ∃ u2, stampV u s = (u2, false) := by
    refine ⟨_, Prod.ext rfl ?_⟩
    simp only [stampV] at hst ⊢
    split at hst
    · rename_i h; injection hst with h1 h2; subst h1; rw [if_neg (by omega)]
    · rename_i h; injection hst with h1 h2; subst h1; rw [if_neg h]
  have hok : (ok = true ∧ x = -1) ∨ ok = false := by
    simp only [claimV] at hcl
    split at hcl
    · injection hcl with h1 h2; exact .inl ⟨h2.symm, h1.symm⟩
    · injection hcl with h1 h2; exact .inr h2.symm
  have hmay : (may = true ∧ cameV u s = true ∧ cameV u (s - 1) = false) ∨ may = false := by
    simp only [stampV] at hst
    split at hst
    · rename_i h
      injection hst with h1 h2
      subst h1
      refine .inl ⟨h2.symm, ?_, ?_⟩
      · simp [cameV]; omega
      · simp [cameV]; omega
    · injection hst with h1 h2; exact .inr h2.symm
  obtain ⟨t, hct⟩ : ∃ t, cellText n = t := ⟨_, rfl⟩
  obtain ⟨lv, hlv⟩ : ∃ lv, (cameV a ts && !cameV b ts) = lv := ⟨_, rfl⟩
  have Hlv := Lib.hid hlv
  have hca1 : cameV a ts = false ∨ (cameV a ts = true ∧ cameV a (ts + 1) = true) := by
    cases h : cameV a ts
    · exact .inl rfl
    · right
      refine ⟨rfl, ?_⟩
      simp [cameV] at h ⊢
      omega
  have e1 : (x != x) = false := by simp
  have e2 : (ok != ok) = false := by simp
  have e3 : (u != u) = false := by simp
  have e4 : (may != may) = false := by simp
  have e5 : (lv != lv) = false := by simp
  obtain ⟨b6, hb6⟩ : ∃ b6, decide (-1 ≤ n) = b6 := ⟨_, rfl⟩
  obtain ⟨b7, hb7⟩ : ∃ b7, (n == -1) = b7 := ⟨_, rfl⟩
  have e6 : (b6 != b6) = false := by simp
  have e7 : (b7 != b7) = false := by simp
  have Hok := Lib.hid hok
  have Hmay := Lib.hid hmay
  have Hca := Lib.hid hca1
  have HC1 := Lib.hid (fun W => (by have h := q_impl_Claim n W; rw [hcl] at h; exact h))
  have HC2 := Lib.hid (fun W => (by have h := q_spec_Claim n W; rw [hcl] at h; exact h))
  have HC3 := Lib.hid (fun W => (by have h := q_impl_Stamp m s W; rw [hst] at h; exact h))
  have HC4 := Lib.hid (fun W => (by have h := q_spec_Stamp m s W; rw [hst] at h; exact h))
  have HC5 := Lib.hid (fun W => (by have h := q_impl_Lives a b ts W; rw [hlv] at h; exact h))
  have HC6 := Lib.hid (fun W => (by have h := q_spec_Lives a b ts W; rw [hlv] at h; exact h))
  have HC7 := Lib.hid (fun W (h : Below w3.heap.size w3 W) => (by have h2 := impl_CellText n W (by omega) (by omega) (TabIs.below HP.out h); rw [hct] at h2; exact h2))
  have HC8 := Lib.hid (fun W (h : Below w3.heap.size w3 W) => (by have h2 := spec_CellText n W (by omega) (by omega) (TabIs.below HP.out h); rw [hct] at h2; exact h2))
  have HC9 := Lib.hid (fun W => (by have h := q_impl_CellOk n W; rw [hb6] at h; exact h))
  have HC10 := Lib.hid (fun W => (by have h := q_spec_CellOk n W; rw [hb6] at h; exact h))
  have HC11 := Lib.hid (fun W => (by have h := q_impl_NeedsHelp n W; rw [hb7] at h; exact h))
  have HC12 := Lib.hid (fun W => (by have h := q_spec_NeedsHelp n W; rw [hb7] at h; exact h))
  have HC13 := Lib.hid (fun W => (by have h := q_impl_Claim x W; rw [hcl2] at h; exact h))
  have HC14 := Lib.hid (fun W => (by have h := q_impl_Stamp u s W; rw [hst2] at h; exact h))
  clear hcl hst hcl2 hst2 hok hmay hca1 hlv hct hb6 hb7 ht0P HP hn0 hn1 hm0 hm1 hs0 hs1 ha0 ha1 hb0 hb1 ht0 ht1
  go_wp2_with fail
  refine (HC1.out _).mono ?_
  rintro e we ⟨rfl, rfl⟩
  go_wp2_with fail
  refine (HC2.out _).mono ?_
  rintro e we ⟨rfl, rfl⟩
  go_wp2_with fail
  refine (HC3.out _).mono ?_
  rintro e we ⟨rfl, rfl⟩
  go_wp2_with fail
  refine (HC4.out _).mono ?_
  rintro e we ⟨rfl, rfl⟩
  go_wp2_with fail
  refine (HC5.out _).mono ?_
  rintro e we ⟨rfl, rfl⟩
  go_wp2_with fail
  refine (HC6.out _).mono ?_
  rintro e we ⟨rfl, rfl⟩
  go_wp2_with fail
  refine (HC7.out _ (Below.refl _ _)).mono ?_
  rintro e w4 ⟨rfl, hb4⟩
  go_wp2_with fail
  refine (HC8.out _ hb4).mono ?_
  rintro e w5 ⟨rfl, hb5⟩
  have Hb5 := Lib.hid (below_go HB.out (hb4.trans (hb5.mono hb4.size)))
  clear hb4 hb5
  go_wp2_with fail
  refine (HC9.out _).mono ?_
  rintro e we ⟨rfl, rfl⟩
  go_wp2_with fail
  refine (HC10.out _).mono ?_
  rintro e we ⟨rfl, rfl⟩
  go_wp2_with fail
  refine (HC11.out _).mono ?_
  rintro e we ⟨rfl, rfl⟩
  go_wp2_with fail
  refine (HC12.out _).mono ?_
  rintro e we ⟨rfl, rfl⟩
  go_wp2_with fail
  refine (HC13.out _).mono ?_
  rintro e we ⟨rfl, rfl⟩
  clear e1 e2 e3 e4 e5 e6 e7 RC HC1 HC2 HC3 HC4 HC6 HC7 HC8 HC9 HC10 HC11 HC12 HC13 HB
  rcases Hok.out with ⟨rfl, rfl⟩ | rfl
  · have HN := Lib.hid (fun W => q_impl_NeedsHelp (-1) W)
    go_wp2_with fail
    refine (HN.out _).mono ?_
    rintro e we ⟨rfl, rfl⟩
    rcases Hmay.out with ⟨rfl, hc1, hc2⟩ | rfl
    · have H1 := Lib.hid (impl_Came_of hc1)
      have H2 := Lib.hid (impl_Came_of hc2)
      clear hc1 hc2
      go_wp2_with fail
      refine (HC14.out _).mono ?_
      rintro e we ⟨rfl, rfl⟩
      go_wp2_with fail
      refine (H1.out _).mono ?_
      rintro e we ⟨rfl, rfl⟩
      go_wp2_with fail
      refine (H2.out _).mono ?_
      rintro e we ⟨rfl, rfl⟩
      rcases Hca.out with hca | ⟨hca, hcb⟩
      · have H1 := Lib.hid (impl_Came_of hca)
        have hl : lv = false := by rw [← Hlv.out, hca]; rfl
        subst hl
        clear hca
        go_wp2_with fail
        refine (H1.out _).mono ?_
        rintro e we ⟨rfl, rfl⟩
        go_wp2_with fail
        refine (HC5.out _).mono ?_
        rintro e we ⟨rfl, rfl⟩
        go_wp2_with fail
        go_ret
        exact ⟨rfl, Hb5.out⟩
      · have H1 := Lib.hid (impl_Came_of hca)
        have H2 := Lib.hid (impl_Came_of hcb)
        obtain ⟨cb, hcb2⟩ : ∃ cb, cameV b ts = cb := ⟨_, rfl⟩
        have H3 := Lib.hid (impl_Came_of hcb2)
        have hl : lv = !cb := by rw [← Hlv.out, hca, hcb2]; rfl
        subst hl
        clear hca hcb hcb2
        cases cb
        all_goals
          go_wp2_with fail
          refine (H1.out _).mono ?_
          rintro e we ⟨rfl, rfl⟩
          go_wp2_with fail
          refine (H2.out _).mono ?_
          rintro e we ⟨rfl, rfl⟩
          go_wp2_with fail
          refine (HC5.out _).mono ?_
          rintro e we ⟨rfl, rfl⟩
          go_wp2_with fail
        · refine (H1.out _).mono ?_
          rintro e we ⟨rfl, rfl⟩
          go_wp2_with fail
          refine (H3.out _).mono ?_
          rintro e we ⟨rfl, rfl⟩
          go_wp2_with fail
          go_ret
          exact ⟨rfl, Hb5.out⟩
        · go_ret
          exact ⟨rfl, Hb5.out⟩
    · go_wp2_with fail
      refine (HC14.out _).mono ?_
      rintro e we ⟨rfl, rfl⟩
      rcases Hca.out with hca | ⟨hca, hcb⟩
      · have H1 := Lib.hid (impl_Came_of hca)
        have hl : lv = false := by rw [← Hlv.out, hca]; rfl
        subst hl
        clear hca
        go_wp2_with fail
        refine (H1.out _).mono ?_
        rintro e we ⟨rfl, rfl⟩
        go_wp2_with fail
        refine (HC5.out _).mono ?_
        rintro e we ⟨rfl, rfl⟩
        go_wp2_with fail
        go_ret
        exact ⟨rfl, Hb5.out⟩
      · have H1 := Lib.hid (impl_Came_of hca)
        have H2 := Lib.hid (impl_Came_of hcb)
        obtain ⟨cb, hcb2⟩ : ∃ cb, cameV b ts = cb := ⟨_, rfl⟩
        have H3 := Lib.hid (impl_Came_of hcb2)
        have hl : lv = !cb := by rw [← Hlv.out, hca, hcb2]; rfl
        subst hl
        clear hca hcb hcb2
        cases cb
        all_goals
          go_wp2_with fail
          refine (H1.out _).mono ?_
          rintro e we ⟨rfl, rfl⟩
          go_wp2_with fail
          refine (H2.out _).mono ?_
          rintro e we ⟨rfl, rfl⟩
          go_wp2_with fail
          refine (HC5.out _).mono ?_
          rintro e we ⟨rfl, rfl⟩
          go_wp2_with fail
        · refine (H1.out _).mono ?_
          rintro e we ⟨rfl, rfl⟩
          go_wp2_with fail
          refine (H3.out _).mono ?_
          rintro e we ⟨rfl, rfl⟩
          go_wp2_with fail
          go_ret
          exact ⟨rfl, Hb5.out⟩
        · go_ret
          exact ⟨rfl, Hb5.out⟩
  · skip
    rcases Hmay.out with ⟨rfl, hc1, hc2⟩ | rfl
    · have H1 := Lib.hid (impl_Came_of hc1)
      have H2 := Lib.hid (impl_Came_of hc2)
      clear hc1 hc2
      go_wp2_with fail
      refine (HC14.out _).mono ?_
      rintro e we ⟨rfl, rfl⟩
      go_wp2_with fail
      refine (H1.out _).mono ?_
      rintro e we ⟨rfl, rfl⟩
      go_wp2_with fail
      refine (H2.out _).mono ?_
      rintro e we ⟨rfl, rfl⟩
      rcases Hca.out with hca | ⟨hca, hcb⟩
      · have H1 := Lib.hid (impl_Came_of hca)
        have hl : lv = false := by rw [← Hlv.out, hca]; rfl
        subst hl
        clear hca
        go_wp2_with fail
        refine (H1.out _).mono ?_
        rintro e we ⟨rfl, rfl⟩
        go_wp2_with fail
        refine (HC5.out _).mono ?_
        rintro e we ⟨rfl, rfl⟩
        go_wp2_with fail
        go_ret
        exact ⟨rfl, Hb5.out⟩
      · have H1 := Lib.hid (impl_Came_of hca)
        have H2 := Lib.hid (impl_Came_of hcb)
        obtain ⟨cb, hcb2⟩ : ∃ cb, cameV b ts = cb := ⟨_, rfl⟩
        have H3 := Lib.hid (impl_Came_of hcb2)
        have hl : lv = !cb := by rw [← Hlv.out, hca, hcb2]; rfl
        subst hl
        clear hca hcb hcb2
        cases cb
        all_goals
          go_wp2_with fail
          refine (H1.out _).mono ?_
          rintro e we ⟨rfl, rfl⟩
          go_wp2_with fail
          refine (H2.out _).mono ?_
          rintro e we ⟨rfl, rfl⟩
          go_wp2_with fail
          refine (HC5.out _).mono ?_
          rintro e we ⟨rfl, rfl⟩
          go_wp2_with fail
        · refine (H1.out _).mono ?_
          rintro e we ⟨rfl, rfl⟩
          go_wp2_with fail
          refine (H3.out _).mono ?_
          rintro e we ⟨rfl, rfl⟩
          go_wp2_with fail
          go_ret
          exact ⟨rfl, Hb5.out⟩
        · go_ret
          exact ⟨rfl, Hb5.out⟩
    · go_wp2_with fail
      refine (HC14.out _).mono ?_
      rintro e we ⟨rfl, rfl⟩
      rcases Hca.out with hca | ⟨hca, hcb⟩
      · have H1 := Lib.hid (impl_Came_of hca)
        have hl : lv = false := by rw [← Hlv.out, hca]; rfl
        subst hl
        clear hca
        go_wp2_with fail
        refine (H1.out _).mono ?_
        rintro e we ⟨rfl, rfl⟩
        go_wp2_with fail
        refine (HC5.out _).mono ?_
        rintro e we ⟨rfl, rfl⟩
        go_wp2_with fail
        go_ret
        exact ⟨rfl, Hb5.out⟩
      · have H1 := Lib.hid (impl_Came_of hca)
        have H2 := Lib.hid (impl_Came_of hcb)
        obtain ⟨cb, hcb2⟩ : ∃ cb, cameV b ts = cb := ⟨_, rfl⟩
        have H3 := Lib.hid (impl_Came_of hcb2)
        have hl : lv = !cb := by rw [← Hlv.out, hca, hcb2]; rfl
        subst hl
        clear hca hcb hcb2
        cases cb
        all_goals
          go_wp2_with fail
          refine (H1.out _).mono ?_
          rintro e we ⟨rfl, rfl⟩
          go_wp2_with fail
          refine (H2.out _).mono ?_
          rintro e we ⟨rfl, rfl⟩
          go_wp2_with fail
          refine (HC5.out _).mono ?_
          rintro e we ⟨rfl, rfl⟩
          go_wp2_with fail
        · refine (H1.out _).mono ?_
          rintro e we ⟨rfl, rfl⟩
          go_wp2_with fail
          refine (H3.out _).mono ?_
          rintro e we ⟨rfl, rfl⟩
          go_wp2_with fail
          go_ret
          exact ⟨rfl, Hb5.out⟩
        · go_ret
          exact ⟨rfl, Hb5.out⟩

end Go.Proofs.YtjdnjpfjamcilaaDoor
