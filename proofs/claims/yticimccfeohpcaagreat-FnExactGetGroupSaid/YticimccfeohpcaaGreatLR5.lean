/- The laws' markers of lists of rows (and slots): contracts. -/
import Derived.Test.YticimccfeohpcaaGreatXL
import Derived.Test.YticimccfeohpcaaGreatL5
namespace Go.Proofs.YticimccfeohpcaaGreat
open Go.Sort Go.ChangeShapes Go.WideShapes Go.ChangeAt Go.RowKit Go.Lb

def marksVs (k : Int) (n : Nat) : List V := (List.range n).map (mkV mkText k)
theorem marksVs_len (k : Int) (n : Nat) : (marksVs k n).length = n := by simp [marksVs]
theorem marksVs_cells (k : Int) (n : Nat) : (marksVs k n).flatMap V.cells = marksV k n := by
  unfold marksVs marksV
  rw [List.flatMap_map]
  rfl
def markRs (k : Int) : List R → List R
  | [] => []
  | r :: l => ⟨k, marksVs (k + 1) r.l.length⟩ :: markRs (k + 1 + 3 * (r.l.length : Nat)) l
def markR1 (k : Int) (y : R) : R := ⟨k, marksVs (k + 1) y.l.length⟩
theorem markRs_snoc : ∀ (a : List R) (y : R) (k : Int), markRs k (a ++ [y]) = markRs k a ++ [markR1 (k + cntR a) y]
  | [], y, k => by simp [markRs, markR1, cntR]
  | r :: l, y, k => by
    simp only [List.cons_append, markRs]
    rw [markRs_snoc l y]
    have : k + 1 + 3 * (r.l.length : Int) + (cntR l : Int) = k + (cntR (r :: l) : Int) := by simp [cntR]; omega
    rw [this]
theorem markRs_take {l : List R} {j : Nat} {y : R} (k : Int) (h : l[j]? = some y) : markRs k (l.take (j + 1)) = markRs k (l.take j) ++ [markR1 (k + cntR (l.take j)) y] := by rw [take_of_get h, markRs_snoc]
theorem markRs_len : ∀ (l : List R) (k : Int), (markRs k l).length = l.length
  | [], _ => rfl
  | r :: l, k => by simp [markRs, markRs_len l]
theorem markRs_get : ∀ (l : List R) (j : Nat) (y : R) (k : Int), l[j]? = some y → (markRs k l)[j]? = some (markR1 (k + cntR (l.take j)) y)
  | [], j, y, k, h => by simp at h
  | r :: l, 0, y, k, h => by simp at h; subst h; simp [markRs, markR1, cntR]
  | r :: l, j + 1, y, k, h => by
    simp only [List.getElem?_cons_succ, markRs, List.take_succ_cons] at h ⊢
    rw [markRs_get l j y _ h]
    have : k + 1 + 3 * (r.l.length : Int) + (cntR (l.take j) : Int) = k + (cntR (r :: l.take j) : Int) := by simp [cntR]; omega
    rw [this]

set_option maxHeartbeats 2000000 in
theorem markRowS_c (x : Value) (l : List R) (k : Int) (w : World) {lo hi : Nat} (hown : OwnR 70 83 w lo hi x l) (hk0 : 1 ≤ k) (hk : k + (cntR l : Nat) ≤ 10000000000000) :
    Calls Tryz.prog 19 #[x, .int .i64 k] w fun e w' => e = .returned (.int .i64 (k + (cntR l : Nat))) ∧ OwnR 70 83 w' lo hi x (markRs k l) ∧ Chg lo hi w w' := by
  obtain ⟨ps, rfl, hp⟩ := hown
  rcases hp.out.2 with ⟨rfl, e2⟩ | ⟨g, cap, cur, rfl, -, hg, hnc, hcm, -, -⟩
  · obtain rfl : ps = [] := List.eq_nil_of_length_eq_zero e2
    have Hp := Lib.hid hp
    clear hp
    go_enter Tryz.func19, Tryz.ntmps19
    go_wp2_with fail
    go_loop [5, 1] (fun i q => i = .int .i64 0 ∧ q = .int .i64 k) (fun _ _ => 0)
    case atStart => exact ⟨rfl, rfl⟩
    case round =>
      obtain ⟨rfl, rfl⟩ := hrel
      go_wp2_with fail
      go_ret
      exact ⟨by simp [cntR], ⟨[], rfl, Hp.out⟩, Chg.refl _ _ _⟩
  · unfold maxLen at hcm
    have hglo := hp.outIn g rfl
    have Hp := Lib.hid hp
    have hn : (ps.map Prod.fst).length = ps.length := by simp
    generalize hL : ps.map Prod.fst = l at *
    have HL := Lib.hid hL
    clear hp hg hL
    go_enter Tryz.func19, Tryz.ntmps19
    go_wp2_with fail
    go_loopw [5, 1] (fun i q wr => ∃ (ps1 ps2 : List (R × Value)), i = .int .i64 ps1.length ∧ ps1.length + ps2.length = ps.length ∧ q = .int .i64 (k + cntR (l.take ps1.length)) ∧ ps1.map Prod.fst = markRs k (l.take ps1.length) ∧ ps2.map Prod.fst = l.drop ps1.length ∧ OwnRp 70 83 wr lo hi (.slice (some ⟨g, 0, none⟩) ps.length cap) (ps1 ++ ps2) ∧ Chg lo hi w wr) (fun i _ _ => ps.length - (intOf i).toNat)
    case atStart => exact ⟨[], ps, by simp, by simp, by simp [cntR], by simp [markRs], by simpa using HL.out, Hp.out, Chg.refl _ _ _⟩
    case round =>
      obtain ⟨ps1, ps2, rfl, hlen, rfl, h1, h2, hp, hc⟩ := hrel
      have H1 := Lib.hid h1
      have H2 := Lib.hid h2
      clear h1 h2
      cases ps2 with
      | nil =>
        have hl1 : ps1.length = l.length := by simp at hlen; omega
        have Hp' := Lib.hid hp
        have hlen' : ps1.length = ps.length := by simpa using hlen
        clear hp hlen
        go_wp2_with fail
        go_ret
        refine ⟨?_, ⟨ps1, ?_, by simpa using Hp'.out⟩, hc⟩
        · rw [hl1, List.take_length]; rfl
        · rw [H1.out, hl1, List.take_length]
      | cons p ps2 =>
        obtain ⟨y, sv⟩ := p
        have hly : l[ps1.length]? = some y := by
          have h := H2.out
          have h3 : (l.drop ps1.length)[0]? = some y := by rw [← h]; simp
          simpa using h3
        have hd2 : ps2.map Prod.fst = l.drop (ps1.length + 1) := by
          have h := H2.out
          rw [drop_of_get hly] at h
          simp at h
          exact h
        have hct := cntR_take hly
        have Htk := Lib.hid (markRs_take k hly)
        have Hd2 := Lib.hid hd2
        have hlt : ps1.length < ps.length := by simp at hlen; omega
        have hlen' : ps1.length + 1 + ps2.length = ps.length := by simp at hlen; omega
        clear hly hd2 hlen
        have hat := hp.at
        obtain ⟨k0, k1, f0⟩ := hat
        have Hp' := Lib.hid hp
        clear hp
        go_wp2_with fail
        have hset := Hp'.out.setId (k := k + cntR (l.take ps1.length)) rfl rfl
        have hy := hset.1.inn ({ y with id := k + cntR (l.take ps1.length) }, sv) (by simp)
        obtain ⟨a, c, ha1, ha2⟩ := tightB sv.ownBlock
        refine (markVs_c sv y.l.length (y.l.flatMap V.cells) (k + cntR (l.take ps1.length) + 1) _ (Own.of_zero hy.1 ha1) (by omega) (by omega)).mono ?_
        rintro e w1 ⟨rfl, hown1, hc1⟩
        have hvals := hset.1.setVals (l' := marksVs (k + cntR (l.take ps1.length) + 1) y.l.length) (by rw [marksVs_len, marksVs_cells]; exact hown1.zero.1) (fun b hb hne => hc1.block b hb (by
          rcases Nat.lt_or_ge b a with h | h
          · exact .inl h
          · rcases Nat.lt_or_ge b c with h' | h'
            · exact absurd (ha2 b h h') hne
            · exact .inr h'))
        have hvals := Lib.hid hvals
        have hc2 : Chg lo hi wr w1 := (Chg.of_grown hset.2 fun g' e => by injection e with e; omega).trans ⟨hc1.os, hc1.tape, hc1.output, hc1.size, fun b hb ho => hc1.block b hb (by
          rcases Nat.lt_or_ge b a with h | h
          · exact .inl h
          · rcases Nat.lt_or_ge b c with h' | h'
            · have := hy.2.1 b (ha2 b h h'); omega
            · exact .inr h')⟩
        have hc3 := hc.trans hc2
        clear hset hy hc1 hc2 hown1 k0 k1 f0 Hp' hc
        go_wp2_with fail
        go_roundw
        case rel =>
          refine ⟨ps1 ++ [(markR1 (k + cntR (l.take ps1.length)) y, sv)], ps2, by simp, by simp; omega, ?_, ?_, ?_, ?_, hc3⟩
          · rw [show (ps1 ++ [(markR1 (k + cntR (l.take ps1.length)) y, sv)]).length = ps1.length + 1 by simp, hct.1]
            exact congrArg (Value.int .i64) (by omega)
          · rw [show (ps1 ++ [(markR1 (k + cntR (l.take ps1.length)) y, sv)]).length = ps1.length + 1 by simp, List.map_append, H1.out, Htk.out]
            rfl
          · rw [show (ps1 ++ [(markR1 (k + cntR (l.take ps1.length)) y, sv)]).length = ps1.length + 1 by simp]
            exact Hd2.out
          · rw [List.append_assoc]
            exact hvals.out
        case measure => simp [intOf]; omega
set_option maxHeartbeats 2000000 in
theorem heldRowS_c (x : Value) (l : List R) (k : Int) (w : World) {lo hi e1 e2 : Nat} (hown : OwnR e1 e2 w lo hi x (markRs k l)) (hhi : hi ≤ w.heap.size) (hk0 : 1 ≤ k) (hk : k + (cntR l : Nat) ≤ 10000000000000) :
    Calls Tryz.prog 29 #[x, .int .i64 k] w fun e w' => e = .returned (.int .i64 (k + (cntR l : Nat))) ∧ Below w.heap.size w w' := by
  obtain ⟨ps, hps, hp⟩ := hown
  have hpl : ps.length = l.length := by rw [← markRs_len l k, ← hps, List.length_map]
  obtain ⟨A, c, rfl, hnc, hcm, hc⟩ := hp.own.cells
  unfold maxLen at hcm
  rw [hpl] at hnc hc
  have Hc := Lib.hid hc
  have Hp := Lib.hid hp
  have Hps := Lib.hid hps
  rw [hpl]
  clear hc hp hps
  go_enter Tryz.func29, Tryz.ntmps29
  go_wp2_with fail
  go_loopw [5, 1] (fun i q wr => ∃ (j : Nat), i = .int .i64 j ∧ j ≤ l.length ∧ q = .int .i64 (k + cntR (l.take j)) ∧ Below w.heap.size w wr) (fun i _ _ => l.length - (intOf i).toNat)
  case atStart => exact ⟨0, by simp, by omega, by simp [cntR], Below.refl _ _⟩
  case round =>
    obtain ⟨j, rfl, hj, rfl, hb⟩ := hrel
    by_cases hjn : j < l.length
    · obtain ⟨y, hly⟩ : ∃ y, l[j]? = some y := ⟨_, List.getElem?_eq_getElem hjn⟩
      obtain ⟨p, hpj⟩ : ∃ p, ps[j]? = some p := ⟨_, List.getElem?_eq_getElem (by omega)⟩
      have hp1 : p.1 = markR1 (k + cntR (l.take j)) y := by
        have h := markRs_get l j y k hly
        rw [← Hps.out, List.getElem?_map, hpj] at h
        simpa using h
      obtain ⟨z, sv⟩ := p
      subst hp1
      obtain ⟨b, off, rfl, -, hbl, he⟩ := Hc.out j hjn
      have hg : ∀ i, i < 2 → wr.cell? ⟨b, off + j * 2 + i, none⟩ = (rcell (markR1 (k + cntR (l.take j)) y, sv))[i]? := fun i hi =>
        (hb.cell (p := ⟨b, _, none⟩) (Nat.lt_of_lt_of_le hbl hhi)).trans ((he i hi).trans (flat_get rcell 2 rcell_len ps j i _ hpj hi))
      have e0 : wr.cell? ⟨b, off + j * 2, none⟩ = some (.int .i64 (k + cntR (l.take j))) := hg 0 (by omega)
      have e1 : wr.cell? ⟨b, off + j * 2 + 1, none⟩ = some sv := hg 1 (by omega)
      have hin := Hp.out.inn _ (mem_of_get hpj)
      have hO : Own e2 3 wr lo hi sv y.l.length (marksV (k + cntR (l.take j) + 1) y.l.length) := by
        have h := (Own.of_zero hin.1 hin.2.1).below hb hhi
        simp only [markR1, marksVs_len, marksVs_cells] at h
        exact h
      have hct := cntR_take hly
      have hbs := hb.size
      clear he hg hin hly hpj
      go_wp2_with fail
      refine (heldVs_c sv y.l.length (k + cntR (l.take j) + 1) _ hO (by omega) (by omega) (by omega)).mono ?_
      rintro e w1 ⟨rfl, hb1⟩
      have hb2 := hb.trans (hb1.mono hb.size)
      clear e0 e1 hO
      go_wp2_with fail
      go_roundw
      case rel => exact ⟨j + 1, by go_num, by omega, congrArg (Value.int .i64) (by rw [hct.1]; omega), hb2⟩
      case measure => simp [intOf]; omega
    · obtain rfl : j = l.length := by omega
      go_wp2_with fail
      go_ret
      exact ⟨by rw [List.take_length]; rfl, hb⟩

end Go.Proofs.YticimccfeohpcaaGreat
