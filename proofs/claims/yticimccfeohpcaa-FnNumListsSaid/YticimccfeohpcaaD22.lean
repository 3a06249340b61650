/- Draws: bytes for the laws on bent encodings. -/
import Derived.Test.YticimccfeohpcaaXA
import Derived.Test.YticimccfeohpcaaD16
import Derived.Test.YticimccfeohpcaaD20
import Derived.Test.YticimccfeohpcaaD21
import Derived.Test.YticimccfeohpcaaXN
import Derived.Test.YticimccfeohpcaaXF
import Derived.Test.YticimccfeohpcaaXV
namespace Go.Proofs.Yticimccfeohpcaa
open Go.Sort Go.ChangeShapes Go.WideShapes Go.ChangeAt Go.RowKit Go.Lb
theorem packB_len9 (l : List Int) (v : Nat) (hv : v ≤ 31) (hl : l.length ≤ 7) : (packB l v).length ≤ 400 := by
  unfold packB
  split
  · rw [packM_len, Int.toNat_natCast]
    have := Nat.mul_le_mul hl hv
    omega
  · simp
set_option maxRecDepth 20000 in
set_option maxHeartbeats 4000000 in
theorem spec_DrawUnpackBits (code : List UInt8) (x : Value) (w : World) {lo hi : Nat} (hx : RdB w lo hi x code) (hhi : hi ≤ w.heap.size) (hn : code.length ≤ 1048576) :
    Calls Try.prog 13 #[x] w fun e w' => ∃ (bv : Value) (b : List UInt8) (v k : Int), e = .returned (.tuple #[bv, .int .i64 v, .int .i64 k]) ∧ RdB w' w.heap.size w'.heap.size bv b ∧ b.length ≤ 1000 ∧ Below w.heap.size w w' := by
  go_enter Try.func13, Try.ntmps13
  go_wp2_with fail
  refine (spec_l1New code x w hx hhi hn).mono ?_
  rintro e w1 ⟨g, rfl, hg, hb, hd⟩
  have HB := Lib.hid hb
  clear hb hx
  have hlt := hd.lt
  have HC := Lib.hid (spec_l2Nums w1 g hd)
  go_wp2_with fail
  refine HC.out.mono ?_
  rintro e w2 ⟨_, rfl, ⟨l, hgl, hll, -⟩, hch, hd2⟩
  replace HB := Lib.hid (chg_below HB.out hch hg (Nat.le_refl _))
  have ho := (show Own 3 1 w2 w1.heap.size w2.heap.size _ l.length (l.map (Value.int .i64)) from hgl).up hlt
  obtain ⟨A2, c2, rfl, -, -⟩ := ho.cells.form
  have RL := Lib.hid ho
  clear ho
  clear hch hd HC hlt
  have hd := hd2
  clear hd2
  obtain ⟨wd, hwd⟩ : ∃ wd, widthFor l = wd := ⟨_, rfl⟩
  have hw31 := widthFor_le l
  rw [hwd] at hw31
  have Hwd := Lib.hid hwd
  obtain ⟨P, hP⟩ : ∃ P, packB l (wd : Int) = P := ⟨_, rfl⟩
  have hPl : P.length ≤ 400 := by rw [← hP]; exact packB_len9 l wd hw31 hll
  have HP := Lib.hid hP
  clear hwd hP
  have HC := Lib.hid (by have h := q_spec_WidthFor l _ w2 RL.out.rdI; rw [Hwd.out] at h; exact h)
  go_wp2_with fail
  refine HC.out.mono ?_
  rintro e we ⟨rfl, rfl⟩
  clear HC
  have hlt := hd.lt
  have HC := Lib.hid (by have h := spec_PackBits l _ (wd : Int) w2 RL.out.rdI (Nat.le_refl _) (by omega); rw [HP.out] at h; exact h)
  go_wp2_with fail
  refine HC.out.mono ?_
  rintro e w3 ⟨_, rfl, ho, hb⟩
  replace RL := Lib.hid (RL.out.dgb hb)
  replace HB := Lib.hid (below_go HB.out hb)
  have hd2 := hd.below hb
  replace ho := ho.up hlt
  obtain ⟨A4, c4, rfl, -, -⟩ := ho.cells.form
  have RP := Lib.hid ho
  clear ho
  clear hb hd HC hlt
  have hd := hd2
  clear hd2
  have hlt := hd.lt
  have HC := Lib.hid (spec_l1Below 8 w3 g hd (by decide))
  go_wp2_with fail
  refine HC.out.mono ?_
  rintro e w4 ⟨_, rfl, ⟨k, rfl, -, -⟩, hch, hd2⟩
  replace RL := Lib.hid (RL.out.dgo hch)
  replace RP := Lib.hid (RP.out.dgo hch)
  replace HB := Lib.hid (chg_below HB.out hch hg (Nat.le_refl _))
  clear hch hd HC hlt
  have hd := hd2
  clear hd2
  by_cases h0 : k = 0
  · subst h0
    have hxa := rdI_new w4 [-1, 0, (l.length : Int) + 1, 65] 3 (by simp [maxLen])
    have hlt := hd.lt
    have hd5 := dr_new hd (([-1, 0, (l.length : Int) + 1, 65] : List Int).map (Value.int .i64)).toArray 3
    have hc5 := chg_new g w4 (([-1, 0, (l.length : Int) + 1, 65] : List Int).map (Value.int .i64)).toArray 3
    go_wp2_with fail
    refine (spec_l1Int [-1, 0, (l.length : Int) + 1, 65] _ _ g hd5 (RdG.imp hxa hlt (Nat.le_refl _) fun _ _ _ _ _ h => h) (by first | (simp; done) | (simp only [World.size_alloc, HSZ.out]; omega)) (by simp) (by simp)).mono ?_
    rintro e w5 ⟨_, rfl, ⟨j, hj, rfl⟩, hch, hd2⟩
    replace hch := hc5.trans hch
    replace RL := Lib.hid (RL.out.dgo hch)
    replace RP := Lib.hid (RP.out.dgo hch)
    replace HB := Lib.hid (chg_below HB.out hch hg (Nat.le_refl _))
    clear hch hc5 hd5 hxa hd hlt
    have hd := hd2
    clear hd2
    clear hj
    have hlt := hd.lt
    have HC := Lib.hid (spec_l1Bent P _ w5 g hd RP.out.rdBc (Nat.le_refl _) (by omega))
    go_wp2_with fail
    refine HC.out.mono ?_
    rintro e w6 ⟨_, rfl, ⟨l9, hgl, hl9⟩, hch, hd2⟩
    replace RL := Lib.hid (RL.out.dgo hch)
    replace RP := Lib.hid (RP.out.dgo hch)
    replace HB := Lib.hid (chg_below HB.out hch hg (Nat.le_refl _))
    have ho := (show Own 5 1 w6 w5.heap.size w6.heap.size _ l9.length (bc l9) from hgl).up hlt
    obtain ⟨A7, c7, rfl, -, -⟩ := ho.cells.form
    have R9 := Lib.hid ho
    clear ho
    clear hch hd HC hlt
    have hd := hd2
    clear hd2
    have hrd := R9.out.rdBc.more (show w.heap.size ≤ g + 1 by omega) (Nat.le_refl _)
    go_wp2_with fail
    refine bodyPost_ret (v := .tuple #[.slice A7 l9.length c7, .int .i64 (wd : Int), .int .i64 j]) (by simp [results, Try.results13, go_sem]) rfl ⟨_, l9, _, _, rfl, hrd, by omega, HB.out⟩
  have b0 : ((k : Int) == 0) = false := by simp; omega
  clear h0
  by_cases h1 : k = 1
  · subst h1
    have hxa := rdI_new w4 [-1, 0, (wd : Int) + 1, 32] 3 (by simp [maxLen])
    have hlt := hd.lt
    have hd5 := dr_new hd (([-1, 0, (wd : Int) + 1, 32] : List Int).map (Value.int .i64)).toArray 3
    have hc5 := chg_new g w4 (([-1, 0, (wd : Int) + 1, 32] : List Int).map (Value.int .i64)).toArray 3
    go_wp2_with fail
    refine (spec_l1Int [-1, 0, (wd : Int) + 1, 32] _ _ g hd5 (RdG.imp hxa hlt (Nat.le_refl _) fun _ _ _ _ _ h => h) (by first | (simp; done) | (simp only [World.size_alloc, HSZ.out]; omega)) (by simp) (by simp)).mono ?_
    rintro e w5 ⟨_, rfl, ⟨j, hj, rfl⟩, hch, hd2⟩
    replace hch := hc5.trans hch
    replace RL := Lib.hid (RL.out.dgo hch)
    replace RP := Lib.hid (RP.out.dgo hch)
    replace HB := Lib.hid (chg_below HB.out hch hg (Nat.le_refl _))
    clear hch hc5 hd5 hxa hd hlt
    have hd := hd2
    clear hd2
    clear hj
    have hlt := hd.lt
    have HC := Lib.hid (spec_l1Bent P _ w5 g hd RP.out.rdBc (Nat.le_refl _) (by omega))
    go_wp2_with fail
    refine HC.out.mono ?_
    rintro e w6 ⟨_, rfl, ⟨l9, hgl, hl9⟩, hch, hd2⟩
    replace RL := Lib.hid (RL.out.dgo hch)
    replace RP := Lib.hid (RP.out.dgo hch)
    replace HB := Lib.hid (chg_below HB.out hch hg (Nat.le_refl _))
    have ho := (show Own 5 1 w6 w5.heap.size w6.heap.size _ l9.length (bc l9) from hgl).up hlt
    obtain ⟨A9, c9, rfl, -, -⟩ := ho.cells.form
    have R9 := Lib.hid ho
    clear ho
    clear hch hd HC hlt
    have hd := hd2
    clear hd2
    have hrd := R9.out.rdBc.more (show w.heap.size ≤ g + 1 by omega) (Nat.le_refl _)
    go_wp2_with fail
    refine bodyPost_ret (v := .tuple #[.slice A9 l9.length c9, .int .i64 j, .int .i64 (l.length : Int)]) (by simp [results, Try.results13, go_sem]) rfl ⟨_, l9, _, _, rfl, hrd, by omega, HB.out⟩
  have b1 : ((k : Int) == 1) = false := by simp; omega
  clear h1
  have hlt := hd.lt
  have HC := Lib.hid (spec_l1Bent P _ w4 g hd RP.out.rdBc (Nat.le_refl _) (by omega))
  go_wp2_with fail
  refine HC.out.mono ?_
  rintro e w5 ⟨_, rfl, ⟨l9, hgl, hl9⟩, hch, hd2⟩
  replace RL := Lib.hid (RL.out.dgo hch)
  replace RP := Lib.hid (RP.out.dgo hch)
  replace HB := Lib.hid (chg_below HB.out hch hg (Nat.le_refl _))
  have ho := (show Own 5 1 w5 w4.heap.size w5.heap.size _ l9.length (bc l9) from hgl).up hlt
  obtain ⟨A11, c11, rfl, -, -⟩ := ho.cells.form
  have R9 := Lib.hid ho
  clear ho
  clear hch hd HC hlt
  have hd := hd2
  clear hd2
  have hrd := R9.out.rdBc.more (show w.heap.size ≤ g + 1 by omega) (Nat.le_refl _)
  go_wp2_with fail
  refine bodyPost_ret (v := .tuple #[.slice A11 l9.length c11, .int .i64 (wd : Int), .int .i64 (l.length : Int)]) (by simp [results, Try.results13, go_sem]) rfl ⟨_, l9, _, _, rfl, hrd, by omega, HB.out⟩
set_option maxRecDepth 20000 in
set_option maxHeartbeats 4000000 in
theorem spec_DrawPutNums (code : List UInt8) (x : Value) (w : World) {lo hi : Nat} (hx : RdB w lo hi x code) (hhi : hi ≤ w.heap.size) (hn : code.length ≤ 1048576) :
    Calls Try.prog 28 #[x] w fun e w' => ∃ (bv lv : Value) (b : List UInt8) (l : List Int), e = .returned (.tuple #[bv, lv]) ∧ RdB w' w.heap.size w'.heap.size bv b ∧ b.length ≤ 10 ∧ RdI w' w.heap.size w'.heap.size lv l ∧ l.length ≤ 10 ∧ Below w.heap.size w w' := by
  go_enter Try.func28, Try.ntmps28
  go_wp2_with fail
  refine (spec_l1New code x w hx hhi hn).mono ?_
  rintro e w1 ⟨g, rfl, hg, hb, hd⟩
  have HB := Lib.hid hb
  clear hb hx
  have hlt := hd.lt
  have HC := Lib.hid (spec_l1Nums 5 w1 g hd (by decide))
  go_wp2_with fail
  refine HC.out.mono ?_
  rintro e w2 ⟨_, rfl, ⟨l, hgl, hll, -⟩, hch, hd2⟩
  replace HB := Lib.hid (chg_below HB.out hch hg (Nat.le_refl _))
  have ho := (show Own 3 1 w2 w1.heap.size w2.heap.size _ l.length (l.map (Value.int .i64)) from hgl).up hlt
  obtain ⟨A2, c2, rfl, -, -⟩ := ho.cells.form
  have RL := Lib.hid ho
  clear ho
  clear hch hd HC hlt
  have hd := hd2
  clear hd2
  have hlt := hd.lt
  have HC := Lib.hid (spec_l1Once 5 w2 g hd (by decide))
  go_wp2_with fail
  refine HC.out.mono ?_
  rintro e w3 ⟨_, rfl, ⟨ok, rfl⟩, hch, hd2⟩
  replace RL := Lib.hid (RL.out.dgo hch)
  replace HB := Lib.hid (chg_below HB.out hch hg (Nat.le_refl _))
  clear hch hd HC hlt
  have hd := hd2
  clear hd2
  cases ok
  · have tok : True := trivial
    have hlt := hd.lt
    have HC := Lib.hid (spec_l1Below 3 w3 g hd (by decide))
    go_wp2_with fail
    refine HC.out.mono ?_
    rintro e w4 ⟨_, rfl, ⟨k, rfl, hk1, -⟩, hch, hd2⟩
    replace RL := Lib.hid (RL.out.dgo hch)
    replace HB := Lib.hid (chg_below HB.out hch hg (Nat.le_refl _))
    have hk : k < 3 := by have := hk1 (by decide); omega
    clear hk1
    clear hch hd HC hlt
    have hd := hd2
    clear hd2
    have hlt := hd.lt
    have HC := Lib.hid (spec_l1Bytes k w4 g hd (by omega))
    go_wp2_with fail
    refine HC.out.mono ?_
    rintro e w5 ⟨_, rfl, ⟨b, hgb, hbl⟩, hch, hd2⟩
    replace RL := Lib.hid (RL.out.dgo hch)
    replace HB := Lib.hid (chg_below HB.out hch hg (Nat.le_refl _))
    have ho := (show Own 5 1 w5 w4.heap.size w5.heap.size _ b.length (bc b) from hgb).up hlt
    obtain ⟨A6, c6, rfl, -, -⟩ := ho.cells.form
    have RB := Lib.hid ho
    clear ho
    subst hbl
    clear hch hd HC hlt
    have hd := hd2
    clear hd2
    have hrb := RB.out.rdBc.more (show w.heap.size ≤ g + 1 by omega) (Nat.le_refl _)
    have hrl := RL.out.rdI.more (show w.heap.size ≤ g + 1 by omega) (Nat.le_refl _)
    go_wp2_with fail
    refine bodyPost_ret (v := .tuple #[.slice A6 b.length c6, .slice A2 l.length c2]) (by simp [results, Try.results28, go_sem]) rfl ⟨_, _, b, l, rfl, hrb, by omega, hrl, by first | omega | (simp; omega), HB.out⟩
  · have tok : True := trivial
    have hlt := hd.lt
    have HC := Lib.hid (spec_l1Raw w3 g hd)
    go_wp2_with fail
    refine HC.out.mono ?_
    rintro e w4 ⟨_, rfl, ⟨y, rfl⟩, hch, hd2⟩
    replace RL := Lib.hid (RL.out.dgo hch)
    replace HB := Lib.hid (chg_below HB.out hch hg (Nat.le_refl _))
    clear hch hd HC hlt
    have hd := hd2
    clear hd2
    obtain ⟨i0, hif, hz0, hz1, hz2⟩ := info_parts info_i64
    replace hif := Lib.hid hif
    replace hz0 := Lib.hid hz0
    replace hz1 := Lib.hid hz1
    replace hz2 := Lib.hid hz2
    have hown := RL.out.1
    have hlt := hd.lt
    have hd5 := dr_new hd #[.int .i64 y, .int .i64 1] 3
    have hc5 := chg_new g w4 #[.int .i64 y, .int .i64 1] 3
    go_wp2_with (at_builtin; refine wpl_spread rfl _ _ 26 rfl (g + 1) 3 i0 _ 1 8 Try.underlying26 hif.out hz0.out hz1.out hz2.out rfl (by decide) (by decide) (hown.alloc _) rfl rfl (news := [.int .i64 y, .int .i64 1]) rfl (fun h => by cases h) (fun ad had j u hj => by cases had; exact World.news_of_block (heap_alloc_new _ _) j u hj) (by simp [Value.oneCell']) (by omega) (by simp; omega) ?_)
    intro v' w9 hown' hgrow _
    have hr0 : ∀ b, (Value.slice A2 l.length c2).ownBlock = some b → g + 1 ≤ b := fun b hb => (hown.lt b hb).1
    have hBN := Below.grown (chg_below HB.out hc5 hg (Nat.le_refl _)) hgrow (fun b hb => by have := hr0 b hb; omega) (Nat.le_refl _)
    have hdN := hd5.grown hgrow fun b hb => hr0 b hb
    have HO := Lib.hid (show Own 3 1 w9 (g + 1) w9.heap.size v' (l ++ [y, 1]).length ((l ++ [y, 1]).map (Value.int .i64)) by
      rw [List.length_append, List.map_append]
      exact .new hown')
    replace HB := Lib.hid hBN
    replace hd := hdN
    clear hown hown' hgrow hd5 hc5 hr0 hBN hdN hlt RL
    obtain ⟨A2, c2, rfl, -, -⟩ := HO.out.cells.form
    have RL := HO
    clear HO
    have hlt := hd.lt
    have HC := Lib.hid (spec_l1Below 3 w9 g hd (by decide))
    go_wp2_with fail
    refine HC.out.mono ?_
    rintro e w10 ⟨_, rfl, ⟨k, rfl, hk1, -⟩, hch, hd2⟩
    replace RL := Lib.hid (RL.out.dgo hch)
    replace HB := Lib.hid (chg_below HB.out hch hg (Nat.le_refl _))
    have hk : k < 3 := by have := hk1 (by decide); omega
    clear hk1
    clear hch hd HC hlt
    have hd := hd2
    clear hd2
    have hlt := hd.lt
    have HC := Lib.hid (spec_l1Bytes k w10 g hd (by omega))
    go_wp2_with fail
    refine HC.out.mono ?_
    rintro e w11 ⟨_, rfl, ⟨b, hgb, hbl⟩, hch, hd2⟩
    replace RL := Lib.hid (RL.out.dgo hch)
    replace HB := Lib.hid (chg_below HB.out hch hg (Nat.le_refl _))
    have ho := (show Own 5 1 w11 w10.heap.size w11.heap.size _ b.length (bc b) from hgb).up hlt
    obtain ⟨A10, c10, rfl, -, -⟩ := ho.cells.form
    have RB := Lib.hid ho
    clear ho
    subst hbl
    clear hch hd HC hlt
    have hd := hd2
    clear hd2
    have hrb := RB.out.rdBc.more (show w.heap.size ≤ g + 1 by omega) (Nat.le_refl _)
    have hrl := RL.out.rdI.more (show w.heap.size ≤ g + 1 by omega) (Nat.le_refl _)
    go_wp2_with fail
    refine bodyPost_ret (v := .tuple #[.slice A10 b.length c10, .slice A2 (l ++ [y, 1]).length c2]) (by simp [results, Try.results28, go_sem]) rfl ⟨_, _, b, (l ++ [y, 1]), rfl, hrb, by omega, hrl, by first | omega | (simp; omega), HB.out⟩
end Go.Proofs.Yticimccfeohpcaa
