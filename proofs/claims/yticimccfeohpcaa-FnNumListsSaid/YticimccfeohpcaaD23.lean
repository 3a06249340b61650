/- Draws: bytes for the laws on bent encodings. -/
import Derived.Test.YticimccfeohpcaaXA
import Derived.Test.YticimccfeohpcaaD16
import Derived.Test.YticimccfeohpcaaD20
import Derived.Test.YticimccfeohpcaaD21
import Derived.Test.YticimccfeohpcaaXN
import Derived.Test.YticimccfeohpcaaXF
import Derived.Test.YticimccfeohpcaaXV
namespace Go.Proofs.Yticimccfeohpcaa
open Go.Sort Go.ChangeShapes Go.WideShapes Go.ChangeAt Go.RowKit Go.Lb
theorem numsB_len5 (l : List Int) (h : l.length ≤ 5) : (([] : List UInt8) ++ numsB l).length ≤ 100 := by
  rw [List.nil_append]
  unfold numsB
  split
  · rw [List.length_append]
    have := numB_len l.length
    have := flat_len5 l
    omega
  · simp
set_option maxRecDepth 20000 in
set_option maxHeartbeats 4000000 in
theorem spec_DrawGetNums (code : List UInt8) (x : Value) (w : World) {lo hi : Nat} (hx : RdB w lo hi x code) (hhi : hi ≤ w.heap.size) (hn : code.length ≤ 1048576) :
    Calls Try.prog 30 #[x] w fun e w' => ∃ (bv : Value) (b : List UInt8) (i : Int), e = .returned (.tuple #[bv, .int .i64 i]) ∧ RdB w' w.heap.size w'.heap.size bv b ∧ b.length ≤ 1000 ∧ Below w.heap.size w w' := by
  go_enter Try.func30, Try.ntmps30
  go_wp2_with fail
  refine (spec_l1New code x w hx hhi hn).mono ?_
  rintro e w1 ⟨g, rfl, hg, hb, hd⟩
  have HB := Lib.hid hb
  clear hb hx
  have hb : Below w1.heap.size w1 (w1.alloc (.cells #[] 5)) := up_a1 w1 _
  have hd2 := hd.below hb
  replace HB := Lib.hid (below_go HB.out hb)
  have hgs : g < w1.heap.size := hd.lt
  have RE := Lib.hid ((rdB_empty (w1.alloc (.cells #[] 5)) w1.heap.size (g + 1) (w1.alloc (.cells #[] 5)).heap.size))
  clear hb hd
  have hd := hd2
  clear hd2
  go_wp2_with fail
  have HSZ := Lib.hid (show (w1.alloc (.cells #[] 5)).heap.size = w1.heap.size + 1 by simp)
  generalize w1.alloc (.cells #[] 5) = w2 at *
  have hlt := hd.lt
  have HC := Lib.hid (spec_l1Nums 5 w2 g hd (by decide))
  skip
  refine HC.out.mono ?_
  rintro e w3 ⟨_, rfl, ⟨l, hgl, hll, -⟩, hch, hd2⟩
  replace RE := Lib.hid (RE.out.dgo hch)
  replace HB := Lib.hid (chg_below HB.out hch hg (Nat.le_refl _))
  have ho := (show Own 3 1 w3 w2.heap.size w3.heap.size _ l.length (l.map (Value.int .i64)) from hgl).up hlt
  obtain ⟨A2, c2, rfl, -, -⟩ := ho.cells.form
  have RL := Lib.hid ho
  clear ho
  clear hch hd HC hlt
  have hd := hd2
  clear hd2
  obtain ⟨P, hP⟩ : ∃ P, ([] : List UInt8) ++ numsB l = P := ⟨_, rfl⟩
  have hPl : P.length ≤ 100 := by rw [← hP]; exact numsB_len5 l hll
  have HP := Lib.hid hP
  clear hP
  have hlt := hd.lt
  have HC := Lib.hid (by have h := spec_PutNums [] _ l _ w3 RE.out (Nat.le_refl _) RL.out.rdI (Nat.le_refl _) (by simp) (by omega); rw [HP.out] at h; exact h)
  go_wp2_with fail
  refine HC.out.mono ?_
  rintro e w4 ⟨_, rfl, ho, hb⟩
  replace RE := Lib.hid (RE.out.dgb hb)
  replace RL := Lib.hid (RL.out.dgb hb)
  replace HB := Lib.hid (below_go HB.out hb)
  have hd2 := hd.below hb
  replace ho := ho.up hlt
  obtain ⟨A4, c4, rfl, -, -⟩ := ho.cells.form
  have RP := Lib.hid ho
  clear ho
  clear hb hd HC hlt
  have hd := hd2
  clear hd2
  have hlt := hd.lt
  have HC := Lib.hid (spec_l1Once 6 w4 g hd (by decide))
  go_wp2_with fail
  refine HC.out.mono ?_
  rintro e w5 ⟨_, rfl, ⟨ok, rfl⟩, hch, hd2⟩
  replace RE := Lib.hid (RE.out.dgo hch)
  replace RL := Lib.hid (RL.out.dgo hch)
  replace RP := Lib.hid (RP.out.dgo hch)
  replace HB := Lib.hid (chg_below HB.out hch hg (Nat.le_refl _))
  clear hch hd HC hlt
  have hd := hd2
  clear hd2
  cases ok
  · have tok : True := trivial
    have hlt := hd.lt
    have HC := Lib.hid (spec_l1Bent P _ w5 g hd RP.out.rdBc (Nat.le_refl _) (by omega))
    go_wp2_with fail
    refine HC.out.mono ?_
    rintro e w6 ⟨_, rfl, ⟨l9, hgl, hl9⟩, hch, hd2⟩
    replace RE := Lib.hid (RE.out.dgo hch)
    replace RL := Lib.hid (RL.out.dgo hch)
    replace RP := Lib.hid (RP.out.dgo hch)
    replace HB := Lib.hid (chg_below HB.out hch hg (Nat.le_refl _))
    have ho := (show Own 5 1 w6 w5.heap.size w6.heap.size _ l9.length (bc l9) from hgl).up hlt
    obtain ⟨A7, c7, rfl, -, -⟩ := ho.cells.form
    have R9 := Lib.hid ho
    clear ho
    clear hch hd HC hlt
    have hd := hd2
    clear hd2
    have hxa := rdI_new w6 [0, 0, 0, 0, 1, -1, 99] 3 (by simp [maxLen])
    have hlt := hd.lt
    have hd5 := dr_new hd (([0, 0, 0, 0, 1, -1, 99] : List Int).map (Value.int .i64)).toArray 3
    have hc5 := chg_new g w6 (([0, 0, 0, 0, 1, -1, 99] : List Int).map (Value.int .i64)).toArray 3
    go_wp2_with fail
    refine (spec_l1Int [0, 0, 0, 0, 1, -1, 99] _ _ g hd5 (RdG.imp hxa hlt (Nat.le_refl _) fun _ _ _ _ _ h => h) (by first | (simp; done) | (simp only [World.size_alloc, HSZ.out]; omega)) (by simp) (by simp)).mono ?_
    rintro e w7 ⟨_, rfl, ⟨j, hj, rfl⟩, hch, hd2⟩
    replace hch := hc5.trans hch
    replace RE := Lib.hid (RE.out.dgo hch)
    replace RL := Lib.hid (RL.out.dgo hch)
    replace RP := Lib.hid (RP.out.dgo hch)
    replace R9 := Lib.hid (R9.out.dgo hch)
    replace HB := Lib.hid (chg_below HB.out hch hg (Nat.le_refl _))
    clear hch hc5 hd5 hxa hd hlt
    have hd := hd2
    clear hd2
    clear hj
    have hrd := R9.out.rdBc.more (show w.heap.size ≤ g + 1 by omega) (Nat.le_refl _)
    go_wp2_with fail
    refine bodyPost_ret (v := .tuple #[.slice A7 l9.length c7, .int .i64 j]) (by simp [results, Try.results30, go_sem]) rfl ⟨_, l9, _, rfl, hrd, by omega, HB.out⟩
  · have tok : True := trivial
    clear RE
    have hb : Below w5.heap.size w5 (w5.alloc (.cells #[] 5)) := up_a1 w5 _
    have hd2 := hd.below hb
    replace RL := Lib.hid (RL.out.dgb hb)
    replace RP := Lib.hid (RP.out.dgb hb)
    replace HB := Lib.hid (below_go HB.out hb)
    have hgs : g < w5.heap.size := hd.lt
    have RE := Lib.hid ((rdB_empty (w5.alloc (.cells #[] 5)) w5.heap.size (g + 1) (w5.alloc (.cells #[] 5)).heap.size))
    clear hb hd
    have hd := hd2
    clear hd2
    go_wp2_with fail
    have HSZ := Lib.hid (show (w5.alloc (.cells #[] 5)).heap.size = w5.heap.size + 1 by simp)
    generalize w5.alloc (.cells #[] 5) = w6 at *
    have hxa := rdI_new w6 [-1, 64, 65, 3] 3 (by simp [maxLen])
    have hlt := hd.lt
    have hd5 := dr_new hd (([-1, 64, 65, 3] : List Int).map (Value.int .i64)).toArray 3
    have hc5 := chg_new g w6 (([-1, 64, 65, 3] : List Int).map (Value.int .i64)).toArray 3
    have hs0 := HSZ.out
    rw [hs0] at hxa hlt
    clear hs0
    skip
    refine (spec_l1Int [-1, 64, 65, 3] _ _ g hd5 (RdG.imp hxa hlt (Nat.le_refl _) fun _ _ _ _ _ h => h) (by first | (simp; done) | (simp only [World.size_alloc, HSZ.out]; omega)) (by simp) (by simp)).mono ?_
    rintro e w7 ⟨_, rfl, ⟨z, hz, rfl⟩, hch, hd2⟩
    replace hch := hc5.trans hch
    replace RL := Lib.hid (RL.out.dgo hch)
    replace RP := Lib.hid (RP.out.dgo hch)
    replace RE := Lib.hid (RE.out.dgo hch)
    replace HB := Lib.hid (chg_below HB.out hch hg (Nat.le_refl _))
    clear hch hc5 hd5 hxa hd hlt
    have hd := hd2
    clear hd2
    clear hz
    obtain ⟨P2, hP2⟩ : ∃ P, ([] : List UInt8) ++ numB z = P := ⟨_, rfl⟩
    have hPl2 : P2.length ≤ 100 := by rw [← hP2]; have := numB_len z; simp; omega
    have HP2 := Lib.hid hP2
    clear hP2
    have hlt := hd.lt
    have HC := Lib.hid (by have h := spec_PutNum [] _ z w7 RE.out (Nat.le_refl _) (by simp); rw [HP2.out] at h; exact h)
    go_wp2_with fail
    refine HC.out.mono ?_
    rintro e w8 ⟨_, rfl, ho, hb⟩
    replace RL := Lib.hid (RL.out.dgb hb)
    replace RP := Lib.hid (RP.out.dgb hb)
    replace RE := Lib.hid (RE.out.dgb hb)
    replace HB := Lib.hid (below_go HB.out hb)
    have hd2 := hd.below hb
    replace ho := ho.up hlt
    obtain ⟨A9, c9, rfl, -, -⟩ := ho.cells.form
    have RP2 := Lib.hid ho
    clear ho
    clear hb hd HC hlt
    have hd := hd2
    clear hd2
    have hlt := hd.lt
    have HC := Lib.hid (spec_l1Bent P2 _ w8 g hd RP2.out.rdBc (Nat.le_refl _) (by omega))
    go_wp2_with fail
    refine HC.out.mono ?_
    rintro e w9 ⟨_, rfl, ⟨l9, hgl, hl9⟩, hch, hd2⟩
    replace RL := Lib.hid (RL.out.dgo hch)
    replace RP := Lib.hid (RP.out.dgo hch)
    replace RE := Lib.hid (RE.out.dgo hch)
    replace RP2 := Lib.hid (RP2.out.dgo hch)
    replace HB := Lib.hid (chg_below HB.out hch hg (Nat.le_refl _))
    have ho := (show Own 5 1 w9 w8.heap.size w9.heap.size _ l9.length (bc l9) from hgl).up hlt
    obtain ⟨A11, c11, rfl, -, -⟩ := ho.cells.form
    have R9 := Lib.hid ho
    clear ho
    clear hch hd HC hlt
    have hd := hd2
    clear hd2
    have hxa := rdI_new w9 [0, 0, 0, 0, 1, -1, 99] 3 (by simp [maxLen])
    have hlt := hd.lt
    have hd5 := dr_new hd (([0, 0, 0, 0, 1, -1, 99] : List Int).map (Value.int .i64)).toArray 3
    have hc5 := chg_new g w9 (([0, 0, 0, 0, 1, -1, 99] : List Int).map (Value.int .i64)).toArray 3
    go_wp2_with fail
    refine (spec_l1Int [0, 0, 0, 0, 1, -1, 99] _ _ g hd5 (RdG.imp hxa hlt (Nat.le_refl _) fun _ _ _ _ _ h => h) (by first | (simp; done) | (simp only [World.size_alloc, HSZ.out]; omega)) (by simp) (by simp)).mono ?_
    rintro e w10 ⟨_, rfl, ⟨j, hj, rfl⟩, hch, hd2⟩
    replace hch := hc5.trans hch
    replace RL := Lib.hid (RL.out.dgo hch)
    replace RP := Lib.hid (RP.out.dgo hch)
    replace RE := Lib.hid (RE.out.dgo hch)
    replace RP2 := Lib.hid (RP2.out.dgo hch)
    replace R9 := Lib.hid (R9.out.dgo hch)
    replace HB := Lib.hid (chg_below HB.out hch hg (Nat.le_refl _))
    clear hch hc5 hd5 hxa hd hlt
    have hd := hd2
    clear hd2
    clear hj
    have hrd := R9.out.rdBc.more (show w.heap.size ≤ g + 1 by omega) (Nat.le_refl _)
    go_wp2_with fail
    refine bodyPost_ret (v := .tuple #[.slice A11 l9.length c11, .int .i64 j]) (by simp [results, Try.results30, go_sem]) rfl ⟨_, l9, _, rfl, hrd, by omega, HB.out⟩
end Go.Proofs.Yticimccfeohpcaa
