/- Draws: columns, and ways to write them. -/
import Derived.Test.YticimccfeohpcaaXA
import Derived.Test.YticimccfeohpcaaXD
import Derived.Test.YticimccfeohpcaaD20
import Derived.Test.YticimccfeohpcaaD21
import Derived.Test.YticimccfeohpcaaEJ
namespace Go.Proofs.Yticimccfeohpcaa
open Go.Sort Go.ChangeShapes Go.WideShapes Go.ChangeAt Go.RowKit Go.Lb
set_option maxRecDepth 20000 in
set_option maxHeartbeats 4000000 in
theorem spec_DrawDecDict (code : List UInt8) (x : Value) (w : World) {lo hi : Nat} (hx : RdB w lo hi x code) (hhi : hi ≤ w.heap.size) (hn : code.length ≤ 1048576) :
    Calls Try.prog 67 #[x] w fun e w' => ∃ (bv : Value) (b : List UInt8) (i j : Int), e = .returned (.tuple #[bv, .int .i64 i, .int .i64 j]) ∧ RdB w' w.heap.size w'.heap.size bv b ∧ b.length ≤ 2000 ∧ Below w.heap.size w w' := by
  go_enter Try.func67, Try.ntmps67
  go_wp2_with fail
  refine (spec_l1New code x w hx hhi hn).mono ?_
  rintro e w1 ⟨g, rfl, hg, hb, hd⟩
  have HB := Lib.hid hb
  clear hb hx
  have hlt := hd.lt
  have HC := Lib.hid (spec_l5Draw w1 g hd)
  go_wp2_with fail
  refine HC.out.mono ?_
  rintro e w2 ⟨_, rfl, ⟨l, ⟨hgl, hsm⟩, hl0, hll⟩, hch, hd2⟩
  replace HB := Lib.hid (chg_below HB.out hch hg (Nat.le_refl _))
  have ho := (show Own 66 3 w2 w1.heap.size w2.heap.size _ l.length (l.flatMap V.cells) from hgl).up hlt
  obtain ⟨A2, c2, rfl, -, -⟩ := ho.cells.form
  have RL := Lib.hid ho
  have HS := Lib.hid (small_max hsm)
  clear hch hd HC hlt ho hsm hgl
  have hd := hd2
  clear hd2
  obtain ⟨P, hP⟩ : ∃ P, encDict l = P := ⟨_, rfl⟩
  have hPl := encDict_len l
  rw [hP] at hPl
  have HP := Lib.hid hP
  clear hP
  have hlt := hd.lt
  have HC := Lib.hid (spec_l5Type l _ w2 g hd RL.out.rdV (Nat.lt_succ_self g) (Nat.le_refl _) hl0 (by omega))
  go_wp2_with fail
  refine HC.out.mono ?_
  rintro e w3 ⟨_, rfl, ⟨ty, k, rfl⟩, hch, hd2⟩
  replace RL := Lib.hid (RL.out.dgo hch)
  replace HB := Lib.hid (chg_below HB.out hch hg (Nat.le_refl _))
  clear hch hd HC hlt
  have hd := hd2
  clear hd2
  have hlt := hd.lt
  have HC := Lib.hid (by have h := spec_EncDict l _ w3 RL.out.rdV (Nat.le_refl _) HS.out; rw [HP.out] at h; exact h)
  go_wp2_with fail
  refine HC.out.mono ?_
  rintro e w4 ⟨_, rfl, ho, hb⟩
  replace RL := Lib.hid (RL.out.dgb hb)
  replace HB := Lib.hid (below_go HB.out hb)
  have hd2 := hd.below hb
  replace ho := ho.up hlt
  obtain ⟨A5, c5, rfl, -, -⟩ := ho.cells.form
  have RP := Lib.hid ho
  clear ho hb hd HC hlt
  have hd := hd2
  clear hd2
  have hlt := hd.lt
  have HC := Lib.hid (spec_l1Bent P _ w4 g hd RP.out.rdBc (Nat.le_refl _) (by omega))
  go_wp2_with fail
  refine HC.out.mono ?_
  rintro e wz ⟨_, rfl, ⟨l9, hgl, hl9⟩, hch, hd2⟩
  replace HB := Lib.hid (chg_below HB.out hch hg (Nat.le_refl _))
  have ho := (show Own 5 1 wz w4.heap.size wz.heap.size _ l9.length (bc l9) from hgl).up hlt
  obtain ⟨A9, c9, rfl, -, -⟩ := ho.cells.form
  have hrd := ho.rdBc.more (show w.heap.size ≤ g + 1 by omega) (Nat.le_refl _)
  clear hch hd HC ho hgl RP
  go_wp2_with fail
  refine bodyPost_ret (v := .tuple #[.slice A9 l9.length c9, .int .i64 ty, .int .i64 k]) (by simp [results, Try.results67, go_sem]) rfl ⟨_, l9, _, _, rfl, hrd, by omega, HB.out⟩
end Go.Proofs.Yticimccfeohpcaa
