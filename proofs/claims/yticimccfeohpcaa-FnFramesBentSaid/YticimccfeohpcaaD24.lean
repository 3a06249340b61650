/- Draws: bytes for the laws on bent encodings. -/
import Derived.Test.YticimccfeohpcaaXA
import Derived.Test.YticimccfeohpcaaD16
import Derived.Test.YticimccfeohpcaaD20
import Derived.Test.YticimccfeohpcaaD21
import Derived.Test.YticimccfeohpcaaXN
import Derived.Test.YticimccfeohpcaaXF
import Derived.Test.YticimccfeohpcaaXV
namespace Go.Proofs.Yticimccfeohpcaa
open Go.Sort Go.ChangeShapes Go.WideShapes Go.ChangeAt Go.RowKit Go.Lb
set_option maxRecDepth 20000 in
set_option maxHeartbeats 4000000 in
theorem spec_DrawDecFrame (code : List UInt8) (x : Value) (w : World) {lo hi : Nat} (hx : RdB w lo hi x code) (hhi : hi ≤ w.heap.size) (hn : code.length ≤ 1048576) :
    Calls Try.prog 48 #[x] w fun e w' => ∃ (bv : Value) (b : List UInt8) (i : Int), e = .returned (.tuple #[bv, .int .i64 i]) ∧ RdB w' w.heap.size w'.heap.size bv b ∧ b.length ≤ 2000 ∧ Below w.heap.size w w' := by
  go_enter Try.func48, Try.ntmps48
  go_wp2_with fail
  refine (spec_l1New code x w hx hhi hn).mono ?_
  rintro e w1 ⟨g, rfl, hg, hb, hd⟩
  have HB := Lib.hid hb
  clear hb hx
  have hlt := hd.lt
  have HC := Lib.hid (spec_l8Ints w1 g hd)
  go_wp2_with fail
  refine HC.out.mono ?_
  rintro e w2 ⟨_, rfl, ⟨l, ⟨hgl, hsm⟩, hl0, hll⟩, hch, hd2⟩
  replace HB := Lib.hid (chg_below HB.out hch hg (Nat.le_refl _))
  have ho := (show Own 66 3 w2 w1.heap.size w2.heap.size _ l.length (l.flatMap V.cells) from hgl).up hlt
  obtain ⟨A2, c2, rfl, -, -⟩ := ho.cells.form
  have RL := Lib.hid ho
  clear ho
  have HS := Lib.hid (small_max hsm)
  clear hsm
  clear hch hd HC hlt
  have hd := hd2
  clear hd2
  obtain ⟨P, hP⟩ : ∃ P, encFrame l = P := ⟨_, rfl⟩
  have hPl := encFrame_len l
  rw [hP] at hPl
  have HP := Lib.hid hP
  clear hP
  have hlt := hd.lt
  have HC := Lib.hid (spec_l5Type l _ w2 g hd RL.out.rdV (Nat.lt_succ_self g) (Nat.le_refl _) (by omega) (by omega))
  go_wp2_with fail
  refine HC.out.mono ?_
  rintro e w3 ⟨_, rfl, ⟨ty, k, rfl⟩, hch, hd2⟩
  replace RL := Lib.hid (RL.out.dgo hch)
  replace HB := Lib.hid (chg_below HB.out hch hg (Nat.le_refl _))
  clear hch hd HC hlt
  have hd := hd2
  clear hd2
  have hlt := hd.lt
  have HC := Lib.hid (by have h := spec_EncFrame l _ w3 RL.out.rdV (Nat.le_refl _) HS.out; rw [HP.out] at h; exact h)
  go_wp2_with fail
  refine HC.out.mono ?_
  rintro e w4 ⟨_, rfl, ho, hb⟩
  replace RL := Lib.hid (RL.out.dgb hb)
  replace HB := Lib.hid (below_go HB.out hb)
  have hd2 := hd.below hb
  replace ho := ho.up hlt
  obtain ⟨A5, c5, rfl, -, -⟩ := ho.cells.form
  have RP := Lib.hid ho
  clear ho
  clear hb hd HC hlt
  have hd := hd2
  clear hd2
  have hlt := hd.lt
  have HC := Lib.hid (spec_l1Bent P _ w4 g hd RP.out.rdBc (Nat.le_refl _) (by omega))
  go_wp2_with fail
  refine HC.out.mono ?_
  rintro e w5 ⟨_, rfl, ⟨l9, hgl, hl9⟩, hch, hd2⟩
  replace RL := Lib.hid (RL.out.dgo hch)
  replace RP := Lib.hid (RP.out.dgo hch)
  replace HB := Lib.hid (chg_below HB.out hch hg (Nat.le_refl _))
  have ho := (show Own 5 1 w5 w4.heap.size w5.heap.size _ l9.length (bc l9) from hgl).up hlt
  obtain ⟨A7, c7, rfl, -, -⟩ := ho.cells.form
  have R9 := Lib.hid ho
  clear ho
  clear hch hd HC hlt
  have hd := hd2
  clear hd2
  have hrd := R9.out.rdBc.more (show w.heap.size ≤ g + 1 by omega) (Nat.le_refl _)
  go_wp2_with fail
  refine bodyPost_ret (v := .tuple #[.slice A7 l9.length c7, .int .i64 k]) (by simp [results, Try.results48, go_sem]) rfl ⟨_, l9, _, rfl, hrd, by omega, HB.out⟩
end Go.Proofs.Yticimccfeohpcaa
