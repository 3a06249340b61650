/- Draws: columns and bent bytes, as the law on bent row groups draws them. -/
import Derived.Test.YticimccfeohpcaaGreatXA
import Derived.Test.YticimccfeohpcaaGreatD31
import Derived.Test.YticimccfeohpcaaGreatD21
import Derived.Test.YticimccfeohpcaaGreatCG
import Derived.Test.YticimccfeohpcaaGreatEL
namespace Go.Proofs.YticimccfeohpcaaGreat
open Go.Sort Go.ChangeShapes Go.WideShapes Go.ChangeAt Go.RowKit Go.Lb
set_option maxRecDepth 20000 in
set_option maxHeartbeats 4000000 in
theorem spec_DrawGetGroup (code : List UInt8) (x : Value) (w : World) {lo hi : Nat} (hx : RdB w lo hi x code) (hhi : hi ≤ w.heap.size) (hn : code.length ≤ 1048576) :
    Calls Tryz.prog 60 #[x] w fun e w' => ∃ (cv bv : Value) (cols : List Int) (b : List UInt8), e = .returned (.tuple #[cv, bv]) ∧ RdI w' w.heap.size w'.heap.size cv cols ∧ RdB w' w.heap.size w'.heap.size bv b ∧ b.length ≤ 5000 ∧ Below w.heap.size w w' := by
  go_enter Tryz.func60, Tryz.ntmps60
  go_wp2_with fail
  refine (spec_l1New code x w hx hhi hn).mono ?_
  rintro e w1 ⟨g, rfl, hg, hb, hd⟩
  have HB := Lib.hid hb
  clear hb hx
  have hlt := hd.lt
  go_wp2_with fail
  refine (spec_l13Rows w1 g hd).mono ?_
  rintro e w2 ⟨_, rfl, ⟨cv, lv, cols, l, rfl, hc, hcl, hr, hll, hsm⟩, hch, hd2⟩
  have hrr := hr.rdR
  obtain ⟨Ac, cc, rfl, -, -⟩ := hc.form
  obtain ⟨Ar, cr, rfl, -, -⟩ := hrr.form
  replace HB := Lib.hid (chg_below HB.out hch hg (Nat.le_refl _))
  have RK := Lib.hid (hc.more (show g + 1 ≤ w1.heap.size from hlt) (Nat.le_refl _))
  have RL := Lib.hid (hrr.more (show g + 1 ≤ w1.heap.size from hlt) (Nat.le_refl _))
  have HS := Lib.hid (rsok_small hsm)
  clear hc hr hrr hsm hch hd hlt
  have hd := hd2
  clear hd2
  obtain ⟨P, hP⟩ : ∃ P, putGroup cols l = P := ⟨_, rfl⟩
  have hPl := putGroup_len cols l
  rw [hP] at hPl
  have HP := Lib.hid hP
  clear hP
  have HC := Lib.hid (by have h := spec_PutGroup cols _ l _ w2 RK.out (Nat.le_refl _) RL.out (Nat.le_refl _) HS.out; rw [HP.out] at h; exact h)
  go_wp2_with fail
  refine HC.out.mono ?_
  rintro e w4 ⟨_, rfl, ho, hb⟩
  have hlt := hd.lt
  replace RK := Lib.hid (RK.out.dgb hb)
  replace HB := Lib.hid (below_go HB.out hb)
  have hd2 := hd.below hb
  replace ho := ho.up hlt
  obtain ⟨A5, c5, rfl, -, -⟩ := ho.cells.form
  have RP := Lib.hid ho
  clear ho hb hd HC RL HS hlt
  have hd := hd2
  clear hd2
  have hlt := hd.lt
  have HC := Lib.hid (spec_l1Bent P _ w4 g hd RP.out.rdBc (Nat.le_refl _) (by omega))
  go_wp2_with fail
  refine HC.out.mono ?_
  rintro e wz ⟨_, rfl, ⟨l9, hgl, hl9⟩, hch, hd2⟩
  replace HB := Lib.hid (chg_below HB.out hch hg (Nat.le_refl _))
  replace RK := Lib.hid (RK.out.dgo hch)
  have ho := (show Own 5 1 wz w4.heap.size wz.heap.size _ l9.length (bc l9) from hgl).up hlt
  obtain ⟨A9, c9, rfl, -, -⟩ := ho.cells.form
  have hrd := ho.rdBc.more (show w.heap.size ≤ g + 1 by omega) (Nat.le_refl _)
  clear hch hd HC ho hgl RP
  go_wp2_with fail
  refine bodyPost_ret (v := .tuple #[.slice Ac cols.length cc, .slice A9 l9.length c9]) (by simp [results, Tryz.results60, go_sem]) rfl ⟨_, _, cols, l9, rfl, RK.out.more (show w.heap.size ≤ g + 1 by omega) (Nat.le_refl _), hrd, by omega, HB.out⟩
end Go.Proofs.YticimccfeohpcaaGreat
