/- Draws: bytes for the laws on bent encodings. -/
import Derived.Test.YticimccfeohpcaaXA
import Derived.Test.YticimccfeohpcaaD16
import Derived.Test.YticimccfeohpcaaD20
import Derived.Test.YticimccfeohpcaaD21
import Derived.Test.YticimccfeohpcaaXN
import Derived.Test.YticimccfeohpcaaXF
import Derived.Test.YticimccfeohpcaaXV
namespace Go.Proofs.Yticimccfeohpcaa
open Go.Sort Go.ChangeShapes Go.WideShapes Go.ChangeAt Go.RowKit Go.Lb
set_option maxRecDepth 20000 in
set_option maxHeartbeats 4000000 in
theorem spec_DrawRaised (code : List UInt8) (x : Value) (w : World) {lo hi : Nat} (hx : RdB w lo hi x code) (hhi : hi ≤ w.heap.size) (hn : code.length ≤ 1048576) :
    Calls Try.prog 50 #[x] w fun e w' => ∃ (lv : Value) (q : List Int) (i : Int), e = .returned (.tuple #[.int .i64 i, lv]) ∧ RdI w' w.heap.size w'.heap.size lv q ∧ q.length ≤ 20 ∧ Below w.heap.size w w' := by
  go_enter Try.func50, Try.ntmps50
  go_wp2_with fail
  refine (spec_l1New code x w hx hhi hn).mono ?_
  rintro e w1 ⟨g, rfl, hg, hb, hd⟩
  have HB := Lib.hid hb
  clear hb hx
  have hlt := hd.lt
  have HC := Lib.hid (spec_l8Ints w1 g hd)
  go_wp2_with fail
  refine HC.out.mono ?_
  rintro e w2 ⟨_, rfl, ⟨l, ⟨hgl, hsm⟩, hl0, hll⟩, hch, hd2⟩
  replace HB := Lib.hid (chg_below HB.out hch hg (Nat.le_refl _))
  have ho := (show Own 66 3 w2 w1.heap.size w2.heap.size _ l.length (l.flatMap V.cells) from hgl).up hlt
  obtain ⟨A2, c2, rfl, -, -⟩ := ho.cells.form
  have RL := Lib.hid ho
  clear ho
  have HS := Lib.hid (small_max hsm)
  clear hsm
  clear hch hd HC hlt
  have hd := hd2
  clear hd2
  obtain ⟨O, hO⟩ : ∃ O, offsets l = O := ⟨_, rfl⟩
  have hOl := offsets_len l
  rw [hO] at hOl
  have HO := Lib.hid hO
  obtain ⟨B, hB⟩ : ∃ B, baseOf l = B := ⟨_, rfl⟩
  have HBa := Lib.hid hB
  clear hO hB
  have hlt := hd.lt
  have HC := Lib.hid (by have h := spec_Offsets l _ w2 RL.out.rdV (Nat.le_refl _) HS.out; rw [HO.out] at h; exact h)
  go_wp2_with fail
  refine HC.out.mono ?_
  rintro e w3 ⟨_, rfl, ho, hb⟩
  replace RL := Lib.hid (RL.out.dgb hb)
  replace HB := Lib.hid (below_go HB.out hb)
  have hd2 := hd.below hb
  replace ho := ho.up hlt
  obtain ⟨A4, c4, rfl, -, -⟩ := ho.cells.form
  have RO := Lib.hid ho
  clear ho
  clear hb hd HC hlt
  have hd := hd2
  clear hd2
  have hlt := hd.lt
  have HC := Lib.hid (by have h := spec_Base l _ w3 RL.out.rdV (Nat.le_refl _); rw [HBa.out] at h; exact h)
  go_wp2_with fail
  refine HC.out.mono ?_
  rintro e w4 ⟨rfl, hb⟩
  replace RL := Lib.hid (RL.out.dgb hb)
  replace RO := Lib.hid (RO.out.dgb hb)
  replace HB := Lib.hid (below_go HB.out hb)
  have hd2 := hd.below hb
  clear hb hd HC hlt
  have hd := hd2
  clear hd2
  have hlt := hd.lt
  have HC := Lib.hid (spec_l1Below 8 w4 g hd (by decide))
  go_wp2_with fail
  refine HC.out.mono ?_
  rintro e w5 ⟨_, rfl, ⟨k, rfl, -, -⟩, hch, hd2⟩
  replace RL := Lib.hid (RL.out.dgo hch)
  replace RO := Lib.hid (RO.out.dgo hch)
  replace HB := Lib.hid (chg_below HB.out hch hg (Nat.le_refl _))
  clear hch hd HC hlt
  have hd := hd2
  clear hd2
  by_cases h0 : k = 0
  · subst h0
    have hlt := hd.lt
    have HC := Lib.hid (spec_l1Raw w5 g hd)
    go_wp2_with fail
    refine HC.out.mono ?_
    rintro e w6 ⟨_, rfl, ⟨y, rfl⟩, hch, hd2⟩
    replace RL := Lib.hid (RL.out.dgo hch)
    replace RO := Lib.hid (RO.out.dgo hch)
    replace HB := Lib.hid (chg_below HB.out hch hg (Nat.le_refl _))
    clear hch hd HC hlt
    have hd := hd2
    clear hd2
    have hrd := RO.out.rdI.more (show w.heap.size ≤ g + 1 by omega) (Nat.le_refl _)
    go_wp2_with fail
    refine bodyPost_ret (v := .tuple #[.int .i64 y, .slice A4 O.length c4]) (by simp [results, Try.results50, go_sem]) rfl ⟨_, O, _, rfl, hrd, by omega, HB.out⟩
  have b0 : ((k : Int) == 0) = false := by simp; omega
  clear h0
  by_cases h1 : k = 1
  · subst h1
    have hlt := hd.lt
    have HC := Lib.hid (spec_l1Raw w5 g hd)
    go_wp2_with fail
    refine HC.out.mono ?_
    rintro e w6 ⟨_, rfl, ⟨y, rfl⟩, hch, hd2⟩
    replace RL := Lib.hid (RL.out.dgo hch)
    replace RO := Lib.hid (RO.out.dgo hch)
    replace HB := Lib.hid (chg_below HB.out hch hg (Nat.le_refl _))
    clear hch hd HC hlt
    have hd := hd2
    clear hd2
    obtain ⟨i0, hif, hz0, hz1, hz2⟩ := info_parts info_i64
    replace hif := Lib.hid hif
    replace hz0 := Lib.hid hz0
    replace hz1 := Lib.hid hz1
    replace hz2 := Lib.hid hz2
    have hown := RO.out.1
    have hc5 := chg_new g w6 #[.int .i64 y] 3
    go_wp2_with (at_builtin; refine wpl_app rfl _ _ 26 rfl (g + 1) 3 i0 _ 1 8 Try.underlying26 hif.out hz0.out hz1.out hz2.out rfl (by decide) (by decide) (hown.alloc _) rfl (heap_alloc_new _ _) rfl rfl (by simp [Value.oneCell']) (by omega) (by have := hd.lt; simp; omega) ?_)
    intro v' w9 hown' hgrow _
    have hBN := Below.grown (chg_below HB.out hc5 hg (Nat.le_refl _)) hgrow (fun b hb => by have := (hown.lt b hb).1; omega) (Nat.le_refl _)
    have hrd := (show Own 3 1 w9 (g + 1) w9.heap.size v' (O ++ [y]).length ((O ++ [y]).map (Value.int .i64)) by rw [List.length_append, List.map_append]; exact .new hown').rdI.more (show w.heap.size ≤ g + 1 by omega) (Nat.le_refl _)
    clear hown hown' hgrow hc5 RO
    obtain ⟨Ar, cr, rfl, -, -⟩ := hrd.form
    go_wp2_with fail
    refine bodyPost_ret (v := .tuple #[.int .i64 B, .slice Ar (O ++ [y]).length cr]) (by simp [results, Try.results50, go_sem]) rfl ⟨_, O ++ [y], _, rfl, hrd, by simp; omega, hBN⟩
  have b1 : ((k : Int) == 1) = false := by simp; omega
  clear h1
  have hrd := RO.out.rdI.more (show w.heap.size ≤ g + 1 by omega) (Nat.le_refl _)
  go_wp2_with fail
  refine bodyPost_ret (v := .tuple #[.int .i64 B, .slice A4 O.length c4]) (by simp [results, Try.results50, go_sem]) rfl ⟨_, O, _, rfl, hrd, by omega, HB.out⟩
end Go.Proofs.Yticimccfeohpcaa
