/- Copies of lists of rows: contracts. -/
import Derived.Test.YtidmlfjolhnnfaaGreatDoorXL
namespace Go.Proofs.YtidmlfjolhnnfaaGreatDoor
open Go.Sort Go.ChangeShapes Go.WideShapes Go.ChangeAt Go.RowKit Go.Lb

set_option maxRecDepth 20000 in
set_option maxHeartbeats 1000000 in
theorem impl_cloneRows (l : List R) (x : Value) (w : World) {lo hi : Nat} (hx : RdR w lo hi x l) (hhi : hi ≤ w.heap.size) (hn : l.length ≤ 1048576 ∧ lensR l ≤ 1048576) :
    Calls Tryz.prog 29 #[x] w fun e w' => ∃ v, e = .returned v ∧ OwnR 51 25 w' w.heap.size w'.heap.size v l ∧ Below w.heap.size w w' := by
  obtain ⟨A, c, rfl, hl, hl2⟩ := hx.form
  obtain ⟨i0, hif, hz0, hz1, hz2⟩ := info_parts info_Row
  have hif := Lib.hid hif
  have hz0 := Lib.hid hz0
  have hz1 := Lib.hid hz1
  have hz2 := Lib.hid hz2
  have hn1 := hn.1
  have Hn := Lib.hid hn.2
  clear hn
  have own0 := World.ownsRow_made w (base := w.heap.size) (e := 51) (size := 2) #[] 0 (Nat.le_refl _) (by decide) rfl
  go_enter Tryz.func29, Tryz.ntmps29
  go_wp2_with fail
  go_loopw [3, 9] (fun o i wr => ∃ (k : Nat) (ps : List (R × Value)), i = .int .i64 k ∧ k ≤ l.length ∧ ps.map Prod.fst = l.take k ∧ OwnRp 51 25 wr w.heap.size wr.heap.size o ps ∧ Below w.heap.size w wr) (fun _ i _ => l.length - (intOf i).toNat)
  case atStart => exact ⟨0, [], rfl, by omega, by simp, OwnRp.nil own0 (fun g hg => by simp [Value.ownBlock] at hg; simp; omega), (Below.refl _ _).alloc (Nat.le_refl _) _⟩
  case round =>
    obtain ⟨k, ps, rfl, hk, hps, hown, hb⟩ := hrel
    have Hps := Lib.hid hps
    have hpl : ps.length = k := by
      have h := congrArg List.length hps
      simp at h; omega
    have Hown := Lib.hid hown
    clear hps hown
    by_cases hkl : k < l.length
    · obtain ⟨b, off, y, sv, rfl, -, hbl, hyk, e0, e1, hr⟩ := (hx.below hb hhi).at hkl
      obtain ⟨As, cs, rfl, -, -⟩ := hr.form
      have Hy := Lib.hid (take_of_get hyk)
      have hyl : y.l.length ≤ 1048576 := Nat.le_trans (len_of_lens (mem_of_get hyk)) Hn.out
      have hbs := hb.size
      have up := up_a1 wr (.cells #[.int .i64 y.id, .slice As y.l.length cs] 51)
      have hr1 := hr.below up (by omega)
      clear hyk hr
      go_wp2_with fail
      refine (impl_cloneRow y (.slice As y.l.length cs) _ hr1 (by simp only [World.size_alloc]; omega) (by omega)).mono ?_
      rintro e w1 ⟨v, rfl, hown1, hb1⟩
      replace hb1 := below_a1 hb1
      have hown2 := hown1.more (lo' := wr.heap.size) (by simp) (Nat.le_refl _)
      obtain ⟨As', cs', rfl, -, -, -⟩ := hown2.cells
      have Hin := Lib.hid (hown2.below (up_a1 w1 (.cells #[.int .i64 y.id, .slice As' y.l.length cs'] 51)) (Nat.le_refl _))
      have hout := owns_below (owns_base Hown.out.out fun g hg => (Hown.out.outIn g hg).1) hb1
      have hs1 := hb1.size
      have Hb1 := Lib.hid hb1
      clear hown1 hown2 hr1 up e0 e1 hb1
      go_wp2_with (at_builtin; refine wpl_app rfl _ _ 32 rfl w.heap.size 51 i0 _ 2 32 Tryz.underlying32 hif.out hz0.out hz1.out hz2.out rfl (by decide) (by decide) (hout.alloc _) rfl (heap_alloc_new _ _) rfl rfl (by simp [Value.oneCell']) (by omega) (by simp; omega) ?_)
      intro v' w3 hown' hgrow hnb
      have hb2 := hb.trans (Hb1.out.mono hb.size)
      have hb3 := below_app (hb2.alloc hb2.size _) (hout.alloc _) hgrow (Nat.le_refl _)
      have hsn := Lib.hid (Hown.out.snoc ((Below.refl _ _).trans Hb1.out |>.alloc hs1 _) hb.size Hin.out (by simp) (by rw [hpl]; exact hown') hgrow (by simpa using hnb))
      clear hown' hgrow hnb hout
      go_wp2_with fail
      go_roundw
      case rel => exact ⟨k + 1, _, by go_num, by omega, by rw [List.map_append, Hps.out, Hy.out]; rfl, hsn.out, hb3⟩
      case measure => simp [intOf]; omega
    · go_wp2_with fail
      go_ret
      obtain rfl : k = l.length := by omega
      have hp := Hps.out
      rw [List.take_length] at hp
      exact ⟨_, rfl, ⟨ps, hp, Hown.out⟩, hb⟩

set_option maxRecDepth 20000 in
set_option maxHeartbeats 1000000 in
theorem spec_l4All (l : List R) (x : Value) (w : World) {lo hi : Nat} (hx : RdR w lo hi x l) (hhi : hi ≤ w.heap.size) (hn : l.length ≤ 1048576 ∧ lensR l ≤ 1048576) :
    Calls Tryz.prog 30 #[x] w fun e w' => ∃ v, e = .returned v ∧ OwnR 51 25 w' w.heap.size w'.heap.size v l ∧ Below w.heap.size w w' := by
  obtain ⟨A, c, rfl, hl, hl2⟩ := hx.form
  obtain ⟨i0, hif, hz0, hz1, hz2⟩ := info_parts info_Row
  have hif := Lib.hid hif
  have hz0 := Lib.hid hz0
  have hz1 := Lib.hid hz1
  have hz2 := Lib.hid hz2
  have hn1 := hn.1
  have Hn := Lib.hid hn.2
  clear hn
  have own0 := World.ownsRow_made w (base := w.heap.size) (e := 51) (size := 2) #[] 0 (Nat.le_refl _) (by decide) rfl
  go_enter Tryz.func30, Tryz.ntmps30
  go_wp2_with fail
  go_loopw [3, 4] (fun o i wr => ∃ (k : Nat) (ps : List (R × Value)), i = .int .i64 k ∧ k ≤ l.length ∧ ps.map Prod.fst = l.take k ∧ OwnRp 51 25 wr w.heap.size wr.heap.size o ps ∧ Below w.heap.size w wr) (fun _ i _ => l.length - (intOf i).toNat)
  case atStart => exact ⟨0, [], rfl, by omega, by simp, OwnRp.nil own0 (fun g hg => by simp [Value.ownBlock] at hg; simp; omega), (Below.refl _ _).alloc (Nat.le_refl _) _⟩
  case round =>
    obtain ⟨k, ps, rfl, hk, hps, hown, hb⟩ := hrel
    have Hps := Lib.hid hps
    have hpl : ps.length = k := by
      have h := congrArg List.length hps
      simp at h; omega
    have Hown := Lib.hid hown
    clear hps hown
    by_cases hkl : k < l.length
    · obtain ⟨b, off, y, sv, rfl, -, hbl, hyk, e0, e1, hr⟩ := (hx.below hb hhi).at hkl
      have Hy := Lib.hid (take_of_get hyk)
      have hyl : y.l.length ≤ 1048576 := Nat.le_trans (len_of_lens (mem_of_get hyk)) Hn.out
      have hbs := hb.size
      clear hyk
      go_wp2_with fail
      refine (spec_l4Copy y sv _ hr (by omega) (by omega)).mono ?_
      rintro e w1 ⟨v, rfl, hown1, hb1⟩
      obtain ⟨As', cs', rfl, -, -, -⟩ := hown1.cells
      have up2 := up_a2 w1 (.cells #[.int .i64 y.id, .slice As' y.l.length cs'] 51) (.cells #[.int .i64 y.id, .slice As' y.l.length cs'] 51)
      have Hin := Lib.hid (hown1.below up2 (Nat.le_refl _))
      have hout := owns_below (owns_base Hown.out.out fun g hg => (Hown.out.outIn g hg).1) hb1
      have hs1 := hb1.size
      have Hb1 := Lib.hid (hb1.trans (up2.mono hs1))
      have hnew := heap_alloc_new (w1.alloc (.cells #[.int .i64 y.id, .slice As' y.l.length cs'] 51)) (.cells #[.int .i64 y.id, .slice As' y.l.length cs'] 51)
      simp only [World.size_alloc] at hnew
      have Hnew := Lib.hid hnew
      clear hown1 hr e0 e1 hb1 up2 hnew
      go_wp2_with (at_builtin; refine wpl_app rfl _ _ 32 rfl w.heap.size 51 i0 _ 2 32 Tryz.underlying32 hif.out hz0.out hz1.out hz2.out rfl (by decide) (by decide) ((hout.alloc _).alloc _) rfl Hnew.out rfl rfl (by simp [Value.oneCell']) (by omega) (by simp; omega) ?_)
      intro v' w3 hown' hgrow hnb
      have hb2 := hb.trans (Hb1.out.mono hb.size)
      have hb3 := below_app hb2 ((hout.alloc _).alloc _) hgrow (Nat.le_refl _)
      have hsn := Lib.hid (Hown.out.snoc Hb1.out hb.size Hin.out (by simp <;> omega) (by rw [hpl]; exact hown') hgrow (by simpa [Nat.add_assoc] using hnb))
      clear hown' hgrow hnb hout
      go_wp2_with fail
      go_roundw
      case rel => exact ⟨k + 1, _, by go_num, by omega, by rw [List.map_append, Hps.out, Hy.out]; rfl, hsn.out, hb3⟩
      case measure => simp [intOf]; omega
    · go_wp2_with fail
      go_ret
      obtain rfl : k = l.length := by omega
      have hp := Hps.out
      rw [List.take_length] at hp
      exact ⟨_, rfl, ⟨ps, hp, Hown.out⟩, hb⟩
end Go.Proofs.YtidmlfjolhnnfaaGreatDoor
