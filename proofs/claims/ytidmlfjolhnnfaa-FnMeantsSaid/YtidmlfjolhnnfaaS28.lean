/- Zones of rows: contracts. -/
import Derived.Test.YtidmlfjolhnnfaaS27
import Derived.Test.YtidmlfjolhnnfaaZ1
import Derived.Test.YtidmlfjolhnnfaaZ2
import Derived.Test.YtidmlfjolhnnfaaLZS
namespace Go.Proofs.Ytidmlfjolhnnfaa
open Go.Sort Go.ChangeShapes Go.WideShapes Go.ChangeAt Go.RowKit Go.Lb

def zonesOf (l : List R) : List Z := match l with
  | [] => []
  | r :: _ => (List.range r.l.length).map fun k : Nat => zoneOf (column l (k : Int))
def zk (l : List R) (k : Nat) : Z := zoneOf (column l (k : Int))
theorem zonesOf_eq {l : List R} {r : R} (h : l[0]? = some r) : zonesOf l = (List.range r.l.length).map (zk l) := by
  cases l with
  | nil => simp at h
  | cons a t => simp at h; subst h; rfl
theorem zonesOf_len (l : List R) : (zonesOf l).length ≤ lensR l := by
  cases l with
  | nil => simp [zonesOf]
  | cons a t => simp [zonesOf, lensR]
def Zok (z : Z) : Prop := z.lo.s.size ≤ maxLen ∧ z.hi.s.size ≤ maxLen
theorem info_zone : (Try.prog.info? 69).map (fun i => (i.zero, i.size, i.bytes)) = some (some (.agg #[.int .i64 0, .int .i64 0, .string ⟨#[]⟩, .int .i64 0, .int .i64 0, .string ⟨#[]⟩]), 6, 64) := by kernel_rfl

set_option maxRecDepth 20000 in
set_option maxHeartbeats 1000000 in
theorem spec_Zones (l : List R) (x : Value) (w : World) {lo hi : Nat} (hx : RdR w lo hi x l) (hhi : hi ≤ w.heap.size) (hn : l.length ≤ 1048576 ∧ lensR l ≤ 1048576) :
    Calls Try.prog 24 #[x] w fun e w' => ∃ v, e = .returned v ∧ Own 69 6 w' w.heap.size w'.heap.size v (zonesOf l).length ((zonesOf l).flatMap Z.cells) ∧ Below w.heap.size w w' := by
  obtain ⟨A, c, rfl, hl, hl2⟩ := hx.form
  obtain ⟨i0, hif, hz0, hz1, hz2⟩ := info_parts info_zone
  have hif := Lib.hid hif
  have hz0 := Lib.hid hz0
  have hz1 := Lib.hid hz1
  have hz2 := Lib.hid hz2
  have hn1 := hn.1
  have Hn := Lib.hid hn.2
  clear hn
  have own0 := World.ownsRow_made w (base := w.heap.size) (e := 69) (size := 6) #[] 0 (Nat.le_refl _) (by decide) rfl
  by_cases h0 : l.length = 0
  · obtain rfl : l = [] := List.eq_nil_of_length_eq_zero h0
    go_enter Try.func24, Try.ntmps24
    go_wp2_with fail
    go_ret
    exact ⟨_, rfl, .new own0, (Below.refl _ _).alloc (Nat.le_refl _) _⟩
  have hb0 : ((l.length : Int) == 0) = false := by simp; intro h; exact h0 (by simp [h])
  have hpos : 0 < l.length := by omega
  clear h0
  obtain ⟨b, off, r, sv, rfl, -, hbl, hrk, -, e1, hr⟩ := hx.at hpos
  obtain ⟨As, cs, rfl, hsl, hsm⟩ := hr.form
  simp only [Nat.zero_mul, Nat.add_zero] at e1
  have Hz := Lib.hid (zonesOf_eq hrk)
  have hrl : r.l.length ≤ 1048576 := Nat.le_trans (len_of_lens (mem_of_get hrk)) Hn.out
  have E1 := Lib.hid (fun (W : World) (h : Below w.heap.size w W) => (h.cell (p := ⟨b, off + 1, none⟩) (show b < w.heap.size by omega)).trans e1)
  have e1 := E1.out _ ((Below.refl w.heap.size w).alloc (Nat.le_refl _) (.cells #[] 69))
  clear hrk hr
  go_enter Try.func24, Try.ntmps24
  go_wp2_with fail
  go_loopw [3, 4] (fun o i wr => ∃ (k : Nat), i = .int .i64 k ∧ k ≤ r.l.length ∧ wr.ownsRow w.heap.size 69 6 o k (((List.range k).map (zk l)).flatMap Z.cells) ∧ Below w.heap.size w wr) (fun _ i _ => r.l.length - (intOf i).toNat)
  case atStart => exact ⟨0, rfl, by omega, by simpa using own0, (Below.refl _ _).alloc (Nat.le_refl _) _⟩
  case round =>
    clear e1
    obtain ⟨k, rfl, hk, hown, hb⟩ := hrel
    have hxw := hx.below hb hhi
    have hbs := hb.size
    have e1 := E1.out _ hb
    by_cases hkl : k < r.l.length
    · go_wp2_with fail
      refine (spec_Column l _ (k : Int) _ hxw (by omega) hn1).mono ?_
      rintro e w1 ⟨v, rfl, hown1, hb1⟩
      have hs1 := hb1.size
      have hrd := hown1.rdV
      have hownb := owns_below hown hb1
      clear hown hown1 hxw
      go_wp2_with fail
      refine (spec_ZoneOf (column l (k : Int)) v _ hrd (Nat.le_refl _)).mono ?_
      rintro e w2 ⟨rfl, hb2⟩
      have hownc := owns_below hownb hb2
      have hb3 := hb.trans ((hb1.trans (hb2.mono hs1)).mono hb.size)
      clear hownb hrd hb1 hb2
      go_wp2_with (at_builtin; refine wpl_app rfl _ _ 52 rfl w.heap.size 69 i0 _ 6 64 Try.underlying52 hif.out hz0.out hz1.out hz2.out rfl (by decide) (by decide) (hownc.alloc _) rfl (heap_alloc_new _ _) rfl rfl (by simp [Value.oneCell']) (by omega) (by simp; have := hb3.size; omega) ?_)
      intro v' w3 hown' hgrow hnb
      have hb4 := below_app (hb3.alloc hb3.size _) (hownc.alloc _) hgrow (Nat.le_refl _)
      have Hown' := Lib.hid (show w3.ownsRow w.heap.size 69 6 v' (k + 1) (((List.range (k + 1)).map (zk l)).flatMap Z.cells) by
        rw [List.range_succ, List.map_append, List.flatMap_append]
        simpa [zk, Z.cells, V.cells] using hown')
      clear hown' hgrow hnb hownc
      go_wp2_with fail
      go_roundw
      case rel => exact ⟨k + 1, by go_num, by omega, Hown'.out, hb4⟩
      case measure => simp [intOf]; omega
    · obtain rfl : k = r.l.length := by omega
      go_wp2_with fail
      go_ret
      refine ⟨_, rfl, ?_, hb⟩
      rw [Hz.out, List.length_map, List.length_range]
      exact .new hown
set_option maxRecDepth 20000 in
set_option maxHeartbeats 1000000 in
theorem impl_Zones (l : List R) (x : Value) (w : World) {lo hi : Nat} (hx : RdR w lo hi x l) (hhi : hi ≤ w.heap.size) (hn : l.length ≤ 1048576 ∧ lensR l ≤ 1048576) :
    Calls Try.prog 19 #[x] w fun e w' => ∃ v, e = .returned v ∧ Own 69 6 w' w.heap.size w'.heap.size v (zonesOf l).length ((zonesOf l).flatMap Z.cells) ∧ Below w.heap.size w w' := by
  obtain ⟨A, c, rfl, hl, hl2⟩ := hx.form
  obtain ⟨i0, hif, hz0, hz1, hz2⟩ := info_parts info_zone
  have hif := Lib.hid hif
  have hz0 := Lib.hid hz0
  have hz1 := Lib.hid hz1
  have hz2 := Lib.hid hz2
  have hn1 := hn.1
  have Hn := Lib.hid hn.2
  clear hn
  have own0 := World.ownsRow_made w (base := w.heap.size) (e := 69) (size := 6) #[] 0 (Nat.le_refl _) (by decide) rfl
  by_cases h0 : l.length = 0
  · obtain rfl : l = [] := List.eq_nil_of_length_eq_zero h0
    go_enter Try.func19, Try.ntmps19
    go_wp2_with fail
    go_ret
    exact ⟨_, rfl, .new own0, (Below.refl _ _).alloc (Nat.le_refl _) _⟩
  have hb0 : ((l.length : Int) == 0) = false := by simp; intro h; exact h0 (by simp [h])
  have hpos : 0 < l.length := by omega
  clear h0
  obtain ⟨b, off, r, sv, rfl, -, hbl, hrk, -, e1, hr⟩ := hx.at hpos
  obtain ⟨As, cs, rfl, hsl, hsm⟩ := hr.form
  simp only [Nat.zero_mul, Nat.add_zero] at e1
  have Hz := Lib.hid (zonesOf_eq hrk)
  have hrl : r.l.length ≤ 1048576 := Nat.le_trans (len_of_lens (mem_of_get hrk)) Hn.out
  have E1 := Lib.hid (fun (W : World) (h : Below w.heap.size w W) => (h.cell (p := ⟨b, off + 1, none⟩) (show b < w.heap.size by omega)).trans e1)
  have e1 := E1.out _ ((Below.refl w.heap.size w).alloc (Nat.le_refl _) (.cells #[] 69))
  clear hrk hr
  go_enter Try.func19, Try.ntmps19
  go_wp2_with fail
  go_loopw [3, 15] (fun o i wr => ∃ (k : Nat), i = .int .i64 k ∧ k ≤ r.l.length ∧ wr.ownsRow w.heap.size 69 6 o k (((List.range k).map (zk l)).flatMap Z.cells) ∧ Below w.heap.size w wr) (fun _ i _ => r.l.length - (intOf i).toNat)
  case atStart => exact ⟨0, rfl, by omega, by simpa using own0, (Below.refl _ _).alloc (Nat.le_refl _) _⟩
  case round =>
    clear e1
    obtain ⟨k, rfl, hk, hown, hb⟩ := hrel
    have hxw := hx.below hb hhi
    have hbs := hb.size
    have e1 := E1.out _ hb
    by_cases hkl : k < r.l.length
    · go_wp2_with fail
      refine (impl_Column l _ (k : Int) _ hxw (by omega) hn1).mono ?_
      rintro e w1 ⟨v, rfl, hown1, hb1⟩
      have hs1 := hb1.size
      have hrd := hown1.rdV
      have hownb := owns_below hown hb1
      clear hown hown1 hxw
      go_wp2_with fail
      refine (impl_ZoneOf (column l (k : Int)) v _ hrd (Nat.le_refl _)).mono ?_
      rintro e w2 ⟨rfl, hb2⟩
      have hownc := owns_below hownb hb2
      have hb3 := hb.trans ((hb1.trans (hb2.mono hs1)).mono hb.size)
      clear hownb hrd hb1 hb2
      go_wp2_with (at_builtin; refine wpl_app rfl _ _ 52 rfl w.heap.size 69 i0 _ 6 64 Try.underlying52 hif.out hz0.out hz1.out hz2.out rfl (by decide) (by decide) (hownc.alloc _) rfl (heap_alloc_new _ _) rfl rfl (by simp [Value.oneCell']) (by omega) (by simp; have := hb3.size; omega) ?_)
      intro v' w3 hown' hgrow hnb
      have hb4 := below_app (hb3.alloc hb3.size _) (hownc.alloc _) hgrow (Nat.le_refl _)
      have Hown' := Lib.hid (show w3.ownsRow w.heap.size 69 6 v' (k + 1) (((List.range (k + 1)).map (zk l)).flatMap Z.cells) by
        rw [List.range_succ, List.map_append, List.flatMap_append]
        simpa [zk, Z.cells, V.cells] using hown')
      clear hown' hgrow hnb hownc
      go_wp2_with fail
      go_roundw
      case rel => exact ⟨k + 1, by go_num, by omega, Hown'.out, hb4⟩
      case measure => simp [intOf]; omega
    · obtain rfl : k = r.l.length := by omega
      go_wp2_with fail
      go_ret
      refine ⟨_, rfl, ?_, hb⟩
      rw [Hz.out, List.length_map, List.length_range]
      exact .new hown
end Go.Proofs.Ytidmlfjolhnnfaa
