/- Draws: an operator and two values. -/
import Derived.Test.YtaapmimabbmdbaaD5
namespace Go.Proofs.Ytaapmimabbmdbaa
open Go.Sort Go.ChangeShapes Go.WideShapes Go.ChangeAt Go.RowKit Go.Lb

theorem Dr.drew {w : World} {g : Nat} (h : Dr w g) : Dr w.drew g := h.below (Below.refl _ _).drew
theorem chg_below {w w1 w2 : World} {g B : Nat} (hb : Below B w w1) (h : Chg g (g + 1) w1 w2) (hB : B ≤ g) (hw : B ≤ w.heap.size) : Below B w w2 := hb.trans (h.below hB (Nat.le_trans hw hb.size))
theorem below_set {B : Nat} {w w' : World} {b o : Nat} (h : Below B w w') (hb : B ≤ b) (u : Value) : Below B w (w'.setCell ⟨b, o, none⟩ u) := Below.setCell h hb u
theorem cell_drew {w : World} {a : Addr} {x : Option Value} (h : w.cell? a = x) : w.drew.cell? a = x := h
theorem cell_set_ne {w : World} {b o b' o' : Nat} {x : Option Value} {u : Value} (hne : b ≠ b') (h : w.cell? ⟨b, o, none⟩ = x) : (w.setCell ⟨b', o', none⟩ u).cell? ⟨b, o, none⟩ = x := (World.cell?_of_block (a := ⟨b, o, none⟩) (Below.heap_setCell w ⟨b', o', none⟩ u b hne)).trans h
set_option maxRecDepth 20000 in
set_option maxHeartbeats 4000000 in
theorem spec_DrawHolds1 (code : List UInt8) (x : Value) (w : World) {lo hi : Nat} (hx : RdB w lo hi x code) (hhi : hi ≤ w.heap.size) (hn : code.length ≤ 1048576) :
    Calls Try.prog 7 #[x] w fun e w' => ∃ (op : Int) (a b : V), e = .returned (.tuple #[.int .i64 op, .agg #[.int .i64 a.ty, .int .i64 a.n, .string a.s], .agg #[.int .i64 b.ty, .int .i64 b.n, .string b.s]]) ∧ a.s.size ≤ 100 ∧ b.s.size ≤ 100 ∧ Below w.heap.size w w' := by
  have up := up_a2 w (.cells #[.int .i64 0, .int .i64 0, .string ⟨#[]⟩] 25) (.cells #[.int .i64 0, .int .i64 0, .string ⟨#[]⟩] 25)
  have hx0 := hx.below up hhi
  have G0 := heap_alloc_new w (.cells #[.int .i64 0, .int .i64 0, .string ⟨#[]⟩] 25)
  have G0 := Lib.hid ((((Below.refl _ _).alloc (Nat.le_refl _) (.cells #[.int .i64 0, .int .i64 0, .string ⟨#[]⟩] 25)).block w.heap.size (by simp)).trans G0)
  have G1 := heap_alloc_new (w.alloc (.cells #[.int .i64 0, .int .i64 0, .string ⟨#[]⟩] 25)) (.cells #[.int .i64 0, .int .i64 0, .string ⟨#[]⟩] 25)
  simp only [World.size_alloc] at G1
  have G1 := Lib.hid G1
  go_enter Try.func7, Try.ntmps7
  go_wp2_with fail
  have hs : ((w.alloc (.cells #[.int .i64 0, .int .i64 0, .string ⟨#[]⟩] 25)).alloc (.cells #[.int .i64 0, .int .i64 0, .string ⟨#[]⟩] 25)).heap.size = w.heap.size + 1 + 1 := by simp
  have hC := spec_l1New code x _ hx0 (by rw [hs]; omega) hn
  generalize ((w.alloc (.cells #[.int .i64 0, .int .i64 0, .string ⟨#[]⟩] 25)).alloc (.cells #[.int .i64 0, .int .i64 0, .string ⟨#[]⟩] 25)) = W0 at *
  refine hC.mono ?_
  clear hC
  rintro e w1 ⟨g, rfl, hg, hb1, hd1⟩
  rw [hs] at hg hb1
  go_wp2_with fail
  refine (spec_l10Op w1 g hd1).mono ?_
  rintro e w2 ⟨_, rfl, ⟨op, rfl, hop1, hop2⟩, hch2, hd2⟩
  have hb2 := chg_below hb1 hch2 hg (by omega)
  clear hb1 hch2 hd1 hop1 hop2
  go_wp2_with fail
  refine (spec_l3Draw w2 g hd2).mono ?_
  rintro e w3 ⟨_, rfl, ⟨a, rfl, ha⟩, hch3, hd3⟩
  have hb3 := chg_below hb2 hch3 hg (by omega)
  clear hb2 hch3 hd2
  go_wp2_with fail
  have hlt3 := hd3.lt
  have hsz3 := hb3.size
  have hd4 := dr_new hd3 #[.int .i64 a.ty, .int .i64 a.n, .string a.s] 25
  have HA := Lib.hid (heap_alloc_new w3 (.cells #[.int .i64 a.ty, .int .i64 a.n, .string a.s] 25))
  have hb4 := hb3.alloc (by omega) (.cells #[.int .i64 a.ty, .int .i64 a.n, .string a.s] 25)
  refine (spec_l1Once 3 _ g hd4 (by decide)).mono ?_
  rintro e w5 ⟨_, rfl, ⟨b, rfl⟩, hch5, hd5⟩
  have hb5 := chg_below hb4 hch5 hg (by omega)
  replace HA := Lib.hid (chg_cell HA.out hch5 hlt3)
  clear hb4 hch5 hd4 hb3 hd3
  have hsz5 := hb5.size
  have q0 := cell_of_row w5 w3.heap.size 0 _ _ _ HA.out
  have q1 := cell_of_row w5 w3.heap.size 1 _ _ _ HA.out
  have q2 := cell_of_row w5 w3.heap.size 2 _ _ _ HA.out
  simp only [List.getElem?_toArray, List.getElem?_cons_zero, List.getElem?_cons_succ] at q0 q1 q2
  have n0 : w3.heap.size ≠ w.heap.size := by omega
  have n1 : w3.heap.size ≠ w.heap.size + 1 := by omega
  cases b
  · have hC := Lib.hid (spec_l3Draw w5.drew g hd5.drew)
    go_wp2_with fail
    go_region_held3 (fun w' => w'.cell? ⟨w3.heap.size, 0, none⟩ = some (.int .i64 a.ty) ∧ w'.cell? ⟨w3.heap.size, 1, none⟩ = some (.int .i64 a.n) ∧ w'.cell? ⟨w3.heap.size, 2, none⟩ = some (.string a.s)) (first | with_reducible exact ⟨q0, q1, q2⟩ | with_reducible exact ⟨p0, p1, p2⟩ | (with_reducible (refine ⟨?_, ?_, ?_⟩ <;> (repeat (first | apply cell_drew | apply cell_set_ne n0 | apply cell_set_ne n1)) <;> assumption)) | go_keep) (first | (go_at_call 37; ((with_reducible refine hC.out.mono ?_); rintro e w6 ⟨_, rfl, ⟨b, rfl, hbs⟩, hch6, hd6⟩; have hb6 := chg_below hb5.drew hch6 hg (by omega); have HA2 := chg_cell (w := w5.drew) HA.out hch6 hlt3; have p0 := cell_of_row w6 w3.heap.size 0 _ _ _ HA2; have p1 := cell_of_row w6 w3.heap.size 1 _ _ _ HA2; have p2 := cell_of_row w6 w3.heap.size 2 _ _ _ HA2; simp only [List.getElem?_toArray, List.getElem?_cons_zero, List.getElem?_cons_succ] at p0 p1 p2; have R0 := Lib.hid ((hb6.block w.heap.size (by omega)).trans G0.out); have R1 := Lib.hid ((hb6.block (w.heap.size + 1) (by omega)).trans G1.out); have r0 := cell_of_row w6 w.heap.size 0 _ _ _ R0.out; have r1 := cell_of_row w6 w.heap.size 1 _ _ _ R0.out; have r2 := cell_of_row w6 w.heap.size 2 _ _ _ R0.out; have s0 := cell_of_row w6 (w.heap.size + 1) 0 _ _ _ R1.out; have s1 := cell_of_row w6 (w.heap.size + 1) 1 _ _ _ R1.out; have s2 := cell_of_row w6 (w.heap.size + 1) 2 _ _ _ R1.out; simp only [List.getElem?_toArray, List.getElem?_cons_zero, List.getElem?_cons_succ] at r0 r1 r2 s0 s1 s2; have f0 := fun o => frozen_of_row w6 w.heap.size o _ _ R0.out; have f1 := fun o => frozen_of_row w6 (w.heap.size + 1) o _ _ R1.out; have Hb := Lib.hid hb6; clear HA2 hb6 hch6)))
    go_wp2_with fail
    refine bodyPost_ret (v := .tuple #[.int .i64 op, .agg #[.int .i64 a.ty, .int .i64 a.n, .string a.s], .agg #[.int .i64 b.ty, .int .i64 b.n, .string b.s]]) ?_ rfl ⟨op, a, b, rfl, ha, hbs, ?_⟩
    · simp [results, Try.results7, go_sem, r0, r1, r2, s0, s1, s2]
    · iterate 6 refine below_set ?_ (by omega) _
      exact up.trans (Hb.out.mono (by omega))
  · have R0 := Lib.hid ((hb5.block w.heap.size (by omega)).trans G0.out)
    have R1 := Lib.hid ((hb5.block (w.heap.size + 1) (by omega)).trans G1.out)
    have r0 := cell_of_row w5 w.heap.size 0 _ _ _ R0.out
    have r1 := cell_of_row w5 w.heap.size 1 _ _ _ R0.out
    have r2 := cell_of_row w5 w.heap.size 2 _ _ _ R0.out
    have s0 := cell_of_row w5 (w.heap.size + 1) 0 _ _ _ R1.out
    have s1 := cell_of_row w5 (w.heap.size + 1) 1 _ _ _ R1.out
    have s2 := cell_of_row w5 (w.heap.size + 1) 2 _ _ _ R1.out
    simp only [List.getElem?_toArray, List.getElem?_cons_zero, List.getElem?_cons_succ] at r0 r1 r2 s0 s1 s2
    have f0 := fun o => frozen_of_row w5 w.heap.size o _ _ R0.out
    have f1 := fun o => frozen_of_row w5 (w.heap.size + 1) o _ _ R1.out
    go_wp2_with fail
    go_region_held3 (fun w' => w'.cell? ⟨w3.heap.size, 0, none⟩ = some (.int .i64 a.ty) ∧ w'.cell? ⟨w3.heap.size, 1, none⟩ = some (.int .i64 a.n) ∧ w'.cell? ⟨w3.heap.size, 2, none⟩ = some (.string a.s)) (first | with_reducible exact ⟨q0, q1, q2⟩ | (with_reducible (refine ⟨?_, ?_, ?_⟩ <;> (repeat (first | apply cell_drew | apply cell_set_ne n0 | apply cell_set_ne n1)) <;> assumption)) | go_keep) (fail)
    go_wp2_with fail
    refine bodyPost_ret (v := .tuple #[.int .i64 op, .agg #[.int .i64 a.ty, .int .i64 a.n, .string a.s], .agg #[.int .i64 a.ty, .int .i64 a.n, .string a.s]]) ?_ rfl ⟨op, a, a, rfl, ha, ha, ?_⟩
    · simp [results, Try.results7, go_sem, r0, r1, r2, s0, s1, s2]
    · refine Below.drew ?_
      iterate 6 refine below_set ?_ (by omega) _
      exact up.trans (hb5.mono (by omega))
end Go.Proofs.Ytaapmimabbmdbaa
