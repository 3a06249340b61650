/- Draws: what the laws on zones draw. -/
import Derived.Test.YtaapmimabbmdbaaD9
namespace Go.Proofs.Ytaapmimabbmdbaa
open Go.Sort Go.ChangeShapes Go.WideShapes Go.ChangeAt Go.RowKit Go.Lb

set_option maxRecDepth 20000 in
set_option maxHeartbeats 4000000 in
theorem spec_DrawVals (code : List UInt8) (x : Value) (w : World) {lo hi : Nat} (hx : RdB w lo hi x code) (hhi : hi ≤ w.heap.size) (hn : code.length ≤ 1048576) :
    Calls Try.prog 14 #[x] w fun e w' => ∃ (v : Value) (l : List V), e = .returned v ∧ RdV w' w.heap.size w'.heap.size v l ∧ 0 < l.length ∧ l.length ≤ 20 ∧ (∀ x ∈ l, x.s.size ≤ 100) ∧ Below w.heap.size w w' := by
  go_enter Try.func14, Try.ntmps14
  go_wp2_with fail
  refine (spec_l1New code x w hx hhi hn).mono ?_
  rintro e w1 ⟨g, rfl, hg, hb1, hd1⟩
  go_wp2_with fail
  refine (spec_l5Draw w1 g hd1).mono ?_
  rintro e w2 ⟨v, rfl, ⟨l, ⟨hown, hsm⟩, hl0, hll⟩, hch2, hd2⟩
  go_wp2_with fail
  go_ret
  exact ⟨v, l, rfl, hown.rdV.more hb1.size (Nat.le_refl _), hl0, hll, hsm, chg_below hb1 hch2 hg (Nat.le_refl _)⟩
set_option maxRecDepth 20000 in
set_option maxHeartbeats 4000000 in
theorem spec_DrawInZone (code : List UInt8) (x : Value) (w : World) {lo hi : Nat} (hx : RdB w lo hi x code) (hhi : hi ≤ w.heap.size) (hn : code.length ≤ 1048576) :
    Calls Try.prog 17 #[x] w fun e w' => ∃ (z : Z) (x : V), e = .returned (.tuple #[.agg #[.int .i64 z.lo.ty, .int .i64 z.lo.n, .string z.lo.s, .int .i64 z.hi.ty, .int .i64 z.hi.n, .string z.hi.s], .agg #[.int .i64 x.ty, .int .i64 x.n, .string x.s]]) ∧ Below w.heap.size w w' := by
  have up := up_a2 w (.cells #[.int .i64 0, .int .i64 0, .string ⟨#[]⟩, .int .i64 0, .int .i64 0, .string ⟨#[]⟩] 34) (.cells #[.int .i64 0, .int .i64 0, .string ⟨#[]⟩] 25)
  have hx0 := hx.below up hhi
  have G0 := heap_alloc_new w (.cells #[.int .i64 0, .int .i64 0, .string ⟨#[]⟩, .int .i64 0, .int .i64 0, .string ⟨#[]⟩] 34)
  have G0 := Lib.hid ((((Below.refl _ _).alloc (Nat.le_refl _) (.cells #[.int .i64 0, .int .i64 0, .string ⟨#[]⟩] 25)).block w.heap.size (by simp)).trans G0)
  have G1 := heap_alloc_new (w.alloc (.cells #[.int .i64 0, .int .i64 0, .string ⟨#[]⟩, .int .i64 0, .int .i64 0, .string ⟨#[]⟩] 34)) (.cells #[.int .i64 0, .int .i64 0, .string ⟨#[]⟩] 25)
  simp only [World.size_alloc] at G1
  have G1 := Lib.hid G1
  go_enter Try.func17, Try.ntmps17
  go_wp2_with fail
  have hs : ((w.alloc (.cells #[.int .i64 0, .int .i64 0, .string ⟨#[]⟩, .int .i64 0, .int .i64 0, .string ⟨#[]⟩] 34)).alloc (.cells #[.int .i64 0, .int .i64 0, .string ⟨#[]⟩] 25)).heap.size = w.heap.size + 1 + 1 := by simp
  have hC := spec_l1New code x _ hx0 (by rw [hs]; omega) hn
  generalize ((w.alloc (.cells #[.int .i64 0, .int .i64 0, .string ⟨#[]⟩, .int .i64 0, .int .i64 0, .string ⟨#[]⟩] 34)).alloc (.cells #[.int .i64 0, .int .i64 0, .string ⟨#[]⟩] 25)) = W0 at *
  refine hC.mono ?_
  clear hC
  rintro e w1 ⟨g, rfl, hg, hb1, hd1⟩
  rw [hs] at hg hb1
  go_wp2_with fail
  refine (spec_l10Zone w1 g hd1).mono ?_
  rintro e w2 ⟨_, rfl, ⟨z, x, rfl⟩, hch2, hd2⟩
  have hbE := chg_below hb1 hch2 hg (by omega)
  have R0 := Lib.hid ((hbE.block w.heap.size (by omega)).trans G0.out)
  have R1 := Lib.hid ((hbE.block (w.heap.size + 1) (by omega)).trans G1.out)
  have r0 := cell_of_row w2 w.heap.size 0 _ _ _ R0.out
  have r1 := cell_of_row w2 w.heap.size 1 _ _ _ R0.out
  have r2 := cell_of_row w2 w.heap.size 2 _ _ _ R0.out
  have r3 := cell_of_row w2 w.heap.size 3 _ _ _ R0.out
  have r4 := cell_of_row w2 w.heap.size 4 _ _ _ R0.out
  have r5 := cell_of_row w2 w.heap.size 5 _ _ _ R0.out
  have s0 := cell_of_row w2 (w.heap.size + 1) 0 _ _ _ R1.out
  have s1 := cell_of_row w2 (w.heap.size + 1) 1 _ _ _ R1.out
  have s2 := cell_of_row w2 (w.heap.size + 1) 2 _ _ _ R1.out
  simp only [List.getElem?_toArray, List.getElem?_cons_zero, List.getElem?_cons_succ] at r0 r1 r2 r3 r4 r5 s0 s1 s2
  have f0 := fun o => frozen_of_row w2 w.heap.size o _ _ R0.out
  have f1 := fun o => frozen_of_row w2 (w.heap.size + 1) o _ _ R1.out
  go_wp2_with fail
  refine bodyPost_ret (v := .tuple #[.agg #[.int .i64 z.lo.ty, .int .i64 z.lo.n, .string z.lo.s, .int .i64 z.hi.ty, .int .i64 z.hi.n, .string z.hi.s], .agg #[.int .i64 x.ty, .int .i64 x.n, .string x.s]]) ?_ rfl ⟨z, x, rfl, ?_⟩
  · simp [results, Try.results17, go_sem, r0, r1, r2, r3, r4, r5, s0, s1, s2]
  · iterate 9 refine below_set ?_ (by omega) _
    exact up.trans (hbE.mono (by omega))
set_option maxRecDepth 20000 in
set_option maxHeartbeats 4000000 in
theorem spec_DrawMayHold1 (code : List UInt8) (x : Value) (w : World) {lo hi : Nat} (hx : RdB w lo hi x code) (hhi : hi ≤ w.heap.size) (hn : code.length ≤ 1048576) :
    Calls Try.prog 15 #[x] w fun e w' => ∃ (op : Int) (z : Z) (x : V), e = .returned (.tuple #[.int .i64 op, .agg #[.int .i64 z.lo.ty, .int .i64 z.lo.n, .string z.lo.s, .int .i64 z.hi.ty, .int .i64 z.hi.n, .string z.hi.s], .agg #[.int .i64 x.ty, .int .i64 x.n, .string x.s]]) ∧ Below w.heap.size w w' := by
  have up := up_a2 w (.cells #[.int .i64 0, .int .i64 0, .string ⟨#[]⟩, .int .i64 0, .int .i64 0, .string ⟨#[]⟩] 34) (.cells #[.int .i64 0, .int .i64 0, .string ⟨#[]⟩] 25)
  have hx0 := hx.below up hhi
  have G0 := heap_alloc_new w (.cells #[.int .i64 0, .int .i64 0, .string ⟨#[]⟩, .int .i64 0, .int .i64 0, .string ⟨#[]⟩] 34)
  have G0 := Lib.hid ((((Below.refl _ _).alloc (Nat.le_refl _) (.cells #[.int .i64 0, .int .i64 0, .string ⟨#[]⟩] 25)).block w.heap.size (by simp)).trans G0)
  have G1 := heap_alloc_new (w.alloc (.cells #[.int .i64 0, .int .i64 0, .string ⟨#[]⟩, .int .i64 0, .int .i64 0, .string ⟨#[]⟩] 34)) (.cells #[.int .i64 0, .int .i64 0, .string ⟨#[]⟩] 25)
  simp only [World.size_alloc] at G1
  have G1 := Lib.hid G1
  go_enter Try.func15, Try.ntmps15
  go_wp2_with fail
  have hs : ((w.alloc (.cells #[.int .i64 0, .int .i64 0, .string ⟨#[]⟩, .int .i64 0, .int .i64 0, .string ⟨#[]⟩] 34)).alloc (.cells #[.int .i64 0, .int .i64 0, .string ⟨#[]⟩] 25)).heap.size = w.heap.size + 1 + 1 := by simp
  have hC := spec_l1New code x _ hx0 (by rw [hs]; omega) hn
  generalize ((w.alloc (.cells #[.int .i64 0, .int .i64 0, .string ⟨#[]⟩, .int .i64 0, .int .i64 0, .string ⟨#[]⟩] 34)).alloc (.cells #[.int .i64 0, .int .i64 0, .string ⟨#[]⟩] 25)) = W0 at *
  refine hC.mono ?_
  clear hC
  rintro e w1 ⟨g, rfl, hg, hb1, hd1⟩
  rw [hs] at hg hb1
  go_wp2_with fail
  refine (spec_l10Op w1 g hd1).mono ?_
  rintro e w2 ⟨_, rfl, ⟨op, rfl, hop1, hop2⟩, hch2, hd2⟩
  have hb2 := chg_below hb1 hch2 hg (by omega)
  clear hb1 hch2 hd1 hop1 hop2
  go_wp2_with fail
  refine (spec_l10Zone w2 g hd2).mono ?_
  rintro e w3 ⟨_, rfl, ⟨z, x, rfl⟩, hch3, hd3⟩
  have hb3 := chg_below hb2 hch3 hg (by omega)
  clear hb2 hch3 hd2 hd3
  have hz3 := hb3.size
  go_wp2_with fail
  have L0 := heap_alloc_new w3 (.cells #[.int .i64 z.lo.ty, .int .i64 z.lo.n, .string z.lo.s, .int .i64 z.hi.ty, .int .i64 z.hi.n, .string z.hi.s] 34)
  have L0 := ((((Below.refl _ _).alloc (Nat.le_refl _) (.cells #[.int .i64 x.ty, .int .i64 x.n, .string x.s] 25)).block w3.heap.size (by simp)).trans L0)
  have L1 := heap_alloc_new (w3.alloc (.cells #[.int .i64 z.lo.ty, .int .i64 z.lo.n, .string z.lo.s, .int .i64 z.hi.ty, .int .i64 z.hi.n, .string z.hi.s] 34)) (.cells #[.int .i64 x.ty, .int .i64 x.n, .string x.s] 25)
  simp only [World.size_alloc] at L1
  have hbE := (hb3.alloc (by omega) (.cells #[.int .i64 z.lo.ty, .int .i64 z.lo.n, .string z.lo.s, .int .i64 z.hi.ty, .int .i64 z.hi.n, .string z.hi.s] 34)).alloc (by simp; omega) (.cells #[.int .i64 x.ty, .int .i64 x.n, .string x.s] 25)
  generalize ((w3.alloc (.cells #[.int .i64 z.lo.ty, .int .i64 z.lo.n, .string z.lo.s, .int .i64 z.hi.ty, .int .i64 z.hi.n, .string z.hi.s] 34)).alloc (.cells #[.int .i64 x.ty, .int .i64 x.n, .string x.s] 25)) = w4 at *
  have p0 := cell_of_row w4 w3.heap.size 0 _ _ _ L0
  have p1 := cell_of_row w4 w3.heap.size 1 _ _ _ L0
  have p2 := cell_of_row w4 w3.heap.size 2 _ _ _ L0
  have p3 := cell_of_row w4 w3.heap.size 3 _ _ _ L0
  have p4 := cell_of_row w4 w3.heap.size 4 _ _ _ L0
  have p5 := cell_of_row w4 w3.heap.size 5 _ _ _ L0
  have q0 := cell_of_row w4 (w3.heap.size + 1) 0 _ _ _ L1
  have q1 := cell_of_row w4 (w3.heap.size + 1) 1 _ _ _ L1
  have q2 := cell_of_row w4 (w3.heap.size + 1) 2 _ _ _ L1
  simp only [List.getElem?_toArray, List.getElem?_cons_zero, List.getElem?_cons_succ] at p0 p1 p2 p3 p4 p5 q0 q1 q2
  have R0 := Lib.hid ((hbE.block w.heap.size (by omega)).trans G0.out)
  have R1 := Lib.hid ((hbE.block (w.heap.size + 1) (by omega)).trans G1.out)
  have r0 := cell_of_row w4 w.heap.size 0 _ _ _ R0.out
  have r1 := cell_of_row w4 w.heap.size 1 _ _ _ R0.out
  have r2 := cell_of_row w4 w.heap.size 2 _ _ _ R0.out
  have r3 := cell_of_row w4 w.heap.size 3 _ _ _ R0.out
  have r4 := cell_of_row w4 w.heap.size 4 _ _ _ R0.out
  have r5 := cell_of_row w4 w.heap.size 5 _ _ _ R0.out
  have s0 := cell_of_row w4 (w.heap.size + 1) 0 _ _ _ R1.out
  have s1 := cell_of_row w4 (w.heap.size + 1) 1 _ _ _ R1.out
  have s2 := cell_of_row w4 (w.heap.size + 1) 2 _ _ _ R1.out
  simp only [List.getElem?_toArray, List.getElem?_cons_zero, List.getElem?_cons_succ] at r0 r1 r2 r3 r4 r5 s0 s1 s2
  have f0 := fun o => frozen_of_row w4 w.heap.size o _ _ R0.out
  have f1 := fun o => frozen_of_row w4 (w.heap.size + 1) o _ _ R1.out
  have n0 : w3.heap.size ≠ w.heap.size := by omega
  have n1 : w3.heap.size ≠ w.heap.size + 1 := by omega
  have n2 : w3.heap.size + 1 ≠ w.heap.size := by omega
  have n3 : w3.heap.size + 1 ≠ w.heap.size + 1 := by omega
  go_region_held3 (fun w' => w'.cell? ⟨w3.heap.size, 0, none⟩ = some (.int .i64 z.lo.ty) ∧ w'.cell? ⟨w3.heap.size, 1, none⟩ = some (.int .i64 z.lo.n) ∧ w'.cell? ⟨w3.heap.size, 2, none⟩ = some (.string z.lo.s) ∧ w'.cell? ⟨w3.heap.size, 3, none⟩ = some (.int .i64 z.hi.ty) ∧ w'.cell? ⟨w3.heap.size, 4, none⟩ = some (.int .i64 z.hi.n) ∧ w'.cell? ⟨w3.heap.size, 5, none⟩ = some (.string z.hi.s) ∧ w'.cell? ⟨w3.heap.size + 1, 0, none⟩ = some (.int .i64 x.ty) ∧ w'.cell? ⟨w3.heap.size + 1, 1, none⟩ = some (.int .i64 x.n) ∧ w'.cell? ⟨w3.heap.size + 1, 2, none⟩ = some (.string x.s)) (first | with_reducible exact ⟨p0, p1, p2, p3, p4, p5, q0, q1, q2⟩ | (with_reducible (refine ⟨?_, ?_, ?_, ?_, ?_, ?_, ?_, ?_, ?_⟩ <;> (repeat (first | apply cell_drew | apply cell_set_ne n0 | apply cell_set_ne n1 | apply cell_set_ne n2 | apply cell_set_ne n3)) <;> assumption)) | go_keep) (fail)
  go_wp2_with fail
  refine bodyPost_ret (v := .tuple #[.int .i64 op, .agg #[.int .i64 z.lo.ty, .int .i64 z.lo.n, .string z.lo.s, .int .i64 z.hi.ty, .int .i64 z.hi.n, .string z.hi.s], .agg #[.int .i64 x.ty, .int .i64 x.n, .string x.s]]) ?_ rfl ⟨op, z, x, rfl, ?_⟩
  · simp [results, Try.results15, go_sem, r0, r1, r2, r3, r4, r5, s0, s1, s2]
  · refine Below.drew ?_
    iterate 9 refine below_set ?_ (by omega) _
    exact up.trans (hbE.mono (by omega))
end Go.Proofs.Ytaapmimabbmdbaa
