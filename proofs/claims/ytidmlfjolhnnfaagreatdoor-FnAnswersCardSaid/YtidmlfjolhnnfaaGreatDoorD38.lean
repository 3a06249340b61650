/- Draws: a query and two results. -/
import Derived.Test.YtidmlfjolhnnfaaGreatDoorD37
import Derived.Test.YtidmlfjolhnnfaaGreatDoorJA
import Derived.Test.YtidmlfjolhnnfaaGreatDoorPA3
import Derived.Test.YtidmlfjolhnnfaaGreatDoorXJ
namespace Go.Proofs.YtidmlfjolhnnfaaGreatDoor
open Go.Sort Go.ChangeShapes Go.WideShapes Go.ChangeAt Go.RowKit Go.Lb
theorem chg_setC (w : World) (X o : Nat) (u : Value) : Chg X (X + 1) w (w.setCell ⟨X, o, none⟩ u) := ⟨rfl, rfl, rfl, by simp [World.setCell], fun k hk hne => Below.heap_setCell w ⟨X, o, none⟩ _ k (by show k ≠ X; omega)⟩
theorem chg_at {w w' : World} {g b : Nat} {x : Obj} (hx : w.heap[b]? = some x) (h : Chg g (g + 1) w w') (hb : b ≠ g) : w'.heap[b]? = some x :=
  (h.block b (Array.getElem?_eq_some_iff.1 hx).1 (by omega)).trans hx
theorem set_tenD {w : World} {X : Nat} {c0 v0 c1 v1 c2 v2 c3 v3 c4 v4 c5 v5 c6 v6 c7 v7 c8 v8 c9 v9 : Value} {e : TypeId} (h : w.heap[X]? = some (.cells #[c0, c1, c2, c3, c4, c5, c6, c7, c8, c9] e)) :
    ((((((((((w.setCell ⟨X, 0, none⟩ (v0)).setCell ⟨X, 1, none⟩ (v1)).setCell ⟨X, 2, none⟩ (v2)).setCell ⟨X, 3, none⟩ (v3)).setCell ⟨X, 4, none⟩ (v4)).setCell ⟨X, 5, none⟩ (v5)).setCell ⟨X, 6, none⟩ (v6)).setCell ⟨X, 7, none⟩ (v7)).setCell ⟨X, 8, none⟩ (v8)).setCell ⟨X, 9, none⟩ (v9)).heap[X]? = some (.cells #[v0, v1, v2, v3, v4, v5, v6, v7, v8, v9] e) := by
  have h1 := set1 (o := 9) (a := v9) (set1 (o := 8) (a := v8) (set1 (o := 7) (a := v7) (set1 (o := 6) (a := v6) (set1 (o := 5) (a := v5) (set1 (o := 4) (a := v4) (set1 (o := 3) (a := v3) (set1 (o := 2) (a := v2) (set1 (o := 1) (a := v1) (set1 (o := 0) (a := v0) (h))))))))))
  simpa only [List.setIfInBounds_toArray, List.set_cons_succ, List.set_cons_zero] using h1
/-- What stays while a query and two results are drawn. -/
def DJS (w : World) (g k b M : Nat) (qo z0 z1 : Obj) (sv ov cv : Value) (q : Q) (cols : List Int) (X : World) : Prop :=
  Dr X g ∧ Below k w X ∧ X.heap[b]? = some qo ∧ (X.heap[k]? = some z0 ∧ X.heap[k + 1]? = some z1 ∧ X.heap[k + 1 + 1]? = some z1) ∧ (RdP X (g + 1) M sv q.p.l ∧ RdI X (g + 1) M ov q.out ∧ RdI X (g + 1) M cv cols) ∧ k + 1 + 1 < g ∧ g < b ∧ b < X.heap.size ∧ M ≤ X.heap.size ∧ k ≤ w.heap.size
section
variable {w X Y : World} {g k b M : Nat} {qo z0 z1 : Obj} {sv ov cv : Value} {q : Q} {cols : List Int}
theorem DJS.chg (h : DJS w g k b M qo z0 z1 sv ov cv q cols X) (hc : Chg g (g + 1) X Y) (hd : Dr Y g) : DJS w g k b M qo z0 z1 sv ov cv q cols Y := by
  obtain ⟨h1, h2, h3, ⟨h4, h5, h6⟩, ⟨h7, h8, h9⟩, h10, h11, h12, h13, h14⟩ := h
  have hs := hc.size
  exact ⟨hd, chg_below h2 hc (by omega) h14, chg_cell h3 hc h11, ⟨chg_low h4 hc (by omega), chg_low h5 hc (by omega), chg_low h6 hc (by omega)⟩, ⟨h7.same (.of_chg hc (.inr (Nat.le_refl _)) h13), h8.same (.of_chg hc (.inr (Nat.le_refl _)) h13), h9.same (.of_chg hc (.inr (Nat.le_refl _)) h13)⟩, h10, h11, by omega, by omega, h14⟩
theorem DJS.below (h : DJS w g k b M qo z0 z1 sv ov cv q cols X) (hb : Below X.heap.size X Y) : DJS w g k b M qo z0 z1 sv ov cv q cols Y :=
  h.chg (.of_below hb) (h.1.below hb)
end
set_option maxRecDepth 20000 in
set_option maxHeartbeats 16000000 in
theorem spec_DrawJoined (code : List UInt8) (x : Value) (w : World) {lo hi : Nat} (hx : RdB w lo hi x code) (hhi : hi ≤ w.heap.size) (hn : code.length ≤ 1048576) :
    Calls Tryz.prog 8 #[x] w fun e w' => ∃ (q : Q) (sv ov : Value) (a b : Res) (av bv : Value), e = .returned (.tuple #[.agg #[.int .i64 q.kind, .int .i64 q.p.kind, .int .i64 q.p.col, .int .i64 q.p.op, .int .i64 q.p.v.ty, .int .i64 q.p.v.n, .string q.p.v.s, sv, .int .i64 q.col, ov], .agg #[av, .int .i64 a.n, .bool a.has, .int .i64 a.v.ty, .int .i64 a.v.n, .string a.v.s], .agg #[bv, .int .i64 b.n, .bool b.has, .int .i64 b.v.ty, .int .i64 b.v.n, .string b.v.s]]) ∧ RdP w' 0 w'.heap.size sv q.p.l ∧ RdI w' 0 w'.heap.size ov q.out ∧ RdR w' 0 w'.heap.size av a.rows ∧ RdR w' 0 w'.heap.size bv b.rows ∧ Hid ((a.rows.length ≤ 1048576 ∧ lensR a.rows ≤ 1048576) ∧ b.rows.length ≤ 1048576 ∧ lensR b.rows ≤ 1048576) ∧ Below w.heap.size w w' := by
  have up := up_a3 w (.cells #[.int .i64 0, .int .i64 0, .int .i64 0, .int .i64 0, .int .i64 0, .int .i64 0, .string ⟨#[]⟩, .slice none 0 0, .int .i64 0, .slice none 0 0] 31) (.cells #[.slice none 0 0, .int .i64 0, .bool false, .int .i64 0, .int .i64 0, .string ⟨#[]⟩] 37) (.cells #[.slice none 0 0, .int .i64 0, .bool false, .int .i64 0, .int .i64 0, .string ⟨#[]⟩] 37)
  have hx0 := hx.below up hhi
  have G0 := Lib.hid (show (((w.alloc (.cells #[.int .i64 0, .int .i64 0, .int .i64 0, .int .i64 0, .int .i64 0, .int .i64 0, .string ⟨#[]⟩, .slice none 0 0, .int .i64 0, .slice none 0 0] 31)).alloc (.cells #[.slice none 0 0, .int .i64 0, .bool false, .int .i64 0, .int .i64 0, .string ⟨#[]⟩] 37)).alloc (.cells #[.slice none 0 0, .int .i64 0, .bool false, .int .i64 0, .int .i64 0, .string ⟨#[]⟩] 37)).heap[w.heap.size]? = some _ from alloc_old (alloc_old (heap_alloc_new w (.cells #[.int .i64 0, .int .i64 0, .int .i64 0, .int .i64 0, .int .i64 0, .int .i64 0, .string ⟨#[]⟩, .slice none 0 0, .int .i64 0, .slice none 0 0] 31))))
  have G1 := Lib.hid (show (((w.alloc (.cells #[.int .i64 0, .int .i64 0, .int .i64 0, .int .i64 0, .int .i64 0, .int .i64 0, .string ⟨#[]⟩, .slice none 0 0, .int .i64 0, .slice none 0 0] 31)).alloc (.cells #[.slice none 0 0, .int .i64 0, .bool false, .int .i64 0, .int .i64 0, .string ⟨#[]⟩] 37)).alloc (.cells #[.slice none 0 0, .int .i64 0, .bool false, .int .i64 0, .int .i64 0, .string ⟨#[]⟩] 37)).heap[w.heap.size + 1]? = some _ from alloc_old (heap_new_at (w := w.alloc (.cells #[.int .i64 0, .int .i64 0, .int .i64 0, .int .i64 0, .int .i64 0, .int .i64 0, .string ⟨#[]⟩, .slice none 0 0, .int .i64 0, .slice none 0 0] 31)) (o := (.cells #[.slice none 0 0, .int .i64 0, .bool false, .int .i64 0, .int .i64 0, .string ⟨#[]⟩] 37)) (by simp)))
  have G2 := Lib.hid (show (((w.alloc (.cells #[.int .i64 0, .int .i64 0, .int .i64 0, .int .i64 0, .int .i64 0, .int .i64 0, .string ⟨#[]⟩, .slice none 0 0, .int .i64 0, .slice none 0 0] 31)).alloc (.cells #[.slice none 0 0, .int .i64 0, .bool false, .int .i64 0, .int .i64 0, .string ⟨#[]⟩] 37)).alloc (.cells #[.slice none 0 0, .int .i64 0, .bool false, .int .i64 0, .int .i64 0, .string ⟨#[]⟩] 37)).heap[w.heap.size + 1 + 1]? = some _ from heap_new_at (w := (w.alloc (.cells #[.int .i64 0, .int .i64 0, .int .i64 0, .int .i64 0, .int .i64 0, .int .i64 0, .string ⟨#[]⟩, .slice none 0 0, .int .i64 0, .slice none 0 0] 31)).alloc (.cells #[.slice none 0 0, .int .i64 0, .bool false, .int .i64 0, .int .i64 0, .string ⟨#[]⟩] 37)) (o := (.cells #[.slice none 0 0, .int .i64 0, .bool false, .int .i64 0, .int .i64 0, .string ⟨#[]⟩] 37)) (by simp))
  have hs : (((w.alloc (.cells #[.int .i64 0, .int .i64 0, .int .i64 0, .int .i64 0, .int .i64 0, .int .i64 0, .string ⟨#[]⟩, .slice none 0 0, .int .i64 0, .slice none 0 0] 31)).alloc (.cells #[.slice none 0 0, .int .i64 0, .bool false, .int .i64 0, .int .i64 0, .string ⟨#[]⟩] 37)).alloc (.cells #[.slice none 0 0, .int .i64 0, .bool false, .int .i64 0, .int .i64 0, .string ⟨#[]⟩] 37)).heap.size = w.heap.size + 1 + 1 + 1 := by simp
  obtain ⟨W0, hW0⟩ : ∃ W0, (((w.alloc (.cells #[.int .i64 0, .int .i64 0, .int .i64 0, .int .i64 0, .int .i64 0, .int .i64 0, .string ⟨#[]⟩, .slice none 0 0, .int .i64 0, .slice none 0 0] 31)).alloc (.cells #[.slice none 0 0, .int .i64 0, .bool false, .int .i64 0, .int .i64 0, .string ⟨#[]⟩] 37)).alloc (.cells #[.slice none 0 0, .int .i64 0, .bool false, .int .i64 0, .int .i64 0, .string ⟨#[]⟩] 37)) = W0 := ⟨_, rfl⟩
  rw [hW0] at up hx0 G0 G1 G2 hs
  have HW0 := Lib.hid hW0
  clear hW0
  go_enter Tryz.func8, Tryz.ntmps8
  go_wp2_with fail
  rw [HW0.out]
  clear HW0
  refine (spec_l1New code x W0 hx0 (by rw [hs]; omega) hn).mono ?_
  rintro e w1 ⟨g, rfl, hg, hb1, hd1⟩
  rw [hs] at hg
  have G0 := Lib.hid ((hb1.block _ (by rw [hs]; omega)).trans G0.out)
  have G1 := Lib.hid ((hb1.block _ (by rw [hs]; omega)).trans G1.out)
  have G2 := Lib.hid ((hb1.block _ (by rw [hs]; omega)).trans G2.out)
  have hz1 := hb1.size
  rw [hs] at hz1
  have hb1 : Below w.heap.size w w1 := up.trans (hb1.mono (by rw [hs]; omega))
  have hlt1 := hd1.lt
  clear hx0 up hs
  go_wp2_with fail
  refine (spec_l4Cols_t w1 g hd1).mono ?_
  rintro e w2 ⟨cv, rfl, ⟨cols, hcols, hok, hcl⟩, hch2, hd2⟩
  obtain ⟨Ac, cc, rfl, -, -⟩ := hcols.form
  have Hok := Lib.hid hok
  have z2 := hch2.size
  replace G0 := Lib.hid (chg_low G0.out hch2 (by omega))
  replace G1 := Lib.hid (chg_low G1.out hch2 (by omega))
  replace G2 := Lib.hid (chg_low G2.out hch2 (by omega))
  have hb2 := chg_below hb1 hch2 (show w.heap.size ≤ g by omega) (Nat.le_refl _)
  clear hch2 hb1 hd1 hok
  go_wp2_with fail
  refine (spec_l12Any cols _ w2 g hd2 (hcols.more (by omega) (Nat.le_refl _)) (Nat.le_refl _) Hok.out).mono ?_
  rintro e w4 ⟨_, rfl, ⟨q, sv, ov, rfl, hrp, hri, hqk⟩, hch4, hd4⟩
  obtain ⟨As, cs, rfl, -, -⟩ := hrp.form
  obtain ⟨Ao, co, rfl, -, -⟩ := hri.form
  have z4 := hch4.size
  have up5 := up_a1 w4 (.cells #[.int .i64 q.kind, .int .i64 q.p.kind, .int .i64 q.p.col, .int .i64 q.p.op, .int .i64 q.p.v.ty, .int .i64 q.p.v.n, .string q.p.v.s, (.slice As q.p.l.length cs), .int .i64 q.col, (.slice Ao q.out.length co)] 31)
  have z5 : (w4.alloc (.cells #[.int .i64 q.kind, .int .i64 q.p.kind, .int .i64 q.p.col, .int .i64 q.p.op, .int .i64 q.p.v.ty, .int .i64 q.p.v.n, .string q.p.v.s, (.slice As q.p.l.length cs), .int .i64 q.col, (.slice Ao q.out.length co)] 31)).heap.size = w4.heap.size + 1 := by simp
  have hout : q.out.length ≤ 5 := hqk.out.2.2
  have ST0 : DJS w g w.heap.size w4.heap.size w4.heap.size (.cells #[.int .i64 q.kind, .int .i64 q.p.kind, .int .i64 q.p.col, .int .i64 q.p.op, .int .i64 q.p.v.ty, .int .i64 q.p.v.n, .string q.p.v.s, (.slice As q.p.l.length cs), .int .i64 q.col, (.slice Ao q.out.length co)] 31) (.cells #[.int .i64 0, .int .i64 0, .int .i64 0, .int .i64 0, .int .i64 0, .int .i64 0, .string ⟨#[]⟩, .slice none 0 0, .int .i64 0, .slice none 0 0] 31) (.cells #[.slice none 0 0, .int .i64 0, .bool false, .int .i64 0, .int .i64 0, .string ⟨#[]⟩] 37) (.slice As q.p.l.length cs) (.slice Ao q.out.length co) (.slice Ac cols.length cc) q cols (w4.alloc (.cells #[.int .i64 q.kind, .int .i64 q.p.kind, .int .i64 q.p.col, .int .i64 q.p.op, .int .i64 q.p.v.ty, .int .i64 q.p.v.n, .string q.p.v.s, (.slice As q.p.l.length cs), .int .i64 q.col, (.slice Ao q.out.length co)] 31)) :=
    ⟨hd4.below up5, (chg_below hb2 hch4 (show w.heap.size ≤ g by omega) (Nat.le_refl _)).trans (up5.mono (by omega)), heap_alloc_new _ _,
      ⟨alloc_old (chg_low G0.out hch4 (by omega)), alloc_old (chg_low G1.out hch4 (by omega)), alloc_old (chg_low G2.out hch4 (by omega))⟩,
      ⟨(hrp.below up5 (Nat.le_refl _)).more (by omega) (Nat.le_refl _), RdI.more (hri.below up5 (Nat.le_refl _)) (by omega) (Nat.le_refl _), RdI.more ((hcols.same (.of_chg hch4 (.inr (by omega)) (Nat.le_refl _))).below up5 (by omega)) (by omega) (by omega)⟩, by omega, hd4.lt, by omega, by omega, Nat.le_refl _⟩
  have ST := Lib.hid ST0
  obtain ⟨W5, hW5⟩ : ∃ W5, w4.alloc (.cells #[.int .i64 q.kind, .int .i64 q.p.kind, .int .i64 q.p.col, .int .i64 q.p.op, .int .i64 q.p.v.ty, .int .i64 q.p.v.n, .string q.p.v.s, (.slice As q.p.l.length cs), .int .i64 q.col, (.slice Ao q.out.length co)] 31) = W5 := ⟨_, rfl⟩
  rw [hW5] at ST z5
  have HW5 := Lib.hid hW5
  clear hW5 ST0 up5 hch4 hb2 hd2 hd4 G0 G1 G2 hcols hrp hri
  have hq2 := hqk.out.2.2
  go_upto_region 4 with fail
  rw [HW5.out]
  clear HW5
  generalize w4.heap.size = b7 at *
  refine wp_region_T (S := fun w' => w'.heap[b7]? = some (.cells #[.int .i64 q.kind, .int .i64 q.p.kind, .int .i64 q.p.col, .int .i64 q.p.op, .int .i64 q.p.v.ty, .int .i64 q.p.v.n, .string q.p.v.s, (.slice As q.p.l.length cs), .int .i64 q.col, (.slice Ao q.out.length co)] 31)) (n := 13) (by kernel_rfl) ?_
  obtain ⟨X0, hX0⟩ : ∃ X0, W5.drew = X0 := ⟨_, rfl⟩
  have HB0 : Below W5.heap.size W5 X0 := hX0 ▸ (Below.refl _ _).drew
  rw [hX0]
  clear hX0
  replace ST := Lib.hid (ST.out.below HB0)
  have F0 := ST.out.2.2.1
  clear HB0
  refine wpAnyT_take (i := 0) (oi := _) (v := ?_) rfl (by kernel_rfl) (by kernel_rfl) (by kernel_rfl) (by kernel_rfl) (fun _ _ _ h => h) (Or.inl ⟨by rfl, ?_⟩) F0 ?_
  rotate_left
  · (intro w' hSw; (try dsimp only at hSw); have r0 := cell_of_row w' b7 0 _ _ _ hSw; have r1 := cell_of_row w' b7 1 _ _ _ hSw; have r2 := cell_of_row w' b7 2 _ _ _ hSw; have r3 := cell_of_row w' b7 3 _ _ _ hSw; have r4 := cell_of_row w' b7 4 _ _ _ hSw; have r5 := cell_of_row w' b7 5 _ _ _ hSw; have r6 := cell_of_row w' b7 6 _ _ _ hSw; have r7 := cell_of_row w' b7 7 _ _ _ hSw; have r8 := cell_of_row w' b7 8 _ _ _ hSw; have r9 := cell_of_row w' b7 9 _ _ _ hSw; simp only [List.getElem?_toArray, List.getElem?_cons_zero, List.getElem?_cons_succ] at r0 r1 r2 r3 r4 r5 r6 r7 r8 r9; clear hSw; go_simp) <;> with_reducible rfl
  try simp only [Act.put, List.setIfInBounds_toArray, List.set_cons_zero, List.set_cons_succ]
  refine wpAnyT_take (i := 1) (oi := _) (v := ?_) rfl (by kernel_rfl) (by kernel_rfl) (by kernel_rfl) (by kernel_rfl) (fun _ _ _ h => h) (Or.inl ⟨by rfl, ?_⟩) F0 ?_
  rotate_left
  · (intro w' hSw; (try dsimp only at hSw); have r0 := cell_of_row w' b7 0 _ _ _ hSw; have r1 := cell_of_row w' b7 1 _ _ _ hSw; have r2 := cell_of_row w' b7 2 _ _ _ hSw; have r3 := cell_of_row w' b7 3 _ _ _ hSw; have r4 := cell_of_row w' b7 4 _ _ _ hSw; have r5 := cell_of_row w' b7 5 _ _ _ hSw; have r6 := cell_of_row w' b7 6 _ _ _ hSw; have r7 := cell_of_row w' b7 7 _ _ _ hSw; have r8 := cell_of_row w' b7 8 _ _ _ hSw; have r9 := cell_of_row w' b7 9 _ _ _ hSw; simp only [List.getElem?_toArray, List.getElem?_cons_zero, List.getElem?_cons_succ] at r0 r1 r2 r3 r4 r5 r6 r7 r8 r9; clear hSw; go_simp) <;> with_reducible rfl
  try simp only [Act.put, List.setIfInBounds_toArray, List.set_cons_zero, List.set_cons_succ]
  refine wpAnyT_take (i := 2) (oi := _) (v := ?_) rfl (by kernel_rfl) (by kernel_rfl) (by kernel_rfl) (by kernel_rfl) (fun _ _ _ h => h) (Or.inl ⟨by rfl, ?_⟩) F0 ?_
  rotate_left
  · (intro w' hSw; (try dsimp only at hSw); go_simp) <;> with_reducible rfl
  try simp only [Act.put, List.setIfInBounds_toArray, List.set_cons_zero, List.set_cons_succ]
  refine wpAnyT_take (i := 3) (oi := _) (v := ?_) rfl (by kernel_rfl) (by kernel_rfl) (by kernel_rfl) (by kernel_rfl) (fun _ _ _ h => h) (Or.inl ⟨by rfl, ?_⟩) F0 ?_
  rotate_left
  · (intro w' hSw; (try dsimp only at hSw); go_simp) <;> with_reducible rfl
  try simp only [Act.put, List.setIfInBounds_toArray, List.set_cons_zero, List.set_cons_succ]
  refine wpAnyT_take (i := 6) (oi := _) (v := ?_) rfl (by kernel_rfl) (by kernel_rfl) (by kernel_rfl) (by kernel_rfl) (fun _ _ _ h => h) (Or.inl ⟨by rfl, ?_⟩) F0 ?_
  rotate_left
  · (intro w' hSw; (try dsimp only at hSw); have r0 := cell_of_row w' b7 0 _ _ _ hSw; have r1 := cell_of_row w' b7 1 _ _ _ hSw; have r2 := cell_of_row w' b7 2 _ _ _ hSw; have r3 := cell_of_row w' b7 3 _ _ _ hSw; have r4 := cell_of_row w' b7 4 _ _ _ hSw; have r5 := cell_of_row w' b7 5 _ _ _ hSw; have r6 := cell_of_row w' b7 6 _ _ _ hSw; have r7 := cell_of_row w' b7 7 _ _ _ hSw; have r8 := cell_of_row w' b7 8 _ _ _ hSw; have r9 := cell_of_row w' b7 9 _ _ _ hSw; simp only [List.getElem?_toArray, List.getElem?_cons_zero, List.getElem?_cons_succ] at r0 r1 r2 r3 r4 r5 r6 r7 r8 r9; clear hSw; go_simp) <;> with_reducible rfl
  try simp only [Act.put, List.setIfInBounds_toArray, List.set_cons_zero, List.set_cons_succ]
  refine wpAnyT_take (i := 7) (oi := _) (v := ?_) rfl (by kernel_rfl) (by kernel_rfl) (by kernel_rfl) (by kernel_rfl) (fun _ _ _ h => h) (Or.inl ⟨by rfl, ?_⟩) F0 ?_
  rotate_left
  · (intro w' hSw; (try dsimp only at hSw); go_simp) <;> with_reducible rfl
  try simp only [Act.put, List.setIfInBounds_toArray, List.set_cons_zero, List.set_cons_succ]
  refine wpAnyT_take (i := 8) (oi := _) (v := ?_) rfl (by kernel_rfl) (by kernel_rfl) (by kernel_rfl) (by kernel_rfl) (fun _ _ _ h => h) (Or.inl ⟨by rfl, ?_⟩) F0 ?_
  rotate_left
  · (intro w' hSw; (try dsimp only at hSw); go_simp) <;> with_reducible rfl
  try simp only [Act.put, List.setIfInBounds_toArray, List.set_cons_zero, List.set_cons_succ]
  refine wpAnyT_one (k := 4) (o := _) (by kernel_rfl) rfl rfl ?_
  intro K hK
  go_simp
  refine (spec_l4Rows_i cols _ 4 X0 g ST.out.1 ST.out.2.2.2.2.1.2.2 ST.out.2.2.2.2.2.2.2.2.1 (by omega) (by decide)).mono ?_
  rintro e X1 ⟨lv1, rfl, ⟨l1, hown, hll1, hsm⟩, hch, hd⟩
  have R1 := Lib.hid hown.rdR
  obtain ⟨Al1, cl1, rfl, -, -⟩ := R1.out.form
  have Hs1 := Lib.hid (lensR_smallI hsm (by omega))
  have hg1 : g < X0.heap.size := ST.out.1.lt
  have hx1 := hch.size
  replace ST := Lib.hid (ST.out.chg hch hd)
  clear hown hsm hch hd
  refine hK.out _ _ (fun _ => ST.out.2.2.1) ?_
  clear hK
  try simp only [Act.put, List.setIfInBounds_toArray, List.set_cons_zero, List.set_cons_succ]
  refine wpAnyT_one (k := 5) (o := _) (by kernel_rfl) rfl rfl ?_
  intro K hK
  go_simp
  refine (spec_Answer q _ _ l1 _ X1 ST.out.2.2.2.2.1.1 ST.out.2.2.2.2.2.2.2.2.1 ST.out.2.2.2.2.1.2.1 ST.out.2.2.2.2.2.2.2.2.1 R1.out (Nat.le_refl _) ⟨by omega, Hs1.out⟩ (Nat.le_trans hq2 (by decide))).mono ?_
  rintro e X2 ⟨va1, rfl, hown, hb⟩
  have T1 := Lib.hid hown.rdR
  obtain ⟨Aa1, ca1, rfl, -, -⟩ := T1.out.form
  have Hz1 := Lib.hid (answer_sizes (l := l1) hq2 (by omega))
  replace ST := Lib.hid (ST.out.below hb)
  have hx2 := hb.size
  clear hown hb
  refine hK.out _ _ (fun _ => ST.out.2.2.1) ?_
  clear hK
  try simp only [Act.put, List.setIfInBounds_toArray, List.set_cons_zero, List.set_cons_succ]
  refine wpAnyT_one (k := 9) (o := _) (by kernel_rfl) rfl rfl ?_
  intro K hK
  go_simp
  refine (spec_l4Rows_i cols _ 4 X2 g ST.out.1 ST.out.2.2.2.2.1.2.2 ST.out.2.2.2.2.2.2.2.2.1 (by omega) (by decide)).mono ?_
  rintro e X3 ⟨lv2, rfl, ⟨l2, hown, hll2, hsm⟩, hch, hd⟩
  have R2 := Lib.hid hown.rdR
  obtain ⟨Al2, cl2, rfl, -, -⟩ := R2.out.form
  have Hs2 := Lib.hid (lensR_smallI hsm (by omega))
  replace ST := Lib.hid (ST.out.chg hch hd)
  have hx3 := hch.size
  replace T1 := Lib.hid (T1.out.same (.of_chg hch (.inr (by omega)) (Nat.le_refl _)))
  clear hown hsm hch hd
  refine hK.out _ _ (fun _ => ST.out.2.2.1) ?_
  clear hK
  try simp only [Act.put, List.setIfInBounds_toArray, List.set_cons_zero, List.set_cons_succ]
  refine wpAnyT_one (k := 10) (o := _) (by kernel_rfl) rfl rfl ?_
  intro K hK
  go_simp
  refine (spec_Answer q _ _ l2 _ X3 ST.out.2.2.2.2.1.1 ST.out.2.2.2.2.2.2.2.2.1 ST.out.2.2.2.2.1.2.1 ST.out.2.2.2.2.2.2.2.2.1 R2.out (Nat.le_refl _) ⟨by omega, Hs2.out⟩ (Nat.le_trans hq2 (by decide))).mono ?_
  rintro e X4 ⟨va2, rfl, hown, hb⟩
  have T2 := Lib.hid hown.rdR
  obtain ⟨Aa2, ca2, rfl, -, -⟩ := T2.out.form
  have Hz2 := Lib.hid (answer_sizes (l := l2) hq2 (by omega))
  replace ST := Lib.hid (ST.out.below hb)
  have hx4 := hb.size
  replace T1 := Lib.hid (T1.out.below hb (by omega))
  clear hown hb
  refine hK.out _ _ (fun _ => ST.out.2.2.1) ?_
  clear hK
  try simp only [Act.put, List.setIfInBounds_toArray, List.set_cons_zero, List.set_cons_succ]
  have SS := Lib.hid ST.out
  obtain ⟨-, hbw, F4, ⟨e0, e1, e2⟩, ⟨hrp, hri, -⟩, hgs⟩ := ST.out
  have Hbw := Lib.hid hbw
  have Hrp := Lib.hid hrp
  have Hri := Lib.hid hri
  have hk2 : w.heap.size + 1 + 1 < g := hgs.1
  have hgb : g < b7 := hgs.2.1
  have hb7 : b7 < X4.heap.size := hgs.2.2.1
  have hM := hgs.2.2.2.1
  clear hbw hrp hri SS ST hgs R1 R2
  have E0 := Lib.hid e0
  have E1 := Lib.hid e1
  have E2 := Lib.hid e2
  have F := Lib.hid F4
  clear e0 e1 e2 F4 F0
  have t0 := cell_of_row X4 (w.heap.size) 0 _ _ _ E0.out
  have t1 := cell_of_row X4 (w.heap.size) 1 _ _ _ E0.out
  have t2 := cell_of_row X4 (w.heap.size) 2 _ _ _ E0.out
  have t3 := cell_of_row X4 (w.heap.size) 3 _ _ _ E0.out
  have t4 := cell_of_row X4 (w.heap.size) 4 _ _ _ E0.out
  have t5 := cell_of_row X4 (w.heap.size) 5 _ _ _ E0.out
  have t6 := cell_of_row X4 (w.heap.size) 6 _ _ _ E0.out
  have t7 := cell_of_row X4 (w.heap.size) 7 _ _ _ E0.out
  have t8 := cell_of_row X4 (w.heap.size) 8 _ _ _ E0.out
  have t9 := cell_of_row X4 (w.heap.size) 9 _ _ _ E0.out
  simp only [List.getElem?_toArray, List.getElem?_cons_zero, List.getElem?_cons_succ] at t0 t1 t2 t3 t4 t5 t6 t7 t8 t9
  have ft := fun o => frozen_of_row X4 (w.heap.size) o _ _ E0.out
  refine wpAnyT_one (k := 11) (o := _) (by kernel_rfl) rfl rfl ?_
  intro K hK
  go_simp
  have hch : Chg (w.heap.size) (w.heap.size + 1) X4 ((((((((((X4.setCell ⟨w.heap.size, 0, none⟩ (.int .i64 q.kind)).setCell ⟨w.heap.size, 1, none⟩ (.int .i64 q.p.kind)).setCell ⟨w.heap.size, 2, none⟩ (.int .i64 q.p.col)).setCell ⟨w.heap.size, 3, none⟩ (.int .i64 q.p.op)).setCell ⟨w.heap.size, 4, none⟩ (.int .i64 q.p.v.ty)).setCell ⟨w.heap.size, 5, none⟩ (.int .i64 q.p.v.n)).setCell ⟨w.heap.size, 6, none⟩ (.string q.p.v.s)).setCell ⟨w.heap.size, 7, none⟩ ((.slice As q.p.l.length cs))).setCell ⟨w.heap.size, 8, none⟩ (.int .i64 q.col)).setCell ⟨w.heap.size, 9, none⟩ ((.slice Ao q.out.length co))) := ((((((((((chg_setC _ _ _ _).trans (chg_setC _ _ _ _)).trans (chg_setC _ _ _ _)).trans (chg_setC _ _ _ _)).trans (chg_setC _ _ _ _)).trans (chg_setC _ _ _ _)).trans (chg_setC _ _ _ _)).trans (chg_setC _ _ _ _)).trans (chg_setC _ _ _ _)).trans (chg_setC _ _ _ _))
  have hsz : ((((((((((X4.setCell ⟨w.heap.size, 0, none⟩ (.int .i64 q.kind)).setCell ⟨w.heap.size, 1, none⟩ (.int .i64 q.p.kind)).setCell ⟨w.heap.size, 2, none⟩ (.int .i64 q.p.col)).setCell ⟨w.heap.size, 3, none⟩ (.int .i64 q.p.op)).setCell ⟨w.heap.size, 4, none⟩ (.int .i64 q.p.v.ty)).setCell ⟨w.heap.size, 5, none⟩ (.int .i64 q.p.v.n)).setCell ⟨w.heap.size, 6, none⟩ (.string q.p.v.s)).setCell ⟨w.heap.size, 7, none⟩ ((.slice As q.p.l.length cs))).setCell ⟨w.heap.size, 8, none⟩ (.int .i64 q.col)).setCell ⟨w.heap.size, 9, none⟩ ((.slice Ao q.out.length co))).heap.size = X4.heap.size := by simp [World.setCell]
  have hE := set_tenD (v0 := .int .i64 q.kind) (v1 := .int .i64 q.p.kind) (v2 := .int .i64 q.p.col) (v3 := .int .i64 q.p.op) (v4 := .int .i64 q.p.v.ty) (v5 := .int .i64 q.p.v.n) (v6 := .string q.p.v.s) (v7 := (.slice As q.p.l.length cs)) (v8 := .int .i64 q.col) (v9 := (.slice Ao q.out.length co)) E0.out
  have hF := Lib.hid (chg_at F.out hch (by omega))
  refine hK.out _ _ (fun _ => hF.out) ?_
  clear hK
  clear t0 t1 t2 t3 t4 t5 t6 t7 t8 t9 ft
  obtain ⟨X5, hY⟩ : ∃ X5, ((((((((((X4.setCell ⟨w.heap.size, 0, none⟩ (.int .i64 q.kind)).setCell ⟨w.heap.size, 1, none⟩ (.int .i64 q.p.kind)).setCell ⟨w.heap.size, 2, none⟩ (.int .i64 q.p.col)).setCell ⟨w.heap.size, 3, none⟩ (.int .i64 q.p.op)).setCell ⟨w.heap.size, 4, none⟩ (.int .i64 q.p.v.ty)).setCell ⟨w.heap.size, 5, none⟩ (.int .i64 q.p.v.n)).setCell ⟨w.heap.size, 6, none⟩ (.string q.p.v.s)).setCell ⟨w.heap.size, 7, none⟩ ((.slice As q.p.l.length cs))).setCell ⟨w.heap.size, 8, none⟩ (.int .i64 q.col)).setCell ⟨w.heap.size, 9, none⟩ ((.slice Ao q.out.length co))) = X5 := ⟨_, rfl⟩
  rw [hY] at hch hsz hE hF
  rw [hY]
  clear hY
  replace E0 := Lib.hid hE
  replace E1 := Lib.hid (chg_at E1.out hch (by omega))
  replace E2 := Lib.hid (chg_at E2.out hch (by omega))
  replace F := hF
  replace Hbw := Lib.hid (Hbw.out.trans (hch.below (show w.heap.size ≤ w.heap.size by omega) (by have := hch.size; omega)))
  replace Hrp := Lib.hid (Hrp.out.same (.of_chg hch (.inr (by omega)) (by omega)))
  replace Hri := Lib.hid (Hri.out.same (.of_chg hch (.inr (by omega)) (by omega)))
  replace T1 := Lib.hid (T1.out.same (.of_chg hch (.inr (by omega)) (by omega)))
  replace T2 := Lib.hid (T2.out.same (.of_chg hch (.inr (by omega)) (by omega)))
  have hx5 : X5.heap.size = X4.heap.size := hsz
  clear hch hsz hE hF
  try simp only [Act.put, List.setIfInBounds_toArray, List.set_cons_zero, List.set_cons_succ]
  have t0 := cell_of_row X5 (w.heap.size + 1) 0 _ _ _ E1.out
  have t1 := cell_of_row X5 (w.heap.size + 1) 1 _ _ _ E1.out
  have t2 := cell_of_row X5 (w.heap.size + 1) 2 _ _ _ E1.out
  have t3 := cell_of_row X5 (w.heap.size + 1) 3 _ _ _ E1.out
  have t4 := cell_of_row X5 (w.heap.size + 1) 4 _ _ _ E1.out
  have t5 := cell_of_row X5 (w.heap.size + 1) 5 _ _ _ E1.out
  simp only [List.getElem?_toArray, List.getElem?_cons_zero, List.getElem?_cons_succ] at t0 t1 t2 t3 t4 t5
  have ft := fun o => frozen_of_row X5 (w.heap.size + 1) o _ _ E1.out
  refine wpAnyT_one (k := 12) (o := _) (by kernel_rfl) rfl rfl ?_
  intro K hK
  go_simp
  have hch : Chg (w.heap.size + 1) (w.heap.size + 1 + 1) X5 ((((((X5.setCell ⟨w.heap.size + 1, 0, none⟩ ((.slice Aa1 (answer q l1).rows.length ca1))).setCell ⟨w.heap.size + 1, 1, none⟩ (.int .i64 (answer q l1).n)).setCell ⟨w.heap.size + 1, 2, none⟩ (.bool (answer q l1).has)).setCell ⟨w.heap.size + 1, 3, none⟩ (.int .i64 (answer q l1).v.ty)).setCell ⟨w.heap.size + 1, 4, none⟩ (.int .i64 (answer q l1).v.n)).setCell ⟨w.heap.size + 1, 5, none⟩ (.string (answer q l1).v.s)) := ((((((chg_setC _ _ _ _).trans (chg_setC _ _ _ _)).trans (chg_setC _ _ _ _)).trans (chg_setC _ _ _ _)).trans (chg_setC _ _ _ _)).trans (chg_setC _ _ _ _))
  have hsz : ((((((X5.setCell ⟨w.heap.size + 1, 0, none⟩ ((.slice Aa1 (answer q l1).rows.length ca1))).setCell ⟨w.heap.size + 1, 1, none⟩ (.int .i64 (answer q l1).n)).setCell ⟨w.heap.size + 1, 2, none⟩ (.bool (answer q l1).has)).setCell ⟨w.heap.size + 1, 3, none⟩ (.int .i64 (answer q l1).v.ty)).setCell ⟨w.heap.size + 1, 4, none⟩ (.int .i64 (answer q l1).v.n)).setCell ⟨w.heap.size + 1, 5, none⟩ (.string (answer q l1).v.s)).heap.size = X5.heap.size := by simp [World.setCell]
  have hE := set_six (v0 := (.slice Aa1 (answer q l1).rows.length ca1)) (v1 := .int .i64 (answer q l1).n) (v2 := .bool (answer q l1).has) (v3 := .int .i64 (answer q l1).v.ty) (v4 := .int .i64 (answer q l1).v.n) (v5 := .string (answer q l1).v.s) E1.out
  have hF := Lib.hid (chg_at F.out hch (by omega))
  refine hK.out _ _ (fun _ => hF.out) ?_
  clear hK
  clear t0 t1 t2 t3 t4 t5 ft
  obtain ⟨X6, hY⟩ : ∃ X6, ((((((X5.setCell ⟨w.heap.size + 1, 0, none⟩ ((.slice Aa1 (answer q l1).rows.length ca1))).setCell ⟨w.heap.size + 1, 1, none⟩ (.int .i64 (answer q l1).n)).setCell ⟨w.heap.size + 1, 2, none⟩ (.bool (answer q l1).has)).setCell ⟨w.heap.size + 1, 3, none⟩ (.int .i64 (answer q l1).v.ty)).setCell ⟨w.heap.size + 1, 4, none⟩ (.int .i64 (answer q l1).v.n)).setCell ⟨w.heap.size + 1, 5, none⟩ (.string (answer q l1).v.s)) = X6 := ⟨_, rfl⟩
  rw [hY] at hch hsz hE hF
  rw [hY]
  clear hY
  replace E0 := Lib.hid (chg_at E0.out hch (by omega))
  replace E1 := Lib.hid hE
  replace E2 := Lib.hid (chg_at E2.out hch (by omega))
  replace F := hF
  replace Hbw := Lib.hid (Hbw.out.trans (hch.below (show w.heap.size ≤ w.heap.size + 1 by omega) (by have := hch.size; omega)))
  replace Hrp := Lib.hid (Hrp.out.same (.of_chg hch (.inr (by omega)) (by omega)))
  replace Hri := Lib.hid (Hri.out.same (.of_chg hch (.inr (by omega)) (by omega)))
  replace T1 := Lib.hid (T1.out.same (.of_chg hch (.inr (by omega)) (by omega)))
  replace T2 := Lib.hid (T2.out.same (.of_chg hch (.inr (by omega)) (by omega)))
  have hx6 : X6.heap.size = X5.heap.size := hsz
  clear hch hsz hE hF
  try simp only [Act.put, List.setIfInBounds_toArray, List.set_cons_zero, List.set_cons_succ]
  have t0 := cell_of_row X6 (w.heap.size + 1 + 1) 0 _ _ _ E2.out
  have t1 := cell_of_row X6 (w.heap.size + 1 + 1) 1 _ _ _ E2.out
  have t2 := cell_of_row X6 (w.heap.size + 1 + 1) 2 _ _ _ E2.out
  have t3 := cell_of_row X6 (w.heap.size + 1 + 1) 3 _ _ _ E2.out
  have t4 := cell_of_row X6 (w.heap.size + 1 + 1) 4 _ _ _ E2.out
  have t5 := cell_of_row X6 (w.heap.size + 1 + 1) 5 _ _ _ E2.out
  simp only [List.getElem?_toArray, List.getElem?_cons_zero, List.getElem?_cons_succ] at t0 t1 t2 t3 t4 t5
  have ft := fun o => frozen_of_row X6 (w.heap.size + 1 + 1) o _ _ E2.out
  refine wpAnyT_one (k := 13) (o := _) (by kernel_rfl) rfl rfl ?_
  intro K hK
  go_simp
  have hch : Chg (w.heap.size + 1 + 1) (w.heap.size + 1 + 1 + 1) X6 ((((((X6.setCell ⟨w.heap.size + 1 + 1, 0, none⟩ ((.slice Aa2 (answer q l2).rows.length ca2))).setCell ⟨w.heap.size + 1 + 1, 1, none⟩ (.int .i64 (answer q l2).n)).setCell ⟨w.heap.size + 1 + 1, 2, none⟩ (.bool (answer q l2).has)).setCell ⟨w.heap.size + 1 + 1, 3, none⟩ (.int .i64 (answer q l2).v.ty)).setCell ⟨w.heap.size + 1 + 1, 4, none⟩ (.int .i64 (answer q l2).v.n)).setCell ⟨w.heap.size + 1 + 1, 5, none⟩ (.string (answer q l2).v.s)) := ((((((chg_setC _ _ _ _).trans (chg_setC _ _ _ _)).trans (chg_setC _ _ _ _)).trans (chg_setC _ _ _ _)).trans (chg_setC _ _ _ _)).trans (chg_setC _ _ _ _))
  have hsz : ((((((X6.setCell ⟨w.heap.size + 1 + 1, 0, none⟩ ((.slice Aa2 (answer q l2).rows.length ca2))).setCell ⟨w.heap.size + 1 + 1, 1, none⟩ (.int .i64 (answer q l2).n)).setCell ⟨w.heap.size + 1 + 1, 2, none⟩ (.bool (answer q l2).has)).setCell ⟨w.heap.size + 1 + 1, 3, none⟩ (.int .i64 (answer q l2).v.ty)).setCell ⟨w.heap.size + 1 + 1, 4, none⟩ (.int .i64 (answer q l2).v.n)).setCell ⟨w.heap.size + 1 + 1, 5, none⟩ (.string (answer q l2).v.s)).heap.size = X6.heap.size := by simp [World.setCell]
  have hE := set_six (v0 := (.slice Aa2 (answer q l2).rows.length ca2)) (v1 := .int .i64 (answer q l2).n) (v2 := .bool (answer q l2).has) (v3 := .int .i64 (answer q l2).v.ty) (v4 := .int .i64 (answer q l2).v.n) (v5 := .string (answer q l2).v.s) E2.out
  have hF := Lib.hid (chg_at F.out hch (by omega))
  refine hK.out _ _ (fun h => absurd rfl h) ?_
  clear hK
  clear t0 t1 t2 t3 t4 t5 ft
  obtain ⟨X7, hY⟩ : ∃ X7, ((((((X6.setCell ⟨w.heap.size + 1 + 1, 0, none⟩ ((.slice Aa2 (answer q l2).rows.length ca2))).setCell ⟨w.heap.size + 1 + 1, 1, none⟩ (.int .i64 (answer q l2).n)).setCell ⟨w.heap.size + 1 + 1, 2, none⟩ (.bool (answer q l2).has)).setCell ⟨w.heap.size + 1 + 1, 3, none⟩ (.int .i64 (answer q l2).v.ty)).setCell ⟨w.heap.size + 1 + 1, 4, none⟩ (.int .i64 (answer q l2).v.n)).setCell ⟨w.heap.size + 1 + 1, 5, none⟩ (.string (answer q l2).v.s)) = X7 := ⟨_, rfl⟩
  rw [hY] at hch hsz hE hF
  rw [hY]
  clear hY
  replace E0 := Lib.hid (chg_at E0.out hch (by omega))
  replace E1 := Lib.hid (chg_at E1.out hch (by omega))
  replace E2 := Lib.hid hE
  replace F := hF
  replace Hbw := Lib.hid (Hbw.out.trans (hch.below (show w.heap.size ≤ w.heap.size + 1 + 1 by omega) (by have := hch.size; omega)))
  replace Hrp := Lib.hid (Hrp.out.same (.of_chg hch (.inr (by omega)) (by omega)))
  replace Hri := Lib.hid (Hri.out.same (.of_chg hch (.inr (by omega)) (by omega)))
  replace T1 := Lib.hid (T1.out.same (.of_chg hch (.inr (by omega)) (by omega)))
  replace T2 := Lib.hid (T2.out.same (.of_chg hch (.inr (by omega)) (by omega)))
  have hx7 : X7.heap.size = X6.heap.size := hsz
  clear hch hsz hE hF
  try simp only [Act.put, List.setIfInBounds_toArray, List.set_cons_zero, List.set_cons_succ]
  refine wpAnyT_done (by kernel_rfl) ?_ _
  have r0 := cell_of_row X7 w.heap.size 0 _ _ _ E0.out
  have r1 := cell_of_row X7 w.heap.size 1 _ _ _ E0.out
  have r2 := cell_of_row X7 w.heap.size 2 _ _ _ E0.out
  have r3 := cell_of_row X7 w.heap.size 3 _ _ _ E0.out
  have r4 := cell_of_row X7 w.heap.size 4 _ _ _ E0.out
  have r5 := cell_of_row X7 w.heap.size 5 _ _ _ E0.out
  have r6 := cell_of_row X7 w.heap.size 6 _ _ _ E0.out
  have r7 := cell_of_row X7 w.heap.size 7 _ _ _ E0.out
  have r8 := cell_of_row X7 w.heap.size 8 _ _ _ E0.out
  have r9 := cell_of_row X7 w.heap.size 9 _ _ _ E0.out
  simp only [List.getElem?_toArray, List.getElem?_cons_zero, List.getElem?_cons_succ] at r0 r1 r2 r3 r4 r5 r6 r7 r8 r9
  have s0 := cell_of_row X7 (w.heap.size + 1) 0 _ _ _ E1.out
  have s1 := cell_of_row X7 (w.heap.size + 1) 1 _ _ _ E1.out
  have s2 := cell_of_row X7 (w.heap.size + 1) 2 _ _ _ E1.out
  have s3 := cell_of_row X7 (w.heap.size + 1) 3 _ _ _ E1.out
  have s4 := cell_of_row X7 (w.heap.size + 1) 4 _ _ _ E1.out
  have s5 := cell_of_row X7 (w.heap.size + 1) 5 _ _ _ E1.out
  simp only [List.getElem?_toArray, List.getElem?_cons_zero, List.getElem?_cons_succ] at s0 s1 s2 s3 s4 s5
  have t0 := cell_of_row X7 (w.heap.size + 1 + 1) 0 _ _ _ E2.out
  have t1 := cell_of_row X7 (w.heap.size + 1 + 1) 1 _ _ _ E2.out
  have t2 := cell_of_row X7 (w.heap.size + 1 + 1) 2 _ _ _ E2.out
  have t3 := cell_of_row X7 (w.heap.size + 1 + 1) 3 _ _ _ E2.out
  have t4 := cell_of_row X7 (w.heap.size + 1 + 1) 4 _ _ _ E2.out
  have t5 := cell_of_row X7 (w.heap.size + 1 + 1) 5 _ _ _ E2.out
  simp only [List.getElem?_toArray, List.getElem?_cons_zero, List.getElem?_cons_succ] at t0 t1 t2 t3 t4 t5
  clear E0 E1 E2 F
  go_wp2_with fail
  refine bodyPost_ret (v := .tuple #[.agg #[.int .i64 q.kind, .int .i64 q.p.kind, .int .i64 q.p.col, .int .i64 q.p.op, .int .i64 q.p.v.ty, .int .i64 q.p.v.n, .string q.p.v.s, (.slice As q.p.l.length cs), .int .i64 q.col, (.slice Ao q.out.length co)], .agg #[(.slice Aa1 (answer q l1).rows.length ca1), .int .i64 (answer q l1).n, .bool (answer q l1).has, .int .i64 (answer q l1).v.ty, .int .i64 (answer q l1).v.n, .string (answer q l1).v.s], .agg #[(.slice Aa2 (answer q l2).rows.length ca2), .int .i64 (answer q l2).n, .bool (answer q l2).has, .int .i64 (answer q l2).v.ty, .int .i64 (answer q l2).v.n, .string (answer q l2).v.s]]) ?_ rfl ⟨q, (.slice As q.p.l.length cs), (.slice Ao q.out.length co), answer q l1, answer q l2, _, _, rfl, Hrp.out.more (Nat.zero_le _) (by omega), Hri.out.more (Nat.zero_le _) (by omega), T1.out.more (Nat.zero_le _) (by omega), T2.out.more (Nat.zero_le _) (by omega), Lib.hid ⟨Hz1.out, Hz2.out⟩, Hbw.out⟩
  simp [results, Tryz.results8, go_sem, r0, r1, r2, r3, r4, r5, r6, r7, r8, r9, s0, s1, s2, s3, s4, s5, t0, t1, t2, t3, t4, t5]
end Go.Proofs.YtidmlfjolhnnfaaGreatDoor
