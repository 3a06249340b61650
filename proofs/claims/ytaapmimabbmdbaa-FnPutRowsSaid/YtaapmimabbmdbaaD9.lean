/- Draws: a zone and a value. -/
import Derived.Test.YtaapmimabbmdbaaD8
import Derived.Test.YtaapmimabbmdbaaZ1
import Derived.Deep.RegionWith
namespace Go.Proofs.Ytaapmimabbmdbaa
open Go.Sort Go.ChangeShapes Go.WideShapes Go.ChangeAt Go.RowKit Go.Lb

theorem rdV_all {w : World} {lo hi n c b off : Nat} {l : List V} (h : RdV w lo hi (.slice (some ⟨b, off, none⟩) n c) l) :
    (∀ k, k < n → w.cell? ⟨b, off + k * 3, none⟩ = some (.int .i64 (l.getD k V.zero).ty)) ∧ (∀ k, k < n → w.cell? ⟨b, off + k * 3 + 1, none⟩ = some (.int .i64 (l.getD k V.zero).n)) ∧ (∀ k, k < n → w.cell? ⟨b, off + k * 3 + 2, none⟩ = some (.string (l.getD k V.zero).s)) := by
  refine ⟨fun k hk => ?_, fun k hk => ?_, fun k hk => ?_⟩
  all_goals
    obtain ⟨b', off', x, hA, -, -, hxk, e0, e1, e2⟩ := h.at hk
    injection hA with hA
    injection hA with h1 h2 h3
    subst h1 h2
    rw [List.getD_eq_getElem?_getD, hxk]
    first | exact e0 | exact e1 | exact e2
theorem all_set {w : World} {b off n b' o' d : Nat} {f : Nat → Value} {u : Value} (hne : b ≠ b') (h : ∀ k, k < n → w.cell? ⟨b, off + k * 3 + d, none⟩ = some (f k)) : ∀ k, k < n → (w.setCell ⟨b', o', none⟩ u).cell? ⟨b, off + k * 3 + d, none⟩ = some (f k) := fun k hk => cell_set_ne hne (h k hk)
theorem all_set0 {w : World} {b off n b' o' : Nat} {f : Nat → Value} {u : Value} (hne : b ≠ b') (h : ∀ k, k < n → w.cell? ⟨b, off + k * 3, none⟩ = some (f k)) : ∀ k, k < n → (w.setCell ⟨b', o', none⟩ u).cell? ⟨b, off + k * 3, none⟩ = some (f k) := fun k hk => cell_set_ne hne (h k hk)
theorem all_drew {w : World} {b off n d : Nat} {f : Nat → Value} (h : ∀ k, k < n → w.cell? ⟨b, off + k * 3 + d, none⟩ = some (f k)) : ∀ k, k < n → w.drew.cell? ⟨b, off + k * 3 + d, none⟩ = some (f k) := h
theorem all_drew0 {w : World} {b off n : Nat} {f : Nat → Value} (h : ∀ k, k < n → w.cell? ⟨b, off + k * 3, none⟩ = some (f k)) : ∀ k, k < n → w.drew.cell? ⟨b, off + k * 3, none⟩ = some (f k) := h
set_option maxRecDepth 20000 in
set_option maxHeartbeats 4000000 in
theorem spec_l10Zone (w : World) (g : Nat) (hd : Dr w g) :
    Calls Try.prog 44 #[.pointer (some ⟨g, 0, none⟩)] w (DrP w g fun v _ => ∃ (z : Z) (x : V), v = .tuple #[.agg #[.int .i64 z.lo.ty, .int .i64 z.lo.n, .string z.lo.s, .int .i64 z.hi.ty, .int .i64 z.hi.n, .string z.hi.s], .agg #[.int .i64 x.ty, .int .i64 x.n, .string x.s]]) := by
  have hlt := hd.lt
  have G0 := heap_alloc_new w (.cells #[.int .i64 0, .int .i64 0, .string ⟨#[]⟩, .int .i64 0, .int .i64 0, .string ⟨#[]⟩] 34)
  have G0 := Lib.hid ((((Below.refl _ _).alloc (Nat.le_refl _) (.cells #[.int .i64 0, .int .i64 0, .string ⟨#[]⟩] 25)).block w.heap.size (by simp)).trans G0)
  have G1 := heap_alloc_new (w.alloc (.cells #[.int .i64 0, .int .i64 0, .string ⟨#[]⟩, .int .i64 0, .int .i64 0, .string ⟨#[]⟩] 34)) (.cells #[.int .i64 0, .int .i64 0, .string ⟨#[]⟩] 25)
  simp only [World.size_alloc] at G1
  have G1 := Lib.hid G1
  have hd0 := dr_new (dr_new hd #[.int .i64 0, .int .i64 0, .string ⟨#[]⟩, .int .i64 0, .int .i64 0, .string ⟨#[]⟩] 34) #[.int .i64 0, .int .i64 0, .string ⟨#[]⟩] 25
  have hch0 := (chg_new g w #[.int .i64 0, .int .i64 0, .string ⟨#[]⟩, .int .i64 0, .int .i64 0, .string ⟨#[]⟩] 34).trans (chg_new g _ #[.int .i64 0, .int .i64 0, .string ⟨#[]⟩] 25)
  have hs : ((w.alloc (.cells #[.int .i64 0, .int .i64 0, .string ⟨#[]⟩, .int .i64 0, .int .i64 0, .string ⟨#[]⟩] 34)).alloc (.cells #[.int .i64 0, .int .i64 0, .string ⟨#[]⟩] 25)).heap.size = w.heap.size + 1 + 1 := by simp
  go_enter Try.func44, Try.ntmps44
  go_wp2_with fail
  generalize ((w.alloc (.cells #[.int .i64 0, .int .i64 0, .string ⟨#[]⟩, .int .i64 0, .int .i64 0, .string ⟨#[]⟩] 34)).alloc (.cells #[.int .i64 0, .int .i64 0, .string ⟨#[]⟩] 25)) = W0 at *
  refine (spec_l5Draw W0 g hd0).mono ?_
  rintro e w1 ⟨v, rfl, ⟨l, ⟨hown, hsm⟩, hl0, hll⟩, hch1, hd1⟩
  obtain ⟨A, c, rfl, -, -⟩ := hown.cells.form
  have hrd := hown.rdV
  rw [hs] at hrd
  replace G0 := Lib.hid (chg_cell G0.out hch1 hlt)
  replace G1 := Lib.hid (chg_cell G1.out hch1 (by omega))
  have hch1 := hch0.trans hch1
  clear hown hd0 hch0 hsm
  go_wp2_with fail
  refine (spec_l1Once 2 w1 g hd1 (by decide)).mono ?_
  rintro e w2 ⟨_, rfl, ⟨b, rfl⟩, hch2, hd2⟩
  replace G0 := Lib.hid (chg_cell G0.out hch2 hlt)
  replace G1 := Lib.hid (chg_cell G1.out hch2 (by omega))
  have hrd := hrd.same (.of_chg hch2 (.inr (by omega)) (Nat.le_refl _))
  have hrd := hrd.more (Nat.le_refl _) hch2.size
  have hch2 := hch1.trans hch2
  clear hch1 hd1
  cases b
  · go_wp2_with fail
    refine (spec_ZoneOf l _ _ hrd (Nat.le_refl _)).mono ?_
    rintro e w3 ⟨rfl, hb3⟩
    replace G0 := Lib.hid ((hb3.block _ (Array.getElem?_eq_some_iff.1 G0.out).1).trans G0.out)
    replace G1 := Lib.hid ((hb3.block _ (Array.getElem?_eq_some_iff.1 G1.out).1).trans G1.out)
    have hd3 := hd2.below hb3
    have hch3 := hch2.trans (.of_below hb3)
    have hrd := (hrd.below hb3 (Nat.le_refl _)).more (Nat.le_refl _) hb3.size
    clear hch2 hd2 hb3
    generalize zoneOf l = z
    go_wp2_with fail
    refine (spec_l3Draw w3 g hd3).mono ?_
    rintro e w4 ⟨_, rfl, ⟨x, rfl, hx⟩, hch4, hd4⟩
    replace G0 := Lib.hid (chg_cell G0.out hch4 hlt)
    replace G1 := Lib.hid (chg_cell G1.out hch4 (by omega))
    have hch4 := hch3.trans hch4
    clear hch3 hd3
    have r0 := cell_of_row w4 w.heap.size 0 _ _ _ G0.out
    have r1 := cell_of_row w4 w.heap.size 1 _ _ _ G0.out
    have r2 := cell_of_row w4 w.heap.size 2 _ _ _ G0.out
    have r3 := cell_of_row w4 w.heap.size 3 _ _ _ G0.out
    have r4 := cell_of_row w4 w.heap.size 4 _ _ _ G0.out
    have r5 := cell_of_row w4 w.heap.size 5 _ _ _ G0.out
    have s0 := cell_of_row w4 (w.heap.size + 1) 0 _ _ _ G1.out
    have s1 := cell_of_row w4 (w.heap.size + 1) 1 _ _ _ G1.out
    have s2 := cell_of_row w4 (w.heap.size + 1) 2 _ _ _ G1.out
    simp only [List.getElem?_toArray, List.getElem?_cons_zero, List.getElem?_cons_succ] at r0 r1 r2 r3 r4 r5 s0 s1 s2
    have f0 := fun o => frozen_of_row w4 w.heap.size o _ _ G0.out
    have f1 := fun o => frozen_of_row w4 (w.heap.size + 1) o _ _ G1.out
    go_wp2_with fail
    refine bodyPost_ret (v := .tuple #[.agg #[.int .i64 z.lo.ty, .int .i64 z.lo.n, .string z.lo.s, .int .i64 z.hi.ty, .int .i64 z.hi.n, .string z.hi.s], .agg #[.int .i64 x.ty, .int .i64 x.n, .string x.s]]) ?_ rfl ⟨_, rfl, ⟨z, x, rfl⟩, ?_, ?_⟩
    · simp [results, Try.results44, go_sem, r0, r1, r2, r3, r4, r5, s0, s1, s2]
    · iterate 9 refine chg_set ?_ (by omega) _
      exact hch4
    · iterate 9 refine Dr.set ?_ (by omega) (by omega) _
      exact hd4
  · go_wp2_with fail
    obtain ⟨b, off, -, rfl, hbl, -, -, -, -, -⟩ := hrd.at hl0
    have n0 : b ≠ w.heap.size := by omega
    have n1 : b ≠ w.heap.size + 1 := by omega
    obtain ⟨c0, c1, c2⟩ := rdV_all hrd
    have HZ : Calls Try.prog 18 #[.slice (some ⟨b, off, none⟩) l.length c] w2.drew fun e w' => e = .returned (.agg #[.int .i64 (zoneOf l).lo.ty, .int .i64 (zoneOf l).lo.n, .string (zoneOf l).lo.s, .int .i64 (zoneOf l).hi.ty, .int .i64 (zoneOf l).hi.n, .string (zoneOf l).hi.s]) ∧ Below w2.heap.size w2 w' :=
      (spec_ZoneOf l (.slice (some ⟨b, off, none⟩) l.length c) w2.drew (hrd.same fun _ _ _ => rfl) (Nat.le_refl _)).mono fun _ _ h => ⟨h.1, Go.Lb.Below.undrew h.2⟩
    have HZ := Lib.hid HZ
    have Hrd := Lib.hid hrd
    clear hrd
    go_region_held3 (fun w' => (∀ k, k < l.length → w'.cell? ⟨b, off + k * 3, none⟩ = some (.int .i64 (l.getD k V.zero).ty)) ∧ (∀ k, k < l.length → w'.cell? ⟨b, off + k * 3 + 1, none⟩ = some (.int .i64 (l.getD k V.zero).n)) ∧ (∀ k, k < l.length → w'.cell? ⟨b, off + k * 3 + 2, none⟩ = some (.string (l.getD k V.zero).s))) (first | with_reducible exact ⟨c0, c1, c2⟩ | with_reducible exact ⟨p0, p1, p2⟩ | with_reducible exact ⟨q0, q1, q2⟩ | (with_reducible (refine ⟨?_, ?_, ?_⟩ <;> (repeat (first | apply all_drew0 | apply all_drew | apply all_set0 n0 | apply all_set0 n1 | apply all_set n0 | apply all_set n1)) <;> assumption)) | go_keep) (first | (go_at_call 18; ((with_reducible refine HZ.out.mono ?_); rintro e w3 ⟨rfl, hb3⟩; have hd3 := hd2.below hb3; have hch3 := hch2.trans (Chg.of_below hb3); have hrd3 := Lib.hid ((Hrd.out.below hb3 (Nat.le_refl _)).more (Nat.le_refl _) hb3.size); have g0 := (hb3.block _ (Array.getElem?_eq_some_iff.1 G0.out).1).trans G0.out; have g1 := (hb3.block _ (Array.getElem?_eq_some_iff.1 G1.out).1).trans G1.out; obtain ⟨p0, p1, p2⟩ := rdV_all hrd3.out; have H0 := Lib.hid g0; have H1 := Lib.hid g1; clear hb3 g0 g1)) | (go_at_call 47; ((with_reducible refine (spec_l1Below l.length _ g hd3 ?_).mono ?_); (omega); rintro e w4 ⟨_, rfl, ⟨k, rfl, hk1, -⟩, hch4, hd4⟩; have hkl : k < l.length := Int.ofNat_lt.1 (hk1 (Int.ofNat_lt.2 hl0)); have hrd4 := (hrd3.out.same (.of_chg hch4 (.inr (by omega)) (Nat.le_refl _))); obtain ⟨q0, q1, q2⟩ := rdV_all hrd4; have G0' := chg_cell H0.out hch4 hlt; have G1' := chg_cell H1.out hch4 (by omega); have hch5 := hch3.trans hch4; clear hch3 hch4 hrd4 hk1 hd3; have r0 := cell_of_row w4 w.heap.size 0 _ _ _ G0'; have r1 := cell_of_row w4 w.heap.size 1 _ _ _ G0'; have r2 := cell_of_row w4 w.heap.size 2 _ _ _ G0'; have r3 := cell_of_row w4 w.heap.size 3 _ _ _ G0'; have r4 := cell_of_row w4 w.heap.size 4 _ _ _ G0'; have r5 := cell_of_row w4 w.heap.size 5 _ _ _ G0'; have s0 := cell_of_row w4 (w.heap.size + 1) 0 _ _ _ G1'; have s1 := cell_of_row w4 (w.heap.size + 1) 1 _ _ _ G1'; have s2 := cell_of_row w4 (w.heap.size + 1) 2 _ _ _ G1'; simp only [List.getElem?_toArray, List.getElem?_cons_zero, List.getElem?_cons_succ] at r0 r1 r2 r3 r4 r5 s0 s1 s2; have f0 := fun o => frozen_of_row w4 w.heap.size o _ _ G0'; have f1 := fun o => frozen_of_row w4 (w.heap.size + 1) o _ _ G1'; clear G0' G1')))
    generalize l[k] = x
    generalize zoneOf l = z
    go_wp2_with fail
    refine bodyPost_ret (v := .tuple #[.agg #[.int .i64 z.lo.ty, .int .i64 z.lo.n, .string z.lo.s, .int .i64 z.hi.ty, .int .i64 z.hi.n, .string z.hi.s], .agg #[.int .i64 x.ty, .int .i64 x.n, .string x.s]]) ?_ rfl ⟨_, rfl, ⟨z, x, rfl⟩, ?_, ?_⟩
    · simp [results, Try.results44, go_sem, r0, r1, r2, r3, r4, r5, s0, s1, s2]
    · iterate 9 refine chg_set ?_ (by omega) _
      exact hch5
    · iterate 9 refine Dr.set ?_ (by omega) (by omega) _
      exact hd4
end Go.Proofs.Ytaapmimabbmdbaa
