/- Draws: any values of a row, rows. -/
import Derived.Test.YtjogkbkkcaljhaaGreatDoorD12
import Derived.Test.YtjogkbkkcaljhaaGreatDoorXL
namespace Go.Lb
open Go.RowKit
variable {w w1 w' : World} {lo base : Nat} {v : Value} {eR eV : TypeId} {ps : List (R × Value)}
/-- One row more (what was made in between may have turned other blocks). -/
theorem OwnRp.snocS {B : Nat} {v' sv : Value} {x : R} (h : OwnRp eR eV w lo w.heap.size v ps) (hb : Same lo w.heap.size w w1) (s1 : w.heap.size ≤ w1.heap.size) (hlo : lo ≤ w.heap.size)
    (hin : Own eV 3 w1 w.heap.size B sv x.l.length (x.l.flatMap V.cells)) (hB : B ≤ w1.heap.size)
    (hout : w'.ownsRow base eR 2 v' (ps.length + 1) (ps.flatMap rcell ++ [.int .i64 x.id, sv])) (hg : w1.grownBy w' v.ownBlock)
    (hv : ∀ g, v'.ownBlock = some g → v.ownBlock = some g ∨ w1.heap.size ≤ g) : OwnRp eR eV w' lo w'.heap.size v' (ps ++ [(x, sv)]) := by
  have s2 := hg.size
  have hvi : InR lo w'.heap.size v'.ownBlock := fun g hg' => by
    refine ⟨?_, (hout.lt g hg').2⟩
    rcases hv g hg' with h1 | h1
    · exact (h.outIn g h1).1
    · omega
  have keep : ∀ g, g < w1.heap.size → v.ownBlock ≠ some g → w'.heap[g]? = w1.heap[g]? := fun g h1 h2 => hg.block g h1 (fun e => h2 e.symm)
  have hold : ∀ p ∈ ps, OwnV eV w' p ∧ InR lo w'.heap.size p.2.ownBlock ∧ Dis v'.ownBlock p.2.ownBlock := fun p hp => by
    obtain ⟨i1, i2, i3⟩ := h.inn p hp
    refine ⟨owns_same i1 fun g hg' => ?_, fun g hg' => by have := i2 g hg'; omega, fun g h1 h2 => ?_⟩
    · have := i2 g hg'
      exact (keep g (by omega) (fun e => i3 g e hg')).trans (hb g this.1 this.2)
    · have := i2 g h2
      rcases hv g h1 with h3 | h3
      · exact i3 g h3 h2
      · omega
  have hz := hin.zero
  have hnew : OwnV eV w' (x, sv) ∧ InR lo w'.heap.size sv.ownBlock ∧ Dis v'.ownBlock sv.ownBlock := by
    refine ⟨owns_same hz.1 fun g hg' => keep g (by have := hz.2 g hg'; omega) (fun e => by have := h.outIn g e; have := hz.2 g hg'; omega), fun g hg' => by have := hz.2 g hg'; omega, fun g h1 h2 => ?_⟩
    have := hz.2 g h2
    rcases hv g h1 with h3 | h3
    · have := h.outIn g h3; omega
    · omega
  refine ⟨by rw [List.length_append, List.flatMap_append]; exact owns_zero hout, hvi, fun p hp => ?_, ?_⟩
  · rcases List.mem_append.1 hp with hp | hp
    · exact hold p hp
    · simp only [List.mem_singleton] at hp
      subst hp
      exact hnew
  · rw [List.pairwise_append]
    refine ⟨h.apart, List.pairwise_singleton _ _, fun p hp q hq => ?_⟩
    simp only [List.mem_singleton] at hq
    subst hq
    intro g h1 h2
    have := (h.inn p hp).2.1 g h1
    have := hz.2 g h2
    omega
/-- Rows that are small. -/
def SmallR (l : List R) : Prop := ∀ r ∈ l, r.l.length ≤ 4 ∧ ∀ x ∈ r.l, x.s.size ≤ 100
theorem SmallR.snoc {l : List R} {r : R} (h : SmallR l) (h1 : r.l.length ≤ 4) (h2 : ∀ x ∈ r.l, x.s.size ≤ 100) : SmallR (l ++ [r]) := by
  intro y hy
  rcases List.mem_append.1 hy with h3 | h3
  · exact h y h3
  · obtain rfl := List.mem_singleton.1 h3
    exact ⟨h1, h2⟩
end Go.Lb
namespace Go.Proofs.YtjogkbkkcaljhaaGreatDoor
open Go.Sort Go.ChangeShapes Go.WideShapes Go.ChangeAt Go.RowKit Go.Lb

theorem app_goodR {w wr w2 w3 : World} {g : Nat} {v v' sv : Value} {ps : List (R × Value)} {id : Int} {l : List V} {cs : Array Value} {t : TypeId} (hlt : g < w.heap.size) (hch0 : Chg g (g + 1) w wr) (hown : OwnRp 88 24 wr w.heap.size wr.heap.size v ps) (hch2 : Chg g (g + 1) wr w2) (hd : Dr w2 g)
    (hin : Own 24 3 w2 wr.heap.size w2.heap.size sv l.length (l.flatMap V.cells)) (hown' : w3.ownsRow w.heap.size 88 2 v' (ps.length + 1) (ps.flatMap rcell ++ [.int .i64 id, sv])) (hgrow : (w2.alloc (.cells cs t)).grownBy w3 v.ownBlock)
    (hnb : ∀ b, v'.ownBlock = some b → v.ownBlock = some b ∨ w2.heap.size + 1 ≤ b) :
    OwnRp 88 24 w3 w.heap.size w3.heap.size v' (ps ++ [(⟨id, l⟩, sv)]) ∧ Chg g (g + 1) w w3 ∧ Dr w3 g := by
  have hr : ∀ b, v.ownBlock = some b → w.heap.size ≤ b := fun b hb => (hown.outIn b hb).1
  have hc3 := hch2.trans (chg_new g w2 cs t)
  refine ⟨?_, chg_grown (hch0.trans hc3) hgrow hr, (dr_new hd cs t).grown hgrow fun b hb => Nat.lt_of_lt_of_le hlt (hr b hb)⟩
  exact hown.snocS (x := ⟨id, l⟩) (Same.of_chg hc3 (.inr hlt) (Nat.le_refl _)) hc3.size hch0.size (hin.below (up_a1 w2 _) (Nat.le_refl _)) (up_a1 w2 _).size hown' hgrow (by simpa using hnb)
theorem rows_out {w wr w2 : World} {g : Nat} {v : Value} {ps : List (R × Value)} (hlt : g < w.heap.size) (hown : OwnRp 88 24 wr w.heap.size wr.heap.size v ps) (hch2 : Chg g (g + 1) wr w2) :
    w2.ownsRow w.heap.size 88 2 v ps.length (ps.flatMap rcell) :=
  owns_chg (owns_base hown.out fun b hb => (hown.outIn b hb).1) hch2 hlt
set_option maxRecDepth 20000 in
set_option maxHeartbeats 4000000 in
theorem spec_l4Rows (cols : List Int) (x : Value) (most : Nat) (w : World) (g : Nat) (hd : Dr w g) {hi : Nat} (hx : RdI w (g + 1) hi x cols) (hhi : hi ≤ w.heap.size) (hm : cols.length ≤ 3) (hmo : most ≤ 1000) :
    Calls Tryz.prog 31 #[.pointer (some ⟨g, 0, none⟩), x, .int .i64 most] w (DrP w g fun v w' => ∃ l : List R, OwnR 88 24 w' w.heap.size w'.heap.size v l ∧ l.length ≤ most ∧ SmallR l) := by
  have hlt := hd.lt
  obtain ⟨A, c, rfl, -, -⟩ := hx.form
  obtain ⟨i0, hif, hz0, hz1, hz2⟩ := info_parts info_Row
  have hif := Lib.hid hif
  have hz0 := Lib.hid hz0
  have hz1 := Lib.hid hz1
  have hz2 := Lib.hid hz2
  have own0 := Lib.hid (World.ownsRow_made w (base := w.heap.size) (e := 88) (size := 2) #[] 0 (Nat.le_refl _) (by decide) rfl)
  have hi1 : IntKind.i64.wrap ((most : Int) + 1) = (most : Int) + 1 := IntWalk.i64_in _ ⟨by omega, by omega⟩
  go_enter Tryz.func31, Tryz.ntmps31
  go_wp2_with fail
  have hd1 := dr_new hd #[] 88
  have hc0 := chg_new g w #[] 88
  refine (spec_l1Below 4 _ g hd1 (by decide)).mono ?_
  rintro e w1 ⟨_, rfl, ⟨id0, rfl, hid0, -⟩, hch1, hd2⟩
  have hid : id0 < 4 := by have := hid0 (by decide); omega
  have hch := hc0.trans hch1
  have own1 := Lib.hid (owns_chg own0.out hch1 hlt)
  clear own0 hid0 hch1 hd1 hd hc0
  go_wp2_with fail
  refine (spec_l1Below ((most : Int) + 1) _ g hd2 (by omega)).mono ?_
  rintro e w2 ⟨_, rfl, ⟨k, rfl, hk1, -⟩, hch1, hd1⟩
  have hk : k ≤ most := by have := hk1 (by omega); omega
  have hch := hch.trans hch1
  have own1 := Lib.hid (owns_chg own1.out hch1 hlt)
  clear hk1 hch1 hd2
  go_wp2_with fail
  go_loopw [7, 8, 9] (fun o d i wr => ∃ (q : Nat) (id : Int) (ps : List (R × Value)), i = .int .i64 q ∧ d = .int .i64 id ∧ 0 ≤ id ∧ id ≤ 4 + 5 * ps.length ∧ ps.length + q ≤ k ∧ SmallR (ps.map Prod.fst) ∧ OwnRp 88 24 wr w.heap.size wr.heap.size o ps ∧ Chg g (g + 1) w wr ∧ Dr wr g) (fun _ _ i _ => (intOf i).toNat)
  case atStart => exact ⟨k, id0, [], rfl, rfl, by omega, by simp; omega, by simp, by intro r hr; simp at hr, .nil own1.out (fun b hb => (own1.out.lt b hb)), hch, hd1⟩
  case round =>
    obtain ⟨q, id, ps, rfl, rfl, hi0, hi4, hq, hsm, hown, hch, hd⟩ := hrel
    clear own1
    have Hsm := Lib.hid hsm
    clear hsm
    have hcs := hch.size
    by_cases hq0 : 0 < q
    · have hdq : decide (0 < (q : Int)) = true := decide_eq_true (by omega)
      go_wp2_with fail
      have hxr := (hx.same (.of_chg hch (.inr (Nat.le_refl _)) hhi))
      refine (spec_l4Vals cols _ _ g hd hxr (by omega) (by omega)).mono ?_
      rintro e w2 ⟨v2, rfl, ⟨l, ⟨hown2, hsm2⟩, hll⟩, hch2, hd2⟩
      have hl4 : l.length ≤ 4 := by omega
      obtain ⟨As, cs, rfl, -, -⟩ := hown2.cells.form
      have hout := rows_out hlt hown hch2
      have Hown := Lib.hid hown
      have Hsm2 := Lib.hid hsm2
      have Hown2 := Lib.hid hown2
      have hcs2 := hch2.size
      clear hown hown2 hsm2 hxr hd hll
      go_wp2_with (at_builtin; refine wpl_app rfl _ _ 38 rfl w.heap.size 88 i0 _ 2 32 Tryz.underlying38 hif.out hz0.out hz1.out hz2.out rfl (by decide) (by decide) (hout.alloc _) rfl (heap_alloc_new _ _) rfl rfl (by simp [Value.oneCell']) (by omega) (by simp; omega) ?_)
      intro v' w3 hown' hgrow hnb
      obtain ⟨h1, h2, h3⟩ := app_goodR hlt hch Hown.out hch2 hd2 Hown2.out hown' hgrow hnb
      have H1 := Lib.hid h1
      clear hown' hgrow hnb hout h1 hd2 hch2 hch
      have hx5 := rdI_new w3 [1, 1, 1, 2, 5] 3 (by decide)
      have hlt3 := h3.lt
      have hd5 := dr_new h3 (([1, 1, 1, 2, 5] : List Int).map (Value.int .i64)).toArray 3
      have hc5 := chg_new g w3 (([1, 1, 1, 2, 5] : List Int).map (Value.int .i64)).toArray 3
      go_wp2_with fail
      refine (spec_l1Int [1, 1, 1, 2, 5] _ _ g hd5 (RdG.imp hx5 hlt3 (Nat.le_refl _) fun _ _ _ _ _ h => h) (by simp) (by decide) (by decide)).mono ?_
      rintro e w5 ⟨_, rfl, ⟨j, hj, rfl⟩, hch5, hd6⟩
      have hj' : 1 ≤ j ∧ j ≤ 5 := by
        simp only [List.mem_cons, List.not_mem_nil, or_false] at hj
        omega
      have hc6 := hc5.trans hch5
      clear hj hx5 hd5
      have hid2 : IntKind.i64.wrap (id + j) = id + j := IntWalk.i64_in _ ⟨by omega, by omega⟩
      go_wp2_with fail
      go_roundw
      case rel => exact ⟨q - 1, _, ps ++ [(⟨id, l⟩, .slice As l.length cs)], by go_num, rfl, by omega, by simp; omega, by simp; omega, by rw [List.map_append]; exact Hsm.out.snoc hl4 Hsm2.out, H1.out.imp (fun b h1 h2 => hc6.block b h2 (.inr (by omega))) (Nat.le_refl _) hc6.size, h2.trans hc6, hd6⟩
      case measure => simp [intOf]; omega
    · have hdq : decide (0 < (q : Int)) = false := decide_eq_false (by omega)
      go_wp2_with fail
      go_ret
      exact ⟨_, rfl, ⟨_, ⟨ps, rfl, hown⟩, by simp; omega, Hsm.out⟩, hch, hd⟩
end Go.Proofs.YtjogkbkkcaljhaaGreatDoor
