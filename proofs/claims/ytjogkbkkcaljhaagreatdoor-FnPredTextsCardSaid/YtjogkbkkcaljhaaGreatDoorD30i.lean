/- Draws: predicates of some depth (with the numbers' range). -/
import Derived.Test.YtjogkbkkcaljhaaGreatDoorD29
import Derived.Test.YtjogkbkkcaljhaaGreatDoorTP
namespace Go.Lb
open Go.RowKit
section
variable {P : Program} {w : World} {ops : Array Oper} {rest : List Oper} {o : Oper} {a : Act} {Q : Exit → Act → World → Prop}
/-- One element is appended (a plain region's list), of up to 128 bytes. -/
theorem wpl_appL (hgd : o.guard = none) (s x : Operand) (t : TypeId) (ho : o.op = .call { callee := .builtin .append, args := #[s, x], argTypes := #[t, t] })
    (base : Nat) (e : TypeId) (i : TypeInfo) (z : Value) (size bytes : Nat) (ht : P.underlying t = some (.slice e)) (hi : P.info? e = some i) (hz : i.zero = some z)
    (hsize : i.size = size) (hby : i.bytes = bytes) (hzs : z.cells.size = size) (hsz : 0 < size) (hb64 : bytes ≤ 128)
    {v : Value} {n : Nat} {xs : List Value} (hown : w.ownsRow base e size v n xs) (hs : a.eval s = v)
    {B : Nat} {cs : Array Value} {ty : TypeId} {fr : Nat × Nat} (hB : w.heap[B]? = some (.cells cs ty fr)) (hx : a.eval x = .slice (some ⟨B, 0, none⟩) 1 1)
    (hcs : cs.size = size) (h1 : ∀ u ∈ cs.toList, u.oneCell' = true) (hn : n ≤ 1048576) (hbase : base ≤ w.heap.size)
    (h : ∀ v' w', w'.ownsRow base e size v' (n + 1) (xs ++ cs.toList) → w.grownBy w' v.ownBlock → (∀ g, v'.ownBlock = some g → v.ownBlock = some g ∨ w.heap.size ≤ g) → wpList P ops Q rest (a.put o.dst v') w') : wpList P ops Q (o :: rest) a w :=
  wpList_append_lies w hgd s x t ho base e i z size bytes ht hi hz hsize hby hzs hsz v n xs hs hown ⟨B, 0, none⟩ 1 1 cs.toList hx (by simp [hcs]) (World.news_of_block hB) h1 (by omega)
    (by unfold maxLen; omega) (by have := Nat.mul_le_mul (show n + 1 ≤ 1048577 by omega) hb64; omega) hbase _ rfl fun g _ w' h2 h3 h4 _ => h _ w' h2 h3 fun g' hg' => by
      injection hg' with hg'
      subst hg'
      rcases h4 with h4 | h4
      · exact .inl h4
      · exact .inr (Nat.le_of_eq h4.symm)
/-- The same at a step of a region that draws its order. -/
theorem step_appL {K : Act → World → Prop} {E : Prop} (hgd : o.guard = none) (s x : Operand) (t : TypeId) (ho : o.op = .call { callee := .builtin .append, args := #[s, x], argTypes := #[t, t] })
    (base : Nat) (e : TypeId) (i : TypeInfo) (z : Value) (size bytes : Nat) (ht : P.underlying t = some (.slice e)) (hi : P.info? e = some i) (hz : i.zero = some z)
    (hsize : i.size = size) (hby : i.bytes = bytes) (hzs : z.cells.size = size) (hsz : 0 < size) (hb64 : bytes ≤ 128)
    {v : Value} {n : Nat} {xs : List Value} (hown : w.ownsRow base e size v n xs) (hs : a.eval s = v)
    {B : Nat} {cs : Array Value} {ty : TypeId} {fr : Nat × Nat} (hB : w.heap[B]? = some (.cells cs ty fr)) (hx : a.eval x = .slice (some ⟨B, 0, none⟩) 1 1)
    (hcs : cs.size = size) (h1 : ∀ u ∈ cs.toList, u.oneCell' = true) (hn : n ≤ 1048576) (hbase : base ≤ w.heap.size)
    (h : ∀ v' w', w'.ownsRow base e size v' (n + 1) (xs ++ cs.toList) → w.grownBy w' v.ownBlock → (∀ g, v'.ownBlock = some g → v.ownBlock = some g ∨ w.heap.size ≤ g) → K (a.put o.dst v') w') :
    if Region.wanted o (yielded ops a.tmps) = true then Oper.wp P o a w K Q else E :=
  step_append_lies w hgd s x t ho base e i z size bytes ht hi hz hsize hby hzs hsz v n xs hs hown ⟨B, 0, none⟩ 1 1 cs.toList hx (by simp [hcs]) (World.news_of_block hB) h1 (by omega)
    (by unfold maxLen; omega) (by have := Nat.mul_le_mul (show n + 1 ≤ 1048577 by omega) hb64; omega) hbase _ rfl fun g _ w' h2 h3 h4 _ => h _ w' h2 h3 fun g' hg' => by
      injection hg' with hg'
      subst hg'
      rcases h4 with h4 | h4
      · exact .inl h4
      · exact .inr (Nat.le_of_eq h4.symm)
end
theorem ownP_none (e : TypeId) (w : World) (lo hi : Nat) : OwnP e w lo hi (.slice none 0 0) [] := (OwnPx.nil (base := 0) ⟨by simp, .inl ⟨rfl, rfl⟩⟩ (fun g hg => by simp [Value.ownBlock] at hg)).own
theorem POks.nil : POks [] := .mk [] (fun x h => by simp at h) (fun x h => by simp at h)
theorem POks.snoc {l : List P} {x : P} (h : POks l) (h1 : POk x) : POks (l ++ [x]) := by
  cases h with
  | mk l a b =>
    refine .mk _ (fun y hy => ?_) (fun y hy => ?_)
    all_goals rcases List.mem_append.1 hy with hy | hy
    · exact a y hy
    · rw [List.mem_singleton.1 hy]; exact h1.1
    · exact b y hy
    · rw [List.mem_singleton.1 hy]; exact h1.2
theorem POks.take {l : List P} (h : POks l) (n : Nat) : POks (l.take n) := by
  cases h with
  | mk l a b => exact .mk _ (fun y hy => a y (List.mem_of_mem_take hy)) (fun y hy => b y (List.mem_of_mem_take hy))
theorem cntP_snoc (l : List P) (x : P) : cntP (l ++ [x]) = cntP l + (1 + cntP x.l) := by rw [cntP_append, cntP_cons, cntP_nil]; omega
theorem cntP_take_le (l : List P) (n : Nat) : cntP (l.take n) ≤ cntP l := by
  have h2 := cntP_append (l.take n) (l.drop n)
  rw [List.take_append_drop] at h2
  omega
end Go.Lb
namespace Go.Proofs.YtjogkbkkcaljhaaGreatDoor
open Go.Sort Go.ChangeShapes Go.WideShapes Go.ChangeAt Go.RowKit Go.Lb
theorem info_PD : (Tryz.prog.info? 27).map (fun i => (i.zero, i.size, i.bytes)) = some (some (.agg #[.int .i64 0, .int .i64 0, .int .i64 0, .int .i64 0, .int .i64 0, .string ⟨#[]⟩, .slice none 0 0]), 7, 80) := by kernel_rfl
theorem PIns.nil : PIns [] := .mk [] (fun x h => by simp at h) (fun x h => by simp at h)
theorem PIns.snoc {l : List P} {x : P} (h : PIns l) (h1 : PInOk x) : PIns (l ++ [x]) := by
  cases h with
  | mk l a b =>
    refine .mk _ (fun y hy => ?_) (fun y hy => ?_)
    all_goals rcases List.mem_append.1 hy with hy | hy
    · exact a y hy
    · rw [List.mem_singleton.1 hy]; exact h1.1
    · exact b y hy
    · rw [List.mem_singleton.1 hy]; exact h1.2
theorem PIns.take {l : List P} (h : PIns l) (n : Nat) : PIns (l.take n) := by
  cases h with
  | mk l a b => exact .mk _ (fun y hy => a y (List.mem_of_mem_take hy)) (fun y hy => b y (List.mem_of_mem_take hy))
theorem zero_in : (-9223372036854775808 : Int) ≤ 0 ∧ (0 : Int) ≤ 9223372036854775807 := by decide
/-- A predicate of the draw's own, with at most n more in it. -/
def GoodP (B n : Nat) (v : Value) (w : World) : Prop := ∃ (p : P) (sv : Value), v = .agg #[.int .i64 p.kind, .int .i64 p.col, .int .i64 p.op, .int .i64 p.v.ty, .int .i64 p.v.n, .string p.v.s, sv] ∧ OwnP 27 w B w.heap.size sv p.l ∧ Hid ((POk p ∧ PInOk p) ∧ cntP p.l ≤ n)
theorem chg_block {w w' : World} {g b : Nat} {x : Obj} (hx : w.heap[b]? = some x) (h : Chg g (g + 1) w w') (hb : g < b) : w'.heap[b]? = some x := chg_cell hx h hb
def DrawC (cols : List Int) (d : Nat) : Prop := ∀ (n : Int) (x : Value) (w : World) (g hi : Nat), n = d → Dr w g → RdI w (g + 1) hi x cols → hi ≤ w.heap.size →
    Calls Tryz.prog 59 #[.pointer (some ⟨g, 0, none⟩), x, .int .i64 n] w (DrP w g (GoodP w.heap.size (2 ^ (d + 1) - 2)))
set_option maxRecDepth 20000 in
set_option maxHeartbeats 4000000 in
theorem spec_l11Draw_0 (cols : List Int) (hok : colsOk cols = true) : DrawC cols 0 := by
  have Hok := Lib.hid hok
  clear hok
  intro n x w g hi hn hd hx hhi
  have hlt := hd.lt
  obtain ⟨A, c, rfl, hcl, hcl2⟩ := hx.form
  obtain rfl : n = 0 := hn
  have hd1 := dr_new hd #[.int .i64 0, .int .i64 0, .int .i64 0, .int .i64 0, .int .i64 0, .string ⟨#[]⟩, .slice none 0 0] 27
  have HR := Lib.hid (heap_alloc_new w (.cells #[.int .i64 0, .int .i64 0, .int .i64 0, .int .i64 0, .int .i64 0, .string ⟨#[]⟩, .slice none 0 0] 27))
  have hch := chg_new g w #[.int .i64 0, .int .i64 0, .int .i64 0, .int .i64 0, .int .i64 0, .string ⟨#[]⟩, .slice none 0 0] 27
  have hx1 := hx.below (up_a1 w (.cells #[.int .i64 0, .int .i64 0, .int .i64 0, .int .i64 0, .int .i64 0, .string ⟨#[]⟩, .slice none 0 0] 27)) hhi
  have hhi1 : hi ≤ (w.alloc (.cells #[.int .i64 0, .int .i64 0, .int .i64 0, .int .i64 0, .int .i64 0, .string ⟨#[]⟩, .slice none 0 0] 27)).heap.size := by simp; omega
  have hsz : w.heap.size + 1 ≤ (w.alloc (.cells #[.int .i64 0, .int .i64 0, .int .i64 0, .int .i64 0, .int .i64 0, .string ⟨#[]⟩, .slice none 0 0] 27)).heap.size := by simp
  clear hx
  go_enter Tryz.func59, Tryz.ntmps59
  go_wp2_with fail
  refine (spec_l1Once 5 _ g hd1 (by decide)).mono ?_
  rintro e w5 ⟨_, rfl, ⟨b5, rfl⟩, hch5, hd5⟩
  replace HR := Lib.hid (chg_cell HR.out hch5 hlt)
  have hx5 := hx1.same (.of_chg hch5 (.inr (Nat.le_refl _)) hhi1)
  have hhi5 := Nat.le_trans hhi1 hch5.size
  replace hch := hch.trans hch5
  clear hd1 hx1 hch5 hhi1
  cases b5
  · go_wp2_with fail
    refine (spec_l11Cmp1 cols _ w5 g hd5 hx5 hhi5 Hok.out).mono ?_
    rintro e w6 ⟨_, rfl, ⟨k, op, y, rfl, HK⟩, hch6, hd1⟩
    have HR6 := chg_cell HR.out hch6 hlt
    have r0 := cell_of_row w6 (w.heap.size) 0 _ _ _ HR6
    have r1 := cell_of_row w6 (w.heap.size) 1 _ _ _ HR6
    have r2 := cell_of_row w6 (w.heap.size) 2 _ _ _ HR6
    have r3 := cell_of_row w6 (w.heap.size) 3 _ _ _ HR6
    have r4 := cell_of_row w6 (w.heap.size) 4 _ _ _ HR6
    have r5 := cell_of_row w6 (w.heap.size) 5 _ _ _ HR6
    have r6 := cell_of_row w6 (w.heap.size) 6 _ _ _ HR6
    simp only [List.getElem?_toArray, List.getElem?_cons_zero, List.getElem?_cons_succ] at r0 r1 r2 r3 r4 r5 r6
    have f0 := fun o => frozen_of_row w6 w.heap.size o _ _ HR6
    replace hch := hch.trans hch6
    clear HR6 hch6 HR hx5 hd5
    go_wp2_with fail
    refine bodyPost_ret (v := .agg #[.int .i64 2, .int .i64 k, .int .i64 op, .int .i64 y.ty, .int .i64 y.n, .string y.s, .slice none 0 0]) ?_ rfl ⟨_, rfl, ⟨.mk 2 k op y [], .slice none 0 0, rfl, ownP_none _ _ _ _, Lib.hid ⟨⟨⟨Nat.le_trans HK.out.2.2.2.1 (by decide), POks.nil⟩, ⟨show (-9223372036854775808 : Int) ≤ (k : Int) ∧ (k : Int) ≤ 9223372036854775807 by have := HK.out.1; omega, PIns.nil⟩⟩, by simp [P.l, cntP_nil]⟩⟩, ?_, ?_⟩
    · simp [results, Tryz.results59, go_sem, r0, r1, r2, r3, r4, r5, r6]
    · iterate 7 refine chg_set ?_ (Nat.le_refl _) _
      exact hch
    · iterate 7 refine Dr.set ?_ (by omega) (by omega) _
      exact hd1
  · have hd1 := hd5
    have r0 := cell_of_row w5 (w.heap.size) 0 _ _ _ HR.out
    have r1 := cell_of_row w5 (w.heap.size) 1 _ _ _ HR.out
    have r2 := cell_of_row w5 (w.heap.size) 2 _ _ _ HR.out
    have r3 := cell_of_row w5 (w.heap.size) 3 _ _ _ HR.out
    have r4 := cell_of_row w5 (w.heap.size) 4 _ _ _ HR.out
    have r5 := cell_of_row w5 (w.heap.size) 5 _ _ _ HR.out
    have r6 := cell_of_row w5 (w.heap.size) 6 _ _ _ HR.out
    simp only [List.getElem?_toArray, List.getElem?_cons_zero, List.getElem?_cons_succ] at r0 r1 r2 r3 r4 r5 r6
    have f0 := fun o => frozen_of_row w5 w.heap.size o _ _ HR.out
    clear hd5 hx5
    go_wp2_with fail
    refine bodyPost_ret (v := .agg #[.int .i64 1, .int .i64 0, .int .i64 0, .int .i64 0, .int .i64 0, .string ⟨#[]⟩, .slice none 0 0]) ?_ rfl ⟨_, rfl, ⟨.mk 1 0 0 V.zero [], .slice none 0 0, rfl, ownP_none _ _ _ _, Lib.hid ⟨⟨⟨Nat.zero_le _, POks.nil⟩, ⟨zero_in, PIns.nil⟩⟩, by simp [P.l, cntP_nil]⟩⟩, ?_, ?_⟩
    · simp [results, Tryz.results59, go_sem, r0, r1, r2, r3, r4, r5, r6]
    · iterate 7 refine chg_set ?_ (Nat.le_refl _) _
      exact hch
    · iterate 7 refine Dr.set ?_ (by omega) (by omega) _
      exact hd1
set_option maxRecDepth 20000 in
set_option maxHeartbeats 8000000 in
theorem spec_l11Draw_s (cols : List Int) (hok : colsOk cols = true) (d : Nat) (hd3 : d ≤ 3) (ih : DrawC cols d) : DrawC cols (d + 1) := by
  have Hok := Lib.hid hok
  have IH := Lib.hid ih
  obtain ⟨i0, hif, hz0, hz1, hz2⟩ := info_parts info_PD
  have hif := Lib.hid hif
  have hz0 := Lib.hid hz0
  have hz1 := Lib.hid hz1
  have hz2 := Lib.hid hz2
  clear hok ih
  intro n x w g hi hn hd hx hhi
  have hlt := hd.lt
  obtain ⟨A, c, rfl, hcl, hcl2⟩ := hx.form
  have hn0 : (n == 0) = false := by simp; omega
  have hnw : IntKind.i64.wrap (n - 1) = n - 1 := IntWalk.i64_in _ ⟨by omega, by omega⟩
  have Hn1 := Lib.hid (show n - 1 = (d : Int) by omega)
  clear hn
  have hd1 := dr_new hd #[.int .i64 0, .int .i64 0, .int .i64 0, .int .i64 0, .int .i64 0, .string ⟨#[]⟩, .slice none 0 0] 27
  have HR := Lib.hid (heap_alloc_new w (.cells #[.int .i64 0, .int .i64 0, .int .i64 0, .int .i64 0, .int .i64 0, .string ⟨#[]⟩, .slice none 0 0] 27))
  have hch := chg_new g w #[.int .i64 0, .int .i64 0, .int .i64 0, .int .i64 0, .int .i64 0, .string ⟨#[]⟩, .slice none 0 0] 27
  have hx1 := hx.below (up_a1 w (.cells #[.int .i64 0, .int .i64 0, .int .i64 0, .int .i64 0, .int .i64 0, .string ⟨#[]⟩, .slice none 0 0] 27)) hhi
  have hhi1 : hi ≤ (w.alloc (.cells #[.int .i64 0, .int .i64 0, .int .i64 0, .int .i64 0, .int .i64 0, .string ⟨#[]⟩, .slice none 0 0] 27)).heap.size := by simp; omega
  have hsz : w.heap.size + 1 ≤ (w.alloc (.cells #[.int .i64 0, .int .i64 0, .int .i64 0, .int .i64 0, .int .i64 0, .string ⟨#[]⟩, .slice none 0 0] 27)).heap.size := by simp
  clear hx
  go_enter Tryz.func59, Tryz.ntmps59
  go_wp2_with fail
  refine (spec_l1Once 3 _ g hd1 (by decide)).mono ?_
  rintro e w4 ⟨_, rfl, ⟨b4, rfl⟩, hch4, hd4⟩
  replace HR := Lib.hid (chg_cell HR.out hch4 hlt)
  replace hx1 := hx1.same (.of_chg hch4 (.inr (Nat.le_refl _)) hhi1)
  replace hhi1 := Nat.le_trans hhi1 hch4.size
  replace hsz := Nat.le_trans hsz hch4.size
  replace hch := hch.trans hch4
  clear hd1 hch4
  have hd1 := hd4
  clear hd4
  cases b4
  · go_wp2_with fail
    refine (spec_l1Below 3 _ g hd1 (by decide)).mono ?_
    rintro e w5 ⟨_, rfl, ⟨k, rfl, hk1, -⟩, hch5, hd5⟩
    have hk : k < 3 := by have := hk1 (by decide); omega
    have hwk : IntKind.i64.wrap (3 + (k : Int)) = 3 + (k : Int) := IntWalk.i64_in _ ⟨by omega, by omega⟩
    replace HR := Lib.hid (chg_cell HR.out hch5 hlt)
    have hx5 := hx1.same (.of_chg hch5 (.inr (Nat.le_refl _)) hhi1)
    have hhi5 := Nat.le_trans hhi1 hch5.size
    have hsz5 := Nat.le_trans hsz hch5.size
    replace hch := hch.trans hch5
    clear hd1 hx1 hch5 hhi1 hk1 hsz
    have own0 := World.ownsRow_made w5 (base := w5.heap.size) (e := 27) (size := 7) #[] 0 (Nat.le_refl _) (by decide) rfl
    have hd6 := dr_new hd5 #[] 27
    replace HR := Lib.hid (alloc_old (o := .cells #[] 27) HR.out)
    replace hch := hch.trans (chg_new g w5 #[] 27)
    replace hx5 := hx5.below (up_a1 w5 (.cells #[] 27)) hhi5
    have hlt5 := hd5.lt
    go_wp2_with fail
    refine (spec_l1Below 2 _ g hd6 (by decide)).mono ?_
    rintro e w7 ⟨_, rfl, ⟨m, rfl, hm1, -⟩, hch7, hd7⟩
    have hm : m < 2 := by have := hm1 (by decide); omega
    have hwm : IntKind.i64.wrap (1 + (m : Int)) = 1 + (m : Int) := IntWalk.i64_in _ ⟨by omega, by omega⟩
    have own7 := Lib.hid (owns_chg own0 hch7 hlt5)
    replace HR := Lib.hid (chg_cell HR.out hch7 hlt)
    have hx7 := Lib.hid (hx5.same (.of_chg hch7 (.inr (Nat.le_refl _)) (by simp; omega)))
    have hhi7 : hi ≤ w7.heap.size := by have := hch7.size; simp at this; omega
    replace hch := hch.trans hch7
    clear hd6 hx5 hch7 hm1 own0 hd5
    go_wp2_with fail
    go_loopw [8, 9] (fun o i wr => ∃ (q : Nat) (ps : List (P × Value)), Hid (i = .int .i64 q ∧ ps.length + q = m + 1 ∧ OwnPx 27 wr (w.heap.size + 1) wr.heap.size o ps ∧ (POks (ps.map Prod.fst) ∧ PIns (ps.map Prod.fst)) ∧ cntP (ps.map Prod.fst) ≤ ps.length * (2 ^ (d + 1) - 1) ∧ wr.heap[w.heap.size]? = some (.cells #[.int .i64 0, .int .i64 0, .int .i64 0, .int .i64 0, .int .i64 0, .string ⟨#[]⟩, .slice none 0 0] 27) ∧ Chg g (g + 1) w wr ∧ Dr wr g ∧ RdI wr (g + 1) hi (.slice A cols.length c) cols ∧ hi ≤ wr.heap.size)) (fun _ i _ => (intOf i).toNat)
    case atStart => exact ⟨m + 1, [], Lib.hid ⟨by rw [show (1 : Int) + (m : Int) = ((m + 1 : Nat) : Int) by omega], by simp, OwnPx.nil own7.out (fun b hb => by have := own7.out.lt b hb; omega), ⟨POks.nil, PIns.nil⟩, by simp [cntP_nil], HR.out, hch, hd7, hx7.out, hhi7⟩⟩
    case round =>
      obtain ⟨q, ps, hrel⟩ := hrel
      obtain ⟨rfl, hq, hown, hpok, hcnt, hR, hchr, hdr, hxr, hhir⟩ := hrel.out
      have Hown := Lib.hid hown
      have Hpok := Lib.hid hpok
      have Hcnt := Lib.hid hcnt
      have HRr := Lib.hid hR
      have Hq := Lib.hid hq
      have hpl : ps.length ≤ 2 := by omega
      have hcs := hchr.size
      have hcs1 : w.heap.size < wr.heap.size := (Array.getElem?_eq_some_iff.1 HRr.out).1
      clear hrel hown hpok hcnt hR own7 HR hch hd7 hx7
      by_cases hq0 : 0 < q
      · have hdq : decide (0 < (q : Int)) = true := decide_eq_true (by omega)
        have hql : (q : Int) ≤ 2 := by omega
        clear hq
        go_wp2_with fail
        refine (IH.out (n - 1) _ wr g hi Hn1.out hdr hxr hhir).mono ?_
        rintro e w2 ⟨_, rfl, ⟨xp, sv, rfl, hop, HX⟩, hch2, hd2⟩
        obtain ⟨As, cs, rfl, -, -⟩ := hop.rdP.form
        obtain ⟨s0, t0, HO⟩ := Hown.out
        have hob := HO.outIn
        have Hout2 := Lib.hid (owns_same (w' := w2) HO.out fun b hb => hch2.block b (hob b hb).2 (.inr (by have := (hob b hb).1; omega)))
        clear HO s0 t0
        have hs2 := hch2.size
        have hB := Lib.hid (show ((w2.alloc (.cells #[.int .i64 xp.kind, .int .i64 xp.col, .int .i64 xp.op, .int .i64 xp.v.ty, .int .i64 xp.v.n, .string xp.v.s, .slice As xp.l.length cs] 27)).alloc (.cells #[.int .i64 xp.kind, .int .i64 xp.col, .int .i64 xp.op, .int .i64 xp.v.ty, .int .i64 xp.v.n, .string xp.v.s, .slice As xp.l.length cs] 27)).heap[w2.heap.size + 1]? = some (.cells #[.int .i64 xp.kind, .int .i64 xp.col, .int .i64 xp.op, .int .i64 xp.v.ty, .int .i64 xp.v.n, .string xp.v.s, .slice As xp.l.length cs] 27) by have h := heap_alloc_new (w2.alloc (.cells #[.int .i64 xp.kind, .int .i64 xp.col, .int .i64 xp.op, .int .i64 xp.v.ty, .int .i64 xp.v.n, .string xp.v.s, .slice As xp.l.length cs] 27)) (.cells #[.int .i64 xp.kind, .int .i64 xp.col, .int .i64 xp.op, .int .i64 xp.v.ty, .int .i64 xp.v.n, .string xp.v.s, .slice As xp.l.length cs] 27); rw [World.size_alloc] at h; exact h)
        have hup := up_a2 w2 (.cells #[.int .i64 xp.kind, .int .i64 xp.col, .int .i64 xp.op, .int .i64 xp.v.ty, .int .i64 xp.v.n, .string xp.v.s, .slice As xp.l.length cs] 27) (.cells #[.int .i64 xp.kind, .int .i64 xp.col, .int .i64 xp.op, .int .i64 xp.v.ty, .int .i64 xp.v.n, .string xp.v.s, .slice As xp.l.length cs] 27)
        have hus : ((w2.alloc (.cells #[.int .i64 xp.kind, .int .i64 xp.col, .int .i64 xp.op, .int .i64 xp.v.ty, .int .i64 xp.v.n, .string xp.v.s, .slice As xp.l.length cs] 27)).alloc (.cells #[.int .i64 xp.kind, .int .i64 xp.col, .int .i64 xp.op, .int .i64 xp.v.ty, .int .i64 xp.v.n, .string xp.v.s, .slice As xp.l.length cs] 27)).heap.size = w2.heap.size + 1 + 1 := by simp
        have Hop := Lib.hid (hop.below hup (Nat.le_refl _))
        have Hob := Lib.hid hob
        have Hup := Lib.hid hup
        have Hch2 := Lib.hid hch2
        have Hus := Lib.hid hus
        clear hop hob hup hch2 hus
        go_wp2_with (at_builtin; refine wpl_appL rfl _ _ 25 rfl 0 27 i0 _ 7 80 Tryz.underlying25 hif.out hz0.out hz1.out hz2.out rfl (by decide) (by decide) ((Hout2.out.alloc _).alloc _) rfl hB.out rfl rfl (by simp [Value.oneCell']) (by omega) (Nat.zero_le _) ?_)
        intro v' w3 hown' hgrow hnb
        have hw1 : Chg g (g + 1) wr ((w2.alloc (.cells #[.int .i64 xp.kind, .int .i64 xp.col, .int .i64 xp.op, .int .i64 xp.v.ty, .int .i64 xp.v.n, .string xp.v.s, .slice As xp.l.length cs] 27)).alloc (.cells #[.int .i64 xp.kind, .int .i64 xp.col, .int .i64 xp.op, .int .i64 xp.v.ty, .int .i64 xp.v.n, .string xp.v.s, .slice As xp.l.length cs] 27)) := Hch2.out.trans (.of_below Hup.out)
        have Hw1 := Lib.hid hw1
        have H1 := Lib.hid (Hown.out.snoc (x := xp) (sv := .slice As xp.l.length cs) (Same.of_chg hw1 (.inr (by omega)) (Nat.le_refl _)) hw1.size (by omega) Hop.out Hup.out.size hown' hgrow (fun b hb => by rw [Hus.out]; exact hnb b hb))
        have h2 := chg_grown (hchr.trans hw1) hgrow (fun b hb => by have := (Hob.out b hb).1; omega)
        have h3 := (dr_new (dr_new hd2 #[.int .i64 xp.kind, .int .i64 xp.col, .int .i64 xp.op, .int .i64 xp.v.ty, .int .i64 xp.v.n, .string xp.v.s, .slice As xp.l.length cs] 27) #[.int .i64 xp.kind, .int .i64 xp.col, .int .i64 xp.op, .int .i64 xp.v.ty, .int .i64 xp.v.n, .string xp.v.s, .slice As xp.l.length cs] 27).grown hgrow (fun b hb => by have := (Hob.out b hb).1; omega)
        have HR3 := Lib.hid ((hgrow.block w.heap.size (by rw [Hus.out]; omega) (fun e => by have := (Hob.out w.heap.size e.symm).1; omega)).trans (chg_cell HRr.out hw1 hlt))
        have H2 := Lib.hid h2
        have H3 := Lib.hid h3
        have Hcn := Lib.hid (show cntP ((ps ++ [(xp, Value.slice As xp.l.length cs)]).map Prod.fst) ≤ (ps ++ [(xp, Value.slice As xp.l.length cs)]).length * (2 ^ (d + 1) - 1) by
          have h1 := Hcnt.out
          have h4 := HX.out.2
          have h5 : 2 ≤ 2 ^ (d + 1) := by rw [Nat.pow_succ]; have := Nat.one_le_two_pow (n := d); omega
          rw [List.map_append, List.length_append, Nat.add_mul]
          simp only [List.map_cons, List.map_nil, List.length_cons, List.length_nil]
          rw [cntP_snoc]
          omega)
        have Hpk := Lib.hid (show POks ((ps ++ [(xp, Value.slice As xp.l.length cs)]).map Prod.fst) ∧ PIns ((ps ++ [(xp, Value.slice As xp.l.length cs)]).map Prod.fst) by rw [List.map_append]; exact ⟨Hpok.out.1.snoc HX.out.1.1, Hpok.out.2.snoc HX.out.1.2⟩)
        have Hx3 := Lib.hid ((hxr.same (.of_chg hw1 (.inr (Nat.le_refl _)) hhir)).same (fun b h1 h2 => hgrow.block b (by rw [Hus.out]; omega) (fun e => by have := (Hob.out b e.symm).1; omega)))
        have Hhi3 := Lib.hid (show hi ≤ w3.heap.size by have := hgrow.size; rw [Hus.out] at this; omega)
        clear hown' hgrow hnb hw1 h2 h3 hchr hdr hd2 Hw1 hxr
        go_wp2_with fail
        go_roundw
        case rel => exact ⟨q - 1, _, Lib.hid ⟨by go_num, by have := Hq.out; simp; omega, H1.out, Hpk.out, Hcn.out, HR3.out, H2.out, H3.out, Hx3.out, Hhi3.out⟩⟩
        case measure => simp [intOf]; omega
      · obtain rfl : q = 0 := by omega
        have hdq : decide (0 < (((0 : Nat)) : Int)) = false := rfl
        have hps : ps.length = m + 1 := by omega
        obtain ⟨s0, t0, HO⟩ := Hown.out
        obtain ⟨gL, cL, rfl, -, hgL⟩ := HO.out.form (by omega)
        have hcL : ps.length ≤ cL := by
          obtain ⟨A', c', e1, e2, -⟩ := Hown.out.own.rdP.form
          injection e1 with e1 e2' e3
          rw [List.length_map] at e2
          omega
        have hcM : cL ≤ 9223372036854775807 := by
          obtain ⟨A', c', e1, -, e2⟩ := Hown.out.own.rdP.form
          injection e1 with e1 e2' e3
          omega
        clear HO s0 t0 hq
        have hd1 := hdr
        have hch := hchr
        have r0 := cell_of_row wr (w.heap.size) 0 _ _ _ HRr.out
        have r1 := cell_of_row wr (w.heap.size) 1 _ _ _ HRr.out
        have r2 := cell_of_row wr (w.heap.size) 2 _ _ _ HRr.out
        have r3 := cell_of_row wr (w.heap.size) 3 _ _ _ HRr.out
        have r4 := cell_of_row wr (w.heap.size) 4 _ _ _ HRr.out
        have r5 := cell_of_row wr (w.heap.size) 5 _ _ _ HRr.out
        have r6 := cell_of_row wr (w.heap.size) 6 _ _ _ HRr.out
        simp only [List.getElem?_toArray, List.getElem?_cons_zero, List.getElem?_cons_succ] at r0 r1 r2 r3 r4 r5 r6
        have f0 := fun o => frozen_of_row wr w.heap.size o _ _ HRr.out
        have hp5 : 0 < 2 ^ (d + 1) := Nat.one_le_two_pow
        have hp6 : 2 ^ (d + 1 + 1) = 2 * 2 ^ (d + 1) := by rw [Nat.pow_succ]; omega
        have Hc2 := Lib.hid (show cntP (ps.map Prod.fst) ≤ 2 ^ (d + 1 + 1) - 2 by
          have h1 := Hcnt.out
          have h2 := Nat.mul_le_mul_right (2 ^ (d + 1) - 1) hpl
          omega)
        clear hp5 hp6 hdr hchr
        have hps1 : 1 ≤ ps.length := by omega
        clear hps
        by_cases hk2 : k = 2
        · subst hk2
          have Htk := Lib.hid (Hown.out.take (m := 1) rfl (by omega) (by omega))
          have f1 : (1 : Int) ≤ (cL : Int) := by omega
          have f2 : (1 : Int) ≤ (ps.length : Int) := by omega
          go_wp2_with fail
          refine bodyPost_ret (v := .agg #[.int .i64 5, .int .i64 0, .int .i64 0, .int .i64 0, .int .i64 0, .string ⟨#[]⟩, .slice (some ⟨gL, 0, none⟩) 1 cL]) ?_ rfl ⟨_, rfl, ⟨.mk 5 0 0 V.zero ((ps.take 1).map Prod.fst), .slice (some ⟨gL, 0, none⟩) 1 cL, rfl, ?_, Lib.hid ⟨⟨⟨Nat.zero_le _, by show POks _; rw [List.map_take]; exact Hpok.out.1.take 1⟩, ⟨zero_in, by show PIns _; rw [List.map_take]; exact Hpok.out.2.take 1⟩⟩, by show cntP _ ≤ _; rw [List.map_take]; exact Nat.le_trans (cntP_take_le _ 1) Hc2.out⟩⟩, ?_, ?_⟩
          · simp [results, Tryz.results59, go_sem, r0, r1, r2, r3, r4, r5, r6]
          · refine OwnP.imp (Htk.out.own) (by omega) (by simp [World.setCell]) fun b h1 h2 => ?_
            iterate 7 rw [Below.heap_setCell _ ⟨w.heap.size, _, none⟩ _ b (by show b ≠ w.heap.size; omega)]
          · iterate 7 refine chg_set ?_ (Nat.le_refl _) _
            exact hch
          · iterate 7 refine Dr.set ?_ (by omega) (by omega) _
            exact hd1
        · have hk5 : (3 + (k : Int) == 5) = false := by simp; omega
          go_wp2_with fail
          refine bodyPost_ret (v := .agg #[.int .i64 (3 + (k : Int)), .int .i64 0, .int .i64 0, .int .i64 0, .int .i64 0, .string ⟨#[]⟩, .slice (some ⟨gL, 0, none⟩) ps.length cL]) ?_ rfl ⟨_, rfl, ⟨.mk (3 + (k : Int)) 0 0 V.zero (ps.map Prod.fst), .slice (some ⟨gL, 0, none⟩) ps.length cL, rfl, ?_, Lib.hid ⟨⟨⟨Nat.zero_le _, Hpok.out.1⟩, ⟨zero_in, Hpok.out.2⟩⟩, Hc2.out⟩⟩, ?_, ?_⟩
          · simp [results, Tryz.results59, go_sem, r0, r1, r2, r3, r4, r5, r6]
          · refine OwnP.imp (Hown.out.own) (by omega) (by simp [World.setCell]) fun b h1 h2 => ?_
            iterate 7 rw [Below.heap_setCell _ ⟨w.heap.size, _, none⟩ _ b (by show b ≠ w.heap.size; omega)]
          · iterate 7 refine chg_set ?_ (Nat.le_refl _) _
            exact hch
          · iterate 7 refine Dr.set ?_ (by omega) (by omega) _
            exact hd1
  · go_wp2_with fail
    refine (spec_l1Once 5 _ g hd1 (by decide)).mono ?_
    rintro e w5 ⟨_, rfl, ⟨b5, rfl⟩, hch5, hd5⟩
    replace HR := Lib.hid (chg_cell HR.out hch5 hlt)
    have hx5 := hx1.same (.of_chg hch5 (.inr (Nat.le_refl _)) hhi1)
    have hhi5 := Nat.le_trans hhi1 hch5.size
    replace hch := hch.trans hch5
    clear hd1 hx1 hch5 hhi1
    cases b5
    · go_wp2_with fail
      refine (spec_l11Cmp1 cols _ w5 g hd5 hx5 hhi5 Hok.out).mono ?_
      rintro e w6 ⟨_, rfl, ⟨k, op, y, rfl, HK⟩, hch6, hd1⟩
      have HR6 := chg_cell HR.out hch6 hlt
      have r0 := cell_of_row w6 (w.heap.size) 0 _ _ _ HR6
      have r1 := cell_of_row w6 (w.heap.size) 1 _ _ _ HR6
      have r2 := cell_of_row w6 (w.heap.size) 2 _ _ _ HR6
      have r3 := cell_of_row w6 (w.heap.size) 3 _ _ _ HR6
      have r4 := cell_of_row w6 (w.heap.size) 4 _ _ _ HR6
      have r5 := cell_of_row w6 (w.heap.size) 5 _ _ _ HR6
      have r6 := cell_of_row w6 (w.heap.size) 6 _ _ _ HR6
      simp only [List.getElem?_toArray, List.getElem?_cons_zero, List.getElem?_cons_succ] at r0 r1 r2 r3 r4 r5 r6
      have f0 := fun o => frozen_of_row w6 w.heap.size o _ _ HR6
      replace hch := hch.trans hch6
      clear HR6 hch6 HR hx5 hd5
      go_wp2_with fail
      refine bodyPost_ret (v := .agg #[.int .i64 2, .int .i64 k, .int .i64 op, .int .i64 y.ty, .int .i64 y.n, .string y.s, .slice none 0 0]) ?_ rfl ⟨_, rfl, ⟨.mk 2 k op y [], .slice none 0 0, rfl, ownP_none _ _ _ _, Lib.hid ⟨⟨⟨Nat.le_trans HK.out.2.2.2.1 (by decide), POks.nil⟩, ⟨show (-9223372036854775808 : Int) ≤ (k : Int) ∧ (k : Int) ≤ 9223372036854775807 by have := HK.out.1; omega, PIns.nil⟩⟩, by simp [P.l, cntP_nil]⟩⟩, ?_, ?_⟩
      · simp [results, Tryz.results59, go_sem, r0, r1, r2, r3, r4, r5, r6]
      · iterate 7 refine chg_set ?_ (Nat.le_refl _) _
        exact hch
      · iterate 7 refine Dr.set ?_ (by omega) (by omega) _
        exact hd1
    · have hd1 := hd5
      have r0 := cell_of_row w5 (w.heap.size) 0 _ _ _ HR.out
      have r1 := cell_of_row w5 (w.heap.size) 1 _ _ _ HR.out
      have r2 := cell_of_row w5 (w.heap.size) 2 _ _ _ HR.out
      have r3 := cell_of_row w5 (w.heap.size) 3 _ _ _ HR.out
      have r4 := cell_of_row w5 (w.heap.size) 4 _ _ _ HR.out
      have r5 := cell_of_row w5 (w.heap.size) 5 _ _ _ HR.out
      have r6 := cell_of_row w5 (w.heap.size) 6 _ _ _ HR.out
      simp only [List.getElem?_toArray, List.getElem?_cons_zero, List.getElem?_cons_succ] at r0 r1 r2 r3 r4 r5 r6
      have f0 := fun o => frozen_of_row w5 w.heap.size o _ _ HR.out
      clear hd5 hx5
      go_wp2_with fail
      refine bodyPost_ret (v := .agg #[.int .i64 1, .int .i64 0, .int .i64 0, .int .i64 0, .int .i64 0, .string ⟨#[]⟩, .slice none 0 0]) ?_ rfl ⟨_, rfl, ⟨.mk 1 0 0 V.zero [], .slice none 0 0, rfl, ownP_none _ _ _ _, Lib.hid ⟨⟨⟨Nat.zero_le _, POks.nil⟩, ⟨zero_in, PIns.nil⟩⟩, by simp [P.l, cntP_nil]⟩⟩, ?_, ?_⟩
      · simp [results, Tryz.results59, go_sem, r0, r1, r2, r3, r4, r5, r6]
      · iterate 7 refine chg_set ?_ (Nat.le_refl _) _
        exact hch
      · iterate 7 refine Dr.set ?_ (by omega) (by omega) _
        exact hd1
theorem spec_l11Draw (cols : List Int) (hok : colsOk cols = true) : ∀ (d : Nat), d ≤ 4 → DrawC cols d
  | 0, _ => spec_l11Draw_0 cols hok
  | d + 1, h => spec_l11Draw_s cols hok d (by omega) (spec_l11Draw cols hok d (by omega))
end Go.Proofs.YtjogkbkkcaljhaaGreatDoor
