/- Small words for a slice that is built by appends. No conditions; nothing here speaks of the program. -/
import Derived.Test.YtnldneogjdljkaaMem
import Derived.Deep.AppendLies
import Derived.Lib.QuietBelow
import Derived.Laws.OwnMore
namespace Go.Lb
open Go.RowKit

section
variable {P : Program} {w : World} {ops : Array Oper} {rest : List Oper} {o : Oper} {a : Act} {Q : Exit → Act → World → Prop}
/-- One element is appended (a plain region's list). -/
theorem wpl_app (hgd : o.guard = none) (s x : Operand) (t : TypeId) (ho : o.op = .call { callee := .builtin .append, args := #[s, x], argTypes := #[t, t] })
    (base : Nat) (e : TypeId) (i : TypeInfo) (z : Value) (size bytes : Nat) (ht : P.underlying t = some (.slice e)) (hi : P.info? e = some i) (hz : i.zero = some z)
    (hsize : i.size = size) (hby : i.bytes = bytes) (hzs : z.cells.size = size) (hsz : 0 < size) (hb64 : bytes ≤ 64)
    {v : Value} {n : Nat} {xs : List Value} (hown : w.ownsRow base e size v n xs) (hs : a.eval s = v)
    {B : Nat} {cs : Array Value} {ty : TypeId} {fr : Nat × Nat} (hB : w.heap[B]? = some (.cells cs ty fr)) (hx : a.eval x = .slice (some ⟨B, 0, none⟩) 1 1)
    (hcs : cs.size = size) (h1 : ∀ u ∈ cs.toList, u.oneCell' = true) (hn : n ≤ 1099511627776) (hbase : base ≤ w.heap.size)
    (h : ∀ v' w', w'.ownsRow base e size v' (n + 1) (xs ++ cs.toList) → w.grownBy w' v.ownBlock → (∀ g, v'.ownBlock = some g → v.ownBlock = some g ∨ w.heap.size ≤ g) → wpList P ops Q rest (a.put o.dst v') w') : wpList P ops Q (o :: rest) a w :=
  wpList_append_lies w hgd s x t ho base e i z size bytes ht hi hz hsize hby hzs hsz v n xs hs hown ⟨B, 0, none⟩ 1 1 cs.toList hx (by simp [hcs]) (World.news_of_block hB) h1 (by omega)
    (by unfold maxLen; omega) (by have := Nat.mul_le_mul (show n + 1 ≤ 1099511627777 by omega) hb64; omega) hbase _ rfl fun g _ w' h2 h3 h4 _ => h _ w' h2 h3 fun g' hg' => by
      injection hg' with hg'
      subst hg'
      rcases h4 with h4 | h4
      · exact .inl h4
      · exact .inr (Nat.le_of_eq h4.symm)
/-- The same at a step of a region that draws its order. -/
theorem step_app {K : Act → World → Prop} {E : Prop} (hgd : o.guard = none) (s x : Operand) (t : TypeId) (ho : o.op = .call { callee := .builtin .append, args := #[s, x], argTypes := #[t, t] })
    (base : Nat) (e : TypeId) (i : TypeInfo) (z : Value) (size bytes : Nat) (ht : P.underlying t = some (.slice e)) (hi : P.info? e = some i) (hz : i.zero = some z)
    (hsize : i.size = size) (hby : i.bytes = bytes) (hzs : z.cells.size = size) (hsz : 0 < size) (hb64 : bytes ≤ 64)
    {v : Value} {n : Nat} {xs : List Value} (hown : w.ownsRow base e size v n xs) (hs : a.eval s = v)
    {B : Nat} {cs : Array Value} {ty : TypeId} {fr : Nat × Nat} (hB : w.heap[B]? = some (.cells cs ty fr)) (hx : a.eval x = .slice (some ⟨B, 0, none⟩) 1 1)
    (hcs : cs.size = size) (h1 : ∀ u ∈ cs.toList, u.oneCell' = true) (hn : n ≤ 1099511627776) (hbase : base ≤ w.heap.size)
    (h : ∀ v' w', w'.ownsRow base e size v' (n + 1) (xs ++ cs.toList) → w.grownBy w' v.ownBlock → (∀ g, v'.ownBlock = some g → v.ownBlock = some g ∨ w.heap.size ≤ g) → K (a.put o.dst v') w') :
    if Region.wanted o (yielded ops a.tmps) = true then Oper.wp P o a w K Q else E :=
  step_append_lies w hgd s x t ho base e i z size bytes ht hi hz hsize hby hzs hsz v n xs hs hown ⟨B, 0, none⟩ 1 1 cs.toList hx (by simp [hcs]) (World.news_of_block hB) h1 (by omega)
    (by unfold maxLen; omega) (by have := Nat.mul_le_mul (show n + 1 ≤ 1099511627777 by omega) hb64; omega) hbase _ rfl fun g _ w' h2 h3 h4 _ => h _ w' h2 h3 fun g' hg' => by
      injection hg' with hg'
      subst hg'
      rcases h4 with h4 | h4
      · exact .inl h4
      · exact .inr (Nat.le_of_eq h4.symm)
end

section
variable {P : Program} {w : World} {ops : Array Oper} {rest : List Oper} {o : Oper} {a : Act} {Q : Exit → Act → World → Prop}
theorem run_app_none (base : Nat) (t ty e : TypeId) (i : TypeInfo) (size c : Nat) (ht : P.underlying t = some (.slice e)) (hi : P.info? e = some i)
    (v : Value) (n : Nat) (xs : List Value) (hown : w.ownsRow base e size v n xs) :
    (Builtin.append_ #[t, t] ty #[v, .slice none 0 c]).run P w = .ok v w := by
  rcases hown.2 with ⟨rfl, rfl⟩ | ⟨g, cap, cur, rfl, _, _, hnc, _⟩
  · simp [Builtin.append_, run_underlying ht, sizeOf, typeInfo, hi, Builtin.lenOf, Builtin.firstCells]
  · simp [Builtin.append_, run_underlying ht, sizeOf, typeInfo, hi, Builtin.lenOf, Builtin.firstCells, hnc, storeCells]
/-- A whole slice is appended: what the operation leaves. -/
theorem wp_spread {K : Act → World → Prop} (s x : Operand) (t : TypeId) (ho : o.op = .call { callee := .builtin .append, args := #[s, x], argTypes := #[t, t] })
    (base : Nat) (e : TypeId) (i : TypeInfo) (z : Value) (size bytes : Nat) (ht : P.underlying t = some (.slice e)) (hi : P.info? e = some i) (hz : i.zero = some z)
    (hsize : i.size = size) (hby : i.bytes = bytes) (hzs : z.cells.size = size) (hsz : 0 < size) (hb64 : bytes ≤ 64)
    {v : Value} {n : Nat} {xs : List Value} (hown : w.ownsRow base e size v n xs) (hs : a.eval s = v)
    {A : Option Addr} {m c : Nat} {news : List Value} (hx : a.eval x = .slice A m c) (hl : news.length = m * size)
    (hA : A = none → m = 0) (hnews : ∀ ad, A = some ad → ∀ j u, news[j]? = some u → w.cell? (ad.add j) = some u) (h1 : ∀ u ∈ news, u.oneCell' = true) (hn : n + m ≤ 1099511627776) (hbase : base ≤ w.heap.size)
    (h : ∀ v' w', w'.ownsRow base e size v' (n + m) (xs ++ news) → w.grownBy w' v.ownBlock → (∀ g, v'.ownBlock = some g → v.ownBlock = some g ∨ w.heap.size ≤ g) → K (a.put o.dst v') w') : o.wp P a w K Q := by
  cases A with
  | none =>
    obtain rfl := hA rfl
    obtain rfl : news = [] := List.eq_nil_of_length_eq_zero (by simpa using hl)
    have hrun := run_app_none (P := P) (w := w) base t o.type e i size c ht hi v n xs hown
    unfold Oper.wp
    simp [execOp, ho, resolve, invoke, builtin, hs, hx, hrun, Result.andThen]
    exact h v w (by simpa using hown) (World.grownBy.refl w _) (fun g hg => .inl hg)
  | some ad =>
    obtain ⟨v', w', hr, h2, h3, _, h5⟩ := run_append_own_at (P := P) w base t o.type e i z size bytes ht hi hz hsize hby hzs hsz v n xs hown ad m c news hl (hnews ad rfl) h1
      (by unfold maxLen; omega) (by have := Nat.mul_le_mul hn hb64; omega) hbase
    unfold Oper.wp execOp
    simp only [ho, resolve, invoke, builtin, Sem.run_bind, Sem.run_pure, Result.andThen_ok, List.map_toArray, List.map_cons, List.map_nil, hs, hx, hr]
    refine h v' w' h2 h3 fun g hg => ?_
    rcases h5 with h5 | h5
    · exact .inl (by rw [← h5]; exact hg)
    · right
      rw [h5] at hg
      injection hg with hg
      omega
/-- The same at a plain region's list. -/
theorem wpl_spread (hgd : o.guard = none) (s x : Operand) (t : TypeId) (ho : o.op = .call { callee := .builtin .append, args := #[s, x], argTypes := #[t, t] })
    (base : Nat) (e : TypeId) (i : TypeInfo) (z : Value) (size bytes : Nat) (ht : P.underlying t = some (.slice e)) (hi : P.info? e = some i) (hz : i.zero = some z)
    (hsize : i.size = size) (hby : i.bytes = bytes) (hzs : z.cells.size = size) (hsz : 0 < size) (hb64 : bytes ≤ 64)
    {v : Value} {n : Nat} {xs : List Value} (hown : w.ownsRow base e size v n xs) (hs : a.eval s = v)
    {A : Option Addr} {m c : Nat} {news : List Value} (hx : a.eval x = .slice A m c) (hl : news.length = m * size)
    (hA : A = none → m = 0) (hnews : ∀ ad, A = some ad → ∀ j u, news[j]? = some u → w.cell? (ad.add j) = some u) (h1 : ∀ u ∈ news, u.oneCell' = true) (hn : n + m ≤ 1099511627776) (hbase : base ≤ w.heap.size)
    (h : ∀ v' w', w'.ownsRow base e size v' (n + m) (xs ++ news) → w.grownBy w' v.ownBlock → (∀ g, v'.ownBlock = some g → v.ownBlock = some g ∨ w.heap.size ≤ g) → wpList P ops Q rest (a.put o.dst v') w') : wpList P ops Q (o :: rest) a w :=
  wpList_plain hgd fun _ hK => wp_spread s x t ho base e i z size bytes ht hi hz hsize hby hzs hsz hb64 hown hs hx hl hA hnews h1 hn hbase fun v' w' h2 h3 h4 => hK _ _ (h v' w' h2 h3 h4)
/-- The same at a step of a region that draws its order. -/
theorem step_spread {K : Act → World → Prop} {E : Prop} (hgd : o.guard = none) (s x : Operand) (t : TypeId) (ho : o.op = .call { callee := .builtin .append, args := #[s, x], argTypes := #[t, t] })
    (base : Nat) (e : TypeId) (i : TypeInfo) (z : Value) (size bytes : Nat) (ht : P.underlying t = some (.slice e)) (hi : P.info? e = some i) (hz : i.zero = some z)
    (hsize : i.size = size) (hby : i.bytes = bytes) (hzs : z.cells.size = size) (hsz : 0 < size) (hb64 : bytes ≤ 64)
    {v : Value} {n : Nat} {xs : List Value} (hown : w.ownsRow base e size v n xs) (hs : a.eval s = v)
    {A : Option Addr} {m c : Nat} {news : List Value} (hx : a.eval x = .slice A m c) (hl : news.length = m * size)
    (hA : A = none → m = 0) (hnews : ∀ ad, A = some ad → ∀ j u, news[j]? = some u → w.cell? (ad.add j) = some u) (h1 : ∀ u ∈ news, u.oneCell' = true) (hn : n + m ≤ 1099511627776) (hbase : base ≤ w.heap.size)
    (h : ∀ v' w', w'.ownsRow base e size v' (n + m) (xs ++ news) → w.grownBy w' v.ownBlock → (∀ g, v'.ownBlock = some g → v.ownBlock = some g ∨ w.heap.size ≤ g) → K (a.put o.dst v') w') :
    if Region.wanted o (yielded ops a.tmps) = true then Oper.wp P o a w K Q else E := by
  have hw : Region.wanted o (yielded ops a.tmps) = true := by simp [Region.wanted, hgd]
  rw [if_pos hw]
  exact wp_spread s x t ho base e i z size bytes ht hi hz hsize hby hzs hsz hb64 hown hs hx hl hA hnews h1 hn hbase h
end

section
variable {w w' w1 : World} {base B e s n : Nat} {v : Value} {xs : List Value}
theorem Below.grown {row : Option Nat} (hb : Below B w w') (hg : w'.grownBy w1 row) (hr : ∀ g, row = some g → B ≤ g) (hB : B ≤ w.heap.size) : Below B w w1 :=
  ⟨hg.os.trans hb.os, hg.tape.trans hb.tape, hg.output.trans hb.output, Nat.le_trans hb.size hg.size, fun k hk =>
    (hg.block k (Nat.lt_of_lt_of_le (Nat.lt_of_lt_of_le hk hB) hb.size) (fun e => by have := hr k e.symm; omega)).trans (hb.block k hk)⟩
/-- Below the base nothing turns when a row of the call's own grows. -/
theorem below_app (hb : Below B w w') (hown : w'.ownsRow B e s v n xs) (hg : w'.grownBy w1 v.ownBlock) (hB : B ≤ w.heap.size) : Below B w w1 :=
  Below.grown hb hg (fun g h => (hown.lt g h).1) hB
theorem owns_below (h : w.ownsRow base e s v n xs) (hb : Below w.heap.size w w') : w'.ownsRow base e s v n xs :=
  h.kept (row := none) ⟨hb.os, hb.tape, hb.output, hb.size, fun k hk _ => hb.block k hk⟩ (by cases v.ownBlock <;> simp)
theorem owns_drew (h : w.ownsRow base e s v n xs) : w.drew.ownsRow base e s v n xs := h
/-- A cell of a block that is not the row's own is kept by the append. -/
theorem cell_app {b o : Nat} {u : Value} (h : w.cell? ⟨b, o, none⟩ = some u) (hg : w.grownBy w1 v.ownBlock) (hne : ∀ g, v.ownBlock = some g → g ≠ b) : w1.cell? ⟨b, o, none⟩ = some u :=
  (hg.cell_far ⟨b, o, none⟩ (block_lt_of_cell h) (fun e => hne b e.symm rfl)).trans h
theorem cell_keep {b o : Nat} {u : Value} (h : w.cell? ⟨b, o, none⟩ = some u) (hb : Below w.heap.size w w1) : w1.cell? ⟨b, o, none⟩ = some u := (hb.cell (p := ⟨b, o, none⟩) (block_lt_of_cell h)).trans h
end

/-- The cells of a slice that is read, as a spread append asks for them. -/
theorem RdG.news {α : Type} {f : α → List Value} {sz : Nat} (hf : ∀ a, (f a).length = sz) (hs0 : 0 < sz) {w : World} {l : List α} {lo hi n c : Nat} {A : Option Addr} {E : Nat → Nat → Nat → Prop}
    (h : RdG lo hi sz (.slice A n c) l.length E) (hE : ∀ k b o, E k b o → ∃ x, l[k]? = some x ∧ ∀ j, j < sz → w.cell? ⟨b, o + j, none⟩ = (f x)[j]?) :
    n = l.length ∧ (A = none → l.length = 0) ∧ ∀ ad, A = some ad → ∀ j u, (l.flatMap f)[j]? = some u → w.cell? (ad.add j) = some u := by
  obtain ⟨A', c', e, hn, hc, hk⟩ := h
  injection e with e1 e2 e3
  subst e1
  refine ⟨e2, fun hA => ?_, fun ad had j u hj => ?_⟩
  · rcases Nat.eq_zero_or_pos l.length with h0 | h0
    · exact h0
    · obtain ⟨b, off, ha, -⟩ := hk 0 h0
      rw [hA] at ha
      cases ha
  · have hjl : j < l.length * sz := by
      have := (List.getElem?_eq_some_iff.1 hj).1
      rwa [flat_len f sz hf] at this
    have hkl : j / sz < l.length := (Nat.div_lt_iff_lt_mul hs0).2 hjl
    obtain ⟨b, off, ha, -, -, hEk⟩ := hk (j / sz) hkl
    obtain ⟨x, hx, hcell⟩ := hE _ _ _ hEk
    rw [had] at ha
    injection ha with ha
    subst ha
    have hm : j % sz < sz := Nat.mod_lt _ hs0
    have h1 := flat_get f sz hf l (j / sz) (j % sz) x hx hm
    rw [Nat.div_add_mod'] at h1
    rw [add_plain, show off + j = off + j / sz * sz + j % sz by rw [Nat.add_assoc, Nat.div_add_mod'], hcell _ hm, ← h1]
    exact hj
theorem V.cells_get (x : V) {w : World} {b o : Nat} (h : VAt w b o x) (j : Nat) (hj : j < 3) : w.cell? ⟨b, o + j, none⟩ = (V.cells x)[j]? := by
  obtain ⟨h0, h1, h2⟩ := h
  match j, hj with
  | 0, _ => exact h0
  | 1, _ => exact h1
  | 2, _ => exact h2
theorem RdV.news {w : World} {l : List V} {lo hi n c : Nat} {A : Option Addr} (h : RdV w lo hi (.slice A n c) l) :
    n = l.length ∧ (A = none → l.length = 0) ∧ ∀ ad, A = some ad → ∀ j u, (l.flatMap V.cells)[j]? = some u → w.cell? (ad.add j) = some u :=
  RdG.news V.cells_len (by decide) h fun k b o ⟨x, hx, hv⟩ => ⟨x, hx, x.cells_get hv⟩
theorem RdI.news {w : World} {l : List Int} {lo hi n c : Nat} {A : Option Addr} (h : RdI w lo hi (.slice A n c) l) :
    n = l.length ∧ (A = none → l.length = 0) ∧ ∀ ad, A = some ad → ∀ j u, (l.flatMap fun x => [Value.int .i64 x])[j]? = some u → w.cell? (ad.add j) = some u :=
  RdG.news (sz := 1) (fun _ => rfl) (by decide) h fun k b o ⟨x, hx, hv⟩ => ⟨x, hx, fun j hj => (show j = 0 by omega) ▸ hv⟩
theorem RdB.news {w : World} {l : List UInt8} {lo hi n c : Nat} {A : Option Addr} (h : RdB w lo hi (.slice A n c) l) :
    n = l.length ∧ (A = none → l.length = 0) ∧ ∀ ad, A = some ad → ∀ j u, (l.flatMap fun x => [Value.int .u8 (x.toNat : Int)])[j]? = some u → w.cell? (ad.add j) = some u :=
  RdG.news (sz := 1) (fun _ => rfl) (by decide) h fun k b o ⟨x, hx, hv⟩ => ⟨x, hx, fun j hj => (show j = 0 by omega) ▸ hv⟩
theorem one_cells (l : List V) : ∀ u ∈ l.flatMap V.cells, u.oneCell' = true := fun u hu => by
  obtain ⟨x, -, h⟩ := List.mem_flatMap.1 hu
  simp only [V.cells, List.mem_cons, List.not_mem_nil, or_false] at h
  rcases h with rfl | rfl | rfl <;> rfl
end Go.Lb
