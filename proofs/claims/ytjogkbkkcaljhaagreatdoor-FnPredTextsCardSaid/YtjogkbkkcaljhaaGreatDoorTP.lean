/- Predicates as text: contracts. -/
import Derived.Test.YtjogkbkkcaljhaaGreatDoorYB
import Derived.Test.YtjogkbkkcaljhaaGreatDoorYA
import Derived.Test.YtjogkbkkcaljhaaGreatDoorXA
import Derived.Test.YtjogkbkkcaljhaaGreatDoorXG
namespace Go.Proofs.YtjogkbkkcaljhaaGreatDoor
open Go.Sort Go.ChangeShapes Go.WideShapes Go.ChangeAt Go.RowKit Go.Lb
/-- The columns of a predicate are numbers of 64 bits. -/
inductive PIns : List P → Prop where
  | mk (l : List P) (h1 : ∀ x ∈ l, -9223372036854775808 ≤ x.col ∧ x.col ≤ 9223372036854775807) (h2 : ∀ x ∈ l, PIns x.l) : PIns l
def PInOk (p : P) : Prop := (-9223372036854775808 ≤ p.col ∧ p.col ≤ 9223372036854775807) ∧ PIns p.l
theorem PIns.get {l : List P} {k : Nat} {x : P} (h : PIns l) (hx : l[k]? = some x) : PInOk x := by
  cases h with
  | mk l h1 h2 => exact ⟨h1 x (List.mem_of_getElem? hx), h2 x (List.mem_of_getElem? hx)⟩
theorem PInOk.get {p x : P} {k : Nat} (h : PInOk p) (hx : p.l[k]? = some x) : PInOk x := h.2.get hx
def word (k : Int) : ByteArray := if k = 3 then ⟨#[97, 110, 100, 40]⟩ else if k = 4 then ⟨#[111, 114, 40]⟩ else ⟨#[110, 111, 116, 40]⟩
mutual
def predT : P → ByteArray
  | .mk kind col op v ps => if kind = 1 then ⟨#[97, 108, 108]⟩ else if kind = 2 then ((⟨#[99]⟩ ++ numText col) ++ opText op) ++ valText v else if kind = 3 ∨ kind = 4 ∨ kind = 5 then (word kind ++ ⟨(Lib.join (predTs ps) [44]).toArray⟩) ++ ⟨#[41]⟩ else ⟨#[]⟩
def predTs : List P → List (List UInt8)
  | [] => []
  | p :: r => (predT p).data.toList :: predTs r
end
theorem predTs_eq (ps : List P) : predTs ps = ps.map fun x => (predT x).data.toList := by
  induction ps with
  | nil => rw [predTs]; rfl
  | cons p r ih => rw [predTs, ih]; rfl
theorem predT_eq (p : P) : predT p = if p.kind = 1 then ⟨#[97, 108, 108]⟩ else if p.kind = 2 then ((⟨#[99]⟩ ++ numText p.col) ++ opText p.op) ++ valText p.v else if p.kind = 3 ∨ p.kind = 4 ∨ p.kind = 5 then (word p.kind ++ ⟨(Lib.join (p.l.map fun x => (predT x).data.toList) [44]).toArray⟩) ++ ⟨#[41]⟩ else ⟨#[]⟩ := by
  cases p with
  | mk kind col op v ps =>
    rw [predT, predTs_eq]
    rfl
def predPart (p : P) (k : Nat) : ByteArray := word p.kind ++ ⟨(Lib.join ((p.l.take k).map fun x => (predT x).data.toList) [44]).toArray⟩
theorem predPart_zero (p : P) : predPart p 0 = word p.kind := by
  apply ByteArray.ext
  simp [predPart, join_nil]
theorem predPart_one {p y : P} (h : p.l[0]? = some y) : predPart p 1 = predPart p 0 ++ predT y := by
  apply ByteArray.ext
  rw [predPart_zero]
  simp [predPart, take_of_get h, Lib.join_one]
theorem predPart_step {p : P} {k : Nat} {y : P} (h : p.l[k]? = some y) (hk : 0 < k) : predPart p (k + 1) = (predPart p k ++ ⟨#[44]⟩) ++ predT y := by
  have hkl := (List.getElem?_eq_some_iff.1 h).1
  have hne : ((p.l.take k).map fun x => (predT x).data.toList) ≠ [] := by
    intro e
    have := congrArg List.length e
    simp at this
    rcases this with h1 | h1
    · omega
    · rw [h1] at hkl
      simp at hkl
  apply ByteArray.ext
  apply Array.toList_inj.1
  simp only [predPart, take_of_get h, List.map_append, List.map_cons, List.map_nil]
  rw [join_snoc _ _ _ hne]
  simp
theorem predT_part {p : P} (h : p.kind = 3 ∨ p.kind = 4 ∨ p.kind = 5) : predT p = predPart p p.l.length ++ ⟨#[41]⟩ := by
  rw [predT_eq, if_neg (by omega), if_neg (by omega), if_pos h, predPart, List.take_length]
theorem word_len (k : Int) : (word k).size ≤ 4 := by
  unfold word
  split
  · exact Nat.le_refl _
  · split
    · show 3 ≤ 4; omega
    · exact Nat.le_refl _
theorem opText_len (n : Int) : (opText n).size ≤ 2 := by
  unfold opText
  repeat (split; · decide)
  decide
theorem predPart_len {p : P} (hc : ∀ x ∈ p.l, (predT x).size + 1 ≤ 64 * (1 + cntP x.l)) : ∀ k, k ≤ p.l.length → (predPart p k).size ≤ 4 + 64 * cntP (p.l.take k)
  | 0, _ => by
    rw [predPart_zero]
    exact Nat.le_trans (word_len _) (Nat.le_add_right _ _)
  | k + 1, h => by
    have ih := predPart_len hc k (by omega)
    have hg : p.l[k]? = some (p.l[k]'(by omega)) := List.getElem?_eq_getElem (by omega)
    have hv := hc _ (mem_of_get hg)
    rw [(cntP_take hg).1]
    by_cases h0 : k = 0
    · subst h0
      rw [predPart_one hg, ByteArray.size_append]
      omega
    · rw [predPart_step hg (by omega), ByteArray.size_append, ByteArray.size_append]
      show _ + 1 + _ ≤ _
      omega
theorem predT_len_n : ∀ (N : Nat) (p : P), SizeOf.sizeOf p < N → PInOk p → (predT p).size + 1 ≤ 64 * (1 + cntP p.l)
  | 0, _, h, _ => absurd h (Nat.not_lt_zero _)
  | N + 1, p, hN, hi => by
    by_cases k3 : p.kind = 3 ∨ p.kind = 4 ∨ p.kind = 5
    · have hp := predPart_len (p := p) (fun x hx => by
        obtain ⟨k, hk, e⟩ := List.getElem_of_mem hx
        have hg : p.l[k]? = some x := by rw [List.getElem?_eq_getElem hk, e]
        have := P.get_lt hg
        exact predT_len_n N x (by omega) (hi.get hg)) p.l.length (Nat.le_refl _)
      rw [List.take_length] at hp
      rw [predT_part k3, ByteArray.size_append]
      show _ + 1 + 1 ≤ _
      omega
    · rw [predT_eq]
      by_cases k1 : p.kind = 1
      · rw [if_pos k1]
        show 3 + 1 ≤ _
        omega
      · rw [if_neg k1]
        by_cases k2 : p.kind = 2
        · have h1 := numText_len hi.1.1 hi.1.2
          have h2 := opText_len p.op
          have h3 := valText_len p.v
          rw [if_pos k2, ByteArray.size_append, ByteArray.size_append, ByteArray.size_append]
          show 1 + _ + _ + _ + 1 ≤ _
          omega
        · rw [if_neg k2, if_neg k3]
          show 0 + 1 ≤ _
          omega
theorem predT_len {p : P} (h : PInOk p) : (predT p).size + 1 ≤ 64 * (1 + cntP p.l) := predT_len_n _ p (Nat.lt_succ_self _) h
theorem impl_predWord (n : Int) (h : n = 3 ∨ n = 4 ∨ n = 5) (w : World) : Calls Tryz.prog 35 #[.int .i64 n] w fun e w' => e = .returned (.string (word n)) ∧ w' = w := by
  rcases h with rfl | rfl | rfl
  all_goals
    go_enter Tryz.func35, Tryz.ntmps35
    go_wp2_with fail
    go_ret
    exact ⟨rfl, rfl⟩
set_option maxHeartbeats 8000000 in
set_option maxRecDepth 20000 in
theorem spec_PredText_n : ∀ (N : Nat) (p : P), SizeOf.sizeOf p < N → ∀ (sv : Value) (w : World) (lo hi : Nat), RdP w lo hi sv p.l → hi ≤ w.heap.size → POk p → PInOk p → cntP p.l ≤ 1048576 → Pow w →
    Calls Tryz.prog 18 #[.agg #[.int .i64 p.kind, .int .i64 p.col, .int .i64 p.op, .int .i64 p.v.ty, .int .i64 p.v.n, .string p.v.s, sv]] w fun e w' => e = .returned (.string (predT p)) ∧ Below w.heap.size w w'
  | 0, _, h => absurd h (Nat.not_lt_zero _)
  | N + 1, p, hN => by
    have IH := Lib.hid (spec_PredText_n N)
    intro sv w lo hi hx hhi hok hin hcn ht
    obtain ⟨A, c, rfl, hl, hl2⟩ := hx.form
    have HE := Lib.hid (predT_eq p)
    have HEP := Lib.hid (@predT_part p)
    have HPL := Lib.hid (predPart_len (p := p) fun x hx => (List.getElem_of_mem hx).elim fun k ⟨hk, e⟩ => predT_len (hin.get (by rw [List.getElem?_eq_getElem hk, e])))
    obtain ⟨kd, hkd⟩ : ∃ kd, p.kind = kd := ⟨_, rfl⟩
    rw [hkd] at HE HEP ⊢
    have Hkd := Lib.hid hkd
    have hb0 := up_a1 w (.cells #[.int .i64 kd, .int .i64 p.col, .int .i64 p.op, .int .i64 p.v.ty, .int .i64 p.v.n, .string p.v.s, .slice A p.l.length c] 27)
    have g0 := heap_alloc_new w (.cells #[.int .i64 kd, .int .i64 p.col, .int .i64 p.op, .int .i64 p.v.ty, .int .i64 p.v.n, .string p.v.s, .slice A p.l.length c] 27)
    have HT := Lib.hid (pow_below ht hb0)
    have HX := Lib.hid (hx.below hb0 hhi)
    have hhi0 : hi ≤ (w.alloc (.cells #[.int .i64 kd, .int .i64 p.col, .int .i64 p.op, .int .i64 p.v.ty, .int .i64 p.v.n, .string p.v.s, .slice A p.l.length c] 27)).heap.size := Nat.le_trans hhi hb0.size
    have hlt : w.heap.size < (w.alloc (.cells #[.int .i64 kd, .int .i64 p.col, .int .i64 p.op, .int .i64 p.v.ty, .int .i64 p.v.n, .string p.v.s, .slice A p.l.length c] 27)).heap.size := by simp
    have HB0 := Lib.hid hb0
    have G0 := Lib.hid g0
    have HOK := Lib.hid hok
    have HIN := Lib.hid hin
    clear hx ht hb0 g0 hok hin hkd
    by_cases k1 : kd = 1
    · subst k1
      have H := Lib.hid (show predT p = ⟨#[97, 108, 108]⟩ by rw [HE.out, if_pos rfl])
      clear HE HEP HPL HX hhi0 hlt G0 IH hcn
      go_enter Tryz.func18, Tryz.ntmps18
      go_wp2_with fail
      go_ret
      exact ⟨by rw [H.out]; rfl, HB0.out⟩
    by_cases k2 : kd = 2
    · subst k2
      have H := Lib.hid (show predT p = ((⟨#[99]⟩ ++ numText p.col) ++ opText p.op) ++ valText p.v by rw [HE.out, if_neg (by decide), if_pos rfl])
      have hN1 := fun W (h : Below (w.alloc (.cells #[.int .i64 2, .int .i64 p.col, .int .i64 p.op, .int .i64 p.v.ty, .int .i64 p.v.n, .string p.v.s, .slice A p.l.length c] 27)).heap.size (w.alloc (.cells #[.int .i64 2, .int .i64 p.col, .int .i64 p.op, .int .i64 p.v.ty, .int .i64 p.v.n, .string p.v.s, .slice A p.l.length c] 27)) W) => spec_NumText' p.col W HIN.out.1.1 HIN.out.1.2 (pow_below HT.out h)
      have hN2 := fun W (_h : Below (w.alloc (.cells #[.int .i64 2, .int .i64 p.col, .int .i64 p.op, .int .i64 p.v.ty, .int .i64 p.v.n, .string p.v.s, .slice A p.l.length c] 27)).heap.size (w.alloc (.cells #[.int .i64 2, .int .i64 p.col, .int .i64 p.op, .int .i64 p.v.ty, .int .i64 p.v.n, .string p.v.s, .slice A p.l.length c] 27)) W) => spec_OpText p.op W
      have hN3 := fun W (h : Below (w.alloc (.cells #[.int .i64 2, .int .i64 p.col, .int .i64 p.op, .int .i64 p.v.ty, .int .i64 p.v.n, .string p.v.s, .slice A p.l.length c] 27)).heap.size (w.alloc (.cells #[.int .i64 2, .int .i64 p.col, .int .i64 p.op, .int .i64 p.v.ty, .int .i64 p.v.n, .string p.v.s, .slice A p.l.length c] 27)) W) => spec_ValText p.v W HOK.out.1 (pow_below HT.out h)
      have l1 := numText_len HIN.out.1.1 HIN.out.1.2
      have l2 := opText_len p.op
      have l3 := valText_len p.v
      obtain ⟨nt, hnt⟩ : ∃ t, numText p.col = t := ⟨_, rfl⟩
      obtain ⟨ot, hot⟩ : ∃ t, opText p.op = t := ⟨_, rfl⟩
      obtain ⟨vt, hvt⟩ : ∃ t, valText p.v = t := ⟨_, rfl⟩
      rw [hnt] at hN1 l1 H
      rw [hot] at hN2 l2 H
      rw [hvt] at hN3 l3 H
      have m1 : ¬ 9223372036854775807 < 1 + nt.size := by omega
      have m2 : ¬ 9223372036854775807 < 1 + nt.size + ot.size := by omega
      have m3 : ¬ 9223372036854775807 < 1 + nt.size + ot.size + vt.size := by omega
      have H1 := Lib.hid hN1
      have H2 := Lib.hid hN2
      have H3 := Lib.hid hN3
      have HK : Hid (∀ W, Below (w.alloc (.cells #[.int .i64 2, .int .i64 p.col, .int .i64 p.op, .int .i64 p.v.ty, .int .i64 p.v.n, .string p.v.s, .slice A p.l.length c] 27)).heap.size (w.alloc (.cells #[.int .i64 2, .int .i64 p.col, .int .i64 p.op, .int .i64 p.v.ty, .int .i64 p.v.n, .string p.v.s, .slice A p.l.length c] 27)) W → W.cell? ⟨w.heap.size, 1, none⟩ = some (.int .i64 p.col) ∧ W.cell? ⟨w.heap.size, 2, none⟩ = some (.int .i64 p.op) ∧ W.cell? ⟨w.heap.size, 3, none⟩ = some (.int .i64 p.v.ty) ∧ W.cell? ⟨w.heap.size, 4, none⟩ = some (.int .i64 p.v.n) ∧ W.cell? ⟨w.heap.size, 5, none⟩ = some (.string p.v.s)) := Lib.hid fun W h => by
        have u := (h.block w.heap.size hlt).trans G0.out
        exact ⟨cell_of_row W _ 1 _ _ _ u, cell_of_row W _ 2 _ _ _ u, cell_of_row W _ 3 _ _ _ u, cell_of_row W _ 4 _ _ _ u, cell_of_row W _ 5 _ _ _ u⟩
      have HBq := Lib.hid ((Below.refl (w.alloc (.cells #[.int .i64 2, .int .i64 p.col, .int .i64 p.op, .int .i64 p.v.ty, .int .i64 p.v.n, .string p.v.s, .slice A p.l.length c] 27)).heap.size (w.alloc (.cells #[.int .i64 2, .int .i64 p.col, .int .i64 p.op, .int .i64 p.v.ty, .int .i64 p.v.n, .string p.v.s, .slice A p.l.length c] 27))).drew)
      have FSx := Lib.hid (HK.out _ HBq.out)
      clear hN1 hN2 hN3 hnt hot hvt HE HEP HPL HX hhi0 hlt G0 IH hcn
      go_enter Tryz.func18, Tryz.ntmps18
      go_wp2_with fail
      go_region_held3 (fun w' => w'.cell? ⟨w.heap.size, 1, none⟩ = some (.int .i64 p.col) ∧ w'.cell? ⟨w.heap.size, 2, none⟩ = some (.int .i64 p.op) ∧ w'.cell? ⟨w.heap.size, 3, none⟩ = some (.int .i64 p.v.ty) ∧ w'.cell? ⟨w.heap.size, 4, none⟩ = some (.int .i64 p.v.n) ∧ w'.cell? ⟨w.heap.size, 5, none⟩ = some (.string p.v.s)) (first | with_reducible exact FSx.out | go_keep) (first | (go_at_call 40; ((with_reducible refine (H1.out _ HBq.out).mono ?_); rintro e w6 ⟨rfl, hb6⟩; replace HBq := Lib.hid (HBq.out.trans (hb6.mono HBq.out.size)); have FSx := Lib.hid (HK.out _ HBq.out); clear hb6)) | (go_at_call 41; ((with_reducible refine (H2.out _ HBq.out).mono ?_); rintro e w6 ⟨rfl, hb6⟩; replace HBq := Lib.hid (HBq.out.trans (hb6.mono HBq.out.size)); have FSx := Lib.hid (HK.out _ HBq.out); clear hb6)) | (go_at_call 42; ((with_reducible refine (H3.out _ HBq.out).mono ?_); rintro e w6 ⟨rfl, hb6⟩; replace HBq := Lib.hid (HBq.out.trans (hb6.mono HBq.out.size)); have FSx := Lib.hid (HK.out _ HBq.out); clear hb6)))
      have HB6 := Lib.hid (bgo0 HB0.out HBq.out)
      clear FSx HBq HK
      go_wp2_with fail
      go_ret
      exact ⟨by rw [H.out]; rfl, HB6.out⟩
    by_cases k3 : kd = 3 ∨ kd = 4 ∨ kd = 5
    · have H := Lib.hid (HEP.out k3)
      have hQ := q_spec_l1In kd 3 5 (w.alloc (.cells #[.int .i64 kd, .int .i64 p.col, .int .i64 p.op, .int .i64 p.v.ty, .int .i64 p.v.n, .string p.v.s, .slice A p.l.length c] 27))
      rw [show inR kd 3 5 = true from inR_of (by omega) (by omega)] at hQ
      have HQ := Lib.hid hQ
      have hu := up_a1 (w.alloc (.cells #[.int .i64 kd, .int .i64 p.col, .int .i64 p.op, .int .i64 p.v.ty, .int .i64 p.v.n, .string p.v.s, .slice A p.l.length c] 27)) (.cells #[.string ⟨#[97, 110, 100, 40]⟩, .string ⟨#[111, 114, 40]⟩, .string ⟨#[110, 111, 116, 40]⟩] 9)
      obtain ⟨W1, hW1⟩ : ∃ W1, ((w.alloc (.cells #[.int .i64 kd, .int .i64 p.col, .int .i64 p.op, .int .i64 p.v.ty, .int .i64 p.v.n, .string p.v.s, .slice A p.l.length c] 27)).alloc (.cells #[.string ⟨#[97, 110, 100, 40]⟩, .string ⟨#[111, 114, 40]⟩, .string ⟨#[110, 111, 116, 40]⟩] 9)) = W1 := ⟨_, rfl⟩
      rw [hW1] at hu
      have HW1 := Lib.hid hW1
      have G1 := Lib.hid ((hu.block w.heap.size hlt).trans G0.out)
      have HT1 := Lib.hid (pow_below HT.out hu)
      have HX1 := Lib.hid (HX.out.below hu hhi0)
      have hhi1 : hi ≤ W1.heap.size := Nat.le_trans hhi0 hu.size
      have hlt1 : w.heap.size < W1.heap.size := Nat.lt_of_lt_of_le hlt hu.size
      have HB1 := Lib.hid (bgo0 HB0.out hu)
      clear hQ hW1 hu HE HEP G0 HT HX hhi0 hlt HB0 k1 k2
      rcases k3 with rfl | rfl | rfl
      all_goals
        go_enter Tryz.func18, Tryz.ntmps18
        go_wp2_with fail
        refine HQ.out.mono ?_
        rintro e we ⟨rfl, rfl⟩
        go_wp2_with fail
        rw [HW1.out]
        go_loopw [3, 4] (fun s i wr => ∃ (k : Nat) (t : ByteArray), Hid (s = .string t ∧ i = .int .i64 k ∧ k ≤ p.l.length ∧ t = predPart p k ∧ Below W1.heap.size W1 wr)) (fun _ i _ => p.l.length - (intOf i).toNat)
        case atStart => exact ⟨0, _, Lib.hid ⟨rfl, rfl, Nat.zero_le _, by rw [predPart_zero, Hkd.out]; rfl, Below.refl _ _⟩⟩
        case round =>
          obtain ⟨k, t, hrel⟩ := hrel
          obtain ⟨rfl, rfl, hk, ht, hbr⟩ := hrel.out
          have hts := HPL.out k hk
          rw [← ht] at hts
          have Ht := Lib.hid ht
          have hc := (hbr.block w.heap.size hlt1).trans G1.out
          have c6 := cell_of_row wr _ 6 _ _ _ hc
          simp only [List.getElem?_toArray, List.getElem?_cons_zero, List.getElem?_cons_succ] at c6
          have Hbr := Lib.hid hbr
          have hhr : hi ≤ wr.heap.size := Nat.le_trans hhi1 hbr.size
          clear hrel ht hc hbr
          by_cases hkl : k < p.l.length
          · obtain ⟨b, off, x, sx, rfl, -, hbl, hxk, hat, hr⟩ := (HX1.out.below Hbr.out hhi1).at hkl
            obtain ⟨e0, e1, e2, e3, e4, e5, e6⟩ := hat
            have hlx := P.get_lt hxk
            have hct := cntP_take hxk
            have hC := IH.out x (by omega) sx wr lo hi hr hhr (HOK.out.get hxk) (HIN.out.get hxk) (by omega) (pow_below HT1.out Hbr.out)
            have hvl := predT_len (HIN.out.get hxk)
            have h1 := predPart_step hxk
            have h2 : k = 0 → predPart p (k + 1) = predPart p k ++ predT x := fun e => by subst e; exact predPart_one hxk
            obtain ⟨vt, hvt⟩ : ∃ vt, predT x = vt := ⟨_, rfl⟩
            rw [hvt] at hC hvl h1 h2
            have HC := Lib.hid hC
            have H1 := Lib.hid h1
            have H2 := Lib.hid h2
            have hvt2 : vt.size ≤ 100000000 := by omega
            have hts2 : t.size ≤ 100000000 := by omega
            clear hvt hxk hC h1 h2 hct hr hlx hvl hts
            by_cases hk0 : k = 0
            · have dk : decide ((0 : Int) < (k : Int)) = false := decide_eq_false (by omega)
              have HY := Lib.hid (H2.out hk0)
              have hkn : ¬ 0 < k := by omega
              clear hk0 H1 H2
              go_wp2_with fail
              refine HC.out.mono ?_
              rintro e w3 ⟨rfl, hb3⟩
              have HB3 := Lib.hid (below_go Hbr.out hb3)
              clear hb3
              go_wp2_with fail
              go_roundw
              case rel => exact ⟨k + 1, _, Lib.hid ⟨rfl, by go_num, by omega, by rw [HY.out, ← Ht.out], HB3.out⟩⟩
              case measure => simp [intOf]; omega
            · have dk : decide ((0 : Int) < (k : Int)) = true := decide_eq_true (by omega)
              have HY := Lib.hid (H1.out (by omega))
              have hkn : 0 < k := by omega
              clear hk0 H1 H2
              go_wp2_with fail
              refine HC.out.mono ?_
              rintro e w3 ⟨rfl, hb3⟩
              have HB3 := Lib.hid (below_go Hbr.out hb3)
              clear hb3
              go_wp2_with fail
              go_roundw
              case rel => exact ⟨k + 1, _, Lib.hid ⟨rfl, by go_num, by omega, by rw [HY.out, ← Ht.out], HB3.out⟩⟩
              case measure => simp [intOf]; omega
          · obtain rfl : k = p.l.length := by omega
            rw [List.take_length] at hts
            have hts2 : t.size ≤ 100000000 := by omega
            clear hts
            go_wp2_with fail
            go_ret
            exact ⟨by rw [H.out, ← Ht.out]; rfl, bgo0 HB1.out Hbr.out⟩
    · have HN := Lib.hid (show predT p = ⟨#[]⟩ by rw [HE.out, if_neg k1, if_neg k2, if_neg k3])
      have d1 : (kd == 1) = false := by simp [k1]
      have d2 : (kd == 2) = false := by simp [k2]
      have hQ := q_spec_l1In kd 3 5 (w.alloc (.cells #[.int .i64 kd, .int .i64 p.col, .int .i64 p.op, .int .i64 p.v.ty, .int .i64 p.v.n, .string p.v.s, .slice A p.l.length c] 27))
      rw [show inR kd 3 5 = false by
        cases h : inR kd 3 5 with
        | false => rfl
        | true => have := inR_yes h; omega] at hQ
      have HQ := Lib.hid hQ
      clear hQ k1 k2 k3 HE HEP HPL HX hhi0 hlt G0 IH hcn
      go_enter Tryz.func18, Tryz.ntmps18
      go_wp2_with fail
      refine HQ.out.mono ?_
      rintro e we ⟨rfl, rfl⟩
      go_wp2_with fail
      go_ret
      exact ⟨by rw [HN.out]; rfl, HB0.out⟩
set_option maxHeartbeats 8000000 in
set_option maxRecDepth 20000 in
theorem impl_PredText_n : ∀ (N : Nat) (p : P), SizeOf.sizeOf p < N → ∀ (sv : Value) (w : World) (lo hi : Nat), RdP w lo hi sv p.l → hi ≤ w.heap.size → POk p → PInOk p → cntP p.l ≤ 1048576 → Pow w →
    Calls Tryz.prog 15 #[.agg #[.int .i64 p.kind, .int .i64 p.col, .int .i64 p.op, .int .i64 p.v.ty, .int .i64 p.v.n, .string p.v.s, sv]] w fun e w' => e = .returned (.string (predT p)) ∧ Below w.heap.size w w'
  | 0, _, h => absurd h (Nat.not_lt_zero _)
  | N + 1, p, hN => by
    have IH := Lib.hid (impl_PredText_n N)
    intro sv w lo hi hx hhi hok hin hcn ht
    obtain ⟨A, c, rfl, hl, hl2⟩ := hx.form
    have HE := Lib.hid (predT_eq p)
    have HEP := Lib.hid (@predT_part p)
    have HPL := Lib.hid (predPart_len (p := p) fun x hx => (List.getElem_of_mem hx).elim fun k ⟨hk, e⟩ => predT_len (hin.get (by rw [List.getElem?_eq_getElem hk, e])))
    obtain ⟨kd, hkd⟩ : ∃ kd, p.kind = kd := ⟨_, rfl⟩
    rw [hkd] at HE HEP ⊢
    have Hkd := Lib.hid hkd
    have hb0 := up_a1 w (.cells #[.int .i64 kd, .int .i64 p.col, .int .i64 p.op, .int .i64 p.v.ty, .int .i64 p.v.n, .string p.v.s, .slice A p.l.length c] 27)
    have g0 := heap_alloc_new w (.cells #[.int .i64 kd, .int .i64 p.col, .int .i64 p.op, .int .i64 p.v.ty, .int .i64 p.v.n, .string p.v.s, .slice A p.l.length c] 27)
    have HT := Lib.hid (pow_below ht hb0)
    have HX := Lib.hid (hx.below hb0 hhi)
    have hhi0 : hi ≤ (w.alloc (.cells #[.int .i64 kd, .int .i64 p.col, .int .i64 p.op, .int .i64 p.v.ty, .int .i64 p.v.n, .string p.v.s, .slice A p.l.length c] 27)).heap.size := Nat.le_trans hhi hb0.size
    have hlt : w.heap.size < (w.alloc (.cells #[.int .i64 kd, .int .i64 p.col, .int .i64 p.op, .int .i64 p.v.ty, .int .i64 p.v.n, .string p.v.s, .slice A p.l.length c] 27)).heap.size := by simp
    have HB0 := Lib.hid hb0
    have G0 := Lib.hid g0
    have HOK := Lib.hid hok
    have HIN := Lib.hid hin
    clear hx ht hb0 g0 hok hin hkd
    by_cases k1 : kd = 1
    · subst k1
      have H := Lib.hid (show predT p = ⟨#[97, 108, 108]⟩ by rw [HE.out, if_pos rfl])
      clear HE HEP HPL HX hhi0 hlt G0 IH hcn
      go_enter Tryz.func15, Tryz.ntmps15
      go_wp2_with fail
      go_ret
      exact ⟨by rw [H.out]; rfl, HB0.out⟩
    by_cases k2 : kd = 2
    · subst k2
      have H := Lib.hid (show predT p = ((⟨#[99]⟩ ++ numText p.col) ++ opText p.op) ++ valText p.v by rw [HE.out, if_neg (by decide), if_pos rfl])
      have hN1 := fun W (h : Below (w.alloc (.cells #[.int .i64 2, .int .i64 p.col, .int .i64 p.op, .int .i64 p.v.ty, .int .i64 p.v.n, .string p.v.s, .slice A p.l.length c] 27)).heap.size (w.alloc (.cells #[.int .i64 2, .int .i64 p.col, .int .i64 p.op, .int .i64 p.v.ty, .int .i64 p.v.n, .string p.v.s, .slice A p.l.length c] 27)) W) => impl_NumText' p.col W HIN.out.1.1 HIN.out.1.2 (pow_below HT.out h)
      have hN2 := fun W (_h : Below (w.alloc (.cells #[.int .i64 2, .int .i64 p.col, .int .i64 p.op, .int .i64 p.v.ty, .int .i64 p.v.n, .string p.v.s, .slice A p.l.length c] 27)).heap.size (w.alloc (.cells #[.int .i64 2, .int .i64 p.col, .int .i64 p.op, .int .i64 p.v.ty, .int .i64 p.v.n, .string p.v.s, .slice A p.l.length c] 27)) W) => impl_OpText p.op W
      have hN3 := fun W (h : Below (w.alloc (.cells #[.int .i64 2, .int .i64 p.col, .int .i64 p.op, .int .i64 p.v.ty, .int .i64 p.v.n, .string p.v.s, .slice A p.l.length c] 27)).heap.size (w.alloc (.cells #[.int .i64 2, .int .i64 p.col, .int .i64 p.op, .int .i64 p.v.ty, .int .i64 p.v.n, .string p.v.s, .slice A p.l.length c] 27)) W) => impl_ValText p.v W HOK.out.1 (pow_below HT.out h)
      have l1 := numText_len HIN.out.1.1 HIN.out.1.2
      have l2 := opText_len p.op
      have l3 := valText_len p.v
      obtain ⟨nt, hnt⟩ : ∃ t, numText p.col = t := ⟨_, rfl⟩
      obtain ⟨ot, hot⟩ : ∃ t, opText p.op = t := ⟨_, rfl⟩
      obtain ⟨vt, hvt⟩ : ∃ t, valText p.v = t := ⟨_, rfl⟩
      rw [hnt] at hN1 l1 H
      rw [hot] at hN2 l2 H
      rw [hvt] at hN3 l3 H
      have m1 : ¬ 9223372036854775807 < 1 + nt.size := by omega
      have m2 : ¬ 9223372036854775807 < 1 + nt.size + ot.size := by omega
      have m3 : ¬ 9223372036854775807 < 1 + nt.size + ot.size + vt.size := by omega
      have H1 := Lib.hid hN1
      have H2 := Lib.hid hN2
      have H3 := Lib.hid hN3
      have HK : Hid (∀ W, Below (w.alloc (.cells #[.int .i64 2, .int .i64 p.col, .int .i64 p.op, .int .i64 p.v.ty, .int .i64 p.v.n, .string p.v.s, .slice A p.l.length c] 27)).heap.size (w.alloc (.cells #[.int .i64 2, .int .i64 p.col, .int .i64 p.op, .int .i64 p.v.ty, .int .i64 p.v.n, .string p.v.s, .slice A p.l.length c] 27)) W → W.cell? ⟨w.heap.size, 1, none⟩ = some (.int .i64 p.col) ∧ W.cell? ⟨w.heap.size, 2, none⟩ = some (.int .i64 p.op) ∧ W.cell? ⟨w.heap.size, 3, none⟩ = some (.int .i64 p.v.ty) ∧ W.cell? ⟨w.heap.size, 4, none⟩ = some (.int .i64 p.v.n) ∧ W.cell? ⟨w.heap.size, 5, none⟩ = some (.string p.v.s)) := Lib.hid fun W h => by
        have u := (h.block w.heap.size hlt).trans G0.out
        exact ⟨cell_of_row W _ 1 _ _ _ u, cell_of_row W _ 2 _ _ _ u, cell_of_row W _ 3 _ _ _ u, cell_of_row W _ 4 _ _ _ u, cell_of_row W _ 5 _ _ _ u⟩
      have HBq := Lib.hid ((Below.refl (w.alloc (.cells #[.int .i64 2, .int .i64 p.col, .int .i64 p.op, .int .i64 p.v.ty, .int .i64 p.v.n, .string p.v.s, .slice A p.l.length c] 27)).heap.size (w.alloc (.cells #[.int .i64 2, .int .i64 p.col, .int .i64 p.op, .int .i64 p.v.ty, .int .i64 p.v.n, .string p.v.s, .slice A p.l.length c] 27))).drew)
      have FSx := Lib.hid (HK.out _ HBq.out)
      clear hN1 hN2 hN3 hnt hot hvt HE HEP HPL HX hhi0 hlt G0 IH hcn
      go_enter Tryz.func15, Tryz.ntmps15
      go_wp2_with fail
      go_region_held3 (fun w' => w'.cell? ⟨w.heap.size, 1, none⟩ = some (.int .i64 p.col) ∧ w'.cell? ⟨w.heap.size, 2, none⟩ = some (.int .i64 p.op) ∧ w'.cell? ⟨w.heap.size, 3, none⟩ = some (.int .i64 p.v.ty) ∧ w'.cell? ⟨w.heap.size, 4, none⟩ = some (.int .i64 p.v.n) ∧ w'.cell? ⟨w.heap.size, 5, none⟩ = some (.string p.v.s)) (first | with_reducible exact FSx.out | go_keep) (first | (go_at_call 32; ((with_reducible refine (H1.out _ HBq.out).mono ?_); rintro e w6 ⟨rfl, hb6⟩; replace HBq := Lib.hid (HBq.out.trans (hb6.mono HBq.out.size)); have FSx := Lib.hid (HK.out _ HBq.out); clear hb6)) | (go_at_call 33; ((with_reducible refine (H2.out _ HBq.out).mono ?_); rintro e w6 ⟨rfl, hb6⟩; replace HBq := Lib.hid (HBq.out.trans (hb6.mono HBq.out.size)); have FSx := Lib.hid (HK.out _ HBq.out); clear hb6)) | (go_at_call 34; ((with_reducible refine (H3.out _ HBq.out).mono ?_); rintro e w6 ⟨rfl, hb6⟩; replace HBq := Lib.hid (HBq.out.trans (hb6.mono HBq.out.size)); have FSx := Lib.hid (HK.out _ HBq.out); clear hb6)))
      have HB6 := Lib.hid (bgo0 HB0.out HBq.out)
      clear FSx HBq HK
      go_wp2_with fail
      go_ret
      exact ⟨by rw [H.out]; rfl, HB6.out⟩
    by_cases k3 : kd = 3 ∨ kd = 4 ∨ kd = 5
    · have H := Lib.hid (HEP.out k3)
      have HWd := Lib.hid (fun W => impl_predWord kd k3 W)
      have hu := up_a1 (w.alloc (.cells #[.int .i64 kd, .int .i64 p.col, .int .i64 p.op, .int .i64 p.v.ty, .int .i64 p.v.n, .string p.v.s, .slice A p.l.length c] 27)) (.cells #[] 9)
      have hO : ((w.alloc (.cells #[.int .i64 kd, .int .i64 p.col, .int .i64 p.op, .int .i64 p.v.ty, .int .i64 p.v.n, .string p.v.s, .slice A p.l.length c] 27)).alloc (.cells #[] 9)).ownsRow (w.alloc (.cells #[.int .i64 kd, .int .i64 p.col, .int .i64 p.op, .int .i64 p.v.ty, .int .i64 p.v.n, .string p.v.s, .slice A p.l.length c] 27)).heap.size 9 1 (.slice (some ⟨w.heap.size + 1, 0, none⟩) 0 0) 0 [] := by
        have h := World.ownsRow_made (w.alloc (.cells #[.int .i64 kd, .int .i64 p.col, .int .i64 p.op, .int .i64 p.v.ty, .int .i64 p.v.n, .string p.v.s, .slice A p.l.length c] 27)) (base := (w.alloc (.cells #[.int .i64 kd, .int .i64 p.col, .int .i64 p.op, .int .i64 p.v.ty, .int .i64 p.v.n, .string p.v.s, .slice A p.l.length c] 27)).heap.size) (e := 9) (size := 1) #[] 0 (Nat.le_refl _) (by decide) rfl
        have e : (w.alloc (.cells #[.int .i64 kd, .int .i64 p.col, .int .i64 p.op, .int .i64 p.v.ty, .int .i64 p.v.n, .string p.v.s, .slice A p.l.length c] 27)).heap.size = w.heap.size + 1 := by simp
        rw [e] at h ⊢
        exact h
      have hw4 := word_len kd
      have hpl : p.l.length ≤ 1048576 := Nat.le_trans (cntP_len _) hcn
      obtain ⟨W0, hW0⟩ : ∃ W0, (w.alloc (.cells #[.int .i64 kd, .int .i64 p.col, .int .i64 p.op, .int .i64 p.v.ty, .int .i64 p.v.n, .string p.v.s, .slice A p.l.length c] 27)) = W0 := ⟨_, rfl⟩
      rw [hW0] at hu hO hlt hhi0 HT HB0 G0 HX
      obtain ⟨W1, hW1⟩ : ∃ W1, (W0.alloc (.cells #[] 9)) = W1 := ⟨_, rfl⟩
      rw [hW1] at hu hO
      have HO := Lib.hid hO
      have HW0 := Lib.hid hW0
      have HW1 := Lib.hid hW1
      have HU := Lib.hid hu
      have c6 : W1.cell? ⟨w.heap.size, 6, none⟩ = some (.slice A p.l.length c) := cell_of_row W1 _ 6 _ _ _ ((hu.block w.heap.size hlt).trans G0.out)
      clear hW0 hW1 hu hO HE HEP k1 k2
      obtain ⟨i0, hif, hz0, hz1, hz2⟩ := info_parts info_str
      replace hif := Lib.hid hif
      replace hz0 := Lib.hid hz0
      replace hz1 := Lib.hid hz1
      replace hz2 := Lib.hid hz2
      rcases k3 with rfl | rfl | rfl
      all_goals
        go_enter Tryz.func15, Tryz.ntmps15
        go_wp2_with fail
        rw [HW0.out, HW1.out]
        go_wp2_with fail
        go_loopw [3, 32] (fun o i wr => ∃ (k : Nat) (xs : List ByteArray), Hid (i = .int .i64 k ∧ k ≤ p.l.length ∧ xs.length = k ∧ xs = (p.l.take k).map predT ∧ wr.ownsRow W0.heap.size 9 1 o k (xs.map .string) ∧ Below W0.heap.size W0 wr)) (fun _ i _ => p.l.length - (intOf i).toNat)
        case atStart => exact ⟨0, [], Lib.hid ⟨rfl, Nat.zero_le _, rfl, rfl, HO.out, HU.out⟩⟩
        case round =>
          obtain ⟨k, xs, hrel⟩ := hrel
          obtain ⟨rfl, hk, hxl, hxs, hown, hbr⟩ := hrel.out
          have Hxs := Lib.hid hxs
          have Hxl := Lib.hid hxl
          have Hbr := Lib.hid hbr
          have Hown := Lib.hid hown
          have hhr : hi ≤ wr.heap.size := Nat.le_trans hhi0 hbr.size
          obtain ⟨Ao, co, rfl, -, -, -⟩ := (Own.new hown).cells
          clear hrel hxs hxl hbr hown c6
          by_cases hkl : k < p.l.length
          · obtain ⟨b, off, x, sx, rfl, -, hbl, hxk, hat, hr⟩ := (HX.out.below Hbr.out hhi0).at hkl
            obtain ⟨e0, e1, e2, e3, e4, e5, e6⟩ := hat
            have hlx := P.get_lt hxk
            have hct := cntP_take hxk
            obtain ⟨Ax, cx, rfl, -, -⟩ := hr.form
            have Hy := Lib.hid (show xs ++ [predT x] = (p.l.take (k + 1)).map predT by rw [Hxs.out, take_of_get hxk]; simp)
            have hup : Below wr.heap.size wr (wr.alloc (.cells #[.int .i64 x.kind, .int .i64 x.col, .int .i64 x.op, .int .i64 x.v.ty, .int .i64 x.v.n, .string x.v.s, .slice Ax x.l.length cx] 27)) := up_a1 wr _
            have HRc := Lib.hid (fun W (h : Below wr.heap.size wr W) => IH.out x (by omega) _ W lo hi (hr.below h hhr) (Nat.le_trans hhr h.size) (HOK.out.get hxk) (HIN.out.get hxk) (by omega) (pow_below HT.out (below_go Hbr.out h)))
            obtain ⟨vt, hvt⟩ : ∃ vt, predT x = vt := ⟨_, rfl⟩
            rw [hvt] at HRc Hy
            clear hvt hxk hct hlx hr
            go_wp2_with fail
            obtain ⟨wb, hwb⟩ : ∃ wb, (wr.alloc (.cells #[.int .i64 x.kind, .int .i64 x.col, .int .i64 x.op, .int .i64 x.v.ty, .int .i64 x.v.n, .string x.v.s, .slice Ax x.l.length cx] 27)) = wb := ⟨_, rfl⟩
            rw [hwb] at hup ⊢
            clear hwb
            have HV := Lib.hid (HRc.out wb hup)
            have HO2 := Lib.hid (owns_below Hown.out hup)
            have hbu := below_go Hbr.out hup
            clear HRc Hown hup
            refine HV.out.mono ?_
            rintro e w3 ⟨rfl, hb3⟩
            have HO3 := Lib.hid (owns_below HO2.out hb3)
            have hb3w := below_go hbu hb3
            have hbs3 := hb3w.size
            clear hb3 hbu HO2
            go_wp2_with (at_builtin; refine wpl_app rfl _ _ 63 rfl W0.heap.size 9 i0 _ 1 16 Tryz.underlying63 hif.out hz0.out hz1.out hz2.out rfl (by decide) (by decide) (HO3.out.alloc _) rfl (heap_alloc_new _ _) rfl rfl (by simp [Value.oneCell']) (by omega) (by simp; omega) ?_)
            intro v4 w4 hown4 hgrow _
            have HB4 := Lib.hid (Below.grown (hb3w.alloc hbs3 _) hgrow (fun g hg => (HO3.out.lt g hg).1) (Nat.le_refl _))
            have HO4 := Lib.hid (show w4.ownsRow W0.heap.size 9 1 v4 (k + 1) ((xs ++ [vt]).map .string) by
              rw [List.map_append]
              exact hown4)
            clear hown4 hgrow HO3
            go_wp2_with fail
            go_roundw
            case rel => exact ⟨k + 1, xs ++ [vt], Lib.hid ⟨by go_num, by omega, by rw [List.length_append, Hxl.out]; rfl, Hy.out, HO4.out, HB4.out⟩⟩
            case measure => simp [intOf]; omega
          · obtain rfl : k = p.l.length := by omega
            have hc := (Hbr.out.block w.heap.size hlt).trans G0.out
            have c0 := cell_of_row wr _ 0 _ _ _ hc
            simp only [List.getElem?_toArray, List.getElem?_cons_zero] at c0
            have hxm : xs.map (·.data.toList) = p.l.map fun x => (predT x).data.toList := by
              rw [Hxs.out, List.take_length, List.map_map]
              rfl
            have hJl : (Lib.join (p.l.map fun x => (predT x).data.toList) [44]).length ≤ 100000000 := by
              have h1 := HPL.out p.l.length (Nat.le_refl _)
              have h2 : (predPart p p.l.length).size = (word p.kind).size + (Lib.join (p.l.map fun x => (predT x).data.toList) [44]).length := by
                rw [predPart, ByteArray.size_append, List.take_length]
                exact congrArg _ List.size_toArray
              rw [List.take_length] at h1
              omega
            have hJ : Calls Tryz.prog 36 #[.slice Ao p.l.length co, .string ⟨#[44]⟩] wr fun e w' => e = .returned (.string ⟨(Lib.join (p.l.map fun x => (predT x).data.toList) [44]).toArray⟩) ∧ Below wr.heap.size wr w' := by
              by_cases h0 : p.l.length = 0
              · have hx0 : p.l = [] := List.length_eq_zero_iff.1 h0
                rw [h0, hx0]
                exact (Tryz.strings_Join_none Ao co ⟨#[44]⟩ wr).mono fun e w' ⟨he, hw⟩ => ⟨by rw [he]; simp [join_nil], hw ▸ Below.refl _ _⟩
              · obtain ⟨g, cap, hA, hg0, hg1, hgc, hcell⟩ := owns_formT Hown.out (by omega)
                injection hA with hA1 hA2 hA3
                subst hA1 hA3
                have h2 := Tryz.strings_Join g 0 co xs ⟨#[44]⟩ wr (fun j x hj => by
                  rw [Nat.zero_add]
                  exact hcell j _ (by rw [List.getElem?_map, hj]; rfl)) hg1 (by rw [Hxl.out]; omega) (by rw [Hxl.out]; exact hgc) (by rw [hxm]; exact Nat.le_trans hJl (by decide))
                rw [hxm, Hxl.out] at h2
                exact h2
            obtain ⟨J, hJe⟩ : ∃ J : ByteArray, ⟨(Lib.join (p.l.map fun x => (predT x).data.toList) [44]).toArray⟩ = J := ⟨_, rfl⟩
            have hJs : J.size ≤ 100000000 := by rw [← hJe]; exact Nat.le_trans (Nat.le_of_eq List.size_toArray) hJl
            rw [hJe] at hJ
            have HJ := Lib.hid hJ
            have HJe := Lib.hid hJe
            have HWw := Lib.hid (HWd.out wr)
            clear hJ hJe hJl hxm hc Hown Hxs
            go_wp2_with fail
            refine HWw.out.mono ?_
            rintro e we ⟨rfl, rfl⟩
            go_wp2_with fail
            refine HJ.out.mono ?_
            rintro e w3 ⟨rfl, hb3⟩
            have HB3 := Lib.hid (below_go Hbr.out hb3)
            clear hb3
            go_wp2_with fail
            go_ret
            exact ⟨by rw [H.out, predPart, List.take_length, HJe.out, Hkd.out]; rfl, bgo0 HB0.out HB3.out⟩
    · have HN := Lib.hid (show predT p = ⟨#[]⟩ by rw [HE.out, if_neg k1, if_neg k2, if_neg k3])
      have d1 : (kd == 1) = false := by simp [k1]
      have d2 : (kd == 2) = false := by simp [k2]
      have d3 : (kd == 3) = false := by simp; omega
      have d4 : (kd == 4) = false := by simp; omega
      have d5 : (kd == 5) = false := by simp; omega
      clear k1 k2 k3 HE HEP HPL HX hhi0 hlt G0 IH hcn
      go_enter Tryz.func15, Tryz.ntmps15
      go_wp2_with fail
      go_ret
      exact ⟨by rw [HN.out]; rfl, HB0.out⟩
end Go.Proofs.YtjogkbkkcaljhaaGreatDoor
