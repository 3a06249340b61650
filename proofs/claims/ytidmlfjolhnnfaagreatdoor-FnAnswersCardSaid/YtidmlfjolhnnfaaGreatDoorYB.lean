/- Numbers as text: contracts. -/
import Derived.Test.YtidmlfjolhnnfaaGreatDoorSh
import Derived.Test.YtidmlfjolhnnfaaGreatDoorXA
import Derived.Lib.ItoaNum
import Derived.Lib.AppendIntMem
import Derived.Test.YtidmlfjolhnnfaaGreatDoorXV
import Derived.Lib.ItoaLen
import Derived.Lib.Join
import Derived.Test.YtidmlfjolhnnfaaGreatDoorXL
import Derived.Test.YtidmlfjolhnnfaaGreatDoorMemP
namespace Go.Lb
open Go.RowKit
theorem convB {P : Program} {src dst e : TypeId} (hs : P.underlying src = some (.slice e)) (he : P.underlying e = some (.int .u8)) (hd : P.underlying dst = some .string) {w : World} {b : Nat} {c : UInt8} (h : w.cell? ⟨b, 0, none⟩ = some (.int .u8 (c.toNat : Int))) :
    (convert src dst (.slice (some ⟨b, 0, none⟩) 1 1)).run P w = .ok (.string ⟨#[c]⟩) w := by
  rw [run_convert_bytes_string w src dst e _ _ _ hs he hd]
  have hld := run_loadCells_list (P := P) (w := w) ⟨b, 0, none⟩ [.int .u8 (c.toNat : Int)] (fun j v hv => by
    have hj : j = 0 := by
      have := (List.getElem?_eq_some_iff.1 hv).1
      simp at this
      omega
    subst hj
    simp only [List.getElem?_cons_zero, Option.some.injEq] at hv
    subst hv
    exact h)
  rw [show ([Value.int .u8 (c.toNat : Int)] : List Value).length = 1 from rfl] at hld
  rw [run_bytesToString (P := P) w ⟨b, 0, none⟩ 1 1 [(c.toNat : Int)] hld]
  simp
  rfl
theorem tdiv_facts (x : Int) : (0 ≤ x ∧ x.tdiv 10 = ((x.natAbs / 10 : Nat) : Int) ∧ x.tmod 10 = ((x.natAbs % 10 : Nat) : Int)) ∨ (x < 0 ∧ x.tdiv 10 = -((x.natAbs / 10 : Nat) : Int) ∧ x.tmod 10 = -((x.natAbs % 10 : Nat) : Int)) := by
  rcases (show x < 0 ∨ 0 ≤ x by omega) with h | h
  · right
    obtain ⟨n, hn⟩ : ∃ n : Nat, x = -(n : Int) := ⟨x.natAbs, by omega⟩
    subst hn
    refine ⟨h, ?_, ?_⟩
    · rw [Int.neg_tdiv, Int.natAbs_neg, Int.natAbs_natCast]; rfl
    · rw [Int.neg_tmod, Int.natAbs_neg, Int.natAbs_natCast]; rfl
  · left
    obtain ⟨n, rfl⟩ := Int.eq_ofNat_of_zero_le h
    exact ⟨h, by rw [Int.natAbs_natCast]; rfl, by rw [Int.natAbs_natCast]; rfl⟩
theorem ba_cons (t : ByteArray) : (⟨([45] ++ t.data.toList).toArray⟩ : ByteArray) = ⟨#[45]⟩ ++ t := by
  apply ByteArray.ext
  simp
theorem div_pow_bound {N k : Nat} (h : 0 < N / 10 ^ k) (hN : N ≤ 9223372036854775808) : k ≤ 19 := by
  rcases Nat.lt_or_ge k 20 with h1 | h1
  · omega
  · have h2 := Nat.pow_le_pow_right (n := 10) (by decide) h1
    have h3 : N < 10 ^ k := by
      have : (10 : Nat) ^ 20 = 100000000000000000000 := by decide
      omega
    rw [Nat.div_eq_of_lt h3] at h
    omega
def numText (n : Int) : ByteArray := ⟨(Lib.itoa n).toArray⟩
/-- The decimal digits, none for nought. -/
def dd (u : Nat) : List UInt8 := if u = 0 then [] else Lib.decDigits u
theorem dd_step {u : Nat} (h : 0 < u) : dd u = dd (u / 10) ++ [UInt8.ofNat (48 + u % 10)] := by
  unfold dd
  rw [if_neg (by omega)]
  by_cases h1 : u < 10
  · rw [Lib.decDigits_one h1, if_pos (by omega), Nat.mod_eq_of_lt h1]; rfl
  · rw [if_neg (by omega), Lib.decDigits, dif_neg h1]
theorem TabIs.below {P : Program} {w w' : World} {name : String} {k : IntKind} {zs : List Int} (h : Lib.TabIs P w name k zs) (hb : Below w.heap.size w w') : Lib.TabIs P w' name k zs := by
  unfold Lib.TabIs at h ⊢
  unfold World.var? at h ⊢
  cases hg : P.globalNamed name with
  | none => rw [hg] at h; cases h
  | some g =>
    rw [hg] at h
    simp only [Option.bind_some] at h ⊢
    have hl : g < w.heap.size := by
      rcases Nat.lt_or_ge g w.heap.size with h1 | h1
      · exact h1
      · rw [Array.getElem?_eq_none h1] at h; cases h
    rw [hb.block g hl]
    exact h
end Go.Lb
namespace Go.Proofs.YtidmlfjolhnnfaaGreatDoor
open Go.Sort Go.ChangeShapes Go.WideShapes Go.ChangeAt Go.RowKit Go.Lb
def Pow (w : World) : Prop := Lib.TabIs Tryz.prog w "internal/strconv.uint64pow10" .u64 Lib.pow10Tab
theorem impl_NumText (n : Int) (w : World) (h0 : -9223372036854775808 ≤ n) (h1 : n ≤ 9223372036854775807) (ht : Pow w) :
    Calls Tryz.prog 32 #[.int .i64 n] w fun e w' => e = .returned (.string (numText n)) ∧ Below w.heap.size w w' := by
  have HC := Lib.hid (Tryz.strconv_Itoa n h0 h1 w ht)
  go_enter Tryz.func32, Tryz.ntmps32
  go_wp2_with fail
  refine HC.out.mono ?_
  rintro e w' ⟨rfl, k, os, rfl⟩
  go_wp2_with fail
  go_ret
  exact ⟨rfl, Lib.below_grow _ w (Nat.le_refl _) k os⟩
set_option maxRecDepth 20000 in
set_option maxHeartbeats 4000000 in
theorem spec_NumText (n : Int) (w : World) (h0 : -9223372036854775808 ≤ n) (h1 : n ≤ 9223372036854775807) :
    Calls Tryz.prog 35 #[.int .i64 n] w fun e w' => e = .returned (.string (numText n)) ∧ Below w.heap.size w w' := by
  by_cases hn : n = 0
  · subst hn
    go_enter Tryz.func35, Tryz.ntmps35
    go_wp2_with fail
    go_ret
    refine ⟨?_, Below.refl _ _⟩
    rw [numText, Lib.itoa, if_neg (by decide), Int.toNat_zero, Lib.decDigits_one (by decide)]
    rfl
  · have b0 : (n == 0) = false := by simp [hn]
    have HD := Lib.hid (show numText n = ⟨((if n < 0 then [45] else []) ++ dd n.natAbs).toArray⟩ by
      unfold numText Lib.itoa dd
      rw [if_neg (show ¬ n.natAbs = 0 by omega)]
      split
      · rfl
      · rw [show n.toNat = n.natAbs by omega]; rfl)
    go_enter Tryz.func35, Tryz.ntmps35
    go_wp2_with fail
    go_loopw [3, 4] (fun s i wr => ∃ (k u : Nat) (x : Int) (t : ByteArray), Hid (i = .int .i64 x ∧ s = .string t ∧ x.natAbs = u ∧ (x < 0 → n < 0) ∧ (0 < x → 0 < n) ∧ -9223372036854775808 ≤ x ∧ x ≤ 9223372036854775807 ∧ u = n.natAbs / 10 ^ k ∧ k ≤ 20 ∧ t.size = k ∧ dd n.natAbs = dd u ++ t.data.toList ∧ Below w.heap.size w wr)) (fun _ i _ => (intOf i).natAbs)
    case atStart => exact ⟨0, n.natAbs, n, ⟨#[]⟩, Lib.hid ⟨rfl, rfl, rfl, fun h => h, fun h => h, h0, h1, by simp, by omega, rfl, by simp, Below.refl _ _⟩⟩
    case round =>
      obtain ⟨k, u, x, t, hrel⟩ := hrel
      obtain ⟨rfl, rfl, hxu, hneg, hpos, hx0, hx1, hu, hk20, htk, hdd, hb⟩ := hrel.out
      have Hdd := Lib.hid hdd
      have Hu := Lib.hid hu
      have Hxu := Lib.hid hxu
      have Hsg := Lib.hid (And.intro hneg hpos)
      have hts : t.size ≤ 20 := by omega
      have Htk := Lib.hid htk
      have hbs := hb.size
      clear hrel hdd hu htk hneg hpos
      by_cases hx : x = 0
      · subst hx
        have hu0 : u = 0 := by rw [← hxu]; rfl
        have Hfin := Lib.hid (show dd n.natAbs = t.data.toList by rw [Hdd.out, hu0]; rfl)
        clear hxu hu0 Hdd Hu Hxu Hsg Htk
        by_cases hng : n < 0
        · have dn : decide (n < 0) = true := decide_eq_true hng
          go_wp2_with fail
          go_ret
          refine ⟨?_, hb⟩
          rw [HD.out, if_pos hng, Hfin.out, ba_cons]
          rfl
        · have dn : decide (n < 0) = false := decide_eq_false hng
          go_wp2_with fail
          go_ret
          refine ⟨?_, hb⟩
          rw [HD.out, if_neg (by omega), Hfin.out]
          simp
      · have bx : (x == 0) = false := by simp [hx]
        have bx' : (x != 0) = true := by simp [hx]
        have hup : 0 < u := by omega
        have hk19 : k ≤ 19 := div_pow_bound (N := n.natAbs) (by rw [← Hu.out]; exact hup) (by omega)
        obtain ⟨d, hd⟩ : ∃ d, u % 10 = d := ⟨_, rfl⟩
        have hd10 : d < 10 := by omega
        obtain ⟨x', hx'⟩ : ∃ x', x.tdiv 10 = x' := ⟨_, rfl⟩
        have htf := tdiv_facts x
        rw [hx', hxu] at htf
        have hxd : x'.natAbs = u / 10 := by omega
        have hxs : (x' < 0 → x < 0) ∧ (0 < x' → 0 < x) := by omega
        have hxw : IntKind.i64.wrap x' = x' := IntWalk.i64_in _ ⟨by omega, by omega⟩
        have hsp : (x < 0 ∧ 0 < d ∧ x.tmod 10 = -(d : Int)) ∨ x.tmod 10 = (d : Int) := by
          rcases Nat.eq_zero_or_pos d with h | h
          · right; omega
          · by_cases h2 : x < 0
            · left; exact ⟨h2, h, by omega⟩
            · right; omega
        have Hxd := Lib.hid (And.intro hxd (And.intro hxs hd))
        obtain ⟨c8, hc8⟩ : ∃ c8, UInt8.ofNat (48 + d) = c8 := ⟨_, rfl⟩
        have hcw : ((UInt8.ofNat (48 + d)).toNat : Int) = 48 + (d : Int) := by
          rw [UInt8.toNat_ofNat', Nat.mod_eq_of_lt (by omega)]
          omega
        rw [hc8] at hcw
        have hcv := convB (w := wr.alloc (.cells #[.int .u8 (48 + (d : Int))] 5)) (b := wr.heap.size) (c := c8) Tryz.underlying22 Tryz.underlying5 Tryz.underlying9 (by rw [hcw]; exact cell_of_row _ _ 0 _ _ _ (heap_alloc_new _ _))
        have Hnx := Lib.hid (show dd n.natAbs = dd (u / 10) ++ (⟨#[c8]⟩ ++ t : ByteArray).data.toList by
          rw [Hdd.out, dd_step hup, hd, hc8]
          simp)
        clear hcw hxu hxd hxs hd htf hc8
        rcases hsp with ⟨hxn, hdp, hmod⟩ | hmod
        · have dl : decide (-(d : Int) < 0) = true := decide_eq_true (by omega)
          go_wp2_with fail
          go_roundw
          case rel => exact ⟨k + 1, u / 10, x', _, Lib.hid ⟨rfl, rfl, Hxd.out.1, fun h => Hsg.out.1 (Hxd.out.2.1.1 h), fun h => Hsg.out.2 (Hxd.out.2.1.2 h), by have := Hxd.out.1; have := Hxu.out; omega, by have := Hxd.out.1; have := Hxu.out; omega, by rw [Hu.out, Nat.pow_succ, Nat.div_div_eq_div_mul], by omega, by rw [ByteArray.size_append]; have := Htk.out; show 1 + t.size = k + 1; omega, Hnx.out, hb.trans ((up_a1 wr _).mono hbs)⟩⟩
          case measure => have := Hxd.out.1; have := Hxu.out; simp [intOf]; omega
        · have dl : decide ((d : Int) < 0) = false := decide_eq_false (by omega)
          go_wp2_with fail
          go_roundw
          case rel => exact ⟨k + 1, u / 10, x', _, Lib.hid ⟨rfl, rfl, Hxd.out.1, fun h => Hsg.out.1 (Hxd.out.2.1.1 h), fun h => Hsg.out.2 (Hxd.out.2.1.2 h), by have := Hxd.out.1; have := Hxu.out; omega, by have := Hxd.out.1; have := Hxu.out; omega, by rw [Hu.out, Nat.pow_succ, Nat.div_div_eq_div_mul], by omega, by rw [ByteArray.size_append]; have := Htk.out; show 1 + t.size = k + 1; omega, Hnx.out, hb.trans ((up_a1 wr _).mono hbs)⟩⟩
          case measure => have := Hxd.out.1; have := Hxu.out; simp [intOf]; omega
theorem spec_NumText' (n : Int) (w : World) (h0 : -9223372036854775808 ≤ n) (h1 : n ≤ 9223372036854775807) (_ht : Pow w) :
    Calls Tryz.prog 35 #[.int .i64 n] w fun e w' => e = .returned (.string (numText n)) ∧ Below w.heap.size w w' := spec_NumText n w h0 h1
theorem impl_NumText' (n : Int) (w : World) (h0 : -9223372036854775808 ≤ n) (h1 : n ≤ 9223372036854775807) (ht : Pow w) :
    Calls Tryz.prog 32 #[.int .i64 n] w fun e w' => e = .returned (.string (numText n)) ∧ Below w.heap.size w w' := impl_NumText n w h0 h1 ht
end Go.Proofs.YtidmlfjolhnnfaaGreatDoor
namespace Go.Proofs.YtidmlfjolhnnfaaGreatDoor
open Go.Sort Go.ChangeShapes Go.WideShapes Go.ChangeAt Go.RowKit Go.Lb
theorem info_str : (Tryz.prog.info? 9).map (fun i => (i.zero, i.size, i.bytes)) = some (some (.string ⟨#[]⟩), 1, 16) := by kernel_rfl
theorem bgo0 {w W0 w2 : World} (h : Below w.heap.size w W0) (hb : Below W0.heap.size W0 w2) : Below w.heap.size w w2 := h.trans (hb.mono h.size)
theorem owns_formT {w : World} {base e s N : Nat} {v : Value} {xs : List Value} (h : w.ownsRow base e s v N xs) (hN : 0 < N) : ∃ g cap, v = .slice (some ⟨g, 0, none⟩) N cap ∧ base ≤ g ∧ g < w.heap.size ∧ N ≤ cap ∧ ∀ j u, xs[j]? = some u → w.cell? ⟨g, j, none⟩ = some u := by
  rcases h.2 with ⟨e1, e2⟩ | ⟨g, cap, cur, rfl, hb, hg, hnc, hcm, hsz, htk⟩
  · omega
  · refine ⟨g, cap, rfl, hb, (Array.getElem?_eq_some_iff.1 hg).1, hnc, fun j u hj => ?_⟩
    rw [cell_of_row w g _ cur _ _ hg, ← Array.getElem?_toList]
    rw [← htk, List.getElem?_take] at hj
    split at hj
    · exact hj
    · cases hj
theorem owns_one (w : World) {base : Nat} (e : TypeId) (x : Value) (hb : base ≤ w.heap.size) : (w.alloc (.cells #[x] e)).ownsRow base e 1 (.slice (some ⟨w.heap.size, 0, none⟩) 1 1) 1 [x] :=
  ⟨rfl, .inr ⟨w.heap.size, 1, #[x], rfl, hb, heap_alloc_new w _, Nat.le_refl _, by decide, rfl, by simp⟩⟩
theorem numText_len {n : Int} (h0 : -9223372036854775808 ≤ n) (h1 : n ≤ 9223372036854775807) : (numText n).size ≤ 21 := by
  have h := Lib.itoa_length_le n h0 h1
  show (Lib.itoa n).toArray.size ≤ 21
  simpa using h
def valText (v : V) : ByteArray := if valOk v then (if v.ty = 1 then numText v.n else ⟨#[39]⟩ ++ v.s) else ⟨#[]⟩
theorem valText_no {v : V} (h : valOk v = false) : valText v = ⟨#[]⟩ := by rw [valText, h]; rfl
theorem valText_1 {v : V} (h : valOk v = true) (h1 : v.ty = 1) : valText v = numText v.n := by rw [valText, if_pos h, if_pos h1]
theorem valText_2 {v : V} (h : valOk v = true) (h1 : ¬ v.ty = 1) : valText v = ⟨#[39]⟩ ++ v.s := by rw [valText, if_pos h, if_neg h1]
theorem txt_len6 {v : V} (h : valOk v = true) (ht : ¬ v.ty = 1) : v.s.size ≤ 6 := by
  unfold valOk at h
  rw [if_neg ht] at h
  split at h
  · simp only [Bool.and_eq_true, decide_eq_true_eq] at h
    exact h.2.1
  · cases h
theorem num_in {v : V} (h : valOk v = true) (h1 : v.ty = 1) : -1000000000 ≤ v.n ∧ v.n ≤ 1000000000 := by
  unfold valOk at h
  rw [if_pos h1, Bool.and_eq_true] at h
  exact inR_yes h.1
theorem valText_len (v : V) : (valText v).size ≤ 21 := by
  cases h : valOk v
  · rw [valText_no h]; exact Nat.zero_le _
  · by_cases h1 : v.ty = 1
    · rw [valText_1 h h1]
      have := num_in h h1
      exact numText_len (by omega) (by omega)
    · rw [valText_2 h h1, ByteArray.size_append]
      have := txt_len6 h h1
      show 1 + v.s.size ≤ 21
      omega
/-- The text of a row up to its k-th value. -/
def rowPart (r : R) (k : Nat) : ByteArray := ⟨(35 :: ((numText r.id).data.toList ++ Lib.joinTail [32] ((r.l.take k).map fun v => (valText v).data.toList))).toArray⟩
def rowText (r : R) : ByteArray := rowPart r r.l.length
theorem rowPart_zero (r : R) : rowPart r 0 = ⟨#[35]⟩ ++ numText r.id := by
  apply ByteArray.ext
  simp [rowPart, Lib.joinTail]
theorem rowPart_step {r : R} {k : Nat} {y : V} (h : r.l[k]? = some y) : rowPart r (k + 1) = (rowPart r k ++ ⟨#[32]⟩) ++ valText y := by
  apply ByteArray.ext
  simp [rowPart, Lib.joinTail, take_of_get h]
theorem rowPart_len (r : R) (h0 : -9223372036854775808 ≤ r.id ∧ r.id ≤ 9223372036854775807) : ∀ k, k ≤ r.l.length → (rowPart r k).size ≤ 22 + 22 * k
  | 0, _ => by
    have := numText_len h0.1 h0.2
    rw [rowPart_zero, ByteArray.size_append]
    show 1 + (numText r.id).size ≤ _
    omega
  | k + 1, h => by
    have ih := rowPart_len r h0 k (by omega)
    have hv := valText_len (r.l[k]'(by omega))
    rw [rowPart_step (y := r.l[k]'(by omega)) (List.getElem?_eq_getElem (by omega)), ByteArray.size_append, ByteArray.size_append]
    show _ + 1 + _ ≤ _
    omega
def rowWords (r : R) : List ByteArray := (⟨#[35]⟩ ++ numText r.id) :: r.l.map valText
theorem row_join (r : R) : (⟨(Lib.join ((rowWords r).map (·.data.toList)) [32]).toArray⟩ : ByteArray) = rowText r := by
  apply ByteArray.ext
  simp [rowText, rowPart, rowWords, Lib.join_cons, Lib.joinTail, Function.comp_def]
set_option maxHeartbeats 1000000 in
set_option maxRecDepth 20000 in
theorem spec_ValText (v : V) (w : World) (hs : v.s.size ≤ maxLen) (ht : Pow w) :
    Calls Tryz.prog 36 #[.agg #[.int .i64 v.ty, .int .i64 v.n, .string v.s]] w fun e w' => e = .returned (.string (valText v)) ∧ Below w.heap.size w w' := by
  have hb0 := up_a1 w (.cells #[.int .i64 v.ty, .int .i64 v.n, .string v.s] 25)
  have g0 := heap_alloc_new w (.cells #[.int .i64 v.ty, .int .i64 v.n, .string v.s] 25)
  have hV := spec_ValOk v (w.alloc (.cells #[.int .i64 v.ty, .int .i64 v.n, .string v.s] 25)) hs
  have HT := Lib.hid (TabIs.below ht hb0)
  have hlt : w.heap.size < (w.alloc (.cells #[.int .i64 v.ty, .int .i64 v.n, .string v.s] 25)).heap.size := by simp
  clear ht
  cases hv : valOk v
  · rw [hv] at hV
    have HV := Lib.hid hV
    have HE := Lib.hid (valText_no hv)
    have HB0 := Lib.hid hb0
    clear hV hv g0 hlt hb0
    go_enter Tryz.func36, Tryz.ntmps36
    go_wp2_with fail
    refine HV.out.mono ?_
    rintro e w2 ⟨rfl, hb2⟩
    have HB2 := Lib.hid (bgo0 HB0.out hb2)
    clear hb2
    go_wp2_with fail
    go_ret
    exact ⟨by rw [HE.out]; rfl, HB2.out⟩
  · rw [hv] at hV
    have HV := Lib.hid hV
    have G0 := Lib.hid g0
    have HB0 := Lib.hid hb0
    by_cases h1 : v.ty = 1
    · have hd : (v.ty == 1) = true := by simp [h1]
      have HE := Lib.hid (valText_1 hv h1)
      obtain ⟨n0, n1⟩ := num_in hv h1
      clear hV hv g0 hb0 h1
      go_enter Tryz.func36, Tryz.ntmps36
      go_wp2_with fail
      refine HV.out.mono ?_
      rintro e w2 ⟨rfl, hb2⟩
      have hc := (hb2.block w.heap.size hlt).trans G0.out
      have c0 := cell_of_row w2 _ 0 _ _ _ hc
      have c1 := cell_of_row w2 _ 1 _ _ _ hc
      simp only [List.getElem?_toArray, List.getElem?_cons_zero, List.getElem?_cons_succ] at c0 c1
      have HN := Lib.hid (spec_NumText' v.n w2 (by omega) (by omega) (TabIs.below HT.out hb2))
      have HB2 := Lib.hid (bgo0 HB0.out hb2)
      clear hb2 hc
      go_wp2_with fail
      refine HN.out.mono ?_
      rintro e w3 ⟨rfl, hb3⟩
      have HB3 := Lib.hid (bgo0 HB2.out hb3)
      clear hb3
      go_wp2_with fail
      go_ret
      exact ⟨by rw [HE.out]; rfl, HB3.out⟩
    · have hd : (v.ty == 1) = false := by simp [h1]
      have HE := Lib.hid (valText_2 hv h1)
      have hl6 := txt_len6 hv h1
      clear hV hv g0 hb0 h1
      go_enter Tryz.func36, Tryz.ntmps36
      go_wp2_with fail
      refine HV.out.mono ?_
      rintro e w2 ⟨rfl, hb2⟩
      have hc := (hb2.block w.heap.size hlt).trans G0.out
      have c0 := cell_of_row w2 _ 0 _ _ _ hc
      have c2 := cell_of_row w2 _ 2 _ _ _ hc
      simp only [List.getElem?_toArray, List.getElem?_cons_zero, List.getElem?_cons_succ] at c0 c2
      have HB2 := Lib.hid (bgo0 HB0.out hb2)
      clear hb2 hc
      go_wp2_with fail
      go_ret
      exact ⟨by rw [HE.out]; rfl, HB2.out⟩
set_option maxHeartbeats 1000000 in
set_option maxRecDepth 20000 in
theorem impl_ValText (v : V) (w : World) (hs : v.s.size ≤ maxLen) (ht : Pow w) :
    Calls Tryz.prog 33 #[.agg #[.int .i64 v.ty, .int .i64 v.n, .string v.s]] w fun e w' => e = .returned (.string (valText v)) ∧ Below w.heap.size w w' := by
  have hb0 := up_a1 w (.cells #[.int .i64 v.ty, .int .i64 v.n, .string v.s] 25)
  have g0 := heap_alloc_new w (.cells #[.int .i64 v.ty, .int .i64 v.n, .string v.s] 25)
  have hV := impl_ValOk v (w.alloc (.cells #[.int .i64 v.ty, .int .i64 v.n, .string v.s] 25)) hs
  have HT := Lib.hid (TabIs.below ht hb0)
  have hlt : w.heap.size < (w.alloc (.cells #[.int .i64 v.ty, .int .i64 v.n, .string v.s] 25)).heap.size := by simp
  clear ht
  cases hv : valOk v
  · rw [hv] at hV
    have HV := Lib.hid hV
    have HE := Lib.hid (valText_no hv)
    have HB0 := Lib.hid hb0
    clear hV hv g0 hlt hb0
    go_enter Tryz.func33, Tryz.ntmps33
    go_wp2_with fail
    refine HV.out.mono ?_
    rintro e w2 ⟨rfl, hb2⟩
    have HB2 := Lib.hid (bgo0 HB0.out hb2)
    clear hb2
    go_wp2_with fail
    go_ret
    exact ⟨by rw [HE.out]; rfl, HB2.out⟩
  · rw [hv] at hV
    have HV := Lib.hid hV
    have G0 := Lib.hid g0
    have HB0 := Lib.hid hb0
    by_cases h1 : v.ty = 1
    · have hd : (v.ty == 1) = true := by simp [h1]
      have HE := Lib.hid (valText_1 hv h1)
      obtain ⟨n0, n1⟩ := num_in hv h1
      clear hV hv g0 hb0 h1
      go_enter Tryz.func33, Tryz.ntmps33
      go_wp2_with fail
      refine HV.out.mono ?_
      rintro e w2 ⟨rfl, hb2⟩
      have hc := (hb2.block w.heap.size hlt).trans G0.out
      have c0 := cell_of_row w2 _ 0 _ _ _ hc
      have c1 := cell_of_row w2 _ 1 _ _ _ hc
      simp only [List.getElem?_toArray, List.getElem?_cons_zero, List.getElem?_cons_succ] at c0 c1
      have HN := Lib.hid (impl_NumText' v.n w2 (by omega) (by omega) (TabIs.below HT.out hb2))
      have HB2 := Lib.hid (bgo0 HB0.out hb2)
      clear hb2 hc
      go_wp2_with fail
      refine HN.out.mono ?_
      rintro e w3 ⟨rfl, hb3⟩
      have HB3 := Lib.hid (bgo0 HB2.out hb3)
      clear hb3
      go_wp2_with fail
      go_ret
      exact ⟨by rw [HE.out]; rfl, HB3.out⟩
    · have hd : (v.ty == 1) = false := by simp [h1]
      have HE := Lib.hid (valText_2 hv h1)
      have hl6 := txt_len6 hv h1
      clear hV hv g0 hb0 h1
      go_enter Tryz.func33, Tryz.ntmps33
      go_wp2_with fail
      refine HV.out.mono ?_
      rintro e w2 ⟨rfl, hb2⟩
      have hc := (hb2.block w.heap.size hlt).trans G0.out
      have c0 := cell_of_row w2 _ 0 _ _ _ hc
      have c2 := cell_of_row w2 _ 2 _ _ _ hc
      simp only [List.getElem?_toArray, List.getElem?_cons_zero, List.getElem?_cons_succ] at c0 c2
      have HB2 := Lib.hid (bgo0 HB0.out hb2)
      clear hb2 hc
      go_wp2_with fail
      go_ret
      exact ⟨by rw [HE.out]; rfl, HB2.out⟩
set_option maxHeartbeats 2000000 in
set_option maxRecDepth 20000 in
theorem spec_RowText (r : R) (sv : Value) (w : World) {lo hi : Nat} (hx : RdV w lo hi sv r.l) (hhi : hi ≤ w.heap.size) (hs : ∀ v ∈ r.l, v.s.size ≤ maxLen) (hn : r.l.length ≤ 1048576) (h0 : -9223372036854775808 ≤ r.id ∧ r.id ≤ 9223372036854775807) (ht : Pow w) :
    Calls Tryz.prog 34 #[.agg #[.int .i64 r.id, sv]] w fun e w' => e = .returned (.string (rowText r)) ∧ Below w.heap.size w w' := by
  obtain ⟨A, c, rfl, hl, hl2⟩ := hx.form
  have hb0 := up_a1 w (.cells #[.int .i64 r.id, .slice A r.l.length c] 51)
  have g0 := heap_alloc_new w (.cells #[.int .i64 r.id, .slice A r.l.length c] 51)
  have hx0 := hx.below hb0 hhi
  have hsz0 := hb0.size
  have hlt : w.heap.size < (w.alloc (.cells #[.int .i64 r.id, .slice A r.l.length c] 51)).heap.size := by simp
  have ht0 := TabIs.below ht hb0
  go_enter Tryz.func34, Tryz.ntmps34
  go_wp2_with fail
  obtain ⟨W0, hW0⟩ : ∃ W0, (w.alloc (.cells #[.int .i64 r.id, .slice A r.l.length c] 51)) = W0 := ⟨_, rfl⟩
  rw [hW0] at hb0 g0 hx0 hsz0 hlt ht0 ⊢
  clear hW0 hx ht
  have HT := Lib.hid ht0
  have G0 := Lib.hid g0
  have hC := spec_NumText' r.id W0 h0.1 h0.2 ht0
  have hnl := numText_len h0.1 h0.2
  obtain ⟨nt, hnt⟩ : ∃ nt, numText r.id = nt := ⟨_, rfl⟩
  rw [hnt] at hC hnl
  have HN := Lib.hid hnt
  have HC := Lib.hid hC
  clear ht0 hnt hC g0
  refine HC.out.mono ?_
  rintro e w1 ⟨rfl, hb1⟩
  have G1 := Lib.hid ((hb1.block _ hlt).trans G0.out)
  have HB1 := Lib.hid (bgo0 hb0 hb1)
  have hx1 := hx0.below hb1 (Nat.le_trans hhi hsz0)
  have HT1 := Lib.hid (TabIs.below HT.out hb1)
  have hs1 := hb1.size
  have hhi1 : hi ≤ w1.heap.size := Nat.le_trans hhi (Nat.le_trans hsz0 hs1)
  clear G0 HT hb1 HC hb0 hx0
  go_wp2_with fail
  go_loopw [3, 4] (fun s i wr => ∃ (k : Nat) (t : ByteArray), Hid (s = .string t ∧ i = .int .i64 k ∧ k ≤ r.l.length ∧ t = rowPart r k ∧ t.size ≤ 22 + 22 * k ∧ Below w1.heap.size w1 wr)) (fun _ i _ => r.l.length - (intOf i).toNat)
  case atStart => exact ⟨0, _, Lib.hid ⟨rfl, rfl, Nat.zero_le _, by rw [rowPart_zero, HN.out], by rw [ByteArray.size_append]; show 1 + nt.size ≤ _; omega, Below.refl _ _⟩⟩
  case round =>
    obtain ⟨k, t, hrel⟩ := hrel
    obtain ⟨rfl, rfl, hk, ht, hts, hbr⟩ := hrel.out
    have Ht := Lib.hid ht
    have hc := (hbr.block w.heap.size (by omega)).trans G1.out
    have c1 := cell_of_row wr _ 1 _ _ _ hc
    simp only [List.getElem?_toArray, List.getElem?_cons_zero, List.getElem?_cons_succ] at c1
    have Hbr := Lib.hid hbr
    clear hrel ht hc hbr
    by_cases hkl : k < r.l.length
    · obtain ⟨b, off, y, rfl, -, hbl, hyk, e0, e1, e2⟩ := (hx1.below Hbr.out hhi1).at hkl
      have hY := rowPart_step hyk
      have hV := spec_ValText y wr (hs y (mem_of_get hyk)) (TabIs.below HT1.out Hbr.out)
      have hvl := valText_len y
      obtain ⟨vt, hvt⟩ : ∃ vt, valText y = vt := ⟨_, rfl⟩
      rw [hvt] at hV hvl hY
      have HV := Lib.hid hV
      have HY := Lib.hid hY
      clear hvt hyk hV hY
      go_wp2_with fail
      refine HV.out.mono ?_
      rintro e w3 ⟨rfl, hb3⟩
      have HB3 := Lib.hid (below_go Hbr.out hb3)
      clear hb3
      go_wp2_with fail
      go_roundw
      case rel => exact ⟨k + 1, _, Lib.hid ⟨rfl, by go_num, by omega, by rw [HY.out, ← Ht.out], by rw [ByteArray.size_append, ByteArray.size_append]; show t.size + 1 + vt.size ≤ _; omega, HB3.out⟩⟩
      case measure => simp [intOf]; omega
    · obtain rfl : k = r.l.length := by omega
      go_wp2_with fail
      go_ret
      exact ⟨by rw [Ht.out]; rfl, below_go HB1.out Hbr.out⟩
set_option maxHeartbeats 2000000 in
set_option maxRecDepth 20000 in
theorem impl_RowText (r : R) (sv : Value) (w : World) {lo hi : Nat} (hx : RdV w lo hi sv r.l) (hhi : hi ≤ w.heap.size) (hs : ∀ v ∈ r.l, v.s.size ≤ maxLen) (hn : r.l.length ≤ 1048576) (h0 : -9223372036854775808 ≤ r.id ∧ r.id ≤ 9223372036854775807) (ht : Pow w) :
    Calls Tryz.prog 51 #[.agg #[.int .i64 r.id, sv]] w fun e w' => e = .returned (.string (rowText r)) ∧ Below w.heap.size w w' := by
  obtain ⟨A, c, rfl, hl, hl2⟩ := hx.form
  have hb0 := up_a1 w (.cells #[.int .i64 r.id, .slice A r.l.length c] 51)
  have g0 := heap_alloc_new w (.cells #[.int .i64 r.id, .slice A r.l.length c] 51)
  have hx0 := hx.below hb0 hhi
  have hsz0 := hb0.size
  have hlt : w.heap.size < (w.alloc (.cells #[.int .i64 r.id, .slice A r.l.length c] 51)).heap.size := by simp
  have ht0 := TabIs.below ht hb0
  obtain ⟨i0, hif, hz0, hz1, hz2⟩ := info_parts info_str
  replace hif := Lib.hid hif
  replace hz0 := Lib.hid hz0
  replace hz1 := Lib.hid hz1
  replace hz2 := Lib.hid hz2
  go_enter Tryz.func51, Tryz.ntmps51
  go_wp2_with fail
  obtain ⟨W0, hW0⟩ : ∃ W0, (w.alloc (.cells #[.int .i64 r.id, .slice A r.l.length c] 51)) = W0 := ⟨_, rfl⟩
  rw [hW0] at hb0 g0 hx0 hsz0 hlt ht0 ⊢
  clear hW0 hx ht
  have HT := Lib.hid ht0
  have G0 := Lib.hid g0
  have hC := impl_NumText' r.id W0 h0.1 h0.2 ht0
  have hnl := numText_len h0.1 h0.2
  obtain ⟨nt, hnt⟩ : ∃ nt, numText r.id = nt := ⟨_, rfl⟩
  rw [hnt] at hC hnl
  have HN := Lib.hid hnt
  have HC := Lib.hid hC
  clear ht0 hnt hC g0
  refine HC.out.mono ?_
  rintro e w1 ⟨rfl, hb1⟩
  have G1 := Lib.hid ((hb1.block _ hlt).trans G0.out)
  have HB1 := Lib.hid (bgo0 hb0 hb1)
  have hx1 := hx0.below hb1 (Nat.le_trans hhi hsz0)
  have HT1 := Lib.hid (TabIs.below HT.out hb1)
  have hs1 := hb1.size
  have hhi1 : hi ≤ w1.heap.size := Nat.le_trans hhi (Nat.le_trans hsz0 hs1)
  have hc := ((up_a1 w1 (.cells #[.string (⟨#[35]⟩ ++ nt)] 9)).block w.heap.size (by omega)).trans G1.out
  have c1 := cell_of_row _ _ 1 _ _ _ hc
  simp only [List.getElem?_toArray, List.getElem?_cons_zero, List.getElem?_cons_succ] at c1
  have HU := Lib.hid (up_a1 w1 (.cells #[.string (⟨#[35]⟩ ++ nt)] 9))
  have HO := Lib.hid (owns_one w1 9 (.string (⟨#[35]⟩ ++ nt)) (Nat.le_refl _))
  clear G0 HT hb1 HC hb0 hx0 hc
  go_wp2_with fail
  go_loopw [3, 14] (fun o i wr => ∃ (k : Nat) (xs : List ByteArray), Hid (i = .int .i64 k ∧ k ≤ r.l.length ∧ xs.length = k + 1 ∧ xs = (⟨#[35]⟩ ++ nt) :: (r.l.take k).map valText ∧ wr.ownsRow w1.heap.size 9 1 o (k + 1) (xs.map .string) ∧ Below w1.heap.size w1 wr)) (fun _ i _ => r.l.length - (intOf i).toNat)
  case atStart => exact ⟨0, [(⟨#[35]⟩ : ByteArray) ++ nt], Lib.hid ⟨rfl, Nat.zero_le _, rfl, rfl, HO.out, HU.out⟩⟩
  case round =>
    obtain ⟨k, xs, hrel⟩ := hrel
    obtain ⟨rfl, hk, hxl, hxs, hown, hbr⟩ := hrel.out
    have Hxs := Lib.hid hxs
    have Hxl := Lib.hid hxl
    have Hbr := Lib.hid hbr
    obtain ⟨g, cap, rfl, hg0, hg1, hgc, hcell⟩ := owns_formT hown (by omega)
    have Hcell := Lib.hid hcell
    have Hown := Lib.hid hown
    clear hrel hxs hxl hbr hcell hown HO HU c1
    by_cases hkl : k < r.l.length
    · obtain ⟨b, off, y, rfl, -, hbl, hyk, e0, e1, e2⟩ := (hx1.below Hbr.out hhi1).at hkl
      have Hy := Lib.hid (show xs ++ [valText y] = (⟨#[35]⟩ ++ nt) :: (r.l.take (k + 1)).map valText by rw [Hxs.out, take_of_get hyk]; simp)
      have hup : Below wr.heap.size wr (wr.alloc (.cells #[.int .i64 y.ty, .int .i64 y.n, .string y.s] 25)) := up_a1 wr _
      have hys := hs y (mem_of_get hyk)
      clear hyk
      go_wp2_with fail
      obtain ⟨wb, hwb⟩ : ∃ wb, (wr.alloc (.cells #[.int .i64 y.ty, .int .i64 y.n, .string y.s] 25)) = wb := ⟨_, rfl⟩
      rw [hwb] at hup ⊢
      clear hwb
      have hbu := below_go Hbr.out hup
      have hV := impl_ValText y wb hys (TabIs.below HT1.out hbu)
      obtain ⟨vt, hvt⟩ : ∃ vt, valText y = vt := ⟨_, rfl⟩
      rw [hvt] at hV Hy
      have HV := Lib.hid hV
      have HO2 := Lib.hid (owns_below Hown.out hup)
      clear hvt hV Hown hup hys
      refine HV.out.mono ?_
      rintro e w3 ⟨rfl, hb3⟩
      have HO3 := Lib.hid (owns_below HO2.out hb3)
      have hb3w := below_go hbu hb3
      have hbs3 := hb3w.size
      clear hb3 hbu HO2
      go_wp2_with (at_builtin; refine wpl_app rfl _ _ 77 rfl w1.heap.size 9 i0 _ 1 16 Tryz.underlying77 hif.out hz0.out hz1.out hz2.out rfl (by decide) (by decide) (HO3.out.alloc _) rfl (heap_alloc_new _ _) rfl rfl (by simp [Value.oneCell']) (by omega) (by simp; omega) ?_)
      intro v4 w4 hown4 hgrow _
      have HB4 := Lib.hid (Below.grown (hb3w.alloc hbs3 _) hgrow (fun g hg => (HO3.out.lt g hg).1) (Nat.le_refl _))
      have HO4 := Lib.hid (show w4.ownsRow w1.heap.size 9 1 v4 (k + 1 + 1) ((xs ++ [vt]).map .string) by
        rw [List.map_append]
        exact hown4)
      clear hown4 hgrow HO3
      go_wp2_with fail
      go_roundw
      case rel => exact ⟨k + 1, xs ++ [vt], Lib.hid ⟨by go_num, by omega, by rw [List.length_append, Hxl.out]; rfl, Hy.out, HO4.out, HB4.out⟩⟩
      case measure => simp [intOf]; omega
    · obtain rfl : k = r.l.length := by omega
      have hxw : xs = rowWords r := by rw [Hxs.out, List.take_length, rowWords, HN.out]
      have hJl : (Lib.join (xs.map (·.data.toList)) [32]).length ≤ 140737488355328 := by
        have h1 := rowPart_len r h0 r.l.length (Nat.le_refl _)
        have h2 : (rowText r).size = (Lib.join (xs.map (·.data.toList)) [32]).length := by rw [← row_join, ← hxw]; exact List.size_toArray
        have h3 : (rowText r).size ≤ 22 + 22 * r.l.length := h1
        omega
      have hJ := Tryz.strings_Join g 0 cap xs ⟨#[32]⟩ wr (fun j x hj => by
        rw [Nat.zero_add]
        exact Hcell.out j _ (by rw [List.getElem?_map, hj]; rfl)) hg1 (by rw [Hxl.out]; omega) (by rw [Hxl.out]; exact hgc) hJl
      have HJ := Lib.hid (by have h := hJ; rw [show (⟨(Lib.join (xs.map (·.data.toList)) (⟨#[32]⟩ : ByteArray).data.toList).toArray⟩ : ByteArray) = rowText r by rw [hxw]; exact row_join r, Hxl.out] at h; exact h)
      clear hJ hJl hxw Hxs Hcell Hown
      go_wp2_with fail
      refine HJ.out.mono ?_
      rintro e w3 ⟨rfl, hb3⟩
      have HB3 := Lib.hid (below_go Hbr.out hb3)
      clear hb3
      go_wp2_with fail
      go_ret
      exact ⟨rfl, below_go HB1.out HB3.out⟩
end Go.Proofs.YtidmlfjolhnnfaaGreatDoor
namespace Go.Proofs.YtidmlfjolhnnfaaGreatDoor
open Go.Sort Go.ChangeShapes Go.WideShapes Go.ChangeAt Go.RowKit Go.Lb
/-- The rows' ids are numbers of 64 bits. -/
def IdsIn (l : List R) : Prop := ∀ r ∈ l, -9223372036854775808 ≤ r.id ∧ r.id ≤ 9223372036854775807
theorem lensR_app (a b : List R) : lensR (a ++ b) = lensR a + lensR b := by simp [lensR]
theorem lensR_step {l : List R} {k : Nat} {y : R} (h : l[k]? = some y) : lensR (l.take (k + 1)) = lensR (l.take k) + y.l.length := by
  rw [take_of_get h, lensR_app]
  simp [lensR]
theorem lensR_take (l : List R) (k : Nat) : lensR (l.take k) ≤ lensR l := by
  have h := lensR_app (l.take k) (l.drop k)
  rw [List.take_append_drop] at h
  omega
theorem join_nil (sep : List UInt8) : Lib.join [] sep = [] := by simp [Lib.join, List.intercalate]
theorem join_snoc (xs : List (List UInt8)) (y sep : List UInt8) (h : xs ≠ []) : Lib.join (xs ++ [y]) sep = Lib.join xs sep ++ sep ++ y := by
  cases xs with
  | nil => exact absurd rfl h
  | cons x r => simp [Lib.join_cons, Lib.joinTail]
def rowsPart (l : List R) (k : Nat) : ByteArray := ⟨(Lib.join (((l.take k).map rowText).map (·.data.toList)) [59, 32]).toArray⟩
def rowsText (l : List R) : ByteArray := if l = [] then ⟨#[45]⟩ else rowsPart l l.length
theorem rowsPart_zero (l : List R) : rowsPart l 0 = ⟨#[]⟩ := by
  apply ByteArray.ext
  simp [rowsPart, join_nil]
theorem rowsPart_one {l : List R} {y : R} (h : l[0]? = some y) : rowsPart l 1 = rowsPart l 0 ++ rowText y := by
  apply ByteArray.ext
  rw [rowsPart_zero]
  simp [rowsPart, take_of_get h, Lib.join_one]
theorem rowsPart_step {l : List R} {k : Nat} {y : R} (h : l[k]? = some y) (hk : 0 < k) : rowsPart l (k + 1) = (rowsPart l k ++ ⟨#[59, 32]⟩) ++ rowText y := by
  have hkl := (List.getElem?_eq_some_iff.1 h).1
  have hne : ((l.take k).map rowText).map (·.data.toList) ≠ [] := by
    intro e
    have := congrArg List.length e
    simp at this
    rcases this with h1 | h1
    · omega
    · rw [h1] at hkl
      simp at hkl
  apply ByteArray.ext
  simp only [rowsPart, take_of_get h, List.map_append, List.map_cons, List.map_nil]
  rw [join_snoc _ _ _ hne]
  simp
theorem rowsPart_len (l : List R) (hi : IdsIn l) : ∀ k, k ≤ l.length → (rowsPart l k).size ≤ 24 * k + 22 * lensR (l.take k)
  | 0, _ => by rw [rowsPart_zero]; exact Nat.zero_le _
  | k + 1, h => by
    have ih := rowsPart_len l hi k (by omega)
    have hg : l[k]? = some (l[k]'(by omega)) := List.getElem?_eq_getElem (by omega)
    have hv : (rowText (l[k]'(by omega))).size ≤ _ := rowPart_len (l[k]'(by omega)) (hi _ (mem_of_get hg)) _ (Nat.le_refl _)
    rw [lensR_step hg]
    by_cases h0 : k = 0
    · subst h0
      rw [rowsPart_one hg, ByteArray.size_append, rowsPart_zero]
      show 0 + _ ≤ _
      omega
    · rw [rowsPart_step hg (by omega), ByteArray.size_append, ByteArray.size_append]
      show _ + 2 + _ ≤ _
      omega
theorem rowsText_none {l : List R} (h : l.length = 0) : rowsText l = ⟨#[45]⟩ := by rw [rowsText, if_pos (List.length_eq_zero_iff.1 h)]
theorem rowsText_some {l : List R} (h : ¬ l.length = 0) : rowsText l = rowsPart l l.length := by rw [rowsText, if_neg fun e => h (by rw [e]; rfl)]
def resText (kind : Int) (rows : List R) (n : Int) (has : Bool) (v : V) : ByteArray :=
  if kind = 1 then rowsText rows else if kind = 2 ∨ kind = 3 then numText n else if kind = 4 ∨ kind = 5 then (if has then valText v else ⟨#[110, 111, 110, 101]⟩) else ⟨#[]⟩
set_option maxHeartbeats 2000000 in
set_option maxRecDepth 20000 in
theorem impl_rowsText (l : List R) (x : Value) (w : World) {lo hi : Nat} (hx : RdR w lo hi x l) (hhi : hi ≤ w.heap.size) (hs : RsOk l) (hn : l.length ≤ 1048576 ∧ lensR l ≤ 1048576) (hid : IdsIn l) (ht : Pow w) :
    Calls Tryz.prog 31 #[x] w fun e w' => e = .returned (.string (rowsText l)) ∧ Below w.heap.size w w' := by
  obtain ⟨A, c, rfl, hl, hl2⟩ := hx.form
  by_cases h0 : l.length = 0
  · have hd : ((l.length : Int) == 0) = true := by simp [h0]
    have HE := Lib.hid (rowsText_none h0)
    clear h0 hx hs hid ht hn
    go_enter Tryz.func31, Tryz.ntmps31
    go_wp2_with fail
    go_ret
    exact ⟨by rw [HE.out]; rfl, Below.refl _ _⟩
  · have hd : ((l.length : Int) == 0) = false := beq_eq_false_iff_ne.2 (by omega)
    have HE := Lib.hid (rowsText_some h0)
    have hpos : 0 < l.length := by omega
    have hb0 := up_a1 w (.cells #[] 9)
    have HO := Lib.hid (World.ownsRow_made w (base := w.heap.size) (e := 9) (size := 1) #[] 0 (Nat.le_refl _) (by decide) rfl)
    have HB0 := Lib.hid hb0
    have HT := Lib.hid ht
    have HX := Lib.hid hx
    clear h0 hx ht hb0
    obtain ⟨i0, hif, hz0, hz1, hz2⟩ := info_parts info_str
    replace hif := Lib.hid hif
    replace hz0 := Lib.hid hz0
    replace hz1 := Lib.hid hz1
    replace hz2 := Lib.hid hz2
    go_enter Tryz.func31, Tryz.ntmps31
    go_wp2_with fail
    go_loopw [3, 12] (fun o i wr => ∃ (k : Nat) (xs : List ByteArray), Hid (i = .int .i64 k ∧ k ≤ l.length ∧ xs.length = k ∧ xs = (l.take k).map rowText ∧ wr.ownsRow w.heap.size 9 1 o k (xs.map .string) ∧ Below w.heap.size w wr)) (fun _ i _ => l.length - (intOf i).toNat)
    case atStart => exact ⟨0, [], Lib.hid ⟨rfl, Nat.zero_le _, rfl, rfl, HO.out, HB0.out⟩⟩
    case round =>
      obtain ⟨k, xs, hrel⟩ := hrel
      obtain ⟨rfl, hk, hxl, hxs, hown, hbr⟩ := hrel.out
      have Hxs := Lib.hid hxs
      have Hxl := Lib.hid hxl
      have Hbr := Lib.hid hbr
      have Hown := Lib.hid hown
      clear hrel hxs hxl hbr hown HO HB0
      by_cases hkl : k < l.length
      · obtain ⟨Ao, co, rfl, -, -, -⟩ := (Own.new Hown.out).cells
        obtain ⟨b, off, y, sy, rfl, -, hbl, hyk, e0, e1, hrv⟩ := (HX.out.below Hbr.out hhi).at hkl
        obtain ⟨Ay, cy, rfl, -, -⟩ := hrv.form
        have Hy := Lib.hid (show xs ++ [rowText y] = (l.take (k + 1)).map rowText by rw [Hxs.out, take_of_get hyk]; simp)
        have hup : Below wr.heap.size wr (wr.alloc (.cells #[.int .i64 y.id, .slice Ay y.l.length cy] 51)) := up_a1 wr _
        have hym := mem_of_get hyk
        have hyl : y.l.length ≤ 1048576 := by have h1 := lensR_step hyk; have h2 := lensR_take l (k + 1); omega
        have hhr : hi ≤ wr.heap.size := Nat.le_trans hhi Hbr.out.size
        have HS := Lib.hid (hs y hym)
        have HI := Lib.hid (hid y hym)
        have HRv := Lib.hid hrv
        clear hyk hym hrv
        go_wp2_with fail
        obtain ⟨wb, hwb⟩ : ∃ wb, (wr.alloc (.cells #[.int .i64 y.id, .slice Ay y.l.length cy] 51)) = wb := ⟨_, rfl⟩
        rw [hwb] at hup ⊢
        clear hwb
        have hbu := below_go Hbr.out hup
        have hV := impl_RowText y _ wb (HRv.out.below hup hhr) (Nat.le_trans hhr hup.size) HS.out hyl HI.out (TabIs.below HT.out hbu)
        obtain ⟨vt, hvt⟩ : ∃ vt, rowText y = vt := ⟨_, rfl⟩
        rw [hvt] at hV Hy
        have HV := Lib.hid hV
        have HO2 := Lib.hid (owns_below Hown.out hup)
        clear hvt hV Hown hup HRv HS HI hyl
        refine HV.out.mono ?_
        rintro e w3 ⟨rfl, hb3⟩
        have HO3 := Lib.hid (owns_below HO2.out hb3)
        have hb3w := below_go hbu hb3
        have hbs3 := hb3w.size
        clear hb3 hbu HO2
        go_wp2_with (at_builtin; refine wpl_app rfl _ _ 77 rfl w.heap.size 9 i0 _ 1 16 Tryz.underlying77 hif.out hz0.out hz1.out hz2.out rfl (by decide) (by decide) (HO3.out.alloc _) rfl (heap_alloc_new _ _) rfl rfl (by simp [Value.oneCell']) (by omega) (by simp; omega) ?_)
        intro v4 w4 hown4 hgrow _
        have HB4 := Lib.hid (Below.grown (hb3w.alloc hbs3 _) hgrow (fun g hg => (HO3.out.lt g hg).1) (Nat.le_refl _))
        have HO4 := Lib.hid (show w4.ownsRow w.heap.size 9 1 v4 (k + 1) ((xs ++ [vt]).map .string) by
          rw [List.map_append]
          exact hown4)
        clear hown4 hgrow HO3
        go_wp2_with fail
        go_roundw
        case rel => exact ⟨k + 1, xs ++ [vt], Lib.hid ⟨by go_num, by omega, by rw [List.length_append, Hxl.out]; rfl, Hy.out, HO4.out, HB4.out⟩⟩
        case measure => simp [intOf]; omega
      · obtain rfl : k = l.length := by omega
        obtain ⟨g, cap, rfl, hg0, hg1, hgc, hcell⟩ := owns_formT Hown.out (by omega)
        have Hcell := Lib.hid hcell
        have hxw : (⟨(Lib.join (xs.map (·.data.toList)) (⟨#[59, 32]⟩ : ByteArray).data.toList).toArray⟩ : ByteArray) = rowsText l := by rw [HE.out, Hxs.out]; rfl
        have hJl : (Lib.join (xs.map (·.data.toList)) [59, 32]).length ≤ 140737488355328 := by
          have h1 := rowsPart_len l hid l.length (Nat.le_refl _)
          have h4 := lensR_take l l.length
          have h2 : (rowsText l).size = (Lib.join (xs.map (·.data.toList)) [59, 32]).length := by rw [← hxw]; exact List.size_toArray
          rw [← HE.out] at h1
          omega
        have hJ := Tryz.strings_Join g 0 cap xs ⟨#[59, 32]⟩ wr (fun j x hj => by
          rw [Nat.zero_add]
          exact Hcell.out j _ (by rw [List.getElem?_map, hj]; rfl)) hg1 (by rw [Hxl.out]; omega) (by rw [Hxl.out]; exact hgc) hJl
        have HJ := Lib.hid (by have h := hJ; rw [hxw, Hxl.out] at h; exact h)
        clear hJ hJl hxw Hxs Hcell Hown hcell
        go_wp2_with fail
        refine HJ.out.mono ?_
        rintro e w3 ⟨rfl, hb3⟩
        have HB3 := Lib.hid (below_go Hbr.out hb3)
        clear hb3
        go_wp2_with fail
        go_ret
        exact ⟨rfl, HB3.out⟩
set_option maxHeartbeats 4000000 in
set_option maxRecDepth 20000 in
theorem spec_ResultText0 (q : Q) (sv ov : Value) (rows : List R) (n : Int) (has : Bool) (v : V) (rv : Value) (w : World) {lo hi : Nat} (hx : RdR w lo hi rv rows) (hhi : hi ≤ w.heap.size) (hs : RsOk rows) (hvs : v.s.size ≤ maxLen) (hn : rows.length ≤ 1048576 ∧ lensR rows ≤ 1048576) (hid : IdsIn rows) (h0 : -9223372036854775808 ≤ n ∧ n ≤ 9223372036854775807) (ht : Pow w) :
    Calls Tryz.prog 14 #[.agg #[.int .i64 q.kind, .int .i64 q.p.kind, .int .i64 q.p.col, .int .i64 q.p.op, .int .i64 q.p.v.ty, .int .i64 q.p.v.n, .string q.p.v.s, sv, .int .i64 q.col, ov], .agg #[rv, .int .i64 n, .bool has, .int .i64 v.ty, .int .i64 v.n, .string v.s]] w fun e w' => e = .returned (.string (resText q.kind rows n has v)) ∧ Below w.heap.size w w' := by
  obtain ⟨A, c, rfl, hl, hl2⟩ := hx.form
  have hb0 := up_a2 w (.cells #[.int .i64 q.kind, .int .i64 q.p.kind, .int .i64 q.p.col, .int .i64 q.p.op, .int .i64 q.p.v.ty, .int .i64 q.p.v.n, .string q.p.v.s, sv, .int .i64 q.col, ov] 31) (.cells #[.slice A rows.length c, .int .i64 n, .bool has, .int .i64 v.ty, .int .i64 v.n, .string v.s] 37)
  have g0 : ((w.alloc (.cells #[.int .i64 q.kind, .int .i64 q.p.kind, .int .i64 q.p.col, .int .i64 q.p.op, .int .i64 q.p.v.ty, .int .i64 q.p.v.n, .string q.p.v.s, sv, .int .i64 q.col, ov] 31)).alloc (.cells #[.slice A rows.length c, .int .i64 n, .bool has, .int .i64 v.ty, .int .i64 v.n, .string v.s] 37)).heap[w.heap.size]? = some (.cells #[.int .i64 q.kind, .int .i64 q.p.kind, .int .i64 q.p.col, .int .i64 q.p.op, .int .i64 q.p.v.ty, .int .i64 q.p.v.n, .string q.p.v.s, sv, .int .i64 q.col, ov] 31) := ((up_a1 (w.alloc (.cells #[.int .i64 q.kind, .int .i64 q.p.kind, .int .i64 q.p.col, .int .i64 q.p.op, .int .i64 q.p.v.ty, .int .i64 q.p.v.n, .string q.p.v.s, sv, .int .i64 q.col, ov] 31)) (.cells #[.slice A rows.length c, .int .i64 n, .bool has, .int .i64 v.ty, .int .i64 v.n, .string v.s] 37)).block w.heap.size (by simp)).trans (heap_alloc_new w _)
  have g1 : ((w.alloc (.cells #[.int .i64 q.kind, .int .i64 q.p.kind, .int .i64 q.p.col, .int .i64 q.p.op, .int .i64 q.p.v.ty, .int .i64 q.p.v.n, .string q.p.v.s, sv, .int .i64 q.col, ov] 31)).alloc (.cells #[.slice A rows.length c, .int .i64 n, .bool has, .int .i64 v.ty, .int .i64 v.n, .string v.s] 37)).heap[w.heap.size + 1]? = some (.cells #[.slice A rows.length c, .int .i64 n, .bool has, .int .i64 v.ty, .int .i64 v.n, .string v.s] 37) := by
    have h := heap_alloc_new (w.alloc (.cells #[.int .i64 q.kind, .int .i64 q.p.kind, .int .i64 q.p.col, .int .i64 q.p.op, .int .i64 q.p.v.ty, .int .i64 q.p.v.n, .string q.p.v.s, sv, .int .i64 q.col, ov] 31)) (.cells #[.slice A rows.length c, .int .i64 n, .bool has, .int .i64 v.ty, .int .i64 v.n, .string v.s] 37)
    rwa [World.size_alloc] at h
  have k0 := cell_of_row _ _ 0 _ _ _ g0
  have r0 := cell_of_row _ _ 0 _ _ _ g1
  have r1 := cell_of_row _ _ 1 _ _ _ g1
  have r2 := cell_of_row _ _ 2 _ _ _ g1
  have r3 := cell_of_row _ _ 3 _ _ _ g1
  have r4 := cell_of_row _ _ 4 _ _ _ g1
  have r5 := cell_of_row _ _ 5 _ _ _ g1
  simp only [List.getElem?_toArray, List.getElem?_cons_zero, List.getElem?_cons_succ] at k0 r0 r1 r2 r3 r4 r5
  have HT := Lib.hid (TabIs.below ht hb0)
  have HB0 := Lib.hid hb0
  have HX := Lib.hid (hx.below hb0 hhi)
  have hlt : w.heap.size + 1 < ((w.alloc (.cells #[.int .i64 q.kind, .int .i64 q.p.kind, .int .i64 q.p.col, .int .i64 q.p.op, .int .i64 q.p.v.ty, .int .i64 q.p.v.n, .string q.p.v.s, sv, .int .i64 q.col, ov] 31)).alloc (.cells #[.slice A rows.length c, .int .i64 n, .bool has, .int .i64 v.ty, .int .i64 v.n, .string v.s] 37)).heap.size := by simp
  have hhi0 : hi ≤ ((w.alloc (.cells #[.int .i64 q.kind, .int .i64 q.p.kind, .int .i64 q.p.col, .int .i64 q.p.op, .int .i64 q.p.v.ty, .int .i64 q.p.v.n, .string q.p.v.s, sv, .int .i64 q.col, ov] 31)).alloc (.cells #[.slice A rows.length c, .int .i64 n, .bool has, .int .i64 v.ty, .int .i64 v.n, .string v.s] 37)).heap.size := Nat.le_trans hhi hb0.size
  have G1 := Lib.hid g1
  clear hx ht hb0 g0 g1
  by_cases hk1 : q.kind = 1
  · have d1 : (q.kind == 1) = true := by simp [hk1]
    have HE := Lib.hid (show resText q.kind rows n has v = rowsText rows by rw [resText, if_pos hk1])
    clear hk1
    by_cases hl0 : rows.length = 0
    · have hd : ((rows.length : Int) == 0) = true := by simp [hl0]
      have HE2 := Lib.hid (rowsText_none hl0)
      clear hl0 hs hid hhi0 HX G1 HT hlt hn
      go_enter Tryz.func14, Tryz.ntmps14
      go_wp2_with fail
      go_ret
      exact ⟨by rw [HE.out, HE2.out]; rfl, HB0.out⟩
    have hd : ((rows.length : Int) == 0) = false := beq_eq_false_iff_ne.2 (by omega)
    have HE2 := Lib.hid (rowsText_some hl0)
    clear hl0
    go_enter Tryz.func14, Tryz.ntmps14
    go_wp2_with fail
    obtain ⟨W1, hW1⟩ : ∃ W1, ((w.alloc (.cells #[.int .i64 q.kind, .int .i64 q.p.kind, .int .i64 q.p.col, .int .i64 q.p.op, .int .i64 q.p.v.ty, .int .i64 q.p.v.n, .string q.p.v.s, sv, .int .i64 q.col, ov] 31)).alloc (.cells #[.slice A rows.length c, .int .i64 n, .bool has, .int .i64 v.ty, .int .i64 v.n, .string v.s] 37)) = W1 := ⟨_, rfl⟩
    rw [hW1] at hlt hhi0 HT HB0 HX G1 ⊢
    clear k0 r0 r1 r2 r3 r4 r5 hW1
    go_loopw [5, 6] (fun s i wr => ∃ (k : Nat) (t : ByteArray), Hid (s = .string t ∧ i = .int .i64 k ∧ k ≤ rows.length ∧ t = rowsPart rows k ∧ t.size ≤ 24 * k + 22 * lensR (rows.take k) ∧ Below W1.heap.size W1 wr)) (fun _ i _ => rows.length - (intOf i).toNat)
    case atStart => exact ⟨0, _, Lib.hid ⟨rfl, rfl, Nat.zero_le _, (rowsPart_zero rows).symm, Nat.zero_le _, Below.refl _ _⟩⟩
    case round =>
      obtain ⟨k, t, hrel⟩ := hrel
      obtain ⟨rfl, rfl, hk, ht, hts, hbr⟩ := hrel.out
      have Ht := Lib.hid ht
      have hc := (hbr.block (w.heap.size + 1) hlt).trans G1.out
      have c1 := cell_of_row wr _ 0 _ _ _ hc
      simp only [List.getElem?_toArray, List.getElem?_cons_zero] at c1
      have Hbr := Lib.hid hbr
      have hhr : hi ≤ wr.heap.size := Nat.le_trans hhi0 hbr.size
      have htl := lensR_take rows k
      obtain ⟨M, hM⟩ : ∃ M, lensR (rows.take k) = M := ⟨_, rfl⟩
      rw [hM] at hts htl
      have hts2 : t.size ≤ 100000000 := by omega
      have Hts := Lib.hid hts
      have HM := Lib.hid hM
      clear hrel ht hc hbr hts hM
      by_cases hkl : k < rows.length
      · obtain ⟨b, off, y, sy, rfl, -, hbl, hyk, e0, e1, hrv⟩ := (HX.out.below Hbr.out hhi0).at hkl
        obtain ⟨Ay, cy, rfl, -, -⟩ := hrv.form
        have hst := lensR_step hyk
        have hyl : y.l.length ≤ 1048576 := by have h2 := lensR_take rows (k + 1); omega
        have hym := mem_of_get hyk
        have hV := spec_RowText y _ wr hrv hhr (hs y hym) hyl (hid y hym) (TabIs.below HT.out Hbr.out)
        have hvl : (rowText y).size ≤ 22 + 22 * y.l.length := rowPart_len y (hid y hym) _ (Nat.le_refl _)
        have h1 := rowsPart_step hyk
        have h2 : k = 0 → rowsPart rows (k + 1) = rowsPart rows k ++ rowText y := fun e => by subst e; exact rowsPart_one hyk
        obtain ⟨vt, hvt⟩ : ∃ vt, rowText y = vt := ⟨_, rfl⟩
        rw [hvt] at hV hvl h1 h2
        rw [HM.out] at hst
        have HV := Lib.hid hV
        have H1 := Lib.hid h1
        have H2 := Lib.hid h2
        have Hst := Lib.hid hst
        have Hvl := Lib.hid hvl
        have hvt2 : vt.size ≤ 100000000 := by omega
        clear hvt hyk hV h1 h2 hst hym hrv hyl hvl
        by_cases hk0 : k = 0
        · have dk : decide ((0 : Int) < (k : Int)) = false := decide_eq_false (by omega)
          have HY := Lib.hid (H2.out hk0)
          have hkn : ¬ 0 < k := by omega
          clear hk0 H1 H2
          go_wp2_with fail
          refine HV.out.mono ?_
          rintro e w3 ⟨rfl, hb3⟩
          have HB3 := Lib.hid (below_go Hbr.out hb3)
          clear hb3
          go_wp2_with fail
          go_roundw
          case rel => exact ⟨k + 1, _, Lib.hid ⟨rfl, by go_num, by omega, by rw [HY.out, ← Ht.out], by rw [ByteArray.size_append, Hst.out]; have := Hts.out; have := Hvl.out; omega, HB3.out⟩⟩
          case measure => simp [intOf]; omega
        · have dk : decide ((0 : Int) < (k : Int)) = true := decide_eq_true (by omega)
          have HY := Lib.hid (H1.out (by omega))
          have hkn : 0 < k := by omega
          clear hk0 H1 H2
          go_wp2_with fail
          refine HV.out.mono ?_
          rintro e w3 ⟨rfl, hb3⟩
          have HB3 := Lib.hid (below_go Hbr.out hb3)
          clear hb3
          go_wp2_with fail
          go_roundw
          case rel => exact ⟨k + 1, _, Lib.hid ⟨rfl, by go_num, by omega, by rw [HY.out, ← Ht.out], by rw [ByteArray.size_append, ByteArray.size_append, Hst.out]; have := Hts.out; have := Hvl.out; show t.size + 2 + vt.size ≤ _; omega, HB3.out⟩⟩
          case measure => simp [intOf]; omega
      · obtain rfl : k = rows.length := by omega
        go_wp2_with fail
        go_ret
        exact ⟨by rw [HE.out, HE2.out, ← Ht.out]; rfl, bgo0 HB0.out Hbr.out⟩
  have d1 : (q.kind == 1) = false := by simp [hk1]
  clear hs hid hhi0 HX G1 hlt
  by_cases hk2 : q.kind = 2 ∨ q.kind = 3
  · have HE := Lib.hid (show resText q.kind rows n has v = numText n by rw [resText, if_neg hk1, if_pos hk2])
    have HC := Lib.hid (spec_NumText' n ((w.alloc (.cells #[.int .i64 q.kind, .int .i64 q.p.kind, .int .i64 q.p.col, .int .i64 q.p.op, .int .i64 q.p.v.ty, .int .i64 q.p.v.n, .string q.p.v.s, sv, .int .i64 q.col, ov] 31)).alloc (.cells #[.slice A rows.length c, .int .i64 n, .bool has, .int .i64 v.ty, .int .i64 v.n, .string v.s] 37)) h0.1 h0.2 HT.out)
    rcases hk2 with hk | hk
    all_goals
      first
        | (have d2 : (q.kind == 2) = true := by simp [hk])
        | (have d2 : (q.kind == 2) = false := by simp [hk])
      have d3 : (q.kind == 3) = (q.kind == 3) := rfl
      first
        | (have d4 : (q.kind == 3) = true := by simp [hk])
        | (have d4 : (q.kind == 3) = false := by simp [hk])
      clear hk hk1 HT d3
      go_enter Tryz.func14, Tryz.ntmps14
      go_wp2_with fail
      refine HC.out.mono ?_
      rintro e w3 ⟨rfl, hb3⟩
      have HB3 := Lib.hid (bgo0 HB0.out hb3)
      clear hb3
      go_wp2_with fail
      go_ret
      exact ⟨by rw [HE.out]; rfl, HB3.out⟩
  have d2 : (q.kind == 2) = false := by simp; omega
  have d3 : (q.kind == 3) = false := by simp; omega
  by_cases hk4 : q.kind = 4 ∨ q.kind = 5
  · have HE := Lib.hid (show resText q.kind rows n has v = (if has then valText v else ⟨#[110, 111, 110, 101]⟩) by rw [resText, if_neg hk1, if_neg hk2, if_pos hk4])
    have HC := Lib.hid (spec_ValText v ((w.alloc (.cells #[.int .i64 q.kind, .int .i64 q.p.kind, .int .i64 q.p.col, .int .i64 q.p.op, .int .i64 q.p.v.ty, .int .i64 q.p.v.n, .string q.p.v.s, sv, .int .i64 q.col, ov] 31)).alloc (.cells #[.slice A rows.length c, .int .i64 n, .bool has, .int .i64 v.ty, .int .i64 v.n, .string v.s] 37)) hvs HT.out)
    cases has
    all_goals
      rcases hk4 with hk | hk
      all_goals
        first
          | (have d4 : (q.kind == 4) = true := by simp [hk])
          | (have d4 : (q.kind == 4) = false := by simp [hk])
        first
          | (have d5 : (q.kind == 5) = true := by simp [hk])
          | (have d5 : (q.kind == 5) = false := by simp [hk])
        clear hk hk1 hk2 HT
        go_enter Tryz.func14, Tryz.ntmps14
        go_wp2_with fail
        first
          | (go_ret; exact ⟨by rw [HE.out]; rfl, HB0.out⟩)
          | (refine HC.out.mono ?_
             rintro e w3 ⟨rfl, hb3⟩
             have HB3 := Lib.hid (bgo0 HB0.out hb3)
             clear hb3
             go_wp2_with fail
             go_ret
             exact ⟨by rw [HE.out]; rfl, HB3.out⟩)
  have d4 : (q.kind == 4) = false := by simp; omega
  have d5 : (q.kind == 5) = false := by simp; omega
  have HE := Lib.hid (show resText q.kind rows n has v = ⟨#[]⟩ by rw [resText, if_neg hk1, if_neg hk2, if_neg hk4])
  clear hk1 hk2 hk4 HT
  go_enter Tryz.func14, Tryz.ntmps14
  go_wp2_with fail
  go_ret
  exact ⟨by rw [HE.out]; rfl, HB0.out⟩
set_option maxHeartbeats 4000000 in
set_option maxRecDepth 20000 in
theorem impl_ResultText0 (q : Q) (sv ov : Value) (rows : List R) (n : Int) (has : Bool) (v : V) (rv : Value) (w : World) {lo hi : Nat} (hx : RdR w lo hi rv rows) (hhi : hi ≤ w.heap.size) (hs : RsOk rows) (hvs : v.s.size ≤ maxLen) (hn : rows.length ≤ 1048576 ∧ lensR rows ≤ 1048576) (hid : IdsIn rows) (h0 : -9223372036854775808 ≤ n ∧ n ≤ 9223372036854775807) (ht : Pow w) :
    Calls Tryz.prog 13 #[.agg #[.int .i64 q.kind, .int .i64 q.p.kind, .int .i64 q.p.col, .int .i64 q.p.op, .int .i64 q.p.v.ty, .int .i64 q.p.v.n, .string q.p.v.s, sv, .int .i64 q.col, ov], .agg #[rv, .int .i64 n, .bool has, .int .i64 v.ty, .int .i64 v.n, .string v.s]] w fun e w' => e = .returned (.string (resText q.kind rows n has v)) ∧ Below w.heap.size w w' := by
  obtain ⟨A, c, rfl, hl, hl2⟩ := hx.form
  have hb0 := up_a2 w (.cells #[.int .i64 q.kind, .int .i64 q.p.kind, .int .i64 q.p.col, .int .i64 q.p.op, .int .i64 q.p.v.ty, .int .i64 q.p.v.n, .string q.p.v.s, sv, .int .i64 q.col, ov] 31) (.cells #[.slice A rows.length c, .int .i64 n, .bool has, .int .i64 v.ty, .int .i64 v.n, .string v.s] 37)
  have g0 : ((w.alloc (.cells #[.int .i64 q.kind, .int .i64 q.p.kind, .int .i64 q.p.col, .int .i64 q.p.op, .int .i64 q.p.v.ty, .int .i64 q.p.v.n, .string q.p.v.s, sv, .int .i64 q.col, ov] 31)).alloc (.cells #[.slice A rows.length c, .int .i64 n, .bool has, .int .i64 v.ty, .int .i64 v.n, .string v.s] 37)).heap[w.heap.size]? = some (.cells #[.int .i64 q.kind, .int .i64 q.p.kind, .int .i64 q.p.col, .int .i64 q.p.op, .int .i64 q.p.v.ty, .int .i64 q.p.v.n, .string q.p.v.s, sv, .int .i64 q.col, ov] 31) := ((up_a1 (w.alloc (.cells #[.int .i64 q.kind, .int .i64 q.p.kind, .int .i64 q.p.col, .int .i64 q.p.op, .int .i64 q.p.v.ty, .int .i64 q.p.v.n, .string q.p.v.s, sv, .int .i64 q.col, ov] 31)) (.cells #[.slice A rows.length c, .int .i64 n, .bool has, .int .i64 v.ty, .int .i64 v.n, .string v.s] 37)).block w.heap.size (by simp)).trans (heap_alloc_new w _)
  have g1 : ((w.alloc (.cells #[.int .i64 q.kind, .int .i64 q.p.kind, .int .i64 q.p.col, .int .i64 q.p.op, .int .i64 q.p.v.ty, .int .i64 q.p.v.n, .string q.p.v.s, sv, .int .i64 q.col, ov] 31)).alloc (.cells #[.slice A rows.length c, .int .i64 n, .bool has, .int .i64 v.ty, .int .i64 v.n, .string v.s] 37)).heap[w.heap.size + 1]? = some (.cells #[.slice A rows.length c, .int .i64 n, .bool has, .int .i64 v.ty, .int .i64 v.n, .string v.s] 37) := by
    have h := heap_alloc_new (w.alloc (.cells #[.int .i64 q.kind, .int .i64 q.p.kind, .int .i64 q.p.col, .int .i64 q.p.op, .int .i64 q.p.v.ty, .int .i64 q.p.v.n, .string q.p.v.s, sv, .int .i64 q.col, ov] 31)) (.cells #[.slice A rows.length c, .int .i64 n, .bool has, .int .i64 v.ty, .int .i64 v.n, .string v.s] 37)
    rwa [World.size_alloc] at h
  have k0 := cell_of_row _ _ 0 _ _ _ g0
  have r0 := cell_of_row _ _ 0 _ _ _ g1
  have r1 := cell_of_row _ _ 1 _ _ _ g1
  have r2 := cell_of_row _ _ 2 _ _ _ g1
  have r3 := cell_of_row _ _ 3 _ _ _ g1
  have r4 := cell_of_row _ _ 4 _ _ _ g1
  have r5 := cell_of_row _ _ 5 _ _ _ g1
  simp only [List.getElem?_toArray, List.getElem?_cons_zero, List.getElem?_cons_succ] at k0 r0 r1 r2 r3 r4 r5
  have HT := Lib.hid (TabIs.below ht hb0)
  have HB0 := Lib.hid hb0
  have HX := Lib.hid (hx.below hb0 hhi)
  have hlt : w.heap.size + 1 < ((w.alloc (.cells #[.int .i64 q.kind, .int .i64 q.p.kind, .int .i64 q.p.col, .int .i64 q.p.op, .int .i64 q.p.v.ty, .int .i64 q.p.v.n, .string q.p.v.s, sv, .int .i64 q.col, ov] 31)).alloc (.cells #[.slice A rows.length c, .int .i64 n, .bool has, .int .i64 v.ty, .int .i64 v.n, .string v.s] 37)).heap.size := by simp
  have hhi0 : hi ≤ ((w.alloc (.cells #[.int .i64 q.kind, .int .i64 q.p.kind, .int .i64 q.p.col, .int .i64 q.p.op, .int .i64 q.p.v.ty, .int .i64 q.p.v.n, .string q.p.v.s, sv, .int .i64 q.col, ov] 31)).alloc (.cells #[.slice A rows.length c, .int .i64 n, .bool has, .int .i64 v.ty, .int .i64 v.n, .string v.s] 37)).heap.size := Nat.le_trans hhi hb0.size
  have G1 := Lib.hid g1
  clear hx ht hb0 g0 g1
  by_cases hk1 : q.kind = 1
  · have d1 : (q.kind == 1) = true := by simp [hk1]
    have HE := Lib.hid (show resText q.kind rows n has v = rowsText rows by rw [resText, if_pos hk1])
    clear hk1
    have HC := Lib.hid (impl_rowsText rows _ ((w.alloc (.cells #[.int .i64 q.kind, .int .i64 q.p.kind, .int .i64 q.p.col, .int .i64 q.p.op, .int .i64 q.p.v.ty, .int .i64 q.p.v.n, .string q.p.v.s, sv, .int .i64 q.col, ov] 31)).alloc (.cells #[.slice A rows.length c, .int .i64 n, .bool has, .int .i64 v.ty, .int .i64 v.n, .string v.s] 37)) HX.out hhi0 hs hn hid HT.out)
    clear hs hid hhi0 HX G1 HT hlt
    go_enter Tryz.func13, Tryz.ntmps13
    go_wp2_with fail
    refine HC.out.mono ?_
    rintro e w3 ⟨rfl, hb3⟩
    have HB3 := Lib.hid (bgo0 HB0.out hb3)
    clear hb3
    go_wp2_with fail
    go_ret
    exact ⟨by rw [HE.out]; rfl, HB3.out⟩
  have d1 : (q.kind == 1) = false := by simp [hk1]
  clear hs hid hhi0 HX G1 hlt
  by_cases hk2 : q.kind = 2 ∨ q.kind = 3
  · have HE := Lib.hid (show resText q.kind rows n has v = numText n by rw [resText, if_neg hk1, if_pos hk2])
    have HC := Lib.hid (impl_NumText' n ((w.alloc (.cells #[.int .i64 q.kind, .int .i64 q.p.kind, .int .i64 q.p.col, .int .i64 q.p.op, .int .i64 q.p.v.ty, .int .i64 q.p.v.n, .string q.p.v.s, sv, .int .i64 q.col, ov] 31)).alloc (.cells #[.slice A rows.length c, .int .i64 n, .bool has, .int .i64 v.ty, .int .i64 v.n, .string v.s] 37)) h0.1 h0.2 HT.out)
    rcases hk2 with hk | hk
    all_goals
      first
        | (have d2 : (q.kind == 2) = true := by simp [hk])
        | (have d2 : (q.kind == 2) = false := by simp [hk])
      have d3 : (q.kind == 3) = (q.kind == 3) := rfl
      first
        | (have d4 : (q.kind == 3) = true := by simp [hk])
        | (have d4 : (q.kind == 3) = false := by simp [hk])
      clear hk hk1 HT d3
      go_enter Tryz.func13, Tryz.ntmps13
      go_wp2_with fail
      refine HC.out.mono ?_
      rintro e w3 ⟨rfl, hb3⟩
      have HB3 := Lib.hid (bgo0 HB0.out hb3)
      clear hb3
      go_wp2_with fail
      go_ret
      exact ⟨by rw [HE.out]; rfl, HB3.out⟩
  have d2 : (q.kind == 2) = false := by simp; omega
  have d3 : (q.kind == 3) = false := by simp; omega
  by_cases hk4 : q.kind = 4 ∨ q.kind = 5
  · have HE := Lib.hid (show resText q.kind rows n has v = (if has then valText v else ⟨#[110, 111, 110, 101]⟩) by rw [resText, if_neg hk1, if_neg hk2, if_pos hk4])
    have HC := Lib.hid (impl_ValText v ((w.alloc (.cells #[.int .i64 q.kind, .int .i64 q.p.kind, .int .i64 q.p.col, .int .i64 q.p.op, .int .i64 q.p.v.ty, .int .i64 q.p.v.n, .string q.p.v.s, sv, .int .i64 q.col, ov] 31)).alloc (.cells #[.slice A rows.length c, .int .i64 n, .bool has, .int .i64 v.ty, .int .i64 v.n, .string v.s] 37)) hvs HT.out)
    cases has
    all_goals
      rcases hk4 with hk | hk
      all_goals
        first
          | (have d4 : (q.kind == 4) = true := by simp [hk])
          | (have d4 : (q.kind == 4) = false := by simp [hk])
        first
          | (have d5 : (q.kind == 5) = true := by simp [hk])
          | (have d5 : (q.kind == 5) = false := by simp [hk])
        clear hk hk1 hk2 HT
        go_enter Tryz.func13, Tryz.ntmps13
        go_wp2_with fail
        first
          | (go_ret; exact ⟨by rw [HE.out]; rfl, HB0.out⟩)
          | (refine HC.out.mono ?_
             rintro e w3 ⟨rfl, hb3⟩
             have HB3 := Lib.hid (bgo0 HB0.out hb3)
             clear hb3
             go_wp2_with fail
             go_ret
             exact ⟨by rw [HE.out]; rfl, HB3.out⟩)
  have d4 : (q.kind == 4) = false := by simp; omega
  have d5 : (q.kind == 5) = false := by simp; omega
  have HE := Lib.hid (show resText q.kind rows n has v = ⟨#[]⟩ by rw [resText, if_neg hk1, if_neg hk2, if_neg hk4])
  clear hk1 hk2 hk4 HT
  go_enter Tryz.func13, Tryz.ntmps13
  go_wp2_with fail
  go_ret
  exact ⟨by rw [HE.out]; rfl, HB0.out⟩
end Go.Proofs.YtidmlfjolhnnfaaGreatDoor
namespace Go.Proofs.YtidmlfjolhnnfaaGreatDoor
open Go.RowKit Go.Lb
theorem pow_below {w w' : World} (h : Pow w) (hb : Below w.heap.size w w') : Pow w' := TabIs.below h hb
def IdsInOk (l : List R) : Prop := IdsIn l
def NOk (n : Int) : Prop := -9223372036854775808 ≤ n ∧ n ≤ 9223372036854775807
theorem spec_ResultText (q : Q) (sv ov : Value) (x : Res) (rv : Value) (w : World) {l1 h1 l2 h2 lo hi : Nat} (_hp : RdP w l1 h1 sv q.p.l) (_hh1 : h1 ≤ w.heap.size) (_ho : RdI w l2 h2 ov q.out) (_hh2 : h2 ≤ w.heap.size) (hx : RdR w lo hi rv x.rows) (hhi : hi ≤ w.heap.size)
    (_hq : POk q.p) (hs : RsOk x.rows) (hvs : x.v.s.size ≤ maxLen) (hid : IdsInOk x.rows) (h0 : NOk x.n) (hn : x.rows.length ≤ 1048576 ∧ lensR x.rows ≤ 1048576) (ht : Pow w) :
    Calls Tryz.prog 14 #[.agg #[.int .i64 q.kind, .int .i64 q.p.kind, .int .i64 q.p.col, .int .i64 q.p.op, .int .i64 q.p.v.ty, .int .i64 q.p.v.n, .string q.p.v.s, sv, .int .i64 q.col, ov], .agg #[rv, .int .i64 x.n, .bool x.has, .int .i64 x.v.ty, .int .i64 x.v.n, .string x.v.s]] w fun e w' => e = .returned (.string (resText q.kind x.rows x.n x.has x.v)) ∧ Below w.heap.size w w' :=
  spec_ResultText0 q sv ov x.rows x.n x.has x.v rv w hx hhi hs hvs hn hid h0 ht
theorem impl_ResultText (q : Q) (sv ov : Value) (x : Res) (rv : Value) (w : World) {l1 h1 l2 h2 lo hi : Nat} (_hp : RdP w l1 h1 sv q.p.l) (_hh1 : h1 ≤ w.heap.size) (_ho : RdI w l2 h2 ov q.out) (_hh2 : h2 ≤ w.heap.size) (hx : RdR w lo hi rv x.rows) (hhi : hi ≤ w.heap.size)
    (_hq : POk q.p) (hs : RsOk x.rows) (hvs : x.v.s.size ≤ maxLen) (hid : IdsInOk x.rows) (h0 : NOk x.n) (hn : x.rows.length ≤ 1048576 ∧ lensR x.rows ≤ 1048576) (ht : Pow w) :
    Calls Tryz.prog 13 #[.agg #[.int .i64 q.kind, .int .i64 q.p.kind, .int .i64 q.p.col, .int .i64 q.p.op, .int .i64 q.p.v.ty, .int .i64 q.p.v.n, .string q.p.v.s, sv, .int .i64 q.col, ov], .agg #[rv, .int .i64 x.n, .bool x.has, .int .i64 x.v.ty, .int .i64 x.v.n, .string x.v.s]] w fun e w' => e = .returned (.string (resText q.kind x.rows x.n x.has x.v)) ∧ Below w.heap.size w w' :=
  impl_ResultText0 q sv ov x.rows x.n x.has x.v rv w hx hhi hs hvs hn hid h0 ht
end Go.Proofs.YtidmlfjolhnnfaaGreatDoor
