/- Numbers as text: contracts. -/
import Derived.Test.YtjogkbkkcaljhaaGreatDoorSh
import Derived.Test.YtjogkbkkcaljhaaGreatDoorXA
import Derived.Lib.ItoaNum
import Derived.Lib.AppendIntMem
import Derived.Test.YtjogkbkkcaljhaaGreatDoorXV
import Derived.Lib.ItoaLen
import Derived.Lib.Join
import Derived.Test.YtjogkbkkcaljhaaGreatDoorXL
import Derived.Test.YtjogkbkkcaljhaaGreatDoorMemP
namespace Go.Lb
open Go.RowKit
theorem convB {P : Program} {src dst e : TypeId} (hs : P.underlying src = some (.slice e)) (he : P.underlying e = some (.int .u8)) (hd : P.underlying dst = some .string) {w : World} {b : Nat} {c : UInt8} (h : w.cell? ⟨b, 0, none⟩ = some (.int .u8 (c.toNat : Int))) :
    (convert src dst (.slice (some ⟨b, 0, none⟩) 1 1)).run P w = .ok (.string ⟨#[c]⟩) w := by
  rw [run_convert_bytes_string w src dst e _ _ _ hs he hd]
  have hld := run_loadCells_list (P := P) (w := w) ⟨b, 0, none⟩ [.int .u8 (c.toNat : Int)] (fun j v hv => by
    have hj : j = 0 := by
      have := (List.getElem?_eq_some_iff.1 hv).1
      simp at this
      omega
    subst hj
    simp only [List.getElem?_cons_zero, Option.some.injEq] at hv
    subst hv
    exact h)
  rw [show ([Value.int .u8 (c.toNat : Int)] : List Value).length = 1 from rfl] at hld
  rw [run_bytesToString (P := P) w ⟨b, 0, none⟩ 1 1 [(c.toNat : Int)] hld]
  simp
  rfl
theorem tdiv_facts (x : Int) : (0 ≤ x ∧ x.tdiv 10 = ((x.natAbs / 10 : Nat) : Int) ∧ x.tmod 10 = ((x.natAbs % 10 : Nat) : Int)) ∨ (x < 0 ∧ x.tdiv 10 = -((x.natAbs / 10 : Nat) : Int) ∧ x.tmod 10 = -((x.natAbs % 10 : Nat) : Int)) := by
  rcases (show x < 0 ∨ 0 ≤ x by omega) with h | h
  · right
    obtain ⟨n, hn⟩ : ∃ n : Nat, x = -(n : Int) := ⟨x.natAbs, by omega⟩
    subst hn
    refine ⟨h, ?_, ?_⟩
    · rw [Int.neg_tdiv, Int.natAbs_neg, Int.natAbs_natCast]; rfl
    · rw [Int.neg_tmod, Int.natAbs_neg, Int.natAbs_natCast]; rfl
  · left
    obtain ⟨n, rfl⟩ := Int.eq_ofNat_of_zero_le h
    exact ⟨h, by rw [Int.natAbs_natCast]; rfl, by rw [Int.natAbs_natCast]; rfl⟩
theorem ba_cons (t : ByteArray) : (⟨([45] ++ t.data.toList).toArray⟩ : ByteArray) = ⟨#[45]⟩ ++ t := by
  apply ByteArray.ext
  simp
theorem div_pow_bound {N k : Nat} (h : 0 < N / 10 ^ k) (hN : N ≤ 9223372036854775808) : k ≤ 19 := by
  rcases Nat.lt_or_ge k 20 with h1 | h1
  · omega
  · have h2 := Nat.pow_le_pow_right (n := 10) (by decide) h1
    have h3 : N < 10 ^ k := by
      have : (10 : Nat) ^ 20 = 100000000000000000000 := by decide
      omega
    rw [Nat.div_eq_of_lt h3] at h
    omega
def numText (n : Int) : ByteArray := ⟨(Lib.itoa n).toArray⟩
/-- The decimal digits, none for nought. -/
def dd (u : Nat) : List UInt8 := if u = 0 then [] else Lib.decDigits u
theorem dd_step {u : Nat} (h : 0 < u) : dd u = dd (u / 10) ++ [UInt8.ofNat (48 + u % 10)] := by
  unfold dd
  rw [if_neg (by omega)]
  by_cases h1 : u < 10
  · rw [Lib.decDigits_one h1, if_pos (by omega), Nat.mod_eq_of_lt h1]; rfl
  · rw [if_neg (by omega), Lib.decDigits, dif_neg h1]
theorem TabIs.below {P : Program} {w w' : World} {name : String} {k : IntKind} {zs : List Int} (h : Lib.TabIs P w name k zs) (hb : Below w.heap.size w w') : Lib.TabIs P w' name k zs := by
  unfold Lib.TabIs at h ⊢
  unfold World.var? at h ⊢
  cases hg : P.globalNamed name with
  | none => rw [hg] at h; cases h
  | some g =>
    rw [hg] at h
    simp only [Option.bind_some] at h ⊢
    have hl : g < w.heap.size := by
      rcases Nat.lt_or_ge g w.heap.size with h1 | h1
      · exact h1
      · rw [Array.getElem?_eq_none h1] at h; cases h
    rw [hb.block g hl]
    exact h
end Go.Lb
namespace Go.Proofs.YtjogkbkkcaljhaaGreatDoor
open Go.Sort Go.ChangeShapes Go.WideShapes Go.ChangeAt Go.RowKit Go.Lb
def Pow (w : World) : Prop := Lib.TabIs Tryz.prog w "internal/strconv.uint64pow10" .u64 Lib.pow10Tab
theorem impl_NumText (n : Int) (w : World) (h0 : -9223372036854775808 ≤ n) (h1 : n ≤ 9223372036854775807) (ht : Pow w) :
    Calls Tryz.prog 32 #[.int .i64 n] w fun e w' => e = .returned (.string (numText n)) ∧ Below w.heap.size w w' := by
  have HC := Lib.hid (Tryz.strconv_Itoa n h0 h1 w ht)
  go_enter Tryz.func32, Tryz.ntmps32
  go_wp2_with fail
  refine HC.out.mono ?_
  rintro e w' ⟨rfl, k, os, rfl⟩
  go_wp2_with fail
  go_ret
  exact ⟨rfl, Lib.below_grow _ w (Nat.le_refl _) k os⟩
set_option maxRecDepth 20000 in
set_option maxHeartbeats 4000000 in
theorem spec_NumText (n : Int) (w : World) (h0 : -9223372036854775808 ≤ n) (h1 : n ≤ 9223372036854775807) :
    Calls Tryz.prog 40 #[.int .i64 n] w fun e w' => e = .returned (.string (numText n)) ∧ Below w.heap.size w w' := by
  by_cases hn : n = 0
  · subst hn
    go_enter Tryz.func40, Tryz.ntmps40
    go_wp2_with fail
    go_ret
    refine ⟨?_, Below.refl _ _⟩
    rw [numText, Lib.itoa, if_neg (by decide), Int.toNat_zero, Lib.decDigits_one (by decide)]
    rfl
  · have b0 : (n == 0) = false := by simp [hn]
    have HD := Lib.hid (show numText n = ⟨((if n < 0 then [45] else []) ++ dd n.natAbs).toArray⟩ by
      unfold numText Lib.itoa dd
      rw [if_neg (show ¬ n.natAbs = 0 by omega)]
      split
      · rfl
      · rw [show n.toNat = n.natAbs by omega]; rfl)
    go_enter Tryz.func40, Tryz.ntmps40
    go_wp2_with fail
    go_loopw [3, 4] (fun s i wr => ∃ (k u : Nat) (x : Int) (t : ByteArray), Hid (i = .int .i64 x ∧ s = .string t ∧ x.natAbs = u ∧ (x < 0 → n < 0) ∧ (0 < x → 0 < n) ∧ -9223372036854775808 ≤ x ∧ x ≤ 9223372036854775807 ∧ u = n.natAbs / 10 ^ k ∧ k ≤ 20 ∧ t.size = k ∧ dd n.natAbs = dd u ++ t.data.toList ∧ Below w.heap.size w wr)) (fun _ i _ => (intOf i).natAbs)
    case atStart => exact ⟨0, n.natAbs, n, ⟨#[]⟩, Lib.hid ⟨rfl, rfl, rfl, fun h => h, fun h => h, h0, h1, by simp, by omega, rfl, by simp, Below.refl _ _⟩⟩
    case round =>
      obtain ⟨k, u, x, t, hrel⟩ := hrel
      obtain ⟨rfl, rfl, hxu, hneg, hpos, hx0, hx1, hu, hk20, htk, hdd, hb⟩ := hrel.out
      have Hdd := Lib.hid hdd
      have Hu := Lib.hid hu
      have Hxu := Lib.hid hxu
      have Hsg := Lib.hid (And.intro hneg hpos)
      have hts : t.size ≤ 20 := by omega
      have Htk := Lib.hid htk
      have hbs := hb.size
      clear hrel hdd hu htk hneg hpos
      by_cases hx : x = 0
      · subst hx
        have hu0 : u = 0 := by rw [← hxu]; rfl
        have Hfin := Lib.hid (show dd n.natAbs = t.data.toList by rw [Hdd.out, hu0]; rfl)
        clear hxu hu0 Hdd Hu Hxu Hsg Htk
        by_cases hng : n < 0
        · have dn : decide (n < 0) = true := decide_eq_true hng
          go_wp2_with fail
          go_ret
          refine ⟨?_, hb⟩
          rw [HD.out, if_pos hng, Hfin.out, ba_cons]
          rfl
        · have dn : decide (n < 0) = false := decide_eq_false hng
          go_wp2_with fail
          go_ret
          refine ⟨?_, hb⟩
          rw [HD.out, if_neg (by omega), Hfin.out]
          simp
      · have bx : (x == 0) = false := by simp [hx]
        have bx' : (x != 0) = true := by simp [hx]
        have hup : 0 < u := by omega
        have hk19 : k ≤ 19 := div_pow_bound (N := n.natAbs) (by rw [← Hu.out]; exact hup) (by omega)
        obtain ⟨d, hd⟩ : ∃ d, u % 10 = d := ⟨_, rfl⟩
        have hd10 : d < 10 := by omega
        obtain ⟨x', hx'⟩ : ∃ x', x.tdiv 10 = x' := ⟨_, rfl⟩
        have htf := tdiv_facts x
        rw [hx', hxu] at htf
        have hxd : x'.natAbs = u / 10 := by omega
        have hxs : (x' < 0 → x < 0) ∧ (0 < x' → 0 < x) := by omega
        have hxw : IntKind.i64.wrap x' = x' := IntWalk.i64_in _ ⟨by omega, by omega⟩
        have hsp : (x < 0 ∧ 0 < d ∧ x.tmod 10 = -(d : Int)) ∨ x.tmod 10 = (d : Int) := by
          rcases Nat.eq_zero_or_pos d with h | h
          · right; omega
          · by_cases h2 : x < 0
            · left; exact ⟨h2, h, by omega⟩
            · right; omega
        have Hxd := Lib.hid (And.intro hxd (And.intro hxs hd))
        obtain ⟨c8, hc8⟩ : ∃ c8, UInt8.ofNat (48 + d) = c8 := ⟨_, rfl⟩
        have hcw : ((UInt8.ofNat (48 + d)).toNat : Int) = 48 + (d : Int) := by
          rw [UInt8.toNat_ofNat', Nat.mod_eq_of_lt (by omega)]
          omega
        rw [hc8] at hcw
        have hcv := convB (w := wr.alloc (.cells #[.int .u8 (48 + (d : Int))] 5)) (b := wr.heap.size) (c := c8) Tryz.underlying36 Tryz.underlying5 Tryz.underlying9 (by rw [hcw]; exact cell_of_row _ _ 0 _ _ _ (heap_alloc_new _ _))
        have Hnx := Lib.hid (show dd n.natAbs = dd (u / 10) ++ (⟨#[c8]⟩ ++ t : ByteArray).data.toList by
          rw [Hdd.out, dd_step hup, hd, hc8]
          simp)
        clear hcw hxu hxd hxs hd htf hc8
        rcases hsp with ⟨hxn, hdp, hmod⟩ | hmod
        · have dl : decide (-(d : Int) < 0) = true := decide_eq_true (by omega)
          go_wp2_with fail
          go_roundw
          case rel => exact ⟨k + 1, u / 10, x', _, Lib.hid ⟨rfl, rfl, Hxd.out.1, fun h => Hsg.out.1 (Hxd.out.2.1.1 h), fun h => Hsg.out.2 (Hxd.out.2.1.2 h), by have := Hxd.out.1; have := Hxu.out; omega, by have := Hxd.out.1; have := Hxu.out; omega, by rw [Hu.out, Nat.pow_succ, Nat.div_div_eq_div_mul], by omega, by rw [ByteArray.size_append]; have := Htk.out; show 1 + t.size = k + 1; omega, Hnx.out, hb.trans ((up_a1 wr _).mono hbs)⟩⟩
          case measure => have := Hxd.out.1; have := Hxu.out; simp [intOf]; omega
        · have dl : decide ((d : Int) < 0) = false := decide_eq_false (by omega)
          go_wp2_with fail
          go_roundw
          case rel => exact ⟨k + 1, u / 10, x', _, Lib.hid ⟨rfl, rfl, Hxd.out.1, fun h => Hsg.out.1 (Hxd.out.2.1.1 h), fun h => Hsg.out.2 (Hxd.out.2.1.2 h), by have := Hxd.out.1; have := Hxu.out; omega, by have := Hxd.out.1; have := Hxu.out; omega, by rw [Hu.out, Nat.pow_succ, Nat.div_div_eq_div_mul], by omega, by rw [ByteArray.size_append]; have := Htk.out; show 1 + t.size = k + 1; omega, Hnx.out, hb.trans ((up_a1 wr _).mono hbs)⟩⟩
          case measure => have := Hxd.out.1; have := Hxu.out; simp [intOf]; omega
theorem spec_NumText' (n : Int) (w : World) (h0 : -9223372036854775808 ≤ n) (h1 : n ≤ 9223372036854775807) (_ht : Pow w) :
    Calls Tryz.prog 40 #[.int .i64 n] w fun e w' => e = .returned (.string (numText n)) ∧ Below w.heap.size w w' := spec_NumText n w h0 h1
theorem impl_NumText' (n : Int) (w : World) (h0 : -9223372036854775808 ≤ n) (h1 : n ≤ 9223372036854775807) (ht : Pow w) :
    Calls Tryz.prog 32 #[.int .i64 n] w fun e w' => e = .returned (.string (numText n)) ∧ Below w.heap.size w w' := impl_NumText n w h0 h1 ht
end Go.Proofs.YtjogkbkkcaljhaaGreatDoor
namespace Go.Proofs.YtjogkbkkcaljhaaGreatDoor
open Go.Sort Go.ChangeShapes Go.WideShapes Go.ChangeAt Go.RowKit Go.Lb
theorem info_str : (Tryz.prog.info? 9).map (fun i => (i.zero, i.size, i.bytes)) = some (some (.string ⟨#[]⟩), 1, 16) := by kernel_rfl
theorem bgo0 {w W0 w2 : World} (h : Below w.heap.size w W0) (hb : Below W0.heap.size W0 w2) : Below w.heap.size w w2 := h.trans (hb.mono h.size)
theorem owns_formT {w : World} {base e s N : Nat} {v : Value} {xs : List Value} (h : w.ownsRow base e s v N xs) (hN : 0 < N) : ∃ g cap, v = .slice (some ⟨g, 0, none⟩) N cap ∧ base ≤ g ∧ g < w.heap.size ∧ N ≤ cap ∧ ∀ j u, xs[j]? = some u → w.cell? ⟨g, j, none⟩ = some u := by
  rcases h.2 with ⟨e1, e2⟩ | ⟨g, cap, cur, rfl, hb, hg, hnc, hcm, hsz, htk⟩
  · omega
  · refine ⟨g, cap, rfl, hb, (Array.getElem?_eq_some_iff.1 hg).1, hnc, fun j u hj => ?_⟩
    rw [cell_of_row w g _ cur _ _ hg, ← Array.getElem?_toList]
    rw [← htk, List.getElem?_take] at hj
    split at hj
    · exact hj
    · cases hj
theorem owns_one (w : World) {base : Nat} (e : TypeId) (x : Value) (hb : base ≤ w.heap.size) : (w.alloc (.cells #[x] e)).ownsRow base e 1 (.slice (some ⟨w.heap.size, 0, none⟩) 1 1) 1 [x] :=
  ⟨rfl, .inr ⟨w.heap.size, 1, #[x], rfl, hb, heap_alloc_new w _, Nat.le_refl _, by decide, rfl, by simp⟩⟩
theorem numText_len {n : Int} (h0 : -9223372036854775808 ≤ n) (h1 : n ≤ 9223372036854775807) : (numText n).size ≤ 21 := by
  have h := Lib.itoa_length_le n h0 h1
  show (Lib.itoa n).toArray.size ≤ 21
  simpa using h
def valText (v : V) : ByteArray := if valOk v then (if v.ty = 1 then numText v.n else ⟨#[39]⟩ ++ v.s) else ⟨#[]⟩
theorem valText_no {v : V} (h : valOk v = false) : valText v = ⟨#[]⟩ := by rw [valText, h]; rfl
theorem valText_1 {v : V} (h : valOk v = true) (h1 : v.ty = 1) : valText v = numText v.n := by rw [valText, if_pos h, if_pos h1]
theorem valText_2 {v : V} (h : valOk v = true) (h1 : ¬ v.ty = 1) : valText v = ⟨#[39]⟩ ++ v.s := by rw [valText, if_pos h, if_neg h1]
theorem txt_len6 {v : V} (h : valOk v = true) (ht : ¬ v.ty = 1) : v.s.size ≤ 6 := by
  unfold valOk at h
  rw [if_neg ht] at h
  split at h
  · simp only [Bool.and_eq_true, decide_eq_true_eq] at h
    exact h.2.1
  · cases h
theorem num_in {v : V} (h : valOk v = true) (h1 : v.ty = 1) : -1000000000 ≤ v.n ∧ v.n ≤ 1000000000 := by
  unfold valOk at h
  rw [if_pos h1, Bool.and_eq_true] at h
  exact inR_yes h.1
theorem valText_len (v : V) : (valText v).size ≤ 21 := by
  cases h : valOk v
  · rw [valText_no h]; exact Nat.zero_le _
  · by_cases h1 : v.ty = 1
    · rw [valText_1 h h1]
      have := num_in h h1
      exact numText_len (by omega) (by omega)
    · rw [valText_2 h h1, ByteArray.size_append]
      have := txt_len6 h h1
      show 1 + v.s.size ≤ 21
      omega
/-- The text of a row up to its k-th value. -/
def rowPart (r : R) (k : Nat) : ByteArray := ⟨(35 :: ((numText r.id).data.toList ++ Lib.joinTail [32] ((r.l.take k).map fun v => (valText v).data.toList))).toArray⟩
def rowText (r : R) : ByteArray := rowPart r r.l.length
theorem rowPart_zero (r : R) : rowPart r 0 = ⟨#[35]⟩ ++ numText r.id := by
  apply ByteArray.ext
  simp [rowPart, Lib.joinTail]
theorem rowPart_step {r : R} {k : Nat} {y : V} (h : r.l[k]? = some y) : rowPart r (k + 1) = (rowPart r k ++ ⟨#[32]⟩) ++ valText y := by
  apply ByteArray.ext
  simp [rowPart, Lib.joinTail, take_of_get h]
theorem rowPart_len (r : R) (h0 : -9223372036854775808 ≤ r.id ∧ r.id ≤ 9223372036854775807) : ∀ k, k ≤ r.l.length → (rowPart r k).size ≤ 22 + 22 * k
  | 0, _ => by
    have := numText_len h0.1 h0.2
    rw [rowPart_zero, ByteArray.size_append]
    show 1 + (numText r.id).size ≤ _
    omega
  | k + 1, h => by
    have ih := rowPart_len r h0 k (by omega)
    have hv := valText_len (r.l[k]'(by omega))
    rw [rowPart_step (y := r.l[k]'(by omega)) (List.getElem?_eq_getElem (by omega)), ByteArray.size_append, ByteArray.size_append]
    show _ + 1 + _ ≤ _
    omega
def rowWords (r : R) : List ByteArray := (⟨#[35]⟩ ++ numText r.id) :: r.l.map valText
theorem row_join (r : R) : (⟨(Lib.join ((rowWords r).map (·.data.toList)) [32]).toArray⟩ : ByteArray) = rowText r := by
  apply ByteArray.ext
  simp [rowText, rowPart, rowWords, Lib.join_cons, Lib.joinTail, Function.comp_def]
set_option maxHeartbeats 1000000 in
set_option maxRecDepth 20000 in
theorem spec_ValText (v : V) (w : World) (hs : v.s.size ≤ maxLen) (ht : Pow w) :
    Calls Tryz.prog 42 #[.agg #[.int .i64 v.ty, .int .i64 v.n, .string v.s]] w fun e w' => e = .returned (.string (valText v)) ∧ Below w.heap.size w w' := by
  have hb0 := up_a1 w (.cells #[.int .i64 v.ty, .int .i64 v.n, .string v.s] 24)
  have g0 := heap_alloc_new w (.cells #[.int .i64 v.ty, .int .i64 v.n, .string v.s] 24)
  have hV := spec_ValOk v (w.alloc (.cells #[.int .i64 v.ty, .int .i64 v.n, .string v.s] 24)) hs
  have HT := Lib.hid (TabIs.below ht hb0)
  have hlt : w.heap.size < (w.alloc (.cells #[.int .i64 v.ty, .int .i64 v.n, .string v.s] 24)).heap.size := by simp
  clear ht
  cases hv : valOk v
  · rw [hv] at hV
    have HV := Lib.hid hV
    have HE := Lib.hid (valText_no hv)
    have HB0 := Lib.hid hb0
    clear hV hv g0 hlt hb0
    go_enter Tryz.func42, Tryz.ntmps42
    go_wp2_with fail
    refine HV.out.mono ?_
    rintro e w2 ⟨rfl, hb2⟩
    have HB2 := Lib.hid (bgo0 HB0.out hb2)
    clear hb2
    go_wp2_with fail
    go_ret
    exact ⟨by rw [HE.out]; rfl, HB2.out⟩
  · rw [hv] at hV
    have HV := Lib.hid hV
    have G0 := Lib.hid g0
    have HB0 := Lib.hid hb0
    by_cases h1 : v.ty = 1
    · have hd : (v.ty == 1) = true := by simp [h1]
      have HE := Lib.hid (valText_1 hv h1)
      obtain ⟨n0, n1⟩ := num_in hv h1
      clear hV hv g0 hb0 h1
      go_enter Tryz.func42, Tryz.ntmps42
      go_wp2_with fail
      refine HV.out.mono ?_
      rintro e w2 ⟨rfl, hb2⟩
      have hc := (hb2.block w.heap.size hlt).trans G0.out
      have c0 := cell_of_row w2 _ 0 _ _ _ hc
      have c1 := cell_of_row w2 _ 1 _ _ _ hc
      simp only [List.getElem?_toArray, List.getElem?_cons_zero, List.getElem?_cons_succ] at c0 c1
      have HN := Lib.hid (spec_NumText' v.n w2 (by omega) (by omega) (TabIs.below HT.out hb2))
      have HB2 := Lib.hid (bgo0 HB0.out hb2)
      clear hb2 hc
      go_wp2_with fail
      refine HN.out.mono ?_
      rintro e w3 ⟨rfl, hb3⟩
      have HB3 := Lib.hid (bgo0 HB2.out hb3)
      clear hb3
      go_wp2_with fail
      go_ret
      exact ⟨by rw [HE.out]; rfl, HB3.out⟩
    · have hd : (v.ty == 1) = false := by simp [h1]
      have HE := Lib.hid (valText_2 hv h1)
      have hl6 := txt_len6 hv h1
      clear hV hv g0 hb0 h1
      go_enter Tryz.func42, Tryz.ntmps42
      go_wp2_with fail
      refine HV.out.mono ?_
      rintro e w2 ⟨rfl, hb2⟩
      have hc := (hb2.block w.heap.size hlt).trans G0.out
      have c0 := cell_of_row w2 _ 0 _ _ _ hc
      have c2 := cell_of_row w2 _ 2 _ _ _ hc
      simp only [List.getElem?_toArray, List.getElem?_cons_zero, List.getElem?_cons_succ] at c0 c2
      have HB2 := Lib.hid (bgo0 HB0.out hb2)
      clear hb2 hc
      go_wp2_with fail
      go_ret
      exact ⟨by rw [HE.out]; rfl, HB2.out⟩
set_option maxHeartbeats 1000000 in
set_option maxRecDepth 20000 in
theorem impl_ValText (v : V) (w : World) (hs : v.s.size ≤ maxLen) (ht : Pow w) :
    Calls Tryz.prog 34 #[.agg #[.int .i64 v.ty, .int .i64 v.n, .string v.s]] w fun e w' => e = .returned (.string (valText v)) ∧ Below w.heap.size w w' := by
  have hb0 := up_a1 w (.cells #[.int .i64 v.ty, .int .i64 v.n, .string v.s] 24)
  have g0 := heap_alloc_new w (.cells #[.int .i64 v.ty, .int .i64 v.n, .string v.s] 24)
  have hV := impl_ValOk v (w.alloc (.cells #[.int .i64 v.ty, .int .i64 v.n, .string v.s] 24)) hs
  have HT := Lib.hid (TabIs.below ht hb0)
  have hlt : w.heap.size < (w.alloc (.cells #[.int .i64 v.ty, .int .i64 v.n, .string v.s] 24)).heap.size := by simp
  clear ht
  cases hv : valOk v
  · rw [hv] at hV
    have HV := Lib.hid hV
    have HE := Lib.hid (valText_no hv)
    have HB0 := Lib.hid hb0
    clear hV hv g0 hlt hb0
    go_enter Tryz.func34, Tryz.ntmps34
    go_wp2_with fail
    refine HV.out.mono ?_
    rintro e w2 ⟨rfl, hb2⟩
    have HB2 := Lib.hid (bgo0 HB0.out hb2)
    clear hb2
    go_wp2_with fail
    go_ret
    exact ⟨by rw [HE.out]; rfl, HB2.out⟩
  · rw [hv] at hV
    have HV := Lib.hid hV
    have G0 := Lib.hid g0
    have HB0 := Lib.hid hb0
    by_cases h1 : v.ty = 1
    · have hd : (v.ty == 1) = true := by simp [h1]
      have HE := Lib.hid (valText_1 hv h1)
      obtain ⟨n0, n1⟩ := num_in hv h1
      clear hV hv g0 hb0 h1
      go_enter Tryz.func34, Tryz.ntmps34
      go_wp2_with fail
      refine HV.out.mono ?_
      rintro e w2 ⟨rfl, hb2⟩
      have hc := (hb2.block w.heap.size hlt).trans G0.out
      have c0 := cell_of_row w2 _ 0 _ _ _ hc
      have c1 := cell_of_row w2 _ 1 _ _ _ hc
      simp only [List.getElem?_toArray, List.getElem?_cons_zero, List.getElem?_cons_succ] at c0 c1
      have HN := Lib.hid (impl_NumText' v.n w2 (by omega) (by omega) (TabIs.below HT.out hb2))
      have HB2 := Lib.hid (bgo0 HB0.out hb2)
      clear hb2 hc
      go_wp2_with fail
      refine HN.out.mono ?_
      rintro e w3 ⟨rfl, hb3⟩
      have HB3 := Lib.hid (bgo0 HB2.out hb3)
      clear hb3
      go_wp2_with fail
      go_ret
      exact ⟨by rw [HE.out]; rfl, HB3.out⟩
    · have hd : (v.ty == 1) = false := by simp [h1]
      have HE := Lib.hid (valText_2 hv h1)
      have hl6 := txt_len6 hv h1
      clear hV hv g0 hb0 h1
      go_enter Tryz.func34, Tryz.ntmps34
      go_wp2_with fail
      refine HV.out.mono ?_
      rintro e w2 ⟨rfl, hb2⟩
      have hc := (hb2.block w.heap.size hlt).trans G0.out
      have c0 := cell_of_row w2 _ 0 _ _ _ hc
      have c2 := cell_of_row w2 _ 2 _ _ _ hc
      simp only [List.getElem?_toArray, List.getElem?_cons_zero, List.getElem?_cons_succ] at c0 c2
      have HB2 := Lib.hid (bgo0 HB0.out hb2)
      clear hb2 hc
      go_wp2_with fail
      go_ret
      exact ⟨by rw [HE.out]; rfl, HB2.out⟩
end Go.Proofs.YtjogkbkkcaljhaaGreatDoor
namespace Go.Proofs.YtjogkbkkcaljhaaGreatDoor
open Go.Sort Go.ChangeShapes Go.WideShapes Go.ChangeAt Go.RowKit Go.Lb
/-- The rows' ids are numbers of 64 bits. -/
def IdsIn (l : List R) : Prop := ∀ r ∈ l, -9223372036854775808 ≤ r.id ∧ r.id ≤ 9223372036854775807
theorem lensR_app (a b : List R) : lensR (a ++ b) = lensR a + lensR b := by simp [lensR]
theorem lensR_step {l : List R} {k : Nat} {y : R} (h : l[k]? = some y) : lensR (l.take (k + 1)) = lensR (l.take k) + y.l.length := by
  rw [take_of_get h, lensR_app]
  simp [lensR]
theorem lensR_take (l : List R) (k : Nat) : lensR (l.take k) ≤ lensR l := by
  have h := lensR_app (l.take k) (l.drop k)
  rw [List.take_append_drop] at h
  omega
theorem join_nil (sep : List UInt8) : Lib.join [] sep = [] := by simp [Lib.join, List.intercalate]
theorem join_snoc (xs : List (List UInt8)) (y sep : List UInt8) (h : xs ≠ []) : Lib.join (xs ++ [y]) sep = Lib.join xs sep ++ sep ++ y := by
  cases xs with
  | nil => exact absurd rfl h
  | cons x r => simp [Lib.join_cons, Lib.joinTail]
def rowsPart (l : List R) (k : Nat) : ByteArray := ⟨(Lib.join (((l.take k).map rowText).map (·.data.toList)) [59, 32]).toArray⟩
def rowsText (l : List R) : ByteArray := if l = [] then ⟨#[45]⟩ else rowsPart l l.length
theorem rowsPart_zero (l : List R) : rowsPart l 0 = ⟨#[]⟩ := by
  apply ByteArray.ext
  simp [rowsPart, join_nil]
theorem rowsPart_one {l : List R} {y : R} (h : l[0]? = some y) : rowsPart l 1 = rowsPart l 0 ++ rowText y := by
  apply ByteArray.ext
  rw [rowsPart_zero]
  simp [rowsPart, take_of_get h, Lib.join_one]
theorem rowsPart_step {l : List R} {k : Nat} {y : R} (h : l[k]? = some y) (hk : 0 < k) : rowsPart l (k + 1) = (rowsPart l k ++ ⟨#[59, 32]⟩) ++ rowText y := by
  have hkl := (List.getElem?_eq_some_iff.1 h).1
  have hne : ((l.take k).map rowText).map (·.data.toList) ≠ [] := by
    intro e
    have := congrArg List.length e
    simp at this
    rcases this with h1 | h1
    · omega
    · rw [h1] at hkl
      simp at hkl
  apply ByteArray.ext
  simp only [rowsPart, take_of_get h, List.map_append, List.map_cons, List.map_nil]
  rw [join_snoc _ _ _ hne]
  simp
theorem rowsPart_len (l : List R) (hi : IdsIn l) : ∀ k, k ≤ l.length → (rowsPart l k).size ≤ 24 * k + 22 * lensR (l.take k)
  | 0, _ => by rw [rowsPart_zero]; exact Nat.zero_le _
  | k + 1, h => by
    have ih := rowsPart_len l hi k (by omega)
    have hg : l[k]? = some (l[k]'(by omega)) := List.getElem?_eq_getElem (by omega)
    have hv : (rowText (l[k]'(by omega))).size ≤ _ := rowPart_len (l[k]'(by omega)) (hi _ (mem_of_get hg)) _ (Nat.le_refl _)
    rw [lensR_step hg]
    by_cases h0 : k = 0
    · subst h0
      rw [rowsPart_one hg, ByteArray.size_append, rowsPart_zero]
      show 0 + _ ≤ _
      omega
    · rw [rowsPart_step hg (by omega), ByteArray.size_append, ByteArray.size_append]
      show _ + 2 + _ ≤ _
      omega
theorem rowsText_none {l : List R} (h : l.length = 0) : rowsText l = ⟨#[45]⟩ := by rw [rowsText, if_pos (List.length_eq_zero_iff.1 h)]
theorem rowsText_some {l : List R} (h : ¬ l.length = 0) : rowsText l = rowsPart l l.length := by rw [rowsText, if_neg fun e => h (by rw [e]; rfl)]
def resText (kind : Int) (rows : List R) (n : Int) (has : Bool) (v : V) : ByteArray :=
  if kind = 1 then rowsText rows else if kind = 2 ∨ kind = 3 then numText n else if kind = 4 ∨ kind = 5 then (if has then valText v else ⟨#[110, 111, 110, 101]⟩) else ⟨#[]⟩
end Go.Proofs.YtjogkbkkcaljhaaGreatDoor
namespace Go.Proofs.YtjogkbkkcaljhaaGreatDoor
open Go.RowKit Go.Lb
theorem pow_below {w w' : World} (h : Pow w) (hb : Below w.heap.size w w') : Pow w' := TabIs.below h hb
def IdsInOk (l : List R) : Prop := IdsIn l
def NOk (n : Int) : Prop := -9223372036854775808 ≤ n ∧ n ≤ 9223372036854775807
end Go.Proofs.YtjogkbkkcaljhaaGreatDoor
