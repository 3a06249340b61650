/- Numbers as text: contracts. -/
import Derived.Test.YtmnmnofjeoanjaaDoorSh
import Derived.Test.YtmnmnofjeoanjaaDoorXA
import Derived.Lib.ItoaNum
import Derived.Lib.AppendIntMem
namespace Go.Lb
open Go.RowKit
theorem convB {P : Program} {src dst e : TypeId} (hs : P.underlying src = some (.slice e)) (he : P.underlying e = some (.int .u8)) (hd : P.underlying dst = some .string) {w : World} {b : Nat} {c : UInt8} (h : w.cell? ⟨b, 0, none⟩ = some (.int .u8 (c.toNat : Int))) :
    (convert src dst (.slice (some ⟨b, 0, none⟩) 1 1)).run P w = .ok (.string ⟨#[c]⟩) w := by
  rw [run_convert_bytes_string w src dst e _ _ _ hs he hd]
  have hld := run_loadCells_list (P := P) (w := w) ⟨b, 0, none⟩ [.int .u8 (c.toNat : Int)] (fun j v hv => by
    have hj : j = 0 := by
      have := (List.getElem?_eq_some_iff.1 hv).1
      simp at this
      omega
    subst hj
    simp only [List.getElem?_cons_zero, Option.some.injEq] at hv
    subst hv
    exact h)
  rw [show ([Value.int .u8 (c.toNat : Int)] : List Value).length = 1 from rfl] at hld
  rw [run_bytesToString (P := P) w ⟨b, 0, none⟩ 1 1 [(c.toNat : Int)] hld]
  simp
  rfl
theorem tdiv_facts (x : Int) : (0 ≤ x ∧ x.tdiv 10 = ((x.natAbs / 10 : Nat) : Int) ∧ x.tmod 10 = ((x.natAbs % 10 : Nat) : Int)) ∨ (x < 0 ∧ x.tdiv 10 = -((x.natAbs / 10 : Nat) : Int) ∧ x.tmod 10 = -((x.natAbs % 10 : Nat) : Int)) := by
  rcases (show x < 0 ∨ 0 ≤ x by omega) with h | h
  · right
    obtain ⟨n, hn⟩ : ∃ n : Nat, x = -(n : Int) := ⟨x.natAbs, by omega⟩
    subst hn
    refine ⟨h, ?_, ?_⟩
    · rw [Int.neg_tdiv, Int.natAbs_neg, Int.natAbs_natCast]; rfl
    · rw [Int.neg_tmod, Int.natAbs_neg, Int.natAbs_natCast]; rfl
  · left
    obtain ⟨n, rfl⟩ := Int.eq_ofNat_of_zero_le h
    exact ⟨h, by rw [Int.natAbs_natCast]; rfl, by rw [Int.natAbs_natCast]; rfl⟩
theorem ba_cons (t : ByteArray) : (⟨([45] ++ t.data.toList).toArray⟩ : ByteArray) = ⟨#[45]⟩ ++ t := by
  apply ByteArray.ext
  simp
theorem div_pow_bound {N k : Nat} (h : 0 < N / 10 ^ k) (hN : N ≤ 9223372036854775808) : k ≤ 19 := by
  rcases Nat.lt_or_ge k 20 with h1 | h1
  · omega
  · have h2 := Nat.pow_le_pow_right (n := 10) (by decide) h1
    have h3 : N < 10 ^ k := by
      have : (10 : Nat) ^ 20 = 100000000000000000000 := by decide
      omega
    rw [Nat.div_eq_of_lt h3] at h
    omega
def numText (n : Int) : ByteArray := ⟨(Lib.itoa n).toArray⟩
/-- The decimal digits, none for nought. -/
def dd (u : Nat) : List UInt8 := if u = 0 then [] else Lib.decDigits u
theorem dd_step {u : Nat} (h : 0 < u) : dd u = dd (u / 10) ++ [UInt8.ofNat (48 + u % 10)] := by
  unfold dd
  rw [if_neg (by omega)]
  by_cases h1 : u < 10
  · rw [Lib.decDigits_one h1, if_pos (by omega), Nat.mod_eq_of_lt h1]; rfl
  · rw [if_neg (by omega), Lib.decDigits, dif_neg h1]
theorem TabIs.below {P : Program} {w w' : World} {name : String} {k : IntKind} {zs : List Int} (h : Lib.TabIs P w name k zs) (hb : Below w.heap.size w w') : Lib.TabIs P w' name k zs := by
  unfold Lib.TabIs at h ⊢
  unfold World.var? at h ⊢
  cases hg : P.globalNamed name with
  | none => rw [hg] at h; cases h
  | some g =>
    rw [hg] at h
    simp only [Option.bind_some] at h ⊢
    have hl : g < w.heap.size := by
      rcases Nat.lt_or_ge g w.heap.size with h1 | h1
      · exact h1
      · rw [Array.getElem?_eq_none h1] at h; cases h
    rw [hb.block g hl]
    exact h
end Go.Lb
namespace Go.Proofs.YtmnmnofjeoanjaaDoor
open Go.Sort Go.ChangeShapes Go.WideShapes Go.ChangeAt Go.RowKit Go.Lb
def Pow (w : World) : Prop := Lib.TabIs Tryd.prog w "internal/strconv.uint64pow10" .u64 Lib.pow10Tab
theorem impl_NumText (n : Int) (w : World) (h0 : -9223372036854775808 ≤ n) (h1 : n ≤ 9223372036854775807) (ht : Pow w) :
    Calls Tryd.prog 38 #[.int .i64 n] w fun e w' => e = .returned (.string (numText n)) ∧ Below w.heap.size w w' := by
  have HC := Lib.hid (Tryd.strconv_Itoa n h0 h1 w ht)
  go_enter Tryd.func38, Tryd.ntmps38
  go_wp2_with fail
  refine HC.out.mono ?_
  rintro e w' ⟨rfl, k, os, rfl⟩
  go_wp2_with fail
  go_ret
  exact ⟨rfl, Lib.below_grow _ w (Nat.le_refl _) k os⟩
set_option maxRecDepth 20000 in
set_option maxHeartbeats 4000000 in
theorem spec_NumText (n : Int) (w : World) (h0 : -9223372036854775808 ≤ n) (h1 : n ≤ 9223372036854775807) :
    Calls Tryd.prog 37 #[.int .i64 n] w fun e w' => e = .returned (.string (numText n)) ∧ Below w.heap.size w w' := by
  by_cases hn : n = 0
  · subst hn
    go_enter Tryd.func37, Tryd.ntmps37
    go_wp2_with fail
    go_ret
    refine ⟨?_, Below.refl _ _⟩
    rw [numText, Lib.itoa, if_neg (by decide), Int.toNat_zero, Lib.decDigits_one (by decide)]
    rfl
  · have b0 : (n == 0) = false := by simp [hn]
    have HD := Lib.hid (show numText n = ⟨((if n < 0 then [45] else []) ++ dd n.natAbs).toArray⟩ by
      unfold numText Lib.itoa dd
      rw [if_neg (show ¬ n.natAbs = 0 by omega)]
      split
      · rfl
      · rw [show n.toNat = n.natAbs by omega]; rfl)
    go_enter Tryd.func37, Tryd.ntmps37
    go_wp2_with fail
    go_loopw [3, 4] (fun s i wr => ∃ (k u : Nat) (x : Int) (t : ByteArray), Hid (i = .int .i64 x ∧ s = .string t ∧ x.natAbs = u ∧ (x < 0 → n < 0) ∧ (0 < x → 0 < n) ∧ -9223372036854775808 ≤ x ∧ x ≤ 9223372036854775807 ∧ u = n.natAbs / 10 ^ k ∧ k ≤ 20 ∧ t.size = k ∧ dd n.natAbs = dd u ++ t.data.toList ∧ Below w.heap.size w wr)) (fun _ i _ => (intOf i).natAbs)
    case atStart => exact ⟨0, n.natAbs, n, ⟨#[]⟩, Lib.hid ⟨rfl, rfl, rfl, fun h => h, fun h => h, h0, h1, by simp, by omega, rfl, by simp, Below.refl _ _⟩⟩
    case round =>
      obtain ⟨k, u, x, t, hrel⟩ := hrel
      obtain ⟨rfl, rfl, hxu, hneg, hpos, hx0, hx1, hu, hk20, htk, hdd, hb⟩ := hrel.out
      have Hdd := Lib.hid hdd
      have Hu := Lib.hid hu
      have Hxu := Lib.hid hxu
      have Hsg := Lib.hid (And.intro hneg hpos)
      have hts : t.size ≤ 20 := by omega
      have Htk := Lib.hid htk
      have hbs := hb.size
      clear hrel hdd hu htk hneg hpos
      by_cases hx : x = 0
      · subst hx
        have hu0 : u = 0 := by rw [← hxu]; rfl
        have Hfin := Lib.hid (show dd n.natAbs = t.data.toList by rw [Hdd.out, hu0]; rfl)
        clear hxu hu0 Hdd Hu Hxu Hsg Htk
        by_cases hng : n < 0
        · have dn : decide (n < 0) = true := decide_eq_true hng
          go_wp2_with fail
          go_ret
          refine ⟨?_, hb⟩
          rw [HD.out, if_pos hng, Hfin.out, ba_cons]
          rfl
        · have dn : decide (n < 0) = false := decide_eq_false hng
          go_wp2_with fail
          go_ret
          refine ⟨?_, hb⟩
          rw [HD.out, if_neg (by omega), Hfin.out]
          simp
      · have bx : (x == 0) = false := by simp [hx]
        have bx' : (x != 0) = true := by simp [hx]
        have hup : 0 < u := by omega
        have hk19 : k ≤ 19 := div_pow_bound (N := n.natAbs) (by rw [← Hu.out]; exact hup) (by omega)
        obtain ⟨d, hd⟩ : ∃ d, u % 10 = d := ⟨_, rfl⟩
        have hd10 : d < 10 := by omega
        obtain ⟨x', hx'⟩ : ∃ x', x.tdiv 10 = x' := ⟨_, rfl⟩
        have htf := tdiv_facts x
        rw [hx', hxu] at htf
        have hxd : x'.natAbs = u / 10 := by omega
        have hxs : (x' < 0 → x < 0) ∧ (0 < x' → 0 < x) := by omega
        have hxw : IntKind.i64.wrap x' = x' := IntWalk.i64_in _ ⟨by omega, by omega⟩
        have hsp : (x < 0 ∧ 0 < d ∧ x.tmod 10 = -(d : Int)) ∨ x.tmod 10 = (d : Int) := by
          rcases Nat.eq_zero_or_pos d with h | h
          · right; omega
          · by_cases h2 : x < 0
            · left; exact ⟨h2, h, by omega⟩
            · right; omega
        have Hxd := Lib.hid (And.intro hxd (And.intro hxs hd))
        obtain ⟨c8, hc8⟩ : ∃ c8, UInt8.ofNat (48 + d) = c8 := ⟨_, rfl⟩
        have hcw : ((UInt8.ofNat (48 + d)).toNat : Int) = 48 + (d : Int) := by
          rw [UInt8.toNat_ofNat', Nat.mod_eq_of_lt (by omega)]
          omega
        rw [hc8] at hcw
        have hcv := convB (w := wr.alloc (.cells #[.int .u8 (48 + (d : Int))] 5)) (b := wr.heap.size) (c := c8) Tryd.underlying57 Tryd.underlying5 Tryd.underlying9 (by rw [hcw]; exact cell_of_row _ _ 0 _ _ _ (heap_alloc_new _ _))
        have Hnx := Lib.hid (show dd n.natAbs = dd (u / 10) ++ (⟨#[c8]⟩ ++ t : ByteArray).data.toList by
          rw [Hdd.out, dd_step hup, hd, hc8]
          simp)
        clear hcw hxu hxd hxs hd htf hc8
        rcases hsp with ⟨hxn, hdp, hmod⟩ | hmod
        · have dl : decide (-(d : Int) < 0) = true := decide_eq_true (by omega)
          go_wp2_with fail
          go_roundw
          case rel => exact ⟨k + 1, u / 10, x', _, Lib.hid ⟨rfl, rfl, Hxd.out.1, fun h => Hsg.out.1 (Hxd.out.2.1.1 h), fun h => Hsg.out.2 (Hxd.out.2.1.2 h), by have := Hxd.out.1; have := Hxu.out; omega, by have := Hxd.out.1; have := Hxu.out; omega, by rw [Hu.out, Nat.pow_succ, Nat.div_div_eq_div_mul], by omega, by rw [ByteArray.size_append]; have := Htk.out; show 1 + t.size = k + 1; omega, Hnx.out, hb.trans ((up_a1 wr _).mono hbs)⟩⟩
          case measure => have := Hxd.out.1; have := Hxu.out; simp [intOf]; omega
        · have dl : decide ((d : Int) < 0) = false := decide_eq_false (by omega)
          go_wp2_with fail
          go_roundw
          case rel => exact ⟨k + 1, u / 10, x', _, Lib.hid ⟨rfl, rfl, Hxd.out.1, fun h => Hsg.out.1 (Hxd.out.2.1.1 h), fun h => Hsg.out.2 (Hxd.out.2.1.2 h), by have := Hxd.out.1; have := Hxu.out; omega, by have := Hxd.out.1; have := Hxu.out; omega, by rw [Hu.out, Nat.pow_succ, Nat.div_div_eq_div_mul], by omega, by rw [ByteArray.size_append]; have := Htk.out; show 1 + t.size = k + 1; omega, Hnx.out, hb.trans ((up_a1 wr _).mono hbs)⟩⟩
          case measure => have := Hxd.out.1; have := Hxu.out; simp [intOf]; omega
theorem spec_NumText' (n : Int) (w : World) (h0 : -9223372036854775808 ≤ n) (h1 : n ≤ 9223372036854775807) (_ht : Pow w) :
    Calls Tryd.prog 37 #[.int .i64 n] w fun e w' => e = .returned (.string (numText n)) ∧ Below w.heap.size w w' := spec_NumText n w h0 h1
theorem impl_NumText' (n : Int) (w : World) (h0 : -9223372036854775808 ≤ n) (h1 : n ≤ 9223372036854775807) (ht : Pow w) :
    Calls Tryd.prog 38 #[.int .i64 n] w fun e w' => e = .returned (.string (numText n)) ∧ Below w.heap.size w w' := impl_NumText n w h0 h1 ht
end Go.Proofs.YtmnmnofjeoanjaaDoor
