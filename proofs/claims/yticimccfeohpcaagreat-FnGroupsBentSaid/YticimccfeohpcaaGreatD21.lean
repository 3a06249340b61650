/- Draws: bytes that are bent. -/
import Derived.Test.YticimccfeohpcaaGreatD16
import Derived.Test.YticimccfeohpcaaGreatXN
namespace Go.Lb
open Go.RowKit
theorem byte_of_int {z : Int} (h : ∃ n : Nat, z = (n : Int) ∧ n < 256) : ∃ c : UInt8, z = (c.toNat : Int) := by
  obtain ⟨n, rfl, hn⟩ := h
  exact ⟨UInt8.ofNat n, by rw [byte_of_nat hn]⟩
theorem wrap_u8_byte (z : Int) : ∃ c : UInt8, IntKind.u8.wrap z = (c.toNat : Int) := by
  refine byte_of_int ⟨(IntKind.u8.wrap z).toNat, ?_, ?_⟩
  · rw [IntKind.wrap_u8]; omega
  · rw [IntKind.wrap_u8]; omega
theorem bits_u8_byte (b : Go.BinOp) (x y : Int) (h : b = .xor) : ∃ c : UInt8, bits b .u8 x y = (c.toNat : Int) := by
  subst h
  exact wrap_u8_byte _
/-- The first m elements of a row of the call's own. -/
theorem owns_cut {w : World} {base e N m g c : Nat} {xs : List Value} (h : w.ownsRow base e 1 (.slice (some ⟨g, 0, none⟩) N c) N xs) (hm : m ≤ N) : w.ownsRow base e 1 (.slice (some ⟨g, 0, none⟩) m c) m (xs.take m) := by
  have hl := h.1
  refine ⟨by rw [List.length_take]; omega, ?_⟩
  rcases h.2 with ⟨e1, -⟩ | ⟨g', cap, cur, e1, hb, hg, hnc, hcm, hsz, htk⟩
  · cases e1
  · injection e1 with e1 e2 e3
    injection e1 with e1
    injection e1 with e1
    subst e1 e3
    refine .inr ⟨g, c, cur, rfl, hb, hg, by omega, hcm, hsz, ?_⟩
    rw [← htk, List.take_take]
    congr 1
    omega
end Go.Lb
namespace Go.Proofs.YticimccfeohpcaaGreat
open Go.Sort Go.ChangeShapes Go.WideShapes Go.ChangeAt Go.RowKit Go.Lb
theorem chg_own {w w1 : World} {g b o : Nat} {u : Value} (hc : Chg g (g + 1) w w1) (hb : w.heap.size ≤ b) : Chg g (g + 1) w (w1.setCell ⟨b, o, none⟩ u) :=
  ⟨hc.os, hc.tape, hc.output, by simpa [World.setCell] using hc.size, fun k hk hne => (Below.heap_setCell w1 ⟨b, o, none⟩ u k (by show k ≠ b; omega)).trans (hc.block k hk hne)⟩
theorem dr_own {w : World} {g b o : Nat} {u : Value} (hd : Dr w g) (hb : g < b) : Dr (w.setCell ⟨b, o, none⟩ u) g := by
  obtain ⟨code, A, c, i, h1, hx, hi, hc⟩ := hd
  refine ⟨code, A, c, i, h1, hx.same fun k _ hk => ?_, hi, ?_⟩
  · exact Below.heap_setCell w ⟨b, o, none⟩ u k (by show k ≠ b; omega)
  · exact (Below.heap_setCell w ⟨b, o, none⟩ u g (by show g ≠ b; omega)).trans hc
set_option maxRecDepth 20000 in
set_option maxHeartbeats 4000000 in
theorem spec_l1Bent (l : List UInt8) (x : Value) (w : World) (g : Nat) (hd : Dr w g) {lo hi : Nat} (hx : RdB w lo hi x l) (hhi : hi ≤ w.heap.size) (hn : l.length ≤ 100000) :
    Calls Tryz.prog 107 #[.pointer (some ⟨g, 0, none⟩), x] w (DrP w g fun v w' => ∃ l' : List UInt8, GoodB w.heap.size w' v l' ∧ l'.length ≤ l.length + 1) := by
  obtain ⟨A, c, rfl, hl, hl2⟩ := hx.form
  obtain ⟨i0, hif, hz0, hz1, hz2⟩ := info_parts info_u8
  replace hif := Lib.hid hif
  replace hz0 := Lib.hid hz0
  replace hz1 := Lib.hid hz1
  replace hz2 := Lib.hid hz2
  have hlt := hd.lt
  have hN := Lib.hid ((hx.below (up_a1 w (.cells #[] 5)) hhi).spread)
  have own0 := World.ownsRow_made w (base := w.heap.size) (e := 5) (size := 1) #[] 0 (Nat.le_refl _) (by decide) rfl
  have hd0 := dr_new hd #[] 5
  have hch0 := chg_new g w #[] 5
  go_enter Tryz.func107, Tryz.ntmps107
  go_wp2_with (at_builtin; refine wpl_spread rfl _ _ 34 rfl w.heap.size 5 i0 _ 1 1 Tryz.underlying34 hif.out hz0.out hz1.out hz2.out rfl (by decide) (by decide) own0 rfl rfl (bc_len l) hN.out.2.1 hN.out.2.2 (bc_one l) (by omega) (by simp) ?_)
  intro v' w1 hown hgrow _
  have hr0 : ∀ b, (Value.slice (some ⟨w.heap.size, 0, none⟩) 0 0).ownBlock = some b → w.heap.size ≤ b := fun b hb => (own0.lt b hb).1
  have hch1 := chg_grown hch0 hgrow hr0
  have hd1 := hd0.grown hgrow fun b hb => Nat.lt_of_lt_of_le hlt (hr0 b hb)
  try simp only [Nat.zero_add, List.nil_append] at hown
  obtain ⟨A1, c1, rfl, hc1l, hc1m, -⟩ := (Own.new hown).cells
  have Hown := Lib.hid hown
  clear hgrow own0 hown hr0 hch0 hd0 hd hN hx
  go_wp2_with fail
  refine (spec_l1Below 7 w1 g hd1 (by decide)).mono ?_
  rintro e w2 ⟨_, rfl, ⟨k, rfl, -, -⟩, hch2, hd2⟩
  replace Hown := Lib.hid (owns_chg Hown.out hch2 hlt)
  have hch2 := hch1.trans hch2
  clear hch1 hd1
  unfold maxLen at hc1m
  by_cases h0 : k = 0
  · subst h0
    by_cases hl0 : 0 < l.length
    · have hdl : decide (0 < (l.length : Int)) = true := decide_eq_true (by omega)
      go_wp2_with fail
      refine (spec_l1Below l.length w2 g hd2 (by omega)).mono ?_
      rintro e w3 ⟨_, rfl, ⟨i, rfl, hi1, -⟩, hch3, hd3⟩
      have hi : i < l.length := by have := hi1 (by omega); omega
      replace Hown := Lib.hid (owns_chg Hown.out hch3 hlt)
      have hch3 := hch2.trans hch3
      clear hch2 hd2 hi1
      go_wp2_with fail
      refine (spec_l1Below 256 w3 g hd3 (by decide)).mono ?_
      rintro e w4 ⟨_, rfl, ⟨z, rfl, hz1', -⟩, hch4, hd4⟩
      replace Hown := Lib.hid (owns_chg Hown.out hch4 hlt)
      have hch4 := hch3.trans hch4
      clear hch3 hd3 hz1'
      obtain ⟨b, cap, e1, hbl, hbh, hcap, hcap2, hcells, hfz⟩ := owns_form1 Hown.out hl0
      injection e1 with e1 e2 e3
      subst e1 e3
      obtain ⟨y, hy⟩ : ∃ y, l[i]? = some y := ⟨_, List.getElem?_eq_getElem hi⟩
      have c0 := hcells _ _ (bc_get hy)
      obtain ⟨cc, hcc⟩ := wrap_u8_byte (z : Int)
      have HO := Lib.hid (show (w4.setCell ⟨b, i, none⟩ (.int .u8 (cc.toNat : Int))).ownsRow w.heap.size 5 1 (.slice (some ⟨b, 0, none⟩) l.length c1) (l.set i cc).length (bc (l.set i cc)) by
        rw [← bc_set, List.length_set]
        exact owns_put1 Hown.out)
      have hchF := Lib.hid (chg_own (o := i) (u := .int .u8 (cc.toNat : Int)) hch4 hbl)
      have hdF := Lib.hid (dr_own (o := i) (u := .int .u8 (cc.toNat : Int)) hd4 (Nat.lt_of_lt_of_le hlt hbl))
      have hll : (l.set i cc).length = l.length := List.length_set
      have Hll := Lib.hid hll
      clear hcells hy hll hd4 hch4 Hown
      rw [show (Value.int IntKind.u8 (cc.toNat : Int)) = Value.int IntKind.u8 (IntKind.u8.wrap (z : Int)) by rw [hcc]] at *
      clear hcc
      go_wp2_with fail
      go_ret
      refine ⟨_, rfl, ⟨l.set i cc, ?_, by rw [Hll.out]; omega⟩, hchF.out, hdF.out⟩
      have h1 := Own.new HO.out
      rw [Hll.out] at h1
      exact Hll.out ▸ h1
    · have hdl : decide (0 < (l.length : Int)) = false := decide_eq_false (by omega)
      go_wp2_with fail
      go_ret
      exact ⟨_, rfl, ⟨l, .new Hown.out, by omega⟩, hch2, hd2⟩
  have b0 : ((k : Int) == 0) = false := by simp; omega
  by_cases h1 : k = 1
  · subst h1
    go_wp2_with fail
    refine (spec_l1Below ((l.length : Int) + 1) w2 g hd2 (by omega)).mono ?_
    rintro e w3 ⟨_, rfl, ⟨i, rfl, hi1, -⟩, hch3, hd3⟩
    have hi : i ≤ l.length := by have := hi1 (by omega); omega
    replace Hown := Lib.hid (owns_chg Hown.out hch3 hlt)
    have hch3 := hch2.trans hch3
    clear hch2 hd2 hi1
    have f0 : (0 : Int) ≤ (i : Int) := by omega
    have f1 : (i : Int) ≤ (c1 : Int) := by omega
    have f2 : (l.length : Int) ≤ (c1 : Int) := by omega
    rcases Hown.out.2 with ⟨e1, e2⟩ | ⟨b, cap, cur, e1, -⟩
    · injection e1 with e1 e2 e3
      obtain rfl : l = [] := List.eq_nil_of_length_eq_zero e2
      obtain rfl : i = 0 := by simpa using hi
      obtain rfl : c1 = 0 := e3
      subst e1
      go_wp2_with fail
      go_ret
      exact ⟨_, rfl, ⟨[], .new Hown.out, by simp⟩, hch3, hd3⟩
    · injection e1 with e1 e2 e3
      subst e1 e3
      have HO := Lib.hid (show w3.ownsRow w.heap.size 5 1 (.slice (some ⟨b, 0, none⟩) i c1) (l.take i).length (bc (l.take i)) by
        have h := owns_cut Hown.out hi
        rw [List.length_take, Nat.min_eq_left hi]
        simpa [bc, List.map_take] using h)
      have Hll := Lib.hid (show (l.take i).length = i by rw [List.length_take, Nat.min_eq_left hi])
      go_wp2_with fail
      go_ret
      exact ⟨_, rfl, ⟨l.take i, .new HO.out, by rw [Hll.out]; omega⟩, hch3, hd3⟩
  have b1 : ((k : Int) == 1) = false := by simp; omega
  by_cases h2 : k = 2
  · subst h2
    have hx := rdI_new w2 [0, 1, 128, 255] 3 (by decide)
    have hlt2 := hd2.lt
    have hd4 := dr_new hd2 (([0, 1, 128, 255] : List Int).map (Value.int .i64)).toArray 3
    have hc4 := hch2.trans (chg_new g w2 (([0, 1, 128, 255] : List Int).map (Value.int .i64)).toArray 3)
    go_wp2_with fail
    refine (spec_l1Int [0, 1, 128, 255] _ _ g hd4 (RdG.imp hx hlt2 (Nat.le_refl _) fun _ _ _ _ _ h => h) (by simp) (by decide) (by decide)).mono ?_
    rintro e w5 ⟨_, rfl, ⟨z, -, rfl⟩, hch5, hd5⟩
    have hc5 := (chg_new g w2 (([0, 1, 128, 255] : List Int).map (Value.int .i64)).toArray 3).trans hch5
    have hown5 := owns_chg Hown.out hc5 hlt
    have hch5 := hch2.trans hc5
    have hs5 := hch5.size
    obtain ⟨cc, hcc⟩ := wrap_u8_byte z
    clear hx hd4 hc4 hc5 hd2 hch2
    go_wp2_with (at_builtin; refine wpl_app rfl _ _ 34 rfl w.heap.size 5 i0 _ 1 1 Tryz.underlying34 hif.out hz0.out hz1.out hz2.out rfl (by decide) (by decide) (hown5.alloc _) rfl (heap_alloc_new _ _) rfl rfl (by simp [Value.oneCell']) (by omega) (by simp; omega) ?_)
    intro v' w6 hown' hgrow hnb
    obtain ⟨h1, h2, h3⟩ := app_goodG hlt hown5 hch5 hd5 hown' hgrow
    have H1 := Lib.hid (show w6.ownsRow w.heap.size 5 1 v' (l ++ [cc]).length (bc (l ++ [cc])) by
      rw [bc_app, List.length_append]
      simpa [bc, hcc] using h1)
    clear hown' hgrow hnb hown5 h1 hd5 hch5 hcc
    go_wp2_with fail
    go_ret
    exact ⟨_, rfl, ⟨l ++ [cc], .new H1.out, by simp⟩, h2, h3⟩
  have b2 : ((k : Int) == 2) = false := by simp; omega
  by_cases h3 : k = 3
  · subst h3
    by_cases hl0 : 0 < l.length
    · have hdl : decide (0 < (l.length : Int)) = true := decide_eq_true (by omega)
      go_wp2_with fail
      refine (spec_l1Below l.length w2 g hd2 (by omega)).mono ?_
      rintro e w3 ⟨_, rfl, ⟨i, rfl, hi1, -⟩, hch3, hd3⟩
      have hi : i < l.length := by have := hi1 (by omega); omega
      replace Hown := Lib.hid (owns_chg Hown.out hch3 hlt)
      have hch3 := hch2.trans hch3
      clear hch2 hd2 hi1
      have hs3 := hch3.size
      obtain ⟨b, cap, e1, hbl, hbh, hcap, hcap2, hcells, hfz⟩ := owns_form1 Hown.out hl0
      injection e1 with e1 e2 e3
      subst e1 e3
      obtain ⟨y, hy⟩ : ∃ y, l[i]? = some y := ⟨_, List.getElem?_eq_getElem hi⟩
      have c0 := hcells _ _ (bc_get hy)
      have f0 := hfz i
      have hgb : g < b := Nat.lt_of_lt_of_le hlt hbl
      have hlt3 := hd3.lt
      have i0 : (0 : Int) ≤ (i : Int) := by omega
      have i1 : (i : Int) < (l.length : Int) := by omega
      have HC := Lib.hid (fun (W : World) (h : Below w3.heap.size w3 W) => spec_l1Below 8 W g (hd3.below h) (by decide))
      have HD := Lib.hid (fun (W WU : World) (h : Below w3.heap.size w3 W) (hc : Chg g (g + 1) W WU) => (show WU.cell? ⟨b, i, none⟩ = some (.int .u8 (y.toNat : Int)) ∧ WU.frozen? ⟨b, i, none⟩ = false from by
        have e := (hc.block b (Nat.lt_of_lt_of_le hbh h.size) (.inr hgb)).trans (h.block b hbh)
        exact ⟨(World.cell?_of_block (a := ⟨b, i, none⟩) e).trans c0, (World.frozen?_of_block (a := ⟨b, i, none⟩) e).trans f0⟩))
      clear hcells hfz hy
      have hw0 : w3.drew.cell? ⟨b, i, none⟩ = some (.int .u8 (y.toNat : Int)) := c0
      go_upto_region 13 with fail
      go_region_with (first | (go_at_call 95; ((with_reducible refine (HC.out _ (Below.refl _ _).drew).mono ?_); rintro e wu ⟨_, rfl, ⟨z, rfl, hz, -⟩, hchu, hdu⟩; obtain ⟨cu, fu⟩ := HD.out _ _ (Below.refl _ _).drew hchu)))
      all_goals
        obtain ⟨cc, hcc⟩ := bits_u8_byte .xor (y.toNat : Int) (IntKind.u8.wrap (2 ^ z)) rfl
        have hze : IntKind.u8.wrap (1 * 2 ^ z) = IntKind.u8.wrap (2 ^ z) := by rw [Int.one_mul]
        try rw [hcc]
        have hchw := hch3.trans ((Chg.of_below (Below.refl _ _).drew).trans hchu)
        have HO := Lib.hid (show (wu.setCell ⟨b, i, none⟩ (.int .u8 (cc.toNat : Int))).ownsRow w.heap.size 5 1 (.slice (some ⟨b, 0, none⟩) l.length c1) (l.set i cc).length (bc (l.set i cc)) by
          rw [← bc_set, List.length_set]
          exact owns_put1 (owns_chg Hown.out ((Chg.of_below (Below.refl _ _).drew).trans hchu) hlt))
        have hchF := Lib.hid (chg_own (o := i) (u := .int .u8 (cc.toNat : Int)) hchw hbl)
        have hdF := Lib.hid (dr_own (o := i) (u := .int .u8 (cc.toNat : Int)) hdu hgb)
        have Hll := Lib.hid (show (l.set i cc).length = l.length from List.length_set)
        clear hcc
        go_wp2_with fail
        go_ret
        refine ⟨_, rfl, ⟨l.set i cc, ?_, by rw [Hll.out]; omega⟩, hchF.out, hdF.out⟩
        have h1 := Own.new HO.out
        rw [Hll.out] at h1
        exact Hll.out ▸ h1
    · have hdl : decide (0 < (l.length : Int)) = false := decide_eq_false (by omega)
      go_wp2_with fail
      go_ret
      exact ⟨_, rfl, ⟨l, .new Hown.out, by omega⟩, hch2, hd2⟩
  · have b3 : ((k : Int) == 3) = false := by simp; omega
    go_wp2_with fail
    go_ret
    exact ⟨_, rfl, ⟨l, .new Hown.out, by omega⟩, hch2, hd2⟩
end Go.Proofs.YticimccfeohpcaaGreat
