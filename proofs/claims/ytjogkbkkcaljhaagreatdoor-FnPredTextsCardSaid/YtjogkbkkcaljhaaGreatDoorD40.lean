/- Draws: texts of predicates, right or bent. Conditions as for numbers. -/
import Derived.Test.YtjogkbkkcaljhaaGreatDoorD32i
import Derived.Test.YtjogkbkkcaljhaaGreatDoorXD
import Derived.Lib.AtoiErrMem
namespace Go.Lb
theorem bytes_fz {w : World} {e : TypeId} {t : ByteArray} {j : Nat} (hj : j < t.size) : (Lib.bytesWorld w e t).frozen? ⟨w.heap.size, j, none⟩ = false := by
  have h1 : t.size ≤ (Lib.bytesCells w e t).size := by
    have h2 : t.data.size = t.size := rfl
    simp [Lib.bytesCells]
  simp only [World.frozen?, Lib.bytesWorld_at_new]
  simp
  omega
theorem ba_back (t : ByteArray) : (⟨t.data.toList.toArray⟩ : ByteArray) = t := by simp
theorem bytes_get {w : World} {b : Nat} {t : ByteArray} (h : ∀ j, j < t.size → w.cell? ⟨b, j, none⟩ = some (.int .u8 (t.data.toList.getD j 0).toNat)) : ∀ j x, t.data.toList[j]? = some x → w.cell? ⟨b, 0 + j, none⟩ = some (.int .u8 (x.toNat : Int)) := by
  intro j x hx
  have hl := (List.getElem?_eq_some_iff.1 hx).1
  have hl : j < t.size := by simpa using hl
  rw [Nat.zero_add, h j hl]
  simp [List.getD, hx]
theorem bytes_put {w : World} {b : Nat} {t : ByteArray} {k : Nat} {u : UInt8} (hk : k < t.size) (h : ∀ j, j < t.size → w.cell? ⟨b, j, none⟩ = some (.int .u8 (t.data.toList.getD j 0).toNat)) : ∀ j x, (t.data.toList.set k u)[j]? = some x → (w.setCell ⟨b, k, none⟩ (.int .u8 (u.toNat : Int))).cell? ⟨b, 0 + j, none⟩ = some (.int .u8 (x.toNat : Int)) := by
  intro j x hx
  have hl0 := (List.getElem?_eq_some_iff.1 hx).1
  have hl : j < t.size := by simpa using hl0
  clear hl0
  rw [Nat.zero_add]
  by_cases hjk : j = k
  · subst hjk
    rw [World.cell?_setCell_same _ _ _ (h j hl)]
    have hl2 : j < t.data.toList.length := by simpa using hl
    rw [List.getElem?_set_self hl2] at hx
    injection hx with hx
    rw [hx]
  · rw [World.cell?_setCell_other w _ _ _ (fun e => hjk (by injection e with e1 e2; exact e2.symm)), h j hl]
    rw [List.getElem?_set_ne (fun e => hjk e.symm)] at hx
    simp [List.getD, hx]
theorem strs_small : ∀ n ∈ ([(⟨#[]⟩ : ByteArray), (⟨#[97, 108, 108]⟩ : ByteArray), (⟨#[99, 48, 61, 49]⟩ : ByteArray), (⟨#[99, 48, 60, 61, 39, 97]⟩ : ByteArray), (⟨#[99, 57, 61, 49]⟩ : ByteArray), (⟨#[99, 48, 61, 61, 49]⟩ : ByteArray), (⟨#[97, 110, 100, 40, 41]⟩ : ByteArray), (⟨#[97, 110, 100, 40, 97, 108, 108, 41]⟩ : ByteArray), (⟨#[97, 110, 100, 40, 97, 108, 108, 44, 99, 48, 61, 49, 41]⟩ : ByteArray), (⟨#[111, 114, 40, 97, 108, 108, 44, 41]⟩ : ByteArray), (⟨#[110, 111, 116, 40, 97, 108, 108, 44, 97, 108, 108, 41]⟩ : ByteArray), (⟨#[99, 48, 61, 39, 97, 44, 98]⟩ : ByteArray), (⟨#[97, 110, 100, 40, 99, 48, 61, 39, 97, 44, 99, 48, 61, 49, 44, 97, 108, 108, 41]⟩ : ByteArray), (⟨#[110, 111, 116, 40, 99, 48, 61, 39, 41, 41]⟩ : ByteArray), (⟨#[99, 48, 61]⟩ : ByteArray), (⟨#[99, 61, 49]⟩ : ByteArray), (⟨#[99, 48, 61, 48, 49]⟩ : ByteArray)] : List ByteArray), n.size ≤ 1048576 := by decide
theorem nums_u8 {n : Int} (h : n ∈ ([40, 41, 44, 61, 99, 48] : List Int)) : ∃ u : UInt8, n = (u.toNat : Int) ∧ IntKind.u8.wrap (u.toNat : Int) = (u.toNat : Int) := by
  simp only [List.mem_cons, List.not_mem_nil, or_false] at h
  rcases h with rfl | rfl | rfl | rfl | rfl | rfl
  · exact ⟨40, rfl, by decide⟩
  · exact ⟨41, rfl, by decide⟩
  · exact ⟨44, rfl, by decide⟩
  · exact ⟨61, rfl, by decide⟩
  · exact ⟨99, rfl, by decide⟩
  · exact ⟨48, rfl, by decide⟩
end Go.Lb
namespace Go.Proofs.YtjogkbkkcaljhaaGreatDoor
open Go.Sort Go.ChangeShapes Go.WideShapes Go.ChangeAt Go.RowKit Go.Lb
set_option maxRecDepth 20000 in
set_option maxHeartbeats 8000000 in
theorem spec_l11Str (cols : List Int) (x : Value) (w : World) (g : Nat) (hd : Dr w g) {hi : Nat} (hx : RdI w (g + 1) hi x cols) (hhi : hi ≤ w.heap.size) (hok : colsOk cols = true) (hP : Hid (∀ w', Chg g (g + 1) w w' → Pow w')) :
    Calls Tryz.prog 37 #[.pointer (some ⟨g, 0, none⟩), x] w (DrP w g fun v _ => ∃ s : ByteArray, v = .string s ∧ s.size ≤ 1048576) := by
  have hlt := hd.lt
  obtain ⟨A, c, rfl, hcl, hcl2⟩ := hx.form
  have Hok := Lib.hid hok
  clear hok
  go_enter Tryz.func37, Tryz.ntmps37
  go_wp2_with fail
  refine (spec_l1Once 4 w g hd (by decide)).mono ?_
  rintro e w2 ⟨_, rfl, ⟨b2, rfl⟩, hch, hd2⟩
  have hx2 := hx.same (.of_chg hch (.inr (Nat.le_refl _)) hhi)
  have hhi2 := Nat.le_trans hhi hch.size
  have hs2 := hch.size
  have hlt2 := hd2.lt
  clear hd hx hhi
  cases b2
  case true =>
    have hx9 : RdT (w2.alloc (.cells #[.string ⟨#[]⟩, .string ⟨#[97, 108, 108]⟩, .string ⟨#[99, 48, 61, 49]⟩, .string ⟨#[99, 48, 60, 61, 39, 97]⟩, .string ⟨#[99, 57, 61, 49]⟩, .string ⟨#[99, 48, 61, 61, 49]⟩, .string ⟨#[97, 110, 100, 40, 41]⟩, .string ⟨#[97, 110, 100, 40, 97, 108, 108, 41]⟩, .string ⟨#[97, 110, 100, 40, 97, 108, 108, 44, 99, 48, 61, 49, 41]⟩, .string ⟨#[111, 114, 40, 97, 108, 108, 44, 41]⟩, .string ⟨#[110, 111, 116, 40, 97, 108, 108, 44, 97, 108, 108, 41]⟩, .string ⟨#[99, 48, 61, 39, 97, 44, 98]⟩, .string ⟨#[97, 110, 100, 40, 99, 48, 61, 39, 97, 44, 99, 48, 61, 49, 44, 97, 108, 108, 41]⟩, .string ⟨#[110, 111, 116, 40, 99, 48, 61, 39, 41, 41]⟩, .string ⟨#[99, 48, 61]⟩, .string ⟨#[99, 61, 49]⟩, .string ⟨#[99, 48, 61, 48, 49]⟩] 9)) w2.heap.size (w2.heap.size + 1) (.slice (some ⟨w2.heap.size, 0, none⟩) 17 17) [(⟨#[]⟩ : ByteArray), (⟨#[97, 108, 108]⟩ : ByteArray), (⟨#[99, 48, 61, 49]⟩ : ByteArray), (⟨#[99, 48, 60, 61, 39, 97]⟩ : ByteArray), (⟨#[99, 57, 61, 49]⟩ : ByteArray), (⟨#[99, 48, 61, 61, 49]⟩ : ByteArray), (⟨#[97, 110, 100, 40, 41]⟩ : ByteArray), (⟨#[97, 110, 100, 40, 97, 108, 108, 41]⟩ : ByteArray), (⟨#[97, 110, 100, 40, 97, 108, 108, 44, 99, 48, 61, 49, 41]⟩ : ByteArray), (⟨#[111, 114, 40, 97, 108, 108, 44, 41]⟩ : ByteArray), (⟨#[110, 111, 116, 40, 97, 108, 108, 44, 97, 108, 108, 41]⟩ : ByteArray), (⟨#[99, 48, 61, 39, 97, 44, 98]⟩ : ByteArray), (⟨#[97, 110, 100, 40, 99, 48, 61, 39, 97, 44, 99, 48, 61, 49, 44, 97, 108, 108, 41]⟩ : ByteArray), (⟨#[110, 111, 116, 40, 99, 48, 61, 39, 41, 41]⟩ : ByteArray), (⟨#[99, 48, 61]⟩ : ByteArray), (⟨#[99, 61, 49]⟩ : ByteArray), (⟨#[99, 48, 61, 48, 49]⟩ : ByteArray)] := rdT_new w2 [(⟨#[]⟩ : ByteArray), (⟨#[97, 108, 108]⟩ : ByteArray), (⟨#[99, 48, 61, 49]⟩ : ByteArray), (⟨#[99, 48, 60, 61, 39, 97]⟩ : ByteArray), (⟨#[99, 57, 61, 49]⟩ : ByteArray), (⟨#[99, 48, 61, 61, 49]⟩ : ByteArray), (⟨#[97, 110, 100, 40, 41]⟩ : ByteArray), (⟨#[97, 110, 100, 40, 97, 108, 108, 41]⟩ : ByteArray), (⟨#[97, 110, 100, 40, 97, 108, 108, 44, 99, 48, 61, 49, 41]⟩ : ByteArray), (⟨#[111, 114, 40, 97, 108, 108, 44, 41]⟩ : ByteArray), (⟨#[110, 111, 116, 40, 97, 108, 108, 44, 97, 108, 108, 41]⟩ : ByteArray), (⟨#[99, 48, 61, 39, 97, 44, 98]⟩ : ByteArray), (⟨#[97, 110, 100, 40, 99, 48, 61, 39, 97, 44, 99, 48, 61, 49, 44, 97, 108, 108, 41]⟩ : ByteArray), (⟨#[110, 111, 116, 40, 99, 48, 61, 39, 41, 41]⟩ : ByteArray), (⟨#[99, 48, 61]⟩ : ByteArray), (⟨#[99, 61, 49]⟩ : ByteArray), (⟨#[99, 48, 61, 48, 49]⟩ : ByteArray)] 9 (by decide)
    have hd3 := dr_new hd2 #[.string ⟨#[]⟩, .string ⟨#[97, 108, 108]⟩, .string ⟨#[99, 48, 61, 49]⟩, .string ⟨#[99, 48, 60, 61, 39, 97]⟩, .string ⟨#[99, 57, 61, 49]⟩, .string ⟨#[99, 48, 61, 61, 49]⟩, .string ⟨#[97, 110, 100, 40, 41]⟩, .string ⟨#[97, 110, 100, 40, 97, 108, 108, 41]⟩, .string ⟨#[97, 110, 100, 40, 97, 108, 108, 44, 99, 48, 61, 49, 41]⟩, .string ⟨#[111, 114, 40, 97, 108, 108, 44, 41]⟩, .string ⟨#[110, 111, 116, 40, 97, 108, 108, 44, 97, 108, 108, 41]⟩, .string ⟨#[99, 48, 61, 39, 97, 44, 98]⟩, .string ⟨#[97, 110, 100, 40, 99, 48, 61, 39, 97, 44, 99, 48, 61, 49, 44, 97, 108, 108, 41]⟩, .string ⟨#[110, 111, 116, 40, 99, 48, 61, 39, 41, 41]⟩, .string ⟨#[99, 48, 61]⟩, .string ⟨#[99, 61, 49]⟩, .string ⟨#[99, 48, 61, 48, 49]⟩] 9
    have hch3 := hch.trans (chg_new g w2 #[.string ⟨#[]⟩, .string ⟨#[97, 108, 108]⟩, .string ⟨#[99, 48, 61, 49]⟩, .string ⟨#[99, 48, 60, 61, 39, 97]⟩, .string ⟨#[99, 57, 61, 49]⟩, .string ⟨#[99, 48, 61, 61, 49]⟩, .string ⟨#[97, 110, 100, 40, 41]⟩, .string ⟨#[97, 110, 100, 40, 97, 108, 108, 41]⟩, .string ⟨#[97, 110, 100, 40, 97, 108, 108, 44, 99, 48, 61, 49, 41]⟩, .string ⟨#[111, 114, 40, 97, 108, 108, 44, 41]⟩, .string ⟨#[110, 111, 116, 40, 97, 108, 108, 44, 97, 108, 108, 41]⟩, .string ⟨#[99, 48, 61, 39, 97, 44, 98]⟩, .string ⟨#[97, 110, 100, 40, 99, 48, 61, 39, 97, 44, 99, 48, 61, 49, 44, 97, 108, 108, 41]⟩, .string ⟨#[110, 111, 116, 40, 99, 48, 61, 39, 41, 41]⟩, .string ⟨#[99, 48, 61]⟩, .string ⟨#[99, 61, 49]⟩, .string ⟨#[99, 48, 61, 48, 49]⟩] 9)
    clear hx2 hhi2 hd2
    go_wp2_with fail
    refine (spec_l1Str [(⟨#[]⟩ : ByteArray), (⟨#[97, 108, 108]⟩ : ByteArray), (⟨#[99, 48, 61, 49]⟩ : ByteArray), (⟨#[99, 48, 60, 61, 39, 97]⟩ : ByteArray), (⟨#[99, 57, 61, 49]⟩ : ByteArray), (⟨#[99, 48, 61, 61, 49]⟩ : ByteArray), (⟨#[97, 110, 100, 40, 41]⟩ : ByteArray), (⟨#[97, 110, 100, 40, 97, 108, 108, 41]⟩ : ByteArray), (⟨#[97, 110, 100, 40, 97, 108, 108, 44, 99, 48, 61, 49, 41]⟩ : ByteArray), (⟨#[111, 114, 40, 97, 108, 108, 44, 41]⟩ : ByteArray), (⟨#[110, 111, 116, 40, 97, 108, 108, 44, 97, 108, 108, 41]⟩ : ByteArray), (⟨#[99, 48, 61, 39, 97, 44, 98]⟩ : ByteArray), (⟨#[97, 110, 100, 40, 99, 48, 61, 39, 97, 44, 99, 48, 61, 49, 44, 97, 108, 108, 41]⟩ : ByteArray), (⟨#[110, 111, 116, 40, 99, 48, 61, 39, 41, 41]⟩ : ByteArray), (⟨#[99, 48, 61]⟩ : ByteArray), (⟨#[99, 61, 49]⟩ : ByteArray), (⟨#[99, 48, 61, 48, 49]⟩ : ByteArray)] _ (w2.alloc (.cells #[.string ⟨#[]⟩, .string ⟨#[97, 108, 108]⟩, .string ⟨#[99, 48, 61, 49]⟩, .string ⟨#[99, 48, 60, 61, 39, 97]⟩, .string ⟨#[99, 57, 61, 49]⟩, .string ⟨#[99, 48, 61, 61, 49]⟩, .string ⟨#[97, 110, 100, 40, 41]⟩, .string ⟨#[97, 110, 100, 40, 97, 108, 108, 41]⟩, .string ⟨#[97, 110, 100, 40, 97, 108, 108, 44, 99, 48, 61, 49, 41]⟩, .string ⟨#[111, 114, 40, 97, 108, 108, 44, 41]⟩, .string ⟨#[110, 111, 116, 40, 97, 108, 108, 44, 97, 108, 108, 41]⟩, .string ⟨#[99, 48, 61, 39, 97, 44, 98]⟩, .string ⟨#[97, 110, 100, 40, 99, 48, 61, 39, 97, 44, 99, 48, 61, 49, 44, 97, 108, 108, 41]⟩, .string ⟨#[110, 111, 116, 40, 99, 48, 61, 39, 41, 41]⟩, .string ⟨#[99, 48, 61]⟩, .string ⟨#[99, 61, 49]⟩, .string ⟨#[99, 48, 61, 48, 49]⟩] 9)) g hd3 (RdG.imp hx9 hlt2 (Nat.le_refl _) fun _ _ _ _ _ h => h) (by simp) (by decide) (by decide)).mono ?_
    rintro e w4 ⟨_, rfl, ⟨s, hs, rfl⟩, hch4, hd4⟩
    have Hz := Lib.hid (strs_small _ hs)
    clear hs hx9
    go_wp2_with fail
    go_ret
    exact ⟨_, rfl, ⟨s, rfl, Hz.out⟩, hch3.trans hch4, hd4⟩
  case false =>
    go_wp2_with fail
    refine (spec_l1Below 3 w2 g hd2 (by decide)).mono ?_
    rintro e w3 ⟨_, rfl, ⟨k, rfl, hk1, -⟩, hch3, hd3⟩
    have hk : k < 3 := by have := hk1 (by decide); omega
    have hx3 := hx2.same (.of_chg hch3 (.inr (Nat.le_refl _)) hhi2)
    have hhi3 := Nat.le_trans hhi2 hch3.size
    replace hch := hch.trans hch3
    clear hx2 hhi2 hd2 hch3 hk1
    go_wp2_with fail
    refine (spec_l11Draw cols Hok.out k (by omega) (k : Int) _ w3 g hi rfl hd3 hx3 hhi3).mono ?_
    rintro e w4 ⟨_, rfl, ⟨p, sv, rfl, hop, hpk⟩, hch4, hd4⟩
    have hcn := Nat.le_trans hpk.out.2 (pow_le4 (k := k) (by omega))
    replace hch := hch.trans hch4
    have hrp := hop.rdP
    obtain ⟨As, cs, rfl, -, -⟩ := hrp.form
    have HC := Lib.hid (spec_PredText_n _ p (Nat.lt_succ_self _) _ w4 _ _ hrp (Nat.le_refl _) hpk.out.1.1 hpk.out.1.2 (by omega) (hP.out _ hch))
    have hlen := predT_len hpk.out.1.2
    have hsz : (predT p).size ≤ 1000 := by omega
    clear hx3 hhi3 hd3 hch4 hop hrp hk hlen hcn
    go_wp2_with fail
    refine HC.out.mono ?_
    rintro e w5 ⟨rfl, hb5⟩
    clear HC hpk
    generalize predT p = t at hsz ⊢
    have hd5 := hd4.below hb5
    replace hch := chg_go hch hb5
    have hs5 := hch.size
    have hlt5 := hd5.lt
    clear hd4 hb5
    have hcv := Lib.run_convert_string_bytes (P := Tryz.prog) w5 9 36 5 t (u := .string) Tryz.underlying9 Tryz.underlying36 Tryz.underlying5
    have hbw := Lib.bytesWorld_below w5 5 t
    have hz6 := Lib.bytesWorld_size w5 5 t
    have Hcell := Lib.hid (Lib.bytesWorld_cell w5 5 t)
    have Hfz := Lib.hid (fun (j : Nat) (hj : j < t.size) => bytes_fz (w := w5) (e := 5) hj)
    generalize Lib.bytesWorld w5 5 t = w6 at hcv hbw hz6 Hcell Hfz
    generalize grownCap w5 t.size 0 5 = cp at hcv
    have hd6 := hd5.below hbw
    replace hch := chg_go hch hbw
    clear hd5 hbw
    have ht1 : t.data.toList.length = t.size := by simp
    by_cases h0 : 0 < t.size
    case neg =>
      have hc2 := conv_bytes (P := Tryz.prog) Tryz.underlying36 Tryz.underlying5 Tryz.underlying9 w6 w5.heap.size 0 t.size cp t.data.toList ht1 (bytes_get Hcell.out)
      rw [ba_back] at hc2
      clear ht1
      go_wp2_with fail
      go_ret
      exact ⟨_, rfl, ⟨t, rfl, by omega⟩, hch, hd6⟩
    go_wp2_with fail
    refine (spec_l1Once 3 w6 g hd6 (by decide)).mono ?_
    rintro e w7 ⟨_, rfl, ⟨b7, rfl⟩, hch7, hd7⟩
    have hs7 := hch7.size
    have Hcell7 := Lib.hid (fun (j : Nat) (hj : j < t.size) => (World.cell?_of_block (a := ⟨w5.heap.size, j, none⟩) (hch7.block w5.heap.size (by omega) (.inr (by omega)))).trans (Hcell.out j hj))
    have Hfz7 := Lib.hid (fun (j : Nat) (hj : j < t.size) => (World.frozen?_of_block (a := ⟨w5.heap.size, j, none⟩) (hch7.block w5.heap.size (by omega) (.inr (by omega)))).trans (Hfz.out j hj))
    replace hch := hch.trans hch7
    clear Hcell Hfz hd6 hch7 hcv
    cases b7
    case false =>
      have hc2 := conv_bytes (P := Tryz.prog) Tryz.underlying36 Tryz.underlying5 Tryz.underlying9 w7 w5.heap.size 0 t.size cp t.data.toList ht1 (bytes_get Hcell7.out)
      rw [ba_back] at hc2
      clear ht1
      go_wp2_with fail
      go_ret
      exact ⟨_, rfl, ⟨t, rfl, by omega⟩, hch, hd7⟩
    case true =>
      go_wp2_with fail
      refine (spec_l1Below (t.size : Int) w7 g hd7 (by omega)).mono ?_
      rintro e w8 ⟨_, rfl, ⟨j, rfl, hj1, -⟩, hch8, hd8⟩
      have hj : j < t.size := by have := hj1 (by omega); omega
      have hs8 := hch8.size
      have Hcell8 := Lib.hid (fun (j : Nat) (hj : j < t.size) => (World.cell?_of_block (a := ⟨w5.heap.size, j, none⟩) (hch8.block w5.heap.size (by omega) (.inr (by omega)))).trans (Hcell7.out j hj))
      have Hfz8 := Lib.hid (fun (j : Nat) (hj : j < t.size) => (World.frozen?_of_block (a := ⟨w5.heap.size, j, none⟩) (hch8.block w5.heap.size (by omega) (.inr (by omega)))).trans (Hfz7.out j hj))
      replace hch := hch.trans hch8
      have hlt8 := hd8.lt
      clear Hcell7 Hfz7 hd7 hch8 hj1
      have hx9 : RdI (w8.alloc (.cells #[.int .i64 40, .int .i64 41, .int .i64 44, .int .i64 61, .int .i64 99, .int .i64 48] 3)) w8.heap.size (w8.heap.size + 1) (.slice (some ⟨w8.heap.size, 0, none⟩) 6 6) [40, 41, 44, 61, 99, 48] := rdI_new w8 [40, 41, 44, 61, 99, 48] 3 (by decide)
      have hd9 := dr_new hd8 #[.int .i64 40, .int .i64 41, .int .i64 44, .int .i64 61, .int .i64 99, .int .i64 48] 3
      have hup := up_a1 w8 (.cells #[.int .i64 40, .int .i64 41, .int .i64 44, .int .i64 61, .int .i64 99, .int .i64 48] 3)
      have hz9 : (w8.alloc (.cells #[.int .i64 40, .int .i64 41, .int .i64 44, .int .i64 61, .int .i64 99, .int .i64 48] 3)).heap.size = w8.heap.size + 1 := by simp
      clear hd8
      go_wp2_with fail
      refine (spec_l1Int [40, 41, 44, 61, 99, 48] _ (w8.alloc (.cells #[.int .i64 40, .int .i64 41, .int .i64 44, .int .i64 61, .int .i64 99, .int .i64 48] 3)) g hd9 (RdG.imp hx9 hlt8 (Nat.le_refl _) fun _ _ _ _ _ h => h) (by simp) (by decide) (by decide)).mono ?_
      rintro e w10 ⟨_, rfl, ⟨n, hn, rfl⟩, hch10, hd10⟩
      obtain ⟨u, rfl, hwu⟩ := nums_u8 hn
      have hs10 := hch10.size
      rw [hz9] at hs10
      have hchA := (show Chg g (g + 1) w8 (w8.alloc (.cells #[.int .i64 40, .int .i64 41, .int .i64 44, .int .i64 61, .int .i64 99, .int .i64 48] 3)) from .of_below hup).trans hch10
      have Hcell10 := Lib.hid (fun (j : Nat) (hj : j < t.size) => (World.cell?_of_block (a := ⟨w5.heap.size, j, none⟩) (hchA.block w5.heap.size (by omega) (.inr (by omega)))).trans (Hcell8.out j hj))
      have f0 := (World.frozen?_of_block (a := ⟨w5.heap.size, j, none⟩) (hchA.block w5.heap.size (by omega) (.inr (by omega)))).trans (Hfz8.out j hj)
      have e0 := Hcell10.out j hj
      replace hch := hch.trans hchA
      clear Hcell8 Hfz8 hd9 hch10 hn hx9 hup hchA
      have hc2 := conv_bytes (P := Tryz.prog) Tryz.underlying36 Tryz.underlying5 Tryz.underlying9 (w10.setCell ⟨w5.heap.size, j, none⟩ (.int .u8 (u.toNat : Int))) w5.heap.size 0 t.size cp (t.data.toList.set j u) (by rw [List.length_set]; exact ht1) (bytes_put hj Hcell10.out)
      have hlen : (⟨(t.data.toList.set j u).toArray⟩ : ByteArray).size = t.size := by
        show (t.data.toList.set j u).toArray.size = _
        rw [List.size_toArray, List.length_set]
        exact ht1
      have Hlen := Lib.hid hlen
      clear ht1 Hcell10 hlen
      go_wp2_with fail
      go_ret
      exact ⟨_, rfl, ⟨_, rfl, by rw [Hlen.out]; omega⟩, chg_set hch (by omega) _, Dr.set hd10 (by omega) (by omega) _⟩
set_option maxRecDepth 20000 in
set_option maxHeartbeats 8000000 in
theorem spec_DrawParsePred (code : List UInt8) (x : Value) (w : World) {lo hi : Nat} (hx : RdB w lo hi x code) (hhi : hi ≤ w.heap.size) (hn : code.length ≤ 1048576) (hP : Pow w) :
    Calls Tryz.prog 16 #[x] w fun e w' => ∃ (cols : List Int) (s : ByteArray) (cv : Value), e = .returned (.tuple #[cv, .string s]) ∧ RdI w' w.heap.size w'.heap.size cv cols ∧ Hid (s.size ≤ 1048576 ∧ cols.length ≤ 3) ∧ Below w.heap.size w w' := by
  have HP := Lib.hid hP
  clear hP
  go_enter Tryz.func16, Tryz.ntmps16
  go_wp2_with fail
  refine (spec_l1New code x w hx hhi hn).mono ?_
  rintro e w1 ⟨g, rfl, hg, hb1, hd1⟩
  have hlt1 := hd1.lt
  have hz1 := hb1.size
  go_wp2_with fail
  refine (spec_l4Cols_t w1 g hd1).mono ?_
  rintro e w2 ⟨cv, rfl, ⟨cols, hcols, hok, hcl⟩, hch2, hd2⟩
  obtain ⟨Ac, cc, rfl, -, -⟩ := hcols.form
  have Hok := Lib.hid hok
  have z2 := hch2.size
  have hb2 := chg_below hb1 hch2 (show w.heap.size ≤ g by omega) (Nat.le_refl _)
  have hPg := Lib.hid (show ∀ w', Chg g (g + 1) w2 w' → Pow w' from fun w' h => TabIs.below HP.out (chg_below hb2 h (show w.heap.size ≤ g by omega) (Nat.le_refl _)))
  clear hch2 hb1 hd1 hok
  go_wp2_with fail
  refine (spec_l11Str cols _ w2 g hd2 (hcols.more (by omega) (Nat.le_refl _)) (Nat.le_refl _) Hok.out hPg).mono ?_
  rintro e w3 ⟨_, rfl, ⟨s, rfl, hs⟩, hch3, hd3⟩
  have z3 := hch3.size
  have hb3 := chg_below hb2 hch3 (show w.heap.size ≤ g by omega) (Nat.le_refl _)
  have hc3 := hcols.same (.of_chg hch3 (.inr (by omega)) (Nat.le_refl _))
  go_wp2_with fail
  go_ret2
  exact ⟨cols, s, _, rfl, RdG.imp hc3 (by omega) z3 (fun _ _ _ _ _ h => h), Lib.hid ⟨hs, hcl⟩, hb3⟩
end Go.Proofs.YtjogkbkkcaljhaaGreatDoor
