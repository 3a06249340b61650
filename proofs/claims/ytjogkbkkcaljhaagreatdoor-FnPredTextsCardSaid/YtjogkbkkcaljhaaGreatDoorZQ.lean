/- A number's text read: contracts of both ParseNum. Conditions: the library's variables hold what EnvP says; texts of at most 2^20 bytes. -/
import Derived.Test.YtjogkbkkcaljhaaGreatDoorZP
import Derived.Lib.AtoiErrMem
import Derived.Lib.AtoiAllCases
import Derived.Test.YtjogkbkkcaljhaaGreatDoorXA
import Derived.Laws.RangeAny
import Derived.Laws.Runes
import Derived.Lib.IndexAny
import Derived.Deep.LoopGhost
import Derived.WalkMore
namespace Go.Proofs.YtjogkbkkcaljhaaGreatDoor
open Go.Sort Go.ChangeShapes Go.WideShapes Go.ChangeAt Go.RowKit Go.Lb
/-- What the library's variables hold: the powers of ten, two errors that are not nil, a number. -/
def EnvP (w : World) : Prop := Pow w ∧ (∃ t p, w.cell? ⟨2, 0, none⟩ = some (.iface t p)) ∧ (∃ t p, w.cell? ⟨3, 0, none⟩ = some (.iface t p)) ∧ ∃ m : Int, w.cell? ⟨0, 0, none⟩ = some (.int .i64 m)
theorem EnvP.below {w w' : World} (h : EnvP w) (hb : Below w.heap.size w w') : EnvP w' := by
  obtain ⟨h1, ⟨t, p, h2⟩, ⟨t', p', h3⟩, m, h4⟩ := h
  exact ⟨TabIs.below h1 hb, ⟨t, p, cell_keep h2 hb⟩, ⟨t', p', cell_keep h3 hb⟩, m, cell_keep h4 hb⟩
theorem atoi_c (s : ByteArray) (w : World) (hs : s.size ≤ 1048576) (he : EnvP w) :
    Calls Tryz.prog 98 #[.string s] w fun e w' => Below w.heap.size w w' ∧ ((∃ v, Lib.atoiAll s.data.toList = .ok v ∧ e = .returned (.tuple #[.int .i64 v, .nilIface])) ∨ ((∀ v, Lib.atoiAll s.data.toList ≠ .ok v) ∧ ∃ (v : Int) (N : Nat), e = .returned (.tuple #[.int .i64 v, .iface 138 (.pointer (some ⟨N, 0, none⟩))]))) := by
  obtain ⟨-, ⟨t, p, h2⟩, ⟨t', p', h3⟩, -⟩ := he
  cases ha : Lib.atoiAll s.data.toList with
  | ok v =>
    refine (Tryz.strconv_Atoi_ok s (by omega) v ha w).mono ?_
    rintro e w' ⟨rfl, hw⟩
    refine ⟨?_, .inl ⟨v, rfl, rfl⟩⟩
    rcases hw with rfl | ⟨t, rfl⟩
    · exact Below.refl _ _
    · exact Lib.bytesWorld_below _ _ _
  | range =>
    refine (Tryz.strconv_Atoi_range s (by omega) ha _ w h3 (.inr ⟨t', p', rfl⟩)).mono ?_
    rintro e w' ⟨N, rfl, -, -, hb⟩
    exact ⟨hb, .inr ⟨fun v h => by (cases h), _, _, rfl⟩⟩
  | _ =>
    refine (Tryz.strconv_Atoi_bad s (by omega) (fun v h => by rw [ha] at h; cases h) (fun h => by rw [ha] at h; cases h) _ w h2 (.inr ⟨t, p, rfl⟩)).mono ?_
    rintro e w' ⟨N, rfl, -, -, hb⟩
    exact ⟨hb, .inr ⟨fun v h => by (cases h), _, _, rfl⟩⟩
theorem str_eq {a b : ByteArray} (h : a = b) : (a.toList == b.toList) = true := by rw [h]; exact beq_iff_eq.2 rfl
theorem str_ne {a b : ByteArray} (h : ¬ a = b) : (a.toList == b.toList) = false := by
  cases hb : a.toList == b.toList
  · rfl
  · exfalso
    rw [beq_iff_eq, Lib.toList_data, Lib.toList_data] at hb
    exact h (ba_inj hb)
theorem numR_no {s : ByteArray} (h : ∀ m, isNum m = true → Lib.atoiAll s.data.toList ≠ .ok m) : NumR s 0 false :=
  .inr ⟨rfl, rfl, fun m hm e => h m hm (by rw [← e, numText_list]; exact atoiAll_itoa hm)⟩
set_option maxHeartbeats 2000000 in
theorem impl_ParseNum (s : ByteArray) (w : World) (hs : s.size ≤ 1048576) (he : EnvP w) :
    Calls Tryz.prog 79 #[.string s] w fun e w' => ∃ (n : Int) (ok : Bool), e = .returned (.tuple #[.int .i64 n, .bool ok]) ∧ NumR s n ok ∧ Below w.heap.size w w' := by
  have HA := Lib.hid (atoi_c s w hs he)
  have HE := Lib.hid he
  clear he
  go_enter Tryz.func79, Tryz.ntmps79
  go_wp2_with fail
  refine HA.out.mono ?_
  rintro e w1 ⟨hb, ⟨v, ha, rfl⟩ | ⟨ha, v, N, rfl⟩⟩
  · have HB := Lib.hid hb
    have HV := Lib.hid ha
    have HP := Lib.hid (HE.out.below hb).1
    clear hb ha HA HE
    cases hn : isNum v
    · have HN := Lib.hid (numR_no (s := s) fun m hm h => by
        rw [HV.out] at h
        injection h with h
        rw [h, hm] at hn
        cases hn)
      have HQ := q_impl_isNum v
      rw [hn] at HQ
      clear hn
      go_wp2_with (go_at_call 85; refine (HQ _).mono ?_; rintro e w2 ⟨rfl, rfl⟩)
      go_ret2
      exact ⟨0, false, rfl, HN.out, HB.out⟩
    · have HQ := q_impl_isNum v
      rw [hn] at HQ
      have hr := isNum_in hn
      have HC := Lib.hid (impl_NumText' v w1 (by omega) (by omega) HP.out)
      by_cases heq : numText v = s
      · have hne : ((numText v).toList == s.toList) = true := str_eq heq
        have HN := Lib.hid (show NumR s v true from .inl ⟨rfl, hn, heq⟩)
        clear hn heq
        go_wp2_with (first | (go_at_call 85; refine (HQ _).mono ?_; rintro e w2 ⟨rfl, rfl⟩) | (go_at_call 32; refine HC.out.mono ?_; rintro e w3 ⟨rfl, hb3⟩; have HB3 := Lib.hid (bgo0 HB.out hb3); clear hb3))
        go_ret2
        exact ⟨v, true, rfl, HN.out, HB3.out⟩
      · have hne : ((numText v).toList == s.toList) = false := str_ne heq
        have HN := Lib.hid (show NumR s 0 false from .inr ⟨rfl, rfl, fun m hm e => heq (by
          have h := atoiAll_itoa hm
          rw [← numText_list, e, HV.out] at h
          injection h with h
          rw [h]
          exact e)⟩)
        clear hn heq
        go_wp2_with (first | (go_at_call 85; refine (HQ _).mono ?_; rintro e w2 ⟨rfl, rfl⟩) | (go_at_call 32; refine HC.out.mono ?_; rintro e w3 ⟨rfl, hb3⟩; have HB3 := Lib.hid (bgo0 HB.out hb3); clear hb3))
        go_ret2
        exact ⟨0, false, rfl, HN.out, HB3.out⟩
  · have HN := Lib.hid (numR_no (s := s) fun m _ => ha m)
    have HB := Lib.hid hb
    clear hb ha HA HE
    go_wp2_with fail
    go_ret2
    exact ⟨0, false, rfl, HN.out, HB.out⟩
end Go.Proofs.YtjogkbkkcaljhaaGreatDoor
namespace Go.Proofs.YtjogkbkkcaljhaaGreatDoor
open Go.Sort Go.ChangeShapes Go.WideShapes Go.ChangeAt Go.RowKit Go.Lb
theorem itoa_sign (m : Int) : (Lib.itoa m = 45 :: Lib.decDigits m.natAbs ∧ m < 0) ∨ (Lib.itoa m = Lib.decDigits m.natAbs ∧ 0 ≤ m) := by
  unfold Lib.itoa
  split
  · exact .inl ⟨rfl, by omega⟩
  · refine .inr ⟨?_, by omega⟩
    congr 1
    omega
/-- What stands behind the sign of a number's text. -/
theorem digits_behind {D : List UInt8} {m : Int} (h : Lib.itoa m = D) {c : UInt8} (hc : D[0]? = some c) :
    (c.toNat = 45 → m = -(m.natAbs : Int) ∧ D.drop 1 = Lib.decDigits m.natAbs) ∧ (c.toNat ≠ 45 → m = (m.natAbs : Int) ∧ D = Lib.decDigits m.natAbs) := by
  rcases itoa_sign m with ⟨e, hm⟩ | ⟨e, hm⟩
  · rw [h] at e
    rw [e] at hc ⊢
    simp only [List.getElem?_cons_zero, Option.some.injEq] at hc
    subst hc
    exact ⟨fun _ => ⟨by omega, rfl⟩, fun h => absurd rfl h⟩
  · rw [h] at e
    refine ⟨fun h45 => ?_, fun _ => ⟨by omega, e⟩⟩
    rw [e] at hc
    have := digits_ch m.natAbs c (List.mem_of_getElem? hc)
    omega
theorem dig_of {c : UInt8} (h : 48 ≤ c.toNat ∧ c.toNat ≤ 57) : Lib.digitVal c = some (c.toNat - 48) := by
  unfold Lib.digitVal
  rw [if_pos h]
theorem dec_bound {l : List UInt8} {k m : Nat} (h : Lib.decFrom 0 (l.take k) = some m) : m < 10 ^ k := by
  have h1 := Lib.decFrom_lt _ _ _ h
  have h2 : (l.take k).length ≤ k := by rw [List.length_take]; omega
  have h3 := Nat.pow_le_pow_right (n := 10) (by decide) h2
  omega
set_option maxRecDepth 20000 in
set_option maxHeartbeats 4000000 in
theorem spec_ParseNum (s : ByteArray) (w : World) (hs : s.size ≤ 1048576) :
    Calls Tryz.prog 104 #[.string s] w fun e w' => ∃ (n : Int) (ok : Bool), e = .returned (.tuple #[.int .i64 n, .bool ok]) ∧ NumR s n ok ∧ Below w.heap.size w w' := by
  by_cases hlen : 1 ≤ s.size ∧ s.size ≤ 11
  · have HQ := q_spec_l1In (s.size : Int) 1 11
    rw [show inR (s.size : Int) 1 11 = true from inR_of (by omega) (by omega)] at HQ
    obtain ⟨hl1, hl11⟩ := hlen
    have h0 : (0 : Int) < (s.size : Int) := by omega
    have g0 := get_byte s 0 (by omega)
    obtain ⟨sg, DD, hsg, hDD⟩ : ∃ (sg : Nat) (DD : List UInt8), ((s[0].toNat = 45 ∧ sg = 1) ∨ (s[0].toNat ≠ 45 ∧ sg = 0)) ∧ DD = s.data.toList.drop sg := by
      by_cases h : s[0].toNat = 45
      · exact ⟨1, _, .inl ⟨h, rfl⟩, rfl⟩
      · exact ⟨0, _, .inr ⟨h, rfl⟩, rfl⟩
    have HB := Lib.hid (show ∀ m : Int, numText m = s → DD = Lib.decDigits m.natAbs ∧ (sg = 1 → m = -(m.natAbs : Int)) ∧ (sg = 0 → m = (m.natAbs : Int)) from fun m hm => by
      have h := digits_behind (D := s.data.toList) (m := m) (by rw [← hm, numText_list]) g0
      rcases hsg with ⟨h1, h2⟩ | ⟨h1, h2⟩
      · rw [hDD, h2]
        exact ⟨(h.1 h1).2, fun _ => (h.1 h1).1, fun h => by omega⟩
      · rw [hDD, h2]
        exact ⟨by simpa using (h.2 h1).2, fun h => by omega, fun _ => (h.2 h1).1⟩)
    have HG := Lib.hid (show ∀ k (hk : k < s.size), sg ≤ k → DD[k - sg]? = some s[k] from fun k hk h => by
      rw [hDD, List.getElem?_drop, show sg + (k - sg) = k by omega]
      exact get_byte s k hk)
    have HL := Lib.hid (show DD.length + sg = s.size by
      rw [hDD, List.length_drop]
      have : s.data.toList.length = s.size := by simp
      omega)
    obtain ⟨ng, hng, hngs⟩ : ∃ ng : Bool, ((s[0].toNat : Int) == 45) = ng ∧ ((ng = true ∧ sg = 1) ∨ (ng = false ∧ sg = 0)) := by
      rcases hsg with ⟨h1, h2⟩ | ⟨h1, h2⟩
      · exact ⟨true, by rw [h1]; rfl, .inl ⟨rfl, h2⟩⟩
      · exact ⟨false, by simp; omega, .inr ⟨rfl, h2⟩⟩
    have HNG := Lib.hid hngs
    clear hngs hDD hsg g0
    go_enter Tryz.func104, Tryz.ntmps104
    go_wp2_with (go_at_call 43; refine (HQ _).mono ?_; rintro e w2 ⟨rfl, rfl⟩)
    go_loop [4, 6] (fun n i => ∃ k m : Nat, i = .int .i64 k ∧ n = .int .i64 m ∧ k ≤ s.size ∧ Hid (Lib.decFrom 0 (DD.take (k - sg)) = some m)) (fun _ i => s.size - (intOf i).toNat)
    case atStart => exact ⟨0, 0, rfl, rfl, by omega, Lib.hid (by simp [Lib.decFrom])⟩
    case round =>
      obtain ⟨k, m, rfl, rfl, hk, HD⟩ := hrel
      by_cases hkl : k < s.size
      · by_cases hk0 : k < sg
        · -- the sign
          have hk00 : k = 0 := by rcases HNG.out with ⟨-, h⟩ | ⟨-, h⟩ <;> omega
          subst hk00
          have hng1 : ng = true := by
            rcases HNG.out with ⟨h, -⟩ | ⟨-, h⟩
            · exact h
            · omega
          have hm0 : m = 0 := by
            have h := HD.out
            rw [show 0 - sg = 0 by omega] at h
            simpa [Lib.decFrom] using h.symm
          subst hng1 hm0
          have HS := Lib.hid (show sg = 1 by rcases HNG.out with ⟨-, h⟩ | ⟨h, -⟩ <;> first | exact h | cases h)
          clear hk0
          go_wp2_with fail
          go_round
          case rel => exact ⟨1, 0, by go_num, rfl, by omega, Lib.hid (by rw [HS.out]; rfl)⟩
          case measure => simp [intOf]; omega
        · have hge : sg ≤ k := Nat.le_of_not_lt hk0
          have hgk := HG.out k hkl hge
          have hmb := dec_bound HD.out
          have hmb2 : m < 100000000000 := Nat.lt_of_lt_of_le hmb (show 10 ^ (k - sg) ≤ 100000000000 from Nat.pow_le_pow_right (n := 10) (by decide) (show k - sg ≤ 11 by omega))
          have hsub : k + 1 - sg = (k - sg) + 1 := by omega
          have hgu : ((k : Int) == 0 && ng) = false := by
            rcases HNG.out with ⟨-, h⟩ | ⟨h, -⟩
            · rw [show ((k : Int) == 0) = false from by simp; omega]; rfl
            · rw [h, Bool.and_false]
          have HSub := Lib.hid hsub
          have HGu := Lib.hid hgu
          clear hsub hk0 hmb hge hgu
          have hb0 : s[k].toNat < 256 := s[k].toNat_lt
          have HQ2 := q_spec_l1In (s[k].toNat : Int) 48 57
          by_cases hdg : 48 ≤ s[k].toNat ∧ s[k].toNat ≤ 57
          · rw [show inR (s[k].toNat : Int) 48 57 = true from inR_of (by omega) (by omega)] at HQ2
            have HD2 := Lib.hid (Lib.decFrom_take DD (k - sg) 0 m s[k] _ HD.out hgk (dig_of hdg))
            have hw0 : IntKind.u8.wrap ((s[k].toNat : Int) - 48) = (s[k].toNat : Int) - 48 := IntWalk.u8_in _ ⟨by omega, by omega⟩
            have hw1 : IntKind.i64.wrap ((s[k].toNat : Int) - 48) = (s[k].toNat : Int) - 48 := IntWalk.i64_in _ ⟨by omega, by omega⟩
            have hw2 : IntKind.i64.wrap (10 * (m : Int)) = 10 * (m : Int) := IntWalk.i64_in _ ⟨by omega, by omega⟩
            have hw3 : IntKind.i64.wrap (10 * (m : Int) + ((s[k].toNat : Int) - 48)) = 10 * (m : Int) + ((s[k].toNat : Int) - 48) := IntWalk.i64_in _ ⟨by omega, by omega⟩
            have hw4 : IntKind.i64.wrap (s[k].toNat : Int) = (s[k].toNat : Int) := IntWalk.i64_in _ ⟨by omega, by omega⟩
            have HDG := Lib.hid hdg
            clear hgk HD hdg
            by_cases hkz : k = 0
            · have hz : ((k : Int) == 0) = true := by simp [hkz]
              have hgu := HGu.out
              rw [hz, Bool.true_and] at hgu
              subst hgu
              clear hz
              subst hkz
              go_wp2_with (go_at_call 43; refine (HQ2 _).mono ?_; rintro e w2 ⟨rfl, rfl⟩)
              go_round
              case rel => exact ⟨0 + 1, m * 10 + (s[0].toNat - 48), by go_num, congrArg (Value.int .i64) (by have := HDG.out; omega), by omega, Lib.hid (by rw [HSub.out]; exact HD2.out)⟩
              case measure => simp [intOf]; omega
            · have hz : ((k : Int) == 0) = false := by simp; omega
              clear hkz
              go_wp2_with (go_at_call 43; refine (HQ2 _).mono ?_; rintro e w2 ⟨rfl, rfl⟩)
              go_round
              case rel => exact ⟨k + 1, m * 10 + (s[k].toNat - 48), by go_num, congrArg (Value.int .i64) (by have := HDG.out; omega), by omega, Lib.hid (by rw [HSub.out]; exact HD2.out)⟩
              case measure => simp [intOf]; omega
          · rw [show inR (s[k].toNat : Int) 48 57 = false from by
              unfold inR
              rw [Bool.and_eq_false_iff]
              by_cases h : (48 : Int) ≤ (s[k].toNat : Int)
              · exact .inr (decide_eq_false (by omega))
              · exact .inl (decide_eq_false h)] at HQ2
            have HN := Lib.hid (show NumR s 0 false from .inr ⟨rfl, rfl, fun m' _ e => by
              have h := HB.out m' e
              rw [h.1] at hgk
              have := digits_ch _ _ (List.mem_of_getElem? hgk)
              omega⟩)
            have hw4 : IntKind.i64.wrap (s[k].toNat : Int) = (s[k].toNat : Int) := IntWalk.i64_in _ ⟨by omega, by omega⟩
            clear hgk HD hdg
            by_cases hkz : k = 0
            · have hz : ((k : Int) == 0) = true := by simp [hkz]
              have hgu := HGu.out
              rw [hz, Bool.true_and] at hgu
              subst hgu
              clear hz
              subst hkz
              go_wp2_with (go_at_call 43; refine (HQ2 _).mono ?_; rintro e w2 ⟨rfl, rfl⟩)
              go_ret2
              exact ⟨0, false, rfl, HN.out, Below.refl _ _⟩
            · have hz : ((k : Int) == 0) = false := by simp; omega
              clear hkz
              go_wp2_with (go_at_call 43; refine (HQ2 _).mono ?_; rintro e w2 ⟨rfl, rfl⟩)
              go_ret2
              exact ⟨0, false, rfl, HN.out, Below.refl _ _⟩
      · obtain rfl : k = s.size := by omega
        have hmb := dec_bound HD.out
        have hmb2 : m < 100000000000 := Nat.lt_of_lt_of_le hmb (show 10 ^ (s.size - sg) ≤ 100000000000 from Nat.pow_le_pow_right (n := 10) (by decide) (show s.size - sg ≤ 11 by omega))
        have HF := Lib.hid (show Lib.decFrom 0 DD = some m by
          have h := HD.out
          rwa [List.take_of_length_le (by have := HL.out; omega)] at h)
        clear hmb HD hkl
        obtain ⟨n, hn⟩ : ∃ n : Int, n = (if ng = true then -(m : Int) else (m : Int)) := ⟨_, rfl⟩
        have HU := Lib.hid (show ∀ m' : Int, numText m' = s → n = m' from fun m' e => by
          have h := HB.out m' e
          have h2 := HF.out
          rw [h.1, decFrom_digits, Option.some.injEq] at h2
          rcases HNG.out with ⟨h3, h4⟩ | ⟨h3, h4⟩
          · rw [hn, h3, if_pos rfl, ← h2]; exact (h.2.1 h4).symm
          · rw [hn, h3, if_neg (by simp), ← h2]; exact (h.2.2 h4).symm)
        have hnw : IntKind.i64.wrap (-(m : Int)) = -(m : Int) := IntWalk.i64_in _ ⟨by omega, by omega⟩
        have hnr : -100000000000 ≤ n ∧ n ≤ 100000000000 := by
          rw [hn]
          split <;> omega
        have hgc : ng = true ∨ ng = false := by cases ng <;> simp
        clear HNG HB HF HG HL
        rcases hgc with hg | hg
        · obtain rfl : n = -(m : Int) := by rw [hn, hg]; rfl
          subst hg
          clear hn
          have HQ3 := q_spec_l1Right (-(m : Int))
          cases hq : isNum (-(m : Int))
          · rw [hq] at HQ3
            have HN := Lib.hid (show NumR s 0 false from .inr ⟨rfl, rfl, fun m' hm e => by
              have h := HU.out m' e
              rw [← h, hq] at hm
              cases hm⟩)
            clear hq
            go_wp2_with (go_at_call 90; refine (HQ3 _).mono ?_; rintro e w2 ⟨rfl, rfl⟩)
            go_ret2
            exact ⟨0, false, rfl, HN.out, Below.refl _ _⟩
          · rw [hq] at HQ3
            have HC := Lib.hid (spec_NumText (-(m : Int)) w (by omega) (by omega))
            by_cases heq : numText (-(m : Int)) = s
            · have hne : ((numText (-(m : Int))).toList == s.toList) = true := str_eq heq
              have HN := Lib.hid (show NumR s (-(m : Int)) true from .inl ⟨rfl, hq, heq⟩)
              clear hq heq
              go_wp2_with (first | (go_at_call 90; refine (HQ3 _).mono ?_; rintro e w2 ⟨rfl, rfl⟩) | (go_at_call 40; refine HC.out.mono ?_; rintro e w3 ⟨rfl, hb3⟩; have HB3 := Lib.hid hb3; clear hb3))
              go_ret2
              exact ⟨-(m : Int), true, rfl, HN.out, HB3.out⟩
            · have hne : ((numText (-(m : Int))).toList == s.toList) = false := str_ne heq
              have HN := Lib.hid (show NumR s 0 false from .inr ⟨rfl, rfl, fun m' hm e => heq (by
                have h := HU.out m' e
                rw [h]
                exact e)⟩)
              clear hq heq
              go_wp2_with (first | (go_at_call 90; refine (HQ3 _).mono ?_; rintro e w2 ⟨rfl, rfl⟩) | (go_at_call 40; refine HC.out.mono ?_; rintro e w3 ⟨rfl, hb3⟩; have HB3 := Lib.hid hb3; clear hb3))
              go_ret2
              exact ⟨0, false, rfl, HN.out, HB3.out⟩
        · obtain rfl : n = (m : Int) := by rw [hn, hg]; rfl
          subst hg
          clear hn
          have HQ3 := q_spec_l1Right ((m : Int))
          cases hq : isNum ((m : Int))
          · rw [hq] at HQ3
            have HN := Lib.hid (show NumR s 0 false from .inr ⟨rfl, rfl, fun m' hm e => by
              have h := HU.out m' e
              rw [← h, hq] at hm
              cases hm⟩)
            clear hq
            go_wp2_with (go_at_call 90; refine (HQ3 _).mono ?_; rintro e w2 ⟨rfl, rfl⟩)
            go_ret2
            exact ⟨0, false, rfl, HN.out, Below.refl _ _⟩
          · rw [hq] at HQ3
            have HC := Lib.hid (spec_NumText ((m : Int)) w (by omega) (by omega))
            by_cases heq : numText ((m : Int)) = s
            · have hne : ((numText ((m : Int))).toList == s.toList) = true := str_eq heq
              have HN := Lib.hid (show NumR s ((m : Int)) true from .inl ⟨rfl, hq, heq⟩)
              clear hq heq
              go_wp2_with (first | (go_at_call 90; refine (HQ3 _).mono ?_; rintro e w2 ⟨rfl, rfl⟩) | (go_at_call 40; refine HC.out.mono ?_; rintro e w3 ⟨rfl, hb3⟩; have HB3 := Lib.hid hb3; clear hb3))
              go_ret2
              exact ⟨(m : Int), true, rfl, HN.out, HB3.out⟩
            · have hne : ((numText ((m : Int))).toList == s.toList) = false := str_ne heq
              have HN := Lib.hid (show NumR s 0 false from .inr ⟨rfl, rfl, fun m' hm e => heq (by
                have h := HU.out m' e
                rw [h]
                exact e)⟩)
              clear hq heq
              go_wp2_with (first | (go_at_call 90; refine (HQ3 _).mono ?_; rintro e w2 ⟨rfl, rfl⟩) | (go_at_call 40; refine HC.out.mono ?_; rintro e w3 ⟨rfl, hb3⟩; have HB3 := Lib.hid hb3; clear hb3))
              go_ret2
              exact ⟨0, false, rfl, HN.out, HB3.out⟩
  · have HQ := q_spec_l1In (s.size : Int) 1 11
    rw [show inR (s.size : Int) 1 11 = false from by
      unfold inR
      rw [Bool.and_eq_false_iff]
      by_cases h : (1 : Int) ≤ (s.size : Int)
      · exact .inr (decide_eq_false (by omega))
      · exact .inl (decide_eq_false h)] at HQ
    have HN := Lib.hid (show NumR s 0 false from .inr ⟨rfl, rfl, fun m hm e => hlen (by
      have h1 := itoa_len hm
      have h2 := itoa_ne m
      have h3 : s.size = (Lib.itoa m).length := by rw [← e]; rfl
      have h4 : (Lib.itoa m).length ≠ 0 := fun h => h2 (List.length_eq_zero_iff.1 h)
      omega)⟩)
    clear hlen
    go_enter Tryz.func104, Tryz.ntmps104
    go_wp2_with (go_at_call 43; refine (HQ _).mono ?_; rintro e w2 ⟨rfl, rfl⟩)
    go_ret2
    exact ⟨0, false, rfl, HN.out, Below.refl _ _⟩
end Go.Proofs.YtjogkbkkcaljhaaGreatDoor
namespace Go.Proofs.YtjogkbkkcaljhaaGreatDoor
open Go.Sort Go.ChangeShapes Go.WideShapes Go.ChangeAt Go.RowKit Go.Lb
theorem ext_list (s : ByteArray) (a : Nat) : (s.extract a s.size).data.toList = s.data.toList.drop a := Lib.extract_to_end s a
theorem list_cons {s : ByteArray} (h : 0 < s.size) : s.data.toList = s[0] :: s.data.toList.drop 1 := by
  have g := get_byte s 0 h
  cases hl : s.data.toList with
  | nil => rw [hl] at g; cases g
  | cons a t =>
    rw [hl] at g
    simp only [List.getElem?_cons_zero, Option.some.injEq] at g
    rw [g]; rfl
/-- A text that begins with a quote is a text's, or none's. -/
theorem valR_quote {s : ByteArray} (h : 0 < s.size) (h39 : s[0].toNat = 39) : (valOk ⟨2, 0, s.extract 1 s.size⟩ = true → ValR s ⟨2, 0, s.extract 1 s.size⟩ true) ∧ (valOk ⟨2, 0, s.extract 1 s.size⟩ = false → ValR s V.zero false) := by
  have hl := list_cons h
  have e39 : s[0] = 39 := UInt8.toNat_inj.1 h39
  refine ⟨fun hv => .inl ⟨rfl, hv, ba_inj ?_⟩, fun hv => .inr ⟨rfl, rfl, fun u hu e => ?_⟩⟩
  · rw [valText_txt hv rfl, hl, e39, ext_list]
  · have el : (valText u).data.toList = s.data.toList := by rw [e]
    rw [hl, e39] at el
    rcases valOk_cases hu with ⟨u1, u2, u3⟩ | ⟨u1, u2, u3, -⟩
    · rw [valText_num hu u1] at el
      exact itoa_no39 el
    · rw [valText_txt hu u1] at el
      injection el with _ el
      have hs : u.s = s.extract 1 s.size := ba_inj (by rw [el, ext_list])
      have : u = ⟨2, 0, s.extract 1 s.size⟩ := by
        obtain ⟨t, n, x⟩ := u
        simp only at u1 u2 hs
        subst u1 u2 hs
        rfl
      rw [this, hv] at hu
      cases hu
/-- A text that does not is a number's, or none's. -/
theorem valR_num {s : ByteArray} {n : Int} {ok : Bool} (h : ∀ hs : 0 < s.size, s[0].toNat ≠ 39) (hn : NumR s n ok) : (ok = true → ValR s ⟨1, n, ⟨#[]⟩⟩ true ∧ valOk ⟨1, n, ⟨#[]⟩⟩ = true) ∧ (ok = false → ValR s V.zero false) := by
  refine ⟨fun e => ?_, fun e => ?_⟩
  · rcases hn with ⟨-, h2, h3⟩ | ⟨h1, -⟩
    · have hv : valOk ⟨1, n, ⟨#[]⟩⟩ = true := by
        show (if (1 : Int) = 1 then isNum n && _ else _) = true
        rw [if_pos rfl, h2]; rfl
      exact ⟨.inl ⟨rfl, hv, by rw [valText_1 hv rfl]; exact h3⟩, hv⟩
    · rw [e] at h1; cases h1
  · rcases hn with ⟨h1, -⟩ | ⟨-, -, h3⟩
    · rw [e] at h1; cases h1
    · refine .inr ⟨rfl, rfl, fun u hu eu => ?_⟩
      rcases valOk_cases hu with ⟨u1, u2, -⟩ | ⟨u1, -, -, -⟩
      · exact h3 u.n u2 (by rw [← eu, valText_1 hu u1])
      · have el : (valText u).data.toList = s.data.toList := by rw [eu]
        rw [valText_txt hu u1] at el
        have hpos : 0 < s.size := by
          have : s.data.toList.length = s.size := by simp
          rw [← this, ← el]
          simp
        have hl := list_cons hpos
        rw [hl] at el
        injection el with el _
        exact h hpos (by rw [← el]; rfl)
theorem val_cells {v : V} : (Value.agg #[.int .i64 v.ty, .int .i64 v.n, .string v.s]) = .agg #[.int .i64 v.ty, .int .i64 v.n, .string v.s] := rfl
theorem set1v {w : World} {X : Nat} {c0 c1 c2 a : Value} {e : TypeId} (h : w.heap[X]? = some (.cells #[c0, c1, c2] e)) : (w.setCell ⟨X, 1, none⟩ a).heap[X]? = some (.cells #[c0, a, c2] e) := by
  have h1 := set1 (o := 1) (a := a) h
  simpa only [List.setIfInBounds_toArray, List.set_cons_succ, List.set_cons_zero] using h1
theorem below_set0 {B : Nat} {w w' : World} {b o : Nat} (h : Below B w w') (hb : B ≤ b) (u : Value) : Below B w (w'.setCell ⟨b, o, none⟩ u) := Below.setCell h hb u
set_option maxRecDepth 20000 in
set_option maxHeartbeats 4000000 in
theorem impl_ParseVal (s : ByteArray) (w : World) (hs : s.size ≤ 1048576) (he : EnvP w) :
    Calls Tryz.prog 80 #[.string s] w fun e w' => ∃ (v : V) (ok : Bool), e = .returned (.tuple #[.agg #[.int .i64 v.ty, .int .i64 v.n, .string v.s], .bool ok]) ∧ ValR s v ok ∧ Below w.heap.size w w' := by
  by_cases hq : ∃ h : 0 < s.size, s[0].toNat = 39
  · obtain ⟨hpos, h39⟩ := hq
    have HR := Lib.hid (valR_quote hpos h39)
    have hem : s.toList.isEmpty = false := by
      rw [Lib.toList_data, list_cons hpos]; rfl
    have hpi : (0 : Int) < (s.size : Int) := by omega
    have h1s : (1 : Int) ≤ (s.size : Int) := by omega
    have hbq : ((s[0].toNat : Int) == 39) = true := by rw [h39]; rfl
    have hsz : (s.extract 1 s.size).size ≤ maxLen := by
      have : (s.extract 1 s.size).size ≤ s.size := by simp
      have h2 : 1048576 ≤ maxLen := by decide
      omega
    have up := up_a2 w (.cells #[.int .i64 0, .int .i64 0, .string ⟨#[]⟩] 24) (.cells #[.int .i64 2, .int .i64 0, .string (s.extract 1 s.size)] 24)
    have G0 := Lib.hid (show ((w.alloc (.cells #[.int .i64 0, .int .i64 0, .string ⟨#[]⟩] 24)).alloc (.cells #[.int .i64 2, .int .i64 0, .string (s.extract 1 s.size)] 24)).heap[w.heap.size]? = some _ from (up_a1 (w.alloc (.cells #[.int .i64 0, .int .i64 0, .string ⟨#[]⟩] 24)) (.cells #[.int .i64 2, .int .i64 0, .string (s.extract 1 s.size)] 24)).block w.heap.size (by simp) |>.trans (heap_alloc_new w _))
    have G1 := Lib.hid (show ((w.alloc (.cells #[.int .i64 0, .int .i64 0, .string ⟨#[]⟩] 24)).alloc (.cells #[.int .i64 2, .int .i64 0, .string (s.extract 1 s.size)] 24)).heap[w.heap.size + 1]? = some (.cells #[.int .i64 2, .int .i64 0, .string (s.extract 1 s.size)] 24) by have h := heap_alloc_new (w.alloc (.cells #[.int .i64 0, .int .i64 0, .string ⟨#[]⟩] 24)) (.cells #[.int .i64 2, .int .i64 0, .string (s.extract 1 s.size)] 24); rw [World.size_alloc] at h; exact h)
    have hs0 : ((w.alloc (.cells #[.int .i64 0, .int .i64 0, .string ⟨#[]⟩] 24)).alloc (.cells #[.int .i64 2, .int .i64 0, .string (s.extract 1 s.size)] 24)).heap.size = w.heap.size + 1 + 1 := by simp
    obtain ⟨W0, hW0⟩ : ∃ W0, ((w.alloc (.cells #[.int .i64 0, .int .i64 0, .string ⟨#[]⟩] 24)).alloc (.cells #[.int .i64 2, .int .i64 0, .string (s.extract 1 s.size)] 24)) = W0 := ⟨_, rfl⟩
    rw [hW0] at up G0 G1 hs0
    have HW0 := Lib.hid hW0
    have UP := Lib.hid up
    clear hW0 up
    have hV := impl_ValOk ⟨2, 0, s.extract 1 s.size⟩ W0 hsz
    cases hv : valOk ⟨2, 0, s.extract 1 s.size⟩
    · rw [hv] at hV
      have HV := Lib.hid hV
      have HN := Lib.hid (HR.out.2 hv)
      clear hV hv HR he h39
      go_enter Tryz.func80, Tryz.ntmps80
      go_wp2_with fail
      rw [HW0.out]
      refine HV.out.mono ?_
      rintro e w2 ⟨rfl, hb⟩
      have g0 := (hb.block w.heap.size (by omega)).trans G0.out
      have g1 := (hb.block (w.heap.size + 1) (by omega)).trans G1.out
      have BX := Lib.hid (UP.out.trans (hb.mono (by omega)))
      have r0 := cell_of_row w2 (w.heap.size) 0 _ _ _ g0
      have r1 := cell_of_row w2 (w.heap.size) 1 _ _ _ g0
      have r2 := cell_of_row w2 (w.heap.size) 2 _ _ _ g0
      simp only [List.getElem?_toArray, List.getElem?_cons_zero, List.getElem?_cons_succ] at r0 r1 r2
      have q0 := cell_of_row w2 (w.heap.size + 1) 0 _ _ _ g1
      have q1 := cell_of_row w2 (w.heap.size + 1) 1 _ _ _ g1
      have q2 := cell_of_row w2 (w.heap.size + 1) 2 _ _ _ g1
      simp only [List.getElem?_toArray, List.getElem?_cons_zero, List.getElem?_cons_succ] at q0 q1 q2
      have f0 := fun o => frozen_of_row w2 w.heap.size o _ _ g0
      have f1 := fun o => frozen_of_row w2 (w.heap.size + 1) o _ _ g1
      clear g0 g1 hb
      go_wp2_with fail
      refine bodyPost_ret (v := .tuple #[.agg #[.int .i64 0, .int .i64 0, .string ⟨#[]⟩], .bool false]) ?_ rfl ⟨⟨0, 0, ⟨#[]⟩⟩, false, rfl, HN.out, ?_⟩
      · simp [results, Tryz.results80, go_sem, r0, r1, r2]
      · iterate 3 refine below_set0 ?_ (Nat.le_refl _) _
        exact BX.out
    · rw [hv] at hV
      have HV := Lib.hid hV
      have HN := Lib.hid (HR.out.1 hv)
      clear hV hv HR he h39
      go_enter Tryz.func80, Tryz.ntmps80
      go_wp2_with fail
      rw [HW0.out]
      refine HV.out.mono ?_
      rintro e w2 ⟨rfl, hb⟩
      have g0 := (hb.block w.heap.size (by omega)).trans G0.out
      have g1 := (hb.block (w.heap.size + 1) (by omega)).trans G1.out
      have BX := Lib.hid (UP.out.trans (hb.mono (by omega)))
      have r0 := cell_of_row w2 (w.heap.size) 0 _ _ _ g0
      have r1 := cell_of_row w2 (w.heap.size) 1 _ _ _ g0
      have r2 := cell_of_row w2 (w.heap.size) 2 _ _ _ g0
      simp only [List.getElem?_toArray, List.getElem?_cons_zero, List.getElem?_cons_succ] at r0 r1 r2
      have q0 := cell_of_row w2 (w.heap.size + 1) 0 _ _ _ g1
      have q1 := cell_of_row w2 (w.heap.size + 1) 1 _ _ _ g1
      have q2 := cell_of_row w2 (w.heap.size + 1) 2 _ _ _ g1
      simp only [List.getElem?_toArray, List.getElem?_cons_zero, List.getElem?_cons_succ] at q0 q1 q2
      have f0 := fun o => frozen_of_row w2 w.heap.size o _ _ g0
      have f1 := fun o => frozen_of_row w2 (w.heap.size + 1) o _ _ g1
      clear g0 g1 hb
      go_wp2_with fail
      refine bodyPost_ret (v := .tuple #[.agg #[.int .i64 2, .int .i64 0, .string (s.extract 1 s.size)], .bool true]) ?_ rfl ⟨⟨2, 0, (s.extract 1 s.size)⟩, true, rfl, HN.out, ?_⟩
      · simp [results, Tryz.results80, go_sem, r0, r1, r2]
      · iterate 3 refine below_set0 ?_ (Nat.le_refl _) _
        exact BX.out
  · have hq2 : ∀ h : 0 < s.size, s[0].toNat ≠ 39 := fun h h2 => hq ⟨h, h2⟩
    have HQ2 := Lib.hid hq2
    have up := up_a2 w (.cells #[.int .i64 0, .int .i64 0, .string ⟨#[]⟩] 24) (.cells #[.int .i64 1, .int .i64 0, .string ⟨#[]⟩] 24)
    have G0 := Lib.hid (show ((w.alloc (.cells #[.int .i64 0, .int .i64 0, .string ⟨#[]⟩] 24)).alloc (.cells #[.int .i64 1, .int .i64 0, .string ⟨#[]⟩] 24)).heap[w.heap.size]? = some _ from (up_a1 (w.alloc (.cells #[.int .i64 0, .int .i64 0, .string ⟨#[]⟩] 24)) (.cells #[.int .i64 1, .int .i64 0, .string ⟨#[]⟩] 24)).block w.heap.size (by simp) |>.trans (heap_alloc_new w _))
    have G1 := Lib.hid (show ((w.alloc (.cells #[.int .i64 0, .int .i64 0, .string ⟨#[]⟩] 24)).alloc (.cells #[.int .i64 1, .int .i64 0, .string ⟨#[]⟩] 24)).heap[w.heap.size + 1]? = some (.cells #[.int .i64 1, .int .i64 0, .string ⟨#[]⟩] 24) by have h := heap_alloc_new (w.alloc (.cells #[.int .i64 0, .int .i64 0, .string ⟨#[]⟩] 24)) (.cells #[.int .i64 1, .int .i64 0, .string ⟨#[]⟩] 24); rw [World.size_alloc] at h; exact h)
    have hs0 : ((w.alloc (.cells #[.int .i64 0, .int .i64 0, .string ⟨#[]⟩] 24)).alloc (.cells #[.int .i64 1, .int .i64 0, .string ⟨#[]⟩] 24)).heap.size = w.heap.size + 1 + 1 := by simp
    obtain ⟨W0, hW0⟩ : ∃ W0, ((w.alloc (.cells #[.int .i64 0, .int .i64 0, .string ⟨#[]⟩] 24)).alloc (.cells #[.int .i64 1, .int .i64 0, .string ⟨#[]⟩] 24)) = W0 := ⟨_, rfl⟩
    rw [hW0] at up G0 G1 hs0
    have HW0 := Lib.hid hW0
    have UP := Lib.hid up
    clear hW0 up
    have HPN := Lib.hid (impl_ParseNum s W0 hs (he.below UP.out))
    clear he hq
    have HW := Lib.hid (show Code.wp = Code.wp from rfl)
    rcases Nat.eq_zero_or_pos s.size with hz | hpos
    · have hem : s.toList.isEmpty = true := by
        have : s.data.toList.length = s.size := by simp
        rw [Lib.toList_data, List.isEmpty_iff, ← List.length_eq_zero_iff]
        omega
      go_enter Tryz.func80, Tryz.ntmps80
      go_wp2_with fail
      rw [HW0.out]
      refine HPN.out.mono ?_
      rintro e w2 ⟨n, ok, rfl, hn, hb⟩
      cases ok
      · have HN := Lib.hid ((valR_num HQ2.out hn).2 rfl)
        clear hn
        have g0 := (hb.block w.heap.size (by omega)).trans G0.out
        have g1 := (hb.block (w.heap.size + 1) (by omega)).trans G1.out
        have BX := Lib.hid (UP.out.trans (hb.mono (by omega)))
        have r0 := cell_of_row w2 (w.heap.size) 0 _ _ _ g0
        have r1 := cell_of_row w2 (w.heap.size) 1 _ _ _ g0
        have r2 := cell_of_row w2 (w.heap.size) 2 _ _ _ g0
        simp only [List.getElem?_toArray, List.getElem?_cons_zero, List.getElem?_cons_succ] at r0 r1 r2
        have q0 := cell_of_row w2 (w.heap.size + 1) 0 _ _ _ g1
        have q1 := cell_of_row w2 (w.heap.size + 1) 1 _ _ _ g1
        have q2 := cell_of_row w2 (w.heap.size + 1) 2 _ _ _ g1
        simp only [List.getElem?_toArray, List.getElem?_cons_zero, List.getElem?_cons_succ] at q0 q1 q2
        have f0 := fun o => frozen_of_row w2 w.heap.size o _ _ g0
        have f1 := fun o => frozen_of_row w2 (w.heap.size + 1) o _ _ g1
        clear g0 g1 hb
        go_wp2_with fail
        refine bodyPost_ret (v := .tuple #[.agg #[.int .i64 0, .int .i64 0, .string ⟨#[]⟩], .bool false]) ?_ rfl ⟨⟨0, 0, ⟨#[]⟩⟩, false, rfl, HN.out, ?_⟩
        · simp [results, Tryz.results80, go_sem, r0, r1, r2]
        · iterate 3 refine below_set0 ?_ (Nat.le_refl _) _
          exact BX.out
      · have HN := Lib.hid ((valR_num HQ2.out hn).1 rfl)
        clear hn
        have hz2 := hb.size
        have g0 := (hb.block w.heap.size (by omega)).trans G0.out
        have g1 := (hb.block (w.heap.size + 1) (by omega)).trans G1.out
        have BX := Lib.hid (UP.out.trans (hb.mono (by omega)))
        have r0 := cell_of_row w2 (w.heap.size) 0 _ _ _ g0
        have r1 := cell_of_row w2 (w.heap.size) 1 _ _ _ g0
        have r2 := cell_of_row w2 (w.heap.size) 2 _ _ _ g0
        simp only [List.getElem?_toArray, List.getElem?_cons_zero, List.getElem?_cons_succ] at r0 r1 r2
        have q0 := cell_of_row w2 (w.heap.size + 1) 0 _ _ _ g1
        have q1 := cell_of_row w2 (w.heap.size + 1) 1 _ _ _ g1
        have q2 := cell_of_row w2 (w.heap.size + 1) 2 _ _ _ g1
        simp only [List.getElem?_toArray, List.getElem?_cons_zero, List.getElem?_cons_succ] at q0 q1 q2
        have f0 := fun o => frozen_of_row w2 w.heap.size o _ _ g0
        have f1 := fun o => frozen_of_row w2 (w.heap.size + 1) o _ _ g1
        have G0 := Lib.hid ((Below.heap_setCell w2 ⟨w.heap.size + 1, 1, none⟩ (.int .i64 n) w.heap.size (by show w.heap.size ≠ w.heap.size + 1; omega)).trans g0)
        have G1 := Lib.hid (set1v (a := .int .i64 n) g1)
        have BS := Lib.hid (below_set0 (o := 1) BX.out (show w.heap.size ≤ w.heap.size + 1 by omega) (.int .i64 n))
        clear g0 g1 hb
        have hV := impl_ValOk ⟨1, n, ⟨#[]⟩⟩ (w2.setCell ⟨w.heap.size + 1, 1, none⟩ (.int .i64 n)) (show (⟨#[]⟩ : ByteArray).size ≤ maxLen by decide)
        rw [HN.out.2] at hV
        have HV := Lib.hid hV
        have hs2 : (w2.setCell ⟨w.heap.size + 1, 1, none⟩ (.int .i64 n)).heap.size = w2.heap.size := by simp [World.setCell]
        clear hV
        go_wp2_with fail
        refine HV.out.mono ?_
        rintro e w3 ⟨rfl, hb3⟩
        clear r0 r1 r2 q0 q1 q2 f0 f1
        have g0 := (hb3.block w.heap.size (by omega)).trans G0.out
        have g1 := (hb3.block (w.heap.size + 1) (by omega)).trans G1.out
        have BX := Lib.hid (BS.out.trans (hb3.mono (by omega)))
        have r0 := cell_of_row w3 (w.heap.size) 0 _ _ _ g0
        have r1 := cell_of_row w3 (w.heap.size) 1 _ _ _ g0
        have r2 := cell_of_row w3 (w.heap.size) 2 _ _ _ g0
        simp only [List.getElem?_toArray, List.getElem?_cons_zero, List.getElem?_cons_succ] at r0 r1 r2
        have q0 := cell_of_row w3 (w.heap.size + 1) 0 _ _ _ g1
        have q1 := cell_of_row w3 (w.heap.size + 1) 1 _ _ _ g1
        have q2 := cell_of_row w3 (w.heap.size + 1) 2 _ _ _ g1
        simp only [List.getElem?_toArray, List.getElem?_cons_zero, List.getElem?_cons_succ] at q0 q1 q2
        have f0 := fun o => frozen_of_row w3 w.heap.size o _ _ g0
        clear g0 g1 hb3 BS G0 G1
        go_wp2_with fail
        refine bodyPost_ret (v := .tuple #[.agg #[.int .i64 1, .int .i64 n, .string ⟨#[]⟩], .bool true]) ?_ rfl ⟨⟨1, n, ⟨#[]⟩⟩, true, rfl, HN.out.1, ?_⟩
        · simp [results, Tryz.results80, go_sem, r0, r1, r2]
        · iterate 3 refine below_set0 ?_ (Nat.le_refl _) _
          exact BX.out
    · have hem : s.toList.isEmpty = false := by
        rw [Lib.toList_data, list_cons hpos]; rfl
      have hpi : (0 : Int) < (s.size : Int) := by omega
      have hbq : ((s[0].toNat : Int) == 39) = false := by
        have := hq2 hpos
        simp
        omega
      clear hq2
      go_enter Tryz.func80, Tryz.ntmps80
      go_wp2_with fail
      rw [HW0.out]
      refine HPN.out.mono ?_
      rintro e w2 ⟨n, ok, rfl, hn, hb⟩
      cases ok
      · have HN := Lib.hid ((valR_num HQ2.out hn).2 rfl)
        clear hn
        have g0 := (hb.block w.heap.size (by omega)).trans G0.out
        have g1 := (hb.block (w.heap.size + 1) (by omega)).trans G1.out
        have BX := Lib.hid (UP.out.trans (hb.mono (by omega)))
        have r0 := cell_of_row w2 (w.heap.size) 0 _ _ _ g0
        have r1 := cell_of_row w2 (w.heap.size) 1 _ _ _ g0
        have r2 := cell_of_row w2 (w.heap.size) 2 _ _ _ g0
        simp only [List.getElem?_toArray, List.getElem?_cons_zero, List.getElem?_cons_succ] at r0 r1 r2
        have q0 := cell_of_row w2 (w.heap.size + 1) 0 _ _ _ g1
        have q1 := cell_of_row w2 (w.heap.size + 1) 1 _ _ _ g1
        have q2 := cell_of_row w2 (w.heap.size + 1) 2 _ _ _ g1
        simp only [List.getElem?_toArray, List.getElem?_cons_zero, List.getElem?_cons_succ] at q0 q1 q2
        have f0 := fun o => frozen_of_row w2 w.heap.size o _ _ g0
        have f1 := fun o => frozen_of_row w2 (w.heap.size + 1) o _ _ g1
        clear g0 g1 hb
        go_wp2_with fail
        refine bodyPost_ret (v := .tuple #[.agg #[.int .i64 0, .int .i64 0, .string ⟨#[]⟩], .bool false]) ?_ rfl ⟨⟨0, 0, ⟨#[]⟩⟩, false, rfl, HN.out, ?_⟩
        · simp [results, Tryz.results80, go_sem, r0, r1, r2]
        · iterate 3 refine below_set0 ?_ (Nat.le_refl _) _
          exact BX.out
      · have HN := Lib.hid ((valR_num HQ2.out hn).1 rfl)
        clear hn
        have hz2 := hb.size
        have g0 := (hb.block w.heap.size (by omega)).trans G0.out
        have g1 := (hb.block (w.heap.size + 1) (by omega)).trans G1.out
        have BX := Lib.hid (UP.out.trans (hb.mono (by omega)))
        have r0 := cell_of_row w2 (w.heap.size) 0 _ _ _ g0
        have r1 := cell_of_row w2 (w.heap.size) 1 _ _ _ g0
        have r2 := cell_of_row w2 (w.heap.size) 2 _ _ _ g0
        simp only [List.getElem?_toArray, List.getElem?_cons_zero, List.getElem?_cons_succ] at r0 r1 r2
        have q0 := cell_of_row w2 (w.heap.size + 1) 0 _ _ _ g1
        have q1 := cell_of_row w2 (w.heap.size + 1) 1 _ _ _ g1
        have q2 := cell_of_row w2 (w.heap.size + 1) 2 _ _ _ g1
        simp only [List.getElem?_toArray, List.getElem?_cons_zero, List.getElem?_cons_succ] at q0 q1 q2
        have f0 := fun o => frozen_of_row w2 w.heap.size o _ _ g0
        have f1 := fun o => frozen_of_row w2 (w.heap.size + 1) o _ _ g1
        have G0 := Lib.hid ((Below.heap_setCell w2 ⟨w.heap.size + 1, 1, none⟩ (.int .i64 n) w.heap.size (by show w.heap.size ≠ w.heap.size + 1; omega)).trans g0)
        have G1 := Lib.hid (set1v (a := .int .i64 n) g1)
        have BS := Lib.hid (below_set0 (o := 1) BX.out (show w.heap.size ≤ w.heap.size + 1 by omega) (.int .i64 n))
        clear g0 g1 hb
        have hV := impl_ValOk ⟨1, n, ⟨#[]⟩⟩ (w2.setCell ⟨w.heap.size + 1, 1, none⟩ (.int .i64 n)) (show (⟨#[]⟩ : ByteArray).size ≤ maxLen by decide)
        rw [HN.out.2] at hV
        have HV := Lib.hid hV
        have hs2 : (w2.setCell ⟨w.heap.size + 1, 1, none⟩ (.int .i64 n)).heap.size = w2.heap.size := by simp [World.setCell]
        clear hV
        go_wp2_with fail
        refine HV.out.mono ?_
        rintro e w3 ⟨rfl, hb3⟩
        clear r0 r1 r2 q0 q1 q2 f0 f1
        have g0 := (hb3.block w.heap.size (by omega)).trans G0.out
        have g1 := (hb3.block (w.heap.size + 1) (by omega)).trans G1.out
        have BX := Lib.hid (BS.out.trans (hb3.mono (by omega)))
        have r0 := cell_of_row w3 (w.heap.size) 0 _ _ _ g0
        have r1 := cell_of_row w3 (w.heap.size) 1 _ _ _ g0
        have r2 := cell_of_row w3 (w.heap.size) 2 _ _ _ g0
        simp only [List.getElem?_toArray, List.getElem?_cons_zero, List.getElem?_cons_succ] at r0 r1 r2
        have q0 := cell_of_row w3 (w.heap.size + 1) 0 _ _ _ g1
        have q1 := cell_of_row w3 (w.heap.size + 1) 1 _ _ _ g1
        have q2 := cell_of_row w3 (w.heap.size + 1) 2 _ _ _ g1
        simp only [List.getElem?_toArray, List.getElem?_cons_zero, List.getElem?_cons_succ] at q0 q1 q2
        have f0 := fun o => frozen_of_row w3 w.heap.size o _ _ g0
        clear g0 g1 hb3 BS G0 G1
        go_wp2_with fail
        refine bodyPost_ret (v := .tuple #[.agg #[.int .i64 1, .int .i64 n, .string ⟨#[]⟩], .bool true]) ?_ rfl ⟨⟨1, n, ⟨#[]⟩⟩, true, rfl, HN.out.1, ?_⟩
        · simp [results, Tryz.results80, go_sem, r0, r1, r2]
        · iterate 3 refine below_set0 ?_ (Nat.le_refl _) _
          exact BX.out
set_option maxRecDepth 20000 in
set_option maxHeartbeats 4000000 in
theorem spec_ParseVal (s : ByteArray) (w : World) (hs : s.size ≤ 1048576) (he : EnvP w) :
    Calls Tryz.prog 91 #[.string s] w fun e w' => ∃ (v : V) (ok : Bool), e = .returned (.tuple #[.agg #[.int .i64 v.ty, .int .i64 v.n, .string v.s], .bool ok]) ∧ ValR s v ok ∧ Below w.heap.size w w' := by
  by_cases hq : ∃ h : 0 < s.size, s[0].toNat = 39
  · obtain ⟨hpos, h39⟩ := hq
    have HR := Lib.hid (valR_quote hpos h39)
    have hem : s.toList.isEmpty = false := by
      rw [Lib.toList_data, list_cons hpos]; rfl
    have hpi : (0 : Int) < (s.size : Int) := by omega
    have h1s : (1 : Int) ≤ (s.size : Int) := by omega
    have hbq : ((s[0].toNat : Int) == 39) = true := by rw [h39]; rfl
    have hsz : (s.extract 1 s.size).size ≤ maxLen := by
      have : (s.extract 1 s.size).size ≤ s.size := by simp
      have h2 : 1048576 ≤ maxLen := by decide
      omega
    have up := up_a2 w (.cells #[.int .i64 0, .int .i64 0, .string ⟨#[]⟩] 24) (.cells #[.int .i64 2, .int .i64 0, .string (s.extract 1 s.size)] 24)
    have G0 := Lib.hid (show ((w.alloc (.cells #[.int .i64 0, .int .i64 0, .string ⟨#[]⟩] 24)).alloc (.cells #[.int .i64 2, .int .i64 0, .string (s.extract 1 s.size)] 24)).heap[w.heap.size]? = some _ from (up_a1 (w.alloc (.cells #[.int .i64 0, .int .i64 0, .string ⟨#[]⟩] 24)) (.cells #[.int .i64 2, .int .i64 0, .string (s.extract 1 s.size)] 24)).block w.heap.size (by simp) |>.trans (heap_alloc_new w _))
    have G1 := Lib.hid (show ((w.alloc (.cells #[.int .i64 0, .int .i64 0, .string ⟨#[]⟩] 24)).alloc (.cells #[.int .i64 2, .int .i64 0, .string (s.extract 1 s.size)] 24)).heap[w.heap.size + 1]? = some (.cells #[.int .i64 2, .int .i64 0, .string (s.extract 1 s.size)] 24) by have h := heap_alloc_new (w.alloc (.cells #[.int .i64 0, .int .i64 0, .string ⟨#[]⟩] 24)) (.cells #[.int .i64 2, .int .i64 0, .string (s.extract 1 s.size)] 24); rw [World.size_alloc] at h; exact h)
    have hs0 : ((w.alloc (.cells #[.int .i64 0, .int .i64 0, .string ⟨#[]⟩] 24)).alloc (.cells #[.int .i64 2, .int .i64 0, .string (s.extract 1 s.size)] 24)).heap.size = w.heap.size + 1 + 1 := by simp
    obtain ⟨W0, hW0⟩ : ∃ W0, ((w.alloc (.cells #[.int .i64 0, .int .i64 0, .string ⟨#[]⟩] 24)).alloc (.cells #[.int .i64 2, .int .i64 0, .string (s.extract 1 s.size)] 24)) = W0 := ⟨_, rfl⟩
    rw [hW0] at up G0 G1 hs0
    have HW0 := Lib.hid hW0
    have UP := Lib.hid up
    clear hW0 up
    have HV := Lib.hid (spec_ValText ⟨2, 0, s.extract 1 s.size⟩ W0 hsz (he.below UP.out).1)
    cases hv : valOk ⟨2, 0, s.extract 1 s.size⟩
    · have HN := Lib.hid (HR.out.2 hv)
      have hne : ((valText ⟨2, 0, s.extract 1 s.size⟩).toList == s.toList) = false := str_ne (by
        rw [valText_no hv]
        intro e
        rw [← e] at hpos
        exact absurd hpos (by decide))
      clear hv HR he h39
      go_enter Tryz.func91, Tryz.ntmps91
      go_wp2_with fail
      rw [HW0.out]
      refine HV.out.mono ?_
      rintro e w2 ⟨rfl, hb⟩
      have g0 := (hb.block w.heap.size (by omega)).trans G0.out
      have g1 := (hb.block (w.heap.size + 1) (by omega)).trans G1.out
      have BX := Lib.hid (UP.out.trans (hb.mono (by omega)))
      have r0 := cell_of_row w2 (w.heap.size) 0 _ _ _ g0
      have r1 := cell_of_row w2 (w.heap.size) 1 _ _ _ g0
      have r2 := cell_of_row w2 (w.heap.size) 2 _ _ _ g0
      simp only [List.getElem?_toArray, List.getElem?_cons_zero, List.getElem?_cons_succ] at r0 r1 r2
      have q0 := cell_of_row w2 (w.heap.size + 1) 0 _ _ _ g1
      have q1 := cell_of_row w2 (w.heap.size + 1) 1 _ _ _ g1
      have q2 := cell_of_row w2 (w.heap.size + 1) 2 _ _ _ g1
      simp only [List.getElem?_toArray, List.getElem?_cons_zero, List.getElem?_cons_succ] at q0 q1 q2
      have f0 := fun o => frozen_of_row w2 w.heap.size o _ _ g0
      have f1 := fun o => frozen_of_row w2 (w.heap.size + 1) o _ _ g1
      clear g0 g1 hb
      go_wp2_with fail
      refine bodyPost_ret (v := .tuple #[.agg #[.int .i64 0, .int .i64 0, .string ⟨#[]⟩], .bool false]) ?_ rfl ⟨⟨0, 0, ⟨#[]⟩⟩, false, rfl, HN.out, ?_⟩
      · simp [results, Tryz.results91, go_sem, r0, r1, r2]
      · iterate 3 refine below_set0 ?_ (Nat.le_refl _) _
        exact BX.out
    · have HN := Lib.hid (HR.out.1 hv)
      have hne : ((valText ⟨2, 0, s.extract 1 s.size⟩).toList == s.toList) = true := str_eq (by
        rcases HN.out with ⟨-, -, h⟩ | ⟨h, -⟩
        · exact h
        · cases h)
      clear hv HR he h39
      go_enter Tryz.func91, Tryz.ntmps91
      go_wp2_with fail
      rw [HW0.out]
      refine HV.out.mono ?_
      rintro e w2 ⟨rfl, hb⟩
      have g0 := (hb.block w.heap.size (by omega)).trans G0.out
      have g1 := (hb.block (w.heap.size + 1) (by omega)).trans G1.out
      have BX := Lib.hid (UP.out.trans (hb.mono (by omega)))
      have r0 := cell_of_row w2 (w.heap.size) 0 _ _ _ g0
      have r1 := cell_of_row w2 (w.heap.size) 1 _ _ _ g0
      have r2 := cell_of_row w2 (w.heap.size) 2 _ _ _ g0
      simp only [List.getElem?_toArray, List.getElem?_cons_zero, List.getElem?_cons_succ] at r0 r1 r2
      have q0 := cell_of_row w2 (w.heap.size + 1) 0 _ _ _ g1
      have q1 := cell_of_row w2 (w.heap.size + 1) 1 _ _ _ g1
      have q2 := cell_of_row w2 (w.heap.size + 1) 2 _ _ _ g1
      simp only [List.getElem?_toArray, List.getElem?_cons_zero, List.getElem?_cons_succ] at q0 q1 q2
      have f0 := fun o => frozen_of_row w2 w.heap.size o _ _ g0
      have f1 := fun o => frozen_of_row w2 (w.heap.size + 1) o _ _ g1
      clear g0 g1 hb
      go_wp2_with fail
      refine bodyPost_ret (v := .tuple #[.agg #[.int .i64 2, .int .i64 0, .string (s.extract 1 s.size)], .bool true]) ?_ rfl ⟨⟨2, 0, (s.extract 1 s.size)⟩, true, rfl, HN.out, ?_⟩
      · simp [results, Tryz.results91, go_sem, r0, r1, r2]
      · iterate 3 refine below_set0 ?_ (Nat.le_refl _) _
        exact BX.out
  · have hq2 : ∀ h : 0 < s.size, s[0].toNat ≠ 39 := fun h h2 => hq ⟨h, h2⟩
    have HQ2 := Lib.hid hq2
    have up := up_a2 w (.cells #[.int .i64 0, .int .i64 0, .string ⟨#[]⟩] 24) (.cells #[.int .i64 1, .int .i64 0, .string ⟨#[]⟩] 24)
    have G0 := Lib.hid (show ((w.alloc (.cells #[.int .i64 0, .int .i64 0, .string ⟨#[]⟩] 24)).alloc (.cells #[.int .i64 1, .int .i64 0, .string ⟨#[]⟩] 24)).heap[w.heap.size]? = some _ from (up_a1 (w.alloc (.cells #[.int .i64 0, .int .i64 0, .string ⟨#[]⟩] 24)) (.cells #[.int .i64 1, .int .i64 0, .string ⟨#[]⟩] 24)).block w.heap.size (by simp) |>.trans (heap_alloc_new w _))
    have G1 := Lib.hid (show ((w.alloc (.cells #[.int .i64 0, .int .i64 0, .string ⟨#[]⟩] 24)).alloc (.cells #[.int .i64 1, .int .i64 0, .string ⟨#[]⟩] 24)).heap[w.heap.size + 1]? = some (.cells #[.int .i64 1, .int .i64 0, .string ⟨#[]⟩] 24) by have h := heap_alloc_new (w.alloc (.cells #[.int .i64 0, .int .i64 0, .string ⟨#[]⟩] 24)) (.cells #[.int .i64 1, .int .i64 0, .string ⟨#[]⟩] 24); rw [World.size_alloc] at h; exact h)
    have hs0 : ((w.alloc (.cells #[.int .i64 0, .int .i64 0, .string ⟨#[]⟩] 24)).alloc (.cells #[.int .i64 1, .int .i64 0, .string ⟨#[]⟩] 24)).heap.size = w.heap.size + 1 + 1 := by simp
    obtain ⟨W0, hW0⟩ : ∃ W0, ((w.alloc (.cells #[.int .i64 0, .int .i64 0, .string ⟨#[]⟩] 24)).alloc (.cells #[.int .i64 1, .int .i64 0, .string ⟨#[]⟩] 24)) = W0 := ⟨_, rfl⟩
    rw [hW0] at up G0 G1 hs0
    have HW0 := Lib.hid hW0
    have UP := Lib.hid up
    clear hW0 up
    have HPN := Lib.hid (spec_ParseNum s W0 hs)
    have HE := Lib.hid he
    clear he hq
    rcases Nat.eq_zero_or_pos s.size with hz | hpos
    · have hem : s.toList.isEmpty = true := by
        have : s.data.toList.length = s.size := by simp
        rw [Lib.toList_data, List.isEmpty_iff, ← List.length_eq_zero_iff]
        omega
      have hz0 : decide ((0 : Int) < (s.size : Int)) = false := decide_eq_false (by omega)
      go_enter Tryz.func91, Tryz.ntmps91
      go_wp2_with fail
      rw [HW0.out]
      refine HPN.out.mono ?_
      rintro e w2 ⟨n, ok, rfl, hn, hb⟩
      have HN := Lib.hid (show ValR s V.zero false from .inr ⟨rfl, rfl, fun u hu e => valText_ne hu (by
        have h : (valText u).data.toList.length = s.size := by rw [e]; simp
        exact List.length_eq_zero_iff.1 (by omega))⟩)
      clear hn
      have g0 := (hb.block w.heap.size (by omega)).trans G0.out
      have g1 := (hb.block (w.heap.size + 1) (by omega)).trans G1.out
      have BX := Lib.hid (UP.out.trans (hb.mono (by omega)))
      have r0 := cell_of_row w2 (w.heap.size) 0 _ _ _ g0
      have r1 := cell_of_row w2 (w.heap.size) 1 _ _ _ g0
      have r2 := cell_of_row w2 (w.heap.size) 2 _ _ _ g0
      simp only [List.getElem?_toArray, List.getElem?_cons_zero, List.getElem?_cons_succ] at r0 r1 r2
      have q0 := cell_of_row w2 (w.heap.size + 1) 0 _ _ _ g1
      have q1 := cell_of_row w2 (w.heap.size + 1) 1 _ _ _ g1
      have q2 := cell_of_row w2 (w.heap.size + 1) 2 _ _ _ g1
      simp only [List.getElem?_toArray, List.getElem?_cons_zero, List.getElem?_cons_succ] at q0 q1 q2
      have f0 := fun o => frozen_of_row w2 w.heap.size o _ _ g0
      have f1 := fun o => frozen_of_row w2 (w.heap.size + 1) o _ _ g1
      clear g0 g1 hb
      go_wp2_with fail
      refine bodyPost_ret (v := .tuple #[.agg #[.int .i64 0, .int .i64 0, .string ⟨#[]⟩], .bool false]) ?_ rfl ⟨⟨0, 0, ⟨#[]⟩⟩, false, rfl, HN.out, ?_⟩
      · simp [results, Tryz.results91, go_sem, r0, r1, r2]
      · iterate 3 refine below_set0 ?_ (Nat.le_refl _) _
        exact below_set0 BX.out (by omega) _
    · have hem : s.toList.isEmpty = false := by
        rw [Lib.toList_data, list_cons hpos]; rfl
      have hpi : (0 : Int) < (s.size : Int) := by omega
      have hbq : ((s[0].toNat : Int) == 39) = false := by
        have := hq2 hpos
        simp
        omega
      clear hq2
      go_enter Tryz.func91, Tryz.ntmps91
      go_wp2_with fail
      rw [HW0.out]
      refine HPN.out.mono ?_
      rintro e w2 ⟨n, ok, rfl, hn, hb⟩
      have hz2 := hb.size
      have g0 := (hb.block w.heap.size (by omega)).trans G0.out
      have g1 := (hb.block (w.heap.size + 1) (by omega)).trans G1.out
      have BX := Lib.hid (UP.out.trans (hb.mono (by omega)))
      have r0 := cell_of_row w2 (w.heap.size) 0 _ _ _ g0
      have r1 := cell_of_row w2 (w.heap.size) 1 _ _ _ g0
      have r2 := cell_of_row w2 (w.heap.size) 2 _ _ _ g0
      simp only [List.getElem?_toArray, List.getElem?_cons_zero, List.getElem?_cons_succ] at r0 r1 r2
      have q0 := cell_of_row w2 (w.heap.size + 1) 0 _ _ _ g1
      have q1 := cell_of_row w2 (w.heap.size + 1) 1 _ _ _ g1
      have q2 := cell_of_row w2 (w.heap.size + 1) 2 _ _ _ g1
      simp only [List.getElem?_toArray, List.getElem?_cons_zero, List.getElem?_cons_succ] at q0 q1 q2
      have f0 := fun o => frozen_of_row w2 w.heap.size o _ _ g0
      have f1 := fun o => frozen_of_row w2 (w.heap.size + 1) o _ _ g1
      have G0 := Lib.hid ((Below.heap_setCell w2 ⟨w.heap.size + 1, 1, none⟩ (.int .i64 n) w.heap.size (by show w.heap.size ≠ w.heap.size + 1; omega)).trans g0)
      have G1 := Lib.hid (set1v (a := .int .i64 n) g1)
      have BS := Lib.hid (below_set0 (o := 1) BX.out (show w.heap.size ≤ w.heap.size + 1 by omega) (.int .i64 n))
      clear g0 g1 hb
      have HV := Lib.hid (spec_ValText ⟨1, n, ⟨#[]⟩⟩ (w2.setCell ⟨w.heap.size + 1, 1, none⟩ (.int .i64 n)) (show (⟨#[]⟩ : ByteArray).size ≤ maxLen by decide) (TabIs.below HE.out.1 BS.out))
      have hs2 : (w2.setCell ⟨w.heap.size + 1, 1, none⟩ (.int .i64 n)).heap.size = w2.heap.size := by simp [World.setCell]
      cases ok
      · have HN := Lib.hid ((valR_num HQ2.out hn).2 rfl)
        have hne : ((valText ⟨1, n, ⟨#[]⟩⟩).toList == s.toList) = false := str_ne (by
          rcases hn with ⟨h, -⟩ | ⟨-, h0, h1⟩
          · cases h
          · subst h0
            exact h1 0 rfl)
        clear hn
        go_wp2_with fail
        refine HV.out.mono ?_
        rintro e w3 ⟨rfl, hb3⟩
        clear r0 r1 r2 q0 q1 q2 f0 f1
        have g0 := (hb3.block w.heap.size (by omega)).trans G0.out
        have g1 := (hb3.block (w.heap.size + 1) (by omega)).trans G1.out
        have BX := Lib.hid (BS.out.trans (hb3.mono (by omega)))
        have r0 := cell_of_row w3 (w.heap.size) 0 _ _ _ g0
        have r1 := cell_of_row w3 (w.heap.size) 1 _ _ _ g0
        have r2 := cell_of_row w3 (w.heap.size) 2 _ _ _ g0
        simp only [List.getElem?_toArray, List.getElem?_cons_zero, List.getElem?_cons_succ] at r0 r1 r2
        have q0 := cell_of_row w3 (w.heap.size + 1) 0 _ _ _ g1
        have q1 := cell_of_row w3 (w.heap.size + 1) 1 _ _ _ g1
        have q2 := cell_of_row w3 (w.heap.size + 1) 2 _ _ _ g1
        simp only [List.getElem?_toArray, List.getElem?_cons_zero, List.getElem?_cons_succ] at q0 q1 q2
        have f0 := fun o => frozen_of_row w3 w.heap.size o _ _ g0
        clear g0 g1 hb3 BS G0 G1
        go_wp2_with fail
        refine bodyPost_ret (v := .tuple #[.agg #[.int .i64 0, .int .i64 0, .string ⟨#[]⟩], .bool false]) ?_ rfl ⟨⟨0, 0, ⟨#[]⟩⟩, false, rfl, HN.out, ?_⟩
        · simp [results, Tryz.results91, go_sem, r0, r1, r2]
        · iterate 3 refine below_set0 ?_ (Nat.le_refl _) _
          exact BX.out
      · have HN := Lib.hid ((valR_num HQ2.out hn).1 rfl)
        have hne : ((valText ⟨1, n, ⟨#[]⟩⟩).toList == s.toList) = true := str_eq (by
          rcases HN.out.1 with ⟨-, -, h⟩ | ⟨h, -⟩
          · exact h
          · cases h)
        clear hn
        go_wp2_with fail
        refine HV.out.mono ?_
        rintro e w3 ⟨rfl, hb3⟩
        clear r0 r1 r2 q0 q1 q2 f0 f1
        have g0 := (hb3.block w.heap.size (by omega)).trans G0.out
        have g1 := (hb3.block (w.heap.size + 1) (by omega)).trans G1.out
        have BX := Lib.hid (BS.out.trans (hb3.mono (by omega)))
        have r0 := cell_of_row w3 (w.heap.size) 0 _ _ _ g0
        have r1 := cell_of_row w3 (w.heap.size) 1 _ _ _ g0
        have r2 := cell_of_row w3 (w.heap.size) 2 _ _ _ g0
        simp only [List.getElem?_toArray, List.getElem?_cons_zero, List.getElem?_cons_succ] at r0 r1 r2
        have q0 := cell_of_row w3 (w.heap.size + 1) 0 _ _ _ g1
        have q1 := cell_of_row w3 (w.heap.size + 1) 1 _ _ _ g1
        have q2 := cell_of_row w3 (w.heap.size + 1) 2 _ _ _ g1
        simp only [List.getElem?_toArray, List.getElem?_cons_zero, List.getElem?_cons_succ] at q0 q1 q2
        have f0 := fun o => frozen_of_row w3 w.heap.size o _ _ g0
        clear g0 g1 hb3 BS G0 G1
        go_wp2_with fail
        refine bodyPost_ret (v := .tuple #[.agg #[.int .i64 1, .int .i64 n, .string ⟨#[]⟩], .bool true]) ?_ rfl ⟨⟨1, n, ⟨#[]⟩⟩, true, rfl, HN.out.1, ?_⟩
        · simp [results, Tryz.results91, go_sem, r0, r1, r2]
        · iterate 3 refine below_set0 ?_ (Nat.le_refl _) _
          exact BX.out
end Go.Proofs.YtjogkbkkcaljhaaGreatDoor
namespace Go.Proofs.YtjogkbkkcaljhaaGreatDoor
open Go.Sort Go.ChangeShapes Go.WideShapes Go.ChangeAt Go.RowKit Go.Lb
/-- A good comparison with this text. -/
def CmpQ (cols : List Int) (s : ByteArray) (p : P) : Prop := p.kind = 2 ∧ formOk cols p = true ∧ (predT p).data.toList = s.data.toList
theorem CmpQ.cut {cols : List Int} {s : ByteArray} {p : P} (h : CmpQ cols s p) : Lib.cut s.data.toList (opText p.op).data.toList = (99 :: Lib.itoa p.col, (valText p.v).data.toList, true) := by
  obtain ⟨h1, h2, h3⟩ := h
  rw [← h3, predT_cmp h1]
  exact cut_cmp (cmp_form h2 h1).2.1
theorem CmpQ.next {cols : List Int} {s : ByteArray} {o : Nat} (h : ∀ p, CmpQ cols s p → (o : Int) ≤ p.op) (h2 : ∀ p, CmpQ cols s p → p.op = (o : Int) → False) : ∀ p, CmpQ cols s p → ((o + 1 : Nat) : Int) ≤ p.op := fun p hp => by
  have h3 := h p hp
  have h4 : p.op ≠ (o : Int) := fun e => h2 p hp e
  omega
theorem CmpQ.num {cols : List Int} {s : ByteArray} {p : P} (hc : cols.length ≤ 1048576) (h : CmpQ cols s p) : isNum p.col = true ∧ valOk p.v = true := by
  obtain ⟨h1, h2, -⟩ := h
  obtain ⟨a, -, b, -⟩ := cmp_form h2 h1
  exact ⟨inR_of (by omega) (by omega), a⟩
theorem cmp_found {cols : List Int} {s : ByteArray} {A B : List UInt8} {o : Nat} {n : Int} {v : V} (ho : 1 ≤ o ∧ o ≤ 6) (hcut : Lib.cut s.data.toList (opText (o : Int)).data.toList = (A, B, true)) (hA : A = 99 :: Lib.itoa n) (hB : B = (valText v).data.toList) (hv : valOk v = true) : CmpR cols s ⟨2, n, (o : Int), v, []⟩ true := by
  intro p' hk hf e
  have h1 := cut_yes hcut
  obtain ⟨c1, c2, c3, c4⟩ := cmp_form hf hk
  have h2 : cmpL n (o : Int) v ++ [] = cmpL p'.col p'.op p'.v ++ [] := by
    rw [predT_cmp hk] at e
    rw [e, h1, hA, hB]
    simp [cmpL]
  obtain ⟨e1, e2, e3, -⟩ := cmp_unique ⟨by omega, by omega⟩ c2 hv c1 (fun b t h => by cases h) (fun b t h => by cases h) h2
  exact ⟨rfl, P_ext hk.symm e1 e2 e3 c4.symm⟩
theorem cmp_none {cols : List Int} {s : ByteArray} (h : ∀ p, CmpQ cols s p → (7 : Int) ≤ p.op) : CmpR cols s ⟨0, 0, 0, V.zero, []⟩ false := by
  intro p' hk hf e
  have h1 := h p' ⟨hk, hf, e⟩
  have := (cmp_form hf hk).2.1
  omega
theorem ba_data (A : List UInt8) : (⟨A.toArray⟩ : ByteArray).data.toList = A := rfl
theorem alloc_oldQ {w : World} {o x : Obj} {k : Nat} (h : w.heap[k]? = some x) : (w.alloc o).heap[k]? = some x := ((up_a1 w o).block k (Array.getElem?_eq_some_iff.1 h).1).trans h
theorem below_drewN {w : World} (n : Nat) : Below w.heap.size w (w.drewN n) := by
  induction n with
  | zero => exact Below.refl _ _
  | succ n ih => exact ih.trans ((Below.refl _ _).drew.mono ih.size)
set_option maxRecDepth 20000 in
set_option maxHeartbeats 8000000 in
theorem impl_parseCompare (cols : List Int) (s : ByteArray) (w : World) (hc : cols.length ≤ 1048576) (hs : s.size ≤ 1048576) (he : EnvP w) :
    Calls Tryz.prog 56 #[.string s] w fun e w' => ∃ (p : P) (ok : Bool), e = .returned (.tuple #[.agg #[.int .i64 p.kind, .int .i64 p.col, .int .i64 p.op, .int .i64 p.v.ty, .int .i64 p.v.n, .string p.v.s, .slice none 0 0], .bool ok]) ∧ CmpR cols s p ok ∧ (p.l = [] ∧ p.v.s.size ≤ 6 ∧ -1000000000 ≤ p.col ∧ p.col ≤ 1000000000) ∧ Below w.heap.size w w' := by
  have up := up_a1 w (.cells #[.int .i64 0, .int .i64 0, .int .i64 0, .int .i64 0, .int .i64 0, .string ⟨#[]⟩, .slice none 0 0] 27)
  have G0 := Lib.hid (heap_alloc_new w (.cells #[.int .i64 0, .int .i64 0, .int .i64 0, .int .i64 0, .int .i64 0, .string ⟨#[]⟩, .slice none 0 0] 27))
  have hs0 : (w.alloc (.cells #[.int .i64 0, .int .i64 0, .int .i64 0, .int .i64 0, .int .i64 0, .string ⟨#[]⟩, .slice none 0 0] 27)).heap.size = w.heap.size + 1 := by simp
  obtain ⟨W0, hW0⟩ : ∃ W0, w.alloc (.cells #[.int .i64 0, .int .i64 0, .int .i64 0, .int .i64 0, .int .i64 0, .string ⟨#[]⟩, .slice none 0 0] 27) = W0 := ⟨_, rfl⟩
  rw [hW0] at up G0 hs0
  have HW0 := Lib.hid hW0
  have UP := Lib.hid up
  have HE := Lib.hid (he.below up)
  clear hW0 up he
  go_enter Tryz.func56, Tryz.ntmps56
  go_wp2_with fail
  rw [HW0.out]
  clear HW0
  go_loopw [4] (fun op wr => ∃ o : Nat, op = .int .i64 o ∧ (1 ≤ o ∧ o ≤ 7) ∧ Hid (∀ p, CmpQ cols s p → (o : Int) ≤ p.op) ∧ Hid (Below W0.heap.size W0 wr)) (fun op _ => 7 - (intOf op).toNat)
  case atStart => exact ⟨1, rfl, ⟨by omega, by omega⟩, Lib.hid (fun p hp => (cmp_form hp.2.1 hp.1).2.1.1), Lib.hid (Below.refl _ _)⟩
  case round =>
    obtain ⟨o, rfl, ho, HQ, Hb⟩ := hrel
    by_cases ho6 : o ≤ 6
    · have hdo : decide ((o : Int) ≤ 6) = true := decide_eq_true (by omega)
      have HO := Lib.hid (impl_OpText (o : Int) wr)
      obtain ⟨A, B, c, hcut⟩ : ∃ A B c, Lib.cut s.data.toList (opText (o : Int)).data.toList = (A, B, c) := ⟨_, _, _, rfl⟩
      have HCut := Lib.hid hcut
      have HF := Lib.hid (show ∀ p, CmpQ cols s p → p.op = (o : Int) → c = true ∧ A = 99 :: Lib.itoa p.col ∧ B = (valText p.v).data.toList from fun p hp e => by
        have h := hp.cut
        rw [e, hcut] at h
        simp only [Prod.mk.injEq] at h
        exact ⟨h.2.2, h.1, h.2.1⟩)
      have hABs : A.length ≤ 1048576 ∧ B.length ≤ 1048576 := by
        unfold Lib.cut at hcut
        have hl : s.data.toList.length = s.size := by simp
        split at hcut
        · simp only [Prod.mk.injEq] at hcut
          obtain ⟨rfl, rfl, -⟩ := hcut
          rw [List.length_take, List.length_drop]
          omega
        · simp only [Prod.mk.injEq] at hcut
          obtain ⟨rfl, rfl, -⟩ := hcut
          exact ⟨by omega, by simp⟩
      clear hcut
      go_wp2_with fail
      refine HO.out.mono ?_
      rintro e w2 ⟨rfl, hb2⟩
      have Hb2 := Lib.hid (Hb.out.trans (hb2.mono Hb.out.size))
      clear hb2 HO
      obtain ⟨m, hm⟩ := (HE.out.below Hb2.out).2.2.2
      have HC := Lib.hid (Tryz.strings_Cut s (opText (o : Int)) m w2 (by omega) hm)
      clear hm
      go_wp2_with fail
      refine HC.out.mono ?_
      clear HC
      rintro e w3 ⟨rfl, k, rfl⟩
      rw [HCut.out]
      have Hb3 := Lib.hid (Hb2.out.trans ((below_drewN (w := w2) k).mono Hb2.out.size))
      generalize w2.drewN k = w3 at *
      obtain ⟨ca, hca⟩ : ∃ ca : ByteArray, ⟨A.toArray⟩ = ca := ⟨_, rfl⟩
      obtain ⟨cb, hcb⟩ : ∃ cb : ByteArray, ⟨B.toArray⟩ = cb := ⟨_, rfl⟩
      have hal : ca.data.toList = A := by rw [← hca]
      have hbl : cb.data.toList = B := by rw [← hcb]
      have hcas : ca.size = A.length := by rw [← hal]; simp
      have hcbs : cb.size = B.length := by rw [← hbl]; simp
      simp only [hca, hcb]
      have hcbl : cb.size ≤ 1048576 := by omega
      have hcal : ca.size ≤ 1048576 := by omega
      have Hcas := Lib.hid hcas
      have Habs := Lib.hid hABs
      clear hca hcb hcas hcbs hABs
      cases c
      · have HX := Lib.hid (CmpQ.next HQ.out fun p hp e => by have := (HF.out p hp e).1; cases this)
        clear hal hbl
        go_wp2_with fail
        go_roundw
        case rel => exact ⟨o + 1, by go_num, ⟨by omega, by omega⟩, HX, Hb3⟩
        case measure => simp [intOf]; omega
      · rcases Nat.eq_zero_or_pos ca.size with hz | hpos
        · have hem : ca.toList.isEmpty = true := by
            rw [Lib.toList_data, List.isEmpty_iff, ← List.length_eq_zero_iff, hal]
            have := Hcas.out
            omega
          have HX := Lib.hid (CmpQ.next HQ.out fun p hp e => by
            have h := (HF.out p hp e).2.1
            have hcas := Hcas.out
            rw [h] at hcas
            simp at hcas
            omega)
          clear hal hbl
          go_wp2_with fail
          go_roundw
          case rel => exact ⟨o + 1, by go_num, ⟨by omega, by omega⟩, HX, Hb3⟩
          case measure => simp [intOf]; omega
        · have hem : ca.toList.isEmpty = false := by
            rw [Lib.toList_data, list_cons hpos]; rfl
          have hpi : (0 : Int) < (ca.size : Int) := by omega
          have hac := list_cons hpos
          rw [hal] at hac
          by_cases h99 : ca[0].toNat = 99
          · have hbq : ((ca[0].toNat : Int) != 99) = false := by rw [h99]; rfl
            have h1s : (1 : Int) ≤ (ca.size : Int) := by omega
            have hA2 : A = 99 :: (ca.extract 1 ca.size).data.toList := by
              rw [ext_list, hal]
              have : ca[0] = 99 := UInt8.toNat_inj.1 h99
              rw [this] at hac
              exact hac
            have HA2 := Lib.hid hA2
            have hes : (ca.extract 1 ca.size).size ≤ 1048576 := by
              have : (ca.extract 1 ca.size).size ≤ ca.size := by simp
              omega
            have HPN := Lib.hid (impl_ParseNum (ca.extract 1 ca.size) w3 hes (HE.out.below Hb3.out))
            have Hbl := Lib.hid hbl
            clear hac hal hA2 hbl
            go_wp2_with fail
            refine HPN.out.mono ?_
            rintro e w4 ⟨n, okn, rfl, hn, hb4⟩
            have Hb4 := Lib.hid (Hb3.out.trans (hb4.mono Hb3.out.size))
            have HN := Lib.hid hn
            have HPV := Lib.hid (impl_ParseVal cb w4 (by omega) (HE.out.below Hb4.out))
            clear hn hb4
            go_wp2_with fail
            refine HPV.out.mono ?_
            rintro e w5 ⟨v, okv, rfl, hv, hb5⟩
            have Hb5 := Lib.hid (Hb4.out.trans (hb5.mono Hb4.out.size))
            have HV := Lib.hid hv
            clear hv hb5
            have HX := Lib.hid (show ¬ (okn = true ∧ okv = true) → ∀ p, CmpQ cols s p → ((o + 1 : Nat) : Int) ≤ p.op from fun hno => CmpQ.next HQ.out fun p hp e => by
              obtain ⟨-, f2, f3⟩ := HF.out p hp e
              obtain ⟨q1, q2⟩ := hp.num hc
              refine hno ⟨(HN.out.of q1 (ba_inj ?_)).1, (HV.out.of q2 (ba_inj ?_)).1⟩
              · have h := HA2.out
                rw [f2] at h
                exact (List.cons.inj h).2
              · rw [Hbl.out]; exact f3.symm)
            have Hup := Lib.hid (Hb5.out.trans ((up_a1 w5 (.cells #[.int .i64 v.ty, .int .i64 v.n, .string v.s] 24)).mono Hb5.out.size))
            cases okn
            · have HX2 := Lib.hid (HX.out (fun h => by cases h.1))
              go_wp2_with fail
              go_roundw
              case rel => exact ⟨o + 1, by go_num, ⟨by omega, by omega⟩, HX2, Hup⟩
              case measure => simp [intOf]; omega
            · cases okv
              · have HX2 := Lib.hid (HX.out (fun h => by cases h.2))
                go_wp2_with fail
                go_roundw
                case rel => exact ⟨o + 1, by go_num, ⟨by omega, by omega⟩, HX2, Hup⟩
                case measure => simp [intOf]; omega
              · have HR := Lib.hid (show CmpR cols s ⟨2, n, (o : Int), v, []⟩ true by
                  rcases HN.out with ⟨-, -, n3⟩ | ⟨n1, -⟩
                  · rcases HV.out with ⟨-, v2, v3⟩ | ⟨v1, -⟩
                    · refine cmp_found ⟨ho.1, ho6⟩ HCut.out ?_ ?_ v2
                      · rw [HA2.out, ← n3, numText_list]
                      · rw [← Hbl.out, v3]
                    · cases v1
                  · cases n1)
                have hvs := HV.out.size
                have hnr := HN.out.rng
                have hz5 := Hb5.out.size
                have g6 := alloc_oldQ (o := (.cells #[.int .i64 v.ty, .int .i64 v.n, .string v.s] 24)) ((Hb5.out.block w.heap.size (by omega)).trans G0.out)
                have g7 := heap_alloc_new w5 (.cells #[.int .i64 v.ty, .int .i64 v.n, .string v.s] 24)
                obtain ⟨W6, hW6⟩ : ∃ W6, w5.alloc (.cells #[.int .i64 v.ty, .int .i64 v.n, .string v.s] 24) = W6 := ⟨_, rfl⟩
                rw [hW6] at g6 g7 Hup
                have HW6 := Lib.hid hW6
                have G6 := Lib.hid g6
                have G7 := Lib.hid g7
                clear hW6 g6 g7 HX
                go_upto_region 9 with fail
                rw [HW6.out]
                clear HW6
                have r0 := cell_of_row W6 (w.heap.size) 0 _ _ _ G6.out
                have r1 := cell_of_row W6 (w.heap.size) 1 _ _ _ G6.out
                have r2 := cell_of_row W6 (w.heap.size) 2 _ _ _ G6.out
                have r3 := cell_of_row W6 (w.heap.size) 3 _ _ _ G6.out
                have r4 := cell_of_row W6 (w.heap.size) 4 _ _ _ G6.out
                have r5 := cell_of_row W6 (w.heap.size) 5 _ _ _ G6.out
                have r6 := cell_of_row W6 (w.heap.size) 6 _ _ _ G6.out
                simp only [List.getElem?_toArray, List.getElem?_cons_zero, List.getElem?_cons_succ] at r0 r1 r2 r3 r4 r5 r6
                have q0 := cell_of_row W6 (w5.heap.size) 0 _ _ _ G7.out
                have q1 := cell_of_row W6 (w5.heap.size) 1 _ _ _ G7.out
                have q2 := cell_of_row W6 (w5.heap.size) 2 _ _ _ G7.out
                simp only [List.getElem?_toArray, List.getElem?_cons_zero, List.getElem?_cons_succ] at q0 q1 q2
                have f0 := fun o => frozen_of_row W6 w.heap.size o _ _ G6.out
                go_wp2_with fail
                refine bodyPost_ret (v := .tuple #[.agg #[.int .i64 2, .int .i64 n, .int .i64 (o : Int), .int .i64 v.ty, .int .i64 v.n, .string v.s, .slice none 0 0], .bool true]) ?_ rfl ⟨⟨2, n, (o : Int), v, []⟩, true, rfl, HR.out, ⟨rfl, hvs, hnr.1, hnr.2⟩, ?_⟩
                · simp [results, Tryz.results56, go_sem, r0, r1, r2, r3, r4, r5, r6]
                · iterate 7 refine below_set0 ?_ (Nat.le_refl _) _
                  exact UP.out.trans (Hup.out.mono (by omega))
          · have hbq : ((ca[0].toNat : Int) != 99) = true := by simp; omega
            have HX := Lib.hid (CmpQ.next HQ.out fun p hp e => by
              have h := (HF.out p hp e).2.1
              rw [h] at hac
              injection hac with hac _
              exact h99 (by rw [← hac]; rfl))
            clear hal hbl hac
            go_wp2_with fail
            go_roundw
            case rel => exact ⟨o + 1, by go_num, ⟨by omega, by omega⟩, HX, Hb3⟩
            case measure => simp [intOf]; omega
    · obtain rfl : o = 7 := by omega
      have HR := Lib.hid (cmp_none (cols := cols) (s := s) HQ.out)
      have hg := (Hb.out.block w.heap.size (by omega)).trans G0.out
      have r0 := cell_of_row wr (w.heap.size) 0 _ _ _ hg
      have r1 := cell_of_row wr (w.heap.size) 1 _ _ _ hg
      have r2 := cell_of_row wr (w.heap.size) 2 _ _ _ hg
      have r3 := cell_of_row wr (w.heap.size) 3 _ _ _ hg
      have r4 := cell_of_row wr (w.heap.size) 4 _ _ _ hg
      have r5 := cell_of_row wr (w.heap.size) 5 _ _ _ hg
      have r6 := cell_of_row wr (w.heap.size) 6 _ _ _ hg
      simp only [List.getElem?_toArray, List.getElem?_cons_zero, List.getElem?_cons_succ] at r0 r1 r2 r3 r4 r5 r6
      have f0 := fun o => frozen_of_row wr w.heap.size o _ _ hg
      clear hg
      go_wp2_with fail
      refine bodyPost_ret (v := .tuple #[.agg #[.int .i64 0, .int .i64 0, .int .i64 0, .int .i64 0, .int .i64 0, .string ⟨#[]⟩, .slice none 0 0], .bool false]) ?_ rfl ⟨⟨0, 0, 0, V.zero, []⟩, false, rfl, HR.out, ⟨rfl, by decide, by decide, by decide⟩, ?_⟩
      · simp [results, Tryz.results56, go_sem, r0, r1, r2, r3, r4, r5, r6]
      · iterate 7 refine below_set0 ?_ (Nat.le_refl _) _
        exact UP.out.trans (Hb.out.mono (by omega))
end Go.Proofs.YtjogkbkkcaljhaaGreatDoor
namespace Go.Proofs.YtjogkbkkcaljhaaGreatDoor
open Go.Sort Go.ChangeShapes Go.WideShapes Go.ChangeAt Go.RowKit Go.Lb
set_option maxRecDepth 20000 in
set_option maxHeartbeats 4000000 in
theorem indexRune_high (r : Int) (h0 : 128 ≤ r) (h1 : r ≤ 2147483647) (w : World) :
    Calls Tryz.prog 74 #[.string ⟨#[44, 41]⟩, .int .i32 r] w fun e w' => e = .returned (.int .i64 (-1)) ∧ Below w.heap.size w w' := by
  have d0 : decide ((0 : Int) ≤ r) = true := decide_eq_true (by omega)
  have d1 : decide (r < 128) = false := decide_eq_false (by omega)
  by_cases he : r = 65533
  · subst he
    clear d0 d1 h0 h1
    have hn0 := fun ty => run_next_ascii (P := Tryz.prog) w ⟨#[44, 41]⟩ 0 ty (by decide) (by decide)
    have hn1 := fun ty => run_next_ascii (P := Tryz.prog) w ⟨#[44, 41]⟩ 1 ty (by decide) (by decide)
    have hn2 := run_next_end (P := Tryz.prog) w ⟨#[44, 41]⟩ 2
    go_enter Tryz.func74, Tryz.ntmps74
    go_wp2_with fail
    go_loopg [5, 6] 2 (fun g _ _ wx => ∃ i : Nat, i + g = 2 ∧ wx = w.iter ⟨#[44, 41]⟩ i)
    case atStart => exact ⟨0, rfl, rfl⟩
    case round =>
      obtain ⟨i, hig, rfl⟩ := hrel
      rcases (by omega : (i = 0 ∧ gk = 2) ∨ (i = 1 ∧ gk = 1) ∨ (i = 2 ∧ gk = 0)) with ⟨rfl, rfl⟩ | ⟨rfl, rfl⟩ | ⟨rfl, rfl⟩
      · clear hn1 hn2
        go_wp2_with fail
        go_roundg 1
        case measure => omega
        case rel => exact ⟨1, rfl, rfl⟩
      · clear hn0 hn2
        go_wp2_with fail
        go_roundg 0
        case measure => omega
        case rel => exact ⟨2, rfl, rfl⟩
      · clear hn0 hn1
        have hn3 := fun ty => hn2 ty (by decide)
        clear hn2
        go_wp2_with fail
        go_ret
        exact ⟨rfl, (Below.refl _ _).alloc (Nat.le_refl _) _⟩
  · have hb : (r == 65533) = false := by simpa using he
    cases hv : Lib.validRune r
    · go_enter Tryz.func74, Tryz.ntmps74
      go_wp2_with (go_at_call 94; refine (Tryz.utf8_ValidRune r _).mono ?_; rintro e w' ⟨rfl, rfl⟩; rw [hv])
      go_ret
      exact ⟨rfl, Below.refl _ _⟩
    · have hvu : Utf8.valid r = true := by
        rw [validRune_eq]
        exact hv
      obtain ⟨e1, e2, e3⟩ := encode_facts r hvu h0
      obtain ⟨rs, hrs⟩ : ∃ rs, Utf8.encode r = rs := ⟨_, rfl⟩
      rw [hrs] at e1 e2 e3
      clear hvu he
      by_cases hs2 : rs.size = 2
      · have hsz : (rs.size : Int) = 2 := by omega
        have hr1 : (1 : Nat) < rs.size := by omega
        have h128 : 128 ≤ rs[1].toNat := by
          have h := e3 (by omega)
          have e : rs.size - 1 = 1 := by omega
          simp only [e] at h
          exact h
        have hlt : rs[1].toNat < 256 := rs[1].toNat_lt
        have hne : ((((⟨#[44, 41]⟩ : ByteArray)[1].toNat : Nat) : Int) != (rs[1].toNat : Int)) = true := by
          have e : (⟨#[44, 41]⟩ : ByteArray)[1].toNat = 41 := rfl
          rw [e]
          simp
          omega
        clear e3
        go_enter Tryz.func74, Tryz.ntmps74
        go_wp2_with (go_at_call 94; refine (Tryz.utf8_ValidRune r _).mono ?_; rintro e w' ⟨rfl, rfl⟩; rw [hv])
        go_step3
        go_wp2_with fail
        go_loop [9, 10] (fun i f => i = .int .i64 1 ∧ f = .int .i64 0) (fun _ _ => 0)
        case atStart => exact ⟨rfl, rfl⟩
        case round =>
          obtain ⟨rfl, rfl⟩ := hrel
          go_wp2_with fail
          go_step3
          go_wp2_with fail
          go_region
          go_upto_region 7 with fail
          go_region_with (go_at_call 93; refine (Tryz.strings_IndexByte _ _ _).mono ?_; rintro e w2 ⟨rfl, rfl⟩)
          all_goals
            have hix : Lib.indexByte [] rs[1] = -1 := rfl
            go_wp2_with fail
            simp +zetaDelta only [Exit.inBlock, Exit.then, Exit.noGoto_ret]
            go_ret
            exact ⟨rfl, (Below.refl _ _).drew.drew⟩
      · have hge : decide ((rs.size : Int) - 1 < 2) = false := decide_eq_false (by omega)
        clear e3
        go_enter Tryz.func74, Tryz.ntmps74
        go_wp2_with (go_at_call 94; refine (Tryz.utf8_ValidRune r _).mono ?_; rintro e w' ⟨rfl, rfl⟩; rw [hv])
        go_step3
        go_wp2_with fail
        go_loop [9, 10] (fun i f => i = .int .i64 ((rs.size : Int) - 1) ∧ f = .int .i64 0) (fun _ _ => 0)
        case atStart => exact ⟨rfl, rfl⟩
        case round =>
          obtain ⟨rfl, rfl⟩ := hrel
          go_wp2_with fail
          try rw [Exit.noGoto_ret]
          go_ret
          exact ⟨rfl, Below.refl _ _⟩
theorem decode_conts (s : ByteArray) (pos : Nat) : ∀ k, 1 ≤ k → k < (Utf8.decode s pos).2 → pos + k < s.size ∧ 128 ≤ (s.get! (pos + k)).toNat := by
  intro k h1
  simp only [Utf8.decode]
  repeat' split
  all_goals intro h2
  all_goals
    simp only [Bool.and_eq_true, decide_eq_true_eq, beq_iff_eq] at *
    first
      | omega
      | (rcases (by omega : k = 1 ∨ k = 2 ∨ k = 3) with rfl | rfl | rfl <;> first | omega | (constructor <;> omega))
theorem get_bang {s : ByteArray} {k : Nat} (h : k < s.size) : s.get! k = s[k] := by
  simp [ByteArray.get!, getElem!_pos, h]
  rfl
theorem not_looked {b : UInt8} (h : 128 ≤ b.toNat) : ([44, 41] : List UInt8).contains b = false := by
  cases hc : ([44, 41] : List UInt8).contains b
  · rfl
  · exfalso
    simp only [List.contains_cons, List.contains_nil, Bool.or_false, Bool.or_eq_true, beq_iff_eq] at hc
    rcases hc with rfl | rfl <;> simp at h
theorem NoAny_rune {s : ByteArray} {i : Nat} (hi : i < s.size) (h : Lib.NoAny s.data.toList [44, 41] i) (h128 : ¬ s[i].toNat < 128) : Lib.NoAny s.data.toList [44, 41] (i + (Utf8.decode s i).2) := by
  intro j b hj hb
  by_cases hji : j < i
  · exact h j b hji hb
  · have hjs : j < s.size := by
      have := (List.getElem?_eq_some_iff.1 hb).1
      simpa using this
    have hbj := get_byte s j hjs
    rw [hb] at hbj
    injection hbj with hbj
    subst hbj
    apply not_looked
    by_cases e : j = i
    · subst e; omega
    · have h1 := (decode_conts s i (j - i) (by omega) (by omega)).2
      rw [show i + (j - i) = j by omega, get_bang hjs] at h1
      exact h1
/-- The next rune of a text that is gone through, in any world. -/
theorem next_some {P : Program} {W : World} {b pos : Nat} {s : ByteArray} (hb : W.heap[b]? = some (.stringIter s pos)) (h : pos < s.size) :
    ∃ W1, (∀ ty, (Instr.next (.pointer (some ⟨b, 0, none⟩)) true ty).run P W = .ok (.tuple #[.bool true, .int .i64 pos, .int .i32 (Utf8.decode s pos).1]) W1) ∧ W1.heap[b]? = some (.stringIter s (pos + (Utf8.decode s pos).2)) ∧ Below b W W1 := by
  have hlt : b < W.heap.size := (Array.getElem?_eq_some_iff.1 hb).1
  refine ⟨{ W with heap := W.heap.setIfInBounds b (.stringIter s (pos + (Utf8.decode s pos).2)) }, fun ty => ?_, ?_, rfl, rfl, rfl, by simp, fun k hk => ?_⟩
  · simp only [Instr.next, getObj, setObj, Sem.run_bind, Sem.run, hb, Result.andThen, h, if_true]
    simp [goInt]
  · simp [hlt]
  · show (W.heap.setIfInBounds b _)[k]? = _
    rw [Array.getElem?_setIfInBounds]
    rw [if_neg (by omega)]
theorem next_none {P : Program} {W : World} {b pos : Nat} {s : ByteArray} (hb : W.heap[b]? = some (.stringIter s pos)) (h : ¬ pos < s.size) :
    ∀ ty, (Instr.next (.pointer (some ⟨b, 0, none⟩)) true ty).run P W = .ok (.tuple #[.bool false]) W := fun ty => by
  simp [Instr.next, getObj, Sem.run, hb, h]
set_option maxRecDepth 20000 in
set_option maxHeartbeats 4000000 in
/-- A short text: each rune that is no ASCII byte is not looked for. -/
theorem indexAny_short (s : ByteArray) (w : World) (h8 : s.size ≤ 8) :
    Calls Tryz.prog 55 #[.string s, .string ⟨#[44, 41]⟩] w fun e w' => e = .returned (.int .i64 (Lib.indexAny s.data.toList [44, 41])) ∧ Below w.heap.size w w' := by
  have h8z : decide ((8 : Int) < (s.size : Int)) = false := decide_eq_false (by omega)
  have HSL := Lib.hid (show s.data.toList.length = s.size by simp)
  go_enter Tryz.func55, Tryz.ntmps55
  go_wp2_with (go_at_call 75; refine (Tryz.strings_shouldUseASCIISet _ _).mono ?_; rintro e w' ⟨rfl, hw⟩; rw [hw, h8z])
  go_loopg [9, 10] s.size (fun g _ _ wx => ∃ i : Nat, s.size ≤ i + g ∧ Hid (wx.heap[w.heap.size]? = some (.stringIter s i)) ∧ Hid (Below w.heap.size w wx) ∧ Hid (Lib.NoAny s.data.toList [44, 41] i))
  case atStart => exact ⟨0, by omega, Lib.hid (World.iter_heap w s 0), Lib.hid ((Below.refl _ _).alloc (Nat.le_refl _) _), Lib.hid (Lib.NoAny.zero _ _)⟩
  case round =>
    obtain ⟨i, hig, HI, HB, HN⟩ := hrel
    by_cases hlt : i < s.size
    · have hxl := get_byte s i hlt
      have hs1 := Lib.hid hxl
      obtain ⟨W1, hnx, hc1, hb1⟩ := next_some (P := Tryz.prog) HI.out hlt
      have HC1 := Lib.hid hc1
      have HB1 := Lib.hid (HB.out.trans hb1)
      have hsz1 := Lib.hid (Array.getElem?_eq_some_iff.1 hc1).1
      clear hc1 hb1
      by_cases h128 : s[i].toNat < 128
      · rw [decode_ascii s i hlt h128] at hnx HC1
        simp only at hnx
        have HC := fun W => Tryz.strings_IndexRune_ascii ⟨#[44, 41]⟩ (s[i].toNat : Int) W (by omega) (by omega)
        have hback : ((s[i].toNat : Int)).toNat.toUInt8 = s[i] := by simp
        simp only [hback] at HC
        have hcon := Lib.contains_iff_indexByte [44, 41] s[i]
        clear hxl hback
        cases hin : ([44, 41] : List UInt8).contains s[i]
        · rw [hin] at hcon
          have hlt0 : ¬ ((0 : Int) ≤ Lib.indexByte [44, 41] s[i]) := of_decide_eq_false hcon.symm
          have HX := Lib.hid (HN.out.succ hs1.out hin)
          clear hcon h128
          go_wp2_with (go_at_call 74; refine (HC _).mono ?_; rintro e w2 ⟨rfl, hw⟩; rw [hw])
          go_roundg (gk - 1)
          case measure => omega
          case rel => exact ⟨i + 1, by omega, HC1, HB1, HX⟩
        · rw [hin] at hcon
          have hge : (0 : Int) ≤ Lib.indexByte [44, 41] s[i] := of_decide_eq_true hcon.symm
          have HX := Lib.hid (Lib.indexAny_hit HN.out hs1.out hin)
          clear hcon h128
          go_wp2_with (go_at_call 74; refine (HC _).mono ?_; rintro e w2 ⟨rfl, hw⟩; rw [hw])
          go_ret
          exact ⟨by rw [HX.out]; rfl, HB1.out⟩
      · have hd := decode_high s i hlt (by omega)
        have hl := decode_le s i
        have HX := Lib.hid (NoAny_rune hlt HN.out h128)
        obtain ⟨⟨r, n⟩, hrn⟩ : ∃ rn, Utf8.decode s i = rn := ⟨_, rfl⟩
        rw [hrn] at hd hl hnx HX HC1
        simp only at hd hl hnx
        have HC := fun W => indexRune_high (r : Int) (by omega) (by omega) W
        clear hxl hrn h128
        go_wp2_with (go_at_call 74; refine (HC _).mono ?_; rintro e w2 ⟨rfl, hb2⟩)
        go_roundg (gk - 1)
        case measure => omega
        case rel => exact ⟨i + n, by omega, Lib.hid ((hb2.block _ hsz1.out).trans HC1.out), Lib.hid (HB1.out.trans (hb2.mono HB1.out.size)), HX⟩
    · have HX := Lib.hid (Lib.indexAny_none (s := s.data.toList) (chars := [44, 41]) (fun j b hj hb => HN.out j b (by have := HSL.out; omega) hb))
      have hnx := next_none (P := Tryz.prog) HI.out hlt
      go_wp2_with fail
      go_ret
      exact ⟨by rw [HX.out]; rfl, HB.out⟩
theorem zero_set : ∀ w, (zeroValue 107).run Tryz.prog w = .ok (.agg (Array.replicate 256 (.bool false))) w := (zero_of_info (n := 256) (by kernel_rfl)).1
/-- Where the first comma or bracket stands. -/
theorem indexAny_c (s : ByteArray) (w : World) (hs : s.size ≤ 1048576) :
    Calls Tryz.prog 55 #[.string s, .string ⟨#[44, 41]⟩] w fun e w' => e = .returned (.int .i64 (Lib.indexAny s.data.toList [44, 41])) ∧ Below w.heap.size w w' := by
  by_cases h8 : s.size ≤ 8
  · exact indexAny_short s w h8
  · refine (Tryz.strings_IndexAny_long zero_set s ⟨#[44, 41]⟩ w (by decide) (by omega) (by omega) (by decide) (fun j b hb => ?_)).mono fun e w' ⟨h1, h2⟩ => ⟨h1, ?_⟩
    · have hm := List.mem_of_getElem? hb
      have : b = 44 ∨ b = 41 := by simpa using hm
      rcases this with rfl | rfl <;> decide
    · rw [h2]
      exact ((Below.refl _ _).alloc (Nat.le_refl _) _).alloc (by simp) _
end Go.Proofs.YtjogkbkkcaljhaaGreatDoor
