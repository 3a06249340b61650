/- Equal bytes; is a decoding right: contracts. -/
import Derived.Test.YtnldneogjdljkaaNE
import Derived.Test.YtnldneogjdljkaaSh
namespace Go.Lb
open Go.RowKit
theorem conv_none {P : Program} {src dst e : TypeId} (hs : P.underlying src = some (.slice e)) (he : P.underlying e = some (.int .u8)) (hd : P.underlying dst = some .string) (w : World) (c : Nat) :
    (convert src dst (.slice none 0 c)).run P w = .ok (.string ⟨([] : List UInt8).toArray⟩) w := by
  rw [run_convert_bytes_string w src dst e _ _ _ hs he hd]
  simp [Conv.bytesToString]
  rfl
theorem RdB.conv {P : Program} {src dst e : TypeId} (hs : P.underlying src = some (.slice e)) (he : P.underlying e = some (.int .u8)) (hd : P.underlying dst = some .string) {w : World} {lo hi n c : Nat} {A : Option Addr} {l : List UInt8} (h : RdB w lo hi (.slice A n c) l) :
    (convert src dst (.slice A n c)).run P w = .ok (.string ⟨l.toArray⟩) w := by
  obtain ⟨A', c', e1, hn, hc, hE⟩ := h
  injection e1 with e1 e2 e3
  subst e1 e2 e3
  cases A with
  | none =>
    have hl : l = [] := by
      cases l with
      | nil => rfl
      | cons a l =>
        obtain ⟨b, off, ha, -⟩ := hE 0 (by simp)
        cases ha
    subst hl
    exact conv_none hs he hd w c
  | some ad =>
    cases l with
    | nil =>
      obtain ⟨b, off, tag⟩ := ad
      rw [run_convert_bytes_string w src dst e _ _ _ hs he hd]
      have hld := run_loadCells_list (P := P) (w := w) ⟨b, off, tag⟩ [] (fun j v hv => by simp at hv)
      rw [show ([] : List UInt8).length = 0 from rfl, run_bytesToString (P := P) w ⟨b, off, tag⟩ 0 c [] hld]
      rfl
    | cons x l =>
      obtain ⟨b, off, ha, -⟩ := hE 0 (by simp)
      injection ha with ha
      subst ha
      refine conv_bytes hs he hd w b off _ c _ rfl fun j y hj => ?_
      obtain ⟨b', off', ha, -, -, z, hz, hcell⟩ := hE j (List.getElem?_eq_some_iff.1 hj).1
      injection ha with ha
      injection ha with ha1 ha2
      subst ha1 ha2
      rw [hj] at hz
      injection hz with hz
      subst hz
      rw [Nat.mul_one] at hcell
      exact hcell
theorem ba_toList (l : List UInt8) : (⟨l.toArray⟩ : ByteArray).toList = l := by
  rw [Lib.toList_data]
theorem beq_eqd (a b : List UInt8) : (a == b) = eqd a b := by
  unfold eqd
  rw [Bool.eq_iff_iff]
  simp
end Go.Lb
namespace Go.Proofs.Ytnldneogjdljkaa
open Go.Sort Go.ChangeShapes Go.WideShapes Go.ChangeAt Go.RowKit Go.Lb
set_option maxHeartbeats 1000000 in
theorem q_spec_l5Same (a b : List UInt8) (x y : Value) (w : World) {l1 h1 l2 h2 : Nat} (hx : RdB w l1 h1 x a) (hy : RdB w l2 h2 y b) :
    Calls Try.prog 88 #[x, y] w fun e w' => e = .returned (.bool (eqd a b)) ∧ w = w' := by
  obtain ⟨A, c, rfl, -, -⟩ := hx.form
  obtain ⟨A2, c2, rfl, -, -⟩ := hy.form
  have c1 := hx.conv Try.underlying22 Try.underlying5 Try.underlying9
  have c2 := hy.conv Try.underlying22 Try.underlying5 Try.underlying9
  have H := Lib.hid (show ((⟨a.toArray⟩ : ByteArray).toList == (⟨b.toArray⟩ : ByteArray).toList) = eqd a b by rw [ba_toList, ba_toList, beq_eqd])
  generalize (⟨a.toArray⟩ : ByteArray) = s at c1 H
  generalize (⟨b.toArray⟩ : ByteArray) = t at c2 H
  clear hx hy
  go_enter Try.func88, Try.ntmps88
  go_wp2_with fail
  go_ret
  exact ⟨ret_bool H.out, rfl⟩
theorem q_bytes_Equal (a b : List UInt8) (x y : Value) (w : World) {l1 h1 l2 h2 : Nat} (hx : RdB w l1 h1 x a) (hy : RdB w l2 h2 y b) :
    Calls Try.prog 105 #[x, y] w fun e w' => e = .returned (.bool (eqd a b)) ∧ w = w' := by
  obtain ⟨A, c, rfl, -, -⟩ := hx.form
  obtain ⟨A2, c2, rfl, -, -⟩ := hy.form
  refine (Go.Proofs.Try.bytes_Equal_strs _ _ _ _ w (hx.conv Try.underlying22 Try.underlying5 Try.underlying9) (hy.conv Try.underlying22 Try.underlying5 Try.underlying9)).mono ?_
  rintro e w' ⟨rfl, rfl⟩
  exact ⟨ret_bool (by rw [ba_toList, ba_toList, beq_eqd]), rfl⟩
def decRes (ok : Bool) (v : Value) : Value := if ok then v else .slice none 0 0
def decOk (b enc : List UInt8) (k : Int) (n : Nat) : Bool := inR k 1 64 && (decide ((n : Int) = k) && eqd b enc)
set_option maxHeartbeats 2000000 in
set_option maxRecDepth 20000 in
theorem q_impl_decoded (b enc : List UInt8) (x y : Value) (k : Int) (A : Option Addr) (n c : Nat) (w : World) {l1 h1 l2 h2 : Nat} (hx : RdB w l1 h1 x b) (hy : RdB w l2 h2 y enc) :
    Calls Try.prog 89 #[x, .int .i64 k, .slice A n c, y] w fun e w' => e = .returned (.tuple #[decRes (decOk b enc k n) (.slice A n c), .bool (decOk b enc k n)]) ∧ w = w' := by
  obtain ⟨A1, c1, rfl, -, -⟩ := hx.form
  obtain ⟨A2, c2, rfl, -, -⟩ := hy.form
  have hQ := q_impl_within k 1 64 w
  have hE := Lib.hid (q_bytes_Equal b enc _ _ w hx hy)
  cases h1 : inR k 1 64
  · rw [h1] at hQ
    have HQ := Lib.hid hQ
    have HG := Lib.hid (show decOk b enc k n = false by rw [decOk, h1]; rfl)
    clear h1 hQ
    go_enter Try.func89, Try.ntmps89
    go_wp2_with fail
    refine HQ.out.mono ?_
    rintro e w1 ⟨rfl, rfl⟩
    go_wp2_with fail
    refine bodyPost_ret (v := .tuple #[.slice none 0 0, .bool false]) (by simp [results, Try.results89, go_sem]) rfl ⟨by rw [HG.out]; rfl, rfl⟩
  · rw [h1] at hQ
    have HQ := Lib.hid hQ
    by_cases h2 : (n : Int) = k
    · have hd : ((n : Int) != k) = false := by simp [h2]
      have HG0 := Lib.hid (show decOk b enc k n = eqd b enc by rw [decOk, h1, decide_eq_true h2]; rfl)
      clear h1 hQ h2
      cases h3 : eqd b enc
      · rw [h3] at hE
        have HG := Lib.hid (HG0.out.trans h3)
        clear h3
        go_enter Try.func89, Try.ntmps89
        go_wp2_with fail
        refine HQ.out.mono ?_
        rintro e w1 ⟨rfl, rfl⟩
        go_wp2_with fail
        refine hE.out.mono ?_
        rintro e w1 ⟨rfl, rfl⟩
        go_wp2_with fail
        refine bodyPost_ret (v := .tuple #[.slice none 0 0, .bool false]) (by simp [results, Try.results89, go_sem]) rfl ⟨by rw [HG.out]; rfl, rfl⟩
      · rw [h3] at hE
        have HG := Lib.hid (HG0.out.trans h3)
        clear h3
        go_enter Try.func89, Try.ntmps89
        go_wp2_with fail
        refine HQ.out.mono ?_
        rintro e w1 ⟨rfl, rfl⟩
        go_wp2_with fail
        refine hE.out.mono ?_
        rintro e w1 ⟨rfl, rfl⟩
        go_wp2_with fail
        refine bodyPost_ret (v := .tuple #[.slice A n c, .bool true]) (by simp [results, Try.results89, go_sem]) rfl ⟨by rw [HG.out]; rfl, rfl⟩
    · have hd : ((n : Int) != k) = true := by simp [h2]
      have HG := Lib.hid (show decOk b enc k n = false by rw [decOk, decide_eq_false h2]; simp)
      clear h1 hQ h2
      go_enter Try.func89, Try.ntmps89
      go_wp2_with fail
      refine HQ.out.mono ?_
      rintro e w1 ⟨rfl, rfl⟩
      go_wp2_with fail
      refine bodyPost_ret (v := .tuple #[.slice none 0 0, .bool false]) (by simp [results, Try.results89, go_sem]) rfl ⟨by rw [HG.out]; rfl, rfl⟩
end Go.Proofs.Ytnldneogjdljkaa
