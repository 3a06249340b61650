/- Frame-of-reference decodings: contracts. -/
import Derived.Test.YtnldneogjdljkaaNI
import Derived.Test.YtnldneogjdljkaaNJ
import Derived.Test.YtnldneogjdljkaaNK
namespace Go.Lb
open Go.RowKit
theorem RdB.drop {w : World} {lo hi b off n c k : Nat} {l : List UInt8} (h : RdB w lo hi (.slice (some ⟨b, off, none⟩) n c) l) (hk : k ≤ l.length) : RdB w lo hi (.slice (some ⟨b, off + k, none⟩) (l.length - k) (c - k)) (l.drop k) := by
  obtain ⟨A', c', e1, hn, hc, hE⟩ := h
  injection e1 with e1 e2 e3
  subst e1 e3
  refine ⟨some ⟨b, off + k, none⟩, c - k, by rw [List.length_drop], by rw [List.length_drop]; omega, by omega, fun i hi' => ?_⟩
  rw [List.length_drop] at hi'
  obtain ⟨b', off', ha, hl, hh, x, hx, h0⟩ := hE (k + i) (by omega)
  injection ha with ha
  injection ha with ha1 ha2
  subst ha1 ha2
  refine ⟨b, off + k, rfl, hl, hh, x, by rw [List.getElem?_drop]; exact hx, ?_⟩
  rw [← h0]
  congr 2
  omega
theorem RdB.dropIf {w : World} {lo hi b off n c k : Nat} {l : List UInt8} (h : RdB w lo hi (.slice (some ⟨b, off, none⟩) n c) l) (hk : k ≤ l.length) (hc : l.length ≤ c) : RdB w lo hi (.slice (if c = k then some ⟨b, off, none⟩ else some ⟨b, off + k, none⟩) (l.length - k) (c - k)) (l.drop k) := by
  split
  · have e : l.drop k = [] := List.drop_eq_nil_of_le (by omega)
    rw [e, show l.length - k = 0 by omega, show c - k = 0 by omega]
    exact ⟨_, 0, rfl, Nat.le_refl _, by simp [maxLen], fun j hj => by simp at hj⟩
  · exact h.drop hk
def decFrame (b : List UInt8) (k : Int) : Option (List V) := match rdNum b with
  | none => none
  | some (n, p) => match b[p]? with
    | none => none
    | some c => match unpackB (b.drop (p + 1)) (c.toNat : Int) k with
      | none => none
      | some q => match raisedQ n q with
        | none => none
        | some l => if inR k 1 64 && eqd (encFrame l) b then some l else none
theorem decF_1 {b : List UInt8} {k : Int} (h : rdNum b = none) : decFrame b k = none := by simp only [decFrame, h]
theorem decF_2 {b : List UInt8} {k n : Int} {p : Nat} (h : rdNum b = some (n, p)) (h2 : b[p]? = none) : decFrame b k = none := by simp only [decFrame, h, h2]
theorem decF_3 {b : List UInt8} {k n : Int} {p : Nat} {c : UInt8} (h : rdNum b = some (n, p)) (h2 : b[p]? = some c) (h3 : unpackB (b.drop (p + 1)) (c.toNat : Int) k = none) : decFrame b k = none := by simp only [decFrame, h, h2, h3]
theorem decF_4 {b : List UInt8} {k n : Int} {p : Nat} {c : UInt8} {q : List Int} (h : rdNum b = some (n, p)) (h2 : b[p]? = some c) (h3 : unpackB (b.drop (p + 1)) (c.toNat : Int) k = some q) (h4 : raisedQ n q = none) : decFrame b k = none := by simp only [decFrame, h, h2, h3, h4]
theorem decF_5 {b : List UInt8} {k n : Int} {p : Nat} {c : UInt8} {q : List Int} {l : List V} (h : rdNum b = some (n, p)) (h2 : b[p]? = some c) (h3 : unpackB (b.drop (p + 1)) (c.toNat : Int) k = some q) (h4 : raisedQ n q = some l) : decFrame b k = if inR k 1 64 && eqd (encFrame l) b then some l else none := by simp only [decFrame, h, h2, h3, h4]
theorem decF_k {b : List UInt8} {k : Int} (h : inR k 1 64 = false) : decFrame b k = none := by
  unfold decFrame
  split
  · rfl
  · split
    · rfl
    · split
      · rfl
      · split
        · rfl
        · rw [h]; rfl
theorem unpackB_len {b : List UInt8} {v k : Int} {q : List Int} (h : unpackB b v k = some q) : (q.length : Int) = k ∧ q.length ≤ 64 := by
  obtain ⟨⟨-, h2, -⟩, rfl⟩ := unpackB_some h
  have := inR_yes h2
  rw [numsAt_len]
  omega
theorem raised_len {n : Int} {q : List Int} {l : List V} (h : raisedQ n q = some l) : l.length = q.length ∧ ∀ v ∈ l, v.s.size ≤ maxLen := by
  obtain ⟨-, -, rfl⟩ := raised_some h
  refine ⟨by simp, fun v hv => ?_⟩
  obtain ⟨x, -, rfl⟩ := List.mem_map.1 hv
  exact Nat.zero_le _
theorem decFrame_len (b : List UInt8) (k : Int) : ((decFrame b k).getD []).length ≤ 64 := by
  unfold decFrame
  split
  · simp
  · split
    · simp
    · split
      · simp
      · rename_i q hu
        split
        · simp
        · rename_i l hra
          split
          · have h1 := (raised_len hra).1
            have h2 := (unpackB_len hu).2
            show l.length ≤ 64
            omega
          · simp
theorem eqd_comm {α : Type} [DecidableEq α] (a b : α) : eqd a b = eqd b a := by
  unfold eqd
  rw [Bool.eq_iff_iff]
  simp
  exact eq_comm
theorem encFrame_nil : encFrame [] = [] := by rw [encFrame, if_neg (by simp [typeOf])]
end Go.Lb
namespace Go.Proofs.Ytnldneogjdljkaa
open Go.Sort Go.ChangeShapes Go.WideShapes Go.ChangeAt Go.RowKit Go.Lb
set_option maxHeartbeats 4000000 in
set_option maxRecDepth 20000 in
theorem spec_DecFrame (b : List UInt8) (x : Value) (k : Int) (w : World) {lo hi : Nat} (hx : RdB w lo hi x b) (hhi : hi ≤ w.heap.size) (hbl : b.length ≤ 1000000000) :
    Calls Try.prog 45 #[x, .int .i64 k] w fun e w' => ∃ r, e = .returned (.tuple #[r, .bool (decFrame b k).isSome]) ∧ Own 87 3 w' w.heap.size w'.heap.size r ((decFrame b k).getD []).length (((decFrame b k).getD []).flatMap V.cells) ∧ Below w.heap.size w w' := by
  obtain ⟨A, c, rfl, hl, hl2⟩ := hx.form
  have hb0 := up_a1 w (.cells #[] 87)
  have own0 := World.ownsRow_made w (base := w.heap.size) (e := 87) (size := 3) #[] 0 (Nat.le_refl _) (by decide) rfl
  have Own0 := Lib.hid (Own.new own0)
  clear own0
  have hx0 := hx.below hb0 hhi
  have hsz0 := hb0.size
  obtain ⟨W0, hW0⟩ : ∃ W0, (w.alloc (.cells #[] 87)) = W0 := ⟨_, rfl⟩
  rw [hW0] at hb0 Own0 hx0 hsz0
  have HW0 := Lib.hid hW0
  clear hW0
  have hbb : Below W0.heap.size W0 W0 := Below.refl _ _
  have HG1 := Lib.hid (q_spec_GetNum b _ 0 W0 hx0)
  cases hr : rdNum b with
  | none =>
    have HG := Lib.hid (decF_1 (k := k) hr)
    have HT := Lib.hid (by have h := HG1.out; rw [show (0 : Int) = ((0 : Nat) : Int) from rfl, getNum_none (p := 0) (by rw [List.drop_zero]; exact hr)] at h; exact h)
    clear HG1 hr
    go_enter Try.func45, Try.ntmps45
    go_wp2_with fail
    rw [HW0.out]
    refine HT.out.mono ?_
    rintro e w1 ⟨rfl, rfl⟩
    go_wp2_with fail
    refine bodyPost_ret (v := .tuple #[.slice (some ⟨w.heap.size, 0, none⟩) 0 0, .bool false]) (by simp [results, Try.results45, go_sem]) rfl ⟨_, by rw [HG.out]; rfl, ?_, hb0.trans (hbb.mono hb0.size)⟩
    rw [HG.out]
    exact (Own0.out.below hbb (Nat.le_refl _)).more (Nat.le_refl _) hbb.size
  | some np =>
    obtain ⟨n, p⟩ := np
    have HT := Lib.hid (by have h := HG1.out; rw [show (0 : Int) = ((0 : Nat) : Int) from rfl, getNum_some (p := 0) (by rw [List.drop_zero]; exact hr), Nat.zero_add] at h; exact h)
    clear HG1
    cases hc : b[p]? with
    | none =>
      have hpl : b.length ≤ p := List.getElem?_eq_none_iff.1 hc
      have hd : decide ((b.length : Int) ≤ (p : Int)) = true := decide_eq_true (by omega)
      have HG := Lib.hid (decF_2 (k := k) hr hc)
      clear hr hc
      go_enter Try.func45, Try.ntmps45
      go_wp2_with fail
      rw [HW0.out]
      refine HT.out.mono ?_
      rintro e w1 ⟨rfl, rfl⟩
      go_wp2_with fail
      refine bodyPost_ret (v := .tuple #[.slice (some ⟨w.heap.size, 0, none⟩) 0 0, .bool false]) (by simp [results, Try.results45, go_sem]) rfl ⟨_, by rw [HG.out]; rfl, ?_, hb0.trans (hbb.mono hb0.size)⟩
      rw [HG.out]
      exact (Own0.out.below hbb (Nat.le_refl _)).more (Nat.le_refl _) hbb.size
    | some cc =>
      have hpl : p < b.length := (List.getElem?_eq_some_iff.1 hc).1
      have hd : decide ((b.length : Int) ≤ (p : Int)) = false := decide_eq_false (by omega)
      obtain ⟨g, off, c', rfl, -, hgh, hc', e0⟩ := hx0.at hpl
      obtain rfl : cc = c' := by rw [hc] at hc'; injection hc'
      clear hc'
      have hcc := cc.toNat_lt
      obtain ⟨p1, hp1⟩ : ∃ p1, p + 1 = p1 := ⟨_, rfl⟩
      have hpe : (p : Int) + 1 = (p1 : Int) := by omega
      have hpw1 : IntKind.i64.wrap (p1 : Int) = (p1 : Int) := by rw [IntKind.wrap_i64]; omega
      have hpw2 : IntKind.i64.wrap ((p : Int) + 1) = (p1 : Int) := by rw [IntKind.wrap_i64]; omega
      have hcw : IntKind.i64.wrap (cc.toNat : Int) = (cc.toNat : Int) := by rw [IntKind.wrap_i64]; omega
      have f1 : (0 : Int) ≤ (p1 : Int) := by omega
      have f2 : (p1 : Int) ≤ (c : Int) := by omega
      have f3 : (p1 : Int) ≤ (b.length : Int) := by omega
      have f4 : (b.length : Int) ≤ (c : Int) := by omega
      have hdrop := hx0.dropIf (k := p1) (by omega) hl
      obtain ⟨AA, hAA⟩ : ∃ AA, (if c = p1 then some (⟨g, off, none⟩ : Addr) else some ⟨g, off + p1, none⟩) = AA := ⟨_, rfl⟩
      rw [hAA] at hdrop
      have HU := Lib.hid (fun W (h : Below W0.heap.size W0 W) => spec_UnpackBits (b.drop p1) _ (cc.toNat : Int) k W (hdrop.below h (by omega)) (Nat.le_trans (by omega) h.size) (by rw [List.length_drop]; omega))
      have Hp1 := Lib.hid hp1
      have hcm : c ≤ maxLen := hl2
      clear hdrop
      have hI := q_spec_l1In k 1 64 W0
      cases hk : inR k 1 64
      · rw [hk] at hI
        have HI := Lib.hid hI
        have HG := Lib.hid (decF_k (b := b) hk)
        clear hr hc hk hI HU hp1
        go_enter Try.func45, Try.ntmps45
        go_wp2_with fail
        rw [HW0.out]
        refine HT.out.mono ?_
        rintro e w1 ⟨rfl, rfl⟩
        go_wp2_with fail
        refine HI.out.mono ?_
        rintro e w1 ⟨rfl, rfl⟩
        go_wp2_with fail
        refine bodyPost_ret (v := .tuple #[.slice (some ⟨w.heap.size, 0, none⟩) 0 0, .bool false]) (by simp [results, Try.results45, go_sem]) rfl ⟨_, by rw [HG.out]; rfl, ?_, hb0.trans (hbb.mono hb0.size)⟩
        rw [HG.out]
        exact (Own0.out.below hbb (Nat.le_refl _)).more (Nat.le_refl _) hbb.size
      · rw [hk] at hI
        have HI := Lib.hid hI
        have Hk := Lib.hid hk
        have Hr := Lib.hid hr
        have Hc := Lib.hid hc
        clear hr hc hk hI hp1
        go_enter Try.func45, Try.ntmps45
        go_wp2_with fail
        rw [HW0.out]
        refine HT.out.mono ?_
        rintro e w1 ⟨rfl, rfl⟩
        go_wp2_with fail
        refine HI.out.mono ?_
        rintro e w1 ⟨rfl, rfl⟩
        go_wp2_with fail
        go_region_held3 (fun w' => w'.cell? ⟨g, off + p, none⟩ = some (.int .u8 (cc.toNat : Int))) (first | exact e0 | exact cell_keep ‹_› hbu) (first | (go_at_call 23; ((with_reducible refine (HU.out _ (Below.refl _ _).drew).mono ?_); rintro e wu ⟨r, rfl, hou, hbu⟩)))
        have hbu2 : Below W0.heap.size W0 wu := Below.undrew hbu
        have hri := hou.rdI
        clear hbu hou HU hAA hpw1 hpw2 hpe hcw f1 f2 f3 f4 e0
        obtain ⟨Ar, cr, rfl, -, -⟩ := hri.form
        cases hu : unpackB (b.drop p1) (cc.toNat : Int) k with
        | none =>
          have HG := Lib.hid (decF_3 Hr.out Hc.out (by rw [Hp1.out]; exact hu))
          simp only [hu, Option.isSome_none, Option.getD_none, List.length_nil] at hri ⊢
          have hR := Lib.hid (spec_Raised n [] _ wu hri (Nat.le_refl _) (by simp))
          clear hu hri
          go_wp2_with fail
          refine hR.out.mono ?_
          rintro e w3 ⟨r3, rfl, ho3, hb3⟩
          have hb3w := hbu2.trans (hb3.mono hbu2.size)
          generalize (raisedQ n []).isSome = may
          clear hb3 ho3
          go_wp2_with fail
          refine bodyPost_ret (v := .tuple #[.slice (some ⟨w.heap.size, 0, none⟩) 0 0, .bool false]) (by simp [results, Try.results45, go_sem]) rfl ⟨_, by rw [HG.out]; rfl, ?_, hb0.trans (hb3w.mono hb0.size)⟩
          rw [HG.out]
          exact (Own0.out.below hb3w (Nat.le_refl _)).more (Nat.le_refl _) hb3w.size
        | some q =>
          have Hu := Lib.hid hu
          simp only [hu, Option.isSome_some, Option.getD_some] at hri ⊢
          obtain ⟨hqk, hq64⟩ := unpackB_len hu
          have hR := spec_Raised n q _ wu hri (Nat.le_refl _) (by omega)
          clear hu hri hqk
          cases hra : raisedQ n q with
          | none =>
            have HG := Lib.hid (decF_4 Hr.out Hc.out (by rw [Hp1.out]; exact Hu.out) hra)
            simp only [hra, Option.isSome_none, Option.getD_none, List.length_nil] at hR
            have HR := Lib.hid hR
            clear hR hra
            go_wp2_with fail
            refine HR.out.mono ?_
            rintro e w3 ⟨r3, rfl, ho3, hb3⟩
            have hb3w := hbu2.trans (hb3.mono hbu2.size)
            clear hb3 ho3
            go_wp2_with fail
            refine bodyPost_ret (v := .tuple #[.slice (some ⟨w.heap.size, 0, none⟩) 0 0, .bool false]) (by simp [results, Try.results45, go_sem]) rfl ⟨_, by rw [HG.out]; rfl, ?_, hb0.trans (hb3w.mono hb0.size)⟩
            rw [HG.out]
            exact (Own0.out.below hb3w (Nat.le_refl _)).more (Nat.le_refl _) hb3w.size
          | some l =>
            have HG5 := Lib.hid (decF_5 Hr.out Hc.out (by rw [Hp1.out]; exact Hu.out) hra)
            have hrl := raised_len hra
            have Hrl := Lib.hid hrl.2
            have hl64 : l.length ≤ 64 := by omega
            simp only [hra, Option.isSome_some, Option.getD_some] at hR
            have HR := Lib.hid hR
            clear hR hra hrl
            go_wp2_with fail
            refine HR.out.mono ?_
            rintro e w3 ⟨r3, rfl, ho3, hb3⟩
            have hb3w := hbu2.trans (hb3.mono hbu2.size)
            have hrd3 := ho3.rdV
            obtain ⟨A3, c3, rfl, -, -⟩ := hrd3.form
            have Ho3 := Lib.hid ho3
            have HE := Lib.hid (spec_EncFrame l _ w3 hrd3 (Nat.le_refl _) Hrl.out)
            have hsu := hbu2.size
            clear hb3 ho3 hrd3
            go_wp2_with fail
            refine HE.out.mono ?_
            rintro e w4 ⟨r4, rfl, ho4, hb4⟩
            have hb4w := hb3w.trans (hb4.mono hb3w.size)
            have hre := ho4.rdBc
            obtain ⟨A4, c4, rfl, -, -⟩ := hre.form
            have hx4 := hx0.below hb4w (Nat.le_trans hhi hsz0)
            have hS := q_spec_l5Same (encFrame l) b _ _ w4 hre hx4
            have Ho4 := Lib.hid (Ho3.out.below hb4 (Nat.le_refl _))
            have hs4 := hb4.size
            have hs3 := hb3w.size
            clear Ho3 hb4 ho4 hx4 hre
            cases he : eqd (encFrame l) b
            · rw [he] at hS
              have HS := Lib.hid hS
              have HG := Lib.hid (show decFrame b k = none by rw [HG5.out, he, Bool.and_false]; rfl)
              clear hS he
              generalize encFrame l = en at *
              go_wp2_with fail
              refine HS.out.mono ?_
              rintro e w5 ⟨rfl, rfl⟩
              go_wp2_with fail
              refine bodyPost_ret (v := .tuple #[.slice (some ⟨w.heap.size, 0, none⟩) 0 0, .bool false]) (by simp [results, Try.results45, go_sem]) rfl ⟨_, by rw [HG.out]; rfl, ?_, hb0.trans (hb4w.mono hb0.size)⟩
              rw [HG.out]
              exact (Own0.out.below hb4w (Nat.le_refl _)).more (Nat.le_refl _) hb4w.size
            · rw [he] at hS
              have HS := Lib.hid hS
              have HG := Lib.hid (show decFrame b k = some l by rw [HG5.out, he, Hk.out]; rfl)
              clear hS he
              generalize encFrame l = en at *
              go_wp2_with fail
              refine HS.out.mono ?_
              rintro e w5 ⟨rfl, rfl⟩
              go_wp2_with fail
              refine bodyPost_ret (v := .tuple #[.slice A3 l.length c3, .bool true]) (by simp [results, Try.results45, go_sem]) rfl ⟨_, by rw [HG.out]; rfl, ?_, hb0.trans (hb4w.mono hb0.size)⟩
              rw [HG.out]
              exact Ho4.out.more (by omega) (by omega)
set_option maxHeartbeats 4000000 in
set_option maxRecDepth 20000 in
theorem impl_DecFrame (b : List UInt8) (x : Value) (k : Int) (w : World) {lo hi : Nat} (hx : RdB w lo hi x b) (hhi : hi ≤ w.heap.size) (hbl : b.length ≤ 1000000000) :
    Calls Try.prog 47 #[x, .int .i64 k] w fun e w' => ∃ r, e = .returned (.tuple #[r, .bool (decFrame b k).isSome]) ∧ Own 87 3 w' w.heap.size w'.heap.size r ((decFrame b k).getD []).length (((decFrame b k).getD []).flatMap V.cells) ∧ Below w.heap.size w w' := by
  obtain ⟨A, c, rfl, hl, hl2⟩ := hx.form
  have hx0 := hx
  have hsz0 := Nat.le_refl w.heap.size
  have hbb : Below w.heap.size w w := Below.refl _ _
  have HG1 := Lib.hid (q_impl_GetNum b _ 0 w hx0)
  cases hr : rdNum b with
  | none =>
    have HG := Lib.hid (decF_1 (k := k) hr)
    have HT := Lib.hid (by have h := HG1.out; rw [show (0 : Int) = ((0 : Nat) : Int) from rfl, getNum_none (p := 0) (by rw [List.drop_zero]; exact hr)] at h; exact h)
    clear HG1 hr
    go_enter Try.func47, Try.ntmps47
    go_wp2_with fail
    refine HT.out.mono ?_
    rintro e w1 ⟨rfl, rfl⟩
    go_wp2_with fail
    refine bodyPost_ret (v := .tuple #[.slice none 0 0, .bool false]) (by simp [results, Try.results47, go_sem]) rfl ⟨_, by rw [HG.out]; rfl, ?_, hbb⟩
    rw [HG.out]
    exact own_none_s _ _ _ _ _
  | some np =>
    obtain ⟨n, p⟩ := np
    have HT := Lib.hid (by have h := HG1.out; rw [show (0 : Int) = ((0 : Nat) : Int) from rfl, getNum_some (p := 0) (by rw [List.drop_zero]; exact hr), Nat.zero_add] at h; exact h)
    clear HG1
    cases hc : b[p]? with
    | none =>
      have hpl : b.length ≤ p := List.getElem?_eq_none_iff.1 hc
      have hd : decide ((b.length : Int) ≤ (p : Int)) = true := decide_eq_true (by omega)
      have HG := Lib.hid (decF_2 (k := k) hr hc)
      clear hr hc
      go_enter Try.func47, Try.ntmps47
      go_wp2_with fail
      refine HT.out.mono ?_
      rintro e w1 ⟨rfl, rfl⟩
      go_wp2_with fail
      refine bodyPost_ret (v := .tuple #[.slice none 0 0, .bool false]) (by simp [results, Try.results47, go_sem]) rfl ⟨_, by rw [HG.out]; rfl, ?_, hbb⟩
      rw [HG.out]
      exact own_none_s _ _ _ _ _
    | some cc =>
      have hpl : p < b.length := (List.getElem?_eq_some_iff.1 hc).1
      have hd : decide ((b.length : Int) ≤ (p : Int)) = false := decide_eq_false (by omega)
      obtain ⟨g, off, c', rfl, -, hgh, hc', e0⟩ := hx0.at hpl
      obtain rfl : cc = c' := by rw [hc] at hc'; injection hc'
      clear hc'
      have hcc := cc.toNat_lt
      obtain ⟨p1, hp1⟩ : ∃ p1, p + 1 = p1 := ⟨_, rfl⟩
      have hpe : (p : Int) + 1 = (p1 : Int) := by omega
      have hpw1 : IntKind.i64.wrap (p1 : Int) = (p1 : Int) := by rw [IntKind.wrap_i64]; omega
      have hpw2 : IntKind.i64.wrap ((p : Int) + 1) = (p1 : Int) := by rw [IntKind.wrap_i64]; omega
      have hcw : IntKind.i64.wrap (cc.toNat : Int) = (cc.toNat : Int) := by rw [IntKind.wrap_i64]; omega
      have f1 : (0 : Int) ≤ (p1 : Int) := by omega
      have f2 : (p1 : Int) ≤ (c : Int) := by omega
      have f3 : (p1 : Int) ≤ (b.length : Int) := by omega
      have f4 : (b.length : Int) ≤ (c : Int) := by omega
      have hdrop := hx0.dropIf (k := p1) (by omega) hl
      obtain ⟨AA, hAA⟩ : ∃ AA, (if c = p1 then some (⟨g, off, none⟩ : Addr) else some ⟨g, off + p1, none⟩) = AA := ⟨_, rfl⟩
      rw [hAA] at hdrop
      have HU := Lib.hid (fun W (h : Below w.heap.size w W) => impl_UnpackBits (b.drop p1) _ (cc.toNat : Int) k W (hdrop.below h (by omega)) (Nat.le_trans (by omega) h.size) (by rw [List.length_drop]; omega))
      have Hp1 := Lib.hid hp1
      have hcm : c ≤ maxLen := hl2
      clear hdrop
      have Hr := Lib.hid hr
      have Hc := Lib.hid hc
      clear hr hc hp1
      go_enter Try.func47, Try.ntmps47
      go_wp2_with fail
      refine HT.out.mono ?_
      rintro e w1 ⟨rfl, rfl⟩
      go_wp2_with fail
      go_region_held3 (fun w' => w'.cell? ⟨g, off + p, none⟩ = some (.int .u8 (cc.toNat : Int))) (first | exact e0 | exact cell_keep ‹_› hbu) (first | (go_at_call 18; ((with_reducible refine (HU.out _ (Below.refl _ _).drew).mono ?_); rintro e wu ⟨r, rfl, hou, hbu⟩)))
      have hbu2 : Below w.heap.size w wu := Below.undrew hbu
      have hri := hou.rdI
      clear hbu hou HU hAA hpw1 hpw2 hpe hcw f1 f2 f3 f4 e0
      obtain ⟨Ar, cr, rfl, -, -⟩ := hri.form
      cases hu : unpackB (b.drop p1) (cc.toNat : Int) k with
      | none =>
        have HG := Lib.hid (decF_3 Hr.out Hc.out (by rw [Hp1.out]; exact hu))
        simp only [hu, Option.isSome_none, Option.getD_none, List.length_nil] at hri ⊢
        clear hu hri
        go_wp2_with fail
        refine bodyPost_ret (v := .tuple #[.slice none 0 0, .bool false]) (by simp [results, Try.results47, go_sem]) rfl ⟨_, by rw [HG.out]; rfl, ?_, hbu2⟩
        rw [HG.out]
        exact own_none_s _ _ _ _ _
      | some q =>
        have Hu := Lib.hid hu
        simp only [hu, Option.isSome_some, Option.getD_some] at hri ⊢
        obtain ⟨hqk, hq64⟩ := unpackB_len hu
        have hR := impl_Raised n q _ wu hri (Nat.le_refl _) (by omega)
        clear hu hri
        have hL : ∃ L, (raisedQ n q).getD [] = L ∧ (∀ v ∈ L, v.s.size ≤ maxLen) ∧ L.length ≤ 64 ∧ (decFrame b k = if decOk b (encFrame L) k L.length then some L else none) := by
          cases hra : raisedQ n q with
          | none =>
            refine ⟨[], rfl, by simp, by simp, ?_⟩
            rw [decF_4 Hr.out Hc.out (by rw [Hp1.out]; exact Hu.out) hra]
            have : decOk b (encFrame []) k ([] : List V).length = false := by
              unfold decOk
              by_cases h0 : (0 : Int) = k
              · subst h0; rfl
              · rw [show (([] : List V).length : Int) = 0 from rfl, decide_eq_false h0]; simp
            rw [this]
            rfl
          | some l =>
            have hrl := raised_len hra
            refine ⟨l, rfl, hrl.2, by omega, ?_⟩
            rw [decF_5 Hr.out Hc.out (by rw [Hp1.out]; exact Hu.out) hra, decOk, decide_eq_true (show (l.length : Int) = k by omega), Bool.true_and, eqd_comm]
        obtain ⟨L, hL1, hL2, hL3, hL4⟩ := hL
        rw [hL1] at hR
        have HR := Lib.hid hR
        have HL2 := Lib.hid hL2
        have HL4 := Lib.hid hL4
        clear hR hL1 hL2 hL4 hqk
        generalize (raisedQ n q).isSome = may at HR
        go_wp2_with fail
        refine HR.out.mono ?_
        rintro e w3 ⟨r3, rfl, ho3, hb3⟩
        have hb3w := hbu2.trans (hb3.mono hbu2.size)
        have hrd3 := ho3.rdV
        obtain ⟨A3, c3, rfl, -, -⟩ := hrd3.form
        have Ho3 := Lib.hid ho3
        have HE := Lib.hid (impl_EncFrame L _ w3 hrd3 (Nat.le_refl _) HL2.out)
        have hsu := hbu2.size
        clear hb3 ho3 hrd3
        go_wp2_with fail
        refine HE.out.mono ?_
        rintro e w4 ⟨r4, rfl, ho4, hb4⟩
        have hb4w := hb3w.trans (hb4.mono hb3w.size)
        have hre := ho4.rdBc
        obtain ⟨A4, c4, rfl, -, -⟩ := hre.form
        have hx4 := hx0.below hb4w hhi
        have hS := q_impl_decoded b (encFrame L) _ _ k A3 L.length c3 w4 hx4 hre
        have Ho4 := Lib.hid (Ho3.out.below hb4 (Nat.le_refl _))
        have hs4 := hb4.size
        have hs3 := hb3w.size
        clear Ho3 hb4 ho4 hx4 hre
        generalize encFrame L = en at *
        cases he : decOk b en k L.length
        · rw [he] at hS
          have HS := Lib.hid hS
          have HG := Lib.hid (show decFrame b k = none by rw [HL4.out, he]; rfl)
          clear hS he
          go_wp2_with fail
          refine HS.out.mono ?_
          rintro e w5 ⟨rfl, rfl⟩
          rw [show decRes false (.slice A3 L.length c3) = .slice none 0 0 from rfl]
          go_wp2_with fail
          refine bodyPost_ret (v := .tuple #[.slice none 0 0, .bool false]) (by simp [results, Try.results47, go_sem]) rfl ⟨_, by rw [HG.out]; rfl, ?_, hb4w⟩
          rw [HG.out]
          exact own_none_s _ _ _ _ _
        · rw [he] at hS
          have HS := Lib.hid hS
          have HG := Lib.hid (show decFrame b k = some L by rw [HL4.out, he]; rfl)
          clear hS he
          go_wp2_with fail
          refine HS.out.mono ?_
          rintro e w5 ⟨rfl, rfl⟩
          rw [show decRes true (.slice A3 L.length c3) = .slice A3 L.length c3 from rfl]
          go_wp2_with fail
          refine bodyPost_ret (v := .tuple #[.slice A3 L.length c3, .bool true]) (by simp [results, Try.results47, go_sem]) rfl ⟨_, by rw [HG.out]; rfl, ?_, hb4w⟩
          rw [HG.out]
          exact Ho4.out.more (by omega) (by omega)
end Go.Proofs.Ytnldneogjdljkaa
