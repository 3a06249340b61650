/- The reference's reader of a predicate's text: is a word there; what stands up to a comma or bracket. Conditions as for numbers. -/
import Derived.Test.YtjogkbkkcaljhaaGreatDoorZQ
import Derived.Test.YtjogkbkkcaljhaaGreatDoorZP
import Derived.Deep.RegionHeld3
import Derived.Test.YtjogkbkkcaljhaaGreatDoorRT
import Derived.Test.YtjogkbkkcaljhaaGreatDoorXJ
namespace Go.Proofs.YtjogkbkkcaljhaaGreatDoor
open Go.Sort Go.ChangeShapes Go.WideShapes Go.ChangeAt Go.RowKit Go.Lb
/-- The reader lies in block g: the text, the place, whether something was bad. -/
def RS (w : World) (g : Nat) (s : ByteArray) (a : Nat) (b : Bool) : Prop := w.heap[g]? = some (.cells #[.string s, .int .i64 a, .bool b] 49) ∧ a ≤ s.size
def isAt (s : ByteArray) (a : Nat) (b : Bool) (t : ByteArray) : Bool := !b && t.data.toList.isPrefixOf (s.data.toList.drop a)
theorem isAt_pos {s t : ByteArray} {a : Nat} {b : Bool} (h : isAt s a b t = true) : b = false ∧ s.data.toList.drop a = t.data.toList ++ s.data.toList.drop (a + t.size) := by
  unfold isAt at h
  rw [Bool.and_eq_true] at h
  refine ⟨by simpa using h.1, ?_⟩
  obtain ⟨r, hr⟩ := List.isPrefixOf_iff_prefix.1 h.2
  have : t.data.toList.length = t.size := by simp
  rw [← hr, ← List.drop_drop, ← hr, ← this, List.drop_left]
theorem ext_slice (s : ByteArray) (a n : Nat) : (s.extract a (a + n)).data.toList = (s.data.toList.drop a).take n := by
  rw [ByteArray.data_extract, Array.toList_extract]
  simp [List.extract_eq_take_drop]
theorem set1r {w : World} {X : Nat} {c0 c1 c2 a : Value} {e : TypeId} (h : w.heap[X]? = some (.cells #[c0, c1, c2] e)) : (w.setCell ⟨X, 1, none⟩ a).heap[X]? = some (.cells #[c0, a, c2] e) := set1v h
theorem set2r {w : World} {X : Nat} {c0 c1 c2 a : Value} {e : TypeId} (h : w.heap[X]? = some (.cells #[c0, c1, c2] e)) : (w.setCell ⟨X, 2, none⟩ a).heap[X]? = some (.cells #[c0, c1, a] e) := by
  have h1 := set1 (o := 2) (a := a) h
  simpa only [List.setIfInBounds_toArray, List.set_cons_succ, List.set_cons_zero] using h1
theorem chg_setR (w : World) (X o : Nat) (u : Value) : Chg X (X + 1) w (w.setCell ⟨X, o, none⟩ u) := ⟨rfl, rfl, rfl, by simp [World.setCell], fun k hk hne => Below.heap_setCell w ⟨X, o, none⟩ _ k (by show k ≠ X; omega)⟩
theorem chg_drew (g : Nat) (w : World) : Chg g (g + 1) w w.drew := .of_below (Below.refl _ _).drew
set_option maxRecDepth 20000 in
set_option maxHeartbeats 4000000 in
theorem spec_l11Is (s t : ByteArray) (g a : Nat) (b : Bool) (w : World) (h : RS w g s a b) (hs : s.size ≤ 1048576) (ht : t.size ≤ 1048576) :
    Calls Tryz.prog 50 #[.pointer (some ⟨g, 0, none⟩), .string t] w fun e w' => e = .returned (.bool (isAt s a b t)) ∧ RS w' g s (if isAt s a b t then a + t.size else a) b ∧ Chg g (g + 1) w w' := by
  have HG := Lib.hid h.1
  have ha := h.2
  have k0 := cell_of_row w g 0 _ _ _ HG.out
  have k1 := cell_of_row w g 1 _ _ _ HG.out
  have k2 := cell_of_row w g 2 _ _ _ HG.out
  simp only [List.getElem?_toArray, List.getElem?_cons_zero, List.getElem?_cons_succ] at k0 k1 k2
  have f0 := fun o => frozen_of_row w g o _ _ HG.out
  have hw1 : IntKind.i64.wrap ((s.size : Int) - (t.size : Int)) = (s.size : Int) - (t.size : Int) := IntWalk.i64_in _ ⟨by omega, by omega⟩
  have hw2 : IntKind.i64.wrap ((a : Int) + (t.size : Int)) = (a : Int) + (t.size : Int) := IntWalk.i64_in _ ⟨by omega, by omega⟩
  have hsl : s.data.toList.length = s.size := by simp
  have htl : t.data.toList.length = t.size := by simp
  clear h
  cases b
  · by_cases hfit : a + t.size ≤ s.size
    · have hd : decide ((s.size : Int) - (t.size : Int) < (a : Int)) = false := decide_eq_false (by omega)
      have hf1 : (a : Int) ≤ (a : Int) + (t.size : Int) := by omega
      have hf2 : (a : Int) + (t.size : Int) ≤ (s.size : Int) := by omega
      have htn : ((a : Int) + (t.size : Int)).toNat = a + t.size := by omega
      have hx := ext_slice s a t.size
      by_cases heq : s.extract a (a + t.size) = t
      · have hne : ((s.extract a (a + t.size)).toList == t.toList) = true := str_eq heq
        have hI : isAt s a false t = true := by
          unfold isAt
          rw [Bool.not_false, Bool.true_and]
          apply List.isPrefixOf_iff_prefix.2
          rw [heq] at hx
          rw [hx]
          exact List.take_prefix _ _
        clear heq hx hsl htl
        rw [hI]
        rw [if_pos rfl]
        clear hI
        go_enter Tryz.func50, Tryz.ntmps50
        go_wp2_with fail
        go_region_held3 (fun w' => w'.cell? ⟨g, 0, none⟩ = some (.string s) ∧ w'.cell? ⟨g, 1, none⟩ = some (.int .i64 a) ∧ w'.cell? ⟨g, 2, none⟩ = some (.bool false)) (first | with_reducible exact ⟨k0, k1, k2⟩ | go_keep) (fail)
        all_goals
          go_wp2_with fail
          go_ret
          exact ⟨rfl, ⟨set1r (w := w) (a := .int .i64 ((a : Int) + (t.size : Int))) HG.out, hfit⟩, (chg_setR w g 1 (.int .i64 ((a : Int) + (t.size : Int)))).trans (chg_drew g _)⟩
      · have hne : ((s.extract a (a + t.size)).toList == t.toList) = false := str_ne heq
        have hI : isAt s a false t = false := by
          cases hi : isAt s a false t
          · rfl
          · exfalso
            have h1 := (isAt_pos hi).2
            apply heq
            apply ba_inj
            rw [hx, h1, ← htl, List.take_left]
        clear heq hx hsl htl
        rw [hI]
        rw [if_neg (by simp)]
        clear hI
        go_enter Tryz.func50, Tryz.ntmps50
        go_wp2_with fail
        go_region_held3 (fun w' => w'.cell? ⟨g, 0, none⟩ = some (.string s) ∧ w'.cell? ⟨g, 1, none⟩ = some (.int .i64 a) ∧ w'.cell? ⟨g, 2, none⟩ = some (.bool false)) (first | with_reducible exact ⟨k0, k1, k2⟩ | go_keep) (fail)
        all_goals
          go_wp2_with fail
          go_ret
          exact ⟨rfl, ⟨HG.out, ha⟩, chg_drew g w⟩
    · have hd : decide ((s.size : Int) - (t.size : Int) < (a : Int)) = true := decide_eq_true (by omega)
      have hI : isAt s a false t = false := by
        cases hi : isAt s a false t
        · rfl
        · exfalso
          have h1 := congrArg List.length (isAt_pos hi).2
          rw [List.length_append, List.length_drop] at h1
          omega
      clear hsl htl hfit
      rw [hI]
      rw [if_neg (by simp)]
      clear hI
      go_enter Tryz.func50, Tryz.ntmps50
      go_wp2_with fail
      go_region
      all_goals
        go_wp2_with fail
        go_ret
        exact ⟨rfl, ⟨HG.out, ha⟩, chg_drew g w⟩
  · have hI : isAt s a true t = false := rfl
    clear hsl htl
    rw [hI]
    rw [if_neg (by simp)]
    clear hI
    go_enter Tryz.func50, Tryz.ntmps50
    go_wp2_with fail
    go_region
    all_goals
      go_wp2_with fail
      go_ret
      exact ⟨rfl, ⟨HG.out, ha⟩, chg_drew g w⟩
end Go.Proofs.YtjogkbkkcaljhaaGreatDoor
namespace Go.Proofs.YtjogkbkkcaljhaaGreatDoor
open Go.Sort Go.ChangeShapes Go.WideShapes Go.ChangeAt Go.RowKit Go.Lb
/-- A byte that ends no value. -/
def notStop (c : UInt8) : Bool := !(([44, 41] : List UInt8).contains c)
/-- What stands up to a comma, a bracket, or the end. -/
def upTo (s : ByteArray) (a : Nat) : List UInt8 := (s.data.toList.drop a).takeWhile notStop
theorem upTo_is {s : ByteArray} {a k : Nat} (hak : a ≤ k) (hk : k ≤ s.size) (hno : ∀ j (hj : j < s.size), a ≤ j → j < k → notStop s[j] = true) (he : ∀ hk : k < s.size, notStop s[k] = false) : upTo s a = (s.extract a k).data.toList ∧ (upTo s a).length = k - a := by
  have hx : (s.extract a k).data.toList = (s.data.toList.drop a).take (k - a) := by
    have := ext_slice s a (k - a)
    rwa [show a + (k - a) = k by omega] at this
  have hsl : s.data.toList.length = s.size := by simp
  have key : ∀ (l : List UInt8) (n : Nat), n ≤ l.length → (∀ j b, j < n → l[j]? = some b → notStop b = true) → (∀ b, l[n]? = some b → notStop b = false) → l.takeWhile notStop = l.take n := by
    intro l
    induction l with
    | nil => intro n hn _ _; simp
    | cons c l ih =>
      intro n hn h1 h2
      cases n with
      | zero =>
        have := h2 c rfl
        rw [List.takeWhile_cons, this]
        simp
      | succ n =>
        have h3 := h1 0 c (by omega) rfl
        rw [List.takeWhile_cons, h3]
        simp only [if_true, List.take_succ_cons]
        rw [ih n (by simpa using hn) (fun j b hj hb => h1 (j + 1) b (by omega) (by simpa using hb)) (fun b hb => h2 b (by simpa using hb))]
  have h := key (s.data.toList.drop a) (k - a) (by rw [List.length_drop]; omega) (fun j b hj hb => by
    rw [List.getElem?_drop] at hb
    have hjs : a + j < s.size := by omega
    have := get_byte s (a + j) hjs
    rw [hb] at this
    injection this with this
    subst this
    exact hno (a + j) hjs (by omega) (by omega)) (fun b hb => by
    rw [List.getElem?_drop, show a + (k - a) = k by omega] at hb
    have hks : k < s.size := by
      have := (List.getElem?_eq_some_iff.1 hb).1
      omega
    have := get_byte s k hks
    rw [hb] at this
    injection this with this
    subst this
    exact he hks)
  unfold upTo
  rw [h, hx]
  refine ⟨rfl, ?_⟩
  rw [List.length_take, List.length_drop]
  omega
theorem chg_belowV {g : Nat} {w w' : World} (h : Below w.heap.size w w') : Chg g (g + 1) w w' := .of_below h
theorem chg_setZ {w w' : World} {g b o : Nat} (h : Chg g (g + 1) w w') (hb : w.heap.size ≤ b) (u : Value) : Chg g (g + 1) w (w'.setCell ⟨b, o, none⟩ u) :=
  ⟨h.os, h.tape, h.output, by simpa [World.setCell] using h.size, fun k hk hne => (Below.heap_setCell w' ⟨b, o, none⟩ u k (by show k ≠ b; omega)).trans (h.block k hk hne)⟩
theorem set3V {w : World} {X : Nat} {c0 c1 c2 v0 v1 v2 : Value} {e : TypeId} (h : w.heap[X]? = some (.cells #[c0, c1, c2] e)) : (((w.setCell ⟨X, 0, none⟩ v0).setCell ⟨X, 1, none⟩ v1).setCell ⟨X, 2, none⟩ v2).heap[X]? = some (.cells #[v0, v1, v2] e) := by
  have h1 := set1 (o := 2) (a := v2) (set1 (o := 1) (a := v1) (set1 (o := 0) (a := v0) h))
  simpa only [List.setIfInBounds_toArray, List.set_cons_succ, List.set_cons_zero] using h1
def ValC (w0 : World) (s : ByteArray) (t4 t5 : Value) (wx : World) : Prop := ∃ (bx : Nat) (v : V) (ok : Bool), t4 = .pointer (some ⟨bx, 0, none⟩) ∧ t5 = .bool ok ∧ wx.heap[bx]? = some (.cells #[.int .i64 v.ty, .int .i64 v.n, .string v.s] 24) ∧ w0.heap.size ≤ bx ∧ ValR s v ok ∧ Below w0.heap.size w0 wx
/-- A value, whether it was one, and where the reader stands behind it. -/
def ValP (s : ByteArray) (g a : Nat) (b : Bool) (w : World) (e : Ending) (w' : World) : Prop := ∃ (v : V) (ok : Bool), e = .returned (.agg #[.int .i64 v.ty, .int .i64 v.n, .string v.s]) ∧ Hid (ValR ⟨(upTo s a).toArray⟩ v ok) ∧ RS w' g s (a + (upTo s a).length) (b || !ok) ∧ Chg g (g + 1) w w'
set_option maxRecDepth 20000 in
set_option maxHeartbeats 8000000 in
theorem spec_l11Val (s : ByteArray) (g a : Nat) (b : Bool) (w : World) (h : RS w g s a b) (hs : s.size ≤ 1048576) (he : EnvP w) :
    Calls Tryz.prog 72 #[.pointer (some ⟨g, 0, none⟩)] w fun e w' => ValP s g a b w e w' := by
  have ha := h.2
  have hgl : g < w.heap.size := (Array.getElem?_eq_some_iff.1 h.1).1
  have up := up_a1 w (.cells #[.int .i64 0, .int .i64 0, .string ⟨#[]⟩] 24)
  have HG := Lib.hid ((up.block g hgl).trans h.1)
  have GZ := Lib.hid (heap_alloc_new w (.cells #[.int .i64 0, .int .i64 0, .string ⟨#[]⟩] 24))
  have hs0 : (w.alloc (.cells #[.int .i64 0, .int .i64 0, .string ⟨#[]⟩] 24)).heap.size = w.heap.size + 1 := by simp
  obtain ⟨W0, hW0⟩ : ∃ W0, w.alloc (.cells #[.int .i64 0, .int .i64 0, .string ⟨#[]⟩] 24) = W0 := ⟨_, rfl⟩
  rw [hW0] at up HG GZ hs0
  have HW0 := Lib.hid hW0
  have UP := Lib.hid up
  have HE := Lib.hid (he.below up)
  have j0 := cell_of_row w (g) 0 _ _ _ h.1
  have j1 := cell_of_row w (g) 1 _ _ _ h.1
  have j2 := cell_of_row w (g) 2 _ _ _ h.1
  simp only [List.getElem?_toArray, List.getElem?_cons_zero, List.getElem?_cons_succ] at j0 j1 j2
  clear hW0 up he h
  go_enter Tryz.func72, Tryz.ntmps72
  go_wp2_with fail
  rw [HW0.out]
  clear HW0 j0 j1 j2
  have k0 := cell_of_row W0 (g) 0 _ _ _ HG.out
  have k1 := cell_of_row W0 (g) 1 _ _ _ HG.out
  have k2 := cell_of_row W0 (g) 2 _ _ _ HG.out
  simp only [List.getElem?_toArray, List.getElem?_cons_zero, List.getElem?_cons_succ] at k0 k1 k2
  go_loop [3] (fun t => ∃ k : Nat, t = .int .i64 k ∧ a ≤ k ∧ k ≤ s.size ∧ Hid (∀ j (hj : j < s.size), a ≤ j → j < k → notStop s[j] = true)) (fun t => s.size - (intOf t).toNat)
  case atStart => exact ⟨a, rfl, Nat.le_refl _, ha, Lib.hid (fun j hj h1 h2 => by omega)⟩
  case round =>
    obtain ⟨k, rfl, hak, hk, HN⟩ := hrel
    by_cases hgo : ∃ hk : k < s.size, notStop s[k] = true
    · obtain ⟨hks, hns⟩ := hgo
      have hd : decide ((k : Int) < (s.size : Int)) = true := decide_eq_true (by omega)
      have hne : s[k].toNat ≠ 44 ∧ s[k].toNat ≠ 41 := by
        unfold notStop at hns
        simp only [List.contains_cons, List.contains_nil, Bool.or_false, Bool.not_eq_true', Bool.or_eq_false_iff, beq_eq_false_iff_ne] at hns
        exact ⟨fun e => hns.1 (UInt8.toNat_inj.1 e), fun e => hns.2 (UInt8.toNat_inj.1 e)⟩
      have h44 : ((s[k].toNat : Int) != 44) = true := by simp; omega
      have h41 : ((s[k].toNat : Int) != 41) = true := by simp; omega
      have HX := Lib.hid (show ∀ j (hj : j < s.size), a ≤ j → j < k + 1 → notStop s[j] = true from fun j hj h1 h2 => by
        by_cases e : j = k
        · subst e; exact hns
        · exact HN.out j hj h1 (by omega))
      clear hne hns
      go_wp2_with fail
      go_round
      case rel => exact ⟨k + 1, by go_num, by omega, by omega, HX⟩
      case measure => simp [intOf]; omega
    · have hst : ∀ hk : k < s.size, notStop s[k] = false := fun hk => by
        cases hc : notStop s[k]
        · rfl
        · exact absurd ⟨hk, hc⟩ hgo
      have HU := Lib.hid (upTo_is hak hk HN.out hst)
      have hki : (k : Int) ≤ (s.size : Int) := by omega
      have haki : (a : Int) ≤ (k : Int) := by omega
      have TC := Lib.hid (fun (W : World) (h : Below W0.heap.size W0 W) => spec_ParseVal (s.extract a k) W (Nat.le_trans (show (s.extract a k).size ≤ s.size by simp; omega) hs) (HE.out.below h))
      rcases (show (∃ hk : k < s.size, s[k].toNat = 44) ∨ (∃ hk : k < s.size, s[k].toNat = 41) ∨ ¬ k < s.size by
        by_cases hks : k < s.size
        · have h := hst hks
          unfold notStop at h
          simp only [List.contains_cons, List.contains_nil, Bool.or_false, Bool.not_eq_false', Bool.or_eq_true, beq_iff_eq] at h
          rcases h with h | h
          · exact .inl ⟨hks, by rw [h]; rfl⟩
          · exact .inr (.inl ⟨hks, by rw [h]; rfl⟩)
        · exact .inr (.inr hks)) with ⟨hks, hc⟩ | ⟨hks, hc⟩ | hks
      · have hd : decide ((k : Int) < (s.size : Int)) = true := decide_eq_true (by omega)
        have h44 : ((s[k].toNat : Int) != 44) = false := by rw [hc]; rfl
        clear hc hgo hst
        go_upto_region 4 with fail
        go_cut [4, 5] from 37 to 50 (fun t4 t5 wx => ValC W0 (s.extract a k) t4 t5 wx)
        case first =>
          refine wp_region_T (S := fun w' => w'.heap[g]? = some (.cells #[.string s, .int .i64 a, .bool b] 49)) (n := 16) (by kernel_rfl) ?_
          obtain ⟨X0, hX0⟩ : ∃ X0, W0.drew = X0 := ⟨_, rfl⟩
          have HB0 : Below W0.heap.size W0 X0 := hX0 ▸ (Below.refl _ _).drew
          rw [hX0]
          clear hX0 k0 k1 k2
          have F0 := (HB0.block g (by omega)).trans HG.out
          refine wpAnyT_take (i := 0) (oi := _) (v := ?_) rfl (by kernel_rfl) (by kernel_rfl) (by kernel_rfl) (by kernel_rfl) (fun _ _ _ h => h) (Or.inl ⟨by rfl, ?_⟩) F0 ?_
          rotate_left
          · (intro w' hSw; (try dsimp only at hSw); go_simp) <;> with_reducible rfl
          try simp only [Act.put, List.setIfInBounds_toArray, List.set_cons_zero, List.set_cons_succ]
          refine wpAnyT_take (i := 1) (oi := _) (v := ?_) rfl (by kernel_rfl) (by kernel_rfl) (by kernel_rfl) (by kernel_rfl) (fun _ _ _ h => h) (Or.inl ⟨by rfl, ?_⟩) F0 ?_
          rotate_left
          · (intro w' hSw; (try dsimp only at hSw); go_simp) <;> with_reducible rfl
          try simp only [Act.put, List.setIfInBounds_toArray, List.set_cons_zero, List.set_cons_succ]
          refine wpAnyT_take (i := 2) (oi := _) (v := ?_) rfl (by kernel_rfl) (by kernel_rfl) (by kernel_rfl) (by kernel_rfl) (fun _ _ _ h => h) (Or.inl ⟨by rfl, ?_⟩) F0 ?_
          rotate_left
          · (intro w' hSw; (try dsimp only at hSw); go_simp) <;> with_reducible rfl
          try simp only [Act.put, List.setIfInBounds_toArray, List.set_cons_zero, List.set_cons_succ]
          refine wpAnyT_take (i := 3) (oi := _) (v := ?_) rfl (by kernel_rfl) (by kernel_rfl) (by kernel_rfl) (by kernel_rfl) (fun _ _ _ h => h) (Or.inl ⟨by rfl, ?_⟩) F0 ?_
          rotate_left
          · (intro w' hSw; (try dsimp only at hSw); have r0 := cell_of_row w' _ 0 _ _ _ hSw; have r1 := cell_of_row w' _ 1 _ _ _ hSw; have r2 := cell_of_row w' _ 2 _ _ _ hSw; simp only [List.getElem?_toArray, List.getElem?_cons_zero, List.getElem?_cons_succ] at r0 r1 r2; clear hSw; go_simp) <;> with_reducible rfl
          try simp only [Act.put, List.setIfInBounds_toArray, List.set_cons_zero, List.set_cons_succ]
          refine wpAnyT_take (i := 4) (oi := _) (v := ?_) rfl (by kernel_rfl) (by kernel_rfl) (by kernel_rfl) (by kernel_rfl) (fun _ _ _ h => h) (Or.inl ⟨by rfl, ?_⟩) F0 ?_
          rotate_left
          · (intro w' hSw; (try dsimp only at hSw); go_simp) <;> with_reducible rfl
          try simp only [Act.put, List.setIfInBounds_toArray, List.set_cons_zero, List.set_cons_succ]
          refine wpAnyT_take (i := 5) (oi := _) (v := ?_) rfl (by kernel_rfl) (by kernel_rfl) (by kernel_rfl) (by kernel_rfl) (fun _ _ _ h => h) (Or.inl ⟨by rfl, ?_⟩) F0 ?_
          rotate_left
          · (intro w' hSw; (try dsimp only at hSw); go_simp) <;> with_reducible rfl
          try simp only [Act.put, List.setIfInBounds_toArray, List.set_cons_zero, List.set_cons_succ]
          refine wpAnyT_take (i := 6) (oi := _) (v := ?_) rfl (by kernel_rfl) (by kernel_rfl) (by kernel_rfl) (by kernel_rfl) (fun _ _ _ h => h) (Or.inl ⟨by rfl, ?_⟩) F0 ?_
          rotate_left
          · (intro w' hSw; (try dsimp only at hSw); go_simp) <;> with_reducible rfl
          try simp only [Act.put, List.setIfInBounds_toArray, List.set_cons_zero, List.set_cons_succ]
          refine wpAnyT_take (i := 7) (oi := _) (v := ?_) rfl (by kernel_rfl) (by kernel_rfl) (by kernel_rfl) (by kernel_rfl) (fun _ _ _ h => h) (Or.inl ⟨by rfl, ?_⟩) F0 ?_
          rotate_left
          · (intro w' hSw; (try dsimp only at hSw); have r0 := cell_of_row w' _ 0 _ _ _ hSw; have r1 := cell_of_row w' _ 1 _ _ _ hSw; have r2 := cell_of_row w' _ 2 _ _ _ hSw; simp only [List.getElem?_toArray, List.getElem?_cons_zero, List.getElem?_cons_succ] at r0 r1 r2; clear hSw; go_simp) <;> with_reducible rfl
          try simp only [Act.put, List.setIfInBounds_toArray, List.set_cons_zero, List.set_cons_succ]
          refine wpAnyT_take (i := 8) (oi := _) (v := ?_) rfl (by kernel_rfl) (by kernel_rfl) (by kernel_rfl) (by kernel_rfl) (fun _ _ _ h => h) (Or.inl ⟨by rfl, ?_⟩) F0 ?_
          rotate_left
          · (intro w' hSw; (try dsimp only at hSw); go_simp) <;> with_reducible rfl
          try simp only [Act.put, List.setIfInBounds_toArray, List.set_cons_zero, List.set_cons_succ]
          refine wpAnyT_take (i := 9) (oi := _) (v := ?_) rfl (by kernel_rfl) (by kernel_rfl) (by kernel_rfl) (by kernel_rfl) (fun _ _ _ h => h) (Or.inl ⟨by rfl, ?_⟩) F0 ?_
          rotate_left
          · (intro w' hSw; (try dsimp only at hSw); go_simp) <;> with_reducible rfl
          try simp only [Act.put, List.setIfInBounds_toArray, List.set_cons_zero, List.set_cons_succ]
          refine wpAnyT_two (k := 10) (k2 := 14) (o := _) (o2 := _) (by kernel_rfl) rfl rfl rfl rfl ?_ ?_
          · intro K hK
            go_simp
            refine (TC.out X0 HB0).mono ?_
            rintro e X1 ⟨v, ok, rfl, hv, hb⟩
            have HB1 := HB0.trans (hb.mono HB0.size)
            have sX1 := hb.size
            have F0 := (HB1.block g (by omega)).trans HG.out
            refine hK.out _ _ (fun _ => F0) ?_
            clear hK
            try simp only [Act.put, List.setIfInBounds_toArray, List.set_cons_zero, List.set_cons_succ]
            refine wpAnyT_take (i := 11) (oi := _) (v := ?_) rfl (by kernel_rfl) (by kernel_rfl) (by kernel_rfl) (by kernel_rfl) (fun _ _ _ h => h) (Or.inl ⟨by rfl, ?_⟩) F0 ?_
            rotate_left
            · (intro w' hSw; (try dsimp only at hSw); go_simp) <;> with_reducible rfl
            try simp only [Act.put, List.setIfInBounds_toArray, List.set_cons_zero, List.set_cons_succ]
            refine wpAnyT_take (i := 12) (oi := _) (v := ?_) rfl (by kernel_rfl) (by kernel_rfl) (by kernel_rfl) (by kernel_rfl) (fun _ _ _ h => h) (Or.inl ⟨by rfl, ?_⟩) F0 ?_
            rotate_left
            · (intro w' hSw; (try dsimp only at hSw); go_simp) <;> with_reducible rfl
            try simp only [Act.put, List.setIfInBounds_toArray, List.set_cons_zero, List.set_cons_succ]
            refine wpAnyT_take (i := 13) (oi := _) (v := ?_) rfl (by kernel_rfl) (by kernel_rfl) (by kernel_rfl) (by kernel_rfl) (fun _ _ _ h => h) (Or.inl ⟨by rfl, ?_⟩) F0 ?_
            rotate_left
            · (intro w' hSw; (try dsimp only at hSw); go_simp) <;> with_reducible rfl
            try simp only [Act.put, List.setIfInBounds_toArray, List.set_cons_zero, List.set_cons_succ]
            refine wpAnyT_one (k := 14) (o := _) (by kernel_rfl) rfl rfl ?_
            intro K hK
            go_simp
            have up : Below X1.heap.size X1 (X1.alloc (.cells #[.int .i64 0, .int .i64 0, .string ⟨#[]⟩] 24)) := up_a1 X1 _
            have HB2 : Below W0.heap.size W0 (X1.alloc (.cells #[.int .i64 0, .int .i64 0, .string ⟨#[]⟩] 24)) := HB1.trans (up.mono HB1.size)
            have GB := heap_alloc_new X1 (.cells #[.int .i64 0, .int .i64 0, .string ⟨#[]⟩] 24)
            have sX2 : X1.heap.size < (X1.alloc (.cells #[.int .i64 0, .int .i64 0, .string ⟨#[]⟩] 24)).heap.size := by simp
            have F0 := (HB2.block g (by omega)).trans HG.out
            refine hK.out _ _ (fun _ => F0) ?_
            clear hK
            generalize (X1.alloc (.cells #[.int .i64 0, .int .i64 0, .string ⟨#[]⟩] 24)) = X2 at *
            have GB := Lib.hid GB
            try simp only [Act.put, List.setIfInBounds_toArray, List.set_cons_zero, List.set_cons_succ]
            have hxb := HB1.size
            have hch : Chg (X1.heap.size) (X1.heap.size + 1) X2 (((X2.setCell ⟨X1.heap.size, 0, none⟩ (.int .i64 v.ty)).setCell ⟨X1.heap.size, 1, none⟩ (.int .i64 v.n)).setCell ⟨X1.heap.size, 2, none⟩ (.string v.s)) := ((chg_setR _ _ _ _).trans (chg_setR _ _ _ _)).trans (chg_setR _ _ _ _)
            have G6 := set3V (v0 := .int .i64 v.ty) (v1 := .int .i64 v.n) (v2 := .string v.s) GB.out
            have RR := Lib.hid (show ValC W0 (s.extract a k) (Value.pointer (some ⟨X1.heap.size, 0, none⟩)) (.bool ok) (((X2.setCell ⟨X1.heap.size, 0, none⟩ (.int .i64 v.ty)).setCell ⟨X1.heap.size, 1, none⟩ (.int .i64 v.n)).setCell ⟨X1.heap.size, 2, none⟩ (.string v.s)) from ⟨X1.heap.size, v, ok, rfl, rfl, G6, hxb, hv, HB2.trans ((hch.below (Nat.le_refl _) (by omega)).mono hxb)⟩)
            have F1 := (hch.block g (by omega) (by omega)).trans ((HB2.block g (by omega)).trans HG.out)
            clear G6 hch
            have t0 := cell_of_row X2 (X1.heap.size) 0 _ _ _ GB.out
            have t1 := cell_of_row X2 (X1.heap.size) 1 _ _ _ GB.out
            have t2 := cell_of_row X2 (X1.heap.size) 2 _ _ _ GB.out
            simp only [List.getElem?_toArray, List.getElem?_cons_zero, List.getElem?_cons_succ] at t0 t1 t2
            have ft := fun o => frozen_of_row X2 (X1.heap.size) o _ _ GB.out
            refine wpAnyT_one (k := 15) (o := _) (by kernel_rfl) rfl rfl ?_
            intro K hK
            go_simp
            refine hK.out _ _ (fun _ => F1) ?_
            clear hK
            try simp only [Act.put, List.setIfInBounds_toArray, List.set_cons_zero, List.set_cons_succ]
            refine wpAnyT_one (k := 16) (o := _) (by kernel_rfl) rfl rfl ?_
            intro K hK
            go_simp
            refine hK.out _ _ (fun h => absurd rfl h) ?_
            clear hK
            refine wpAnyT_done (by kernel_rfl) ?_ _
            go_wp2_with fail
            go_meet
            with_reducible exact RR.out
          · intro K hK
            go_simp
            have up : Below X0.heap.size X0 (X0.alloc (.cells #[.int .i64 0, .int .i64 0, .string ⟨#[]⟩] 24)) := up_a1 X0 _
            have HB1 : Below W0.heap.size W0 (X0.alloc (.cells #[.int .i64 0, .int .i64 0, .string ⟨#[]⟩] 24)) := HB0.trans (up.mono HB0.size)
            have GB := heap_alloc_new X0 (.cells #[.int .i64 0, .int .i64 0, .string ⟨#[]⟩] 24)
            have sX1 : X0.heap.size < (X0.alloc (.cells #[.int .i64 0, .int .i64 0, .string ⟨#[]⟩] 24)).heap.size := by simp
            have F0 := (HB1.block g (by omega)).trans HG.out
            refine hK.out _ _ (fun _ => F0) ?_
            clear hK
            generalize (X0.alloc (.cells #[.int .i64 0, .int .i64 0, .string ⟨#[]⟩] 24)) = X1 at *
            have GB := Lib.hid GB
            try simp only [Act.put, List.setIfInBounds_toArray, List.set_cons_zero, List.set_cons_succ]
            refine wpAnyT_one (k := 10) (o := _) (by kernel_rfl) rfl rfl ?_
            intro K hK
            go_simp
            refine (TC.out X1 HB1).mono ?_
            rintro e X2 ⟨v, ok, rfl, hv, hb⟩
            have HB2 := HB1.trans (hb.mono HB1.size)
            have sX2 := hb.size
            have F0 := (HB2.block g (by omega)).trans HG.out
            refine hK.out _ _ (fun _ => F0) ?_
            clear hK
            try simp only [Act.put, List.setIfInBounds_toArray, List.set_cons_zero, List.set_cons_succ]
            replace GB := Lib.hid ((hb.block _ (by omega)).trans GB.out)
            refine wpAnyT_take (i := 11) (oi := _) (v := ?_) rfl (by kernel_rfl) (by kernel_rfl) (by kernel_rfl) (by kernel_rfl) (fun _ _ _ h => h) (Or.inl ⟨by rfl, ?_⟩) F0 ?_
            rotate_left
            · (intro w' hSw; (try dsimp only at hSw); go_simp) <;> with_reducible rfl
            try simp only [Act.put, List.setIfInBounds_toArray, List.set_cons_zero, List.set_cons_succ]
            refine wpAnyT_take (i := 12) (oi := _) (v := ?_) rfl (by kernel_rfl) (by kernel_rfl) (by kernel_rfl) (by kernel_rfl) (fun _ _ _ h => h) (Or.inl ⟨by rfl, ?_⟩) F0 ?_
            rotate_left
            · (intro w' hSw; (try dsimp only at hSw); go_simp) <;> with_reducible rfl
            try simp only [Act.put, List.setIfInBounds_toArray, List.set_cons_zero, List.set_cons_succ]
            refine wpAnyT_take (i := 13) (oi := _) (v := ?_) rfl (by kernel_rfl) (by kernel_rfl) (by kernel_rfl) (by kernel_rfl) (fun _ _ _ h => h) (Or.inl ⟨by rfl, ?_⟩) F0 ?_
            rotate_left
            · (intro w' hSw; (try dsimp only at hSw); go_simp) <;> with_reducible rfl
            try simp only [Act.put, List.setIfInBounds_toArray, List.set_cons_zero, List.set_cons_succ]
            have hxb := HB0.size
            have hch : Chg (X0.heap.size) (X0.heap.size + 1) X2 (((X2.setCell ⟨X0.heap.size, 0, none⟩ (.int .i64 v.ty)).setCell ⟨X0.heap.size, 1, none⟩ (.int .i64 v.n)).setCell ⟨X0.heap.size, 2, none⟩ (.string v.s)) := ((chg_setR _ _ _ _).trans (chg_setR _ _ _ _)).trans (chg_setR _ _ _ _)
            have G6 := set3V (v0 := .int .i64 v.ty) (v1 := .int .i64 v.n) (v2 := .string v.s) GB.out
            have RR := Lib.hid (show ValC W0 (s.extract a k) (Value.pointer (some ⟨X0.heap.size, 0, none⟩)) (.bool ok) (((X2.setCell ⟨X0.heap.size, 0, none⟩ (.int .i64 v.ty)).setCell ⟨X0.heap.size, 1, none⟩ (.int .i64 v.n)).setCell ⟨X0.heap.size, 2, none⟩ (.string v.s)) from ⟨X0.heap.size, v, ok, rfl, rfl, G6, hxb, hv, HB2.trans ((hch.below (Nat.le_refl _) (by omega)).mono hxb)⟩)
            have F1 := (hch.block g (by omega) (by omega)).trans ((HB2.block g (by omega)).trans HG.out)
            clear G6 hch
            have t0 := cell_of_row X2 (X0.heap.size) 0 _ _ _ GB.out
            have t1 := cell_of_row X2 (X0.heap.size) 1 _ _ _ GB.out
            have t2 := cell_of_row X2 (X0.heap.size) 2 _ _ _ GB.out
            simp only [List.getElem?_toArray, List.getElem?_cons_zero, List.getElem?_cons_succ] at t0 t1 t2
            have ft := fun o => frozen_of_row X2 (X0.heap.size) o _ _ GB.out
            refine wpAnyT_one (k := 15) (o := _) (by kernel_rfl) rfl rfl ?_
            intro K hK
            go_simp
            refine hK.out _ _ (fun _ => F1) ?_
            clear hK
            try simp only [Act.put, List.setIfInBounds_toArray, List.set_cons_zero, List.set_cons_succ]
            refine wpAnyT_one (k := 16) (o := _) (by kernel_rfl) rfl rfl ?_
            intro K hK
            go_simp
            refine hK.out _ _ (fun h => absurd rfl h) ?_
            clear hK
            refine wpAnyT_done (by kernel_rfl) ?_ _
            go_wp2_with fail
            go_meet
            with_reducible exact RR.out
        case rest =>
          obtain ⟨bx, v, ok, rfl, rfl, hcx, hbx, hv, hbw⟩ := hcut
          rename World => w5
          have hw5 := hbw.size
          have G5 := Lib.hid ((hbw.block g (by omega)).trans HG.out)
          have Z5 := Lib.hid ((hbw.block w.heap.size (by omega)).trans GZ.out)
          have C5 := Lib.hid hcx
          have HV := Lib.hid hv
          have HBw := Lib.hid hbw
          have hbl : bx < w5.heap.size := (Array.getElem?_eq_some_iff.1 hcx).1
          clear hcx hv hbw k0 k1 k2 TC
          cases b
          · cases ok
            · have k6 := set1r (a := .int .i64 (k : Int)) (set2r (a := .bool true) G5.out)
              have hch : Chg g (g + 1) w5 ((w5.setCell ⟨g, 2, none⟩ (.bool true)).setCell ⟨g, 1, none⟩ (.int .i64 (k : Int))) := (chg_setR _ _ _ _).trans (chg_setR _ _ _ _)
              have k0 := cell_of_row w5 (g) 0 _ _ _ G5.out
              have k1 := cell_of_row w5 (g) 1 _ _ _ G5.out
              have k2 := cell_of_row w5 (g) 2 _ _ _ G5.out
              simp only [List.getElem?_toArray, List.getElem?_cons_zero, List.getElem?_cons_succ] at k0 k1 k2
              have f0 := fun o => frozen_of_row w5 g o _ _ G5.out
              obtain ⟨W6, hW6⟩ : ∃ W6, ((w5.setCell ⟨g, 2, none⟩ (.bool true)).setCell ⟨g, 1, none⟩ (.int .i64 (k : Int))) = W6 := ⟨_, rfl⟩
              rw [hW6] at k6 hch
              have HW6 := Lib.hid hW6
              have K6 := Lib.hid k6
              have Hch := Lib.hid hch
              have Z6 := Lib.hid ((hch.block w.heap.size (by omega) (by omega)).trans Z5.out)
              have C6 := Lib.hid ((hch.block bx (by omega) (by omega)).trans C5.out)
              have hw6 := hch.size
              clear hW6 k6 hch
              go_upto_region 7 with fail
              rw [HW6.out]
              clear HW6 k0 k1 k2 f0
              have q0 := cell_of_row W6 (bx) 0 _ _ _ C6.out
              have q1 := cell_of_row W6 (bx) 1 _ _ _ C6.out
              have q2 := cell_of_row W6 (bx) 2 _ _ _ C6.out
              simp only [List.getElem?_toArray, List.getElem?_cons_zero, List.getElem?_cons_succ] at q0 q1 q2
              have r0 := cell_of_row W6 (w.heap.size) 0 _ _ _ Z6.out
              have r1 := cell_of_row W6 (w.heap.size) 1 _ _ _ Z6.out
              have r2 := cell_of_row W6 (w.heap.size) 2 _ _ _ Z6.out
              simp only [List.getElem?_toArray, List.getElem?_cons_zero, List.getElem?_cons_succ] at r0 r1 r2
              have f1 := fun o => frozen_of_row W6 w.heap.size o _ _ Z6.out
              go_wp2_with fail
              refine bodyPost_ret (v := .agg #[.int .i64 v.ty, .int .i64 v.n, .string v.s]) ?_ rfl ⟨v, false, rfl, ?_, ⟨?_, ?_⟩, ?_⟩
              · simp [results, Tryz.results72, go_sem, r0, r1, r2]
              · rw [HU.out.1]
                exact HV
              · rw [HU.out.2, show a + (k - a) = k by omega]
                iterate 3 rw [Below.heap_setCell _ ⟨w.heap.size, _, none⟩ _ g (by show g ≠ w.heap.size; omega)]
                exact K6.out
              · rw [HU.out.2]
                omega
              · iterate 3 refine chg_setZ ?_ (Nat.le_refl _) _
                exact (chg_belowV UP.out).trans ((chg_belowV (HBw.out.mono (by omega))).trans Hch.out)
            · have k6 := set1r (a := .int .i64 (k : Int)) (set2r (a := .bool false) G5.out)
              have hch : Chg g (g + 1) w5 ((w5.setCell ⟨g, 2, none⟩ (.bool false)).setCell ⟨g, 1, none⟩ (.int .i64 (k : Int))) := (chg_setR _ _ _ _).trans (chg_setR _ _ _ _)
              have k0 := cell_of_row w5 (g) 0 _ _ _ G5.out
              have k1 := cell_of_row w5 (g) 1 _ _ _ G5.out
              have k2 := cell_of_row w5 (g) 2 _ _ _ G5.out
              simp only [List.getElem?_toArray, List.getElem?_cons_zero, List.getElem?_cons_succ] at k0 k1 k2
              have f0 := fun o => frozen_of_row w5 g o _ _ G5.out
              obtain ⟨W6, hW6⟩ : ∃ W6, ((w5.setCell ⟨g, 2, none⟩ (.bool false)).setCell ⟨g, 1, none⟩ (.int .i64 (k : Int))) = W6 := ⟨_, rfl⟩
              rw [hW6] at k6 hch
              have HW6 := Lib.hid hW6
              have K6 := Lib.hid k6
              have Hch := Lib.hid hch
              have Z6 := Lib.hid ((hch.block w.heap.size (by omega) (by omega)).trans Z5.out)
              have C6 := Lib.hid ((hch.block bx (by omega) (by omega)).trans C5.out)
              have hw6 := hch.size
              clear hW6 k6 hch
              go_upto_region 7 with fail
              rw [HW6.out]
              clear HW6 k0 k1 k2 f0
              have q0 := cell_of_row W6 (bx) 0 _ _ _ C6.out
              have q1 := cell_of_row W6 (bx) 1 _ _ _ C6.out
              have q2 := cell_of_row W6 (bx) 2 _ _ _ C6.out
              simp only [List.getElem?_toArray, List.getElem?_cons_zero, List.getElem?_cons_succ] at q0 q1 q2
              have r0 := cell_of_row W6 (w.heap.size) 0 _ _ _ Z6.out
              have r1 := cell_of_row W6 (w.heap.size) 1 _ _ _ Z6.out
              have r2 := cell_of_row W6 (w.heap.size) 2 _ _ _ Z6.out
              simp only [List.getElem?_toArray, List.getElem?_cons_zero, List.getElem?_cons_succ] at r0 r1 r2
              have f1 := fun o => frozen_of_row W6 w.heap.size o _ _ Z6.out
              go_wp2_with fail
              refine bodyPost_ret (v := .agg #[.int .i64 v.ty, .int .i64 v.n, .string v.s]) ?_ rfl ⟨v, true, rfl, ?_, ⟨?_, ?_⟩, ?_⟩
              · simp [results, Tryz.results72, go_sem, r0, r1, r2]
              · rw [HU.out.1]
                exact HV
              · rw [HU.out.2, show a + (k - a) = k by omega]
                iterate 3 rw [Below.heap_setCell _ ⟨w.heap.size, _, none⟩ _ g (by show g ≠ w.heap.size; omega)]
                exact K6.out
              · rw [HU.out.2]
                omega
              · iterate 3 refine chg_setZ ?_ (Nat.le_refl _) _
                exact (chg_belowV UP.out).trans ((chg_belowV (HBw.out.mono (by omega))).trans Hch.out)
          · cases ok
            · have k6 := set1r (a := .int .i64 (k : Int)) (set2r (a := .bool true) G5.out)
              have hch : Chg g (g + 1) w5 ((w5.setCell ⟨g, 2, none⟩ (.bool true)).setCell ⟨g, 1, none⟩ (.int .i64 (k : Int))) := (chg_setR _ _ _ _).trans (chg_setR _ _ _ _)
              have k0 := cell_of_row w5 (g) 0 _ _ _ G5.out
              have k1 := cell_of_row w5 (g) 1 _ _ _ G5.out
              have k2 := cell_of_row w5 (g) 2 _ _ _ G5.out
              simp only [List.getElem?_toArray, List.getElem?_cons_zero, List.getElem?_cons_succ] at k0 k1 k2
              have f0 := fun o => frozen_of_row w5 g o _ _ G5.out
              obtain ⟨W6, hW6⟩ : ∃ W6, ((w5.setCell ⟨g, 2, none⟩ (.bool true)).setCell ⟨g, 1, none⟩ (.int .i64 (k : Int))) = W6 := ⟨_, rfl⟩
              rw [hW6] at k6 hch
              have HW6 := Lib.hid hW6
              have K6 := Lib.hid k6
              have Hch := Lib.hid hch
              have Z6 := Lib.hid ((hch.block w.heap.size (by omega) (by omega)).trans Z5.out)
              have C6 := Lib.hid ((hch.block bx (by omega) (by omega)).trans C5.out)
              have hw6 := hch.size
              clear hW6 k6 hch
              go_upto_region 7 with fail
              rw [HW6.out]
              clear HW6 k0 k1 k2 f0
              have q0 := cell_of_row W6 (bx) 0 _ _ _ C6.out
              have q1 := cell_of_row W6 (bx) 1 _ _ _ C6.out
              have q2 := cell_of_row W6 (bx) 2 _ _ _ C6.out
              simp only [List.getElem?_toArray, List.getElem?_cons_zero, List.getElem?_cons_succ] at q0 q1 q2
              have r0 := cell_of_row W6 (w.heap.size) 0 _ _ _ Z6.out
              have r1 := cell_of_row W6 (w.heap.size) 1 _ _ _ Z6.out
              have r2 := cell_of_row W6 (w.heap.size) 2 _ _ _ Z6.out
              simp only [List.getElem?_toArray, List.getElem?_cons_zero, List.getElem?_cons_succ] at r0 r1 r2
              have f1 := fun o => frozen_of_row W6 w.heap.size o _ _ Z6.out
              go_wp2_with fail
              refine bodyPost_ret (v := .agg #[.int .i64 v.ty, .int .i64 v.n, .string v.s]) ?_ rfl ⟨v, false, rfl, ?_, ⟨?_, ?_⟩, ?_⟩
              · simp [results, Tryz.results72, go_sem, r0, r1, r2]
              · rw [HU.out.1]
                exact HV
              · rw [HU.out.2, show a + (k - a) = k by omega]
                iterate 3 rw [Below.heap_setCell _ ⟨w.heap.size, _, none⟩ _ g (by show g ≠ w.heap.size; omega)]
                exact K6.out
              · rw [HU.out.2]
                omega
              · iterate 3 refine chg_setZ ?_ (Nat.le_refl _) _
                exact (chg_belowV UP.out).trans ((chg_belowV (HBw.out.mono (by omega))).trans Hch.out)
            · have k6 := set1r (a := .int .i64 (k : Int)) (set2r (a := .bool true) G5.out)
              have hch : Chg g (g + 1) w5 ((w5.setCell ⟨g, 2, none⟩ (.bool true)).setCell ⟨g, 1, none⟩ (.int .i64 (k : Int))) := (chg_setR _ _ _ _).trans (chg_setR _ _ _ _)
              have k0 := cell_of_row w5 (g) 0 _ _ _ G5.out
              have k1 := cell_of_row w5 (g) 1 _ _ _ G5.out
              have k2 := cell_of_row w5 (g) 2 _ _ _ G5.out
              simp only [List.getElem?_toArray, List.getElem?_cons_zero, List.getElem?_cons_succ] at k0 k1 k2
              have f0 := fun o => frozen_of_row w5 g o _ _ G5.out
              obtain ⟨W6, hW6⟩ : ∃ W6, ((w5.setCell ⟨g, 2, none⟩ (.bool true)).setCell ⟨g, 1, none⟩ (.int .i64 (k : Int))) = W6 := ⟨_, rfl⟩
              rw [hW6] at k6 hch
              have HW6 := Lib.hid hW6
              have K6 := Lib.hid k6
              have Hch := Lib.hid hch
              have Z6 := Lib.hid ((hch.block w.heap.size (by omega) (by omega)).trans Z5.out)
              have C6 := Lib.hid ((hch.block bx (by omega) (by omega)).trans C5.out)
              have hw6 := hch.size
              clear hW6 k6 hch
              go_upto_region 7 with fail
              rw [HW6.out]
              clear HW6 k0 k1 k2 f0
              have q0 := cell_of_row W6 (bx) 0 _ _ _ C6.out
              have q1 := cell_of_row W6 (bx) 1 _ _ _ C6.out
              have q2 := cell_of_row W6 (bx) 2 _ _ _ C6.out
              simp only [List.getElem?_toArray, List.getElem?_cons_zero, List.getElem?_cons_succ] at q0 q1 q2
              have r0 := cell_of_row W6 (w.heap.size) 0 _ _ _ Z6.out
              have r1 := cell_of_row W6 (w.heap.size) 1 _ _ _ Z6.out
              have r2 := cell_of_row W6 (w.heap.size) 2 _ _ _ Z6.out
              simp only [List.getElem?_toArray, List.getElem?_cons_zero, List.getElem?_cons_succ] at r0 r1 r2
              have f1 := fun o => frozen_of_row W6 w.heap.size o _ _ Z6.out
              go_wp2_with fail
              refine bodyPost_ret (v := .agg #[.int .i64 v.ty, .int .i64 v.n, .string v.s]) ?_ rfl ⟨v, true, rfl, ?_, ⟨?_, ?_⟩, ?_⟩
              · simp [results, Tryz.results72, go_sem, r0, r1, r2]
              · rw [HU.out.1]
                exact HV
              · rw [HU.out.2, show a + (k - a) = k by omega]
                iterate 3 rw [Below.heap_setCell _ ⟨w.heap.size, _, none⟩ _ g (by show g ≠ w.heap.size; omega)]
                exact K6.out
              · rw [HU.out.2]
                omega
              · iterate 3 refine chg_setZ ?_ (Nat.le_refl _) _
                exact (chg_belowV UP.out).trans ((chg_belowV (HBw.out.mono (by omega))).trans Hch.out)
      · have hd : decide ((k : Int) < (s.size : Int)) = true := decide_eq_true (by omega)
        have h44 : ((s[k].toNat : Int) != 44) = true := by rw [hc]; rfl
        have h41 : ((s[k].toNat : Int) != 41) = false := by rw [hc]; rfl
        clear hc hgo hst
        go_upto_region 4 with fail
        go_cut [4, 5] from 37 to 50 (fun t4 t5 wx => ValC W0 (s.extract a k) t4 t5 wx)
        case first =>
          refine wp_region_T (S := fun w' => w'.heap[g]? = some (.cells #[.string s, .int .i64 a, .bool b] 49)) (n := 16) (by kernel_rfl) ?_
          obtain ⟨X0, hX0⟩ : ∃ X0, W0.drew = X0 := ⟨_, rfl⟩
          have HB0 : Below W0.heap.size W0 X0 := hX0 ▸ (Below.refl _ _).drew
          rw [hX0]
          clear hX0 k0 k1 k2
          have F0 := (HB0.block g (by omega)).trans HG.out
          refine wpAnyT_take (i := 0) (oi := _) (v := ?_) rfl (by kernel_rfl) (by kernel_rfl) (by kernel_rfl) (by kernel_rfl) (fun _ _ _ h => h) (Or.inl ⟨by rfl, ?_⟩) F0 ?_
          rotate_left
          · (intro w' hSw; (try dsimp only at hSw); go_simp) <;> with_reducible rfl
          try simp only [Act.put, List.setIfInBounds_toArray, List.set_cons_zero, List.set_cons_succ]
          refine wpAnyT_take (i := 1) (oi := _) (v := ?_) rfl (by kernel_rfl) (by kernel_rfl) (by kernel_rfl) (by kernel_rfl) (fun _ _ _ h => h) (Or.inl ⟨by rfl, ?_⟩) F0 ?_
          rotate_left
          · (intro w' hSw; (try dsimp only at hSw); go_simp) <;> with_reducible rfl
          try simp only [Act.put, List.setIfInBounds_toArray, List.set_cons_zero, List.set_cons_succ]
          refine wpAnyT_take (i := 2) (oi := _) (v := ?_) rfl (by kernel_rfl) (by kernel_rfl) (by kernel_rfl) (by kernel_rfl) (fun _ _ _ h => h) (Or.inl ⟨by rfl, ?_⟩) F0 ?_
          rotate_left
          · (intro w' hSw; (try dsimp only at hSw); go_simp) <;> with_reducible rfl
          try simp only [Act.put, List.setIfInBounds_toArray, List.set_cons_zero, List.set_cons_succ]
          refine wpAnyT_take (i := 3) (oi := _) (v := ?_) rfl (by kernel_rfl) (by kernel_rfl) (by kernel_rfl) (by kernel_rfl) (fun _ _ _ h => h) (Or.inl ⟨by rfl, ?_⟩) F0 ?_
          rotate_left
          · (intro w' hSw; (try dsimp only at hSw); have r0 := cell_of_row w' _ 0 _ _ _ hSw; have r1 := cell_of_row w' _ 1 _ _ _ hSw; have r2 := cell_of_row w' _ 2 _ _ _ hSw; simp only [List.getElem?_toArray, List.getElem?_cons_zero, List.getElem?_cons_succ] at r0 r1 r2; clear hSw; go_simp) <;> with_reducible rfl
          try simp only [Act.put, List.setIfInBounds_toArray, List.set_cons_zero, List.set_cons_succ]
          refine wpAnyT_take (i := 4) (oi := _) (v := ?_) rfl (by kernel_rfl) (by kernel_rfl) (by kernel_rfl) (by kernel_rfl) (fun _ _ _ h => h) (Or.inl ⟨by rfl, ?_⟩) F0 ?_
          rotate_left
          · (intro w' hSw; (try dsimp only at hSw); go_simp) <;> with_reducible rfl
          try simp only [Act.put, List.setIfInBounds_toArray, List.set_cons_zero, List.set_cons_succ]
          refine wpAnyT_take (i := 5) (oi := _) (v := ?_) rfl (by kernel_rfl) (by kernel_rfl) (by kernel_rfl) (by kernel_rfl) (fun _ _ _ h => h) (Or.inl ⟨by rfl, ?_⟩) F0 ?_
          rotate_left
          · (intro w' hSw; (try dsimp only at hSw); go_simp) <;> with_reducible rfl
          try simp only [Act.put, List.setIfInBounds_toArray, List.set_cons_zero, List.set_cons_succ]
          refine wpAnyT_take (i := 6) (oi := _) (v := ?_) rfl (by kernel_rfl) (by kernel_rfl) (by kernel_rfl) (by kernel_rfl) (fun _ _ _ h => h) (Or.inl ⟨by rfl, ?_⟩) F0 ?_
          rotate_left
          · (intro w' hSw; (try dsimp only at hSw); go_simp) <;> with_reducible rfl
          try simp only [Act.put, List.setIfInBounds_toArray, List.set_cons_zero, List.set_cons_succ]
          refine wpAnyT_take (i := 7) (oi := _) (v := ?_) rfl (by kernel_rfl) (by kernel_rfl) (by kernel_rfl) (by kernel_rfl) (fun _ _ _ h => h) (Or.inl ⟨by rfl, ?_⟩) F0 ?_
          rotate_left
          · (intro w' hSw; (try dsimp only at hSw); have r0 := cell_of_row w' _ 0 _ _ _ hSw; have r1 := cell_of_row w' _ 1 _ _ _ hSw; have r2 := cell_of_row w' _ 2 _ _ _ hSw; simp only [List.getElem?_toArray, List.getElem?_cons_zero, List.getElem?_cons_succ] at r0 r1 r2; clear hSw; go_simp) <;> with_reducible rfl
          try simp only [Act.put, List.setIfInBounds_toArray, List.set_cons_zero, List.set_cons_succ]
          refine wpAnyT_take (i := 8) (oi := _) (v := ?_) rfl (by kernel_rfl) (by kernel_rfl) (by kernel_rfl) (by kernel_rfl) (fun _ _ _ h => h) (Or.inl ⟨by rfl, ?_⟩) F0 ?_
          rotate_left
          · (intro w' hSw; (try dsimp only at hSw); go_simp) <;> with_reducible rfl
          try simp only [Act.put, List.setIfInBounds_toArray, List.set_cons_zero, List.set_cons_succ]
          refine wpAnyT_take (i := 9) (oi := _) (v := ?_) rfl (by kernel_rfl) (by kernel_rfl) (by kernel_rfl) (by kernel_rfl) (fun _ _ _ h => h) (Or.inl ⟨by rfl, ?_⟩) F0 ?_
          rotate_left
          · (intro w' hSw; (try dsimp only at hSw); go_simp) <;> with_reducible rfl
          try simp only [Act.put, List.setIfInBounds_toArray, List.set_cons_zero, List.set_cons_succ]
          refine wpAnyT_two (k := 10) (k2 := 14) (o := _) (o2 := _) (by kernel_rfl) rfl rfl rfl rfl ?_ ?_
          · intro K hK
            go_simp
            refine (TC.out X0 HB0).mono ?_
            rintro e X1 ⟨v, ok, rfl, hv, hb⟩
            have HB1 := HB0.trans (hb.mono HB0.size)
            have sX1 := hb.size
            have F0 := (HB1.block g (by omega)).trans HG.out
            refine hK.out _ _ (fun _ => F0) ?_
            clear hK
            try simp only [Act.put, List.setIfInBounds_toArray, List.set_cons_zero, List.set_cons_succ]
            refine wpAnyT_take (i := 11) (oi := _) (v := ?_) rfl (by kernel_rfl) (by kernel_rfl) (by kernel_rfl) (by kernel_rfl) (fun _ _ _ h => h) (Or.inl ⟨by rfl, ?_⟩) F0 ?_
            rotate_left
            · (intro w' hSw; (try dsimp only at hSw); go_simp) <;> with_reducible rfl
            try simp only [Act.put, List.setIfInBounds_toArray, List.set_cons_zero, List.set_cons_succ]
            refine wpAnyT_take (i := 12) (oi := _) (v := ?_) rfl (by kernel_rfl) (by kernel_rfl) (by kernel_rfl) (by kernel_rfl) (fun _ _ _ h => h) (Or.inl ⟨by rfl, ?_⟩) F0 ?_
            rotate_left
            · (intro w' hSw; (try dsimp only at hSw); go_simp) <;> with_reducible rfl
            try simp only [Act.put, List.setIfInBounds_toArray, List.set_cons_zero, List.set_cons_succ]
            refine wpAnyT_take (i := 13) (oi := _) (v := ?_) rfl (by kernel_rfl) (by kernel_rfl) (by kernel_rfl) (by kernel_rfl) (fun _ _ _ h => h) (Or.inl ⟨by rfl, ?_⟩) F0 ?_
            rotate_left
            · (intro w' hSw; (try dsimp only at hSw); go_simp) <;> with_reducible rfl
            try simp only [Act.put, List.setIfInBounds_toArray, List.set_cons_zero, List.set_cons_succ]
            refine wpAnyT_one (k := 14) (o := _) (by kernel_rfl) rfl rfl ?_
            intro K hK
            go_simp
            have up : Below X1.heap.size X1 (X1.alloc (.cells #[.int .i64 0, .int .i64 0, .string ⟨#[]⟩] 24)) := up_a1 X1 _
            have HB2 : Below W0.heap.size W0 (X1.alloc (.cells #[.int .i64 0, .int .i64 0, .string ⟨#[]⟩] 24)) := HB1.trans (up.mono HB1.size)
            have GB := heap_alloc_new X1 (.cells #[.int .i64 0, .int .i64 0, .string ⟨#[]⟩] 24)
            have sX2 : X1.heap.size < (X1.alloc (.cells #[.int .i64 0, .int .i64 0, .string ⟨#[]⟩] 24)).heap.size := by simp
            have F0 := (HB2.block g (by omega)).trans HG.out
            refine hK.out _ _ (fun _ => F0) ?_
            clear hK
            generalize (X1.alloc (.cells #[.int .i64 0, .int .i64 0, .string ⟨#[]⟩] 24)) = X2 at *
            have GB := Lib.hid GB
            try simp only [Act.put, List.setIfInBounds_toArray, List.set_cons_zero, List.set_cons_succ]
            have hxb := HB1.size
            have hch : Chg (X1.heap.size) (X1.heap.size + 1) X2 (((X2.setCell ⟨X1.heap.size, 0, none⟩ (.int .i64 v.ty)).setCell ⟨X1.heap.size, 1, none⟩ (.int .i64 v.n)).setCell ⟨X1.heap.size, 2, none⟩ (.string v.s)) := ((chg_setR _ _ _ _).trans (chg_setR _ _ _ _)).trans (chg_setR _ _ _ _)
            have G6 := set3V (v0 := .int .i64 v.ty) (v1 := .int .i64 v.n) (v2 := .string v.s) GB.out
            have RR := Lib.hid (show ValC W0 (s.extract a k) (Value.pointer (some ⟨X1.heap.size, 0, none⟩)) (.bool ok) (((X2.setCell ⟨X1.heap.size, 0, none⟩ (.int .i64 v.ty)).setCell ⟨X1.heap.size, 1, none⟩ (.int .i64 v.n)).setCell ⟨X1.heap.size, 2, none⟩ (.string v.s)) from ⟨X1.heap.size, v, ok, rfl, rfl, G6, hxb, hv, HB2.trans ((hch.below (Nat.le_refl _) (by omega)).mono hxb)⟩)
            have F1 := (hch.block g (by omega) (by omega)).trans ((HB2.block g (by omega)).trans HG.out)
            clear G6 hch
            have t0 := cell_of_row X2 (X1.heap.size) 0 _ _ _ GB.out
            have t1 := cell_of_row X2 (X1.heap.size) 1 _ _ _ GB.out
            have t2 := cell_of_row X2 (X1.heap.size) 2 _ _ _ GB.out
            simp only [List.getElem?_toArray, List.getElem?_cons_zero, List.getElem?_cons_succ] at t0 t1 t2
            have ft := fun o => frozen_of_row X2 (X1.heap.size) o _ _ GB.out
            refine wpAnyT_one (k := 15) (o := _) (by kernel_rfl) rfl rfl ?_
            intro K hK
            go_simp
            refine hK.out _ _ (fun _ => F1) ?_
            clear hK
            try simp only [Act.put, List.setIfInBounds_toArray, List.set_cons_zero, List.set_cons_succ]
            refine wpAnyT_one (k := 16) (o := _) (by kernel_rfl) rfl rfl ?_
            intro K hK
            go_simp
            refine hK.out _ _ (fun h => absurd rfl h) ?_
            clear hK
            refine wpAnyT_done (by kernel_rfl) ?_ _
            go_wp2_with fail
            go_meet
            with_reducible exact RR.out
          · intro K hK
            go_simp
            have up : Below X0.heap.size X0 (X0.alloc (.cells #[.int .i64 0, .int .i64 0, .string ⟨#[]⟩] 24)) := up_a1 X0 _
            have HB1 : Below W0.heap.size W0 (X0.alloc (.cells #[.int .i64 0, .int .i64 0, .string ⟨#[]⟩] 24)) := HB0.trans (up.mono HB0.size)
            have GB := heap_alloc_new X0 (.cells #[.int .i64 0, .int .i64 0, .string ⟨#[]⟩] 24)
            have sX1 : X0.heap.size < (X0.alloc (.cells #[.int .i64 0, .int .i64 0, .string ⟨#[]⟩] 24)).heap.size := by simp
            have F0 := (HB1.block g (by omega)).trans HG.out
            refine hK.out _ _ (fun _ => F0) ?_
            clear hK
            generalize (X0.alloc (.cells #[.int .i64 0, .int .i64 0, .string ⟨#[]⟩] 24)) = X1 at *
            have GB := Lib.hid GB
            try simp only [Act.put, List.setIfInBounds_toArray, List.set_cons_zero, List.set_cons_succ]
            refine wpAnyT_one (k := 10) (o := _) (by kernel_rfl) rfl rfl ?_
            intro K hK
            go_simp
            refine (TC.out X1 HB1).mono ?_
            rintro e X2 ⟨v, ok, rfl, hv, hb⟩
            have HB2 := HB1.trans (hb.mono HB1.size)
            have sX2 := hb.size
            have F0 := (HB2.block g (by omega)).trans HG.out
            refine hK.out _ _ (fun _ => F0) ?_
            clear hK
            try simp only [Act.put, List.setIfInBounds_toArray, List.set_cons_zero, List.set_cons_succ]
            replace GB := Lib.hid ((hb.block _ (by omega)).trans GB.out)
            refine wpAnyT_take (i := 11) (oi := _) (v := ?_) rfl (by kernel_rfl) (by kernel_rfl) (by kernel_rfl) (by kernel_rfl) (fun _ _ _ h => h) (Or.inl ⟨by rfl, ?_⟩) F0 ?_
            rotate_left
            · (intro w' hSw; (try dsimp only at hSw); go_simp) <;> with_reducible rfl
            try simp only [Act.put, List.setIfInBounds_toArray, List.set_cons_zero, List.set_cons_succ]
            refine wpAnyT_take (i := 12) (oi := _) (v := ?_) rfl (by kernel_rfl) (by kernel_rfl) (by kernel_rfl) (by kernel_rfl) (fun _ _ _ h => h) (Or.inl ⟨by rfl, ?_⟩) F0 ?_
            rotate_left
            · (intro w' hSw; (try dsimp only at hSw); go_simp) <;> with_reducible rfl
            try simp only [Act.put, List.setIfInBounds_toArray, List.set_cons_zero, List.set_cons_succ]
            refine wpAnyT_take (i := 13) (oi := _) (v := ?_) rfl (by kernel_rfl) (by kernel_rfl) (by kernel_rfl) (by kernel_rfl) (fun _ _ _ h => h) (Or.inl ⟨by rfl, ?_⟩) F0 ?_
            rotate_left
            · (intro w' hSw; (try dsimp only at hSw); go_simp) <;> with_reducible rfl
            try simp only [Act.put, List.setIfInBounds_toArray, List.set_cons_zero, List.set_cons_succ]
            have hxb := HB0.size
            have hch : Chg (X0.heap.size) (X0.heap.size + 1) X2 (((X2.setCell ⟨X0.heap.size, 0, none⟩ (.int .i64 v.ty)).setCell ⟨X0.heap.size, 1, none⟩ (.int .i64 v.n)).setCell ⟨X0.heap.size, 2, none⟩ (.string v.s)) := ((chg_setR _ _ _ _).trans (chg_setR _ _ _ _)).trans (chg_setR _ _ _ _)
            have G6 := set3V (v0 := .int .i64 v.ty) (v1 := .int .i64 v.n) (v2 := .string v.s) GB.out
            have RR := Lib.hid (show ValC W0 (s.extract a k) (Value.pointer (some ⟨X0.heap.size, 0, none⟩)) (.bool ok) (((X2.setCell ⟨X0.heap.size, 0, none⟩ (.int .i64 v.ty)).setCell ⟨X0.heap.size, 1, none⟩ (.int .i64 v.n)).setCell ⟨X0.heap.size, 2, none⟩ (.string v.s)) from ⟨X0.heap.size, v, ok, rfl, rfl, G6, hxb, hv, HB2.trans ((hch.below (Nat.le_refl _) (by omega)).mono hxb)⟩)
            have F1 := (hch.block g (by omega) (by omega)).trans ((HB2.block g (by omega)).trans HG.out)
            clear G6 hch
            have t0 := cell_of_row X2 (X0.heap.size) 0 _ _ _ GB.out
            have t1 := cell_of_row X2 (X0.heap.size) 1 _ _ _ GB.out
            have t2 := cell_of_row X2 (X0.heap.size) 2 _ _ _ GB.out
            simp only [List.getElem?_toArray, List.getElem?_cons_zero, List.getElem?_cons_succ] at t0 t1 t2
            have ft := fun o => frozen_of_row X2 (X0.heap.size) o _ _ GB.out
            refine wpAnyT_one (k := 15) (o := _) (by kernel_rfl) rfl rfl ?_
            intro K hK
            go_simp
            refine hK.out _ _ (fun _ => F1) ?_
            clear hK
            try simp only [Act.put, List.setIfInBounds_toArray, List.set_cons_zero, List.set_cons_succ]
            refine wpAnyT_one (k := 16) (o := _) (by kernel_rfl) rfl rfl ?_
            intro K hK
            go_simp
            refine hK.out _ _ (fun h => absurd rfl h) ?_
            clear hK
            refine wpAnyT_done (by kernel_rfl) ?_ _
            go_wp2_with fail
            go_meet
            with_reducible exact RR.out
        case rest =>
          obtain ⟨bx, v, ok, rfl, rfl, hcx, hbx, hv, hbw⟩ := hcut
          rename World => w5
          have hw5 := hbw.size
          have G5 := Lib.hid ((hbw.block g (by omega)).trans HG.out)
          have Z5 := Lib.hid ((hbw.block w.heap.size (by omega)).trans GZ.out)
          have C5 := Lib.hid hcx
          have HV := Lib.hid hv
          have HBw := Lib.hid hbw
          have hbl : bx < w5.heap.size := (Array.getElem?_eq_some_iff.1 hcx).1
          clear hcx hv hbw k0 k1 k2 TC
          cases b
          · cases ok
            · have k6 := set1r (a := .int .i64 (k : Int)) (set2r (a := .bool true) G5.out)
              have hch : Chg g (g + 1) w5 ((w5.setCell ⟨g, 2, none⟩ (.bool true)).setCell ⟨g, 1, none⟩ (.int .i64 (k : Int))) := (chg_setR _ _ _ _).trans (chg_setR _ _ _ _)
              have k0 := cell_of_row w5 (g) 0 _ _ _ G5.out
              have k1 := cell_of_row w5 (g) 1 _ _ _ G5.out
              have k2 := cell_of_row w5 (g) 2 _ _ _ G5.out
              simp only [List.getElem?_toArray, List.getElem?_cons_zero, List.getElem?_cons_succ] at k0 k1 k2
              have f0 := fun o => frozen_of_row w5 g o _ _ G5.out
              obtain ⟨W6, hW6⟩ : ∃ W6, ((w5.setCell ⟨g, 2, none⟩ (.bool true)).setCell ⟨g, 1, none⟩ (.int .i64 (k : Int))) = W6 := ⟨_, rfl⟩
              rw [hW6] at k6 hch
              have HW6 := Lib.hid hW6
              have K6 := Lib.hid k6
              have Hch := Lib.hid hch
              have Z6 := Lib.hid ((hch.block w.heap.size (by omega) (by omega)).trans Z5.out)
              have C6 := Lib.hid ((hch.block bx (by omega) (by omega)).trans C5.out)
              have hw6 := hch.size
              clear hW6 k6 hch
              go_upto_region 7 with fail
              rw [HW6.out]
              clear HW6 k0 k1 k2 f0
              have q0 := cell_of_row W6 (bx) 0 _ _ _ C6.out
              have q1 := cell_of_row W6 (bx) 1 _ _ _ C6.out
              have q2 := cell_of_row W6 (bx) 2 _ _ _ C6.out
              simp only [List.getElem?_toArray, List.getElem?_cons_zero, List.getElem?_cons_succ] at q0 q1 q2
              have r0 := cell_of_row W6 (w.heap.size) 0 _ _ _ Z6.out
              have r1 := cell_of_row W6 (w.heap.size) 1 _ _ _ Z6.out
              have r2 := cell_of_row W6 (w.heap.size) 2 _ _ _ Z6.out
              simp only [List.getElem?_toArray, List.getElem?_cons_zero, List.getElem?_cons_succ] at r0 r1 r2
              have f1 := fun o => frozen_of_row W6 w.heap.size o _ _ Z6.out
              go_wp2_with fail
              refine bodyPost_ret (v := .agg #[.int .i64 v.ty, .int .i64 v.n, .string v.s]) ?_ rfl ⟨v, false, rfl, ?_, ⟨?_, ?_⟩, ?_⟩
              · simp [results, Tryz.results72, go_sem, r0, r1, r2]
              · rw [HU.out.1]
                exact HV
              · rw [HU.out.2, show a + (k - a) = k by omega]
                iterate 3 rw [Below.heap_setCell _ ⟨w.heap.size, _, none⟩ _ g (by show g ≠ w.heap.size; omega)]
                exact K6.out
              · rw [HU.out.2]
                omega
              · iterate 3 refine chg_setZ ?_ (Nat.le_refl _) _
                exact (chg_belowV UP.out).trans ((chg_belowV (HBw.out.mono (by omega))).trans Hch.out)
            · have k6 := set1r (a := .int .i64 (k : Int)) (set2r (a := .bool false) G5.out)
              have hch : Chg g (g + 1) w5 ((w5.setCell ⟨g, 2, none⟩ (.bool false)).setCell ⟨g, 1, none⟩ (.int .i64 (k : Int))) := (chg_setR _ _ _ _).trans (chg_setR _ _ _ _)
              have k0 := cell_of_row w5 (g) 0 _ _ _ G5.out
              have k1 := cell_of_row w5 (g) 1 _ _ _ G5.out
              have k2 := cell_of_row w5 (g) 2 _ _ _ G5.out
              simp only [List.getElem?_toArray, List.getElem?_cons_zero, List.getElem?_cons_succ] at k0 k1 k2
              have f0 := fun o => frozen_of_row w5 g o _ _ G5.out
              obtain ⟨W6, hW6⟩ : ∃ W6, ((w5.setCell ⟨g, 2, none⟩ (.bool false)).setCell ⟨g, 1, none⟩ (.int .i64 (k : Int))) = W6 := ⟨_, rfl⟩
              rw [hW6] at k6 hch
              have HW6 := Lib.hid hW6
              have K6 := Lib.hid k6
              have Hch := Lib.hid hch
              have Z6 := Lib.hid ((hch.block w.heap.size (by omega) (by omega)).trans Z5.out)
              have C6 := Lib.hid ((hch.block bx (by omega) (by omega)).trans C5.out)
              have hw6 := hch.size
              clear hW6 k6 hch
              go_upto_region 7 with fail
              rw [HW6.out]
              clear HW6 k0 k1 k2 f0
              have q0 := cell_of_row W6 (bx) 0 _ _ _ C6.out
              have q1 := cell_of_row W6 (bx) 1 _ _ _ C6.out
              have q2 := cell_of_row W6 (bx) 2 _ _ _ C6.out
              simp only [List.getElem?_toArray, List.getElem?_cons_zero, List.getElem?_cons_succ] at q0 q1 q2
              have r0 := cell_of_row W6 (w.heap.size) 0 _ _ _ Z6.out
              have r1 := cell_of_row W6 (w.heap.size) 1 _ _ _ Z6.out
              have r2 := cell_of_row W6 (w.heap.size) 2 _ _ _ Z6.out
              simp only [List.getElem?_toArray, List.getElem?_cons_zero, List.getElem?_cons_succ] at r0 r1 r2
              have f1 := fun o => frozen_of_row W6 w.heap.size o _ _ Z6.out
              go_wp2_with fail
              refine bodyPost_ret (v := .agg #[.int .i64 v.ty, .int .i64 v.n, .string v.s]) ?_ rfl ⟨v, true, rfl, ?_, ⟨?_, ?_⟩, ?_⟩
              · simp [results, Tryz.results72, go_sem, r0, r1, r2]
              · rw [HU.out.1]
                exact HV
              · rw [HU.out.2, show a + (k - a) = k by omega]
                iterate 3 rw [Below.heap_setCell _ ⟨w.heap.size, _, none⟩ _ g (by show g ≠ w.heap.size; omega)]
                exact K6.out
              · rw [HU.out.2]
                omega
              · iterate 3 refine chg_setZ ?_ (Nat.le_refl _) _
                exact (chg_belowV UP.out).trans ((chg_belowV (HBw.out.mono (by omega))).trans Hch.out)
          · cases ok
            · have k6 := set1r (a := .int .i64 (k : Int)) (set2r (a := .bool true) G5.out)
              have hch : Chg g (g + 1) w5 ((w5.setCell ⟨g, 2, none⟩ (.bool true)).setCell ⟨g, 1, none⟩ (.int .i64 (k : Int))) := (chg_setR _ _ _ _).trans (chg_setR _ _ _ _)
              have k0 := cell_of_row w5 (g) 0 _ _ _ G5.out
              have k1 := cell_of_row w5 (g) 1 _ _ _ G5.out
              have k2 := cell_of_row w5 (g) 2 _ _ _ G5.out
              simp only [List.getElem?_toArray, List.getElem?_cons_zero, List.getElem?_cons_succ] at k0 k1 k2
              have f0 := fun o => frozen_of_row w5 g o _ _ G5.out
              obtain ⟨W6, hW6⟩ : ∃ W6, ((w5.setCell ⟨g, 2, none⟩ (.bool true)).setCell ⟨g, 1, none⟩ (.int .i64 (k : Int))) = W6 := ⟨_, rfl⟩
              rw [hW6] at k6 hch
              have HW6 := Lib.hid hW6
              have K6 := Lib.hid k6
              have Hch := Lib.hid hch
              have Z6 := Lib.hid ((hch.block w.heap.size (by omega) (by omega)).trans Z5.out)
              have C6 := Lib.hid ((hch.block bx (by omega) (by omega)).trans C5.out)
              have hw6 := hch.size
              clear hW6 k6 hch
              go_upto_region 7 with fail
              rw [HW6.out]
              clear HW6 k0 k1 k2 f0
              have q0 := cell_of_row W6 (bx) 0 _ _ _ C6.out
              have q1 := cell_of_row W6 (bx) 1 _ _ _ C6.out
              have q2 := cell_of_row W6 (bx) 2 _ _ _ C6.out
              simp only [List.getElem?_toArray, List.getElem?_cons_zero, List.getElem?_cons_succ] at q0 q1 q2
              have r0 := cell_of_row W6 (w.heap.size) 0 _ _ _ Z6.out
              have r1 := cell_of_row W6 (w.heap.size) 1 _ _ _ Z6.out
              have r2 := cell_of_row W6 (w.heap.size) 2 _ _ _ Z6.out
              simp only [List.getElem?_toArray, List.getElem?_cons_zero, List.getElem?_cons_succ] at r0 r1 r2
              have f1 := fun o => frozen_of_row W6 w.heap.size o _ _ Z6.out
              go_wp2_with fail
              refine bodyPost_ret (v := .agg #[.int .i64 v.ty, .int .i64 v.n, .string v.s]) ?_ rfl ⟨v, false, rfl, ?_, ⟨?_, ?_⟩, ?_⟩
              · simp [results, Tryz.results72, go_sem, r0, r1, r2]
              · rw [HU.out.1]
                exact HV
              · rw [HU.out.2, show a + (k - a) = k by omega]
                iterate 3 rw [Below.heap_setCell _ ⟨w.heap.size, _, none⟩ _ g (by show g ≠ w.heap.size; omega)]
                exact K6.out
              · rw [HU.out.2]
                omega
              · iterate 3 refine chg_setZ ?_ (Nat.le_refl _) _
                exact (chg_belowV UP.out).trans ((chg_belowV (HBw.out.mono (by omega))).trans Hch.out)
            · have k6 := set1r (a := .int .i64 (k : Int)) (set2r (a := .bool true) G5.out)
              have hch : Chg g (g + 1) w5 ((w5.setCell ⟨g, 2, none⟩ (.bool true)).setCell ⟨g, 1, none⟩ (.int .i64 (k : Int))) := (chg_setR _ _ _ _).trans (chg_setR _ _ _ _)
              have k0 := cell_of_row w5 (g) 0 _ _ _ G5.out
              have k1 := cell_of_row w5 (g) 1 _ _ _ G5.out
              have k2 := cell_of_row w5 (g) 2 _ _ _ G5.out
              simp only [List.getElem?_toArray, List.getElem?_cons_zero, List.getElem?_cons_succ] at k0 k1 k2
              have f0 := fun o => frozen_of_row w5 g o _ _ G5.out
              obtain ⟨W6, hW6⟩ : ∃ W6, ((w5.setCell ⟨g, 2, none⟩ (.bool true)).setCell ⟨g, 1, none⟩ (.int .i64 (k : Int))) = W6 := ⟨_, rfl⟩
              rw [hW6] at k6 hch
              have HW6 := Lib.hid hW6
              have K6 := Lib.hid k6
              have Hch := Lib.hid hch
              have Z6 := Lib.hid ((hch.block w.heap.size (by omega) (by omega)).trans Z5.out)
              have C6 := Lib.hid ((hch.block bx (by omega) (by omega)).trans C5.out)
              have hw6 := hch.size
              clear hW6 k6 hch
              go_upto_region 7 with fail
              rw [HW6.out]
              clear HW6 k0 k1 k2 f0
              have q0 := cell_of_row W6 (bx) 0 _ _ _ C6.out
              have q1 := cell_of_row W6 (bx) 1 _ _ _ C6.out
              have q2 := cell_of_row W6 (bx) 2 _ _ _ C6.out
              simp only [List.getElem?_toArray, List.getElem?_cons_zero, List.getElem?_cons_succ] at q0 q1 q2
              have r0 := cell_of_row W6 (w.heap.size) 0 _ _ _ Z6.out
              have r1 := cell_of_row W6 (w.heap.size) 1 _ _ _ Z6.out
              have r2 := cell_of_row W6 (w.heap.size) 2 _ _ _ Z6.out
              simp only [List.getElem?_toArray, List.getElem?_cons_zero, List.getElem?_cons_succ] at r0 r1 r2
              have f1 := fun o => frozen_of_row W6 w.heap.size o _ _ Z6.out
              go_wp2_with fail
              refine bodyPost_ret (v := .agg #[.int .i64 v.ty, .int .i64 v.n, .string v.s]) ?_ rfl ⟨v, true, rfl, ?_, ⟨?_, ?_⟩, ?_⟩
              · simp [results, Tryz.results72, go_sem, r0, r1, r2]
              · rw [HU.out.1]
                exact HV
              · rw [HU.out.2, show a + (k - a) = k by omega]
                iterate 3 rw [Below.heap_setCell _ ⟨w.heap.size, _, none⟩ _ g (by show g ≠ w.heap.size; omega)]
                exact K6.out
              · rw [HU.out.2]
                omega
              · iterate 3 refine chg_setZ ?_ (Nat.le_refl _) _
                exact (chg_belowV UP.out).trans ((chg_belowV (HBw.out.mono (by omega))).trans Hch.out)
      · have hd : decide ((k : Int) < (s.size : Int)) = false := decide_eq_false (by omega)
        clear hgo hst
        go_upto_region 4 with fail
        go_cut [4, 5] from 37 to 50 (fun t4 t5 wx => ValC W0 (s.extract a k) t4 t5 wx)
        case first =>
          refine wp_region_T (S := fun w' => w'.heap[g]? = some (.cells #[.string s, .int .i64 a, .bool b] 49)) (n := 16) (by kernel_rfl) ?_
          obtain ⟨X0, hX0⟩ : ∃ X0, W0.drew = X0 := ⟨_, rfl⟩
          have HB0 : Below W0.heap.size W0 X0 := hX0 ▸ (Below.refl _ _).drew
          rw [hX0]
          clear hX0 k0 k1 k2
          have F0 := (HB0.block g (by omega)).trans HG.out
          refine wpAnyT_take (i := 0) (oi := _) (v := ?_) rfl (by kernel_rfl) (by kernel_rfl) (by kernel_rfl) (by kernel_rfl) (fun _ _ _ h => h) (Or.inl ⟨by rfl, ?_⟩) F0 ?_
          rotate_left
          · (intro w' hSw; (try dsimp only at hSw); go_simp) <;> with_reducible rfl
          try simp only [Act.put, List.setIfInBounds_toArray, List.set_cons_zero, List.set_cons_succ]
          refine wpAnyT_take (i := 1) (oi := _) (v := ?_) rfl (by kernel_rfl) (by kernel_rfl) (by kernel_rfl) (by kernel_rfl) (fun _ _ _ h => h) (Or.inl ⟨by rfl, ?_⟩) F0 ?_
          rotate_left
          · (intro w' hSw; (try dsimp only at hSw); go_simp) <;> with_reducible rfl
          try simp only [Act.put, List.setIfInBounds_toArray, List.set_cons_zero, List.set_cons_succ]
          refine wpAnyT_take (i := 2) (oi := _) (v := ?_) rfl (by kernel_rfl) (by kernel_rfl) (by kernel_rfl) (by kernel_rfl) (fun _ _ _ h => h) (Or.inl ⟨by rfl, ?_⟩) F0 ?_
          rotate_left
          · (intro w' hSw; (try dsimp only at hSw); go_simp) <;> with_reducible rfl
          try simp only [Act.put, List.setIfInBounds_toArray, List.set_cons_zero, List.set_cons_succ]
          refine wpAnyT_take (i := 3) (oi := _) (v := ?_) rfl (by kernel_rfl) (by kernel_rfl) (by kernel_rfl) (by kernel_rfl) (fun _ _ _ h => h) (Or.inl ⟨by rfl, ?_⟩) F0 ?_
          rotate_left
          · (intro w' hSw; (try dsimp only at hSw); have r0 := cell_of_row w' _ 0 _ _ _ hSw; have r1 := cell_of_row w' _ 1 _ _ _ hSw; have r2 := cell_of_row w' _ 2 _ _ _ hSw; simp only [List.getElem?_toArray, List.getElem?_cons_zero, List.getElem?_cons_succ] at r0 r1 r2; clear hSw; go_simp) <;> with_reducible rfl
          try simp only [Act.put, List.setIfInBounds_toArray, List.set_cons_zero, List.set_cons_succ]
          refine wpAnyT_take (i := 4) (oi := _) (v := ?_) rfl (by kernel_rfl) (by kernel_rfl) (by kernel_rfl) (by kernel_rfl) (fun _ _ _ h => h) (Or.inl ⟨by rfl, ?_⟩) F0 ?_
          rotate_left
          · (intro w' hSw; (try dsimp only at hSw); go_simp) <;> with_reducible rfl
          try simp only [Act.put, List.setIfInBounds_toArray, List.set_cons_zero, List.set_cons_succ]
          refine wpAnyT_take (i := 5) (oi := _) (v := ?_) rfl (by kernel_rfl) (by kernel_rfl) (by kernel_rfl) (by kernel_rfl) (fun _ _ _ h => h) (Or.inl ⟨by rfl, ?_⟩) F0 ?_
          rotate_left
          · (intro w' hSw; (try dsimp only at hSw); go_simp) <;> with_reducible rfl
          try simp only [Act.put, List.setIfInBounds_toArray, List.set_cons_zero, List.set_cons_succ]
          refine wpAnyT_take (i := 6) (oi := _) (v := ?_) rfl (by kernel_rfl) (by kernel_rfl) (by kernel_rfl) (by kernel_rfl) (fun _ _ _ h => h) (Or.inl ⟨by rfl, ?_⟩) F0 ?_
          rotate_left
          · (intro w' hSw; (try dsimp only at hSw); go_simp) <;> with_reducible rfl
          try simp only [Act.put, List.setIfInBounds_toArray, List.set_cons_zero, List.set_cons_succ]
          refine wpAnyT_take (i := 7) (oi := _) (v := ?_) rfl (by kernel_rfl) (by kernel_rfl) (by kernel_rfl) (by kernel_rfl) (fun _ _ _ h => h) (Or.inl ⟨by rfl, ?_⟩) F0 ?_
          rotate_left
          · (intro w' hSw; (try dsimp only at hSw); have r0 := cell_of_row w' _ 0 _ _ _ hSw; have r1 := cell_of_row w' _ 1 _ _ _ hSw; have r2 := cell_of_row w' _ 2 _ _ _ hSw; simp only [List.getElem?_toArray, List.getElem?_cons_zero, List.getElem?_cons_succ] at r0 r1 r2; clear hSw; go_simp) <;> with_reducible rfl
          try simp only [Act.put, List.setIfInBounds_toArray, List.set_cons_zero, List.set_cons_succ]
          refine wpAnyT_take (i := 8) (oi := _) (v := ?_) rfl (by kernel_rfl) (by kernel_rfl) (by kernel_rfl) (by kernel_rfl) (fun _ _ _ h => h) (Or.inl ⟨by rfl, ?_⟩) F0 ?_
          rotate_left
          · (intro w' hSw; (try dsimp only at hSw); go_simp) <;> with_reducible rfl
          try simp only [Act.put, List.setIfInBounds_toArray, List.set_cons_zero, List.set_cons_succ]
          refine wpAnyT_take (i := 9) (oi := _) (v := ?_) rfl (by kernel_rfl) (by kernel_rfl) (by kernel_rfl) (by kernel_rfl) (fun _ _ _ h => h) (Or.inl ⟨by rfl, ?_⟩) F0 ?_
          rotate_left
          · (intro w' hSw; (try dsimp only at hSw); go_simp) <;> with_reducible rfl
          try simp only [Act.put, List.setIfInBounds_toArray, List.set_cons_zero, List.set_cons_succ]
          refine wpAnyT_two (k := 10) (k2 := 14) (o := _) (o2 := _) (by kernel_rfl) rfl rfl rfl rfl ?_ ?_
          · intro K hK
            go_simp
            refine (TC.out X0 HB0).mono ?_
            rintro e X1 ⟨v, ok, rfl, hv, hb⟩
            have HB1 := HB0.trans (hb.mono HB0.size)
            have sX1 := hb.size
            have F0 := (HB1.block g (by omega)).trans HG.out
            refine hK.out _ _ (fun _ => F0) ?_
            clear hK
            try simp only [Act.put, List.setIfInBounds_toArray, List.set_cons_zero, List.set_cons_succ]
            refine wpAnyT_take (i := 11) (oi := _) (v := ?_) rfl (by kernel_rfl) (by kernel_rfl) (by kernel_rfl) (by kernel_rfl) (fun _ _ _ h => h) (Or.inl ⟨by rfl, ?_⟩) F0 ?_
            rotate_left
            · (intro w' hSw; (try dsimp only at hSw); go_simp) <;> with_reducible rfl
            try simp only [Act.put, List.setIfInBounds_toArray, List.set_cons_zero, List.set_cons_succ]
            refine wpAnyT_take (i := 12) (oi := _) (v := ?_) rfl (by kernel_rfl) (by kernel_rfl) (by kernel_rfl) (by kernel_rfl) (fun _ _ _ h => h) (Or.inl ⟨by rfl, ?_⟩) F0 ?_
            rotate_left
            · (intro w' hSw; (try dsimp only at hSw); go_simp) <;> with_reducible rfl
            try simp only [Act.put, List.setIfInBounds_toArray, List.set_cons_zero, List.set_cons_succ]
            refine wpAnyT_take (i := 13) (oi := _) (v := ?_) rfl (by kernel_rfl) (by kernel_rfl) (by kernel_rfl) (by kernel_rfl) (fun _ _ _ h => h) (Or.inl ⟨by rfl, ?_⟩) F0 ?_
            rotate_left
            · (intro w' hSw; (try dsimp only at hSw); go_simp) <;> with_reducible rfl
            try simp only [Act.put, List.setIfInBounds_toArray, List.set_cons_zero, List.set_cons_succ]
            refine wpAnyT_one (k := 14) (o := _) (by kernel_rfl) rfl rfl ?_
            intro K hK
            go_simp
            have up : Below X1.heap.size X1 (X1.alloc (.cells #[.int .i64 0, .int .i64 0, .string ⟨#[]⟩] 24)) := up_a1 X1 _
            have HB2 : Below W0.heap.size W0 (X1.alloc (.cells #[.int .i64 0, .int .i64 0, .string ⟨#[]⟩] 24)) := HB1.trans (up.mono HB1.size)
            have GB := heap_alloc_new X1 (.cells #[.int .i64 0, .int .i64 0, .string ⟨#[]⟩] 24)
            have sX2 : X1.heap.size < (X1.alloc (.cells #[.int .i64 0, .int .i64 0, .string ⟨#[]⟩] 24)).heap.size := by simp
            have F0 := (HB2.block g (by omega)).trans HG.out
            refine hK.out _ _ (fun _ => F0) ?_
            clear hK
            generalize (X1.alloc (.cells #[.int .i64 0, .int .i64 0, .string ⟨#[]⟩] 24)) = X2 at *
            have GB := Lib.hid GB
            try simp only [Act.put, List.setIfInBounds_toArray, List.set_cons_zero, List.set_cons_succ]
            have hxb := HB1.size
            have hch : Chg (X1.heap.size) (X1.heap.size + 1) X2 (((X2.setCell ⟨X1.heap.size, 0, none⟩ (.int .i64 v.ty)).setCell ⟨X1.heap.size, 1, none⟩ (.int .i64 v.n)).setCell ⟨X1.heap.size, 2, none⟩ (.string v.s)) := ((chg_setR _ _ _ _).trans (chg_setR _ _ _ _)).trans (chg_setR _ _ _ _)
            have G6 := set3V (v0 := .int .i64 v.ty) (v1 := .int .i64 v.n) (v2 := .string v.s) GB.out
            have RR := Lib.hid (show ValC W0 (s.extract a k) (Value.pointer (some ⟨X1.heap.size, 0, none⟩)) (.bool ok) (((X2.setCell ⟨X1.heap.size, 0, none⟩ (.int .i64 v.ty)).setCell ⟨X1.heap.size, 1, none⟩ (.int .i64 v.n)).setCell ⟨X1.heap.size, 2, none⟩ (.string v.s)) from ⟨X1.heap.size, v, ok, rfl, rfl, G6, hxb, hv, HB2.trans ((hch.below (Nat.le_refl _) (by omega)).mono hxb)⟩)
            have F1 := (hch.block g (by omega) (by omega)).trans ((HB2.block g (by omega)).trans HG.out)
            clear G6 hch
            have t0 := cell_of_row X2 (X1.heap.size) 0 _ _ _ GB.out
            have t1 := cell_of_row X2 (X1.heap.size) 1 _ _ _ GB.out
            have t2 := cell_of_row X2 (X1.heap.size) 2 _ _ _ GB.out
            simp only [List.getElem?_toArray, List.getElem?_cons_zero, List.getElem?_cons_succ] at t0 t1 t2
            have ft := fun o => frozen_of_row X2 (X1.heap.size) o _ _ GB.out
            refine wpAnyT_one (k := 15) (o := _) (by kernel_rfl) rfl rfl ?_
            intro K hK
            go_simp
            refine hK.out _ _ (fun _ => F1) ?_
            clear hK
            try simp only [Act.put, List.setIfInBounds_toArray, List.set_cons_zero, List.set_cons_succ]
            refine wpAnyT_one (k := 16) (o := _) (by kernel_rfl) rfl rfl ?_
            intro K hK
            go_simp
            refine hK.out _ _ (fun h => absurd rfl h) ?_
            clear hK
            refine wpAnyT_done (by kernel_rfl) ?_ _
            go_wp2_with fail
            go_meet
            with_reducible exact RR.out
          · intro K hK
            go_simp
            have up : Below X0.heap.size X0 (X0.alloc (.cells #[.int .i64 0, .int .i64 0, .string ⟨#[]⟩] 24)) := up_a1 X0 _
            have HB1 : Below W0.heap.size W0 (X0.alloc (.cells #[.int .i64 0, .int .i64 0, .string ⟨#[]⟩] 24)) := HB0.trans (up.mono HB0.size)
            have GB := heap_alloc_new X0 (.cells #[.int .i64 0, .int .i64 0, .string ⟨#[]⟩] 24)
            have sX1 : X0.heap.size < (X0.alloc (.cells #[.int .i64 0, .int .i64 0, .string ⟨#[]⟩] 24)).heap.size := by simp
            have F0 := (HB1.block g (by omega)).trans HG.out
            refine hK.out _ _ (fun _ => F0) ?_
            clear hK
            generalize (X0.alloc (.cells #[.int .i64 0, .int .i64 0, .string ⟨#[]⟩] 24)) = X1 at *
            have GB := Lib.hid GB
            try simp only [Act.put, List.setIfInBounds_toArray, List.set_cons_zero, List.set_cons_succ]
            refine wpAnyT_one (k := 10) (o := _) (by kernel_rfl) rfl rfl ?_
            intro K hK
            go_simp
            refine (TC.out X1 HB1).mono ?_
            rintro e X2 ⟨v, ok, rfl, hv, hb⟩
            have HB2 := HB1.trans (hb.mono HB1.size)
            have sX2 := hb.size
            have F0 := (HB2.block g (by omega)).trans HG.out
            refine hK.out _ _ (fun _ => F0) ?_
            clear hK
            try simp only [Act.put, List.setIfInBounds_toArray, List.set_cons_zero, List.set_cons_succ]
            replace GB := Lib.hid ((hb.block _ (by omega)).trans GB.out)
            refine wpAnyT_take (i := 11) (oi := _) (v := ?_) rfl (by kernel_rfl) (by kernel_rfl) (by kernel_rfl) (by kernel_rfl) (fun _ _ _ h => h) (Or.inl ⟨by rfl, ?_⟩) F0 ?_
            rotate_left
            · (intro w' hSw; (try dsimp only at hSw); go_simp) <;> with_reducible rfl
            try simp only [Act.put, List.setIfInBounds_toArray, List.set_cons_zero, List.set_cons_succ]
            refine wpAnyT_take (i := 12) (oi := _) (v := ?_) rfl (by kernel_rfl) (by kernel_rfl) (by kernel_rfl) (by kernel_rfl) (fun _ _ _ h => h) (Or.inl ⟨by rfl, ?_⟩) F0 ?_
            rotate_left
            · (intro w' hSw; (try dsimp only at hSw); go_simp) <;> with_reducible rfl
            try simp only [Act.put, List.setIfInBounds_toArray, List.set_cons_zero, List.set_cons_succ]
            refine wpAnyT_take (i := 13) (oi := _) (v := ?_) rfl (by kernel_rfl) (by kernel_rfl) (by kernel_rfl) (by kernel_rfl) (fun _ _ _ h => h) (Or.inl ⟨by rfl, ?_⟩) F0 ?_
            rotate_left
            · (intro w' hSw; (try dsimp only at hSw); go_simp) <;> with_reducible rfl
            try simp only [Act.put, List.setIfInBounds_toArray, List.set_cons_zero, List.set_cons_succ]
            have hxb := HB0.size
            have hch : Chg (X0.heap.size) (X0.heap.size + 1) X2 (((X2.setCell ⟨X0.heap.size, 0, none⟩ (.int .i64 v.ty)).setCell ⟨X0.heap.size, 1, none⟩ (.int .i64 v.n)).setCell ⟨X0.heap.size, 2, none⟩ (.string v.s)) := ((chg_setR _ _ _ _).trans (chg_setR _ _ _ _)).trans (chg_setR _ _ _ _)
            have G6 := set3V (v0 := .int .i64 v.ty) (v1 := .int .i64 v.n) (v2 := .string v.s) GB.out
            have RR := Lib.hid (show ValC W0 (s.extract a k) (Value.pointer (some ⟨X0.heap.size, 0, none⟩)) (.bool ok) (((X2.setCell ⟨X0.heap.size, 0, none⟩ (.int .i64 v.ty)).setCell ⟨X0.heap.size, 1, none⟩ (.int .i64 v.n)).setCell ⟨X0.heap.size, 2, none⟩ (.string v.s)) from ⟨X0.heap.size, v, ok, rfl, rfl, G6, hxb, hv, HB2.trans ((hch.below (Nat.le_refl _) (by omega)).mono hxb)⟩)
            have F1 := (hch.block g (by omega) (by omega)).trans ((HB2.block g (by omega)).trans HG.out)
            clear G6 hch
            have t0 := cell_of_row X2 (X0.heap.size) 0 _ _ _ GB.out
            have t1 := cell_of_row X2 (X0.heap.size) 1 _ _ _ GB.out
            have t2 := cell_of_row X2 (X0.heap.size) 2 _ _ _ GB.out
            simp only [List.getElem?_toArray, List.getElem?_cons_zero, List.getElem?_cons_succ] at t0 t1 t2
            have ft := fun o => frozen_of_row X2 (X0.heap.size) o _ _ GB.out
            refine wpAnyT_one (k := 15) (o := _) (by kernel_rfl) rfl rfl ?_
            intro K hK
            go_simp
            refine hK.out _ _ (fun _ => F1) ?_
            clear hK
            try simp only [Act.put, List.setIfInBounds_toArray, List.set_cons_zero, List.set_cons_succ]
            refine wpAnyT_one (k := 16) (o := _) (by kernel_rfl) rfl rfl ?_
            intro K hK
            go_simp
            refine hK.out _ _ (fun h => absurd rfl h) ?_
            clear hK
            refine wpAnyT_done (by kernel_rfl) ?_ _
            go_wp2_with fail
            go_meet
            with_reducible exact RR.out
        case rest =>
          obtain ⟨bx, v, ok, rfl, rfl, hcx, hbx, hv, hbw⟩ := hcut
          rename World => w5
          have hw5 := hbw.size
          have G5 := Lib.hid ((hbw.block g (by omega)).trans HG.out)
          have Z5 := Lib.hid ((hbw.block w.heap.size (by omega)).trans GZ.out)
          have C5 := Lib.hid hcx
          have HV := Lib.hid hv
          have HBw := Lib.hid hbw
          have hbl : bx < w5.heap.size := (Array.getElem?_eq_some_iff.1 hcx).1
          clear hcx hv hbw k0 k1 k2 TC
          cases b
          · cases ok
            · have k6 := set1r (a := .int .i64 (k : Int)) (set2r (a := .bool true) G5.out)
              have hch : Chg g (g + 1) w5 ((w5.setCell ⟨g, 2, none⟩ (.bool true)).setCell ⟨g, 1, none⟩ (.int .i64 (k : Int))) := (chg_setR _ _ _ _).trans (chg_setR _ _ _ _)
              have k0 := cell_of_row w5 (g) 0 _ _ _ G5.out
              have k1 := cell_of_row w5 (g) 1 _ _ _ G5.out
              have k2 := cell_of_row w5 (g) 2 _ _ _ G5.out
              simp only [List.getElem?_toArray, List.getElem?_cons_zero, List.getElem?_cons_succ] at k0 k1 k2
              have f0 := fun o => frozen_of_row w5 g o _ _ G5.out
              obtain ⟨W6, hW6⟩ : ∃ W6, ((w5.setCell ⟨g, 2, none⟩ (.bool true)).setCell ⟨g, 1, none⟩ (.int .i64 (k : Int))) = W6 := ⟨_, rfl⟩
              rw [hW6] at k6 hch
              have HW6 := Lib.hid hW6
              have K6 := Lib.hid k6
              have Hch := Lib.hid hch
              have Z6 := Lib.hid ((hch.block w.heap.size (by omega) (by omega)).trans Z5.out)
              have C6 := Lib.hid ((hch.block bx (by omega) (by omega)).trans C5.out)
              have hw6 := hch.size
              clear hW6 k6 hch
              go_upto_region 7 with fail
              rw [HW6.out]
              clear HW6 k0 k1 k2 f0
              have q0 := cell_of_row W6 (bx) 0 _ _ _ C6.out
              have q1 := cell_of_row W6 (bx) 1 _ _ _ C6.out
              have q2 := cell_of_row W6 (bx) 2 _ _ _ C6.out
              simp only [List.getElem?_toArray, List.getElem?_cons_zero, List.getElem?_cons_succ] at q0 q1 q2
              have r0 := cell_of_row W6 (w.heap.size) 0 _ _ _ Z6.out
              have r1 := cell_of_row W6 (w.heap.size) 1 _ _ _ Z6.out
              have r2 := cell_of_row W6 (w.heap.size) 2 _ _ _ Z6.out
              simp only [List.getElem?_toArray, List.getElem?_cons_zero, List.getElem?_cons_succ] at r0 r1 r2
              have f1 := fun o => frozen_of_row W6 w.heap.size o _ _ Z6.out
              go_wp2_with fail
              refine bodyPost_ret (v := .agg #[.int .i64 v.ty, .int .i64 v.n, .string v.s]) ?_ rfl ⟨v, false, rfl, ?_, ⟨?_, ?_⟩, ?_⟩
              · simp [results, Tryz.results72, go_sem, r0, r1, r2]
              · rw [HU.out.1]
                exact HV
              · rw [HU.out.2, show a + (k - a) = k by omega]
                iterate 3 rw [Below.heap_setCell _ ⟨w.heap.size, _, none⟩ _ g (by show g ≠ w.heap.size; omega)]
                exact K6.out
              · rw [HU.out.2]
                omega
              · iterate 3 refine chg_setZ ?_ (Nat.le_refl _) _
                exact (chg_belowV UP.out).trans ((chg_belowV (HBw.out.mono (by omega))).trans Hch.out)
            · have k6 := set1r (a := .int .i64 (k : Int)) (set2r (a := .bool false) G5.out)
              have hch : Chg g (g + 1) w5 ((w5.setCell ⟨g, 2, none⟩ (.bool false)).setCell ⟨g, 1, none⟩ (.int .i64 (k : Int))) := (chg_setR _ _ _ _).trans (chg_setR _ _ _ _)
              have k0 := cell_of_row w5 (g) 0 _ _ _ G5.out
              have k1 := cell_of_row w5 (g) 1 _ _ _ G5.out
              have k2 := cell_of_row w5 (g) 2 _ _ _ G5.out
              simp only [List.getElem?_toArray, List.getElem?_cons_zero, List.getElem?_cons_succ] at k0 k1 k2
              have f0 := fun o => frozen_of_row w5 g o _ _ G5.out
              obtain ⟨W6, hW6⟩ : ∃ W6, ((w5.setCell ⟨g, 2, none⟩ (.bool false)).setCell ⟨g, 1, none⟩ (.int .i64 (k : Int))) = W6 := ⟨_, rfl⟩
              rw [hW6] at k6 hch
              have HW6 := Lib.hid hW6
              have K6 := Lib.hid k6
              have Hch := Lib.hid hch
              have Z6 := Lib.hid ((hch.block w.heap.size (by omega) (by omega)).trans Z5.out)
              have C6 := Lib.hid ((hch.block bx (by omega) (by omega)).trans C5.out)
              have hw6 := hch.size
              clear hW6 k6 hch
              go_upto_region 7 with fail
              rw [HW6.out]
              clear HW6 k0 k1 k2 f0
              have q0 := cell_of_row W6 (bx) 0 _ _ _ C6.out
              have q1 := cell_of_row W6 (bx) 1 _ _ _ C6.out
              have q2 := cell_of_row W6 (bx) 2 _ _ _ C6.out
              simp only [List.getElem?_toArray, List.getElem?_cons_zero, List.getElem?_cons_succ] at q0 q1 q2
              have r0 := cell_of_row W6 (w.heap.size) 0 _ _ _ Z6.out
              have r1 := cell_of_row W6 (w.heap.size) 1 _ _ _ Z6.out
              have r2 := cell_of_row W6 (w.heap.size) 2 _ _ _ Z6.out
              simp only [List.getElem?_toArray, List.getElem?_cons_zero, List.getElem?_cons_succ] at r0 r1 r2
              have f1 := fun o => frozen_of_row W6 w.heap.size o _ _ Z6.out
              go_wp2_with fail
              refine bodyPost_ret (v := .agg #[.int .i64 v.ty, .int .i64 v.n, .string v.s]) ?_ rfl ⟨v, true, rfl, ?_, ⟨?_, ?_⟩, ?_⟩
              · simp [results, Tryz.results72, go_sem, r0, r1, r2]
              · rw [HU.out.1]
                exact HV
              · rw [HU.out.2, show a + (k - a) = k by omega]
                iterate 3 rw [Below.heap_setCell _ ⟨w.heap.size, _, none⟩ _ g (by show g ≠ w.heap.size; omega)]
                exact K6.out
              · rw [HU.out.2]
                omega
              · iterate 3 refine chg_setZ ?_ (Nat.le_refl _) _
                exact (chg_belowV UP.out).trans ((chg_belowV (HBw.out.mono (by omega))).trans Hch.out)
          · cases ok
            · have k6 := set1r (a := .int .i64 (k : Int)) (set2r (a := .bool true) G5.out)
              have hch : Chg g (g + 1) w5 ((w5.setCell ⟨g, 2, none⟩ (.bool true)).setCell ⟨g, 1, none⟩ (.int .i64 (k : Int))) := (chg_setR _ _ _ _).trans (chg_setR _ _ _ _)
              have k0 := cell_of_row w5 (g) 0 _ _ _ G5.out
              have k1 := cell_of_row w5 (g) 1 _ _ _ G5.out
              have k2 := cell_of_row w5 (g) 2 _ _ _ G5.out
              simp only [List.getElem?_toArray, List.getElem?_cons_zero, List.getElem?_cons_succ] at k0 k1 k2
              have f0 := fun o => frozen_of_row w5 g o _ _ G5.out
              obtain ⟨W6, hW6⟩ : ∃ W6, ((w5.setCell ⟨g, 2, none⟩ (.bool true)).setCell ⟨g, 1, none⟩ (.int .i64 (k : Int))) = W6 := ⟨_, rfl⟩
              rw [hW6] at k6 hch
              have HW6 := Lib.hid hW6
              have K6 := Lib.hid k6
              have Hch := Lib.hid hch
              have Z6 := Lib.hid ((hch.block w.heap.size (by omega) (by omega)).trans Z5.out)
              have C6 := Lib.hid ((hch.block bx (by omega) (by omega)).trans C5.out)
              have hw6 := hch.size
              clear hW6 k6 hch
              go_upto_region 7 with fail
              rw [HW6.out]
              clear HW6 k0 k1 k2 f0
              have q0 := cell_of_row W6 (bx) 0 _ _ _ C6.out
              have q1 := cell_of_row W6 (bx) 1 _ _ _ C6.out
              have q2 := cell_of_row W6 (bx) 2 _ _ _ C6.out
              simp only [List.getElem?_toArray, List.getElem?_cons_zero, List.getElem?_cons_succ] at q0 q1 q2
              have r0 := cell_of_row W6 (w.heap.size) 0 _ _ _ Z6.out
              have r1 := cell_of_row W6 (w.heap.size) 1 _ _ _ Z6.out
              have r2 := cell_of_row W6 (w.heap.size) 2 _ _ _ Z6.out
              simp only [List.getElem?_toArray, List.getElem?_cons_zero, List.getElem?_cons_succ] at r0 r1 r2
              have f1 := fun o => frozen_of_row W6 w.heap.size o _ _ Z6.out
              go_wp2_with fail
              refine bodyPost_ret (v := .agg #[.int .i64 v.ty, .int .i64 v.n, .string v.s]) ?_ rfl ⟨v, false, rfl, ?_, ⟨?_, ?_⟩, ?_⟩
              · simp [results, Tryz.results72, go_sem, r0, r1, r2]
              · rw [HU.out.1]
                exact HV
              · rw [HU.out.2, show a + (k - a) = k by omega]
                iterate 3 rw [Below.heap_setCell _ ⟨w.heap.size, _, none⟩ _ g (by show g ≠ w.heap.size; omega)]
                exact K6.out
              · rw [HU.out.2]
                omega
              · iterate 3 refine chg_setZ ?_ (Nat.le_refl _) _
                exact (chg_belowV UP.out).trans ((chg_belowV (HBw.out.mono (by omega))).trans Hch.out)
            · have k6 := set1r (a := .int .i64 (k : Int)) (set2r (a := .bool true) G5.out)
              have hch : Chg g (g + 1) w5 ((w5.setCell ⟨g, 2, none⟩ (.bool true)).setCell ⟨g, 1, none⟩ (.int .i64 (k : Int))) := (chg_setR _ _ _ _).trans (chg_setR _ _ _ _)
              have k0 := cell_of_row w5 (g) 0 _ _ _ G5.out
              have k1 := cell_of_row w5 (g) 1 _ _ _ G5.out
              have k2 := cell_of_row w5 (g) 2 _ _ _ G5.out
              simp only [List.getElem?_toArray, List.getElem?_cons_zero, List.getElem?_cons_succ] at k0 k1 k2
              have f0 := fun o => frozen_of_row w5 g o _ _ G5.out
              obtain ⟨W6, hW6⟩ : ∃ W6, ((w5.setCell ⟨g, 2, none⟩ (.bool true)).setCell ⟨g, 1, none⟩ (.int .i64 (k : Int))) = W6 := ⟨_, rfl⟩
              rw [hW6] at k6 hch
              have HW6 := Lib.hid hW6
              have K6 := Lib.hid k6
              have Hch := Lib.hid hch
              have Z6 := Lib.hid ((hch.block w.heap.size (by omega) (by omega)).trans Z5.out)
              have C6 := Lib.hid ((hch.block bx (by omega) (by omega)).trans C5.out)
              have hw6 := hch.size
              clear hW6 k6 hch
              go_upto_region 7 with fail
              rw [HW6.out]
              clear HW6 k0 k1 k2 f0
              have q0 := cell_of_row W6 (bx) 0 _ _ _ C6.out
              have q1 := cell_of_row W6 (bx) 1 _ _ _ C6.out
              have q2 := cell_of_row W6 (bx) 2 _ _ _ C6.out
              simp only [List.getElem?_toArray, List.getElem?_cons_zero, List.getElem?_cons_succ] at q0 q1 q2
              have r0 := cell_of_row W6 (w.heap.size) 0 _ _ _ Z6.out
              have r1 := cell_of_row W6 (w.heap.size) 1 _ _ _ Z6.out
              have r2 := cell_of_row W6 (w.heap.size) 2 _ _ _ Z6.out
              simp only [List.getElem?_toArray, List.getElem?_cons_zero, List.getElem?_cons_succ] at r0 r1 r2
              have f1 := fun o => frozen_of_row W6 w.heap.size o _ _ Z6.out
              go_wp2_with fail
              refine bodyPost_ret (v := .agg #[.int .i64 v.ty, .int .i64 v.n, .string v.s]) ?_ rfl ⟨v, true, rfl, ?_, ⟨?_, ?_⟩, ?_⟩
              · simp [results, Tryz.results72, go_sem, r0, r1, r2]
              · rw [HU.out.1]
                exact HV
              · rw [HU.out.2, show a + (k - a) = k by omega]
                iterate 3 rw [Below.heap_setCell _ ⟨w.heap.size, _, none⟩ _ g (by show g ≠ w.heap.size; omega)]
                exact K6.out
              · rw [HU.out.2]
                omega
              · iterate 3 refine chg_setZ ?_ (Nat.le_refl _) _
                exact (chg_belowV UP.out).trans ((chg_belowV (HBw.out.mono (by omega))).trans Hch.out)
end Go.Proofs.YtjogkbkkcaljhaaGreatDoor
namespace Go.Proofs.YtjogkbkkcaljhaaGreatDoor
open Go.Sort Go.ChangeShapes Go.WideShapes Go.ChangeAt Go.RowKit Go.Lb
/-- A good comparison that stands at a place of the text (behind its first letter). -/
def CmpT (cols : List Int) (s : ByteArray) (a : Nat) (p : P) (r : List UInt8) : Prop := p.kind = 2 ∧ formOk cols p = true ∧ cols.length ≤ 3 ∧ StopAt r ∧ s.data.toList.drop a = Lib.itoa p.col ++ ((opText p.op).data.toList ++ ((valText p.v).data.toList ++ r))
def CmpS (cols : List Int) (s : ByteArray) (a : Nat) (b : Bool) (p : P) (a' : Nat) (b' : Bool) : Prop := ∀ p' r, b = false → CmpT cols s a p' r → p = p' ∧ b' = false ∧ s.data.toList.drop a' = r
theorem CmpT.digit {cols : List Int} {s : ByteArray} {a : Nat} {p : P} {r : List UInt8} (h : CmpT cols s a p r) : ∃ ha : a < s.size, (48 ≤ s[a].toNat ∧ s[a].toNat ≤ 57) ∧ p.col = (s[a].toNat : Int) - 48 ∧ s.data.toList.drop (a + 1) = (opText p.op).data.toList ++ ((valText p.v).data.toList ++ r) := by
  obtain ⟨h1, h2, h3, h4, h5⟩ := h
  obtain ⟨-, -, hc, -⟩ := cmp_form h2 h1
  obtain ⟨n, hn⟩ : ∃ n : Nat, p.col = (n : Int) := ⟨p.col.toNat, by omega⟩
  have hn10 : n < 10 := by omega
  have hi : Lib.itoa p.col = [UInt8.ofNat (48 + n)] := by
    rw [hn]
    unfold Lib.itoa
    rw [if_neg (by omega), Int.toNat_natCast, Lib.decDigits_one hn10]
  rw [hi] at h5
  have ha : a < s.size := by
    have h6 := congrArg List.length h5
    rw [List.length_drop] at h6
    simp at h6
    have : s.data.toList.length = s.size := by simp
    omega
  have hg := get_byte s a ha
  have h0 : (s.data.toList.drop a)[0]? = some s[a] := by rw [List.getElem?_drop]; simpa using hg
  rw [h5] at h0
  simp only [List.cons_append, List.nil_append, List.getElem?_cons_zero, Option.some.injEq] at h0
  have he : s[a].toNat = 48 + n := by
    rw [← h0]
    simp
    omega
  refine ⟨ha, by omega, by omega, ?_⟩
  rw [← List.drop_drop, h5]
  simp
theorem val_head {cols : List Int} {s : ByteArray} {a : Nat} {p : P} {r : List UInt8} (h : CmpT cols s a p r) : ∀ b t, (valText p.v).data.toList ++ r = b :: t → ¬ OpCh b := fun b t e => by
  have hv := (cmp_form h.2.1 h.1).1
  exact val_not_op (head_app (valText_ne hv) (valText_ch hv) e)
/-- An operator that stands there is a beginning of its own. -/
theorem op_prefix {x y : List UInt8} {V : List UInt8} (hx : ∀ b ∈ x, OpCh b) (hV : ∀ b t, V = b :: t → ¬ OpCh b) (h : x.isPrefixOf (y ++ V) = true) : x.isPrefixOf y = true := by
  obtain ⟨r, hr⟩ := List.isPrefixOf_iff_prefix.1 h
  apply List.isPrefixOf_iff_prefix.2
  rcases List.append_eq_append_iff.1 hr with ⟨z, h1, h2⟩ | ⟨z, h1, h2⟩
  · exact ⟨z, h1.symm⟩
  · cases z with
    | nil => exact ⟨[], by rw [h1]; simp⟩
    | cons b t =>
      exfalso
      exact hV b (t ++ r) (by rw [h2]; simp) (hx b (by rw [h1]; simp))
def opsL : List Int := [2, 4, 5, 1, 3, 6]
theorem op_pairs {o q : Int} (ho : o ∈ opsL) (hq : 1 ≤ q ∧ q ≤ 6) (h : (opText o).data.toList.isPrefixOf (opText q).data.toList = true) : o = q ∨ (o = 1 ∧ q = 2) ∨ (o = 6 ∧ q = 5) := by
  simp only [opsL, List.mem_cons, List.not_mem_nil, or_false] at ho
  obtain rfl | rfl | rfl | rfl | rfl | rfl : q = 1 ∨ q = 2 ∨ q = 3 ∨ q = 4 ∨ q = 5 ∨ q = 6 := by omega
  all_goals
    rcases ho with rfl | rfl | rfl | rfl | rfl | rfl
    all_goals first | exact .inl rfl | exact .inr (.inl ⟨rfl, rfl⟩) | exact .inr (.inr ⟨rfl, rfl⟩) | exact absurd h (by decide)
/-- While the operators are tried: none of those so far, or this one. -/
def OpsT (cols : List Int) (s : ByteArray) (a : Nat) (b : Bool) (i : Nat) (o : Int) (a1 : Nat) : Prop := (o = 0 ∧ a1 = a + 1 ∧ ∀ p r, b = false → CmpT cols s a p r → p.op ∉ opsL.take i) ∨ (o ≠ 0 ∧ ∀ p r, b = false → CmpT cols s a p r → o = p.op ∧ a1 = a + 1 + (opText o).size)
theorem OpsT.hit {cols : List Int} {s : ByteArray} {a i a1 : Nat} {b : Bool} {t : Int} (h : OpsT cols s a b i 0 a1) (ht : opsL[i]? = some t) (hb : isAt s a1 b (opText t) = true) : OpsT cols s a b (i + 1) t (a1 + (opText t).size) := by
  have htm := List.mem_of_getElem? ht
  rcases h with ⟨-, e1, h⟩ | ⟨h0, -⟩
  · refine .inr ⟨?_, fun p r hbf hc => ?_⟩
    · simp only [opsL, List.mem_cons, List.not_mem_nil, or_false] at htm
      omega
    · obtain ⟨ha, -, -, hd⟩ := hc.digit
      have hop := (cmp_form hc.2.1 hc.1).2.1
      have hp := hb
      unfold isAt at hp
      rw [Bool.and_eq_true, e1, hd] at hp
      have h1 := op_prefix (op_ch t) (val_head hc) hp.2
      have hno := h p r hbf hc
      have hti : t = p.op := by
        rcases op_pairs htm hop h1 with e | ⟨e, e'⟩ | ⟨e, e'⟩
        · exact e
        · exfalso
          rw [e'] at hno
          rw [e] at ht
          have : i = 3 := by
            have hi := (List.getElem?_eq_some_iff.1 ht).1
            simp only [opsL, List.length_cons, List.length_nil] at hi
            rcases (by omega : i = 0 ∨ i = 1 ∨ i = 2 ∨ i = 3 ∨ i = 4 ∨ i = 5) with rfl | rfl | rfl | rfl | rfl | rfl
            all_goals first | rfl | (exfalso; revert ht; decide)
          subst this
          exact hno (by decide)
        · exfalso
          rw [e'] at hno
          rw [e] at ht
          have : i = 5 := by
            have hi := (List.getElem?_eq_some_iff.1 ht).1
            simp only [opsL, List.length_cons, List.length_nil] at hi
            rcases (by omega : i = 0 ∨ i = 1 ∨ i = 2 ∨ i = 3 ∨ i = 4 ∨ i = 5) with rfl | rfl | rfl | rfl | rfl | rfl
            all_goals first | rfl | (exfalso; revert ht; decide)
          subst this
          exact hno (by decide)
      exact ⟨hti, by rw [e1]⟩
  · exact absurd rfl h0
theorem OpsT.miss {cols : List Int} {s : ByteArray} {a i a1 : Nat} {b : Bool} {t : Int} (h : OpsT cols s a b i 0 a1) (ht : opsL[i]? = some t) (hb : isAt s a1 b (opText t) = false) : OpsT cols s a b (i + 1) 0 a1 := by
  rcases h with ⟨-, e1, h⟩ | ⟨h0, -⟩
  · refine .inl ⟨rfl, e1, fun p r hbf hc hm => ?_⟩
    have htk : opsL.take (i + 1) = opsL.take i ++ [t] := take_of_get ht
    rw [htk] at hm
    rcases List.mem_append.1 hm with hm | hm
    · exact h p r hbf hc hm
    · rw [List.mem_singleton] at hm
      obtain ⟨ha, -, -, hd⟩ := hc.digit
      have : isAt s a1 b (opText t) = true := by
        unfold isAt
        rw [hbf, e1, hd, ← hm, Bool.not_false, Bool.true_and]
        exact pre_self _ _
      rw [this] at hb
      cases hb
  · exact absurd rfl h0
theorem OpsT.past {cols : List Int} {s : ByteArray} {a i a1 : Nat} {b : Bool} {o : Int} (h : OpsT cols s a b i o a1) (ho : o ≠ 0) : OpsT cols s a b (i + 1) o a1 := by
  rcases h with ⟨h0, -⟩ | h
  · exact absurd h0 ho
  · exact .inr h
/-- All operators were tried: it was this one. -/
theorem OpsT.done {cols : List Int} {s : ByteArray} {a a1 : Nat} {b : Bool} {o : Int} (h : OpsT cols s a b 6 o a1) : ∀ p r, b = false → CmpT cols s a p r → o = p.op ∧ a1 = a + 1 + (opText o).size := by
  rcases h with ⟨-, -, h⟩ | ⟨-, h⟩
  · intro p r hbf hc
    exfalso
    have hop := (cmp_form hc.2.1 hc.1).2.1
    apply h p r hbf hc
    obtain e | e | e | e | e | e : p.op = 1 ∨ p.op = 2 ∨ p.op = 3 ∨ p.op = 4 ∨ p.op = 5 ∨ p.op = 6 := by omega
    all_goals rw [e]; decide
  · exact h
theorem upTo_val {cols : List Int} {s : ByteArray} {a a1 : Nat} {p : P} {r : List UInt8} (hc : CmpT cols s a p r) (e : a1 = a + 1 + (opText p.op).size) : upTo s a1 = (valText p.v).data.toList ∧ s.data.toList.drop (a1 + (upTo s a1).length) = r := by
  obtain ⟨ha, -, -, hd⟩ := hc.digit
  have hv := (cmp_form hc.2.1 hc.1).1
  have hl : (opText p.op).data.toList.length = (opText p.op).size := by simp
  have h1 : s.data.toList.drop a1 = (valText p.v).data.toList ++ r := by
    rw [e, ← List.drop_drop, hd, ← hl, List.drop_left]
  have h2 : upTo s a1 = (valText p.v).data.toList := by
    unfold upTo
    rw [h1]
    have hall : ∀ b ∈ (valText p.v).data.toList, notStop b = true := fun b hb => by
      have hc := valText_ch hv b hb
      cases hn : notStop b
      · exfalso
        unfold notStop at hn
        simp only [List.contains_cons, List.contains_nil, Bool.or_false, Bool.not_eq_false', Bool.or_eq_true, beq_iff_eq] at hn
        refine stop_not_val (b := b) ?_ hc
        rcases hn with rfl | rfl
        · exact .inl rfl
        · exact .inr rfl
      · rfl
    rw [List.takeWhile_append_of_pos hall]
    cases hr : r with
    | nil => simp
    | cons x t =>
      have hx := hc.2.2.2.1 x t hr
      have : notStop x = false := by
        unfold notStop
        rcases hx with h | h
        · have : x = 44 := UInt8.toNat_inj.1 h
          subst this; rfl
        · have : x = 41 := UInt8.toNat_inj.1 h
          subst this; rfl
      rw [List.takeWhile_cons, this]
      simp
  exact ⟨h2, by rw [h2, ← List.drop_drop, h1, List.drop_left]⟩
theorem cmpS_done {cols : List Int} {s : ByteArray} {a a1 : Nat} {b ok : Bool} {o : Int} {v : V} (ha : a < s.size) (h : OpsT cols s a b 6 o a1) (hv : ValR ⟨(upTo s a1).toArray⟩ v ok) : CmpS cols s a b ⟨2, (s[a].toNat : Int) - 48, o, v, []⟩ (a1 + (upTo s a1).length) (b || !ok) := by
  intro p r hbf hc
  obtain ⟨e1, e2⟩ := h.done p r hbf hc
  obtain ⟨_, -, e3, -⟩ := hc.digit
  obtain ⟨f1, f2, -, f4⟩ := cmp_form hc.2.1 hc.1
  rw [e1] at e2
  obtain ⟨u1, u2⟩ := upTo_val hc e2
  obtain ⟨k1, k2⟩ := hv.of f1 (ba_inj u1.symm)
  exact ⟨P_ext hc.1.symm e3.symm e1 k2 f4.symm, by rw [hbf, k1]; rfl, u2⟩
theorem cmpS_no {cols : List Int} {s : ByteArray} {a : Nat} {b : Bool} (h : ∀ ha : a < s.size, ¬ (48 ≤ s[a].toNat ∧ s[a].toNat ≤ 57)) (p : P) (a' : Nat) (b' : Bool) : CmpS cols s a b p a' b' := fun p' r _ hc => by
  obtain ⟨ha, hd, -⟩ := hc.digit
  exact absurd hd (h ha)
end Go.Proofs.YtjogkbkkcaljhaaGreatDoor
namespace Go.Proofs.YtjogkbkkcaljhaaGreatDoor
open Go.Sort Go.ChangeShapes Go.WideShapes Go.ChangeAt Go.RowKit Go.Lb
/-- A comparison, and where the reader stands behind it. -/
def CmpP (cols : List Int) (s : ByteArray) (g a : Nat) (b : Bool) (w : World) (e : Ending) (w' : World) : Prop := ∃ (p : P) (a' : Nat) (b' : Bool), e = .returned (.agg #[.int .i64 p.kind, .int .i64 p.col, .int .i64 p.op, .int .i64 p.v.ty, .int .i64 p.v.n, .string p.v.s, .slice none 0 0]) ∧ Hid (CmpS cols s a b p a' b' ∧ p.l = [] ∧ p.v.s.size ≤ 6 ∧ -1000000000 ≤ p.col ∧ p.col ≤ 1000000000) ∧ RS w' g s a' b' ∧ Chg g (g + 1) w w'
theorem cell_chg {w w' : World} {g G o : Nat} {u : Value} (h : w.cell? ⟨G, o, none⟩ = some u) (hc : Chg g (g + 1) w w') (hne : G ≠ g) : w'.cell? ⟨G, o, none⟩ = some u :=
  (World.cell?_of_block (a := ⟨G, o, none⟩) (hc.block G (block_lt_of_cell h) (by omega))).trans h
theorem ne_of_cells {w : World} {G g o : Nat} {u v : Value} (h : w.cell? ⟨G, o, none⟩ = some u) (c : w.cell? ⟨g, o, none⟩ = some v) (hne : u ≠ v) : G ≠ g := fun e => hne (by subst e; rw [h] at c; exact Option.some.inj c)
theorem EnvP.chg {w w' : World} {g a : Nat} {b : Bool} {s : ByteArray} (h : EnvP w) (hr : RS w g s a b) (hc : Chg g (g + 1) w w') : EnvP w' := by
  have c0 := cell_of_row w g 0 _ _ _ hr.1
  simp only [List.getElem?_toArray, List.getElem?_cons_zero] at c0
  obtain ⟨h1, ⟨t, p, h2⟩, ⟨t', p', h3⟩, m, h4⟩ := h
  have n2 : 2 ≠ g := ne_of_cells h2 c0 (fun e => by cases e)
  have n3 : 3 ≠ g := ne_of_cells h3 c0 (fun e => by cases e)
  have n4 : 0 ≠ g := ne_of_cells h4 c0 (fun e => by cases e)
  refine ⟨?_, ⟨t, p, cell_chg h2 hc n2⟩, ⟨t', p', cell_chg h3 hc n3⟩, m, cell_chg h4 hc n4⟩
  have hg : Tryz.prog.globalNamed "internal/strconv.uint64pow10" = some 1 := by kernel_rfl
  unfold Pow Lib.TabIs World.var? at h1 ⊢
  rw [hg] at h1 ⊢
  simp only [Option.bind_some] at h1 ⊢
  have n1 : 1 ≠ g := fun e => by
    rw [e, hr.1] at h1
    simp only [Option.some.injEq] at h1
    have h5 := congrArg (fun x : Array Value => x[0]?) h1
    simp [Lib.pow10Tab] at h5
  have hl : 1 < w.heap.size := by
    rcases Nat.lt_or_ge 1 w.heap.size with h6 | h6
    · exact h6
    · rw [Array.getElem?_eq_none h6] at h1; cases h1
  rw [hc.block _ hl (by omega)]
  exact h1
theorem setP1 {w : World} {X : Nat} {c0 c1 c2 c3 c4 c5 c6 u : Value} {e : TypeId} (h : w.heap[X]? = some (.cells #[c0, c1, c2, c3, c4, c5, c6] e)) : (w.setCell ⟨X, 1, none⟩ u).heap[X]? = some (.cells #[c0, u, c2, c3, c4, c5, c6] e) := by
  have h1 := set1 (o := 1) (a := u) h
  simpa only [List.setIfInBounds_toArray, List.set_cons_succ, List.set_cons_zero] using h1
theorem setP2 {w : World} {X : Nat} {c0 c1 c2 c3 c4 c5 c6 u : Value} {e : TypeId} (h : w.heap[X]? = some (.cells #[c0, c1, c2, c3, c4, c5, c6] e)) : (w.setCell ⟨X, 2, none⟩ u).heap[X]? = some (.cells #[c0, c1, u, c3, c4, c5, c6] e) := by
  have h1 := set1 (o := 2) (a := u) h
  simpa only [List.setIfInBounds_toArray, List.set_cons_succ, List.set_cons_zero] using h1
theorem setP345 {w : World} {X : Nat} {c0 c1 c2 c3 c4 c5 c6 u v x : Value} {e : TypeId} (h : w.heap[X]? = some (.cells #[c0, c1, c2, c3, c4, c5, c6] e)) : (((w.setCell ⟨X, 3, none⟩ u).setCell ⟨X, 4, none⟩ v).setCell ⟨X, 5, none⟩ x).heap[X]? = some (.cells #[c0, c1, c2, u, v, x, c6] e) := by
  have h1 := set1 (o := 5) (a := x) (set1 (o := 4) (a := v) (set1 (o := 3) (a := u) h))
  simpa only [List.setIfInBounds_toArray, List.set_cons_succ, List.set_cons_zero] using h1
theorem keepC {w : World} {b o c : Nat} {u : Value} {x : Option Obj} (hne : c ≠ b) (h : w.heap[c]? = x) : (w.setCell ⟨b, o, none⟩ u).heap[c]? = x := (Below.heap_setCell w ⟨b, o, none⟩ u c hne).trans h
theorem ops_at {w : World} {ab i : Nat} (h : w.heap[ab]? = some (.cells #[.int .i64 2, .int .i64 4, .int .i64 5, .int .i64 1, .int .i64 3, .int .i64 6] 3)) (hi : i < 6) : ∃ t : Int, opsL[i]? = some t ∧ w.cell? ⟨ab, i, none⟩ = some (.int .i64 t) ∧ t ≠ 0 ∧ (opText t).size ≤ 2 := by
  have hc := cell_of_row w ab i _ _ _ h
  rcases (by omega : i = 0 ∨ i = 1 ∨ i = 2 ∨ i = 3 ∨ i = 4 ∨ i = 5) with rfl | rfl | rfl | rfl | rfl | rfl
  all_goals exact ⟨_, rfl, hc, by decide, by decide⟩
set_option maxRecDepth 20000 in
set_option maxHeartbeats 16000000 in
theorem spec_l11Cmp (cols : List Int) (s : ByteArray) (g a : Nat) (b : Bool) (w : World) (h : RS w g s a b) (hs : s.size ≤ 1048576) (he : EnvP w) :
    Calls Tryz.prog 52 #[.pointer (some ⟨g, 0, none⟩)] w fun e w' => CmpP cols s g a b w e w' := by
  have ha := h.2
  have hgl : g < w.heap.size := (Array.getElem?_eq_some_iff.1 h.1).1
  have hE := Lib.hid he
  have HRw := Lib.hid h
  have up := up_a2 w (.cells #[.int .i64 0, .int .i64 0, .int .i64 0, .int .i64 0, .int .i64 0, .string ⟨#[]⟩, .slice none 0 0] 27) (.cells #[.int .i64 2, .int .i64 0, .int .i64 0, .int .i64 0, .int .i64 0, .string ⟨#[]⟩, .slice none 0 0] 27)
  have HG := Lib.hid ((up.block g hgl).trans h.1)
  have HZ := Lib.hid (show ((w.alloc (.cells #[.int .i64 0, .int .i64 0, .int .i64 0, .int .i64 0, .int .i64 0, .string ⟨#[]⟩, .slice none 0 0] 27)).alloc (.cells #[.int .i64 2, .int .i64 0, .int .i64 0, .int .i64 0, .int .i64 0, .string ⟨#[]⟩, .slice none 0 0] 27)).heap[w.heap.size]? = some _ from alloc_oldQ (heap_alloc_new w (.cells #[.int .i64 0, .int .i64 0, .int .i64 0, .int .i64 0, .int .i64 0, .string ⟨#[]⟩, .slice none 0 0] 27)))
  have HP := Lib.hid (show ((w.alloc (.cells #[.int .i64 0, .int .i64 0, .int .i64 0, .int .i64 0, .int .i64 0, .string ⟨#[]⟩, .slice none 0 0] 27)).alloc (.cells #[.int .i64 2, .int .i64 0, .int .i64 0, .int .i64 0, .int .i64 0, .string ⟨#[]⟩, .slice none 0 0] 27)).heap[w.heap.size + 1]? = some (.cells #[.int .i64 2, .int .i64 0, .int .i64 0, .int .i64 0, .int .i64 0, .string ⟨#[]⟩, .slice none 0 0] 27) by have h := heap_alloc_new (w.alloc (.cells #[.int .i64 0, .int .i64 0, .int .i64 0, .int .i64 0, .int .i64 0, .string ⟨#[]⟩, .slice none 0 0] 27)) (.cells #[.int .i64 2, .int .i64 0, .int .i64 0, .int .i64 0, .int .i64 0, .string ⟨#[]⟩, .slice none 0 0] 27); rw [World.size_alloc] at h; exact h)
  have hs0 : ((w.alloc (.cells #[.int .i64 0, .int .i64 0, .int .i64 0, .int .i64 0, .int .i64 0, .string ⟨#[]⟩, .slice none 0 0] 27)).alloc (.cells #[.int .i64 2, .int .i64 0, .int .i64 0, .int .i64 0, .int .i64 0, .string ⟨#[]⟩, .slice none 0 0] 27)).heap.size = w.heap.size + 1 + 1 := by simp
  obtain ⟨W0, hW0⟩ : ∃ W0, ((w.alloc (.cells #[.int .i64 0, .int .i64 0, .int .i64 0, .int .i64 0, .int .i64 0, .string ⟨#[]⟩, .slice none 0 0] 27)).alloc (.cells #[.int .i64 2, .int .i64 0, .int .i64 0, .int .i64 0, .int .i64 0, .string ⟨#[]⟩, .slice none 0 0] 27)) = W0 := ⟨_, rfl⟩
  rw [hW0] at up HG HZ HP hs0
  have HW0 := Lib.hid hW0
  have UP := Lib.hid up
  have HE := Lib.hid (he.below up)
  clear hW0 up he h
  go_enter Tryz.func52, Tryz.ntmps52
  go_upto_region 2 with fail
  rw [HW0.out]
  clear HW0
  have k0 := cell_of_row W0 (g) 0 _ _ _ HG.out
  have k1 := cell_of_row W0 (g) 1 _ _ _ HG.out
  have k2 := cell_of_row W0 (g) 2 _ _ _ HG.out
  simp only [List.getElem?_toArray, List.getElem?_cons_zero, List.getElem?_cons_succ] at k0 k1 k2
  by_cases hin : a < s.size
  · have hd : decide ((s.size : Int) ≤ (a : Int)) = false := decide_eq_false (by omega)
    have hdn : decide (s.size ≤ a) = false := decide_eq_false (by omega)
    have hb256 : s[a].toNat < 256 := s[a].toNat_lt
    have hw4 : IntKind.i64.wrap (s[a].toNat : Int) = (s[a].toNat : Int) := IntWalk.i64_in _ ⟨by omega, by omega⟩
    have HQ := q_spec_l1In (s[a].toNat : Int) 48 57
    have hai : (a : Int) < (s.size : Int) := by omega
    by_cases hdg : 48 ≤ s[a].toNat ∧ s[a].toNat ≤ 57
    · rw [show inR (s[a].toNat : Int) 48 57 = true from inR_of (by omega) (by omega)] at HQ
      go_region_held3 (fun w' => w'.cell? ⟨g, 0, none⟩ = some (.string s) ∧ w'.cell? ⟨g, 1, none⟩ = some (.int .i64 a)) (first | with_reducible exact ⟨k0, k1⟩ | go_keep) (first | (go_at_call 43; refine (HQ _).mono ?_; rintro e w2 ⟨rfl, rfl⟩))
      all_goals
        have hw5 : IntKind.i64.wrap ((s[a].toNat : Int) - 48) = ((s[a].toNat : Int) - 48) := IntWalk.i64_in _ ⟨by omega, by omega⟩
        have hw6 : IntKind.i64.wrap ((a : Int) + 1) = (a : Int) + 1 := IntWalk.i64_in _ ⟨by omega, by omega⟩
        clear HQ
        go_upto_region 5 with fail
        have b0 : W0.drew.heap[g]? = some (.cells #[.string s, .int .i64 a, .bool b] 49) := HG.out
        have b1 : W0.drew.heap[w.heap.size]? = some (.cells #[.int .i64 0, .int .i64 0, .int .i64 0, .int .i64 0, .int .i64 0, .string ⟨#[]⟩, .slice none 0 0] 27) := HZ.out
        have b2 : W0.drew.heap[w.heap.size + 1]? = some (.cells #[.int .i64 2, .int .i64 0, .int .i64 0, .int .i64 0, .int .i64 0, .string ⟨#[]⟩, .slice none 0 0] 27) := HP.out
        have b3 : Chg g (g + 1) w W0.drew := (chg_belowV UP.out).trans (chg_drew g W0)
        obtain ⟨X1, hX1⟩ : ∃ X1, W0.drew = X1 := ⟨_, rfl⟩
        rw [hX1] at b0 b1 b2 b3
        have B0 := Lib.hid b0
        have B1 := Lib.hid b1
        have B2 := Lib.hid b2
        have B3 := Lib.hid b3
        have HX1 := Lib.hid hX1
        clear hX1 b0 b1 b2 b3
        rw [HX1.out]
        clear HX1 k0 k1 k2
        have k0 := cell_of_row X1 (g) 0 _ _ _ B0.out
        have k1 := cell_of_row X1 (g) 1 _ _ _ B0.out
        have k2 := cell_of_row X1 (g) 2 _ _ _ B0.out
        simp only [List.getElem?_toArray, List.getElem?_cons_zero, List.getElem?_cons_succ] at k0 k1 k2
        have q0 := cell_of_row X1 (w.heap.size + 1) 0 _ _ _ B2.out
        have q1 := cell_of_row X1 (w.heap.size + 1) 1 _ _ _ B2.out
        have q2 := cell_of_row X1 (w.heap.size + 1) 2 _ _ _ B2.out
        have q3 := cell_of_row X1 (w.heap.size + 1) 3 _ _ _ B2.out
        have q4 := cell_of_row X1 (w.heap.size + 1) 4 _ _ _ B2.out
        have q5 := cell_of_row X1 (w.heap.size + 1) 5 _ _ _ B2.out
        have q6 := cell_of_row X1 (w.heap.size + 1) 6 _ _ _ B2.out
        simp only [List.getElem?_toArray, List.getElem?_cons_zero, List.getElem?_cons_succ] at q0 q1 q2 q3 q4 q5 q6
        have fq := fun o => frozen_of_row X1 (w.heap.size + 1) o _ _ B2.out
        have n0 : g ≠ w.heap.size + 1 := by omega
        go_region_held3 (fun w' => w'.cell? ⟨g, 0, none⟩ = some (.string s) ∧ w'.cell? ⟨g, 1, none⟩ = some (.int .i64 a)) (first | with_reducible exact ⟨k0, k1⟩ | (with_reducible (refine ⟨?_, ?_⟩ <;> (repeat (first | apply cell_drew | apply cell_set_ne n0)) <;> assumption)) | go_keep) (fail)
        all_goals
          go_upto_region 6 with fail
          have c0 : (X1.setCell ⟨w.heap.size + 1, 1, none⟩ (.int .i64 ((s[a].toNat : Int) - 48))).drew.heap[g]? = some (.cells #[.string s, .int .i64 a, .bool b] 49) := keepC (by omega) B0.out
          have c1 : (X1.setCell ⟨w.heap.size + 1, 1, none⟩ (.int .i64 ((s[a].toNat : Int) - 48))).drew.heap[w.heap.size]? = some (.cells #[.int .i64 0, .int .i64 0, .int .i64 0, .int .i64 0, .int .i64 0, .string ⟨#[]⟩, .slice none 0 0] 27) := keepC (by omega) B1.out
          have c2 : (X1.setCell ⟨w.heap.size + 1, 1, none⟩ (.int .i64 ((s[a].toNat : Int) - 48))).drew.heap[w.heap.size + 1]? = some (.cells #[.int .i64 2, .int .i64 ((s[a].toNat : Int) - 48), .int .i64 0, .int .i64 0, .int .i64 0, .string ⟨#[]⟩, .slice none 0 0] 27) := setP1 (u := .int .i64 ((s[a].toNat : Int) - 48)) B2.out
          have c3 : Chg g (g + 1) w (X1.setCell ⟨w.heap.size + 1, 1, none⟩ (.int .i64 ((s[a].toNat : Int) - 48))).drew := (chg_setZ B3.out (by omega) _).trans (chg_drew g _)
          obtain ⟨X2, hX2⟩ : ∃ X2, (X1.setCell ⟨w.heap.size + 1, 1, none⟩ (.int .i64 ((s[a].toNat : Int) - 48))).drew = X2 := ⟨_, rfl⟩
          rw [hX2] at c0 c1 c2 c3
          have C0 := Lib.hid c0
          have C1 := Lib.hid c1
          have C2 := Lib.hid c2
          have C3 := Lib.hid c3
          have HX2 := Lib.hid hX2
          clear hX2 c0 c1 c2 c3
          rw [HX2.out]
          clear HX2 k0 k1 k2 q0 q1 q2 q3 q4 q5 q6 fq
          have k0 := cell_of_row X2 (g) 0 _ _ _ C0.out
          have k1 := cell_of_row X2 (g) 1 _ _ _ C0.out
          have k2 := cell_of_row X2 (g) 2 _ _ _ C0.out
          simp only [List.getElem?_toArray, List.getElem?_cons_zero, List.getElem?_cons_succ] at k0 k1 k2
          have fk := fun o => frozen_of_row X2 g o _ _ C0.out
          go_upto_region 7 with fail
          have c0 : (X2.setCell ⟨g, 1, none⟩ (.int .i64 ((a : Int) + 1))).heap[g]? = some (.cells #[.string s, .int .i64 ((a : Int) + 1), .bool b] 49) := set1r (a := .int .i64 ((a : Int) + 1)) C0.out
          have c1 : (X2.setCell ⟨g, 1, none⟩ (.int .i64 ((a : Int) + 1))).heap[w.heap.size]? = some (.cells #[.int .i64 0, .int .i64 0, .int .i64 0, .int .i64 0, .int .i64 0, .string ⟨#[]⟩, .slice none 0 0] 27) := keepC (by omega) C1.out
          have c2 : (X2.setCell ⟨g, 1, none⟩ (.int .i64 ((a : Int) + 1))).heap[w.heap.size + 1]? = some (.cells #[.int .i64 2, .int .i64 ((s[a].toNat : Int) - 48), .int .i64 0, .int .i64 0, .int .i64 0, .string ⟨#[]⟩, .slice none 0 0] 27) := keepC (by omega) C2.out
          have c3 : Chg g (g + 1) w (X2.setCell ⟨g, 1, none⟩ (.int .i64 ((a : Int) + 1))) := C3.out.trans (chg_setR _ _ _ _)
          obtain ⟨X3, hX3⟩ : ∃ X3, (X2.setCell ⟨g, 1, none⟩ (.int .i64 ((a : Int) + 1))) = X3 := ⟨_, rfl⟩
          rw [hX3] at c0 c1 c2 c3
          have D0 := Lib.hid c0
          have D1 := Lib.hid c1
          have D2 := Lib.hid c2
          have D3 := Lib.hid c3
          have HX3 := Lib.hid hX3
          clear hX3 c0 c1 c2 c3
          rw [HX3.out]
          clear HX3 k0 k1 k2 fk
          have hz3 := (Array.getElem?_eq_some_iff.1 D2.out).1
          have up4 := up_a1 X3 (.cells #[.int .i64 2, .int .i64 4, .int .i64 5, .int .i64 1, .int .i64 3, .int .i64 6] 3)
          have c0 : (X3.alloc (.cells #[.int .i64 2, .int .i64 4, .int .i64 5, .int .i64 1, .int .i64 3, .int .i64 6] 3)).heap[g]? = some (.cells #[.string s, .int .i64 ((a : Int) + 1), .bool b] 49) := alloc_oldQ D0.out
          have c1 : (X3.alloc (.cells #[.int .i64 2, .int .i64 4, .int .i64 5, .int .i64 1, .int .i64 3, .int .i64 6] 3)).heap[w.heap.size]? = some (.cells #[.int .i64 0, .int .i64 0, .int .i64 0, .int .i64 0, .int .i64 0, .string ⟨#[]⟩, .slice none 0 0] 27) := alloc_oldQ D1.out
          have c2 : (X3.alloc (.cells #[.int .i64 2, .int .i64 4, .int .i64 5, .int .i64 1, .int .i64 3, .int .i64 6] 3)).heap[w.heap.size + 1]? = some (.cells #[.int .i64 2, .int .i64 ((s[a].toNat : Int) - 48), .int .i64 0, .int .i64 0, .int .i64 0, .string ⟨#[]⟩, .slice none 0 0] 27) := alloc_oldQ D2.out
          have c3 : Chg g (g + 1) w (X3.alloc (.cells #[.int .i64 2, .int .i64 4, .int .i64 5, .int .i64 1, .int .i64 3, .int .i64 6] 3)) := D3.out.trans (.of_below up4)
          have c4 : (X3.alloc (.cells #[.int .i64 2, .int .i64 4, .int .i64 5, .int .i64 1, .int .i64 3, .int .i64 6] 3)).heap[X3.heap.size]? = some (.cells #[.int .i64 2, .int .i64 4, .int .i64 5, .int .i64 1, .int .i64 3, .int .i64 6] 3) := heap_alloc_new X3 _
          obtain ⟨X4, hX4⟩ : ∃ X4, (X3.alloc (.cells #[.int .i64 2, .int .i64 4, .int .i64 5, .int .i64 1, .int .i64 3, .int .i64 6] 3)) = X4 := ⟨_, rfl⟩
          rw [hX4] at c0 c1 c2 c3 c4
          have E0 := Lib.hid c0
          have E1 := Lib.hid c1
          have E2 := Lib.hid c2
          have E3 := Lib.hid c3
          have E4 := Lib.hid c4
          have HX4 := Lib.hid hX4
          clear hX4 c0 c1 c2 c3 c4
          clear up4
          go_wp2_with fail
          rw [HX4.out]
          clear HX4
          go_loopw [57] (fun i wr => ∃ (j : Nat) (o : Int) (a1 : Nat), i = .int .i64 j ∧ j ≤ 6 ∧ Hid (OpsT cols s a b j o a1) ∧ Hid (RS wr g s a1 b) ∧ Hid (wr.heap[w.heap.size]? = some (.cells #[.int .i64 0, .int .i64 0, .int .i64 0, .int .i64 0, .int .i64 0, .string ⟨#[]⟩, .slice none 0 0] 27) ∧ wr.heap[w.heap.size + 1]? = some (.cells #[.int .i64 2, .int .i64 ((s[a].toNat : Int) - 48), .int .i64 o, .int .i64 0, .int .i64 0, .string ⟨#[]⟩, .slice none 0 0] 27) ∧ wr.heap[X3.heap.size]? = some (.cells #[.int .i64 2, .int .i64 4, .int .i64 5, .int .i64 1, .int .i64 3, .int .i64 6] 3)) ∧ Hid (Chg g (g + 1) w wr)) (fun i _ => 6 - (intOf i).toNat)
          case atStart => exact ⟨0, 0, a + 1, rfl, by omega, Lib.hid (.inl ⟨rfl, rfl, fun p r _ _ h => by simp at h⟩), Lib.hid ⟨by rw [show ((a + 1 : Nat) : Int) = (a : Int) + 1 by omega]; exact E0.out, by omega⟩, Lib.hid ⟨E1.out, E2.out, E4.out⟩, E3⟩
          case round =>
            obtain ⟨j, o, a1, rfl, hj, HO, HR, HB, HC⟩ := hrel
            have hcz := HC.out.size
            have q0 := cell_of_row wr (w.heap.size + 1) 0 _ _ _ HB.out.2.1
            have q1 := cell_of_row wr (w.heap.size + 1) 1 _ _ _ HB.out.2.1
            have q2 := cell_of_row wr (w.heap.size + 1) 2 _ _ _ HB.out.2.1
            have q3 := cell_of_row wr (w.heap.size + 1) 3 _ _ _ HB.out.2.1
            have q4 := cell_of_row wr (w.heap.size + 1) 4 _ _ _ HB.out.2.1
            have q5 := cell_of_row wr (w.heap.size + 1) 5 _ _ _ HB.out.2.1
            have q6 := cell_of_row wr (w.heap.size + 1) 6 _ _ _ HB.out.2.1
            simp only [List.getElem?_toArray, List.getElem?_cons_zero, List.getElem?_cons_succ] at q0 q1 q2 q3 q4 q5 q6
            have fq := fun o => frozen_of_row wr (w.heap.size + 1) o _ _ HB.out.2.1
            by_cases hj6 : j < 6
            · have hdj : decide ((j : Int) < 6) = true := decide_eq_true (by omega)
              obtain ⟨t, ht, hct, ht0, hts⟩ := ops_at HB.out.2.2 hj6
              have Ht := Lib.hid ht
              have hji : (j : Int) < 6 := by omega
              clear ht
              by_cases ho0 : o = 0
              · subst ho0
                have hgr : g < wr.heap.size := (Array.getElem?_eq_some_iff.1 HR.out.1).1
                have hbr1 := (Array.getElem?_eq_some_iff.1 HB.out.2.1).1
                have hbr2 := (Array.getElem?_eq_some_iff.1 HB.out.2.2).1
                have HOt := Lib.hid (spec_OpText t wr)
                have hob : ((0 : Int) == 0) = true := rfl
                go_wp2_with fail
                refine HOt.out.mono ?_
                rintro e w2 ⟨rfl, hb2⟩
                have hs2 := hb2.size
                have HIs := spec_l11Is s (opText t) g a1 b w2 ⟨(hb2.block g hgr).trans HR.out.1, HR.out.2⟩ hs (by omega)
                obtain ⟨bi, hbi⟩ : ∃ bi, isAt s a1 b (opText t) = bi := ⟨_, rfl⟩
                rw [hbi] at HIs
                have HIs := Lib.hid HIs
                have HBi := Lib.hid hbi
                have Hb2 := Lib.hid hb2
                clear hbi hb2 HOt q0 q1 q2 q3 q4 q5 q6 fq hct
                go_wp2_with fail
                refine HIs.out.mono ?_
                rintro e w3 ⟨rfl, hr3, hc3⟩
                have hs3 := hc3.size
                have g1 := (hc3.block w.heap.size (by omega) (by omega)).trans ((Hb2.out.block w.heap.size (by omega)).trans HB.out.1)
                have g2 := (hc3.block (w.heap.size + 1) (by omega) (by omega)).trans ((Hb2.out.block (w.heap.size + 1) (by omega)).trans HB.out.2.1)
                have g3 := (hc3.block X3.heap.size (by omega) (by omega)).trans ((Hb2.out.block X3.heap.size (by omega)).trans HB.out.2.2)
                have H1 := Lib.hid g1
                have H2 := Lib.hid g2
                have H3 := Lib.hid g3
                have H4 := Lib.hid ((HC.out.trans (.of_below Hb2.out)).trans hc3)
                have H5 := Lib.hid hr3
                clear g1 g2 g3 hr3 hc3 HIs
                cases bi
                · have HX := Lib.hid (HO.out.miss Ht.out HBi.out)
                  have HRx := Lib.hid (show RS w3 g s a1 b by have h := H5.out; rw [if_neg (by simp)] at h; exact h)
                  go_wp2_with fail
                  go_roundw
                  case rel => exact ⟨j + 1, 0, a1, by go_num, by omega, HX, HRx, Lib.hid ⟨H1.out, H2.out, H3.out⟩, H4⟩
                  case measure => simp [intOf]; omega
                · have HX := Lib.hid (HO.out.hit Ht.out HBi.out)
                  have HRx := Lib.hid (show RS w3 g s (a1 + (opText t).size) b by have h := H5.out; rw [if_pos rfl] at h; exact h)
                  have q0 := cell_of_row w3 (w.heap.size + 1) 0 _ _ _ H2.out
                  have q1 := cell_of_row w3 (w.heap.size + 1) 1 _ _ _ H2.out
                  have q2 := cell_of_row w3 (w.heap.size + 1) 2 _ _ _ H2.out
                  have q3 := cell_of_row w3 (w.heap.size + 1) 3 _ _ _ H2.out
                  have q4 := cell_of_row w3 (w.heap.size + 1) 4 _ _ _ H2.out
                  have q5 := cell_of_row w3 (w.heap.size + 1) 5 _ _ _ H2.out
                  have q6 := cell_of_row w3 (w.heap.size + 1) 6 _ _ _ H2.out
                  simp only [List.getElem?_toArray, List.getElem?_cons_zero, List.getElem?_cons_succ] at q0 q1 q2 q3 q4 q5 q6
                  have fq := fun o => frozen_of_row w3 (w.heap.size + 1) o _ _ H2.out
                  go_wp2_with fail
                  go_roundw
                  case rel => exact ⟨j + 1, t, _, by go_num, by omega, HX, Lib.hid ⟨keepC (by omega) HRx.out.1, HRx.out.2⟩, Lib.hid ⟨keepC (by omega) H1.out, setP2 H2.out, keepC (by omega) H3.out⟩, Lib.hid (chg_setZ H4.out (by omega) _)⟩
                  case measure => simp [intOf]; omega
              · have hob : (o == 0) = false := by simpa using ho0
                have HX := Lib.hid (HO.out.past ho0)
                clear ho0
                go_wp2_with fail
                go_roundw
                case rel => exact ⟨j + 1, o, a1, by go_num, by omega, HX, HR, HB, HC⟩
                case measure => simp [intOf]; omega
            · obtain rfl : j = 6 := by omega
              have hdj : decide (((6 : Nat) : Int) < 6) = false := rfl
              have hgr : g < wr.heap.size := (Array.getElem?_eq_some_iff.1 HR.out.1).1
              have hbr1 := (Array.getElem?_eq_some_iff.1 HB.out.2.1).1
              have HVl := Lib.hid (spec_l11Val s g a1 b wr HR.out hs (hE.out.chg HRw.out HC.out))
              clear q0 q1 q2 q3 q4 q5 q6 fq
              go_wp2_with fail
              refine HVl.out.mono ?_
              rintro e w2 ⟨v, ok, rfl, hv, hr2, hc2⟩
              have hs2 := hc2.size
              have g1 := (hc2.block w.heap.size (by omega) (by omega)).trans HB.out.1
              have g2 := (hc2.block (w.heap.size + 1) (by omega) (by omega)).trans HB.out.2.1
              have H1 := Lib.hid g1
              have H2 := Lib.hid g2
              have H4 := Lib.hid (HC.out.trans hc2)
              have H5 := Lib.hid hr2
              clear g1 g2 hr2 hc2 HVl
              have q0 := cell_of_row w2 (w.heap.size + 1) 0 _ _ _ H2.out
              have q1 := cell_of_row w2 (w.heap.size + 1) 1 _ _ _ H2.out
              have q2 := cell_of_row w2 (w.heap.size + 1) 2 _ _ _ H2.out
              have q3 := cell_of_row w2 (w.heap.size + 1) 3 _ _ _ H2.out
              have q4 := cell_of_row w2 (w.heap.size + 1) 4 _ _ _ H2.out
              have q5 := cell_of_row w2 (w.heap.size + 1) 5 _ _ _ H2.out
              have q6 := cell_of_row w2 (w.heap.size + 1) 6 _ _ _ H2.out
              simp only [List.getElem?_toArray, List.getElem?_cons_zero, List.getElem?_cons_succ] at q0 q1 q2 q3 q4 q5 q6
              have fq := fun o => frozen_of_row w2 (w.heap.size + 1) o _ _ H2.out
              go_upto_region 14 with fail
              have c0 : (((w2.setCell ⟨w.heap.size + 1, 3, none⟩ (.int .i64 v.ty)).setCell ⟨w.heap.size + 1, 4, none⟩ (.int .i64 v.n)).setCell ⟨w.heap.size + 1, 5, none⟩ (.string v.s)).heap[g]? = some (.cells #[.string s, .int .i64 ((a1 + (upTo s a1).length : Nat) : Int), .bool (b || !ok)] 49) := keepC (by omega) (keepC (by omega) (keepC (by omega) H5.out.1))
              have c1 : (((w2.setCell ⟨w.heap.size + 1, 3, none⟩ (.int .i64 v.ty)).setCell ⟨w.heap.size + 1, 4, none⟩ (.int .i64 v.n)).setCell ⟨w.heap.size + 1, 5, none⟩ (.string v.s)).heap[w.heap.size]? = some (.cells #[.int .i64 0, .int .i64 0, .int .i64 0, .int .i64 0, .int .i64 0, .string ⟨#[]⟩, .slice none 0 0] 27) := keepC (by omega) (keepC (by omega) (keepC (by omega) H1.out))
              have c2 : (((w2.setCell ⟨w.heap.size + 1, 3, none⟩ (.int .i64 v.ty)).setCell ⟨w.heap.size + 1, 4, none⟩ (.int .i64 v.n)).setCell ⟨w.heap.size + 1, 5, none⟩ (.string v.s)).heap[w.heap.size + 1]? = some (.cells #[.int .i64 2, .int .i64 ((s[a].toNat : Int) - 48), .int .i64 o, .int .i64 v.ty, .int .i64 v.n, .string v.s, .slice none 0 0] 27) := setP345 H2.out
              have c3 : Chg g (g + 1) w (((w2.setCell ⟨w.heap.size + 1, 3, none⟩ (.int .i64 v.ty)).setCell ⟨w.heap.size + 1, 4, none⟩ (.int .i64 v.n)).setCell ⟨w.heap.size + 1, 5, none⟩ (.string v.s)) := chg_setZ (chg_setZ (chg_setZ H4.out (by omega) _) (by omega) _) (by omega) _
              obtain ⟨X5, hX5⟩ : ∃ X5, (((w2.setCell ⟨w.heap.size + 1, 3, none⟩ (.int .i64 v.ty)).setCell ⟨w.heap.size + 1, 4, none⟩ (.int .i64 v.n)).setCell ⟨w.heap.size + 1, 5, none⟩ (.string v.s)) = X5 := ⟨_, rfl⟩
              rw [hX5] at c0 c1 c2 c3
              have J0 := Lib.hid c0
              have J1 := Lib.hid c1
              have J2 := Lib.hid c2
              have J3 := Lib.hid c3
              have HX5 := Lib.hid hX5
              clear hX5 c0 c1 c2 c3
              rw [HX5.out]
              clear HX5 q0 q1 q2 q3 q4 q5 q6 fq
              have q0 := cell_of_row X5 (w.heap.size + 1) 0 _ _ _ J2.out
              have q1 := cell_of_row X5 (w.heap.size + 1) 1 _ _ _ J2.out
              have q2 := cell_of_row X5 (w.heap.size + 1) 2 _ _ _ J2.out
              have q3 := cell_of_row X5 (w.heap.size + 1) 3 _ _ _ J2.out
              have q4 := cell_of_row X5 (w.heap.size + 1) 4 _ _ _ J2.out
              have q5 := cell_of_row X5 (w.heap.size + 1) 5 _ _ _ J2.out
              have q6 := cell_of_row X5 (w.heap.size + 1) 6 _ _ _ J2.out
              simp only [List.getElem?_toArray, List.getElem?_cons_zero, List.getElem?_cons_succ] at q0 q1 q2 q3 q4 q5 q6
              have r0 := cell_of_row X5 (w.heap.size) 0 _ _ _ J1.out
              have r1 := cell_of_row X5 (w.heap.size) 1 _ _ _ J1.out
              have r2 := cell_of_row X5 (w.heap.size) 2 _ _ _ J1.out
              have r3 := cell_of_row X5 (w.heap.size) 3 _ _ _ J1.out
              have r4 := cell_of_row X5 (w.heap.size) 4 _ _ _ J1.out
              have r5 := cell_of_row X5 (w.heap.size) 5 _ _ _ J1.out
              have r6 := cell_of_row X5 (w.heap.size) 6 _ _ _ J1.out
              simp only [List.getElem?_toArray, List.getElem?_cons_zero, List.getElem?_cons_succ] at r0 r1 r2 r3 r4 r5 r6
              have f0 := fun o => frozen_of_row X5 w.heap.size o _ _ J1.out
              have hvs := hv.out.size
              go_wp2_with fail
              refine bodyPost_ret (v := .agg #[.int .i64 2, .int .i64 ((s[a].toNat : Int) - 48), .int .i64 o, .int .i64 v.ty, .int .i64 v.n, .string v.s, .slice none 0 0]) ?_ rfl ⟨⟨2, ((s[a].toNat : Int) - 48), o, v, []⟩, a1 + (upTo s a1).length, (b || !ok), rfl, Lib.hid ⟨cmpS_done hin HO.out hv.out, rfl, hvs, show -1000000000 ≤ ((s[a].toNat : Int) - 48) by omega, show ((s[a].toNat : Int) - 48) ≤ 1000000000 by omega⟩, ⟨?_, H5.out.2⟩, ?_⟩
              · simp [results, Tryz.results52, go_sem, r0, r1, r2, r3, r4, r5, r6]
              · iterate 7 refine keepC (by omega) ?_
                exact J0.out
              · iterate 7 refine chg_setZ ?_ (Nat.le_refl _) _
                exact J3.out
    · rw [show inR (s[a].toNat : Int) 48 57 = false from by
        unfold inR
        rw [Bool.and_eq_false_iff]
        by_cases h : (48 : Int) ≤ (s[a].toNat : Int)
        · exact .inr (decide_eq_false (by omega))
        · exact .inl (decide_eq_false h)] at HQ
      have HN := Lib.hid (cmpS_no (cols := cols) (b := b) (fun _ => hdg) ⟨2, 0, 0, V.zero, []⟩ a true)
      go_region_held3 (fun w' => w'.cell? ⟨g, 0, none⟩ = some (.string s) ∧ w'.cell? ⟨g, 1, none⟩ = some (.int .i64 a)) (first | with_reducible exact ⟨k0, k1⟩ | go_keep) (first | (go_at_call 43; refine (HQ _).mono ?_; rintro e w2 ⟨rfl, rfl⟩))
      all_goals
        have f0 := fun o => frozen_of_row W0 g o _ _ HG.out
        go_upto_region 4 with fail
        have b0 : (W0.setCell ⟨g, 2, none⟩ (.bool true)).drew.heap[g]? = some (.cells #[.string s, .int .i64 a, .bool true] 49) := set2r (a := .bool true) HG.out
        have b1 : (W0.setCell ⟨g, 2, none⟩ (.bool true)).drew.heap[w.heap.size]? = some (.cells #[.int .i64 0, .int .i64 0, .int .i64 0, .int .i64 0, .int .i64 0, .string ⟨#[]⟩, .slice none 0 0] 27) := keepC (by omega) HZ.out
        have b2 : (W0.setCell ⟨g, 2, none⟩ (.bool true)).drew.heap[w.heap.size + 1]? = some (.cells #[.int .i64 2, .int .i64 0, .int .i64 0, .int .i64 0, .int .i64 0, .string ⟨#[]⟩, .slice none 0 0] 27) := keepC (by omega) HP.out
        have b3 : Chg g (g + 1) W0 (W0.setCell ⟨g, 2, none⟩ (.bool true)).drew := (chg_setR W0 g 2 _).trans (chg_drew g _)
        obtain ⟨W1, hW1⟩ : ∃ W1, (W0.setCell ⟨g, 2, none⟩ (.bool true)).drew = W1 := ⟨_, rfl⟩
        rw [hW1] at b0 b1 b2 b3
        have B0 := Lib.hid b0
        have B1 := Lib.hid b1
        have B2 := Lib.hid b2
        have B3 := Lib.hid b3
        have HW1 := Lib.hid hW1
        clear hW1 b0 b1 b2 b3
        rw [HW1.out]
        clear HW1 k0 k1 k2 f0
        have q0 := cell_of_row W1 (w.heap.size + 1) 0 _ _ _ B2.out
        have q1 := cell_of_row W1 (w.heap.size + 1) 1 _ _ _ B2.out
        have q2 := cell_of_row W1 (w.heap.size + 1) 2 _ _ _ B2.out
        have q3 := cell_of_row W1 (w.heap.size + 1) 3 _ _ _ B2.out
        have q4 := cell_of_row W1 (w.heap.size + 1) 4 _ _ _ B2.out
        have q5 := cell_of_row W1 (w.heap.size + 1) 5 _ _ _ B2.out
        have q6 := cell_of_row W1 (w.heap.size + 1) 6 _ _ _ B2.out
        simp only [List.getElem?_toArray, List.getElem?_cons_zero, List.getElem?_cons_succ] at q0 q1 q2 q3 q4 q5 q6
        have r0 := cell_of_row W1 (w.heap.size) 0 _ _ _ B1.out
        have r1 := cell_of_row W1 (w.heap.size) 1 _ _ _ B1.out
        have r2 := cell_of_row W1 (w.heap.size) 2 _ _ _ B1.out
        have r3 := cell_of_row W1 (w.heap.size) 3 _ _ _ B1.out
        have r4 := cell_of_row W1 (w.heap.size) 4 _ _ _ B1.out
        have r5 := cell_of_row W1 (w.heap.size) 5 _ _ _ B1.out
        have r6 := cell_of_row W1 (w.heap.size) 6 _ _ _ B1.out
        simp only [List.getElem?_toArray, List.getElem?_cons_zero, List.getElem?_cons_succ] at r0 r1 r2 r3 r4 r5 r6
        have f1 := fun o => frozen_of_row W1 w.heap.size o _ _ B1.out
        go_wp2_with fail
        refine bodyPost_ret (v := .agg #[.int .i64 2, .int .i64 0, .int .i64 0, .int .i64 0, .int .i64 0, .string ⟨#[]⟩, .slice none 0 0]) ?_ rfl ⟨⟨2, 0, 0, V.zero, []⟩, a, true, rfl, Lib.hid ⟨HN.out, rfl, by decide, by decide, by decide⟩, ⟨?_, ha⟩, ?_⟩
        · simp [results, Tryz.results52, go_sem, r0, r1, r2, r3, r4, r5, r6]
        · iterate 7 refine keepC (by omega) ?_
          exact B0.out
        · iterate 7 refine chg_setZ ?_ (Nat.le_refl _) _
          exact (chg_belowV UP.out).trans B3.out
  · have hd : decide ((s.size : Int) ≤ (a : Int)) = true := decide_eq_true (by omega)
    have hdn : decide (s.size ≤ a) = true := decide_eq_true (by omega)
    have HN := Lib.hid (cmpS_no (cols := cols) (b := b) (fun h => absurd h hin) ⟨2, 0, 0, V.zero, []⟩ a true)
    go_region
    all_goals
      have f0 := fun o => frozen_of_row W0 g o _ _ HG.out
      go_upto_region 4 with fail
      have b0 : (W0.setCell ⟨g, 2, none⟩ (.bool true)).drew.heap[g]? = some (.cells #[.string s, .int .i64 a, .bool true] 49) := set2r (a := .bool true) HG.out
      have b1 : (W0.setCell ⟨g, 2, none⟩ (.bool true)).drew.heap[w.heap.size]? = some (.cells #[.int .i64 0, .int .i64 0, .int .i64 0, .int .i64 0, .int .i64 0, .string ⟨#[]⟩, .slice none 0 0] 27) := keepC (by omega) HZ.out
      have b2 : (W0.setCell ⟨g, 2, none⟩ (.bool true)).drew.heap[w.heap.size + 1]? = some (.cells #[.int .i64 2, .int .i64 0, .int .i64 0, .int .i64 0, .int .i64 0, .string ⟨#[]⟩, .slice none 0 0] 27) := keepC (by omega) HP.out
      have b3 : Chg g (g + 1) W0 (W0.setCell ⟨g, 2, none⟩ (.bool true)).drew := (chg_setR W0 g 2 _).trans (chg_drew g _)
      obtain ⟨W1, hW1⟩ : ∃ W1, (W0.setCell ⟨g, 2, none⟩ (.bool true)).drew = W1 := ⟨_, rfl⟩
      rw [hW1] at b0 b1 b2 b3
      have B0 := Lib.hid b0
      have B1 := Lib.hid b1
      have B2 := Lib.hid b2
      have B3 := Lib.hid b3
      have HW1 := Lib.hid hW1
      clear hW1 b0 b1 b2 b3
      rw [HW1.out]
      clear HW1 k0 k1 k2 f0
      have q0 := cell_of_row W1 (w.heap.size + 1) 0 _ _ _ B2.out
      have q1 := cell_of_row W1 (w.heap.size + 1) 1 _ _ _ B2.out
      have q2 := cell_of_row W1 (w.heap.size + 1) 2 _ _ _ B2.out
      have q3 := cell_of_row W1 (w.heap.size + 1) 3 _ _ _ B2.out
      have q4 := cell_of_row W1 (w.heap.size + 1) 4 _ _ _ B2.out
      have q5 := cell_of_row W1 (w.heap.size + 1) 5 _ _ _ B2.out
      have q6 := cell_of_row W1 (w.heap.size + 1) 6 _ _ _ B2.out
      simp only [List.getElem?_toArray, List.getElem?_cons_zero, List.getElem?_cons_succ] at q0 q1 q2 q3 q4 q5 q6
      have r0 := cell_of_row W1 (w.heap.size) 0 _ _ _ B1.out
      have r1 := cell_of_row W1 (w.heap.size) 1 _ _ _ B1.out
      have r2 := cell_of_row W1 (w.heap.size) 2 _ _ _ B1.out
      have r3 := cell_of_row W1 (w.heap.size) 3 _ _ _ B1.out
      have r4 := cell_of_row W1 (w.heap.size) 4 _ _ _ B1.out
      have r5 := cell_of_row W1 (w.heap.size) 5 _ _ _ B1.out
      have r6 := cell_of_row W1 (w.heap.size) 6 _ _ _ B1.out
      simp only [List.getElem?_toArray, List.getElem?_cons_zero, List.getElem?_cons_succ] at r0 r1 r2 r3 r4 r5 r6
      have f1 := fun o => frozen_of_row W1 w.heap.size o _ _ B1.out
      go_wp2_with fail
      refine bodyPost_ret (v := .agg #[.int .i64 2, .int .i64 0, .int .i64 0, .int .i64 0, .int .i64 0, .string ⟨#[]⟩, .slice none 0 0]) ?_ rfl ⟨⟨2, 0, 0, V.zero, []⟩, a, true, rfl, Lib.hid ⟨HN.out, rfl, by decide, by decide, by decide⟩, ⟨?_, ha⟩, ?_⟩
      · simp [results, Tryz.results52, go_sem, r0, r1, r2, r3, r4, r5, r6]
      · iterate 7 refine keepC (by omega) ?_
        exact B0.out
      · iterate 7 refine chg_setZ ?_ (Nat.le_refl _) _
        exact (chg_belowV UP.out).trans B3.out
end Go.Proofs.YtjogkbkkcaljhaaGreatDoor
namespace Go.Proofs.YtjogkbkkcaljhaaGreatDoor
open Go.Sort Go.ChangeShapes Go.WideShapes Go.ChangeAt Go.RowKit Go.Lb
/-- What the reader takes for a predicate at a place. -/
def ReadS (cols : List Int) (k : Nat) (s : ByteArray) (a : Nat) (b : Bool) (p : P) (a' : Nat) (b' : Bool) : Prop := b = false → cols.length ≤ 3 → PartR cols k (s.data.toList.drop a) p (s.data.toList.drop a') (!b')
def PartsS (cols : List Int) (k : Nat) (s : ByteArray) (a : Nat) (b : Bool) (l : List P) (a' : Nat) (b' : Bool) : Prop := b = false → cols.length ≤ 3 → ∀ n, OpsR cols k n (s.data.toList.drop a) ⟨n, 0, 0, V.zero, l⟩ (s.data.toList.drop a') (!b')
/-- While operands are read. -/
def PartsI (cols : List Int) (k : Nat) (s : ByteArray) (a0 : Nat) (b0 : Bool) (ps : List P) (a : Nat) (ag b : Bool) : Prop := b0 = false → cols.length ≤ 3 → ∀ l r, l ≠ [] → l.length ≤ 4 → l.all (deepOk cols k) = true → s.data.toList.drop a0 = bodyL l r → b = false ∧ (ag = true → ∃ l2, l = ps ++ l2 ∧ l2 ≠ [] ∧ s.data.toList.drop a = bodyL l2 r) ∧ (ag = false → l = ps ∧ s.data.toList.drop a = 41 :: r)
theorem PartsI.zero (cols : List Int) (k : Nat) (s : ByteArray) (a : Nat) (b : Bool) : PartsI cols k s a b [] a true b := fun hb _ l _ h0 _ _ e => ⟨hb, fun _ => ⟨l, rfl, h0, e⟩, fun h => by cases h⟩
theorem isAt_one {s : ByteArray} {a : Nat} {c : UInt8} {r : List UInt8} (d : UInt8) (h : s.data.toList.drop a = c :: r) : isAt s a false ⟨#[d]⟩ = (d == c) := by
  unfold isAt
  rw [h]
  simp [List.isPrefixOf]
theorem drop_one {s : ByteArray} {a : Nat} {c : UInt8} {r : List UInt8} (h : s.data.toList.drop a = c :: r) : s.data.toList.drop (a + 1) = r := by
  rw [← List.drop_drop, h]
  rfl
theorem PartsI.step {cols : List Int} {k : Nat} {s : ByteArray} {a0 a a1 : Nat} {b0 b1 : Bool} {ps : List P} {x : P} {ag : Bool} (h : PartsI cols k s a0 b0 ps a true false) (hr : ReadS cols k s a false x a1 b1) (hg : isAt s a1 b1 ⟨#[44]⟩ = ag) :
    PartsI cols k s a0 b0 (ps ++ [x]) (if ag = true then a1 + 1 else a1) ag (b1 || decide (4 < (ps ++ [x]).length)) := by
  intro hb0 hc l r h0 h4 hl e
  obtain ⟨-, h1, -⟩ := h hb0 hc l r h0 h4 hl e
  obtain ⟨l2, e1, e2, e3⟩ := h1 rfl
  obtain ⟨y, t, rfl, ht⟩ := body_cases e2 r
  have hy : deepOk cols k y = true := by
    rw [e1] at hl
    exact List.all_eq_true.1 hl y (by simp)
  have hln : (ps ++ [x]).length ≤ 4 := by
    rw [e1] at h4
    simp at h4 ⊢
    omega
  have hd : decide (4 < (ps ++ [x]).length) = false := decide_eq_false (by omega)
  rw [hd]
  rcases ht with ⟨rfl, hb⟩ | ⟨ht, hb⟩
  · obtain ⟨g1, g2, g3⟩ := hr rfl hc y (41 :: r) hy (stop_41 r) (e3.trans hb)
    subst g2
    have g1 : b1 = false := by simpa using g1
    subst g1
    rw [isAt_one 44 g3] at hg
    subst hg
    exact ⟨rfl, fun h => absurd h (by decide), fun _ => ⟨e1, g3⟩⟩
  · obtain ⟨g1, g2, g3⟩ := hr rfl hc y (44 :: bodyL t r) hy (stop_44 _) (e3.trans hb)
    subst g2
    have g1 : b1 = false := by simpa using g1
    subst g1
    rw [isAt_one 44 g3] at hg
    subst hg
    exact ⟨rfl, fun _ => ⟨t, by rw [e1]; simp, ht, drop_one g3⟩, fun h => absurd h (by decide)⟩
theorem PartsI.yes {cols : List Int} {k : Nat} {s : ByteArray} {a0 a : Nat} {b0 b ag : Bool} {ps : List P} (h : PartsI cols k s a0 b0 ps a ag b) (hn : ag = false ∨ b = true) : PartsS cols k s a0 b0 ps (a + 1) b := by
  intro hb0 hc n l r h0 h4 hl e
  obtain ⟨h1, h2, h3⟩ := h hb0 hc l r h0 h4 hl e
  subst h1
  rcases hn with rfl | hn
  · obtain ⟨e1, e2⟩ := h3 rfl
    exact ⟨rfl, by rw [e1], drop_one e2⟩
  · cases hn
theorem PartsI.no {cols : List Int} {k : Nat} {s : ByteArray} {a0 a : Nat} {b0 b ag : Bool} {ps : List P} (h : PartsI cols k s a0 b0 ps a ag b) (hn : ag = false ∨ b = true) (hg : isAt s a b ⟨#[41]⟩ = false) : PartsS cols k s a0 b0 ps a true := by
  intro hb0 hc n l r h0 h4 hl e
  obtain ⟨h1, h2, h3⟩ := h hb0 hc l r h0 h4 hl e
  subst h1
  rcases hn with rfl | hn
  · obtain ⟨e1, e2⟩ := h3 rfl
    rw [isAt_one 41 e2] at hg
    cases hg
  · cases hn
theorem readS_zero {cols : List Int} (s : ByteArray) (a : Nat) (b : Bool) (p : P) (a' : Nat) (b' : Bool) : ReadS cols 0 s a b p a' b' := fun _ _ => part_zero _ _ _ _
theorem readS_bad {cols : List Int} {k : Nat} (s : ByteArray) (a : Nat) (p : P) (a' : Nat) (b' : Bool) : ReadS cols k s a true p a' b' := fun h => absurd h (by decide)
theorem readS_all {cols : List Int} {k : Nat} {s : ByteArray} {a : Nat} (h : isAt s a false ⟨#[97, 108, 108]⟩ = true) : ReadS cols k s a false ⟨1, 0, 0, V.zero, []⟩ (a + 3) false := fun _ _ => part_all (isAt_pos h).2
theorem readS_ops {cols : List Int} {k : Nat} {s : ByteArray} {a a' : Nat} {b' : Bool} {n : Int} {l : List P} (hn : n = 3 ∨ n = 4 ∨ n = 5) (h : isAt s a false (word n) = true) (hp : PartsS cols k s (a + (word n).size) false l a' b') : ReadS cols (k + 1) s a false ⟨n, 0, 0, V.zero, l⟩ a' b' := fun _ hc => part_ops hn (isAt_pos h).2 (hp rfl hc n)
theorem isAt_pre {s t : ByteArray} {a : Nat} : isAt s a false t = t.data.toList.isPrefixOf (s.data.toList.drop a) := by
  unfold isAt
  simp
/-- What begins with a comparison's letter is one. -/
theorem readS_cmp {cols : List Int} {k : Nat} {s : ByteArray} {a a' : Nat} {b' : Bool} {p : P} (h : isAt s a false ⟨#[99]⟩ = true) (hp : CmpS cols s (a + 1) false p a' b') : ReadS cols (k + 1) s a false p a' b' := by
  intro _ hc p' r hp' hr es
  obtain ⟨hf, hl⟩ := deep_form hp'
  have hh : s.data.toList.drop a = 99 :: s.data.toList.drop (a + 1) := (isAt_pos h).2
  have hk : p'.kind = 2 := by
    have a1 := pre_all hf r
    have a3 := pre_word hf (n := 3) (.inl rfl) r
    have a4 := pre_word hf (n := 4) (.inr (.inl rfl)) r
    have a5 := pre_word hf (n := 5) (.inr (.inr rfl)) r
    rw [← es, hh] at a1 a3 a4 a5
    have b1 := of_decide_eq_false a1.symm
    have b3 := of_decide_eq_false a3.symm
    have b4 := of_decide_eq_false a4.symm
    have b5 := of_decide_eq_false a5.symm
    have := form_kind hf
    omega
  rw [predT_cmp hk, hh] at es
  have e2 : s.data.toList.drop (a + 1) = Lib.itoa p'.col ++ ((opText p'.op).data.toList ++ ((valText p'.v).data.toList ++ r)) := by
    unfold cmpL at es
    simp only [List.cons_append, List.cons.injEq, true_and] at es
    rw [es]
    simp
  obtain ⟨g1, g2, g3⟩ := hp p' r rfl ⟨hk, hf, hc, hr, e2⟩
  exact ⟨by rw [g2]; rfl, g1, g3⟩
theorem readS_none {cols : List Int} {k : Nat} {s : ByteArray} {a : Nat} (h1 : isAt s a false ⟨#[97, 108, 108]⟩ = false) (h3 : isAt s a false (word 3) = false) (h4 : isAt s a false (word 4) = false) (h5 : isAt s a false (word 5) = false) (h2 : isAt s a false ⟨#[99]⟩ = false) (p : P) (a' : Nat) (b' : Bool) : ReadS cols (k + 1) s a false p a' b' := by
  intro _ hc p' r hp' hr es
  exfalso
  obtain ⟨hf, hl⟩ := deep_form hp'
  have a1 := pre_all hf r
  have a3 := pre_word hf (n := 3) (.inl rfl) r
  have a4 := pre_word hf (n := 4) (.inr (.inl rfl)) r
  have a5 := pre_word hf (n := 5) (.inr (.inr rfl)) r
  rw [isAt_pre] at h1 h2 h3 h4 h5
  rw [← es] at a1 a3 a4 a5
  have b1 := of_decide_eq_false (a1.symm.trans h1)
  have b3 := of_decide_eq_false (a3.symm.trans h3)
  have b4 := of_decide_eq_false (a4.symm.trans h4)
  have b5 := of_decide_eq_false (a5.symm.trans h5)
  have hk : p'.kind = 2 := by
    have := form_kind hf
    omega
  rw [es, predT_cmp hk] at h2
  have : ([99] : List UInt8).isPrefixOf (cmpL p'.col p'.op p'.v ++ r) = true := by simp [cmpL, List.isPrefixOf]
  rw [show (⟨#[99]⟩ : ByteArray).data.toList = [99] from rfl, this] at h2
  cases h2
end Go.Proofs.YtjogkbkkcaljhaaGreatDoor
