/- Rows that are not dropped: contracts. -/
import Derived.Test.YtaapmimabbmdbaaS17
namespace Go.Proofs.Ytaapmimabbmdbaa
open Go.Sort Go.ChangeShapes Go.WideShapes Go.ChangeAt Go.RowKit Go.Lb

def hasI (l : List Int) (n : Int) : Bool := l.any fun m => m == n
def keepRow (ids : List Int) (r : R) : Bool := !hasI ids r.id
def dropRows (l : List R) (ids : List Int) : List R := l.filter (keepRow ids)
theorem hasI_yes {l : List Int} {n m : Int} {k : Nat} (h : l[k]? = some m) (he : m = n) : hasI l n = true := List.any_eq_true.2 ⟨m, mem_of_get h, by simp [he]⟩
theorem hasI_end {l : List Int} {n : Int} (h : (l.take l.length).any (fun m => m == n) = false) : hasI l n = false := by
  rw [List.take_length] at h
  exact h
theorem drop_step {l : List R} {ids : List Int} {k : Nat} {y : R} (h : l[k]? = some y) : (l.take (k + 1)).filter (keepRow ids) = (l.take k).filter (keepRow ids) ++ (if hasI ids y.id then [] else [y]) := by
  rw [take_of_get h, List.filter_append]
  congr 1
  cases hh : hasI ids y.id <;> simp [keepRow, hh]
theorem lensR_filter (l : List R) (p : R → Bool) : lensR (l.filter p) ≤ lensR l := by
  unfold lensR
  induction l with
  | nil => simp
  | cons a r ih =>
    rw [List.filter_cons]
    split
    · simp only [List.map_cons, List.sum_cons]; omega
    · simp only [List.map_cons, List.sum_cons]; omega
theorem dropRows_bd (l : List R) (ids : List Int) : cntR (dropRows l ids) ≤ cntR l := by
  rw [cntR_eq, cntR_eq]
  have h1 := lensR_filter l (keepRow ids)
  have h2 : (l.filter (keepRow ids)).length ≤ l.length := List.length_filter_le _ _
  unfold dropRows
  omega

theorem q_spec_l13Has (l : List Int) (x : Value) (n : Int) (w : World) {lo hi : Nat} (hx : RdI w lo hi x l) (_hhi : hi ≤ w.heap.size) :
    Calls Try.prog 55 #[x, .int .i64 n] w fun e w' => e = .returned (.bool (hasI l n)) ∧ w = w' := by
  obtain ⟨A, c, rfl, hl, hl2⟩ := hx.form
  go_enter Try.func55, Try.ntmps55
  go_wp2_with fail
  go_loop [5] (fun i => ∃ k : Nat, i = .int .i64 k ∧ k ≤ l.length ∧ (l.take k).any (fun m => m == n) = false) (fun i => l.length - (intOf i).toNat)
  case atStart => exact ⟨0, rfl, by omega, by simp⟩
  case round =>
    obtain ⟨k, rfl, hk, hall⟩ := hrel
    have Hall := Lib.hid hall
    clear hall
    by_cases hkl : k < l.length
    · obtain ⟨b, off, y, rfl, -, hbl, hyk, e0⟩ := hx.at hkl
      by_cases he : y = n
      · have hd : (y == n) = true := by simp [he]
        have H := Lib.hid (hasI_yes hyk he)
        clear hyk he
        go_wp2_with fail
        go_ret
        exact ⟨ret_bool H.out.symm, rfl⟩
      · have hd : (y == n) = false := by simp [he]
        have Ht := Lib.hid (show (l.take (k + 1)).any (fun m => m == n) = false by rw [take_of_get hyk, List.any_append, Hall.out]; simp [he])
        clear hyk he
        go_wp2_with fail
        go_round
        case rel => exact ⟨k + 1, by go_num, by omega, Ht.out⟩
        case measure => simp [intOf]; omega
    · have H := Lib.hid (hasI_end (l := l) (n := n) (by have h := Hall.out; rwa [show k = l.length by omega] at h))
      go_wp2_with fail
      go_ret
      exact ⟨ret_bool H.out.symm, rfl⟩
theorem q_impl_hasInt (l : List Int) (x : Value) (n : Int) (w : World) {lo hi : Nat} (hx : RdI w lo hi x l) (_hhi : hi ≤ w.heap.size) :
    Calls Try.prog 52 #[x, .int .i64 n] w fun e w' => e = .returned (.bool (hasI l n)) ∧ w = w' := by
  obtain ⟨A, c, rfl, hl, hl2⟩ := hx.form
  go_enter Try.func52, Try.ntmps52
  go_wp2_with fail
  go_loop [9] (fun i => ∃ k : Nat, i = .int .i64 k ∧ k ≤ l.length ∧ (l.take k).any (fun m => m == n) = false) (fun i => l.length - (intOf i).toNat)
  case atStart => exact ⟨0, rfl, by omega, by simp⟩
  case round =>
    obtain ⟨k, rfl, hk, hall⟩ := hrel
    have Hall := Lib.hid hall
    clear hall
    by_cases hkl : k < l.length
    · obtain ⟨b, off, y, rfl, -, hbl, hyk, e0⟩ := hx.at hkl
      by_cases he : y = n
      · have hd : (y == n) = true := by simp [he]
        have H := Lib.hid (hasI_yes hyk he)
        clear hyk he
        go_wp2_with fail
        go_ret
        exact ⟨ret_bool H.out.symm, rfl⟩
      · have hd : (y == n) = false := by simp [he]
        have Ht := Lib.hid (show (l.take (k + 1)).any (fun m => m == n) = false by rw [take_of_get hyk, List.any_append, Hall.out]; simp [he])
        clear hyk he
        go_wp2_with fail
        go_round
        case rel => exact ⟨k + 1, by go_num, by omega, Ht.out⟩
        case measure => simp [intOf]; omega
    · have H := Lib.hid (hasI_end (l := l) (n := n) (by have h := Hall.out; rwa [show k = l.length by omega] at h))
      go_wp2_with fail
      go_ret
      exact ⟨ret_bool H.out.symm, rfl⟩

set_option maxRecDepth 20000 in
set_option maxHeartbeats 1000000 in
theorem impl_DropRows (l : List R) (x : Value) (ids : List Int) (iv : Value) (w : World) {lo hi l1 h1 : Nat} (hx : RdR w lo hi x l) (hhi : hi ≤ w.heap.size) (hi1 : RdI w l1 h1 iv ids) (hh1 : h1 ≤ w.heap.size) (hn : l.length ≤ 1048576 ∧ lensR l ≤ 1048576) :
    Calls Try.prog 27 #[x, iv] w fun e w' => ∃ v, e = .returned v ∧ OwnR 44 25 w' w.heap.size w'.heap.size v (dropRows l ids) ∧ Below w.heap.size w w' := by
  obtain ⟨A, c, rfl, hl, hl2⟩ := hx.form
  obtain ⟨i0, hif, hz0, hz1, hz2⟩ := info_parts info_Row
  have hif := Lib.hid hif
  have hz0 := Lib.hid hz0
  have hz1 := Lib.hid hz1
  have hz2 := Lib.hid hz2
  have hn1 := hn.1
  have Hn := Lib.hid hn.2
  clear hn
  have own0 := World.ownsRow_made w (base := w.heap.size) (e := 44) (size := 2) #[] 0 (Nat.le_refl _) (by decide) rfl
  go_enter Try.func27, Try.ntmps27
  go_wp2_with fail
  go_loopw [5, 11] (fun o i wr => ∃ (k : Nat) (ps : List (R × Value)), i = .int .i64 k ∧ k ≤ l.length ∧ ps.length ≤ k ∧ ps.map Prod.fst = (l.take k).filter (keepRow ids) ∧ OwnRp 44 25 wr w.heap.size wr.heap.size o ps ∧ Below w.heap.size w wr) (fun _ i _ => l.length - (intOf i).toNat)
  case atStart => exact ⟨0, [], rfl, by omega, by simp, by simp, OwnRp.nil own0 (fun g hg => by simp [Value.ownBlock] at hg; simp; omega), (Below.refl _ _).alloc (Nat.le_refl _) _⟩
  case round =>
    obtain ⟨k, ps, rfl, hk, hpl, hps, hown, hb⟩ := hrel
    have Hps := Lib.hid hps
    have Hown := Lib.hid hown
    clear hps hown
    by_cases hkl : k < l.length
    · obtain ⟨b, off, y, sv, rfl, -, hbl, hyk, e0, e1, hr⟩ := (hx.below hb hhi).at hkl
      obtain ⟨As, cs, rfl, -, -⟩ := hr.form
      have Hy := Lib.hid (drop_step (ids := ids) hyk)
      have hyl : y.l.length ≤ 1048576 := Nat.le_trans (len_of_lens (mem_of_get hyk)) Hn.out
      have hbs := hb.size
      have up := up_a1 wr (.cells #[.int .i64 y.id, .slice As y.l.length cs] 44)
      have hr1 := hr.below up (by omega)
      have hiw := (hi1.below hb hh1).below up (by omega)
      have Up := Lib.hid up
      clear hyk hr
      cases hh : hasI ids y.id
      · have Hy := Lib.hid (by have h := Hy.out; rw [hh] at h; exact h)
        go_wp2_with fail
        refine (q_impl_hasInt ids iv y.id _ hiw (by simp only [World.size_alloc]; omega)).mono ?_
        rintro e w1 ⟨rfl, rfl⟩
        rw [hh]
        go_wp2_with fail
        refine (impl_cloneRow y (.slice As y.l.length cs) _ hr1 (by simp only [World.size_alloc]; omega) (by omega)).mono ?_
        rintro e w1 ⟨v, rfl, hown1, hb1⟩
        replace hb1 := below_a1 hb1
        have hown2 := hown1.more (lo' := wr.heap.size) (by simp) (Nat.le_refl _)
        obtain ⟨As', cs', rfl, -, -, -⟩ := hown2.cells
        have Hin := Lib.hid (hown2.below (up_a1 w1 (.cells #[.int .i64 y.id, .slice As' y.l.length cs'] 44)) (Nat.le_refl _))
        have hout := owns_below (owns_base Hown.out.out fun g hg => (Hown.out.outIn g hg).1) hb1
        have hs1 := hb1.size
        have Hb1 := Lib.hid hb1
        clear hown1 hown2 hr1 up e0 e1 hb1 hiw
        go_wp2_with (at_builtin; refine wpl_app rfl _ _ 42 rfl w.heap.size 44 i0 _ 2 32 Try.underlying42 hif.out hz0.out hz1.out hz2.out rfl (by decide) (by decide) (hout.alloc _) rfl (heap_alloc_new _ _) rfl rfl (by simp [Value.oneCell']) (by omega) (by simp; omega) ?_)
        intro v' w3 hown' hgrow hnb
        have hb2 := hb.trans (Hb1.out.mono hb.size)
        have hb3 := below_app (hb2.alloc hb2.size _) (hout.alloc _) hgrow (Nat.le_refl _)
        have hsn := Lib.hid (Hown.out.snoc ((Below.refl _ _).trans Hb1.out |>.alloc hs1 _) hb.size Hin.out (by simp) hown' hgrow (by simpa using hnb))
        clear hown' hgrow hnb hout
        go_wp2_with fail
        go_roundw
        case rel => exact ⟨k + 1, _, by go_num, by omega, by simp; omega, by rw [List.map_append, Hps.out, Hy.out]; rfl, hsn.out, hb3⟩
        case measure => simp [intOf]; omega
      · have Hy := Lib.hid (by have h := Hy.out; rw [hh] at h; exact h)
        go_wp2_with fail
        refine (q_impl_hasInt ids iv y.id _ hiw (by simp only [World.size_alloc]; omega)).mono ?_
        rintro e w1 ⟨rfl, rfl⟩
        rw [hh]
        go_wp2_with fail
        go_roundw
        case rel => exact ⟨k + 1, ps, by go_num, by omega, by omega, by rw [Hps.out, Hy.out]; simp, Hown.out.imp (fun g _ h => Up.out.block g h) (Nat.le_refl _) Up.out.size, hb.trans (Up.out.mono hb.size)⟩
        case measure => simp [intOf]; omega
    · go_wp2_with fail
      go_ret
      obtain rfl : k = l.length := by omega
      have hp := Hps.out
      rw [List.take_length] at hp
      exact ⟨_, rfl, ⟨ps, hp, Hown.out⟩, hb⟩

set_option maxRecDepth 20000 in
set_option maxHeartbeats 1000000 in
theorem spec_DropRows (l : List R) (x : Value) (ids : List Int) (iv : Value) (w : World) {lo hi l1 h1 : Nat} (hx : RdR w lo hi x l) (hhi : hi ≤ w.heap.size) (hi1 : RdI w l1 h1 iv ids) (hh1 : h1 ≤ w.heap.size) (hn : l.length ≤ 1048576 ∧ lensR l ≤ 1048576) :
    Calls Try.prog 32 #[x, iv] w fun e w' => ∃ v, e = .returned v ∧ OwnR 44 25 w' w.heap.size w'.heap.size v (dropRows l ids) ∧ Below w.heap.size w w' := by
  obtain ⟨A, c, rfl, hl, hl2⟩ := hx.form
  obtain ⟨i0, hif, hz0, hz1, hz2⟩ := info_parts info_Row
  have hif := Lib.hid hif
  have hz0 := Lib.hid hz0
  have hz1 := Lib.hid hz1
  have hz2 := Lib.hid hz2
  have hn1 := hn.1
  have Hn := Lib.hid hn.2
  clear hn
  have own0 := World.ownsRow_made w (base := w.heap.size) (e := 44) (size := 2) #[] 0 (Nat.le_refl _) (by decide) rfl
  go_enter Try.func32, Try.ntmps32
  go_wp2_with fail
  go_loopw [5, 6] (fun o i wr => ∃ (k : Nat) (ps : List (R × Value)), i = .int .i64 k ∧ k ≤ l.length ∧ ps.length ≤ k ∧ ps.map Prod.fst = (l.take k).filter (keepRow ids) ∧ OwnRp 44 25 wr w.heap.size wr.heap.size o ps ∧ Below w.heap.size w wr) (fun _ i _ => l.length - (intOf i).toNat)
  case atStart => exact ⟨0, [], rfl, by omega, by simp, by simp, OwnRp.nil own0 (fun g hg => by simp [Value.ownBlock] at hg; simp; omega), (Below.refl _ _).alloc (Nat.le_refl _) _⟩
  case round =>
    obtain ⟨k, ps, rfl, hk, hpl, hps, hown, hb⟩ := hrel
    have Hps := Lib.hid hps
    have Hown := Lib.hid hown
    clear hps hown
    by_cases hkl : k < l.length
    · obtain ⟨b, off, y, sv, rfl, -, hbl, hyk, e0, e1, hr⟩ := (hx.below hb hhi).at hkl
      have Hy := Lib.hid (drop_step (ids := ids) hyk)
      have hyl : y.l.length ≤ 1048576 := Nat.le_trans (len_of_lens (mem_of_get hyk)) Hn.out
      have hbs := hb.size
      have hiw := hi1.below hb hh1
      clear hyk
      cases hh : hasI ids y.id
      · have Hy := Lib.hid (by have h := Hy.out; rw [hh] at h; exact h)
        go_wp2_with fail
        refine (q_spec_l13Has ids iv y.id _ hiw (by omega)).mono ?_
        rintro e w1 ⟨rfl, rfl⟩
        rw [hh]
        go_wp2_with fail
        refine (spec_l4Copy y sv _ hr (by omega) (by omega)).mono ?_
        rintro e w1 ⟨v, rfl, hown1, hb1⟩
        obtain ⟨As', cs', rfl, -, -, -⟩ := hown1.cells
        have up2 := up_a2 w1 (.cells #[.int .i64 y.id, .slice As' y.l.length cs'] 44) (.cells #[.int .i64 y.id, .slice As' y.l.length cs'] 44)
        have Hin := Lib.hid (hown1.below up2 (Nat.le_refl _))
        have hout := owns_below (owns_base Hown.out.out fun g hg => (Hown.out.outIn g hg).1) hb1
        have hs1 := hb1.size
        have Hb1 := Lib.hid (hb1.trans (up2.mono hs1))
        have hnew := heap_alloc_new (w1.alloc (.cells #[.int .i64 y.id, .slice As' y.l.length cs'] 44)) (.cells #[.int .i64 y.id, .slice As' y.l.length cs'] 44)
        simp only [World.size_alloc] at hnew
        have Hnew := Lib.hid hnew
        clear hown1 hr e0 e1 hb1 up2 hnew hiw
        go_wp2_with (at_builtin; refine wpl_app rfl _ _ 42 rfl w.heap.size 44 i0 _ 2 32 Try.underlying42 hif.out hz0.out hz1.out hz2.out rfl (by decide) (by decide) ((hout.alloc _).alloc _) rfl Hnew.out rfl rfl (by simp [Value.oneCell']) (by omega) (by simp; omega) ?_)
        intro v' w3 hown' hgrow hnb
        have hb2 := hb.trans (Hb1.out.mono hb.size)
        have hb3 := below_app hb2 ((hout.alloc _).alloc _) hgrow (Nat.le_refl _)
        have hsn := Lib.hid (Hown.out.snoc Hb1.out hb.size Hin.out (by simp <;> omega) hown' hgrow (by simpa [Nat.add_assoc] using hnb))
        clear hown' hgrow hnb hout
        go_wp2_with fail
        go_roundw
        case rel => exact ⟨k + 1, _, by go_num, by omega, by simp; omega, by rw [List.map_append, Hps.out, Hy.out]; rfl, hsn.out, hb3⟩
        case measure => simp [intOf]; omega
      · have Hy := Lib.hid (by have h := Hy.out; rw [hh] at h; exact h)
        go_wp2_with fail
        refine (q_spec_l13Has ids iv y.id _ hiw (by omega)).mono ?_
        rintro e w1 ⟨rfl, rfl⟩
        rw [hh]
        go_wp2_with fail
        go_roundw
        case rel => exact ⟨k + 1, ps, by go_num, by omega, by omega, by rw [Hps.out, Hy.out]; simp, Hown.out, hb⟩
        case measure => simp [intOf]; omega
    · go_wp2_with fail
      go_ret
      obtain rfl : k = l.length := by omega
      have hp := Hps.out
      rw [List.take_length] at hp
      exact ⟨_, rfl, ⟨ps, hp, Hown.out⟩, hb⟩
end Go.Proofs.Ytaapmimabbmdbaa
