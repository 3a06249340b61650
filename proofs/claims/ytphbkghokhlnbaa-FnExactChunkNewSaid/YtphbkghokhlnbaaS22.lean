/- New chunks: contracts. -/
import Derived.Test.YtphbkghokhlnbaaLC
import Derived.Test.YtphbkghokhlnbaaS8
import Derived.Test.YtphbkghokhlnbaaApp
namespace Go.Proofs.Ytphbkghokhlnbaa
open Go.Sort Go.ChangeShapes Go.WideShapes Go.ChangeAt Go.RowKit Go.Lb

def newSlots (n : Int) : List R := List.replicate (if inR n 1 4 then n.toNat else 1) ⟨0, []⟩
def newPs (m : Nat) : List (R × Value) := List.replicate m (⟨0, []⟩, .slice none 0 0)
theorem newPs_succ (m : Nat) : newPs (m + 1) = newPs m ++ [(⟨0, []⟩, .slice none 0 0)] := by simp [newPs, List.replicate_succ']
theorem newPs_len (m : Nat) : (newPs m).length = m := by simp [newPs]
theorem newPs_fst (m : Nat) : (newPs m).map Prod.fst = List.replicate m ⟨0, []⟩ := by simp [newPs]
theorem newSlots_of (n : Int) : ∃ m : Nat, 1 ≤ m ∧ m ≤ 4 ∧ newSlots n = List.replicate m ⟨0, []⟩ ∧ ((inR n 1 4 = true ∧ n = (m : Int)) ∨ (inR n 1 4 = false ∧ m = 1)) := by
  cases h : inR n 1 4
  · exact ⟨1, by omega, by omega, by simp [newSlots, h], .inr ⟨rfl, rfl⟩⟩
  · have := inR_yes h
    refine ⟨n.toNat, by omega, by omega, by simp [newSlots, h], .inl ⟨rfl, by omega⟩⟩
theorem made_slots {m : Nat} (h1 : 1 ≤ m) (h4 : m ≤ 4) : (madeCells #[.int .i64 0, .slice none 0 0] (m * 2)).toList.take (m * 2) = (newPs m).flatMap rcell := by
  rcases (by omega : m = 1 ∨ m = 2 ∨ m = 3 ∨ m = 4) with rfl | rfl | rfl | rfl <;> simp [madeCells, newPs, rcell, List.replicate, List.range, List.range.loop]
theorem own_nil {e : TypeId} {w : World} {lo hi : Nat} : Own e 3 w lo hi (.slice none 0 0) ([] : List V).length (([] : List V).flatMap V.cells) := ⟨⟨rfl, .inl ⟨rfl, rfl⟩⟩, fun g h => by cases h⟩
theorem newPs_own {e1 e2 : TypeId} {w : World} {lo hi m : Nat} {v : Value} (h : w.ownsRow 0 e1 2 v m ((newPs m).flatMap rcell)) (hin : InR lo hi v.ownBlock) : OwnRp e1 e2 w lo hi v (newPs m) := by
  have hp : ∀ p ∈ newPs m, p = (⟨0, []⟩, .slice none 0 0) := fun p hp => List.eq_of_mem_replicate hp
  refine ⟨by rw [newPs_len]; exact h, hin, fun p hm => ?_, ?_⟩
  · rw [hp p hm]
    exact ⟨⟨rfl, .inl ⟨rfl, rfl⟩⟩, fun g h => (by cases h), fun g _ h => (by cases h)⟩
  · unfold newPs
    exact List.pairwise_replicate.2 (.inr fun g h => (by cases h))
set_option maxRecDepth 20000 in
set_option maxHeartbeats 1000000 in
theorem impl_NewC (n : Int) (w : World) :
    Calls Try.prog 36 #[.int .i64 n] w fun e w' => ∃ v, e = .returned (.agg #[.int .i64 0, v]) ∧ OwnR 99 32 w' w.heap.size w'.heap.size v (newSlots n) ∧ Below w.heap.size w w' := by
  obtain ⟨m, hm1, hm4, hN, hM⟩ := newSlots_of n
  obtain ⟨i0, hif, hz0, hz1, hz2⟩ := info_parts info_Slot
  have hmk : ∀ W : World, _ := fun W => make_n (P := Try.prog) 50 99 i0 _ Try.underlying50 hif hz0 m (by rw [hz2]; omega) (by omega) W
  rw [hz1] at hmk
  clear hz0 hz1 hz2 hif
  have HN := Lib.hid hN
  clear hN
  rcases hM with ⟨hI, rfl⟩ | ⟨hI, hm⟩
  · go_enter Try.func36, Try.ntmps36
    go_wp2_with fail
    refine (q_impl_within _ _ _ _).mono ?_
    rintro e w1 ⟨rfl, rfl⟩
    rw [hI]
    go_wp2_with fail
    refine bodyPost_ret (v := .agg #[.int .i64 0, .slice (some ⟨w.heap.size + 1, 0, none⟩) m m]) ?_ rfl ⟨_, rfl, ⟨newPs m, by rw [newPs_fst, HN.out], newPs_own ?_ ?_⟩, ?_⟩
    · simp [results, Try.results36, go_sem]
    · have hn := heap_alloc_new (w.alloc (.cells #[.int .i64 0, .slice (some ⟨w.heap.size + 1, 0, none⟩) m m] 52)) (.cells (madeCells #[.int .i64 0, .slice none 0 0] (m * 2)) 99)
      rw [World.size_alloc] at hn
      exact ⟨by rw [flat_len rcell 2 rcell_len, newPs_len], .inr ⟨_, m, _, rfl, Nat.zero_le _, hn, Nat.le_refl _, by unfold maxLen; omega, size_madeCells _ _, made_slots hm1 hm4⟩⟩
    · intro g h
      cases h
      simp
    · exact up_a2 _ _ _
  · subst hm
    replace hmk : ∀ W : World, (Instr.makeSlice 50 (.int .i64 1) (.int .i64 1)).run Try.prog W = .ok (.slice (some ⟨W.heap.size, 0, none⟩) 1 1) (W.alloc (.cells (madeCells #[.int .i64 0, .slice none 0 0] (1 * 2)) 99)) := hmk
    go_enter Try.func36, Try.ntmps36
    go_wp2_with fail
    refine (q_impl_within _ _ _ _).mono ?_
    rintro e w1 ⟨rfl, rfl⟩
    rw [hI]
    go_wp2_with fail
    refine bodyPost_ret (v := .agg #[.int .i64 0, .slice (some ⟨w.heap.size + 1, 0, none⟩) 1 1]) ?_ rfl ⟨_, rfl, ⟨newPs 1, by rw [newPs_fst, HN.out], newPs_own ?_ ?_⟩, ?_⟩
    · simp [results, Try.results36, go_sem]
    · have hn := heap_alloc_new (w.alloc (.cells #[.int .i64 0, .slice (some ⟨w.heap.size + 1, 0, none⟩) 1 1] 52)) (.cells (madeCells #[.int .i64 0, .slice none 0 0] (1 * 2)) 99)
      rw [World.size_alloc] at hn
      exact ⟨by rw [flat_len rcell 2 rcell_len, newPs_len], .inr ⟨_, 1, _, rfl, Nat.zero_le _, hn, Nat.le_refl _, by unfold maxLen; omega, size_madeCells _ _, made_slots hm1 hm4⟩⟩
    · intro g h
      cases h
      simp
    · exact up_a2 _ _ _
set_option maxRecDepth 20000 in
set_option maxHeartbeats 1000000 in
theorem spec_NewC (n : Int) (w : World) :
    Calls Try.prog 35 #[.int .i64 n] w fun e w' => ∃ v, e = .returned (.agg #[.int .i64 0, v]) ∧ OwnR 99 32 w' w.heap.size w'.heap.size v (newSlots n) ∧ Below w.heap.size w w' := by
  obtain ⟨m, hm1, hm4, hN, hM⟩ := newSlots_of n
  obtain ⟨i0, hif, hz0, hz1, hz2⟩ := info_parts info_Slot
  have hif := Lib.hid hif
  have hz0 := Lib.hid hz0
  have hz1 := Lib.hid hz1
  have hz2 := Lib.hid hz2
  have HN := Lib.hid hN
  clear hN
  rcases hM with ⟨hI, rfl⟩ | ⟨hI, hm⟩
  all_goals
    go_enter Try.func35, Try.ntmps35
    go_wp2_with fail
    refine (q_spec_l1In _ _ _ _).mono ?_
    rintro e w1 ⟨rfl, rfl⟩
    rw [hI]
    go_wp2_with fail
    go_loopw [4] (fun i wr => ∃ (k : Nat) (v : Value), i = .int .i64 k ∧ k ≤ m ∧ OwnRp 99 32 wr (w.heap.size + 2) wr.heap.size v (newPs k) ∧ wr.heap[w.heap.size]? = some (.cells #[.int .i64 0, .slice none 0 0] 52) ∧ wr.heap[w.heap.size + 1]? = some (.cells #[.int .i64 0, v] 52) ∧ Below w.heap.size w wr) (fun i _ => 5 - (intOf i).toNat)
    case atStart =>
      have hn := heap_alloc_new (w.alloc (.cells #[.int .i64 0, .slice none 0 0] 52)) (.cells #[.int .i64 0, .slice none 0 0] 52)
      rw [World.size_alloc] at hn
      exact ⟨0, .slice none 0 0, rfl, by omega, OwnRp.nil (base := 0) ⟨rfl, .inl ⟨rfl, rfl⟩⟩ (fun g h => by cases h), (Below.heap_alloc _ _ _ (by simp)).trans (heap_alloc_new w _), hn, up_a2 _ _ _⟩
    case round =>
      obtain ⟨k, v, rfl, hk, hown, hc0, hc1, hb⟩ := hrel
      have ho := hown.own
      rw [newPs_len] at ho
      obtain ⟨A, c, rfl, -, -, -⟩ := ho.cells
      have hg1 : w.heap.size + 1 < wr.heap.size := (Array.getElem?_eq_some_iff.1 hc1).1
      have d0 := fun o => cell_of_row wr w.heap.size o _ _ _ hc0
      have d1 := fun o => cell_of_row wr (w.heap.size + 1) o _ _ _ hc1
      have f0 := fun o => frozen_of_row wr w.heap.size o _ _ hc0
      have f1 := fun o => frozen_of_row wr (w.heap.size + 1) o _ _ hc1
      have Hc0 := Lib.hid hc0
      have Hc1 := Lib.hid hc1
      have Hown := Lib.hid hown
      clear hc0 hc1 hown
      by_cases hkl : k < m
      · have hout := ho.1
        have hbs := hb.size
        clear f0 d0 f1
        go_wp2_with (at_builtin; refine wpl_app rfl _ _ 50 rfl (w.heap.size + 2) 99 i0 _ 2 32 Try.underlying50 hif.out hz0.out hz1.out hz2.out rfl (by decide) (by decide) (hout.alloc _) rfl (heap_alloc_new _ _) rfl rfl (by simp [Value.oneCell']) (by omega) (by simp; omega) ?_)
        intro v' w3 hown' hgrow hnb
        have hrow : ∀ g, (Value.slice A k c).ownBlock = some g → w.heap.size + 2 ≤ g := fun g hg => (hout.lt g hg).1
        have Hb3 := Lib.hid (Below.grown (hb.alloc hb.size _) hgrow (fun g hg => by have := hrow g hg; omega) (Nat.le_refl _))
        have Hsn := Lib.hid (Hown.out.snoc (B := wr.heap.size) (x := ⟨0, []⟩) (sv := .slice none 0 0) (v' := v') (up_a1 wr _) (by omega) own_nil (by simp) (by rw [newPs_len]; exact hown') hgrow (by simpa using hnb))
        have Hc3 := Lib.hid ((hgrow.block (w.heap.size + 1) (by simp; omega) (fun e => by have := hrow _ e.symm; omega)).trans ((Below.heap_alloc wr _ _ hg1).trans Hc1.out))
        have Hc2 := Lib.hid ((hgrow.block w.heap.size (by simp; omega) (fun e => by have := hrow _ e.symm; omega)).trans ((Below.heap_alloc wr _ _ (by omega)).trans Hc0.out))
        have e1 := fun o => cell_of_row w3 (w.heap.size + 1) o _ _ _ Hc3.out
        have f1 := fun o => frozen_of_row w3 (w.heap.size + 1) o _ _ Hc3.out
        have hs3 := hgrow.size
        simp only [World.size_alloc] at hs3
        obtain ⟨A', c', rfl, -, -, -⟩ := (Own.new hown').cells
        clear hown' hgrow hnb hout ho d1
        go_wp2_with fail
        go_roundw
        case rel =>
          refine ⟨k + 1, .slice A' (k + 1) c', by go_num, by omega, ?_, ?_, ?_, ?_⟩
          · rw [newPs_succ]
            exact Hsn.out.imp (fun g h1 _ => Below.heap_setCell w3 ⟨w.heap.size + 1, 1, none⟩ _ g (by show g ≠ w.heap.size + 1; omega)) (Nat.le_refl _) (Nat.le_of_eq (by simp [World.setCell]))
          · exact (Below.heap_setCell w3 ⟨w.heap.size + 1, 1, none⟩ _ _ (by show w.heap.size ≠ w.heap.size + 1; omega)).trans Hc2.out
          · exact set1 Hc3.out
          · exact Hb3.out.setCell (by simp) _
        case measure => simp [intOf]; omega
      · obtain rfl : k = m := by omega
        have hq : decide ((k : Int) < 1) = false := decide_eq_false (by omega)
        try clear hm
        go_wp2_with fail
        refine bodyPost_ret (v := .agg #[.int .i64 0, .slice A k c]) ?_ rfl ⟨_, rfl, ⟨newPs k, by rw [newPs_fst, HN.out], ?_⟩, ?_⟩
        · simp [results, Try.results35, go_sem, d0]
        · refine Hown.out.imp (fun g h1 _ => ?_) (by omega) (Nat.le_of_eq (by simp [World.setCell]))
          repeat (first | rfl | refine (Below.heap_setCell _ ⟨w.heap.size, _, none⟩ _ g (by show g ≠ w.heap.size; omega)).trans ?_)
        · repeat (first | exact hb | refine Below.setCell ?_ (by simp) _)
def newChunk (n : Int) : C := ⟨0, newSlots n⟩
theorem newChunk_cnt (n : Int) : cntR (newChunk n).l ≤ 4 := by
  obtain ⟨m, -, h4, h, -⟩ := newSlots_of n
  show cntR (newSlots n) ≤ 4
  rw [h]
  simp [cntR]
  exact h4
theorem spec_ChunkNew (n : Int) (w : World) :
    Calls Try.prog 35 #[.int .i64 n] w fun e w' => ∃ v, e = .returned (.agg #[.int .i64 (newChunk n).next, v]) ∧ OwnR 99 32 w' w.heap.size w'.heap.size v (newChunk n).l ∧ Below w.heap.size w w' := spec_NewC n w
theorem impl_ChunkNew (n : Int) (w : World) :
    Calls Try.prog 36 #[.int .i64 n] w fun e w' => ∃ v, e = .returned (.agg #[.int .i64 (newChunk n).next, v]) ∧ OwnR 99 32 w' w.heap.size w'.heap.size v (newChunk n).l ∧ Below w.heap.size w w' := impl_NewC n w
end Go.Proofs.Ytphbkghokhlnbaa
