/- The arguments of the laws, opened: what can be read as data reads as a value, a row, a list of them. No conditions beyond the reading itself. -/
import Derived.Test.YtnldneogjdljkaaMem
import Derived.Deep.Slices
import Derived.Carry
import Derived.ChangeSame
namespace Go.Lb
open Go.RowKit Go.ChangeShapes Go.WideShapes Go.Deep

theorem len1 {α : Type} : ∀ {l : List α}, l.length = 1 → ∃ a0, l = [a0]
  | [a0], _ => ⟨a0, rfl⟩
theorem len2 {α : Type} : ∀ {l : List α}, l.length = 2 → ∃ a0 a1, l = [a0, a1]
  | [a0, a1], _ => ⟨a0, a1, rfl⟩
theorem len3 {α : Type} : ∀ {l : List α}, l.length = 3 → ∃ a0 a1 a2, l = [a0, a1, a2]
  | [a0, a1, a2], _ => ⟨a0, a1, a2, rfl⟩
theorem len4 {α : Type} : ∀ {l : List α}, l.length = 4 → ∃ a0 a1 a2 a3, l = [a0, a1, a2, a3]
  | [a0, a1, a2, a3], _ => ⟨a0, a1, a2, a3, rfl⟩
theorem len5 {α : Type} : ∀ {l : List α}, l.length = 5 → ∃ a0 a1 a2 a3 a4, l = [a0, a1, a2, a3, a4]
  | [a0, a1, a2, a3, a4], _ => ⟨a0, a1, a2, a3, a4, rfl⟩
theorem len6 {α : Type} : ∀ {l : List α}, l.length = 6 → ∃ a0 a1 a2 a3 a4 a5, l = [a0, a1, a2, a3, a4, a5]
  | [a0, a1, a2, a3, a4, a5], _ => ⟨a0, a1, a2, a3, a4, a5, rfl⟩
theorem len7 {α : Type} : ∀ {l : List α}, l.length = 7 → ∃ a0 a1 a2 a3 a4 a5 a6, l = [a0, a1, a2, a3, a4, a5, a6]
  | [a0, a1, a2, a3, a4, a5, a6], _ => ⟨a0, a1, a2, a3, a4, a5, a6, rfl⟩
theorem len8 {α : Type} : ∀ {l : List α}, l.length = 8 → ∃ a0 a1 a2 a3 a4 a5 a6 a7, l = [a0, a1, a2, a3, a4, a5, a6, a7]
  | [a0, a1, a2, a3, a4, a5, a6, a7], _ => ⟨a0, a1, a2, a3, a4, a5, a6, a7, rfl⟩
theorem len9 {α : Type} : ∀ {l : List α}, l.length = 9 → ∃ a0 a1 a2 a3 a4 a5 a6 a7 a8, l = [a0, a1, a2, a3, a4, a5, a6, a7, a8]
  | [a0, a1, a2, a3, a4, a5, a6, a7, a8], _ => ⟨a0, a1, a2, a3, a4, a5, a6, a7, a8, rfl⟩
theorem len10 {α : Type} : ∀ {l : List α}, l.length = 10 → ∃ a0 a1 a2 a3 a4 a5 a6 a7 a8 a9, l = [a0, a1, a2, a3, a4, a5, a6, a7, a8, a9]
  | [a0, a1, a2, a3, a4, a5, a6, a7, a8, a9], _ => ⟨a0, a1, a2, a3, a4, a5, a6, a7, a8, a9, rfl⟩

theorem list_of_all {α : Type} {p : Nat → α → Prop} : ∀ n : Nat, (∀ i, i < n → ∃ a, p i a) → ∃ l : List α, l.length = n ∧ ∀ i a, l[i]? = some a → p i a
  | 0, _ => ⟨[], rfl, fun i a h => by simp at h⟩
  | n + 1, h => by
    obtain ⟨l, hl, hp⟩ := list_of_all n fun i hi => h i (by omega)
    obtain ⟨a, ha⟩ := h n (by omega)
    refine ⟨l ++ [a], by simp [hl], fun i b hb => ?_⟩
    rcases Nat.lt_or_ge i l.length with hi | hi
    · rw [List.getElem?_append_left hi] at hb
      exact hp i b hb
    · rw [List.getElem?_append_right hi] at hb
      have : i = n := by
        rcases Nat.lt_or_ge (i - l.length) 1 with h1 | h1
        · omega
        · rw [List.getElem?_eq_none (by simpa using h1)] at hb; cases hb
      subst this
      rw [hl, Nat.sub_self] at hb
      simp at hb
      exact hb ▸ ha

section
variable {H : Type} {enc : TypeId × Value → H} {P : Program} {w : World} {base : Nat} {spare : Nat → Bool} {held : Bool}

/-- A slice that can be read, whatever its elements: a list, each of whose elements is as El says of its cells. -/
theorem open_list {α : Type} {t e : TypeId} {s : Nat} (El : α → List Value → Prop) (ht : P.underlying t = some (.slice e)) (hC : P.cellsOf e = s) (hs : 0 < s)
    (hel : ∀ {n : Nat} {cs : List Value} {x : DataW H × List MemPlace}, DataW.trod enc P w base spare held n e cs = some x → ∃ a, El a cs)
    {n : Nat} {v : Value} {x : DataW H × List MemPlace} (h : DataW.trod enc P w base spare held n t [v] = some x) :
    ∃ l : List α, RdG base w.heap.size s v l.length fun k b o => ∃ a cs, l[k]? = some a ∧ El a cs ∧ ∀ j u, cs[j]? = some u → w.cell? ⟨b, o + j, none⟩ = some u := by
  rcases open_slice ht h with ⟨hcs, -⟩ | ⟨a, len, cap, m, fu, D, Pl, hcs, hb, hl, hm, hmm, -, hi⟩
  · refine ⟨[], none, 0, by simpa using hcs, Nat.le_refl _, Nat.zero_le _, fun k hk => absurd hk (by simp)⟩
  · have hmlen : len ≤ m := by rw [hmm]; split <;> omega
    rw [hC] at hi
    obtain ⟨l, hll, hlp⟩ := list_of_all (p := fun i (a' : α) => ∃ cs, El a' cs ∧ cs.length = s ∧ ∀ j, j < s → w.cell? ((a.add (i * s)).add j) = cs[j]?) len fun i hil => by
      obtain ⟨cs', hc, ht'⟩ := hi i (by omega)
      obtain ⟨a', hE⟩ := hel ht'
      obtain ⟨_, hcl, hat⟩ := World.cells?_some hc
      exact ⟨a', cs', hE, hcl, hat⟩
    refine ⟨l, some a, cap, by rw [hll]; simpa using hcs, by omega, hm, fun k hk => ?_⟩
    obtain ⟨cs, hE, hcl, hat⟩ := hlp k l[k] (List.getElem?_eq_getElem hk)
    have h0 := hat 0 hs
    rw [List.getElem?_eq_getElem (by omega : 0 < cs.length)] at h0
    have hsp : a.spot = none := by
      have h00 := hat 0 hs
      obtain ⟨cs0, _, hc0l, hat0⟩ := hlp 0 l[0] (List.getElem?_eq_getElem (by omega))
      have h01 := hat0 0 hs
      rw [List.getElem?_eq_getElem (by omega : 0 < cs0.length)] at h01
      simp only [Nat.zero_mul] at h01
      unfold Addr.add at h01
      simp only [if_true] at h01
      unfold World.cell? at h01
      split at h01
      · split at h01
        · cases h01
        · rename_i hn
          simpa using hn
      · cases h01
    obtain ⟨b, off, spot⟩ := a
    simp only at hsp
    subst hsp
    have hlt : b < w.heap.size := by
      have := World.block_lt_of_cell? w _ h0
      rwa [add_plain, add_plain] at this
    refine ⟨b, off, rfl, hb, hlt, l[k], cs, List.getElem?_eq_getElem hk, hE, fun j u hu => ?_⟩
    have hj : j < s := by
      rcases Nat.lt_or_ge j cs.length with hj | hj
      · omega
      · rw [List.getElem?_eq_none hj] at hu; cases hu
    have := hat j hj
    rw [add_plain, add_plain] at this
    rw [this, hu]
end

def ElV (a : V) (cs : List Value) : Prop := cs = V.cells a ∧ a.s.size ≤ maxLen
theorem rdG_V {w : World} {lo hi : Nat} {v : Value} {l : List V} (h : RdG lo hi 3 v l.length fun k b o => ∃ a cs, l[k]? = some a ∧ ElV a cs ∧ ∀ j u, cs[j]? = some u → w.cell? ⟨b, o + j, none⟩ = some u) : RdV w lo hi v l ∧ ∀ x ∈ l, x.s.size ≤ maxLen := by
  refine ⟨h.imp (Nat.le_refl _) (Nat.le_refl _) fun _ _ _ _ _ ⟨a, _, ha, hc, hu⟩ => ⟨a, ha, hu 0 _ (by rw [hc.1]; rfl), hu 1 _ (by rw [hc.1]; rfl), hu 2 _ (by rw [hc.1]; rfl)⟩, fun x hx => ?_⟩
  obtain ⟨k, hk, rfl⟩ := List.mem_iff_getElem.1 hx
  obtain ⟨_, _, _, _, _, hh⟩ := h
  obtain ⟨_, _, _, _, _, a, _, ha, hc, _⟩ := hh k hk
  rw [List.getElem?_eq_getElem hk] at ha
  injection ha with ha
  rw [ha]
  exact hc.2

end Go.Lb
