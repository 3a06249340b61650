/- The order of values; what lies in a zone. No conditions; nothing here speaks of the program. -/
import Derived.Test.YticimccfeohpcaaGreatXL
namespace Go.Lb
open Go.RowKit

theorem bl_irrefl : ∀ x : List UInt8, Op.bytesLess x x = false
  | [] => rfl
  | a :: x => by simp [Op.bytesLess, bl_irrefl x]
theorem bl_trans : ∀ x y z : List UInt8, Op.bytesLess x y = true → Op.bytesLess y z = true → Op.bytesLess x z = true
  | _, y, [], _, h2 => by cases y <;> simp [Op.bytesLess] at h2
  | x, [], _ :: _, h1, _ => by cases x <;> simp [Op.bytesLess] at h1
  | [], _ :: _, _ :: _, _, _ => by simp [Op.bytesLess]
  | a :: x, b :: y, c :: z, h1, h2 => by
    simp only [Op.bytesLess, Bool.or_eq_true, Bool.and_eq_true, decide_eq_true_eq, beq_iff_eq] at *
    rcases h1 with h1 | ⟨rfl, h1⟩ <;> rcases h2 with h2 | ⟨rfl, h2⟩
    · exact .inl (UInt8.lt_trans h1 h2)
    · exact .inl h1
    · exact .inl h2
    · exact .inr ⟨rfl, bl_trans x y z h1 h2⟩
theorem bl_tri : ∀ x y : List UInt8, Op.bytesLess x y = false → Op.bytesLess y x = false → x = y
  | [], [], _, _ => rfl
  | [], _ :: _, h, _ => by simp [Op.bytesLess] at h
  | _ :: _, [], _, h => by simp [Op.bytesLess] at h
  | a :: x, b :: y, h1, h2 => by
    simp only [Op.bytesLess, Bool.or_eq_false_iff, Bool.and_eq_false_iff, decide_eq_false_iff_not, UInt8.not_lt] at *
    obtain rfl : a = b := UInt8.le_antisymm h2.1 h1.1
    have e1 : Op.bytesLess x y = false := by simpa using h1.2
    have e2 : Op.bytesLess y x = false := by simpa using h2.2
    rw [bl_tri x y e1 e2]
theorem less_irrefl (a : V) : less a a = false := by simp [less, bl_irrefl]
theorem less_trans {a b c : V} (h1 : less a b = true) (h2 : less b c = true) : less a c = true := by
  unfold less at *
  by_cases e1 : a.ty = b.ty <;> by_cases e2 : b.ty = c.ty
  · rw [if_neg (by simp [e1])] at h1
    rw [if_neg (by simp [e2])] at h2
    rw [if_neg (by simp [e1, e2])]
    by_cases f1 : a.n = b.n <;> by_cases f2 : b.n = c.n
    · rw [if_neg (by simp [f1])] at h1
      rw [if_neg (by simp [f2])] at h2
      rw [if_neg (by simp [f1, f2])]
      exact bl_trans _ _ _ h1 h2
    all_goals
      simp [f1] at h1
      simp [f2] at h2
      rw [if_pos (by omega)]
      simp
      omega
  all_goals
    simp [e1] at h1
    simp [e2] at h2
    rw [if_pos (by omega)]
    simp
    omega
theorem ba_eq_of_toList {a b : ByteArray} (h : a.toList = b.toList) : a = b := by
  have h1 := Go.Proofs.YticimccfeohpcaaGreat.V.eq_iff ⟨0, 0, a⟩ ⟨0, 0, b⟩
  simp [eqd, h] at h1
  exact h1
theorem less_tri {a b : V} (h1 : less a b = false) (h2 : less b a = false) : a = b := by
  unfold less at *
  by_cases e1 : a.ty = b.ty
  · rw [if_neg (by simp [e1])] at h1
    rw [if_neg (by simp [e1])] at h2
    by_cases f1 : a.n = b.n
    · rw [if_neg (by simp [f1])] at h1
      rw [if_neg (by simp [f1])] at h2
      have := ba_eq_of_toList (bl_tri _ _ h1 h2)
      cases a; cases b; simp_all
    · rw [if_pos f1] at h1
      rw [if_pos (Ne.symm f1)] at h2
      simp at h1 h2
      omega
  · rw [if_pos e1] at h1
    rw [if_pos (Ne.symm e1)] at h2
    simp at h1 h2
    omega
def le (a b : V) : Prop := less b a = false
theorem le_refl (a : V) : le a a := less_irrefl a
theorem le_trans {a b c : V} (h1 : le a b) (h2 : le b c) : le a c := by
  unfold le at *
  cases h : less c a
  · rfl
  · cases hab : less a b
    · rw [less_tri hab h1] at h
      rw [h] at h2; exact h2
    · rw [less_trans h hab] at h2; exact h2
theorem le_of_less {a b : V} (h : less a b = true) : le a b := by
  unfold le
  cases h2 : less b a
  · rfl
  · have := less_trans h h2
    rw [less_irrefl] at this
    exact this.symm
theorem less_of_le_of_less {a b c : V} (h1 : le a b) (h2 : less b c = true) : less a c = true := by
  cases h : less a c
  · have h3 : le c a := h
    have h4 : le c b := le_trans h3 h1
    unfold le at h4
    rw [h4] at h2; exact h2
  · rfl
theorem less_of_less_of_le {a b c : V} (h1 : less a b = true) (h2 : le b c) : less a c = true := by
  cases h : less a c
  · have h3 : le c a := h
    have h4 : le b a := le_trans h2 h3
    unfold le at h4
    rw [h4] at h1; exact h1
  · rfl
theorem zstep_le (z : Z) (v : V) : le (zstep z v).lo z.lo ∧ le z.hi (zstep z v).hi ∧ le (zstep z v).lo v ∧ le v (zstep z v).hi := by
  unfold zstep
  cases h1 : less v z.lo <;> cases h2 : less z.hi v <;> simp
  · exact ⟨le_refl _, le_refl _, h1, h2⟩
  · exact ⟨le_refl _, le_of_less h2, h1, le_refl _⟩
  · exact ⟨le_of_less h1, le_refl _, le_refl _, h2⟩
  · exact ⟨le_of_less h1, le_of_less h2, le_refl _⟩
theorem fold_le : ∀ (r : List V) (z : Z), le (r.foldl zstep z).lo z.lo ∧ le z.hi (r.foldl zstep z).hi ∧ ∀ x ∈ r, le (r.foldl zstep z).lo x ∧ le x (r.foldl zstep z).hi
  | [], z => ⟨le_refl _, le_refl _, fun _ h => by simp at h⟩
  | v :: r, z => by
    obtain ⟨h1, h2, h3⟩ := fold_le r (zstep z v)
    obtain ⟨k1, k2, k3, k4⟩ := zstep_le z v
    refine ⟨le_trans h1 k1, le_trans k2 h2, fun x hx => ?_⟩
    rcases List.mem_cons.1 hx with rfl | hx
    · exact ⟨le_trans h1 k3, le_trans k4 h2⟩
    · exact h3 x hx
theorem fold_mem : ∀ (r : List V) (z : Z), ((r.foldl zstep z).lo = z.lo ∨ (r.foldl zstep z).lo ∈ r) ∧ ((r.foldl zstep z).hi = z.hi ∨ (r.foldl zstep z).hi ∈ r)
  | [], z => ⟨.inl rfl, .inl rfl⟩
  | v :: r, z => by
    obtain ⟨h1, h2⟩ := fold_mem r (zstep z v)
    refine ⟨?_, ?_⟩
    · rcases h1 with h1 | h1
      · by_cases h : less v z.lo = true
        · exact .inr (by rw [List.foldl_cons, h1]; simp [zstep, h])
        · exact .inl (by rw [List.foldl_cons, h1]; simp [zstep, h])
      · exact .inr (List.mem_cons_of_mem _ h1)
    · rcases h2 with h2 | h2
      · by_cases h : less z.hi v = true
        · exact .inr (by rw [List.foldl_cons, h2]; simp [zstep, h])
        · exact .inl (by rw [List.foldl_cons, h2]; simp [zstep, h])
      · exact .inr (List.mem_cons_of_mem _ h2)
theorem zone_le {l : List V} {x : V} (h : x ∈ l) : le (zoneOf l).lo x ∧ le x (zoneOf l).hi := by
  cases l with
  | nil => simp at h
  | cons v r =>
    obtain ⟨h1, h2, h3⟩ := fold_le r ⟨v, v⟩
    show le (r.foldl zstep ⟨v, v⟩).lo x ∧ le x (r.foldl zstep ⟨v, v⟩).hi
    rcases List.mem_cons.1 h with rfl | h
    · exact ⟨h1, h2⟩
    · exact h3 x h
theorem zone_mem {l : List V} (h : l ≠ []) : (zoneOf l).lo ∈ l ∧ (zoneOf l).hi ∈ l := by
  cases l with
  | nil => exact absurd rfl h
  | cons v r =>
    obtain ⟨h1, h2⟩ := fold_mem r ⟨v, v⟩
    refine ⟨?_, ?_⟩
    · rcases h1 with h1 | h1
      · exact List.mem_cons.2 (.inl h1)
      · exact List.mem_cons.2 (.inr h1)
    · rcases h2 with h2 | h2
      · exact List.mem_cons.2 (.inl h2)
      · exact List.mem_cons.2 (.inr h2)
theorem zone_in {l : List V} {x : V} (h : x ∈ l) : inZone (zoneOf l) x = true := by
  obtain ⟨h1, h2⟩ := zone_le h
  unfold le at h1 h2
  simp [inZone, h1, h2]
/-- A comparison that holds for a value of a zone may hold in the zone. -/
theorem may_of_holds {z : Z} {x v : V} {op : Int} (h1 : le z.lo x) (h2 : le x z.hi) (h : holds1 op x v = true) : mayHold1 op z v = true := by
  unfold holds1 at h
  unfold mayHold1
  by_cases o1 : op = 1
  · rw [if_pos o1] at h ⊢
    exact less_of_le_of_less h1 h
  rw [if_neg o1] at h ⊢
  by_cases o2 : op = 2
  · rw [if_pos o2] at h ⊢
    have h3 : le x v := by simpa [le] using h
    have h4 := le_trans h1 h3
    simpa [le] using h4
  rw [if_neg o2] at h ⊢
  by_cases o3 : op = 3
  · rw [if_pos o3] at h ⊢
    obtain rfl : x = v := by simpa using h
    unfold le at h1 h2
    simp [inZone, h1, h2]
  rw [if_neg o3] at h ⊢
  by_cases o4 : op = 4
  · rw [if_pos o4] at h ⊢
    have hne : x ≠ v := by simpa using h
    simp only [Bool.or_eq_true, Bool.not_eq_true', decide_eq_false_iff_not]
    by_cases e1 : z.lo = v
    · right
      intro e2
      rw [e1] at h1
      rw [e2] at h2
      exact hne (less_tri h1 h2)
    · exact .inl e1
  rw [if_neg o4] at h ⊢
  by_cases o5 : op = 5
  · rw [if_pos o5] at h ⊢
    have h3 : le v x := by simpa [le] using h
    have h4 := le_trans h3 h2
    simpa [le] using h4
  rw [if_neg o5] at h ⊢
  by_cases o6 : op = 6
  · rw [if_pos o6] at h ⊢
    exact less_of_less_of_le h h2
  · rw [if_neg o6] at h
    exact absurd h (by simp)
end Go.Lb
