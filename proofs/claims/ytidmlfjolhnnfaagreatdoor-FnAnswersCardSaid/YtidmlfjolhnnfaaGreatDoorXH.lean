/- Draws: columns and rows. -/
import Derived.Test.YtidmlfjolhnnfaaGreatDoorD13
import Derived.Test.YtidmlfjolhnnfaaGreatDoorXD
import Derived.Test.YtidmlfjolhnnfaaGreatDoorZ1
import Derived.Deep.RegionWith
namespace Go.Proofs.YtidmlfjolhnnfaaGreatDoor
open Go.Sort Go.ChangeShapes Go.WideShapes Go.ChangeAt Go.RowKit Go.Lb

end Go.Proofs.YtidmlfjolhnnfaaGreatDoor
namespace Go.Proofs.YtidmlfjolhnnfaaGreatDoor
open Go.Sort Go.ChangeShapes Go.WideShapes Go.ChangeAt Go.RowKit Go.Lb

theorem rdV_all {w : World} {lo hi n c b off : Nat} {l : List V} (h : RdV w lo hi (.slice (some ⟨b, off, none⟩) n c) l) :
    (∀ k, k < n → w.cell? ⟨b, off + k * 3, none⟩ = some (.int .i64 (l.getD k V.zero).ty)) ∧ (∀ k, k < n → w.cell? ⟨b, off + k * 3 + 1, none⟩ = some (.int .i64 (l.getD k V.zero).n)) ∧ (∀ k, k < n → w.cell? ⟨b, off + k * 3 + 2, none⟩ = some (.string (l.getD k V.zero).s)) := by
  refine ⟨fun k hk => ?_, fun k hk => ?_, fun k hk => ?_⟩
  all_goals
    obtain ⟨b', off', x, hA, -, -, hxk, e0, e1, e2⟩ := h.at hk
    injection hA with hA
    injection hA with h1 h2 h3
    subst h1 h2
    rw [List.getD_eq_getElem?_getD, hxk]
    first | exact e0 | exact e1 | exact e2
theorem all_set {w : World} {b off n b' o' d : Nat} {f : Nat → Value} {u : Value} (hne : b ≠ b') (h : ∀ k, k < n → w.cell? ⟨b, off + k * 3 + d, none⟩ = some (f k)) : ∀ k, k < n → (w.setCell ⟨b', o', none⟩ u).cell? ⟨b, off + k * 3 + d, none⟩ = some (f k) := fun k hk => cell_set_ne hne (h k hk)
theorem all_set0 {w : World} {b off n b' o' : Nat} {f : Nat → Value} {u : Value} (hne : b ≠ b') (h : ∀ k, k < n → w.cell? ⟨b, off + k * 3, none⟩ = some (f k)) : ∀ k, k < n → (w.setCell ⟨b', o', none⟩ u).cell? ⟨b, off + k * 3, none⟩ = some (f k) := fun k hk => cell_set_ne hne (h k hk)
theorem all_drew {w : World} {b off n d : Nat} {f : Nat → Value} (h : ∀ k, k < n → w.cell? ⟨b, off + k * 3 + d, none⟩ = some (f k)) : ∀ k, k < n → w.drew.cell? ⟨b, off + k * 3 + d, none⟩ = some (f k) := h
theorem all_drew0 {w : World} {b off n : Nat} {f : Nat → Value} (h : ∀ k, k < n → w.cell? ⟨b, off + k * 3, none⟩ = some (f k)) : ∀ k, k < n → w.drew.cell? ⟨b, off + k * 3, none⟩ = some (f k) := h
end Go.Proofs.YtidmlfjolhnnfaaGreatDoor
namespace Go.Proofs.YtidmlfjolhnnfaaGreatDoor
open Go.Sort Go.ChangeShapes Go.WideShapes Go.ChangeAt Go.RowKit Go.Lb

theorem info_I : (Tryz.prog.info? 3).map (fun i => (i.zero, i.size, i.bytes)) = some (some (.int .i64 0), 1, 8) := by kernel_rfl
theorem app_goodI {w w2 w3 : World} {g : Nat} {v v' : Value} {xs : List Int} {x : Int} {cs : Array Value} {t : TypeId} (hlt : g < w.heap.size) (hown : w2.ownsRow w.heap.size 3 1 v xs.length (xs.map (.int .i64))) (hch : Chg g (g + 1) w w2) (hd : Dr w2 g)
    (hown' : w3.ownsRow w.heap.size 3 1 v' (xs.length + 1) (xs.map (.int .i64) ++ [.int .i64 x])) (hgrow : (w2.alloc (.cells cs t)).grownBy w3 v.ownBlock) :
    w3.ownsRow w.heap.size 3 1 v' (xs ++ [x]).length ((xs ++ [x]).map (.int .i64)) ∧ Chg g (g + 1) w w3 ∧ Dr w3 g := by
  have hr : ∀ b, v.ownBlock = some b → w.heap.size ≤ b := fun b hb => (hown.lt b hb).1
  refine ⟨?_, chg_grown (hch.trans (chg_new g w2 cs t)) hgrow hr, (dr_new hd cs t).grown hgrow fun b hb => Nat.lt_of_lt_of_le hlt (hr b hb)⟩
  rw [List.length_append, List.map_append]
  simpa using hown'
theorem all_drew2 {w : World} {b off n : Nat} {f : Nat → Value} (h : ∀ k, k < n → w.cell? ⟨b, off + k * 2, none⟩ = some (f k)) : ∀ k, k < n → w.drew.cell? ⟨b, off + k * 2, none⟩ = some (f k) := h
theorem rdR_ids {w : World} {lo hi n c b off : Nat} {l : List R} (h : RdR w lo hi (.slice (some ⟨b, off, none⟩) n c) l) : ∀ k, k < n → w.cell? ⟨b, off + k * 2, none⟩ = some (.int .i64 (l.getD k ⟨0, []⟩).id) := by
  intro k hk
  obtain ⟨b', off', x, sv, hA, -, -, hxk, e0, -, -⟩ := h.at hk
  injection hA with hA
  injection hA with h1 h2 h3
  subst h1 h2
  rw [List.getD_eq_getElem?_getD, hxk]
  exact e0
end Go.Proofs.YtidmlfjolhnnfaaGreatDoor
