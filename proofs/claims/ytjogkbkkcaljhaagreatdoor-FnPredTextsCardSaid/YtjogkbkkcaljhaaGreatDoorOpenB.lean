/- The laws' argument opened: a list of bytes. No conditions. -/
import Derived.Test.YtjogkbkkcaljhaaGreatDoorXA
namespace Go.Proofs.YtjogkbkkcaljhaaGreatDoor
open Go.RowKit Go.ChangeShapes Go.WideShapes Go.Deep Go.Lb

set_option maxRecDepth 20000 in
theorem open_Bs {H : Type} {enc : TypeId × Value → H} {w : World} {base : Nat} {spare : Nat → Bool} {held : Bool} {v : Value} {d : DataW H} {p : List MemPlace} {r : Reach} (hv : Value.okWide Tryz.prog w r base 36 v) (h : DataW.Trod enc Tryz.prog w 0 spare held 36 v d p) : ∃ l : List UInt8, RdB w 0 w.heap.size v l := by
  have hC : Tryz.prog.cellsOf 5 = 1 := by kernel_rfl
  obtain ⟨a, len, cap, rfl⟩ := okWide_slice Tryz.underlying36 hv
  obtain ⟨fuel, hf⟩ := h
  obtain ⟨l, hl⟩ := @open_list H enc Tryz.prog w 0 spare held UInt8 36 5 1 (fun a cs => cs = [.int .u8 (a.toNat : Int)]) Tryz.underlying36 hC (by omega) (fun h => by
    obtain ⟨a, e0, -, e2⟩ := DataW.trod_int Tryz.underlying5 h
    simp only [Lit.wf, Bool.and_eq_true, decide_eq_true_eq] at e2
    have h1 : 0 ≤ a := e2.1
    have h2 : a ≤ 255 := e2.2
    refine ⟨UInt8.ofNat a.toNat, ?_⟩
    rw [e0, UInt8.toNat_ofNat_of_lt' (show a.toNat < 256 by omega), Int.toNat_of_nonneg h1]) _ _ _ hf
  refine ⟨l, hl.imp (Nat.le_refl _) (Nat.le_refl _) fun k b o _ _ ⟨a, cs, ha, hcs, hc⟩ => ⟨a, ha, ?_⟩⟩
  subst hcs
  exact hc 0 _ rfl
end Go.Proofs.YtjogkbkkcaljhaaGreatDoor
