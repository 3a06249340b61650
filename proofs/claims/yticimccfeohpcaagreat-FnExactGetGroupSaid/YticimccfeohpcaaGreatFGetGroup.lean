/- The program's GetGroup returns what the reference's GetGroup returns, for every argument; the law FnExactGetGroup returns true and changes nothing. No conditions. -/
import Derived.Test.YticimccfeohpcaaGreatWGetGroup
import Derived.Test.YticimccfeohpcaaGreatOpenR
import Derived.Test.YticimccfeohpcaaGreatOpenB
namespace Go.Proofs.YticimccfeohpcaaGreat.fnExactGetGroup
open Go.ChangeShapes Go.WideShapes Go.ChangeAt Go.RowKit Go.Lb
open Go.ChangeMaps (open_string shut_string)

theorem own : ownKnob Tryz.prog.godebug = none := by kernel_rfl
theorem laidOut : laidOutB Tryz.prog = true := by kernel_rfl

set_option maxRecDepth 100000 in
set_option maxHeartbeats 1000000 in
theorem lifted (os : Os) (started : os.Started) (H : Type) (enc : TypeId × Value → H) :
    ReturnsInHanded {} Tryz.checked os 5 .any (Rows.fnExactGetGroupSpec.pre6 enc Tryz.prog Tryz.f5 Rows.fnExactGetGroupRow.domain false) (Rows.fnExactGetGroupSpec.post enc Tryz.prog Tryz.f5 false true false false) := by
  refine returnsInHanded_of_change (C := Tryz.checked) own started (by kernel_rfl) Tryz.func5
    (ChangeSpec.witness6 (enc := enc) (C := Tryz.checked) false ⟨#[], #[.slice none 0 0, .slice none 0 0], []⟩ 8 (by kernel_rfl) (by kernel_rfl) (by kernel_rfl) (by kernel_rfl)) ?_
  intro W base args ds gs before hval0 hW hcnd _
  have hval : ∀ (j : Nat) t v, Tryz.f5.params[j]? = some t → args[j]? = some v → Value.okWide Tryz.prog W .any base t v := hval0
  have hW' := hW
  obtain ⟨p, q, hA0, hV, rfl, hfz, hnd⟩ := hW
  have hA : DataW.TrodAll enc Tryz.prog W 0 (fun _ => true) true Tryz.f5.params.toList args.toList ds p := hA0
  have hK := hA
  rw [Tryz.params5] at hA hK hval
  obtain ⟨v0, vs0, d0, ds0, p0, q0, hargs, rfl, rfl, h0, r0⟩ := trodAll_cons hA
  obtain ⟨v1, vs1, d1, ds1, p1, q1, rfl, rfl, rfl, h1, r1⟩ := trodAll_cons r0
  obtain ⟨rfl, rfl, rfl⟩ := trodAll_nil r1
  obtain rfl : args = #[v0, v1] := by cases args; simp_all
  obtain ⟨rfl, rfl⟩ := trodVars_none hV
  obtain ⟨x0, H0⟩ := open_Is (hval 0 22 v0 rfl rfl) h0
  obtain ⟨x1, H1⟩ := open_Bs (hval 1 34 v1 rfl rfl) h1
  clear hval0 hargs
  simp only [List.append_nil] at hW' hA0
  refine (wGetGroup x0 v0 x1 v1 W H0 H1).mono fun e W' ⟨he, hb⟩ => ?_
  subst he
  refine ⟨_, rfl, post_of_below (pv := []) hW' (fun _ _ _ => trodAll_cons_mk (shut_bool Tryz.underlying4 _) trodAll_mk0) (fun sp hsp => ?_) (fun _ _ => rfl) (by rw [List.append_nil]) hb (ok_one (by kernel_rfl) rfl (okWide_bool_mk Tryz.underlying4 _))⟩
  have hS := trodAll_stays (enc := enc) (sp := sp) laidOut _ _ _ _ (show ((Tryz.f5.params.toList).all fun t => Tryz.prog.readableRec t && decide (t < Tryz.prog.types.size)) = true by kernel_rfl) hA0 (fun x hx => same_of_below hW' hb x (by simpa using hx)) (fun x hx => hsp x (by simpa using hx))
  exact hS

theorem over : Rows.fnExactGetGroupRow.holds Tryz.pinned (OpenSpec.ofChange Rows.fnExactGetGroupSpec) :=
  OpenClaim.holds_of_wide 5 Tryz.f5 rfl rfl rfl rfl rfl rfl rfl ⟨rfl, rfl, rfl, rfl, rfl⟩ rfl rfl rfl rfl rfl (by kernel_rfl) Tryz.func5 (by kernel_rfl)
    (of_decide_eq_true (by kernel_rfl)) (by unfold Func.isWrapper; first | (rw [if_pos (by decide +kernel)]; kernel_rfl) | (rw [if_neg (by decide +kernel)]; exact ⟨rfl, rfl⟩))
    (fun os started H enc _ => lifted os started H enc)

/-- The given statement. -/
theorem proved : Rows.FnExactGetGroupSaid :=
  over
#print axioms proved
end Go.Proofs.YticimccfeohpcaaGreat.fnExactGetGroup
