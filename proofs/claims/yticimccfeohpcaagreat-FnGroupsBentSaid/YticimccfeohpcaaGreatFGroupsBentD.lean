/- The law FnGroupsBent returns true for every input and changes nothing. No conditions. -/
import Derived.Test.YticimccfeohpcaaGreatWGroupsBentD
import Derived.Test.YticimccfeohpcaaGreatOpenB
namespace Go.Proofs.YticimccfeohpcaaGreat.fnGroupsBent
open Go.ChangeShapes Go.WideShapes Go.ChangeAt Go.RowKit Go.Lb
open Go.ChangeMaps (open_string shut_string)

theorem own : ownKnob Tryz.prog.godebug = none := by kernel_rfl
theorem laidOut : laidOutB Tryz.prog = true := by kernel_rfl

set_option maxRecDepth 100000 in
set_option maxHeartbeats 1000000 in
theorem lifted (os : Os) (started : os.Started) (H : Type) (enc : TypeId × Value → H) :
    ReturnsInHanded {} Tryz.checked os 10 .any (Rows.fnGroupsBentSpec.pre6 enc Tryz.prog Tryz.f10 Rows.fnGroupsBentRow.domain false) (Rows.fnGroupsBentSpec.post enc Tryz.prog Tryz.f10 false true false false) := by
  refine returnsInHanded_of_change (C := Tryz.checked) own started (by kernel_rfl) Tryz.func10
    (ChangeSpec.witness6 (enc := enc) (C := Tryz.checked) false ⟨#[], #[.slice none 0 0], []⟩ 8 (by kernel_rfl) (by kernel_rfl) (by kernel_rfl) (by kernel_rfl)) ?_
  intro W base args ds gs before hval0 hW hcnd _
  have hval : ∀ (j : Nat) t v, Tryz.f10.params[j]? = some t → args[j]? = some v → Value.okWide Tryz.prog W .any base t v := hval0
  have hW' := hW
  obtain ⟨p, q, hA0, hV, rfl, hfz, hnd⟩ := hW
  have hA : DataW.TrodAll enc Tryz.prog W 0 (fun _ => true) true Tryz.f10.params.toList args.toList ds p := hA0
  have hK := hA
  rw [Tryz.params10] at hA hK hval
  obtain ⟨v0, vs0, d0, ds0, p0, q0, hargs, rfl, rfl, h0, r0⟩ := trodAll_cons hA
  obtain ⟨rfl, rfl, rfl⟩ := trodAll_nil r0
  obtain rfl : args = #[v0] := by cases args; simp_all
  obtain ⟨rfl, rfl⟩ := trodVars_none hV
  obtain ⟨x0, H0⟩ := open_Bs (hval 0 34 v0 rfl rfl) h0
  clear hval0 hargs
  simp only [List.append_nil] at hW' hA0
  refine (wGroupsBent x0 v0 W H0).mono fun e W' ⟨he, hb⟩ => ?_
  subst he
  refine ⟨_, rfl, post_of_below (pv := []) hW' (fun _ _ _ => trodAll_cons_mk (shut_bool Tryz.underlying4 _) trodAll_mk0) (fun sp hsp => ?_) (fun _ _ => rfl) (by rw [List.append_nil]) hb (ok_one (by kernel_rfl) rfl (okWide_bool_mk Tryz.underlying4 _))⟩
  have hS := trodAll_stays (enc := enc) (sp := sp) laidOut _ _ _ _ (show ((Tryz.f10.params.toList).all fun t => Tryz.prog.readableRec t && decide (t < Tryz.prog.types.size)) = true by kernel_rfl) hA0 (fun x hx => same_of_below hW' hb x (by simpa using hx)) (fun x hx => hsp x (by simpa using hx))
  exact hS

theorem over : Rows.fnGroupsBentRow.holds Tryz.pinned (OpenSpec.ofChange Rows.fnGroupsBentSpec) :=
  OpenClaim.holds_of_wide 10 Tryz.f10 rfl rfl rfl rfl rfl rfl rfl ⟨rfl, rfl, rfl, rfl, rfl⟩ rfl rfl rfl rfl rfl (by kernel_rfl) Tryz.func10 (by kernel_rfl)
    (of_decide_eq_true (by kernel_rfl)) (by unfold Func.isWrapper; first | (rw [if_pos (by decide +kernel)]; kernel_rfl) | (rw [if_neg (by decide +kernel)]; exact ⟨rfl, rfl⟩))
    (fun os started H enc _ => lifted os started H enc)

/-- The given statement. -/
theorem proved : Rows.FnGroupsBentSaid :=
  over
#print axioms proved
end Go.Proofs.YticimccfeohpcaaGreat.fnGroupsBent
