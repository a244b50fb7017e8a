/- The law of EulerOf, as its row states it: whatever the input, true. No conditions. -/
import Derived.Test.YtnajffjobgeenaaEuF
import Derived.Test.YtnajffjobgeenaaLift
import Derived.Test.YtnajffjobgeenaaFacts
import Derived.Test.YtnajffjobgeenaaFactsM
import Derived.Test.YtnajffjobgeenaaFactsL
import Derived.Test.YtnajffjobgeenaaNetL
namespace Go.Proofs.Ytnajffjobgeenaa
open Go.ChangeShapes Go.WideShapes Go.ChangeAt Go.RowKit Go.Ab

set_option maxRecDepth 100000 in
theorem eulerOf_lifted (os : Os) (started : os.Started) (H : Type) (enc : TypeId × Value → H) :
    ReturnsInHanded {} Try.checked os 15 .any (Rows.fnExactEulerOfSpec.pre6 enc Try.prog Try.f15 Rows.fnExactEulerOfRow.domain false) (Rows.fnExactEulerOfSpec.post enc Try.prog Try.f15 false true false false) := by
  refine law_lift (C := Try.checked) (T := 4) (by kernel_rfl) started (by kernel_rfl) Try.func15
    (ChangeSpec.witness6 (enc := enc) (C := Try.checked) false ⟨#[], #[.agg #[.slice none 0 0, .slice none 0 0]], []⟩ 8 (by kernel_rfl) (by kernel_rfl) (by kernel_rfl) (by kernel_rfl))
    rfl (fun ds hds => ?_) rfl (by kernel_rfl) (by kernel_rfl) (by decide +kernel) (fun W base args ds ps hval hA => ?_)
  · match ds, hds with
    | [d0], _ => exact ⟨rfl, rfl, rfl⟩
  ·
    obtain ⟨v0, vs0, d0, ds0, p0, q0, hargs, rfl, rfl, h0, r0⟩ := trodAll_cons hA
    obtain ⟨hvs1, rfl, rfl⟩ := trodAll_nil r0
    subst hvs1
    obtain rfl : args = #[v0] := by cases args; simp_all
    obtain ⟨n0, s0, F0, e0, o0, ln0, lf0, lL0⟩ := open_net (hval 0 _ v0 rfl rfl) h0
    refine (law_eulerOf n0 s0 F0 o0 ln0 lf0 lL0 W [v0] (.cons e0 .nil) (fun _ h => by cases h) List.Pairwise.nil).mono fun e W' ⟨v, y, he, _, hv, hm, _, _⟩ => ?_
    exact ⟨by rw [he, hv.inv_raw], hm.to_ext⟩

theorem eulerOf_closed : joinedFacts Try.prog 15 Try.f15 Rows.fnExactEulerOfSpec Rows.fnExactEulerOfRow = true := by
  unfold joinedFacts
  rw [k_enter, k_make, k_lifts]
  kernel_rfl

/-- Whatever the input: the program and the reference give the same answer of EulerOf. -/
theorem eulerOf_holds : Rows.FnExactEulerOfSaid :=
  OpenClaim.holds_of_wide 15 Try.f15 rfl rfl rfl rfl rfl rfl rfl ⟨rfl, rfl, rfl, rfl, rfl⟩ rfl rfl rfl rfl rfl (by kernel_rfl) Try.func15 eulerOf_closed
    (of_decide_eq_true (by kernel_rfl)) (by unfold Func.isWrapper; first | (rw [if_pos (by decide +kernel)]; kernel_rfl) | (rw [if_neg (by decide +kernel)]; exact ⟨rfl, rfl⟩))
    (fun os started H enc _ => eulerOf_lifted os started H enc)
#print axioms eulerOf_holds
end Go.Proofs.Ytnajffjobgeenaa
