/- The law of SpiralPoints, as its row states it: whatever the input, true. No conditions. -/
import Derived.Test.YtnajffjobgeenaaSiD
import Derived.Test.YtnajffjobgeenaaLift
import Derived.Test.YtnajffjobgeenaaFacts
import Derived.Test.YtnajffjobgeenaaFactsM
import Derived.Test.YtnajffjobgeenaaFactsL
namespace Go.Proofs.Ytnajffjobgeenaa
open Go.ChangeShapes Go.WideShapes Go.ChangeAt Go.RowKit Go.Ab

set_option maxRecDepth 100000 in
theorem spiralPoints_lifted (os : Os) (started : os.Started) (H : Type) (enc : TypeId × Value → H) :
    ReturnsInHanded {} Try.checked os 11 .any (Rows.fnExactSpiralPointsSpec.pre6 enc Try.prog Try.f11 Rows.fnExactSpiralPointsRow.domain false) (Rows.fnExactSpiralPointsSpec.post enc Try.prog Try.f11 false true false false) := by
  refine law_lift (C := Try.checked) (T := 4) (by kernel_rfl) started (by kernel_rfl) Try.func11
    (ChangeSpec.witness6 (enc := enc) (C := Try.checked) false ⟨#[], #[.float .f32 0, .float .f32 0, .float .f32 0, .int .i64 0], []⟩ 8 (by kernel_rfl) (by kernel_rfl) (by kernel_rfl) (by kernel_rfl))
    rfl (fun ds hds => ?_) rfl (by kernel_rfl) (by kernel_rfl) (by decide +kernel) (fun W base args ds ps hval hA => ?_)
  · match ds, hds with
    | [d0, d1, d2, d3], _ => exact ⟨rfl, rfl, rfl⟩
  ·
    obtain ⟨v0, vs0, d0, ds0, p0, q0, hargs, rfl, rfl, h0, r0⟩ := trodAll_cons hA
    obtain ⟨v1, vs1, d1, ds1, p1, q1, hvs1, rfl, rfl, h1, r1⟩ := trodAll_cons r0
    obtain ⟨v2, vs2, d2, ds2, p2, q2, hvs2, rfl, rfl, h2, r2⟩ := trodAll_cons r1
    obtain ⟨v3, vs3, d3, ds3, p3, q3, hvs3, rfl, rfl, h3, r3⟩ := trodAll_cons r2
    obtain ⟨hvs4, rfl, rfl⟩ := trodAll_nil r3
    subst hvs4
    subst hvs3
    subst hvs2
    subst hvs1
    obtain rfl : args = #[v0, v1, v2, v3] := by cases args; simp_all
    obtain ⟨x0, e0⟩ := open_f (P := Try.prog) (t := 26) (k := .f32) (hval 0 _ v0 rfl rfl) h0
    obtain ⟨x1, e1⟩ := open_f (P := Try.prog) (t := 26) (k := .f32) (hval 1 _ v1 rfl rfl) h1
    obtain ⟨x2, e2⟩ := open_f (P := Try.prog) (t := 26) (k := .f32) (hval 2 _ v2 rfl rfl) h2
    obtain ⟨x3, e3, lo3, hi3⟩ := open_i (P := Try.prog) (t := 2) (k := .i64) (hval 3 _ v3 rfl rfl) h3
    refine (law_spiralPoints x0 x1 x2 x3 W [v0, v1, v2, v3] (.cons e0 (.cons e1 (.cons e2 (.cons e3 .nil)))) (fun _ h => by cases h) List.Pairwise.nil).mono fun e W' ⟨v, y, he, _, hv, hm, _, _⟩ => ?_
    exact ⟨by rw [he, hv.inv_raw], hm.to_ext⟩

theorem spiralPoints_closed : joinedFacts Try.prog 11 Try.f11 Rows.fnExactSpiralPointsSpec Rows.fnExactSpiralPointsRow = true := by
  unfold joinedFacts
  rw [k_enter, k_make, k_lifts]
  kernel_rfl

/-- Whatever the input: the program and the reference give the same answer of SpiralPoints. -/
theorem spiralPoints_holds : Rows.FnExactSpiralPointsSaid :=
  OpenClaim.holds_of_wide 11 Try.f11 rfl rfl rfl rfl rfl rfl rfl ⟨rfl, rfl, rfl, rfl, rfl⟩ rfl rfl rfl rfl rfl (by kernel_rfl) Try.func11 spiralPoints_closed
    (of_decide_eq_true (by kernel_rfl)) (by unfold Func.isWrapper; first | (rw [if_pos (by decide +kernel)]; kernel_rfl) | (rw [if_neg (by decide +kernel)]; exact ⟨rfl, rfl⟩))
    (fun os started H enc _ => spiralPoints_lifted os started H enc)
#print axioms spiralPoints_holds
end Go.Proofs.Ytnajffjobgeenaa
