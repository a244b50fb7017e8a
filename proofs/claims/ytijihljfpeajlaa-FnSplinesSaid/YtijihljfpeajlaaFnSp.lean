/- The law FnSplines, as its row states it: whatever the input, it answers true. No conditions. -/
import Derived.Test.YtijihljfpeajlaaZap
namespace Go.Proofs.Ytijihljfpeajlaa
open Go.ChangeShapes Go.WideShapes Go.ChangeAt Go.RowKit Go.Ab
set_option maxRecDepth 100000 in
theorem splines_lifted (os : Os) (started : os.Started) (H : Type) (enc : TypeId × Value → H) :
    ReturnsInHanded {} Try.checked os 3 .any (Rows.fnSplinesSpec.pre6 enc Try.prog Try.f3 Rows.fnSplinesRow.domain false) (Rows.fnSplinesSpec.post enc Try.prog Try.f3 false true false false) := by
  refine law_lift (C := Try.checked) (T := 4) (by kernel_rfl) started (by kernel_rfl) Try.func3
    (ChangeSpec.witness6 (enc := enc) (C := Try.checked) false ⟨#[], #[.slice none 0 0, .slice none 0 0], []⟩ 8 (by kernel_rfl) (by kernel_rfl) (by kernel_rfl) (by kernel_rfl))
    rfl (fun ds hds => ?_) rfl (by kernel_rfl) (by kernel_rfl) (by decide +kernel) (fun W base args ds ps hval hA => ?_)
  · match ds, hds with
    | [d0, d1], _ => exact ⟨rfl, rfl, rfl⟩
  ·
    obtain ⟨v0, vs0, d0, ds0, p0, q0, hargs, rfl, rfl, h0, r0⟩ := trodAll_cons hA
    obtain ⟨v1, vs1, d1, ds1, p1, q1, hvs1, rfl, rfl, h1, r1⟩ := trodAll_cons r0
    obtain ⟨hvs2, rfl, rfl⟩ := trodAll_nil r1
    subst hvs2
    subst hvs1
    obtain rfl : args = #[v0, v1] := by cases args; simp_all
    obtain ⟨x0, e0⟩ := open_slB (P := Try.prog) (t := 22) (e := 5) (by kernel_rfl) (hval 0 _ v0 rfl rfl) h0
    obtain ⟨x1, e1⟩ := open_slB (P := Try.prog) (t := 22) (e := 5) (by kernel_rfl) (hval 1 _ v1 rfl rfl) h1
    refine (law_splines x0 x1 W [v0, v1] (.cons e0 (.cons e1 .nil)) (fun _ h => by cases h) List.Pairwise.nil).mono fun e W' ⟨v, y, he, _, hv, hm, _, _⟩ => ?_
    exact ⟨by rw [he, hv.inv_raw], hm.to_ext⟩

theorem splines_closed : joinedFacts Try.prog 3 Try.f3 Rows.fnSplinesSpec Rows.fnSplinesRow = true := by
  unfold joinedFacts
  rw [k_enter]
  kernel_rfl

/-- Whatever the input, the law FnSplines answers true. -/
theorem splines_holds : Rows.FnSplinesSaid :=
  OpenClaim.holds_of_wide 3 Try.f3 rfl rfl rfl rfl rfl rfl rfl ⟨rfl, rfl, rfl, rfl, rfl⟩ rfl rfl rfl rfl rfl (by kernel_rfl) Try.func3 splines_closed
    (of_decide_eq_true (by kernel_rfl)) (by unfold Func.isWrapper; first | (rw [if_pos (by decide +kernel)]; kernel_rfl) | (rw [if_neg (by decide +kernel)]; exact ⟨rfl, rfl⟩))
    (fun os started H enc _ => splines_lifted os started H enc)
#print axioms splines_holds
end Go.Proofs.Ytijihljfpeajlaa
