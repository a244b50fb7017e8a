/- Points of curves by cutting, the reference's, walked. No conditions. -/
import Derived.Test.YtcbobcpbfdehhaaZai
namespace Go.Ab
open Go.Proofs
variable {R : World → Prop} [RStab R]
attribute [local irreducible] WS RS Done OpJ Then InBlock Round Ret Env.sub FnH
attribute [local irreducible] tab tabC
theorem l02Times_fn (p : CV) (h : FV) : Fn Try.prog 80 (fun _ => [cA p, .f .f32 h]) (cA (scaleC p h)) := by
  refine fn_intro Try.func80 rfl Try.ntmps80 (fun _ => Nat.le_of_ble_eq_true rfl) fun w0 => ?_
  unfold cA
  repeat first | refine zaa rfl (zay rfl) ?_ | refine zaa rfl (zaz rfl) ?_ | (refine zac ?_; refine zaa rfl (zba rfl rfl rfl) ?_) | (refine zad ?_; first | refine zaa rfl (zbp rfl) ?_ | refine zaa rfl (zbq rfl) ?_ | refine zaa rfl (zbr rfl rfl) ?_) | refine zah ?_ | (refine zcr ?_; refine zcs ?_) | (refine zdb ?_; first | refine zdc ?_ | refine zdd ?_ | refine zdg ?_)
  exact done_ret1 rfl () rfl trivial (List.nil_sublist _)
theorem l02Blend_fn (a b : CV) (u v t : FV) : Fn Try.prog 75 (fun _ => [cA a, cA b, .f .f32 u, .f .f32 v, .f .f32 t]) (.tup [cA (blC a b u v t), .f .f32 (blW u v t)]) := by
  have h1 := l02Times_fn a (fbin .mul .f32 u (fbin .sub .f32 one1 t))
  have h2 := l02Times_fn b (fbin .mul .f32 v t)
  have h3 := l02Times_fn (addC2 (scaleC a (fbin .mul .f32 u (fbin .sub .f32 one1 t))) (scaleC b (fbin .mul .f32 v t))) (fbin .quo .f32 one1 (blW u v t))
  refine fn_intro Try.func75 rfl Try.ntmps75 (fun _ => Nat.le_of_ble_eq_true rfl) fun w0 => ?_
  repeat first | refine zaa rfl (zay rfl) ?_ | refine zaa rfl (zaz rfl) ?_ | (refine zac ?_; first | refine zaa rfl (zba rfl rfl rfl) ?_ | refine zaa rfl (opj_cadd rfl rfl) ?_) | (refine zad ?_; first | (refine zaa rfl (zci rfl rfl (h1) ?_) ?_; (focus ((repeat (first | exact Takes.nil | refine Takes.sl ?_ | refine Takes.lit ?_ | refine Takes.fa ?_ | refine Takes.fc ?_ | refine Takes.net ?_ | (refine Takes.ownE ?_ ?_ ?_ ?_ ?_; (focus (exact ⟨_, _, (by (repeat (first | exact mh | refine mt ?_)); done)⟩)); (focus (simp; done)); (focus omega); (focus (simp only [maxLen]; omega))) | refine Takes.same ?_)); done))) | (refine zaa rfl (zci rfl rfl (h2) ?_) ?_; (focus ((repeat (first | exact Takes.nil | refine Takes.sl ?_ | refine Takes.lit ?_ | refine Takes.fa ?_ | refine Takes.fc ?_ | refine Takes.net ?_ | (refine Takes.ownE ?_ ?_ ?_ ?_ ?_; (focus (exact ⟨_, _, (by (repeat (first | exact mh | refine mt ?_)); done)⟩)); (focus (simp; done)); (focus omega); (focus (simp only [maxLen]; omega))) | refine Takes.same ?_)); done))) | (refine zaa rfl (zci rfl rfl (h3) ?_) ?_; (focus ((repeat (first | exact Takes.nil | refine Takes.sl ?_ | refine Takes.lit ?_ | refine Takes.fa ?_ | refine Takes.fc ?_ | refine Takes.net ?_ | (refine Takes.ownE ?_ ?_ ?_ ?_ ?_; (focus (exact ⟨_, _, (by (repeat (first | exact mh | refine mt ?_)); done)⟩)); (focus (simp; done)); (focus omega); (focus (simp only [maxLen]; omega))) | refine Takes.same ?_)); done)))) | refine zah ?_ | (refine zcr ?_; refine zcs ?_) | (refine zdb ?_; first | refine zdc ?_ | refine zdd ?_ | refine zdg ?_)
  exact done_ret2 rfl () rfl rfl rfl trivial (List.nil_sublist _)
/-- Where a row stands: how many points it has, and its lists. -/
def rowWd (T Tc : TypeId) (w0 : World) (g4 g5 : Nat) (P' : Nat → CV) (f' : Int → FV) (y : Nat × (Nat × Nat) × Nat × Nat) : World → Prop := match y.1 with
  | 0 => St w0 [] [⟨g5, Tc, [.raw (.slice none 0 0), .raw (.slice none 0 0)], 2⟩, ⟨g4, Tc, [.raw (.slice none 0 0), .raw (.slice none 0 0)], 2⟩]
  | i + 1 => St w0 [] [⟨g5, Tc, [.raw (.slice (some ⟨y.2.1.1, 0, none⟩) (i + 1) y.2.2.1), .raw (.slice (some ⟨y.2.1.2, 0, none⟩) (i + 1) y.2.2.2)], 2⟩, ⟨g4, Tc, [.raw (.slice none 0 0), .raw (.slice none 0 0)], 2⟩, entC y.2.1.1 (i + 1) P' y.2.2.1, entF y.2.1.2 T (i + 1) f' y.2.2.2]
theorem l02Row_fn {n : Nat} {P : Nat → CV} {f : Int → FV} {t : FV} (hn : 2 ≤ n ∧ n ≤ 1000) :
    FnH (X := (Nat × Nat) × Nat × Nat) Try.prog 61 (fun w => [crvQ w n P f, .f .f32 t]) []
      (fun y => crvOc y.1.1 y.1.2 (n - 1) y.2.1 y.2.2) (fun y => [entC y.1.1 (n - 1) (rowP P f t) y.2.1, entF y.1.2 31 (n - 1) (rowW f t) y.2.2]) (fun y => (n - 1 ≤ y.2.1 ∧ y.2.1 ≤ maxLen) ∧ n - 1 ≤ y.2.2 ∧ y.2.2 ≤ maxLen) := by
  have hB : ∀ i : Nat, Fn Try.prog 75 (fun _ => [cA (P i), cA (P (i + 1)), .f .f32 (f i), .f .f32 (f ((i : Int) + 1)), .f .f32 t]) (.tup [cA (rowP P f t i), .f .f32 (rowW f t i)]) := fun i => l02Blend_fn _ _ _ _ _
  obtain ⟨P', hP'⟩ : ∃ P', P' = rowP P f t := ⟨_, rfl⟩
  obtain ⟨f', hf'⟩ : ∃ f', f' = rowW f t := ⟨_, rfl⟩
  rw [← hP', ← hf'] at hB ⊢
  have e1 : ∀ i : Nat, ((i : Int) + 1).toNat = i + 1 := fun i => by omega
  have e0 : ∀ i : Nat, (i : Int).toNat = i := fun i => rfl
  refine fn_intro Try.func61 rfl Try.ntmps61 (fun _ => Nat.le_of_ble_eq_true rfl) fun w0 => ?_
  repeat first | refine zaa rfl (zaz rfl) ?_ | refine zah ?_ | (refine zcr ?_; refine zcs ?_) | (refine zdb ?_; first | refine zdc ?_ | refine zdd ?_ | refine zde ?_) | (refine zal rfl rfl ?_; intro g) | (refine zag ?_; refine zan 0 rfl rfl rfl rfl rfl rfl rfl rfl rfl ?_) | refine zaa rfl opj_buildZ ?_
  rename_i g4
  obtain ⟨g5, hg5⟩ : ∃ x, x = g := ⟨g, rfl⟩
  subst hg5
  refine ws_loop (ι := Nat × (Nat × Nat) × Nat × Nat) (fun y => [(0, crvQ w0 n P f), (1, .f .f32 t), (4, .raw (.pointer (some ⟨g4, 0, none⟩))), (5, .raw (.pointer (some ⟨g5, 0, none⟩))), (6, .raw (.int .i64 (y.1 : Nat)))])
    (rowWd 31 27 w0 g4 g5 P' f') (fun y => y.1 + 1 ≤ n ∧ (y.1 ≤ y.2.2.1 ∧ y.2.2.1 ≤ maxLen) ∧ y.1 ≤ y.2.2.2 ∧ y.2.2.2 ≤ maxLen) (fun y => n - y.1) (0, (0, 0), 0, 0) ⟨by simp only; omega, by simp only; omega, by simp only; omega⟩ ?_ (fun _ h => h) (fun y hy => ?_)
  · (repeat (first | exact Env.sub_nil _ | refine Env.sub_cons rfl ?_))
  obtain ⟨i, ⟨a, b⟩, ca, cb⟩ := y
  simp only at hy ⊢
  obtain ⟨hi, ⟨hca1, hca2⟩, hcb1, hcb2⟩ := hy
  simp only [maxLen] at hca1 hca2 hcb1 hcb2
  have hBi : Fn Try.prog 75 (fun _ => [cA (P (i : Int).toNat), cA (P ((i : Int) + 1).toNat), .f .f32 (f i), .f .f32 (f ((i : Int) + 1)), .f .f32 t]) (.tup [cA (P' i), .f .f32 (f' i)]) := by
    rw [e1, e0]
    exact hB i
  cases i with
  | zero =>
    unfold rowWd
    dsimp only
    repeat first | refine zaa rfl (zay rfl) ?_ | (refine zac ?_; first | refine zaa rfl (zbb rfl rfl (by omega)) ?_ | refine zaa rfl (zbe rfl rfl) ?_) | (refine zad ?_; refine zaa rfl (opj_lenC rfl) ?_) | refine zah ?_ | (refine zcr ?_; refine zcs ?_) | (refine zdb ?_; first | refine zdc ?_ | refine zdd ?_) | refine zaa rfl (opj_nilZ rfl) ?_ | refine zaa rfl (opj_fieldZ rfl) ?_ | refine zaa rfl (opj_loadZ rfl rfl rfl) ?_
    refine ws_cond rfl (fun hd => ?_) (fun hd => ?_)
    case' refine_2 =>
      exfalso
      have := of_decide_eq_false hd
      omega
    clear hd
    repeat first | (refine zcr ?_; refine zcs ?_) | (refine zdb ?_; first | refine zdc ?_ | refine zde ?_ | refine zdf ?_)
    refine ws_draw (n := 37) mixed (by decide +kernel) ?_
    repeat first | refine zap rfl (zay rfl) ?_ | refine zap rfl (zaz rfl) ?_ | (refine zar ?_; refine zap rfl (zbb rfl rfl (by omega)) ?_) | (refine zas ?_; (refine zap rfl (zci rfl rfl (hBi) ?_) ?_; (focus ((repeat (first | exact Takes.nil | refine Takes.sl ?_ | refine Takes.lit ?_ | refine Takes.fa ?_ | refine Takes.fc ?_ | refine Takes.net ?_ | (refine Takes.ownE ?_ ?_ ?_ ?_ ?_; (focus (exact ⟨_, _, (by (repeat (first | exact mh | refine mt ?_)); done)⟩)); (focus (simp; done)); (focus omega); (focus (simp only [maxLen]; omega))) | refine Takes.same ?_)); done)))) | (refine zat ?_; refine zap rfl (zbu rfl rfl) ?_) | (refine zau ?_; first | refine zap rfl (opj_indexC rfl rfl (by omega) (by omega)) ?_ | refine zap rfl (zbs rfl rfl (by omega) (by omega)) ?_) | refine zap rfl (zbz rfl rfl) ?_ | refine zav ?_ | refine zap rfl (opj_nilZ rfl) ?_ | refine zap rfl (opj_fieldZ rfl) ?_ | refine zap rfl (opj_loadZ rfl rfl rfl) ?_
    repeat first | refine zaa rfl (zay rfl) ?_ | (refine zae ?_; refine zaa rfl (zcf rfl rfl (by (repeat (first | exact mh | refine mt ?_)); done) rfl) ?_) | refine zaa rfl (zcd rfl) ?_ | refine zah ?_ | (refine zcr ?_; refine zcs ?_) | (refine zdb ?_; first | refine zdc ?_ | refine zdd ?_) | refine zaa rfl (zco rfl rfl rfl rfl rfl rfl) ?_
    refine rs_appendNil2 (sz := 1) (m := 1) (ys := [cA (P' 0)]) rfl (by omega) rfl ⟨_, rfl, fun w v _ h => h.inv_p.2⟩ rfl (by omega) rfl (by simp only [maxLen]; omega) (by omega) rfl fun a' ca' h1 h2 => ?_
    rw [entC_one]
    repeat first | refine zaa rfl (zay rfl) ?_ | (refine zae ?_; refine zaa rfl (zcf rfl rfl (by (repeat (first | exact mh | refine mt ?_)); done) rfl) ?_) | refine zaa rfl (zcd rfl) ?_ | refine zah ?_ | (refine zcr ?_; refine zcs ?_) | (refine zdb ?_; refine zdd ?_) | (refine zag ?_; refine zam 1 rfl rfl rfl rfl rfl rfl ?_) | refine zaa rfl (zco rfl rfl rfl rfl rfl rfl) ?_
    refine rs_appendNil2 (sz := 1) (m := 1) (ys := [.f .f32 (f' 0)]) rfl (by omega) rfl ⟨_, rfl, fun w v _ h => h.inv_p.2⟩ rfl (by omega) rfl (by simp only [maxLen]; omega) (by omega) rfl fun b' cb' h3 h4 => ?_
    rw [entF_one]
    repeat first | refine zaa rfl (zay rfl) ?_ | refine zaa rfl (zaz rfl) ?_ | (refine zac ?_; refine zaa rfl (zbb rfl rfl (by omega)) ?_) | refine zaa rfl (zcd rfl) ?_ | refine zah ?_ | (refine zcr ?_; first | refine zcs ?_ | refine zcv ?_) | (refine zdb ?_; refine zdd ?_) | (refine zag ?_; refine zam 2 rfl rfl rfl rfl rfl rfl ?_)
    refine done_round (1, (a', b'), ca', cb') ⟨by simp only; omega, ⟨h1, h2⟩, h3, h4⟩ (by simp only; omega) ?_ (fun w h => ?_)
    · simp only
      (repeat (first | exact Env.sub_nil _ | refine Env.sub_cons rfl ?_))
    · exact h.swap.rot4.rot4
  | succ j =>
    unfold rowWd
    dsimp only
    repeat first | refine zaa rfl (zay rfl) ?_ | (refine zac ?_; first | refine zaa rfl (zbb rfl rfl (by omega)) ?_ | refine zaa rfl (zbe rfl rfl) ?_) | (refine zad ?_; refine zaa rfl (opj_lenC rfl) ?_) | refine zah ?_ | (refine zcr ?_; refine zcs ?_) | (refine zdb ?_; first | refine zdc ?_ | refine zdd ?_) | refine zaa rfl (opj_nilZ rfl) ?_ | refine zaa rfl (opj_fieldZ rfl) ?_ | refine zaa rfl (opj_loadZ rfl rfl rfl) ?_
    refine ws_cond rfl (fun hd => ?_) (fun hd => ?_)
    case' refine_2 =>
      have hjn : n - 1 = j + 1 := by have := of_decide_eq_false hd; omega
      rw [hjn]
      repeat first | (refine zae ?_; refine zaa rfl (zcg rfl rfl (by (repeat (first | exact mh | refine mt ?_)); done) rfl rfl) ?_) | refine zah ?_ | (refine zcr ?_; first | refine zcs ?_ | refine zcu ?_ | refine zcx ?_ | refine zda ?_) | (refine zdb ?_; first | refine zdc ?_ | refine zdd ?_ | refine zdg ?_ | refine zdh ?_) | (refine zag ?_; refine zan 1 rfl rfl rfl rfl rfl rfl rfl rfl rfl ?_)
      exact done_retX rfl rfl ((a, b), ca, cb) rfl (mt mh) rfl rfl rfl ⟨⟨hca1, by simp only [maxLen]; omega⟩, hcb1, by simp only [maxLen]; omega⟩ (.cons _ (.cons _ (List.Sublist.refl _)))
    have hlt : ((j + 1 : Nat) : Int) + 1 < n := of_decide_eq_true hd
    clear hd
    repeat first | (refine zcr ?_; refine zcs ?_) | (refine zdb ?_; first | refine zdc ?_ | refine zde ?_ | refine zdf ?_)
    refine ws_draw (n := 37) mixed (by decide +kernel) ?_
    repeat first | refine zap rfl (zay rfl) ?_ | refine zap rfl (zaz rfl) ?_ | (refine zar ?_; refine zap rfl (zbb rfl rfl (by omega)) ?_) | (refine zas ?_; (refine zap rfl (zci rfl rfl (hBi) ?_) ?_; (focus ((repeat (first | exact Takes.nil | refine Takes.sl ?_ | refine Takes.lit ?_ | refine Takes.fa ?_ | refine Takes.fc ?_ | refine Takes.net ?_ | (refine Takes.ownE ?_ ?_ ?_ ?_ ?_; (focus (exact ⟨_, _, (by (repeat (first | exact mh | refine mt ?_)); done)⟩)); (focus (simp; done)); (focus omega); (focus (simp only [maxLen]; omega))) | refine Takes.same ?_)); done)))) | (refine zat ?_; refine zap rfl (zbu rfl rfl) ?_) | (refine zau ?_; first | refine zap rfl (opj_indexC rfl rfl (by omega) (by omega)) ?_ | refine zap rfl (zbs rfl rfl (by omega) (by omega)) ?_) | refine zap rfl (zbz rfl rfl) ?_ | refine zav ?_ | refine zap rfl (opj_nilZ rfl) ?_ | refine zap rfl (opj_fieldZ rfl) ?_ | refine zap rfl (opj_loadZ rfl rfl rfl) ?_
    repeat first | refine zaa rfl (zay rfl) ?_ | (refine zae ?_; refine zaa rfl (zcf rfl rfl (by (repeat (first | exact mh | refine mt ?_)); done) rfl) ?_) | refine zaa rfl (zcd rfl) ?_ | refine zah ?_ | (refine zcr ?_; refine zcs ?_) | (refine zdb ?_; first | refine zdc ?_ | refine zdd ?_) | refine zaa rfl (zco rfl rfl rfl rfl rfl rfl) ?_
    refine rs_appendC 2 P' rfl rfl rfl rfl ⟨hca1, by simp only [maxLen]; omega⟩ (by omega) rfl rfl rfl (fun s _ => rfl) fun a' ca' h1 h2 => ?_
    repeat first | refine zaa rfl (zay rfl) ?_ | (refine zae ?_; refine zaa rfl (zcf rfl rfl (by (repeat (first | exact mh | refine mt ?_)); done) rfl) ?_) | refine zaa rfl (zcd rfl) ?_ | refine zah ?_ | (refine zcr ?_; refine zcs ?_) | (refine zdb ?_; refine zdd ?_) | (refine zag ?_; refine zam 0 rfl rfl rfl rfl rfl rfl ?_) | refine zaa rfl (zco rfl rfl rfl rfl rfl rfl) ?_
    refine rs_appendT 3 f' rfl rfl rfl rfl ⟨hcb1, by simp only [maxLen]; omega⟩ (by omega) rfl rfl rfl (fun s _ _ => rfl) fun b' cb' h3 h4 => ?_
    repeat first | refine zaa rfl (zay rfl) ?_ | refine zaa rfl (zaz rfl) ?_ | (refine zac ?_; refine zaa rfl (zbb rfl rfl (by omega)) ?_) | refine zaa rfl (zcd rfl) ?_ | refine zah ?_ | (refine zcr ?_; first | refine zcs ?_ | refine zcv ?_) | (refine zdb ?_; refine zdd ?_) | (refine zag ?_; refine zam 0 rfl rfl rfl rfl rfl rfl ?_)
    refine done_round (j + 1 + 1, (a', b'), ca', cb') ⟨by simp only; omega, ⟨h1, h2⟩, h3, h4⟩ (by simp only; omega) ?_ (fun w h => ?_)
    · simp only
      rw [show ((j + 1 + 1 : Nat) : Int) = ((j + 1 : Nat) : Int) + 1 by omega]
      (repeat (first | exact Env.sub_nil _ | refine Env.sub_cons rfl ?_))
    · exact h
/-- Where a search for a point stands. -/
def atWd (T Tc : TypeId) (w0 : World) (g5 n : Nat) (P : Nat → CV) (f : Int → FV) (t : FV) (y : Nat × (Nat × Nat) × Nat × Nat) : World → Prop := match y.1 with
  | 0 => St w0 [] [⟨g5, Tc, [slC w0 (tabC n P), AV.sl w0 1 ((tab n f).map (AV.f .f32))], 2⟩]
  | j + 1 => St w0 [] [⟨g5, Tc, [.raw (.slice (some ⟨y.2.1.1, 0, none⟩) (n - (j + 1)) y.2.2.1), .raw (.slice (some ⟨y.2.1.2, 0, none⟩) (n - (j + 1)) y.2.2.2)], 2⟩, entC y.2.1.1 (n - (j + 1)) (rowsP P f t (j + 1)).1 y.2.2.1, entF y.2.1.2 T (n - (j + 1)) (rowsP P f t (j + 1)).2 y.2.2.2]
theorem l02At_fn {n : Nat} {P : Nat → CV} {f : Int → FV} {t : FV} (hn : 2 ≤ n ∧ n ≤ 1000) :
    Fn Try.prog 39 (fun w => [crvQ w n P f, .f .f32 t]) (cA ((rowsP P f t (n - 1)).1 0)) := by
  have hR : ∀ j, j + 2 ≤ n → FnH (X := (Nat × Nat) × Nat × Nat) Try.prog 61 (fun w => [crvQ w (n - j) (rowsP P f t j).1 (rowsP P f t j).2, .f .f32 t]) []
      (fun y => crvOc y.1.1 y.1.2 (n - (j + 1)) y.2.1 y.2.2) (fun y => [entC y.1.1 (n - (j + 1)) (rowsP P f t (j + 1)).1 y.2.1, entF y.1.2 31 (n - (j + 1)) (rowsP P f t (j + 1)).2 y.2.2]) (fun y => (n - (j + 1) ≤ y.2.1 ∧ y.2.1 ≤ maxLen) ∧ n - (j + 1) ≤ y.2.2 ∧ y.2.2 ≤ maxLen) := fun j hj => by
    have := l02Row_fn (n := n - j) (P := (rowsP P f t j).1) (f := (rowsP P f t j).2) (t := t) (by omega)
    rw [show n - j - 1 = n - (j + 1) by omega] at this
    exact this
  refine fn_intro Try.func39 rfl Try.ntmps39 (fun _ => Nat.le_of_ble_eq_true rfl) fun w0 => ?_
  repeat first | refine zaa rfl (zay rfl) ?_ | refine zaa rfl (zaz rfl) ?_ | refine zah ?_ | (refine zcr ?_; refine zcs ?_) | (refine zdb ?_; first | refine zdc ?_ | refine zdd ?_ | refine zde ?_) | (refine zal rfl rfl ?_; intro g) | refine zaa rfl (opj_nilZ rfl) ?_ | refine zaa rfl (opj_loadAZ rfl rfl rfl) ?_ | refine rs_storeA2 0 rfl rfl rfl rfl rfl rfl ?_
  obtain ⟨g5, hg5⟩ : ∃ x, x = g := ⟨g, rfl⟩
  subst hg5
  refine ws_loop (ι := Nat × (Nat × Nat) × Nat × Nat) (fun y => [(1, .f .f32 t), (5, .raw (.pointer (some ⟨g5, 0, none⟩)))])
    (atWd 31 27 w0 g5 n P f t) (fun y => y.1 + 1 ≤ n ∧ (n - y.1 ≤ y.2.2.1 ∧ y.2.2.1 ≤ maxLen) ∧ n - y.1 ≤ y.2.2.2 ∧ y.2.2.2 ≤ maxLen) (fun y => n - y.1) (0, (0, 0), n, n) ⟨by simp only; omega, by simp only [maxLen]; omega, by simp only [maxLen]; omega⟩ ?_ (fun _ h => h) (fun y hy => ?_)
  · (repeat (first | exact Env.sub_nil _ | refine Env.sub_cons rfl ?_))
  obtain ⟨j, ⟨a, b⟩, ca, cb⟩ := y
  simp only at hy ⊢
  obtain ⟨hj, ⟨hca1, hca2⟩, hcb1, hcb2⟩ := hy
  cases j with
  | zero =>
    have hR0 := hR 0 (by omega)
    unfold atWd
    dsimp only
    repeat first | (refine zac ?_; refine zaa rfl (zbg rfl rfl) ?_) | (refine zad ?_; refine zaa rfl (opj_lenC rfl) ?_) | (refine zae ?_; refine zaa rfl (zcf rfl rfl (by (repeat (first | exact mh | refine mt ?_)); done) rfl) ?_) | refine zaa rfl (zcd rfl) ?_ | refine zah ?_ | (refine zcr ?_; refine zcs ?_) | (refine zdb ?_; first | refine zdc ?_ | refine zdd ?_)
    refine ws_cond rfl (fun hd => ?_) (fun hd => ?_)
    case' refine_2 =>
      exfalso
      have := of_decide_eq_false hd
      omega
    clear hd
    repeat first | refine zaa rfl (zay rfl) ?_ | (refine zcr ?_; refine zcs ?_) | (refine zdb ?_; first | refine zdd ?_ | refine zde ?_ | refine zdf ?_)
    refine rs_callM3 hR0 rfl rfl (Takes.crvZi mh (Takes.same Takes.nil)) rfl ?_
    rintro ⟨⟨a', b'⟩, ca', cb'⟩ ⟨⟨h1, h2⟩, h3, h4⟩
    dsimp only at h1 h2 h3 h4 ⊢
    repeat first | refine zah ?_ | (refine zcr ?_; refine zcv ?_) | (refine zag ?_; refine zan 2 rfl rfl rfl rfl rfl rfl rfl rfl rfl ?_)
    refine done_round (0 + 1, (a', b'), ca', cb') ⟨by simp only; omega, ⟨h1, h2⟩, h3, h4⟩ (by simp only; omega) ?_ (fun w h => ?_)
    · (repeat (first | exact Env.sub_nil _ | refine Env.sub_cons rfl ?_))
    · exact h.rot3
  | succ j =>
    unfold atWd
    dsimp only
    repeat first | (refine zac ?_; refine zaa rfl (zbg rfl rfl) ?_) | (refine zad ?_; refine zaa rfl (zbn rfl) ?_) | (refine zae ?_; refine zaa rfl (zcf rfl rfl (by (repeat (first | exact mh | refine mt ?_)); done) rfl) ?_) | refine zaa rfl (zcd rfl) ?_ | refine zah ?_ | (refine zcr ?_; refine zcs ?_) | (refine zdb ?_; first | refine zdc ?_ | refine zdd ?_)
    refine ws_cond rfl (fun hd => ?_) (fun hd => ?_)
    case' refine_2 =>
      have hjn : n - (j + 1) = 1 := by have := of_decide_eq_false hd; omega
      have hjn' : n - 1 = j + 1 := by omega
      rw [hjn, hjn']
      repeat first | refine zaa rfl (zaz rfl) ?_ | (refine zae ?_; first | refine zaa rfl (opj_loadC rfl rfl (by (repeat (first | exact mh | refine mt ?_)); done) (by omega)) ?_ | refine zaa rfl (zcf rfl rfl (by (repeat (first | exact mh | refine mt ?_)); done) rfl) ?_) | (refine zaf ?_; refine zaa rfl (zbw rfl rfl (by omega) (by omega)) ?_) | refine zaa rfl (zcd rfl) ?_ | refine zah ?_ | (refine zcr ?_; first | refine zcs ?_ | refine zcu ?_ | refine zcx ?_ | refine zda ?_) | (refine zdb ?_; first | refine zdc ?_ | refine zdd ?_ | refine zdg ?_ | refine zdh ?_)
      exact done_ret1 rfl () rfl trivial (List.nil_sublist _)
    have hlt : (1 : Int) < ((n - (j + 1) : Nat) : Int) := of_decide_eq_true hd
    clear hd
    have hR0 := hR (j + 1) (by omega)
    repeat first | refine zaa rfl (zay rfl) ?_ | (refine zcr ?_; refine zcs ?_) | (refine zdb ?_; first | refine zdd ?_ | refine zde ?_ | refine zdf ?_)
    refine rs_callM3 hR0 rfl rfl (Takes.crvZo mh (mt mh) (mt (mt mh)) ⟨hca1, hca2⟩ ⟨hcb1, hcb2⟩ (Takes.same Takes.nil)) rfl ?_
    rintro ⟨⟨a', b'⟩, ca', cb'⟩ ⟨⟨h1, h2⟩, h3, h4⟩
    dsimp only at h1 h2 h3 h4 ⊢
    repeat first | refine zah ?_ | (refine zcr ?_; refine zcv ?_) | (refine zag ?_; refine zan 2 rfl rfl rfl rfl rfl rfl rfl rfl rfl ?_)
    refine done_round (j + 1 + 1, (a', b'), ca', cb') ⟨by simp only; omega, ⟨h1, h2⟩, h3, h4⟩ (by simp only; omega) ?_ (fun w h => ?_)
    · (repeat (first | exact Env.sub_nil _ | refine Env.sub_cons rfl ?_))
    · exact (h.rot3.weak (.cons_cons _ (.cons_cons _ (.cons_cons _ (List.nil_sublist _)))))
theorem l02Complex_yes (p : CV) (hp : finC p = true) : Fn Try.prog 38 (fun _ => [cA p]) (.tup [cA p, .raw (.bool true)]) := by
  have hF := l01CFinite_fn p
  rw [hp] at hF
  refine fn_intro Try.func38 rfl Try.ntmps38 (fun _ => Nat.le_of_ble_eq_true rfl) fun w0 => ?_
  repeat first | refine zaa rfl (zay rfl) ?_ | refine zaa rfl (zaz rfl) ?_ | (refine zad ?_; (refine zaa rfl (zci rfl rfl (hF) ?_) ?_; (focus ((repeat (first | exact Takes.nil | refine Takes.sl ?_ | refine Takes.lit ?_ | refine Takes.fa ?_ | refine Takes.fc ?_ | refine Takes.net ?_ | (refine Takes.ownE ?_ ?_ ?_ ?_ ?_; (focus (exact ⟨_, _, (by (repeat (first | exact mh | refine mt ?_)); done)⟩)); (focus (simp; done)); (focus omega); (focus (simp only [maxLen]; omega))) | refine Takes.same ?_)); done)))) | refine zaa rfl (zcc rfl) ?_ | refine zah ?_ | (refine zcr ?_; refine zcs ?_) | (refine zdb ?_; first | refine zdc ?_ | refine zdd ?_ | refine zdf ?_ | refine zdg ?_ | refine zdj rfl ?_)
  exact done_ret2 rfl () rfl rfl rfl trivial (List.nil_sublist _)
theorem specCurveAt_fn {n : Nat} {P : Nat → CV} {f : Int → FV} {t : FV} (hn : 2 ≤ n ∧ n ≤ 8) (hP : (tabC n P).all finC = true) (hf : (tab n f).all aboveB = true) (ht : Fn Try.prog 37 (fun _ => [.f .f32 t]) (.raw (.bool true)))
    (hq : finC ((rowsP P f t (n - 1)).1 0) = true) : Fn Try.prog 9 (fun w => [crvA w n P f, .f .f32 t]) (.tup [cA ((rowsP P f t (n - 1)).1 0), .raw (.bool true)]) := by
  have hL := l02Is_yes hn hP hf
  have hA := l02At_fn (n := n) (P := P) (f := f) (t := t) (by omega)
  have hC := l02Complex_yes _ hq
  refine fn_intro Try.func9 rfl Try.ntmps9 (fun _ => Nat.le_of_ble_eq_true rfl) fun w0 => ?_
  repeat first | refine zai rfl rfl ?_ | refine zaa rfl (zay rfl) ?_ | refine zaa rfl (zaz rfl) ?_ | (refine zad ?_; first | (refine zaa rfl (zci rfl rfl (ht) ?_) ?_; (focus ((repeat (first | exact Takes.nil | refine Takes.sl ?_ | refine Takes.lit ?_ | refine Takes.fa ?_ | refine Takes.fc ?_ | refine Takes.net ?_ | (refine Takes.ownE ?_ ?_ ?_ ?_ ?_; (focus (exact ⟨_, _, (by (repeat (first | exact mh | refine mt ?_)); done)⟩)); (focus (simp; done)); (focus omega); (focus (simp only [maxLen]; omega))) | refine Takes.same ?_)); done))) | (refine zaa rfl (zci rfl rfl (hC) ?_) ?_; (focus ((repeat (first | exact Takes.nil | refine Takes.sl ?_ | refine Takes.lit ?_ | refine Takes.fa ?_ | refine Takes.fc ?_ | refine Takes.net ?_ | (refine Takes.ownE ?_ ?_ ?_ ?_ ?_; (focus (exact ⟨_, _, (by (repeat (first | exact mh | refine mt ?_)); done)⟩)); (focus (simp; done)); (focus omega); (focus (simp only [maxLen]; omega))) | refine Takes.same ?_)); done)))) | refine zaa rfl (zbz rfl rfl) ?_ | refine zaa rfl (zcb rfl rfl) ?_ | refine zaa rfl (zcc rfl) ?_ | refine zah ?_ | (refine zcr ?_; refine zcs ?_) | (refine zdb ?_; first | refine zdc ?_ | refine zdd ?_ | refine zdf ?_ | refine zdg ?_ | refine zdj rfl ?_) | (refine zak rfl rfl rfl ?_; intro g) | refine zaa rfl (zci rfl rfl hL (Takes.crvPt mh Takes.nil)) ?_ | refine zaa rfl (zci rfl rfl hA (Takes.crvZi mh (Takes.same Takes.nil))) ?_
  exact done_ret2 rfl () rfl rfl rfl trivial (List.nil_sublist _)
end Go.Ab
