/- Curves of slopes, blended curves, points on curves, shares, quarters of circles; walked. No conditions. -/
import Derived.Test.YtapclajklcflbaaZah
namespace Go.Ab
open Go.Proofs
variable {R : World → Prop} [RStab R]
/-- The points of a curve of slopes. -/
def diffP (n : Nat) (P : Nat → CV) (i : Nat) : CV := scaleC (subC2 (P (i + 1)) (P i)) (some (FloatKind.f32.nearest ((n : Int) - 1)))
def blendP (P Q : Nat → CV) (s : FV) (i : Nat) : CV := addC2 (P i) (scaleC (subC2 (Q i) (P i)) s)
def blendW (f g : Int → FV) (s : FV) (i : Int) : FV := fbin .add .f32 (f i) (fbin .mul .f32 (fbin .sub .f32 (g i) (f i)) s)
/-- The shares of points, level by level. -/
def shareT (t : FV) : Nat → Int → FV
  | 0 => fun _ => one1
  | k + 1 => fun i => fbin .add .f32 (fbin .mul .f32 (if i < (k : Int) + 1 then shareT t k i else fv .f32 0) (fbin .sub .f32 one1 t)) (fbin .mul .f32 (if 0 < i then shareT t k (i - 1) else fv .f32 0) t)
def quarterP (m : CV) (r : FV) (i : Nat) : CV := if i = 0 then addC2 m (r, fv .f32 0) else if i = 1 then addC2 m (r, r) else addC2 m (fv .f32 0, r)
def quarterW (i : Int) : FV := if i = 0 then fv .f32 1065353216 else if i = 1 then fv .f32 1060439283 else fv .f32 1065353216
def timeK (k m : Nat) : FV := fbin .quo .f32 (some (FloatKind.f32.nearest (k : Int))) (some (FloatKind.f32.nearest ((m : Int) - 1)))
theorem entF_nilU (g c : Nat) (T : TypeId) (f : Int → FV) : (⟨g, T, [], c⟩ : Ent) = entF g T 0 f c := by
  unfold entF tab
  rfl
theorem entC_nilU (g c : Nat) (F : Nat → CV) : (⟨g, 31, [], c⟩ : Ent) = entC g 0 F c := by
  unfold entC tabC
  rfl
theorem entC_lit3 (g : Nat) (F : Nat → CV) : (⟨g, 31, [cA (F 0), cA (F 1), cA (F 2)], 3⟩ : Ent) = entC g 3 F 3 := by
  unfold entC tabC
  rfl
theorem entF_lit3 (g : Nat) (T : TypeId) (F : Int → FV) : (⟨g, T, [.f .f32 (F 0), .f .f32 (F 1), .f .f32 (F 2)], 3⟩ : Ent) = entF g T 3 F 3 := by
  unfold entF tab
  rfl
theorem entF_lit1 (g : Nat) (T : TypeId) (F : Int → FV) : (⟨g, T, [.f .f32 (F 0)], 1⟩ : Ent) = entF g T 1 F 1 := by
  unfold entF tab
  rfl
attribute [local irreducible] WS RS Done OpJ Then InBlock Round Ret Env.sub FnH
attribute [local irreducible] tab tabC
def slopesWd (T Tc : TypeId) (w0 : World) (g1 g2 g4 n b : Nat) (P : Nat → CV) (f : Int → FV) (P' : Nat → CV) (y : Nat × Nat × Nat) : World → Prop := match y.1 with
  | 0 => St w0 [] [⟨g4, Tc, [.raw (.slice none 0 0), .raw (.slice (some ⟨b, 0, none⟩) (n - 1) (n - 1))], 2⟩, entF b T (n - 1) (fun _ => one1) (n - 1), ⟨g2, Tc, [.raw (.slice none 0 0), .raw (.slice none 0 0)], 2⟩, ⟨g1, Tc, [slC w0 (tabC n P), AV.sl w0 1 ((tab n f).map (AV.f .f32))], 2⟩]
  | i + 1 => St w0 [] [⟨g4, Tc, [.raw (.slice (some ⟨y.2.1, 0, none⟩) (i + 1) y.2.2), .raw (.slice (some ⟨b, 0, none⟩) (n - 1) (n - 1))], 2⟩, entF b T (n - 1) (fun _ => one1) (n - 1), ⟨g2, Tc, [.raw (.slice none 0 0), .raw (.slice none 0 0)], 2⟩, ⟨g1, Tc, [slC w0 (tabC n P), AV.sl w0 1 ((tab n f).map (AV.f .f32))], 2⟩, entC y.2.1 (i + 1) P' y.2.2]
theorem slopes_fn {n : Nat} {P : Nat → CV} {f : Int → FV} (hn : 2 ≤ n ∧ n ≤ 1000) :
    FnH (X := (Nat × Nat) × Nat) Try.prog 30 (fun w => [crvA w n P f]) []
      (fun y => crvOc y.1.1 y.1.2 (n - 1) y.2 (n - 1)) (fun y => [entF y.1.2 29 (n - 1) (fun _ => one1) (n - 1), entC y.1.1 (n - 1) (diffP n P) y.2]) (fun y => n - 1 ≤ y.2 ∧ y.2 ≤ maxLen) := by
  have hD := degree_fn n P f (by omega)
  have hO := ones_fn (n - 1) (by omega)
  rw [show ((n - 1 : Nat) : Int) = (n : Int) - 1 by omega] at hO
  obtain ⟨P', hP'⟩ : ∃ P' : Nat → CV, P' = diffP n P := ⟨_, rfl⟩
  have hm : ∀ i : Nat, Fn Try.prog 45 (fun _ => [cA (P ((i : Int) + 1).toNat), cA (P (i : Int).toNat)]) (cA (subC2 (P (i + 1)) (P i))) := fun i => by
    rw [show ((i : Int) + 1).toNat = i + 1 by omega]
    exact minus_fn (P (i + 1)) (P i)
  have hs : ∀ i : Nat, Fn Try.prog 44 (fun _ => [cA (subC2 (P (i + 1)) (P i)), .f .f32 (some (FloatKind.f32.nearest ((n : Int) - 1)))]) (cA (P' i)) := fun i => by
    rw [hP']
    exact scaled_fn _ _
  rw [← hP']
  refine fn_intro Try.func30 rfl Try.ntmps30 (fun _ => Nat.le_of_ble_eq_true rfl) fun w0 => ?_
  repeat first | refine zaa rfl (zay rfl) ?_ | refine zaa rfl (zaz rfl) ?_ | (refine zad ?_; (refine rs_call1 (hO) rfl rfl ?_ rfl ?_; (focus ((repeat (first | exact Takes.nil | refine Takes.sl ?_ | refine Takes.lit ?_ | refine Takes.fa ?_ | refine Takes.fc ?_ | refine Takes.net ?_ | (refine Takes.ownE ?_ ?_ ?_ ?_ ?_; (focus (exact ⟨_, _, (by (repeat (first | exact mh | refine mt ?_)); done)⟩)); (focus (simp; done)); (focus omega); (focus (simp only [maxLen]; omega))) | refine Takes.same ?_)); done)); intro b _)) | (refine zae ?_; refine zaa rfl (zcg rfl rfl (by (repeat (first | exact mh | refine mt ?_)); done) rfl rfl) ?_) | refine zah ?_ | (refine zcr ?_; refine zcs ?_) | (refine zdb ?_; first | refine zdc ?_ | refine zdd ?_ | refine zde ?_) | (refine zak rfl rfl rfl ?_; intro g) | (refine zal rfl rfl ?_; intro g) | (refine zag ?_; refine zan 0 rfl rfl rfl rfl rfl rfl rfl rfl rfl ?_) | refine zaa rfl (zci rfl rfl hD (Takes.crv Takes.nil)) ?_ | refine zaa rfl (opj_buildW rfl) ?_
  rename_i g1 g2 _
  obtain ⟨g4, hg4⟩ : ∃ x, x = g := ⟨g, rfl⟩
  subst hg4
  refine ws_loop (ι := Nat × Nat × Nat) (fun y => [(1, .raw (.pointer (some ⟨g1, 0, none⟩))), (2, .raw (.pointer (some ⟨g2, 0, none⟩))), (3, .raw (.int .i64 ((n : Int) - 1))), (4, .raw (.pointer (some ⟨g4, 0, none⟩))), (11, .raw (.int .i64 ((n : Int) - 1))), (12, .raw (.int .i64 (y.1 : Nat)))])
    (slopesWd 29 27 w0 g1 g2 g4 n b P f P') (fun y => y.1 + 1 ≤ n ∧ y.1 ≤ y.2.2 ∧ y.2.2 ≤ maxLen) (fun y => n - y.1) (0, 0, 0) ⟨by simp only; omega, by simp only; omega, by simp only; omega⟩ ?_ (fun w h => h) (fun y hy => ?_)
  · (repeat (first | exact Env.sub_nil _ | refine Env.sub_cons rfl ?_))
  obtain ⟨i, a, ca⟩ := y
  simp only at hy ⊢
  obtain ⟨hi, hc1, hc2⟩ := hy
  simp only [maxLen] at hc1 hc2
  have hmi := hm i
  have hsi := hs i
  cases i with
  | zero =>
    unfold slopesWd
    dsimp only
    repeat first | (refine zac ?_; refine zaa rfl (zbe rfl rfl) ?_) | refine zah ?_ | (refine zcr ?_; refine zcs ?_) | (refine zdb ?_; first | refine zdc ?_ | refine zdd ?_)
    refine ws_cond rfl (fun hd => ?_) (fun hd => ?_)
    case' refine_2 =>
      exfalso
      have := of_decide_eq_false hd
      omega
    clear hd
    repeat first | refine zaa rfl (zay rfl) ?_ | refine zaa rfl (zaz rfl) ?_ | refine zah ?_ | (refine zcr ?_; refine zcs ?_) | (refine zdb ?_; first | refine zdc ?_ | refine zdd ?_ | refine zde ?_ | refine zdf ?_)
    refine ws_draw (n := 18) mixed (by decide +kernel) ?_
    repeat first | refine zap rfl (zay rfl) ?_ | (refine zar ?_; refine zap rfl (zbb rfl rfl (by omega)) ?_) | (refine zas ?_; first | (refine zap rfl (zci rfl rfl (hmi) ?_) ?_; (focus ((repeat (first | exact Takes.nil | refine Takes.sl ?_ | refine Takes.lit ?_ | refine Takes.fa ?_ | refine Takes.fc ?_ | refine Takes.net ?_ | (refine Takes.ownE ?_ ?_ ?_ ?_ ?_; (focus (exact ⟨_, _, (by (repeat (first | exact mh | refine mt ?_)); done)⟩)); (focus (simp; done)); (focus omega); (focus (simp only [maxLen]; omega))) | refine Takes.same ?_)); done))) | (refine zap rfl (zci rfl rfl (hsi) ?_) ?_; (focus ((repeat (first | exact Takes.nil | refine Takes.sl ?_ | refine Takes.lit ?_ | refine Takes.fa ?_ | refine Takes.fc ?_ | refine Takes.net ?_ | (refine Takes.ownE ?_ ?_ ?_ ?_ ?_; (focus (exact ⟨_, _, (by (repeat (first | exact mh | refine mt ?_)); done)⟩)); (focus (simp; done)); (focus omega); (focus (simp only [maxLen]; omega))) | refine Takes.same ?_)); done)))) | (refine zat ?_; first | refine zap rfl (zcf rfl rfl (by (repeat (first | exact mh | refine mt ?_)); done) rfl) ?_ | refine zap rfl (zbu rfl rfl) ?_) | (refine zau ?_; refine zap rfl (opj_indexC rfl rfl (by omega) (by omega)) ?_) | refine zap rfl (zcd rfl) ?_ | refine zap rfl (zby rfl) ?_ | refine zav ?_ | refine zap rfl (zco rfl rfl rfl rfl rfl rfl) ?_
    refine rs_appendNil2 (sz := 1) (m := 1) (ys := [cA (P' 0)]) rfl (by omega) rfl ⟨_, rfl, fun w v _ h => h.inv_p.2⟩ rfl (by omega) rfl (by simp only [maxLen]; omega) (by omega) rfl fun a' ca' h1 h2 => ?_
    rw [entC_one]
    repeat first | refine zaa rfl (zay rfl) ?_ | (refine zac ?_; refine zaa rfl (zbb rfl rfl (by omega)) ?_) | refine zaa rfl (zcd rfl) ?_ | refine zah ?_ | (refine zcr ?_; first | refine zcs ?_ | refine zcv ?_) | (refine zdb ?_; refine zdd ?_) | (refine zag ?_; refine zam 1 rfl rfl rfl rfl rfl rfl ?_)
    refine done_round (0 + 1, a', ca') ⟨by simp only; omega, h1, h2⟩ (by simp only; omega) ?_ (fun w h => ?_)
    · simp only
      (repeat (first | exact Env.sub_nil _ | refine Env.sub_cons rfl ?_))
    · exact h.perm (List.perm_append_comm (l₁ := [_, _, _, _]) (l₂ := [_]))
  | succ j =>
    unfold slopesWd
    dsimp only
    repeat first | (refine zac ?_; refine zaa rfl (zbe rfl rfl) ?_) | refine zah ?_ | (refine zcr ?_; refine zcs ?_) | (refine zdb ?_; first | refine zdc ?_ | refine zdd ?_)
    refine ws_cond rfl (fun hd => ?_) (fun hd => ?_)
    case' refine_2 =>
      have hjn : n - 1 = j + 1 := by have := of_decide_eq_false hd; omega
      rw [hjn]
      repeat first | (refine zae ?_; refine zaa rfl (zcg rfl rfl (by (repeat (first | exact mh | refine mt ?_)); done) rfl rfl) ?_) | refine zah ?_ | (refine zcr ?_; first | refine zcs ?_ | refine zcu ?_ | refine zcx ?_ | refine zda ?_) | (refine zdb ?_; first | refine zdc ?_ | refine zdd ?_ | refine zdg ?_ | refine zdh ?_) | (refine zag ?_; refine zan 2 rfl rfl rfl rfl rfl rfl rfl rfl rfl ?_)
      exact done_retX rfl rfl ((a, b), ca) rfl (mt (mt mh)) rfl rfl rfl ⟨hc1, by simp only [maxLen]; omega⟩ (.cons _ (.cons_cons _ (.cons _ (.cons _ (.cons_cons _ (List.nil_sublist _))))))
    have hlt : ((j + 1 : Nat) : Int) < (n : Int) - 1 := of_decide_eq_true hd
    clear hd
    repeat first | refine zaa rfl (zay rfl) ?_ | refine zaa rfl (zaz rfl) ?_ | refine zah ?_ | (refine zcr ?_; refine zcs ?_) | (refine zdb ?_; first | refine zdc ?_ | refine zdd ?_ | refine zde ?_ | refine zdf ?_)
    refine ws_draw (n := 18) mixed (by decide +kernel) ?_
    repeat first | refine zap rfl (zay rfl) ?_ | (refine zar ?_; refine zap rfl (zbb rfl rfl (by omega)) ?_) | (refine zas ?_; first | (refine zap rfl (zci rfl rfl (hmi) ?_) ?_; (focus ((repeat (first | exact Takes.nil | refine Takes.sl ?_ | refine Takes.lit ?_ | refine Takes.fa ?_ | refine Takes.fc ?_ | refine Takes.net ?_ | (refine Takes.ownE ?_ ?_ ?_ ?_ ?_; (focus (exact ⟨_, _, (by (repeat (first | exact mh | refine mt ?_)); done)⟩)); (focus (simp; done)); (focus omega); (focus (simp only [maxLen]; omega))) | refine Takes.same ?_)); done))) | (refine zap rfl (zci rfl rfl (hsi) ?_) ?_; (focus ((repeat (first | exact Takes.nil | refine Takes.sl ?_ | refine Takes.lit ?_ | refine Takes.fa ?_ | refine Takes.fc ?_ | refine Takes.net ?_ | (refine Takes.ownE ?_ ?_ ?_ ?_ ?_; (focus (exact ⟨_, _, (by (repeat (first | exact mh | refine mt ?_)); done)⟩)); (focus (simp; done)); (focus omega); (focus (simp only [maxLen]; omega))) | refine Takes.same ?_)); done)))) | (refine zat ?_; first | refine zap rfl (zcf rfl rfl (by (repeat (first | exact mh | refine mt ?_)); done) rfl) ?_ | refine zap rfl (zbu rfl rfl) ?_) | (refine zau ?_; refine zap rfl (opj_indexC rfl rfl (by omega) (by omega)) ?_) | refine zap rfl (zcd rfl) ?_ | refine zap rfl (zby rfl) ?_ | refine zav ?_ | refine zap rfl (zco rfl rfl rfl rfl rfl rfl) ?_
    refine rs_appendC 4 P' rfl rfl rfl rfl ⟨hc1, by simp only [maxLen]; omega⟩ (by omega) rfl rfl rfl (fun s _ => rfl) fun a' ca' h1 h2 => ?_
    repeat first | refine zaa rfl (zay rfl) ?_ | (refine zac ?_; refine zaa rfl (zbb rfl rfl (by omega)) ?_) | refine zaa rfl (zcd rfl) ?_ | refine zah ?_ | (refine zcr ?_; first | refine zcs ?_ | refine zcv ?_) | (refine zdb ?_; refine zdd ?_) | (refine zag ?_; refine zam 0 rfl rfl rfl rfl rfl rfl ?_)
    refine done_round (j + 1 + 1, a', ca') ⟨by simp only; omega, h1, h2⟩ (by simp only; omega) ?_ (fun w h => ?_)
    · simp only
      rw [show ((j + 1 + 1 : Nat) : Int) = ((j + 1 : Nat) : Int) + 1 by omega]
      (repeat (first | exact Env.sub_nil _ | refine Env.sub_cons rfl ?_))
    · exact h
theorem pointsOn_fn {n : Nat} {P : Nat → CV} {f : Int → FV} (hn : 2 ≤ n ∧ n ≤ 8) (hP : (tabC n P).all finC = true) (hf : (tab n f).all aboveB = true) (hQ : (tabC 5 fun k => pointP n P f (timeK k 5)).all finC = true) :
    FnH (X := Nat × Nat) Try.prog 17 (fun w => [crvA w n P f, .raw (.int .i64 5)]) [] (fun y => .tup [.raw (.slice (some ⟨y.1, 0, none⟩) 5 y.2), .raw (.bool true)]) (fun y => [entC y.1 5 (fun k => pointP n P f (timeK k 5)) y.2]) (fun y => 5 ≤ y.2 ∧ y.2 ≤ maxLen) := by
  have hV := validCurve_yes hn hP hf
  have hW := within_fn 5 2 24
  obtain ⟨Q, hQ'⟩ : ∃ Q : Nat → CV, Q = fun k => pointP n P f (timeK k 5) := ⟨_, rfl⟩
  rw [← hQ'] at hQ ⊢
  have hA : ∀ k : Nat, Fn Try.prog 31 (fun w => [crvA w n P f, .f .f32 (fbin .quo .f32 (some (FloatKind.f32.nearest (k : Int))) (some (FloatKind.f32.nearest ((5 : Int) - 1))))]) (cA (Q k)) := fun k => by
    rw [hQ']
    exact at_fn (by omega)
  refine fn_intro Try.func17 rfl Try.ntmps17 (fun _ => Nat.le_of_ble_eq_true rfl) fun w0 => ?_
  repeat first | refine zai rfl rfl ?_ | refine zaa rfl (zay rfl) ?_ | refine zaa rfl (zaz rfl) ?_ | (refine zad ?_; (refine zaa rfl (zci rfl rfl (hW) ?_) ?_; (focus ((repeat (first | exact Takes.nil | refine Takes.sl ?_ | refine Takes.lit ?_ | refine Takes.fa ?_ | refine Takes.fc ?_ | refine Takes.net ?_ | (refine Takes.ownE ?_ ?_ ?_ ?_ ?_; (focus (exact ⟨_, _, (by (repeat (first | exact mh | refine mt ?_)); done)⟩)); (focus (simp; done)); (focus omega); (focus (simp only [maxLen]; omega))) | refine Takes.same ?_)); done)))) | (refine zae ?_; refine zaa rfl (zcg rfl rfl (by (repeat (first | exact mh | refine mt ?_)); done) rfl rfl) ?_) | refine zaa rfl (zcb rfl rfl) ?_ | refine zaa rfl (zcc rfl) ?_ | refine zah ?_ | (refine zcr ?_; refine zcs ?_) | (refine zdb ?_; first | refine zdc ?_ | refine zdd ?_ | refine zde ?_ | refine zdf ?_ | refine zdj rfl ?_) | (refine zak rfl rfl rfl ?_; intro g) | refine zaa rfl (zci rfl rfl hV (Takes.crv Takes.nil)) ?_ | (refine rs_lit0 rfl ?_; intro ga)
  rw [entC_nilU (F := Q)]
  obtain ⟨g2, hg2⟩ : ∃ x, x = g := ⟨g, rfl⟩
  subst hg2
  refine ws_loop (ι := Nat × Nat × Nat) (fun y => [(1, .raw (.int .i64 5)), (2, .raw (.pointer (some ⟨g2, 0, none⟩))), (6, .raw (.slice (some ⟨y.2.1, 0, none⟩) y.1 y.2.2)), (17, .raw (.int .i64 5)), (18, .raw (.int .i64 (y.1 : Nat)))])
    (fun y => St w0 [] [entC y.2.1 y.1 Q y.2.2, ⟨g2, 27, [slC w0 (tabC n P), AV.sl w0 1 ((tab n f).map (AV.f .f32))], 2⟩]) (fun y => y.1 ≤ 5 ∧ y.1 ≤ y.2.2 ∧ y.2.2 ≤ maxLen) (fun y => 5 - y.1) (0, ga, 0) ⟨by simp only; omega, by simp only; omega, by simp only; omega⟩ ?_ (fun _ h => h) (fun y hy => ?_)
  · (repeat (first | exact Env.sub_nil _ | refine Env.sub_cons rfl ?_))
  obtain ⟨k, a, ca⟩ := y
  simp only at hy ⊢
  obtain ⟨hk, hc1, hc2⟩ := hy
  simp only [maxLen] at hc1 hc2
  have hAk := hA k
  repeat first | (refine zac ?_; refine zaa rfl (zbe rfl rfl) ?_) | refine zah ?_ | (refine zcr ?_; refine zcs ?_) | (refine zdb ?_; first | refine zdc ?_ | refine zdd ?_)
  refine ws_cond rfl (fun hd => ?_) (fun hd => ?_)
  case' refine_2 =>
    have hk5 : k = 5 := by have := of_decide_eq_false hd; omega
    subst hk5
    have hI := ifPoints_yes 5 ca a Q ⟨by omega, hc1, by simp only [maxLen]; omega⟩ hQ
    repeat first | refine zaa rfl (zay rfl) ?_ | refine zaa rfl (zaz rfl) ?_ | refine zaa rfl (zbz rfl rfl) ?_ | refine zah ?_ | (refine zcr ?_; first | refine zcs ?_ | refine zcu ?_ | refine zcx ?_ | refine zda ?_) | (refine zdb ?_; first | refine zdc ?_ | refine zdd ?_ | refine zdg ?_ | refine zdh ?_) | (refine rs_callAt 0 hI rfl rfl rfl ?_ rfl ?_; (focus (exact Takes.same Takes.nil)); rintro _ -)
    exact done_ret2 rfl (a, ca) rfl rfl rfl ⟨hc1, by simp only [maxLen]; omega⟩ (.cons_cons _ (List.nil_sublist _))
  have hlt : (k : Int) < 5 := of_decide_eq_true hd
  clear hd
  repeat first | refine zaa rfl (zay rfl) ?_ | refine zaa rfl (zaz rfl) ?_ | (refine zac ?_; first | refine zaa rfl (zba rfl rfl rfl) ?_ | refine zaa rfl (zbc rfl rfl (by omega)) ?_) | (refine zae ?_; refine zaa rfl (zcg rfl rfl (by (repeat (first | exact mh | refine mt ?_)); done) rfl rfl) ?_) | refine zaa rfl (zby rfl) ?_ | refine zah ?_ | (refine zcr ?_; refine zcs ?_) | (refine zdb ?_; first | refine zdc ?_ | refine zdd ?_ | refine zde ?_ | refine zdf ?_) | refine zaa rfl (zci rfl rfl hAk (Takes.crv (Takes.same Takes.nil))) ?_ | refine zaa rfl (zco rfl rfl rfl rfl rfl rfl) ?_
  refine rs_appendC 0 Q rfl rfl rfl rfl ⟨hc1, by simp only [maxLen]; omega⟩ (by omega) rfl rfl rfl (fun s _ => rfl) fun a' ca' h1 h2 => ?_
  repeat first | refine zaa rfl (zay rfl) ?_ | refine zaa rfl (zaz rfl) ?_ | (refine zac ?_; refine zaa rfl (zbb rfl rfl (by omega)) ?_) | refine zah ?_ | (refine zcr ?_; first | refine zcs ?_ | refine zcv ?_) | (refine zdb ?_; refine zdd ?_)
  refine done_round (k + 1, a', ca') ⟨by simp only; omega, h1, h2⟩ (by simp only; omega) ?_ (fun _ h => h)
  simp only
  rw [show ((k + 1 : Nat) : Int) = (k : Int) + 1 by omega]
  (repeat (first | exact Env.sub_nil _ | refine Env.sub_cons rfl ?_))
theorem sharesAt_fn {n : Nat} {t : FV} (hn : 1 ≤ n ∧ n ≤ 7) (ht : Fn Try.prog 23 (fun _ => [.f .f32 t]) (.raw (.bool true))) :
    FnH (X := Nat × Nat) Try.prog 18 (fun _ => [.raw (.int .i64 (n : Nat)), .f .f32 t]) [] (fun y => .tup [.raw (.slice (some ⟨y.1, 0, none⟩) (n + 1) y.2), .raw (.bool true)]) (fun y => [entF y.1 29 (n + 1) (shareT t n) y.2]) (fun y => n + 1 ≤ y.2 ∧ y.2 ≤ maxLen) := by
  have hW := within_fn (n : Nat) 1 7
  rw [show (decide ((1 : Int) ≤ (n : Nat)) && decide (((n : Nat) : Int) ≤ 7)) = true by rw [decide_eq_true (by omega), decide_eq_true (by omega)]; rfl] at hW
  refine fn_intro Try.func18 rfl Try.ntmps18 (fun _ => Nat.le_of_ble_eq_true rfl) fun w0 => ?_
  repeat first | refine zai rfl rfl ?_ | refine zaa rfl (zay rfl) ?_ | refine zaa rfl (zaz rfl) ?_ | (refine zad ?_; first | (refine zaa rfl (zci rfl rfl (hW) ?_) ?_; (focus ((repeat (first | exact Takes.nil | refine Takes.sl ?_ | refine Takes.lit ?_ | refine Takes.fa ?_ | refine Takes.fc ?_ | refine Takes.net ?_ | (refine Takes.ownE ?_ ?_ ?_ ?_ ?_; (focus (exact ⟨_, _, (by (repeat (first | exact mh | refine mt ?_)); done)⟩)); (focus (simp; done)); (focus omega); (focus (simp only [maxLen]; omega))) | refine Takes.same ?_)); done))) | (refine zaa rfl (zci rfl rfl (ht) ?_) ?_; (focus ((repeat (first | exact Takes.nil | refine Takes.sl ?_ | refine Takes.lit ?_ | refine Takes.fa ?_ | refine Takes.fc ?_ | refine Takes.net ?_ | (refine Takes.ownE ?_ ?_ ?_ ?_ ?_; (focus (exact ⟨_, _, (by (repeat (first | exact mh | refine mt ?_)); done)⟩)); (focus (simp; done)); (focus omega); (focus (simp only [maxLen]; omega))) | refine Takes.same ?_)); done)))) | refine zaa rfl (zcb rfl rfl) ?_ | refine zaa rfl (zcc rfl) ?_ | refine zah ?_ | (refine zcr ?_; refine zcs ?_) | (refine zdb ?_; first | refine zdc ?_ | refine zdd ?_ | refine zde ?_ | refine zdf ?_ | refine zdj rfl ?_) | (refine rs_litP rfl rfl rfl rfl rfl rfl ?_; intro ga)
  rw [show (⟨ga, 29, [cv (Value.float FloatKind.f32 1065353216)], 1⟩ : Ent) = entF ga 29 1 (shareT t 0) 1 from entF_lit1 ga _ (shareT t 0)]
  refine ws_loop (ι := Nat × Nat × Nat) (fun y => [(1, .f .f32 t), (6, .raw (.slice (some ⟨y.2.1, 0, none⟩) (y.1 + 1) y.2.2)), (20, .raw (.int .i64 (n : Nat))), (21, .raw (.int .i64 (y.1 : Nat)))])
    (fun y => St w0 [] [entF y.2.1 29 (y.1 + 1) (shareT t y.1) y.2.2]) (fun y => y.1 ≤ n ∧ y.1 + 1 ≤ y.2.2 ∧ y.2.2 ≤ maxLen) (fun y => n - y.1) (0, ga, 1) ⟨by simp only; omega, by simp only; omega, by simp only [maxLen]; decide⟩ ?_ (fun _ h => h) (fun y hy => ?_)
  · (repeat (first | exact Env.sub_nil _ | refine Env.sub_cons rfl ?_))
  obtain ⟨k, a, ca⟩ := y
  simp only at hy ⊢
  obtain ⟨hk, hc1, hc2⟩ := hy
  simp only [maxLen] at hc1 hc2
  repeat first | (refine zac ?_; refine zaa rfl (zbe rfl rfl) ?_) | refine zah ?_ | (refine zcr ?_; refine zcs ?_) | (refine zdb ?_; first | refine zdc ?_ | refine zdd ?_)
  refine ws_cond rfl (fun hd => ?_) (fun hd => ?_)
  case' refine_2 =>
    have hkn : k = n := by have := of_decide_eq_false hd; omega
    subst hkn
    repeat first | refine zaa rfl (zay rfl) ?_ | refine zaa rfl (zaz rfl) ?_ | refine zah ?_ | (refine zcr ?_; first | refine zcs ?_ | refine zcu ?_ | refine zcx ?_ | refine zda ?_) | (refine zdb ?_; first | refine zdc ?_ | refine zdd ?_ | refine zdg ?_ | refine zdh ?_)
    exact done_ret2 rfl (a, ca) rfl rfl rfl ⟨hc1, by simp only [maxLen]; omega⟩ (List.Sublist.refl _)
  have hlt : (k : Int) < n := of_decide_eq_true hd
  clear hd
  obtain ⟨sk, hsk⟩ : ∃ s, s = shareT t k := ⟨_, rfl⟩
  obtain ⟨sk1, hsk1⟩ : ∃ s, s = shareT t (k + 1) := ⟨_, rfl⟩
  have hst : ∀ i : Int, sk1 i = fbin .add .f32 (fbin .mul .f32 (if i < (k : Int) + 1 then sk i else fv .f32 0) (fbin .sub .f32 one1 t)) (fbin .mul .f32 (if 0 < i then sk (i - 1) else fv .f32 0) t) := fun i => by rw [hsk1, hsk]; rfl
  rw [← hsk]
  repeat first | refine zaa rfl (zay rfl) ?_ | refine zaa rfl (zaz rfl) ?_ | (refine zac ?_; refine zaa rfl (zbb rfl rfl (by omega)) ?_) | (refine zad ?_; refine zaa rfl (zbn rfl) ?_) | refine zah ?_ | (refine zcr ?_; refine zcs ?_) | (refine zdb ?_; first | refine zdc ?_ | refine zdd ?_ | refine zde ?_ | refine zdf ?_) | (refine rs_lit0 rfl ?_; intro gn)
  rw [entF_nilU (f := sk1)]
  refine ws_loop (ι := Nat × Nat × Nat) (fun y => [(1, .f .f32 t), (6, .raw (.slice (some ⟨a, 0, none⟩) (k + 1) ca)), (7, .raw (.slice (some ⟨y.2.1, 0, none⟩) y.1 y.2.2)), (20, .raw (.int .i64 (n : Nat))), (21, .raw (.int .i64 (k : Nat))), (26, .raw (.int .i64 (((k + 1 : Nat) : Int) + 1))), (27, .raw (.int .i64 (y.1 : Nat)))])
    (fun y => St w0 [] [entF y.2.1 29 y.1 sk1 y.2.2, entF a 29 (k + 1) sk ca]) (fun y => y.1 ≤ k + 2 ∧ y.1 ≤ y.2.2 ∧ y.2.2 ≤ maxLen) (fun y => k + 2 - y.1) (0, gn, 0) ⟨by simp only; omega, by simp only; omega, by simp only; omega⟩ ?_ (fun _ h => h) (fun y hy => ?_)
  · (repeat (first | exact Env.sub_nil _ | refine Env.sub_cons rfl ?_))
  obtain ⟨i, g, cg⟩ := y
  simp only at hy ⊢
  obtain ⟨hi, hg1, hg2⟩ := hy
  simp only [maxLen] at hg1 hg2
  repeat first | (refine zac ?_; refine zaa rfl (zbe rfl rfl) ?_) | refine zah ?_ | (refine zcr ?_; refine zcs ?_) | (refine zdb ?_; first | refine zdc ?_ | refine zdd ?_)
  refine ws_cond rfl (fun hd => ?_) (fun hd => ?_)
  case' refine_2 =>
    have hik : i = k + 2 := by have := of_decide_eq_false hd; omega
    subst hik
    repeat first | refine zaa rfl (zay rfl) ?_ | refine zaa rfl (zaz rfl) ?_ | (refine zac ?_; refine zaa rfl (zbb rfl rfl (by omega)) ?_) | refine zah ?_ | (refine zcr ?_; first | refine zcs ?_ | refine zcu ?_ | refine zcv ?_ | refine zcx ?_ | refine zda ?_) | (refine zdb ?_; first | refine zdd ?_ | refine zdh ?_)
    refine done_round (k + 1, g, cg) ⟨by simp only; omega, by simp only; omega, by simp only [maxLen]; omega⟩ (by simp only; omega) ?_ (fun w h => ?_)
    · simp only
      rw [show ((k + 1 : Nat) : Int) = (k : Int) + 1 by omega]
      (repeat (first | exact Env.sub_nil _ | refine Env.sub_cons rfl ?_))
    · simp only
      rw [← hsk1]
      exact h.weak (.cons_cons _ (List.nil_sublist _))
  have hlt2 : (i : Int) < ((k + 1 : Nat) : Int) + 1 := of_decide_eq_true hd
  clear hd
  have hsi := hst i
  obtain ⟨ow, how⟩ : ∃ x, x = (if (i : Int) < (k : Int) + 1 then sk i else fv .f32 0) := ⟨_, rfl⟩
  obtain ⟨bf, hbf⟩ : ∃ x, x = (if 0 < (i : Int) then sk ((i : Int) - 1) else fv .f32 0) := ⟨_, rfl⟩
  rw [← how, ← hbf] at hsi
  repeat first | refine zaa rfl (zay rfl) ?_ | refine zaa rfl (zaz rfl) ?_ | (refine zac ?_; refine zaa rfl (zbe rfl rfl) ?_) | (refine zad ?_; refine zaa rfl (zbn rfl) ?_) | refine zah ?_ | (refine zcr ?_; refine zcs ?_) | (refine zdb ?_; first | refine zdc ?_ | refine zdd ?_ | refine zde ?_ | refine zdf ?_)
  refine ws_thenJ (ι := Unit) (fun _ => [(1, .f .f32 t), (6, .raw (.slice (some ⟨a, 0, none⟩) (k + 1) ca)), (7, .raw (.slice (some ⟨g, 0, none⟩) i cg)), (8, .raw (.int .i64 (i : Nat))), (9, .f .f32 ow), (10, .f .f32 (fv .f32 0)), (20, .raw (.int .i64 (n : Nat))), (21, .raw (.int .i64 (k : Nat))), (26, .raw (.int .i64 (((k + 1 : Nat) : Int) + 1))), (27, .raw (.int .i64 (i : Nat)))])
    (fun _ => St w0 [] [entF g 29 i sk1 cg, entF a 29 (k + 1) sk ca]) (fun _ => True) ?_ (fun _ _ => ?_)
  · by_cases hik : i < k + 1
    · have e : ow = sk i := by rw [how, if_pos (by omega)]
      rw [e]
      skip
      rw [decide_eq_true (show (i : Int) < ((k + 1 : Nat) : Int) by omega)]
      repeat first | refine zaa rfl (zay rfl) ?_ | refine zaa rfl (zaz rfl) ?_ | (refine zae ?_; refine zaa rfl (zbt rfl rfl (by (repeat (first | exact mh | refine mt ?_)); done) (by omega)) ?_) | (refine zaf ?_; refine zaa rfl (zbw rfl rfl (by omega) (by omega)) ?_) | refine zah ?_ | (refine zdb ?_; first | refine zdd ?_ | refine zdi rfl ?_)
      exact done_join () trivial (by (repeat (first | exact Env.sub_nil _ | refine Env.sub_cons rfl ?_))) (fun _ h => h)
    · have e : ow = fv .f32 0 := by rw [how, if_neg (by omega)]
      rw [e]
      skip
      rw [decide_eq_false (show ¬ (i : Int) < ((k + 1 : Nat) : Int) by omega)]
      repeat ((refine zdb ?_; first | refine zdf ?_ | refine zdj rfl ?_))
      exact done_join () trivial (by (repeat (first | exact Env.sub_nil _ | refine Env.sub_cons rfl ?_))) (fun _ h => h)
  repeat first | refine zaa rfl (zay rfl) ?_ | (refine zac ?_; refine zaa rfl (zbg rfl rfl) ?_) | refine zah ?_ | (refine zcr ?_; refine zcs ?_) | (refine zdb ?_; first | refine zdc ?_ | refine zdd ?_)
  refine ws_thenJ (ι := Unit) (fun _ => [(1, .f .f32 t), (6, .raw (.slice (some ⟨a, 0, none⟩) (k + 1) ca)), (7, .raw (.slice (some ⟨g, 0, none⟩) i cg)), (8, .raw (.int .i64 (i : Nat))), (9, .f .f32 ow), (10, .f .f32 bf), (20, .raw (.int .i64 (n : Nat))), (21, .raw (.int .i64 (k : Nat))), (26, .raw (.int .i64 (((k + 1 : Nat) : Int) + 1))), (27, .raw (.int .i64 (i : Nat)))])
    (fun _ => St w0 [] [entF g 29 i sk1 cg, entF a 29 (k + 1) sk ca]) (fun _ => True) ?_ (fun _ _ => ?_)
  · by_cases hi0 : 0 < i
    · have e : bf = sk ((i : Int) - 1) := by rw [hbf, if_pos (by omega)]
      rw [e]
      skip
      rw [decide_eq_true (show (0 : Int) < (i : Int) by omega)]
      repeat first | refine zaa rfl (zay rfl) ?_ | refine zaa rfl (zaz rfl) ?_ | (refine zac ?_; refine zaa rfl (zbc rfl rfl (by omega)) ?_) | (refine zae ?_; refine zaa rfl (zbt rfl rfl (by (repeat (first | exact mh | refine mt ?_)); done) (by omega)) ?_) | (refine zaf ?_; refine zaa rfl (zbw rfl rfl (by omega) (by omega)) ?_) | refine zah ?_ | (refine zdb ?_; first | refine zdd ?_ | refine zdi rfl ?_)
      exact done_join () trivial (by (repeat (first | exact Env.sub_nil _ | refine Env.sub_cons rfl ?_))) (fun _ h => h)
    · have e : bf = fv .f32 0 := by rw [hbf, if_neg (by omega)]
      rw [e]
      skip
      rw [decide_eq_false (show ¬ (0 : Int) < (i : Int) by omega)]
      repeat ((refine zdb ?_; first | refine zdf ?_ | refine zdj rfl ?_))
      exact done_join () trivial (by (repeat (first | exact Env.sub_nil _ | refine Env.sub_cons rfl ?_))) (fun _ h => h)
  repeat first | refine zaa rfl (zay rfl) ?_ | (refine zac ?_; refine zaa rfl (zba rfl rfl rfl) ?_) | (refine zdb ?_; refine zdd ?_) | refine zaa rfl (zco rfl rfl rfl rfl rfl rfl) ?_
  refine rs_appendT 0 sk1 rfl rfl rfl rfl ⟨hg1, by simp only [maxLen]; omega⟩ (by omega) rfl rfl hsi (fun s _ _ => rfl) fun g' cg' h1 h2 => ?_
  repeat first | refine zaa rfl (zay rfl) ?_ | refine zaa rfl (zaz rfl) ?_ | (refine zac ?_; refine zaa rfl (zbb rfl rfl (by omega)) ?_) | refine zah ?_ | (refine zcr ?_; first | refine zcs ?_ | refine zcv ?_) | (refine zdb ?_; refine zdd ?_)
  refine done_round (i + 1, g', cg') ⟨by simp only; omega, h1, h2⟩ (by simp only; omega) ?_ (fun _ h => h)
  simp only
  rw [show ((i + 1 : Nat) : Int) = (i : Int) + 1 by omega]
  (repeat (first | exact Env.sub_nil _ | refine Env.sub_cons rfl ?_))
theorem quarterCurve_fn {m : CV} {r : FV} (hm : finC m = true) (hr : aboveB r = true) (hQ : (tabC 3 (quarterP m r)).all finC = true) (hW : (tab 3 quarterW).all aboveB = true) :
    FnH (X := Nat × Nat) Try.prog 19 (fun _ => [cA m, .f .f32 r]) [] (fun y => .tup [crvOc y.1 y.2 3 3 3, .raw (.bool true)]) (fun y => [entF y.2 29 3 quarterW 3, entC y.1 3 (quarterP m r) 3]) (fun _ => True) := by
  have hI := isFiniteComplex_fn m
  rw [hm] at hI
  have hA := areMore_fn [r] (show 1 < 2 ^ 62 by decide)
  rw [show [r].all aboveB = true by simp [hr]] at hA
  have p0 := plus_fn m (r, fv .f32 0)
  have p1 := plus_fn m (r, r)
  have p2 := plus_fn m (fv .f32 0, r)
  refine fn_intro Try.func19 rfl Try.ntmps19 (fun _ => Nat.le_of_ble_eq_true rfl) fun w0 => ?_
  repeat first | refine zai rfl rfl ?_ | refine zaa rfl (zay rfl) ?_ | refine zaa rfl (zaz rfl) ?_ | (refine zad ?_; first | refine zaa rfl (zbr rfl rfl) ?_ | (refine zaa rfl (zci rfl rfl (hI) ?_) ?_; (focus ((repeat (first | exact Takes.nil | refine Takes.sl ?_ | refine Takes.lit ?_ | refine Takes.fa ?_ | refine Takes.fc ?_ | refine Takes.net ?_ | (refine Takes.ownE ?_ ?_ ?_ ?_ ?_; (focus (exact ⟨_, _, (by (repeat (first | exact mh | refine mt ?_)); done)⟩)); (focus (simp; done)); (focus omega); (focus (simp only [maxLen]; omega))) | refine Takes.same ?_)); done))) | (refine zaa rfl (zci rfl rfl (hA) ?_) ?_; (focus ((repeat (first | exact Takes.nil | refine Takes.sl ?_ | refine Takes.lit ?_ | refine Takes.fa ?_ | refine Takes.fc ?_ | refine Takes.net ?_ | (refine Takes.ownE ?_ ?_ ?_ ?_ ?_; (focus (exact ⟨_, _, (by (repeat (first | exact mh | refine mt ?_)); done)⟩)); (focus (simp; done)); (focus omega); (focus (simp only [maxLen]; omega))) | refine Takes.same ?_)); done))) | (refine zaa rfl (zci rfl rfl (p0) ?_) ?_; (focus ((repeat (first | exact Takes.nil | refine Takes.sl ?_ | refine Takes.lit ?_ | refine Takes.fa ?_ | refine Takes.fc ?_ | refine Takes.net ?_ | (refine Takes.ownE ?_ ?_ ?_ ?_ ?_; (focus (exact ⟨_, _, (by (repeat (first | exact mh | refine mt ?_)); done)⟩)); (focus (simp; done)); (focus omega); (focus (simp only [maxLen]; omega))) | refine Takes.same ?_)); done))) | (refine zaa rfl (zci rfl rfl (p1) ?_) ?_; (focus ((repeat (first | exact Takes.nil | refine Takes.sl ?_ | refine Takes.lit ?_ | refine Takes.fa ?_ | refine Takes.fc ?_ | refine Takes.net ?_ | (refine Takes.ownE ?_ ?_ ?_ ?_ ?_; (focus (exact ⟨_, _, (by (repeat (first | exact mh | refine mt ?_)); done)⟩)); (focus (simp; done)); (focus omega); (focus (simp only [maxLen]; omega))) | refine Takes.same ?_)); done))) | (refine zaa rfl (zci rfl rfl (p2) ?_) ?_; (focus ((repeat (first | exact Takes.nil | refine Takes.sl ?_ | refine Takes.lit ?_ | refine Takes.fa ?_ | refine Takes.fc ?_ | refine Takes.net ?_ | (refine Takes.ownE ?_ ?_ ?_ ?_ ?_; (focus (exact ⟨_, _, (by (repeat (first | exact mh | refine mt ?_)); done)⟩)); (focus (simp; done)); (focus omega); (focus (simp only [maxLen]; omega))) | refine Takes.same ?_)); done)))) | refine zaa rfl (zcb rfl rfl) ?_ | refine zaa rfl (zcc rfl) ?_ | refine zah ?_ | (refine zcr ?_; refine zcs ?_) | (refine zdb ?_; first | refine zdc ?_ | refine zdd ?_ | refine zdf ?_ | refine zdj rfl ?_) | (refine zal rfl rfl ?_; intro g) | refine zaa rfl (zco (t := 25) (n := 1) rfl rfl rfl rfl rfl rfl) ?_ | (refine rs_litP (t := 24) rfl rfl rfl rfl rfl rfl ?_; intro a) | (refine rs_litP (t := 25) (n := 3) rfl rfl rfl rfl rfl rfl ?_; intro b) | refine zaa rfl (opj_buildV rfl rfl) ?_
  have eC : (⟨a, 31, [cA (addC2 m (r, fv .f32 0)), cA (addC2 m (r, r)), cA (addC2 m (fv .f32 0, r))], 3⟩ : Ent) = entC a 3 (quarterP m r) 3 := entC_lit3 a (quarterP m r)
  have eF : (⟨b, 29, [cv (Value.float FloatKind.f32 1065353216), cv (Value.float FloatKind.f32 1060439283), cv (Value.float FloatKind.f32 1065353216)], 3⟩ : Ent) = entF b 29 3 quarterW 3 := entF_lit3 b _ quarterW
  rw [eC, eF]
  refine rs_call (pre := [entF b 29 3 quarterW 3, entC a 3 (quarterP m r) 3]) (ifCurveD_yes (by omega) hQ hW ⟨Nat.le_refl _, by simp only [maxLen]; decide⟩ ⟨Nat.le_refl _, by simp only [maxLen]; decide⟩) rfl rfl (Takes.same Takes.nil) rfl fun _ _ => ?_
  repeat first | refine zaa rfl (zaz rfl) ?_ | refine zaa rfl (zbz rfl rfl) ?_ | refine zah ?_ | (refine zcr ?_; refine zcs ?_) | (refine zdb ?_; refine zdg ?_) | (refine zag ?_; refine zan 2 rfl rfl rfl rfl rfl rfl rfl rfl rfl ?_)
  exact done_retCX rfl rfl (a, b) rfl rfl (mt (mt mh)) rfl rfl rfl trivial (.cons_cons _ (.cons_cons _ (List.nil_sublist _)))
def blendWd (T Tc : TypeId) (w0 : World) (g3 g4 g6 g8 n : Nat) (P Q : Nat → CV) (f h : Int → FV) (P' : Nat → CV) (f' : Int → FV) (y : Nat × (Nat × Nat) × Nat × Nat) : World → Prop := match y.1 with
  | 0 => St w0 [] [⟨g8, Tc, [.raw (.slice none 0 0), .raw (.slice none 0 0)], 2⟩, ⟨g6, Tc, [.raw (.slice none 0 0), .raw (.slice none 0 0)], 2⟩, ⟨g4, Tc, [slC w0 (tabC n Q), AV.sl w0 1 ((tab n h).map (AV.f .f32))], 2⟩, ⟨g3, Tc, [slC w0 (tabC n P), AV.sl w0 1 ((tab n f).map (AV.f .f32))], 2⟩]
  | i + 1 => St w0 [] [⟨g8, Tc, [.raw (.slice (some ⟨y.2.1.1, 0, none⟩) (i + 1) y.2.2.1), .raw (.slice (some ⟨y.2.1.2, 0, none⟩) (i + 1) y.2.2.2)], 2⟩, ⟨g6, Tc, [.raw (.slice none 0 0), .raw (.slice none 0 0)], 2⟩, ⟨g4, Tc, [slC w0 (tabC n Q), AV.sl w0 1 ((tab n h).map (AV.f .f32))], 2⟩, ⟨g3, Tc, [slC w0 (tabC n P), AV.sl w0 1 ((tab n f).map (AV.f .f32))], 2⟩, entF y.2.1.2 T (i + 1) f' y.2.2.2, entC y.2.1.1 (i + 1) P' y.2.2.1]
set_option maxHeartbeats 4000000 in
theorem blendCurves_fn {n : Nat} {P Q : Nat → CV} {f h : Int → FV} {s : FV} (hn : 2 ≤ n ∧ n ≤ 8) (hP : (tabC n P).all finC = true) (hf : (tab n f).all aboveB = true) (hQ : (tabC n Q).all finC = true) (hh : (tab n h).all aboveB = true) (hs : Fn Try.prog 23 (fun _ => [.f .f32 s]) (.raw (.bool true)))
    (hB : (tabC n (blendP P Q s)).all finC = true) (hb : (tab n (blendW f h s)).all aboveB = true) :
    FnH (X := (Nat × Nat) × Nat × Nat) Try.prog 16 (fun w => [crvA w n P f, crvA w n Q h, .f .f32 s]) []
      (fun y => .tup [crvOc y.1.1 y.1.2 n y.2.1 y.2.2, .raw (.bool true)]) (fun y => [entF y.1.2 29 n (blendW f h s) y.2.2, entC y.1.1 n (blendP P Q s) y.2.1]) (fun y => (n ≤ y.2.1 ∧ y.2.1 ≤ maxLen) ∧ n ≤ y.2.2 ∧ y.2.2 ≤ maxLen) := by
  have hV := validCurve_yes hn hP hf
  have hV2 := validCurve_yes hn hQ hh
  have hD := degree_fn n P f (by omega)
  have hD2 := degree_fn n Q h (by omega)
  have d : decide (¬ ((n : Int) - 1 = (n : Int) - 1)) = false := by simp
  obtain ⟨P', hP'⟩ : ∃ P', P' = blendP P Q s := ⟨_, rfl⟩
  obtain ⟨f', hf'⟩ : ∃ f', f' = blendW f h s := ⟨_, rfl⟩
  rw [← hP'] at hB
  rw [← hf'] at hb
  rw [← hP', ← hf']
  refine fn_intro Try.func16 rfl Try.ntmps16 (fun _ => Nat.le_of_ble_eq_true rfl) fun w0 => ?_
  repeat first | refine zaa rfl (zaz rfl) ?_ | refine zah ?_ | (refine zcr ?_; refine zcs ?_) | (refine zdb ?_; first | refine zdc ?_ | refine zdd ?_) | (refine zak rfl rfl rfl ?_; intro g) | (refine zal rfl rfl ?_; intro g)
  refine ws_draw (n := 20) mixed (by decide +kernel) ?_
  repeat first | refine zaw rfl rfl ?_ | refine zap rfl (zay rfl) ?_ | (refine zar ?_; refine zap rfl (zbj rfl rfl) ?_) | (refine zat ?_; refine zap rfl (zcg rfl rfl (by (repeat (first | exact mh | refine mt ?_)); done) rfl rfl) ?_) | refine zap rfl (zcb rfl rfl) ?_ | refine zap rfl (zcc rfl) ?_ | refine zap rfl (zci rfl rfl hV (Takes.crv Takes.nil)) ?_ | refine zap rfl (zci rfl rfl hV2 (Takes.crv Takes.nil)) ?_ | refine zap rfl (zci rfl rfl hD (Takes.crv Takes.nil)) ?_ | refine zap rfl (zci rfl rfl hD2 (Takes.crv Takes.nil)) ?_
  rw [d]
  repeat first | refine zaw rfl rfl ?_ | refine zap rfl (zay rfl) ?_ | (refine zas ?_; (refine zap rfl (zci rfl rfl (hs) ?_) ?_; (focus ((repeat (first | exact Takes.nil | refine Takes.sl ?_ | refine Takes.lit ?_ | refine Takes.fa ?_ | refine Takes.fc ?_ | refine Takes.net ?_ | (refine Takes.ownE ?_ ?_ ?_ ?_ ?_; (focus (exact ⟨_, _, (by (repeat (first | exact mh | refine mt ?_)); done)⟩)); (focus (simp; done)); (focus omega); (focus (simp only [maxLen]; omega))) | refine Takes.same ?_)); done)))) | refine zap rfl (zcb rfl rfl) ?_ | refine zap rfl (zcc rfl) ?_ | refine zav ?_
  repeat first | refine zaa rfl (zay rfl) ?_ | (refine zad ?_; refine zaa rfl (opj_lenC rfl) ?_) | (refine zae ?_; refine zaa rfl (zcf rfl rfl (by (repeat (first | exact mh | refine mt ?_)); done) rfl) ?_) | refine zaa rfl (zcd rfl) ?_ | refine zah ?_ | (refine zcr ?_; refine zcs ?_) | (refine zdb ?_; first | refine zdc ?_ | refine zdd ?_ | refine zde ?_ | refine zdf ?_ | refine zdj rfl ?_) | (refine zal rfl rfl ?_; intro g) | (refine zag ?_; refine zan 0 rfl rfl rfl rfl rfl rfl rfl rfl rfl ?_) | refine zaa rfl opj_buildZ ?_
  rename_i g3 g4 g6
  obtain ⟨g8, hg8⟩ : ∃ x, x = g := ⟨g, rfl⟩
  subst hg8
  refine ws_loop (ι := Nat × (Nat × Nat) × Nat × Nat) (fun y => [(2, .f .f32 s), (3, .raw (.pointer (some ⟨g3, 0, none⟩))), (4, .raw (.pointer (some ⟨g4, 0, none⟩))), (6, .raw (.pointer (some ⟨g6, 0, none⟩))), (8, .raw (.pointer (some ⟨g8, 0, none⟩))), (34, slC w0 (tabC n P)), (35, .raw (.int .i64 (n : Nat))), (36, .raw (.int .i64 (y.1 : Nat)))])
    (blendWd 29 27 w0 g3 g4 g6 g8 n P Q f h P' f') (fun y => y.1 ≤ n ∧ (y.1 ≤ y.2.2.1 ∧ y.2.2.1 ≤ maxLen) ∧ y.1 ≤ y.2.2.2 ∧ y.2.2.2 ≤ maxLen) (fun y => n - y.1) (0, (0, 0), 0, 0) ⟨by simp only; omega, by simp only; omega, by simp only; omega⟩ ?_ (fun _ h => h) (fun y hy => ?_)
  · (repeat (first | exact Env.sub_nil _ | refine Env.sub_cons rfl ?_))
  obtain ⟨i, ⟨a, b⟩, ca, cb⟩ := y
  simp only at hy ⊢
  obtain ⟨hi, ⟨hc1, hc2⟩, hc3, hc4⟩ := hy
  simp only [maxLen] at hc1 hc2 hc3 hc4
  have hm1 := minus_fn (Q (i : Int).toNat) (P (i : Int).toNat)
  have hs1 := scaled_fn (subC2 (Q (i : Int).toNat) (P (i : Int).toNat)) s
  have hp1 : Fn Try.prog 37 (fun _ => [cA (P (i : Int).toNat), cA (scaleC (subC2 (Q (i : Int).toNat) (P (i : Int).toNat)) s)]) (cA (P' i)) := by
    rw [hP']
    exact plus_fn _ _
  have eW : fbin .add .f32 (f i) (fbin .mul .f32 (fbin .sub .f32 (h i) (f i)) s) = f' i := by rw [hf']; rfl
  cases i with
  | zero =>
    unfold blendWd
    dsimp only
    repeat first | (refine zac ?_; refine zaa rfl (zbe rfl rfl) ?_) | refine zah ?_ | (refine zcr ?_; refine zcs ?_) | (refine zdb ?_; first | refine zdc ?_ | refine zdd ?_)
    refine ws_cond rfl (fun hd => ?_) (fun hd => ?_)
    case' refine_2 =>
      exfalso
      have := of_decide_eq_false hd
      omega
    clear hd
    repeat first | refine zaa rfl (zay rfl) ?_ | refine zaa rfl (zaz rfl) ?_ | (refine zae ?_; refine zaa rfl (zbu rfl rfl) ?_) | (refine zaf ?_; refine zaa rfl (opj_indexC rfl rfl (by omega) (by omega)) ?_) | refine zah ?_ | (refine zcr ?_; refine zcs ?_) | (refine zdb ?_; first | refine zdc ?_ | refine zdd ?_ | refine zde ?_ | refine zdf ?_)
    refine ws_draw (n := 14) mixed (by decide +kernel) ?_
    repeat first | refine zap rfl (zay rfl) ?_ | (refine zas ?_; first | (refine zap rfl (zci rfl rfl (hm1) ?_) ?_; (focus ((repeat (first | exact Takes.nil | refine Takes.sl ?_ | refine Takes.lit ?_ | refine Takes.fa ?_ | refine Takes.fc ?_ | refine Takes.net ?_ | (refine Takes.ownE ?_ ?_ ?_ ?_ ?_; (focus (exact ⟨_, _, (by (repeat (first | exact mh | refine mt ?_)); done)⟩)); (focus (simp; done)); (focus omega); (focus (simp only [maxLen]; omega))) | refine Takes.same ?_)); done))) | (refine zap rfl (zci rfl rfl (hs1) ?_) ?_; (focus ((repeat (first | exact Takes.nil | refine Takes.sl ?_ | refine Takes.lit ?_ | refine Takes.fa ?_ | refine Takes.fc ?_ | refine Takes.net ?_ | (refine Takes.ownE ?_ ?_ ?_ ?_ ?_; (focus (exact ⟨_, _, (by (repeat (first | exact mh | refine mt ?_)); done)⟩)); (focus (simp; done)); (focus omega); (focus (simp only [maxLen]; omega))) | refine Takes.same ?_)); done))) | (refine zap rfl (zci rfl rfl (hp1) ?_) ?_; (focus ((repeat (first | exact Takes.nil | refine Takes.sl ?_ | refine Takes.lit ?_ | refine Takes.fa ?_ | refine Takes.fc ?_ | refine Takes.net ?_ | (refine Takes.ownE ?_ ?_ ?_ ?_ ?_; (focus (exact ⟨_, _, (by (repeat (first | exact mh | refine mt ?_)); done)⟩)); (focus (simp; done)); (focus omega); (focus (simp only [maxLen]; omega))) | refine Takes.same ?_)); done)))) | (refine zat ?_; first | refine zap rfl (zcf rfl rfl (by (repeat (first | exact mh | refine mt ?_)); done) rfl) ?_ | refine zap rfl (zbu rfl rfl) ?_) | (refine zau ?_; refine zap rfl (opj_indexC rfl rfl (by omega) (by omega)) ?_) | refine zap rfl (zcd rfl) ?_ | refine zav ?_ | refine zap rfl (zco rfl rfl rfl rfl rfl rfl) ?_
    refine rs_appendNil2 (sz := 1) (m := 1) (ys := [cA (P' 0)]) rfl (by omega) rfl ⟨_, rfl, fun w v _ h => h.inv_p.2⟩ rfl (by omega) rfl (by simp only [maxLen]; omega) (by omega) rfl fun a' ca' h1 h2 => ?_
    rw [entC_one]
    repeat first | refine zaa rfl (zcd rfl) ?_ | refine zah ?_ | (refine zcr ?_; refine zcs ?_) | (refine zag ?_; refine zam 1 rfl rfl rfl rfl rfl rfl ?_)
    refine ws_draw (n := 22) mixed (by decide +kernel) ?_
    repeat first | refine zap rfl (zay rfl) ?_ | (refine zar ?_; refine zap rfl (zba rfl rfl rfl) ?_) | (refine zat ?_; first | refine zap rfl (zcf rfl rfl (by (repeat (first | exact mh | refine mt ?_)); done) rfl) ?_ | refine zap rfl (zbu rfl rfl) ?_) | (refine zau ?_; refine zap rfl (zbs rfl rfl (by omega) (by omega)) ?_) | refine zap rfl (zcd rfl) ?_
    rw [eW]
    repeat first | refine zav ?_ | refine zap rfl (zco rfl rfl rfl rfl rfl rfl) ?_
    refine rs_appendNil2 (sz := 1) (m := 1) (ys := [.f .f32 (f' ((0 : Nat) : Int))]) rfl (by omega) rfl ⟨_, rfl, fun w v _ h => h.inv_p.2⟩ rfl (by omega) rfl (by simp only [maxLen]; omega) (by omega) rfl fun b' cb' h3 h4 => ?_
    rw [entF_one0]
    repeat first | refine zaa rfl (zay rfl) ?_ | (refine zac ?_; refine zaa rfl (zbb rfl rfl (by omega)) ?_) | refine zaa rfl (zcd rfl) ?_ | refine zah ?_ | (refine zcr ?_; first | refine zcs ?_ | refine zcv ?_) | (refine zdb ?_; refine zdd ?_) | (refine zag ?_; refine zam 2 rfl rfl rfl rfl rfl rfl ?_)
    refine done_round (0 + 1, (a', b'), ca', cb') ⟨by simp only; omega, ⟨h1, h2⟩, h3, h4⟩ (by simp only; omega) ?_ (fun w h => ?_)
    · simp only
      (repeat (first | exact Env.sub_nil _ | refine Env.sub_cons rfl ?_))
    · exact h.perm (List.perm_append_comm (l₁ := [_, _, _, _]) (l₂ := [_, _]))
  | succ j =>
    unfold blendWd
    dsimp only
    repeat first | (refine zac ?_; refine zaa rfl (zbe rfl rfl) ?_) | refine zah ?_ | (refine zcr ?_; refine zcs ?_) | (refine zdb ?_; first | refine zdc ?_ | refine zdd ?_)
    refine ws_cond rfl (fun hd => ?_) (fun hd => ?_)
    case' refine_2 =>
      have hjn : n = j + 1 := by have := of_decide_eq_false hd; omega
      subst hjn
      repeat first | (refine zae ?_; refine zaa rfl (zcg rfl rfl (by (repeat (first | exact mh | refine mt ?_)); done) rfl rfl) ?_) | (refine zcr ?_; first | refine zcs ?_ | refine zcu ?_ | refine zcx ?_ | refine zda ?_) | (refine zdb ?_; first | refine zdc ?_ | refine zdd ?_ | refine zdh ?_)
      refine RS.perm (H' := [entF b 29 (j + 1) f' cb, entC a (j + 1) P' ca] ++ [_, _, _, _]) ?_ (List.perm_append_comm (l₁ := [_, _]) (l₂ := [_, _, _, _]))
      refine rs_call (pre := [entF b 29 (j + 1) f' cb, entC a (j + 1) P' ca]) (ifCurveD_yes hn hB hb ⟨hc1, by simp only [maxLen]; omega⟩ ⟨hc3, by simp only [maxLen]; omega⟩) rfl rfl (Takes.same Takes.nil) rfl fun _ _ => ?_
      repeat first | refine zaa rfl (zaz rfl) ?_ | refine zaa rfl (zbz rfl rfl) ?_ | refine zah ?_ | (refine zcr ?_; refine zcs ?_) | (refine zdb ?_; refine zdg ?_) | (refine zag ?_; refine zan 3 rfl rfl rfl rfl rfl rfl rfl rfl rfl ?_)
      exact done_retCX rfl rfl ((a, b), ca, cb) rfl rfl (mt (mt (mt mh))) rfl rfl rfl ⟨⟨hc1, by simp only [maxLen]; omega⟩, hc3, by simp only [maxLen]; omega⟩ (.cons_cons _ (.cons_cons _ (List.nil_sublist _)))
    have hlt : ((j + 1 : Nat) : Int) < (n : Int) := of_decide_eq_true hd
    clear hd
    repeat first | refine zaa rfl (zay rfl) ?_ | refine zaa rfl (zaz rfl) ?_ | (refine zae ?_; refine zaa rfl (zbu rfl rfl) ?_) | (refine zaf ?_; refine zaa rfl (opj_indexC rfl rfl (by omega) (by omega)) ?_) | refine zah ?_ | (refine zcr ?_; refine zcs ?_) | (refine zdb ?_; first | refine zdc ?_ | refine zdd ?_ | refine zde ?_ | refine zdf ?_)
    refine ws_draw (n := 14) mixed (by decide +kernel) ?_
    repeat first | refine zap rfl (zay rfl) ?_ | (refine zas ?_; first | (refine zap rfl (zci rfl rfl (hm1) ?_) ?_; (focus ((repeat (first | exact Takes.nil | refine Takes.sl ?_ | refine Takes.lit ?_ | refine Takes.fa ?_ | refine Takes.fc ?_ | refine Takes.net ?_ | (refine Takes.ownE ?_ ?_ ?_ ?_ ?_; (focus (exact ⟨_, _, (by (repeat (first | exact mh | refine mt ?_)); done)⟩)); (focus (simp; done)); (focus omega); (focus (simp only [maxLen]; omega))) | refine Takes.same ?_)); done))) | (refine zap rfl (zci rfl rfl (hs1) ?_) ?_; (focus ((repeat (first | exact Takes.nil | refine Takes.sl ?_ | refine Takes.lit ?_ | refine Takes.fa ?_ | refine Takes.fc ?_ | refine Takes.net ?_ | (refine Takes.ownE ?_ ?_ ?_ ?_ ?_; (focus (exact ⟨_, _, (by (repeat (first | exact mh | refine mt ?_)); done)⟩)); (focus (simp; done)); (focus omega); (focus (simp only [maxLen]; omega))) | refine Takes.same ?_)); done))) | (refine zap rfl (zci rfl rfl (hp1) ?_) ?_; (focus ((repeat (first | exact Takes.nil | refine Takes.sl ?_ | refine Takes.lit ?_ | refine Takes.fa ?_ | refine Takes.fc ?_ | refine Takes.net ?_ | (refine Takes.ownE ?_ ?_ ?_ ?_ ?_; (focus (exact ⟨_, _, (by (repeat (first | exact mh | refine mt ?_)); done)⟩)); (focus (simp; done)); (focus omega); (focus (simp only [maxLen]; omega))) | refine Takes.same ?_)); done)))) | (refine zat ?_; first | refine zap rfl (zcf rfl rfl (by (repeat (first | exact mh | refine mt ?_)); done) rfl) ?_ | refine zap rfl (zbu rfl rfl) ?_) | (refine zau ?_; refine zap rfl (opj_indexC rfl rfl (by omega) (by omega)) ?_) | refine zap rfl (zcd rfl) ?_ | refine zav ?_ | refine zap rfl (zco rfl rfl rfl rfl rfl rfl) ?_
    refine rs_appendC 5 P' rfl rfl rfl rfl ⟨hc1, by simp only [maxLen]; omega⟩ (by omega) rfl rfl rfl (fun s _ => rfl) fun a' ca' h1 h2 => ?_
    repeat first | refine zaa rfl (zcd rfl) ?_ | refine zah ?_ | (refine zcr ?_; refine zcs ?_) | (refine zag ?_; refine zam 0 rfl rfl rfl rfl rfl rfl ?_)
    refine ws_draw (n := 22) mixed (by decide +kernel) ?_
    repeat first | refine zap rfl (zay rfl) ?_ | (refine zar ?_; refine zap rfl (zba rfl rfl rfl) ?_) | (refine zat ?_; first | refine zap rfl (zcf rfl rfl (by (repeat (first | exact mh | refine mt ?_)); done) rfl) ?_ | refine zap rfl (zbu rfl rfl) ?_) | (refine zau ?_; refine zap rfl (zbs rfl rfl (by omega) (by omega)) ?_) | refine zap rfl (zcd rfl) ?_
    rw [eW]
    repeat first | refine zav ?_ | refine zap rfl (zco rfl rfl rfl rfl rfl rfl) ?_
    refine rs_appendT 4 f' rfl rfl rfl rfl ⟨hc3, by simp only [maxLen]; omega⟩ (by omega) rfl rfl rfl (fun s _ _ => rfl) fun b' cb' h3 h4 => ?_
    repeat first | refine zaa rfl (zay rfl) ?_ | (refine zac ?_; refine zaa rfl (zbb rfl rfl (by omega)) ?_) | refine zaa rfl (zcd rfl) ?_ | refine zah ?_ | (refine zcr ?_; first | refine zcs ?_ | refine zcv ?_) | (refine zdb ?_; refine zdd ?_) | (refine zag ?_; refine zam 0 rfl rfl rfl rfl rfl rfl ?_)
    refine done_round (j + 1 + 1, (a', b'), ca', cb') ⟨by simp only; omega, ⟨h1, h2⟩, h3, h4⟩ (by simp only; omega) ?_ (fun w h => ?_)
    · simp only
      rw [show ((j + 1 + 1 : Nat) : Int) = ((j + 1 : Nat) : Int) + 1 by omega]
      (repeat (first | exact Env.sub_nil _ | refine Env.sub_cons rfl ?_))
    · exact h
end Go.Ab
