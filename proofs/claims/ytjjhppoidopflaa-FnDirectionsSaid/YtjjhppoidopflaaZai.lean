/- Part 9 of the texts on which the law leans, joined: The law's curves and times, by value. No conditions. -/
import Derived.Test.YtjjhppoidopflaaZah
namespace Go.Ab
open Go.Proofs
variable {R : World → Prop} [RStab R]
/-- The points of a curve of slopes. -/
def diffP (n : Nat) (P : Nat → CV) (i : Nat) : CV := scaleC (subC2 (P (i + 1)) (P i)) (some (FloatKind.f32.nearest ((n : Int) - 1)))
/-- The shares of points, level by level. -/
def shareT (t : FV) : Nat → Int → FV
  | 0 => fun _ => one1
  | k + 1 => fun i => fbin .add .f32 (fbin .mul .f32 (if i < (k : Int) + 1 then shareT t k i else fv .f32 0) (fbin .sub .f32 one1 t)) (fbin .mul .f32 (if 0 < i then shareT t k (i - 1) else fv .f32 0) t)
theorem entF_nilU (g c : Nat) (T : TypeId) (f : Int → FV) : (⟨g, T, [], c⟩ : Ent) = entF g T 0 f c := by
  unfold entF tab
  rfl
theorem entC_nilU (g c : Nat) (F : Nat → CV) : (⟨g, 31, [], c⟩ : Ent) = entC g 0 F c := by
  unfold entC tabC
  rfl
theorem entC_lit3 (g : Nat) (F : Nat → CV) : (⟨g, 31, [cA (F 0), cA (F 1), cA (F 2)], 3⟩ : Ent) = entC g 3 F 3 := by
  unfold entC tabC
  rfl
attribute [local irreducible] WS RS Done OpJ Then InBlock Round Ret Env.sub FnH
attribute [local irreducible] tab tabC
def slopesWd (T Tc : TypeId) (w0 : World) (g1 g2 g4 n b : Nat) (P : Nat → CV) (f : Int → FV) (P' : Nat → CV) (y : Nat × Nat × Nat) : World → Prop := match y.1 with
  | 0 => St w0 [] [⟨g4, Tc, [.raw (.slice none 0 0), .raw (.slice (some ⟨b, 0, none⟩) (n - 1) (n - 1))], 2⟩, entF b T (n - 1) (fun _ => one1) (n - 1), ⟨g2, Tc, [.raw (.slice none 0 0), .raw (.slice none 0 0)], 2⟩, ⟨g1, Tc, [slC w0 (tabC n P), AV.sl w0 1 ((tab n f).map (AV.f .f32))], 2⟩]
  | i + 1 => St w0 [] [⟨g4, Tc, [.raw (.slice (some ⟨y.2.1, 0, none⟩) (i + 1) y.2.2), .raw (.slice (some ⟨b, 0, none⟩) (n - 1) (n - 1))], 2⟩, entF b T (n - 1) (fun _ => one1) (n - 1), ⟨g2, Tc, [.raw (.slice none 0 0), .raw (.slice none 0 0)], 2⟩, ⟨g1, Tc, [slC w0 (tabC n P), AV.sl w0 1 ((tab n f).map (AV.f .f32))], 2⟩, entC y.2.1 (i + 1) P' y.2.2]
theorem slopes_fn {n : Nat} {P : Nat → CV} {f : Int → FV} (hn : 2 ≤ n ∧ n ≤ 1000) :
    FnH (X := (Nat × Nat) × Nat) Try.prog 66 (fun w => [crvA w n P f]) []
      (fun y => crvOc y.1.1 y.1.2 (n - 1) y.2 (n - 1)) (fun y => [entF y.1.2 30 (n - 1) (fun _ => one1) (n - 1), entC y.1.1 (n - 1) (diffP n P) y.2]) (fun y => n - 1 ≤ y.2 ∧ y.2 ≤ maxLen) := by
  have hD := degree_fn n P f (by omega)
  have hO := ones_fn (n - 1) (by omega)
  rw [show ((n - 1 : Nat) : Int) = (n : Int) - 1 by omega] at hO
  obtain ⟨P', hP'⟩ : ∃ P' : Nat → CV, P' = diffP n P := ⟨_, rfl⟩
  have hm : ∀ i : Nat, Fn Try.prog 40 (fun _ => [cA (P ((i : Int) + 1).toNat), cA (P (i : Int).toNat)]) (cA (subC2 (P (i + 1)) (P i))) := fun i => by
    rw [show ((i : Int) + 1).toNat = i + 1 by omega]
    exact minus_fn (P (i + 1)) (P i)
  have hs : ∀ i : Nat, Fn Try.prog 79 (fun _ => [cA (subC2 (P (i + 1)) (P i)), .f .f32 (some (FloatKind.f32.nearest ((n : Int) - 1)))]) (cA (P' i)) := fun i => by
    rw [hP']
    exact scaled_fn _ _
  rw [← hP']
  refine fn_intro Try.func66 rfl Try.ntmps66 (fun _ => Nat.le_of_ble_eq_true rfl) fun w0 => ?_
  repeat first | refine zaa rfl (zay rfl) ?_ | refine zaa rfl (zaz rfl) ?_ | (refine zad ?_; (refine rs_call1 (hO) rfl rfl ?_ rfl ?_; (focus ((repeat (first | exact Takes.nil | refine Takes.sl ?_ | refine Takes.lit ?_ | refine Takes.fa ?_ | refine Takes.fc ?_ | refine Takes.net ?_ | (refine Takes.ownE ?_ ?_ ?_ ?_ ?_; (focus (exact ⟨_, _, (by (repeat (first | exact mh | refine mt ?_)); done)⟩)); (focus (simp; done)); (focus omega); (focus (simp only [maxLen]; omega))) | refine Takes.same ?_)); done)); intro b _)) | (refine zae ?_; refine zaa rfl (zcg rfl rfl (by (repeat (first | exact mh | refine mt ?_)); done) rfl rfl) ?_) | refine zah ?_ | (refine zcr ?_; refine zcs ?_) | (refine zdb ?_; first | refine zdc ?_ | refine zdd ?_ | refine zde ?_) | (refine zak rfl rfl rfl ?_; intro g) | (refine zal rfl rfl ?_; intro g) | (refine zag ?_; refine zan 0 rfl rfl rfl rfl rfl rfl rfl rfl rfl ?_) | refine zaa rfl (zci rfl rfl hD (Takes.crv Takes.nil)) ?_ | refine zaa rfl (opj_buildW rfl) ?_
  rename_i g1 g2 _
  obtain ⟨g4, hg4⟩ : ∃ x, x = g := ⟨g, rfl⟩
  subst hg4
  refine ws_loop (ι := Nat × Nat × Nat) (fun y => [(1, .raw (.pointer (some ⟨g1, 0, none⟩))), (2, .raw (.pointer (some ⟨g2, 0, none⟩))), (3, .raw (.int .i64 ((n : Int) - 1))), (4, .raw (.pointer (some ⟨g4, 0, none⟩))), (11, .raw (.int .i64 ((n : Int) - 1))), (12, .raw (.int .i64 (y.1 : Nat)))])
    (slopesWd 30 27 w0 g1 g2 g4 n b P f P') (fun y => y.1 + 1 ≤ n ∧ y.1 ≤ y.2.2 ∧ y.2.2 ≤ maxLen) (fun y => n - y.1) (0, 0, 0) ⟨by simp only; omega, by simp only; omega, by simp only; omega⟩ ?_ (fun w h => h) (fun y hy => ?_)
  · (repeat (first | exact Env.sub_nil _ | refine Env.sub_cons rfl ?_))
  obtain ⟨i, a, ca⟩ := y
  simp only at hy ⊢
  obtain ⟨hi, hc1, hc2⟩ := hy
  simp only [maxLen] at hc1 hc2
  have hmi := hm i
  have hsi := hs i
  cases i with
  | zero =>
    unfold slopesWd
    dsimp only
    repeat first | (refine zac ?_; refine zaa rfl (zbe rfl rfl) ?_) | refine zah ?_ | (refine zcr ?_; refine zcs ?_) | (refine zdb ?_; first | refine zdc ?_ | refine zdd ?_)
    refine ws_cond rfl (fun hd => ?_) (fun hd => ?_)
    case' refine_2 =>
      exfalso
      have := of_decide_eq_false hd
      omega
    clear hd
    repeat first | refine zaa rfl (zay rfl) ?_ | refine zaa rfl (zaz rfl) ?_ | refine zah ?_ | (refine zcr ?_; refine zcs ?_) | (refine zdb ?_; first | refine zdc ?_ | refine zdd ?_ | refine zde ?_ | refine zdf ?_)
    refine ws_draw (n := 18) mixed (by decide +kernel) ?_
    repeat first | refine zap rfl (zay rfl) ?_ | (refine zar ?_; refine zap rfl (zbb rfl rfl (by omega)) ?_) | (refine zas ?_; first | (refine zap rfl (zci rfl rfl (hmi) ?_) ?_; (focus ((repeat (first | exact Takes.nil | refine Takes.sl ?_ | refine Takes.lit ?_ | refine Takes.fa ?_ | refine Takes.fc ?_ | refine Takes.net ?_ | (refine Takes.ownE ?_ ?_ ?_ ?_ ?_; (focus (exact ⟨_, _, (by (repeat (first | exact mh | refine mt ?_)); done)⟩)); (focus (simp; done)); (focus omega); (focus (simp only [maxLen]; omega))) | refine Takes.same ?_)); done))) | (refine zap rfl (zci rfl rfl (hsi) ?_) ?_; (focus ((repeat (first | exact Takes.nil | refine Takes.sl ?_ | refine Takes.lit ?_ | refine Takes.fa ?_ | refine Takes.fc ?_ | refine Takes.net ?_ | (refine Takes.ownE ?_ ?_ ?_ ?_ ?_; (focus (exact ⟨_, _, (by (repeat (first | exact mh | refine mt ?_)); done)⟩)); (focus (simp; done)); (focus omega); (focus (simp only [maxLen]; omega))) | refine Takes.same ?_)); done)))) | (refine zat ?_; first | refine zap rfl (zcf rfl rfl (by (repeat (first | exact mh | refine mt ?_)); done) rfl) ?_ | refine zap rfl (zbu rfl rfl) ?_) | (refine zau ?_; refine zap rfl (opj_indexC rfl rfl (by omega) (by omega)) ?_) | refine zap rfl (zcd rfl) ?_ | refine zap rfl (zby rfl) ?_ | refine zav ?_ | refine zap rfl (zco rfl rfl rfl rfl rfl rfl) ?_
    refine rs_appendNil2 (sz := 1) (m := 1) (ys := [cA (P' 0)]) rfl (by omega) rfl ⟨_, rfl, fun w v _ h => h.inv_p.2⟩ rfl (by omega) rfl (by simp only [maxLen]; omega) (by omega) rfl fun a' ca' h1 h2 => ?_
    rw [entC_one]
    repeat first | refine zaa rfl (zay rfl) ?_ | (refine zac ?_; refine zaa rfl (zbb rfl rfl (by omega)) ?_) | refine zaa rfl (zcd rfl) ?_ | refine zah ?_ | (refine zcr ?_; first | refine zcs ?_ | refine zcv ?_) | (refine zdb ?_; refine zdd ?_) | (refine zag ?_; refine zam 1 rfl rfl rfl rfl rfl rfl ?_)
    refine done_round (0 + 1, a', ca') ⟨by simp only; omega, h1, h2⟩ (by simp only; omega) ?_ (fun w h => ?_)
    · simp only
      (repeat (first | exact Env.sub_nil _ | refine Env.sub_cons rfl ?_))
    · exact h.perm (List.perm_append_comm (l₁ := [_, _, _, _]) (l₂ := [_]))
  | succ j =>
    unfold slopesWd
    dsimp only
    repeat first | (refine zac ?_; refine zaa rfl (zbe rfl rfl) ?_) | refine zah ?_ | (refine zcr ?_; refine zcs ?_) | (refine zdb ?_; first | refine zdc ?_ | refine zdd ?_)
    refine ws_cond rfl (fun hd => ?_) (fun hd => ?_)
    case' refine_2 =>
      have hjn : n - 1 = j + 1 := by have := of_decide_eq_false hd; omega
      rw [hjn]
      repeat first | (refine zae ?_; refine zaa rfl (zcg rfl rfl (by (repeat (first | exact mh | refine mt ?_)); done) rfl rfl) ?_) | refine zah ?_ | (refine zcr ?_; first | refine zcs ?_ | refine zcu ?_ | refine zcx ?_ | refine zda ?_) | (refine zdb ?_; first | refine zdc ?_ | refine zdd ?_ | refine zdg ?_ | refine zdh ?_) | (refine zag ?_; refine zan 2 rfl rfl rfl rfl rfl rfl rfl rfl rfl ?_)
      exact done_retX rfl rfl ((a, b), ca) rfl (mt (mt mh)) rfl rfl rfl ⟨hc1, by simp only [maxLen]; omega⟩ (.cons _ (.cons_cons _ (.cons _ (.cons _ (.cons_cons _ (List.nil_sublist _))))))
    have hlt : ((j + 1 : Nat) : Int) < (n : Int) - 1 := of_decide_eq_true hd
    clear hd
    repeat first | refine zaa rfl (zay rfl) ?_ | refine zaa rfl (zaz rfl) ?_ | refine zah ?_ | (refine zcr ?_; refine zcs ?_) | (refine zdb ?_; first | refine zdc ?_ | refine zdd ?_ | refine zde ?_ | refine zdf ?_)
    refine ws_draw (n := 18) mixed (by decide +kernel) ?_
    repeat first | refine zap rfl (zay rfl) ?_ | (refine zar ?_; refine zap rfl (zbb rfl rfl (by omega)) ?_) | (refine zas ?_; first | (refine zap rfl (zci rfl rfl (hmi) ?_) ?_; (focus ((repeat (first | exact Takes.nil | refine Takes.sl ?_ | refine Takes.lit ?_ | refine Takes.fa ?_ | refine Takes.fc ?_ | refine Takes.net ?_ | (refine Takes.ownE ?_ ?_ ?_ ?_ ?_; (focus (exact ⟨_, _, (by (repeat (first | exact mh | refine mt ?_)); done)⟩)); (focus (simp; done)); (focus omega); (focus (simp only [maxLen]; omega))) | refine Takes.same ?_)); done))) | (refine zap rfl (zci rfl rfl (hsi) ?_) ?_; (focus ((repeat (first | exact Takes.nil | refine Takes.sl ?_ | refine Takes.lit ?_ | refine Takes.fa ?_ | refine Takes.fc ?_ | refine Takes.net ?_ | (refine Takes.ownE ?_ ?_ ?_ ?_ ?_; (focus (exact ⟨_, _, (by (repeat (first | exact mh | refine mt ?_)); done)⟩)); (focus (simp; done)); (focus omega); (focus (simp only [maxLen]; omega))) | refine Takes.same ?_)); done)))) | (refine zat ?_; first | refine zap rfl (zcf rfl rfl (by (repeat (first | exact mh | refine mt ?_)); done) rfl) ?_ | refine zap rfl (zbu rfl rfl) ?_) | (refine zau ?_; refine zap rfl (opj_indexC rfl rfl (by omega) (by omega)) ?_) | refine zap rfl (zcd rfl) ?_ | refine zap rfl (zby rfl) ?_ | refine zav ?_ | refine zap rfl (zco rfl rfl rfl rfl rfl rfl) ?_
    refine rs_appendC 4 P' rfl rfl rfl rfl ⟨hc1, by simp only [maxLen]; omega⟩ (by omega) rfl rfl rfl (fun s _ => rfl) fun a' ca' h1 h2 => ?_
    repeat first | refine zaa rfl (zay rfl) ?_ | (refine zac ?_; refine zaa rfl (zbb rfl rfl (by omega)) ?_) | refine zaa rfl (zcd rfl) ?_ | refine zah ?_ | (refine zcr ?_; first | refine zcs ?_ | refine zcv ?_) | (refine zdb ?_; refine zdd ?_) | (refine zag ?_; refine zam 0 rfl rfl rfl rfl rfl rfl ?_)
    refine done_round (j + 1 + 1, a', ca') ⟨by simp only; omega, h1, h2⟩ (by simp only; omega) ?_ (fun w h => ?_)
    · simp only
      rw [show ((j + 1 + 1 : Nat) : Int) = ((j + 1 : Nat) : Int) + 1 by omega]
      (repeat (first | exact Env.sub_nil _ | refine Env.sub_cons rfl ?_))
    · exact h
theorem slopeCurve_yes {n : Nat} {P : Nat → CV} (hn : 3 ≤ n ∧ n ≤ 8) (hI : Fn Try.prog 48 (fun w => [crvA w n P (fun _ => one1)]) (.raw (.bool true))) (hQ : (tabC (n - 1) (diffP n P)).all finC = true) (h1 : (tab (n - 1) (fun _ => one1)).all aboveB = true) :
    FnH (X := (Nat × Nat) × Nat) Try.prog 37 (fun w => [crvA w n P (fun _ => one1)]) [] (fun y => .tup [crvOc y.1.1 y.1.2 (n - 1) y.2 (n - 1), .raw (.bool true)]) (fun y => [entF y.1.2 30 (n - 1) (fun _ => one1) (n - 1), entC y.1.1 (n - 1) (diffP n P) y.2]) (fun y => n - 1 ≤ y.2 ∧ y.2 ≤ maxLen) := by
  have hS := slopes_fn (n := n) (P := P) (f := fun _ => one1) (by omega)
  refine fn_intro Try.func37 rfl Try.ntmps37 (fun _ => Nat.le_of_ble_eq_true rfl) fun w0 => ?_
  repeat first | refine zaa rfl (zaz rfl) ?_ | (refine zae ?_; refine zaa rfl (zcg rfl rfl (by (repeat (first | exact mh | refine mt ?_)); done) rfl rfl) ?_) | refine zaa rfl (zcc rfl) ?_ | refine zah ?_ | (refine zcr ?_; refine zcs ?_) | (refine zdb ?_; first | refine zdc ?_ | refine zdd ?_ | refine zdf ?_ | refine zdj rfl ?_) | (refine zak rfl rfl rfl ?_; intro g) | (refine zal rfl rfl ?_; intro g) | refine zaa rfl (zci rfl rfl hI (Takes.crv Takes.nil)) ?_
  refine rs_callM3 hS rfl rfl (Takes.crv Takes.nil) rfl ?_
  rintro ⟨⟨a, b⟩, ca⟩ hc
  dsimp only at hc ⊢
  refine rs_call (pre := [entF b 30 (n - 1) (fun _ => one1) (n - 1), entC a (n - 1) (diffP n P) ca]) (ifCurveD_yes (by omega) hQ h1 hc ⟨Nat.le_refl _, by simp only [maxLen]; omega⟩) rfl rfl (Takes.same Takes.nil) rfl fun _ _ => ?_
  repeat first | refine zaa rfl (zaz rfl) ?_ | refine zaa rfl (zbz rfl rfl) ?_ | refine zah ?_ | (refine zcr ?_; refine zcs ?_) | (refine zdb ?_; refine zdg ?_) | (refine zag ?_; refine zan 2 rfl rfl rfl rfl rfl rfl rfl rfl rfl ?_)
  exact done_retCX rfl rfl ((a, b), ca) rfl rfl (mt (mt mh)) rfl rfl rfl hc (.cons_cons _ (.cons_cons _ (List.nil_sublist _)))
end Go.Ab
namespace Go.Ab
open Go.Proofs
variable {R : World → Prop} [RStab R]
/-- A number of quarters. -/
def qtF (a : Int) : FV := fbin .quo .f32 (some (FloatKind.f32.nearest a)) (fv .f32 1082130432)
def putU {α : Type} (i : Nat) (x : α) (f : Nat → α) (t : Nat) : α := if t = i then x else f t
theorem putU_at {α : Type} (i : Nat) (x : α) (f : Nat → α) : putU i x f i = x := if_pos rfl
theorem putU_ne {α : Type} {i t : Nat} (x : α) (f : Nat → α) (h : t ≠ i) : putU i x f t = f t := if_neg h
attribute [local irreducible] WS RS Done OpJ Then InBlock Round Ret Env.sub FnH
attribute [local irreducible] tab tabC
theorem specPlain_fn {n : Nat} {P : Nat → CV} (hn : 1 ≤ n ∧ n ≤ 1000) : FnH (X := (Nat × Nat) × Nat × Nat) Try.prog 21 (fun w => [slC w (tabC n P)]) [] (fun y => crvOc y.1.1 y.1.2 n y.2.1 y.2.2) (fun y => [entF y.1.2 30 n (fun _ => one1) y.2.2, entC y.1.1 n P y.2.1]) (fun y => (n ≤ y.2.1 ∧ y.2.1 ≤ maxLen) ∧ n ≤ y.2.2 ∧ y.2.2 ≤ maxLen) := by
  have hlen : ((tabC n P).map cA).length = n := by simp
  have hone := one_cA n P
  refine fn_intro Try.func21 rfl Try.ntmps21 (fun _ => Nat.le_of_ble_eq_true rfl) fun w0 => ?_
  repeat first | refine zaa rfl (zay rfl) ?_ | refine zah ?_ | (refine zcr ?_; refine zcs ?_) | (refine zdb ?_; first | refine zdc ?_ | refine zdd ?_) | (refine zal rfl rfl ?_; intro g) | (refine rs_lit0 (t := 24) rfl ?_; intro g0)
  refine rs_append 0 (xs := []) (ys := (tabC n P).map cA) (n := 0) (cap := 0) rfl rfl ⟨_, rfl, fun w v hS h => hS.rd h.inv_q⟩ rfl ⟨rfl, Nat.le_refl _, Nat.zero_le _⟩ (by rw [hlen]; omega) hone (by rw [hlen]; simp only [maxLen]; omega) (by rw [hlen]; omega) rfl fun a ca h1 h2 => ?_
  rw [hlen, Nat.zero_add] at h1 ⊢
  repeat first | refine zaa rfl (zaz rfl) ?_ | refine zah ?_ | (refine zcr ?_; refine zcs ?_) | (refine zdb ?_; first | refine zdc ?_ | refine zdd ?_ | refine zde ?_) | (refine zal rfl rfl ?_; intro g) | (refine zag ?_; refine zan 0 rfl rfl rfl rfl rfl rfl rfl rfl rfl ?_) | (refine rs_lit0 (t := 25) rfl ?_; intro b) | refine zaa rfl (opj_buildV rfl rfl) ?_
  rename_i g2
  obtain ⟨g3, hg3⟩ : ∃ x, x = g := ⟨g, rfl⟩
  subst hg3
  rw [entF_nilU (f := fun _ => one1)]
  refine ws_loop (ι := Nat × Nat × Nat) (fun y => [(0, slC w0 (tabC n P)), (2, .raw (.pointer (some ⟨g2, 0, none⟩))), (3, .raw (.pointer (some ⟨g3, 0, none⟩))), (4, .raw (.int .i64 (y.1 : Nat)))])
    (fun y => St w0 [] [⟨g3, 27, [.raw (.slice (some ⟨a, 0, none⟩) n ca), .raw (.slice (some ⟨y.2.1, 0, none⟩) y.1 y.2.2)], 2⟩, entF y.2.1 30 y.1 (fun _ => one1) y.2.2, entC a n P ca, ⟨g2, 27, [.raw (.slice none 0 0), .raw (.slice none 0 0)], 2⟩]) (fun y => y.1 ≤ n ∧ y.1 ≤ y.2.2 ∧ y.2.2 ≤ maxLen) (fun y => n - y.1) (0, b, 0) ⟨by simp only; omega, by simp only; omega, by simp only; omega⟩ ?_ (fun _ h => h) (fun y hy => ?_)
  · (repeat (first | exact Env.sub_nil _ | refine Env.sub_cons rfl ?_))
  obtain ⟨k, b, cb⟩ := y
  simp only at hy ⊢
  obtain ⟨hk, hc1, hc2⟩ := hy
  simp only [maxLen] at hc1 hc2
  repeat first | refine zaa rfl (zay rfl) ?_ | (refine zac ?_; refine zaa rfl (zbe rfl rfl) ?_) | (refine zad ?_; refine zaa rfl (opj_lenC rfl) ?_) | refine zah ?_ | (refine zcr ?_; refine zcs ?_) | (refine zdb ?_; first | refine zdc ?_ | refine zdd ?_)
  refine ws_cond rfl (fun hd => ?_) (fun hd => ?_)
  case' refine_2 =>
    have hkn : k = n := by have := of_decide_eq_false hd; omega
    subst hkn
    repeat first | (refine zae ?_; refine zaa rfl (zcg rfl rfl (by (repeat (first | exact mh | refine mt ?_)); done) rfl rfl) ?_) | refine zah ?_ | (refine zcr ?_; first | refine zcs ?_ | refine zcu ?_ | refine zcx ?_ | refine zda ?_) | (refine zdb ?_; first | refine zdc ?_ | refine zdd ?_ | refine zdg ?_ | refine zdh ?_) | (refine zag ?_; refine zan 3 rfl rfl rfl rfl rfl rfl rfl rfl rfl ?_)
    exact done_retX rfl rfl ((a, b), ca, cb) rfl (mt (mt (mt mh))) rfl rfl rfl ⟨⟨h1, h2⟩, hc1, by simp only [maxLen]; omega⟩ (.cons _ (.cons_cons _ (.cons_cons _ (List.nil_sublist _))))
  have hlt : (k : Int) < n := of_decide_eq_true hd
  clear hd
  repeat first | (refine zae ?_; refine zaa rfl (zcf rfl rfl (by (repeat (first | exact mh | refine mt ?_)); done) rfl) ?_) | refine zaa rfl (zcd rfl) ?_ | (refine zcr ?_; refine zcs ?_) | (refine zdb ?_; first | refine zdc ?_ | refine zdd ?_ | refine zde ?_ | refine zdf ?_) | refine zaa rfl (zco rfl rfl rfl rfl rfl rfl) ?_
  refine rs_appendT 1 (fun _ => one1) rfl rfl rfl rfl ⟨hc1, by simp only [maxLen]; omega⟩ (by omega) rfl rfl rfl (fun s _ _ => rfl) fun b' cb' h3 h4 => ?_
  repeat first | refine zaa rfl (zay rfl) ?_ | refine zaa rfl (zaz rfl) ?_ | (refine zac ?_; refine zaa rfl (zbb rfl rfl (by omega)) ?_) | refine zaa rfl (zcd rfl) ?_ | refine zah ?_ | (refine zcr ?_; first | refine zcs ?_ | refine zcv ?_) | (refine zdb ?_; refine zdd ?_) | (refine zag ?_; refine zam 0 rfl rfl rfl rfl rfl rfl ?_)
  refine done_round (k + 1, b', cb') ⟨by simp only; omega, h3, h4⟩ (by simp only; omega) ?_ (fun _ h => h)
  simp only
  rw [show ((k + 1 : Nat) : Int) = (k : Int) + 1 by omega]
  (repeat (first | exact Env.sub_nil _ | refine Env.sub_cons rfl ?_))
end Go.Ab
namespace Go.Ab
/-- How near, by what is near it. -/
theorem rnd_rel {q r : Rat} (h : Rnd .f32 q r) (a : Rat) (h1 : -a ≤ q) (h2 : q ≤ a) : q - (a / 8388608 + 1 / 100000000000000000000) ≤ r ∧ r ≤ q + (a / 8388608 + 1 / 100000000000000000000) := by
  have h3 := h.near a h1 h2
  have e1 : feps .f32 = 1 / 8388608 := by decide +kernel
  have e2 : ftiny .f32 ≤ 1 / 100000000000000000000 := by decide +kernel
  rw [e1] at h3
  obtain ⟨h4, h5⟩ := h3
  constructor <;> grind
theorem p24_big : (16000000 : Rat) ≤ p2 24 := by decide +kernel
section
variable {x y : FV} {p q : Rat}
theorem fit_16 {a q : Rat} (h1 : -a ≤ q) (h2 : q ≤ a) (h3 : a ≤ 16000000) : Fit .f32 q := by
  have := p24_big
  exact fit_24 (by grind) (by grind)
theorem mulR (hx : Vl .f32 x p) (hy : Vl .f32 y q) (a : Rat) (h1 : -a ≤ p * q) (h2 : p * q ≤ a) (h3 : a ≤ 16000000) : ∃ r, Vl .f32 (fbin .mul .f32 x y) r ∧ Rnd .f32 (p * q) r ∧ p * q - (a / 8388608 + 1 / 100000000000000000000) ≤ r ∧ r ≤ p * q + (a / 8388608 + 1 / 100000000000000000000) := by
  obtain ⟨r, vr, hr⟩ := vl_mul hx hy (fit_16 h1 h2 h3)
  exact ⟨r, vr, hr, rnd_rel hr a h1 h2⟩
theorem addR (hx : Vl .f32 x p) (hy : Vl .f32 y q) (a : Rat) (h1 : -a ≤ p + q) (h2 : p + q ≤ a) (h3 : a ≤ 16000000) : ∃ r, Vl .f32 (fbin .add .f32 x y) r ∧ Rnd .f32 (p + q) r ∧ p + q - (a / 8388608 + 1 / 100000000000000000000) ≤ r ∧ r ≤ p + q + (a / 8388608 + 1 / 100000000000000000000) := by
  obtain ⟨r, vr, hr⟩ := vl_add hx hy (fit_16 h1 h2 h3)
  exact ⟨r, vr, hr, rnd_rel hr a h1 h2⟩
theorem subR (hx : Vl .f32 x p) (hy : Vl .f32 y q) (a : Rat) (h1 : -a ≤ p - q) (h2 : p - q ≤ a) (h3 : a ≤ 16000000) : ∃ r, Vl .f32 (fbin .sub .f32 x y) r ∧ Rnd .f32 (p - q) r ∧ p - q - (a / 8388608 + 1 / 100000000000000000000) ≤ r ∧ r ≤ p - q + (a / 8388608 + 1 / 100000000000000000000) := by
  obtain ⟨r, vr, hr⟩ := vl_sub hx hy (fit_16 h1 h2 h3)
  exact ⟨r, vr, hr, rnd_rel hr a h1 h2⟩
theorem divR (hx : Vl .f32 x p) (hy : Vl .f32 y q) (hq : q ≠ 0) (a : Rat) (h1 : -a ≤ p / q) (h2 : p / q ≤ a) (h3 : a ≤ 16000000) : ∃ r, Vl .f32 (fbin .quo .f32 x y) r ∧ Rnd .f32 (p / q) r ∧ p / q - (a / 8388608 + 1 / 100000000000000000000) ≤ r ∧ r ≤ p / q + (a / 8388608 + 1 / 100000000000000000000) := by
  have := p24_big
  obtain ⟨r, vr, hr⟩ := vl_div hx hy hq (fit_24' (by grind) (by grind))
  exact ⟨r, vr, hr, rnd_rel hr a h1 h2⟩
end
/-- A time, by value. -/
structure Tm (t : FV) (τ : Rat) : Prop where
  v : Vl .f32 t τ
  s : Vl .f32 (fbin .sub .f32 one1 t) (1 - τ)
  lo : 0 ≤ τ
  hi : τ ≤ 1
/-- A coordinate's blend. -/
def blF (a b u v t : FV) : FV := fbin .mul .f32 (fbin .add .f32 (fbin .mul .f32 a (fbin .mul .f32 u (fbin .sub .f32 one1 t))) (fbin .mul .f32 b (fbin .mul .f32 v t))) (fbin .quo .f32 one1 (blW u v t))
theorem blC_1 (a b : CV) (u v t : FV) : (blC a b u v t).1 = blF a.1 b.1 u v t := rfl
theorem blC_2 (a b : CV) (u v t : FV) : (blC a b u v t).2 = blF a.2 b.2 u v t := rfl
theorem one1_vl : Vl .f32 one1 1 := Vl.c (by decide +kernel)
/-- What two weights make, by value. -/
structure Bw (u v t : FV) (x y τ : Rat) (p q W : Rat) : Prop where
  vp : Vl .f32 (fbin .mul .f32 u (fbin .sub .f32 one1 t)) p
  vq : Vl .f32 (fbin .mul .f32 v t) q
  vW : Vl .f32 (blW u v t) W
  p0 : 0 ≤ p
  q0 : 0 ≤ q
  p1 : x * (1 - τ) - 4 / 8388608 ≤ p
  p2 : p ≤ x * (1 - τ) + 4 / 8388608
  q1 : y * τ - 4 / 8388608 ≤ q
  q2 : q ≤ y * τ + 4 / 8388608
  S0 : 1 / 6 ≤ p + q
  S1 : p + q ≤ 4
  w1 : p + q - ((p + q) / 8388608 + 1 / 100000000000000000000) ≤ W
  w2 : W ≤ p + q + ((p + q) / 8388608 + 1 / 100000000000000000000)
theorem bw_of {u v t : FV} {x y τ : Rat} (hT : Tm t τ) (vu : Vl .f32 u x) (vv : Vl .f32 v y) (hx : 1 / 5 ≤ x ∧ x ≤ 3) (hy : 1 / 5 ≤ y ∧ y ≤ 3) : ∃ p q W, Bw u v t x y τ p q W := by
  have l := hT.lo
  have h := hT.hi
  have a1 := Rat.mul_nonneg (show 0 ≤ x - 1 / 5 by grind) (show 0 ≤ 1 - τ by grind)
  have a2 := Rat.mul_nonneg (show 0 ≤ 3 - x by grind) (show 0 ≤ 1 - τ by grind)
  have a3 := Rat.mul_nonneg (show 0 ≤ y - 1 / 5 by grind) l
  have a4 := Rat.mul_nonneg (show 0 ≤ 3 - y by grind) l
  obtain ⟨p, vp, rp, p1, p2⟩ := mulR vu hT.s 3 (by grind) (by grind) (by decide +kernel)
  obtain ⟨q, vq, rq, q1, q2⟩ := mulR vv hT.v 3 (by grind) (by grind) (by decide +kernel)
  have p0 := (rp.side 0 (rep_zero _)).2 (by grind)
  have q0 := (rq.side 0 (rep_zero _)).2 (by grind)
  obtain ⟨W, vW, rW, w1, w2⟩ := addR vp vq (p + q) (by grind) (by grind) (by grind)
  exact ⟨p, q, W, vp, vq, vW, p0, q0, by grind, by grind, by grind, by grind, by grind, by grind, w1, w2⟩
theorem blF_vl {a b u v t : FV} {x y τ α β p q W : Rat} (h : Bw u v t x y τ p q W) (va : Vl .f32 a α) (vb : Vl .f32 b β) (ha : -40 ≤ α ∧ α ≤ 40) (hb : -40 ≤ β ∧ β ≤ 40) :
    ∃ z, Vl .f32 (blF a b u v t) z ∧ (p * α + q * β) / (p + q) - 1 / 25000 ≤ z ∧ z ≤ (p * α + q * β) / (p + q) + 1 / 25000 := by
  have p0 := h.p0
  have q0 := h.q0
  have S0 := h.S0
  have S1 := h.S1
  have w1 := h.w1
  have w2 := h.w2
  have hS : p + q ≠ 0 := by grind
  obtain ⟨S, eS⟩ : ∃ S, S = p + q := ⟨_, rfl⟩
  rw [← eS] at S0 S1 w1 w2 hS ⊢
  have W0 : 1 / 7 ≤ W := by grind
  have hW : W ≠ 0 := by grind
  obtain ⟨I, eI⟩ : ∃ I, I = 1 / W := ⟨_, rfl⟩
  have hI : I * W = 1 := by rw [eI]; exact Rat.div_mul_cancel hW
  have I7 : I ≤ 7 := by rw [eI]; exact div_le_of (by grind) (by grind)
  have I0 : 0 ≤ I := by rw [eI]; exact le_div_of (by grind) (by grind)
  obtain ⟨R, vR, rR, r1, r2⟩ := divR one1_vl h.vW hW I (by rw [← eI]; grind) (by rw [← eI]; exact Rat.le_refl) (by grind)
  rw [← eI] at r1 r2 rR
  obtain ⟨c, ec⟩ : ∃ c, c = (p * α + q * β) / S := ⟨_, rfl⟩
  have hc : c * S = p * α + q * β := by rw [ec]; exact Rat.div_mul_cancel hS
  rw [← ec]
  have b1 := Rat.mul_nonneg p0 (show 0 ≤ 40 - α by grind)
  have b2 := Rat.mul_nonneg p0 (show 0 ≤ 40 + α by grind)
  have b3 := Rat.mul_nonneg q0 (show 0 ≤ 40 - β by grind)
  have b4 := Rat.mul_nonneg q0 (show 0 ≤ 40 + β by grind)
  have c1 : c ≤ 40 := by rw [ec]; exact div_le_of (by grind) (by grind)
  have c2 : -40 ≤ c := by rw [ec]; exact le_div_of (by grind) (by grind)
  obtain ⟨m1, vm1, _, m11, m12⟩ := mulR va h.vp (40 * p) (by grind) (by grind) (by grind)
  obtain ⟨m2, vm2, _, m21, m22⟩ := mulR vb h.vq (40 * q) (by grind) (by grind) (by grind)
  obtain ⟨s, vs, _, s1, s2⟩ := addR vm1 vm2 (40 * S + 1 / 1000) (by grind) (by grind) (by grind)
  clear p0 q0 b1 b2 b3 b4
  have d1 : s - c * S ≤ 81 / 8388608 * S := by grind
  have d2 : -(81 / 8388608 * S) ≤ s - c * S := by grind
  clear m11 m12 m21 m22 s1 s2 vm1 vm2
  have R0 : 0 ≤ R := (rR.side 0 (rep_zero _)).2 I0
  have R8 : R ≤ 8 := by grind
  -- R W is near 1
  have e1 := Rat.mul_le_mul_of_nonneg_right r1 (show 0 ≤ W by grind)
  have e2 := Rat.mul_le_mul_of_nonneg_right r2 (show 0 ≤ W by grind)
  have f1 := Rat.mul_le_mul_of_nonneg_left w1 R0
  have f2 := Rat.mul_le_mul_of_nonneg_left w2 R0
  obtain ⟨ρ, eρ⟩ : ∃ ρ, ρ = R * S := ⟨_, rfl⟩
  have ρ0 : 0 ≤ ρ := by rw [eρ]; exact Rat.mul_nonneg R0 (by grind)
  have g1 : R * W - 1 ≤ 2 / 8388608 := by grind
  have g2 : -(2 / 8388608) ≤ R * W - 1 := by grind
  have k1 : ρ ≤ 1 + 4 / 8388608 := by grind
  have k2 : 1 - 4 / 8388608 ≤ ρ := by grind
  clear e1 e2 f1 f2 g1 g2 r1 r2
  have n1 := Rat.mul_le_mul_of_nonneg_right d1 R0
  have n2 := Rat.mul_le_mul_of_nonneg_right d2 R0
  have n3 := mul_bnd (a := 40) (b := 4 / 8388608) c2 c1 (show -(4 / 8388608) ≤ ρ - 1 by grind) (show ρ - 1 ≤ 4 / 8388608 by grind)
  have n0 : s * R - c = (s - c * S) * R + c * (ρ - 1) := by rw [eρ]; grind
  have n4 : 81 / 8388608 * S * R = 81 / 8388608 * ρ := by rw [eρ]; grind
  have n5 : -(81 / 8388608 * S) * R = -(81 / 8388608 * ρ) := by rw [eρ]; grind
  rw [n4] at n1
  rw [n5] at n2
  obtain ⟨n3, n6⟩ := n3
  clear n4 n5 d1 d2
  have o1 : s * R - c ≤ 245 / 8388608 := by
    rw [n0]
    generalize (s - c * S) * R = A at n1 n2 ⊢
    generalize c * (ρ - 1) = B at n3 n6 ⊢
    clear n0
    grind
  have o2 : -(245 / 8388608) ≤ s * R - c := by
    rw [n0]
    generalize (s - c * S) * R = A at n1 n2 ⊢
    generalize c * (ρ - 1) = B at n3 n6 ⊢
    clear n0
    grind
  obtain ⟨z, vz, _, z1, z2⟩ := mulR vs vR 41 (by grind) (by grind) (by decide +kernel)
  exact ⟨z, vz, by grind, by grind⟩
/-- By how much a level leans on the next point. -/
def valR (x : FV) : Rat := match x with
  | none => 0
  | some b => match FloatKind.f32.decode b with
    | .number s m e => vl s m e
    | _ => 0
theorem Vl.valR {x : FV} {p : Rat} (h : Vl .f32 x p) : valR x = p := by
  obtain ⟨b, s, m, e, rfl, hd, rfl⟩ := h
  simp only [Go.Ab.valR, hd]
def lamQ (p q : Rat) : Rat := q / (p + q)
def lam (f : Int → FV) (t : FV) (k i : Nat) : Rat := lamQ (valR (fbin .mul .f32 (rowsW f t k i) (fbin .sub .f32 one1 t))) (valR (fbin .mul .f32 (rowsW f t k ((i : Int) + 1)) t))
/-- A level, by value. -/
def Cx (f : Int → FV) (t : FV) (x : Nat → Rat) : Nat → Nat → Rat
  | 0, i => x i
  | k + 1, i => (1 - lam f t k i) * Cx f t x k i + lam f t k i * Cx f t x k (i + 1)
/-- A level of coordinates. -/
def rowsF (X : Nat → FV) (f : Int → FV) (t : FV) : Nat → Nat → FV
  | 0, i => X i
  | k + 1, i => blF (rowsF X f t k i) (rowsF X f t k (i + 1)) (rowsW f t k i) (rowsW f t k ((i : Int) + 1)) t
theorem rowsP_1 (P : Nat → CV) (f : Int → FV) (t : FV) : ∀ k i, ((rowsP P f t k).1 i).1 = rowsF (fun i => (P i).1) f t k i
  | 0, i => rfl
  | k + 1, i => by
    show (rowP (rowsP P f t k).1 (rowsP P f t k).2 t i).1 = _
    unfold rowP
    rw [rowsP_w, blC_1, rowsP_1 P f t k i, rowsP_1 P f t k (i + 1)]
    rfl
theorem rowsP_2 (P : Nat → CV) (f : Int → FV) (t : FV) : ∀ k i, ((rowsP P f t k).1 i).2 = rowsF (fun i => (P i).2) f t k i
  | 0, i => rfl
  | k + 1, i => by
    show (rowP (rowsP P f t k).1 (rowsP P f t k).2 t i).2 = _
    unfold rowP
    rw [rowsP_w, blC_2, rowsP_2 P f t k i, rowsP_2 P f t k (i + 1)]
    rfl
/-- Weights between a quarter and two. -/
def Wts (f : Int → FV) (n : Nat) : Prop := ∀ i : Nat, i < n → ∃ r, Vl .f32 (f i) r ∧ 1 / 4 ≤ r ∧ r ≤ 2
theorem rowsW_vl {f : Int → FV} {n : Nat} {t : FV} {τ : Rat} (hf : Wts f n) (hT : Tm t τ) : ∀ (k : Nat), k < 8 → ∀ i : Nat, i + k < n → ∃ r, Vl .f32 (rowsW f t k i) r ∧ 1 / 4 - (k : Rat) / 100000 ≤ r ∧ r ≤ 2 + (k : Rat) / 100000
  | 0, _, i, hi => by
    obtain ⟨r, vr, h1, h2⟩ := hf i (by omega)
    refine ⟨r, vr, ?_, ?_⟩
    · rw [show ((0 : Nat) : Rat) = 0 from rfl]
      grind
    · rw [show ((0 : Nat) : Rat) = 0 from rfl]
      grind
  | k + 1, hk, i, hi => by
    obtain ⟨x, vx, x1, x2⟩ := rowsW_vl hf hT k (by omega) i (by omega)
    obtain ⟨y, vy, y1, y2⟩ := rowsW_vl hf hT k (by omega) (i + 1) (by omega)
    rw [show ((i + 1 : Nat) : Int) = (i : Int) + 1 by omega] at vy
    have hk8 : (k : Rat) ≤ 8 := by
      have := Rat.natCast_le_natCast.2 (show k ≤ 8 by omega)
      exact this
    have ek : ((k + 1 : Nat) : Rat) = (k : Rat) + 1 := Rat.natCast_add k 1
    rw [ek]
    obtain ⟨p, q, W, h⟩ := bw_of hT vx vy (by constructor <;> grind) (by constructor <;> grind)
    refine ⟨W, h.vW, ?_, ?_⟩
    · have a1 := Rat.mul_nonneg (show 0 ≤ x - (1 / 4 - (k : Rat) / 100000) by grind) (show 0 ≤ 1 - τ by have := hT.hi; grind)
      have a2 := Rat.mul_nonneg (show 0 ≤ y - (1 / 4 - (k : Rat) / 100000) by grind) hT.lo
      have := h.w1
      have := h.p1
      have := h.q1
      have := h.S1
      grind
    · have a1 := Rat.mul_nonneg (show 0 ≤ 2 + (k : Rat) / 100000 - x by grind) (show 0 ≤ 1 - τ by have := hT.hi; grind)
      have a2 := Rat.mul_nonneg (show 0 ≤ 2 + (k : Rat) / 100000 - y by grind) hT.lo
      have := h.w2
      have := h.p2
      have := h.q2
      have := h.S1
      grind
/-- What a level's two weights make. -/
theorem rowsW_bw {f : Int → FV} {n : Nat} {t : FV} {τ : Rat} (hf : Wts f n) (hT : Tm t τ) {k i : Nat} (hk : k < 8) (hi : i + k + 1 < n) :
    ∃ x y p q W, Bw (rowsW f t k i) (rowsW f t k ((i : Int) + 1)) t x y τ p q W ∧ lam f t k i = q / (p + q) ∧ 0 ≤ lam f t k i ∧ lam f t k i ≤ 1 := by
  obtain ⟨x, vx, x1, x2⟩ := rowsW_vl hf hT k (by omega) i (by omega)
  obtain ⟨y, vy, y1, y2⟩ := rowsW_vl hf hT k (by omega) (i + 1) (by omega)
  rw [show ((i + 1 : Nat) : Int) = (i : Int) + 1 by omega] at vy
  have hk8 : (k : Rat) ≤ 8 := by
    have := Rat.natCast_le_natCast.2 (show k ≤ 8 by omega)
    exact this
  obtain ⟨p, q, W, h⟩ := bw_of hT vx vy (by constructor <;> grind) (by constructor <;> grind)
  have e : lam f t k i = q / (p + q) := by
    unfold lam lamQ
    rw [h.vp.valR, h.vq.valR]
  have S0 := h.S0
  have p0 := h.p0
  have q0 := h.q0
  refine ⟨x, y, p, q, W, h, e, ?_, ?_⟩
  · rw [e]
    exact le_div_of (by grind) (by grind)
  · rw [e]
    exact div_le_of (by grind) (by grind)
/-- A mean of two. -/
theorem mean_bnd {l a b B : Rat} (h0 : 0 ≤ l) (h1 : l ≤ 1) (ha : -B ≤ a ∧ a ≤ B) (hb : -B ≤ b ∧ b ≤ B) : -B ≤ (1 - l) * a + l * b ∧ (1 - l) * a + l * b ≤ B := by
  have a1 := Rat.mul_nonneg (show 0 ≤ 1 - l by grind) (show 0 ≤ B - a by grind)
  have a2 := Rat.mul_nonneg (show 0 ≤ 1 - l by grind) (show 0 ≤ B + a by grind)
  have a3 := Rat.mul_nonneg h0 (show 0 ≤ B - b by grind)
  have a4 := Rat.mul_nonneg h0 (show 0 ≤ B + b by grind)
  constructor <;> grind
section
variable {f : Int → FV} {n : Nat} {t : FV} {τ : Rat}
theorem cx_near (hf : Wts f n) (hT : Tm t τ) {x y : Nat → Rat} {B : Rat} (h : ∀ i, i < n → -B ≤ x i - y i ∧ x i - y i ≤ B) : ∀ (k : Nat), k ≤ 8 → ∀ i, i + k < n → -B ≤ Cx f t x k i - Cx f t y k i ∧ Cx f t x k i - Cx f t y k i ≤ B
  | 0, _, i, hi => h i (by omega)
  | k + 1, hk, i, hi => by
    obtain ⟨_, _, _, _, _, _, _, l0, l1⟩ := rowsW_bw hf hT (k := k) (i := i) (by omega) (by omega)
    have h1 := cx_near hf hT h k (by omega) i (by omega)
    have h2 := cx_near hf hT h k (by omega) (i + 1) (by omega)
    have h3 := mean_bnd l0 l1 h1 h2
    unfold Cx
    constructor <;> grind
theorem cx_lin (a b c : Rat) (x y : Nat → Rat) : ∀ (k i : Nat), Cx f t (fun i => a * x i + b * y i + c) k i = a * Cx f t x k i + b * Cx f t y k i + c
  | 0, i => rfl
  | k + 1, i => by
    unfold Cx
    rw [cx_lin a b c x y k i, cx_lin a b c x y k (i + 1)]
    grind
theorem cx_zero : ∀ (k i : Nat), Cx f t (fun _ => 0) k i = 0
  | 0, i => rfl
  | k + 1, i => by
    unfold Cx
    rw [cx_zero k i, cx_zero k (i + 1)]
    grind
theorem cx_bnd (hf : Wts f n) (hT : Tm t τ) {x : Nat → Rat} {B : Rat} (h : ∀ i, i < n → -B ≤ x i ∧ x i ≤ B) (k : Nat) (hk : k ≤ 8) (i : Nat) (hi : i + k < n) : -B ≤ Cx f t x k i ∧ Cx f t x k i ≤ B := by
  have := cx_near hf hT (x := x) (y := fun _ => 0) (B := B) (fun i hi => by have := h i hi; constructor <;> grind) k hk i hi
  rw [cx_zero] at this
  constructor <;> grind
/-- A level of coordinates is what it is by value, nearly. -/
theorem rows_cx (hf : Wts f n) (hT : Tm t τ) {X : Nat → FV} {x : Nat → Rat} (hX : ∀ i, i < n → Vl .f32 (X i) (x i)) (h : ∀ i, i < n → -39 ≤ x i ∧ x i ≤ 39) : ∀ (k : Nat), k ≤ 8 → ∀ i, i + k < n → ∃ r, Vl .f32 (rowsF X f t k i) r ∧ -((k : Rat) / 25000) ≤ r - Cx f t x k i ∧ r - Cx f t x k i ≤ (k : Rat) / 25000
  | 0, _, i, hi => ⟨x i, hX i (by omega), by
      show -(((0 : Nat) : Rat) / 25000) ≤ x i - x i
      rw [show ((0 : Nat) : Rat) = 0 from rfl]
      grind, by
      show x i - x i ≤ ((0 : Nat) : Rat) / 25000
      rw [show ((0 : Nat) : Rat) = 0 from rfl]
      grind⟩
  | k + 1, hk, i, hi => by
    obtain ⟨x', y', p, q, W, hB, el, l0, l1⟩ := rowsW_bw hf hT (k := k) (i := i) (by omega) (by omega)
    obtain ⟨a, va, a1, a2⟩ := rows_cx hf hT hX h k (by omega) i (by omega)
    obtain ⟨b, vb, b1, b2⟩ := rows_cx hf hT hX h k (by omega) (i + 1) (by omega)
    obtain ⟨ca, ca'⟩ := cx_bnd hf hT h k (by omega) i (by omega)
    obtain ⟨cb, cb'⟩ := cx_bnd hf hT h k (by omega) (i + 1) (by omega)
    have hk8 : (k : Rat) ≤ 8 := by
      have := Rat.natCast_le_natCast.2 (show k ≤ 8 by omega)
      exact this
    have ek : ((k + 1 : Nat) : Rat) = (k : Rat) + 1 := Rat.natCast_add k 1
    rw [ek]
    obtain ⟨z, vz, z1, z2⟩ := blF_vl hB va vb (by constructor <;> grind) (by constructor <;> grind)
    have S0 := hB.S0
    have hS : p + q ≠ 0 := by grind
    have e1 : (p * a + q * b) / (p + q) = (1 - lam f t k i) * a + lam f t k i * b := by
      rw [el]
      have e2 : q / (p + q) * (p + q) = q := Rat.div_mul_cancel hS
      have e3 : (p * a + q * b) / (p + q) * (p + q) = p * a + q * b := Rat.div_mul_cancel hS
      have e4 : ((1 - q / (p + q)) * a + q / (p + q) * b) * (p + q) = p * a + q * b := by
        generalize q / (p + q) = l at e2 ⊢
        grind
      have e5 : ((p * a + q * b) / (p + q)) * (p + q) = ((1 - q / (p + q)) * a + q / (p + q) * b) * (p + q) := by rw [e3, e4]
      have e6 := congrArg (· / (p + q)) e5
      simp only [Rat.mul_div_cancel hS] at e6
      exact e6
    rw [e1] at z1 z2
    have m := mean_bnd l0 l1 (a := a - Cx f t x k i) (b := b - Cx f t x k (i + 1)) ⟨a1, a2⟩ ⟨b1, b2⟩
    refine ⟨z, vz, ?_, ?_⟩
    · unfold Cx
      grind
    · unfold Cx
      grind
end
end Go.Ab
namespace Go.Ab
section
variable {f g : Int → FV} {n : Nat} {t : FV} {τ : Rat}
/-- The weights of a curve that has none of its own. -/
theorem wts_one (n : Nat) : Wts (fun _ => one1) n := fun i _ => ⟨1, one1_vl, by grind, by grind⟩
theorem rowsW_one (hT : Tm t τ) : ∀ (k : Nat) (i : Int), Vl .f32 (rowsW (fun _ => one1) t k i) 1
  | 0, i => one1_vl
  | k + 1, i => by
    have h1 := rowsW_one hT k i
    have h2 := rowsW_one hT k (i + 1)
    have l := hT.lo
    have u := hT.hi
    have b := p24_big
    show Vl .f32 (blW (rowsW (fun _ => one1) t k i) (rowsW (fun _ => one1) t k (i + 1)) t) 1
    obtain ⟨r, vr, rr⟩ := vl_add (one_mul_ex h1 hT.s (fit_24 (by grind) (by grind))) (one_mul_ex h2 hT.v (fit_24 (by grind) (by grind))) (fit_24 (by grind) (by grind))
    rw [show 1 - τ + τ = 1 by grind] at rr
    rw [rnd_rep rr (vl_rep one1_vl)] at vr
    exact vr
theorem lam_one (hT : Tm t τ) (k i : Nat) : lam (fun _ => one1) t k i = τ := by
  have h1 := rowsW_one hT k i
  have h2 := rowsW_one hT k ((i : Int) + 1)
  have l := hT.lo
  have u := hT.hi
  have b := p24_big
  unfold lam lamQ
  rw [(one_mul_ex h1 hT.s (fit_24 (by grind) (by grind))).valR, (one_mul_ex h2 hT.v (fit_24 (by grind) (by grind))).valR, show 1 - τ + τ = 1 by grind]
  grind
theorem cx_shift (hT : Tm t τ) (x : Nat → Rat) : ∀ (k i : Nat), Cx (fun _ => one1) t x k (i + 1) = Cx (fun _ => one1) t (fun j => x (j + 1)) k i
  | 0, i => rfl
  | k + 1, i => by
    unfold Cx
    rw [cx_shift hT x k i, cx_shift hT x k (i + 1), lam_one hT, lam_one hT]
/-- Points by value. -/
structure Pv (n : Nat) (P : Nat → CV) (x y : Nat → Rat) (B : Rat) : Prop where
  vx : ∀ i, i < n → Vl .f32 (P i).1 (x i)
  vy : ∀ i, i < n → Vl .f32 (P i).2 (y i)
  bx : ∀ i, i < n → -B ≤ x i ∧ x i ≤ B
  by_ : ∀ i, i < n → -B ≤ y i ∧ y i ≤ B
theorem k_le {k m : Nat} (h : k ≤ m) : (k : Rat) ≤ (m : Rat) := Rat.natCast_le_natCast.2 h
theorem coord_vl (hf : Wts f n) (hT : Tm t τ) {X : Nat → FV} {x : Nat → Rat} (hn : 2 ≤ n ∧ n ≤ 5) (hX : ∀ i, i < n → Vl .f32 (X i) (x i)) (h : ∀ i, i < n → -39 ≤ x i ∧ x i ≤ 39) : ∃ r, Vl .f32 (rowsF X f t (n - 1) 0) r ∧ -(4 / 25000) ≤ r - Cx f t x (n - 1) 0 ∧ r - Cx f t x (n - 1) 0 ≤ 4 / 25000 := by
  obtain ⟨r, vr, r1, r2⟩ := rows_cx hf hT hX h (n - 1) (by omega) 0 (by omega)
  have := k_le (show n - 1 ≤ 4 by omega)
  have e4 : ((4 : Nat) : Rat) = 4 := rfl
  exact ⟨r, vr, by grind, by grind⟩
theorem point_vl (hf : Wts f n) (hT : Tm t τ) {P : Nat → CV} {x y : Nat → Rat} {B : Rat} (hB : B ≤ 39) (hn : 2 ≤ n ∧ n ≤ 5) (h : Pv n P x y B) :
    ∃ u v, Vl .f32 (pointP n P f t).1 u ∧ Vl .f32 (pointP n P f t).2 v ∧ (-(4 / 25000) ≤ u - Cx f t x (n - 1) 0 ∧ u - Cx f t x (n - 1) 0 ≤ 4 / 25000) ∧ (-(4 / 25000) ≤ v - Cx f t y (n - 1) 0 ∧ v - Cx f t y (n - 1) 0 ≤ 4 / 25000) := by
  obtain ⟨u, vu, u1, u2⟩ := coord_vl hf hT hn h.vx (fun i hi => by have := h.bx i hi; constructor <;> grind)
  obtain ⟨v, vv, v1, v2⟩ := coord_vl hf hT hn h.vy (fun i hi => by have := h.by_ i hi; constructor <;> grind)
  refine ⟨u, v, ?_, ?_, ⟨u1, u2⟩, ⟨v1, v2⟩⟩
  · unfold pointP
    rw [rowsP_1]
    exact vu
  · unfold pointP
    rw [rowsP_2]
    exact vv
/-- What a slope is, by value. -/
def Sx (f : Int → FV) (t : FV) (x : Nat → Rat) (n : Nat) : Rat := Cx f t x (n - 2) 1 - Cx f t x (n - 2) 0
theorem scoord_vl (hf : Wts f n) (hT : Tm t τ) {X : Nat → FV} {x : Nat → Rat} {by_ : FV} {b : Rat} (vb : Vl .f32 by_ b) (hb : 0 ≤ b ∧ b ≤ 10) (hn : 2 ≤ n ∧ n ≤ 5) (hX : ∀ i, i < n → Vl .f32 (X i) (x i)) (h : ∀ i, i < n → -39 ≤ x i ∧ x i ≤ 39) :
    ∃ r, Vl .f32 (fbin .mul .f32 (fbin .sub .f32 (rowsF X f t (n - 2) 1) (rowsF X f t (n - 2) 0)) by_) r ∧ -(3 / 1000) ≤ r - b * Sx f t x n ∧ r - b * Sx f t x n ≤ 3 / 1000 := by
  obtain ⟨r1, v1, l1, u1⟩ := rows_cx hf hT hX h (n - 2) (by omega) 1 (by omega)
  obtain ⟨r0, v0, l0, u0⟩ := rows_cx hf hT hX h (n - 2) (by omega) 0 (by omega)
  obtain ⟨c1, c1'⟩ := cx_bnd hf hT h (n - 2) (by omega) 1 (by omega)
  obtain ⟨c0, c0'⟩ := cx_bnd hf hT h (n - 2) (by omega) 0 (by omega)
  have := k_le (show n - 2 ≤ 3 by omega)
  have e3 : ((3 : Nat) : Rat) = 3 := rfl
  obtain ⟨d, vd, _, d1, d2⟩ := subR v1 v0 80 (by grind) (by grind) (by decide +kernel)
  unfold Sx
  generalize Cx f t x (n - 2) 1 = C1 at *
  generalize Cx f t x (n - 2) 0 = C0 at *
  have hd1 : -(26 / 100000) ≤ d - (C1 - C0) := by grind
  have hd2 : d - (C1 - C0) ≤ 26 / 100000 := by grind
  have m := mul_bnd (a := 10) (b := 26 / 100000) (show -10 ≤ b by grind) hb.2 hd1 hd2
  have m2 := mul_bnd (a := 80) (b := 10) (show -80 ≤ d by grind) (show d ≤ 80 by grind) (show -10 ≤ b by grind) hb.2
  obtain ⟨r, vr, _, q1, q2⟩ := mulR vd vb 800 (by grind) (by grind) (by decide +kernel)
  refine ⟨r, vr, ?_, ?_⟩ <;> grind
theorem slope_vl (hf : Wts f n) (hT : Tm t τ) {P : Nat → CV} {x y : Nat → Rat} {B b : Rat} (vb : Vl .f32 (slopeBy n f t) b) (hb : 0 ≤ b ∧ b ≤ 10) (hB : B ≤ 39) (hn : 2 ≤ n ∧ n ≤ 5) (h : Pv n P x y B) :
    ∃ u v, Vl .f32 (slopeP n P f t).1 u ∧ Vl .f32 (slopeP n P f t).2 v ∧ (-(3 / 1000) ≤ u - b * Sx f t x n ∧ u - b * Sx f t x n ≤ 3 / 1000) ∧ (-(3 / 1000) ≤ v - b * Sx f t y n ∧ v - b * Sx f t y n ≤ 3 / 1000) := by
  obtain ⟨u, vu, u1, u2⟩ := scoord_vl hf hT vb hb hn h.vx (fun i hi => by have := h.bx i hi; constructor <;> grind)
  obtain ⟨v, vv, v1, v2⟩ := scoord_vl hf hT vb hb hn h.vy (fun i hi => by have := h.by_ i hi; constructor <;> grind)
  refine ⟨u, v, ?_, ?_, ⟨u1, u2⟩, ⟨v1, v2⟩⟩
  · unfold slopeP scaleC subC2
    rw [rowsP_1, rowsP_1]
    exact vu
  · unfold slopeP scaleC subC2
    rw [rowsP_2, rowsP_2]
    exact vv
theorem deg_vl (hn : 2 ≤ n ∧ n ≤ 5) : Vl .f32 (some (FloatKind.f32.nearest ((n : Int) - 1))) ((n : Rat) - 1) := by
  have h := vl_ofInt .f32 ((n : Int) - 1) (by
    have : (2 : Nat) ^ (FloatKind.f32.format.fractionBits + 1) = 16777216 := by decide
    omega)
  rw [show (((n : Int) - 1 : Int) : Rat) = (n : Rat) - 1 by rw [Rat.intCast_sub]; rfl] at h
  exact h
theorem n_bd (hn : 2 ≤ n ∧ n ≤ 5) : (1 : Rat) ≤ (n : Rat) - 1 ∧ (n : Rat) - 1 ≤ 4 := by
  have h1 := k_le hn.1
  have h2 := k_le hn.2
  have e2 : ((2 : Nat) : Rat) = 2 := rfl
  have e5 : ((5 : Nat) : Rat) = 5 := rfl
  constructor <;> grind
end
end Go.Ab
namespace Go.Ab
def allLt (p : Nat → Bool) : Nat → Bool
  | 0 => true
  | n + 1 => p n && allLt p n
theorem allLt_of {p : Nat → Bool} : ∀ {n : Nat}, allLt p n = true → ∀ m, m < n → p m = true
  | n + 1, h, m, hm => by
    simp only [allLt, Bool.and_eq_true] at h
    rcases Nat.lt_or_ge m n with h1 | h1
    · exact allLt_of h.2 m h1
    · obtain rfl : m = n := by omega
      exact h.1
/-- Whether a float is a number. -/
def isNum (x : FV) : Bool := match x with
  | none => false
  | some b => match FloatKind.f32.decode b with
    | .number _ _ _ => true
    | _ => false
theorem isNum_vl {x : FV} (h : isNum x = true) : Vl .f32 x (valR x) := by
  unfold isNum at h
  unfold valR
  split at h
  · cases h
  · rename_i b
    split at h
    · rename_i s m e hd
      refine ⟨b, s, m, e, rfl, hd, ?_⟩
      simp only [hd]
    · cases h
def tmB (t : FV) (τ : Rat) : Bool := isNum t && isNum (fbin .sub .f32 one1 t) && decide (valR t = τ) && decide (valR (fbin .sub .f32 one1 t) = 1 - τ) && decide (0 ≤ τ) && decide (τ ≤ 1)
theorem tm_of {t : FV} {τ : Rat} (h : tmB t τ = true) : Tm t τ := by
  unfold tmB at h
  simp only [Bool.and_eq_true, decide_eq_true_eq] at h
  obtain ⟨⟨⟨⟨⟨h1, h2⟩, h3⟩, h4⟩, h5⟩, h6⟩ := h
  exact ⟨h3 ▸ isNum_vl h1, h4 ▸ isNum_vl h2, h5, h6⟩
def quR (a : Nat → Int) (i : Nat) : Rat := ((a i : Int) : Rat) / 4
theorem int_rat_bd {a : Int} {B : Nat} (h : -(B : Int) ≤ a ∧ a ≤ B) : -(B : Rat) ≤ (a : Rat) ∧ (a : Rat) ≤ (B : Rat) := by
  have h1 := Rat.intCast_le_intCast.2 h.1
  have h2 := Rat.intCast_le_intCast.2 h.2
  rw [Rat.intCast_neg] at h1
  exact ⟨h1, h2⟩
end Go.Ab
