/- Part 13 of the texts on which the law leans, joined: The law's bowls and waves, reckoned by the kernel. No conditions. -/
import Derived.Test.YtjjhppoidopflaaZal
namespace Go.Ab
open Go.Proofs
variable {R : World → Prop} [RStab R]
theorem Takes.crvZp {R0 : World → Prop} {w0 : World} {H : List Ent} {args : List AV} {A' : World → List AV} {n : Nat} {P : Nat → CV} {f : Int → FV} (h : Takes (StR R0 w0 [] H) args A') : Takes (StR R0 w0 [] H) (crvQ w0 n P f :: args) (fun w => crvQ w n P f :: A' w) := fun w vs hS hr => by
  obtain ⟨v, r, rfl, hv, hrr⟩ := hr.inv_cons
  obtain ⟨b, hb, hs, hc⟩ := mono_ptrTo _ _ _ _ hS.ext0 hv.inv_q
  refine .cons (.q ⟨b, hb, hs, fun i x hx => ?_⟩) (h w r hS hrr)
  match i, hx with
  | 0, hx =>
    cases hx
    obtain ⟨u, hu, hev⟩ := hc 0 _ rfl
    exact ⟨u, hu, fun w' => .q (hS.rd (hev w').inv_q)⟩
  | 1, hx =>
    cases hx
    obtain ⟨u, hu, hev⟩ := hc 1 _ rfl
    exact ⟨u, hu, fun w' => .q (hS.rd (hev w').inv_q)⟩
attribute [local irreducible] WS RS Done OpJ Then InBlock Round Ret Env.sub FnH
attribute [local irreducible] tab tabC
theorem l02Slope_fn {n : Nat} {P : Nat → CV} {f : Int → FV} {t : FV} (hn : 2 ≤ n ∧ n ≤ 1000) :
    Fn Try.prog 56 (fun w => [crvQ w n P f, .f .f32 t]) (cA (slopeP n P f t)) := by
  have hR : ∀ j, j + 2 ≤ n → FnH (X := (Nat × Nat) × Nat × Nat) Try.prog 61 (fun w => [crvQ w (n - j) (rowsP P f t j).1 (rowsP P f t j).2, .f .f32 t]) []
      (fun y => crvOc y.1.1 y.1.2 (n - (j + 1)) y.2.1 y.2.2) (fun y => [entC y.1.1 (n - (j + 1)) (rowsP P f t (j + 1)).1 y.2.1, entF y.1.2 30 (n - (j + 1)) (rowsP P f t (j + 1)).2 y.2.2]) (fun y => (n - (j + 1) ≤ y.2.1 ∧ y.2.1 ≤ maxLen) ∧ n - (j + 1) ≤ y.2.2 ∧ y.2.2 ≤ maxLen) := fun j hj => by
    have := l02Row_fn (n := n - j) (P := (rowsP P f t j).1) (f := (rowsP P f t j).2) (t := t) (by omega)
    rw [show n - j - 1 = n - (j + 1) by omega] at this
    exact this
  have hB := l02Blend_fn ((rowsP P f t (n - 2)).1 0) ((rowsP P f t (n - 2)).1 1) ((rowsP P f t (n - 2)).2 0) ((rowsP P f t (n - 2)).2 1) t
  have hT := l02Times_fn (subC2 ((rowsP P f t (n - 2)).1 1) ((rowsP P f t (n - 2)).1 0)) (slopeBy n f t)
  have eby : slopeBy n f t = fbin .quo .f32 (fbin .mul .f32 (fbin .mul .f32 (some (FloatKind.f32.nearest ((n : Int) - 1))) ((rowsP P f t (n - 2)).2 0)) ((rowsP P f t (n - 2)).2 1)) (fbin .mul .f32 (blW ((rowsP P f t (n - 2)).2 0) ((rowsP P f t (n - 2)).2 1) t) (blW ((rowsP P f t (n - 2)).2 0) ((rowsP P f t (n - 2)).2 1) t)) := by
    unfold slopeBy
    rw [rowsP_w, show n - 1 = n - 2 + 1 by omega]
    rfl
  unfold slopeP
  rw [eby] at hT ⊢
  refine fn_intro Try.func56 rfl Try.ntmps56 (fun _ => Nat.le_of_ble_eq_true rfl) fun w0 => ?_
  repeat first | refine zaa rfl (zay rfl) ?_ | refine zaa rfl (zaz rfl) ?_ | refine zah ?_ | (refine zcr ?_; refine zcs ?_) | (refine zdb ?_; first | refine zdc ?_ | refine zdd ?_ | refine zde ?_) | (refine zal rfl rfl ?_; intro g) | refine zaa rfl (opj_nilZ rfl) ?_ | refine zaa rfl (opj_loadAZ rfl rfl rfl) ?_ | refine rs_storeA2 0 rfl rfl rfl rfl rfl rfl ?_
  obtain ⟨g5, hg5⟩ : ∃ x, x = g := ⟨g, rfl⟩
  subst hg5
  refine ws_loop (ι := Nat × (Nat × Nat) × Nat × Nat) (fun y => [(0, crvQ w0 n P f), (1, .f .f32 t), (5, .raw (.pointer (some ⟨g5, 0, none⟩)))])
    (atWd 30 27 w0 g5 n P f t) (fun y => y.1 + 2 ≤ n ∧ (n - y.1 ≤ y.2.2.1 ∧ y.2.2.1 ≤ maxLen) ∧ n - y.1 ≤ y.2.2.2 ∧ y.2.2.2 ≤ maxLen) (fun y => n - y.1) (0, (0, 0), n, n) ⟨by simp only; omega, by simp only [maxLen]; omega, by simp only [maxLen]; omega⟩ ?_ (fun _ h => h) (fun y hy => ?_)
  · (repeat (first | exact Env.sub_nil _ | refine Env.sub_cons rfl ?_))
  obtain ⟨j, ⟨a, b⟩, ca, cb⟩ := y
  simp only at hy ⊢
  obtain ⟨hj, ⟨hca1, hca2⟩, hcb1, hcb2⟩ := hy
  cases j with
  | zero =>
    unfold atWd
    dsimp only
    repeat first | (refine zac ?_; refine zaa rfl (zbg rfl rfl) ?_) | (refine zad ?_; refine zaa rfl (opj_lenC rfl) ?_) | (refine zae ?_; refine zaa rfl (zcf rfl rfl (by (repeat (first | exact mh | refine mt ?_)); done) rfl) ?_) | refine zaa rfl (zcd rfl) ?_ | refine zah ?_ | (refine zcr ?_; refine zcs ?_) | (refine zdb ?_; first | refine zdc ?_ | refine zdd ?_)
    refine ws_cond rfl (fun hd => ?_) (fun hd => ?_)
    case' refine_1 =>
      have hn3 : (2 : Int) < (n : Int) := of_decide_eq_true hd
      clear hd
      have hR0 := hR 0 (by omega)
      repeat first | refine zaa rfl (zay rfl) ?_ | (refine zcr ?_; refine zcs ?_) | (refine zdb ?_; first | refine zdd ?_ | refine zde ?_ | refine zdf ?_)
      refine rs_callM3 hR0 rfl rfl (Takes.crvZi mh (Takes.same Takes.nil)) rfl ?_
      rintro ⟨⟨a', b'⟩, ca', cb'⟩ ⟨⟨h1, h2⟩, h3, h4⟩
      dsimp only at h1 h2 h3 h4 ⊢
      repeat first | refine zah ?_ | (refine zcr ?_; refine zcv ?_) | (refine zag ?_; refine zan 2 rfl rfl rfl rfl rfl rfl rfl rfl rfl ?_)
      refine done_round (0 + 1, (a', b'), ca', cb') ⟨by simp only; omega, ⟨h1, h2⟩, h3, h4⟩ (by simp only; omega) ?_ (fun w h => ?_)
      · (repeat (first | exact Env.sub_nil _ | refine Env.sub_cons rfl ?_))
      · exact h.rot3
    have hn2 : n = 2 := by have := of_decide_eq_false hd; omega
    subst hn2
    clear hd
    repeat first | refine zaa rfl (zaz rfl) ?_ | (refine zae ?_; first | refine zaa rfl (zcf rfl rfl (by (repeat (first | exact mh | refine mt ?_)); done) rfl) ?_ | refine zaa rfl (zbu rfl rfl) ?_) | (refine zaf ?_; refine zaa rfl (zbs rfl rfl (by omega) (by omega)) ?_) | refine zaa rfl (zcd rfl) ?_ | refine zah ?_ | (refine zcr ?_; first | refine zcs ?_ | refine zcu ?_ | refine zcx ?_ | refine zda ?_) | (refine zdb ?_; first | refine zdc ?_ | refine zdd ?_ | refine zdh ?_)
    refine ws_draw (n := 17) mixed (by decide +kernel) ?_
    repeat first | refine zap rfl (zay rfl) ?_ | refine zap rfl (zaz rfl) ?_ | (refine zas ?_; (refine zap rfl (zci rfl rfl (hB) ?_) ?_; (focus ((repeat (first | exact Takes.nil | refine Takes.sl ?_ | refine Takes.lit ?_ | refine Takes.fa ?_ | refine Takes.fc ?_ | refine Takes.net ?_ | (refine Takes.ownE ?_ ?_ ?_ ?_ ?_; (focus (exact ⟨_, _, (by (repeat (first | exact mh | refine mt ?_)); done)⟩)); (focus (simp; done)); (focus omega); (focus (simp only [maxLen]; omega))) | refine Takes.same ?_)); done)))) | (refine zat ?_; first | refine zap rfl (zcf rfl rfl (by (repeat (first | exact mh | refine mt ?_)); done) rfl) ?_ | refine zap rfl (zbu rfl rfl) ?_) | (refine zau ?_; refine zap rfl (opj_indexC rfl rfl (by omega) (by omega)) ?_) | refine zap rfl (zcd rfl) ?_ | refine zap rfl (zbz rfl rfl) ?_ | refine zav ?_
    repeat first | refine zaa rfl (zay rfl) ?_ | refine zaa rfl (zaz rfl) ?_ | (refine zac ?_; first | refine zaa rfl (zba rfl rfl rfl) ?_ | refine zaa rfl (zbc rfl rfl (by omega)) ?_) | (refine zad ?_; refine zaa rfl (opj_lenC rfl) ?_) | refine zaa rfl (zby rfl) ?_ | refine zah ?_ | (refine zcr ?_; refine zcs ?_) | (refine zdb ?_; first | refine zdc ?_ | refine zdd ?_) | refine zaa rfl (opj_nilZ rfl) ?_ | refine zaa rfl (opj_fieldZ rfl) ?_ | refine zaa rfl (opj_loadZ rfl rfl rfl) ?_
    refine ws_draw (n := 12) mixed (by decide +kernel) ?_
    repeat first | refine zap rfl (zay rfl) ?_ | refine zap rfl (zaz rfl) ?_ | (refine zar ?_; refine zap rfl (opj_csub rfl rfl) ?_) | (refine zas ?_; (refine zap rfl (zci rfl rfl (hT) ?_) ?_; (focus ((repeat (first | exact Takes.nil | refine Takes.sl ?_ | refine Takes.lit ?_ | refine Takes.fa ?_ | refine Takes.fc ?_ | refine Takes.net ?_ | (refine Takes.ownE ?_ ?_ ?_ ?_ ?_; (focus (exact ⟨_, _, (by (repeat (first | exact mh | refine mt ?_)); done)⟩)); (focus (simp; done)); (focus omega); (focus (simp only [maxLen]; omega))) | refine Takes.same ?_)); done)))) | (refine zat ?_; first | refine zap rfl (zcf rfl rfl (by (repeat (first | exact mh | refine mt ?_)); done) rfl) ?_ | refine zap rfl (zbu rfl rfl) ?_) | (refine zau ?_; refine zap rfl (opj_indexC rfl rfl (by omega) (by omega)) ?_) | refine zap rfl (zcd rfl) ?_ | refine zav ?_
    repeat first | refine zah ?_ | (refine zcr ?_; refine zcs ?_) | (refine zdb ?_; refine zdg ?_)
    exact done_ret1 rfl () rfl trivial (List.nil_sublist _)
  | succ j =>
    unfold atWd
    dsimp only
    repeat first | (refine zac ?_; refine zaa rfl (zbg rfl rfl) ?_) | (refine zad ?_; refine zaa rfl (zbn rfl) ?_) | (refine zae ?_; refine zaa rfl (zcf rfl rfl (by (repeat (first | exact mh | refine mt ?_)); done) rfl) ?_) | refine zaa rfl (zcd rfl) ?_ | refine zah ?_ | (refine zcr ?_; refine zcs ?_) | (refine zdb ?_; first | refine zdc ?_ | refine zdd ?_)
    refine ws_cond rfl (fun hd => ?_) (fun hd => ?_)
    case' refine_1 =>
      have hlt : (2 : Int) < ((n - (j + 1) : Nat) : Int) := of_decide_eq_true hd
      clear hd
      have hR0 := hR (j + 1) (by omega)
      repeat first | refine zaa rfl (zay rfl) ?_ | (refine zcr ?_; refine zcs ?_) | (refine zdb ?_; first | refine zdd ?_ | refine zde ?_ | refine zdf ?_)
      refine rs_callM3 hR0 rfl rfl (Takes.crvZo mh (mt mh) (mt (mt mh)) ⟨hca1, hca2⟩ ⟨hcb1, hcb2⟩ (Takes.same Takes.nil)) rfl ?_
      rintro ⟨⟨a', b'⟩, ca', cb'⟩ ⟨⟨h1, h2⟩, h3, h4⟩
      dsimp only at h1 h2 h3 h4 ⊢
      repeat first | refine zah ?_ | (refine zcr ?_; refine zcv ?_) | (refine zag ?_; refine zan 2 rfl rfl rfl rfl rfl rfl rfl rfl rfl ?_)
      refine done_round (j + 1 + 1, (a', b'), ca', cb') ⟨by simp only; omega, ⟨h1, h2⟩, h3, h4⟩ (by simp only; omega) ?_ (fun w h => ?_)
      · (repeat (first | exact Env.sub_nil _ | refine Env.sub_cons rfl ?_))
      · exact (h.rot3.weak (.cons_cons _ (.cons_cons _ (.cons_cons _ (List.nil_sublist _)))))
    have hjn : n - (j + 1) = 2 := by have := of_decide_eq_false hd; omega
    have hjn' : n - 2 = j + 1 := by omega
    clear hd
    rw [hjn] at hca1 hcb1 ⊢
    rw [hjn'] at hB hT ⊢
    simp only [maxLen] at hca2 hcb2
    repeat first | refine zaa rfl (zaz rfl) ?_ | (refine zae ?_; first | refine zaa rfl (zbt rfl rfl (by (repeat (first | exact mh | refine mt ?_)); done) (by omega)) ?_ | refine zaa rfl (zcf rfl rfl (by (repeat (first | exact mh | refine mt ?_)); done) rfl) ?_) | (refine zaf ?_; refine zaa rfl (zbw rfl rfl (by omega) (by omega)) ?_) | refine zaa rfl (zcd rfl) ?_ | refine zah ?_ | (refine zcr ?_; first | refine zcs ?_ | refine zcu ?_ | refine zcx ?_ | refine zda ?_) | (refine zdb ?_; first | refine zdc ?_ | refine zdd ?_ | refine zdh ?_)
    refine ws_draw (n := 17) mixed (by decide +kernel) ?_
    repeat first | refine zap rfl (zay rfl) ?_ | refine zap rfl (zaz rfl) ?_ | (refine zas ?_; (refine zap rfl (zci rfl rfl (hB) ?_) ?_; (focus ((repeat (first | exact Takes.nil | refine Takes.sl ?_ | refine Takes.lit ?_ | refine Takes.fa ?_ | refine Takes.fc ?_ | refine Takes.net ?_ | (refine Takes.ownE ?_ ?_ ?_ ?_ ?_; (focus (exact ⟨_, _, (by (repeat (first | exact mh | refine mt ?_)); done)⟩)); (focus (simp; done)); (focus omega); (focus (simp only [maxLen]; omega))) | refine Takes.same ?_)); done)))) | (refine zat ?_; first | refine zap rfl (opj_loadC rfl rfl (by (repeat (first | exact mh | refine mt ?_)); done) (by omega)) ?_ | refine zap rfl (zcf rfl rfl (by (repeat (first | exact mh | refine mt ?_)); done) rfl) ?_) | (refine zau ?_; refine zap rfl (zbw rfl rfl (by omega) (by omega)) ?_) | refine zap rfl (zcd rfl) ?_ | refine zap rfl (zbz rfl rfl) ?_ | refine zav ?_
    repeat first | refine zaa rfl (zay rfl) ?_ | refine zaa rfl (zaz rfl) ?_ | (refine zac ?_; first | refine zaa rfl (zba rfl rfl rfl) ?_ | refine zaa rfl (zbc rfl rfl (by omega)) ?_) | (refine zad ?_; refine zaa rfl (opj_lenC rfl) ?_) | refine zaa rfl (zby rfl) ?_ | refine zah ?_ | (refine zcr ?_; refine zcs ?_) | (refine zdb ?_; first | refine zdc ?_ | refine zdd ?_) | refine zaa rfl (opj_nilZ rfl) ?_ | refine zaa rfl (opj_fieldZ rfl) ?_ | refine zaa rfl (opj_loadZ rfl rfl rfl) ?_
    refine ws_draw (n := 12) mixed (by decide +kernel) ?_
    repeat first | refine zap rfl (zay rfl) ?_ | refine zap rfl (zaz rfl) ?_ | (refine zar ?_; refine zap rfl (opj_csub rfl rfl) ?_) | (refine zas ?_; (refine zap rfl (zci rfl rfl (hT) ?_) ?_; (focus ((repeat (first | exact Takes.nil | refine Takes.sl ?_ | refine Takes.lit ?_ | refine Takes.fa ?_ | refine Takes.fc ?_ | refine Takes.net ?_ | (refine Takes.ownE ?_ ?_ ?_ ?_ ?_; (focus (exact ⟨_, _, (by (repeat (first | exact mh | refine mt ?_)); done)⟩)); (focus (simp; done)); (focus omega); (focus (simp only [maxLen]; omega))) | refine Takes.same ?_)); done)))) | (refine zat ?_; first | refine zap rfl (opj_loadC rfl rfl (by (repeat (first | exact mh | refine mt ?_)); done) (by omega)) ?_ | refine zap rfl (zcf rfl rfl (by (repeat (first | exact mh | refine mt ?_)); done) rfl) ?_) | (refine zau ?_; refine zap rfl (zbw rfl rfl (by omega) (by omega)) ?_) | refine zap rfl (zcd rfl) ?_ | refine zav ?_
    repeat first | refine zah ?_ | (refine zcr ?_; refine zcs ?_) | (refine zdb ?_; refine zdg ?_)
    exact done_ret1 rfl () rfl trivial (List.nil_sublist _)
theorem l03Way_fn {n : Nat} {P : Nat → CV} {f : Int → FV} {t : FV} (hn : 2 ≤ n ∧ n ≤ 1000) (hf : finC (slopeP n P f t) = true) (hL : LongOk (slopeP n P f t)) (h1 : cmpB .gtr (fcmp .f32 (longC (slopeP n P f t)) (fv .f32 0)) = true) (h2 : finC (unitC (slopeP n P f t)) = true) :
    Fn Try.prog 24 (fun w => [crvQ w n P f, .f .f32 t]) (.tup [cA (unitC (slopeP n P f t)), .raw (.bool true)]) := by
  have hS := l02Slope_fn (n := n) (P := P) (f := f) (t := t) hn
  have hl := l01Long_fn _ hL
  have hF := l01CFinite_fn (slopeP n P f t)
  rw [hf] at hF
  have hC := l02Complex_yes _ h2
  obtain ⟨s, hs⟩ : ∃ s, s = slopeP n P f t := ⟨_, rfl⟩
  rw [← hs] at hS hl hF hC h1 ⊢
  refine fn_intro Try.func24 rfl Try.ntmps24 (fun _ => Nat.le_of_ble_eq_true rfl) fun w0 => ?_
  repeat first | refine zai rfl rfl ?_ | refine zaa rfl (zay rfl) ?_ | refine zaa rfl (zaz rfl) ?_ | (refine zac ?_; refine zaa rfl (zbd rfl rfl rfl) ?_) | (refine zad ?_; first | (refine zaa rfl (zci rfl rfl (hl) ?_) ?_; (focus ((repeat (first | exact Takes.nil | refine Takes.sl ?_ | refine Takes.lit ?_ | refine Takes.fa ?_ | refine Takes.fc ?_ | refine Takes.net ?_ | (refine Takes.ownE ?_ ?_ ?_ ?_ ?_; (focus (exact ⟨_, _, (by (repeat (first | exact mh | refine mt ?_)); done)⟩)); (focus (simp; done)); (focus omega); (focus (simp only [maxLen]; omega))) | refine Takes.same ?_)); done))) | (refine zaa rfl (zci rfl rfl (hF) ?_) ?_; (focus ((repeat (first | exact Takes.nil | refine Takes.sl ?_ | refine Takes.lit ?_ | refine Takes.fa ?_ | refine Takes.fc ?_ | refine Takes.net ?_ | (refine Takes.ownE ?_ ?_ ?_ ?_ ?_; (focus (exact ⟨_, _, (by (repeat (first | exact mh | refine mt ?_)); done)⟩)); (focus (simp; done)); (focus omega); (focus (simp only [maxLen]; omega))) | refine Takes.same ?_)); done)))) | refine zaa rfl (zcb rfl rfl) ?_ | refine zaa rfl (zcc rfl) ?_ | refine zah ?_ | (refine zcr ?_; refine zcs ?_) | (refine zdb ?_; first | refine zdc ?_ | refine zdd ?_) | refine zaa rfl (zci rfl rfl hS (Takes.crvZp (Takes.same Takes.nil))) ?_
  rw [h1]
  unfold cA
  repeat first | refine zaa rfl (zay rfl) ?_ | refine zaa rfl (zaz rfl) ?_ | (refine zac ?_; refine zaa rfl (zba rfl rfl rfl) ?_) | (refine zad ?_; first | refine zaa rfl (zbp rfl) ?_ | refine zaa rfl (zbq rfl) ?_ | refine zaa rfl (zbr rfl rfl) ?_ | (refine zaa rfl (zci rfl rfl (hC) ?_) ?_; (focus ((repeat (first | exact Takes.nil | refine Takes.sl ?_ | refine Takes.lit ?_ | refine Takes.fa ?_ | refine Takes.fc ?_ | refine Takes.net ?_ | (refine Takes.ownE ?_ ?_ ?_ ?_ ?_; (focus (exact ⟨_, _, (by (repeat (first | exact mh | refine mt ?_)); done)⟩)); (focus (simp; done)); (focus omega); (focus (simp only [maxLen]; omega))) | refine Takes.same ?_)); done)))) | refine zaa rfl (zbz rfl rfl) ?_ | refine zah ?_ | (refine zcr ?_; refine zcs ?_) | (refine zdb ?_; first | refine zdc ?_ | refine zdd ?_ | refine zdf ?_ | refine zdg ?_ | refine zdj rfl ?_)
  exact done_ret2 rfl () rfl rfl rfl trivial (List.nil_sublist _)
theorem specWayAt_fn {n : Nat} {P : Nat → CV} {f : Int → FV} {t : FV} (hn : 2 ≤ n ∧ n ≤ 8) (hP : (tabC n P).all finC = true) (hA : (tab n f).all aboveB = true) (hT : Fn Try.prog 23 (fun _ => [.f .f32 t]) (.raw (.bool true)))
    (hf : finC (slopeP n P f t) = true) (hL : LongOk (slopeP n P f t)) (h1 : cmpB .gtr (fcmp .f32 (longC (slopeP n P f t)) (fv .f32 0)) = true) (h2 : finC (unitC (slopeP n P f t)) = true) :
    Fn Try.prog 7 (fun w => [crvA w n P f, .f .f32 t]) (.tup [cA (unitC (slopeP n P f t)), .raw (.bool true)]) := by
  have hI := l02Is_yes hn hP hA
  have hW := l03Way_fn (n := n) (P := P) (f := f) (t := t) (by omega) hf hL h1 h2
  refine fn_intro Try.func7 rfl Try.ntmps7 (fun _ => Nat.le_of_ble_eq_true rfl) fun w0 => ?_
  repeat first | refine zai rfl rfl ?_ | refine zaa rfl (zay rfl) ?_ | refine zaa rfl (zaz rfl) ?_ | (refine zad ?_; (refine zaa rfl (zci rfl rfl (hT) ?_) ?_; (focus ((repeat (first | exact Takes.nil | refine Takes.sl ?_ | refine Takes.lit ?_ | refine Takes.fa ?_ | refine Takes.fc ?_ | refine Takes.net ?_ | (refine Takes.ownE ?_ ?_ ?_ ?_ ?_; (focus (exact ⟨_, _, (by (repeat (first | exact mh | refine mt ?_)); done)⟩)); (focus (simp; done)); (focus omega); (focus (simp only [maxLen]; omega))) | refine Takes.same ?_)); done)))) | refine zaa rfl (zbz rfl rfl) ?_ | refine zaa rfl (zcb rfl rfl) ?_ | refine zaa rfl (zcc rfl) ?_ | refine zah ?_ | (refine zcr ?_; refine zcs ?_) | (refine zdb ?_; first | refine zdc ?_ | refine zdd ?_ | refine zdf ?_ | refine zdg ?_ | refine zdj rfl ?_) | (refine zak rfl rfl rfl ?_; intro g) | refine zaa rfl (zci rfl rfl hI (Takes.crvPt mh Takes.nil)) ?_ | refine zaa rfl (zci rfl rfl hW (Takes.crvZi mh (Takes.same Takes.nil))) ?_
  exact done_ret2 rfl () rfl rfl rfl trivial (List.nil_sublist _)
theorem wayAt_fn {n : Nat} {P : Nat → CV} {f : Int → FV} {t : FV} (hn : 2 ≤ n ∧ n ≤ 8) (hP : (tabC n P).all finC = true) (hA : (tab n f).all aboveB = true) (hT : Fn Try.prog 38 (fun _ => [.f .f32 t]) (.raw (.bool true)))
    (hf : finC (slopeP n P f t) = true) (hL : LongOk (slopeP n P f t)) (h1 : cmpB .gtr (fcmp .f32 (longC (slopeP n P f t)) (fv .f32 0)) = true) (h2 : finC (unitC (slopeP n P f t)) = true) :
    Fn Try.prog 8 (fun w => [crvA w n P f, .f .f32 t]) (.tup [cA (unitC (slopeP n P f t)), .raw (.bool true)]) := by
  have hS := slopeAt_fn hn hP hA hT hf
  have hU := unit_yes _ hL h1 h2
  unfold ptT at hU
  refine fn_intro Try.func8 rfl Try.ntmps8 (fun _ => Nat.le_of_ble_eq_true rfl) fun w0 => ?_
  repeat first | refine zaa rfl (zay rfl) ?_ | refine zaa rfl (zaz rfl) ?_ | (refine zad ?_; (refine zaa rfl (zci rfl rfl (hU) ?_) ?_; (focus ((repeat (first | exact Takes.nil | refine Takes.sl ?_ | refine Takes.lit ?_ | refine Takes.fa ?_ | refine Takes.fc ?_ | refine Takes.net ?_ | (refine Takes.ownE ?_ ?_ ?_ ?_ ?_; (focus (exact ⟨_, _, (by (repeat (first | exact mh | refine mt ?_)); done)⟩)); (focus (simp; done)); (focus omega); (focus (simp only [maxLen]; omega))) | refine Takes.same ?_)); done)))) | (refine zae ?_; refine zaa rfl (zcg rfl rfl (by (repeat (first | exact mh | refine mt ?_)); done) rfl rfl) ?_) | refine zaa rfl (zbz rfl rfl) ?_ | refine zaa rfl (zcc rfl) ?_ | refine zah ?_ | (refine zcr ?_; refine zcs ?_) | (refine zdb ?_; first | refine zdc ?_ | refine zdd ?_ | refine zdf ?_ | refine zdg ?_ | refine zdj rfl ?_) | (refine zak rfl rfl rfl ?_; intro g) | refine zaa rfl (zci rfl rfl hS (Takes.crv (Takes.same Takes.nil))) ?_
  exact done_ret2 rfl () rfl rfl rfl trivial (List.nil_sublist _)
theorem besideAt_fn {n : Nat} {P : Nat → CV} {f : Int → FV} {t by_ : FV} (hn : 2 ≤ n ∧ n ≤ 8) (hP : (tabC n P).all finC = true) (hA : (tab n f).all aboveB = true) (hT : Fn Try.prog 38 (fun _ => [.f .f32 t]) (.raw (.bool true)))
    (hf : finC (slopeP n P f t) = true) (hL : LongOk (slopeP n P f t)) (h1 : cmpB .gtr (fcmp .f32 (longC (slopeP n P f t)) (fv .f32 0)) = true) (h2 : finC (unitC (slopeP n P f t)) = true) (hp : finC (pointP n P f t) = true) (hb : finB by_ = true)
    (hr : finC (addC2 (pointP n P f t) (scaleC (negC (unitC (slopeP n P f t))) by_)) = true) :
    Fn Try.prog 9 (fun w => [crvA w n P f, .f .f32 t, .f .f32 by_]) (.tup [cA (addC2 (pointP n P f t) (scaleC (negC (unitC (slopeP n P f t))) by_)), .raw (.bool true)]) := by
  have hW := wayAt_fn hn hP hA hT hf hL h1 h2
  have hC := curveAt_fn hn hP hA hT hp
  have hF := isFinite_fn by_
  rw [hb] at hF
  have hB := beside_fn (unitC (slopeP n P f t))
  have hS := scaleComplex_fn (negC (unitC (slopeP n P f t))) by_
  have hPl := plus_fn (pointP n P f t) (scaleC (negC (unitC (slopeP n P f t))) by_)
  have hI := ifPoint_fn _ true hr
  unfold ptT at hI
  refine fn_intro Try.func9 rfl Try.ntmps9 (fun _ => Nat.le_of_ble_eq_true rfl) fun w0 => ?_
  repeat first | refine zai rfl rfl ?_ | refine zaa rfl (zay rfl) ?_ | refine zaa rfl (zaz rfl) ?_ | (refine zad ?_; first | (refine zaa rfl (zci rfl rfl (hF) ?_) ?_; (focus ((repeat (first | exact Takes.nil | refine Takes.sl ?_ | refine Takes.lit ?_ | refine Takes.fa ?_ | refine Takes.fc ?_ | refine Takes.net ?_ | (refine Takes.ownE ?_ ?_ ?_ ?_ ?_; (focus (exact ⟨_, _, (by (repeat (first | exact mh | refine mt ?_)); done)⟩)); (focus (simp; done)); (focus omega); (focus (simp only [maxLen]; omega))) | refine Takes.same ?_)); done))) | (refine zaa rfl (zci rfl rfl (hB) ?_) ?_; (focus ((repeat (first | exact Takes.nil | refine Takes.sl ?_ | refine Takes.lit ?_ | refine Takes.fa ?_ | refine Takes.fc ?_ | refine Takes.net ?_ | (refine Takes.ownE ?_ ?_ ?_ ?_ ?_; (focus (exact ⟨_, _, (by (repeat (first | exact mh | refine mt ?_)); done)⟩)); (focus (simp; done)); (focus omega); (focus (simp only [maxLen]; omega))) | refine Takes.same ?_)); done))) | (refine zaa rfl (zci rfl rfl (hS) ?_) ?_; (focus ((repeat (first | exact Takes.nil | refine Takes.sl ?_ | refine Takes.lit ?_ | refine Takes.fa ?_ | refine Takes.fc ?_ | refine Takes.net ?_ | (refine Takes.ownE ?_ ?_ ?_ ?_ ?_; (focus (exact ⟨_, _, (by (repeat (first | exact mh | refine mt ?_)); done)⟩)); (focus (simp; done)); (focus omega); (focus (simp only [maxLen]; omega))) | refine Takes.same ?_)); done))) | (refine zaa rfl (zci rfl rfl (hPl) ?_) ?_; (focus ((repeat (first | exact Takes.nil | refine Takes.sl ?_ | refine Takes.lit ?_ | refine Takes.fa ?_ | refine Takes.fc ?_ | refine Takes.net ?_ | (refine Takes.ownE ?_ ?_ ?_ ?_ ?_; (focus (exact ⟨_, _, (by (repeat (first | exact mh | refine mt ?_)); done)⟩)); (focus (simp; done)); (focus omega); (focus (simp only [maxLen]; omega))) | refine Takes.same ?_)); done))) | (refine zaa rfl (zci rfl rfl (hI) ?_) ?_; (focus ((repeat (first | exact Takes.nil | refine Takes.sl ?_ | refine Takes.lit ?_ | refine Takes.fa ?_ | refine Takes.fc ?_ | refine Takes.net ?_ | (refine Takes.ownE ?_ ?_ ?_ ?_ ?_; (focus (exact ⟨_, _, (by (repeat (first | exact mh | refine mt ?_)); done)⟩)); (focus (simp; done)); (focus omega); (focus (simp only [maxLen]; omega))) | refine Takes.same ?_)); done)))) | (refine zae ?_; refine zaa rfl (zcg rfl rfl (by (repeat (first | exact mh | refine mt ?_)); done) rfl rfl) ?_) | refine zaa rfl (zbz rfl rfl) ?_ | refine zaa rfl (zcb rfl rfl) ?_ | refine zaa rfl (zcc rfl) ?_ | refine zah ?_ | (refine zcr ?_; refine zcs ?_) | (refine zdb ?_; first | refine zdc ?_ | refine zdd ?_ | refine zdf ?_ | refine zdg ?_ | refine zdj rfl ?_) | (refine zak rfl rfl rfl ?_; intro g) | refine zaa rfl (zci rfl rfl hC (Takes.crv (Takes.same Takes.nil))) ?_ | refine zaa rfl (zci rfl rfl hW (Takes.crv (Takes.same Takes.nil))) ?_
  exact done_ret2 rfl () rfl rfl rfl trivial (List.nil_sublist _)
theorem l02Give_yes {n a b ca cb : Nat} {P : Nat → CV} {f : Int → FV} (hn : 2 ≤ n ∧ n ≤ 8) (hP : (tabC n P).all finC = true) (hf : (tab n f).all aboveB = true) (h1 : n ≤ ca ∧ ca ≤ maxLen) (h2 : n ≤ cb ∧ cb ≤ maxLen) :
    FnH (X := Unit) Try.prog 36 (fun _ => [crvOc a b n ca cb]) [entF b 30 n f cb, entC a n P ca] (fun _ => .tup [crvOc a b n ca cb, .raw (.bool true)]) (fun _ => [entF b 30 n f cb, entC a n P ca]) (fun _ => True) := by
  have hI := l02Is_yes hn hP hf
  refine fn_intro Try.func36 rfl Try.ntmps36 (fun _ => Nat.le_of_ble_eq_true rfl) fun w0 => ?_
  repeat first | refine zaa rfl (zaz rfl) ?_ | (refine zae ?_; refine zaa rfl (zcg rfl rfl (by (repeat (first | exact mh | refine mt ?_)); done) rfl rfl) ?_) | refine zaa rfl (zcc rfl) ?_ | refine zah ?_ | (refine zcr ?_; refine zcs ?_) | (refine zdb ?_; first | refine zdc ?_ | refine zdd ?_ | refine zdf ?_ | refine zdg ?_ | refine zdj rfl ?_) | (refine zak rfl rfl rfl ?_; intro g) | (refine zal rfl rfl ?_; intro g) | (refine zag ?_; refine zan 0 rfl rfl rfl rfl rfl rfl rfl rfl rfl ?_) | refine zaa rfl (zci rfl rfl hI (Takes.crvPOc (mt mh) (mt (mt (mt mh))) (mt (mt mh)) h1 h2 Takes.nil)) ?_
  exact done_retCX rfl rfl () rfl rfl mh rfl rfl rfl trivial (.cons _ (.cons _ (List.Sublist.refl _)))
theorem specPlainCurve_fn {n : Nat} {P : Nat → CV} (hn : 2 ≤ n ∧ n ≤ 8) (hP : (tabC n P).all finC = true) :
    FnH (X := (Nat × Nat) × Nat × Nat) Try.prog 13 (fun w => [slC w (tabC n P)]) [] (fun y => .tup [crvOc y.1.1 y.1.2 n y.2.1 y.2.2, .raw (.bool true)]) (fun y => [entF y.1.2 30 n (fun _ => one1) y.2.2, entC y.1.1 n P y.2.1]) (fun y => (n ≤ y.2.1 ∧ y.2.1 ≤ maxLen) ∧ n ≤ y.2.2 ∧ y.2.2 ≤ maxLen) := by
  have hS := specPlain_fn (n := n) (P := P) (by omega)
  refine fn_intro Try.func13 rfl Try.ntmps13 (fun _ => Nat.le_of_ble_eq_true rfl) fun w0 => ?_
  repeat first | refine zaa rfl (zay rfl) ?_ | refine zaa rfl (zaz rfl) ?_ | (refine zac ?_; refine zaa rfl (zbg rfl rfl) ?_) | (refine zad ?_; refine zaa rfl (opj_lenC rfl) ?_) | refine zah ?_ | (refine zcr ?_; refine zcs ?_) | (refine zdb ?_; first | refine zdc ?_ | refine zdd ?_) | (refine zal rfl rfl ?_; intro g)
  rw [decide_eq_false (show ¬ (8 : Int) < (n : Int) by omega)]
  repeat first | refine zaa rfl (zay rfl) ?_ | (refine zcr ?_; refine zcs ?_) | (refine zdb ?_; first | refine zdc ?_ | refine zdd ?_ | refine zdf ?_ | refine zdj rfl ?_)
  refine rs_callM3 hS rfl rfl ?_ rfl ?_
  · (repeat (first | exact Takes.nil | refine Takes.sl ?_ | refine Takes.lit ?_ | refine Takes.fa ?_ | refine Takes.fc ?_ | refine Takes.net ?_ | (refine Takes.ownE ?_ ?_ ?_ ?_ ?_; (focus (exact ⟨_, _, (by (repeat (first | exact mh | refine mt ?_)); done)⟩)); (focus (simp; done)); (focus omega); (focus (simp only [maxLen]; omega))) | refine Takes.same ?_)); done
  rintro ⟨⟨a, b⟩, ca, cb⟩ ⟨h1, h2⟩
  dsimp only at h1 h2 ⊢
  refine rs_call (pre := [entF b 30 n (fun _ => one1) cb, entC a n P ca]) (l02Give_yes hn hP (wts_one n).above h1 h2) rfl rfl (Takes.same Takes.nil) rfl fun _ _ => ?_
  repeat first | refine zaa rfl (zaz rfl) ?_ | refine zaa rfl (zbz rfl rfl) ?_ | refine zah ?_ | (refine zcr ?_; refine zcs ?_) | (refine zdb ?_; refine zdg ?_) | (refine zag ?_; refine zan 2 rfl rfl rfl rfl rfl rfl rfl rfl rfl ?_)
  exact done_retCX rfl rfl ((a, b), ca, cb) rfl rfl (mt (mt mh)) rfl rfl rfl ⟨h1, h2⟩ (.cons_cons _ (.cons_cons _ (List.nil_sublist _)))
/-- Where a curve the other way round stands. -/
def backWd (T Tc : TypeId) (w0 : World) (g1 g2 g4 n : Nat) (P : Nat → CV) (f : Int → FV) (P' : Nat → CV) (f' : Int → FV) (y : Nat × (Nat × Nat) × Nat × Nat) : World → Prop := match y.1 with
  | 0 => St w0 [] [⟨g4, Tc, [.raw (.slice none 0 0), .raw (.slice none 0 0)], 2⟩, ⟨g2, Tc, [.raw (.slice none 0 0), .raw (.slice none 0 0)], 2⟩, ⟨g1, Tc, [slC w0 (tabC n P), AV.sl w0 1 ((tab n f).map (AV.f .f32))], 2⟩]
  | i + 1 => St w0 [] [⟨g4, Tc, [.raw (.slice (some ⟨y.2.1.1, 0, none⟩) (i + 1) y.2.2.1), .raw (.slice (some ⟨y.2.1.2, 0, none⟩) (i + 1) y.2.2.2)], 2⟩, ⟨g2, Tc, [.raw (.slice none 0 0), .raw (.slice none 0 0)], 2⟩, ⟨g1, Tc, [slC w0 (tabC n P), AV.sl w0 1 ((tab n f).map (AV.f .f32))], 2⟩, entC y.2.1.1 (i + 1) P' y.2.2.1, entF y.2.1.2 T (i + 1) f' y.2.2.2]
def backP (n : Nat) (P : Nat → CV) (i : Nat) : CV := P (((n : Int) - 1 - (i : Int)).toNat)
theorem backCurve_fn {n : Nat} {P : Nat → CV} (hn : 2 ≤ n ∧ n ≤ 8) (hP : (tabC n P).all finC = true) :
    FnH (X := (Nat × Nat) × Nat × Nat) Try.prog 18 (fun w => [crvA w n P (fun _ => one1)]) [] (fun y => .tup [crvOc y.1.1 y.1.2 n y.2.1 y.2.2, .raw (.bool true)]) (fun y => [entC y.1.1 n (backP n P) y.2.1, entF y.1.2 30 n (fun _ => one1) y.2.2]) (fun y => (n ≤ y.2.1 ∧ y.2.1 ≤ maxLen) ∧ n ≤ y.2.2 ∧ y.2.2 ≤ maxLen) := by
  have hI := l02Is_yes hn hP (wts_one n).above
  refine fn_intro Try.func18 rfl Try.ntmps18 (fun _ => Nat.le_of_ble_eq_true rfl) fun w0 => ?_
  repeat first | refine zaa rfl (zaz rfl) ?_ | (refine zac ?_; refine zaa rfl (zbc rfl rfl (by omega)) ?_) | (refine zad ?_; refine zaa rfl (opj_lenC rfl) ?_) | (refine zae ?_; refine zaa rfl (zcf rfl rfl (by (repeat (first | exact mh | refine mt ?_)); done) rfl) ?_) | refine zaa rfl (zcd rfl) ?_ | refine zaa rfl (zcc rfl) ?_ | refine zah ?_ | (refine zcr ?_; refine zcs ?_) | (refine zdb ?_; first | refine zdc ?_ | refine zdd ?_ | refine zde ?_ | refine zdf ?_ | refine zdj rfl ?_) | (refine zak rfl rfl rfl ?_; intro g) | (refine zal rfl rfl ?_; intro g) | (refine zag ?_; refine zan 0 rfl rfl rfl rfl rfl rfl rfl rfl rfl ?_) | refine zaa rfl (zci rfl rfl hI (Takes.crvPt (mt mh) Takes.nil)) ?_ | refine zaa rfl opj_buildZ ?_
  rename_i g1 g2
  obtain ⟨g4, hg4⟩ : ∃ x, x = g := ⟨g, rfl⟩
  subst hg4
  refine ws_loop (ι := Nat × (Nat × Nat) × Nat × Nat) (fun y => [(1, .raw (.pointer (some ⟨g1, 0, none⟩))), (2, .raw (.pointer (some ⟨g2, 0, none⟩))), (4, .raw (.pointer (some ⟨g4, 0, none⟩))), (5, .raw (.int .i64 ((n : Int) - 1 - (y.1 : Nat))))])
    (backWd 30 27 w0 g1 g2 g4 n P (fun _ => one1) (backP n P) (fun _ => one1)) (fun y => y.1 ≤ n ∧ (y.1 ≤ y.2.2.1 ∧ y.2.2.1 ≤ maxLen) ∧ y.1 ≤ y.2.2.2 ∧ y.2.2.2 ≤ maxLen) (fun y => n - y.1) (0, (0, 0), 0, 0) ⟨by simp only; omega, by simp only; omega, by simp only; omega⟩ ?_ (fun _ h => h) (fun y hy => ?_)
  · simp only
    rw [show (n : Int) - 1 - ((0 : Nat) : Int) = (n : Int) - 1 by omega]
    (repeat (first | exact Env.sub_nil _ | refine Env.sub_cons rfl ?_))
  obtain ⟨i, ⟨a, b⟩, ca, cb⟩ := y
  simp only at hy ⊢
  obtain ⟨hi, ⟨hca1, hca2⟩, hcb1, hcb2⟩ := hy
  simp only [maxLen] at hca1 hca2 hcb1 hcb2
  cases i with
  | zero =>
    unfold backWd
    dsimp only
    repeat first | refine zaa rfl (zay rfl) ?_ | (refine zac ?_; refine zaa rfl (zbh rfl rfl) ?_) | refine zah ?_ | (refine zcr ?_; refine zcs ?_) | (refine zdb ?_; first | refine zdc ?_ | refine zdd ?_)
    refine ws_cond rfl (fun hd => ?_) (fun hd => ?_)
    case' refine_2 =>
      exfalso
      have := of_decide_eq_false hd
      omega
    have hlt : (0 : Int) ≤ (n : Int) - 1 - ((0 : Nat) : Int) := of_decide_eq_true hd
    clear hd
    repeat first | (refine zcr ?_; refine zcs ?_) | (refine zdb ?_; first | refine zdc ?_ | refine zde ?_ | refine zdf ?_)
    refine ws_draw (n := 8) mixed (by decide +kernel) ?_
    repeat first | refine zap rfl (zay rfl) ?_ | (refine zat ?_; first | refine zap rfl (zcf rfl rfl (by (repeat (first | exact mh | refine mt ?_)); done) rfl) ?_ | refine zap rfl (zbu rfl rfl) ?_) | (refine zau ?_; refine zap rfl (opj_indexC rfl rfl (by omega) (by omega)) ?_) | refine zap rfl (zcd rfl) ?_ | refine zav ?_ | refine zap rfl (zco rfl rfl rfl rfl rfl rfl) ?_
    refine rs_appendNil2 (sz := 1) (m := 1) (ys := [cA (backP n P 0)]) rfl (by omega) rfl ⟨_, rfl, fun w v _ h => h.inv_p.2⟩ rfl (by omega) rfl (by simp only [maxLen]; omega) (by omega) rfl fun a' ca' h1 h2 => ?_
    rw [entC_one]
    repeat first | refine zaa rfl (zcd rfl) ?_ | refine zah ?_ | (refine zcr ?_; refine zcs ?_) | (refine zag ?_; refine zam 1 rfl rfl rfl rfl rfl rfl ?_)
    refine ws_draw (n := 8) mixed (by decide +kernel) ?_
    repeat first | refine zap rfl (zay rfl) ?_ | (refine zat ?_; first | refine zap rfl (zcf rfl rfl (by (repeat (first | exact mh | refine mt ?_)); done) rfl) ?_ | refine zap rfl (zbu rfl rfl) ?_) | (refine zau ?_; refine zap rfl (zbs rfl rfl (by omega) (by omega)) ?_) | refine zap rfl (zcd rfl) ?_ | refine zav ?_ | refine zap rfl (zco rfl rfl rfl rfl rfl rfl) ?_
    refine rs_appendNil2 (sz := 1) (m := 1) (ys := [.f .f32 one1]) rfl (by omega) rfl ⟨_, rfl, fun w v _ h => h.inv_p.2⟩ rfl (by omega) rfl (by simp only [maxLen]; omega) (by omega) rfl fun b' cb' h3 h4 => ?_
    rw [entF_one b' cb' _ (fun _ => one1)]
    repeat first | refine zaa rfl (zay rfl) ?_ | refine zaa rfl (zaz rfl) ?_ | (refine zac ?_; refine zaa rfl (zbc rfl rfl (by omega)) ?_) | refine zaa rfl (zcd rfl) ?_ | refine zah ?_ | (refine zcr ?_; first | refine zcs ?_ | refine zcv ?_) | (refine zdb ?_; refine zdd ?_) | (refine zag ?_; refine zam 2 rfl rfl rfl rfl rfl rfl ?_)
    refine done_round (1, (a', b'), ca', cb') ⟨by simp only; omega, ⟨h1, h2⟩, h3, h4⟩ (by simp only; omega) ?_ (fun w h => ?_)
    · simp only
      rw [show (n : Int) - 1 - ((1 : Nat) : Int) = (n : Int) - 1 - ((0 : Nat) : Int) - 1 by omega]
      (repeat (first | exact Env.sub_nil _ | refine Env.sub_cons rfl ?_))
    · exact h.swap.perm (List.perm_append_comm (l₁ := [_, _, _]) (l₂ := [_, _]))
  | succ j =>
    unfold backWd
    dsimp only
    repeat first | refine zaa rfl (zay rfl) ?_ | (refine zac ?_; refine zaa rfl (zbh rfl rfl) ?_) | refine zah ?_ | (refine zcr ?_; refine zcs ?_) | (refine zdb ?_; first | refine zdc ?_ | refine zdd ?_)
    refine ws_cond rfl (fun hd => ?_) (fun hd => ?_)
    case' refine_2 =>
      have hjn : n = j + 1 := by have := of_decide_eq_false hd; omega
      subst hjn
      repeat first | refine zaa rfl (zaz rfl) ?_ | (refine zae ?_; refine zaa rfl (zcg rfl rfl (by (repeat (first | exact mh | refine mt ?_)); done) rfl rfl) ?_) | refine zah ?_ | (refine zcr ?_; first | refine zcs ?_ | refine zcu ?_ | refine zcx ?_ | refine zda ?_) | (refine zdb ?_; first | refine zdc ?_ | refine zdd ?_ | refine zdg ?_ | refine zdh ?_) | (refine zag ?_; refine zan 1 rfl rfl rfl rfl rfl rfl rfl rfl rfl ?_)
      exact done_retCX rfl rfl ((a, b), ca, cb) rfl rfl (mt mh) rfl rfl rfl ⟨⟨hca1, by simp only [maxLen]; omega⟩, hcb1, by simp only [maxLen]; omega⟩ (.cons _ (.cons _ (.cons _ (List.Sublist.refl _))))
    have hlt : (0 : Int) ≤ (n : Int) - 1 - ((j + 1 : Nat) : Int) := of_decide_eq_true hd
    clear hd
    repeat first | (refine zcr ?_; refine zcs ?_) | (refine zdb ?_; first | refine zdc ?_ | refine zde ?_ | refine zdf ?_)
    refine ws_draw (n := 8) mixed (by decide +kernel) ?_
    repeat first | refine zap rfl (zay rfl) ?_ | (refine zat ?_; first | refine zap rfl (zcf rfl rfl (by (repeat (first | exact mh | refine mt ?_)); done) rfl) ?_ | refine zap rfl (zbu rfl rfl) ?_) | (refine zau ?_; refine zap rfl (opj_indexC rfl rfl (by omega) (by omega)) ?_) | refine zap rfl (zcd rfl) ?_ | refine zav ?_ | refine zap rfl (zco rfl rfl rfl rfl rfl rfl) ?_
    refine rs_appendC 3 (backP n P) rfl rfl rfl rfl ⟨hca1, by simp only [maxLen]; omega⟩ (by omega) rfl rfl rfl (fun s _ => rfl) fun a' ca' h1 h2 => ?_
    repeat first | refine zaa rfl (zcd rfl) ?_ | refine zah ?_ | (refine zcr ?_; refine zcs ?_) | (refine zag ?_; refine zam 0 rfl rfl rfl rfl rfl rfl ?_)
    refine ws_draw (n := 8) mixed (by decide +kernel) ?_
    repeat first | refine zap rfl (zay rfl) ?_ | (refine zat ?_; first | refine zap rfl (zcf rfl rfl (by (repeat (first | exact mh | refine mt ?_)); done) rfl) ?_ | refine zap rfl (zbu rfl rfl) ?_) | (refine zau ?_; refine zap rfl (zbs rfl rfl (by omega) (by omega)) ?_) | refine zap rfl (zcd rfl) ?_ | refine zav ?_ | refine zap rfl (zco rfl rfl rfl rfl rfl rfl) ?_
    refine rs_appendT 4 (fun _ => one1) rfl rfl rfl rfl ⟨hcb1, by simp only [maxLen]; omega⟩ (by omega) rfl rfl rfl (fun s _ _ => rfl) fun b' cb' h3 h4 => ?_
    repeat first | refine zaa rfl (zay rfl) ?_ | refine zaa rfl (zaz rfl) ?_ | (refine zac ?_; refine zaa rfl (zbc rfl rfl (by omega)) ?_) | refine zaa rfl (zcd rfl) ?_ | refine zah ?_ | (refine zcr ?_; first | refine zcs ?_ | refine zcv ?_) | (refine zdb ?_; refine zdd ?_) | (refine zag ?_; refine zam 0 rfl rfl rfl rfl rfl rfl ?_)
    refine done_round (j + 1 + 1, (a', b'), ca', cb') ⟨by simp only; omega, ⟨h1, h2⟩, h3, h4⟩ (by simp only; omega) ?_ (fun w h => ?_)
    · simp only
      rw [show (n : Int) - 1 - ((j + 1 + 1 : Nat) : Int) = (n : Int) - 1 - ((j + 1 : Nat) : Int) - 1 by omega]
      (repeat (first | exact Env.sub_nil _ | refine Env.sub_cons rfl ?_))
    · exact h
end Go.Ab
namespace Go.Ab
def bowlP (a : FV) : Nat → CV
  | 0 => (fv .f32 0, fv .f32 0)
  | 1 => (one1, fbin .mul .f32 (fv .f32 1073741824) a)
  | _ => (fv .f32 1073741824, fv .f32 0)
def waveP (a : FV) : Nat → CV
  | 0 => (fv .f32 0, fv .f32 0)
  | 1 => (one1, a)
  | 2 => (fv .f32 1073741824, fneg .f32 a)
  | _ => (fv .f32 1077936128, fv .f32 0)
def halfT : FV := fv .f32 1056964608
def aF (A : Nat) : FV := qtF ((A : Int) + 1)
/-- What a bowl asks. -/
def bowlOk (P : Nat → CV) : Bool := (tabC 3 P).all finC && (tabC 2 (diffP 3 P)).all finC && timeB halfT && bendOkB (bp3 P halfT) (bq3 P)
def eOk (P : Nat → CV) (t : FV) : Bool := timeB t && finC (bp3 P t)
def e1F (P : Nat → CV) (t : FV) : FV := (bp3 P t).1
def e2F (P : Nat → CV) (t : FV) : FV := (bp3 P t).2
def fOk3 (P : Nat → CV) (t : FV) : Bool := timeB t && bendOkB (bp3 P t) (bq3 P)
def f3F (P : Nat → CV) (t : FV) : FV := bendV (bp3 P t) (bq3 P)
def fOk4 (P : Nat → CV) (t : FV) : Bool := timeB t && bendOkB (bp4 P t) (bq4 P t)
def f4F (P : Nat → CV) (t : FV) : FV := bendV (bp4 P t) (bq4 P t)
def enOk (P : Nat → CV) : Bool := (tabC 17 (ptsE 3 P 16)).all finC && allLt (fun i => longB (subC2 (ptsE 3 P 16 (i + 1)) (ptsE 3 P 16 i))) 16 && allLt (fun i => fOk3 P (enT 16 i)) 16 && finB (enF 16 (f3F P) (lngF (ptsE 3 P 16)) 16)
def bowlAll (a : FV) : Bool := bowlOk (bowlP a) && chgOk (eOk (bowlP a)) (e1F (bowlP a)) 7 && chgOk (eOk (bowlP a)) (e2F (bowlP a)) 7 && decide (cntB (e1F (bowlP a)) 7 7 = 0) && decide (cntB (e2F (bowlP a)) 7 7 = 1) && chgOk (fOk3 (bowlP a)) (f3F (bowlP a)) 8 && decide (cntB (f3F (bowlP a)) 8 8 = 0) && bowlOk (backP 3 (bowlP a))
def waveAll (a : FV) : Bool := (tabC 4 (waveP a)).all finC && (tabC 3 (diffP 4 (waveP a))).all finC && (tabC 2 (diffP 3 (diffP 4 (waveP a)))).all finC && chgOk (fOk4 (waveP a)) (f4F (waveP a)) 7 && decide (cntB (f4F (waveP a)) 7 7 = 1)
def c01V : FV := fv .f64 4576918229304087675
def half64 : FV := fv .f64 4602678819172646912
def wide (x : FV) : FV := fconv .f32 .f64 x
def lt01 (x : FV) : Bool := cmpB .lss (fcmp .f64 x c01V)
def bendA (a : FV) : FV := bendV (bp3 (bowlP a) halfT) (bq3 (bowlP a))
def bendB (a : FV) : FV := bendV (bp3 (backP 3 (bowlP a)) halfT) (bq3 (backP 3 (bowlP a)))
def endAll (a : FV) : Bool := ngF (bendA a) && lt01 (gapF (wide (bendA a)) (fbin .mul .f64 (fv .f64 13835058055282163712) (wide a))) && lt01 (gapF (wide (bendB a)) (fneg .f64 (wide (bendA a)))) && lt01 (gapF (wide (fnB (e2F (bowlP a)) 7 7 0)) half64) && posF (enF 16 (f3F (bowlP a)) (lngF (ptsE 3 (bowlP a) 16)) 16) && lt01 (gapF (wide (fnB (f4F (waveP a)) 7 7 0)) half64)
theorem bowl_all : allLt (fun A => bowlAll (aF A)) 8 = true := by decide +kernel
theorem en_all : allLt (fun A => enOk (bowlP (aF A))) 8 = true := by decide +kernel
theorem wave_all : allLt (fun A => waveAll (aF A)) 8 = true := by decide +kernel
theorem end_all : allLt (fun A => endAll (aF A)) 8 = true := by decide +kernel
end Go.Ab
