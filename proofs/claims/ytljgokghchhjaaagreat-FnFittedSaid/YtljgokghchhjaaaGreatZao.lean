/- Fits, the reference's: a cubic curve near a path, walked. No conditions. -/
import Derived.Test.YtljgokghchhjaaaGreatZan
namespace Go.Ab
open Go.Proofs
variable {R : World → Prop} [RStab R]
theorem ra_name {P : Program} {S : World → Prop} {N : Nat} {e : Env} {Q : Exit → Env → World → Prop} {ops : Array Oper} {L : Array Bool} {fuel : Nat} (h : ∀ o, o = ops → ∀ Q', Q' = Q → RA P N o L fuel e S Q') : RA P N ops L fuel e S Q := h ops rfl Q rfl
attribute [local irreducible] WS RS Done OpJ Then InBlock Round Ret Env.sub FnH
attribute [local irreducible] tab tabC
set_option maxHeartbeats 4000000 in
theorem l05Cubic_fn {st en : CV} {n : Nat} {P : Nat → CV} {tt : Int → FV} {su sv eu ev : Rat} {x y t : Nat → Rat} (F : FitV (unitC st) (unitC (ngC en)) n P tt su sv eu ev x y t) (hs : LongOk st) (he : LongOk (ngC en))
    (hP : FnH (X := Nat × Nat) Tryz.prog 37 (fun W => [slC W (tabC n P), .f .f32 (fv .f32 1065353216)]) [] (fun y => .tup [.raw (.slice (some ⟨y.1, 0, none⟩) n y.2), .raw (.bool true)]) (fun y => [entF y.1 27 n tt y.2]) (fun y => n ≤ y.2 ∧ y.2 ≤ maxLen)) :
    FnH (X := (Nat × Nat) × FV × Int) Tryz.prog 17 (fun W => [slC W (tabC n P), cA st, cA en]) []
      (fun y => .tup [crvO y.1.1 y.1.2 4, .f .f32 y.2.1, .raw (.int .i64 y.2.2), .raw (.bool true)])
      (fun y => [entF y.1.2 27 4 (fun _ => one1) 4, entC y.1.1 4 (fitQ (unitC st) (unitC (ngC en)) n P tt) 4]) (fun y => (∃ r, Vl .f32 y.2.1 r) ∧ (-1 ≤ y.2.2 ∧ y.2.2 + 1 < n) ∧ (3 ≤ n → 1 ≤ y.2.2)) := by
  have hn := F.hn
  have hO := F.ok
  have hs1 := l05Unit_fn st hs
  have he1 := l05Unit_fn (ngC en) he
  unfold ngC cA at he1
  obtain ⟨s, hse⟩ : ∃ s, s = unitC st := ⟨_, rfl⟩
  obtain ⟨e, hee⟩ : ∃ e, e = unitC (ngC en) := ⟨_, rfl⟩
  have hee' := hee
  unfold ngC at hee'
  rw [← hse] at hs1
  rw [← hee'] at he1
  rw [← hse, ← hee] at F hO ⊢
  have eE : cA en = AV.c .f32 en.1 en.2 := rfl
  refine fn_intro Tryz.func17 rfl Tryz.ntmps17 (fun _ => Nat.le_of_ble_eq_true rfl) fun w0 => ?_
  have e0 : (0 : Int).toNat = 0 := rfl
  have en1 : ((n : Int) - 1).toNat = n - 1 := by omega
  repeat first | refine zaa rfl (zay rfl) ?_ | refine zaa rfl (zaz rfl) ?_ | (refine zac ?_; refine zaa rfl (zbc rfl rfl (by omega)) ?_) | (refine zad ?_; first | refine zaa rfl (opj_lenC rfl) ?_ | (refine zaa rfl (zci rfl rfl (hs1) ?_) ?_; (focus ((repeat (first | exact Takes.nil | refine Takes.sl ?_ | refine Takes.lit ?_ | refine Takes.fa ?_ | refine Takes.fc ?_ | refine Takes.net ?_ | (refine Takes.ownE ?_ ?_ ?_ ?_ ?_; (focus (exact ⟨_, _, (by (repeat (first | exact mh | refine mt ?_)); done)⟩)); (focus (simp; done)); (focus omega); (focus (simp only [maxLen]; omega))) | refine Takes.same ?_)); done)))) | (refine zae ?_; refine zaa rfl (zbu rfl rfl) ?_) | (refine zaf ?_; refine zaa rfl (opj_indexC rfl rfl (by omega) (by omega)) ?_) | refine zah ?_ | (refine zcr ?_; refine zcs ?_) | (refine zdb ?_; first | refine zdc ?_ | refine zdd ?_) | (refine zal rfl rfl ?_; intro g)
  rw [eE]
  repeat first | refine zaa rfl (zay rfl) ?_ | refine zaa rfl (zaz rfl) ?_ | (refine zad ?_; first | refine zaa rfl (opj_lenC rfl) ?_ | (refine zaa rfl (zci rfl rfl (he1) ?_) ?_; (focus ((repeat (first | exact Takes.nil | refine Takes.sl ?_ | refine Takes.lit ?_ | refine Takes.fa ?_ | refine Takes.fc ?_ | refine Takes.net ?_ | (refine Takes.ownE ?_ ?_ ?_ ?_ ?_; (focus (exact ⟨_, _, (by (repeat (first | exact mh | refine mt ?_)); done)⟩)); (focus (simp; done)); (focus omega); (focus (simp only [maxLen]; omega))) | refine Takes.same ?_)); done))) | (refine rs_call1 (hP) rfl rfl ?_ rfl ?_; (focus ((repeat (first | exact Takes.nil | refine Takes.sl ?_ | refine Takes.lit ?_ | refine Takes.fa ?_ | refine Takes.fc ?_ | refine Takes.net ?_ | (refine Takes.ownE ?_ ?_ ?_ ?_ ?_; (focus (exact ⟨_, _, (by (repeat (first | exact mh | refine mt ?_)); done)⟩)); (focus (simp; done)); (focus omega); (focus (simp only [maxLen]; omega))) | refine Takes.same ?_)); done)); rintro ⟨gt, ct⟩ ⟨ht1, ht2⟩; simp only [maxLen] at ht1 ht2)) | refine zaa rfl (zbz rfl rfl) ?_ | refine zaa rfl (zcc rfl) ?_ | refine zah ?_ | (refine zcr ?_; refine zcs ?_) | (refine zdb ?_; first | refine zdc ?_ | refine zdd ?_ | refine zde ?_ | refine zdf ?_ | refine zdj rfl ?_) | refine zaa rfl (opj_cneg rfl) ?_
  obtain ⟨g6, hg6⟩ : ∃ x, x = g := ⟨g, rfl⟩
  subst hg6
  refine ws_loop (ι := Nat) (fun i => [(0, slC w0 (tabC n P)), (6, .raw (.pointer (some ⟨g6, 0, none⟩))), (10, .raw (.int .i64 n)), (11, cA (P 0)), (12, cA (P (n - 1))), (13, cA s), (14, cA e), (15, .raw (.slice (some ⟨gt, 0, none⟩) n ct)), (17, .f .f32 (accC s tt i)), (18, .f .f32 (accD s e tt i)), (19, .f .f32 (accF e tt i)), (20, .f .f32 (accG s n P tt i)), (21, .f .f32 (accK e n P tt i)), (67, .raw (.int .i64 n)), (68, .raw (.int .i64 i))])
    (fun _ => St w0 [] [entF gt 27 n tt ct, ⟨g6, 35, [.raw (.slice none 0 0), .raw (.slice none 0 0)], 2⟩]) (fun i => i ≤ n) (fun i => n - i) 0 (Nat.zero_le _) ?_ (fun _ h => h) (fun i hi => ?_)
  · rw [en1]
    (repeat (first | exact Env.sub_nil _ | refine Env.sub_cons rfl ?_))
  repeat first | (refine zac ?_; refine zaa rfl (zbe rfl rfl) ?_) | refine zah ?_ | (refine zcr ?_; refine zcs ?_) | (refine zdb ?_; first | refine zdc ?_ | refine zdd ?_)
  refine ws_cond rfl (fun hd => ?_) (fun hd => ?_)
  case' refine_1 =>
    have hlt : (i : Int) < n := of_decide_eq_true hd
    clear hd
    have hnext : ((i + 1 : Nat) : Int) = (i : Int) + 1 := by omega
    have hS := l05Weights_fn (tt i)
    have hu1 := l01Scale_fn s (shr (tt i) 1)
    have hu2 := l01Scale_fn e (shr (tt i) 2)
    have hw1 := l01Scale_fn (P 0) (fbin .add .f32 (shr (tt i) 0) (shr (tt i) 1))
    have hw3 := l01Scale_fn (P (n - 1)) (fbin .add .f32 (shr (tt i) 2) (shr (tt i) 3))
    have hp1 := l01Power_fn (fitU s tt i) (hO.u i (by omega)).1
    have hp2 := l01Power_fn (fitV e tt i) (hO.u i (by omega)).2
    have hd1 := l05Dot_fn (fitU s tt i) (fitV e tt i)
    have hd2 := l05Dot_fn (fitU s tt i) (fitW n P tt i)
    have hd3 := l05Dot_fn (fitV e tt i) (fitW n P tt i)
    repeat first | refine zaa rfl (zay rfl) ?_ | refine zaa rfl (zaz rfl) ?_ | (refine zad ?_; first | (refine zaa rfl (zci rfl rfl (hS) ?_) ?_; (focus ((repeat (first | exact Takes.nil | refine Takes.sl ?_ | refine Takes.lit ?_ | refine Takes.fa ?_ | refine Takes.fc ?_ | refine Takes.net ?_ | (refine Takes.ownE ?_ ?_ ?_ ?_ ?_; (focus (exact ⟨_, _, (by (repeat (first | exact mh | refine mt ?_)); done)⟩)); (focus (simp; done)); (focus omega); (focus (simp only [maxLen]; omega))) | refine Takes.same ?_)); done))) | (refine zaa rfl (zci rfl rfl (hu1) ?_) ?_; (focus ((repeat (first | exact Takes.nil | refine Takes.sl ?_ | refine Takes.lit ?_ | refine Takes.fa ?_ | refine Takes.fc ?_ | refine Takes.net ?_ | (refine Takes.ownE ?_ ?_ ?_ ?_ ?_; (focus (exact ⟨_, _, (by (repeat (first | exact mh | refine mt ?_)); done)⟩)); (focus (simp; done)); (focus omega); (focus (simp only [maxLen]; omega))) | refine Takes.same ?_)); done))) | (refine zaa rfl (zci rfl rfl (hu2) ?_) ?_; (focus ((repeat (first | exact Takes.nil | refine Takes.sl ?_ | refine Takes.lit ?_ | refine Takes.fa ?_ | refine Takes.fc ?_ | refine Takes.net ?_ | (refine Takes.ownE ?_ ?_ ?_ ?_ ?_; (focus (exact ⟨_, _, (by (repeat (first | exact mh | refine mt ?_)); done)⟩)); (focus (simp; done)); (focus omega); (focus (simp only [maxLen]; omega))) | refine Takes.same ?_)); done)))) | (refine zae ?_; refine zaa rfl (zbt rfl rfl (by (repeat (first | exact mh | refine mt ?_)); done) (by omega)) ?_) | (refine zaf ?_; refine zaa rfl (zbw rfl rfl (by omega) (by omega)) ?_) | refine zaa rfl (zbz rfl rfl) ?_ | refine zah ?_ | (refine zcr ?_; refine zcs ?_) | (refine zdb ?_; first | refine zdc ?_ | refine zdd ?_ | refine zde ?_ | refine zdf ?_)
    refine ws_draw (n := 17) mixed (by decide +kernel) ?_
    repeat first | refine zap rfl (zay rfl) ?_ | refine zap rfl (zaz rfl) ?_ | (refine zar ?_; first | refine zap rfl (zba rfl rfl rfl) ?_ | refine zap rfl (opj_csub rfl rfl) ?_) | (refine zas ?_; first | (refine zap rfl (zci rfl rfl (hw1) ?_) ?_; (focus ((repeat (first | exact Takes.nil | refine Takes.sl ?_ | refine Takes.lit ?_ | refine Takes.fa ?_ | refine Takes.fc ?_ | refine Takes.net ?_ | (refine Takes.ownE ?_ ?_ ?_ ?_ ?_; (focus (exact ⟨_, _, (by (repeat (first | exact mh | refine mt ?_)); done)⟩)); (focus (simp; done)); (focus omega); (focus (simp only [maxLen]; omega))) | refine Takes.same ?_)); done))) | (refine zap rfl (zci rfl rfl (hw3) ?_) ?_; (focus ((repeat (first | exact Takes.nil | refine Takes.sl ?_ | refine Takes.lit ?_ | refine Takes.fa ?_ | refine Takes.fc ?_ | refine Takes.net ?_ | (refine Takes.ownE ?_ ?_ ?_ ?_ ?_; (focus (exact ⟨_, _, (by (repeat (first | exact mh | refine mt ?_)); done)⟩)); (focus (simp; done)); (focus omega); (focus (simp only [maxLen]; omega))) | refine Takes.same ?_)); done)))) | (refine zat ?_; refine zap rfl (zbu rfl rfl) ?_) | (refine zau ?_; refine zap rfl (opj_indexC rfl rfl (by omega) (by omega)) ?_) | refine zav ?_
    repeat first | refine zaa rfl (zay rfl) ?_ | refine zaa rfl (zaz rfl) ?_ | (refine zac ?_; first | refine zaa rfl (zba rfl rfl rfl) ?_ | refine zaa rfl (zbb rfl rfl (by omega)) ?_) | (refine zad ?_; first | (refine zaa rfl (zci rfl rfl (hp1) ?_) ?_; (focus ((repeat (first | exact Takes.nil | refine Takes.sl ?_ | refine Takes.lit ?_ | refine Takes.fa ?_ | refine Takes.fc ?_ | refine Takes.net ?_ | (refine Takes.ownE ?_ ?_ ?_ ?_ ?_; (focus (exact ⟨_, _, (by (repeat (first | exact mh | refine mt ?_)); done)⟩)); (focus (simp; done)); (focus omega); (focus (simp only [maxLen]; omega))) | refine Takes.same ?_)); done))) | (refine zaa rfl (zci rfl rfl (hp2) ?_) ?_; (focus ((repeat (first | exact Takes.nil | refine Takes.sl ?_ | refine Takes.lit ?_ | refine Takes.fa ?_ | refine Takes.fc ?_ | refine Takes.net ?_ | (refine Takes.ownE ?_ ?_ ?_ ?_ ?_; (focus (exact ⟨_, _, (by (repeat (first | exact mh | refine mt ?_)); done)⟩)); (focus (simp; done)); (focus omega); (focus (simp only [maxLen]; omega))) | refine Takes.same ?_)); done))) | (refine zaa rfl (zci rfl rfl (hd1) ?_) ?_; (focus ((repeat (first | exact Takes.nil | refine Takes.sl ?_ | refine Takes.lit ?_ | refine Takes.fa ?_ | refine Takes.fc ?_ | refine Takes.net ?_ | (refine Takes.ownE ?_ ?_ ?_ ?_ ?_; (focus (exact ⟨_, _, (by (repeat (first | exact mh | refine mt ?_)); done)⟩)); (focus (simp; done)); (focus omega); (focus (simp only [maxLen]; omega))) | refine Takes.same ?_)); done))) | (refine zaa rfl (zci rfl rfl (hd2) ?_) ?_; (focus ((repeat (first | exact Takes.nil | refine Takes.sl ?_ | refine Takes.lit ?_ | refine Takes.fa ?_ | refine Takes.fc ?_ | refine Takes.net ?_ | (refine Takes.ownE ?_ ?_ ?_ ?_ ?_; (focus (exact ⟨_, _, (by (repeat (first | exact mh | refine mt ?_)); done)⟩)); (focus (simp; done)); (focus omega); (focus (simp only [maxLen]; omega))) | refine Takes.same ?_)); done))) | (refine zaa rfl (zci rfl rfl (hd3) ?_) ?_; (focus ((repeat (first | exact Takes.nil | refine Takes.sl ?_ | refine Takes.lit ?_ | refine Takes.fa ?_ | refine Takes.fc ?_ | refine Takes.net ?_ | (refine Takes.ownE ?_ ?_ ?_ ?_ ?_; (focus (exact ⟨_, _, (by (repeat (first | exact mh | refine mt ?_)); done)⟩)); (focus (simp; done)); (focus omega); (focus (simp only [maxLen]; omega))) | refine Takes.same ?_)); done)))) | refine zah ?_ | (refine zcr ?_; first | refine zcs ?_ | refine zcv ?_) | (refine zdb ?_; first | refine zdc ?_ | refine zdd ?_)
    refine done_round (i + 1) (by omega) (by omega) ?_ (fun _ hw => hw)
    rw [hnext]
    (repeat (first | exact Env.sub_nil _ | refine Env.sub_cons rfl ?_))
  have hni : i = n := by have := of_decide_eq_false hd; omega
  subst hni
  clear hd hi
  have eM : fbin .sub .f32 (fbin .mul .f32 (accC s tt i) (accF e tt i)) (fbin .mul .f32 (accD s e tt i) (accD s e tt i)) = fitM s e i tt := rfl
  have eX : fbin .quo .f32 (fbin .sub .f32 (fbin .mul .f32 (accG s i P tt i) (accF e tt i)) (fbin .mul .f32 (accK e i P tt i) (accD s e tt i))) (fitM s e i tt) = fitX0 s e i P tt := rfl
  have eY : fbin .quo .f32 (fbin .sub .f32 (fbin .mul .f32 (accC s tt i) (accK e i P tt i)) (fbin .mul .f32 (accD s e tt i) (accG s i P tt i))) (fitM s e i tt) = fitY0 s e i P tt := rfl
  obtain ⟨v17, h17⟩ : ∃ v, v = AV.f .f32 (accC s tt i) := ⟨_, rfl⟩
  rw [← h17]
  repeat first | refine zaa rfl (zay rfl) ?_ | (refine zcr ?_; first | refine zcs ?_ | refine zcu ?_ | refine zcx ?_ | refine zda ?_) | (refine zdb ?_; first | refine zdc ?_ | refine zdd ?_ | refine zdh ?_)
  subst h17
  repeat first | refine zaa rfl (zay rfl) ?_ | refine zaa rfl (zaz rfl) ?_ | (refine zac ?_; refine zaa rfl (zba rfl rfl rfl) ?_) | refine zah ?_
  rw [eM]
  refine zcs ?_
  refine zdc ?_
  refine zdd ?_
  repeat first | refine zaa rfl (zay rfl) ?_ | refine zaa rfl (zaz rfl) ?_ | (refine zac ?_; refine zaa rfl (zba rfl rfl rfl) ?_) | refine zah ?_
  rw [eX]
  refine zcs ?_
  refine zdc ?_
  refine zdd ?_
  repeat first | refine zaa rfl (zay rfl) ?_ | refine zaa rfl (zaz rfl) ?_ | (refine zac ?_; refine zaa rfl (zba rfl rfl rfl) ?_) | refine zah ?_
  rw [eY]
  refine zcs ?_
  refine zdc ?_
  refine ws_thenJ (ι := Unit) (fun _ => [(0, slC w0 (tabC i P)), (6, .raw (.pointer (some ⟨g6, 0, none⟩))), (10, .raw (.int .i64 i)), (11, cA (P 0)), (12, cA (P (i - 1))), (13, cA s), (14, cA e), (15, .raw (.slice (some ⟨gt, 0, none⟩) i ct)), (31, .f .f32 (fitX s e i P tt)), (32, .f .f32 (fitY s e i P tt))])
    (fun _ => St w0 [] [entF gt 27 i tt ct, ⟨g6, 35, [.raw (.slice none 0 0), .raw (.slice none 0 0)], 2⟩]) (fun _ => True) ?_ (fun _ _ => ?_)
  · have hl2 := l01Long_fn _ hO.l
    have bad : ∀ b, fitBad s e i P tt = b → (b = true → fitX s e i P tt = fitL i P ∧ fitY s e i P tt = fitL i P) ∧ (b = false → fitX s e i P tt = fitX0 s e i P tt ∧ fitY s e i P tt = fitY0 s e i P tt) := fun b hb => by
      unfold fitX fitY
      rw [hb]
      exact ⟨fun h => by subst h; exact ⟨rfl, rfl⟩, fun h => by subst h; exact ⟨rfl, rfl⟩⟩
    cases h1 : cmpB .eql (fcmp .f32 (fitM s e i tt) (fv .f32 0)) with
    | true =>
      obtain ⟨bx, by_⟩ := (bad true (by unfold fitBad; rw [h1]; rfl)).1 rfl
      rw [bx, by_]
      repeat first | refine zaa rfl (zay rfl) ?_ | (refine zac ?_; refine zaa rfl (zbd rfl rfl rfl) ?_) | (refine zdb ?_; first | refine zdc ?_ | refine zdd ?_)
      rw [h1]
      repeat first | refine zaj rfl rfl rfl rfl ?_ | refine zaa rfl (zay rfl) ?_ | refine zaa rfl (zaz rfl) ?_ | (refine zac ?_; first | refine zaa rfl (zba rfl rfl rfl) ?_ | refine zaa rfl (opj_csub rfl rfl) ?_) | (refine zad ?_; (refine zaa rfl (zci rfl rfl (hl2) ?_) ?_; (focus ((repeat (first | exact Takes.nil | refine Takes.sl ?_ | refine Takes.lit ?_ | refine Takes.fa ?_ | refine Takes.fc ?_ | refine Takes.net ?_ | (refine Takes.ownE ?_ ?_ ?_ ?_ ?_; (focus (exact ⟨_, _, (by (repeat (first | exact mh | refine mt ?_)); done)⟩)); (focus (simp; done)); (focus omega); (focus (simp only [maxLen]; omega))) | refine Takes.same ?_)); done)))) | refine zaa rfl (zca rfl rfl) ?_ | refine zah ?_ | (refine zcr ?_; refine zcs ?_) | (refine zdb ?_; first | refine zdc ?_ | refine zdd ?_ | refine zdi rfl ?_)
      exact done_join () trivial (by (repeat (first | exact Env.sub_nil _ | refine Env.sub_cons rfl ?_))) (fun _ h => h)
    | false =>
      cases h2 : cmpB .gtr (fcmp .f32 (fitX0 s e i P tt) (fv .f32 0)) with
      | false =>
        obtain ⟨bx, by_⟩ := (bad true (by unfold fitBad; rw [h1, h2]; rfl)).1 rfl
        rw [bx, by_]
        repeat first | refine zaa rfl (zay rfl) ?_ | (refine zac ?_; refine zaa rfl (zbd rfl rfl rfl) ?_) | (refine zdb ?_; first | refine zdc ?_ | refine zdd ?_)
        rw [h1]
        repeat first | refine zai rfl rfl ?_ | refine zaa rfl (zay rfl) ?_ | (refine zac ?_; refine zaa rfl (zbd rfl rfl rfl) ?_) | refine zaa rfl (zcb rfl rfl) ?_ | refine zaa rfl (zcc rfl) ?_
        rw [h2]
        repeat first | refine zaj rfl rfl rfl rfl ?_ | refine zaa rfl (zay rfl) ?_ | refine zaa rfl (zaz rfl) ?_ | (refine zac ?_; first | refine zaa rfl (zba rfl rfl rfl) ?_ | refine zaa rfl (opj_csub rfl rfl) ?_) | (refine zad ?_; (refine zaa rfl (zci rfl rfl (hl2) ?_) ?_; (focus ((repeat (first | exact Takes.nil | refine Takes.sl ?_ | refine Takes.lit ?_ | refine Takes.fa ?_ | refine Takes.fc ?_ | refine Takes.net ?_ | (refine Takes.ownE ?_ ?_ ?_ ?_ ?_; (focus (exact ⟨_, _, (by (repeat (first | exact mh | refine mt ?_)); done)⟩)); (focus (simp; done)); (focus omega); (focus (simp only [maxLen]; omega))) | refine Takes.same ?_)); done)))) | refine zaa rfl (zca rfl rfl) ?_ | refine zah ?_ | (refine zcr ?_; refine zcs ?_) | (refine zdb ?_; first | refine zdc ?_ | refine zdd ?_ | refine zdi rfl ?_)
        exact done_join () trivial (by (repeat (first | exact Env.sub_nil _ | refine Env.sub_cons rfl ?_))) (fun _ h => h)
      | true =>
        cases h3 : cmpB .gtr (fcmp .f32 (fitY0 s e i P tt) (fv .f32 0)) with
        | false =>
          obtain ⟨bx, by_⟩ := (bad true (by unfold fitBad; rw [h1, h2, h3]; rfl)).1 rfl
          rw [bx, by_]
          repeat first | refine zaa rfl (zay rfl) ?_ | (refine zac ?_; refine zaa rfl (zbd rfl rfl rfl) ?_) | (refine zdb ?_; first | refine zdc ?_ | refine zdd ?_)
          rw [h1]
          repeat first | refine zai rfl rfl ?_ | refine zaa rfl (zay rfl) ?_ | (refine zac ?_; refine zaa rfl (zbd rfl rfl rfl) ?_) | refine zaa rfl (zcb rfl rfl) ?_ | refine zaa rfl (zcc rfl) ?_
          rw [h2]
          repeat first | refine zai rfl rfl ?_ | refine zaa rfl (zay rfl) ?_ | (refine zac ?_; refine zaa rfl (zbd rfl rfl rfl) ?_) | refine zaa rfl (zcb rfl rfl) ?_ | refine zaa rfl (zcc rfl) ?_ | refine zah ?_ | (refine zcr ?_; refine zcs ?_)
          rw [h3]
          repeat first | refine zaa rfl (zay rfl) ?_ | refine zaa rfl (zaz rfl) ?_ | (refine zac ?_; first | refine zaa rfl (zba rfl rfl rfl) ?_ | refine zaa rfl (opj_csub rfl rfl) ?_) | (refine zad ?_; (refine zaa rfl (zci rfl rfl (hl2) ?_) ?_; (focus ((repeat (first | exact Takes.nil | refine Takes.sl ?_ | refine Takes.lit ?_ | refine Takes.fa ?_ | refine Takes.fc ?_ | refine Takes.net ?_ | (refine Takes.ownE ?_ ?_ ?_ ?_ ?_; (focus (exact ⟨_, _, (by (repeat (first | exact mh | refine mt ?_)); done)⟩)); (focus (simp; done)); (focus omega); (focus (simp only [maxLen]; omega))) | refine Takes.same ?_)); done)))) | refine zah ?_ | (refine zcr ?_; refine zcs ?_) | (refine zdb ?_; first | refine zdc ?_ | refine zdd ?_ | refine zdi rfl ?_)
          exact done_join () trivial (by (repeat (first | exact Env.sub_nil _ | refine Env.sub_cons rfl ?_))) (fun _ h => h)
        | true =>
          obtain ⟨bx, by_⟩ := (bad false (by unfold fitBad; rw [h1, h2, h3]; rfl)).2 rfl
          rw [bx, by_]
          repeat first | refine zaa rfl (zay rfl) ?_ | (refine zac ?_; refine zaa rfl (zbd rfl rfl rfl) ?_) | (refine zdb ?_; first | refine zdc ?_ | refine zdd ?_)
          rw [h1]
          repeat first | refine zai rfl rfl ?_ | refine zaa rfl (zay rfl) ?_ | (refine zac ?_; refine zaa rfl (zbd rfl rfl rfl) ?_) | refine zaa rfl (zcb rfl rfl) ?_ | refine zaa rfl (zcc rfl) ?_
          rw [h2]
          repeat first | refine zai rfl rfl ?_ | refine zaa rfl (zay rfl) ?_ | (refine zac ?_; refine zaa rfl (zbd rfl rfl rfl) ?_) | refine zaa rfl (zcb rfl rfl) ?_ | refine zaa rfl (zcc rfl) ?_ | refine zah ?_ | (refine zcr ?_; refine zcs ?_)
          rw [h3]
          repeat ((refine zdb ?_; first | refine zdf ?_ | refine zdj rfl ?_))
          exact done_join () trivial (by (repeat (first | exact Env.sub_nil _ | refine Env.sub_cons rfl ?_))) (fun _ h => h)
  clear eM eX eY
  have hM : ∀ k, k < i → LongOk (missS (fitQ s e i P tt) P tt k) ∧ ∃ r, Vl .f32 (longC (missS (fitQ s e i P tt) P tt k)) r := fun k hk => by
    obtain ⟨o, r, v, _⟩ := (F.miss hk).2
    exact ⟨o, r, v⟩
  have hQ := hO.q
  have hs1 := l01Scale_fn s (fitX s e i P tt)
  have hs3 := l01Scale_fn e (fitY s e i P tt)
  have q0 : fitQ s e i P tt 0 = P 0 := rfl
  have q1 : fitQ s e i P tt 1 = addC2 (P 0) (scaleC s (fitX s e i P tt)) := rfl
  have q2 : fitQ s e i P tt 2 = addC2 (P (i - 1)) (scaleC e (fitY s e i P tt)) := rfl
  have q3 : fitQ s e i P tt 3 = P (i - 1) := rfl
  have hC := l05Piece_fn (fitQ s e i P tt)
  rw [q0, q1, q2, q3] at hC
  clear F hO
  generalize fitQ s e i P tt = QQ at *
  generalize fitX s e i P tt = xx at *
  generalize fitY s e i P tt = yy at *
  repeat first | refine zaa rfl (zay rfl) ?_ | (refine zac ?_; refine zaa rfl (opj_cadd rfl rfl) ?_) | (refine zad ?_; first | (refine zaa rfl (zci rfl rfl (hs1) ?_) ?_; (focus ((repeat (first | exact Takes.nil | refine Takes.sl ?_ | refine Takes.lit ?_ | refine Takes.fa ?_ | refine Takes.fc ?_ | refine Takes.net ?_ | (refine Takes.ownE ?_ ?_ ?_ ?_ ?_; (focus (exact ⟨_, _, (by (repeat (first | exact mh | refine mt ?_)); done)⟩)); (focus (simp; done)); (focus omega); (focus (simp only [maxLen]; omega))) | refine Takes.same ?_)); done))) | (refine zaa rfl (zci rfl rfl (hs3) ?_) ?_; (focus ((repeat (first | exact Takes.nil | refine Takes.sl ?_ | refine Takes.lit ?_ | refine Takes.fa ?_ | refine Takes.fc ?_ | refine Takes.net ?_ | (refine Takes.ownE ?_ ?_ ?_ ?_ ?_; (focus (exact ⟨_, _, (by (repeat (first | exact mh | refine mt ?_)); done)⟩)); (focus (simp; done)); (focus omega); (focus (simp only [maxLen]; omega))) | refine Takes.same ?_)); done)))) | (refine zdb ?_; first | refine zdc ?_ | refine zdd ?_)
  refine rs_call2 hC rfl rfl (Takes.same (Takes.same (Takes.same (Takes.same Takes.nil)))) rfl ?_
  rintro ⟨a, b⟩ -
  repeat first | refine zaa rfl (zay rfl) ?_ | refine zaa rfl (zaz rfl) ?_ | (refine zad ?_; refine zaa rfl (opj_lenC rfl) ?_) | refine zah ?_ | (refine zcr ?_; refine zcs ?_) | (refine zdb ?_; first | refine zdc ?_ | refine zdd ?_ | refine zde ?_) | (refine zal rfl rfl ?_; intro g) | (refine zag ?_; refine zan 0 rfl rfl rfl rfl rfl rfl rfl rfl rfl ?_)
  obtain ⟨g33, hg33⟩ : ∃ x, x = g := ⟨g, rfl⟩
  subst hg33
  clear hs1 hs3 hC q0 q1 q2 q3 hP he1 hse hee hee' eE
  refine ws_loop (ι := Nat × FV × Int) (fun y => [(0, slC w0 (tabC i P)), (6, .raw (.pointer (some ⟨g6, 0, none⟩))), (10, .raw (.int .i64 i)), (15, .raw (.slice (some ⟨gt, 0, none⟩) i ct)), (33, .raw (.pointer (some ⟨g33, 0, none⟩))), (34, .f .f32 y.2.1), (35, .raw (.int .i64 y.2.2)), (184, .raw (.int .i64 i)), (185, .raw (.int .i64 y.1))])
    (fun _ => St w0 [] [⟨g33, 35, [.raw (.slice (some ⟨a, 0, none⟩) 4 4), .raw (.slice (some ⟨b, 0, none⟩) 4 4)], 2⟩, entF b 27 4 (fun _ => one1) 4, entC a 4 QQ 4, entF gt 27 i tt ct, ⟨g6, 35, [.raw (.slice none 0 0), .raw (.slice none 0 0)], 2⟩])
    (fun y => y.1 ≤ i ∧ (∃ r, Vl .f32 y.2.1 r) ∧ ((y.2.2 = -1 ∨ 1 ≤ y.2.2) ∧ y.2.2 + 1 < i) ∧ (3 ≤ i → 2 ≤ y.1 → 1 ≤ y.2.2)) (fun y => i - y.1) (0, fv .f32 0, -1) ⟨Nat.zero_le _, ⟨0, Vl.c (k := .f32) (b := 0) (q := 0) (by decide +kernel)⟩, ⟨.inl rfl, by simp only; omega⟩, fun _ h => by simp only at h; omega⟩ ?_ (fun _ h => h) (fun y hy => ?_)
  · (repeat (first | exact Env.sub_nil _ | refine Env.sub_cons rfl ?_))
  obtain ⟨k, most, wh⟩ := y
  simp only at hy ⊢
  obtain ⟨hk, ⟨rm, vm⟩, ⟨hw1, hw2⟩, hw3⟩ := hy
  repeat first | (refine zac ?_; refine zaa rfl (zbe rfl rfl) ?_) | refine zah ?_ | (refine zcr ?_; refine zcs ?_) | (refine zdb ?_; first | refine zdc ?_ | refine zdd ?_)
  refine ws_cond rfl (fun hd => ?_) (fun hd => ?_)
  case' refine_1 =>
    have hlt : (k : Int) < i := of_decide_eq_true hd
    clear hd
    have hnext : ((k + 1 : Nat) : Int) = (k : Int) + 1 := by omega
    have hS := l05Weights_fn (tt k)
    have h0 := l01Scale_fn (QQ 0) (shr (tt k) 0)
    have h1 := l01Scale_fn (QQ 1) (shr (tt k) 1)
    have h2 := l01Scale_fn (QQ 2) (shr (tt k) 2)
    have h3 := l01Scale_fn (QQ 3) (shr (tt k) 3)
    have e1 : (1 : Int).toNat = 1 := rfl
    have e2 : (2 : Int).toNat = 2 := rfl
    have e3 : (3 : Int).toNat = 3 := rfl
    obtain ⟨hMk, r, vr⟩ := hM k (by omega)
    have hl := l01Long_fn _ hMk
    have hfi := l01Finite_fn (longC (missS QQ P tt k))
    have hf : finB (longC (missS QQ P tt k)) = true := by
      have := finC_of (p := (longC (missS QQ P tt k), longC (missS QQ P tt k))) vr vr
      unfold finC at this
      simpa using this
    rw [hf] at hfi
    unfold missS at hl
    repeat first | refine zaa rfl (zay rfl) ?_ | refine zaa rfl (zaz rfl) ?_ | (refine zad ?_; (refine zaa rfl (zci rfl rfl (hS) ?_) ?_; (focus ((repeat (first | exact Takes.nil | refine Takes.sl ?_ | refine Takes.lit ?_ | refine Takes.fa ?_ | refine Takes.fc ?_ | refine Takes.net ?_ | (refine Takes.ownE ?_ ?_ ?_ ?_ ?_; (focus (exact ⟨_, _, (by (repeat (first | exact mh | refine mt ?_)); done)⟩)); (focus (simp; done)); (focus omega); (focus (simp only [maxLen]; omega))) | refine Takes.same ?_)); done)))) | (refine zae ?_; refine zaa rfl (zbt rfl rfl (by (repeat (first | exact mh | refine mt ?_)); done) (by omega)) ?_) | (refine zaf ?_; refine zaa rfl (zbw rfl rfl (by omega) (by omega)) ?_) | refine zaa rfl (zbz rfl rfl) ?_ | refine zah ?_ | (refine zcr ?_; refine zcs ?_) | (refine zdb ?_; first | refine zdc ?_ | refine zdd ?_ | refine zde ?_ | refine zdf ?_)
    refine ws_draw (n := 28) mixed (by decide +kernel) ?_
    repeat first | refine zap rfl (zay rfl) ?_ | refine zap rfl (zaz rfl) ?_ | (refine zar ?_; refine zap rfl (opj_cadd rfl rfl) ?_) | (refine zas ?_; first | (refine zap rfl (zci rfl rfl (h0) ?_) ?_; (focus ((repeat (first | exact Takes.nil | refine Takes.sl ?_ | refine Takes.lit ?_ | refine Takes.fa ?_ | refine Takes.fc ?_ | refine Takes.net ?_ | (refine Takes.ownE ?_ ?_ ?_ ?_ ?_; (focus (exact ⟨_, _, (by (repeat (first | exact mh | refine mt ?_)); done)⟩)); (focus (simp; done)); (focus omega); (focus (simp only [maxLen]; omega))) | refine Takes.same ?_)); done))) | (refine zap rfl (zci rfl rfl (h1) ?_) ?_; (focus ((repeat (first | exact Takes.nil | refine Takes.sl ?_ | refine Takes.lit ?_ | refine Takes.fa ?_ | refine Takes.fc ?_ | refine Takes.net ?_ | (refine Takes.ownE ?_ ?_ ?_ ?_ ?_; (focus (exact ⟨_, _, (by (repeat (first | exact mh | refine mt ?_)); done)⟩)); (focus (simp; done)); (focus omega); (focus (simp only [maxLen]; omega))) | refine Takes.same ?_)); done))) | (refine zap rfl (zci rfl rfl (h2) ?_) ?_; (focus ((repeat (first | exact Takes.nil | refine Takes.sl ?_ | refine Takes.lit ?_ | refine Takes.fa ?_ | refine Takes.fc ?_ | refine Takes.net ?_ | (refine Takes.ownE ?_ ?_ ?_ ?_ ?_; (focus (exact ⟨_, _, (by (repeat (first | exact mh | refine mt ?_)); done)⟩)); (focus (simp; done)); (focus omega); (focus (simp only [maxLen]; omega))) | refine Takes.same ?_)); done))) | (refine zap rfl (zci rfl rfl (h3) ?_) ?_; (focus ((repeat (first | exact Takes.nil | refine Takes.sl ?_ | refine Takes.lit ?_ | refine Takes.fa ?_ | refine Takes.fc ?_ | refine Takes.net ?_ | (refine Takes.ownE ?_ ?_ ?_ ?_ ?_; (focus (exact ⟨_, _, (by (repeat (first | exact mh | refine mt ?_)); done)⟩)); (focus (simp; done)); (focus omega); (focus (simp only [maxLen]; omega))) | refine Takes.same ?_)); done)))) | (refine zat ?_; first | refine zap rfl (opj_loadC rfl rfl (by (repeat (first | exact mh | refine mt ?_)); done) (by omega)) ?_ | refine zap rfl (zcf rfl rfl (by (repeat (first | exact mh | refine mt ?_)); done) rfl) ?_) | (refine zau ?_; refine zap rfl (zbw rfl rfl (by omega) (by omega)) ?_) | refine zap rfl (zcd rfl) ?_ | refine zav ?_
    repeat first | refine zaa rfl (zay rfl) ?_ | refine zaa rfl (zaz rfl) ?_ | (refine zac ?_; first | refine zaa rfl (zbd rfl rfl rfl) ?_ | refine zaa rfl (opj_csub rfl rfl) ?_) | (refine zad ?_; first | (refine zaa rfl (zci rfl rfl (hl) ?_) ?_; (focus ((repeat (first | exact Takes.nil | refine Takes.sl ?_ | refine Takes.lit ?_ | refine Takes.fa ?_ | refine Takes.fc ?_ | refine Takes.net ?_ | (refine Takes.ownE ?_ ?_ ?_ ?_ ?_; (focus (exact ⟨_, _, (by (repeat (first | exact mh | refine mt ?_)); done)⟩)); (focus (simp; done)); (focus omega); (focus (simp only [maxLen]; omega))) | refine Takes.same ?_)); done))) | (refine zaa rfl (zci rfl rfl (hfi) ?_) ?_; (focus ((repeat (first | exact Takes.nil | refine Takes.sl ?_ | refine Takes.lit ?_ | refine Takes.fa ?_ | refine Takes.fc ?_ | refine Takes.net ?_ | (refine Takes.ownE ?_ ?_ ?_ ?_ ?_; (focus (exact ⟨_, _, (by (repeat (first | exact mh | refine mt ?_)); done)⟩)); (focus (simp; done)); (focus omega); (focus (simp only [maxLen]; omega))) | refine Takes.same ?_)); done)))) | (refine zae ?_; refine zaa rfl (zbu rfl rfl) ?_) | (refine zaf ?_; refine zaa rfl (opj_indexC rfl rfl (by omega) (by omega)) ?_) | refine zaa rfl (zcc rfl) ?_ | refine zah ?_ | (refine zcr ?_; refine zcs ?_) | (refine zdb ?_; first | refine zdc ?_ | refine zdd ?_ | refine zdf ?_ | refine zdj rfl ?_)
    refine ws_thenJ (ι := FV) (fun m => [(0, slC w0 (tabC i P)), (6, .raw (.pointer (some ⟨g6, 0, none⟩))), (10, .raw (.int .i64 i)), (15, .raw (.slice (some ⟨gt, 0, none⟩) i ct)), (33, .raw (.pointer (some ⟨g33, 0, none⟩))), (34, .f .f32 m), (35, .raw (.int .i64 wh)), (36, .raw (.int .i64 k)), (42, .f .f32 (longC (missS QQ P tt k))), (184, .raw (.int .i64 i)), (185, .raw (.int .i64 k))])
      (fun _ => St w0 [] [⟨g33, 35, [.raw (.slice (some ⟨a, 0, none⟩) 4 4), .raw (.slice (some ⟨b, 0, none⟩) 4 4)], 2⟩, entF b 27 4 (fun _ => one1) 4, entC a 4 QQ 4, entF gt 27 i tt ct, ⟨g6, 35, [.raw (.slice none 0 0), .raw (.slice none 0 0)], 2⟩]) (fun m => ∃ r, Vl .f32 m r) ?_ (fun m hm => ?_)
    · refine ws_cond rfl (fun hd => ?_) (fun hd => ?_)
      · repeat first | refine zaa rfl (zay rfl) ?_ | refine zaa rfl (zaz rfl) ?_ | refine zah ?_ | (refine zdb ?_; refine zdd ?_)
        exact done_join (longC (missS QQ P tt k)) ⟨r, vr⟩ (by (repeat (first | exact Env.sub_nil _ | refine Env.sub_cons rfl ?_))) (fun _ h => h)
      · repeat ((refine zdb ?_; refine zdf ?_))
        exact done_join most ⟨rm, vm⟩ (by (repeat (first | exact Env.sub_nil _ | refine Env.sub_cons rfl ?_))) (fun _ h => h)
    clear hS h0 h1 h2 h3 hl hfi
    by_cases c1 : (0 : Int) < k
    · by_cases c2 : (k : Int) + 1 < i
      · by_cases c3 : wh < 0
        · repeat first | refine zaa rfl (zay rfl) ?_ | (refine zac ?_; refine zaa rfl (zbg rfl rfl) ?_) | (refine zdb ?_; first | refine zdc ?_ | refine zdd ?_)
          rw [decide_eq_true c1]
          repeat first | refine zai rfl rfl ?_ | refine zaa rfl (zay rfl) ?_ | (refine zac ?_; first | refine zaa rfl (zbb rfl rfl (by omega)) ?_ | refine zaa rfl (zbe rfl rfl) ?_) | refine zaa rfl (zca rfl rfl) ?_
          rw [decide_eq_true c2]
          repeat first | refine zai rfl rfl ?_ | refine zaa rfl (zay rfl) ?_ | (refine zac ?_; refine zaa rfl (zbe rfl rfl) ?_)
          rw [decide_eq_true c3]
          repeat first | refine zai rfl rfl ?_ | refine zaj rfl rfl rfl rfl ?_ | refine zaa rfl (zay rfl) ?_ | refine zaa rfl (zaz rfl) ?_ | (refine zac ?_; refine zaa rfl (zbb rfl rfl (by omega)) ?_) | refine zaa rfl (zca rfl rfl) ?_ | refine zah ?_ | (refine zcr ?_; first | refine zcs ?_ | refine zcv ?_) | (refine zdb ?_; first | refine zdd ?_ | refine zdi rfl ?_)
          refine done_round (k + 1, m, (k : Int)) ⟨by simp only; omega, hm, ⟨by simp only; omega, by simp only; omega⟩, fun _ _ => by simp only; omega⟩ (by simp only; omega) ?_ (fun _ h => h)
          simp only
          rw [hnext]
          (repeat (first | exact Env.sub_nil _ | refine Env.sub_cons rfl ?_))
        · obtain ⟨u, rfl⟩ : ∃ u : Nat, wh = (u : Int) := ⟨wh.toNat, by omega⟩
          have hl5 := l05Miss_fn QQ P tt (show u < i by omega) (hM u (by omega)).1
          repeat first | refine zaa rfl (zay rfl) ?_ | (refine zac ?_; refine zaa rfl (zbg rfl rfl) ?_) | (refine zdb ?_; first | refine zdc ?_ | refine zdd ?_)
          rw [decide_eq_true c1]
          repeat first | refine zai rfl rfl ?_ | refine zaa rfl (zay rfl) ?_ | (refine zac ?_; first | refine zaa rfl (zbb rfl rfl (by omega)) ?_ | refine zaa rfl (zbe rfl rfl) ?_) | refine zaa rfl (zca rfl rfl) ?_
          rw [decide_eq_true c2]
          repeat first | refine zai rfl rfl ?_ | refine zaa rfl (zay rfl) ?_ | (refine zac ?_; refine zaa rfl (zbe rfl rfl) ?_) | (refine zae ?_; refine zaa rfl (zcf rfl rfl (by (repeat (first | exact mh | refine mt ?_)); done) rfl) ?_) | refine zaa rfl (zcd rfl) ?_
          rw [decide_eq_false c3]
          repeat first | refine zai rfl rfl ?_ | (refine zac ?_; refine zaa rfl (zbd rfl rfl rfl) ?_) | (refine zad ?_; (refine zaa rfl (zci rfl rfl (hl5) ?_) ?_; (focus ((repeat (first | exact Takes.nil | refine Takes.sl ?_ | refine Takes.lit ?_ | refine Takes.fa ?_ | refine Takes.fc ?_ | refine Takes.net ?_ | (refine Takes.ownE ?_ ?_ ?_ ?_ ?_; (focus (exact ⟨_, _, (by (repeat (first | exact mh | refine mt ?_)); done)⟩)); (focus (simp; done)); (focus omega); (focus (simp only [maxLen]; omega))) | refine Takes.same ?_)); done)))) | refine zaa rfl (zca rfl rfl) ?_ | refine zaa rfl (zcb rfl rfl) ?_ | refine zah ?_ | (refine zcr ?_; refine zcs ?_)
          generalize cmpB .gtr (fcmp .f32 (longC (missS QQ P tt k)) (longC (missS QQ P tt u))) = bb
          cases bb with
          | true =>
            repeat first | refine zaa rfl (zay rfl) ?_ | refine zaa rfl (zaz rfl) ?_ | (refine zac ?_; refine zaa rfl (zbb rfl rfl (by omega)) ?_) | refine zah ?_ | (refine zcr ?_; first | refine zcs ?_ | refine zcv ?_) | (refine zdb ?_; first | refine zdd ?_ | refine zdi rfl ?_)
            refine done_round (k + 1, m, (k : Int)) ⟨by simp only; omega, hm, ⟨by simp only; omega, by simp only; omega⟩, fun _ _ => by simp only; omega⟩ (by simp only; omega) ?_ (fun _ h => h)
            simp only
            rw [hnext]
            (repeat (first | exact Env.sub_nil _ | refine Env.sub_cons rfl ?_))
          | false =>
            repeat first | refine zaa rfl (zay rfl) ?_ | (refine zac ?_; refine zaa rfl (zbb rfl rfl (by omega)) ?_) | refine zah ?_ | (refine zcr ?_; first | refine zcs ?_ | refine zcv ?_) | (refine zdb ?_; first | refine zdd ?_ | refine zdf ?_ | refine zdj rfl ?_)
            refine done_round (k + 1, m, (u : Int)) ⟨by simp only; omega, hm, ⟨by simp only; omega, by simp only; omega⟩, fun h h' => by simp only; omega⟩ (by simp only; omega) ?_ (fun _ h => h)
            simp only
            rw [hnext]
            (repeat (first | exact Env.sub_nil _ | refine Env.sub_cons rfl ?_))
      · repeat first | refine zaa rfl (zay rfl) ?_ | (refine zac ?_; refine zaa rfl (zbg rfl rfl) ?_) | (refine zdb ?_; first | refine zdc ?_ | refine zdd ?_)
        rw [decide_eq_true c1]
        repeat first | refine zai rfl rfl ?_ | refine zaa rfl (zay rfl) ?_ | (refine zac ?_; first | refine zaa rfl (zbb rfl rfl (by omega)) ?_ | refine zaa rfl (zbe rfl rfl) ?_) | refine zaa rfl (zca rfl rfl) ?_
        rw [decide_eq_false c2]
        repeat first | refine zaj rfl rfl rfl rfl ?_ | refine zaa rfl (zay rfl) ?_ | (refine zac ?_; refine zaa rfl (zbb rfl rfl (by omega)) ?_) | refine zaa rfl (zcb rfl rfl) ?_ | refine zah ?_ | (refine zcr ?_; first | refine zcs ?_ | refine zcv ?_) | (refine zdb ?_; first | refine zdd ?_ | refine zdf ?_ | refine zdj rfl ?_) | refine rs_nu rfl rfl rfl ?_
        refine done_round (k + 1, m, wh) ⟨by simp only; omega, hm, ⟨by simp only; omega, by simp only; omega⟩, fun h h' => by simp only at h h' ⊢; exact hw3 h (by omega)⟩ (by simp only; omega) ?_ (fun _ h => h)
        simp only
        rw [hnext]
        (repeat (first | exact Env.sub_nil _ | refine Env.sub_cons rfl ?_))
    · repeat first | refine zaa rfl (zay rfl) ?_ | (refine zac ?_; refine zaa rfl (zbg rfl rfl) ?_) | (refine zdb ?_; first | refine zdc ?_ | refine zdd ?_)
      rw [decide_eq_false c1]
      repeat first | refine zaj rfl rfl rfl rfl ?_ | refine zaa rfl (zay rfl) ?_ | (refine zac ?_; refine zaa rfl (zbb rfl rfl (by omega)) ?_) | refine zaa rfl (zcb rfl rfl) ?_ | refine zah ?_ | (refine zcr ?_; first | refine zcs ?_ | refine zcv ?_) | (refine zdb ?_; first | refine zdd ?_ | refine zdf ?_ | refine zdj rfl ?_) | refine rs_nu rfl rfl rfl ?_
      refine done_round (k + 1, m, wh) ⟨by simp only; omega, hm, ⟨by simp only; omega, by simp only; omega⟩, fun h h' => by simp only at h h' ⊢; omega⟩ (by simp only; omega) ?_ (fun _ h => h)
      simp only
      rw [hnext]
      (repeat (first | exact Env.sub_nil _ | refine Env.sub_cons rfl ?_))
  have hki : k = i := by have := of_decide_eq_false hd; omega
  subst hki
  clear hd hk
  have hV := l02Is_yes (n := 4) (P := QQ) (f := fun _ => one1) (by omega) hQ (by decide +kernel)
  repeat first | (refine zcr ?_; first | refine zcs ?_ | refine zcu ?_ | refine zcx ?_ | refine zda ?_) | (refine zdb ?_; first | refine zdc ?_ | refine zdh ?_)
  refine ws_K (Y := Unit) (E := fun _ => [(9, .raw (.bool true)), (8, .raw (.int .i64 wh)), (7, .f .f32 most), (267, .raw (.bool true)), (266, .raw (.int .i64 wh)), (265, .f .f32 most), (264, crvO a b 4), (6, .raw (.pointer (some ⟨g6, 0, none⟩))), (33, .raw (.pointer (some ⟨g33, 0, none⟩))), (34, .f .f32 most), (35, .raw (.int .i64 wh))])
    (SS := fun _ => St w0 [] [⟨g33, 35, [.raw (.slice (some ⟨a, 0, none⟩) 4 4), .raw (.slice (some ⟨b, 0, none⟩) 4 4)], 2⟩, entF b 27 4 (fun _ => one1) 4, entC a 4 QQ 4, entF gt 27 k tt ct, ⟨g6, 35, [.raw (.slice (some ⟨a, 0, none⟩) 4 4), .raw (.slice (some ⟨b, 0, none⟩) 4 4)], 2⟩]) (ok := fun _ => True) (fun hD => ?_) (fun _ _ => ?_)
  · refine ws_enum mixed ?_
    refine ra_name fun o ho Q' hQ => ?_
    have r0_1_2_3_4_5_6_7 : RA Tryz.prog 268 o (LD 8 0 [0, 1, 2, 3, 4, 5, 6, 7]) 0 [(9, .raw (.bool true)), (8, .raw (.int .i64 wh)), (7, .f .f32 most), (267, .raw (.bool true)), (266, .raw (.int .i64 wh)), (265, .f .f32 most), (264, crvO a b 4), (6, .raw (.pointer (some ⟨g6, 0, none⟩))), (33, .raw (.pointer (some ⟨g33, 0, none⟩))), (34, .f .f32 most), (35, .raw (.int .i64 wh))] (St w0 [] [⟨g33, 35, [.raw (.slice (some ⟨a, 0, none⟩) 4 4), .raw (.slice (some ⟨b, 0, none⟩) 4 4)], 2⟩, entF b 27 4 (fun _ => one1) 4, entC a 4 QQ 4, entF gt 27 k tt ct, ⟨g6, 35, [.raw (.slice (some ⟨a, 0, none⟩) 4 4), .raw (.slice (some ⟨b, 0, none⟩) 4 4)], 2⟩]) Q' := ra_end (by rw [ho]; decide +kernel) (by rw [hQ]; exact hD () trivial)
    have r0_1_2_3_4_5_6 : RA Tryz.prog 268 o (LD 8 0 [0, 1, 2, 3, 4, 5, 6]) 1 [(8, .raw (.int .i64 wh)), (7, .f .f32 most), (267, .raw (.bool true)), (266, .raw (.int .i64 wh)), (265, .f .f32 most), (264, crvO a b 4), (6, .raw (.pointer (some ⟨g6, 0, none⟩))), (33, .raw (.pointer (some ⟨g33, 0, none⟩))), (34, .f .f32 most), (35, .raw (.int .i64 wh))] (St w0 [] [⟨g33, 35, [.raw (.slice (some ⟨a, 0, none⟩) 4 4), .raw (.slice (some ⟨b, 0, none⟩) 4 4)], 2⟩, entF b 27 4 (fun _ => one1) 4, entC a 4 QQ 4, entF gt 27 k tt ct, ⟨g6, 35, [.raw (.slice (some ⟨a, 0, none⟩) 4 4), .raw (.slice (some ⟨b, 0, none⟩) 4 4)], 2⟩]) Q' := by
      refine ra_list [7] (by rw [ho]; decide +kernel) rfl ⟨?_, trivial⟩
      · refine ro_op (by rw [ho]; rfl) rfl (zaz rfl) ?_
        exact RA.weak (RA.toL' r0_1_2_3_4_5_6_7 (by decide +kernel)) (by (repeat (first | exact Env.sub_nil _ | refine Env.sub_cons rfl ?_))) (fun _ h => h)
    have r0_1_2_3_4_5 : RA Tryz.prog 268 o (LD 8 0 [0, 1, 2, 3, 4, 5]) 2 [(7, .f .f32 most), (267, .raw (.bool true)), (266, .raw (.int .i64 wh)), (265, .f .f32 most), (264, crvO a b 4), (6, .raw (.pointer (some ⟨g6, 0, none⟩))), (33, .raw (.pointer (some ⟨g33, 0, none⟩))), (34, .f .f32 most), (35, .raw (.int .i64 wh))] (St w0 [] [⟨g33, 35, [.raw (.slice (some ⟨a, 0, none⟩) 4 4), .raw (.slice (some ⟨b, 0, none⟩) 4 4)], 2⟩, entF b 27 4 (fun _ => one1) 4, entC a 4 QQ 4, entF gt 27 k tt ct, ⟨g6, 35, [.raw (.slice (some ⟨a, 0, none⟩) 4 4), .raw (.slice (some ⟨b, 0, none⟩) 4 4)], 2⟩]) Q' := by
      refine ra_list [6] (by rw [ho]; decide +kernel) rfl ⟨?_, trivial⟩
      · refine ro_op (by rw [ho]; rfl) rfl (zaz rfl) ?_
        exact RA.weak (RA.toL' r0_1_2_3_4_5_6 (by decide +kernel)) (by (repeat (first | exact Env.sub_nil _ | refine Env.sub_cons rfl ?_))) (fun _ h => h)
    have r0_1_2_3_4 : RA Tryz.prog 268 o (LD 8 0 [0, 1, 2, 3, 4]) 3 [(267, .raw (.bool true)), (266, .raw (.int .i64 wh)), (265, .f .f32 most), (264, crvO a b 4), (6, .raw (.pointer (some ⟨g6, 0, none⟩))), (33, .raw (.pointer (some ⟨g33, 0, none⟩))), (34, .f .f32 most), (35, .raw (.int .i64 wh))] (St w0 [] [⟨g33, 35, [.raw (.slice (some ⟨a, 0, none⟩) 4 4), .raw (.slice (some ⟨b, 0, none⟩) 4 4)], 2⟩, entF b 27 4 (fun _ => one1) 4, entC a 4 QQ 4, entF gt 27 k tt ct, ⟨g6, 35, [.raw (.slice (some ⟨a, 0, none⟩) 4 4), .raw (.slice (some ⟨b, 0, none⟩) 4 4)], 2⟩]) Q' := by
      refine ra_list [5] (by rw [ho]; decide +kernel) rfl ⟨?_, trivial⟩
      · refine ro_op (by rw [ho]; rfl) rfl (zaz rfl) ?_
        exact RA.weak (RA.toL' r0_1_2_3_4_5 (by decide +kernel)) (by (repeat (first | exact Env.sub_nil _ | refine Env.sub_cons rfl ?_))) (fun _ h => h)
    have r0_1_3_4_5 : RA Tryz.prog 268 o (LD 8 0 [0, 1, 3, 4, 5]) 3 [(7, .f .f32 most), (267, .raw (.bool true)), (265, .f .f32 most), (264, crvO a b 4), (6, .raw (.pointer (some ⟨g6, 0, none⟩))), (33, .raw (.pointer (some ⟨g33, 0, none⟩))), (34, .f .f32 most), (35, .raw (.int .i64 wh))] (St w0 [] [⟨g33, 35, [.raw (.slice (some ⟨a, 0, none⟩) 4 4), .raw (.slice (some ⟨b, 0, none⟩) 4 4)], 2⟩, entF b 27 4 (fun _ => one1) 4, entC a 4 QQ 4, entF gt 27 k tt ct, ⟨g6, 35, [.raw (.slice (some ⟨a, 0, none⟩) 4 4), .raw (.slice (some ⟨b, 0, none⟩) 4 4)], 2⟩]) Q' := by
      refine ra_list [2] (by rw [ho]; decide +kernel) rfl ⟨?_, trivial⟩
      · refine ro_op (by rw [ho]; rfl) rfl (zay rfl) ?_
        exact RA.weak (RA.toL' r0_1_2_3_4_5 (by decide +kernel)) (by (repeat (first | exact Env.sub_nil _ | refine Env.sub_cons rfl ?_))) (fun _ h => h)
    have r0_1_2_3 : RA Tryz.prog 268 o (LD 8 0 [0, 1, 2, 3]) 4 [(267, .raw (.bool true)), (266, .raw (.int .i64 wh)), (265, .f .f32 most), (264, crvO a b 4), (6, .raw (.pointer (some ⟨g6, 0, none⟩))), (33, .raw (.pointer (some ⟨g33, 0, none⟩))), (34, .f .f32 most), (35, .raw (.int .i64 wh))] (St w0 [] [⟨g33, 35, [.raw (.slice (some ⟨a, 0, none⟩) 4 4), .raw (.slice (some ⟨b, 0, none⟩) 4 4)], 2⟩, entF b 27 4 (fun _ => one1) 4, entC a 4 QQ 4, entF gt 27 k tt ct, ⟨g6, 35, [.raw (.slice none 0 0), .raw (.slice none 0 0)], 2⟩]) Q' := by
      refine ra_list [4] (by rw [ho]; decide +kernel) rfl ⟨?_, trivial⟩
      · refine ro_effs (by rw [ho]; rfl) rfl (effs_storeAX (R := fun _ => True) (w0 := w0) (gs := []) 4 rfl rfl rfl rfl rfl rfl rfl rfl rfl) ?_
        exact RA.weak (RA.toL' r0_1_2_3_4 (by decide +kernel)) (by (repeat (first | exact Env.sub_nil _ | refine Env.sub_cons rfl ?_))) (fun _ h => h)
    have r0_1_3_4 : RA Tryz.prog 268 o (LD 8 0 [0, 1, 3, 4]) 4 [(267, .raw (.bool true)), (265, .f .f32 most), (264, crvO a b 4), (6, .raw (.pointer (some ⟨g6, 0, none⟩))), (33, .raw (.pointer (some ⟨g33, 0, none⟩))), (34, .f .f32 most), (35, .raw (.int .i64 wh))] (St w0 [] [⟨g33, 35, [.raw (.slice (some ⟨a, 0, none⟩) 4 4), .raw (.slice (some ⟨b, 0, none⟩) 4 4)], 2⟩, entF b 27 4 (fun _ => one1) 4, entC a 4 QQ 4, entF gt 27 k tt ct, ⟨g6, 35, [.raw (.slice (some ⟨a, 0, none⟩) 4 4), .raw (.slice (some ⟨b, 0, none⟩) 4 4)], 2⟩]) Q' := by
      refine ra_list [2, 5] (by rw [ho]; decide +kernel) rfl ⟨?_, ?_, trivial⟩
      · refine ro_op (by rw [ho]; rfl) rfl (zay rfl) ?_
        exact RA.weak (RA.toL' r0_1_2_3_4 (by decide +kernel)) (by (repeat (first | exact Env.sub_nil _ | refine Env.sub_cons rfl ?_))) (fun _ h => h)
      · refine ro_op (by rw [ho]; rfl) rfl (zaz rfl) ?_
        exact RA.weak (RA.toL' r0_1_3_4_5 (by decide +kernel)) (by (repeat (first | exact Env.sub_nil _ | refine Env.sub_cons rfl ?_))) (fun _ h => h)
    have r0_2_3_4 : RA Tryz.prog 268 o (LD 8 0 [0, 2, 3, 4]) 4 [(267, .raw (.bool true)), (266, .raw (.int .i64 wh)), (264, crvO a b 4), (6, .raw (.pointer (some ⟨g6, 0, none⟩))), (33, .raw (.pointer (some ⟨g33, 0, none⟩))), (34, .f .f32 most), (35, .raw (.int .i64 wh))] (St w0 [] [⟨g33, 35, [.raw (.slice (some ⟨a, 0, none⟩) 4 4), .raw (.slice (some ⟨b, 0, none⟩) 4 4)], 2⟩, entF b 27 4 (fun _ => one1) 4, entC a 4 QQ 4, entF gt 27 k tt ct, ⟨g6, 35, [.raw (.slice (some ⟨a, 0, none⟩) 4 4), .raw (.slice (some ⟨b, 0, none⟩) 4 4)], 2⟩]) Q' := by
      refine ra_list [1] (by rw [ho]; decide +kernel) rfl ⟨?_, trivial⟩
      · refine ro_op (by rw [ho]; rfl) rfl (zay rfl) ?_
        exact RA.weak (RA.toL' r0_1_2_3_4 (by decide +kernel)) (by (repeat (first | exact Env.sub_nil _ | refine Env.sub_cons rfl ?_))) (fun _ h => h)
    have r0_1_2 : RA Tryz.prog 268 o (LD 8 0 [0, 1, 2]) 5 [(266, .raw (.int .i64 wh)), (265, .f .f32 most), (264, crvO a b 4), (6, .raw (.pointer (some ⟨g6, 0, none⟩))), (33, .raw (.pointer (some ⟨g33, 0, none⟩))), (34, .f .f32 most), (35, .raw (.int .i64 wh))] (St w0 [] [⟨g33, 35, [.raw (.slice (some ⟨a, 0, none⟩) 4 4), .raw (.slice (some ⟨b, 0, none⟩) 4 4)], 2⟩, entF b 27 4 (fun _ => one1) 4, entC a 4 QQ 4, entF gt 27 k tt ct, ⟨g6, 35, [.raw (.slice none 0 0), .raw (.slice none 0 0)], 2⟩]) Q' := by
      refine ra_list [3] (by rw [ho]; decide +kernel) rfl ⟨?_, trivial⟩
      · refine ro_op (by rw [ho]; rfl) rfl (zci rfl rfl hV (Takes.crvPO mh (mt (mt mh)) (mt mh) (by simp only [maxLen]; omega) Takes.nil)) ?_
        exact RA.weak (RA.toL' r0_1_2_3 (by decide +kernel)) (by (repeat (first | exact Env.sub_nil _ | refine Env.sub_cons rfl ?_))) (fun _ h => h)
    have r0_1_3 : RA Tryz.prog 268 o (LD 8 0 [0, 1, 3]) 5 [(267, .raw (.bool true)), (265, .f .f32 most), (264, crvO a b 4), (6, .raw (.pointer (some ⟨g6, 0, none⟩))), (33, .raw (.pointer (some ⟨g33, 0, none⟩))), (34, .f .f32 most), (35, .raw (.int .i64 wh))] (St w0 [] [⟨g33, 35, [.raw (.slice (some ⟨a, 0, none⟩) 4 4), .raw (.slice (some ⟨b, 0, none⟩) 4 4)], 2⟩, entF b 27 4 (fun _ => one1) 4, entC a 4 QQ 4, entF gt 27 k tt ct, ⟨g6, 35, [.raw (.slice none 0 0), .raw (.slice none 0 0)], 2⟩]) Q' := by
      refine ra_list [2, 4] (by rw [ho]; decide +kernel) rfl ⟨?_, ?_, trivial⟩
      · refine ro_op (by rw [ho]; rfl) rfl (zay rfl) ?_
        exact RA.weak (RA.toL' r0_1_2_3 (by decide +kernel)) (by (repeat (first | exact Env.sub_nil _ | refine Env.sub_cons rfl ?_))) (fun _ h => h)
      · refine ro_effs (by rw [ho]; rfl) rfl (effs_storeAX (R := fun _ => True) (w0 := w0) (gs := []) 4 rfl rfl rfl rfl rfl rfl rfl rfl rfl) ?_
        exact RA.weak (RA.toL' r0_1_3_4 (by decide +kernel)) (by (repeat (first | exact Env.sub_nil _ | refine Env.sub_cons rfl ?_))) (fun _ h => h)
    have r0_2_3 : RA Tryz.prog 268 o (LD 8 0 [0, 2, 3]) 5 [(267, .raw (.bool true)), (266, .raw (.int .i64 wh)), (264, crvO a b 4), (6, .raw (.pointer (some ⟨g6, 0, none⟩))), (33, .raw (.pointer (some ⟨g33, 0, none⟩))), (34, .f .f32 most), (35, .raw (.int .i64 wh))] (St w0 [] [⟨g33, 35, [.raw (.slice (some ⟨a, 0, none⟩) 4 4), .raw (.slice (some ⟨b, 0, none⟩) 4 4)], 2⟩, entF b 27 4 (fun _ => one1) 4, entC a 4 QQ 4, entF gt 27 k tt ct, ⟨g6, 35, [.raw (.slice none 0 0), .raw (.slice none 0 0)], 2⟩]) Q' := by
      refine ra_list [1, 4] (by rw [ho]; decide +kernel) rfl ⟨?_, ?_, trivial⟩
      · refine ro_op (by rw [ho]; rfl) rfl (zay rfl) ?_
        exact RA.weak (RA.toL' r0_1_2_3 (by decide +kernel)) (by (repeat (first | exact Env.sub_nil _ | refine Env.sub_cons rfl ?_))) (fun _ h => h)
      · refine ro_effs (by rw [ho]; rfl) rfl (effs_storeAX (R := fun _ => True) (w0 := w0) (gs := []) 4 rfl rfl rfl rfl rfl rfl rfl rfl rfl) ?_
        exact RA.weak (RA.toL' r0_2_3_4 (by decide +kernel)) (by (repeat (first | exact Env.sub_nil _ | refine Env.sub_cons rfl ?_))) (fun _ h => h)
    have r0_3_4 : RA Tryz.prog 268 o (LD 8 0 [0, 3, 4]) 5 [(267, .raw (.bool true)), (264, crvO a b 4), (6, .raw (.pointer (some ⟨g6, 0, none⟩))), (33, .raw (.pointer (some ⟨g33, 0, none⟩))), (34, .f .f32 most), (35, .raw (.int .i64 wh))] (St w0 [] [⟨g33, 35, [.raw (.slice (some ⟨a, 0, none⟩) 4 4), .raw (.slice (some ⟨b, 0, none⟩) 4 4)], 2⟩, entF b 27 4 (fun _ => one1) 4, entC a 4 QQ 4, entF gt 27 k tt ct, ⟨g6, 35, [.raw (.slice (some ⟨a, 0, none⟩) 4 4), .raw (.slice (some ⟨b, 0, none⟩) 4 4)], 2⟩]) Q' := by
      refine ra_list [1, 2] (by rw [ho]; decide +kernel) rfl ⟨?_, ?_, trivial⟩
      · refine ro_op (by rw [ho]; rfl) rfl (zay rfl) ?_
        exact RA.weak (RA.toL' r0_1_3_4 (by decide +kernel)) (by (repeat (first | exact Env.sub_nil _ | refine Env.sub_cons rfl ?_))) (fun _ h => h)
      · refine ro_op (by rw [ho]; rfl) rfl (zay rfl) ?_
        exact RA.weak (RA.toL' r0_2_3_4 (by decide +kernel)) (by (repeat (first | exact Env.sub_nil _ | refine Env.sub_cons rfl ?_))) (fun _ h => h)
    have r1_2_3 : RA Tryz.prog 268 o (LD 8 0 [1, 2, 3]) 5 [(267, .raw (.bool true)), (266, .raw (.int .i64 wh)), (265, .f .f32 most), (6, .raw (.pointer (some ⟨g6, 0, none⟩))), (33, .raw (.pointer (some ⟨g33, 0, none⟩))), (34, .f .f32 most), (35, .raw (.int .i64 wh))] (St w0 [] [⟨g33, 35, [.raw (.slice (some ⟨a, 0, none⟩) 4 4), .raw (.slice (some ⟨b, 0, none⟩) 4 4)], 2⟩, entF b 27 4 (fun _ => one1) 4, entC a 4 QQ 4, entF gt 27 k tt ct, ⟨g6, 35, [.raw (.slice none 0 0), .raw (.slice none 0 0)], 2⟩]) Q' := by
      refine ra_list [0] (by rw [ho]; decide +kernel) rfl ⟨?_, trivial⟩
      · refine ro_op (by rw [ho]; rfl) rfl (zcg rfl rfl mh rfl rfl) ?_
        exact RA.weak (RA.toL' r0_1_2_3 (by decide +kernel)) (by (repeat (first | exact Env.sub_nil _ | refine Env.sub_cons rfl ?_))) (fun _ h => h)
    have r0_1 : RA Tryz.prog 268 o (LD 8 0 [0, 1]) 6 [(265, .f .f32 most), (264, crvO a b 4), (6, .raw (.pointer (some ⟨g6, 0, none⟩))), (33, .raw (.pointer (some ⟨g33, 0, none⟩))), (34, .f .f32 most), (35, .raw (.int .i64 wh))] (St w0 [] [⟨g33, 35, [.raw (.slice (some ⟨a, 0, none⟩) 4 4), .raw (.slice (some ⟨b, 0, none⟩) 4 4)], 2⟩, entF b 27 4 (fun _ => one1) 4, entC a 4 QQ 4, entF gt 27 k tt ct, ⟨g6, 35, [.raw (.slice none 0 0), .raw (.slice none 0 0)], 2⟩]) Q' := by
      refine ra_list [2, 3] (by rw [ho]; decide +kernel) rfl ⟨?_, ?_, trivial⟩
      · refine ro_op (by rw [ho]; rfl) rfl (zay rfl) ?_
        exact RA.weak (RA.toL' r0_1_2 (by decide +kernel)) (by (repeat (first | exact Env.sub_nil _ | refine Env.sub_cons rfl ?_))) (fun _ h => h)
      · refine ro_op (by rw [ho]; rfl) rfl (zci rfl rfl hV (Takes.crvPO mh (mt (mt mh)) (mt mh) (by simp only [maxLen]; omega) Takes.nil)) ?_
        exact RA.weak (RA.toL' r0_1_3 (by decide +kernel)) (by (repeat (first | exact Env.sub_nil _ | refine Env.sub_cons rfl ?_))) (fun _ h => h)
    have r0_2 : RA Tryz.prog 268 o (LD 8 0 [0, 2]) 6 [(266, .raw (.int .i64 wh)), (264, crvO a b 4), (6, .raw (.pointer (some ⟨g6, 0, none⟩))), (33, .raw (.pointer (some ⟨g33, 0, none⟩))), (34, .f .f32 most), (35, .raw (.int .i64 wh))] (St w0 [] [⟨g33, 35, [.raw (.slice (some ⟨a, 0, none⟩) 4 4), .raw (.slice (some ⟨b, 0, none⟩) 4 4)], 2⟩, entF b 27 4 (fun _ => one1) 4, entC a 4 QQ 4, entF gt 27 k tt ct, ⟨g6, 35, [.raw (.slice none 0 0), .raw (.slice none 0 0)], 2⟩]) Q' := by
      refine ra_list [1, 3] (by rw [ho]; decide +kernel) rfl ⟨?_, ?_, trivial⟩
      · refine ro_op (by rw [ho]; rfl) rfl (zay rfl) ?_
        exact RA.weak (RA.toL' r0_1_2 (by decide +kernel)) (by (repeat (first | exact Env.sub_nil _ | refine Env.sub_cons rfl ?_))) (fun _ h => h)
      · refine ro_op (by rw [ho]; rfl) rfl (zci rfl rfl hV (Takes.crvPO mh (mt (mt mh)) (mt mh) (by simp only [maxLen]; omega) Takes.nil)) ?_
        exact RA.weak (RA.toL' r0_2_3 (by decide +kernel)) (by (repeat (first | exact Env.sub_nil _ | refine Env.sub_cons rfl ?_))) (fun _ h => h)
    have r0_3 : RA Tryz.prog 268 o (LD 8 0 [0, 3]) 6 [(267, .raw (.bool true)), (264, crvO a b 4), (6, .raw (.pointer (some ⟨g6, 0, none⟩))), (33, .raw (.pointer (some ⟨g33, 0, none⟩))), (34, .f .f32 most), (35, .raw (.int .i64 wh))] (St w0 [] [⟨g33, 35, [.raw (.slice (some ⟨a, 0, none⟩) 4 4), .raw (.slice (some ⟨b, 0, none⟩) 4 4)], 2⟩, entF b 27 4 (fun _ => one1) 4, entC a 4 QQ 4, entF gt 27 k tt ct, ⟨g6, 35, [.raw (.slice none 0 0), .raw (.slice none 0 0)], 2⟩]) Q' := by
      refine ra_list [1, 2, 4] (by rw [ho]; decide +kernel) rfl ⟨?_, ?_, ?_, trivial⟩
      · refine ro_op (by rw [ho]; rfl) rfl (zay rfl) ?_
        exact RA.weak (RA.toL' r0_1_3 (by decide +kernel)) (by (repeat (first | exact Env.sub_nil _ | refine Env.sub_cons rfl ?_))) (fun _ h => h)
      · refine ro_op (by rw [ho]; rfl) rfl (zay rfl) ?_
        exact RA.weak (RA.toL' r0_2_3 (by decide +kernel)) (by (repeat (first | exact Env.sub_nil _ | refine Env.sub_cons rfl ?_))) (fun _ h => h)
      · refine ro_effs (by rw [ho]; rfl) rfl (effs_storeAX (R := fun _ => True) (w0 := w0) (gs := []) 4 rfl rfl rfl rfl rfl rfl rfl rfl rfl) ?_
        exact RA.weak (RA.toL' r0_3_4 (by decide +kernel)) (by (repeat (first | exact Env.sub_nil _ | refine Env.sub_cons rfl ?_))) (fun _ h => h)
    have r1_2 : RA Tryz.prog 268 o (LD 8 0 [1, 2]) 6 [(266, .raw (.int .i64 wh)), (265, .f .f32 most), (6, .raw (.pointer (some ⟨g6, 0, none⟩))), (33, .raw (.pointer (some ⟨g33, 0, none⟩))), (34, .f .f32 most), (35, .raw (.int .i64 wh))] (St w0 [] [⟨g33, 35, [.raw (.slice (some ⟨a, 0, none⟩) 4 4), .raw (.slice (some ⟨b, 0, none⟩) 4 4)], 2⟩, entF b 27 4 (fun _ => one1) 4, entC a 4 QQ 4, entF gt 27 k tt ct, ⟨g6, 35, [.raw (.slice none 0 0), .raw (.slice none 0 0)], 2⟩]) Q' := by
      refine ra_list [0, 3] (by rw [ho]; decide +kernel) rfl ⟨?_, ?_, trivial⟩
      · refine ro_op (by rw [ho]; rfl) rfl (zcg rfl rfl mh rfl rfl) ?_
        exact RA.weak (RA.toL' r0_1_2 (by decide +kernel)) (by (repeat (first | exact Env.sub_nil _ | refine Env.sub_cons rfl ?_))) (fun _ h => h)
      · refine ro_op (by rw [ho]; rfl) rfl (zci rfl rfl hV (Takes.crvPO mh (mt (mt mh)) (mt mh) (by simp only [maxLen]; omega) Takes.nil)) ?_
        exact RA.weak (RA.toL' r1_2_3 (by decide +kernel)) (by (repeat (first | exact Env.sub_nil _ | refine Env.sub_cons rfl ?_))) (fun _ h => h)
    have r1_3 : RA Tryz.prog 268 o (LD 8 0 [1, 3]) 6 [(267, .raw (.bool true)), (265, .f .f32 most), (6, .raw (.pointer (some ⟨g6, 0, none⟩))), (33, .raw (.pointer (some ⟨g33, 0, none⟩))), (34, .f .f32 most), (35, .raw (.int .i64 wh))] (St w0 [] [⟨g33, 35, [.raw (.slice (some ⟨a, 0, none⟩) 4 4), .raw (.slice (some ⟨b, 0, none⟩) 4 4)], 2⟩, entF b 27 4 (fun _ => one1) 4, entC a 4 QQ 4, entF gt 27 k tt ct, ⟨g6, 35, [.raw (.slice none 0 0), .raw (.slice none 0 0)], 2⟩]) Q' := by
      refine ra_list [0, 2] (by rw [ho]; decide +kernel) rfl ⟨?_, ?_, trivial⟩
      · refine ro_op (by rw [ho]; rfl) rfl (zcg rfl rfl mh rfl rfl) ?_
        exact RA.weak (RA.toL' r0_1_3 (by decide +kernel)) (by (repeat (first | exact Env.sub_nil _ | refine Env.sub_cons rfl ?_))) (fun _ h => h)
      · refine ro_op (by rw [ho]; rfl) rfl (zay rfl) ?_
        exact RA.weak (RA.toL' r1_2_3 (by decide +kernel)) (by (repeat (first | exact Env.sub_nil _ | refine Env.sub_cons rfl ?_))) (fun _ h => h)
    have r2_3 : RA Tryz.prog 268 o (LD 8 0 [2, 3]) 6 [(267, .raw (.bool true)), (266, .raw (.int .i64 wh)), (6, .raw (.pointer (some ⟨g6, 0, none⟩))), (33, .raw (.pointer (some ⟨g33, 0, none⟩))), (34, .f .f32 most), (35, .raw (.int .i64 wh))] (St w0 [] [⟨g33, 35, [.raw (.slice (some ⟨a, 0, none⟩) 4 4), .raw (.slice (some ⟨b, 0, none⟩) 4 4)], 2⟩, entF b 27 4 (fun _ => one1) 4, entC a 4 QQ 4, entF gt 27 k tt ct, ⟨g6, 35, [.raw (.slice none 0 0), .raw (.slice none 0 0)], 2⟩]) Q' := by
      refine ra_list [0, 1] (by rw [ho]; decide +kernel) rfl ⟨?_, ?_, trivial⟩
      · refine ro_op (by rw [ho]; rfl) rfl (zcg rfl rfl mh rfl rfl) ?_
        exact RA.weak (RA.toL' r0_2_3 (by decide +kernel)) (by (repeat (first | exact Env.sub_nil _ | refine Env.sub_cons rfl ?_))) (fun _ h => h)
      · refine ro_op (by rw [ho]; rfl) rfl (zay rfl) ?_
        exact RA.weak (RA.toL' r1_2_3 (by decide +kernel)) (by (repeat (first | exact Env.sub_nil _ | refine Env.sub_cons rfl ?_))) (fun _ h => h)
    have r0 : RA Tryz.prog 268 o (LD 8 0 [0]) 7 [(264, crvO a b 4), (6, .raw (.pointer (some ⟨g6, 0, none⟩))), (33, .raw (.pointer (some ⟨g33, 0, none⟩))), (34, .f .f32 most), (35, .raw (.int .i64 wh))] (St w0 [] [⟨g33, 35, [.raw (.slice (some ⟨a, 0, none⟩) 4 4), .raw (.slice (some ⟨b, 0, none⟩) 4 4)], 2⟩, entF b 27 4 (fun _ => one1) 4, entC a 4 QQ 4, entF gt 27 k tt ct, ⟨g6, 35, [.raw (.slice none 0 0), .raw (.slice none 0 0)], 2⟩]) Q' := by
      refine ra_list [1, 2, 3] (by rw [ho]; decide +kernel) rfl ⟨?_, ?_, ?_, trivial⟩
      · refine ro_op (by rw [ho]; rfl) rfl (zay rfl) ?_
        exact RA.weak (RA.toL' r0_1 (by decide +kernel)) (by (repeat (first | exact Env.sub_nil _ | refine Env.sub_cons rfl ?_))) (fun _ h => h)
      · refine ro_op (by rw [ho]; rfl) rfl (zay rfl) ?_
        exact RA.weak (RA.toL' r0_2 (by decide +kernel)) (by (repeat (first | exact Env.sub_nil _ | refine Env.sub_cons rfl ?_))) (fun _ h => h)
      · refine ro_op (by rw [ho]; rfl) rfl (zci rfl rfl hV (Takes.crvPO mh (mt (mt mh)) (mt mh) (by simp only [maxLen]; omega) Takes.nil)) ?_
        exact RA.weak (RA.toL' r0_3 (by decide +kernel)) (by (repeat (first | exact Env.sub_nil _ | refine Env.sub_cons rfl ?_))) (fun _ h => h)
    have r1 : RA Tryz.prog 268 o (LD 8 0 [1]) 7 [(265, .f .f32 most), (6, .raw (.pointer (some ⟨g6, 0, none⟩))), (33, .raw (.pointer (some ⟨g33, 0, none⟩))), (34, .f .f32 most), (35, .raw (.int .i64 wh))] (St w0 [] [⟨g33, 35, [.raw (.slice (some ⟨a, 0, none⟩) 4 4), .raw (.slice (some ⟨b, 0, none⟩) 4 4)], 2⟩, entF b 27 4 (fun _ => one1) 4, entC a 4 QQ 4, entF gt 27 k tt ct, ⟨g6, 35, [.raw (.slice none 0 0), .raw (.slice none 0 0)], 2⟩]) Q' := by
      refine ra_list [0, 2, 3] (by rw [ho]; decide +kernel) rfl ⟨?_, ?_, ?_, trivial⟩
      · refine ro_op (by rw [ho]; rfl) rfl (zcg rfl rfl mh rfl rfl) ?_
        exact RA.weak (RA.toL' r0_1 (by decide +kernel)) (by (repeat (first | exact Env.sub_nil _ | refine Env.sub_cons rfl ?_))) (fun _ h => h)
      · refine ro_op (by rw [ho]; rfl) rfl (zay rfl) ?_
        exact RA.weak (RA.toL' r1_2 (by decide +kernel)) (by (repeat (first | exact Env.sub_nil _ | refine Env.sub_cons rfl ?_))) (fun _ h => h)
      · refine ro_op (by rw [ho]; rfl) rfl (zci rfl rfl hV (Takes.crvPO mh (mt (mt mh)) (mt mh) (by simp only [maxLen]; omega) Takes.nil)) ?_
        exact RA.weak (RA.toL' r1_3 (by decide +kernel)) (by (repeat (first | exact Env.sub_nil _ | refine Env.sub_cons rfl ?_))) (fun _ h => h)
    have r2 : RA Tryz.prog 268 o (LD 8 0 [2]) 7 [(266, .raw (.int .i64 wh)), (6, .raw (.pointer (some ⟨g6, 0, none⟩))), (33, .raw (.pointer (some ⟨g33, 0, none⟩))), (34, .f .f32 most), (35, .raw (.int .i64 wh))] (St w0 [] [⟨g33, 35, [.raw (.slice (some ⟨a, 0, none⟩) 4 4), .raw (.slice (some ⟨b, 0, none⟩) 4 4)], 2⟩, entF b 27 4 (fun _ => one1) 4, entC a 4 QQ 4, entF gt 27 k tt ct, ⟨g6, 35, [.raw (.slice none 0 0), .raw (.slice none 0 0)], 2⟩]) Q' := by
      refine ra_list [0, 1, 3] (by rw [ho]; decide +kernel) rfl ⟨?_, ?_, ?_, trivial⟩
      · refine ro_op (by rw [ho]; rfl) rfl (zcg rfl rfl mh rfl rfl) ?_
        exact RA.weak (RA.toL' r0_2 (by decide +kernel)) (by (repeat (first | exact Env.sub_nil _ | refine Env.sub_cons rfl ?_))) (fun _ h => h)
      · refine ro_op (by rw [ho]; rfl) rfl (zay rfl) ?_
        exact RA.weak (RA.toL' r1_2 (by decide +kernel)) (by (repeat (first | exact Env.sub_nil _ | refine Env.sub_cons rfl ?_))) (fun _ h => h)
      · refine ro_op (by rw [ho]; rfl) rfl (zci rfl rfl hV (Takes.crvPO mh (mt (mt mh)) (mt mh) (by simp only [maxLen]; omega) Takes.nil)) ?_
        exact RA.weak (RA.toL' r2_3 (by decide +kernel)) (by (repeat (first | exact Env.sub_nil _ | refine Env.sub_cons rfl ?_))) (fun _ h => h)
    have r3 : RA Tryz.prog 268 o (LD 8 0 [3]) 7 [(267, .raw (.bool true)), (6, .raw (.pointer (some ⟨g6, 0, none⟩))), (33, .raw (.pointer (some ⟨g33, 0, none⟩))), (34, .f .f32 most), (35, .raw (.int .i64 wh))] (St w0 [] [⟨g33, 35, [.raw (.slice (some ⟨a, 0, none⟩) 4 4), .raw (.slice (some ⟨b, 0, none⟩) 4 4)], 2⟩, entF b 27 4 (fun _ => one1) 4, entC a 4 QQ 4, entF gt 27 k tt ct, ⟨g6, 35, [.raw (.slice none 0 0), .raw (.slice none 0 0)], 2⟩]) Q' := by
      refine ra_list [0, 1, 2] (by rw [ho]; decide +kernel) rfl ⟨?_, ?_, ?_, trivial⟩
      · refine ro_op (by rw [ho]; rfl) rfl (zcg rfl rfl mh rfl rfl) ?_
        exact RA.weak (RA.toL' r0_3 (by decide +kernel)) (by (repeat (first | exact Env.sub_nil _ | refine Env.sub_cons rfl ?_))) (fun _ h => h)
      · refine ro_op (by rw [ho]; rfl) rfl (zay rfl) ?_
        exact RA.weak (RA.toL' r1_3 (by decide +kernel)) (by (repeat (first | exact Env.sub_nil _ | refine Env.sub_cons rfl ?_))) (fun _ h => h)
      · refine ro_op (by rw [ho]; rfl) rfl (zay rfl) ?_
        exact RA.weak (RA.toL' r2_3 (by decide +kernel)) (by (repeat (first | exact Env.sub_nil _ | refine Env.sub_cons rfl ?_))) (fun _ h => h)
    have r : RA Tryz.prog 268 o (LD 8 0 []) 8 [(6, .raw (.pointer (some ⟨g6, 0, none⟩))), (33, .raw (.pointer (some ⟨g33, 0, none⟩))), (34, .f .f32 most), (35, .raw (.int .i64 wh))] (St w0 [] [⟨g33, 35, [.raw (.slice (some ⟨a, 0, none⟩) 4 4), .raw (.slice (some ⟨b, 0, none⟩) 4 4)], 2⟩, entF b 27 4 (fun _ => one1) 4, entC a 4 QQ 4, entF gt 27 k tt ct, ⟨g6, 35, [.raw (.slice none 0 0), .raw (.slice none 0 0)], 2⟩]) Q' := by
      refine ra_list [0, 1, 2, 3] (by rw [ho]; decide +kernel) rfl ⟨?_, ?_, ?_, ?_, trivial⟩
      · refine ro_op (by rw [ho]; rfl) rfl (zcg rfl rfl mh rfl rfl) ?_
        exact RA.weak (RA.toL' r0 (by decide +kernel)) (by (repeat (first | exact Env.sub_nil _ | refine Env.sub_cons rfl ?_))) (fun _ h => h)
      · refine ro_op (by rw [ho]; rfl) rfl (zay rfl) ?_
        exact RA.weak (RA.toL' r1 (by decide +kernel)) (by (repeat (first | exact Env.sub_nil _ | refine Env.sub_cons rfl ?_))) (fun _ h => h)
      · refine ro_op (by rw [ho]; rfl) rfl (zay rfl) ?_
        exact RA.weak (RA.toL' r2 (by decide +kernel)) (by (repeat (first | exact Env.sub_nil _ | refine Env.sub_cons rfl ?_))) (fun _ h => h)
      · refine ro_op (by rw [ho]; rfl) rfl (zci rfl rfl hV (Takes.crvPO mh (mt (mt mh)) (mt mh) (by simp only [maxLen]; omega) Takes.nil)) ?_
        exact RA.weak (RA.toL' r3 (by decide +kernel)) (by (repeat (first | exact Env.sub_nil _ | refine Env.sub_cons rfl ?_))) (fun _ h => h)
    exact RA.weak (RA.toL' (ra_fuel r rfl) (by decide +kernel)) (by (repeat (first | exact Env.sub_nil _ | refine Env.sub_cons rfl ?_))) (fun _ h => h)
  repeat first | (refine zcr ?_; refine zcs ?_) | (refine zdb ?_; refine zdg ?_)
  exact done_retCX3 rfl rfl ((a, b), most, wh) rfl rfl rfl rfl (mt (mt (mt (mt mh)))) rfl rfl rfl ⟨⟨rm, vm⟩, ⟨by simp only; omega, by simp only; omega⟩, fun h => hw3 h (by omega)⟩ (.cons _ (.cons_cons _ (.cons_cons _ (List.nil_sublist _))))
end Go.Ab
