/- Part 6 of the texts on which the law leans, joined: Points and slopes of curves, the program's, walked. No conditions. -/
import Derived.Test.YtijihljfpeajlaaZae
namespace Go.Ab
open Go.Proofs
variable {R : World → Prop} [RStab R]
theorem ws_K2 {P : Program} {N : Nat} {e : Env} {S : World → Prop} {Q : Exit → Env → World → Prop} {Y : Type} {E : Y → Env} {SS : Y → World → Prop} {ok : Y → Prop} {c : Code} (h : (∀ y, ok y → Done .normal (E y) (SS y) Q) → WS P N c e S Q) (hD : ∀ y, ok y → Done .normal (E y) (SS y) Q) : WS P N c e S Q := h hD
theorem entF_one0 (g c : Nat) (T : TypeId) (f : Int → FV) : (⟨g, T, [.f .f32 (f ((0 : Nat) : Int))], c * 1⟩ : Ent) = entF g T 1 f c := entF_one g c T f
theorem entC_snoc (g c k : Nat) (F : Nat → CV) : (⟨g, 31, (tabC k F).map cA ++ [cA (F k)], c * 1⟩ : Ent) = entC g (k + 1) F c := by
  unfold entC
  rw [Nat.mul_one, ← tabC_snoc k F, List.map_append]
  rfl
theorem entF_snoc (g c k : Nat) (T : TypeId) (f : Int → FV) : (⟨g, T, (tab k f).map (AV.f .f32) ++ [.f .f32 (f k)], c * 1⟩ : Ent) = entF g T (k + 1) f c := by
  unfold entF
  rw [Nat.mul_one, ← tab_snoc (n := k) (f := f) (g := f) (x := f k) rfl (fun _ _ _ => rfl), List.map_append]
  rfl
theorem one_cA (n : Nat) (F : Nat → CV) : ((tabC n F).map cA).all isOne = true := by
  rw [List.all_eq_true]
  intro x hx
  obtain ⟨a, _, rfl⟩ := List.mem_map.1 hx
  rfl
attribute [local irreducible] WS RS Done OpJ Then InBlock Round Ret Env.sub FnH
attribute [local irreducible] tab tabC
theorem scaled_fn (p : CV) (h : FV) : Fn Try.prog 35 (fun _ => [cA p, .f .f32 h]) (cA (scaleC p h)) := by
  refine fn_intro Try.func35 rfl Try.ntmps35 (fun _ => Nat.le_of_ble_eq_true rfl) fun w0 => ?_
  unfold cA
  repeat first | refine zaa rfl (zay rfl) ?_ | refine zaa rfl (zaz rfl) ?_ | (refine zac ?_; refine zaa rfl (zba rfl rfl rfl) ?_) | (refine zad ?_; first | refine zaa rfl (zbp rfl) ?_ | refine zaa rfl (zbq rfl) ?_ | refine zaa rfl (zbr rfl rfl) ?_) | refine zah ?_ | (refine zcr ?_; refine zcs ?_) | (refine zdb ?_; first | refine zdc ?_ | refine zdd ?_ | refine zdg ?_)
  exact done_ret1 rfl () rfl trivial (List.nil_sublist _)
theorem blend_fn (a b : CV) (u v t : FV) : Fn Try.prog 73 (fun _ => [cA a, .f .f32 u, cA b, .f .f32 v, .f .f32 t]) (.tup [cA (blC a b u v t), .f .f32 (blW u v t)]) := by
  have h1 := scaled_fn a (fbin .mul .f32 u (fbin .sub .f32 one1 t))
  have h2 := scaled_fn b (fbin .mul .f32 v t)
  have hp := plus_fn (scaleC a (fbin .mul .f32 u (fbin .sub .f32 one1 t))) (scaleC b (fbin .mul .f32 v t))
  have h3 := scaled_fn (addC2 (scaleC a (fbin .mul .f32 u (fbin .sub .f32 one1 t))) (scaleC b (fbin .mul .f32 v t))) (fbin .quo .f32 one1 (blW u v t))
  refine fn_intro Try.func73 rfl Try.ntmps73 (fun _ => Nat.le_of_ble_eq_true rfl) fun w0 => ?_
  repeat first | refine zaa rfl (zay rfl) ?_ | refine zaa rfl (zaz rfl) ?_ | (refine zac ?_; refine zaa rfl (zba rfl rfl rfl) ?_) | (refine zad ?_; first | (refine zaa rfl (zci rfl rfl (h1) ?_) ?_; (focus ((repeat (first | exact Takes.nil | refine Takes.sl ?_ | refine Takes.lit ?_ | refine Takes.fa ?_ | refine Takes.fc ?_ | refine Takes.net ?_ | (refine Takes.ownE ?_ ?_ ?_ ?_ ?_; (focus (exact ⟨_, _, (by (repeat (first | exact mh | refine mt ?_)); done)⟩)); (focus (simp; done)); (focus omega); (focus (simp only [maxLen]; omega))) | refine Takes.same ?_)); done))) | (refine zaa rfl (zci rfl rfl (h2) ?_) ?_; (focus ((repeat (first | exact Takes.nil | refine Takes.sl ?_ | refine Takes.lit ?_ | refine Takes.fa ?_ | refine Takes.fc ?_ | refine Takes.net ?_ | (refine Takes.ownE ?_ ?_ ?_ ?_ ?_; (focus (exact ⟨_, _, (by (repeat (first | exact mh | refine mt ?_)); done)⟩)); (focus (simp; done)); (focus omega); (focus (simp only [maxLen]; omega))) | refine Takes.same ?_)); done))) | (refine zaa rfl (zci rfl rfl (h3) ?_) ?_; (focus ((repeat (first | exact Takes.nil | refine Takes.sl ?_ | refine Takes.lit ?_ | refine Takes.fa ?_ | refine Takes.fc ?_ | refine Takes.net ?_ | (refine Takes.ownE ?_ ?_ ?_ ?_ ?_; (focus (exact ⟨_, _, (by (repeat (first | exact mh | refine mt ?_)); done)⟩)); (focus (simp; done)); (focus omega); (focus (simp only [maxLen]; omega))) | refine Takes.same ?_)); done))) | (refine zaa rfl (zci rfl rfl (hp) ?_) ?_; (focus ((repeat (first | exact Takes.nil | refine Takes.sl ?_ | refine Takes.lit ?_ | refine Takes.fa ?_ | refine Takes.fc ?_ | refine Takes.net ?_ | (refine Takes.ownE ?_ ?_ ?_ ?_ ?_; (focus (exact ⟨_, _, (by (repeat (first | exact mh | refine mt ?_)); done)⟩)); (focus (simp; done)); (focus omega); (focus (simp only [maxLen]; omega))) | refine Takes.same ?_)); done)))) | refine zah ?_ | (refine zcr ?_; refine zcs ?_) | (refine zdb ?_; first | refine zdc ?_ | refine zdd ?_ | refine zdg ?_)
  exact done_ret2 rfl () rfl rfl rfl trivial (List.nil_sublist _)
/-- Where a row stands. -/
def nextWd (T Tc : TypeId) (w0 : World) (g2 g4 g5 n : Nat) (P : Nat → CV) (f : Int → FV) (P' : Nat → CV) (f' : Int → FV) (y : Nat × (Nat × Nat) × Nat × Nat) : World → Prop := match y.1 with
  | 0 => St w0 [] [⟨g5, Tc, [.raw (.slice none 0 0), .raw (.slice none 0 0)], 2⟩, ⟨g4, Tc, [.raw (.slice none 0 0), .raw (.slice none 0 0)], 2⟩, ⟨g2, Tc, [slC w0 (tabC n P), AV.sl w0 1 ((tab n f).map (AV.f .f32))], 2⟩]
  | i + 1 => St w0 [] [⟨g5, Tc, [.raw (.slice (some ⟨y.2.1.1, 0, none⟩) (i + 1) y.2.2.1), .raw (.slice (some ⟨y.2.1.2, 0, none⟩) (i + 1) y.2.2.2)], 2⟩, ⟨g4, Tc, [.raw (.slice none 0 0), .raw (.slice none 0 0)], 2⟩, ⟨g2, Tc, [slC w0 (tabC n P), AV.sl w0 1 ((tab n f).map (AV.f .f32))], 2⟩, entC y.2.1.1 (i + 1) P' y.2.2.1, entF y.2.1.2 T (i + 1) f' y.2.2.2]
set_option maxRecDepth 100000 in
set_option maxHeartbeats 40000000 in
theorem next_fn' {n : Nat} {P : Nat → CV} {f : Int → FV} {t : FV} (hn : 2 ≤ n ∧ n ≤ 1000) :
    FnH (X := (Nat × Nat) × Nat × Nat) Try.prog 60 (fun w => [crvA w n P f, .f .f32 t]) []
      (fun y => crvOc y.1.1 y.1.2 (n - 1) y.2.1 y.2.2) (fun y => [entC y.1.1 (n - 1) (rowP P f t) y.2.1, entF y.1.2 29 (n - 1) (rowW f t) y.2.2]) (fun y => (n - 1 ≤ y.2.1 ∧ y.2.1 ≤ maxLen) ∧ n - 1 ≤ y.2.2 ∧ y.2.2 ≤ maxLen) := by
  have hB : ∀ i : Nat, Fn Try.prog 73 (fun _ => [cA (P i), .f .f32 (f i), cA (P (i + 1)), .f .f32 (f ((i : Int) + 1)), .f .f32 t]) (.tup [cA (rowP P f t i), .f .f32 (rowW f t i)]) := fun i => blend_fn _ _ _ _ _
  have hD := degree_fn n P f (by omega)
  obtain ⟨P', hP'⟩ : ∃ P', P' = rowP P f t := ⟨_, rfl⟩
  obtain ⟨f', hf'⟩ : ∃ f', f' = rowW f t := ⟨_, rfl⟩
  rw [← hP', ← hf'] at hB ⊢
  have e1 : ∀ i : Nat, ((i : Int) + 1).toNat = i + 1 := fun i => by omega
  have e0 : ∀ i : Nat, (i : Int).toNat = i := fun i => rfl
  refine fn_intro Try.func60 rfl Try.ntmps60 (fun _ => Nat.le_of_ble_eq_true rfl) fun w0 => ?_
  repeat first | refine zaa rfl (zay rfl) ?_ | (refine zae ?_; refine zaa rfl (zcg rfl rfl (by (repeat (first | exact mh | refine mt ?_)); done) rfl rfl) ?_) | refine zah ?_ | (refine zcr ?_; refine zcs ?_) | (refine zdb ?_; first | refine zdc ?_ | refine zdd ?_ | refine zde ?_) | (refine zak rfl rfl rfl ?_; intro g) | (refine zal rfl rfl ?_; intro g) | (refine zag ?_; refine zan 0 rfl rfl rfl rfl rfl rfl rfl rfl rfl ?_) | refine zaa rfl opj_buildZ ?_ | refine zaa rfl (zci rfl rfl hD (Takes.crv Takes.nil)) ?_
  rename_i g2 g4
  obtain ⟨g5, hg5⟩ : ∃ x, x = g := ⟨g, rfl⟩
  subst hg5
  refine ws_loop (ι := Nat × (Nat × Nat) × Nat × Nat) (fun y => [(1, .f .f32 t), (2, .raw (.pointer (some ⟨g2, 0, none⟩))), (4, .raw (.pointer (some ⟨g4, 0, none⟩))), (5, .raw (.pointer (some ⟨g5, 0, none⟩))), (11, .raw (.int .i64 ((n : Int) - 1))), (12, .raw (.int .i64 (y.1 : Nat)))])
    (nextWd 29 50 w0 g2 g4 g5 n P f P' f') (fun y => y.1 + 1 ≤ n ∧ (y.1 ≤ y.2.2.1 ∧ y.2.2.1 ≤ maxLen) ∧ y.1 ≤ y.2.2.2 ∧ y.2.2.2 ≤ maxLen) (fun y => n - y.1) (0, (0, 0), 0, 0) ⟨by simp only; omega, by simp only; omega, by simp only; omega⟩ ?_ (fun _ h => h) (fun y hy => ?_)
  · (repeat (first | exact Env.sub_nil _ | refine Env.sub_cons rfl ?_))
  obtain ⟨i, ⟨a, b⟩, ca, cb⟩ := y
  simp only at hy ⊢
  obtain ⟨hi, hc1, hc2⟩ := hy
  have hBi : Fn Try.prog 73 (fun _ => [cA (P (i : Int).toNat), .f .f32 (f i), cA (P ((i : Int) + 1).toNat), .f .f32 (f ((i : Int) + 1)), .f .f32 t]) (.tup [cA (P' i), .f .f32 (f' i)]) := by
    rw [e1, e0]
    exact hB i
  cases i with
  | zero =>
    unfold nextWd
    dsimp only
    repeat first | (refine zac ?_; refine zaa rfl (zbe rfl rfl) ?_) | refine zah ?_ | (refine zcr ?_; refine zcs ?_) | (refine zdb ?_; first | refine zdc ?_ | refine zdd ?_)
    refine ws_cond rfl (fun hd => ?_) (fun hd => ?_)
    case' refine_2 =>
      exfalso
      have := of_decide_eq_false hd
      omega
    clear hd
    repeat first | refine zaa rfl (zay rfl) ?_ | refine zaa rfl (zaz rfl) ?_ | refine zah ?_ | (refine zcr ?_; refine zcs ?_) | (refine zdb ?_; first | refine zdc ?_ | refine zdd ?_ | refine zde ?_ | refine zdf ?_)
    refine ws_draw (n := 29) mixed (by decide +kernel) ?_
    repeat first | refine zap rfl (zay rfl) ?_ | refine zap rfl (zaz rfl) ?_ | (refine zar ?_; refine zap rfl (zbb rfl rfl (by omega)) ?_) | (refine zas ?_; (refine zap rfl (zci rfl rfl (hBi) ?_) ?_; (focus ((repeat (first | exact Takes.nil | refine Takes.sl ?_ | refine Takes.lit ?_ | refine Takes.fa ?_ | refine Takes.fc ?_ | refine Takes.net ?_ | (refine Takes.ownE ?_ ?_ ?_ ?_ ?_; (focus (exact ⟨_, _, (by (repeat (first | exact mh | refine mt ?_)); done)⟩)); (focus (simp; done)); (focus omega); (focus (simp only [maxLen]; omega))) | refine Takes.same ?_)); done)))) | (refine zat ?_; first | refine zap rfl (zcf rfl rfl (by (repeat (first | exact mh | refine mt ?_)); done) rfl) ?_ | refine zap rfl (zbu rfl rfl) ?_) | (refine zau ?_; first | refine zap rfl (opj_indexC rfl rfl (by omega) (by omega)) ?_ | refine zap rfl (zbs rfl rfl (by omega) (by omega)) ?_) | refine zap rfl (zcd rfl) ?_ | refine zap rfl (zbz rfl rfl) ?_ | refine zav ?_
    repeat first | refine zah ?_ | (refine zcr ?_; refine zcs ?_)
    refine ws_K2 (Y := ((Nat × Nat) × Nat × Nat) × Nat × Nat) (E := fun ⟨⟨⟨a', b'⟩, ca', cb'⟩, _, _⟩ => [(53, .raw (.pointer (some ⟨g5, 0 + 1, none⟩))), (51, .raw (.slice (some ⟨b', 0, none⟩) (0 + 1) cb')), (46, .raw (.slice (some ⟨a', 0, none⟩) (0 + 1) ca')), (52, .raw (.pointer (some ⟨g5, 0 + 0, none⟩))), (49, .f .f32 (f' ((0 : Nat) : Int))), (48, .raw (.slice none 0 0)), (47, .raw (.pointer (some ⟨g5, 0 + 1, none⟩))), (44, cA (P' 0)), (43, .raw (.slice none 0 0)), (42, .raw (.pointer (some ⟨g5, 0 + 0, none⟩))), (7, cA (P' 0)), (8, .f .f32 (f' ((0 : Nat) : Int))), (1, .f .f32 t), (2, .raw (.pointer (some ⟨g2, 0, none⟩))), (4, .raw (.pointer (some ⟨g4, 0, none⟩))), (5, .raw (.pointer (some ⟨g5, 0, none⟩))), (11, .raw (.int .i64 ((n : Int) - 1))), (12, .raw (.int .i64 ((0 : Nat) : Int)))])
      (SS := fun ⟨⟨⟨a', b'⟩, ca', cb'⟩, u1, u2⟩ => St w0 [] [entF b' 29 (0 + 1) f' cb', entC a' (0 + 1) P' ca', ⟨u1, 31, [cA (P' 0)], 1⟩, ⟨u2, 29, [.f .f32 (f' ((0 : Nat) : Int))], 1⟩, ⟨g5, 50, [.raw (.slice (some ⟨a', 0, none⟩) (0 + 1) ca'), .raw (.slice (some ⟨b', 0, none⟩) (0 + 1) cb')], 2⟩, ⟨g4, 50, [.raw (.slice none 0 0), .raw (.slice none 0 0)], 2⟩, ⟨g2, 50, [slC w0 (tabC n P), AV.sl w0 1 ((tab n f).map (AV.f .f32))], 2⟩]) (ok := fun y => (0 + 1 ≤ y.1.2.1 ∧ y.1.2.1 ≤ maxLen) ∧ 0 + 1 ≤ y.1.2.2 ∧ y.1.2.2 ≤ maxLen) (fun hD0 => ?_) (fun y hy => ?_)
    · have hD := fun a' ca' b' cb' u1 u2 h1 h2 => hD0 (((a', b'), ca', cb'), u1, u2) ⟨h1, h2⟩
      refine ws_drawP (ix := [0, 1, 2, 5, 6, 7, 10]) (W := St w0 [] [⟨g5, 50, [.raw (.slice none 0 0), .raw (.slice none 0 0)], 2⟩]) mixed (by decide +kernel) (fun _ h => h.weak (.cons_cons _ (List.nil_sublist _))) ?_
      repeat first | refine zap rfl (zay rfl) ?_ | (refine zat ?_; refine zap rfl (zcf rfl rfl (by (repeat (first | exact mh | refine mt ?_)); done) rfl) ?_) | refine zap rfl (zcd rfl) ?_ | refine zav ?_
      refine ⟨rfl, ?_⟩
      refine gp_name fun o ho Q' hQ => ?_
      have hso : slotsOf o [0, 1, 2, 5, 6, 7, 10] = [42, 5, 43, 42, 44, 7, 47, 5, 48, 47, 49, 8, 52, 5] := by rw [ho]; decide +kernel
      have q3 := op_at (i := 3) ho rfl
      have q4 := op_at (i := 4) ho rfl
      have q8 := op_at (i := 8) ho rfl
      have q9 := op_at (i := 9) ho rfl
      have q11 := op_at (i := 11) ho rfl
      have q12 := op_at (i := 12) ho rfl
      have q13 := op_at (i := 13) ho rfl
      have sj : ∀ (u1 u2 a' ca' b' cb' : Nat), 0 + 1 ≤ ca' ∧ ca' ≤ maxLen → 0 + 1 ≤ cb' ∧ cb' ≤ maxLen → GP Try.prog 56 o [] (fun _ => True) [13, 12, 11, 0, 1, 2, 5, 6, 7, 10, 9, 8, 4, 3] [(53, .raw (.pointer (some ⟨g5, 0 + 1, none⟩))), (51, .raw (.slice (some ⟨b', 0, none⟩) (0 + 1) cb')), (46, .raw (.slice (some ⟨a', 0, none⟩) (0 + 1) ca')), (52, .raw (.pointer (some ⟨g5, 0 + 0, none⟩))), (49, .f .f32 (f' ((0 : Nat) : Int))), (48, .raw (.slice none 0 0)), (47, .raw (.pointer (some ⟨g5, 0 + 1, none⟩))), (44, cA (P' 0)), (43, .raw (.slice none 0 0)), (42, .raw (.pointer (some ⟨g5, 0 + 0, none⟩))), (7, cA (P' 0)), (8, .f .f32 (f' ((0 : Nat) : Int))), (1, .f .f32 t), (2, .raw (.pointer (some ⟨g2, 0, none⟩))), (4, .raw (.pointer (some ⟨g4, 0, none⟩))), (5, .raw (.pointer (some ⟨g5, 0, none⟩))), (11, .raw (.int .i64 ((n : Int) - 1))), (12, .raw (.int .i64 ((0 : Nat) : Int)))] (St w0 [] [entF b' 29 (0 + 1) f' cb', entC a' (0 + 1) P' ca', ⟨u1, 31, [cA (P' 0)], 1⟩, ⟨u2, 29, [.f .f32 (f' ((0 : Nat) : Int))], 1⟩, ⟨g5, 50, [.raw (.slice (some ⟨a', 0, none⟩) (0 + 1) ca'), .raw (.slice (some ⟨b', 0, none⟩) (0 + 1) cb')], 2⟩, ⟨g4, 50, [.raw (.slice none 0 0), .raw (.slice none 0 0)], 2⟩, ⟨g2, 50, [slC w0 (tabC n P), AV.sl w0 1 ((tab n f).map (AV.f .f32))], 2⟩]) Q' := fun u1 u2 a' ca' b' cb' h1 h2 => gp_end (by rw [ho]; decide +kernel) (by rw [hQ]; exact hD a' ca' b' cb' u1 u2 h1 h2)
      have si : ∀ (u1 u2 a' ca' b' cb' : Nat), 0 + 1 ≤ ca' ∧ ca' ≤ maxLen → 0 + 1 ≤ cb' ∧ cb' ≤ maxLen → GP Try.prog 56 o [] (fun _ => True) [12, 11, 0, 1, 2, 5, 6, 7, 10, 9, 8, 4, 3] [(53, .raw (.pointer (some ⟨g5, 0 + 1, none⟩))), (51, .raw (.slice (some ⟨b', 0, none⟩) (0 + 1) cb')), (46, .raw (.slice (some ⟨a', 0, none⟩) (0 + 1) ca')), (52, .raw (.pointer (some ⟨g5, 0 + 0, none⟩))), (49, .f .f32 (f' ((0 : Nat) : Int))), (48, .raw (.slice none 0 0)), (47, .raw (.pointer (some ⟨g5, 0 + 1, none⟩))), (44, cA (P' 0)), (43, .raw (.slice none 0 0)), (42, .raw (.pointer (some ⟨g5, 0 + 0, none⟩))), (7, cA (P' 0)), (8, .f .f32 (f' ((0 : Nat) : Int))), (1, .f .f32 t), (2, .raw (.pointer (some ⟨g2, 0, none⟩))), (4, .raw (.pointer (some ⟨g4, 0, none⟩))), (5, .raw (.pointer (some ⟨g5, 0, none⟩))), (11, .raw (.int .i64 ((n : Int) - 1))), (12, .raw (.int .i64 ((0 : Nat) : Int)))] (St w0 [] [entF b' 29 (0 + 1) f' cb', entC a' (0 + 1) P' ca', ⟨u1, 31, [cA (P' 0)], 1⟩, ⟨u2, 29, [.f .f32 (f' ((0 : Nat) : Int))], 1⟩, ⟨g5, 50, [.raw (.slice (some ⟨a', 0, none⟩) (0 + 1) ca'), .raw (.slice none 0 0)], 2⟩, ⟨g4, 50, [.raw (.slice none 0 0), .raw (.slice none 0 0)], 2⟩, ⟨g2, 50, [slC w0 (tabC n P), AV.sl w0 1 ((tab n f).map (AV.f .f32))], 2⟩]) Q' := fun u1 u2 a' ca' b' cb' h1 h2 => by
        refine gp_step [13] (by rw [ho]; decide +kernel) fun f hf => ?_
        obtain rfl : f = 13 := by simpa using hf
        refine sp_eff q13 (by rw [ho]; decide +kernel) (effj_storeX 4 rfl rfl rfl rfl rfl rfl) (cont_set rfl rfl ?_)
        exact sj u1 u2 a' ca' b' cb' h1 h2
      have sh : ∀ (u1 u2 a' ca' b' cb' : Nat), 0 + 1 ≤ ca' ∧ ca' ≤ maxLen → 0 + 1 ≤ cb' ∧ cb' ≤ maxLen → GP Try.prog 56 o [] (fun _ => True) [11, 0, 1, 2, 5, 6, 7, 10, 9, 8, 4, 3] [(51, .raw (.slice (some ⟨b', 0, none⟩) (0 + 1) cb')), (46, .raw (.slice (some ⟨a', 0, none⟩) (0 + 1) ca')), (52, .raw (.pointer (some ⟨g5, 0 + 0, none⟩))), (49, .f .f32 (f' ((0 : Nat) : Int))), (48, .raw (.slice none 0 0)), (47, .raw (.pointer (some ⟨g5, 0 + 1, none⟩))), (44, cA (P' 0)), (43, .raw (.slice none 0 0)), (42, .raw (.pointer (some ⟨g5, 0 + 0, none⟩))), (7, cA (P' 0)), (8, .f .f32 (f' ((0 : Nat) : Int))), (1, .f .f32 t), (2, .raw (.pointer (some ⟨g2, 0, none⟩))), (4, .raw (.pointer (some ⟨g4, 0, none⟩))), (5, .raw (.pointer (some ⟨g5, 0, none⟩))), (11, .raw (.int .i64 ((n : Int) - 1))), (12, .raw (.int .i64 ((0 : Nat) : Int)))] (St w0 [] [entF b' 29 (0 + 1) f' cb', entC a' (0 + 1) P' ca', ⟨u1, 31, [cA (P' 0)], 1⟩, ⟨u2, 29, [.f .f32 (f' ((0 : Nat) : Int))], 1⟩, ⟨g5, 50, [.raw (.slice (some ⟨a', 0, none⟩) (0 + 1) ca'), .raw (.slice none 0 0)], 2⟩, ⟨g4, 50, [.raw (.slice none 0 0), .raw (.slice none 0 0)], 2⟩, ⟨g2, 50, [slC w0 (tabC n P), AV.sl w0 1 ((tab n f).map (AV.f .f32))], 2⟩]) Q' := fun u1 u2 a' ca' b' cb' h1 h2 => by
        refine gp_step [12] (by rw [ho]; decide +kernel) fun f hf => ?_
        obtain rfl : f = 12 := by simpa using hf
        refine sp_op q12 (by rw [ho]; decide +kernel) rfl (zcd rfl) rfl (cont_set rfl rfl ?_)
        exact si u1 u2 a' ca' b' cb' h1 h2
      have sg : ∀ (u1 u2 a' ca' b' cb' : Nat), 0 + 1 ≤ ca' ∧ ca' ≤ maxLen → 0 + 1 ≤ cb' ∧ cb' ≤ maxLen → GP Try.prog 56 o [0, 1, 2, 5, 6, 7, 10] (St w0 [] [⟨g5, 50, [.raw (.slice none 0 0), .raw (.slice none 0 0)], 2⟩]) [9, 8, 4, 3] [(51, .raw (.slice (some ⟨b', 0, none⟩) (0 + 1) cb')), (46, .raw (.slice (some ⟨a', 0, none⟩) (0 + 1) ca')), (52, .raw (.pointer (some ⟨g5, 0 + 0, none⟩))), (49, .f .f32 (f' ((0 : Nat) : Int))), (48, .raw (.slice none 0 0)), (47, .raw (.pointer (some ⟨g5, 0 + 1, none⟩))), (44, cA (P' 0)), (43, .raw (.slice none 0 0)), (42, .raw (.pointer (some ⟨g5, 0 + 0, none⟩))), (7, cA (P' 0)), (8, .f .f32 (f' ((0 : Nat) : Int))), (1, .f .f32 t), (2, .raw (.pointer (some ⟨g2, 0, none⟩))), (4, .raw (.pointer (some ⟨g4, 0, none⟩))), (5, .raw (.pointer (some ⟨g5, 0, none⟩))), (11, .raw (.int .i64 ((n : Int) - 1))), (12, .raw (.int .i64 ((0 : Nat) : Int)))] (St w0 [] [entF b' 29 (0 + 1) f' cb', entC a' (0 + 1) P' ca', ⟨u1, 31, [cA (P' 0)], 1⟩, ⟨u2, 29, [.f .f32 (f' ((0 : Nat) : Int))], 1⟩, ⟨g5, 50, [.raw (.slice none 0 0), .raw (.slice none 0 0)], 2⟩, ⟨g4, 50, [.raw (.slice none 0 0), .raw (.slice none 0 0)], 2⟩, ⟨g2, 50, [slC w0 (tabC n P), AV.sl w0 1 ((tab n f).map (AV.f .f32))], 2⟩]) Q' := fun u1 u2 a' ca' b' cb' h1 h2 => by
        refine gp_step [11] (by rw [ho]; decide +kernel) fun f hf => ?_
        obtain rfl : f = 11 := by simpa using hf
        refine sp_eff q11 (by rw [ho]; decide +kernel) (effj_storeX 4 rfl rfl rfl rfl rfl rfl) (cont_set (by rw [ho]; decide +kernel) rfl ?_)
        exact sh u1 u2 a' ca' b' cb' h1 h2
      have sf : ∀ (u1 u2 a' ca' : Nat), 0 + 1 ≤ ca' ∧ ca' ≤ maxLen → GP Try.prog 56 o [0, 1, 2, 5, 6, 7, 10] (St w0 [] [⟨g5, 50, [.raw (.slice none 0 0), .raw (.slice none 0 0)], 2⟩]) [8, 4, 3] [(50, .raw (.slice (some ⟨u2, 0, none⟩) (1) 1)), (46, .raw (.slice (some ⟨a', 0, none⟩) (0 + 1) ca')), (45, .raw (.slice (some ⟨u1, 0, none⟩) (1) 1)), (52, .raw (.pointer (some ⟨g5, 0 + 0, none⟩))), (49, .f .f32 (f' ((0 : Nat) : Int))), (48, .raw (.slice none 0 0)), (47, .raw (.pointer (some ⟨g5, 0 + 1, none⟩))), (44, cA (P' 0)), (43, .raw (.slice none 0 0)), (42, .raw (.pointer (some ⟨g5, 0 + 0, none⟩))), (7, cA (P' 0)), (8, .f .f32 (f' ((0 : Nat) : Int))), (1, .f .f32 t), (2, .raw (.pointer (some ⟨g2, 0, none⟩))), (4, .raw (.pointer (some ⟨g4, 0, none⟩))), (5, .raw (.pointer (some ⟨g5, 0, none⟩))), (11, .raw (.int .i64 ((n : Int) - 1))), (12, .raw (.int .i64 ((0 : Nat) : Int)))] (St w0 [] [entC a' (0 + 1) P' ca', ⟨u1, 31, [cA (P' 0)], 1⟩, ⟨u2, 29, [.f .f32 (f' ((0 : Nat) : Int))], 1⟩, ⟨g5, 50, [.raw (.slice none 0 0), .raw (.slice none 0 0)], 2⟩, ⟨g4, 50, [.raw (.slice none 0 0), .raw (.slice none 0 0)], 2⟩, ⟨g2, 50, [slC w0 (tabC n P), AV.sl w0 1 ((tab n f).map (AV.f .f32))], 2⟩]) Q' := fun u1 u2 a' ca' h1 => by
        refine gp_step [9] (by rw [ho]; decide +kernel) fun f hf => ?_
        obtain rfl : f = 9 := by simpa using hf
        refine sp_appendNil (sz := 1) (m := 1) (ys := [.f .f32 (f' ((0 : Nat) : Int))]) q9 (by rw [ho]; decide +kernel) rfl (by omega) rfl ⟨_, rfl, fun w v hS hr => rd_ownM hS hr (mt (mt (mh))) rfl ⟨Nat.le_refl _, by simp only [maxLen]; decide⟩⟩ rfl (by omega) rfl (by simp only [maxLen]; decide) (by decide) rfl fun gn cn k1 k2 => ?_
        rw [entF_one0]
        exact cont_go (fun _ h => h.weak (.cons _ (.cons _ (.cons _ (.cons _ (.cons_cons _ (List.nil_sublist _))))))) (gp_to (sg u1 u2 a' ca' gn cn h1 ⟨k1, k2⟩) rfl (by (repeat (first | exact Env.sub_nil _ | refine Env.sub_cons rfl ?_))) (by rw [hso]; exact ⟨rfl, rfl, rfl, rfl, rfl, rfl, rfl, rfl, rfl, rfl, rfl, rfl, rfl, rfl, trivial⟩) rfl (fun _ h => h) (fun _ h => h.weak (.cons _ (.cons _ (.cons _ (.cons _ (.cons_cons _ (List.nil_sublist _))))))))
      have se : ∀ (u1 a' ca' : Nat), 0 + 1 ≤ ca' ∧ ca' ≤ maxLen → GP Try.prog 56 o [0, 1, 2, 5, 6, 7, 10] (St w0 [] [⟨g5, 50, [.raw (.slice none 0 0), .raw (.slice none 0 0)], 2⟩]) [4, 3] [(46, .raw (.slice (some ⟨a', 0, none⟩) (0 + 1) ca')), (45, .raw (.slice (some ⟨u1, 0, none⟩) (1) 1)), (52, .raw (.pointer (some ⟨g5, 0 + 0, none⟩))), (49, .f .f32 (f' ((0 : Nat) : Int))), (48, .raw (.slice none 0 0)), (47, .raw (.pointer (some ⟨g5, 0 + 1, none⟩))), (44, cA (P' 0)), (43, .raw (.slice none 0 0)), (42, .raw (.pointer (some ⟨g5, 0 + 0, none⟩))), (7, cA (P' 0)), (8, .f .f32 (f' ((0 : Nat) : Int))), (1, .f .f32 t), (2, .raw (.pointer (some ⟨g2, 0, none⟩))), (4, .raw (.pointer (some ⟨g4, 0, none⟩))), (5, .raw (.pointer (some ⟨g5, 0, none⟩))), (11, .raw (.int .i64 ((n : Int) - 1))), (12, .raw (.int .i64 ((0 : Nat) : Int)))] (St w0 [] [entC a' (0 + 1) P' ca', ⟨u1, 31, [cA (P' 0)], 1⟩, ⟨g5, 50, [.raw (.slice none 0 0), .raw (.slice none 0 0)], 2⟩, ⟨g4, 50, [.raw (.slice none 0 0), .raw (.slice none 0 0)], 2⟩, ⟨g2, 50, [slC w0 (tabC n P), AV.sl w0 1 ((tab n f).map (AV.f .f32))], 2⟩]) Q' := fun u1 a' ca' h1 => by
        refine gp_step [8] (by rw [ho]; decide +kernel) fun f hf => ?_
        obtain rfl : f = 8 := by simpa using hf
        refine sp_lit q8 (by rw [ho]; decide +kernel) rfl rfl rfl rfl rfl rfl fun u2 => ?_
        exact cont_go (fun _ h => h.weak (.cons _ (.cons _ (.cons _ (.cons_cons _ (List.nil_sublist _)))))) (gp_to (sf u1 u2 a' ca' h1) rfl (by (repeat (first | exact Env.sub_nil _ | refine Env.sub_cons rfl ?_))) (by rw [hso]; exact ⟨rfl, rfl, rfl, rfl, rfl, rfl, rfl, rfl, rfl, rfl, rfl, rfl, rfl, rfl, trivial⟩) rfl (fun _ h => h.rot3.rot3) (fun _ h => h.weak (.cons _ (.cons _ (.cons _ (.cons_cons _ (List.nil_sublist _)))))))
      have sd : ∀ (u1 u2 : Nat), GP Try.prog 56 o [0, 1, 2, 5, 6, 7, 10] (St w0 [] [⟨g5, 50, [.raw (.slice none 0 0), .raw (.slice none 0 0)], 2⟩]) [8, 3] [(50, .raw (.slice (some ⟨u2, 0, none⟩) (1) 1)), (45, .raw (.slice (some ⟨u1, 0, none⟩) (1) 1)), (52, .raw (.pointer (some ⟨g5, 0 + 0, none⟩))), (49, .f .f32 (f' ((0 : Nat) : Int))), (48, .raw (.slice none 0 0)), (47, .raw (.pointer (some ⟨g5, 0 + 1, none⟩))), (44, cA (P' 0)), (43, .raw (.slice none 0 0)), (42, .raw (.pointer (some ⟨g5, 0 + 0, none⟩))), (7, cA (P' 0)), (8, .f .f32 (f' ((0 : Nat) : Int))), (1, .f .f32 t), (2, .raw (.pointer (some ⟨g2, 0, none⟩))), (4, .raw (.pointer (some ⟨g4, 0, none⟩))), (5, .raw (.pointer (some ⟨g5, 0, none⟩))), (11, .raw (.int .i64 ((n : Int) - 1))), (12, .raw (.int .i64 ((0 : Nat) : Int)))] (St w0 [] [⟨u1, 31, [cA (P' 0)], 1⟩, ⟨u2, 29, [.f .f32 (f' ((0 : Nat) : Int))], 1⟩, ⟨g5, 50, [.raw (.slice none 0 0), .raw (.slice none 0 0)], 2⟩, ⟨g4, 50, [.raw (.slice none 0 0), .raw (.slice none 0 0)], 2⟩, ⟨g2, 50, [slC w0 (tabC n P), AV.sl w0 1 ((tab n f).map (AV.f .f32))], 2⟩]) Q' := fun u1 u2 => by
        refine gp_step [4] (by rw [ho]; decide +kernel) fun f hf => ?_
        obtain rfl : f = 4 := by simpa using hf
        refine sp_appendNil (sz := 1) (m := 1) (ys := [cA (P' 0)]) q4 (by rw [ho]; decide +kernel) rfl (by omega) rfl ⟨_, rfl, fun w v hS hr => rd_ownM hS hr (mh) rfl ⟨Nat.le_refl _, by simp only [maxLen]; decide⟩⟩ rfl (by omega) rfl (by simp only [maxLen]; decide) (by decide) rfl fun gn cn k1 k2 => ?_
        rw [entC_one]
        exact cont_go (fun _ h => h.weak (.cons _ (.cons _ (.cons _ (.cons_cons _ (List.nil_sublist _)))))) (gp_to (sf u1 u2 gn cn ⟨k1, k2⟩) rfl (by (repeat (first | exact Env.sub_nil _ | refine Env.sub_cons rfl ?_))) (by rw [hso]; exact ⟨rfl, rfl, rfl, rfl, rfl, rfl, rfl, rfl, rfl, rfl, rfl, rfl, rfl, rfl, trivial⟩) rfl (fun _ h => h) (fun _ h => h.weak (.cons _ (.cons _ (.cons _ (.cons_cons _ (List.nil_sublist _)))))))
      have sc : ∀ (u2 : Nat), GP Try.prog 56 o [0, 1, 2, 5, 6, 7, 10] (St w0 [] [⟨g5, 50, [.raw (.slice none 0 0), .raw (.slice none 0 0)], 2⟩]) [8] [(50, .raw (.slice (some ⟨u2, 0, none⟩) (1) 1)), (52, .raw (.pointer (some ⟨g5, 0 + 0, none⟩))), (49, .f .f32 (f' ((0 : Nat) : Int))), (48, .raw (.slice none 0 0)), (47, .raw (.pointer (some ⟨g5, 0 + 1, none⟩))), (44, cA (P' 0)), (43, .raw (.slice none 0 0)), (42, .raw (.pointer (some ⟨g5, 0 + 0, none⟩))), (7, cA (P' 0)), (8, .f .f32 (f' ((0 : Nat) : Int))), (1, .f .f32 t), (2, .raw (.pointer (some ⟨g2, 0, none⟩))), (4, .raw (.pointer (some ⟨g4, 0, none⟩))), (5, .raw (.pointer (some ⟨g5, 0, none⟩))), (11, .raw (.int .i64 ((n : Int) - 1))), (12, .raw (.int .i64 ((0 : Nat) : Int)))] (St w0 [] [⟨u2, 29, [.f .f32 (f' ((0 : Nat) : Int))], 1⟩, ⟨g5, 50, [.raw (.slice none 0 0), .raw (.slice none 0 0)], 2⟩, ⟨g4, 50, [.raw (.slice none 0 0), .raw (.slice none 0 0)], 2⟩, ⟨g2, 50, [slC w0 (tabC n P), AV.sl w0 1 ((tab n f).map (AV.f .f32))], 2⟩]) Q' := fun u2 => by
        refine gp_step [3] (by rw [ho]; decide +kernel) fun f hf => ?_
        obtain rfl : f = 3 := by simpa using hf
        refine sp_lit q3 (by rw [ho]; decide +kernel) rfl rfl rfl rfl rfl rfl fun u1 => ?_
        exact cont_go (fun _ h => h.weak (.cons _ (.cons _ (.cons_cons _ (List.nil_sublist _))))) (gp_to (sd u1 u2) rfl (by (repeat (first | exact Env.sub_nil _ | refine Env.sub_cons rfl ?_))) (by rw [hso]; exact ⟨rfl, rfl, rfl, rfl, rfl, rfl, rfl, rfl, rfl, rfl, rfl, rfl, rfl, rfl, trivial⟩) rfl (fun _ h => h) (fun _ h => h.weak (.cons _ (.cons _ (.cons_cons _ (List.nil_sublist _))))))
      have sb : ∀ (u1 : Nat), GP Try.prog 56 o [0, 1, 2, 5, 6, 7, 10] (St w0 [] [⟨g5, 50, [.raw (.slice none 0 0), .raw (.slice none 0 0)], 2⟩]) [3] [(45, .raw (.slice (some ⟨u1, 0, none⟩) (1) 1)), (52, .raw (.pointer (some ⟨g5, 0 + 0, none⟩))), (49, .f .f32 (f' ((0 : Nat) : Int))), (48, .raw (.slice none 0 0)), (47, .raw (.pointer (some ⟨g5, 0 + 1, none⟩))), (44, cA (P' 0)), (43, .raw (.slice none 0 0)), (42, .raw (.pointer (some ⟨g5, 0 + 0, none⟩))), (7, cA (P' 0)), (8, .f .f32 (f' ((0 : Nat) : Int))), (1, .f .f32 t), (2, .raw (.pointer (some ⟨g2, 0, none⟩))), (4, .raw (.pointer (some ⟨g4, 0, none⟩))), (5, .raw (.pointer (some ⟨g5, 0, none⟩))), (11, .raw (.int .i64 ((n : Int) - 1))), (12, .raw (.int .i64 ((0 : Nat) : Int)))] (St w0 [] [⟨u1, 31, [cA (P' 0)], 1⟩, ⟨g5, 50, [.raw (.slice none 0 0), .raw (.slice none 0 0)], 2⟩, ⟨g4, 50, [.raw (.slice none 0 0), .raw (.slice none 0 0)], 2⟩, ⟨g2, 50, [slC w0 (tabC n P), AV.sl w0 1 ((tab n f).map (AV.f .f32))], 2⟩]) Q' := fun u1 => by
        refine gp_step [4, 8] (by rw [ho]; decide +kernel) fun f hf => ?_
        have hf : f = 4 ∨ f = 8 := by simpa using hf
        rcases hf with rfl | rfl
        · refine sp_appendNil (sz := 1) (m := 1) (ys := [cA (P' 0)]) q4 (by rw [ho]; decide +kernel) rfl (by omega) rfl ⟨_, rfl, fun w v hS hr => rd_ownM hS hr (mh) rfl ⟨Nat.le_refl _, by simp only [maxLen]; decide⟩⟩ rfl (by omega) rfl (by simp only [maxLen]; decide) (by decide) rfl fun gn cn k1 k2 => ?_
          rw [entC_one]
          exact cont_go (fun _ h => h.weak (.cons _ (.cons _ (.cons_cons _ (List.nil_sublist _))))) (gp_to (se u1 gn cn ⟨k1, k2⟩) rfl (by (repeat (first | exact Env.sub_nil _ | refine Env.sub_cons rfl ?_))) (by rw [hso]; exact ⟨rfl, rfl, rfl, rfl, rfl, rfl, rfl, rfl, rfl, rfl, rfl, rfl, rfl, rfl, trivial⟩) rfl (fun _ h => h) (fun _ h => h.weak (.cons _ (.cons _ (.cons_cons _ (List.nil_sublist _))))))
        · refine sp_lit q8 (by rw [ho]; decide +kernel) rfl rfl rfl rfl rfl rfl fun u2 => ?_
          exact cont_go (fun _ h => h.weak (.cons _ (.cons _ (.cons_cons _ (List.nil_sublist _))))) (gp_to (sd u1 u2) rfl (by (repeat (first | exact Env.sub_nil _ | refine Env.sub_cons rfl ?_))) (by rw [hso]; exact ⟨rfl, rfl, rfl, rfl, rfl, rfl, rfl, rfl, rfl, rfl, rfl, rfl, rfl, rfl, trivial⟩) rfl (fun _ h => h.swap) (fun _ h => h.weak (.cons _ (.cons _ (.cons_cons _ (List.nil_sublist _))))))
      have sa : GP Try.prog 56 o [0, 1, 2, 5, 6, 7, 10] (St w0 [] [⟨g5, 50, [.raw (.slice none 0 0), .raw (.slice none 0 0)], 2⟩]) [] [(52, .raw (.pointer (some ⟨g5, 0 + 0, none⟩))), (49, .f .f32 (f' ((0 : Nat) : Int))), (48, .raw (.slice none 0 0)), (47, .raw (.pointer (some ⟨g5, 0 + 1, none⟩))), (44, cA (P' 0)), (43, .raw (.slice none 0 0)), (42, .raw (.pointer (some ⟨g5, 0 + 0, none⟩))), (7, cA (P' 0)), (8, .f .f32 (f' ((0 : Nat) : Int))), (1, .f .f32 t), (2, .raw (.pointer (some ⟨g2, 0, none⟩))), (4, .raw (.pointer (some ⟨g4, 0, none⟩))), (5, .raw (.pointer (some ⟨g5, 0, none⟩))), (11, .raw (.int .i64 ((n : Int) - 1))), (12, .raw (.int .i64 ((0 : Nat) : Int)))] (St w0 [] [⟨g5, 50, [.raw (.slice none 0 0), .raw (.slice none 0 0)], 2⟩, ⟨g4, 50, [.raw (.slice none 0 0), .raw (.slice none 0 0)], 2⟩, ⟨g2, 50, [slC w0 (tabC n P), AV.sl w0 1 ((tab n f).map (AV.f .f32))], 2⟩]) Q' := by
        refine gp_step [3, 8] (by rw [ho]; decide +kernel) fun f hf => ?_
        have hf : f = 3 ∨ f = 8 := by simpa using hf
        rcases hf with rfl | rfl
        · refine sp_lit q3 (by rw [ho]; decide +kernel) rfl rfl rfl rfl rfl rfl fun u1 => ?_
          exact cont_go (fun _ h => h.weak (.cons _ (.cons_cons _ (List.nil_sublist _)))) (gp_to (sb u1) rfl (by (repeat (first | exact Env.sub_nil _ | refine Env.sub_cons rfl ?_))) (by rw [hso]; exact ⟨rfl, rfl, rfl, rfl, rfl, rfl, rfl, rfl, rfl, rfl, rfl, rfl, rfl, rfl, trivial⟩) rfl (fun _ h => h) (fun _ h => h.weak (.cons _ (.cons_cons _ (List.nil_sublist _)))))
        · refine sp_lit q8 (by rw [ho]; decide +kernel) rfl rfl rfl rfl rfl rfl fun u2 => ?_
          exact cont_go (fun _ h => h.weak (.cons _ (.cons_cons _ (List.nil_sublist _)))) (gp_to (sc u2) rfl (by (repeat (first | exact Env.sub_nil _ | refine Env.sub_cons rfl ?_))) (by rw [hso]; exact ⟨rfl, rfl, rfl, rfl, rfl, rfl, rfl, rfl, rfl, rfl, rfl, rfl, rfl, rfl, trivial⟩) rfl (fun _ h => h) (fun _ h => h.weak (.cons _ (.cons_cons _ (List.nil_sublist _)))))
      exact gp_to sa rfl (by (repeat (first | exact Env.sub_nil _ | refine Env.sub_cons rfl ?_))) (by rw [hso]; exact ⟨rfl, rfl, rfl, rfl, rfl, rfl, rfl, rfl, rfl, rfl, rfl, rfl, rfl, rfl, trivial⟩) rfl (fun _ h => h) (fun _ h => h.weak (.cons_cons _ (List.nil_sublist _)))
    obtain ⟨⟨⟨a', b'⟩, ca', cb'⟩, u1, u2⟩ := y
    obtain ⟨h1, h2⟩ := hy
    dsimp only at h1 h2 ⊢
    repeat first | refine zaa rfl (zay rfl) ?_ | (refine zac ?_; refine zaa rfl (zbb rfl rfl (by omega)) ?_) | refine zah ?_ | (refine zcr ?_; first | refine zcs ?_ | refine zcv ?_) | (refine zdb ?_; refine zdd ?_)
    refine done_round (0 + 1, (a', b'), ca', cb') ⟨by simp only; omega, h1, h2⟩ (by simp only; omega) ?_ (fun w h => ?_)
    · simp only
      (repeat (first | exact Env.sub_nil _ | refine Env.sub_cons rfl ?_))
    · exact ((h.weak (.cons_cons _ (.cons_cons _ (.cons _ (.cons _ (List.Sublist.refl _)))))).swap).perm (List.perm_append_comm (l₁ := [_, _, _]) (l₂ := [_, _]))
  | succ j =>
    unfold nextWd
    dsimp only
    repeat first | (refine zac ?_; refine zaa rfl (zbe rfl rfl) ?_) | refine zah ?_ | (refine zcr ?_; refine zcs ?_) | (refine zdb ?_; first | refine zdc ?_ | refine zdd ?_)
    refine ws_cond rfl (fun hd => ?_) (fun hd => ?_)
    case' refine_2 =>
      have hjn : n - 1 = j + 1 := by have := of_decide_eq_false hd; omega
      rw [hjn]
      repeat first | (refine zae ?_; refine zaa rfl (zcg rfl rfl (by (repeat (first | exact mh | refine mt ?_)); done) rfl rfl) ?_) | refine zah ?_ | (refine zcr ?_; first | refine zcs ?_ | refine zcu ?_ | refine zcx ?_ | refine zda ?_) | (refine zdb ?_; first | refine zdc ?_ | refine zdd ?_ | refine zdg ?_ | refine zdh ?_) | (refine zag ?_; refine zan 1 rfl rfl rfl rfl rfl rfl rfl rfl rfl ?_)
      exact done_retX rfl rfl ((a, b), ca, cb) rfl (mt mh) rfl rfl rfl ⟨hc1, hc2⟩ (.cons _ (.cons _ (.cons _ (List.Sublist.refl _))))
    have hlt : ((j + 1 : Nat) : Int) < (n : Int) - 1 := of_decide_eq_true hd
    clear hd
    repeat first | refine zaa rfl (zay rfl) ?_ | refine zaa rfl (zaz rfl) ?_ | refine zah ?_ | (refine zcr ?_; refine zcs ?_) | (refine zdb ?_; first | refine zdc ?_ | refine zdd ?_ | refine zde ?_ | refine zdf ?_)
    refine ws_draw (n := 29) mixed (by decide +kernel) ?_
    repeat first | refine zap rfl (zay rfl) ?_ | refine zap rfl (zaz rfl) ?_ | (refine zar ?_; refine zap rfl (zbb rfl rfl (by omega)) ?_) | (refine zas ?_; (refine zap rfl (zci rfl rfl (hBi) ?_) ?_; (focus ((repeat (first | exact Takes.nil | refine Takes.sl ?_ | refine Takes.lit ?_ | refine Takes.fa ?_ | refine Takes.fc ?_ | refine Takes.net ?_ | (refine Takes.ownE ?_ ?_ ?_ ?_ ?_; (focus (exact ⟨_, _, (by (repeat (first | exact mh | refine mt ?_)); done)⟩)); (focus (simp; done)); (focus omega); (focus (simp only [maxLen]; omega))) | refine Takes.same ?_)); done)))) | (refine zat ?_; first | refine zap rfl (zcf rfl rfl (by (repeat (first | exact mh | refine mt ?_)); done) rfl) ?_ | refine zap rfl (zbu rfl rfl) ?_) | (refine zau ?_; first | refine zap rfl (opj_indexC rfl rfl (by omega) (by omega)) ?_ | refine zap rfl (zbs rfl rfl (by omega) (by omega)) ?_) | refine zap rfl (zcd rfl) ?_ | refine zap rfl (zbz rfl rfl) ?_ | refine zav ?_
    repeat first | refine zah ?_ | (refine zcr ?_; refine zcs ?_)
    refine ws_K2 (Y := ((Nat × Nat) × Nat × Nat) × Nat × Nat) (E := fun ⟨⟨⟨a', b'⟩, ca', cb'⟩, _, _⟩ => [(53, .raw (.pointer (some ⟨g5, 0 + 1, none⟩))), (51, .raw (.slice (some ⟨b', 0, none⟩) (j + 1 + 1) cb')), (46, .raw (.slice (some ⟨a', 0, none⟩) (j + 1 + 1) ca')), (52, .raw (.pointer (some ⟨g5, 0 + 0, none⟩))), (49, .f .f32 (f' ((j + 1 : Nat) : Int))), (48, .raw (.slice (some ⟨b, 0, none⟩) (j + 1) cb)), (47, .raw (.pointer (some ⟨g5, 0 + 1, none⟩))), (44, cA (P' (j + 1))), (43, .raw (.slice (some ⟨a, 0, none⟩) (j + 1) ca)), (42, .raw (.pointer (some ⟨g5, 0 + 0, none⟩))), (7, cA (P' (j + 1))), (8, .f .f32 (f' ((j + 1 : Nat) : Int))), (1, .f .f32 t), (2, .raw (.pointer (some ⟨g2, 0, none⟩))), (4, .raw (.pointer (some ⟨g4, 0, none⟩))), (5, .raw (.pointer (some ⟨g5, 0, none⟩))), (11, .raw (.int .i64 ((n : Int) - 1))), (12, .raw (.int .i64 ((j + 1 : Nat) : Int)))])
      (SS := fun ⟨⟨⟨a', b'⟩, ca', cb'⟩, u1, u2⟩ => St w0 [] [⟨u1, 31, [cA (P' (j + 1))], 1⟩, ⟨u2, 29, [.f .f32 (f' ((j + 1 : Nat) : Int))], 1⟩, ⟨g5, 50, [.raw (.slice (some ⟨a', 0, none⟩) (j + 1 + 1) ca'), .raw (.slice (some ⟨b', 0, none⟩) (j + 1 + 1) cb')], 2⟩, ⟨g4, 50, [.raw (.slice none 0 0), .raw (.slice none 0 0)], 2⟩, ⟨g2, 50, [slC w0 (tabC n P), AV.sl w0 1 ((tab n f).map (AV.f .f32))], 2⟩, entC a' (j + 1 + 1) P' ca', entF b' 29 (j + 1 + 1) f' cb']) (ok := fun y => (j + 1 + 1 ≤ y.1.2.1 ∧ y.1.2.1 ≤ maxLen) ∧ j + 1 + 1 ≤ y.1.2.2 ∧ y.1.2.2 ≤ maxLen) (fun hD0 => ?_) (fun y hy => ?_)
    · have hD := fun a' ca' b' cb' u1 u2 h1 h2 => hD0 (((a', b'), ca', cb'), u1, u2) ⟨h1, h2⟩
      refine ws_drawP (ix := [0, 1, 2, 5, 6, 7, 10]) (W := St w0 [] [⟨g5, 50, [.raw (.slice (some ⟨a, 0, none⟩) (j + 1) ca), .raw (.slice (some ⟨b, 0, none⟩) (j + 1) cb)], 2⟩]) mixed (by decide +kernel) (fun _ h => h.weak (.cons_cons _ (List.nil_sublist _))) ?_
      repeat first | refine zap rfl (zay rfl) ?_ | (refine zat ?_; refine zap rfl (zcf rfl rfl (by (repeat (first | exact mh | refine mt ?_)); done) rfl) ?_) | refine zap rfl (zcd rfl) ?_ | refine zav ?_
      refine ⟨rfl, ?_⟩
      refine gp_name fun o ho Q' hQ => ?_
      have hso : slotsOf o [0, 1, 2, 5, 6, 7, 10] = [42, 5, 43, 42, 44, 7, 47, 5, 48, 47, 49, 8, 52, 5] := by rw [ho]; decide +kernel
      have q3 := op_at (i := 3) ho rfl
      have q4 := op_at (i := 4) ho rfl
      have q8 := op_at (i := 8) ho rfl
      have q9 := op_at (i := 9) ho rfl
      have q11 := op_at (i := 11) ho rfl
      have q12 := op_at (i := 12) ho rfl
      have q13 := op_at (i := 13) ho rfl
      have sj : ∀ (u1 u2 a' ca' b' cb' : Nat), j + 1 + 1 ≤ ca' ∧ ca' ≤ maxLen → j + 1 + 1 ≤ cb' ∧ cb' ≤ maxLen → GP Try.prog 56 o [] (fun _ => True) [13, 12, 11, 0, 1, 2, 5, 6, 7, 10, 9, 8, 4, 3] [(53, .raw (.pointer (some ⟨g5, 0 + 1, none⟩))), (51, .raw (.slice (some ⟨b', 0, none⟩) (j + 1 + 1) cb')), (46, .raw (.slice (some ⟨a', 0, none⟩) (j + 1 + 1) ca')), (52, .raw (.pointer (some ⟨g5, 0 + 0, none⟩))), (49, .f .f32 (f' ((j + 1 : Nat) : Int))), (48, .raw (.slice (some ⟨b, 0, none⟩) (j + 1) cb)), (47, .raw (.pointer (some ⟨g5, 0 + 1, none⟩))), (44, cA (P' (j + 1))), (43, .raw (.slice (some ⟨a, 0, none⟩) (j + 1) ca)), (42, .raw (.pointer (some ⟨g5, 0 + 0, none⟩))), (7, cA (P' (j + 1))), (8, .f .f32 (f' ((j + 1 : Nat) : Int))), (1, .f .f32 t), (2, .raw (.pointer (some ⟨g2, 0, none⟩))), (4, .raw (.pointer (some ⟨g4, 0, none⟩))), (5, .raw (.pointer (some ⟨g5, 0, none⟩))), (11, .raw (.int .i64 ((n : Int) - 1))), (12, .raw (.int .i64 ((j + 1 : Nat) : Int)))] (St w0 [] [⟨u1, 31, [cA (P' (j + 1))], 1⟩, ⟨u2, 29, [.f .f32 (f' ((j + 1 : Nat) : Int))], 1⟩, ⟨g5, 50, [.raw (.slice (some ⟨a', 0, none⟩) (j + 1 + 1) ca'), .raw (.slice (some ⟨b', 0, none⟩) (j + 1 + 1) cb')], 2⟩, ⟨g4, 50, [.raw (.slice none 0 0), .raw (.slice none 0 0)], 2⟩, ⟨g2, 50, [slC w0 (tabC n P), AV.sl w0 1 ((tab n f).map (AV.f .f32))], 2⟩, entC a' (j + 1 + 1) P' ca', entF b' 29 (j + 1 + 1) f' cb']) Q' := fun u1 u2 a' ca' b' cb' h1 h2 => gp_end (by rw [ho]; decide +kernel) (by rw [hQ]; exact hD a' ca' b' cb' u1 u2 h1 h2)
      have si : ∀ (u1 u2 a' ca' b' cb' : Nat), j + 1 + 1 ≤ ca' ∧ ca' ≤ maxLen → j + 1 + 1 ≤ cb' ∧ cb' ≤ maxLen → GP Try.prog 56 o [] (fun _ => True) [12, 11, 0, 1, 2, 5, 6, 7, 10, 9, 8, 4, 3] [(53, .raw (.pointer (some ⟨g5, 0 + 1, none⟩))), (51, .raw (.slice (some ⟨b', 0, none⟩) (j + 1 + 1) cb')), (46, .raw (.slice (some ⟨a', 0, none⟩) (j + 1 + 1) ca')), (52, .raw (.pointer (some ⟨g5, 0 + 0, none⟩))), (49, .f .f32 (f' ((j + 1 : Nat) : Int))), (48, .raw (.slice (some ⟨b, 0, none⟩) (j + 1) cb)), (47, .raw (.pointer (some ⟨g5, 0 + 1, none⟩))), (44, cA (P' (j + 1))), (43, .raw (.slice (some ⟨a, 0, none⟩) (j + 1) ca)), (42, .raw (.pointer (some ⟨g5, 0 + 0, none⟩))), (7, cA (P' (j + 1))), (8, .f .f32 (f' ((j + 1 : Nat) : Int))), (1, .f .f32 t), (2, .raw (.pointer (some ⟨g2, 0, none⟩))), (4, .raw (.pointer (some ⟨g4, 0, none⟩))), (5, .raw (.pointer (some ⟨g5, 0, none⟩))), (11, .raw (.int .i64 ((n : Int) - 1))), (12, .raw (.int .i64 ((j + 1 : Nat) : Int)))] (St w0 [] [⟨u1, 31, [cA (P' (j + 1))], 1⟩, ⟨u2, 29, [.f .f32 (f' ((j + 1 : Nat) : Int))], 1⟩, ⟨g5, 50, [.raw (.slice (some ⟨a', 0, none⟩) (j + 1 + 1) ca'), .raw (.slice (some ⟨b, 0, none⟩) (j + 1) cb)], 2⟩, ⟨g4, 50, [.raw (.slice none 0 0), .raw (.slice none 0 0)], 2⟩, ⟨g2, 50, [slC w0 (tabC n P), AV.sl w0 1 ((tab n f).map (AV.f .f32))], 2⟩, entC a' (j + 1 + 1) P' ca', entF b' 29 (j + 1 + 1) f' cb']) Q' := fun u1 u2 a' ca' b' cb' h1 h2 => by
        refine gp_step [13] (by rw [ho]; decide +kernel) fun f hf => ?_
        obtain rfl : f = 13 := by simpa using hf
        refine sp_eff q13 (by rw [ho]; decide +kernel) (effj_storeX 2 rfl rfl rfl rfl rfl rfl) (cont_set rfl rfl ?_)
        exact sj u1 u2 a' ca' b' cb' h1 h2
      have sh : ∀ (u1 u2 a' ca' b' cb' : Nat), j + 1 + 1 ≤ ca' ∧ ca' ≤ maxLen → j + 1 + 1 ≤ cb' ∧ cb' ≤ maxLen → GP Try.prog 56 o [] (fun _ => True) [11, 0, 1, 2, 5, 6, 7, 10, 9, 8, 4, 3] [(51, .raw (.slice (some ⟨b', 0, none⟩) (j + 1 + 1) cb')), (46, .raw (.slice (some ⟨a', 0, none⟩) (j + 1 + 1) ca')), (52, .raw (.pointer (some ⟨g5, 0 + 0, none⟩))), (49, .f .f32 (f' ((j + 1 : Nat) : Int))), (48, .raw (.slice (some ⟨b, 0, none⟩) (j + 1) cb)), (47, .raw (.pointer (some ⟨g5, 0 + 1, none⟩))), (44, cA (P' (j + 1))), (43, .raw (.slice (some ⟨a, 0, none⟩) (j + 1) ca)), (42, .raw (.pointer (some ⟨g5, 0 + 0, none⟩))), (7, cA (P' (j + 1))), (8, .f .f32 (f' ((j + 1 : Nat) : Int))), (1, .f .f32 t), (2, .raw (.pointer (some ⟨g2, 0, none⟩))), (4, .raw (.pointer (some ⟨g4, 0, none⟩))), (5, .raw (.pointer (some ⟨g5, 0, none⟩))), (11, .raw (.int .i64 ((n : Int) - 1))), (12, .raw (.int .i64 ((j + 1 : Nat) : Int)))] (St w0 [] [⟨u1, 31, [cA (P' (j + 1))], 1⟩, ⟨u2, 29, [.f .f32 (f' ((j + 1 : Nat) : Int))], 1⟩, ⟨g5, 50, [.raw (.slice (some ⟨a', 0, none⟩) (j + 1 + 1) ca'), .raw (.slice (some ⟨b, 0, none⟩) (j + 1) cb)], 2⟩, ⟨g4, 50, [.raw (.slice none 0 0), .raw (.slice none 0 0)], 2⟩, ⟨g2, 50, [slC w0 (tabC n P), AV.sl w0 1 ((tab n f).map (AV.f .f32))], 2⟩, entC a' (j + 1 + 1) P' ca', entF b' 29 (j + 1 + 1) f' cb']) Q' := fun u1 u2 a' ca' b' cb' h1 h2 => by
        refine gp_step [12] (by rw [ho]; decide +kernel) fun f hf => ?_
        obtain rfl : f = 12 := by simpa using hf
        refine sp_op q12 (by rw [ho]; decide +kernel) rfl (zcd rfl) rfl (cont_set rfl rfl ?_)
        exact si u1 u2 a' ca' b' cb' h1 h2
      have sg : ∀ (u1 u2 a' ca' b' cb' : Nat), j + 1 + 1 ≤ ca' ∧ ca' ≤ maxLen → j + 1 + 1 ≤ cb' ∧ cb' ≤ maxLen → GP Try.prog 56 o [0, 1, 2, 5, 6, 7, 10] (St w0 [] [⟨g5, 50, [.raw (.slice (some ⟨a, 0, none⟩) (j + 1) ca), .raw (.slice (some ⟨b, 0, none⟩) (j + 1) cb)], 2⟩]) [9, 8, 4, 3] [(51, .raw (.slice (some ⟨b', 0, none⟩) (j + 1 + 1) cb')), (46, .raw (.slice (some ⟨a', 0, none⟩) (j + 1 + 1) ca')), (52, .raw (.pointer (some ⟨g5, 0 + 0, none⟩))), (49, .f .f32 (f' ((j + 1 : Nat) : Int))), (48, .raw (.slice (some ⟨b, 0, none⟩) (j + 1) cb)), (47, .raw (.pointer (some ⟨g5, 0 + 1, none⟩))), (44, cA (P' (j + 1))), (43, .raw (.slice (some ⟨a, 0, none⟩) (j + 1) ca)), (42, .raw (.pointer (some ⟨g5, 0 + 0, none⟩))), (7, cA (P' (j + 1))), (8, .f .f32 (f' ((j + 1 : Nat) : Int))), (1, .f .f32 t), (2, .raw (.pointer (some ⟨g2, 0, none⟩))), (4, .raw (.pointer (some ⟨g4, 0, none⟩))), (5, .raw (.pointer (some ⟨g5, 0, none⟩))), (11, .raw (.int .i64 ((n : Int) - 1))), (12, .raw (.int .i64 ((j + 1 : Nat) : Int)))] (St w0 [] [⟨u1, 31, [cA (P' (j + 1))], 1⟩, ⟨u2, 29, [.f .f32 (f' ((j + 1 : Nat) : Int))], 1⟩, ⟨g5, 50, [.raw (.slice (some ⟨a, 0, none⟩) (j + 1) ca), .raw (.slice (some ⟨b, 0, none⟩) (j + 1) cb)], 2⟩, ⟨g4, 50, [.raw (.slice none 0 0), .raw (.slice none 0 0)], 2⟩, ⟨g2, 50, [slC w0 (tabC n P), AV.sl w0 1 ((tab n f).map (AV.f .f32))], 2⟩, entC a' (j + 1 + 1) P' ca', entF b' 29 (j + 1 + 1) f' cb']) Q' := fun u1 u2 a' ca' b' cb' h1 h2 => by
        refine gp_step [11] (by rw [ho]; decide +kernel) fun f hf => ?_
        obtain rfl : f = 11 := by simpa using hf
        refine sp_eff q11 (by rw [ho]; decide +kernel) (effj_storeX 2 rfl rfl rfl rfl rfl rfl) (cont_set (by rw [ho]; decide +kernel) rfl ?_)
        exact sh u1 u2 a' ca' b' cb' h1 h2
      have sf : ∀ (u1 u2 a' ca' : Nat), j + 1 + 1 ≤ ca' ∧ ca' ≤ maxLen → GP Try.prog 56 o [0, 1, 2, 5, 6, 7, 10] (St w0 [] [⟨g5, 50, [.raw (.slice (some ⟨a, 0, none⟩) (j + 1) ca), .raw (.slice (some ⟨b, 0, none⟩) (j + 1) cb)], 2⟩]) [8, 4, 3] [(50, .raw (.slice (some ⟨u2, 0, none⟩) (1) 1)), (46, .raw (.slice (some ⟨a', 0, none⟩) (j + 1 + 1) ca')), (45, .raw (.slice (some ⟨u1, 0, none⟩) (1) 1)), (52, .raw (.pointer (some ⟨g5, 0 + 0, none⟩))), (49, .f .f32 (f' ((j + 1 : Nat) : Int))), (48, .raw (.slice (some ⟨b, 0, none⟩) (j + 1) cb)), (47, .raw (.pointer (some ⟨g5, 0 + 1, none⟩))), (44, cA (P' (j + 1))), (43, .raw (.slice (some ⟨a, 0, none⟩) (j + 1) ca)), (42, .raw (.pointer (some ⟨g5, 0 + 0, none⟩))), (7, cA (P' (j + 1))), (8, .f .f32 (f' ((j + 1 : Nat) : Int))), (1, .f .f32 t), (2, .raw (.pointer (some ⟨g2, 0, none⟩))), (4, .raw (.pointer (some ⟨g4, 0, none⟩))), (5, .raw (.pointer (some ⟨g5, 0, none⟩))), (11, .raw (.int .i64 ((n : Int) - 1))), (12, .raw (.int .i64 ((j + 1 : Nat) : Int)))] (St w0 [] [⟨u1, 31, [cA (P' (j + 1))], 1⟩, ⟨u2, 29, [.f .f32 (f' ((j + 1 : Nat) : Int))], 1⟩, ⟨g5, 50, [.raw (.slice (some ⟨a, 0, none⟩) (j + 1) ca), .raw (.slice (some ⟨b, 0, none⟩) (j + 1) cb)], 2⟩, ⟨g4, 50, [.raw (.slice none 0 0), .raw (.slice none 0 0)], 2⟩, ⟨g2, 50, [slC w0 (tabC n P), AV.sl w0 1 ((tab n f).map (AV.f .f32))], 2⟩, entC a' (j + 1 + 1) P' ca', entF b 29 (j + 1) f' cb]) Q' := fun u1 u2 a' ca' h1 => by
        refine gp_step [9] (by rw [ho]; decide +kernel) fun f hf => ?_
        obtain rfl : f = 9 := by simpa using hf
        refine sp_append 6 (sz := 1) (m := 1) (n := (j + 1)) (xs := (tab (j + 1) f').map (AV.f .f32)) (ys := [.f .f32 (f' ((j + 1 : Nat) : Int))]) q9 (by rw [ho]; decide +kernel) rfl (by omega) rfl ⟨_, rfl, fun w v hS hr => rd_ownM hS hr (mt (mh)) rfl ⟨Nat.le_refl _, by simp only [maxLen]; decide⟩⟩ (by rw [Nat.mul_one]; rfl) ⟨by simp, hc2.1, hc2.2⟩ rfl (by omega) rfl (by simp only [maxLen] at hc1 hc2 ⊢; omega) (by omega) rfl fun gn cn k1 k2 => ?_
        rw [entF_snoc]
        exact cont_go (fun _ h => h.weak (.cons _ (.cons _ (.cons_cons _ (List.nil_sublist _))))) (gp_to (sg u1 u2 a' ca' gn cn h1 ⟨k1, k2⟩) rfl (by (repeat (first | exact Env.sub_nil _ | refine Env.sub_cons rfl ?_))) (by rw [hso]; exact ⟨rfl, rfl, rfl, rfl, rfl, rfl, rfl, rfl, rfl, rfl, rfl, rfl, rfl, rfl, trivial⟩) rfl (fun _ h => h) (fun _ h => h.weak (.cons _ (.cons _ (.cons_cons _ (List.nil_sublist _))))))
      have se : ∀ (u1 a' ca' : Nat), j + 1 + 1 ≤ ca' ∧ ca' ≤ maxLen → GP Try.prog 56 o [0, 1, 2, 5, 6, 7, 10] (St w0 [] [⟨g5, 50, [.raw (.slice (some ⟨a, 0, none⟩) (j + 1) ca), .raw (.slice (some ⟨b, 0, none⟩) (j + 1) cb)], 2⟩]) [4, 3] [(46, .raw (.slice (some ⟨a', 0, none⟩) (j + 1 + 1) ca')), (45, .raw (.slice (some ⟨u1, 0, none⟩) (1) 1)), (52, .raw (.pointer (some ⟨g5, 0 + 0, none⟩))), (49, .f .f32 (f' ((j + 1 : Nat) : Int))), (48, .raw (.slice (some ⟨b, 0, none⟩) (j + 1) cb)), (47, .raw (.pointer (some ⟨g5, 0 + 1, none⟩))), (44, cA (P' (j + 1))), (43, .raw (.slice (some ⟨a, 0, none⟩) (j + 1) ca)), (42, .raw (.pointer (some ⟨g5, 0 + 0, none⟩))), (7, cA (P' (j + 1))), (8, .f .f32 (f' ((j + 1 : Nat) : Int))), (1, .f .f32 t), (2, .raw (.pointer (some ⟨g2, 0, none⟩))), (4, .raw (.pointer (some ⟨g4, 0, none⟩))), (5, .raw (.pointer (some ⟨g5, 0, none⟩))), (11, .raw (.int .i64 ((n : Int) - 1))), (12, .raw (.int .i64 ((j + 1 : Nat) : Int)))] (St w0 [] [⟨u1, 31, [cA (P' (j + 1))], 1⟩, ⟨g5, 50, [.raw (.slice (some ⟨a, 0, none⟩) (j + 1) ca), .raw (.slice (some ⟨b, 0, none⟩) (j + 1) cb)], 2⟩, ⟨g4, 50, [.raw (.slice none 0 0), .raw (.slice none 0 0)], 2⟩, ⟨g2, 50, [slC w0 (tabC n P), AV.sl w0 1 ((tab n f).map (AV.f .f32))], 2⟩, entC a' (j + 1 + 1) P' ca', entF b 29 (j + 1) f' cb]) Q' := fun u1 a' ca' h1 => by
        refine gp_step [8] (by rw [ho]; decide +kernel) fun f hf => ?_
        obtain rfl : f = 8 := by simpa using hf
        refine sp_lit q8 (by rw [ho]; decide +kernel) rfl rfl rfl rfl rfl rfl fun u2 => ?_
        exact cont_go (fun _ h => h.weak (.cons _ (.cons _ (.cons_cons _ (List.nil_sublist _))))) (gp_to (sf u1 u2 a' ca' h1) rfl (by (repeat (first | exact Env.sub_nil _ | refine Env.sub_cons rfl ?_))) (by rw [hso]; exact ⟨rfl, rfl, rfl, rfl, rfl, rfl, rfl, rfl, rfl, rfl, rfl, rfl, rfl, rfl, trivial⟩) rfl (fun _ h => h.swap) (fun _ h => h.weak (.cons _ (.cons _ (.cons_cons _ (List.nil_sublist _))))))
      have sd : ∀ (u1 u2 : Nat), GP Try.prog 56 o [0, 1, 2, 5, 6, 7, 10] (St w0 [] [⟨g5, 50, [.raw (.slice (some ⟨a, 0, none⟩) (j + 1) ca), .raw (.slice (some ⟨b, 0, none⟩) (j + 1) cb)], 2⟩]) [8, 3] [(50, .raw (.slice (some ⟨u2, 0, none⟩) (1) 1)), (45, .raw (.slice (some ⟨u1, 0, none⟩) (1) 1)), (52, .raw (.pointer (some ⟨g5, 0 + 0, none⟩))), (49, .f .f32 (f' ((j + 1 : Nat) : Int))), (48, .raw (.slice (some ⟨b, 0, none⟩) (j + 1) cb)), (47, .raw (.pointer (some ⟨g5, 0 + 1, none⟩))), (44, cA (P' (j + 1))), (43, .raw (.slice (some ⟨a, 0, none⟩) (j + 1) ca)), (42, .raw (.pointer (some ⟨g5, 0 + 0, none⟩))), (7, cA (P' (j + 1))), (8, .f .f32 (f' ((j + 1 : Nat) : Int))), (1, .f .f32 t), (2, .raw (.pointer (some ⟨g2, 0, none⟩))), (4, .raw (.pointer (some ⟨g4, 0, none⟩))), (5, .raw (.pointer (some ⟨g5, 0, none⟩))), (11, .raw (.int .i64 ((n : Int) - 1))), (12, .raw (.int .i64 ((j + 1 : Nat) : Int)))] (St w0 [] [⟨u1, 31, [cA (P' (j + 1))], 1⟩, ⟨u2, 29, [.f .f32 (f' ((j + 1 : Nat) : Int))], 1⟩, ⟨g5, 50, [.raw (.slice (some ⟨a, 0, none⟩) (j + 1) ca), .raw (.slice (some ⟨b, 0, none⟩) (j + 1) cb)], 2⟩, ⟨g4, 50, [.raw (.slice none 0 0), .raw (.slice none 0 0)], 2⟩, ⟨g2, 50, [slC w0 (tabC n P), AV.sl w0 1 ((tab n f).map (AV.f .f32))], 2⟩, entC a (j + 1) P' ca, entF b 29 (j + 1) f' cb]) Q' := fun u1 u2 => by
        refine gp_step [4] (by rw [ho]; decide +kernel) fun f hf => ?_
        obtain rfl : f = 4 := by simpa using hf
        refine sp_append 5 (sz := 1) (m := 1) (n := (j + 1)) (xs := (tabC (j + 1) P').map cA) (ys := [cA (P' (j + 1))]) q4 (by rw [ho]; decide +kernel) rfl (by omega) rfl ⟨_, rfl, fun w v hS hr => rd_ownM hS hr (mh) rfl ⟨Nat.le_refl _, by simp only [maxLen]; decide⟩⟩ (by rw [Nat.mul_one]; rfl) ⟨by simp, hc1.1, hc1.2⟩ rfl (by omega) rfl (by simp only [maxLen] at hc1 hc2 ⊢; omega) (by omega) rfl fun gn cn k1 k2 => ?_
        rw [entC_snoc]
        exact cont_go (fun _ h => h.weak (.cons _ (.cons _ (.cons_cons _ (List.nil_sublist _))))) (gp_to (sf u1 u2 gn cn ⟨k1, k2⟩) rfl (by (repeat (first | exact Env.sub_nil _ | refine Env.sub_cons rfl ?_))) (by rw [hso]; exact ⟨rfl, rfl, rfl, rfl, rfl, rfl, rfl, rfl, rfl, rfl, rfl, rfl, rfl, rfl, trivial⟩) rfl (fun _ h => h) (fun _ h => h.weak (.cons _ (.cons _ (.cons_cons _ (List.nil_sublist _))))))
      have sc : ∀ (u2 : Nat), GP Try.prog 56 o [0, 1, 2, 5, 6, 7, 10] (St w0 [] [⟨g5, 50, [.raw (.slice (some ⟨a, 0, none⟩) (j + 1) ca), .raw (.slice (some ⟨b, 0, none⟩) (j + 1) cb)], 2⟩]) [8] [(50, .raw (.slice (some ⟨u2, 0, none⟩) (1) 1)), (52, .raw (.pointer (some ⟨g5, 0 + 0, none⟩))), (49, .f .f32 (f' ((j + 1 : Nat) : Int))), (48, .raw (.slice (some ⟨b, 0, none⟩) (j + 1) cb)), (47, .raw (.pointer (some ⟨g5, 0 + 1, none⟩))), (44, cA (P' (j + 1))), (43, .raw (.slice (some ⟨a, 0, none⟩) (j + 1) ca)), (42, .raw (.pointer (some ⟨g5, 0 + 0, none⟩))), (7, cA (P' (j + 1))), (8, .f .f32 (f' ((j + 1 : Nat) : Int))), (1, .f .f32 t), (2, .raw (.pointer (some ⟨g2, 0, none⟩))), (4, .raw (.pointer (some ⟨g4, 0, none⟩))), (5, .raw (.pointer (some ⟨g5, 0, none⟩))), (11, .raw (.int .i64 ((n : Int) - 1))), (12, .raw (.int .i64 ((j + 1 : Nat) : Int)))] (St w0 [] [⟨u2, 29, [.f .f32 (f' ((j + 1 : Nat) : Int))], 1⟩, ⟨g5, 50, [.raw (.slice (some ⟨a, 0, none⟩) (j + 1) ca), .raw (.slice (some ⟨b, 0, none⟩) (j + 1) cb)], 2⟩, ⟨g4, 50, [.raw (.slice none 0 0), .raw (.slice none 0 0)], 2⟩, ⟨g2, 50, [slC w0 (tabC n P), AV.sl w0 1 ((tab n f).map (AV.f .f32))], 2⟩, entC a (j + 1) P' ca, entF b 29 (j + 1) f' cb]) Q' := fun u2 => by
        refine gp_step [3] (by rw [ho]; decide +kernel) fun f hf => ?_
        obtain rfl : f = 3 := by simpa using hf
        refine sp_lit q3 (by rw [ho]; decide +kernel) rfl rfl rfl rfl rfl rfl fun u1 => ?_
        exact cont_go (fun _ h => h.weak (.cons _ (.cons _ (.cons_cons _ (List.nil_sublist _))))) (gp_to (sd u1 u2) rfl (by (repeat (first | exact Env.sub_nil _ | refine Env.sub_cons rfl ?_))) (by rw [hso]; exact ⟨rfl, rfl, rfl, rfl, rfl, rfl, rfl, rfl, rfl, rfl, rfl, rfl, rfl, rfl, trivial⟩) rfl (fun _ h => h) (fun _ h => h.weak (.cons _ (.cons _ (.cons_cons _ (List.nil_sublist _))))))
      have sb : ∀ (u1 : Nat), GP Try.prog 56 o [0, 1, 2, 5, 6, 7, 10] (St w0 [] [⟨g5, 50, [.raw (.slice (some ⟨a, 0, none⟩) (j + 1) ca), .raw (.slice (some ⟨b, 0, none⟩) (j + 1) cb)], 2⟩]) [3] [(45, .raw (.slice (some ⟨u1, 0, none⟩) (1) 1)), (52, .raw (.pointer (some ⟨g5, 0 + 0, none⟩))), (49, .f .f32 (f' ((j + 1 : Nat) : Int))), (48, .raw (.slice (some ⟨b, 0, none⟩) (j + 1) cb)), (47, .raw (.pointer (some ⟨g5, 0 + 1, none⟩))), (44, cA (P' (j + 1))), (43, .raw (.slice (some ⟨a, 0, none⟩) (j + 1) ca)), (42, .raw (.pointer (some ⟨g5, 0 + 0, none⟩))), (7, cA (P' (j + 1))), (8, .f .f32 (f' ((j + 1 : Nat) : Int))), (1, .f .f32 t), (2, .raw (.pointer (some ⟨g2, 0, none⟩))), (4, .raw (.pointer (some ⟨g4, 0, none⟩))), (5, .raw (.pointer (some ⟨g5, 0, none⟩))), (11, .raw (.int .i64 ((n : Int) - 1))), (12, .raw (.int .i64 ((j + 1 : Nat) : Int)))] (St w0 [] [⟨u1, 31, [cA (P' (j + 1))], 1⟩, ⟨g5, 50, [.raw (.slice (some ⟨a, 0, none⟩) (j + 1) ca), .raw (.slice (some ⟨b, 0, none⟩) (j + 1) cb)], 2⟩, ⟨g4, 50, [.raw (.slice none 0 0), .raw (.slice none 0 0)], 2⟩, ⟨g2, 50, [slC w0 (tabC n P), AV.sl w0 1 ((tab n f).map (AV.f .f32))], 2⟩, entC a (j + 1) P' ca, entF b 29 (j + 1) f' cb]) Q' := fun u1 => by
        refine gp_step [4, 8] (by rw [ho]; decide +kernel) fun f hf => ?_
        have hf : f = 4 ∨ f = 8 := by simpa using hf
        rcases hf with rfl | rfl
        · refine sp_append 4 (sz := 1) (m := 1) (n := (j + 1)) (xs := (tabC (j + 1) P').map cA) (ys := [cA (P' (j + 1))]) q4 (by rw [ho]; decide +kernel) rfl (by omega) rfl ⟨_, rfl, fun w v hS hr => rd_ownM hS hr (mh) rfl ⟨Nat.le_refl _, by simp only [maxLen]; decide⟩⟩ (by rw [Nat.mul_one]; rfl) ⟨by simp, hc1.1, hc1.2⟩ rfl (by omega) rfl (by simp only [maxLen] at hc1 hc2 ⊢; omega) (by omega) rfl fun gn cn k1 k2 => ?_
          rw [entC_snoc]
          exact cont_go (fun _ h => h.weak (.cons _ (.cons_cons _ (List.nil_sublist _)))) (gp_to (se u1 gn cn ⟨k1, k2⟩) rfl (by (repeat (first | exact Env.sub_nil _ | refine Env.sub_cons rfl ?_))) (by rw [hso]; exact ⟨rfl, rfl, rfl, rfl, rfl, rfl, rfl, rfl, rfl, rfl, rfl, rfl, rfl, rfl, trivial⟩) rfl (fun _ h => h) (fun _ h => h.weak (.cons _ (.cons_cons _ (List.nil_sublist _)))))
        · refine sp_lit q8 (by rw [ho]; decide +kernel) rfl rfl rfl rfl rfl rfl fun u2 => ?_
          exact cont_go (fun _ h => h.weak (.cons _ (.cons _ (.cons_cons _ (List.nil_sublist _))))) (gp_to (sd u1 u2) rfl (by (repeat (first | exact Env.sub_nil _ | refine Env.sub_cons rfl ?_))) (by rw [hso]; exact ⟨rfl, rfl, rfl, rfl, rfl, rfl, rfl, rfl, rfl, rfl, rfl, rfl, rfl, rfl, trivial⟩) rfl (fun _ h => h.swap) (fun _ h => h.weak (.cons _ (.cons _ (.cons_cons _ (List.nil_sublist _))))))
      have sa : GP Try.prog 56 o [0, 1, 2, 5, 6, 7, 10] (St w0 [] [⟨g5, 50, [.raw (.slice (some ⟨a, 0, none⟩) (j + 1) ca), .raw (.slice (some ⟨b, 0, none⟩) (j + 1) cb)], 2⟩]) [] [(52, .raw (.pointer (some ⟨g5, 0 + 0, none⟩))), (49, .f .f32 (f' ((j + 1 : Nat) : Int))), (48, .raw (.slice (some ⟨b, 0, none⟩) (j + 1) cb)), (47, .raw (.pointer (some ⟨g5, 0 + 1, none⟩))), (44, cA (P' (j + 1))), (43, .raw (.slice (some ⟨a, 0, none⟩) (j + 1) ca)), (42, .raw (.pointer (some ⟨g5, 0 + 0, none⟩))), (7, cA (P' (j + 1))), (8, .f .f32 (f' ((j + 1 : Nat) : Int))), (1, .f .f32 t), (2, .raw (.pointer (some ⟨g2, 0, none⟩))), (4, .raw (.pointer (some ⟨g4, 0, none⟩))), (5, .raw (.pointer (some ⟨g5, 0, none⟩))), (11, .raw (.int .i64 ((n : Int) - 1))), (12, .raw (.int .i64 ((j + 1 : Nat) : Int)))] (St w0 [] [⟨g5, 50, [.raw (.slice (some ⟨a, 0, none⟩) (j + 1) ca), .raw (.slice (some ⟨b, 0, none⟩) (j + 1) cb)], 2⟩, ⟨g4, 50, [.raw (.slice none 0 0), .raw (.slice none 0 0)], 2⟩, ⟨g2, 50, [slC w0 (tabC n P), AV.sl w0 1 ((tab n f).map (AV.f .f32))], 2⟩, entC a (j + 1) P' ca, entF b 29 (j + 1) f' cb]) Q' := by
        refine gp_step [3, 8] (by rw [ho]; decide +kernel) fun f hf => ?_
        have hf : f = 3 ∨ f = 8 := by simpa using hf
        rcases hf with rfl | rfl
        · refine sp_lit q3 (by rw [ho]; decide +kernel) rfl rfl rfl rfl rfl rfl fun u1 => ?_
          exact cont_go (fun _ h => h.weak (.cons _ (.cons_cons _ (List.nil_sublist _)))) (gp_to (sb u1) rfl (by (repeat (first | exact Env.sub_nil _ | refine Env.sub_cons rfl ?_))) (by rw [hso]; exact ⟨rfl, rfl, rfl, rfl, rfl, rfl, rfl, rfl, rfl, rfl, rfl, rfl, rfl, rfl, trivial⟩) rfl (fun _ h => h) (fun _ h => h.weak (.cons _ (.cons_cons _ (List.nil_sublist _)))))
        · refine sp_lit q8 (by rw [ho]; decide +kernel) rfl rfl rfl rfl rfl rfl fun u2 => ?_
          exact cont_go (fun _ h => h.weak (.cons _ (.cons_cons _ (List.nil_sublist _)))) (gp_to (sc u2) rfl (by (repeat (first | exact Env.sub_nil _ | refine Env.sub_cons rfl ?_))) (by rw [hso]; exact ⟨rfl, rfl, rfl, rfl, rfl, rfl, rfl, rfl, rfl, rfl, rfl, rfl, rfl, rfl, trivial⟩) rfl (fun _ h => h) (fun _ h => h.weak (.cons _ (.cons_cons _ (List.nil_sublist _)))))
      exact gp_to sa rfl (by (repeat (first | exact Env.sub_nil _ | refine Env.sub_cons rfl ?_))) (by rw [hso]; exact ⟨rfl, rfl, rfl, rfl, rfl, rfl, rfl, rfl, rfl, rfl, rfl, rfl, rfl, rfl, trivial⟩) rfl (fun _ h => h) (fun _ h => h.weak (.cons_cons _ (List.nil_sublist _)))
    obtain ⟨⟨⟨a', b'⟩, ca', cb'⟩, u1, u2⟩ := y
    obtain ⟨h1, h2⟩ := hy
    dsimp only at h1 h2 ⊢
    repeat first | refine zaa rfl (zay rfl) ?_ | (refine zac ?_; refine zaa rfl (zbb rfl rfl (by omega)) ?_) | refine zah ?_ | (refine zcr ?_; first | refine zcs ?_ | refine zcv ?_) | (refine zdb ?_; refine zdd ?_)
    refine done_round (j + 1 + 1, (a', b'), ca', cb') ⟨by simp only; omega, h1, h2⟩ (by simp only; omega) ?_ (fun w h => ?_)
    · simp only
      rw [show ((j + 1 + 1 : Nat) : Int) = ((j + 1 : Nat) : Int) + 1 by omega]
      (repeat (first | exact Env.sub_nil _ | refine Env.sub_cons rfl ?_))
    · exact h.weak (.cons _ (.cons _ (List.Sublist.refl _)))
end Go.Ab
namespace Go.Ab
open Go.Proofs
variable {R : World → Prop} [RStab R]
section
variable {args : List AV} {A' : World → List AV} {w0 : World} {gs : List Nat} {H : List Ent}
theorem Takes.crvOc {R0 : World → Prop} {n a b ca cb : Nat} {P : Nat → CV} {f : Int → FV} {T : TypeId} (ha : entC a n P ca ∈ H) (hb : entF b T n f cb ∈ H) (h1 : n ≤ ca ∧ ca ≤ maxLen) (h2 : n ≤ cb ∧ cb ≤ maxLen) (h : Takes (StR R0 w0 gs H) args A') : Takes (StR R0 w0 gs H) (Go.Ab.crvOc a b n ca cb :: args) (fun w => crvA w n P f :: A' w) := fun w vs hS hr => by
  obtain ⟨v, r, rfl, hv, hrr⟩ := hr.inv_cons
  obtain ⟨us, rfl, hu⟩ := hv.inv_agg
  obtain ⟨x, r1, rfl, hx, hu⟩ := hu.inv_cons
  obtain ⟨y, r2, rfl, hy, hu⟩ := hu.inv_cons
  obtain rfl := hu.inv_nil
  exact .cons (.agg (.cons (.q (rd_ownC hS hx ha (Nat.le_refl _) h1)) (.cons (.q (rd_own hS hy hb (Nat.le_refl _) h2)) .nil))) (h w r hS hrr)
end
/-- The weights' rows alone. -/
def rowsW (f : Int → FV) (t : FV) : Nat → Int → FV
  | 0 => f
  | k + 1 => rowW (rowsW f t k) t
theorem rowsP_w (P : Nat → CV) (f : Int → FV) (t : FV) : ∀ k, (rowsP P f t k).2 = rowsW f t k
  | 0 => rfl
  | k + 1 => by
    show rowW (rowsP P f t k).2 t = rowW (rowsW f t k) t
    rw [rowsP_w P f t k]
def pointP (n : Nat) (P : Nat → CV) (f : Int → FV) (t : FV) : CV := (rowsP P f t (n - 1)).1 0
attribute [local irreducible] WS RS Done OpJ Then InBlock Round Ret Env.sub FnH
attribute [local irreducible] tab tabC
/-- Where a search for a point stands. -/
def atWu (T Tc : TypeId) (w0 : World) (g2 n : Nat) (P : Nat → CV) (f : Int → FV) (t : FV) (y : Nat × (Nat × Nat) × Nat × Nat) : World → Prop := match y.1 with
  | 0 => St w0 [] [⟨g2, Tc, [slC w0 (tabC n P), AV.sl w0 1 ((tab n f).map (AV.f .f32))], 2⟩]
  | j + 1 => St w0 [] [⟨g2, Tc, [.raw (.slice (some ⟨y.2.1.1, 0, none⟩) (n - (j + 1)) y.2.2.1), .raw (.slice (some ⟨y.2.1.2, 0, none⟩) (n - (j + 1)) y.2.2.2)], 2⟩, entC y.2.1.1 (n - (j + 1)) (rowsP P f t (j + 1)).1 y.2.2.1, entF y.2.1.2 T (n - (j + 1)) (rowsP P f t (j + 1)).2 y.2.2.2]
theorem next_at {n : Nat} {P : Nat → CV} {f : Int → FV} {t : FV} (hn : n ≤ 1000) (j : Nat) (hj : j + 2 ≤ n) : FnH (X := (Nat × Nat) × Nat × Nat) Try.prog 60 (fun w => [crvA w (n - j) (rowsP P f t j).1 (rowsP P f t j).2, .f .f32 t]) []
      (fun y => crvOc y.1.1 y.1.2 (n - (j + 1)) y.2.1 y.2.2) (fun y => [entC y.1.1 (n - (j + 1)) (rowsP P f t (j + 1)).1 y.2.1, entF y.1.2 29 (n - (j + 1)) (rowsP P f t (j + 1)).2 y.2.2]) (fun y => (n - (j + 1) ≤ y.2.1 ∧ y.2.1 ≤ maxLen) ∧ n - (j + 1) ≤ y.2.2 ∧ y.2.2 ≤ maxLen) := by
  have := next_fn' (n := n - j) (P := (rowsP P f t j).1) (f := (rowsP P f t j).2) (t := t) (by omega)
  rw [show n - j - 1 = n - (j + 1) by omega] at this
  exact this
theorem at_fn {n : Nat} {P : Nat → CV} {f : Int → FV} {t : FV} (hn : 2 ≤ n ∧ n ≤ 1000) :
    Fn Try.prog 42 (fun w => [crvA w n P f, .f .f32 t]) (cA (pointP n P f t)) := by
  have hR := next_at (P := P) (f := f) (t := t) hn.2
  have hDg : ∀ j, j ≤ n → Fn Try.prog 58 (fun w => [crvA w (n - j) (rowsP P f t j).1 (rowsP P f t j).2]) (.raw (.int .i64 (((n - j : Nat) : Int) - 1))) := fun j _ => degree_fn (n - j) _ _ (by omega)
  unfold pointP
  refine fn_intro Try.func42 rfl Try.ntmps42 (fun _ => Nat.le_of_ble_eq_true rfl) fun w0 => ?_
  repeat first | refine zaa rfl (zaz rfl) ?_ | refine zah ?_ | (refine zcr ?_; refine zcs ?_) | (refine zdb ?_; first | refine zdc ?_ | refine zdd ?_ | refine zde ?_) | (refine zak rfl rfl rfl ?_; intro g)
  obtain ⟨g2, hg2⟩ : ∃ x, x = g := ⟨g, rfl⟩
  subst hg2
  refine ws_loop (ι := Nat × (Nat × Nat) × Nat × Nat) (fun y => [(1, .f .f32 t), (2, .raw (.pointer (some ⟨g2, 0, none⟩)))])
    (atWu 29 50 w0 g2 n P f t) (fun y => y.1 + 1 ≤ n ∧ (n - y.1 ≤ y.2.2.1 ∧ y.2.2.1 ≤ maxLen) ∧ n - y.1 ≤ y.2.2.2 ∧ y.2.2.2 ≤ maxLen) (fun y => n - y.1) (0, (0, 0), n, n) ⟨by simp only; omega, by simp only [maxLen]; omega, by simp only [maxLen]; omega⟩ ?_ (fun _ h => h) (fun y hy => ?_)
  · (repeat (first | exact Env.sub_nil _ | refine Env.sub_cons rfl ?_))
  obtain ⟨j, ⟨a, b⟩, ca, cb⟩ := y
  simp only at hy ⊢
  obtain ⟨hj, hc1, hc2⟩ := hy
  have hD := hDg j (by omega)
  cases j with
  | zero =>
    have hR0 := hR 0 (by omega)
    unfold atWu
    dsimp only
    repeat first | (refine zac ?_; refine zaa rfl (zbg rfl rfl) ?_) | (refine zae ?_; refine zaa rfl (zcg rfl rfl (by (repeat (first | exact mh | refine mt ?_)); done) rfl rfl) ?_) | refine zah ?_ | (refine zcr ?_; refine zcs ?_) | (refine zdb ?_; first | refine zdc ?_ | refine zdd ?_) | refine zaa rfl (zci rfl rfl hD (Takes.crv Takes.nil)) ?_
    refine ws_cond rfl (fun hd => ?_) (fun hd => ?_)
    case' refine_2 =>
      exfalso
      have := of_decide_eq_false hd
      omega
    clear hd
    repeat first | refine zaa rfl (zay rfl) ?_ | (refine zae ?_; refine zaa rfl (zcg rfl rfl (by (repeat (first | exact mh | refine mt ?_)); done) rfl rfl) ?_) | (refine zcr ?_; refine zcs ?_) | (refine zdb ?_; first | refine zdd ?_ | refine zde ?_ | refine zdf ?_)
    refine rs_callM3 hR0 rfl rfl (Takes.crv (Takes.same Takes.nil)) rfl ?_
    rintro ⟨⟨a', b'⟩, ca', cb'⟩ ⟨h1, h2⟩
    dsimp only at h1 h2 ⊢
    repeat first | refine zah ?_ | (refine zcr ?_; refine zcv ?_) | (refine zag ?_; refine zan 2 rfl rfl rfl rfl rfl rfl rfl rfl rfl ?_)
    refine done_round (0 + 1, (a', b'), ca', cb') ⟨by simp only; omega, h1, h2⟩ (by simp only; omega) ?_ (fun w h => ?_)
    · (repeat (first | exact Env.sub_nil _ | refine Env.sub_cons rfl ?_))
    · exact h.rot3
  | succ j =>
    unfold atWu
    dsimp only
    repeat first | (refine zac ?_; refine zaa rfl (zbg rfl rfl) ?_) | (refine zae ?_; refine zaa rfl (zcg rfl rfl (by (repeat (first | exact mh | refine mt ?_)); done) rfl rfl) ?_) | refine zah ?_ | (refine zcr ?_; refine zcs ?_) | (refine zdb ?_; first | refine zdc ?_ | refine zdd ?_) | refine zaa rfl (zci rfl rfl hD (Takes.crvOc (mt mh) (mt (mt mh)) hc1 hc2 Takes.nil)) ?_
    refine ws_cond rfl (fun hd => ?_) (fun hd => ?_)
    case' refine_2 =>
      have hjn : n - (j + 1) = 1 := by have := of_decide_eq_false hd; omega
      have hjn' : n - 1 = j + 1 := by omega
      rw [hjn, hjn']
      repeat first | refine zaa rfl (zaz rfl) ?_ | (refine zae ?_; first | refine zaa rfl (opj_loadC rfl rfl (by (repeat (first | exact mh | refine mt ?_)); done) (by omega)) ?_ | refine zaa rfl (zcf rfl rfl (by (repeat (first | exact mh | refine mt ?_)); done) rfl) ?_) | (refine zaf ?_; refine zaa rfl (zbw rfl rfl (by omega) (by omega)) ?_) | refine zaa rfl (zcd rfl) ?_ | refine zah ?_ | (refine zcr ?_; first | refine zcs ?_ | refine zcu ?_ | refine zcx ?_ | refine zda ?_) | (refine zdb ?_; first | refine zdc ?_ | refine zdd ?_ | refine zdg ?_ | refine zdh ?_)
      exact done_ret1 rfl () rfl trivial (List.nil_sublist _)
    have hlt : (0 : Int) < ((n - (j + 1) : Nat) : Int) - 1 := of_decide_eq_true hd
    clear hd
    have hR0 := hR (j + 1) (by omega)
    repeat first | refine zaa rfl (zay rfl) ?_ | (refine zae ?_; refine zaa rfl (zcg rfl rfl (by (repeat (first | exact mh | refine mt ?_)); done) rfl rfl) ?_) | (refine zcr ?_; refine zcs ?_) | (refine zdb ?_; first | refine zdd ?_ | refine zde ?_ | refine zdf ?_)
    refine rs_callM3 hR0 rfl rfl (Takes.crvOc (mt mh) (mt (mt mh)) hc1 hc2 (Takes.same Takes.nil)) rfl ?_
    rintro ⟨⟨a', b'⟩, ca', cb'⟩ ⟨h1, h2⟩
    dsimp only at h1 h2 ⊢
    repeat first | refine zah ?_ | (refine zcr ?_; refine zcv ?_) | (refine zag ?_; refine zan 2 rfl rfl rfl rfl rfl rfl rfl rfl rfl ?_)
    refine done_round (j + 1 + 1, (a', b'), ca', cb') ⟨by simp only; omega, h1, h2⟩ (by simp only; omega) ?_ (fun w h => ?_)
    · (repeat (first | exact Env.sub_nil _ | refine Env.sub_cons rfl ?_))
    · exact (h.rot3.weak (.cons_cons _ (.cons_cons _ (.cons_cons _ (List.nil_sublist _)))))
theorem curveAt_fn {n : Nat} {P : Nat → CV} {f : Int → FV} {t : FV} (hn : 2 ≤ n ∧ n ≤ 8) (hP : (tabC n P).all finC = true) (hf : (tab n f).all aboveB = true) (ht : Fn Try.prog 41 (fun _ => [.f .f32 t]) (.raw (.bool true)))
    (hq : finC (pointP n P f t) = true) : Fn Try.prog 18 (fun w => [crvA w n P f, .f .f32 t]) (.tup [cA (pointP n P f t), .raw (.bool true)]) := by
  have hV := validCurve_yes hn hP hf
  have hA := at_fn (n := n) (P := P) (f := f) (t := t) (by omega)
  have hI := ifPoint_fn _ true hq
  unfold ptT at hI
  refine fn_intro Try.func18 rfl Try.ntmps18 (fun _ => Nat.le_of_ble_eq_true rfl) fun w0 => ?_
  repeat first | refine zai rfl rfl ?_ | refine zaa rfl (zay rfl) ?_ | refine zaa rfl (zaz rfl) ?_ | (refine zad ?_; first | (refine zaa rfl (zci rfl rfl (ht) ?_) ?_; (focus ((repeat (first | exact Takes.nil | refine Takes.sl ?_ | refine Takes.lit ?_ | refine Takes.fa ?_ | refine Takes.fc ?_ | refine Takes.net ?_ | (refine Takes.ownE ?_ ?_ ?_ ?_ ?_; (focus (exact ⟨_, _, (by (repeat (first | exact mh | refine mt ?_)); done)⟩)); (focus (simp; done)); (focus omega); (focus (simp only [maxLen]; omega))) | refine Takes.same ?_)); done))) | (refine zaa rfl (zci rfl rfl (hI) ?_) ?_; (focus ((repeat (first | exact Takes.nil | refine Takes.sl ?_ | refine Takes.lit ?_ | refine Takes.fa ?_ | refine Takes.fc ?_ | refine Takes.net ?_ | (refine Takes.ownE ?_ ?_ ?_ ?_ ?_; (focus (exact ⟨_, _, (by (repeat (first | exact mh | refine mt ?_)); done)⟩)); (focus (simp; done)); (focus omega); (focus (simp only [maxLen]; omega))) | refine Takes.same ?_)); done)))) | (refine zae ?_; refine zaa rfl (zcg rfl rfl (by (repeat (first | exact mh | refine mt ?_)); done) rfl rfl) ?_) | refine zaa rfl (zbz rfl rfl) ?_ | refine zaa rfl (zcb rfl rfl) ?_ | refine zaa rfl (zcc rfl) ?_ | refine zah ?_ | (refine zcr ?_; refine zcs ?_) | (refine zdb ?_; first | refine zdc ?_ | refine zdd ?_ | refine zdf ?_ | refine zdg ?_ | refine zdj rfl ?_) | (refine zak rfl rfl rfl ?_; intro g) | refine zaa rfl (zci rfl rfl hV (Takes.crv Takes.nil)) ?_ | refine zaa rfl (zci rfl rfl hA (Takes.crv (Takes.same Takes.nil))) ?_
  exact done_ret2 rfl () rfl rfl rfl trivial (List.nil_sublist _)
end Go.Ab
