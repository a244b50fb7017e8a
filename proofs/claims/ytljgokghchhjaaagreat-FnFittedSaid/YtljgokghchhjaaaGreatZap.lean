/- Part 16 of the texts on which the law leans, joined: Pieces near a path, the reference's: what it gives. No conditions. -/
import Derived.Test.YtljgokghchhjaaaGreatZao
namespace Go.Ab
open Go.Proofs
variable {R : World → Prop} [RStab R]
/-- A direction, as a fit takes it. -/
def DirV (s : CV) : Prop := ∃ u v, Vl .f32 s.1 u ∧ Vl .f32 s.2 v ∧ (-(101 / 100) ≤ u ∧ u ≤ 101 / 100) ∧ (-(101 / 100) ≤ v ∧ v ≤ 101 / 100) ∧ 98 / 100 ≤ u * u + v * v
section
variable {n : Nat} {P : Nat → CV} {a c : Nat → Int}
theorem Pth.fitVG (hp : Pth n P a c) (hn : 2 ≤ n ∧ n ≤ 7) {s e : CV} (hs : DirV s) (he : DirV e) : ∃ su sv eu ev x y t, FitV s e n P (parF one1 P n) su sv eu ev x y t := by
  obtain ⟨l, h⟩ := hp.lens hn.2
  obtain ⟨su, sv, s1, s2, s3, s4, s5⟩ := hs
  obtain ⟨eu, ev, e1, e2, e3, e4, e5⟩ := he
  obtain ⟨t, ht, t0, t1, tb, ts⟩ := par_vl h hn vl_one1 (by decide +kernel)
  refine ⟨su, sv, eu, ev, pX a, pX c, t, ⟨hn, ⟨s1, s3⟩, ⟨s2, s4⟩, ⟨e1, e3⟩, ⟨e2, e4⟩, s5, e5, fun i hi => ?_, fun i hi => ?_, fun i hi => ⟨ht i hi, tb i hi⟩, fun h3 => ?_, ⟨t0, t1⟩⟩⟩
  · have b := (hp.bdx hn.2 hi).1
    exact ⟨hp.vx i hi, by grind, by grind⟩
  · have b := (hp.bdx hn.2 hi).2
    exact ⟨hp.vy i hi, by grind, by grind⟩
  · have k0 := h.steps hp hn ht (i := 0) (by omega)
    have k1 := h.steps hp hn ht (i := 1) (by omega)
    have l0 := (h.b 0 (by omega)).1
    have l1 := (h.b 1 (by omega)).1
    have u2 := (tb 2 (by omega)).2
    rw [show (0 : Nat) + 1 = 1 from rfl, t0] at k0
    rw [show (1 : Nat) + 1 = 2 from rfl] at k1
    constructor <;> grind
end
attribute [local irreducible] WS RS Done OpJ Then InBlock Round Ret Env.sub FnH
attribute [local irreducible] tab tabC
set_option maxRecDepth 100000 in
set_option maxHeartbeats 40000000 in
theorem fitCubic_fn {n : Nat} {P : Nat → CV} {st en : CV} {M : Int → FV} {QQ : Nat → CV} (hn : 2 ≤ n ∧ n ≤ 48)
    (hI : Fn Tryz.prog 19 (fun w => [slC w (tabC n P)]) (.raw (.bool true))) (hst : finC st = true) (hen : finC en = true)
    (hfit : FnH (X := (Nat × Nat) × Nat × Nat) Tryz.prog 21 (fun W => [slC W (tabC n P), cA st, cA en]) []
      (fun y => .tup [crvO y.1.1 y.1.2 4, .raw (.slice (some ⟨y.2.1, 0, none⟩) n y.2.2), .raw (.bool true)])
      (fun y => [entF y.2.1 27 n M y.2.2, entF y.1.2 27 4 (fun _ => one1) 4, entC y.1.1 4 QQ 4]) (fun y => n ≤ y.2.2 ∧ y.2.2 ≤ maxLen))
    (hM : ∀ i : Nat, i < n → ∃ r, Vl .f32 (M i) r) :
    FnH (X := Nat × Nat) Tryz.prog 10 (fun W => [slC W (tabC n P), cA st, cA en]) []
      (fun y => .tup [crvO y.1 y.2 4, .f .f32 (maxL M (n - 1)), .raw (.bool true)]) (fun y => [entF y.2 27 4 (fun _ => one1) 4, entC y.1 4 QQ 4]) (fun _ => True) := by
  have hA := arePoints_fn [st, en] (show 2 < 2 ^ 62 by decide)
  rw [show [st, en].all finC = true by simp [hst, hen]] at hA
  have hMax := max_fn (f := M) (n := n) (by omega) hM
  refine fn_intro Tryz.func10 rfl Tryz.ntmps10 (fun _ => Nat.le_of_ble_eq_true rfl) fun w0 => ?_
  repeat first | refine zai rfl rfl ?_ | refine zaa rfl (zay rfl) ?_ | refine zaa rfl (zaz rfl) ?_ | (refine zad ?_; first | (refine zaa rfl (zci rfl rfl (hI) ?_) ?_; (focus ((repeat (first | exact Takes.nil | refine Takes.sl ?_ | refine Takes.lit ?_ | refine Takes.fa ?_ | refine Takes.fc ?_ | refine Takes.net ?_ | (refine Takes.ownE ?_ ?_ ?_ ?_ ?_; (focus (exact ⟨_, _, (by (repeat (first | exact mh | refine mt ?_)); done)⟩)); (focus (simp; done)); (focus omega); (focus (simp only [maxLen]; omega))) | refine Takes.same ?_)); done))) | (refine zaa rfl (zci rfl rfl (hA) ?_) ?_; (focus ((repeat (first | exact Takes.nil | refine Takes.sl ?_ | refine Takes.lit ?_ | refine Takes.fa ?_ | refine Takes.fc ?_ | refine Takes.net ?_ | (refine Takes.ownE ?_ ?_ ?_ ?_ ?_; (focus (exact ⟨_, _, (by (repeat (first | exact mh | refine mt ?_)); done)⟩)); (focus (simp; done)); (focus omega); (focus (simp only [maxLen]; omega))) | refine Takes.same ?_)); done)))) | refine zaa rfl (zcb rfl rfl) ?_ | refine zaa rfl (zcc rfl) ?_ | refine zah ?_ | (refine zcr ?_; refine zcs ?_) | (refine zdb ?_; first | refine zdc ?_ | refine zdd ?_ | refine zdf ?_ | refine zdj rfl ?_) | (refine zal rfl rfl ?_; intro g) | refine zaa rfl (zco rfl rfl rfl rfl rfl rfl) ?_
  obtain ⟨g6, hg6⟩ : ∃ x, x = g := ⟨g, rfl⟩
  subst hg6
  refine rs_callM2 hfit rfl rfl (Takes.sl (Takes.same (Takes.same Takes.nil))) rfl ?_
  rintro ⟨⟨a, b⟩, gm, cm⟩ ⟨hc1, hc2⟩
  simp only [maxLen] at hc1 hc2
  dsimp only
  repeat first | refine zaa rfl (zay rfl) ?_ | refine zaa rfl (zaz rfl) ?_ | refine zaa rfl (zbz rfl rfl) ?_ | refine zaa rfl (zcc rfl) ?_ | refine zah ?_ | (refine zcr ?_; refine zcs ?_) | (refine zdb ?_; first | refine zdc ?_ | refine zdd ?_ | refine zdf ?_ | refine zdj rfl ?_) | (refine zal rfl rfl ?_; intro g) | (refine zag ?_; refine zan 0 rfl rfl rfl rfl rfl rfl rfl rfl rfl ?_)
  obtain ⟨g9, hg9⟩ : ∃ x, x = g := ⟨g, rfl⟩
  subst hg9
  refine ws_K (Y := Unit) (E := fun _ => [(8, .raw (.bool true)), (7, .f .f32 (maxL M (n - 1))), (36, .f .f32 (maxL M (n - 1))), (35, .raw (.slice (some ⟨gm, 0, none⟩) n cm)), (34, crvO a b 4), (6, .raw (.pointer (some ⟨g6, 0, none⟩))), (9, .raw (.pointer (some ⟨g9, 0, none⟩))), (10, .raw (.slice (some ⟨gm, 0, none⟩) n cm))])
    (SS := fun _ => St w0 [] [⟨g9, 35, [.raw (.slice (some ⟨a, 0, none⟩) 4 4), .raw (.slice (some ⟨b, 0, none⟩) 4 4)], 2⟩, entF gm 27 n M cm, entF b 27 4 (fun _ => one1) 4, entC a 4 QQ 4, ⟨g6, 35, [.raw (.slice (some ⟨a, 0, none⟩) 4 4), .raw (.slice (some ⟨b, 0, none⟩) 4 4)], 2⟩]) (ok := fun _ => True) (fun hD => ?_) (fun _ _ => ?_)
  · refine ws_enum mixed ?_
    refine ra_name fun o ho Q' hQ => ?_
    have r0_1_2_3_4_5 : RA Tryz.prog 37 o (LD 6 0 [0, 1, 2, 3, 4, 5]) 0 [(8, .raw (.bool true)), (7, .f .f32 (maxL M (n - 1))), (36, .f .f32 (maxL M (n - 1))), (35, .raw (.slice (some ⟨gm, 0, none⟩) n cm)), (34, crvO a b 4), (6, .raw (.pointer (some ⟨g6, 0, none⟩))), (9, .raw (.pointer (some ⟨g9, 0, none⟩))), (10, .raw (.slice (some ⟨gm, 0, none⟩) n cm))] (St w0 [] [⟨g9, 35, [.raw (.slice (some ⟨a, 0, none⟩) 4 4), .raw (.slice (some ⟨b, 0, none⟩) 4 4)], 2⟩, entF gm 27 n M cm, entF b 27 4 (fun _ => one1) 4, entC a 4 QQ 4, ⟨g6, 35, [.raw (.slice (some ⟨a, 0, none⟩) 4 4), .raw (.slice (some ⟨b, 0, none⟩) 4 4)], 2⟩]) Q' := ra_end (by rw [ho]; decide +kernel) (by rw [hQ]; exact hD () trivial)
    have r0_1_2_3_4 : RA Tryz.prog 37 o (LD 6 0 [0, 1, 2, 3, 4]) 1 [(7, .f .f32 (maxL M (n - 1))), (36, .f .f32 (maxL M (n - 1))), (35, .raw (.slice (some ⟨gm, 0, none⟩) n cm)), (34, crvO a b 4), (6, .raw (.pointer (some ⟨g6, 0, none⟩))), (9, .raw (.pointer (some ⟨g9, 0, none⟩))), (10, .raw (.slice (some ⟨gm, 0, none⟩) n cm))] (St w0 [] [⟨g9, 35, [.raw (.slice (some ⟨a, 0, none⟩) 4 4), .raw (.slice (some ⟨b, 0, none⟩) 4 4)], 2⟩, entF gm 27 n M cm, entF b 27 4 (fun _ => one1) 4, entC a 4 QQ 4, ⟨g6, 35, [.raw (.slice (some ⟨a, 0, none⟩) 4 4), .raw (.slice (some ⟨b, 0, none⟩) 4 4)], 2⟩]) Q' := by
      refine ra_list [5] (by rw [ho]; decide +kernel) rfl ⟨?_, trivial⟩
      · refine ro_op (by rw [ho]; rfl) rfl (zaz rfl) ?_
        exact RA.weak (RA.toL' r0_1_2_3_4_5 (by decide +kernel)) (by (repeat (first | exact Env.sub_nil _ | refine Env.sub_cons rfl ?_))) (fun _ h => h)
    have r0_1_2_3 : RA Tryz.prog 37 o (LD 6 0 [0, 1, 2, 3]) 2 [(36, .f .f32 (maxL M (n - 1))), (35, .raw (.slice (some ⟨gm, 0, none⟩) n cm)), (34, crvO a b 4), (6, .raw (.pointer (some ⟨g6, 0, none⟩))), (9, .raw (.pointer (some ⟨g9, 0, none⟩))), (10, .raw (.slice (some ⟨gm, 0, none⟩) n cm))] (St w0 [] [⟨g9, 35, [.raw (.slice (some ⟨a, 0, none⟩) 4 4), .raw (.slice (some ⟨b, 0, none⟩) 4 4)], 2⟩, entF gm 27 n M cm, entF b 27 4 (fun _ => one1) 4, entC a 4 QQ 4, ⟨g6, 35, [.raw (.slice (some ⟨a, 0, none⟩) 4 4), .raw (.slice (some ⟨b, 0, none⟩) 4 4)], 2⟩]) Q' := by
      refine ra_list [4] (by rw [ho]; decide +kernel) rfl ⟨?_, trivial⟩
      · refine ro_op (by rw [ho]; rfl) rfl (zaz rfl) ?_
        exact RA.weak (RA.toL' r0_1_2_3_4 (by decide +kernel)) (by (repeat (first | exact Env.sub_nil _ | refine Env.sub_cons rfl ?_))) (fun _ h => h)
    have r0_1_2 : RA Tryz.prog 37 o (LD 6 0 [0, 1, 2]) 3 [(36, .f .f32 (maxL M (n - 1))), (35, .raw (.slice (some ⟨gm, 0, none⟩) n cm)), (34, crvO a b 4), (6, .raw (.pointer (some ⟨g6, 0, none⟩))), (9, .raw (.pointer (some ⟨g9, 0, none⟩))), (10, .raw (.slice (some ⟨gm, 0, none⟩) n cm))] (St w0 [] [⟨g9, 35, [.raw (.slice (some ⟨a, 0, none⟩) 4 4), .raw (.slice (some ⟨b, 0, none⟩) 4 4)], 2⟩, entF gm 27 n M cm, entF b 27 4 (fun _ => one1) 4, entC a 4 QQ 4, ⟨g6, 35, [.raw (.slice none 0 0), .raw (.slice none 0 0)], 2⟩]) Q' := by
      refine ra_list [3] (by rw [ho]; decide +kernel) rfl ⟨?_, trivial⟩
      · refine ro_effs (by rw [ho]; rfl) rfl (effs_storeAX (R := fun _ => True) (w0 := w0) (gs := []) 4 rfl rfl rfl rfl rfl rfl rfl rfl rfl) ?_
        exact RA.weak (RA.toL' r0_1_2_3 (by decide +kernel)) (by (repeat (first | exact Env.sub_nil _ | refine Env.sub_cons rfl ?_))) (fun _ h => h)
    have r0_1 : RA Tryz.prog 37 o (LD 6 0 [0, 1]) 4 [(35, .raw (.slice (some ⟨gm, 0, none⟩) n cm)), (34, crvO a b 4), (6, .raw (.pointer (some ⟨g6, 0, none⟩))), (9, .raw (.pointer (some ⟨g9, 0, none⟩))), (10, .raw (.slice (some ⟨gm, 0, none⟩) n cm))] (St w0 [] [⟨g9, 35, [.raw (.slice (some ⟨a, 0, none⟩) 4 4), .raw (.slice (some ⟨b, 0, none⟩) 4 4)], 2⟩, entF gm 27 n M cm, entF b 27 4 (fun _ => one1) 4, entC a 4 QQ 4, ⟨g6, 35, [.raw (.slice none 0 0), .raw (.slice none 0 0)], 2⟩]) Q' := by
      refine ra_list [2] (by rw [ho]; decide +kernel) rfl ⟨?_, trivial⟩
      · refine ro_op (by rw [ho]; rfl) rfl (zci rfl rfl hMax (Takes.ownE ⟨_, _, mt mh⟩ (by simp) (by omega) (by simp only [maxLen]; omega) Takes.nil)) ?_
        exact RA.weak (RA.toL' r0_1_2 (by decide +kernel)) (by (repeat (first | exact Env.sub_nil _ | refine Env.sub_cons rfl ?_))) (fun _ h => h)
    have r1_2 : RA Tryz.prog 37 o (LD 6 0 [1, 2]) 4 [(36, .f .f32 (maxL M (n - 1))), (35, .raw (.slice (some ⟨gm, 0, none⟩) n cm)), (6, .raw (.pointer (some ⟨g6, 0, none⟩))), (9, .raw (.pointer (some ⟨g9, 0, none⟩))), (10, .raw (.slice (some ⟨gm, 0, none⟩) n cm))] (St w0 [] [⟨g9, 35, [.raw (.slice (some ⟨a, 0, none⟩) 4 4), .raw (.slice (some ⟨b, 0, none⟩) 4 4)], 2⟩, entF gm 27 n M cm, entF b 27 4 (fun _ => one1) 4, entC a 4 QQ 4, ⟨g6, 35, [.raw (.slice none 0 0), .raw (.slice none 0 0)], 2⟩]) Q' := by
      refine ra_list [0] (by rw [ho]; decide +kernel) rfl ⟨?_, trivial⟩
      · refine ro_op (by rw [ho]; rfl) rfl (zcg rfl rfl mh rfl rfl) ?_
        exact RA.weak (RA.toL' r0_1_2 (by decide +kernel)) (by (repeat (first | exact Env.sub_nil _ | refine Env.sub_cons rfl ?_))) (fun _ h => h)
    have r0 : RA Tryz.prog 37 o (LD 6 0 [0]) 5 [(34, crvO a b 4), (6, .raw (.pointer (some ⟨g6, 0, none⟩))), (9, .raw (.pointer (some ⟨g9, 0, none⟩))), (10, .raw (.slice (some ⟨gm, 0, none⟩) n cm))] (St w0 [] [⟨g9, 35, [.raw (.slice (some ⟨a, 0, none⟩) 4 4), .raw (.slice (some ⟨b, 0, none⟩) 4 4)], 2⟩, entF gm 27 n M cm, entF b 27 4 (fun _ => one1) 4, entC a 4 QQ 4, ⟨g6, 35, [.raw (.slice none 0 0), .raw (.slice none 0 0)], 2⟩]) Q' := by
      refine ra_list [1] (by rw [ho]; decide +kernel) rfl ⟨?_, trivial⟩
      · refine ro_op (by rw [ho]; rfl) rfl (zay rfl) ?_
        exact RA.weak (RA.toL' r0_1 (by decide +kernel)) (by (repeat (first | exact Env.sub_nil _ | refine Env.sub_cons rfl ?_))) (fun _ h => h)
    have r1 : RA Tryz.prog 37 o (LD 6 0 [1]) 5 [(35, .raw (.slice (some ⟨gm, 0, none⟩) n cm)), (6, .raw (.pointer (some ⟨g6, 0, none⟩))), (9, .raw (.pointer (some ⟨g9, 0, none⟩))), (10, .raw (.slice (some ⟨gm, 0, none⟩) n cm))] (St w0 [] [⟨g9, 35, [.raw (.slice (some ⟨a, 0, none⟩) 4 4), .raw (.slice (some ⟨b, 0, none⟩) 4 4)], 2⟩, entF gm 27 n M cm, entF b 27 4 (fun _ => one1) 4, entC a 4 QQ 4, ⟨g6, 35, [.raw (.slice none 0 0), .raw (.slice none 0 0)], 2⟩]) Q' := by
      refine ra_list [0, 2] (by rw [ho]; decide +kernel) rfl ⟨?_, ?_, trivial⟩
      · refine ro_op (by rw [ho]; rfl) rfl (zcg rfl rfl mh rfl rfl) ?_
        exact RA.weak (RA.toL' r0_1 (by decide +kernel)) (by (repeat (first | exact Env.sub_nil _ | refine Env.sub_cons rfl ?_))) (fun _ h => h)
      · refine ro_op (by rw [ho]; rfl) rfl (zci rfl rfl hMax (Takes.ownE ⟨_, _, mt mh⟩ (by simp) (by omega) (by simp only [maxLen]; omega) Takes.nil)) ?_
        exact RA.weak (RA.toL' r1_2 (by decide +kernel)) (by (repeat (first | exact Env.sub_nil _ | refine Env.sub_cons rfl ?_))) (fun _ h => h)
    have r : RA Tryz.prog 37 o (LD 6 0 []) 6 [(6, .raw (.pointer (some ⟨g6, 0, none⟩))), (9, .raw (.pointer (some ⟨g9, 0, none⟩))), (10, .raw (.slice (some ⟨gm, 0, none⟩) n cm))] (St w0 [] [⟨g9, 35, [.raw (.slice (some ⟨a, 0, none⟩) 4 4), .raw (.slice (some ⟨b, 0, none⟩) 4 4)], 2⟩, entF gm 27 n M cm, entF b 27 4 (fun _ => one1) 4, entC a 4 QQ 4, ⟨g6, 35, [.raw (.slice none 0 0), .raw (.slice none 0 0)], 2⟩]) Q' := by
      refine ra_list [0, 1] (by rw [ho]; decide +kernel) rfl ⟨?_, ?_, trivial⟩
      · refine ro_op (by rw [ho]; rfl) rfl (zcg rfl rfl mh rfl rfl) ?_
        exact RA.weak (RA.toL' r0 (by decide +kernel)) (by (repeat (first | exact Env.sub_nil _ | refine Env.sub_cons rfl ?_))) (fun _ h => h)
      · refine ro_op (by rw [ho]; rfl) rfl (zay rfl) ?_
        exact RA.weak (RA.toL' r1 (by decide +kernel)) (by (repeat (first | exact Env.sub_nil _ | refine Env.sub_cons rfl ?_))) (fun _ h => h)
    exact RA.weak (RA.toL' (ra_fuel r rfl) (by decide +kernel)) (by (repeat (first | exact Env.sub_nil _ | refine Env.sub_cons rfl ?_))) (fun _ h => h)
  repeat first | (refine zcr ?_; refine zcs ?_) | (refine zdb ?_; refine zdg ?_)
  exact done_retCX2 rfl rfl (a, b) rfl rfl rfl (mt (mt (mt (mt mh)))) rfl rfl rfl trivial (.cons _ (.cons _ (.cons_cons _ (.cons_cons _ (List.nil_sublist _)))))
end Go.Ab
namespace Go.Ab
open Go.Proofs
def lineP (k : Nat) : CV := (some (FloatKind.f32.nearest (k : Int)), fbin .mul .f32 (fv .f32 1056964608) (some (FloatKind.f32.nearest (k : Int))))
def dirC : CV := (fv .f32 1073741824, fv .f32 1065353216)
/-- Its parameters. -/
def lineT (i : Int) : FV := if i = 0 then some 0 else if i = 1 then some 1048576000 else if i = 2 then some 1056964608 else if i = 3 then some 1061158912 else some 1065353216
def lineU : CV := (some 1063581998, some 1055193390)
def lineE : CV := (some 3211065646, some 3202677038)
def lineQ : Nat → CV := fitQ lineU lineE 5 lineP lineT
theorem line_q : ∀ i : Fin 5, lineP i.1 = (qrt (4 * (i.1 : Int)), qrt (2 * (i.1 : Int))) := by decide +kernel
theorem line_pth : Pth 5 lineP (fun i => 4 * (i : Int)) (fun i => 2 * (i : Int)) := by
  have q : ∀ i, i < 5 → lineP i = (qrt (4 * (i : Int)), qrt (2 * (i : Int))) := fun i hi => line_q ⟨i, hi⟩
  refine ⟨fun i hi => ?_, fun i hi => ?_, fun i hi => ⟨by omega, by omega⟩, fun i hi => ⟨by omega, by omega⟩, q⟩
  · rw [q i hi]
    exact quarter_vl (by omega)
  · rw [q i hi]
    exact quarter_vl (by omega)
theorem line_t0 : ∀ i : Fin 5, parF one1 lineP 5 (i.1 : Nat) = lineT (i.1 : Nat) := by decide +kernel
theorem line_t (i : Nat) (hi : i < 5) : parF one1 lineP 5 i = lineT i := line_t0 ⟨i, hi⟩
theorem line_u : unitC dirC = lineU ∧ unitC (ngC dirC) = lineE ∧ unitC (dirS lineP) = lineU ∧ unitC (dirE 5 lineP) = lineE := by decide +kernel
section
variable {s e : CV} {n : Nat} {P : Nat → CV} {tt tt' : Int → FV}
theorem acc_congr (h : ∀ i : Nat, i < n → tt i = tt' i) : ∀ k, k ≤ n → accC s tt k = accC s tt' k ∧ accD s e tt k = accD s e tt' k ∧ accF e tt k = accF e tt' k ∧ accG s n P tt k = accG s n P tt' k ∧ accK e n P tt k = accK e n P tt' k
  | 0, _ => ⟨rfl, rfl, rfl, rfl, rfl⟩
  | i + 1, hi => by
    obtain ⟨h1, h2, h3, h4, h5⟩ := acc_congr h i (by omega)
    simp only [accC, accD, accF, accG, accK, fitU, fitV, fitW, h1, h2, h3, h4, h5, h i (by omega), and_self]
theorem fitQ_congr (h : ∀ i : Nat, i < n → tt i = tt' i) : fitQ s e n P tt = fitQ s e n P tt' := by
  obtain ⟨h1, h2, h3, h4, h5⟩ := acc_congr (s := s) (e := e) (P := P) h n (Nat.le_refl _)
  have hM : fitM s e n tt = fitM s e n tt' := by unfold fitM; rw [h1, h2, h3]
  have hX0 : fitX0 s e n P tt = fitX0 s e n P tt' := by unfold fitX0; rw [hM, h2, h3, h4, h5]
  have hY0 : fitY0 s e n P tt = fitY0 s e n P tt' := by unfold fitY0; rw [hM, h1, h2, h4, h5]
  have hB : fitBad s e n P tt = fitBad s e n P tt' := by unfold fitBad; rw [hM, hX0, hY0]
  have hX : fitX s e n P tt = fitX s e n P tt' := by unfold fitX; rw [hB, hX0]
  have hY : fitY s e n P tt = fitY s e n P tt' := by unfold fitY; rw [hB, hY0]
  funext j
  unfold fitQ
  rw [hX, hY]
theorem maxL_congr {f g : Int → FV} : ∀ k : Nat, (∀ i : Nat, i ≤ k → f i = g i) → maxL f k = maxL g k
  | 0, h => by
    unfold maxL
    exact h 0 (Nat.le_refl _)
  | k + 1, h => by
    have h1 := h (k + 1) (Nat.le_refl _)
    rw [show ((k + 1 : Nat) : Int) = (k : Int) + 1 by omega] at h1
    unfold maxL
    rw [maxL_congr k fun i hi => h i (by omega), h1]
theorem missF_congr {Q : Nat → CV} (h : ∀ i : Nat, i < n → tt i = tt' i) (i : Nat) (hi : i < n) : missF Q P tt i = missF Q P tt' i := by
  unfold missF missC'
  rw [show (i : Int).toNat = i from rfl, h i hi]
end
theorem line_Q : fitQ (unitC dirC) (unitC (ngC dirC)) 5 lineP (parF one1 lineP 5) = lineQ := by
  rw [line_u.1, line_u.2.1]
  exact fitQ_congr line_t
theorem line_PQ : fitPQ 5 lineP = lineQ := by
  unfold fitPQ
  rw [line_u.2.2.1, line_u.2.2.2]
  exact fitQ_congr line_t
def lineM : FV := maxL (missF lineQ lineP lineT) 4
theorem line_miss : cmpB .gtr (fcmp .f64 (fconv .f32 .f64 lineM) (fv .f64 4562254508917369340)) = false := by decide +kernel
theorem line_near : cmpB .leq (fcmp .f32 lineM (fv .f32 1023410176)) = true := by decide +kernel
theorem line_at : (rowsP lineQ (fun _ => one1) (fv .f32 1056964608) (4 - 1)).1 0 = dirC := by decide +kernel
theorem line_off : LongOk (subC2 dirC dirC) ∧ cmpB .lss (fcmp .f64 (fconv .f32 .f64 (longC (subC2 dirC dirC))) (fv .f64 4576918229304087675)) = true := by
  unfold LongOk ConvOk
  decide +kernel
theorem line_M : maxL (missF lineQ lineP (parF one1 lineP 5)) 4 = lineM := maxL_congr 4 fun i hi => missF_congr (n := 5) line_t i (by omega)
theorem dir_vl : DirV (unitC dirC) ∧ DirV (unitC (ngC dirC)) ∧ finC dirC = true ∧ (LongOk dirC ∧ cmpB .gtr (fcmp .f32 (longC dirC) (fv .f32 0)) = true ∧ finC (unitC dirC) = true) ∧ LongOk (ngC dirC) ∧ cmpB .gtr (fcmp .f32 (longC (ngC dirC)) (fv .f32 0)) = true ∧ finC (unitC (ngC dirC)) = true := by
  have v1 : Vl .f32 dirC.1 2 := Vl.c (k := .f32) (b := 1073741824) (q := 2) (by decide +kernel)
  have v2 : Vl .f32 dirC.2 1 := Vl.c (k := .f32) (b := 1065353216) (q := 1) (by decide +kernel)
  obtain ⟨a1, a2, a3, a4⟩ := unit_ok (p := dirC) v1 v2 (by constructor <;> decide +kernel) (by constructor <;> decide +kernel) (by decide +kernel)
  obtain ⟨b1, b2, b3, b4⟩ := unit_ok (p := ngC dirC) (vl_fneg v1) (vl_fneg v2) (by constructor <;> decide +kernel) (by constructor <;> decide +kernel) (by decide +kernel)
  exact ⟨a4, b4, finC_of v1 v2, ⟨a1, a2, a3⟩, b1, b2, b3⟩
/-- The line's fit. -/
theorem line_cubic : FnH (X := Nat × Nat) Tryz.prog 10 (fun W => [slC W (tabC 5 lineP), cA dirC, cA dirC]) []
      (fun y => .tup [crvO y.1 y.2 4, .f .f32 lineM, .raw (.bool true)]) (fun y => [entF y.2 27 4 (fun _ => one1) 4, entC y.1 4 lineQ 4]) (fun _ => True) := by
  have hp := line_pth
  obtain ⟨d1, d2, d3, ⟨a1, a2, a3⟩, b1, b2, b3⟩ := dir_vl
  obtain ⟨l, h⟩ := hp.lens (by omega)
  obtain ⟨su, sv, eu, ev, x, y, t, F⟩ := hp.fitVG (by omega) d1 d2
  have hI := isPath_yes 5 lineP (by omega) hp.fin h.ok (h.nz (by omega))
  have hf := fit_fn F.ok (unit_yes dirC a1 a2 a3) (unit_yes (ngC dirC) b1 b2 b3) (paramsOf_fn h hp (by omega) vl_one1 (by decide +kernel))
  have hM : ∀ i : Nat, i < 5 → ∃ r, Vl .f32 (missF (fitQ (unitC dirC) (unitC (ngC dirC)) 5 lineP (parF one1 lineP 5)) lineP (parF one1 lineP 5) i) r := fun i hi => by
    obtain ⟨r, vr, _⟩ := (F.miss hi).1.2
    exact ⟨r, vr⟩
  rw [line_Q] at hf hM
  have := fitCubic_fn (by omega) hI d3 d3 hf hM
  rw [show maxL (missF lineQ lineP (parF one1 lineP 5)) (5 - 1) = lineM from line_M] at this
  exact this
theorem line_one : cmpB .leq (fcmp .f32 (maxL (fitPM 5 lineP) (5 - 1)) (fv .f32 1023410176)) = true := by
  unfold fitPM
  rw [line_PQ, show maxL (missF lineQ lineP (parF one1 lineP 5)) (5 - 1) = lineM from line_M]
  exact line_near
theorem line_pieces : FpC fitPM 5 lineP (fv .f32 1023410176) := fitPieces_path ⟨by omega, _, _, line_pth⟩ (by decide +kernel) (by decide +kernel)
theorem line_point : Fn Tryz.prog 11 (fun w => [crvA w 4 lineQ (fun _ => one1), .f .f32 (fv .f32 1056964608)]) (.tup [cA dirC, .raw (.bool true)]) := by
  have h := specCurveAt_fn (n := 4) (P := lineQ) (f := fun _ => one1) (t := fv .f32 1056964608) (by omega) (by decide +kernel) (by decide +kernel) (l02Share_yes (ω := 1 / 2) (Vl.c (by decide +kernel)) (by decide +kernel)) (by rw [line_at]; decide +kernel)
  rw [line_at] at h
  exact h
theorem near_ok0 : ∀ i : Fin 8, finB (fbin .quo .f32 (some (FloatKind.f32.nearest (1 + (i.1 : Int)))) (fv .f32 1107296256)) = true ∧ cmpB .geq (fcmp .f32 (fbin .quo .f32 (some (FloatKind.f32.nearest (1 + (i.1 : Int)))) (fv .f32 1107296256)) (fv .f32 0)) = true := by decide +kernel
theorem near_ok {c : Int} (h0 : 0 ≤ c) (h1 : c < 8) : finB (fbin .quo .f32 (some (FloatKind.f32.nearest (1 + c))) (fv .f32 1107296256)) = true ∧ cmpB .geq (fcmp .f32 (fbin .quo .f32 (some (FloatKind.f32.nearest (1 + c))) (fv .f32 1107296256)) (fv .f32 0)) = true := by
  have := near_ok0 ⟨c.toNat, by omega⟩
  rw [show ((⟨c.toNat, by omega⟩ : Fin 8).1 : Int) = c from Int.toNat_of_nonneg h0] at this
  exact this
end Go.Ab
namespace Go.Ab
open Go.Proofs
variable {R : World → Prop} [RStab R]
section
variable {P : Program} {N : Nat} {S : World → Prop} {e : Env} {Q : Exit → Env → World → Prop}
variable {w0 : World} {gs : List Nat} {H : List Ent} {t : TypeId}
/-- Two values are what is returned; of the first, nothing is told. -/
theorem done_retU2 {R0 : World → Prop} {X : Type} {mk : X → AV} {post : X → List Ent} {good : X → Prop} {fn : Func} {t1 t2 : Tmp} {x1 x2 : AV} (hr : fn.results = #[.tmp t1, .tmp t2]) (y : X) (hmk : mk y = .tup [AV.unk, x2]) (h1 : e.look t1 = some x1) (h2 : e.look t2 = some x2) (hy : good y) (hs : (post y).Sublist H) :
    Done .ret e (StR R0 w0 gs H) (Ret P fn N w0 gs mk post good) := fun w hw =>
  ⟨.inl rfl, y, hy, hw.mod, fun x hx => ⟨(hw.own x (hs.subset hx)).2, (hw.own x (hs.subset hx)).1⟩, (hw.weak hs).nodup, fun a hF => by
    obtain ⟨u1, hu1, hr1⟩ := hF.rel t1 _ h1
    obtain ⟨u2, hu2, hr2⟩ := hF.rel t2 _ h2
    refine ⟨.tuple #[u1, u2], by simp [results, hr, hu1, hu2], ?_⟩
    rw [hmk]
    exact .tup (vs := [u1, u2]) (.cons (.q trivial) (.cons hr2 .nil))⟩
end
/-- A pointer to a curve that came in. -/
theorem Takes.crvPI {R0 : World → Prop} {w0 : World} {H : List Ent} {args : List AV} {A' : World → List AV} {n : Nat} {F : Nat → CV} {f : Int → FV} (h : Takes (StR R0 w0 [] H) args A') : Takes (StR R0 w0 [] H) (crvP w0 n F f :: args) (fun w => crvP w n F f :: A' w) := fun w vs hS hr => by
  obtain ⟨v, r, rfl, hv, hrr⟩ := hr.inv_cons
  obtain ⟨_, bb, hv, hsp, hx⟩ := hv.inv_p
  refine .cons (.p (mono_ptrTo _) ⟨bb, hv, hsp, fun i x hi => ?_⟩) (h w r hS hrr)
  match i, hi with
  | 0, hi =>
    cases hi
    obtain ⟨u, hu, hev⟩ := hx 0 _ rfl
    exact ⟨u, hu, fun w' => .q (hS.rd (hev w').inv_q)⟩
  | 1, hi =>
    cases hi
    obtain ⟨u, hu, hev⟩ := hx 1 _ rfl
    exact ⟨u, hu, fun w' => .q (hS.rd (hev w').inv_q)⟩
attribute [local irreducible] WS RS Done OpJ Then InBlock Round Ret Env.sub FnH
attribute [local irreducible] tab tabC crvsC
theorem l05Give_fn {k : Nat} {Q : Nat → Nat → CV} (hk : k ≤ 48) (hQ : ∀ i, i < k → (tabC 4 (Q i)).all finC = true) : Fn Tryz.prog 18 (fun w => [crvsA w Q k]) (.tup [AV.unk, .raw (.bool true)]) := by
  refine fn_intro Tryz.func18 rfl Tryz.ntmps18 (fun _ => Nat.le_of_ble_eq_true rfl) fun w0 => ?_
  repeat first | refine zaa rfl (zay rfl) ?_ | refine zaa rfl (zaz rfl) ?_ | refine zah ?_ | (refine zcr ?_; refine zcs ?_) | (refine zdb ?_; first | refine zdc ?_ | refine zdd ?_ | refine zde ?_) | refine zaa rfl (opj_lenV rfl) ?_
  refine ws_loop (ι := Nat) (fun j => [(0, crvsA w0 Q k), (6, .raw (.int .i64 k)), (7, .raw (.int .i64 j))]) (fun _ => St w0 [] []) (fun j => j ≤ k) (fun j => k - j) 0 (Nat.zero_le _) ?_ (fun _ h => h) (fun j hj => ?_)
  · (repeat (first | exact Env.sub_nil _ | refine Env.sub_cons rfl ?_))
  repeat first | (refine zac ?_; refine zaa rfl (zbe rfl rfl) ?_) | refine zah ?_ | (refine zcr ?_; refine zcs ?_) | (refine zdb ?_; first | refine zdc ?_ | refine zdd ?_)
  refine ws_cond rfl (fun hd => ?_) (fun hd => ?_)
  · have hlt : (j : Int) < k := of_decide_eq_true hd
    have hV := l02Is_yes (n := 4) (P := Q j) (f := fun _ => one1) (by omega) (hQ j (by omega)) (by decide +kernel)
    repeat first | refine zaa rfl (zay rfl) ?_ | refine zaa rfl (zaz rfl) ?_ | (refine zac ?_; refine zaa rfl (zbb rfl rfl (by omega)) ?_) | (refine zaf ?_; refine zaa rfl (opj_indexV (i := (j : Int)) rfl rfl (by omega) hlt) ?_) | refine zaa rfl (zcc rfl) ?_ | refine zah ?_ | (refine zcr ?_; first | refine zcs ?_ | refine zcv ?_) | (refine zdb ?_; first | refine zdc ?_ | refine zdd ?_ | refine zde ?_ | refine zdf ?_ | refine zdj rfl ?_) | refine zaa rfl (zci rfl rfl hV (Takes.crvPI Takes.nil)) ?_
    refine done_round (j + 1) (by omega) (by omega) ?_ (fun _ h => h)
    rw [show ((j + 1 : Nat) : Int) = (j : Int) + 1 by omega]
    (repeat (first | exact Env.sub_nil _ | refine Env.sub_cons rfl ?_))
  · repeat first | refine zaa rfl (zay rfl) ?_ | refine zaa rfl (zaz rfl) ?_ | refine zah ?_ | (refine zcr ?_; first | refine zcs ?_ | refine zcu ?_ | refine zcx ?_ | refine zda ?_) | (refine zdb ?_; first | refine zdc ?_ | refine zdd ?_ | refine zdg ?_ | refine zdh ?_)
    exact done_retU2 rfl () rfl rfl rfl trivial (List.nil_sublist _)
end Go.Ab
