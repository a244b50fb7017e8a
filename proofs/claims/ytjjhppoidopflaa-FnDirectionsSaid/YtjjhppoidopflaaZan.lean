/- Part 14 of the texts on which the law leans, joined: What a row asks of the whole program: that its start may be entered. No conditions. -/
import Derived.Test.YtjjhppoidopflaaRows
import Derived.KernelRfl
import Derived.Test.YtjjhppoidopflaaZam
namespace Go.Ab
open Go.Proofs
variable {R : World → Prop} [RStab R]
theorem entC_lit4 (g : Nat) (F : Nat → CV) : (⟨g, 31, [cA (F 0), cA (F 1), cA (F 2), cA (F 3)], 4⟩ : Ent) = entC g 4 F 4 := by
  unfold entC tabC
  rfl
theorem longB_all {n : Nat} {P : Nat → CV} {m : Nat} (h : allLt (fun i => longB (subC2 (ptsE n P m (i + 1)) (ptsE n P m i))) m = true) : ∀ i, i + 1 < m + 1 → LongOk (subC2 (ptsE n P m (i + 1)) (ptsE n P m i)) := fun i hi => longB_ok (allLt_of h i (by omega))
attribute [local irreducible] WS RS Done OpJ Then InBlock Round Ret Env.sub FnH
attribute [local irreducible] tab tabC
set_option maxRecDepth 100000 in
set_option maxHeartbeats 40000000 in
theorem law_directions (L M : List By) : Fn Try.prog 3 (fun w => [slB w L, slB w M]) (.raw (.bool true)) := by
  have hlong := b10Long_fn L M
  cases hb : (decide ((1048576 : Int) < L.length) || decide ((1048576 : Int) < M.length)) <;> rw [hb] at hlong
  case' true =>
    refine fn_intro Try.func3 rfl Try.ntmps3 (fun _ => Nat.le_of_ble_eq_true rfl) fun w0 => ?_
    repeat first | refine zaa rfl (zay rfl) ?_ | refine zaa rfl (zaz rfl) ?_ | (refine zad ?_; (refine zaa rfl (zci rfl rfl (hlong) ?_) ?_; (focus ((repeat (first | exact Takes.nil | refine Takes.sl ?_ | refine Takes.lit ?_ | refine Takes.fa ?_ | refine Takes.fc ?_ | refine Takes.net ?_ | (refine Takes.ownE ?_ ?_ ?_ ?_ ?_; (focus (exact ⟨_, _, (by (repeat (first | exact mh | refine mt ?_)); done)⟩)); (focus (simp; done)); (focus omega); (focus (simp only [maxLen]; omega))) | refine Takes.same ?_)); done)))) | refine zah ?_ | (refine zcr ?_; first | refine zcs ?_ | refine zct ?_) | (refine zdb ?_; first | refine zdc ?_ | refine zdd ?_ | refine zdg ?_ | refine zdi rfl ?_)
    exact done_ret1 rfl () rfl trivial (List.nil_sublist _)
  rw [Bool.or_eq_false_iff, decide_eq_false_iff_not, decide_eq_false_iff_not] at hb
  have hL : L.length < 2 ^ 40 := by omega
  have hM : M.length < 2 ^ 40 := by omega
  clear hb
  refine fn_intro Try.func3 rfl Try.ntmps3 (fun _ => Nat.le_of_ble_eq_true rfl) fun w0 => ?_
  repeat first | refine zaa rfl (zay rfl) ?_ | refine zaa rfl (zaz rfl) ?_ | (refine zac ?_; refine zaa rfl (zbb rfl rfl (by omega)) ?_) | (refine zad ?_; (refine zaa rfl (zci rfl rfl (hlong) ?_) ?_; (focus ((repeat (first | exact Takes.nil | refine Takes.sl ?_ | refine Takes.lit ?_ | refine Takes.fa ?_ | refine Takes.fc ?_ | refine Takes.net ?_ | (refine Takes.ownE ?_ ?_ ?_ ?_ ?_; (focus (exact ⟨_, _, (by (repeat (first | exact mh | refine mt ?_)); done)⟩)); (focus (simp; done)); (focus omega); (focus (simp only [maxLen]; omega))) | refine Takes.same ?_)); done)))) | refine zah ?_ | (refine zcr ?_; refine zcs ?_) | (refine zdb ?_; first | refine zdc ?_ | refine zdd ?_ | refine zdf ?_ | refine zdj rfl ?_) | (refine rs_call0 (b10At_fn M 0 3 (by omega) (by omega)) rfl rfl ?_ rfl ?_; (focus ((repeat (first | exact Takes.nil | refine Takes.sl ?_ | refine Takes.lit ?_ | refine Takes.fa ?_ | refine Takes.fc ?_ | refine Takes.net ?_ | (refine Takes.ownE ?_ ?_ ?_ ?_ ?_; (focus (exact ⟨_, _, (by (repeat (first | exact mh | refine mt ?_)); done)⟩)); (focus (simp; done)); (focus omega); (focus (simp only [maxLen]; omega))) | refine Takes.same ?_)); done)); rintro c0 ⟨hc1, hc2⟩)
  obtain ⟨n, hN0⟩ : ∃ n : Nat, 2 + c0 = (n : Int) - 1 := ⟨(3 + c0).toNat, by omega⟩
  rw [hN0]
  have hn3 : 3 ≤ n ∧ n ≤ 5 := by omega
  have hn : 2 ≤ n ∧ n ≤ 5 := by omega
  clear hN0 hc1 hc2
  have hC := b10Curve_fn L n (by omega) hL
  refine rs_callM3 hC rfl rfl ?_ rfl ?_
  · (repeat (first | exact Takes.nil | refine Takes.sl ?_ | refine Takes.lit ?_ | refine Takes.fa ?_ | refine Takes.fc ?_ | refine Takes.net ?_ | (refine Takes.ownE ?_ ?_ ?_ ?_ ?_; (focus (exact ⟨_, _, (by (repeat (first | exact mh | refine mt ?_)); done)⟩)); (focus (simp; done)); (focus omega); (focus (simp only [maxLen]; omega))) | refine Takes.same ?_)); done
  rintro ⟨ga, gb, ca, cb, P, a, b⟩ ⟨⟨hca, hcb⟩, hdq⟩
  dsimp only at hca hcb hdq ⊢
  repeat first | refine zaa rfl (zay rfl) ?_ | refine zaa rfl (zaz rfl) ?_ | (refine zac ?_; refine zaa rfl (zba rfl rfl rfl) ?_) | (refine zae ?_; refine zaa rfl (zcg rfl rfl (by (repeat (first | exact mh | refine mt ?_)); done) rfl rfl) ?_) | refine zaa rfl (zby rfl) ?_ | refine zah ?_ | (refine zcr ?_; refine zcs ?_) | (refine zdb ?_; first | refine zdc ?_ | refine zdd ?_) | (refine zal rfl rfl ?_; intro g) | (refine zag ?_; refine zan 0 rfl rfl rfl rfl rfl rfl rfl rfl rfl ?_) | (refine rs_call0 (b10At_fn M 1 9 (by omega) (by omega)) rfl rfl ?_ rfl ?_; (focus ((repeat (first | exact Takes.nil | refine Takes.sl ?_ | refine Takes.lit ?_ | refine Takes.fa ?_ | refine Takes.fc ?_ | refine Takes.net ?_ | (refine Takes.ownE ?_ ?_ ?_ ?_ ?_; (focus (exact ⟨_, _, (by (repeat (first | exact mh | refine mt ?_)); done)⟩)); (focus (simp; done)); (focus omega); (focus (simp only [maxLen]; omega))) | refine Takes.same ?_)); done)); rintro k0 ⟨hk1, hk2⟩)
  obtain ⟨k, hk0⟩ : ∃ k : Nat, k0 = (k : Int) := ⟨k0.toNat, by omega⟩
  subst hk0
  have et : fbin .quo .f32 (some (FloatKind.f32.nearest (k : Int))) (fv .f32 1090519040) = te (k : Int) := rfl
  rw [et]
  have hT := te_tm k (by omega)
  clear et hk1 hk2 hC hlong
  obtain ⟨g5, hg5⟩ : ∃ x, x = g := ⟨g, rfl⟩
  subst hg5
  have hPf := (hdq.pv hn).fin
  have h1a := (wts_one n).above
  have hTm := isTime_yes hT.v ⟨hT.lo, hT.hi⟩
  have hTs := l02Share_yes hT.v ⟨hT.lo, hT.hi⟩
  obtain ⟨w1, w2, w3, w4, u, v, vu, vv, bu, bv, s1, s2⟩ := hdq.way hT hn
  obtain ⟨p1, x, y, vx, vy, bx, by_⟩ := hdq.at hT hn
  have f1 := specWayAt_fn (by omega) hPf h1a hTs w1 w2 w3 w4
  have f2 := wayAt_fn (by omega) hPf h1a hTm w1 w2 w3 w4
  have f4 : Fn Try.prog 10 (fun w => [crvA w n P (fun _ => one1), .f .f32 (te (k : Int))]) (.tup [cA (pointP n P (fun _ => one1) (te (k : Int))), .raw (.bool true)]) := specCurveAt_fn (by omega) hPf h1a hTs p1
  refine RS.weakS (e' := [(49, .f .f32 (te (k : Int))), (48, crvOc ga gb n ca cb), (6, .f .f32 (te (k : Int))), (5, .raw (.pointer (some ⟨g5, 0, none⟩))), (1, slB w0 M)]) ?_ ?_
  rotate_left
  · (repeat (first | exact Env.sub_nil _ | refine Env.sub_cons rfl ?_))
  refine RS.drop (H' := [⟨g5, 27, [.raw (.slice (some ⟨ga, 0, none⟩) n ca), .raw (.slice (some ⟨gb, 0, none⟩) n cb)], 2⟩, entF gb 30 n (fun _ => one1) cb, entC ga n P ca]) ?_ ?_
  rotate_left
  · exact List.Sublist.refl _
  repeat first | refine zaa rfl (zay rfl) ?_ | refine zaa rfl (zaz rfl) ?_ | (refine zac ?_; first | refine zaa rfl (zba rfl rfl rfl) ?_ | refine zaa rfl (zbc rfl rfl (by omega)) ?_) | (refine zae ?_; refine zaa rfl (zcg rfl rfl (by (repeat (first | exact mh | refine mt ?_)); done) rfl rfl) ?_) | refine zaa rfl (zby rfl) ?_ | refine zaa rfl (zbz rfl rfl) ?_ | refine zah ?_ | (refine zcr ?_; refine zcs ?_) | (refine zdb ?_; first | refine zdc ?_ | refine zdd ?_) | refine zaa rfl (zci rfl rfl f1 (Takes.crvOc (mt (mt mh)) (mt mh) hca hcb (Takes.same Takes.nil))) ?_ | refine zaa rfl (zci rfl rfl f2 (Takes.crvOc (mt (mt mh)) (mt mh) hca hcb (Takes.same Takes.nil))) ?_ | (refine rs_call0 (b10At_fn M 2 9 (by omega) (by omega)) rfl rfl ?_ rfl ?_; (focus ((repeat (first | exact Takes.nil | refine Takes.sl ?_ | refine Takes.lit ?_ | refine Takes.fa ?_ | refine Takes.fc ?_ | refine Takes.net ?_ | (refine Takes.ownE ?_ ?_ ?_ ?_ ?_; (focus (exact ⟨_, _, (by (repeat (first | exact mh | refine mt ?_)); done)⟩)); (focus (simp; done)); (focus omega); (focus (simp only [maxLen]; omega))) | refine Takes.same ?_)); done)); rintro r0 ⟨hr1, hr2⟩)
  obtain ⟨r, hr0⟩ : ∃ r : Int, r0 - 4 = r := ⟨_, rfl⟩
  have hr : -4 ≤ r ∧ r ≤ 4 := by omega
  rw [hr0]
  clear hr0 hr1 hr2
  have er : fbin .quo .f32 (some (FloatKind.f32.nearest r)) (fv .f32 1082130432) = qtF r := rfl
  rw [er]
  clear er
  obtain ⟨b1, b2, b3⟩ := beside_near vx vy bx by_ vu vv s1 s2 bu bv r hr
  obtain ⟨o1, o2⟩ := near_one vu vv s1 s2 bu bv
  have hq : Vl .f32 (qtF r) ((r : Rat) / 4) := quarter_vl (by omega)
  have f3 := besideAt_fn (by_ := qtF r) (by omega) hPf h1a hTm w1 w2 w3 w4 p1 (vl_fin hq) b1
  obtain ⟨U, hU⟩ : ∃ U, U = unitC (slopeP n P (fun _ => one1) (te (k : Int))) := ⟨_, rfl⟩
  obtain ⟨Z, hZ⟩ : ∃ Z, Z = pointP n P (fun _ => one1) (te (k : Int)) := ⟨_, rfl⟩
  obtain ⟨B, hB⟩ : ∃ B, B = addC2 Z (scaleC (negC U) (qtF r)) := ⟨_, rfl⟩
  rw [← hU] at o1 o2 ⊢
  rw [← hU, ← hZ, ← hB] at f3 b2 b3
  rw [← hZ] at f4
  clear b1 hU hB w1 w2 w3 w4 vu vv vx vy s1 s2 p1 f1 f2 hq hZ
  repeat first | refine zai rfl rfl ?_ | refine zaa rfl (zay rfl) ?_ | refine zaa rfl (zaz rfl) ?_ | (refine zac ?_; refine zaa rfl (zbl rfl rfl) ?_) | (refine zae ?_; refine zaa rfl (zcg rfl rfl (by (repeat (first | exact mh | refine mt ?_)); done) rfl rfl) ?_) | refine zaa rfl (zbz rfl rfl) ?_ | refine zaa rfl (zcb rfl rfl) ?_ | refine zaa rfl (zcc rfl) ?_ | refine zah ?_ | (refine zcr ?_; refine zcs ?_) | (refine zdb ?_; first | refine zdc ?_ | refine zdd ?_ | refine zdf ?_ | refine zdj rfl ?_) | refine zaa rfl (zci rfl rfl f3 (Takes.crvOc (mt (mt mh)) (mt mh) hca hcb (Takes.same (Takes.same Takes.nil)))) ?_ | refine zaa rfl (zci rfl rfl f4 (Takes.crvOc (mt (mt mh)) (mt mh) hca hcb (Takes.same Takes.nil))) ?_
  have l1 := specLongOf_fn U o1
  have l2 := specLongOf_fn (subC2 B Z) b2
  have n1 := b10Gap_fn (fconv .f32 .f64 (longC U)) one64
  have n2 := b10Gap_fn (fconv .f32 .f64 (qtF r)) (fv .f64 0)
  have n3 := b10Gap_fn (fconv .f32 .f64 (longC (subC2 B Z))) (gapF (fconv .f32 .f64 (qtF r)) (fv .f64 0))
  unfold one64 at n1
  unfold cTh one64 at o2
  unfold cTh at b3
  repeat first | refine zai rfl rfl ?_ | refine zaa rfl (zay rfl) ?_ | (refine zac ?_; refine zaa rfl (zbd rfl rfl rfl) ?_) | (refine zad ?_; first | (refine zaa rfl (zci rfl rfl (l1) ?_) ?_; (focus ((repeat (first | exact Takes.nil | refine Takes.sl ?_ | refine Takes.lit ?_ | refine Takes.fa ?_ | refine Takes.fc ?_ | refine Takes.net ?_ | (refine Takes.ownE ?_ ?_ ?_ ?_ ?_; (focus (exact ⟨_, _, (by (repeat (first | exact mh | refine mt ?_)); done)⟩)); (focus (simp; done)); (focus omega); (focus (simp only [maxLen]; omega))) | refine Takes.same ?_)); done))) | (refine zaa rfl (zci rfl rfl (n1) ?_) ?_; (focus ((repeat (first | exact Takes.nil | refine Takes.sl ?_ | refine Takes.lit ?_ | refine Takes.fa ?_ | refine Takes.fc ?_ | refine Takes.net ?_ | (refine Takes.ownE ?_ ?_ ?_ ?_ ?_; (focus (exact ⟨_, _, (by (repeat (first | exact mh | refine mt ?_)); done)⟩)); (focus (simp; done)); (focus omega); (focus (simp only [maxLen]; omega))) | refine Takes.same ?_)); done)))) | refine zaa rfl (zbx rfl) ?_
  rw [o2]
  repeat first | refine zai rfl rfl ?_ | refine zaa rfl (zay rfl) ?_ | (refine zac ?_; first | refine zaa rfl (zbd rfl rfl rfl) ?_ | refine zaa rfl (opj_csub rfl rfl) ?_) | (refine zad ?_; first | (refine zaa rfl (zci rfl rfl (l2) ?_) ?_; (focus ((repeat (first | exact Takes.nil | refine Takes.sl ?_ | refine Takes.lit ?_ | refine Takes.fa ?_ | refine Takes.fc ?_ | refine Takes.net ?_ | (refine Takes.ownE ?_ ?_ ?_ ?_ ?_; (focus (exact ⟨_, _, (by (repeat (first | exact mh | refine mt ?_)); done)⟩)); (focus (simp; done)); (focus omega); (focus (simp only [maxLen]; omega))) | refine Takes.same ?_)); done))) | (refine zaa rfl (zci rfl rfl (n2) ?_) ?_; (focus ((repeat (first | exact Takes.nil | refine Takes.sl ?_ | refine Takes.lit ?_ | refine Takes.fa ?_ | refine Takes.fc ?_ | refine Takes.net ?_ | (refine Takes.ownE ?_ ?_ ?_ ?_ ?_; (focus (exact ⟨_, _, (by (repeat (first | exact mh | refine mt ?_)); done)⟩)); (focus (simp; done)); (focus omega); (focus (simp only [maxLen]; omega))) | refine Takes.same ?_)); done))) | (refine zaa rfl (zci rfl rfl (n3) ?_) ?_; (focus ((repeat (first | exact Takes.nil | refine Takes.sl ?_ | refine Takes.lit ?_ | refine Takes.fa ?_ | refine Takes.fc ?_ | refine Takes.net ?_ | (refine Takes.ownE ?_ ?_ ?_ ?_ ?_; (focus (exact ⟨_, _, (by (repeat (first | exact mh | refine mt ?_)); done)⟩)); (focus (simp; done)); (focus omega); (focus (simp only [maxLen]; omega))) | refine Takes.same ?_)); done)))) | refine zaa rfl (zbx rfl) ?_ | refine zaa rfl (zca rfl rfl) ?_ | refine zaa rfl (zcb rfl rfl) ?_ | refine zah ?_ | (refine zcr ?_; refine zcs ?_)
  rw [b3]
  repeat first | refine zaa rfl (zay rfl) ?_ | refine zaa rfl (zaz rfl) ?_ | (refine zac ?_; first | refine zaa rfl (zba rfl rfl rfl) ?_ | refine zaa rfl (zbb rfl rfl (by omega)) ?_) | (refine zad ?_; refine zaa rfl (zbr rfl rfl) ?_) | refine zaa rfl (zby rfl) ?_ | refine zah ?_ | (refine zcr ?_; refine zcs ?_) | (refine zdb ?_; first | refine zdc ?_ | refine zdd ?_ | refine zdf ?_ | refine zdj rfl ?_) | (refine rs_call0 (b10At_fn M 3 8 (by omega) (by omega)) rfl rfl ?_ rfl ?_; (focus ((repeat (first | exact Takes.nil | refine Takes.sl ?_ | refine Takes.lit ?_ | refine Takes.fa ?_ | refine Takes.fc ?_ | refine Takes.net ?_ | (refine Takes.ownE ?_ ?_ ?_ ?_ ?_; (focus (exact ⟨_, _, (by (repeat (first | exact mh | refine mt ?_)); done)⟩)); (focus (simp; done)); (focus omega); (focus (simp only [maxLen]; omega))) | refine Takes.same ?_)); done)); rintro A0 ⟨ha1, ha2⟩)
  obtain ⟨A, hA0⟩ : ∃ A : Nat, A0 = (A : Int) := ⟨A0.toNat, by omega⟩
  subst hA0
  have hA : A < 8 := by omega
  have ea : fbin .quo .f32 (some (FloatKind.f32.nearest (1 + (A : Int)))) (fv .f32 1082130432) = aF A := by unfold aF qtF; rw [Int.add_comm]
  rw [ea]
  clear ea ha1 ha2 l1 l2 n1 n2 n3 o1 o2 b2 b3 f3 f4 hPf h1a hTm hTs hdq bu bv bx by_ hT
  have kB := allLt_of bowl_all A hA
  have kE := allLt_of en_all A hA
  have kW := allLt_of wave_all A hA
  have kZ := allLt_of end_all A hA
  obtain ⟨aa, haa⟩ : ∃ aa, aa = aF A := ⟨_, rfl⟩
  rw [← haa] at kB kE kW kZ ⊢
  clear haa
  refine RS.weakS (e' := [(117, .c .f32 (fv .f32 1065353216) (fbin .mul .f32 (fv .f32 1073741824) aa)), (16, .f .f32 aa)]) ?_ ?_
  rotate_left
  · (repeat (first | exact Env.sub_nil _ | refine Env.sub_cons rfl ?_))
  refine RS.drop (H' := []) ?_ ?_
  rotate_left
  · exact List.nil_sublist _
  clear n hn hn3 ga gb ca cb P a b hca hcb k g5 U Z B r hr u v x y hA A
  unfold bowlAll bowlOk at kB
  unfold enOk at kE
  unfold waveAll at kW
  unfold endAll at kZ
  simp only [Bool.and_eq_true, decide_eq_true_eq] at kB kE kW kZ
  obtain ⟨⟨⟨⟨⟨⟨⟨⟨⟨⟨q1, q2⟩, q3⟩, q4⟩, q5⟩, q6⟩, q7⟩, q8⟩, q9⟩, q10⟩, ⟨⟨r1, r2⟩, -⟩, r4⟩ := kB
  obtain ⟨⟨⟨e1, e2⟩, e3⟩, e4⟩ := kE
  obtain ⟨⟨⟨⟨v1, v2⟩, v3⟩, v4⟩, v5⟩ := kW
  obtain ⟨⟨⟨⟨⟨z1, z2⟩, z3⟩, z4⟩, z5⟩, z6⟩ := kZ
  have hP1 := specPlainCurve_fn (n := 3) (P := bowlP aa) (by omega) q1
  have hP2 := specPlainCurve_fn (n := 4) (P := waveP aa) (by omega) v1
  have hb3 : ∀ t, fOk3 (bowlP aa) t = true → Fn Try.prog 14 (fun w => [crvA w 3 (bowlP aa) (fun _ => one1), .f .f32 t]) (.tup [.f .f32 (f3F (bowlP aa) t), .raw (.bool true)]) := fun t ht => by
    unfold fOk3 at ht
    rw [Bool.and_eq_true] at ht
    exact bendOf3_fn q1 q2 ht.1 ht.2
  have hb4 : ∀ t, fOk4 (waveP aa) t = true → Fn Try.prog 14 (fun w => [crvA w 4 (waveP aa) (fun _ => one1), .f .f32 t]) (.tup [.f .f32 (f4F (waveP aa) t), .raw (.bool true)]) := fun t ht => by
    unfold fOk4 at ht
    rw [Bool.and_eq_true] at ht
    exact bendOf4_fn v1 v2 v3 ht.1 ht.2
  have hBe : Fn Try.prog 14 (fun w => [crvA w 3 (bowlP aa) (fun _ => one1), .f .f32 (fv .f32 1056964608)]) (.tup [.f .f32 (bendA aa), .raw (.bool true)]) := bendOf3_fn q1 q2 q3 q4
  have hBb : Fn Try.prog 14 (fun w => [crvA w 3 (backP 3 (bowlP aa)) (fun _ => one1), .f .f32 (fv .f32 1056964608)]) (.tup [.f .f32 (bendB aa), .raw (.bool true)]) := bendOf3_fn r1 r2 q3 r4
  have hEd := edgesOf_fn (n := 3) (m := 7) (P := bowlP aa) (ok := eOk (bowlP aa)) (v := fun t => bp3 (bowlP aa) t) (by omega) (by omega) q1 q2 (fun t ht => by
    unfold eOk at ht
    rw [Bool.and_eq_true] at ht
    exact curveAt_fn (n := 2) (P := diffP 3 (bowlP aa)) (f := fun _ => one1) (t := t) (by omega) q2 (wts_one 2).above (isTime_B ht.1) ht.2) q5 q6 q7 q8
  have hFl := flexesOf_fn (n := 3) (m := 8) (by omega) (by omega) q1 hb3 q9
  rw [q10] at hFl
  have hEn := bentEnergy_fn (n := 3) (m := 16) (by omega) (by omega) q1 e1 (longB_all e2) hb3 (fun i hi => allLt_of e3 i hi) e4
  have hBk := backCurve_fn (n := 3) (P := bowlP aa) (by omega) q1
  have hFw := flexesOf_fn (n := 4) (m := 7) (by omega) (by omega) v1 hb4 v4
  rw [v5] at hFw
  refine rs_litP (xs := [cA (bowlP aa 0), cA (bowlP aa 1), cA (bowlP aa 2)]) (t := 24) rfl rfl rfl rfl rfl rfl fun g0 => ?_
  rw [entC_lit3 g0 (bowlP aa)]
  refine rs_callM3 hP1 rfl rfl (Takes.ownE ⟨_, _, mh⟩ (by simp) (Nat.le_refl _) (by simp only [maxLen]; decide) Takes.nil) rfl ?_
  rintro ⟨⟨ba, bb⟩, ca, cb⟩ ⟨hca, hcb⟩
  dsimp only at hca hcb ⊢
  repeat first | refine zaa rfl (zay rfl) ?_ | refine zaa rfl (zaz rfl) ?_ | (refine zae ?_; refine zaa rfl (zcg rfl rfl (by (repeat (first | exact mh | refine mt ?_)); done) rfl rfl) ?_) | refine zaa rfl (zbz rfl rfl) ?_ | refine zah ?_ | (refine zcr ?_; refine zcs ?_) | (refine zdb ?_; first | refine zdc ?_ | refine zdd ?_) | (refine zal rfl rfl ?_; intro g) | (refine zag ?_; refine zan 0 rfl rfl rfl rfl rfl rfl rfl rfl rfl ?_) | refine zaa rfl (zci rfl rfl hBe (Takes.crvOc (mt (mt mh)) (mt mh) hca hcb (Takes.same Takes.nil))) ?_
  obtain ⟨g17, hg17⟩ : ∃ x, x = g := ⟨g, rfl⟩
  subst hg17
  refine RS.weakS (e' := [(128, crvOc ba bb 3 ca cb), (16, .f .f32 aa), (17, .raw (.pointer (some ⟨g17, 0, none⟩))), (18, .raw (.bool true)), (19, .f .f32 (bendA aa)), (20, .raw (.bool true))]) ?_ ?_
  rotate_left
  · (repeat (first | exact Env.sub_nil _ | refine Env.sub_cons rfl ?_))
  refine RS.drop (H' := [⟨g17, 27, [.raw (.slice (some ⟨ba, 0, none⟩) 3 ca), .raw (.slice (some ⟨bb, 0, none⟩) 3 cb)], 2⟩, entF bb 30 3 (fun _ => one1) cb, entC ba 3 (bowlP aa) ca]) ?_ ?_
  rotate_left
  · exact .cons_cons _ (.cons_cons _ (.cons_cons _ (List.nil_sublist _)))
  obtain ⟨HB, hHB⟩ : ∃ HB : List Ent, HB = [⟨g17, 27, [.raw (.slice (some ⟨ba, 0, none⟩) 3 ca), .raw (.slice (some ⟨bb, 0, none⟩) 3 cb)], 2⟩, entF bb 30 3 (fun _ => one1) cb, entC ba 3 (bowlP aa) ca] := ⟨_, rfl⟩
  have mB : (⟨g17, 27, [.raw (.slice (some ⟨ba, 0, none⟩) 3 ca), .raw (.slice (some ⟨bb, 0, none⟩) 3 cb)], 2⟩ : Ent) ∈ HB := by rw [hHB]; exact mh
  have mBf : entF bb 30 3 (fun _ => one1) cb ∈ HB := by rw [hHB]; exact mt mh
  have mBc : entC ba 3 (bowlP aa) ca ∈ HB := by rw [hHB]; exact mt (mt mh)
  rw [← hHB]
  clear hHB
  refine rs_callM3 hEd rfl rfl (Takes.crvOc mBc mBf hca hcb (Takes.same Takes.nil)) rfl ?_
  rintro ⟨x1, d1⟩ hd1
  dsimp only at hd1 ⊢
  repeat first | refine zaa rfl (zay rfl) ?_ | refine zaa rfl (zaz rfl) ?_ | refine zaa rfl (zbz rfl rfl) ?_ | refine zah ?_ | (refine zcr ?_; refine zcs ?_) | (refine zdb ?_; first | refine zdc ?_ | refine zdd ?_) | refine zaa rfl (zcg (T := 27) rfl rfl (mt mB) rfl rfl) ?_
  refine rs_callM3 hFl rfl rfl (Takes.crvOc (mt mBc) (mt mBf) hca hcb (Takes.same Takes.nil)) rfl ?_
  rintro ⟨x2, d2⟩ hd2
  dsimp only at hd2 ⊢
  repeat first | refine zaa rfl (zay rfl) ?_ | refine zaa rfl (zaz rfl) ?_ | refine zaa rfl (zbz rfl rfl) ?_ | refine zah ?_ | (refine zcr ?_; refine zcs ?_) | (refine zdb ?_; first | refine zdc ?_ | refine zdd ?_) | refine zaa rfl (zcg (T := 27) rfl rfl (mt (mt mB)) rfl rfl) ?_ | refine zaa rfl (zci rfl rfl hEn (Takes.crvOc (mt (mt mBc)) (mt (mt mBf)) hca hcb (Takes.same Takes.nil))) ?_
  refine rs_callM3 hBk rfl rfl (Takes.crvOc (mt (mt mBc)) (mt (mt mBf)) hca hcb Takes.nil) rfl ?_
  rintro ⟨⟨ka, kb⟩, kca, kcb⟩ ⟨hkca, hkcb⟩
  dsimp only at hkca hkcb ⊢
  repeat first | refine zaa rfl (zay rfl) ?_ | refine zaa rfl (zaz rfl) ?_ | (refine zad ?_; refine zaa rfl (zbr rfl rfl) ?_) | (refine zae ?_; refine zaa rfl (zcg rfl rfl (by (repeat (first | exact mh | refine mt ?_)); done) rfl rfl) ?_) | refine zaa rfl (zbz rfl rfl) ?_ | refine zah ?_ | (refine zcr ?_; refine zcs ?_) | (refine zdb ?_; first | refine zdc ?_ | refine zdd ?_) | (refine zal rfl rfl ?_; intro g) | (refine zag ?_; refine zan 0 rfl rfl rfl rfl rfl rfl rfl rfl rfl ?_) | refine zaa rfl (zci rfl rfl hBb (Takes.crvOc (mt mh) (mt (mt mh)) hkca hkcb (Takes.same Takes.nil))) ?_
  refine RS.weakS (e' := [(155, .f .f32 aa), (154, .c .f32 (fv .f32 1065353216) aa), (16, .f .f32 aa), (18, .raw (.bool true)), (19, .f .f32 (bendA aa)), (20, .raw (.bool true)), (21, .raw (.slice (some ⟨x1, 0, none⟩) 1 d1)), (22, .raw (.bool true)), (23, .raw (.slice (some ⟨x2, 0, none⟩) 0 d2)), (24, .raw (.bool true)), (25, .f .f32 (enF 16 (f3F (bowlP aa)) (lngF (ptsE 3 (bowlP aa) 16)) 16)), (26, .raw (.bool true)), (28, .raw (.bool true)), (29, .f .f32 (bendB aa)), (30, .raw (.bool true))]) ?_ ?_
  rotate_left
  · (repeat (first | exact Env.sub_nil _ | refine Env.sub_cons rfl ?_))
  refine RS.drop (H' := [entF x1 30 1 (fnB (e2F (bowlP aa)) 7 7) d1]) ?_ ?_
  rotate_left
  · exact .cons _ (.cons _ (.cons _ (.cons _ (.cons_cons _ (List.nil_sublist _)))))
  repeat first | (refine zad ?_; refine zaa rfl (zbr rfl rfl) ?_) | refine zaa rfl (opj_neg rfl) ?_
  refine rs_litP (xs := [cA (waveP aa 0), cA (waveP aa 1), cA (waveP aa 2), cA (waveP aa 3)]) (t := 24) rfl rfl rfl rfl rfl rfl fun g0 => ?_
  rw [entC_lit4 g0 (waveP aa)]
  refine rs_callM3 hP2 rfl rfl (Takes.ownE ⟨_, _, mh⟩ (by simp) (Nat.le_refl _) (by simp only [maxLen]; decide) Takes.nil) rfl ?_
  rintro ⟨⟨wa, wb⟩, wca, wcb⟩ ⟨hwca, hwcb⟩
  dsimp only at hwca hwcb ⊢
  repeat first | refine zaa rfl (zay rfl) ?_ | refine zaa rfl (zaz rfl) ?_ | (refine zae ?_; refine zaa rfl (zcg rfl rfl (by (repeat (first | exact mh | refine mt ?_)); done) rfl rfl) ?_) | refine zaa rfl (zbz rfl rfl) ?_ | refine zah ?_ | (refine zcr ?_; refine zcs ?_) | (refine zdb ?_; first | refine zdc ?_ | refine zdd ?_) | (refine zal rfl rfl ?_; intro g) | (refine zag ?_; refine zan 0 rfl rfl rfl rfl rfl rfl rfl rfl rfl ?_)
  refine rs_callM3 hFw rfl rfl (Takes.crvOc (mt (mt mh)) (mt mh) hwca hwcb (Takes.same Takes.nil)) rfl ?_
  rintro ⟨x3, d3⟩ hd3
  dsimp only at hd3 ⊢
  repeat first | refine zai rfl rfl ?_ | refine zaa rfl (zay rfl) ?_ | refine zaa rfl (zaz rfl) ?_ | (refine zac ?_; first | refine zaa rfl (zbd rfl rfl rfl) ?_ | refine zaa rfl (zbj rfl rfl) ?_) | (refine zad ?_; refine zaa rfl (zbn rfl) ?_) | refine zaa rfl (zbz rfl rfl) ?_ | refine zaa rfl (zcb rfl rfl) ?_ | refine zaa rfl (zcc rfl) ?_ | refine zah ?_ | (refine zcr ?_; refine zcs ?_) | (refine zdb ?_; first | refine zdc ?_ | refine zdd ?_ | refine zdf ?_ | refine zdj rfl ?_)
  have y1 : cmpB .lss (fcmp .f32 (bendA aa) (fv .f32 0)) = true := z1
  have y2 : cmpB .lss (fcmp .f64 (gapF (fconv .f32 .f64 (bendA aa)) (fbin .mul .f64 (fv .f64 13835058055282163712) (fconv .f32 .f64 aa))) (fv .f64 4576918229304087675)) = true := z2
  have y3 : cmpB .lss (fcmp .f64 (gapF (fconv .f32 .f64 (bendB aa)) (fneg .f64 (fconv .f32 .f64 (bendA aa)))) (fv .f64 4576918229304087675)) = true := z3
  have y4 : cmpB .lss (fcmp .f64 (gapF (fconv .f32 .f64 (fnB (e2F (bowlP aa)) 7 7 0)) (fv .f64 4602678819172646912)) (fv .f64 4576918229304087675)) = true := z4
  have y5 : cmpB .gtr (fcmp .f32 (enF 16 (f3F (bowlP aa)) (lngF (ptsE 3 (bowlP aa) 16)) 16) (fv .f32 0)) = true := z5
  have y6 : cmpB .lss (fcmp .f64 (gapF (fconv .f32 .f64 (fnB (f4F (waveP aa)) 7 7 0)) (fv .f64 4602678819172646912)) (fv .f64 4576918229304087675)) = true := z6
  rw [y1]
  repeat first | refine zai rfl rfl ?_ | refine zaa rfl (zay rfl) ?_ | (refine zac ?_; first | refine zaa rfl (zba rfl rfl rfl) ?_ | refine zaa rfl (zbd rfl rfl rfl) ?_) | (refine zad ?_; refine zaa rfl (zci rfl rfl (b10Gap_fn _ _) (by (repeat (first | exact Takes.nil | refine Takes.sl ?_ | refine Takes.lit ?_ | refine Takes.fa ?_ | refine Takes.fc ?_ | refine Takes.net ?_ | (refine Takes.ownE ?_ ?_ ?_ ?_ ?_; (focus (exact ⟨_, _, (by (repeat (first | exact mh | refine mt ?_)); done)⟩)); (focus (simp; done)); (focus omega); (focus (simp only [maxLen]; omega))) | refine Takes.same ?_)); done)) ?_) | refine zaa rfl (zbx rfl) ?_ | refine zaa rfl (zca rfl rfl) ?_
  rw [y2]
  repeat first | refine zai rfl rfl ?_ | refine zaa rfl (zay rfl) ?_ | (refine zac ?_; refine zaa rfl (zbd rfl rfl rfl) ?_) | (refine zad ?_; refine zaa rfl (zci rfl rfl (b10Gap_fn _ _) (by (repeat (first | exact Takes.nil | refine Takes.sl ?_ | refine Takes.lit ?_ | refine Takes.fa ?_ | refine Takes.fc ?_ | refine Takes.net ?_ | (refine Takes.ownE ?_ ?_ ?_ ?_ ?_; (focus (exact ⟨_, _, (by (repeat (first | exact mh | refine mt ?_)); done)⟩)); (focus (simp; done)); (focus omega); (focus (simp only [maxLen]; omega))) | refine Takes.same ?_)); done)) ?_) | refine zaa rfl (zbx rfl) ?_ | refine zaa rfl (zca rfl rfl) ?_ | refine zaa rfl (opj_neg rfl) ?_
  rw [y3]
  repeat first | refine zai rfl rfl ?_ | refine zaa rfl (zay rfl) ?_ | (refine zac ?_; refine zaa rfl (zbd rfl rfl rfl) ?_) | (refine zad ?_; refine zaa rfl (zci rfl rfl (b10Gap_fn _ _) (by (repeat (first | exact Takes.nil | refine Takes.sl ?_ | refine Takes.lit ?_ | refine Takes.fa ?_ | refine Takes.fc ?_ | refine Takes.net ?_ | (refine Takes.ownE ?_ ?_ ?_ ?_ ?_; (focus (exact ⟨_, _, (by (repeat (first | exact mh | refine mt ?_)); done)⟩)); (focus (simp; done)); (focus omega); (focus (simp only [maxLen]; omega))) | refine Takes.same ?_)); done)) ?_) | (refine zae ?_; refine zaa rfl (zbt rfl rfl (by (repeat (first | exact mh | refine mt ?_)); done) (by omega)) ?_) | (refine zaf ?_; refine zaa rfl (zbw rfl rfl (by omega) (by omega)) ?_) | refine zaa rfl (zbx rfl) ?_ | refine zaa rfl (zca rfl rfl) ?_
  rw [y4]
  repeat first | refine zai rfl rfl ?_ | refine zaa rfl (zay rfl) ?_ | (refine zac ?_; refine zaa rfl (zbd rfl rfl rfl) ?_) | refine zaa rfl (zca rfl rfl) ?_
  rw [y5]
  repeat first | refine zai rfl rfl ?_ | refine zaa rfl (zay rfl) ?_ | refine zaa rfl (zaz rfl) ?_ | (refine zac ?_; refine zaa rfl (zbd rfl rfl rfl) ?_) | (refine zad ?_; refine zaa rfl (zci rfl rfl (b10Gap_fn _ _) (by (repeat (first | exact Takes.nil | refine Takes.sl ?_ | refine Takes.lit ?_ | refine Takes.fa ?_ | refine Takes.fc ?_ | refine Takes.net ?_ | (refine Takes.ownE ?_ ?_ ?_ ?_ ?_; (focus (exact ⟨_, _, (by (repeat (first | exact mh | refine mt ?_)); done)⟩)); (focus (simp; done)); (focus omega); (focus (simp only [maxLen]; omega))) | refine Takes.same ?_)); done)) ?_) | (refine zae ?_; refine zaa rfl (zbt rfl rfl (by (repeat (first | exact mh | refine mt ?_)); done) (by omega)) ?_) | (refine zaf ?_; refine zaa rfl (zbw rfl rfl (by omega) (by omega)) ?_) | refine zaa rfl (zbx rfl) ?_ | refine zaa rfl (zca rfl rfl) ?_ | refine zah ?_ | (refine zcr ?_; refine zcs ?_) | (refine zdb ?_; refine zdg ?_)
  rw [y6]
  skip
  exact done_ret1 rfl () rfl trivial (List.nil_sublist _)
end Go.Ab
namespace Go.Ab
open Go.Proofs
theorem k_enter : Try.prog.mayEnter = true := by kernel_rfl
end Go.Ab
