/- The law FnCurveMeets, walked. No conditions. -/
import Derived.Test.YtcbobcpbfdehhaaZat
namespace Go.Ab
open Go.Proofs
variable {R : World → Prop} [RStab R]
attribute [local irreducible] WS RS Done OpJ Then InBlock Round Ret Env.sub FnH
attribute [local irreducible] tab tabC
set_option maxRecDepth 100000 in
set_option maxHeartbeats 40000000 in
theorem law_meets (L M : List By) : Fn Try.prog 3 (fun w => [slB w L, slB w M]) (.raw (.bool true)) := by
  have hlong := b10Long_fn L M
  cases hb : (decide ((1048576 : Int) < L.length) || decide ((1048576 : Int) < M.length)) <;> rw [hb] at hlong
  case' true =>
    refine fn_intro Try.func3 rfl Try.ntmps3 (fun _ => Nat.le_of_ble_eq_true rfl) fun w0 => ?_
    repeat first | refine zaa rfl (zay rfl) ?_ | refine zaa rfl (zaz rfl) ?_ | (refine zad ?_; (refine zaa rfl (zci rfl rfl (hlong) ?_) ?_; (focus ((repeat (first | exact Takes.nil | refine Takes.sl ?_ | refine Takes.lit ?_ | refine Takes.fa ?_ | refine Takes.fc ?_ | refine Takes.net ?_ | (refine Takes.ownE ?_ ?_ ?_ ?_ ?_; (focus (exact ⟨_, _, (by (repeat (first | exact mh | refine mt ?_)); done)⟩)); (focus (simp; done)); (focus omega); (focus (simp only [maxLen]; omega))) | refine Takes.same ?_)); done)))) | refine zah ?_ | (refine zcr ?_; first | refine zcs ?_ | refine zct ?_) | (refine zdb ?_; first | refine zdc ?_ | refine zdd ?_ | refine zdg ?_ | refine zdi rfl ?_)
    exact done_ret1 rfl () rfl trivial (List.nil_sublist _)
  rw [Bool.or_eq_false_iff, decide_eq_false_iff_not, decide_eq_false_iff_not] at hb
  have hL : L.length < 2 ^ 40 := by omega
  have hM : M.length < 2 ^ 40 := by omega
  clear hb
  obtain ⟨n0, hn0, hn4⟩ := b10AtV_bd M 0 4 (by omega)
  obtain ⟨i1, hi1, hi9⟩ := b10AtV_bd M 1 9 (by omega)
  obtain ⟨i2, hi2, hj9⟩ := b10AtV_bd M 2 9 (by omega)
  obtain ⟨i3, hi3, hk4⟩ := b10AtV_bd M 3 4 (by omega)
  obtain ⟨i4, hi4, hl5⟩ := b10AtV_bd M 4 5 (by omega)
  have A0 := b10AtV_fn M 0 4 (by omega) (by omega)
  have A1 := b10AtV_fn M 1 9 (by omega) (by omega)
  have A2 := b10AtV_fn M 2 9 (by omega) (by omega)
  have A3 := b10AtV_fn M 3 4 (by omega) (by omega)
  have A4 := b10AtV_fn M 4 5 (by omega) (by omega)
  rw [hn0] at A0
  rw [hi1] at A1
  rw [hi2] at A2
  rw [hi3] at A3
  rw [hi4] at A4
  clear hn0 hi1 hi2 hi3 hi4
  refine fn_intro Try.func3 rfl Try.ntmps3 (fun _ => Nat.le_of_ble_eq_true rfl) fun w0 => ?_
  repeat first | refine zaa rfl (zay rfl) ?_ | refine zaa rfl (zaz rfl) ?_ | (refine zac ?_; refine zaa rfl (zbb rfl rfl (by omega)) ?_) | (refine zad ?_; first | (refine zaa rfl (zci rfl rfl (hlong) ?_) ?_; (focus ((repeat (first | exact Takes.nil | refine Takes.sl ?_ | refine Takes.lit ?_ | refine Takes.fa ?_ | refine Takes.fc ?_ | refine Takes.net ?_ | (refine Takes.ownE ?_ ?_ ?_ ?_ ?_; (focus (exact ⟨_, _, (by (repeat (first | exact mh | refine mt ?_)); done)⟩)); (focus (simp; done)); (focus omega); (focus (simp only [maxLen]; omega))) | refine Takes.same ?_)); done))) | (refine zaa rfl (zci rfl rfl (A0) ?_) ?_; (focus ((repeat (first | exact Takes.nil | refine Takes.sl ?_ | refine Takes.lit ?_ | refine Takes.fa ?_ | refine Takes.fc ?_ | refine Takes.net ?_ | (refine Takes.ownE ?_ ?_ ?_ ?_ ?_; (focus (exact ⟨_, _, (by (repeat (first | exact mh | refine mt ?_)); done)⟩)); (focus (simp; done)); (focus omega); (focus (simp only [maxLen]; omega))) | refine Takes.same ?_)); done)))) | refine zah ?_ | (refine zcr ?_; refine zcs ?_) | (refine zdb ?_; first | refine zdc ?_ | refine zdd ?_ | refine zdf ?_ | refine zdj rfl ?_)
  obtain ⟨n, hN0⟩ : ∃ n : Nat, 1 + (n0 : Int) = (n : Int) - 1 := ⟨n0 + 2, by omega⟩
  rw [hN0]
  have hn : 2 ≤ n ∧ n ≤ 5 := by omega
  clear hN0 hn4 A0
  have hC := b10Curve_fn L n (by omega) hL
  refine rs_callM3 hC rfl rfl ?_ rfl ?_
  · (repeat (first | exact Takes.nil | refine Takes.sl ?_ | refine Takes.lit ?_ | refine Takes.fa ?_ | refine Takes.fc ?_ | refine Takes.net ?_ | (refine Takes.ownE ?_ ?_ ?_ ?_ ?_; (focus (exact ⟨_, _, (by (repeat (first | exact mh | refine mt ?_)); done)⟩)); (focus (simp; done)); (focus omega); (focus (simp only [maxLen]; omega))) | refine Takes.same ?_)); done
  rintro ⟨ga, gb, ca, cb, P, a, b⟩ ⟨⟨hca, hcb⟩, hdq⟩
  dsimp only at hca hcb hdq ⊢
  clear hC
  repeat first | refine zaa rfl (zay rfl) ?_ | refine zaa rfl (zaz rfl) ?_ | (refine zac ?_; first | refine zaa rfl (zba rfl rfl rfl) ?_ | refine zaa rfl (zbb rfl rfl (by omega)) ?_ | refine zaa rfl (zbc rfl rfl (by omega)) ?_ | refine zaa rfl (opj_cadd rfl rfl) ?_) | (refine zad ?_; first | refine zaa rfl (zbr rfl rfl) ?_ | (refine zaa rfl (zci rfl rfl (A1) ?_) ?_; (focus ((repeat (first | exact Takes.nil | refine Takes.sl ?_ | refine Takes.lit ?_ | refine Takes.fa ?_ | refine Takes.fc ?_ | refine Takes.net ?_ | (refine Takes.ownE ?_ ?_ ?_ ?_ ?_; (focus (exact ⟨_, _, (by (repeat (first | exact mh | refine mt ?_)); done)⟩)); (focus (simp; done)); (focus omega); (focus (simp only [maxLen]; omega))) | refine Takes.same ?_)); done))) | (refine zaa rfl (zci rfl rfl (A2) ?_) ?_; (focus ((repeat (first | exact Takes.nil | refine Takes.sl ?_ | refine Takes.lit ?_ | refine Takes.fa ?_ | refine Takes.fc ?_ | refine Takes.net ?_ | (refine Takes.ownE ?_ ?_ ?_ ?_ ?_; (focus (exact ⟨_, _, (by (repeat (first | exact mh | refine mt ?_)); done)⟩)); (focus (simp; done)); (focus omega); (focus (simp only [maxLen]; omega))) | refine Takes.same ?_)); done))) | (refine zaa rfl (zci rfl rfl (A3) ?_) ?_; (focus ((repeat (first | exact Takes.nil | refine Takes.sl ?_ | refine Takes.lit ?_ | refine Takes.fa ?_ | refine Takes.fc ?_ | refine Takes.net ?_ | (refine Takes.ownE ?_ ?_ ?_ ?_ ?_; (focus (exact ⟨_, _, (by (repeat (first | exact mh | refine mt ?_)); done)⟩)); (focus (simp; done)); (focus omega); (focus (simp only [maxLen]; omega))) | refine Takes.same ?_)); done))) | (refine zaa rfl (zci rfl rfl (A4) ?_) ?_; (focus ((repeat (first | exact Takes.nil | refine Takes.sl ?_ | refine Takes.lit ?_ | refine Takes.fa ?_ | refine Takes.fc ?_ | refine Takes.net ?_ | (refine Takes.ownE ?_ ?_ ?_ ?_ ?_; (focus (exact ⟨_, _, (by (repeat (first | exact mh | refine mt ?_)); done)⟩)); (focus (simp; done)); (focus omega); (focus (simp only [maxLen]; omega))) | refine Takes.same ?_)); done)))) | (refine zae ?_; refine zaa rfl (zcg rfl rfl (by (repeat (first | exact mh | refine mt ?_)); done) rfl rfl) ?_) | refine zaa rfl (zby rfl) ?_ | refine zah ?_ | (refine zcr ?_; refine zcs ?_) | (refine zdb ?_; first | refine zdc ?_ | refine zdd ?_) | (refine zal rfl rfl ?_; intro g) | (refine zag ?_; refine zan 0 rfl rfl rfl rfl rfl rfl rfl rfl rfl ?_)
  obtain ⟨g5, hg5⟩ : ∃ x, x = g := ⟨g, rfl⟩
  subst hg5
  obtain ⟨av, ha⟩ : ∃ av : CV, av = (hvF ((i1 : Int) - 4), hvF ((i2 : Int) - 4)) := ⟨_, rfl⟩
  obtain ⟨bv, hbv⟩ : ∃ bv : CV, bv = (fbin .add .f32 av.1 (some (FloatKind.f32.nearest (1 + (i3 : Int)))), fbin .add .f32 av.2 (hvF ((i4 : Int) - 2))) := ⟨_, rfl⟩
  obtain ⟨hln, hfa, hfb, hne⟩ := line_drawn (by omega) (by omega) (by omega) (by omega) ha hbv
  have ea : AV.c .f32 (fbin .quo .f32 (some (FloatKind.f32.nearest ((i1 : Int) - 4))) (fv .f32 1073741824)) (fbin .quo .f32 (some (FloatKind.f32.nearest ((i2 : Int) - 4))) (fv .f32 1073741824)) = cA av := by rw [ha]; rfl
  have eb : AV.c .f32 (fbin .add .f32 (fbin .quo .f32 (some (FloatKind.f32.nearest ((i1 : Int) - 4))) (fv .f32 1073741824)) (some (FloatKind.f32.nearest (1 + (i3 : Int))))) (fbin .add .f32 (fbin .quo .f32 (some (FloatKind.f32.nearest ((i2 : Int) - 4))) (fv .f32 1073741824)) (fbin .quo .f32 (some (FloatKind.f32.nearest ((i4 : Int) - 2))) (fv .f32 1073741824))) = cA bv := by rw [hbv, ha]; rfl
  rw [eb, ea]
  clear ea eb ha hbv A1 A2 A3 A4 hi9 hj9 hk4 hl5 hlong
  have hB := hdq.b1 hn
  have f1 := specLineMeets_fn (n := n) (P := P) (av := av) (bv := bv) (a := ga) (b := gb) (ca := ca) (cb := cb) hn hB hln hfa hfb hne hca hcb
  have f2 := lineMeets_fn (n := n) (P := P) (av := av) (bv := bv) (a := ga) (b := gb) (ca := ca) (cb := cb) hn hB hln (by simp only [List.all_cons, List.all_nil, hfa, hfb]; rfl) hne hca hcb
  refine RS.weakS (e' := [(76, crvOc ga gb n ca cb), (77, cA av), (78, cA bv), (1, slB w0 M), (5, .raw (.pointer (some ⟨g5, 0, none⟩))), (6, cA av), (7, cA bv)]) (RS.st (S' := StR (fun _ => True) w0 [] ([entC ga n P ca, entF gb 31 n oneF cb] ++ [⟨g5, 27, [.raw (.slice (some ⟨ga, 0, none⟩) n ca), .raw (.slice (some ⟨gb, 0, none⟩) n cb)], 2⟩])) ?_ (fun w h => h.sel [2, 1, 0] (by decide) rfl)) (by (repeat (first | exact Env.sub_nil _ | refine Env.sub_cons rfl ?_)))
  refine rs_call f1 rfl rfl (fun _ _ _ h => h) rfl ?_
  rintro ⟨L1, g1, c1, ok1⟩ ⟨-, hr1⟩
  dsimp only at hr1 ⊢
  obtain ⟨sv1, e1, -⟩ := slOr_raw ok1 g1 L1.length c1
  rw [e1]
  clear e1 f1
  repeat first | refine zaa rfl (zay rfl) ?_ | refine zaa rfl (zaz rfl) ?_ | (refine zae ?_; refine zaa rfl (zcg rfl rfl (by (repeat (first | exact mh | refine mt ?_)); done) rfl rfl) ?_) | refine zaa rfl (zbz rfl rfl) ?_ | refine zah ?_ | (refine zcr ?_; refine zcs ?_) | (refine zdb ?_; first | refine zdc ?_ | refine zdd ?_)
  refine RS.weakS (e' := [(83, crvOc ga gb n ca cb), (84, cA av), (85, cA bv), (1, slB w0 M), (5, .raw (.pointer (some ⟨g5, 0, none⟩))), (6, cA av), (7, cA bv), (9, .raw (.bool ok1))]) (RS.st (S' := StR (fun _ => True) w0 [] ([entC ga n P ca, entF gb 31 n oneF cb] ++ [⟨g5, 27, [.raw (.slice (some ⟨ga, 0, none⟩) n ca), .raw (.slice (some ⟨gb, 0, none⟩) n cb)], 2⟩])) ?_ (fun w h => h.sel [0, 1, 3] (by decide) rfl)) (by (repeat (first | exact Env.sub_nil _ | refine Env.sub_cons rfl ?_)))
  refine rs_call f2 rfl rfl (fun _ _ _ h => h) rfl ?_
  rintro ⟨L2, g2, c2, ok2⟩ ⟨⟨hc2, hc2'⟩, hr2⟩
  dsimp only at hc2 hc2' hr2 ⊢
  obtain ⟨sv, e2, hs1, hs0⟩ := slOr_raw ok2 g2 L2.length c2
  rw [e2]
  clear e2 f2
  obtain ⟨T, hTP, hTs, hok⟩ : ∃ T : List Nat, LinP (LinG n P (subC2 bv av) av) 256 T ∧ ((sv = .slice none 0 0 ∧ T = []) ∨ (sv = .slice (some ⟨g2, 0, none⟩) T.length c2 ∧ T = L2)) ∧ ok2 = ok1 := by
    cases hm : lineR n (subC2 bv av) av 8 0 P [] with
    | none =>
      rw [hm] at hr1 hr2
      exact ⟨[], ⟨.nil, fun _ h => (nomatch h), fun _ h => (nomatch h), by decide⟩, .inl ⟨hs0 hr2, rfl⟩, hr2.trans hr1.symm⟩
    | some L' =>
      rw [hm] at hr1 hr2
      dsimp only at hr1 hr2
      obtain ⟨k1, rfl⟩ := hr1
      obtain ⟨k2, rfl⟩ := hr2
      exact ⟨_, lines_near hdq hn hln hm, .inr ⟨hs1 k2, rfl⟩, k2.trans k1.symm⟩
  subst hok
  clear hr1 hr2 hs1 hs0 g1 c1 L1 sv1
  have hLen : LenV sv T.length := hTs.imp (fun h => ⟨h.1, by rw [h.2]; rfl⟩) (fun h => ⟨g2, c2, h.1⟩)
  repeat first | refine zaa rfl (zay rfl) ?_ | refine zaa rfl (zaz rfl) ?_ | (refine zac ?_; refine zaa rfl (zbl rfl rfl) ?_) | refine zaa rfl (zbz rfl rfl) ?_ | refine zah ?_ | (refine zcr ?_; refine zcs ?_) | (refine zdb ?_; first | refine zdc ?_ | refine zdd ?_)
  rw [show (!(ok2 == ok2)) = false by cases ok2 <;> rfl]
  repeat first | refine zaa rfl (zay rfl) ?_ | refine zah ?_ | (refine zcr ?_; refine zcs ?_) | (refine zdb ?_; first | refine zdc ?_ | refine zdd ?_ | refine zde ?_ | refine zdf ?_ | refine zdj rfl ?_) | refine zaa rfl (opj_lenSV rfl hLen) ?_
  refine ws_loop (ι := Nat) (fun k => [(1, slB w0 M), (5, .raw (.pointer (some ⟨g5, 0, none⟩))), (6, cA av), (7, cA bv), (10, .raw sv), (93, .raw (.int .i64 (T.length : Nat))), (94, .raw (.int .i64 (k : Nat)))])
    (fun _ => St w0 [] [entC ga n P ca, entF gb 31 n oneF cb, entF g2 31 L2.length (lstF L2) c2, ⟨g5, 27, [.raw (.slice (some ⟨ga, 0, none⟩) n ca), .raw (.slice (some ⟨gb, 0, none⟩) n cb)], 2⟩])
    (fun k => k ≤ T.length) (fun k => T.length - k) 0 (Nat.zero_le _) ?_ (fun _ h => h) (fun k hk => ?_)
  · (repeat (first | exact Env.sub_nil _ | refine Env.sub_cons rfl ?_))
  repeat first | (refine zac ?_; refine zaa rfl (zbe rfl rfl) ?_) | refine zah ?_ | (refine zcr ?_; refine zcs ?_) | (refine zdb ?_; first | refine zdc ?_ | refine zdd ?_)
  refine ws_cond rfl (fun hd => ?_) (fun hd => ?_)
  case' refine_1 =>
    have hlt : (k : Int) < (T.length : Int) := of_decide_eq_true hd
    clear hd
    have hkT : k < T.length := by omega
    obtain ⟨rfl, rfl⟩ : sv = .slice (some ⟨g2, 0, none⟩) T.length c2 ∧ T = L2 := hTs.elim (fun h => by rw [h.2] at hkT; exact absurd hkT (Nat.not_lt_zero _)) id
    clear hTs hLen
    obtain ⟨i, hi, hi2, hG⟩ := lst_at hTP hkT
    have hTm := share_mid (J := 8) (i := i) (by decide) hi2
    have hPf := (hdq.pv hn).fin
    have f3 : Fn Try.prog 9 (fun w => [crvA w n P (fun _ => one1), .f .f32 (tmM 8 i)]) (.tup [cA (pointP n P (fun _ => one1) (tmM 8 i)), .raw (.bool true)]) := specCurveAt_fn (by omega) hPf (wts_one n).above hTm hG.fin
    rw [← hi] at f3
    have hgap := hG.gap
    obtain ⟨Z, hZ⟩ : ∃ Z, Z = pointP n P (fun _ => one1) (tmM 8 i) := ⟨_, rfl⟩
    rw [hi, ← hZ, ← hi] at f3
    rw [← hZ] at hgap
    have hLd := hln.long
    have l1 := specLongOf_fn (subC2 bv av) hLd
    have n1 := b10Gap_fn (fbin .sub .f64 (fbin .mul .f64 (fconv .f32 .f64 (fbin .sub .f32 bv.1 av.1)) (fconv .f32 .f64 (fbin .sub .f32 Z.2 av.2))) (fbin .mul .f64 (fconv .f32 .f64 (fbin .sub .f32 bv.2 av.2)) (fconv .f32 .f64 (fbin .sub .f32 Z.1 av.1)))) (fv .f64 0)
    have hgap' : cmpB .gtr (fcmp .f64 (gapF (fbin .sub .f64 (fbin .mul .f64 (fconv .f32 .f64 (fbin .sub .f32 bv.1 av.1)) (fconv .f32 .f64 (fbin .sub .f32 Z.2 av.2))) (fbin .mul .f64 (fconv .f32 .f64 (fbin .sub .f32 bv.2 av.2)) (fconv .f32 .f64 (fbin .sub .f32 Z.1 av.1)))) (fv .f64 0)) (fbin .mul .f64 (fv .f64 4602678819172646912) (fconv .f32 .f64 (longC (subC2 bv av))))) = false := hgap
    clear hgap hZ hi hG hTm
    repeat first | refine zaa rfl (zay rfl) ?_ | refine zaa rfl (zaz rfl) ?_ | refine zah ?_ | (refine zcr ?_; refine zcs ?_) | (refine zdb ?_; first | refine zdc ?_ | refine zdd ?_ | refine zde ?_ | refine zdf ?_)
    refine ws_draw (n := 11) mixed (by decide +kernel) ?_
    repeat first | refine zap rfl (zay rfl) ?_ | refine zap rfl (zaz rfl) ?_ | (refine zat ?_; first | refine zap rfl (zbt rfl rfl (by (repeat (first | exact mh | refine mt ?_)); done) (by omega)) ?_ | refine zap rfl (zcg rfl rfl (by (repeat (first | exact mh | refine mt ?_)); done) rfl rfl) ?_) | (refine zau ?_; refine zap rfl (zbw rfl rfl (by omega) (by omega)) ?_) | refine zap rfl (zbz rfl rfl) ?_ | refine zav ?_ | refine zap rfl (zci rfl rfl f3 (Takes.crvOc mh (mt mh) hca hcb (Takes.same Takes.nil))) ?_
    repeat first | refine zah ?_ | (refine zcr ?_; refine zcs ?_) | (refine zdb ?_; refine zdc ?_)
    cases k with
    | zero =>
      refine ws_draw (n := 18) mixed (by decide +kernel) ?_
      repeat first | refine zaw rfl rfl ?_ | refine zax rfl rfl rfl rfl ?_ | refine zap rfl (zay rfl) ?_ | (refine zar ?_; refine zap rfl (zbg rfl rfl) ?_) | refine zap rfl (zcb rfl rfl) ?_ | refine zap rfl (zcc rfl) ?_ | refine zav ?_
      rw [show decide ((0 : Int) < ((0 : Nat) : Int)) = false by decide]
      skip
      repeat first | refine zaa rfl (zay rfl) ?_ | refine zaa rfl (zaz rfl) ?_ | (refine zac ?_; first | refine zaa rfl (zba rfl rfl rfl) ?_ | refine zaa rfl (zbd rfl rfl rfl) ?_ | refine zaa rfl (opj_csub rfl rfl) ?_) | (refine zad ?_; first | refine zaa rfl (zbp rfl) ?_ | refine zaa rfl (zbq rfl) ?_ | (refine zaa rfl (zci rfl rfl (n1) ?_) ?_; (focus ((repeat (first | exact Takes.nil | refine Takes.sl ?_ | refine Takes.lit ?_ | refine Takes.fa ?_ | refine Takes.fc ?_ | refine Takes.net ?_ | (refine Takes.ownE ?_ ?_ ?_ ?_ ?_; (focus (exact ⟨_, _, (by (repeat (first | exact mh | refine mt ?_)); done)⟩)); (focus (simp; done)); (focus omega); (focus (simp only [maxLen]; omega))) | refine Takes.same ?_)); done))) | (refine zaa rfl (zci rfl rfl (l1) ?_) ?_; (focus ((repeat (first | exact Takes.nil | refine Takes.sl ?_ | refine Takes.lit ?_ | refine Takes.fa ?_ | refine Takes.fc ?_ | refine Takes.net ?_ | (refine Takes.ownE ?_ ?_ ?_ ?_ ?_; (focus (exact ⟨_, _, (by (repeat (first | exact mh | refine mt ?_)); done)⟩)); (focus (simp; done)); (focus omega); (focus (simp only [maxLen]; omega))) | refine Takes.same ?_)); done)))) | refine zaa rfl (zbx rfl) ?_ | refine zah ?_ | (refine zcr ?_; refine zcs ?_) | (refine zdb ?_; first | refine zdc ?_ | refine zdd ?_ | refine zdf ?_ | refine zdj rfl ?_)
      rw [hgap']
      repeat first | refine zaa rfl (zay rfl) ?_ | (refine zac ?_; refine zaa rfl (zbb rfl rfl (by omega)) ?_) | refine zah ?_ | (refine zcr ?_; first | refine zcs ?_ | refine zcv ?_) | (refine zdb ?_; first | refine zdd ?_ | refine zdf ?_ | refine zdj rfl ?_)
      refine done_round (0 + 1) hkT (by omega) ?_ (fun _ h => h)
      (repeat (first | exact Env.sub_nil _ | refine Env.sub_cons rfl ?_))
    | succ k =>
      have hdec := lin_dec hTP hkT
      have hl24 := hTP.len
      refine ws_draw (n := 18) mixed (by decide +kernel) ?_
      repeat first | refine zaw rfl rfl ?_ | refine zap rfl (zay rfl) ?_ | (refine zar ?_; refine zap rfl (zbg rfl rfl) ?_) | refine zap rfl (zcc rfl) ?_
      rw [show decide ((0 : Int) < ((k + 1 : Nat) : Int)) = true from decide_eq_true (by omega)]
      repeat first | refine zaw rfl rfl ?_ | refine zap rfl (zay rfl) ?_ | (refine zar ?_; first | refine zap rfl (zbc rfl rfl (by omega)) ?_ | refine zap rfl (zbd rfl rfl rfl) ?_) | (refine zat ?_; refine zap rfl (zbt rfl rfl (by (repeat (first | exact mh | refine mt ?_)); done) (by omega)) ?_) | (refine zau ?_; refine zap rfl (zbw rfl rfl (by omega) (by omega)) ?_) | refine zap rfl (zca rfl rfl) ?_ | refine zap rfl (zcb rfl rfl) ?_ | refine zav ?_
      rw [hdec]
      skip
      repeat first | refine zaa rfl (zay rfl) ?_ | refine zaa rfl (zaz rfl) ?_ | (refine zac ?_; first | refine zaa rfl (zba rfl rfl rfl) ?_ | refine zaa rfl (zbd rfl rfl rfl) ?_ | refine zaa rfl (opj_csub rfl rfl) ?_) | (refine zad ?_; first | refine zaa rfl (zbp rfl) ?_ | refine zaa rfl (zbq rfl) ?_ | (refine zaa rfl (zci rfl rfl (n1) ?_) ?_; (focus ((repeat (first | exact Takes.nil | refine Takes.sl ?_ | refine Takes.lit ?_ | refine Takes.fa ?_ | refine Takes.fc ?_ | refine Takes.net ?_ | (refine Takes.ownE ?_ ?_ ?_ ?_ ?_; (focus (exact ⟨_, _, (by (repeat (first | exact mh | refine mt ?_)); done)⟩)); (focus (simp; done)); (focus omega); (focus (simp only [maxLen]; omega))) | refine Takes.same ?_)); done))) | (refine zaa rfl (zci rfl rfl (l1) ?_) ?_; (focus ((repeat (first | exact Takes.nil | refine Takes.sl ?_ | refine Takes.lit ?_ | refine Takes.fa ?_ | refine Takes.fc ?_ | refine Takes.net ?_ | (refine Takes.ownE ?_ ?_ ?_ ?_ ?_; (focus (exact ⟨_, _, (by (repeat (first | exact mh | refine mt ?_)); done)⟩)); (focus (simp; done)); (focus omega); (focus (simp only [maxLen]; omega))) | refine Takes.same ?_)); done)))) | refine zaa rfl (zbx rfl) ?_ | refine zah ?_ | (refine zcr ?_; refine zcs ?_) | (refine zdb ?_; first | refine zdc ?_ | refine zdd ?_ | refine zdf ?_ | refine zdj rfl ?_)
      rw [hgap']
      repeat first | refine zaa rfl (zay rfl) ?_ | (refine zac ?_; refine zaa rfl (zbb rfl rfl (by omega)) ?_) | refine zah ?_ | (refine zcr ?_; first | refine zcs ?_ | refine zcv ?_) | (refine zdb ?_; first | refine zdd ?_ | refine zdf ?_ | refine zdj rfl ?_)
      refine done_round (k + 1 + 1) hkT (by omega) ?_ (fun _ h => h)
      rw [show ((k + 1 + 1 : Nat) : Int) = ((k + 1 : Nat) : Int) + 1 by omega]
      (repeat (first | exact Env.sub_nil _ | refine Env.sub_cons rfl ?_))
  clear hd hk hTs hLen hTP
  obtain ⟨m0, hm0, hm3⟩ := b10AtV_bd M 5 3 (by omega)
  have A5 := b10AtV_fn M 5 3 (by omega) (by omega)
  rw [hm0] at A5
  clear hm0
  repeat first | refine zaa rfl (zay rfl) ?_ | (refine zac ?_; refine zaa rfl (zbb rfl rfl (by omega)) ?_) | (refine zad ?_; (refine zaa rfl (zci rfl rfl (A5) ?_) ?_; (focus ((repeat (first | exact Takes.nil | refine Takes.sl ?_ | refine Takes.lit ?_ | refine Takes.fa ?_ | refine Takes.fc ?_ | refine Takes.net ?_ | (refine Takes.ownE ?_ ?_ ?_ ?_ ?_; (focus (exact ⟨_, _, (by (repeat (first | exact mh | refine mt ?_)); done)⟩)); (focus (simp; done)); (focus omega); (focus (simp only [maxLen]; omega))) | refine Takes.same ?_)); done)))) | (refine zcr ?_; first | refine zcs ?_ | refine zcu ?_ | refine zcx ?_ | refine zda ?_) | (refine zdb ?_; first | refine zdc ?_ | refine zdd ?_ | refine zdh ?_)
  obtain ⟨m, hM0⟩ : ∃ m : Nat, 1 + (m0 : Int) = (m : Int) - 1 := ⟨m0 + 2, by omega⟩
  rw [hM0]
  have hm : 2 ≤ m ∧ m ≤ 5 := by omega
  clear hM0 hm3 A5
  have hC := b10Curve_fn M m (by omega) hM
  refine rs_callM3 hC rfl rfl ?_ rfl ?_
  · (repeat (first | exact Takes.nil | refine Takes.sl ?_ | refine Takes.lit ?_ | refine Takes.fa ?_ | refine Takes.fc ?_ | refine Takes.net ?_ | (refine Takes.ownE ?_ ?_ ?_ ?_ ?_; (focus (exact ⟨_, _, (by (repeat (first | exact mh | refine mt ?_)); done)⟩)); (focus (simp; done)); (focus omega); (focus (simp only [maxLen]; omega))) | refine Takes.same ?_)); done
  rintro ⟨gu, gv, cu, cv, Q, u, v⟩ ⟨⟨hcu, hcv⟩, hdr⟩
  dsimp only at hcu hcv hdr ⊢
  clear hC
  repeat first | (refine zae ?_; refine zaa rfl (zcg rfl rfl (by (repeat (first | exact mh | refine mt ?_)); done) rfl rfl) ?_) | refine zah ?_ | (refine zcr ?_; refine zcs ?_) | (refine zdb ?_; first | refine zdc ?_ | refine zdd ?_) | (refine zal rfl rfl ?_; intro g) | (refine zag ?_; refine zan 0 rfl rfl rfl rfl rfl rfl rfl rfl rfl ?_)
  obtain ⟨g18, hg18⟩ : ∃ x, x = g := ⟨g, rfl⟩
  subst hg18
  have hD := hdr.b1 hm
  have f1 := specMeetsOf_fn (np := n) (nq := m) (J := 6) (N := fv .f32 1015021568) (P := P) (Q := Q) (a := ga) (b := gb) (ca := ca) (cb := cb) (u := gu) (v := gv) (du := cu) (dv := cv) hn hm nearJ6 (by decide +kernel) (by decide +kernel) hB hD hca hcb hcu hcv
  have f2 := meetsOf_fn (np := n) (nq := m) (J := 6) (N := fv .f32 1015021568) (P := P) (Q := Q) (a := ga) (b := gb) (ca := ca) (cb := cb) (u := gu) (v := gv) (du := cu) (dv := cv) hn hm nearJ6 (by decide +kernel) (by decide +kernel) hB hD hca hcb hcu hcv
  refine RS.weakS (e' := [(159, crvOc ga gb n ca cb), (160, crvOc gu gv m cu cv), (1, slB w0 M), (5, .raw (.pointer (some ⟨g5, 0, none⟩))), (18, .raw (.pointer (some ⟨g18, 0, none⟩)))]) (RS.st (S' := StR (fun _ => True) w0 [] ([entC ga n P ca, entF gb 31 n oneF cb, entC gu m Q cu, entF gv 31 m oneF cv] ++ [⟨g18, 27, [.raw (.slice (some ⟨gu, 0, none⟩) m cu), .raw (.slice (some ⟨gv, 0, none⟩) m cv)], 2⟩, ⟨g5, 27, [.raw (.slice (some ⟨ga, 0, none⟩) n ca), .raw (.slice (some ⟨gb, 0, none⟩) n cb)], 2⟩])) ?_ (fun w h => h.sel [3, 4, 2, 1, 0, 6] (by decide) rfl)) (by (repeat (first | exact Env.sub_nil _ | refine Env.sub_cons rfl ?_)))
  refine rs_call f1 rfl rfl (fun _ _ _ h => h) rfl ?_
  rintro ⟨k1, M1, g1, c1, ok1⟩ ⟨-, hr1⟩
  dsimp only at hr1 ⊢
  obtain ⟨sv1, e1, -⟩ := slOr_raw ok1 g1 M1.length c1
  rw [e1]
  clear e1 f1
  repeat first | refine zaa rfl (zay rfl) ?_ | refine zaa rfl (zaz rfl) ?_ | (refine zae ?_; refine zaa rfl (zcg rfl rfl (by (repeat (first | exact mh | refine mt ?_)); done) rfl rfl) ?_) | refine zaa rfl (zbz rfl rfl) ?_ | refine zah ?_ | (refine zcr ?_; refine zcs ?_) | (refine zdb ?_; first | refine zdc ?_ | refine zdd ?_)
  refine RS.weakS (e' := [(165, crvOc ga gb n ca cb), (166, crvOc gu gv m cu cv), (20, .raw (.bool ok1)), (1, slB w0 M), (5, .raw (.pointer (some ⟨g5, 0, none⟩))), (18, .raw (.pointer (some ⟨g18, 0, none⟩)))]) (RS.st (S' := StR (fun _ => True) w0 [] ([entC ga n P ca, entF gb 31 n oneF cb, entC gu m Q cu, entF gv 31 m oneF cv] ++ [⟨g18, 27, [.raw (.slice (some ⟨gu, 0, none⟩) m cu), .raw (.slice (some ⟨gv, 0, none⟩) m cv)], 2⟩, ⟨g5, 27, [.raw (.slice (some ⟨ga, 0, none⟩) n ca), .raw (.slice (some ⟨gb, 0, none⟩) n cb)], 2⟩])) ?_ (fun w h => h.sel [0, 1, 2, 3, 5, 6] (by decide) rfl)) (by (repeat (first | exact Env.sub_nil _ | refine Env.sub_cons rfl ?_)))
  refine rs_call f2 rfl rfl (fun _ _ _ h => h) rfl ?_
  rintro ⟨k2, M2, g3, c3, ok3⟩ ⟨⟨hc3, hc3'⟩, hr2⟩
  dsimp only at hc3 hc3' hr2 ⊢
  obtain ⟨sw, e2, hs1, hs0⟩ := slOr_raw ok3 g3 M2.length c3
  rw [e2]
  clear e2 f2
  obtain ⟨U, hUP, hUs, hok⟩ : ∃ U : List (Nat × Nat), MetP (MetG n m P Q) (0, U) ∧ ((sw = .slice none 0 0 ∧ U = []) ∨ (sw = .slice (some ⟨g3, 0, none⟩) U.length c3 ∧ U = M2)) ∧ ok3 = ok1 := by
    cases hmm : meetR n m (6 + 6) 6 6 0 0 P Q (0, []) with
    | none =>
      rw [hmm] at hr1 hr2
      exact ⟨[], ⟨fun _ h => (nomatch h), by decide, by decide⟩, .inl ⟨hs0 hr2, rfl⟩, hr2.trans hr1.symm⟩
    | some s1 =>
      have hP := meets_near hdq hn hdr hm hmm
      rw [hmm] at hr1 hr2
      dsimp only at hr1 hr2
      obtain ⟨q1, -⟩ := hr1
      obtain ⟨q2, rfl⟩ := hr2
      exact ⟨M2, ⟨hP.g, hP.len, Nat.zero_le _⟩, .inr ⟨hs1 q2, rfl⟩, q2.trans q1.symm⟩
  subst hok
  clear hr1 hr2 hs1 hs0 g1 c1 M1 sv1 k1 k2
  have hLen : LenV sw U.length := hUs.imp (fun h => ⟨h.1, by rw [h.2]; rfl⟩) (fun h => ⟨g3, c3, h.1⟩)
  repeat first | refine zaa rfl (zay rfl) ?_ | refine zaa rfl (zaz rfl) ?_ | (refine zac ?_; refine zaa rfl (zbl rfl rfl) ?_) | refine zaa rfl (zbz rfl rfl) ?_ | refine zah ?_ | (refine zcr ?_; refine zcs ?_) | (refine zdb ?_; first | refine zdc ?_ | refine zdd ?_)
  rw [show (!(ok3 == ok3)) = false by cases ok3 <;> rfl]
  repeat first | refine zaa rfl (zay rfl) ?_ | refine zah ?_ | (refine zcr ?_; refine zcs ?_) | (refine zdb ?_; first | refine zdc ?_ | refine zdd ?_ | refine zde ?_ | refine zdf ?_ | refine zdj rfl ?_) | refine zaa rfl (opj_lenSV rfl hLen) ?_
  refine ws_loop (ι := Nat) (fun k => [(21, .raw sw), (174, .raw (.int .i64 (U.length : Nat))), (175, .raw (.int .i64 (k : Nat))), (1, slB w0 M), (5, .raw (.pointer (some ⟨g5, 0, none⟩))), (18, .raw (.pointer (some ⟨g18, 0, none⟩)))])
    (fun _ => St w0 [] [entC ga n P ca, entF gb 31 n oneF cb, entC gu m Q cu, entF gv 31 m oneF cv, entM g3 (tmM 6) M2 c3, ⟨g18, 27, [.raw (.slice (some ⟨gu, 0, none⟩) m cu), .raw (.slice (some ⟨gv, 0, none⟩) m cv)], 2⟩, ⟨g5, 27, [.raw (.slice (some ⟨ga, 0, none⟩) n ca), .raw (.slice (some ⟨gb, 0, none⟩) n cb)], 2⟩])
    (fun k => k ≤ U.length) (fun k => U.length - k) 0 (Nat.zero_le _) ?_ (fun _ h => h) (fun k hk => ?_)
  · (repeat (first | exact Env.sub_nil _ | refine Env.sub_cons rfl ?_))
  repeat first | (refine zac ?_; refine zaa rfl (zbe rfl rfl) ?_) | refine zah ?_ | (refine zcr ?_; refine zcs ?_) | (refine zdb ?_; first | refine zdc ?_ | refine zdd ?_)
  refine ws_cond rfl (fun hd => ?_) (fun hd => ?_)
  case' refine_1 =>
    have hlt : (k : Int) < (U.length : Int) := of_decide_eq_true hd
    clear hd
    have hkU : k < U.length := by omega
    obtain ⟨rfl, rfl⟩ : sw = .slice (some ⟨g3, 0, none⟩) U.length c3 ∧ U = M2 := hUs.elim (fun h => by rw [h.2] at hkU; exact absurd hkU (Nat.not_lt_zero _)) id
    clear hUs hLen
    have hG := met_at hUP hkU
    have hl24 := hUP.len
    dsimp only at hG hl24
    have hT1 := share_mid (J := 6) (i := (U.getD k default).1) (by decide) hG.lt1
    have hT2 := share_mid (J := 6) (i := (U.getD k default).2) (by decide) hG.lt2
    have f3 : Fn Try.prog 9 (fun w => [crvA w n P (fun _ => one1), .f .f32 (tmM 6 (U.getD (k : Int).toNat default).1)]) (.tup [cA (pointP n P (fun _ => one1) (tmM 6 (U.getD k default).1)), .raw (.bool true)]) := specCurveAt_fn (by omega) (hdq.pv hn).fin (wts_one n).above hT1 hG.fin1
    have f4 : Fn Try.prog 9 (fun w => [crvA w m Q (fun _ => one1), .f .f32 (tmM 6 (U.getD (k : Int).toNat default).2)]) (.tup [cA (pointP m Q (fun _ => one1) (tmM 6 (U.getD k default).2)), .raw (.bool true)]) := specCurveAt_fn (by omega) (hdr.pv hm).fin (wts_one m).above hT2 hG.fin2
    have hgap := hG.gap
    have l1 := specLongOf_fn _ hG.ok
    unfold two64 at hgap
    clear hG hT1 hT2
    generalize pointP n P (fun _ => one1) (tmM 6 (U.getD k default).1) = Z1 at *
    generalize pointP m Q (fun _ => one1) (tmM 6 (U.getD k default).2) = Z2 at *
    repeat first | refine zaa rfl (zay rfl) ?_ | refine zaa rfl (zaz rfl) ?_ | refine zah ?_ | (refine zcr ?_; refine zcs ?_) | (refine zdb ?_; first | refine zdc ?_ | refine zdd ?_ | refine zde ?_ | refine zdf ?_)
    refine ws_draw (n := 12) mixed (by decide +kernel) ?_
    repeat first | refine zap rfl (zay rfl) ?_ | refine zap rfl (zaz rfl) ?_ | (refine zat ?_; refine zap rfl (zcg rfl rfl (by (repeat (first | exact mh | refine mt ?_)); done) rfl rfl) ?_) | (refine zau ?_; refine zap rfl (zbw rfl rfl (by omega) (by omega)) ?_) | refine zap rfl (zcd rfl) ?_ | refine zap rfl (zbz rfl rfl) ?_ | refine zav ?_ | refine zap rfl (opj_loadMa rfl rfl (mt (mt (mt (mt mh)))) ⟨by omega, hlt⟩) ?_ | refine zap rfl (zci rfl rfl f3 (Takes.crvOc mh (mt mh) hca hcb (Takes.same Takes.nil))) ?_
    repeat first | refine zah ?_ | (refine zcr ?_; refine zcs ?_) | (refine zdb ?_; refine zdc ?_)
    refine ws_draw (n := 12) mixed (by decide +kernel) ?_
    repeat first | refine zap rfl (zay rfl) ?_ | refine zap rfl (zaz rfl) ?_ | (refine zat ?_; refine zap rfl (zcg rfl rfl (by (repeat (first | exact mh | refine mt ?_)); done) rfl rfl) ?_) | (refine zau ?_; refine zap rfl (zbw rfl rfl (by omega) (by omega)) ?_) | refine zap rfl (zcd rfl) ?_ | refine zap rfl (zbz rfl rfl) ?_ | refine zav ?_ | refine zap rfl (opj_loadMb rfl rfl (mt (mt (mt (mt mh)))) ⟨by omega, hlt⟩) ?_ | refine zap rfl (zci rfl rfl f4 (Takes.crvOc (mt (mt mh)) (mt (mt (mt mh))) hcu hcv (Takes.same Takes.nil))) ?_
    repeat first | refine zai rfl rfl ?_ | refine zaa rfl (zay rfl) ?_ | (refine zac ?_; first | refine zaa rfl (zbd rfl rfl rfl) ?_ | refine zaa rfl (opj_csub rfl rfl) ?_) | (refine zad ?_; (refine zaa rfl (zci rfl rfl (l1) ?_) ?_; (focus ((repeat (first | exact Takes.nil | refine Takes.sl ?_ | refine Takes.lit ?_ | refine Takes.fa ?_ | refine Takes.fc ?_ | refine Takes.net ?_ | (refine Takes.ownE ?_ ?_ ?_ ?_ ?_; (focus (exact ⟨_, _, (by (repeat (first | exact mh | refine mt ?_)); done)⟩)); (focus (simp; done)); (focus omega); (focus (simp only [maxLen]; omega))) | refine Takes.same ?_)); done)))) | refine zaa rfl (zbx rfl) ?_ | refine zaa rfl (zcb rfl rfl) ?_ | refine zaa rfl (zcc rfl) ?_ | refine zah ?_ | (refine zcr ?_; refine zcs ?_) | (refine zdb ?_; first | refine zdc ?_ | refine zdd ?_)
    rw [hgap]
    repeat first | refine zaa rfl (zay rfl) ?_ | (refine zac ?_; refine zaa rfl (zbb rfl rfl (by omega)) ?_) | refine zah ?_ | (refine zcr ?_; first | refine zcs ?_ | refine zcv ?_) | (refine zdb ?_; first | refine zdd ?_ | refine zdf ?_ | refine zdj rfl ?_)
    refine done_round (k + 1) hkU (by omega) ?_ (fun _ h => h)
    rw [show ((k + 1 : Nat) : Int) = (k : Int) + 1 by omega]
    (repeat (first | exact Env.sub_nil _ | refine Env.sub_cons rfl ?_))
  clear hd hk hUs hLen hUP
  have hMv := specMoveCurve_fn (n := n) (P := P) (f := oneF) (q := hunC) (by omega) hB.fin (wts_one n).above (by decide +kernel) (far_b1 hdq hn).fin
  repeat first | (refine zae ?_; refine zaa rfl (zcg rfl rfl (by (repeat (first | exact mh | refine mt ?_)); done) rfl rfl) ?_) | (refine zcr ?_; first | refine zcs ?_ | refine zcu ?_ | refine zcx ?_ | refine zda ?_) | (refine zdb ?_; first | refine zdc ?_ | refine zdd ?_ | refine zdh ?_)
  refine rs_callM3 hMv rfl rfl (Takes.crvOc mh (mt mh) hca hcb (Takes.same Takes.nil)) rfl ?_
  rintro ⟨⟨xa, xb⟩, xca, xcb⟩ ⟨hxa, hxb⟩
  dsimp only at hxa hxb ⊢
  clear hMv
  repeat first | refine zaa rfl (zay rfl) ?_ | refine zaa rfl (zaz rfl) ?_ | (refine zae ?_; refine zaa rfl (zcg rfl rfl (by (repeat (first | exact mh | refine mt ?_)); done) rfl rfl) ?_) | refine zaa rfl (zbz rfl rfl) ?_ | refine zah ?_ | (refine zcr ?_; refine zcs ?_) | (refine zdb ?_; first | refine zdc ?_ | refine zdd ?_) | (refine zal rfl rfl ?_; intro g) | (refine zag ?_; refine zan 0 rfl rfl rfl rfl rfl rfl rfl rfl rfl ?_)
  have f5 := meetsOf_fn (np := n) (nq := n) (J := 6) (N := fv .f32 1015021568) (P := P) (Q := fun i => addC2 (P i) hunC) (a := ga) (b := gb) (ca := ca) (cb := cb) (u := xa) (v := xb) (du := xca) (dv := xcb) hn hn nearJ6 (by decide +kernel) (by decide +kernel) hB (far_b1 hdq hn) hca hcb hxa hxb
  refine RS.weakS (e' := [(219, crvOc ga gb n ca cb), (220, crvOc xa xb n xca xcb), (1, slB w0 M), (29, .raw (.bool true))]) (RS.st (S' := StR (fun _ => True) w0 [] ([entC ga n P ca, entF gb 31 n oneF cb, entC xa n (fun i => addC2 (P i) hunC) xca, entF xb 31 n oneF xcb] ++ [])) ?_ (fun w h => h.sel [3, 4, 2, 1] (by decide) rfl)) (by (repeat (first | exact Env.sub_nil _ | refine Env.sub_cons rfl ?_)))
  refine rs_call f5 rfl rfl (fun _ _ _ h => h) rfl ?_
  rintro ⟨k1, M1, g1, c1, ok1⟩ ⟨-, hr1⟩
  dsimp only at hr1 ⊢
  rw [far_meets hdq hn] at hr1
  dsimp only at hr1
  obtain ⟨rfl, e1⟩ := hr1
  obtain ⟨rfl, rfl⟩ := Prod.mk.inj e1
  clear e1 f5
  dsimp only [slOr]
  repeat first | refine zaa rfl (zay rfl) ?_ | refine zaa rfl (zaz rfl) ?_ | refine zaa rfl (zbz rfl rfl) ?_ | refine zah ?_ | (refine zcr ?_; refine zcs ?_) | (refine zdb ?_; first | refine zdc ?_ | refine zdd ?_)
  refine RS.weakS (e' := [(1, slB w0 M), (29, .raw (.bool true)), (30, .raw (.slice (some ⟨g1, 0, none⟩) 0 c1)), (31, .raw (.bool true))]) ?_ ?_
  rotate_left
  · (repeat (first | exact Env.sub_nil _ | refine Env.sub_cons rfl ?_))
  refine RS.drop (H' := []) ?_ ?_
  rotate_left
  · exact List.nil_sublist _
  obtain ⟨m6, hm6, hm9⟩ := b10AtV_bd M 6 9 (by omega)
  have A6 := b10AtV_fn M 6 9 (by omega) (by omega)
  rw [hm6] at A6
  obtain ⟨kc, x, hx1, hx2⟩ := cr_one (m := m6) (by omega)
  have hUB := up_b1 (m := m6) (by omega)
  have hP1 := specPlainCurve_fn (n := 2) (P := crP) (by omega) cr_b1.fin
  have hP2 := specPlainCurve_fn (n := 2) (P := upP ((m6 : Int) - 4)) (by omega) hUB.fin
  have hP3 := specPlainCurve_fn (n := 4) (P := knP) (by omega) kn_b1.fin
  refine rs_litP (xs := [cA (crP 0), cA (crP 1)]) (t := 24) rfl rfl rfl rfl rfl rfl fun g0 => ?_
  rw [entC_lit2 g0 crP]
  refine rs_callM3 hP1 rfl rfl (Takes.ownE ⟨_, _, mh⟩ (by simp) (Nat.le_refl _) (by simp only [maxLen]; decide) Takes.nil) rfl ?_
  rintro ⟨⟨pa, pb⟩, pca, pcb⟩ ⟨hpa, hpb⟩
  dsimp only at hpa hpb ⊢
  repeat first | refine zaa rfl (zay rfl) ?_ | refine zaa rfl (zaz rfl) ?_ | (refine zac ?_; first | refine zaa rfl (zba rfl rfl rfl) ?_ | refine zaa rfl (zbc rfl rfl (by omega)) ?_) | (refine zad ?_; first | refine zaa rfl (zbr rfl rfl) ?_ | (refine zaa rfl (zci rfl rfl (A6) ?_) ?_; (focus ((repeat (first | exact Takes.nil | refine Takes.sl ?_ | refine Takes.lit ?_ | refine Takes.fa ?_ | refine Takes.fc ?_ | refine Takes.net ?_ | (refine Takes.ownE ?_ ?_ ?_ ?_ ?_; (focus (exact ⟨_, _, (by (repeat (first | exact mh | refine mt ?_)); done)⟩)); (focus (simp; done)); (focus omega); (focus (simp only [maxLen]; omega))) | refine Takes.same ?_)); done)))) | refine zaa rfl (zby rfl) ?_ | refine zaa rfl (zbz rfl rfl) ?_ | refine zah ?_ | (refine zcr ?_; refine zcs ?_) | (refine zdb ?_; first | refine zdc ?_ | refine zdd ?_) | (refine zal rfl rfl ?_; intro g) | (refine zag ?_; refine zan 0 rfl rfl rfl rfl rfl rfl rfl rfl rfl ?_)
  refine rs_litP (xs := [cA (upP ((m6 : Int) - 4) 0), cA (upP ((m6 : Int) - 4) 1)]) (t := 24) rfl rfl rfl rfl rfl rfl fun g2 => ?_
  rw [entC_lit2 g2 (upP ((m6 : Int) - 4))]
  refine rs_callM3 hP2 rfl rfl (Takes.ownE ⟨_, _, mh⟩ (by simp) (Nat.le_refl _) (by simp only [maxLen]; decide) Takes.nil) rfl ?_
  rintro ⟨⟨qa, qb⟩, qca, qcb⟩ ⟨hqa, hqb⟩
  dsimp only at hqa hqb ⊢
  repeat first | refine zaa rfl (zay rfl) ?_ | refine zaa rfl (zaz rfl) ?_ | (refine zae ?_; refine zaa rfl (zcg rfl rfl (by (repeat (first | exact mh | refine mt ?_)); done) rfl rfl) ?_) | refine zaa rfl (zbz rfl rfl) ?_ | refine zah ?_ | (refine zcr ?_; refine zcs ?_) | (refine zdb ?_; first | refine zdc ?_ | refine zdd ?_) | (refine zal rfl rfl ?_; intro g) | (refine zag ?_; refine zan 0 rfl rfl rfl rfl rfl rfl rfl rfl rfl ?_)
  have f6 := meetsOf_fn (np := 2) (nq := 2) (J := 7) (N := fv .f32 1006632960) (P := crP) (Q := upP ((m6 : Int) - 4)) (a := pa) (b := pb) (ca := pca) (cb := pcb) (u := qa) (v := qb) (du := qca) (dv := qcb) ⟨by decide, by decide⟩ ⟨by decide, by decide⟩ nearJ7 (by decide +kernel) (by decide +kernel) cr_b1 hUB hpa hpb hqa hqb
  refine RS.weakS (e' := [(247, crvOc pa pb 2 pca pcb), (248, crvOc qa qb 2 qca qcb), (29, .raw (.bool true)), (30, .raw (.slice (some ⟨g1, 0, none⟩) 0 c1)), (31, .raw (.bool true)), (33, .raw (.bool true)), (35, .raw (.bool true))]) (RS.st (S' := StR (fun _ => True) w0 [] ([entC pa 2 crP pca, entF pb 31 2 oneF pcb, entC qa 2 (upP ((m6 : Int) - 4)) qca, entF qb 31 2 oneF qcb] ++ [])) ?_ (fun w h => h.sel [6, 5, 2, 1] (by decide) rfl)) (by (repeat (first | exact Env.sub_nil _ | refine Env.sub_cons rfl ?_)))
  refine rs_call f6 rfl rfl (fun _ _ _ h => h) rfl ?_
  rintro ⟨k2, M2, g6, c6, ok2⟩ ⟨-, hr2⟩
  dsimp only at hr2 ⊢
  rw [hx1] at hr2
  dsimp only at hr2
  obtain ⟨rfl, e2⟩ := hr2
  obtain ⟨rfl, rfl⟩ := Prod.mk.inj e2
  clear e2 f6
  dsimp only [slOr]
  repeat first | refine zaa rfl (zay rfl) ?_ | refine zaa rfl (zaz rfl) ?_ | refine zaa rfl (zbz rfl rfl) ?_ | refine zah ?_ | (refine zcr ?_; refine zcs ?_) | (refine zdb ?_; first | refine zdc ?_ | refine zdd ?_)
  refine RS.weakS (e' := [(29, .raw (.bool true)), (30, .raw (.slice (some ⟨g1, 0, none⟩) 0 c1)), (31, .raw (.bool true)), (33, .raw (.bool true)), (35, .raw (.bool true)), (36, .raw (.slice (some ⟨g6, 0, none⟩) 1 c6)), (37, .raw (.bool true))]) ?_ ?_
  rotate_left
  · (repeat (first | exact Env.sub_nil _ | refine Env.sub_cons rfl ?_))
  refine RS.drop (H' := [entM g6 (tmM 7) [x] c6]) ?_ ?_
  rotate_left
  · exact .cons _ (.cons _ (.cons _ (.cons _ (.cons_cons _ (List.nil_sublist _)))))
  refine rs_litP (xs := [cA (knP 0), cA (knP 1), cA (knP 2), cA (knP 3)]) (t := 24) rfl rfl rfl rfl rfl rfl fun g3 => ?_
  rw [entC_lit4 g3 knP]
  refine rs_callM3 hP3 rfl rfl (Takes.ownE ⟨_, _, mh⟩ (by simp) (Nat.le_refl _) (by simp only [maxLen]; decide) Takes.nil) rfl ?_
  rintro ⟨⟨ra, rb⟩, rca, rcb⟩ ⟨hra, hrb⟩
  dsimp only at hra hrb ⊢
  clear hP1 hP2 hP3 A6 hUB hx1
  have s1 := selfMeets_fn (n := 4) (P := knP) ⟨by decide, by decide⟩ kn_b1
  have s2 := specSelfMeets_fn (n := 4) (P := knP) ⟨by decide, by decide⟩ kn_b1 share_half
  repeat first | refine zaa rfl (zay rfl) ?_ | refine zaa rfl (zaz rfl) ?_ | (refine zae ?_; refine zaa rfl (zcg rfl rfl (by (repeat (first | exact mh | refine mt ?_)); done) rfl rfl) ?_) | refine zaa rfl (zbz rfl rfl) ?_ | refine zah ?_ | (refine zcr ?_; refine zcs ?_) | (refine zdb ?_; first | refine zdc ?_ | refine zdd ?_) | (refine zal rfl rfl ?_; intro g) | (refine zag ?_; refine zan 0 rfl rfl rfl rfl rfl rfl rfl rfl rfl ?_)
  refine rs_callM3 s1 rfl rfl (Takes.crvOc (mt (mt mh)) (mt mh) hra hrb (Takes.same Takes.nil)) rfl ?_
  rintro ⟨n1, h1, d1, x1, o1⟩ ⟨-, hr1⟩
  dsimp only at hr1 ⊢
  obtain ⟨sv1, e1, p1, z1⟩ := slOr_raw o1 h1 n1 d1
  rw [e1]
  clear e1 s1
  repeat first | refine zaa rfl (zay rfl) ?_ | refine zaa rfl (zaz rfl) ?_ | (refine zae ?_; refine zaa rfl (zcg rfl rfl (by (repeat (first | exact mh | refine mt ?_)); done) rfl rfl) ?_) | refine zaa rfl (zbz rfl rfl) ?_ | refine zah ?_ | (refine zcr ?_; refine zcs ?_) | (refine zdb ?_; first | refine zdc ?_ | refine zdd ?_)
  refine rs_callM3 s2 rfl rfl (Takes.crvOc (mt (mt (mt mh))) (mt (mt mh)) hra hrb (Takes.same Takes.nil)) rfl ?_
  rintro ⟨n2, h2, d2, x2, o2⟩ ⟨-, hr2⟩
  dsimp only at hr2 ⊢
  obtain ⟨sv2, e2, p2, z2⟩ := slOr_raw o2 h2 n2 d2
  rw [e2]
  clear e2 s2
  obtain ⟨K, hK1, hK2, hok⟩ : ∃ K, LenV sv1 K ∧ LenV sv2 K ∧ o1 = o2 := by
    cases hmm : meetR 4 4 (7 + 7) 7 7 0 0 (leftP knP) (rightP 4 knP) (0, []) with
    | none =>
      rw [hmm] at hr1 hr2
      exact ⟨0, .inl ⟨z1 hr1, rfl⟩, .inl ⟨z2 hr2, rfl⟩, hr1.trans hr2.symm⟩
    | some s =>
      rw [hmm] at hr1 hr2
      dsimp only at hr1 hr2
      obtain ⟨a1, b1⟩ := hr1
      obtain ⟨a2, b2⟩ := hr2
      exact ⟨n1, .inr ⟨h1, d1, p1 a1⟩, .inr ⟨h2, d2, by rw [p2 a2, b1, b2]⟩, a1.trans a2.symm⟩
  subst hok
  clear hr1 hr2 p1 z1 p2 z2
  have hx2' : cmpB .lss (fcmp .f64 (gapF (fconv .f32 .f64 (tmM 7 (([x] : List (Nat × Nat)).getD (0 : Int).toNat default).2)) (fv .f64 4602678819172646912)) (fv .f64 4587366580439587226)) = true := hx2
  have n1 := b10Gap_fn (fconv .f32 .f64 (tmM 7 (([x] : List (Nat × Nat)).getD (0 : Int).toNat default).2)) (fv .f64 4602678819172646912)
  clear hx2
  repeat first | refine zai rfl rfl ?_ | refine zaa rfl (zay rfl) ?_ | refine zaa rfl (zaz rfl) ?_ | (refine zac ?_; refine zaa rfl (zbk rfl rfl) ?_) | refine zaa rfl (zbz rfl rfl) ?_ | refine zaa rfl (zca rfl rfl) ?_ | refine zah ?_ | (refine zcr ?_; refine zcs ?_) | (refine zdb ?_; first | refine zdc ?_ | refine zdd ?_)
  rw [show (o1 == o1) = true by cases o1 <;> rfl]
  repeat first | refine zai rfl rfl ?_ | refine zaa rfl (zay rfl) ?_ | (refine zac ?_; first | refine zaa rfl (zbd rfl rfl rfl) ?_ | refine zaa rfl (zbi rfl rfl) ?_) | (refine zad ?_; first | refine zaa rfl (zbn rfl) ?_ | (refine zaa rfl (zci rfl rfl (n1) ?_) ?_; (focus ((repeat (first | exact Takes.nil | refine Takes.sl ?_ | refine Takes.lit ?_ | refine Takes.fa ?_ | refine Takes.fc ?_ | refine Takes.net ?_ | (refine Takes.ownE ?_ ?_ ?_ ?_ ?_; (focus (exact ⟨_, _, (by (repeat (first | exact mh | refine mt ?_)); done)⟩)); (focus (simp; done)); (focus omega); (focus (simp only [maxLen]; omega))) | refine Takes.same ?_)); done)))) | (refine zae ?_; refine zaa rfl (zcf rfl rfl (by (repeat (first | exact mh | refine mt ?_)); done) rfl) ?_) | (refine zaf ?_; refine zaa rfl (zbw rfl rfl (by omega) (by omega)) ?_) | refine zaa rfl (zcd rfl) ?_ | refine zaa rfl (zbx rfl) ?_ | refine zaa rfl (zca rfl rfl) ?_
  rw [hx2']
  repeat first | refine zai rfl rfl ?_ | refine zaa rfl (zay rfl) ?_ | refine zaa rfl (zaz rfl) ?_ | (refine zac ?_; refine zaa rfl (zbi rfl rfl) ?_) | refine zaa rfl (zca rfl rfl) ?_ | refine zah ?_ | (refine zcr ?_; refine zcs ?_) | (refine zdb ?_; refine zdg ?_) | refine zaa rfl (opj_lenSV rfl hK1) ?_ | refine zaa rfl (opj_lenSV rfl hK2) ?_
  rw [decide_eq_true (show (K : Int) = (K : Int) from rfl)]
  skip
  exact done_ret1 rfl () rfl trivial (List.nil_sublist _)
end Go.Ab
