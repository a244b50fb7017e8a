/- The law FnSlopes, walked. No conditions. -/
import Derived.Test.YtapclajklcflbaaZak
namespace Go.Ab
open Go.Proofs
variable {R : World → Prop} [RStab R]
section
variable {P : Program} {N : Nat} {S : World → Prop} {e : Env} {Q : Exit → Env → World → Prop} {ops : Array Oper} {l : List Oper}
theorem RS.weakS {e' : Env} (h : RS P N ops l e' S Q) (he : Env.sub e' e) : RS P N ops l e S Q := fun a w hw hF => h a w hw (hF.sub he)
end
attribute [local irreducible] WS RS Done OpJ Then InBlock Round Ret Env.sub FnH
attribute [local irreducible] tab tabC
def oaS (B : Bool) (g : Nat) : Option Addr := match B with
  | true => some ⟨g, 0, none⟩
  | false => none
def onS (B : Bool) (k : Nat) : Nat := match B with
  | true => k
  | false => 0
def slopeE (T : TypeId) (B : Bool) (n : Nat) (P : Nat → CV) (y : (Nat × Nat) × Nat) : List Ent := match B with
  | true => [entF y.1.2 T (n - 1) (fun _ => one1) (n - 1), entC y.1.1 (n - 1) (diffP n P) y.2]
  | false => []
theorem slopeCurve_all {n : Nat} {P : Nat → CV} (B : Bool) (hB : B = decide (3 ≤ n)) (hn : 2 ≤ n ∧ n ≤ 8) (hI : Fn Try.prog 29 (fun w => [crvA w n P (fun _ => one1)]) (.raw (.bool B))) (hQ : 3 ≤ n → (tabC (n - 1) (diffP n P)).all finC = true) (h1 : (tab (n - 1) (fun _ => one1)).all aboveB = true) :
    FnH (X := (Nat × Nat) × Nat) Try.prog 9 (fun w => [crvA w n P (fun _ => one1)]) [] (fun y => .tup [.agg [.raw (.slice (oaS B y.1.1) (onS B (n - 1)) (onS B y.2)), .raw (.slice (oaS B y.1.2) (onS B (n - 1)) (onS B (n - 1)))], .raw (.bool B)]) (slopeE 29 B n P) (fun y => B = true → n - 1 ≤ y.2 ∧ y.2 ≤ maxLen) := by
  cases B with
  | true =>
    have h3 : 3 ≤ n := of_decide_eq_true hB.symm
    have hQ := hQ h3
    have hS := slopes_fn (n := n) (P := P) (f := fun _ => one1) (by omega)
    refine fn_intro Try.func9 rfl Try.ntmps9 (fun _ => Nat.le_of_ble_eq_true rfl) fun w0 => ?_
    repeat first | refine zaa rfl (zaz rfl) ?_ | (refine zae ?_; refine zaa rfl (zcg rfl rfl (by (repeat (first | exact mh | refine mt ?_)); done) rfl rfl) ?_) | refine zaa rfl (zcc rfl) ?_ | refine zah ?_ | (refine zcr ?_; refine zcs ?_) | (refine zdb ?_; first | refine zdc ?_ | refine zdd ?_ | refine zdf ?_ | refine zdj rfl ?_) | (refine zak rfl rfl rfl ?_; intro g) | (refine zal rfl rfl ?_; intro g) | refine zaa rfl (zci rfl rfl hI (Takes.crv Takes.nil)) ?_
    refine rs_callM3 hS rfl rfl (Takes.crv Takes.nil) rfl ?_
    rintro ⟨⟨a, b⟩, ca⟩ hc
    dsimp only at hc ⊢
    refine rs_call (pre := [entF b 29 (n - 1) (fun _ => one1) (n - 1), entC a (n - 1) (diffP n P) ca]) (ifCurveD_yes (by omega) hQ h1 hc ⟨Nat.le_refl _, by simp only [maxLen]; omega⟩) rfl rfl (Takes.same Takes.nil) rfl fun _ _ => ?_
    repeat first | refine zaa rfl (zaz rfl) ?_ | refine zaa rfl (zbz rfl rfl) ?_ | refine zah ?_ | (refine zcr ?_; refine zcs ?_) | (refine zdb ?_; refine zdg ?_) | (refine zag ?_; refine zan 2 rfl rfl rfl rfl rfl rfl rfl rfl rfl ?_)
    exact done_retCX rfl rfl ((a, b), ca) rfl rfl (mt (mt mh)) rfl rfl rfl (fun _ => hc) (.cons_cons _ (.cons_cons _ (List.nil_sublist _)))
  | false =>
    refine fn_intro Try.func9 rfl Try.ntmps9 (fun _ => Nat.le_of_ble_eq_true rfl) fun w0 => ?_
    repeat first | refine zaa rfl (zaz rfl) ?_ | (refine zae ?_; refine zaa rfl (zcg rfl rfl (by (repeat (first | exact mh | refine mt ?_)); done) rfl rfl) ?_) | refine zaa rfl (zcc rfl) ?_ | refine zah ?_ | (refine zcr ?_; first | refine zcs ?_ | refine zct ?_) | (refine zdb ?_; first | refine zdc ?_ | refine zdd ?_ | refine zdg ?_ | refine zdi rfl ?_) | (refine zak rfl rfl rfl ?_; intro g) | (refine zal rfl rfl ?_; intro g) | (refine zag ?_; refine zan 0 rfl rfl rfl rfl rfl rfl rfl rfl rfl ?_) | refine zaa rfl (zci rfl rfl hI (Takes.crv Takes.nil)) ?_ | refine zaa rfl opj_buildZ ?_
    exact done_retCX rfl rfl ((0, 0), 0) rfl rfl mh rfl rfl rfl (fun h => by cases h) (List.nil_sublist _)
theorem ceqS_no {p : CV} {x y : Rat} (hx : Vl .f32 p.1 x) (hy : Vl .f32 p.2 y) : (!(cmpB .eql (fcmp .f32 p.1 p.1) && cmpB .eql (fcmp .f32 p.2 p.2))) = false := by
  rw [vl_eql hx hx, vl_eql hy hy]
  simp
theorem mt3 {a b c x : Ent} {H H' : List Ent} (h : H' = a :: b :: c :: H) (hx : x ∈ H) : x ∈ H' := by rw [h]; exact mt (mt (mt hx))
theorem ones_any (n : Nat) : ((tab n fun _ => one1).any fun x => cmpB .neq (fcmp .f32 x one1)) = false := by
  rw [List.any_eq_false]
  unfold tab
  intro x hx
  obtain ⟨i, hi, rfl⟩ := List.mem_map.1 hx
  show ¬ cmpB .neq (fcmp .f32 one1 one1) = true
  decide +kernel
set_option maxRecDepth 100000 in
set_option maxHeartbeats 40000000 in
theorem law_slopes (L M : List By) : Fn Try.prog 3 (fun w => [slB w L, slB w M]) (.raw (.bool true)) := by
  have hlong := r8Long_fn L M
  cases hb : (decide ((48 : Int) < L.length) || decide ((48 : Int) < M.length)) <;> rw [hb] at hlong
  case' true =>
    refine fn_intro Try.func3 rfl Try.ntmps3 (fun _ => Nat.le_of_ble_eq_true rfl) fun w0 => ?_
    repeat first | refine zaa rfl (zay rfl) ?_ | refine zaa rfl (zaz rfl) ?_ | (refine zad ?_; (refine zaa rfl (zci rfl rfl (hlong) ?_) ?_; (focus ((repeat (first | exact Takes.nil | refine Takes.sl ?_ | refine Takes.lit ?_ | refine Takes.fa ?_ | refine Takes.fc ?_ | refine Takes.net ?_ | (refine Takes.ownE ?_ ?_ ?_ ?_ ?_; (focus (exact ⟨_, _, (by (repeat (first | exact mh | refine mt ?_)); done)⟩)); (focus (simp; done)); (focus omega); (focus (simp only [maxLen]; omega))) | refine Takes.same ?_)); done)))) | refine zah ?_ | (refine zcr ?_; first | refine zcs ?_ | refine zct ?_) | (refine zdb ?_; first | refine zdc ?_ | refine zdd ?_ | refine zdg ?_ | refine zdi rfl ?_)
    exact done_ret1 rfl () rfl trivial (List.nil_sublist _)
  rw [Bool.or_eq_false_iff, decide_eq_false_iff_not, decide_eq_false_iff_not] at hb
  have hL : L.length < 2 ^ 40 := by omega
  have hM : M.length < 2 ^ 40 := by omega
  clear hb
  have hC := r8Curve_fn L hL
  refine fn_intro Try.func3 rfl Try.ntmps3 (fun _ => Nat.le_of_ble_eq_true rfl) fun w0 => ?_
  repeat first | refine zaa rfl (zay rfl) ?_ | refine zaa rfl (zaz rfl) ?_ | (refine zad ?_; (refine zaa rfl (zci rfl rfl (hlong) ?_) ?_; (focus ((repeat (first | exact Takes.nil | refine Takes.sl ?_ | refine Takes.lit ?_ | refine Takes.fa ?_ | refine Takes.fc ?_ | refine Takes.net ?_ | (refine Takes.ownE ?_ ?_ ?_ ?_ ?_; (focus (exact ⟨_, _, (by (repeat (first | exact mh | refine mt ?_)); done)⟩)); (focus (simp; done)); (focus omega); (focus (simp only [maxLen]; omega))) | refine Takes.same ?_)); done)))) | refine zah ?_ | (refine zcr ?_; refine zcs ?_) | (refine zdb ?_; first | refine zdc ?_ | refine zdd ?_ | refine zdf ?_ | refine zdj rfl ?_)
  refine rs_callM3 hC rfl rfl ?_ rfl ?_
  · (repeat (first | exact Takes.nil | refine Takes.sl ?_ | refine Takes.lit ?_ | refine Takes.fa ?_ | refine Takes.fc ?_ | refine Takes.net ?_ | (refine Takes.ownE ?_ ?_ ?_ ?_ ?_; (focus (exact ⟨_, _, (by (repeat (first | exact mh | refine mt ?_)); done)⟩)); (focus (simp; done)); (focus omega); (focus (simp only [maxLen]; omega))) | refine Takes.same ?_)); done
  rintro ⟨n, ga, gb, ca, cb, P, f, a, b, u⟩ hy
  dsimp only
  repeat first | refine zaa rfl (zay rfl) ?_ | refine zaa rfl (zaz rfl) ?_ | (refine zac ?_; first | refine zaa rfl (zba rfl rfl rfl) ?_ | refine zaa rfl (zbb rfl rfl (by omega)) ?_) | (refine zad ?_; refine zaa rfl (zbn rfl) ?_) | (refine zae ?_; first | refine zaa rfl (zcf rfl rfl (by (repeat (first | exact mh | refine mt ?_)); done) rfl) ?_ | refine zaa rfl (zcg rfl rfl (by (repeat (first | exact mh | refine mt ?_)); done) rfl rfl) ?_) | refine zaa rfl (zcd rfl) ?_ | refine zaa rfl (zby rfl) ?_ | refine zah ?_ | (refine zcr ?_; refine zcs ?_) | (refine zdb ?_; first | refine zdc ?_ | refine zdd ?_) | (refine zal rfl rfl ?_; intro g) | (refine zag ?_; refine zan 0 rfl rfl rfl rfl rfl rfl rfl rfl rfl ?_) | (refine rs_call0 (r8At_fn M 0 13 (by omega) (by omega)) rfl rfl ?_ rfl ?_; (focus ((repeat (first | exact Takes.nil | refine Takes.sl ?_ | refine Takes.lit ?_ | refine Takes.fa ?_ | refine Takes.fc ?_ | refine Takes.net ?_ | (refine Takes.ownE ?_ ?_ ?_ ?_ ?_; (focus (exact ⟨_, _, (by (repeat (first | exact mh | refine mt ?_)); done)⟩)); (focus (simp; done)); (focus omega); (focus (simp only [maxLen]; omega))) | refine Takes.same ?_)); done)); rintro m0 ⟨hm1, hm2⟩)
  obtain ⟨m, hm0⟩ : ∃ m : Nat, 2 + m0 = (m : Int) := ⟨(2 + m0).toNat, by omega⟩
  rw [hm0]
  have hm : 2 ≤ m ∧ m ≤ 14 := by omega
  clear hm0 hm1 hm2 hC hlong
  obtain ⟨hn, hca, hcb, hdp, hfu, huu⟩ := id hy
  have hf := hy.wts
  have eB := blendW_eq hy
  dsimp only at hn hca hcb hdp hfu huu hf eB
  clear hy hfu huu
  have hT := tq_tm m (by omega)
  have hTm := isTime_yes hT.v ⟨hT.lo, hT.hi⟩
  have et : fbin .quo .f32 (some (FloatKind.f32.nearest (m : Int))) (fv .f32 1098907648) = tq (m : Int) := rfl
  rw [et]
  clear et
  obtain ⟨g5, hg5⟩ : ∃ x, x = g := ⟨g, rfl⟩
  subst hg5
  have hPf := hdp.pv.fin
  have hfa := hf.above
  have h1a := (wts_one n).above
  obtain ⟨_, _, _, hSn, _⟩ := law_slope hdp hn hf hm
  have hSl := slopeAt_fn (n := n) (P := P) (f := f) (t := tq (m : Int)) (by omega) hPf hfa hTm hSn.fin
  have hSo := slopeAt_fn (n := n) (P := P) (f := fun _ => one1) (t := tq (m : Int)) (by omega) hPf h1a hTm (own_nea hdp hn hm).fin
  have hPl := plainCurve_fn (n := n) (P := P) (by omega) hPf h1a
  refine RS.weakS (e' := [(68, .f .f32 (tq (m : Int))), (67, crvOc ga gb n ca cb), (7, .f .f32 (tq (m : Int))), (6, .raw (.int .i64 n)), (5, .raw (.pointer (some ⟨g5, 0, none⟩))), (4, .raw (.bool false)), (1, slB w0 M)]) ?_ ?_
  rotate_left
  · (repeat (first | exact Env.sub_nil _ | refine Env.sub_cons rfl ?_))
  refine RS.drop (H' := [⟨g5, 27, [.raw (.slice (some ⟨ga, 0, none⟩) n ca), .raw (.slice (some ⟨gb, 0, none⟩) n cb)], 2⟩, entF gb 29 n f cb, entC ga n P ca]) ?_ ?_
  rotate_left
  · exact List.Sublist.refl _
  repeat first | refine zaa rfl (zay rfl) ?_ | refine zaa rfl (zaz rfl) ?_ | (refine zae ?_; refine zaa rfl (zcf rfl rfl (by (repeat (first | exact mh | refine mt ?_)); done) rfl) ?_) | refine zaa rfl (zcd rfl) ?_ | refine zaa rfl (zbz rfl rfl) ?_ | refine zah ?_ | (refine zcr ?_; refine zcs ?_) | (refine zdb ?_; first | refine zdc ?_ | refine zdd ?_) | refine zaa rfl (zci rfl rfl hSl (Takes.crvOc (mt (mt mh)) (mt mh) hca hcb (Takes.same Takes.nil))) ?_
  refine rs_callM3 hPl rfl rfl (Takes.ownE ⟨_, _, mt (mt mh)⟩ (by simp) (by omega) hca.2 Takes.nil) rfl ?_
  rintro ⟨⟨pa, pb⟩, pc⟩ hpc
  dsimp only at hpc ⊢
  repeat first | refine zaa rfl (zay rfl) ?_ | refine zaa rfl (zaz rfl) ?_ | (refine zae ?_; refine zaa rfl (zcg rfl rfl (by (repeat (first | exact mh | refine mt ?_)); done) rfl rfl) ?_) | refine zaa rfl (zbz rfl rfl) ?_ | refine zah ?_ | (refine zcr ?_; refine zcs ?_) | (refine zdb ?_; first | refine zdc ?_ | refine zdd ?_) | (refine zal rfl rfl ?_; intro g) | (refine zag ?_; refine zan 0 rfl rfl rfl rfl rfl rfl rfl rfl rfl ?_)
  refine RS.weakS (e' := [(80, .f .f32 (tq (m : Int))), (79, crvOc pa pb n pc n), (11, .raw (.bool true)), (10, .raw (.pointer (some ⟨g, 0, none⟩))), (9, .raw (.bool true)), (8, cA (slopeP n P f (tq (m : Int)))), (7, .f .f32 (tq (m : Int))), (6, .raw (.int .i64 n)), (5, .raw (.pointer (some ⟨g5, 0, none⟩))), (4, .raw (.bool false)), (1, slB w0 M)]) ?_ ?_
  rotate_left
  · (repeat (first | exact Env.sub_nil _ | refine Env.sub_cons rfl ?_))
  obtain ⟨g10, hg10⟩ : ∃ x, x = g := ⟨g, rfl⟩
  subst hg10
  obtain ⟨HH, hHH⟩ : ∃ HH : List Ent, HH = [⟨g10, 27, [.raw (.slice (some ⟨pa, 0, none⟩) n pc), .raw (.slice (some ⟨pb, 0, none⟩) n n)], 2⟩, entC pa n P pc, entF pb 29 n (fun _ => one1) n, ⟨g5, 27, [.raw (.slice (some ⟨ga, 0, none⟩) n ca), .raw (.slice (some ⟨gb, 0, none⟩) n cb)], 2⟩, entF gb 29 n f cb, entC ga n P ca] := ⟨_, rfl⟩
  refine RS.drop (H' := HH) ?_ ?_
  rotate_left
  · rw [hHH]
    exact List.Sublist.refl _
  have mPc : entC pa n P pc ∈ HH := by rw [hHH]; simp
  have mPf : entF pb 29 n (fun _ => one1) n ∈ HH := by rw [hHH]; simp
  have mP : (⟨g10, 27, [.raw (.slice (some ⟨pa, 0, none⟩) n pc), .raw (.slice (some ⟨pb, 0, none⟩) n n)], 2⟩ : Ent) ∈ HH := by rw [hHH]; simp
  have mCc : entC ga n P ca ∈ HH := by rw [hHH]; simp
  have mCf : entF gb 29 n f cb ∈ HH := by rw [hHH]; simp
  have mC : (⟨g5, 27, [.raw (.slice (some ⟨ga, 0, none⟩) n ca), .raw (.slice (some ⟨gb, 0, none⟩) n cb)], 2⟩ : Ent) ∈ HH := by rw [hHH]; simp
  clear hHH hPl hSl
  obtain ⟨B, hB⟩ : ∃ B, B = decide (3 ≤ n) := ⟨_, rfl⟩
  have hIs := isPlainN_fn (n := n) (P := P) (by omega) hPf h1a (ones_any n)
  rw [← hB] at hIs
  have hSc := slopeCurve_all B hB (n := n) (P := P) (by omega) hIs (fun h3 => (law_told hdp ⟨h3, hn.2⟩ hm).1) (wts_one (n - 1)).above
  have hn1 : n ≤ n ∧ n ≤ maxLen := ⟨Nat.le_refl n, by simp only [maxLen]; omega⟩
  repeat first | refine zaa rfl (zay rfl) ?_ | refine zaa rfl (zaz rfl) ?_ | refine zaa rfl (zbz rfl rfl) ?_ | refine zah ?_ | (refine zcr ?_; refine zcs ?_) | (refine zdb ?_; first | refine zdc ?_ | refine zdd ?_) | refine zaa rfl (zci rfl rfl hSo (Takes.crvOc mPc mPf hpc hn1 (Takes.same Takes.nil))) ?_ | refine zaa rfl (zcg (T := 27) rfl rfl mP rfl rfl) ?_
  refine rs_callM3 hSc rfl rfl (Takes.crvOc mPc mPf hpc hn1 Takes.nil) rfl ?_
  rintro ⟨⟨sa, sb⟩, sc⟩ hsc
  dsimp only at hsc ⊢
  repeat first | refine zai rfl rfl ?_ | refine zaa rfl (zay rfl) ?_ | refine zaa rfl (zaz rfl) ?_ | (refine zac ?_; first | refine zaa rfl (zbh rfl rfl) ?_ | refine zaa rfl (zbl rfl rfl) ?_) | refine zaa rfl (zbz rfl rfl) ?_ | refine zaa rfl (zcb rfl rfl) ?_ | refine zaa rfl (zcc rfl) ?_ | refine zah ?_ | (refine zcr ?_; refine zcs ?_) | (refine zdb ?_; first | refine zdc ?_ | refine zdd ?_) | (refine zal rfl rfl ?_; intro g) | (refine zag ?_; refine zan 0 rfl rfl rfl rfl rfl rfl rfl rfl rfl ?_)
  have hBn : (!(B == decide ((3 : Int) ≤ (n : Int)))) = false := by
    rw [hB, show decide ((3 : Int) ≤ (n : Int)) = decide (3 ≤ n) from decide_eq_decide.2 (by omega)]
    simp
  rw [hBn]
  obtain ⟨g14, hg14⟩ : ∃ x, x = g := ⟨g, rfl⟩
  subst hg14
  repeat first | refine zaa rfl (zay rfl) ?_ | refine zah ?_ | (refine zcr ?_; refine zcs ?_) | (refine zdb ?_; first | refine zdc ?_ | refine zdd ?_ | refine zdf ?_ | refine zdj rfl ?_)
  refine WS.weak (e' := [(105, .raw (.bool B)), (14, .raw (.pointer (some ⟨g14, 0, none⟩))), (12, cA (slopeP n P (fun _ => one1) (tq (m : Int)))), (10, .raw (.pointer (some ⟨g10, 0, none⟩))), (8, cA (slopeP n P f (tq (m : Int)))), (7, .f .f32 (tq (m : Int))), (6, .raw (.int .i64 n)), (5, .raw (.pointer (some ⟨g5, 0, none⟩))), (4, .raw (.bool false)), (1, slB w0 M)])
    (S' := St w0 [] (⟨g14, 27, [.raw (.slice (oaS B sa) (onS B (n - 1)) (onS B sc)), .raw (.slice (oaS B sb) (onS B (n - 1)) (onS B (n - 1)))], 2⟩ :: (slopeE 29 B n P ((sa, sb), sc) ++ HH))) ?_ (by (repeat (first | exact Env.sub_nil _ | refine Env.sub_cons rfl ?_))) (fun w h => h)
  refine ws_thenJ (ι := Unit) (fun _ => [(10, .raw (.pointer (some ⟨g10, 0, none⟩))), (8, cA (slopeP n P f (tq (m : Int)))), (7, .f .f32 (tq (m : Int))), (6, .raw (.int .i64 n)), (5, .raw (.pointer (some ⟨g5, 0, none⟩))), (4, .raw (.bool false)), (1, slB w0 M)])
    (fun _ => St w0 [] HH) (fun _ => True) (ws_cond rfl (fun hd => ?_) (fun hd => ?_)) (fun _ _ => ?_)
  · subst hd
    have h3 : 3 ≤ n := of_decide_eq_true hB.symm
    obtain ⟨hq1, hq2, hq3, hq4⟩ := law_told hdp ⟨h3, hn.2⟩ hm
    have hCa := curveAt_fn (n := n - 1) (P := diffP n P) (f := fun _ => one1) (t := tq (m : Int)) (by omega) hq1 (wts_one (n - 1)).above hTm hq2
    have hFa := r8Far_fn _ _ hq3
    have hs2 := hsc rfl
    refine WS.st (S' := St w0 [] (⟨g14, 27, [.raw (.slice (some ⟨sa, 0, none⟩) (n - 1) sc), .raw (.slice (some ⟨sb, 0, none⟩) (n - 1) (n - 1))], 2⟩ :: entF sb 29 (n - 1) (fun _ => one1) (n - 1) :: entC sa (n - 1) (diffP n P) sc :: HH)) ?_ (fun w h => h)
    have hnn : n - 1 ≤ n - 1 ∧ n - 1 ≤ maxLen := ⟨Nat.le_refl _, by simp only [maxLen]; omega⟩
    repeat first | refine zai rfl rfl ?_ | refine zaa rfl (zay rfl) ?_ | refine zaa rfl (zaz rfl) ?_ | (refine zac ?_; refine zaa rfl (zbd rfl rfl rfl) ?_) | (refine zad ?_; (refine zaa rfl (zci rfl rfl (hFa) ?_) ?_; (focus ((repeat (first | exact Takes.nil | refine Takes.sl ?_ | refine Takes.lit ?_ | refine Takes.fa ?_ | refine Takes.fc ?_ | refine Takes.net ?_ | (refine Takes.ownE ?_ ?_ ?_ ?_ ?_; (focus (exact ⟨_, _, (by (repeat (first | exact mh | refine mt ?_)); done)⟩)); (focus (simp; done)); (focus omega); (focus (simp only [maxLen]; omega))) | refine Takes.same ?_)); done)))) | (refine zae ?_; refine zaa rfl (zcg rfl rfl (by (repeat (first | exact mh | refine mt ?_)); done) rfl rfl) ?_) | refine zaa rfl (zbz rfl rfl) ?_ | refine zaa rfl (zcb rfl rfl) ?_ | refine zaa rfl (zcc rfl) ?_ | refine zah ?_ | (refine zcr ?_; refine zcs ?_) | (refine zdb ?_; first | refine zdc ?_ | refine zdd ?_) | refine zaa rfl (zci rfl rfl hCa (Takes.crvOc (mt (mt mh)) (mt mh) hs2 hnn (Takes.same Takes.nil))) ?_
    unfold c01 at hq4
    rw [hq4]
    repeat ((refine zdb ?_; first | refine zdf ?_ | refine zdj rfl ?_))
    exact done_join () trivial (by (repeat (first | exact Env.sub_nil _ | refine Env.sub_cons rfl ?_))) (fun w h => h.weak (.cons _ (.cons _ (.cons _ (List.Sublist.refl _)))))
  · subst hd
    repeat ((refine zdb ?_; refine zdf ?_))
    exact done_join () trivial (by (repeat (first | exact Env.sub_nil _ | refine Env.sub_cons rfl ?_))) (fun w h => h.weak (.cons _ (List.Sublist.refl _)))
  clear hSc hIs hB hBn hsc hSo
  have hRp := r8Points_fn M hM
  repeat first | refine zaa rfl (zay rfl) ?_ | (refine zdb ?_; first | refine zdc ?_ | refine zdd ?_)
  refine rs_callM3 hRp rfl rfl ?_ rfl ?_
  · (repeat (first | exact Takes.nil | refine Takes.sl ?_ | refine Takes.lit ?_ | refine Takes.fa ?_ | refine Takes.fc ?_ | refine Takes.net ?_ | (refine Takes.ownE ?_ ?_ ?_ ?_ ?_; (focus (exact ⟨_, _, (by (repeat (first | exact mh | refine mt ?_)); done)⟩)); (focus (simp; done)); (focus omega); (focus (simp only [maxLen]; omega))) | refine Takes.same ?_)); done
  rintro ⟨gp, cp, Pp, pa_, pb_, _⟩ ⟨hcp, hpp⟩
  dsimp only at hcp hpp ⊢
  repeat first | refine zaa rfl (zay rfl) ?_ | refine zaa rfl (zaz rfl) ?_ | (refine zac ?_; refine zaa rfl (zba rfl rfl rfl) ?_) | refine zaa rfl (zby rfl) ?_ | refine zah ?_ | (refine zcr ?_; refine zcs ?_) | (refine zdb ?_; first | refine zdc ?_ | refine zdd ?_) | (refine rs_call0 (r8At_fn M 1 16 (by omega) (by omega)) rfl rfl ?_ rfl ?_; (focus ((repeat (first | exact Takes.nil | refine Takes.sl ?_ | refine Takes.lit ?_ | refine Takes.fa ?_ | refine Takes.fc ?_ | refine Takes.net ?_ | (refine Takes.ownE ?_ ?_ ?_ ?_ ?_; (focus (exact ⟨_, _, (by (repeat (first | exact mh | refine mt ?_)); done)⟩)); (focus (simp; done)); (focus omega); (focus (simp only [maxLen]; omega))) | refine Takes.same ?_)); done)); rintro k0 ⟨hk1, hk2⟩)
  obtain ⟨k, hk0⟩ : ∃ k : Nat, k0 = (k : Int) := ⟨k0.toNat, by omega⟩
  subst hk0
  have hk : k < 16 := by omega
  have et : fbin .quo .f32 (some (FloatKind.f32.nearest (k : Int))) (fv .f32 1098907648) = tq (k : Int) := rfl
  rw [et]
  clear et hk1 hk2 hRp
  obtain ⟨HP, hHP⟩ : ∃ HP : List Ent, HP = entC gp 1 Pp cp :: HH := ⟨_, rfl⟩
  have nPp : entC gp 1 Pp cp ∈ HP := by rw [hHP]; simp
  have nPc : entC pa n P pc ∈ HP := by rw [hHP]; exact mt mPc
  have nPf : entF pb 29 n (fun _ => one1) n ∈ HP := by rw [hHP]; exact mt mPf
  have nP := List.mem_cons_of_mem (entC gp 1 Pp cp) mP
  have nC := List.mem_cons_of_mem (entC gp 1 Pp cp) mC
  rw [← hHP] at nP nC
  have nCc : entC ga n P ca ∈ HP := by rw [hHP]; exact mt mCc
  have nCf : entF gb 29 n f cb ∈ HP := by rw [hHP]; exact mt mCf
  obtain ⟨pt, hpt⟩ : ∃ pt, pt = Pp 0 := ⟨_, rfl⟩
  have hpq : pt = (qtF (pa_ 0), qtF (pb_ 0)) := by rw [hpt]; exact hpp.q 0 (by omega)
  have hc := hpp.a 0 (by omega)
  have hd := hpp.b 0 (by omega)
  have hptf : finC pt = true := by rw [hpq]; exact finC_vl (qtF_vl hc) (qtF_vl hd)
  have hMv := moveCurve_fn (n := n) (P := P) (f := f) (by_ := pt) (by omega) hPf hfa hptf (moved_pv hdp hpq hc hd).fin
  refine WS.weak (e' := [(19, .f .f32 (tq (k : Int))), (18, .raw (.slice (some ⟨gp, 0, none⟩) 1 cp)), (10, .raw (.pointer (some ⟨g10, 0, none⟩))), (8, cA (slopeP n P f (tq (m : Int)))), (7, .f .f32 (tq (m : Int))), (6, .raw (.int .i64 n)), (5, .raw (.pointer (some ⟨g5, 0, none⟩))), (4, .raw (.bool false))]) (S' := St w0 [] HP) ?_ (by (repeat (first | exact Env.sub_nil _ | refine Env.sub_cons rfl ?_))) (fun w h => by rw [hHP]; exact h)
  clear mP mC mPc mPf mCc mCf hHP
  refine ws_K2 (Y := ((Nat × Nat) × Nat × Nat) × Nat) (E := fun ⟨⟨⟨mga, mgb⟩, mca, mcb⟩, g20⟩ => [(131, .tup [crvOc mga mgb n mca mcb, .raw (.bool true)]), (126, .tup [crvOc mga mgb n mca mcb, .raw (.bool true)]), (132, crvOc mga mgb n mca mcb), (133, .raw (.bool true)), (20, .raw (.pointer (some ⟨g20, 0, none⟩))), (21, .raw (.bool true)), (19, .f .f32 (tq (k : Int))), (18, .raw (.slice (some ⟨gp, 0, none⟩) 1 cp)), (10, .raw (.pointer (some ⟨g10, 0, none⟩))), (8, cA (slopeP n P f (tq (m : Int)))), (7, .f .f32 (tq (m : Int))), (6, .raw (.int .i64 n)), (5, .raw (.pointer (some ⟨g5, 0, none⟩))), (4, .raw (.bool false))]) (SS := fun ⟨⟨⟨mga, mgb⟩, mca, mcb⟩, g20⟩ => (St w0 [] (⟨g20, 27, [.raw (.slice (some ⟨mga, 0, none⟩) n mca), .raw (.slice (some ⟨mgb, 0, none⟩) n mcb)], 2⟩ :: entF mgb 29 n f mcb :: entC mga n (fun i => addC2 (P i) pt) mca :: HP))) (ok := fun ⟨⟨⟨_, _⟩, mca, mcb⟩, _⟩ => (n ≤ mca ∧ mca ≤ maxLen) ∧ n ≤ mcb ∧ mcb ≤ maxLen) (fun hD => ?_) (fun y hy => ?_)
  · refine ws_drawP (ix := [0, 1, 2, 3]) (W := St w0 [] HP) mixed (by decide +kernel) (fun _ h => h) ?_
    repeat first | refine zap rfl (zay rfl) ?_ | (refine zau ?_; refine zap rfl (zbw rfl rfl (by omega) (by omega)) ?_) | refine zav ?_ | refine zap rfl (zcg (T := 27) rfl rfl nC rfl rfl) ?_ | refine zap rfl (opj_loadC rfl rfl nPp (by omega)) ?_
    rw [show Pp (Int.toNat 0) = pt from hpt.symm]
    refine ⟨rfl, ?_⟩
    refine gp_name fun o ho Q' hQ => ?_
    have q4 := op_at (i := 4) ho rfl
    have q5 := op_at (i := 5) ho rfl
    have q6 := op_at (i := 6) ho rfl
    have q7 := op_at (i := 7) ho rfl
    have q8 := op_at (i := 8) ho rfl
    have q9 := op_at (i := 9) ho rfl
    have q10 := op_at (i := 10) ho rfl
    have v4_5_6_7_8_9_10 : ∀ (mga mgb mca mcb g20 : Nat), (n ≤ mca ∧ mca ≤ maxLen) ∧ n ≤ mcb ∧ mcb ≤ maxLen → GP Try.prog 392 o [] (fun _ => True) [10, 9, 8, 7, 6, 5, 4, 0, 1, 2, 3] [(131, .tup [crvOc mga mgb n mca mcb, .raw (.bool true)]), (126, .tup [crvOc mga mgb n mca mcb, .raw (.bool true)]), (132, crvOc mga mgb n mca mcb), (133, .raw (.bool true)), (20, .raw (.pointer (some ⟨g20, 0, none⟩))), (21, .raw (.bool true)), (19, .f .f32 (tq (k : Int))), (18, .raw (.slice (some ⟨gp, 0, none⟩) 1 cp)), (10, .raw (.pointer (some ⟨g10, 0, none⟩))), (8, cA (slopeP n P f (tq (m : Int)))), (7, .f .f32 (tq (m : Int))), (6, .raw (.int .i64 n)), (5, .raw (.pointer (some ⟨g5, 0, none⟩))), (4, .raw (.bool false))] (St w0 [] (⟨g20, 27, [.raw (.slice (some ⟨mga, 0, none⟩) n mca), .raw (.slice (some ⟨mgb, 0, none⟩) n mcb)], 2⟩ :: entF mgb 29 n f mcb :: entC mga n (fun i => addC2 (P i) pt) mca :: HP)) Q' := fun mga mgb mca mcb g20 hmc => gp_end (by rw [ho]; decide +kernel) (by rw [hQ]; exact hD ((((mga, mgb), mca, mcb), g20) : ((Nat × Nat) × Nat × Nat) × Nat) hmc)
    have v4_5_6_7_8_9 : ∀ (mga mgb mca mcb g20 : Nat), (n ≤ mca ∧ mca ≤ maxLen) ∧ n ≤ mcb ∧ mcb ≤ maxLen → GP Try.prog 392 o [] (fun _ => True) [9, 8, 7, 6, 5, 4, 0, 1, 2, 3] [(131, .tup [crvOc mga mgb n mca mcb, .raw (.bool true)]), (126, .tup [crvOc mga mgb n mca mcb, .raw (.bool true)]), (132, crvOc mga mgb n mca mcb), (133, .raw (.bool true)), (20, .raw (.pointer (some ⟨g20, 0, none⟩))), (19, .f .f32 (tq (k : Int))), (18, .raw (.slice (some ⟨gp, 0, none⟩) 1 cp)), (10, .raw (.pointer (some ⟨g10, 0, none⟩))), (8, cA (slopeP n P f (tq (m : Int)))), (7, .f .f32 (tq (m : Int))), (6, .raw (.int .i64 n)), (5, .raw (.pointer (some ⟨g5, 0, none⟩))), (4, .raw (.bool false))] (St w0 [] (⟨g20, 27, [.raw (.slice (some ⟨mga, 0, none⟩) n mca), .raw (.slice (some ⟨mgb, 0, none⟩) n mcb)], 2⟩ :: entF mgb 29 n f mcb :: entC mga n (fun i => addC2 (P i) pt) mca :: HP)) Q' := fun mga mgb mca mcb g20 hmc => by
      refine gp_step [10] (by rw [ho]; decide +kernel) fun f hf => ?_
      obtain rfl : f = 10 := by simpa using hf
      exact sp_op q10 (by rw [ho]; decide +kernel) rfl (zaz rfl) rfl (cont_set rfl rfl (gp_to (v4_5_6_7_8_9_10 mga mgb mca mcb g20 hmc) rfl (by (repeat (first | exact Env.sub_nil _ | refine Env.sub_cons rfl ?_))) trivial rfl (fun _ h => h) (fun _ _ => trivial)))
    have v4_5_6_7_8 : ∀ (mga mgb mca mcb g20 : Nat), (n ≤ mca ∧ mca ≤ maxLen) ∧ n ≤ mcb ∧ mcb ≤ maxLen → GP Try.prog 392 o [] (fun _ => True) [8, 7, 6, 5, 4, 0, 1, 2, 3] [(131, .tup [crvOc mga mgb n mca mcb, .raw (.bool true)]), (126, .tup [crvOc mga mgb n mca mcb, .raw (.bool true)]), (132, crvOc mga mgb n mca mcb), (133, .raw (.bool true)), (20, .raw (.pointer (some ⟨g20, 0, none⟩))), (19, .f .f32 (tq (k : Int))), (18, .raw (.slice (some ⟨gp, 0, none⟩) 1 cp)), (10, .raw (.pointer (some ⟨g10, 0, none⟩))), (8, cA (slopeP n P f (tq (m : Int)))), (7, .f .f32 (tq (m : Int))), (6, .raw (.int .i64 n)), (5, .raw (.pointer (some ⟨g5, 0, none⟩))), (4, .raw (.bool false))] (St w0 [] (⟨g20, 27, [.raw (.slice none 0 0), .raw (.slice none 0 0)], 2⟩ :: entF mgb 29 n f mcb :: entC mga n (fun i => addC2 (P i) pt) mca :: HP)) Q' := fun mga mgb mca mcb g20 hmc => by
      refine gp_step [9] (by rw [ho]; decide +kernel) fun f hf => ?_
      obtain rfl : f = 9 := by simpa using hf
      exact sp_eff q9 (by rw [ho]; decide +kernel) (effj_storeAX 0 rfl rfl rfl rfl rfl rfl rfl rfl rfl) (cont_set rfl rfl (gp_to (v4_5_6_7_8_9 mga mgb mca mcb g20 hmc) rfl (by (repeat (first | exact Env.sub_nil _ | refine Env.sub_cons rfl ?_))) trivial rfl (fun _ h => h) (fun _ _ => trivial)))
    have v4_5_6_7 : ∀ (mga mgb mca mcb : Nat), (n ≤ mca ∧ mca ≤ maxLen) ∧ n ≤ mcb ∧ mcb ≤ maxLen → GP Try.prog 392 o [] (fun _ => True) [7, 6, 5, 4, 0, 1, 2, 3] [(131, .tup [crvOc mga mgb n mca mcb, .raw (.bool true)]), (126, .tup [crvOc mga mgb n mca mcb, .raw (.bool true)]), (132, crvOc mga mgb n mca mcb), (133, .raw (.bool true)), (19, .f .f32 (tq (k : Int))), (18, .raw (.slice (some ⟨gp, 0, none⟩) 1 cp)), (10, .raw (.pointer (some ⟨g10, 0, none⟩))), (8, cA (slopeP n P f (tq (m : Int)))), (7, .f .f32 (tq (m : Int))), (6, .raw (.int .i64 n)), (5, .raw (.pointer (some ⟨g5, 0, none⟩))), (4, .raw (.bool false))] (St w0 [] (entF mgb 29 n f mcb :: entC mga n (fun i => addC2 (P i) pt) mca :: HP)) Q' := fun mga mgb mca mcb hmc => by
      refine gp_step [8] (by rw [ho]; decide +kernel) fun f hf => ?_
      obtain rfl : f = 8 := by simpa using hf
      exact sp_makes q8 rfl (by rw [ho]; decide +kernel) rfl (makesX_alloc rfl rfl rfl) fun g20 => cont_set rfl rfl (gp_to (v4_5_6_7_8 mga mgb mca mcb g20 hmc) rfl (by (repeat (first | exact Env.sub_nil _ | refine Env.sub_cons rfl ?_))) trivial rfl (fun _ h => h) (fun _ _ => trivial))
    have v4_5_6_8_9 : ∀ (mga mgb mca mcb g20 : Nat), (n ≤ mca ∧ mca ≤ maxLen) ∧ n ≤ mcb ∧ mcb ≤ maxLen → GP Try.prog 392 o [] (fun _ => True) [9, 8, 6, 5, 4, 0, 1, 2, 3] [(131, .tup [crvOc mga mgb n mca mcb, .raw (.bool true)]), (126, .tup [crvOc mga mgb n mca mcb, .raw (.bool true)]), (132, crvOc mga mgb n mca mcb), (20, .raw (.pointer (some ⟨g20, 0, none⟩))), (19, .f .f32 (tq (k : Int))), (18, .raw (.slice (some ⟨gp, 0, none⟩) 1 cp)), (10, .raw (.pointer (some ⟨g10, 0, none⟩))), (8, cA (slopeP n P f (tq (m : Int)))), (7, .f .f32 (tq (m : Int))), (6, .raw (.int .i64 n)), (5, .raw (.pointer (some ⟨g5, 0, none⟩))), (4, .raw (.bool false))] (St w0 [] (⟨g20, 27, [.raw (.slice (some ⟨mga, 0, none⟩) n mca), .raw (.slice (some ⟨mgb, 0, none⟩) n mcb)], 2⟩ :: entF mgb 29 n f mcb :: entC mga n (fun i => addC2 (P i) pt) mca :: HP)) Q' := fun mga mgb mca mcb g20 hmc => by
      refine gp_step [7] (by rw [ho]; decide +kernel) fun f hf => ?_
      obtain rfl : f = 7 := by simpa using hf
      exact sp_op q7 (by rw [ho]; decide +kernel) rfl (zbz rfl rfl) rfl (cont_set rfl rfl (gp_to (v4_5_6_7_8_9 mga mgb mca mcb g20 hmc) rfl (by (repeat (first | exact Env.sub_nil _ | refine Env.sub_cons rfl ?_))) trivial rfl (fun _ h => h) (fun _ _ => trivial)))
    have v4_5_6_8 : ∀ (mga mgb mca mcb g20 : Nat), (n ≤ mca ∧ mca ≤ maxLen) ∧ n ≤ mcb ∧ mcb ≤ maxLen → GP Try.prog 392 o [] (fun _ => True) [8, 6, 5, 4, 0, 1, 2, 3] [(131, .tup [crvOc mga mgb n mca mcb, .raw (.bool true)]), (126, .tup [crvOc mga mgb n mca mcb, .raw (.bool true)]), (132, crvOc mga mgb n mca mcb), (20, .raw (.pointer (some ⟨g20, 0, none⟩))), (19, .f .f32 (tq (k : Int))), (18, .raw (.slice (some ⟨gp, 0, none⟩) 1 cp)), (10, .raw (.pointer (some ⟨g10, 0, none⟩))), (8, cA (slopeP n P f (tq (m : Int)))), (7, .f .f32 (tq (m : Int))), (6, .raw (.int .i64 n)), (5, .raw (.pointer (some ⟨g5, 0, none⟩))), (4, .raw (.bool false))] (St w0 [] (⟨g20, 27, [.raw (.slice none 0 0), .raw (.slice none 0 0)], 2⟩ :: entF mgb 29 n f mcb :: entC mga n (fun i => addC2 (P i) pt) mca :: HP)) Q' := fun mga mgb mca mcb g20 hmc => by
      refine gp_step [7, 9] (by rw [ho]; decide +kernel) fun f hf => ?_
      have hf : f = 7 ∨ f = 9 := by simpa using hf
      rcases hf with rfl | rfl
      · exact sp_op q7 (by rw [ho]; decide +kernel) rfl (zbz rfl rfl) rfl (cont_set rfl rfl (gp_to (v4_5_6_7_8 mga mgb mca mcb g20 hmc) rfl (by (repeat (first | exact Env.sub_nil _ | refine Env.sub_cons rfl ?_))) trivial rfl (fun _ h => h) (fun _ _ => trivial)))
      · exact sp_eff q9 (by rw [ho]; decide +kernel) (effj_storeAX 0 rfl rfl rfl rfl rfl rfl rfl rfl rfl) (cont_set rfl rfl (gp_to (v4_5_6_8_9 mga mgb mca mcb g20 hmc) rfl (by (repeat (first | exact Env.sub_nil _ | refine Env.sub_cons rfl ?_))) trivial rfl (fun _ h => h) (fun _ _ => trivial)))
    have v4_5_6 : ∀ (mga mgb mca mcb : Nat), (n ≤ mca ∧ mca ≤ maxLen) ∧ n ≤ mcb ∧ mcb ≤ maxLen → GP Try.prog 392 o [] (fun _ => True) [6, 5, 4, 0, 1, 2, 3] [(131, .tup [crvOc mga mgb n mca mcb, .raw (.bool true)]), (126, .tup [crvOc mga mgb n mca mcb, .raw (.bool true)]), (132, crvOc mga mgb n mca mcb), (19, .f .f32 (tq (k : Int))), (18, .raw (.slice (some ⟨gp, 0, none⟩) 1 cp)), (10, .raw (.pointer (some ⟨g10, 0, none⟩))), (8, cA (slopeP n P f (tq (m : Int)))), (7, .f .f32 (tq (m : Int))), (6, .raw (.int .i64 n)), (5, .raw (.pointer (some ⟨g5, 0, none⟩))), (4, .raw (.bool false))] (St w0 [] (entF mgb 29 n f mcb :: entC mga n (fun i => addC2 (P i) pt) mca :: HP)) Q' := fun mga mgb mca mcb hmc => by
      refine gp_step [7, 8] (by rw [ho]; decide +kernel) fun f hf => ?_
      have hf : f = 7 ∨ f = 8 := by simpa using hf
      rcases hf with rfl | rfl
      · exact sp_op q7 (by rw [ho]; decide +kernel) rfl (zbz rfl rfl) rfl (cont_set rfl rfl (gp_to (v4_5_6_7 mga mgb mca mcb hmc) rfl (by (repeat (first | exact Env.sub_nil _ | refine Env.sub_cons rfl ?_))) trivial rfl (fun _ h => h) (fun _ _ => trivial)))
      · exact sp_makes q8 rfl (by rw [ho]; decide +kernel) rfl (makesX_alloc rfl rfl rfl) fun g20 => cont_set rfl rfl (gp_to (v4_5_6_8 mga mgb mca mcb g20 hmc) rfl (by (repeat (first | exact Env.sub_nil _ | refine Env.sub_cons rfl ?_))) trivial rfl (fun _ h => h) (fun _ _ => trivial))
    have v4_5_7_8 : ∀ (mga mgb mca mcb g20 : Nat), (n ≤ mca ∧ mca ≤ maxLen) ∧ n ≤ mcb ∧ mcb ≤ maxLen → GP Try.prog 392 o [] (fun _ => True) [8, 7, 5, 4, 0, 1, 2, 3] [(131, .tup [crvOc mga mgb n mca mcb, .raw (.bool true)]), (126, .tup [crvOc mga mgb n mca mcb, .raw (.bool true)]), (133, .raw (.bool true)), (20, .raw (.pointer (some ⟨g20, 0, none⟩))), (19, .f .f32 (tq (k : Int))), (18, .raw (.slice (some ⟨gp, 0, none⟩) 1 cp)), (10, .raw (.pointer (some ⟨g10, 0, none⟩))), (8, cA (slopeP n P f (tq (m : Int)))), (7, .f .f32 (tq (m : Int))), (6, .raw (.int .i64 n)), (5, .raw (.pointer (some ⟨g5, 0, none⟩))), (4, .raw (.bool false))] (St w0 [] (⟨g20, 27, [.raw (.slice none 0 0), .raw (.slice none 0 0)], 2⟩ :: entF mgb 29 n f mcb :: entC mga n (fun i => addC2 (P i) pt) mca :: HP)) Q' := fun mga mgb mca mcb g20 hmc => by
      refine gp_step [6] (by rw [ho]; decide +kernel) fun f hf => ?_
      obtain rfl : f = 6 := by simpa using hf
      exact sp_op q6 (by rw [ho]; decide +kernel) rfl (zbz rfl rfl) rfl (cont_set rfl rfl (gp_to (v4_5_6_7_8 mga mgb mca mcb g20 hmc) rfl (by (repeat (first | exact Env.sub_nil _ | refine Env.sub_cons rfl ?_))) trivial rfl (fun _ h => h) (fun _ _ => trivial)))
    have v4_5_7 : ∀ (mga mgb mca mcb : Nat), (n ≤ mca ∧ mca ≤ maxLen) ∧ n ≤ mcb ∧ mcb ≤ maxLen → GP Try.prog 392 o [] (fun _ => True) [7, 5, 4, 0, 1, 2, 3] [(131, .tup [crvOc mga mgb n mca mcb, .raw (.bool true)]), (126, .tup [crvOc mga mgb n mca mcb, .raw (.bool true)]), (133, .raw (.bool true)), (19, .f .f32 (tq (k : Int))), (18, .raw (.slice (some ⟨gp, 0, none⟩) 1 cp)), (10, .raw (.pointer (some ⟨g10, 0, none⟩))), (8, cA (slopeP n P f (tq (m : Int)))), (7, .f .f32 (tq (m : Int))), (6, .raw (.int .i64 n)), (5, .raw (.pointer (some ⟨g5, 0, none⟩))), (4, .raw (.bool false))] (St w0 [] (entF mgb 29 n f mcb :: entC mga n (fun i => addC2 (P i) pt) mca :: HP)) Q' := fun mga mgb mca mcb hmc => by
      refine gp_step [6, 8] (by rw [ho]; decide +kernel) fun f hf => ?_
      have hf : f = 6 ∨ f = 8 := by simpa using hf
      rcases hf with rfl | rfl
      · exact sp_op q6 (by rw [ho]; decide +kernel) rfl (zbz rfl rfl) rfl (cont_set rfl rfl (gp_to (v4_5_6_7 mga mgb mca mcb hmc) rfl (by (repeat (first | exact Env.sub_nil _ | refine Env.sub_cons rfl ?_))) trivial rfl (fun _ h => h) (fun _ _ => trivial)))
      · exact sp_makes q8 rfl (by rw [ho]; decide +kernel) rfl (makesX_alloc rfl rfl rfl) fun g20 => cont_set rfl rfl (gp_to (v4_5_7_8 mga mgb mca mcb g20 hmc) rfl (by (repeat (first | exact Env.sub_nil _ | refine Env.sub_cons rfl ?_))) trivial rfl (fun _ h => h) (fun _ _ => trivial))
    have v4_5_8 : ∀ (mga mgb mca mcb g20 : Nat), (n ≤ mca ∧ mca ≤ maxLen) ∧ n ≤ mcb ∧ mcb ≤ maxLen → GP Try.prog 392 o [] (fun _ => True) [8, 5, 4, 0, 1, 2, 3] [(131, .tup [crvOc mga mgb n mca mcb, .raw (.bool true)]), (126, .tup [crvOc mga mgb n mca mcb, .raw (.bool true)]), (20, .raw (.pointer (some ⟨g20, 0, none⟩))), (19, .f .f32 (tq (k : Int))), (18, .raw (.slice (some ⟨gp, 0, none⟩) 1 cp)), (10, .raw (.pointer (some ⟨g10, 0, none⟩))), (8, cA (slopeP n P f (tq (m : Int)))), (7, .f .f32 (tq (m : Int))), (6, .raw (.int .i64 n)), (5, .raw (.pointer (some ⟨g5, 0, none⟩))), (4, .raw (.bool false))] (St w0 [] (⟨g20, 27, [.raw (.slice none 0 0), .raw (.slice none 0 0)], 2⟩ :: entF mgb 29 n f mcb :: entC mga n (fun i => addC2 (P i) pt) mca :: HP)) Q' := fun mga mgb mca mcb g20 hmc => by
      refine gp_step [6, 7] (by rw [ho]; decide +kernel) fun f hf => ?_
      have hf : f = 6 ∨ f = 7 := by simpa using hf
      rcases hf with rfl | rfl
      · exact sp_op q6 (by rw [ho]; decide +kernel) rfl (zbz rfl rfl) rfl (cont_set rfl rfl (gp_to (v4_5_6_8 mga mgb mca mcb g20 hmc) rfl (by (repeat (first | exact Env.sub_nil _ | refine Env.sub_cons rfl ?_))) trivial rfl (fun _ h => h) (fun _ _ => trivial)))
      · exact sp_op q7 (by rw [ho]; decide +kernel) rfl (zbz rfl rfl) rfl (cont_set rfl rfl (gp_to (v4_5_7_8 mga mgb mca mcb g20 hmc) rfl (by (repeat (first | exact Env.sub_nil _ | refine Env.sub_cons rfl ?_))) trivial rfl (fun _ h => h) (fun _ _ => trivial)))
    have v4_5 : ∀ (mga mgb mca mcb : Nat), (n ≤ mca ∧ mca ≤ maxLen) ∧ n ≤ mcb ∧ mcb ≤ maxLen → GP Try.prog 392 o [] (fun _ => True) [5, 4, 0, 1, 2, 3] [(131, .tup [crvOc mga mgb n mca mcb, .raw (.bool true)]), (126, .tup [crvOc mga mgb n mca mcb, .raw (.bool true)]), (19, .f .f32 (tq (k : Int))), (18, .raw (.slice (some ⟨gp, 0, none⟩) 1 cp)), (10, .raw (.pointer (some ⟨g10, 0, none⟩))), (8, cA (slopeP n P f (tq (m : Int)))), (7, .f .f32 (tq (m : Int))), (6, .raw (.int .i64 n)), (5, .raw (.pointer (some ⟨g5, 0, none⟩))), (4, .raw (.bool false))] (St w0 [] (entF mgb 29 n f mcb :: entC mga n (fun i => addC2 (P i) pt) mca :: HP)) Q' := fun mga mgb mca mcb hmc => by
      refine gp_step [6, 7, 8] (by rw [ho]; decide +kernel) fun f hf => ?_
      have hf : f = 6 ∨ f = 7 ∨ f = 8 := by simpa using hf
      rcases hf with rfl | rfl | rfl
      · exact sp_op q6 (by rw [ho]; decide +kernel) rfl (zbz rfl rfl) rfl (cont_set rfl rfl (gp_to (v4_5_6 mga mgb mca mcb hmc) rfl (by (repeat (first | exact Env.sub_nil _ | refine Env.sub_cons rfl ?_))) trivial rfl (fun _ h => h) (fun _ _ => trivial)))
      · exact sp_op q7 (by rw [ho]; decide +kernel) rfl (zbz rfl rfl) rfl (cont_set rfl rfl (gp_to (v4_5_7 mga mgb mca mcb hmc) rfl (by (repeat (first | exact Env.sub_nil _ | refine Env.sub_cons rfl ?_))) trivial rfl (fun _ h => h) (fun _ _ => trivial)))
      · exact sp_makes q8 rfl (by rw [ho]; decide +kernel) rfl (makesX_alloc rfl rfl rfl) fun g20 => cont_set rfl rfl (gp_to (v4_5_8 mga mgb mca mcb g20 hmc) rfl (by (repeat (first | exact Env.sub_nil _ | refine Env.sub_cons rfl ?_))) trivial rfl (fun _ h => h) (fun _ _ => trivial))
    have v4_8 : ∀ (mga mgb mca mcb g20 : Nat), (n ≤ mca ∧ mca ≤ maxLen) ∧ n ≤ mcb ∧ mcb ≤ maxLen → GP Try.prog 392 o [] (fun _ => True) [8, 4, 0, 1, 2, 3] [(131, .tup [crvOc mga mgb n mca mcb, .raw (.bool true)]), (20, .raw (.pointer (some ⟨g20, 0, none⟩))), (19, .f .f32 (tq (k : Int))), (18, .raw (.slice (some ⟨gp, 0, none⟩) 1 cp)), (10, .raw (.pointer (some ⟨g10, 0, none⟩))), (8, cA (slopeP n P f (tq (m : Int)))), (7, .f .f32 (tq (m : Int))), (6, .raw (.int .i64 n)), (5, .raw (.pointer (some ⟨g5, 0, none⟩))), (4, .raw (.bool false))] (St w0 [] (⟨g20, 27, [.raw (.slice none 0 0), .raw (.slice none 0 0)], 2⟩ :: entF mgb 29 n f mcb :: entC mga n (fun i => addC2 (P i) pt) mca :: HP)) Q' := fun mga mgb mca mcb g20 hmc => by
      refine gp_step [5] (by rw [ho]; decide +kernel) fun f hf => ?_
      obtain rfl : f = 5 := by simpa using hf
      exact sp_op q5 (by rw [ho]; decide +kernel) rfl (zay rfl) rfl (cont_set rfl rfl (gp_to (v4_5_8 mga mgb mca mcb g20 hmc) rfl (by (repeat (first | exact Env.sub_nil _ | refine Env.sub_cons rfl ?_))) trivial rfl (fun _ h => h) (fun _ _ => trivial)))
    have v4 : ∀ (mga mgb mca mcb : Nat), (n ≤ mca ∧ mca ≤ maxLen) ∧ n ≤ mcb ∧ mcb ≤ maxLen → GP Try.prog 392 o [] (fun _ => True) [4, 0, 1, 2, 3] [(131, .tup [crvOc mga mgb n mca mcb, .raw (.bool true)]), (19, .f .f32 (tq (k : Int))), (18, .raw (.slice (some ⟨gp, 0, none⟩) 1 cp)), (10, .raw (.pointer (some ⟨g10, 0, none⟩))), (8, cA (slopeP n P f (tq (m : Int)))), (7, .f .f32 (tq (m : Int))), (6, .raw (.int .i64 n)), (5, .raw (.pointer (some ⟨g5, 0, none⟩))), (4, .raw (.bool false))] (St w0 [] (entF mgb 29 n f mcb :: entC mga n (fun i => addC2 (P i) pt) mca :: HP)) Q' := fun mga mgb mca mcb hmc => by
      refine gp_step [5, 8] (by rw [ho]; decide +kernel) fun f hf => ?_
      have hf : f = 5 ∨ f = 8 := by simpa using hf
      rcases hf with rfl | rfl
      · exact sp_op q5 (by rw [ho]; decide +kernel) rfl (zay rfl) rfl (cont_set rfl rfl (gp_to (v4_5 mga mgb mca mcb hmc) rfl (by (repeat (first | exact Env.sub_nil _ | refine Env.sub_cons rfl ?_))) trivial rfl (fun _ h => h) (fun _ _ => trivial)))
      · exact sp_makes q8 rfl (by rw [ho]; decide +kernel) rfl (makesX_alloc rfl rfl rfl) fun g20 => cont_set rfl rfl (gp_to (v4_8 mga mgb mca mcb g20 hmc) rfl (by (repeat (first | exact Env.sub_nil _ | refine Env.sub_cons rfl ?_))) trivial rfl (fun _ h => h) (fun _ _ => trivial))
    refine gp_step [4, 8] (by rw [ho]; decide +kernel) fun f hf => ?_
    have hf : f = 4 ∨ f = 8 := by simpa using hf
    rcases hf with rfl | rfl
    · refine sp_call q4 (by rw [ho]; decide +kernel) rfl hMv rfl rfl (Takes.crvOc nCc nCf hca hcb (Takes.same Takes.nil)) (fun _ _ => rfl) ?_
      rintro ⟨⟨mga, mgb⟩, mca, mcb⟩ hmc
      exact cont_set (by rw [ho]; decide +kernel) rfl (gp_to (v4 mga mgb mca mcb hmc) rfl (by (repeat (first | exact Env.sub_nil _ | refine Env.sub_cons rfl ?_))) trivial rfl (fun _ h => h) (fun _ _ => trivial))
    · refine sp_makes q8 rfl (by rw [ho]; decide +kernel) rfl (makesX_alloc rfl rfl rfl) fun g20 => cont_go (fun _ h => h.weak (.cons _ (List.Sublist.refl _))) ?_
      refine gp_step [4] (by rw [ho]; decide +kernel) fun f hf => ?_
      obtain rfl : f = 4 := by simpa using hf
      refine sp_call q4 (by rw [ho]; decide +kernel) rfl hMv rfl rfl (Takes.crvOc (mt nCc) (mt nCf) hca hcb (Takes.same Takes.nil)) (fun _ _ => rfl) ?_
      rintro ⟨⟨mga, mgb⟩, mca, mcb⟩ hmc
      exact cont_set (by rw [ho]; decide +kernel) rfl (gp_to (v4_8 mga mgb mca mcb g20 hmc) rfl (by (repeat (first | exact Env.sub_nil _ | refine Env.sub_cons rfl ?_))) trivial rfl (fun _ h => h.perm (List.perm_middle (l₁ := [_, _])).symm) (fun _ _ => trivial))
  obtain ⟨⟨⟨mga, mgb⟩, mca, mcb⟩, g20⟩ := y
  dsimp only at hy ⊢
  obtain ⟨hmca, hmcb⟩ := hy
  obtain ⟨X, Y, hTp, hTk, ⟨t1, t2, t3, t4, t5⟩, t6, t7, t8⟩ := law_turned hdp hn hf hm hk
  have hTu := turnCurve_fn (n := n) (P := P) (f := f) (t := tq (k : Int)) (s := twoF) (by omega) hPf hfa (vl_fin (tq_tm k (by omega)).v) (vl_fin (show Vl .f32 twoF 2 from Vl.c (by decide +kernel))) hTk hTp.fin
  obtain ⟨HQ, hHQ⟩ : ∃ HQ : List Ent, HQ = ⟨g20, 27, [.raw (.slice (some ⟨mga, 0, none⟩) n mca), .raw (.slice (some ⟨mgb, 0, none⟩) n mcb)], 2⟩ :: entF mgb 29 n f mcb :: entC mga n (fun i => addC2 (P i) pt) mca :: HP := ⟨_, rfl⟩
  rw [← hHQ]
  have oM : (⟨g20, 27, [.raw (.slice (some ⟨mga, 0, none⟩) n mca), .raw (.slice (some ⟨mgb, 0, none⟩) n mcb)], 2⟩ : Ent) ∈ HQ := by rw [hHQ]; exact mh
  have oMf : entF mgb 29 n f mcb ∈ HQ := by rw [hHQ]; exact mt mh
  have oMc : entC mga n (fun i => addC2 (P i) pt) mca ∈ HQ := by rw [hHQ]; exact mt (mt mh)
  have oP := mt3 hHQ nP
  have oPc := mt3 hHQ nPc
  have oPf := mt3 hHQ nPf
  have oC := mt3 hHQ nC
  have oCc := mt3 hHQ nCc
  have oCf := mt3 hHQ nCf
  have oPp := mt3 hHQ nPp
  clear hHQ nP nPc nPf nC nCc nCf nPp hMv
  repeat first | refine zaa rfl (zay rfl) ?_ | (refine zcr ?_; refine zcs ?_) | (refine zdb ?_; first | refine zdc ?_ | refine zdd ?_) | refine zaa rfl (zcg (T := 27) rfl rfl oC rfl rfl) ?_
  refine rs_callM3 hTu rfl rfl (Takes.crvOc oCc oCf hca hcb (Takes.same (Takes.same Takes.nil))) rfl ?_
  rintro ⟨⟨tga, tgb⟩, tca, tcb⟩ ⟨htca, htcb⟩
  dsimp only at htca htcb ⊢
  repeat first | refine zaa rfl (zay rfl) ?_ | refine zaa rfl (zaz rfl) ?_ | refine zaa rfl (zbz rfl rfl) ?_ | refine zah ?_ | (refine zcr ?_; refine zcs ?_) | (refine zdb ?_; first | refine zdc ?_ | refine zdd ?_) | (refine zal rfl rfl ?_; intro g) | (refine zag ?_; refine zan 0 rfl rfl rfl rfl rfl rfl rfl rfl rfl ?_)
  obtain ⟨g22, hg22⟩ : ∃ x, x = g := ⟨g, rfl⟩
  subst hg22
  refine RS.weakS (e' := [(22, .raw (.pointer (some ⟨g22, 0, none⟩))), (23, .raw (.bool true)), (20, .raw (.pointer (some ⟨g20, 0, none⟩))), (21, .raw (.bool true)), (18, .raw (.slice (some ⟨gp, 0, none⟩) 1 cp)), (10, .raw (.pointer (some ⟨g10, 0, none⟩))), (8, cA (slopeP n P f (tq (m : Int)))), (7, .f .f32 (tq (m : Int))), (6, .raw (.int .i64 n)), (5, .raw (.pointer (some ⟨g5, 0, none⟩))), (4, .raw (.bool false))]) ?_ ?_
  rotate_left
  · (repeat (first | exact Env.sub_nil _ | refine Env.sub_cons rfl ?_))
  obtain ⟨HT, hHT⟩ : ∃ HT : List Ent, HT = ⟨g22, 27, [.raw (.slice (some ⟨tga, 0, none⟩) n tca), .raw (.slice (some ⟨tgb, 0, none⟩) n tcb)], 2⟩ :: entF tgb 29 n f tcb :: entC tga n (fun i => mulC (P i) (turnBy (tq (k : Int)) twoF)) tca :: HQ := ⟨_, rfl⟩
  refine RS.drop (H' := HT) ?_ ?_
  rotate_left
  · rw [hHT]
    exact List.Sublist.refl _
  have pT : (⟨g22, 27, [.raw (.slice (some ⟨tga, 0, none⟩) n tca), .raw (.slice (some ⟨tgb, 0, none⟩) n tcb)], 2⟩ : Ent) ∈ HT := by rw [hHT]; exact mh
  have pTf : entF tgb 29 n f tcb ∈ HT := by rw [hHT]; exact mt mh
  have pTc : entC tga n (fun i => mulC (P i) (turnBy (tq (k : Int)) twoF)) tca ∈ HT := by rw [hHT]; exact mt (mt mh)
  have pM := mt3 hHT oM
  have pMf := mt3 hHT oMf
  have pMc := mt3 hHT oMc
  have pP := mt3 hHT oP
  have pPc := mt3 hHT oPc
  have pPf := mt3 hHT oPf
  have pC := mt3 hHT oC
  have pCc := mt3 hHT oCc
  have pCf := mt3 hHT oCf
  have pPp := mt3 hHT oPp
  clear hHT oM oMf oMc oP oPc oPf oC oCc oCf oPp hTu
  have hAt := (law_at hdp hn hf hm).1
  obtain ⟨mv1, mv2, mv3⟩ := law_moved hdp hn hf hm hpq hc hd
  obtain ⟨ms1, ms2, ms3, ms4, ms5⟩ := law_moved_slope hdp hn hf hm hpq hc hd
  have hMp := (moved_pv hdp hpq hc hd).fin
  have f1 := curveAt_fn (n := n) (P := P) (f := f) (t := tq (m : Int)) (by omega) hPf hfa hTm hAt.fin
  have f2 := curveAt_fn (n := n) (P := fun i => addC2 (P i) pt) (f := f) (t := tq (m : Int)) (by omega) hMp hfa hTm mv1
  have f3 := curveAt_fn (n := n) (P := fun i => mulC (P i) (turnBy (tq (k : Int)) twoF)) (f := f) (t := tq (m : Int)) (by omega) hTp.fin hfa hTm t1
  have f4 := slopeAt_fn (n := n) (P := fun i => addC2 (P i) pt) (f := f) (t := tq (m : Int)) (by omega) hMp hfa hTm ms1
  have f5 := slopeAt_fn (n := n) (P := fun i => mulC (P i) (turnBy (tq (k : Int)) twoF)) (f := f) (t := tq (m : Int)) (by omega) hTp.fin hfa hTm t6
  repeat first | refine zai rfl rfl ?_ | refine zaa rfl (zay rfl) ?_ | refine zaa rfl (zaz rfl) ?_ | (refine zaf ?_; refine zaa rfl (zbw rfl rfl (by omega) (by omega)) ?_) | refine zaa rfl (zbz rfl rfl) ?_ | refine zaa rfl (zcb rfl rfl) ?_ | refine zaa rfl (zcc rfl) ?_ | refine zah ?_ | (refine zcr ?_; refine zcs ?_) | (refine zdb ?_; first | refine zdc ?_ | refine zdd ?_) | refine zaa rfl (zcg (T := 27) rfl rfl pC rfl rfl) ?_ | refine zaa rfl (zcg (T := 27) rfl rfl pM rfl rfl) ?_ | refine zaa rfl (zcg (T := 27) rfl rfl pT rfl rfl) ?_ | refine zaa rfl (zci rfl rfl f1 (Takes.crvOc pCc pCf hca hcb (Takes.same Takes.nil))) ?_ | refine zaa rfl (zci rfl rfl f2 (Takes.crvOc pMc pMf hmca hmcb (Takes.same Takes.nil))) ?_ | refine zaa rfl (zci rfl rfl f3 (Takes.crvOc pTc pTf htca htcb (Takes.same Takes.nil))) ?_ | refine zaa rfl (zci rfl rfl f4 (Takes.crvOc pMc pMf hmca hmcb (Takes.same Takes.nil))) ?_ | refine zaa rfl (zci rfl rfl f5 (Takes.crvOc pTc pTf htca htcb (Takes.same Takes.nil))) ?_
  simp only [List.append_eq, List.cons_append, List.nil_append]
  unfold c01 at mv3
  repeat first | refine zai rfl rfl ?_ | (refine zac ?_; refine zaa rfl (opj_cadd rfl rfl) ?_) | refine zaa rfl (opj_loadC rfl rfl pPp (by omega)) ?_
  rw [show Pp (Int.toNat 0) = pt from hpt.symm]
  have r1 := r8Far_fn _ _ mv2
  have r2 := r8Far_fn _ _ ms3
  have r3 := r8Far_fn _ _ ms4
  have r4 := r8Far_fn _ _ t3
  have r5 := r8Far_fn _ _ t4
  have r6 := r8Far_fn _ _ t7
  obtain ⟨⟨_, a1⟩, ⟨_, a2⟩, a3⟩ := t5
  obtain ⟨⟨_, b1⟩, ⟨_, b2⟩, b3⟩ := t8
  have g1 := r8Gap_fn a1 a2
  have g2 := r8Gap_fn b1 b2
  unfold thrS c05 one64 at ms5
  unfold c01 two64 at a3
  unfold two64 at g1 g2 b3
  unfold thrS c05 one64 at b3
  clear a1 a2 b1 b2
  repeat first | refine zai rfl rfl ?_ | refine zaa rfl (zay rfl) ?_ | (refine zac ?_; refine zaa rfl (zbd rfl rfl rfl) ?_) | (refine zad ?_; (refine zaa rfl (zci rfl rfl (r1) ?_) ?_; (focus ((repeat (first | exact Takes.nil | refine Takes.sl ?_ | refine Takes.lit ?_ | refine Takes.fa ?_ | refine Takes.fc ?_ | refine Takes.net ?_ | (refine Takes.ownE ?_ ?_ ?_ ?_ ?_; (focus (exact ⟨_, _, (by (repeat (first | exact mh | refine mt ?_)); done)⟩)); (focus (simp; done)); (focus omega); (focus (simp only [maxLen]; omega))) | refine Takes.same ?_)); done)))) | refine zaa rfl (zcb rfl rfl) ?_
  rw [mv3]
  repeat first | refine zai rfl rfl ?_ | refine zaa rfl (zay rfl) ?_ | (refine zac ?_; first | refine zaa rfl (zba rfl rfl rfl) ?_ | refine zaa rfl (zbd rfl rfl rfl) ?_) | (refine zad ?_; first | (refine zaa rfl (zci rfl rfl (r2) ?_) ?_; (focus ((repeat (first | exact Takes.nil | refine Takes.sl ?_ | refine Takes.lit ?_ | refine Takes.fa ?_ | refine Takes.fc ?_ | refine Takes.net ?_ | (refine Takes.ownE ?_ ?_ ?_ ?_ ?_; (focus (exact ⟨_, _, (by (repeat (first | exact mh | refine mt ?_)); done)⟩)); (focus (simp; done)); (focus omega); (focus (simp only [maxLen]; omega))) | refine Takes.same ?_)); done))) | (refine zaa rfl (zci rfl rfl (r3) ?_) ?_; (focus ((repeat (first | exact Takes.nil | refine Takes.sl ?_ | refine Takes.lit ?_ | refine Takes.fa ?_ | refine Takes.fc ?_ | refine Takes.net ?_ | (refine Takes.ownE ?_ ?_ ?_ ?_ ?_; (focus (exact ⟨_, _, (by (repeat (first | exact mh | refine mt ?_)); done)⟩)); (focus (simp; done)); (focus omega); (focus (simp only [maxLen]; omega))) | refine Takes.same ?_)); done)))) | refine zaa rfl (zcb rfl rfl) ?_
  rw [ms5]
  repeat first | refine zai rfl rfl ?_ | refine zaa rfl (zay rfl) ?_ | (refine zac ?_; first | refine zaa rfl (zba rfl rfl rfl) ?_ | refine zaa rfl (zbd rfl rfl rfl) ?_) | (refine zad ?_; first | (refine zaa rfl (zci rfl rfl (r4) ?_) ?_; (focus ((repeat (first | exact Takes.nil | refine Takes.sl ?_ | refine Takes.lit ?_ | refine Takes.fa ?_ | refine Takes.fc ?_ | refine Takes.net ?_ | (refine Takes.ownE ?_ ?_ ?_ ?_ ?_; (focus (exact ⟨_, _, (by (repeat (first | exact mh | refine mt ?_)); done)⟩)); (focus (simp; done)); (focus omega); (focus (simp only [maxLen]; omega))) | refine Takes.same ?_)); done))) | (refine zaa rfl (zci rfl rfl (r5) ?_) ?_; (focus ((repeat (first | exact Takes.nil | refine Takes.sl ?_ | refine Takes.lit ?_ | refine Takes.fa ?_ | refine Takes.fc ?_ | refine Takes.net ?_ | (refine Takes.ownE ?_ ?_ ?_ ?_ ?_; (focus (exact ⟨_, _, (by (repeat (first | exact mh | refine mt ?_)); done)⟩)); (focus (simp; done)); (focus omega); (focus (simp only [maxLen]; omega))) | refine Takes.same ?_)); done))) | (refine zaa rfl (zci rfl rfl (g1) ?_) ?_; (focus ((repeat (first | exact Takes.nil | refine Takes.sl ?_ | refine Takes.lit ?_ | refine Takes.fa ?_ | refine Takes.fc ?_ | refine Takes.net ?_ | (refine Takes.ownE ?_ ?_ ?_ ?_ ?_; (focus (exact ⟨_, _, (by (repeat (first | exact mh | refine mt ?_)); done)⟩)); (focus (simp; done)); (focus omega); (focus (simp only [maxLen]; omega))) | refine Takes.same ?_)); done)))) | refine zaa rfl (zcb rfl rfl) ?_
  rw [a3]
  repeat first | refine zai rfl rfl ?_ | refine zaa rfl (zay rfl) ?_ | (refine zac ?_; first | refine zaa rfl (zba rfl rfl rfl) ?_ | refine zaa rfl (zbd rfl rfl rfl) ?_) | (refine zad ?_; first | (refine zaa rfl (zci rfl rfl (r6) ?_) ?_; (focus ((repeat (first | exact Takes.nil | refine Takes.sl ?_ | refine Takes.lit ?_ | refine Takes.fa ?_ | refine Takes.fc ?_ | refine Takes.net ?_ | (refine Takes.ownE ?_ ?_ ?_ ?_ ?_; (focus (exact ⟨_, _, (by (repeat (first | exact mh | refine mt ?_)); done)⟩)); (focus (simp; done)); (focus omega); (focus (simp only [maxLen]; omega))) | refine Takes.same ?_)); done))) | (refine zaa rfl (zci rfl rfl (r3) ?_) ?_; (focus ((repeat (first | exact Takes.nil | refine Takes.sl ?_ | refine Takes.lit ?_ | refine Takes.fa ?_ | refine Takes.fc ?_ | refine Takes.net ?_ | (refine Takes.ownE ?_ ?_ ?_ ?_ ?_; (focus (exact ⟨_, _, (by (repeat (first | exact mh | refine mt ?_)); done)⟩)); (focus (simp; done)); (focus omega); (focus (simp only [maxLen]; omega))) | refine Takes.same ?_)); done))) | (refine zaa rfl (zci rfl rfl (g2) ?_) ?_; (focus ((repeat (first | exact Takes.nil | refine Takes.sl ?_ | refine Takes.lit ?_ | refine Takes.fa ?_ | refine Takes.fc ?_ | refine Takes.net ?_ | (refine Takes.ownE ?_ ?_ ?_ ?_ ?_; (focus (exact ⟨_, _, (by (repeat (first | exact mh | refine mt ?_)); done)⟩)); (focus (simp; done)); (focus omega); (focus (simp only [maxLen]; omega))) | refine Takes.same ?_)); done)))) | refine zaa rfl (zcb rfl rfl) ?_ | refine zah ?_ | (refine zcr ?_; refine zcs ?_)
  rw [b3]
  repeat first | (refine zcr ?_; refine zcs ?_) | (refine zdb ?_; first | refine zdc ?_ | refine zdd ?_ | refine zdf ?_ | refine zdj rfl ?_)
  clear r1 r2 r3 r4 r5 r6 g1 g2 a3 b3 f2 f3 f4 f5 ms1 ms2 ms3 ms4 ms5 mv1 mv2 mv3 t1 t2 t3 t4 t6 t7
  refine RS.weakS (e' := [(24, cA (pointP n P f (tq (m : Int)))), (20, .raw (.pointer (some ⟨g20, 0, none⟩))), (18, .raw (.slice (some ⟨gp, 0, none⟩) 1 cp)), (10, .raw (.pointer (some ⟨g10, 0, none⟩))), (7, .f .f32 (tq (m : Int))), (6, .raw (.int .i64 n)), (5, .raw (.pointer (some ⟨g5, 0, none⟩))), (4, .raw (.bool false))]) ?_ ?_
  rotate_left
  · (repeat (first | exact Env.sub_nil _ | refine Env.sub_cons rfl ?_))
  obtain ⟨lh1, lh2, lh3, lh4⟩ := law_half hdp hn hf hm hpq hc hd eB
  have hBa := half_above hf eB
  have hBl := blendCurves_fn (n := n) (P := P) (Q := fun i => addC2 (P i) pt) (f := f) (h := f) (s := halF) (by omega) hPf hfa hMp hfa (isTime_yes half_tm.v ⟨half_tm.lo, half_tm.hi⟩) (blend_pv hdp hpq hc hd).fin hBa
  repeat first | refine zaa rfl (zcg (T := 27) rfl rfl pC rfl rfl) ?_ | refine zaa rfl (zcg (T := 27) rfl rfl pM rfl rfl) ?_
  refine rs_callM3 hBl rfl rfl (Takes.crvOc pCc pCf hca hcb (Takes.crvOc pMc pMf hmca hmcb (Takes.same Takes.nil))) rfl ?_
  rintro ⟨⟨bga, bgb⟩, bca, bcb⟩ ⟨hbca, hbcb⟩
  dsimp only at hbca hbcb ⊢
  repeat first | refine zaa rfl (zay rfl) ?_ | refine zaa rfl (zaz rfl) ?_ | (refine zae ?_; refine zaa rfl (zcg rfl rfl (by (repeat (first | exact mh | refine mt ?_)); done) rfl rfl) ?_) | refine zaa rfl (zbz rfl rfl) ?_ | refine zah ?_ | (refine zcr ?_; refine zcs ?_) | (refine zdb ?_; first | refine zdc ?_ | refine zdd ?_) | (refine zal rfl rfl ?_; intro g) | (refine zag ?_; refine zan 0 rfl rfl rfl rfl rfl rfl rfl rfl rfl ?_)
  obtain ⟨g34, hg34⟩ : ∃ x, x = g := ⟨g, rfl⟩
  subst hg34
  refine RS.weakS (e' := [(246, .f .f32 (tq (m : Int))), (245, crvOc bga bgb n bca bcb), (35, .raw (.bool true)), (24, cA (pointP n P f (tq (m : Int)))), (18, .raw (.slice (some ⟨gp, 0, none⟩) 1 cp)), (10, .raw (.pointer (some ⟨g10, 0, none⟩))), (7, .f .f32 (tq (m : Int))), (6, .raw (.int .i64 n)), (5, .raw (.pointer (some ⟨g5, 0, none⟩))), (4, .raw (.bool false))]) ?_ ?_
  rotate_left
  · (repeat (first | exact Env.sub_nil _ | refine Env.sub_cons rfl ?_))
  obtain ⟨HB, hHB⟩ : ∃ HB : List Ent, HB = ⟨g34, 27, [.raw (.slice (some ⟨bga, 0, none⟩) n bca), .raw (.slice (some ⟨bgb, 0, none⟩) n bcb)], 2⟩ :: entF bgb 29 n (blendW f f halF) bcb :: entC bga n (blendP P (fun i => addC2 (P i) pt) halF) bca :: HT := ⟨_, rfl⟩
  refine RS.drop (H' := HB) ?_ ?_
  rotate_left
  · rw [hHB]
    exact List.Sublist.refl _
  have sBf : entF bgb 29 n (blendW f f halF) bcb ∈ HB := by rw [hHB]; exact mt mh
  have sBc : entC bga n (blendP P (fun i => addC2 (P i) pt) halF) bca ∈ HB := by rw [hHB]; exact mt (mt mh)
  have sP := mt3 hHB pP
  have sPc := mt3 hHB pPc
  have sPf := mt3 hHB pPf
  have sC := mt3 hHB pC
  have sCc := mt3 hHB pCc
  have sCf := mt3 hHB pCf
  have sPp := mt3 hHB pPp
  clear hHB pT pTf pTc pM pMf pMc pP pPc pPf pC pCc pCf pPp hBl
  have f2 := curveAt_fn (n := n) (P := blendP P (fun i => addC2 (P i) pt) halF) (f := blendW f f halF) (t := tq (m : Int)) (by omega) (blend_pv hdp hpq hc hd).fin hBa hTm lh1
  obtain ⟨pf1, pf2⟩ := points_fin hdp hn hf
  have hPo := pointsOn_fn (n := n) (P := P) (f := f) (by omega) hPf hfa pf1
  repeat first | refine zaa rfl (zay rfl) ?_ | refine zaa rfl (zaz rfl) ?_ | refine zaa rfl (zbz rfl rfl) ?_ | refine zah ?_ | (refine zcr ?_; refine zcs ?_) | (refine zdb ?_; first | refine zdc ?_ | refine zdd ?_) | refine zaa rfl (zcg (T := 27) rfl rfl sC rfl rfl) ?_ | refine zaa rfl (zci rfl rfl f2 (Takes.crvOc sBc sBf hbca hbcb (Takes.same Takes.nil))) ?_
  refine rs_callM3 hPo rfl rfl (Takes.crvOc sCc sCf hca hcb (Takes.same Takes.nil)) rfl ?_
  rintro ⟨gq, cq⟩ hcq
  dsimp only at hcq ⊢
  repeat first | refine zaa rfl (zay rfl) ?_ | refine zaa rfl (zaz rfl) ?_ | refine zaa rfl (zbz rfl rfl) ?_ | refine zah ?_ | (refine zcr ?_; refine zcs ?_) | (refine zdb ?_; first | refine zdc ?_ | refine zdd ?_)
  have f3 := curveAt_fn (n := n) (P := P) (f := f) (t := fv .f32 0) (by omega) hPf hfa (isTime_yes zero_tm.v ⟨zero_tm.lo, zero_tm.hi⟩) pf2
  have z5 : pointP n P f (timeK (Int.toNat 0) 5) = pointP n P f (fv .f32 0) := by rw [show Int.toNat 0 = 0 from rfl, timeK_zero]
  obtain ⟨zu, zv, vzu, vzv, _, _⟩ := point_nea hf zero_tm (by grind) hn hdp.pv
  have zq := ceqS_no vzu vzv
  have r1 := r8Far_fn _ _ lh3
  unfold c01 at lh4
  have d55 : decide ((5 : Int) ≠ 5) = false := by decide
  repeat first | refine zai rfl rfl ?_ | refine zaa rfl (zay rfl) ?_ | refine zaa rfl (zaz rfl) ?_ | (refine zaf ?_; refine zaa rfl (zbw rfl rfl (by omega) (by omega)) ?_) | refine zaa rfl (zbz rfl rfl) ?_ | refine zaa rfl (zcb rfl rfl) ?_ | refine zaa rfl (zcc rfl) ?_ | refine zah ?_ | (refine zcr ?_; refine zcs ?_) | (refine zdb ?_; first | refine zdc ?_ | refine zdd ?_) | refine zaa rfl (zcg (T := 27) rfl rfl (mt sC) rfl rfl) ?_ | refine zaa rfl (zci rfl rfl f3 (Takes.crvOc (mt sCc) (mt sCf) hca hcb (Takes.same Takes.nil))) ?_ | refine zaa rfl (opj_loadC rfl rfl (mt sPp) (by omega)) ?_
  rw [show Pp (Int.toNat 0) = pt from hpt.symm]
  repeat first | refine zai rfl rfl ?_ | refine zaa rfl (zay rfl) ?_ | (refine zac ?_; first | refine zaa rfl (zbd rfl rfl rfl) ?_ | refine zaa rfl (opj_cadd rfl rfl) ?_ | refine zaa rfl (opj_cdC lh2 rfl rfl) ?_) | (refine zad ?_; (refine zaa rfl (zci rfl rfl (r1) ?_) ?_; (focus ((repeat (first | exact Takes.nil | refine Takes.sl ?_ | refine Takes.lit ?_ | refine Takes.fa ?_ | refine Takes.fc ?_ | refine Takes.net ?_ | (refine Takes.ownE ?_ ?_ ?_ ?_ ?_; (focus (exact ⟨_, _, (by (repeat (first | exact mh | refine mt ?_)); done)⟩)); (focus (simp; done)); (focus omega); (focus (simp only [maxLen]; omega))) | refine Takes.same ?_)); done)))) | refine zaa rfl (zcb rfl rfl) ?_
  rw [lh4]
  repeat first | refine zai rfl rfl ?_ | refine zaa rfl (zay rfl) ?_ | (refine zac ?_; refine zaa rfl (zbj rfl rfl) ?_) | (refine zad ?_; refine zaa rfl (zbn rfl) ?_) | (refine zae ?_; refine zaa rfl (opj_loadC rfl rfl (by (repeat (first | exact mh | refine mt ?_)); done) (by omega)) ?_) | (refine zaf ?_; refine zaa rfl (zbw rfl rfl (by omega) (by omega)) ?_) | refine zaa rfl (zcb rfl rfl) ?_
  repeat first | (refine zac ?_; refine zaa rfl (opj_cneq rfl rfl) ?_) | refine zaa rfl (zcb rfl rfl) ?_ | refine zah ?_ | (refine zcr ?_; refine zcs ?_)
  rw [z5, zq]
  repeat first | refine zaa rfl (zay rfl) ?_ | (refine zac ?_; refine zaa rfl (zbc rfl rfl (by omega)) ?_) | (refine zcr ?_; refine zcs ?_) | (refine zdb ?_; first | refine zdc ?_ | refine zdd ?_ | refine zdf ?_ | refine zdj rfl ?_)
  clear f1 f2 f3 r1 lh1 lh2 lh3 lh4 z5 zq vzu vzv hPo sBf sBc d55
  have hSh := sharesAt_fn (n := n - 1) (t := tq (m : Int)) (by omega) hTm
  rw [show n - 1 + 1 = n by omega] at hSh
  have en : (n : Int) - 1 = ((n - 1 : Nat) : Int) := by omega
  refine RS.weakS (e' := [(300, .f .f32 (tq (m : Int))), (299, .raw (.int .i64 ((n : Int) - 1))), (18, .raw (.slice (some ⟨gp, 0, none⟩) 1 cp)), (10, .raw (.pointer (some ⟨g10, 0, none⟩))), (7, .f .f32 (tq (m : Int))), (6, .raw (.int .i64 n)), (5, .raw (.pointer (some ⟨g5, 0, none⟩))), (4, .raw (.bool false))]) ?_ ?_
  rotate_left
  · (repeat (first | exact Env.sub_nil _ | refine Env.sub_cons rfl ?_))
  refine RS.drop (H' := HB) ?_ ?_
  rotate_left
  · exact .cons _ (List.Sublist.refl _)
  rw [en]
  refine rs_callM3 hSh rfl rfl (Takes.same (Takes.same Takes.nil)) rfl ?_
  rintro ⟨gsh, csh⟩ hcsh
  dsimp only at hcsh ⊢
  have dnn : decide ((n : Int) ≠ (n : Int)) = false := by simp
  repeat first | refine zai rfl rfl ?_ | refine zaa rfl (zay rfl) ?_ | refine zaa rfl (zaz rfl) ?_ | (refine zac ?_; refine zaa rfl (zbj rfl rfl) ?_) | (refine zad ?_; refine zaa rfl (zbn rfl) ?_) | refine zaa rfl (zbz rfl rfl) ?_ | refine zaa rfl (zcb rfl rfl) ?_ | refine zaa rfl (zcc rfl) ?_ | refine zah ?_ | (refine zcr ?_; refine zcs ?_) | (refine zdb ?_; first | refine zdc ?_ | refine zdd ?_)
  rw [dnn]
  repeat first | refine zaa rfl (zaz rfl) ?_ | refine zah ?_ | (refine zcr ?_; refine zcs ?_) | (refine zdb ?_; first | refine zdc ?_ | refine zdd ?_ | refine zde ?_ | refine zdf ?_ | refine zdj rfl ?_)
  obtain ⟨HS, hHS⟩ : ∃ HS : List Ent, HS = entF gsh 29 n (shareT (tq (m : Int)) (n - 1)) csh :: HB := ⟨_, rfl⟩
  have uS : entF gsh 29 n (shareT (tq (m : Int)) (n - 1)) csh ∈ HS := by rw [hHS]; exact mh
  have uC : (⟨g5, 27, [.raw (.slice (some ⟨ga, 0, none⟩) n ca), .raw (.slice (some ⟨gb, 0, none⟩) n cb)], 2⟩ : Ent) ∈ HS := by rw [hHS]; exact mt sC
  have uCc : entC ga n P ca ∈ HS := by rw [hHS]; exact mt sCc
  have uP : (⟨g10, 27, [.raw (.slice (some ⟨pa, 0, none⟩) n pc), .raw (.slice (some ⟨pb, 0, none⟩) n n)], 2⟩ : Ent) ∈ HS := by rw [hHS]; exact mt sP
  have uPc : entC pa n P pc ∈ HS := by rw [hHS]; exact mt sPc
  have uPf : entF pb 29 n (fun _ => one1) n ∈ HS := by rw [hHS]; exact mt sPf
  have uPp : entC gp 1 Pp cp ∈ HS := by rw [hHS]; exact mt sPp
  refine ws_loop (ι := Nat) (fun j => [(44, .f .f64 (accF (sumT (tq (m : Int)) n) j)), (45, .f .f64 (accF (sumX (tq (m : Int)) P n) j)), (46, .raw (.int .i64 j)), (42, .raw (.slice (some ⟨gsh, 0, none⟩) n csh)), (18, .raw (.slice (some ⟨gp, 0, none⟩) 1 cp)), (10, .raw (.pointer (some ⟨g10, 0, none⟩))), (7, .f .f32 (tq (m : Int))), (6, .raw (.int .i64 n)), (5, .raw (.pointer (some ⟨g5, 0, none⟩))), (4, .raw (.bool false))])
    (fun _ => St w0 [] HS) (fun j => j ≤ n) (fun j => n - j) 0 (Nat.zero_le _) ?_ (fun _ h => by rw [hHS]; exact h) (fun j hj => ?_)
  · (repeat (first | exact Env.sub_nil _ | refine Env.sub_cons rfl ?_))
  clear hHS sC sCc sCf sP sPc sPf sPp hSh
  repeat first | refine zaa rfl (zay rfl) ?_ | (refine zac ?_; refine zaa rfl (zbe rfl rfl) ?_) | refine zah ?_ | (refine zcr ?_; refine zcs ?_) | (refine zdb ?_; first | refine zdc ?_ | refine zdd ?_)
  refine ws_cond rfl (fun hd => ?_) (fun hd => ?_)
  case' refine_1 =>
    have hlt : (j : Int) < n := of_decide_eq_true hd
    clear hd
    have hnext : ((j + 1 : Nat) : Int) = (j : Int) + 1 := by omega
    have e0 : ((j : Nat) : Int).toNat = j := rfl
    have hls := law_share hn hm j (by omega)
    repeat first | refine zaa rfl (zay rfl) ?_ | refine zaa rfl (zaz rfl) ?_ | (refine zac ?_; refine zaa rfl (zba rfl rfl rfl) ?_) | (refine zaf ?_; refine zaa rfl (zbw rfl rfl (by omega) (by omega)) ?_) | refine zaa rfl (zbx rfl) ?_ | refine zah ?_ | (refine zcr ?_; refine zcs ?_) | (refine zdb ?_; first | refine zdc ?_ | refine zdd ?_ | refine zde ?_ | refine zdf ?_) | refine zaa rfl (zbt (n := n) (g := gsh) (c := csh) (T := 29) rfl rfl uS (by omega)) ?_
    refine ws_draw (n := 15) mixed (by decide +kernel) ?_
    repeat first | refine zap rfl (zay rfl) ?_ | (refine zar ?_; refine zap rfl (zba rfl rfl rfl) ?_) | (refine zas ?_; refine zap rfl (zbp rfl) ?_) | (refine zau ?_; refine zap rfl (zbw rfl rfl (by omega) (by omega)) ?_) | refine zap rfl (zcd rfl) ?_ | refine zap rfl (zbx rfl) ?_ | refine zav ?_ | refine zap rfl (zbt (n := n) (g := gsh) (c := csh) (T := 29) rfl rfl uS (by omega)) ?_ | refine zap rfl (zcf (T := 27) rfl rfl uC rfl) ?_ | refine zap rfl (opj_loadC rfl rfl uCc (by omega)) ?_
    repeat first | refine zaa rfl (zay rfl) ?_ | refine zaa rfl (zaz rfl) ?_ | (refine zac ?_; refine zaa rfl (zbd rfl rfl rfl) ?_) | (refine zaf ?_; refine zaa rfl (zbw rfl rfl (by omega) (by omega)) ?_) | refine zah ?_ | (refine zcr ?_; refine zcs ?_) | (refine zdb ?_; first | refine zdc ?_ | refine zdd ?_) | refine zaa rfl (zbt (n := n) (g := gsh) (c := csh) (T := 29) rfl rfl uS (by omega)) ?_
    rw [hls]
    repeat first | refine zaa rfl (zay rfl) ?_ | refine zaa rfl (zaz rfl) ?_ | (refine zac ?_; refine zaa rfl (zbb rfl rfl (by omega)) ?_) | refine zah ?_ | (refine zcr ?_; first | refine zcs ?_ | refine zcv ?_) | (refine zdb ?_; first | refine zdd ?_ | refine zdf ?_ | refine zdj rfl ?_)
    refine done_round (j + 1) (by omega) (by omega) ?_ (fun _ h => h)
    rw [hnext]
    (repeat (first | exact Env.sub_nil _ | refine Env.sub_cons rfl ?_))
  obtain rfl : j = n := by have := of_decide_eq_false hd; omega
  clear hd hj
  have hz := plain_at hdp hn hm
  have f1 := curveAt_fn (n := j) (P := P) (f := fun _ => one1) (t := tq (m : Int)) (by omega) hPf h1a hTm hz.fin
  have v2 : Vl .f32 twoF 2 := Vl.c (by decide +kernel)
  have hQp := (qua_pv hpq hc hd).fin
  have hQ := quarterCurve_fn (m := pt) (r := twoF) hptf (above_vl v2 (by grind)) hQp wts_qua.above
  obtain ⟨lq1, lq2, lq3⟩ := law_quarter hpq hc hd hm
  have f2 := curveAt_fn (n := 3) (P := quarterP pt twoF) (f := quarterW) (t := tq (m : Int)) (by omega) hQp wts_qua.above hTm lq1
  obtain ⟨_, lx⟩ := law_x hdp hn hm
  have ls := law_sum hn hm
  obtain ⟨⟨_, a1⟩, ⟨_, a2⟩, a3⟩ := ls
  obtain ⟨⟨_, b1⟩, ⟨_, b2⟩, b3⟩ := lx
  obtain ⟨⟨_, c1⟩, ⟨_, c2⟩, c3⟩ := lq3
  have k1 := r8Gap_fn a1 a2
  have k2 := r8Gap_fn b1 b2
  have k3 := r8Gap_fn c1 c2
  have r1 := r8Far_fn _ _ lq2
  unfold one64 at k1
  unfold one64 c001 at a3
  unfold c01 at b3
  unfold two64 at k3
  unfold two64 c01 at c3
  clear a1 a2 b1 b2 c1 c2
  repeat first | refine zaa rfl (zay rfl) ?_ | refine zaa rfl (zaz rfl) ?_ | (refine zaf ?_; refine zaa rfl (zbw rfl rfl (by omega) (by omega)) ?_) | refine zaa rfl (zbz rfl rfl) ?_ | refine zah ?_ | (refine zcr ?_; first | refine zcs ?_ | refine zcu ?_ | refine zcx ?_ | refine zda ?_) | (refine zdb ?_; first | refine zdc ?_ | refine zdd ?_ | refine zdh ?_) | refine zaa rfl (zcg (T := 27) rfl rfl uP rfl rfl) ?_ | refine zaa rfl (zci rfl rfl f1 (Takes.crvOc uPc uPf hpc hn1 (Takes.same Takes.nil))) ?_ | refine zaa rfl (opj_loadC rfl rfl uPp (by omega)) ?_
  rw [show Pp (Int.toNat 0) = pt from hpt.symm]
  refine rs_callM3 hQ rfl rfl (Takes.same (Takes.same Takes.nil)) rfl ?_
  rintro ⟨qa, qb⟩ -
  dsimp only
  repeat first | refine zai rfl rfl ?_ | refine zaa rfl (zay rfl) ?_ | refine zaa rfl (zaz rfl) ?_ | (refine zac ?_; refine zaa rfl (zbd rfl rfl rfl) ?_) | (refine zad ?_; (refine zaa rfl (zci rfl rfl (k1) ?_) ?_; (focus ((repeat (first | exact Takes.nil | refine Takes.sl ?_ | refine Takes.lit ?_ | refine Takes.fa ?_ | refine Takes.fc ?_ | refine Takes.net ?_ | (refine Takes.ownE ?_ ?_ ?_ ?_ ?_; (focus (exact ⟨_, _, (by (repeat (first | exact mh | refine mt ?_)); done)⟩)); (focus (simp; done)); (focus omega); (focus (simp only [maxLen]; omega))) | refine Takes.same ?_)); done)))) | (refine zae ?_; refine zaa rfl (zcg rfl rfl (by (repeat (first | exact mh | refine mt ?_)); done) rfl rfl) ?_) | refine zaa rfl (zbz rfl rfl) ?_ | refine zaa rfl (zca rfl rfl) ?_ | refine zah ?_ | (refine zcr ?_; refine zcs ?_) | (refine zdb ?_; first | refine zdc ?_ | refine zdd ?_) | (refine zal rfl rfl ?_; intro g) | (refine zag ?_; refine zan 0 rfl rfl rfl rfl rfl rfl rfl rfl rfl ?_) | refine zaa rfl (zci rfl rfl f2 (Takes.crvOc (mt (mt mh)) (mt mh) (by simp only [maxLen]; decide) (by simp only [maxLen]; decide) (Takes.same Takes.nil))) ?_
  rw [a3]
  repeat first | refine zai rfl rfl ?_ | refine zaa rfl (zay rfl) ?_ | (refine zac ?_; refine zaa rfl (zbd rfl rfl rfl) ?_) | (refine zad ?_; first | refine zaa rfl (zbp rfl) ?_ | (refine zaa rfl (zci rfl rfl (k2) ?_) ?_; (focus ((repeat (first | exact Takes.nil | refine Takes.sl ?_ | refine Takes.lit ?_ | refine Takes.fa ?_ | refine Takes.fc ?_ | refine Takes.net ?_ | (refine Takes.ownE ?_ ?_ ?_ ?_ ?_; (focus (exact ⟨_, _, (by (repeat (first | exact mh | refine mt ?_)); done)⟩)); (focus (simp; done)); (focus omega); (focus (simp only [maxLen]; omega))) | refine Takes.same ?_)); done)))) | refine zaa rfl (zbx rfl) ?_ | refine zaa rfl (zca rfl rfl) ?_
  rw [b3]
  repeat first | refine zai rfl rfl ?_ | refine zaa rfl (zay rfl) ?_ | (refine zaf ?_; refine zaa rfl (zbw rfl rfl (by omega) (by omega)) ?_) | refine zaa rfl (opj_loadC rfl rfl (mt (mt (mt uPp))) (by omega)) ?_
  rw [show Pp (Int.toNat 0) = pt from hpt.symm]
  repeat first | refine zai rfl rfl ?_ | refine zaa rfl (zaz rfl) ?_ | (refine zac ?_; refine zaa rfl (zbd rfl rfl rfl) ?_) | (refine zad ?_; first | (refine zaa rfl (zci rfl rfl (r1) ?_) ?_; (focus ((repeat (first | exact Takes.nil | refine Takes.sl ?_ | refine Takes.lit ?_ | refine Takes.fa ?_ | refine Takes.fc ?_ | refine Takes.net ?_ | (refine Takes.ownE ?_ ?_ ?_ ?_ ?_; (focus (exact ⟨_, _, (by (repeat (first | exact mh | refine mt ?_)); done)⟩)); (focus (simp; done)); (focus omega); (focus (simp only [maxLen]; omega))) | refine Takes.same ?_)); done))) | (refine zaa rfl (zci rfl rfl (k3) ?_) ?_; (focus ((repeat (first | exact Takes.nil | refine Takes.sl ?_ | refine Takes.lit ?_ | refine Takes.fa ?_ | refine Takes.fc ?_ | refine Takes.net ?_ | (refine Takes.ownE ?_ ?_ ?_ ?_ ?_; (focus (exact ⟨_, _, (by (repeat (first | exact mh | refine mt ?_)); done)⟩)); (focus (simp; done)); (focus omega); (focus (simp only [maxLen]; omega))) | refine Takes.same ?_)); done)))) | refine zaa rfl (zca rfl rfl) ?_ | refine zah ?_ | (refine zcr ?_; refine zcs ?_) | (refine zdb ?_; refine zdg ?_)
  rw [c3]
  skip
  exact done_ret1 rfl () rfl trivial (List.nil_sublist _)

