/- Part 11 of the texts on which the law leans, joined: What the law asks of points and slopes. No conditions. -/
import Derived.Test.YtjjhppoidopflaaZaj
namespace Go.Ab
open Go.Proofs
variable {R : World → Prop} [RStab R]
def timeB (t : FV) : Bool := cmpB .geq (fcmp .f32 t (fv .f32 0)) && cmpB .leq (fcmp .f32 t (fv .f32 1065353216))
def longB (p : CV) : Bool := (match fsqrt (powF p.1 p.2) with | none => true | some _ => false) || (match longC p with | none => false | some _ => true)
theorem longB_ok {p : CV} (h : longB p = true) : LongOk p := by
  unfold longB at h
  unfold LongOk ConvOk
  rw [Bool.or_eq_true] at h
  rcases h with h | h
  · left
    cases hx : fsqrt (powF p.1 p.2) with
    | none => rfl
    | some b => rw [hx] at h; cases h
  · right
    intro hn
    have : longC p = none := hn
    rw [this] at h
    cases h
def crossF (p q : CV) : FV := fbin .sub .f32 (fbin .mul .f32 p.1 q.2) (fbin .mul .f32 p.2 q.1)
def bendV (p q : CV) : FV := fbin .quo .f32 (crossF p q) (fbin .mul .f32 (fbin .mul .f32 (longC p) (longC p)) (longC p))
def bendOkB (p q : CV) : Bool := finC p && finC q && longB p && posF (longC p) && finB (bendV p q)
def one32 : Int → FV := fun _ => one1
def bp3 (P : Nat → CV) (t : FV) : CV := pointP 2 (diffP 3 P) one32 t
def bq3 (P : Nat → CV) : CV := subC2 (diffP 3 P 1) (diffP 3 P 0)
def bp4 (P : Nat → CV) (t : FV) : CV := pointP 3 (diffP 4 P) one32 t
def bq4 (P : Nat → CV) (t : FV) : CV := pointP 2 (diffP 3 (diffP 4 P)) one32 t
theorem ones_any (n : Nat) : ((tab n fun _ => one1).any fun x => cmpB .neq (fcmp .f32 x one1)) = false := by
  rw [List.any_eq_false]
  unfold tab
  intro x hx
  obtain ⟨i, hi, rfl⟩ := List.mem_map.1 hx
  show ¬ cmpB .neq (fcmp .f32 one1 one1) = true
  decide +kernel
theorem entF_1 (a c : Nat) (T : TypeId) (f : Int → FV) : entF a T 1 f c = (⟨a, T, [.f .f32 (f 0)], c⟩ : Ent) := rfl
theorem entF_app1 (a c : Nat) (T : TypeId) (f : Int → FV) : (⟨a, T, [] ++ [.f .f32 (f 0)], c⟩ : Ent) = entF a T 1 f c := rfl
attribute [local irreducible] WS RS Done OpJ Then InBlock Round Ret Env.sub FnH
attribute [local irreducible] tab tabC
theorem isTime_B {t : FV} (h : timeB t = true) : Fn Try.prog 38 (fun _ => [.f .f32 t]) (.raw (.bool true)) := by
  unfold timeB at h
  rw [Bool.and_eq_true] at h
  obtain ⟨e1, e2⟩ := h
  refine fn_intro Try.func38 rfl Try.ntmps38 (fun _ => Nat.le_of_ble_eq_true rfl) fun w0 => ?_
  repeat first | refine zaa rfl (zay rfl) ?_ | refine zaa rfl (zaz rfl) ?_ | (refine zac ?_; refine zaa rfl (zbd rfl rfl rfl) ?_) | refine zah ?_ | (refine zcr ?_; refine zcs ?_) | (refine zdb ?_; first | refine zdc ?_ | refine zdd ?_)
  rw [e1]
  repeat first | refine zai rfl rfl ?_ | refine zaa rfl (zay rfl) ?_ | refine zaa rfl (zaz rfl) ?_ | (refine zac ?_; refine zaa rfl (zbd rfl rfl rfl) ?_) | refine zaa rfl (zca rfl rfl) ?_ | refine zah ?_ | (refine zcr ?_; refine zcs ?_) | (refine zdb ?_; refine zdg ?_)
  rw [e2]
  skip
  exact done_ret1 rfl () rfl trivial (List.nil_sublist _)
theorem cross_fn (p q : CV) : Fn Try.prog 43 (fun _ => [cA p, cA q]) (.f .f32 (crossF p q)) := by
  refine fn_intro Try.func43 rfl Try.ntmps43 (fun _ => Nat.le_of_ble_eq_true rfl) fun w0 => ?_
  unfold cA
  repeat first | refine zaa rfl (zay rfl) ?_ | refine zaa rfl (zaz rfl) ?_ | (refine zac ?_; refine zaa rfl (zba rfl rfl rfl) ?_) | (refine zad ?_; first | refine zaa rfl (zbp rfl) ?_ | refine zaa rfl (zbq rfl) ?_) | refine zah ?_ | (refine zcr ?_; refine zcs ?_) | (refine zdb ?_; first | refine zdc ?_ | refine zdd ?_ | refine zdg ?_)
  exact done_ret1 rfl () rfl trivial (List.nil_sublist _)
theorem bendOf3_fn {P : Nat → CV} {t : FV} (hP : (tabC 3 P).all finC = true) (hD : (tabC 2 (diffP 3 P)).all finC = true) (ht : timeB t = true) (hok : bendOkB (bp3 P t) (bq3 P) = true) :
    Fn Try.prog 14 (fun w => [crvA w 3 P (fun _ => one1), .f .f32 t]) (.tup [.f .f32 (bendV (bp3 P t) (bq3 P)), .raw (.bool true)]) := by
  unfold bendOkB at hok
  simp only [Bool.and_eq_true] at hok
  obtain ⟨⟨⟨⟨hp, hq⟩, hL⟩, hg⟩, hfin⟩ := hok
  have hI := isPlainN_fn (n := 3) (P := P) (by omega) hP (wts_one 3).above (ones_any 3)
  have hS := slopeCurve_yes (n := 3) (P := P) (by omega) hI hD (wts_one 2).above
  have hT := isTime_B ht
  have hC : Fn Try.prog 27 (fun w => [crvA w 2 (diffP 3 P) (fun _ => one1), .f .f32 t]) (.tup [cA (bp3 P t), .raw (.bool true)]) := curveAt_fn (n := 2) (P := diffP 3 P) (f := fun _ => one1) (t := t) (by omega) hD (wts_one 2).above hT hp
  have hM : Fn Try.prog 40 (fun _ => [cA (diffP 3 P (Int.toNat 1)), cA (diffP 3 P (Int.toNat 0))]) (cA (bq3 P)) := minus_fn _ _
  have hQ := ifPoint_fn _ true hq
  have hLg := longOf_fn _ (longB_ok hL)
  have hX := cross_fn (bp3 P t) (bq3 P)
  have hN := ifNumber_fn (bendV (bp3 P t) (bq3 P))
  have hN' : numT (bendV (bp3 P t) (bq3 P)) = .tup [.f .f32 (bendV (bp3 P t) (bq3 P)), .raw (.bool true)] := by unfold numT numF; rw [hfin]; rfl
  rw [hN'] at hN
  unfold ptT at hQ
  have hdeg := degree_fn 3 P (fun _ => one1) (by omega)
  have hg' : cmpB .gtr (fcmp .f32 (longC (bp3 P t)) (fv .f32 0)) = true := hg
  refine fn_intro Try.func14 rfl Try.ntmps14 (fun _ => Nat.le_of_ble_eq_true rfl) fun w0 => ?_
  repeat first | refine zaa rfl (zaz rfl) ?_ | (refine zae ?_; refine zaa rfl (zcg rfl rfl (by (repeat (first | exact mh | refine mt ?_)); done) rfl rfl) ?_) | refine zah ?_ | (refine zcr ?_; refine zcs ?_) | (refine zdb ?_; first | refine zdc ?_ | refine zdd ?_) | (refine zak rfl rfl rfl ?_; intro g)
  refine rs_callM3 hS rfl rfl (Takes.crv Takes.nil) rfl ?_
  rintro ⟨⟨a, b⟩, ca⟩ hc
  dsimp only at hc ⊢
  have hbb : 2 ≤ 2 ∧ 2 ≤ maxLen := ⟨Nat.le_refl _, by simp only [maxLen]; decide⟩
  repeat first | refine zai rfl rfl ?_ | refine zaa rfl (zay rfl) ?_ | refine zaa rfl (zaz rfl) ?_ | (refine zac ?_; refine zaa rfl (zbi rfl rfl) ?_) | (refine zad ?_; (refine zaa rfl (zci rfl rfl (hT) ?_) ?_; (focus ((repeat (first | exact Takes.nil | refine Takes.sl ?_ | refine Takes.lit ?_ | refine Takes.fa ?_ | refine Takes.fc ?_ | refine Takes.net ?_ | (refine Takes.ownE ?_ ?_ ?_ ?_ ?_; (focus (exact ⟨_, _, (by (repeat (first | exact mh | refine mt ?_)); done)⟩)); (focus (simp; done)); (focus omega); (focus (simp only [maxLen]; omega))) | refine Takes.same ?_)); done)))) | (refine zae ?_; refine zaa rfl (zcg rfl rfl (by (repeat (first | exact mh | refine mt ?_)); done) rfl rfl) ?_) | refine zaa rfl (zbz rfl rfl) ?_ | refine zaa rfl (zcb rfl rfl) ?_ | refine zaa rfl (zcc rfl) ?_ | refine zah ?_ | (refine zcr ?_; refine zcs ?_) | (refine zdb ?_; first | refine zdc ?_ | refine zdd ?_ | refine zdf ?_ | refine zdi rfl ?_ | refine zdj rfl ?_) | (refine zal rfl rfl ?_; intro g) | (refine zag ?_; refine zan 0 rfl rfl rfl rfl rfl rfl rfl rfl rfl ?_) | refine zaa rfl (zci rfl rfl hC (Takes.crvOc (mt (mt mh)) (mt mh) hc hbb (Takes.same Takes.nil))) ?_ | refine zaa rfl (zci rfl rfl hdeg (Takes.crv Takes.nil)) ?_
  refine ws_draw (n := 15) mixed (by decide +kernel) ?_
  repeat first | refine zap rfl (zay rfl) ?_ | refine zap rfl (zaz rfl) ?_ | (refine zas ?_; first | (refine zap rfl (zci rfl rfl (hM) ?_) ?_; (focus ((repeat (first | exact Takes.nil | refine Takes.sl ?_ | refine Takes.lit ?_ | refine Takes.fa ?_ | refine Takes.fc ?_ | refine Takes.net ?_ | (refine Takes.ownE ?_ ?_ ?_ ?_ ?_; (focus (exact ⟨_, _, (by (repeat (first | exact mh | refine mt ?_)); done)⟩)); (focus (simp; done)); (focus omega); (focus (simp only [maxLen]; omega))) | refine Takes.same ?_)); done))) | (refine zap rfl (zci rfl rfl (hQ) ?_) ?_; (focus ((repeat (first | exact Takes.nil | refine Takes.sl ?_ | refine Takes.lit ?_ | refine Takes.fa ?_ | refine Takes.fc ?_ | refine Takes.net ?_ | (refine Takes.ownE ?_ ?_ ?_ ?_ ?_; (focus (exact ⟨_, _, (by (repeat (first | exact mh | refine mt ?_)); done)⟩)); (focus (simp; done)); (focus omega); (focus (simp only [maxLen]; omega))) | refine Takes.same ?_)); done)))) | (refine zat ?_; first | refine zap rfl (opj_loadC rfl rfl (by (repeat (first | exact mh | refine mt ?_)); done) (by omega)) ?_ | refine zap rfl (zcf rfl rfl (by (repeat (first | exact mh | refine mt ?_)); done) rfl) ?_) | (refine zau ?_; refine zap rfl (zbw rfl rfl (by omega) (by omega)) ?_) | refine zap rfl (zcd rfl) ?_ | refine zap rfl (zbz rfl rfl) ?_ | refine zav ?_
  repeat first | refine zai rfl rfl ?_ | refine zaa rfl (zay rfl) ?_ | refine zaa rfl (zaz rfl) ?_ | (refine zac ?_; refine zaa rfl (zbd rfl rfl rfl) ?_) | (refine zad ?_; (refine zaa rfl (zci rfl rfl (hLg) ?_) ?_; (focus ((repeat (first | exact Takes.nil | refine Takes.sl ?_ | refine Takes.lit ?_ | refine Takes.fa ?_ | refine Takes.fc ?_ | refine Takes.net ?_ | (refine Takes.ownE ?_ ?_ ?_ ?_ ?_; (focus (exact ⟨_, _, (by (repeat (first | exact mh | refine mt ?_)); done)⟩)); (focus (simp; done)); (focus omega); (focus (simp only [maxLen]; omega))) | refine Takes.same ?_)); done)))) | refine zaa rfl (zcb rfl rfl) ?_ | refine zaa rfl (zcc rfl) ?_ | refine zah ?_ | (refine zcr ?_; refine zcs ?_) | (refine zdb ?_; first | refine zdc ?_ | refine zdd ?_)
  rw [hg']
  repeat first | refine zaa rfl (zay rfl) ?_ | refine zaa rfl (zaz rfl) ?_ | (refine zac ?_; refine zaa rfl (zba rfl rfl rfl) ?_) | (refine zad ?_; first | (refine zaa rfl (zci rfl rfl (hX) ?_) ?_; (focus ((repeat (first | exact Takes.nil | refine Takes.sl ?_ | refine Takes.lit ?_ | refine Takes.fa ?_ | refine Takes.fc ?_ | refine Takes.net ?_ | (refine Takes.ownE ?_ ?_ ?_ ?_ ?_; (focus (exact ⟨_, _, (by (repeat (first | exact mh | refine mt ?_)); done)⟩)); (focus (simp; done)); (focus omega); (focus (simp only [maxLen]; omega))) | refine Takes.same ?_)); done))) | (refine zaa rfl (zci rfl rfl (hN) ?_) ?_; (focus ((repeat (first | exact Takes.nil | refine Takes.sl ?_ | refine Takes.lit ?_ | refine Takes.fa ?_ | refine Takes.fc ?_ | refine Takes.net ?_ | (refine Takes.ownE ?_ ?_ ?_ ?_ ?_; (focus (exact ⟨_, _, (by (repeat (first | exact mh | refine mt ?_)); done)⟩)); (focus (simp; done)); (focus omega); (focus (simp only [maxLen]; omega))) | refine Takes.same ?_)); done)))) | refine zaa rfl (zbz rfl rfl) ?_ | refine zah ?_ | (refine zcr ?_; refine zcs ?_) | (refine zdb ?_; first | refine zdc ?_ | refine zdd ?_ | refine zdf ?_ | refine zdg ?_ | refine zdj rfl ?_)
  exact done_ret2 rfl () rfl rfl rfl trivial (List.nil_sublist _)
theorem bendOf4_fn {P : Nat → CV} {t : FV} (hP : (tabC 4 P).all finC = true) (hD : (tabC 3 (diffP 4 P)).all finC = true) (hE : (tabC 2 (diffP 3 (diffP 4 P))).all finC = true) (ht : timeB t = true) (hok : bendOkB (bp4 P t) (bq4 P t) = true) :
    Fn Try.prog 14 (fun w => [crvA w 4 P (fun _ => one1), .f .f32 t]) (.tup [.f .f32 (bendV (bp4 P t) (bq4 P t)), .raw (.bool true)]) := by
  unfold bendOkB at hok
  simp only [Bool.and_eq_true] at hok
  obtain ⟨⟨⟨⟨hp, hq⟩, hL⟩, hg⟩, hfin⟩ := hok
  have hI := isPlainN_fn (n := 4) (P := P) (by omega) hP (wts_one 4).above (ones_any 4)
  have hS := slopeCurve_yes (n := 4) (P := P) (by omega) hI hD (wts_one 3).above
  have hI2 := isPlainN_fn (n := 3) (P := diffP 4 P) (by omega) hD (wts_one 3).above (ones_any 3)
  have hS2 := slopeCurve_yes (n := 3) (P := diffP 4 P) (by omega) hI2 hE (wts_one 2).above
  have hT := isTime_B ht
  have hC : Fn Try.prog 27 (fun w => [crvA w 3 (diffP 4 P) (fun _ => one1), .f .f32 t]) (.tup [cA (bp4 P t), .raw (.bool true)]) := curveAt_fn (n := 3) (P := diffP 4 P) (f := fun _ => one1) (t := t) (by omega) hD (wts_one 3).above hT hp
  have hC2 : Fn Try.prog 27 (fun w => [crvA w 2 (diffP 3 (diffP 4 P)) (fun _ => one1), .f .f32 t]) (.tup [cA (bq4 P t), .raw (.bool true)]) := curveAt_fn (n := 2) (P := diffP 3 (diffP 4 P)) (f := fun _ => one1) (t := t) (by omega) hE (wts_one 2).above hT hq
  have hLg := longOf_fn _ (longB_ok hL)
  have hX := cross_fn (bp4 P t) (bq4 P t)
  have hN := ifNumber_fn (bendV (bp4 P t) (bq4 P t))
  have hN' : numT (bendV (bp4 P t) (bq4 P t)) = .tup [.f .f32 (bendV (bp4 P t) (bq4 P t)), .raw (.bool true)] := by unfold numT numF; rw [hfin]; rfl
  rw [hN'] at hN
  have hdeg := degree_fn 4 P (fun _ => one1) (by omega)
  have hg' : cmpB .gtr (fcmp .f32 (longC (bp4 P t)) (fv .f32 0)) = true := hg
  refine fn_intro Try.func14 rfl Try.ntmps14 (fun _ => Nat.le_of_ble_eq_true rfl) fun w0 => ?_
  repeat first | refine zaa rfl (zaz rfl) ?_ | (refine zae ?_; refine zaa rfl (zcg rfl rfl (by (repeat (first | exact mh | refine mt ?_)); done) rfl rfl) ?_) | refine zah ?_ | (refine zcr ?_; refine zcs ?_) | (refine zdb ?_; first | refine zdc ?_ | refine zdd ?_) | (refine zak rfl rfl rfl ?_; intro g)
  refine rs_callM3 hS rfl rfl (Takes.crv Takes.nil) rfl ?_
  rintro ⟨⟨a, b⟩, ca⟩ hc
  dsimp only at hc ⊢
  have hbb : 3 ≤ 3 ∧ 3 ≤ maxLen := ⟨Nat.le_refl _, by simp only [maxLen]; decide⟩
  have hb2 : 2 ≤ 2 ∧ 2 ≤ maxLen := ⟨Nat.le_refl _, by simp only [maxLen]; decide⟩
  repeat first | refine zai rfl rfl ?_ | refine zaa rfl (zay rfl) ?_ | refine zaa rfl (zaz rfl) ?_ | (refine zac ?_; refine zaa rfl (zbi rfl rfl) ?_) | (refine zad ?_; (refine zaa rfl (zci rfl rfl (hT) ?_) ?_; (focus ((repeat (first | exact Takes.nil | refine Takes.sl ?_ | refine Takes.lit ?_ | refine Takes.fa ?_ | refine Takes.fc ?_ | refine Takes.net ?_ | (refine Takes.ownE ?_ ?_ ?_ ?_ ?_; (focus (exact ⟨_, _, (by (repeat (first | exact mh | refine mt ?_)); done)⟩)); (focus (simp; done)); (focus omega); (focus (simp only [maxLen]; omega))) | refine Takes.same ?_)); done)))) | (refine zae ?_; refine zaa rfl (zcg rfl rfl (by (repeat (first | exact mh | refine mt ?_)); done) rfl rfl) ?_) | refine zaa rfl (zbz rfl rfl) ?_ | refine zaa rfl (zcb rfl rfl) ?_ | refine zaa rfl (zcc rfl) ?_ | refine zah ?_ | (refine zcr ?_; refine zcs ?_) | (refine zdb ?_; first | refine zdc ?_ | refine zdd ?_ | refine zdf ?_ | refine zdj rfl ?_) | (refine zal rfl rfl ?_; intro g) | (refine zag ?_; refine zan 0 rfl rfl rfl rfl rfl rfl rfl rfl rfl ?_) | refine zaa rfl (zci rfl rfl hC (Takes.crvOc (mt (mt mh)) (mt mh) hc hbb (Takes.same Takes.nil))) ?_ | refine zaa rfl (zci rfl rfl hdeg (Takes.crv Takes.nil)) ?_
  refine rs_callM3 hS2 rfl rfl (Takes.crvOc (mt (mt mh)) (mt mh) hc hbb Takes.nil) rfl ?_
  rintro ⟨⟨a2, b2⟩, ca2⟩ hc2
  dsimp only at hc2 ⊢
  repeat first | refine zai rfl rfl ?_ | refine zaa rfl (zay rfl) ?_ | refine zaa rfl (zaz rfl) ?_ | (refine zac ?_; refine zaa rfl (zbd rfl rfl rfl) ?_) | (refine zad ?_; (refine zaa rfl (zci rfl rfl (hLg) ?_) ?_; (focus ((repeat (first | exact Takes.nil | refine Takes.sl ?_ | refine Takes.lit ?_ | refine Takes.fa ?_ | refine Takes.fc ?_ | refine Takes.net ?_ | (refine Takes.ownE ?_ ?_ ?_ ?_ ?_; (focus (exact ⟨_, _, (by (repeat (first | exact mh | refine mt ?_)); done)⟩)); (focus (simp; done)); (focus omega); (focus (simp only [maxLen]; omega))) | refine Takes.same ?_)); done)))) | (refine zae ?_; refine zaa rfl (zcg rfl rfl (by (repeat (first | exact mh | refine mt ?_)); done) rfl rfl) ?_) | refine zaa rfl (zbz rfl rfl) ?_ | refine zaa rfl (zcb rfl rfl) ?_ | refine zaa rfl (zcc rfl) ?_ | refine zah ?_ | (refine zcr ?_; refine zcs ?_) | (refine zdb ?_; first | refine zdc ?_ | refine zdd ?_ | refine zdf ?_ | refine zdj rfl ?_) | (refine zal rfl rfl ?_; intro g) | (refine zag ?_; refine zan 0 rfl rfl rfl rfl rfl rfl rfl rfl rfl ?_) | refine zaa rfl (zci rfl rfl hC2 (Takes.crvOc (mt (mt mh)) (mt mh) hc2 hb2 (Takes.same Takes.nil))) ?_
  rw [hg']
  repeat first | refine zaa rfl (zay rfl) ?_ | refine zaa rfl (zaz rfl) ?_ | (refine zac ?_; refine zaa rfl (zba rfl rfl rfl) ?_) | (refine zad ?_; first | (refine zaa rfl (zci rfl rfl (hX) ?_) ?_; (focus ((repeat (first | exact Takes.nil | refine Takes.sl ?_ | refine Takes.lit ?_ | refine Takes.fa ?_ | refine Takes.fc ?_ | refine Takes.net ?_ | (refine Takes.ownE ?_ ?_ ?_ ?_ ?_; (focus (exact ⟨_, _, (by (repeat (first | exact mh | refine mt ?_)); done)⟩)); (focus (simp; done)); (focus omega); (focus (simp only [maxLen]; omega))) | refine Takes.same ?_)); done))) | (refine zaa rfl (zci rfl rfl (hN) ?_) ?_; (focus ((repeat (first | exact Takes.nil | refine Takes.sl ?_ | refine Takes.lit ?_ | refine Takes.fa ?_ | refine Takes.fc ?_ | refine Takes.net ?_ | (refine Takes.ownE ?_ ?_ ?_ ?_ ?_; (focus (exact ⟨_, _, (by (repeat (first | exact mh | refine mt ?_)); done)⟩)); (focus (simp; done)); (focus omega); (focus (simp only [maxLen]; omega))) | refine Takes.same ?_)); done)))) | refine zaa rfl (zbz rfl rfl) ?_ | refine zah ?_ | (refine zcr ?_; refine zcs ?_) | (refine zdb ?_; first | refine zdc ?_ | refine zdd ?_ | refine zdf ?_ | refine zdg ?_ | refine zdj rfl ?_)
  exact done_ret2 rfl () rfl rfl rfl trivial (List.nil_sublist _)
theorem flexes1_fn {n : Nat} {P : Nat → CV} {t v : FV} (h : Fn Try.prog 14 (fun w => [crvA w n P (fun _ => one1), .f .f32 t]) (.tup [.f .f32 v, .raw (.bool true)])) :
    Fn Try.prog 49 (fun w => [.f .f32 t, crvQ w n P (fun _ => one1)]) (.tup [.f .f32 v, .raw (.bool true)]) := by
  refine fn_intro Try.func49 rfl Try.ntmps49 (fun _ => Nat.le_of_ble_eq_true rfl) fun w0 => ?_
  repeat first | refine zaa rfl (zay rfl) ?_ | refine zaa rfl (zaz rfl) ?_ | refine zaa rfl (zbz rfl rfl) ?_ | refine zah ?_ | (refine zcr ?_; refine zcs ?_) | (refine zdb ?_; first | refine zdc ?_ | refine zdd ?_ | refine zdg ?_) | refine zaa rfl (opj_loadAZ rfl rfl rfl) ?_ | refine zaa rfl (zci rfl rfl h (Takes.crv (Takes.same Takes.nil))) ?_
  exact done_ret2 rfl () rfl rfl rfl trivial (List.nil_sublist _)
theorem edges1_fn {n : Nat} {P : Nat → CV} {t : FV} {p : CV} (h : Fn Try.prog 27 (fun w => [crvA w n P (fun _ => one1), .f .f32 t]) (.tup [cA p, .raw (.bool true)])) :
    Fn Try.prog 46 (fun w => [.f .f32 t, crvQ w n P (fun _ => one1)]) (.tup [.f .f32 p.1, .raw (.bool true)]) := by
  unfold cA at h
  refine fn_intro Try.func46 rfl Try.ntmps46 (fun _ => Nat.le_of_ble_eq_true rfl) fun w0 => ?_
  repeat first | refine zaa rfl (zay rfl) ?_ | refine zaa rfl (zaz rfl) ?_ | (refine zad ?_; refine zaa rfl (zbp rfl) ?_) | refine zaa rfl (zbz rfl rfl) ?_ | refine zah ?_ | (refine zcr ?_; refine zcs ?_) | (refine zdb ?_; first | refine zdc ?_ | refine zdd ?_ | refine zdg ?_) | refine zaa rfl (opj_loadAZ rfl rfl rfl) ?_ | refine zaa rfl (zci rfl rfl h (Takes.crv (Takes.same Takes.nil))) ?_
  exact done_ret2 rfl () rfl rfl rfl trivial (List.nil_sublist _)
theorem edges2_fn {n : Nat} {P : Nat → CV} {t : FV} {p : CV} (h : Fn Try.prog 27 (fun w => [crvA w n P (fun _ => one1), .f .f32 t]) (.tup [cA p, .raw (.bool true)])) :
    Fn Try.prog 47 (fun w => [.f .f32 t, crvQ w n P (fun _ => one1)]) (.tup [.f .f32 p.2, .raw (.bool true)]) := by
  unfold cA at h
  refine fn_intro Try.func47 rfl Try.ntmps47 (fun _ => Nat.le_of_ble_eq_true rfl) fun w0 => ?_
  repeat first | refine zaa rfl (zay rfl) ?_ | refine zaa rfl (zaz rfl) ?_ | (refine zad ?_; refine zaa rfl (zbq rfl) ?_) | refine zaa rfl (zbz rfl rfl) ?_ | refine zah ?_ | (refine zcr ?_; refine zcs ?_) | (refine zdb ?_; first | refine zdc ?_ | refine zdd ?_ | refine zdg ?_) | refine zaa rfl (opj_loadAZ rfl rfl rfl) ?_ | refine zaa rfl (zci rfl rfl h (Takes.crv (Takes.same Takes.nil))) ?_
  exact done_ret2 rfl () rfl rfl rfl trivial (List.nil_sublist _)
theorem flexesOf_fn {n m : Nat} {P : Nat → CV} {ok : FV → Bool} {v : FV → FV} (hn : 3 ≤ n ∧ n ≤ 8) (hm : 1 ≤ m ∧ m ≤ 64) (hP : (tabC n P).all finC = true) (hB : ∀ t, ok t = true → Fn Try.prog 14 (fun w => [crvA w n P (fun _ => one1), .f .f32 t]) (.tup [.f .f32 (v t), .raw (.bool true)])) (hok : chgOk ok v m = true) :
    FnH (X := Nat × Nat) Try.prog 16 (fun w => [crvA w n P (fun _ => one1), .raw (.int .i64 m)]) [] (fun y => .tup [.raw (.slice (some ⟨y.1, 0, none⟩) (cntB v m m) y.2), .raw (.bool true)]) (fun y => [entF y.1 30 (cntB v m m) (fnB v m m) y.2]) (fun y => cntB v m m ≤ y.2 ∧ y.2 ≤ maxLen) := by
  have hI := isPlainN_fn (n := n) (P := P) (by omega) hP (wts_one n).above (ones_any n)
  rw [decide_eq_true hn.1] at hI
  have hA := arePieces_yes (m : Int) (by omega)
  have hC := changes_fn (n := n) (P := P) (f := fun _ => one1) (fc := 49) hm (fun t ht => flexes1_fn (hB t ht)) hok
  refine fn_intro Try.func16 rfl Try.ntmps16 (fun _ => Nat.le_of_ble_eq_true rfl) fun w0 => ?_
  repeat first | refine zai rfl rfl ?_ | refine zaa rfl (zay rfl) ?_ | refine zaa rfl (zaz rfl) ?_ | (refine zad ?_; (refine zaa rfl (zci rfl rfl (hA) ?_) ?_; (focus ((repeat (first | exact Takes.nil | refine Takes.sl ?_ | refine Takes.lit ?_ | refine Takes.fa ?_ | refine Takes.fc ?_ | refine Takes.net ?_ | (refine Takes.ownE ?_ ?_ ?_ ?_ ?_; (focus (exact ⟨_, _, (by (repeat (first | exact mh | refine mt ?_)); done)⟩)); (focus (simp; done)); (focus omega); (focus (simp only [maxLen]; omega))) | refine Takes.same ?_)); done)))) | (refine zae ?_; refine zaa rfl (zcg rfl rfl (by (repeat (first | exact mh | refine mt ?_)); done) rfl rfl) ?_) | refine zaa rfl (zcb rfl rfl) ?_ | refine zaa rfl (zcc rfl) ?_ | refine zah ?_ | (refine zcr ?_; refine zcs ?_) | (refine zdb ?_; first | refine zdc ?_ | refine zdd ?_ | refine zdf ?_ | refine zdj rfl ?_) | (refine zak rfl rfl rfl ?_; intro g) | refine zaa rfl (zci rfl rfl hI (Takes.crv Takes.nil)) ?_ | refine zaa rfl (opj_makeFuncU rfl) ?_
  refine rs_callM3 hC rfl rfl (Takes.same (Takes.cloCi mh Takes.nil)) rfl ?_
  rintro ⟨a, ca⟩ hc
  dsimp only at hc ⊢
  repeat first | refine zaa rfl (zaz rfl) ?_ | refine zaa rfl (zbz rfl rfl) ?_ | refine zah ?_ | (refine zcr ?_; refine zcs ?_) | (refine zdb ?_; refine zdg ?_)
  exact done_ret2 rfl (a, ca) rfl rfl rfl hc (.cons_cons _ (List.nil_sublist _))
theorem edgesOf_fn {n m : Nat} {P : Nat → CV} {ok : FV → Bool} {v : FV → CV} (hn : 3 ≤ n ∧ n ≤ 8) (hm : 1 ≤ m ∧ m ≤ 64) (hP : (tabC n P).all finC = true) (hD : (tabC (n - 1) (diffP n P)).all finC = true)
    (hB : ∀ t, ok t = true → Fn Try.prog 27 (fun w => [crvA w (n - 1) (diffP n P) (fun _ => one1), .f .f32 t]) (.tup [cA (v t), .raw (.bool true)])) (h1 : chgOk ok (fun t => (v t).1) m = true) (h2 : chgOk ok (fun t => (v t).2) m = true)
    (k1 : cntB (fun t => (v t).1) m m = 0) (k2 : cntB (fun t => (v t).2) m m = 1) :
    FnH (X := Nat × Nat) Try.prog 15 (fun w => [crvA w n P (fun _ => one1), .raw (.int .i64 m)]) [] (fun y => .tup [.raw (.slice (some ⟨y.1, 0, none⟩) 1 y.2), .raw (.bool true)]) (fun y => [entF y.1 30 1 (fnB (fun t => (v t).2) m m) y.2]) (fun y => 1 ≤ y.2 ∧ y.2 ≤ maxLen) := by
  have hI := isPlainN_fn (n := n) (P := P) (by omega) hP (wts_one n).above (ones_any n)
  rw [decide_eq_true hn.1] at hI
  have hA := arePieces_yes (m : Int) (by omega)
  have hS := slopeCurve_yes (n := n) (P := P) (by omega) hI hD (wts_one (n - 1)).above
  have hC1 := changes_fn (n := n - 1) (P := diffP n P) (f := fun _ => one1) (fc := 46) hm (fun t ht => edges1_fn (hB t ht)) h1
  have hC2 := changes_fn (n := n - 1) (P := diffP n P) (f := fun _ => one1) (fc := 47) hm (fun t ht => edges2_fn (hB t ht)) h2
  rw [k1] at hC1
  rw [k2] at hC2
  obtain ⟨F, hF⟩ : ∃ F, F = fnB (fun t => (v t).2) m m := ⟨_, rfl⟩
  rw [← hF] at hC2 ⊢
  refine fn_intro Try.func15 rfl Try.ntmps15 (fun _ => Nat.le_of_ble_eq_true rfl) fun w0 => ?_
  repeat first | refine zaa rfl (zaz rfl) ?_ | (refine zae ?_; refine zaa rfl (zcg rfl rfl (by (repeat (first | exact mh | refine mt ?_)); done) rfl rfl) ?_) | refine zah ?_ | (refine zcr ?_; refine zcs ?_) | (refine zdb ?_; first | refine zdc ?_ | refine zdd ?_) | (refine zak rfl rfl rfl ?_; intro g)
  refine rs_callM3 hS rfl rfl (Takes.crv Takes.nil) rfl ?_
  rintro ⟨⟨a, b⟩, ca⟩ hc
  dsimp only at hc ⊢
  have hbb : n - 1 ≤ n - 1 ∧ n - 1 ≤ maxLen := ⟨Nat.le_refl _, by simp only [maxLen]; omega⟩
  repeat first | refine zai rfl rfl ?_ | refine zaa rfl (zay rfl) ?_ | refine zaa rfl (zaz rfl) ?_ | (refine zad ?_; (refine zaa rfl (zci rfl rfl (hA) ?_) ?_; (focus ((repeat (first | exact Takes.nil | refine Takes.sl ?_ | refine Takes.lit ?_ | refine Takes.fa ?_ | refine Takes.fc ?_ | refine Takes.net ?_ | (refine Takes.ownE ?_ ?_ ?_ ?_ ?_; (focus (exact ⟨_, _, (by (repeat (first | exact mh | refine mt ?_)); done)⟩)); (focus (simp; done)); (focus omega); (focus (simp only [maxLen]; omega))) | refine Takes.same ?_)); done)))) | refine zaa rfl (zbz rfl rfl) ?_ | refine zaa rfl (zcb rfl rfl) ?_ | refine zaa rfl (zcc rfl) ?_ | refine zah ?_ | (refine zcr ?_; refine zcs ?_) | (refine zdb ?_; first | refine zdc ?_ | refine zdd ?_ | refine zdf ?_ | refine zdj rfl ?_) | (refine zal rfl rfl ?_; intro g) | (refine zag ?_; refine zan 0 rfl rfl rfl rfl rfl rfl rfl rfl rfl ?_) | refine zaa rfl (opj_makeFuncU rfl) ?_
  refine rs_callM3 hC1 rfl rfl (Takes.same (Takes.cloCo mh (mt (mt mh)) (mt mh) hc hbb Takes.nil)) rfl ?_
  rintro ⟨a1, c1⟩ hc1
  dsimp only at hc1 ⊢
  repeat first | refine zaa rfl (zay rfl) ?_ | refine zaa rfl (zaz rfl) ?_ | refine zaa rfl (zbz rfl rfl) ?_ | refine zah ?_ | (refine zcr ?_; refine zcs ?_) | (refine zdb ?_; first | refine zdc ?_ | refine zdd ?_) | refine zaa rfl (opj_makeFuncU rfl) ?_
  refine rs_callM3 hC2 rfl rfl (Takes.same (Takes.cloCo (mt mh) (mt (mt (mt mh))) (mt (mt mh)) hc hbb Takes.nil)) rfl ?_
  rintro ⟨a2, c2⟩ hc2
  dsimp only at hc2 ⊢
  repeat first | refine zai rfl rfl ?_ | refine zaa rfl (zay rfl) ?_ | refine zaa rfl (zaz rfl) ?_ | refine zaa rfl (zbz rfl rfl) ?_ | refine zaa rfl (zcb rfl rfl) ?_ | refine zaa rfl (zcc rfl) ?_ | refine zah ?_ | (refine zcr ?_; refine zcs ?_) | (refine zdb ?_; first | refine zdc ?_ | refine zdd ?_ | refine zdf ?_ | refine zdj rfl ?_)
  rw [← entF_nilU a1 c1, entF_1 a2 c2]
  refine rs_append 1 (xs := []) (ys := [.f .f32 (F 0)]) (n := 0) rfl rfl ⟨_, rfl, fun w v hS h => rd_ownM (sz := 1) hS h mh rfl hc2⟩ rfl ⟨rfl, hc1⟩ (by simp) rfl (by simp only [maxLen]; simp) (by simp) rfl fun g' c' h3 h4 => ?_
  rw [entF_app1 g' c' 30 F]
  repeat first | refine zaa rfl (zaz rfl) ?_ | refine zah ?_ | (refine zcr ?_; refine zcs ?_) | (refine zdb ?_; refine zdg ?_)
  exact done_ret2 rfl (g', c') rfl rfl rfl ⟨h3, h4⟩ (.cons _ (.cons_cons _ (List.nil_sublist _)))
def ptsE (n : Nat) (P : Nat → CV) (m : Nat) (k : Nat) : CV := pointP n P one32 (timeP m k)
theorem pointsAt_fn {n m : Nat} {P : Nat → CV} (hn : 2 ≤ n ∧ n ≤ 8) (hm : 1 ≤ m ∧ m ≤ 64) (hP : (tabC n P).all finC = true) (hQ : (tabC (m + 1) (ptsE n P m)).all finC = true) :
    FnH (X := Nat × Nat) Try.prog 50 (fun w => [crvA w n P (fun _ => one1), .raw (.int .i64 m)]) [] (fun y => .tup [.raw (.slice (some ⟨y.1, 0, none⟩) (m + 1) y.2), .raw (.bool true)]) (fun y => [entC y.1 (m + 1) (ptsE n P m) y.2]) (fun y => m + 1 ≤ y.2 ∧ y.2 ≤ maxLen) := by
  have hV := validCurve_yes hn hP (wts_one n).above
  have hA := arePieces_yes (m : Int) (by omega)
  have hT := pieceTimes_fn m hm.2
  obtain ⟨Q, hQ'⟩ : ∃ Q : Nat → CV, Q = ptsE n P m := ⟨_, rfl⟩
  have hAt : ∀ k : Nat, Fn Try.prog 59 (fun w => [crvA w n P (fun _ => one1), .f .f32 (timeP m (k : Int))]) (cA (Q k)) := fun k => by
    rw [hQ']
    exact at_fn (by omega)
  rw [← hQ'] at hQ ⊢
  refine fn_intro Try.func50 rfl Try.ntmps50 (fun _ => Nat.le_of_ble_eq_true rfl) fun w0 => ?_
  repeat first | refine zai rfl rfl ?_ | refine zaa rfl (zay rfl) ?_ | refine zaa rfl (zaz rfl) ?_ | (refine zad ?_; first | refine zaa rfl (zbn rfl) ?_ | (refine zaa rfl (zci rfl rfl (hA) ?_) ?_; (focus ((repeat (first | exact Takes.nil | refine Takes.sl ?_ | refine Takes.lit ?_ | refine Takes.fa ?_ | refine Takes.fc ?_ | refine Takes.net ?_ | (refine Takes.ownE ?_ ?_ ?_ ?_ ?_; (focus (exact ⟨_, _, (by (repeat (first | exact mh | refine mt ?_)); done)⟩)); (focus (simp; done)); (focus omega); (focus (simp only [maxLen]; omega))) | refine Takes.same ?_)); done))) | (refine rs_call1 (hT) rfl rfl ?_ rfl ?_; (focus ((repeat (first | exact Takes.nil | refine Takes.sl ?_ | refine Takes.lit ?_ | refine Takes.fa ?_ | refine Takes.fc ?_ | refine Takes.net ?_ | (refine Takes.ownE ?_ ?_ ?_ ?_ ?_; (focus (exact ⟨_, _, (by (repeat (first | exact mh | refine mt ?_)); done)⟩)); (focus (simp; done)); (focus omega); (focus (simp only [maxLen]; omega))) | refine Takes.same ?_)); done)); rintro ⟨g6, c6⟩ ⟨hc61, hc62⟩; simp only [maxLen] at hc61 hc62)) | (refine zae ?_; refine zaa rfl (zcg rfl rfl (by (repeat (first | exact mh | refine mt ?_)); done) rfl rfl) ?_) | refine zaa rfl (zcb rfl rfl) ?_ | refine zaa rfl (zcc rfl) ?_ | refine zah ?_ | (refine zcr ?_; refine zcs ?_) | (refine zdb ?_; first | refine zdc ?_ | refine zdd ?_ | refine zde ?_ | refine zdf ?_ | refine zdj rfl ?_) | (refine zak rfl rfl rfl ?_; intro g) | refine zaa rfl (zci rfl rfl hV (Takes.crv Takes.nil)) ?_ | (refine rs_lit0 rfl ?_; intro ga)
  rw [entC_nilU (F := Q)]
  obtain ⟨g2, hg2⟩ : ∃ x, x = g := ⟨g, rfl⟩
  subst hg2
  refine ws_loop (ι := Nat × Nat × Nat) (fun y => [(2, .raw (.pointer (some ⟨g2, 0, none⟩))), (6, .raw (.slice (some ⟨y.2.1, 0, none⟩) y.1 y.2.2)), (19, .raw (.slice (some ⟨g6, 0, none⟩) (m + 1) c6)), (20, .raw (.int .i64 ((m + 1 : Nat) : Int))), (21, .raw (.int .i64 (y.1 : Nat)))])
    (fun y => St w0 [] [entF g6 30 (m + 1) (timeP m) c6, entC y.2.1 y.1 Q y.2.2, ⟨g2, 27, [slC w0 (tabC n P), AV.sl w0 1 ((tab n fun _ => one1).map (AV.f .f32))], 2⟩]) (fun y => y.1 ≤ m + 1 ∧ y.1 ≤ y.2.2 ∧ y.2.2 ≤ maxLen) (fun y => m + 1 - y.1) (0, ga, 0) ⟨by simp only; omega, by simp only; omega, by simp only; omega⟩ ?_ (fun _ h => h) (fun y hy => ?_)
  · (repeat (first | exact Env.sub_nil _ | refine Env.sub_cons rfl ?_))
  obtain ⟨k, a, ca⟩ := y
  simp only at hy ⊢
  obtain ⟨hk, hc1, hc2⟩ := hy
  simp only [maxLen] at hc1 hc2
  have hAk := hAt k
  repeat first | (refine zac ?_; refine zaa rfl (zbe rfl rfl) ?_) | refine zah ?_ | (refine zcr ?_; refine zcs ?_) | (refine zdb ?_; first | refine zdc ?_ | refine zdd ?_)
  refine ws_cond rfl (fun hd => ?_) (fun hd => ?_)
  case' refine_2 =>
    have hk5 : k = m + 1 := by have := of_decide_eq_false hd; omega
    subst hk5
    have hI := ifPoints_yes (m + 1) ca a Q ⟨by omega, hc1, by simp only [maxLen]; omega⟩ hQ
    repeat first | refine zaa rfl (zay rfl) ?_ | refine zaa rfl (zaz rfl) ?_ | refine zaa rfl (zbz rfl rfl) ?_ | refine zah ?_ | (refine zcr ?_; first | refine zcs ?_ | refine zcu ?_ | refine zcx ?_ | refine zda ?_) | (refine zdb ?_; first | refine zdc ?_ | refine zdd ?_ | refine zdg ?_ | refine zdh ?_) | (refine rs_callAt 1 hI rfl rfl rfl ?_ rfl ?_; (focus (exact Takes.same Takes.nil)); rintro _ -)
    exact done_ret2 rfl (a, ca) rfl rfl rfl ⟨hc1, by simp only [maxLen]; omega⟩ (.cons _ (.cons_cons _ (List.nil_sublist _)))
  have hlt : (k : Int) < ((m + 1 : Nat) : Int) := of_decide_eq_true hd
  clear hd
  repeat first | refine zaa rfl (zay rfl) ?_ | refine zaa rfl (zaz rfl) ?_ | (refine zae ?_; first | refine zaa rfl (zbt rfl rfl (by (repeat (first | exact mh | refine mt ?_)); done) (by omega)) ?_ | refine zaa rfl (zcg rfl rfl (by (repeat (first | exact mh | refine mt ?_)); done) rfl rfl) ?_) | (refine zaf ?_; refine zaa rfl (zbw rfl rfl (by omega) (by omega)) ?_) | refine zah ?_ | (refine zcr ?_; refine zcs ?_) | (refine zdb ?_; first | refine zdc ?_ | refine zdd ?_ | refine zde ?_ | refine zdf ?_) | refine zaa rfl (zci rfl rfl hAk (Takes.crv (Takes.same Takes.nil))) ?_ | refine zaa rfl (zco rfl rfl rfl rfl rfl rfl) ?_
  refine rs_appendC 1 Q rfl rfl rfl rfl ⟨hc1, by simp only [maxLen]; omega⟩ (by omega) rfl rfl rfl (fun s _ => rfl) fun a' ca' h1 h2 => ?_
  repeat first | refine zaa rfl (zay rfl) ?_ | refine zaa rfl (zaz rfl) ?_ | (refine zac ?_; refine zaa rfl (zbb rfl rfl (by omega)) ?_) | refine zah ?_ | (refine zcr ?_; first | refine zcs ?_ | refine zcv ?_) | (refine zdb ?_; refine zdd ?_)
  refine done_round (k + 1, a', ca') ⟨by simp only; omega, h1, h2⟩ (by simp only; omega) ?_ (fun _ h => h)
  simp only
  rw [show ((k + 1 : Nat) : Int) = (k : Int) + 1 by omega]
  (repeat (first | exact Env.sub_nil _ | refine Env.sub_cons rfl ?_))
def enT (m : Nat) (i : Nat) : FV := hwayF (timeP m i) (timeP m ((i : Int) + 1))
def enF (m : Nat) (v : FV → FV) (lg : Int → FV) : Nat → FV
  | 0 => fv .f32 0
  | i + 1 => fbin .add .f32 (enF m v lg i) (fbin .mul .f32 (fbin .mul .f32 (v (enT m i)) (v (enT m i))) (lg i))
theorem bentEnergy_fn {n m : Nat} {P : Nat → CV} {ok : FV → Bool} {v : FV → FV} (hn : 3 ≤ n ∧ n ≤ 8) (hm : 1 ≤ m ∧ m ≤ 64) (hP : (tabC n P).all finC = true) (hQ : (tabC (m + 1) (ptsE n P m)).all finC = true) (hl : ∀ i, i + 1 < m + 1 → LongOk (subC2 (ptsE n P m (i + 1)) (ptsE n P m i)))
    (hB : ∀ t, ok t = true → Fn Try.prog 14 (fun w => [crvA w n P (fun _ => one1), .f .f32 t]) (.tup [.f .f32 (v t), .raw (.bool true)])) (hok : ∀ i, i < m → ok (enT m i) = true) (hf : finB (enF m v (lngF (ptsE n P m)) m) = true) :
    Fn Try.prog 17 (fun w => [crvA w n P (fun _ => one1), .raw (.int .i64 m)]) (.tup [.f .f32 (enF m v (lngF (ptsE n P m)) m), .raw (.bool true)]) := by
  have hI := isPlainN_fn (n := n) (P := P) (by omega) hP (wts_one n).above (ones_any n)
  rw [decide_eq_true hn.1] at hI
  have hPt := pointsAt_fn (n := n) (m := m) (by omega) hm hP hQ
  have hT := pieceTimes_fn m hm.2
  have hLg := longsOf_fn (m + 1) (ptsE n P m) (by omega) hl
  rw [show m + 1 - 1 = m by omega] at hLg
  have hN := ifNumber_fn (enF m v (lngF (ptsE n P m)) m)
  have hN' : numT (enF m v (lngF (ptsE n P m)) m) = .tup [.f .f32 (enF m v (lngF (ptsE n P m)) m), .raw (.bool true)] := by unfold numT numF; rw [hf]; rfl
  rw [hN'] at hN
  refine fn_intro Try.func17 rfl Try.ntmps17 (fun _ => Nat.le_of_ble_eq_true rfl) fun w0 => ?_
  repeat first | refine zaa rfl (zay rfl) ?_ | refine zaa rfl (zaz rfl) ?_ | (refine zae ?_; refine zaa rfl (zcg rfl rfl (by (repeat (first | exact mh | refine mt ?_)); done) rfl rfl) ?_) | refine zah ?_ | (refine zcr ?_; refine zcs ?_) | (refine zdb ?_; first | refine zdc ?_ | refine zdd ?_) | (refine zak rfl rfl rfl ?_; intro g)
  refine rs_callM3 hPt rfl rfl (Takes.crv (Takes.same Takes.nil)) rfl ?_
  rintro ⟨a1, c1⟩ ⟨hc1, hc2⟩
  dsimp only at hc1 hc2 ⊢
  simp only [maxLen] at hc1 hc2
  repeat first | refine zai rfl rfl ?_ | refine zaa rfl (zay rfl) ?_ | refine zaa rfl (zaz rfl) ?_ | (refine zad ?_; first | refine zaa rfl (zbn rfl) ?_ | (refine rs_call1 (hT) rfl rfl ?_ rfl ?_; (focus ((repeat (first | exact Takes.nil | refine Takes.sl ?_ | refine Takes.lit ?_ | refine Takes.fa ?_ | refine Takes.fc ?_ | refine Takes.net ?_ | (refine Takes.ownE ?_ ?_ ?_ ?_ ?_; (focus (exact ⟨_, _, (by (repeat (first | exact mh | refine mt ?_)); done)⟩)); (focus (simp; done)); (focus omega); (focus (simp only [maxLen]; omega))) | refine Takes.same ?_)); done)); rintro ⟨g6, c6⟩ ⟨hc61, hc62⟩; simp only [maxLen] at hc61 hc62)) | (refine zae ?_; refine zaa rfl (zcg rfl rfl (by (repeat (first | exact mh | refine mt ?_)); done) rfl rfl) ?_) | refine zaa rfl (zbz rfl rfl) ?_ | refine zaa rfl (zcb rfl rfl) ?_ | refine zaa rfl (zcc rfl) ?_ | refine zah ?_ | (refine zcr ?_; refine zcs ?_) | (refine zdb ?_; first | refine zdc ?_ | refine zdd ?_ | refine zde ?_ | refine zdf ?_ | refine zdj rfl ?_) | refine zaa rfl (zci rfl rfl hI (Takes.crv Takes.nil)) ?_ | (refine rs_callM3 hLg rfl rfl (Takes.ownE ⟨_, _, mt mh⟩ (by simp) hc1 (by simp only [maxLen]; omega) Takes.nil) rfl ?_; rintro ⟨g7, c7⟩ ⟨hc71, hc72⟩; dsimp only at hc71 hc72 ⊢; simp only [maxLen] at hc71 hc72)
  obtain ⟨g2, hg2⟩ : ∃ x, x = g := ⟨g, rfl⟩
  subst hg2
  refine ws_loop (ι := Nat) (fun i => [(2, .raw (.pointer (some ⟨g2, 0, none⟩))), (8, .raw (.slice (some ⟨g6, 0, none⟩) (m + 1) c6)), (9, .f .f32 (enF m v (lngF (ptsE n P m)) i)), (30, .raw (.slice (some ⟨g7, 0, none⟩) m c7)), (31, .raw (.int .i64 (m : Nat))), (32, .raw (.int .i64 (i : Nat)))])
    (fun _ => St w0 [] [entF g7 30 m (lngF (ptsE n P m)) c7, entF g6 30 (m + 1) (timeP m) c6, entC a1 (m + 1) (ptsE n P m) c1, ⟨g2, 27, [slC w0 (tabC n P), AV.sl w0 1 ((tab n fun _ => one1).map (AV.f .f32))], 2⟩]) (fun i => i ≤ m) (fun i => m - i) 0 (Nat.zero_le _) ?_ (fun _ h => h) (fun i hi => ?_)
  · (repeat (first | exact Env.sub_nil _ | refine Env.sub_cons rfl ?_))
  repeat first | (refine zac ?_; refine zaa rfl (zbe rfl rfl) ?_) | refine zah ?_ | (refine zcr ?_; refine zcs ?_) | (refine zdb ?_; first | refine zdc ?_ | refine zdd ?_)
  refine ws_cond rfl (fun hd => ?_) (fun hd => ?_)
  case' refine_2 =>
    have him : i = m := by have := of_decide_eq_false hd; omega
    subst him
    clear hd
    repeat first | refine zaa rfl (zay rfl) ?_ | refine zaa rfl (zaz rfl) ?_ | (refine zad ?_; (refine zaa rfl (zci rfl rfl (hN) ?_) ?_; (focus ((repeat (first | exact Takes.nil | refine Takes.sl ?_ | refine Takes.lit ?_ | refine Takes.fa ?_ | refine Takes.fc ?_ | refine Takes.net ?_ | (refine Takes.ownE ?_ ?_ ?_ ?_ ?_; (focus (exact ⟨_, _, (by (repeat (first | exact mh | refine mt ?_)); done)⟩)); (focus (simp; done)); (focus omega); (focus (simp only [maxLen]; omega))) | refine Takes.same ?_)); done)))) | refine zaa rfl (zbz rfl rfl) ?_ | refine zah ?_ | (refine zcr ?_; first | refine zcs ?_ | refine zcu ?_ | refine zcx ?_ | refine zda ?_) | (refine zdb ?_; first | refine zdc ?_ | refine zdd ?_ | refine zdg ?_ | refine zdh ?_)
    exact done_ret2 rfl () rfl rfl rfl trivial (List.nil_sublist _)
  have hlt : (i : Int) < (m : Int) := of_decide_eq_true hd
  clear hd
  have hz := hB _ (hok i (by omega))
  repeat first | refine zaa rfl (zay rfl) ?_ | refine zaa rfl (zaz rfl) ?_ | (refine zae ?_; refine zaa rfl (zbt rfl rfl (by (repeat (first | exact mh | refine mt ?_)); done) (by omega)) ?_) | (refine zaf ?_; refine zaa rfl (zbw rfl rfl (by omega) (by omega)) ?_) | refine zah ?_ | (refine zcr ?_; refine zcs ?_) | (refine zdb ?_; first | refine zdc ?_ | refine zdd ?_ | refine zde ?_ | refine zdf ?_)
  refine ws_draw (n := 18) mixed (by decide +kernel) ?_
  repeat first | refine zap rfl (zay rfl) ?_ | refine zap rfl (zaz rfl) ?_ | (refine zar ?_; first | refine zap rfl (zba rfl rfl rfl) ?_ | refine zap rfl (zbb rfl rfl (by omega)) ?_) | (refine zat ?_; first | refine zap rfl (zbt rfl rfl (by (repeat (first | exact mh | refine mt ?_)); done) (by omega)) ?_ | refine zap rfl (zcg rfl rfl (by (repeat (first | exact mh | refine mt ?_)); done) rfl rfl) ?_) | (refine zau ?_; refine zap rfl (zbw rfl rfl (by omega) (by omega)) ?_) | refine zap rfl (zbz rfl rfl) ?_ | refine zav ?_ | refine zap rfl (zci rfl rfl hz (Takes.crv (Takes.same Takes.nil))) ?_
  repeat first | refine zaa rfl (zay rfl) ?_ | refine zaa rfl (zaz rfl) ?_ | (refine zac ?_; first | refine zaa rfl (zba rfl rfl rfl) ?_ | refine zaa rfl (zbb rfl rfl (by omega)) ?_) | refine zaa rfl (zcc rfl) ?_ | refine zah ?_ | (refine zcr ?_; first | refine zcs ?_ | refine zcv ?_) | (refine zdb ?_; first | refine zdc ?_ | refine zdd ?_ | refine zdf ?_ | refine zdj rfl ?_)
  refine done_round (i + 1) (by omega) (by omega) ?_ (fun _ h => h)
  rw [show ((i + 1 : Nat) : Int) = (i : Int) + 1 by omega]
  (repeat (first | exact Env.sub_nil _ | refine Env.sub_cons rfl ?_))
end Go.Ab
namespace Go.Ab
section
variable {f : Int → FV} {n : Nat} {t : FV} {τ : Rat}
theorem cx_bound (hf : Wts f n) (hT : Tm t τ) {x : Nat → Rat} {B : Rat} (hn : 2 ≤ n ∧ n ≤ 5) (h : ∀ i, i < n → -B ≤ x i ∧ x i ≤ B) : -B ≤ Cx f t x (n - 1) 0 ∧ Cx f t x (n - 1) 0 ≤ B := cx_bnd hf hT h (n - 1) (by omega) 0 (by omega)
theorem sx_bound (hf : Wts f n) (hT : Tm t τ) {x : Nat → Rat} {B : Rat} (hn : 2 ≤ n ∧ n ≤ 5) (h : ∀ i, i < n → -B ≤ x i ∧ x i ≤ B) : -(2 * B) ≤ Sx f t x n ∧ Sx f t x n ≤ 2 * B := by
  have h1 := cx_bnd hf hT h (n - 2) (by omega) 0 (by omega)
  have h2 := cx_bnd hf hT h (n - 2) (by omega) 1 (by omega)
  unfold Sx
  constructor <;> grind
theorem point_nea (hf : Wts f n) (hT : Tm t τ) {P : Nat → CV} {x y : Nat → Rat} {B : Rat} (hB : B ≤ 39) (hn : 2 ≤ n ∧ n ≤ 5) (h : Pv n P x y B) : Nea (pointP n P f t) (Cx f t x (n - 1) 0) (Cx f t y (n - 1) 0) (4 / 25000) := point_vl hf hT hB hn h
theorem slope_nea (hf : Wts f n) (hT : Tm t τ) {P : Nat → CV} {x y : Nat → Rat} {B b : Rat} (vb : Vl .f32 (slopeBy n f t) b) (hb : 0 ≤ b ∧ b ≤ 10) (hB : B ≤ 39) (hn : 2 ≤ n ∧ n ≤ 5) (h : Pv n P x y B) : Nea (slopeP n P f t) (b * Sx f t x n) (b * Sx f t y n) (3 / 1000) := slope_vl hf hT vb hb hB hn h
theorem slopeBy_one (hT : Tm t τ) (hn : 2 ≤ n ∧ n ≤ 5) : Vl .f32 (slopeBy n (fun _ => one1) t) ((n : Rat) - 1) := by
  have vd := deg_vl hn
  have h0 := rowsW_one hT (n - 2) 0
  have h1 := rowsW_one hT (n - 2) 1
  have hW := rowsW_one hT (n - 1) 0
  have hz : (((n : Int) - 1 : Int) : Rat) = (n : Rat) - 1 := by rw [Rat.intCast_sub]; rfl
  have e1 : ((2 ^ 0 : Nat) : Rat) = 1 := rfl
  have m1 := mul_ex vd h0 ((n : Int) - 1) 0 (by omega) (by omega) (by rw [e1, hz]; grind)
  have m2 := mul_ex m1 h1 ((n : Int) - 1) 0 (by omega) (by omega) (by rw [e1, hz]; grind)
  have m3 := mul_ex hW hW 1 0 (by omega) (by omega) (by rw [e1, show ((1 : Int) : Rat) = 1 from rfl]; grind)
  exact div_ex m2 m3 (by grind) (v := (n : Rat) - 1) (by grind) ((n : Int) - 1) 0 (by omega) (by omega) (by rw [e1, hz]; grind)
def one64 : FV := fv .f64 4607182418800017408
theorem one64_vl : Vl .f64 one64 1 := Vl.c (by decide +kernel)
end
end Go.Ab
