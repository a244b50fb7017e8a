/- The cubic curve nearest to a path, walked. No conditions. -/
import Derived.Test.YtljgokghchhjaaaGreatZaj
namespace Go.Ab
open Go.Proofs
variable {R : World → Prop} [RStab R]
section
variable {P : Program} {N : Nat} {S : World → Prop} {e : Env} {Q : Exit → Env → World → Prop}
variable {w0 : World} {gs : List Nat} {H : List Ent} {t : TypeId}
/-- A struct that lies in a block of its own, and two more values, are what is returned. -/
theorem done_retCX2 {R0 : World → Prop} {X : Type} {mk : X → AV} {post : X → List Ent} {good : X → Prop} {fn : Func} {p u v : Tmp} {d : TypeDesc} {z : Value} {sz b g c : Nat} {T : TypeId} {xs ys : List AV} {x2 x3 : AV} [hd : TyU P t d] [hi : TyI P t z sz b] (ha : aggD d = true) (hr : fn.results = #[.cell p t, .tmp u, .tmp v]) (y : X)
    (hp : e.look p = some (.raw (.pointer (some ⟨g, 0, none⟩)))) (h2 : e.look u = some x2) (h3 : e.look v = some x3) (hm : (⟨g, T, xs, c⟩ : Ent) ∈ H) (hl : Nat.beq xs.length sz = true) (hmk : mk y = .tup [.agg ys, x2, x3]) (hxy : ys = xs) (hy : good y) (hs : (post y).Sublist H) :
    Done .ret e (StR R0 w0 gs H) (Ret P fn N w0 gs mk post good) := fun w hw =>
  ⟨.inl rfl, y, hy, hw.mod, fun x hx => ⟨(hw.own x (hs.subset hx)).2, (hw.own x (hs.subset hx)).1⟩, (hw.weak hs).nodup, fun a hF => by
    subst hxy
    obtain ⟨v, hv, hrv⟩ := hF.rel p _ hp
    have := hrv.inv_raw
    subst this
    obtain ⟨v2, hv2, hrv2⟩ := hF.rel u _ h2
    obtain ⟨v3, hv3, hrv3⟩ := hF.rel _ _ h3
    obtain ⟨cs, hrun, hrel⟩ := run_loadA (P := P) (t := t) (w := w) ha (bb := ⟨g, 0, none⟩) rfl (xs := ys) (Nat.eq_of_beq_eq_true hl) (fun j x hj => (hw.own _ hm).2.cell (by simpa using hj))
    refine ⟨.tuple #[.agg cs.toArray, v2, v3], ?_, by rw [hmk]; exact .tup (vs := [_, _, _]) (.cons (.agg hrel) (.cons hrv2 (.cons hrv3 .nil)))⟩
    simp [results, hr, hv, hv2, hv3, asAddr, hrun]⟩
end
section
variable (s e : CV) (n : Nat) (P : Nat → CV) (tt : Int → FV)
def fitU (i : Nat) : CV := scaleC s (shr (tt i) 1)
def fitV (i : Nat) : CV := scaleC e (shr (tt i) 2)
def fitW (i : Nat) : CV := subC2 (subC2 (P i) (scaleC (P 0) (fbin .add .f32 (shr (tt i) 0) (shr (tt i) 1)))) (scaleC (P (n - 1)) (fbin .add .f32 (shr (tt i) 2) (shr (tt i) 3)))
def accC : Nat → FV
  | 0 => fv .f32 0
  | i + 1 => fbin .add .f32 (accC i) (powC (fitU s tt i))
def accD : Nat → FV
  | 0 => fv .f32 0
  | i + 1 => fbin .add .f32 (accD i) (dotF (fitU s tt i) (fitV e tt i))
def accF : Nat → FV
  | 0 => fv .f32 0
  | i + 1 => fbin .add .f32 (accF i) (powC (fitV e tt i))
def accG : Nat → FV
  | 0 => fv .f32 0
  | i + 1 => fbin .add .f32 (accG i) (dotF (fitU s tt i) (fitW n P tt i))
def accK : Nat → FV
  | 0 => fv .f32 0
  | i + 1 => fbin .add .f32 (accK i) (dotF (fitV e tt i) (fitW n P tt i))
def fitM : FV := fbin .sub .f32 (fbin .mul .f32 (accC s tt n) (accF e tt n)) (fbin .mul .f32 (accD s e tt n) (accD s e tt n))
def fitX0 : FV := fbin .quo .f32 (fbin .sub .f32 (fbin .mul .f32 (accG s n P tt n) (accF e tt n)) (fbin .mul .f32 (accK e n P tt n) (accD s e tt n))) (fitM s e n tt)
def fitY0 : FV := fbin .quo .f32 (fbin .sub .f32 (fbin .mul .f32 (accC s tt n) (accK e n P tt n)) (fbin .mul .f32 (accD s e tt n) (accG s n P tt n))) (fitM s e n tt)
def fitBad : Bool := cmpB .eql (fcmp .f32 (fitM s e n tt) (fv .f32 0)) || (!cmpB .gtr (fcmp .f32 (fitX0 s e n P tt) (fv .f32 0)) || !cmpB .gtr (fcmp .f32 (fitY0 s e n P tt) (fv .f32 0)))
def fitL : FV := fbin .quo .f32 (longC (subC2 (P (n - 1)) (P 0))) thr3
def fitX : FV := match fitBad s e n P tt with
  | true => fitL n P
  | false => fitX0 s e n P tt
def fitY : FV := match fitBad s e n P tt with
  | true => fitL n P
  | false => fitY0 s e n P tt
/-- The points of the curve. -/
def fitQ (j : Nat) : CV := if j = 0 then P 0 else if j = 1 then addC2 (P 0) (scaleC s (fitX s e n P tt)) else if j = 2 then addC2 (P (n - 1)) (scaleC e (fitY s e n P tt)) else P (n - 1)
end
def sumZ (Q : Nat → CV) (t : FV) : Nat → CV
  | 0 => (fv .f32 0, fv .f32 0)
  | j + 1 => addC2 (sumZ Q t j) (scaleC (Q j) (shr t j))
/-- How far a point is away. -/
def missC' (Q : Nat → CV) (P : Nat → CV) (tt : Int → FV) (i : Nat) : CV := subC2 (P i) (sumZ Q (tt i) 4)
def missF (Q : Nat → CV) (P : Nat → CV) (tt : Int → FV) (i : Int) : FV := longC (missC' Q P tt i.toNat)
theorem sel4_shr (t : FV) {j : Int} (h : 0 ≤ j ∧ j < 4) : sel4 (shr t 0) (shr t 1) (shr t 2) (shr t 3) j = shr t j := by
  have hc : j = 0 ∨ j = 1 ∨ j = 2 ∨ j = 3 := by omega
  rcases hc with rfl | rfl | rfl | rfl <;> rfl
/-- What a fit needs. -/
structure FitOk (s e : CV) (n : Nat) (P : Nat → CV) (tt : Int → FV) : Prop where
  hn : 2 ≤ n ∧ n ≤ 48
  u : ∀ i, i < n → PowOk (fitU s tt i) ∧ PowOk (fitV e tt i)
  l : LongOk (subC2 (P (n - 1)) (P 0))
  q : (tabC 4 (fitQ s e n P tt)).all finC = true
  m : ∀ i, i < n → LongOk (missC' (fitQ s e n P tt) P tt i)
  f : (tab n (missF (fitQ s e n P tt) P tt)).all finB = true
def ngC (p : CV) : CV := (fneg .f32 p.1, fneg .f32 p.2)
attribute [local irreducible] WS RS Done OpJ Then InBlock Round Ret Env.sub FnH
attribute [local irreducible] tab tabC
set_option maxHeartbeats 4000000 in
theorem fit_fn {s e st en : CV} {n : Nat} {P : Nat → CV} {tt : Int → FV} (h : FitOk s e n P tt)
    (hs : Fn Tryz.prog 46 (fun _ => [cA st]) (ptT true s)) (he : Fn Tryz.prog 46 (fun _ => [cA (ngC en)]) (ptT true e))
    (hP : FnH (X := Nat × Nat) Tryz.prog 47 (fun W => [slC W (tabC n P), .f .f32 (fv .f32 1065353216)]) [] (fun y => .tup [.raw (.slice (some ⟨y.1, 0, none⟩) n y.2), .raw (.bool true)]) (fun y => [entF y.1 27 n tt y.2]) (fun y => n ≤ y.2 ∧ y.2 ≤ maxLen)) :
    FnH (X := (Nat × Nat) × Nat × Nat) Tryz.prog 21 (fun W => [slC W (tabC n P), cA st, cA en]) []
      (fun y => .tup [crvO y.1.1 y.1.2 4, .raw (.slice (some ⟨y.2.1, 0, none⟩) n y.2.2), .raw (.bool true)])
      (fun y => [entF y.2.1 27 n (missF (fitQ s e n P tt) P tt) y.2.2, entF y.1.2 27 4 (fun _ => one1) 4, entC y.1.1 4 (fitQ s e n P tt) 4]) (fun y => n ≤ y.2.2 ∧ y.2.2 ≤ maxLen) := by
  have hn := h.hn
  refine fn_intro Tryz.func21 rfl Tryz.ntmps21 (fun _ => Nat.le_of_ble_eq_true rfl) fun w0 => ?_
  unfold ptT at hs he
  repeat first | refine zai rfl rfl ?_ | refine zaa rfl (zay rfl) ?_ | refine zaa rfl (zaz rfl) ?_ | (refine zad ?_; first | refine zaa rfl (zbp rfl) ?_ | refine zaa rfl (zbq rfl) ?_ | refine zaa rfl (zbr rfl rfl) ?_ | (refine zaa rfl (zci rfl rfl (hs) ?_) ?_; (focus ((repeat (first | exact Takes.nil | refine Takes.sl ?_ | refine Takes.lit ?_ | refine Takes.fa ?_ | refine Takes.fc ?_ | refine Takes.net ?_ | (refine Takes.ownE ?_ ?_ ?_ ?_ ?_; (focus (exact ⟨_, _, (by (repeat (first | exact mh | refine mt ?_)); done)⟩)); (focus (simp; done)); (focus omega); (focus (simp only [maxLen]; omega))) | refine Takes.same ?_)); done))) | (refine zaa rfl (zci rfl rfl (he) ?_) ?_; (focus ((repeat (first | exact Takes.nil | refine Takes.sl ?_ | refine Takes.lit ?_ | refine Takes.fa ?_ | refine Takes.fc ?_ | refine Takes.net ?_ | (refine Takes.ownE ?_ ?_ ?_ ?_ ?_; (focus (exact ⟨_, _, (by (repeat (first | exact mh | refine mt ?_)); done)⟩)); (focus (simp; done)); (focus omega); (focus (simp only [maxLen]; omega))) | refine Takes.same ?_)); done))) | (refine rs_call1 (hP) rfl rfl ?_ rfl ?_; (focus ((repeat (first | exact Takes.nil | refine Takes.sl ?_ | refine Takes.lit ?_ | refine Takes.fa ?_ | refine Takes.fc ?_ | refine Takes.net ?_ | (refine Takes.ownE ?_ ?_ ?_ ?_ ?_; (focus (exact ⟨_, _, (by (repeat (first | exact mh | refine mt ?_)); done)⟩)); (focus (simp; done)); (focus omega); (focus (simp only [maxLen]; omega))) | refine Takes.same ?_)); done)); rintro ⟨gt, ct⟩ ⟨ht1, ht2⟩; simp only [maxLen] at ht1 ht2)) | refine zaa rfl (zbz rfl rfl) ?_ | refine zaa rfl (zcb rfl rfl) ?_ | refine zaa rfl (zcc rfl) ?_ | refine zah ?_ | (refine zcr ?_; refine zcs ?_) | (refine zdb ?_; first | refine zdc ?_ | refine zdd ?_ | refine zdf ?_ | refine zdj rfl ?_) | (refine zal rfl rfl ?_; intro g) | refine zaa rfl (opj_neg rfl) ?_
  refine ws_draw (n := 11) mixed (by decide +kernel) ?_
  repeat first | refine zap rfl (zay rfl) ?_ | refine zap rfl (zaz rfl) ?_ | (refine zar ?_; refine zap rfl (zbc rfl rfl (by omega)) ?_) | (refine zas ?_; refine zap rfl (opj_lenC rfl) ?_) | (refine zat ?_; refine zap rfl (zbu rfl rfl) ?_) | (refine zau ?_; refine zap rfl (opj_indexC rfl rfl (by omega) (by omega)) ?_) | refine zav ?_
  repeat first | refine zaa rfl (zay rfl) ?_ | refine zaa rfl (zaz rfl) ?_ | (refine zad ?_; refine zaa rfl (opj_lenC rfl) ?_) | refine zah ?_ | (refine zcr ?_; refine zcs ?_) | (refine zdb ?_; first | refine zdc ?_ | refine zdd ?_ | refine zde ?_)
  obtain ⟨g6, hg6⟩ : ∃ x, x = g := ⟨g, rfl⟩
  subst hg6
  have e0 : (0 : Int).toNat = 0 := rfl
  have en1 : ((n : Int) - 1).toNat = n - 1 := by omega
  refine ws_loop (ι := Nat) (fun i => [(0, slC w0 (tabC n P)), (6, .raw (.pointer (some ⟨g6, 0, none⟩))), (9, cA s), (11, cA e), (13, .raw (.slice (some ⟨gt, 0, none⟩) n ct)), (15, cA (P 0)), (16, cA (P (n - 1))), (17, .f .f32 (accC s tt i)), (18, .f .f32 (accD s e tt i)), (19, .f .f32 (accF e tt i)), (20, .f .f32 (accG s n P tt i)), (21, .f .f32 (accK e n P tt i)), (80, slC w0 (tabC n P)), (81, .raw (.int .i64 n)), (82, .raw (.int .i64 i))])
    (fun _ => St w0 [] [entF gt 27 n tt ct, ⟨g6, 35, [.raw (.slice none 0 0), .raw (.slice none 0 0)], 2⟩]) (fun i => i ≤ n) (fun i => n - i) 0 (Nat.zero_le _) ?_ (fun _ h => h) (fun i hi => ?_)
  · rw [en1]
    (repeat (first | exact Env.sub_nil _ | refine Env.sub_cons rfl ?_))
  repeat first | (refine zac ?_; refine zaa rfl (zbe rfl rfl) ?_) | refine zah ?_ | (refine zcr ?_; refine zcs ?_) | (refine zdb ?_; first | refine zdc ?_ | refine zdd ?_)
  refine ws_cond rfl (fun hd => ?_) (fun hd => ?_)
  case' refine_1 =>
    have hlt : (i : Int) < n := of_decide_eq_true hd
    clear hd
    have hnext : ((i + 1 : Nat) : Int) = (i : Int) + 1 := by omega
    have hS := fourShares_fn (tt i)
    have hu1 := scaleComplex_fn s (shr (tt i) 1)
    have hu2 := scaleComplex_fn e (shr (tt i) 2)
    have hw1 := scaleComplex_fn (P 0) (fbin .add .f32 (shr (tt i) 0) (shr (tt i) 1))
    have hw2 := minus_fn (P i) (scaleC (P 0) (fbin .add .f32 (shr (tt i) 0) (shr (tt i) 1)))
    have hw3 := scaleComplex_fn (P (n - 1)) (fbin .add .f32 (shr (tt i) 2) (shr (tt i) 3))
    have hw4 := minus_fn (subC2 (P i) (scaleC (P 0) (fbin .add .f32 (shr (tt i) 0) (shr (tt i) 1)))) (scaleC (P (n - 1)) (fbin .add .f32 (shr (tt i) 2) (shr (tt i) 3)))
    have hp1 := powerOf_fn (fitU s tt i) (h.u i (by omega)).1
    have hp2 := powerOf_fn (fitV e tt i) (h.u i (by omega)).2
    have hd1 := dotOf_fn (fitU s tt i) (fitV e tt i)
    have hd2 := dotOf_fn (fitU s tt i) (fitW n P tt i)
    have hd3 := dotOf_fn (fitV e tt i) (fitW n P tt i)
    repeat first | refine zaa rfl (zay rfl) ?_ | refine zaa rfl (zaz rfl) ?_ | (refine zad ?_; (refine zaa rfl (zci rfl rfl (hS) ?_) ?_; (focus ((repeat (first | exact Takes.nil | refine Takes.sl ?_ | refine Takes.lit ?_ | refine Takes.fa ?_ | refine Takes.fc ?_ | refine Takes.net ?_ | (refine Takes.ownE ?_ ?_ ?_ ?_ ?_; (focus (exact ⟨_, _, (by (repeat (first | exact mh | refine mt ?_)); done)⟩)); (focus (simp; done)); (focus omega); (focus (simp only [maxLen]; omega))) | refine Takes.same ?_)); done)))) | (refine zae ?_; first | refine zaa rfl (zbt rfl rfl (by (repeat (first | exact mh | refine mt ?_)); done) (by omega)) ?_ | refine zaa rfl (zbu rfl rfl) ?_) | (refine zaf ?_; first | refine zaa rfl (opj_indexC rfl rfl (by omega) (by omega)) ?_ | refine zaa rfl (zbw rfl rfl (by omega) (by omega)) ?_) | refine zah ?_ | (refine zcr ?_; refine zcs ?_) | (refine zdb ?_; first | refine zdc ?_ | refine zdd ?_ | refine zde ?_ | refine zdf ?_) | (refine zal rfl rfl ?_; intro g) | (refine zag ?_; refine zan 0 rfl rfl rfl rfl rfl rfl rfl rfl rfl ?_)
    refine ws_draw (n := 10) mixed (by decide +kernel) ?_
    repeat first | refine zap rfl (zay rfl) ?_ | refine zap rfl (zaz rfl) ?_ | (refine zas ?_; first | (refine zap rfl (zci rfl rfl (hu1) ?_) ?_; (focus ((repeat (first | exact Takes.nil | refine Takes.sl ?_ | refine Takes.lit ?_ | refine Takes.fa ?_ | refine Takes.fc ?_ | refine Takes.net ?_ | (refine Takes.ownE ?_ ?_ ?_ ?_ ?_; (focus (exact ⟨_, _, (by (repeat (first | exact mh | refine mt ?_)); done)⟩)); (focus (simp; done)); (focus omega); (focus (simp only [maxLen]; omega))) | refine Takes.same ?_)); done))) | (refine zap rfl (zci rfl rfl (hu2) ?_) ?_; (focus ((repeat (first | exact Takes.nil | refine Takes.sl ?_ | refine Takes.lit ?_ | refine Takes.fa ?_ | refine Takes.fc ?_ | refine Takes.net ?_ | (refine Takes.ownE ?_ ?_ ?_ ?_ ?_; (focus (exact ⟨_, _, (by (repeat (first | exact mh | refine mt ?_)); done)⟩)); (focus (simp; done)); (focus omega); (focus (simp only [maxLen]; omega))) | refine Takes.same ?_)); done)))) | (refine zat ?_; refine zap rfl (zcf rfl rfl (by (repeat (first | exact mh | refine mt ?_)); done) rfl) ?_) | refine zav ?_ | refine zap rfl (opj_indexA4 rfl rfl (by decide) (by decide)) ?_
    repeat first | refine zah ?_ | (refine zcr ?_; refine zcs ?_) | (refine zdb ?_; refine zdc ?_)
    refine ws_draw (n := 18) mixed (by decide +kernel) ?_
    repeat first | refine zap rfl (zay rfl) ?_ | refine zap rfl (zaz rfl) ?_ | (refine zar ?_; refine zap rfl (zba rfl rfl rfl) ?_) | (refine zas ?_; first | (refine zap rfl (zci rfl rfl (hw1) ?_) ?_; (focus ((repeat (first | exact Takes.nil | refine Takes.sl ?_ | refine Takes.lit ?_ | refine Takes.fa ?_ | refine Takes.fc ?_ | refine Takes.net ?_ | (refine Takes.ownE ?_ ?_ ?_ ?_ ?_; (focus (exact ⟨_, _, (by (repeat (first | exact mh | refine mt ?_)); done)⟩)); (focus (simp; done)); (focus omega); (focus (simp only [maxLen]; omega))) | refine Takes.same ?_)); done))) | (refine zap rfl (zci rfl rfl (hw2) ?_) ?_; (focus ((repeat (first | exact Takes.nil | refine Takes.sl ?_ | refine Takes.lit ?_ | refine Takes.fa ?_ | refine Takes.fc ?_ | refine Takes.net ?_ | (refine Takes.ownE ?_ ?_ ?_ ?_ ?_; (focus (exact ⟨_, _, (by (repeat (first | exact mh | refine mt ?_)); done)⟩)); (focus (simp; done)); (focus omega); (focus (simp only [maxLen]; omega))) | refine Takes.same ?_)); done))) | (refine zap rfl (zci rfl rfl (hw3) ?_) ?_; (focus ((repeat (first | exact Takes.nil | refine Takes.sl ?_ | refine Takes.lit ?_ | refine Takes.fa ?_ | refine Takes.fc ?_ | refine Takes.net ?_ | (refine Takes.ownE ?_ ?_ ?_ ?_ ?_; (focus (exact ⟨_, _, (by (repeat (first | exact mh | refine mt ?_)); done)⟩)); (focus (simp; done)); (focus omega); (focus (simp only [maxLen]; omega))) | refine Takes.same ?_)); done))) | (refine zap rfl (zci rfl rfl (hw4) ?_) ?_; (focus ((repeat (first | exact Takes.nil | refine Takes.sl ?_ | refine Takes.lit ?_ | refine Takes.fa ?_ | refine Takes.fc ?_ | refine Takes.net ?_ | (refine Takes.ownE ?_ ?_ ?_ ?_ ?_; (focus (exact ⟨_, _, (by (repeat (first | exact mh | refine mt ?_)); done)⟩)); (focus (simp; done)); (focus omega); (focus (simp only [maxLen]; omega))) | refine Takes.same ?_)); done)))) | (refine zat ?_; refine zap rfl (zcf rfl rfl (by (repeat (first | exact mh | refine mt ?_)); done) rfl) ?_) | refine zav ?_ | refine zap rfl (opj_indexA4 rfl rfl (by decide) (by decide)) ?_
    repeat first | refine zaa rfl (zay rfl) ?_ | refine zaa rfl (zaz rfl) ?_ | (refine zac ?_; first | refine zaa rfl (zba rfl rfl rfl) ?_ | refine zaa rfl (zbb rfl rfl (by omega)) ?_) | (refine zad ?_; first | (refine zaa rfl (zci rfl rfl (hp1) ?_) ?_; (focus ((repeat (first | exact Takes.nil | refine Takes.sl ?_ | refine Takes.lit ?_ | refine Takes.fa ?_ | refine Takes.fc ?_ | refine Takes.net ?_ | (refine Takes.ownE ?_ ?_ ?_ ?_ ?_; (focus (exact ⟨_, _, (by (repeat (first | exact mh | refine mt ?_)); done)⟩)); (focus (simp; done)); (focus omega); (focus (simp only [maxLen]; omega))) | refine Takes.same ?_)); done))) | (refine zaa rfl (zci rfl rfl (hp2) ?_) ?_; (focus ((repeat (first | exact Takes.nil | refine Takes.sl ?_ | refine Takes.lit ?_ | refine Takes.fa ?_ | refine Takes.fc ?_ | refine Takes.net ?_ | (refine Takes.ownE ?_ ?_ ?_ ?_ ?_; (focus (exact ⟨_, _, (by (repeat (first | exact mh | refine mt ?_)); done)⟩)); (focus (simp; done)); (focus omega); (focus (simp only [maxLen]; omega))) | refine Takes.same ?_)); done))) | (refine zaa rfl (zci rfl rfl (hd1) ?_) ?_; (focus ((repeat (first | exact Takes.nil | refine Takes.sl ?_ | refine Takes.lit ?_ | refine Takes.fa ?_ | refine Takes.fc ?_ | refine Takes.net ?_ | (refine Takes.ownE ?_ ?_ ?_ ?_ ?_; (focus (exact ⟨_, _, (by (repeat (first | exact mh | refine mt ?_)); done)⟩)); (focus (simp; done)); (focus omega); (focus (simp only [maxLen]; omega))) | refine Takes.same ?_)); done))) | (refine zaa rfl (zci rfl rfl (hd2) ?_) ?_; (focus ((repeat (first | exact Takes.nil | refine Takes.sl ?_ | refine Takes.lit ?_ | refine Takes.fa ?_ | refine Takes.fc ?_ | refine Takes.net ?_ | (refine Takes.ownE ?_ ?_ ?_ ?_ ?_; (focus (exact ⟨_, _, (by (repeat (first | exact mh | refine mt ?_)); done)⟩)); (focus (simp; done)); (focus omega); (focus (simp only [maxLen]; omega))) | refine Takes.same ?_)); done))) | (refine zaa rfl (zci rfl rfl (hd3) ?_) ?_; (focus ((repeat (first | exact Takes.nil | refine Takes.sl ?_ | refine Takes.lit ?_ | refine Takes.fa ?_ | refine Takes.fc ?_ | refine Takes.net ?_ | (refine Takes.ownE ?_ ?_ ?_ ?_ ?_; (focus (exact ⟨_, _, (by (repeat (first | exact mh | refine mt ?_)); done)⟩)); (focus (simp; done)); (focus omega); (focus (simp only [maxLen]; omega))) | refine Takes.same ?_)); done)))) | refine zah ?_ | (refine zcr ?_; first | refine zcs ?_ | refine zcv ?_) | (refine zdb ?_; first | refine zdc ?_ | refine zdd ?_)
    refine done_round (i + 1) (by omega) (by omega) ?_ (fun _ hw => hw.weak (.cons _ (List.Sublist.refl _)))
    rw [hnext]
    (repeat (first | exact Env.sub_nil _ | refine Env.sub_cons rfl ?_))
  have hni : i = n := by have := of_decide_eq_false hd; omega
  subst hni
  clear hd hi
  have eM : fbin .sub .f32 (fbin .mul .f32 (accC s tt i) (accF e tt i)) (fbin .mul .f32 (accD s e tt i) (accD s e tt i)) = fitM s e i tt := rfl
  have eX : fbin .quo .f32 (fbin .sub .f32 (fbin .mul .f32 (accG s i P tt i) (accF e tt i)) (fbin .mul .f32 (accK e i P tt i) (accD s e tt i))) (fitM s e i tt) = fitX0 s e i P tt := rfl
  have eY : fbin .quo .f32 (fbin .sub .f32 (fbin .mul .f32 (accC s tt i) (accK e i P tt i)) (fbin .mul .f32 (accD s e tt i) (accG s i P tt i))) (fitM s e i tt) = fitY0 s e i P tt := rfl
  obtain ⟨v17, h17⟩ : ∃ v, v = AV.f .f32 (accC s tt i) := ⟨_, rfl⟩
  rw [← h17]
  repeat first | refine zaa rfl (zay rfl) ?_ | (refine zcr ?_; first | refine zcs ?_ | refine zcu ?_ | refine zcx ?_ | refine zda ?_) | (refine zdb ?_; first | refine zdc ?_ | refine zdd ?_ | refine zdh ?_)
  subst h17
  repeat first | refine zaa rfl (zay rfl) ?_ | refine zaa rfl (zaz rfl) ?_ | (refine zac ?_; refine zaa rfl (zba rfl rfl rfl) ?_) | refine zah ?_
  rw [eM]
  refine zcs ?_
  refine zdc ?_
  refine zdd ?_
  repeat first | refine zaa rfl (zay rfl) ?_ | refine zaa rfl (zaz rfl) ?_ | (refine zac ?_; refine zaa rfl (zba rfl rfl rfl) ?_) | refine zah ?_
  rw [eX, eY]
  refine zcs ?_
  refine zdc ?_
  refine ws_thenJ (ι := Unit) (fun _ => [(0, slC w0 (tabC i P)), (6, .raw (.pointer (some ⟨g6, 0, none⟩))), (9, cA s), (11, cA e), (13, .raw (.slice (some ⟨gt, 0, none⟩) i ct)), (15, cA (P 0)), (16, cA (P (i - 1))), (29, .f .f32 (fitX s e i P tt)), (30, .f .f32 (fitY s e i P tt))])
    (fun _ => St w0 [] [entF gt 27 i tt ct, ⟨g6, 35, [.raw (.slice none 0 0), .raw (.slice none 0 0)], 2⟩]) (fun _ => True) ?_ (fun _ _ => ?_)
  · have hl1 := minus_fn (P (i - 1)) (P 0)
    have hl2 := longOf_fn _ h.l
    have bad : ∀ b, fitBad s e i P tt = b → (b = true → fitX s e i P tt = fitL i P ∧ fitY s e i P tt = fitL i P) ∧ (b = false → fitX s e i P tt = fitX0 s e i P tt ∧ fitY s e i P tt = fitY0 s e i P tt) := fun b hb => by
      unfold fitX fitY
      rw [hb]
      exact ⟨fun h => by subst h; exact ⟨rfl, rfl⟩, fun h => by subst h; exact ⟨rfl, rfl⟩⟩
    cases h1 : cmpB .eql (fcmp .f32 (fitM s e i tt) (fv .f32 0)) with
    | true =>
      obtain ⟨bx, by_⟩ := (bad true (by unfold fitBad; rw [h1]; rfl)).1 rfl
      rw [bx, by_]
      repeat first | refine zaa rfl (zay rfl) ?_ | (refine zac ?_; refine zaa rfl (zbd rfl rfl rfl) ?_) | (refine zdb ?_; first | refine zdc ?_ | refine zdd ?_)
      rw [h1]
      repeat first | refine zaj rfl rfl rfl rfl ?_ | refine zaa rfl (zay rfl) ?_ | refine zaa rfl (zaz rfl) ?_ | (refine zac ?_; refine zaa rfl (zba rfl rfl rfl) ?_) | (refine zad ?_; first | (refine zaa rfl (zci rfl rfl (hl1) ?_) ?_; (focus ((repeat (first | exact Takes.nil | refine Takes.sl ?_ | refine Takes.lit ?_ | refine Takes.fa ?_ | refine Takes.fc ?_ | refine Takes.net ?_ | (refine Takes.ownE ?_ ?_ ?_ ?_ ?_; (focus (exact ⟨_, _, (by (repeat (first | exact mh | refine mt ?_)); done)⟩)); (focus (simp; done)); (focus omega); (focus (simp only [maxLen]; omega))) | refine Takes.same ?_)); done))) | (refine zaa rfl (zci rfl rfl (hl2) ?_) ?_; (focus ((repeat (first | exact Takes.nil | refine Takes.sl ?_ | refine Takes.lit ?_ | refine Takes.fa ?_ | refine Takes.fc ?_ | refine Takes.net ?_ | (refine Takes.ownE ?_ ?_ ?_ ?_ ?_; (focus (exact ⟨_, _, (by (repeat (first | exact mh | refine mt ?_)); done)⟩)); (focus (simp; done)); (focus omega); (focus (simp only [maxLen]; omega))) | refine Takes.same ?_)); done)))) | refine zaa rfl (zca rfl rfl) ?_ | refine zah ?_ | (refine zcr ?_; refine zcs ?_) | (refine zdb ?_; first | refine zdc ?_ | refine zdd ?_ | refine zdi rfl ?_)
      exact done_join () trivial (by (repeat (first | exact Env.sub_nil _ | refine Env.sub_cons rfl ?_))) (fun _ h => h)
    | false =>
      cases h2 : cmpB .gtr (fcmp .f32 (fitX0 s e i P tt) (fv .f32 0)) with
      | false =>
        obtain ⟨bx, by_⟩ := (bad true (by unfold fitBad; rw [h1, h2]; rfl)).1 rfl
        rw [bx, by_]
        repeat first | refine zaa rfl (zay rfl) ?_ | (refine zac ?_; refine zaa rfl (zbd rfl rfl rfl) ?_) | (refine zdb ?_; first | refine zdc ?_ | refine zdd ?_)
        rw [h1]
        repeat first | refine zai rfl rfl ?_ | refine zaa rfl (zay rfl) ?_ | (refine zac ?_; refine zaa rfl (zbd rfl rfl rfl) ?_) | refine zaa rfl (zcb rfl rfl) ?_ | refine zaa rfl (zcc rfl) ?_
        rw [h2]
        repeat first | refine zaj rfl rfl rfl rfl ?_ | refine zaa rfl (zay rfl) ?_ | refine zaa rfl (zaz rfl) ?_ | (refine zac ?_; refine zaa rfl (zba rfl rfl rfl) ?_) | (refine zad ?_; first | (refine zaa rfl (zci rfl rfl (hl1) ?_) ?_; (focus ((repeat (first | exact Takes.nil | refine Takes.sl ?_ | refine Takes.lit ?_ | refine Takes.fa ?_ | refine Takes.fc ?_ | refine Takes.net ?_ | (refine Takes.ownE ?_ ?_ ?_ ?_ ?_; (focus (exact ⟨_, _, (by (repeat (first | exact mh | refine mt ?_)); done)⟩)); (focus (simp; done)); (focus omega); (focus (simp only [maxLen]; omega))) | refine Takes.same ?_)); done))) | (refine zaa rfl (zci rfl rfl (hl2) ?_) ?_; (focus ((repeat (first | exact Takes.nil | refine Takes.sl ?_ | refine Takes.lit ?_ | refine Takes.fa ?_ | refine Takes.fc ?_ | refine Takes.net ?_ | (refine Takes.ownE ?_ ?_ ?_ ?_ ?_; (focus (exact ⟨_, _, (by (repeat (first | exact mh | refine mt ?_)); done)⟩)); (focus (simp; done)); (focus omega); (focus (simp only [maxLen]; omega))) | refine Takes.same ?_)); done)))) | refine zaa rfl (zca rfl rfl) ?_ | refine zah ?_ | (refine zcr ?_; refine zcs ?_) | (refine zdb ?_; first | refine zdc ?_ | refine zdd ?_ | refine zdi rfl ?_)
        exact done_join () trivial (by (repeat (first | exact Env.sub_nil _ | refine Env.sub_cons rfl ?_))) (fun _ h => h)
      | true =>
        cases h3 : cmpB .gtr (fcmp .f32 (fitY0 s e i P tt) (fv .f32 0)) with
        | false =>
          obtain ⟨bx, by_⟩ := (bad true (by unfold fitBad; rw [h1, h2, h3]; rfl)).1 rfl
          rw [bx, by_]
          repeat first | refine zaa rfl (zay rfl) ?_ | (refine zac ?_; refine zaa rfl (zbd rfl rfl rfl) ?_) | (refine zdb ?_; first | refine zdc ?_ | refine zdd ?_)
          rw [h1]
          repeat first | refine zai rfl rfl ?_ | refine zaa rfl (zay rfl) ?_ | (refine zac ?_; refine zaa rfl (zbd rfl rfl rfl) ?_) | refine zaa rfl (zcb rfl rfl) ?_ | refine zaa rfl (zcc rfl) ?_
          rw [h2]
          repeat first | refine zai rfl rfl ?_ | refine zaa rfl (zay rfl) ?_ | (refine zac ?_; refine zaa rfl (zbd rfl rfl rfl) ?_) | refine zaa rfl (zcb rfl rfl) ?_ | refine zaa rfl (zcc rfl) ?_ | refine zah ?_ | (refine zcr ?_; refine zcs ?_)
          rw [h3]
          repeat first | refine zaa rfl (zay rfl) ?_ | refine zaa rfl (zaz rfl) ?_ | (refine zac ?_; refine zaa rfl (zba rfl rfl rfl) ?_) | (refine zad ?_; first | (refine zaa rfl (zci rfl rfl (hl1) ?_) ?_; (focus ((repeat (first | exact Takes.nil | refine Takes.sl ?_ | refine Takes.lit ?_ | refine Takes.fa ?_ | refine Takes.fc ?_ | refine Takes.net ?_ | (refine Takes.ownE ?_ ?_ ?_ ?_ ?_; (focus (exact ⟨_, _, (by (repeat (first | exact mh | refine mt ?_)); done)⟩)); (focus (simp; done)); (focus omega); (focus (simp only [maxLen]; omega))) | refine Takes.same ?_)); done))) | (refine zaa rfl (zci rfl rfl (hl2) ?_) ?_; (focus ((repeat (first | exact Takes.nil | refine Takes.sl ?_ | refine Takes.lit ?_ | refine Takes.fa ?_ | refine Takes.fc ?_ | refine Takes.net ?_ | (refine Takes.ownE ?_ ?_ ?_ ?_ ?_; (focus (exact ⟨_, _, (by (repeat (first | exact mh | refine mt ?_)); done)⟩)); (focus (simp; done)); (focus omega); (focus (simp only [maxLen]; omega))) | refine Takes.same ?_)); done)))) | refine zah ?_ | (refine zcr ?_; refine zcs ?_) | (refine zdb ?_; first | refine zdc ?_ | refine zdd ?_ | refine zdi rfl ?_)
          exact done_join () trivial (by (repeat (first | exact Env.sub_nil _ | refine Env.sub_cons rfl ?_))) (fun _ h => h)
        | true =>
          obtain ⟨bx, by_⟩ := (bad false (by unfold fitBad; rw [h1, h2, h3]; rfl)).2 rfl
          rw [bx, by_]
          repeat first | refine zaa rfl (zay rfl) ?_ | (refine zac ?_; refine zaa rfl (zbd rfl rfl rfl) ?_) | (refine zdb ?_; first | refine zdc ?_ | refine zdd ?_)
          rw [h1]
          repeat first | refine zai rfl rfl ?_ | refine zaa rfl (zay rfl) ?_ | (refine zac ?_; refine zaa rfl (zbd rfl rfl rfl) ?_) | refine zaa rfl (zcb rfl rfl) ?_ | refine zaa rfl (zcc rfl) ?_
          rw [h2]
          repeat first | refine zai rfl rfl ?_ | refine zaa rfl (zay rfl) ?_ | (refine zac ?_; refine zaa rfl (zbd rfl rfl rfl) ?_) | refine zaa rfl (zcb rfl rfl) ?_ | refine zaa rfl (zcc rfl) ?_ | refine zah ?_ | (refine zcr ?_; refine zcs ?_)
          rw [h3]
          repeat ((refine zdb ?_; first | refine zdf ?_ | refine zdj rfl ?_))
          exact done_join () trivial (by (repeat (first | exact Env.sub_nil _ | refine Env.sub_cons rfl ?_))) (fun _ h => h)
  clear eM eX eY
  have hQ := h.q
  have hM := h.m
  have hF := h.f
  have hs1 := scaleComplex_fn s (fitX s e i P tt)
  have hs2 := plus_fn (P 0) (scaleC s (fitX s e i P tt))
  have hs3 := scaleComplex_fn e (fitY s e i P tt)
  have hs4 := plus_fn (P (i - 1)) (scaleC e (fitY s e i P tt))
  have q0 : fitQ s e i P tt 0 = P 0 := rfl
  have q1 : fitQ s e i P tt 1 = addC2 (P 0) (scaleC s (fitX s e i P tt)) := rfl
  have q2 : fitQ s e i P tt 2 = addC2 (P (i - 1)) (scaleC e (fitY s e i P tt)) := rfl
  have q3 : fitQ s e i P tt 3 = P (i - 1) := rfl
  have hC := cubic_fn (fitQ s e i P tt) hQ
  rw [q0, q1, q2, q3] at hC
  generalize fitQ s e i P tt = QQ at *
  generalize fitX s e i P tt = xx at *
  generalize fitY s e i P tt = yy at *
  repeat first | refine zaa rfl (zay rfl) ?_ | (refine zad ?_; first | (refine zaa rfl (zci rfl rfl (hs1) ?_) ?_; (focus ((repeat (first | exact Takes.nil | refine Takes.sl ?_ | refine Takes.lit ?_ | refine Takes.fa ?_ | refine Takes.fc ?_ | refine Takes.net ?_ | (refine Takes.ownE ?_ ?_ ?_ ?_ ?_; (focus (exact ⟨_, _, (by (repeat (first | exact mh | refine mt ?_)); done)⟩)); (focus (simp; done)); (focus omega); (focus (simp only [maxLen]; omega))) | refine Takes.same ?_)); done))) | (refine zaa rfl (zci rfl rfl (hs2) ?_) ?_; (focus ((repeat (first | exact Takes.nil | refine Takes.sl ?_ | refine Takes.lit ?_ | refine Takes.fa ?_ | refine Takes.fc ?_ | refine Takes.net ?_ | (refine Takes.ownE ?_ ?_ ?_ ?_ ?_; (focus (exact ⟨_, _, (by (repeat (first | exact mh | refine mt ?_)); done)⟩)); (focus (simp; done)); (focus omega); (focus (simp only [maxLen]; omega))) | refine Takes.same ?_)); done))) | (refine zaa rfl (zci rfl rfl (hs3) ?_) ?_; (focus ((repeat (first | exact Takes.nil | refine Takes.sl ?_ | refine Takes.lit ?_ | refine Takes.fa ?_ | refine Takes.fc ?_ | refine Takes.net ?_ | (refine Takes.ownE ?_ ?_ ?_ ?_ ?_; (focus (exact ⟨_, _, (by (repeat (first | exact mh | refine mt ?_)); done)⟩)); (focus (simp; done)); (focus omega); (focus (simp only [maxLen]; omega))) | refine Takes.same ?_)); done))) | (refine zaa rfl (zci rfl rfl (hs4) ?_) ?_; (focus ((repeat (first | exact Takes.nil | refine Takes.sl ?_ | refine Takes.lit ?_ | refine Takes.fa ?_ | refine Takes.fc ?_ | refine Takes.net ?_ | (refine Takes.ownE ?_ ?_ ?_ ?_ ?_; (focus (exact ⟨_, _, (by (repeat (first | exact mh | refine mt ?_)); done)⟩)); (focus (simp; done)); (focus omega); (focus (simp only [maxLen]; omega))) | refine Takes.same ?_)); done)))) | (refine zdb ?_; first | refine zdc ?_ | refine zdd ?_)
  refine rs_call2 hC rfl rfl (Takes.same (Takes.same (Takes.same (Takes.same Takes.nil)))) rfl ?_
  rintro ⟨a, b⟩ -
  repeat first | refine zaa rfl (zay rfl) ?_ | refine zaa rfl (zaz rfl) ?_ | (refine zad ?_; refine zaa rfl (opj_lenC rfl) ?_) | refine zaa rfl (zbz rfl rfl) ?_ | refine zaa rfl (zcc rfl) ?_ | refine zah ?_ | (refine zcr ?_; refine zcs ?_) | (refine zdb ?_; first | refine zdc ?_ | refine zdd ?_ | refine zde ?_ | refine zdf ?_ | refine zdj rfl ?_) | (refine zal rfl rfl ?_; intro g) | (refine zag ?_; refine zan 0 rfl rfl rfl rfl rfl rfl rfl rfl rfl ?_) | (refine rs_lit0 rfl ?_; intro gm)
  obtain ⟨g31, hg31⟩ : ∃ x, x = g := ⟨g, rfl⟩
  subst hg31
  have z1 : ∀ (g : Nat) (f : Int → FV), (⟨g, 27, [], 0⟩ : Ent) = entF g 27 0 f 0 := fun g f => by unfold entF tab; rfl
  rw [z1 gm (missF QQ P tt)]
  clear hs1 hs2 hs3 hs4 hC q0 q1 q2 q3 hs he
  refine ws_loop (ι := Nat × Nat × Nat) (fun y => [(0, slC w0 (tabC i P)), (6, .raw (.pointer (some ⟨g6, 0, none⟩))), (13, .raw (.slice (some ⟨gt, 0, none⟩) i ct)), (31, .raw (.pointer (some ⟨g31, 0, none⟩))), (33, .raw (.slice (some ⟨y.2.1, 0, none⟩) y.1 y.2.2)), (204, slC w0 (tabC i P)), (205, .raw (.int .i64 i)), (206, .raw (.int .i64 y.1))])
    (fun y => St w0 [] [entF y.2.1 27 y.1 (missF QQ P tt) y.2.2, ⟨g31, 35, [.raw (.slice (some ⟨a, 0, none⟩) 4 4), .raw (.slice (some ⟨b, 0, none⟩) 4 4)], 2⟩, entF b 27 4 (fun _ => one1) 4, entC a 4 QQ 4, entF gt 27 i tt ct, ⟨g6, 35, [.raw (.slice none 0 0), .raw (.slice none 0 0)], 2⟩])
    (fun y => y.1 ≤ i ∧ y.1 ≤ y.2.2 ∧ y.2.2 ≤ maxLen) (fun y => i - y.1) (0, gm, 0) ⟨Nat.zero_le _, Nat.le_refl _, Nat.zero_le _⟩ ?_ (fun _ h => h) (fun y hy => ?_)
  · (repeat (first | exact Env.sub_nil _ | refine Env.sub_cons rfl ?_))
  obtain ⟨k, gm, cm⟩ := y
  simp only at hy ⊢
  obtain ⟨hk, hc1, hc2⟩ := hy
  repeat first | (refine zac ?_; refine zaa rfl (zbe rfl rfl) ?_) | refine zah ?_ | (refine zcr ?_; refine zcs ?_) | (refine zdb ?_; first | refine zdc ?_ | refine zdd ?_)
  refine ws_cond rfl (fun hd => ?_) (fun hd => ?_)
  case' refine_1 =>
    have hlt : (k : Int) < i := of_decide_eq_true hd
    clear hd
    have hnext : ((k + 1 : Nat) : Int) = (k : Int) + 1 := by omega
    have hS := fourShares_fn (tt k)
    repeat first | refine zaa rfl (zay rfl) ?_ | refine zaa rfl (zaz rfl) ?_ | (refine zad ?_; (refine zaa rfl (zci rfl rfl (hS) ?_) ?_; (focus ((repeat (first | exact Takes.nil | refine Takes.sl ?_ | refine Takes.lit ?_ | refine Takes.fa ?_ | refine Takes.fc ?_ | refine Takes.net ?_ | (refine Takes.ownE ?_ ?_ ?_ ?_ ?_; (focus (exact ⟨_, _, (by (repeat (first | exact mh | refine mt ?_)); done)⟩)); (focus (simp; done)); (focus omega); (focus (simp only [maxLen]; omega))) | refine Takes.same ?_)); done)))) | (refine zae ?_; first | refine zaa rfl (zbt rfl rfl (by (repeat (first | exact mh | refine mt ?_)); done) (by omega)) ?_ | refine zaa rfl (zbu rfl rfl) ?_) | (refine zaf ?_; first | refine zaa rfl (opj_indexC rfl rfl (by omega) (by omega)) ?_ | refine zaa rfl (zbw rfl rfl (by omega) (by omega)) ?_) | refine zah ?_ | (refine zcr ?_; refine zcs ?_) | (refine zdb ?_; first | refine zdc ?_ | refine zdd ?_ | refine zde ?_ | refine zdf ?_)
    refine ws_loop (ι := Nat) (fun j => [(0, slC w0 (tabC i P)), (6, .raw (.pointer (some ⟨g6, 0, none⟩))), (13, .raw (.slice (some ⟨gt, 0, none⟩) i ct)), (31, .raw (.pointer (some ⟨g31, 0, none⟩))), (33, .raw (.slice (some ⟨gm, 0, none⟩) k cm)), (35, cA (P k)), (36, cA (sumZ QQ (tt k) j)), (204, slC w0 (tabC i P)), (205, .raw (.int .i64 i)), (206, .raw (.int .i64 k)), (215, arrA (shr (tt k) 0) (shr (tt k) 1) (shr (tt k) 2) (shr (tt k) 3)), (216, .raw (.int .i64 j))])
      (fun _ => St w0 [] [entF gm 27 k (missF QQ P tt) cm, ⟨g31, 35, [.raw (.slice (some ⟨a, 0, none⟩) 4 4), .raw (.slice (some ⟨b, 0, none⟩) 4 4)], 2⟩, entF b 27 4 (fun _ => one1) 4, entC a 4 QQ 4, entF gt 27 i tt ct, ⟨g6, 35, [.raw (.slice none 0 0), .raw (.slice none 0 0)], 2⟩])
      (fun j => j ≤ 4) (fun j => 4 - j) 0 (Nat.zero_le _) ?_ (fun _ h => h) (fun j hj => ?_)
    · (repeat (first | exact Env.sub_nil _ | refine Env.sub_cons rfl ?_))
    repeat first | (refine zac ?_; refine zaa rfl (zbe rfl rfl) ?_) | refine zah ?_ | (refine zcr ?_; refine zcs ?_) | (refine zdb ?_; first | refine zdc ?_ | refine zdd ?_)
    refine ws_cond rfl (fun hd => ?_) (fun hd => ?_)
    · have hlj : (j : Int) < 4 := of_decide_eq_true hd
      clear hd
      have hnj : ((j + 1 : Nat) : Int) = (j : Int) + 1 := by omega
      have ej : sel4 (shr (tt k) 0) (shr (tt k) 1) (shr (tt k) 2) (shr (tt k) 3) j = shr (tt k) j := sel4_shr _ (by omega)
      have hz1 := scaleComplex_fn (QQ j) (shr (tt k) j)
      have hz2 := plus_fn (sumZ QQ (tt k) j) (scaleC (QQ j) (shr (tt k) j))
      repeat first | refine zaa rfl (zay rfl) ?_ | refine zaa rfl (zaz rfl) ?_ | (refine zae ?_; first | refine zaa rfl (opj_loadC rfl rfl (by (repeat (first | exact mh | refine mt ?_)); done) (by omega)) ?_ | refine zaa rfl (zcf rfl rfl (by (repeat (first | exact mh | refine mt ?_)); done) rfl) ?_) | (refine zaf ?_; refine zaa rfl (zbw rfl rfl (by omega) (by omega)) ?_) | refine zaa rfl (zcd rfl) ?_ | refine zah ?_ | (refine zcr ?_; refine zcs ?_) | (refine zdb ?_; first | refine zdc ?_ | refine zdd ?_ | refine zde ?_ | refine zdf ?_) | refine zaa rfl (opj_index4 rfl rfl rfl (by omega)) ?_
      rw [ej]
      repeat first | refine zaa rfl (zay rfl) ?_ | refine zaa rfl (zaz rfl) ?_ | (refine zac ?_; refine zaa rfl (zbb rfl rfl (by omega)) ?_) | (refine zad ?_; first | (refine zaa rfl (zci rfl rfl (hz1) ?_) ?_; (focus ((repeat (first | exact Takes.nil | refine Takes.sl ?_ | refine Takes.lit ?_ | refine Takes.fa ?_ | refine Takes.fc ?_ | refine Takes.net ?_ | (refine Takes.ownE ?_ ?_ ?_ ?_ ?_; (focus (exact ⟨_, _, (by (repeat (first | exact mh | refine mt ?_)); done)⟩)); (focus (simp; done)); (focus omega); (focus (simp only [maxLen]; omega))) | refine Takes.same ?_)); done))) | (refine zaa rfl (zci rfl rfl (hz2) ?_) ?_; (focus ((repeat (first | exact Takes.nil | refine Takes.sl ?_ | refine Takes.lit ?_ | refine Takes.fa ?_ | refine Takes.fc ?_ | refine Takes.net ?_ | (refine Takes.ownE ?_ ?_ ?_ ?_ ?_; (focus (exact ⟨_, _, (by (repeat (first | exact mh | refine mt ?_)); done)⟩)); (focus (simp; done)); (focus omega); (focus (simp only [maxLen]; omega))) | refine Takes.same ?_)); done)))) | refine zah ?_ | (refine zcr ?_; first | refine zcs ?_ | refine zcv ?_) | (refine zdb ?_; refine zdd ?_)
      refine done_round (j + 1) (by omega) (by omega) ?_ (fun _ h => h)
      rw [hnj]
      (repeat (first | exact Env.sub_nil _ | refine Env.sub_cons rfl ?_))
    · have hj4 : j = 4 := by have := of_decide_eq_false hd; omega
      subst hj4
      clear hd hj
      have hz1 := minus_fn (P k) (sumZ QQ (tt k) 4)
      have hz2 := longOf_fn _ (hM k (by omega))
      repeat first | refine zaa rfl (zay rfl) ?_ | (refine zad ?_; first | (refine zaa rfl (zci rfl rfl (hz1) ?_) ?_; (focus ((repeat (first | exact Takes.nil | refine Takes.sl ?_ | refine Takes.lit ?_ | refine Takes.fa ?_ | refine Takes.fc ?_ | refine Takes.net ?_ | (refine Takes.ownE ?_ ?_ ?_ ?_ ?_; (focus (exact ⟨_, _, (by (repeat (first | exact mh | refine mt ?_)); done)⟩)); (focus (simp; done)); (focus omega); (focus (simp only [maxLen]; omega))) | refine Takes.same ?_)); done))) | (refine zaa rfl (zci rfl rfl (hz2) ?_) ?_; (focus ((repeat (first | exact Takes.nil | refine Takes.sl ?_ | refine Takes.lit ?_ | refine Takes.fa ?_ | refine Takes.fc ?_ | refine Takes.net ?_ | (refine Takes.ownE ?_ ?_ ?_ ?_ ?_; (focus (exact ⟨_, _, (by (repeat (first | exact mh | refine mt ?_)); done)⟩)); (focus (simp; done)); (focus omega); (focus (simp only [maxLen]; omega))) | refine Takes.same ?_)); done)))) | (refine zcr ?_; first | refine zcs ?_ | refine zcu ?_ | refine zcx ?_ | refine zda ?_) | (refine zdb ?_; first | refine zdd ?_ | refine zdh ?_) | refine zaa rfl (zco rfl rfl rfl rfl rfl rfl) ?_
      refine rs_appendT 0 (missF QQ P tt) rfl rfl rfl rfl ⟨hc1, hc2⟩ (by omega) rfl rfl rfl (fun _ _ _ => rfl) fun g3 c3 h3 h3' => ?_
      repeat first | refine zaa rfl (zay rfl) ?_ | refine zaa rfl (zaz rfl) ?_ | (refine zac ?_; refine zaa rfl (zbb rfl rfl (by omega)) ?_) | refine zah ?_ | (refine zcr ?_; first | refine zcs ?_ | refine zcv ?_) | (refine zdb ?_; refine zdd ?_)
      refine done_round (k + 1, g3, c3) ⟨by simp only; omega, h3, h3'⟩ (by simp only; omega) ?_ (fun _ h => h)
      simp only
      rw [hnext]
      (repeat (first | exact Env.sub_nil _ | refine Env.sub_cons rfl ?_))
  have hki : k = i := by have := of_decide_eq_false hd; omega
  subst hki
  clear hd hk
  simp only [maxLen] at hc2
  have hA := areFinite_fn (tab k (missF QQ P tt)) (by simp; omega)
  rw [hF] at hA
  repeat first | refine zaa rfl (zay rfl) ?_ | (refine zad ?_; (refine zaa rfl (zci rfl rfl (hA) ?_) ?_; (focus ((repeat (first | exact Takes.nil | refine Takes.sl ?_ | refine Takes.lit ?_ | refine Takes.fa ?_ | refine Takes.fc ?_ | refine Takes.net ?_ | (refine Takes.ownE ?_ ?_ ?_ ?_ ?_; (focus (exact ⟨_, _, (by (repeat (first | exact mh | refine mt ?_)); done)⟩)); (focus (simp; done)); (focus omega); (focus (simp only [maxLen]; omega))) | refine Takes.same ?_)); done)))) | (refine zae ?_; refine zaa rfl (zcg rfl rfl (by (repeat (first | exact mh | refine mt ?_)); done) rfl rfl) ?_) | refine zaa rfl (zcc rfl) ?_ | refine zah ?_ | (refine zcr ?_; first | refine zcs ?_ | refine zcu ?_ | refine zcx ?_ | refine zda ?_) | (refine zdb ?_; first | refine zdc ?_ | refine zdd ?_ | refine zdf ?_ | refine zdh ?_ | refine zdj rfl ?_)
  refine zan 5 rfl rfl rfl rfl rfl rfl rfl rfl rfl ?_
  repeat first | refine zaa rfl (zaz rfl) ?_ | refine zah ?_ | (refine zcr ?_; refine zcs ?_) | (refine zdb ?_; refine zdg ?_)
  exact done_retCX2 rfl rfl ((a, b), gm, cm) rfl rfl rfl (mt (mt (mt (mt (mt mh))))) rfl rfl rfl ⟨hc1, hc2⟩ (.cons_cons _ (.cons _ (.cons_cons _ (.cons_cons _ (List.nil_sublist _)))))
end Go.Ab
