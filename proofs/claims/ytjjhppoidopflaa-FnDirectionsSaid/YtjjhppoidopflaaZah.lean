/- Part 8 of the texts on which the law leans, joined: Curves that are made: copies, plain ones, curves of slopes, moved ones; walked. No conditions. -/
import Derived.Lib.SliceRun
import Derived.Test.YtjjhppoidopflaaZag
namespace Go.Ab
open Go.Proofs
variable {R : World → Prop} [RStab R]
section
variable {args : List AV} {A' : World → List AV} {w0 : World} {gs : List Nat} {H : List Ent}
theorem Takes.crvOc {R0 : World → Prop} {n a b ca cb : Nat} {P : Nat → CV} {f : Int → FV} {T : TypeId} (ha : entC a n P ca ∈ H) (hb : entF b T n f cb ∈ H) (h1 : n ≤ ca ∧ ca ≤ maxLen) (h2 : n ≤ cb ∧ cb ≤ maxLen) (h : Takes (StR R0 w0 gs H) args A') : Takes (StR R0 w0 gs H) (Go.Ab.crvOc a b n ca cb :: args) (fun w => crvA w n P f :: A' w) := fun w vs hS hr => by
  obtain ⟨v, r, rfl, hv, hrr⟩ := hr.inv_cons
  obtain ⟨us, rfl, hu⟩ := hv.inv_agg
  obtain ⟨x, r1, rfl, hx, hu⟩ := hu.inv_cons
  obtain ⟨y, r2, rfl, hy, hu⟩ := hu.inv_cons
  obtain rfl := hu.inv_nil
  exact .cons (.agg (.cons (.q (rd_ownC hS hx ha (Nat.le_refl _) h1)) (.cons (.q (rd_own hS hy hb (Nat.le_refl _) h2)) .nil))) (h w r hS hrr)
end
class CrvF1 (P : Program) (t : TypeId) : Prop where
  f1 : ∀ (w : World) (a b : Option Addr) (n c n' c' : Nat), (Instr.field t (.agg #[.slice a n c, .slice b n' c']) 1).run P w = .ok (.slice b n' c') w
instance crvF1i : CrvF1 Try.prog 27 := ⟨fun w a b n c n' c' => by kernel_rfl⟩
section
variable {P : Program} {S : World → Prop} {e : Env} {dst : Option Tmp} {ty : TypeId} {pos : String} {after : Array Edge} {guard : Option (Nat × Bool)} {t : TypeId}
theorem opj_fieldC [hf : CrvF1 P t] {X : Operand} {a b : Option Addr} {n c n' c' : Nat} (hx : e.ev X = some (.agg [.raw (.slice a n c), .raw (.slice b n' c')])) : OpJ P S e ⟨dst, .field t X 1, ty, pos, after, guard⟩ (.raw (.slice b n' c')) :=
  opj_value fun ac w _ h => by
    obtain ⟨vs, h1, hr⟩ := (h X (by simp [Op.operands]) _ hx).inv_agg
    obtain ⟨u1, r1, rfl, hu1, hr⟩ := hr.inv_cons
    obtain ⟨u2, r2, rfl, hu2, hr⟩ := hr.inv_cons
    obtain rfl := hr.inv_nil
    obtain rfl := hu1.inv_raw
    obtain rfl := hu2.inv_raw
    exact ⟨.slice b n' c', w, by simp [execOp, h1, hf.f1], Ext.refl _, .raw⟩
end
/-- The weights' rows alone. -/
def rowsW (f : Int → FV) (t : FV) : Nat → Int → FV
  | 0 => f
  | k + 1 => rowW (rowsW f t k) t
theorem rowsP_w (P : Nat → CV) (f : Int → FV) (t : FV) : ∀ k, (rowsP P f t k).2 = rowsW f t k
  | 0 => rfl
  | k + 1 => by
    show rowW (rowsP P f t k).2 t = rowW (rowsW f t k) t
    rw [rowsP_w P f t k]
/-- By what a slope's difference is scaled. -/
def slopeBy (n : Nat) (f : Int → FV) (t : FV) : FV :=
  fbin .quo .f32 (fbin .mul .f32 (fbin .mul .f32 (some (FloatKind.f32.nearest ((n : Int) - 1))) (rowsW f t (n - 2) 0)) (rowsW f t (n - 2) 1)) (fbin .mul .f32 (rowsW f t (n - 1) 0) (rowsW f t (n - 1) 0))
def slopeP (n : Nat) (P : Nat → CV) (f : Int → FV) (t : FV) : CV := scaleC (subC2 ((rowsP P f t (n - 2)).1 1) ((rowsP P f t (n - 2)).1 0)) (slopeBy n f t)
def pointP (n : Nat) (P : Nat → CV) (f : Int → FV) (t : FV) : CV := (rowsP P f t (n - 1)).1 0
attribute [local irreducible] WS RS Done OpJ Then InBlock Round Ret Env.sub FnH
attribute [local irreducible] tab tabC
/-- Where a search for a point stands. -/
def atWu (T Tc : TypeId) (w0 : World) (g2 n : Nat) (P : Nat → CV) (f : Int → FV) (t : FV) (y : Nat × (Nat × Nat) × Nat × Nat) : World → Prop := match y.1 with
  | 0 => St w0 [] [⟨g2, Tc, [slC w0 (tabC n P), AV.sl w0 1 ((tab n f).map (AV.f .f32))], 2⟩]
  | j + 1 => St w0 [] [⟨g2, Tc, [.raw (.slice (some ⟨y.2.1.1, 0, none⟩) (n - (j + 1)) y.2.2.1), .raw (.slice (some ⟨y.2.1.2, 0, none⟩) (n - (j + 1)) y.2.2.2)], 2⟩, entC y.2.1.1 (n - (j + 1)) (rowsP P f t (j + 1)).1 y.2.2.1, entF y.2.1.2 T (n - (j + 1)) (rowsP P f t (j + 1)).2 y.2.2.2]
theorem next_at {n : Nat} {P : Nat → CV} {f : Int → FV} {t : FV} (hn : n ≤ 1000) (j : Nat) (hj : j + 2 ≤ n) : FnH (X := (Nat × Nat) × Nat × Nat) Try.prog 78 (fun w => [crvA w (n - j) (rowsP P f t j).1 (rowsP P f t j).2, .f .f32 t]) []
      (fun y => crvOc y.1.1 y.1.2 (n - (j + 1)) y.2.1 y.2.2) (fun y => [entC y.1.1 (n - (j + 1)) (rowsP P f t (j + 1)).1 y.2.1, entF y.1.2 30 (n - (j + 1)) (rowsP P f t (j + 1)).2 y.2.2]) (fun y => (n - (j + 1) ≤ y.2.1 ∧ y.2.1 ≤ maxLen) ∧ n - (j + 1) ≤ y.2.2 ∧ y.2.2 ≤ maxLen) := by
  have := next_fn' (n := n - j) (P := (rowsP P f t j).1) (f := (rowsP P f t j).2) (t := t) (by omega)
  rw [show n - j - 1 = n - (j + 1) by omega] at this
  exact this
theorem at_fn {n : Nat} {P : Nat → CV} {f : Int → FV} {t : FV} (hn : 2 ≤ n ∧ n ≤ 1000) :
    Fn Try.prog 59 (fun w => [crvA w n P f, .f .f32 t]) (cA (pointP n P f t)) := by
  have hR := next_at (P := P) (f := f) (t := t) hn.2
  have hDg : ∀ j, j ≤ n → Fn Try.prog 39 (fun w => [crvA w (n - j) (rowsP P f t j).1 (rowsP P f t j).2]) (.raw (.int .i64 (((n - j : Nat) : Int) - 1))) := fun j _ => degree_fn (n - j) _ _ (by omega)
  unfold pointP
  refine fn_intro Try.func59 rfl Try.ntmps59 (fun _ => Nat.le_of_ble_eq_true rfl) fun w0 => ?_
  repeat first | refine zaa rfl (zaz rfl) ?_ | refine zah ?_ | (refine zcr ?_; refine zcs ?_) | (refine zdb ?_; first | refine zdc ?_ | refine zdd ?_ | refine zde ?_) | (refine zak rfl rfl rfl ?_; intro g)
  obtain ⟨g2, hg2⟩ : ∃ x, x = g := ⟨g, rfl⟩
  subst hg2
  refine ws_loop (ι := Nat × (Nat × Nat) × Nat × Nat) (fun y => [(1, .f .f32 t), (2, .raw (.pointer (some ⟨g2, 0, none⟩)))])
    (atWu 30 27 w0 g2 n P f t) (fun y => y.1 + 1 ≤ n ∧ (n - y.1 ≤ y.2.2.1 ∧ y.2.2.1 ≤ maxLen) ∧ n - y.1 ≤ y.2.2.2 ∧ y.2.2.2 ≤ maxLen) (fun y => n - y.1) (0, (0, 0), n, n) ⟨by simp only; omega, by simp only [maxLen]; omega, by simp only [maxLen]; omega⟩ ?_ (fun _ h => h) (fun y hy => ?_)
  · (repeat (first | exact Env.sub_nil _ | refine Env.sub_cons rfl ?_))
  obtain ⟨j, ⟨a, b⟩, ca, cb⟩ := y
  simp only at hy ⊢
  obtain ⟨hj, hc1, hc2⟩ := hy
  have hD := hDg j (by omega)
  cases j with
  | zero =>
    have hR0 := hR 0 (by omega)
    unfold atWu
    dsimp only
    repeat first | (refine zac ?_; refine zaa rfl (zbg rfl rfl) ?_) | (refine zae ?_; refine zaa rfl (zcg rfl rfl (by (repeat (first | exact mh | refine mt ?_)); done) rfl rfl) ?_) | refine zah ?_ | (refine zcr ?_; refine zcs ?_) | (refine zdb ?_; first | refine zdc ?_ | refine zdd ?_) | refine zaa rfl (zci rfl rfl hD (Takes.crv Takes.nil)) ?_
    refine ws_cond rfl (fun hd => ?_) (fun hd => ?_)
    case' refine_2 =>
      exfalso
      have := of_decide_eq_false hd
      omega
    clear hd
    repeat first | refine zaa rfl (zay rfl) ?_ | (refine zae ?_; refine zaa rfl (zcg rfl rfl (by (repeat (first | exact mh | refine mt ?_)); done) rfl rfl) ?_) | (refine zcr ?_; refine zcs ?_) | (refine zdb ?_; first | refine zdd ?_ | refine zde ?_ | refine zdf ?_)
    refine rs_callM3 hR0 rfl rfl (Takes.crv (Takes.same Takes.nil)) rfl ?_
    rintro ⟨⟨a', b'⟩, ca', cb'⟩ ⟨h1, h2⟩
    dsimp only at h1 h2 ⊢
    repeat first | refine zah ?_ | (refine zcr ?_; refine zcv ?_) | (refine zag ?_; refine zan 2 rfl rfl rfl rfl rfl rfl rfl rfl rfl ?_)
    refine done_round (0 + 1, (a', b'), ca', cb') ⟨by simp only; omega, h1, h2⟩ (by simp only; omega) ?_ (fun w h => ?_)
    · (repeat (first | exact Env.sub_nil _ | refine Env.sub_cons rfl ?_))
    · exact h.rot3
  | succ j =>
    unfold atWu
    dsimp only
    repeat first | (refine zac ?_; refine zaa rfl (zbg rfl rfl) ?_) | (refine zae ?_; refine zaa rfl (zcg rfl rfl (by (repeat (first | exact mh | refine mt ?_)); done) rfl rfl) ?_) | refine zah ?_ | (refine zcr ?_; refine zcs ?_) | (refine zdb ?_; first | refine zdc ?_ | refine zdd ?_) | refine zaa rfl (zci rfl rfl hD (Takes.crvOc (mt mh) (mt (mt mh)) hc1 hc2 Takes.nil)) ?_
    refine ws_cond rfl (fun hd => ?_) (fun hd => ?_)
    case' refine_2 =>
      have hjn : n - (j + 1) = 1 := by have := of_decide_eq_false hd; omega
      have hjn' : n - 1 = j + 1 := by omega
      rw [hjn, hjn']
      repeat first | refine zaa rfl (zaz rfl) ?_ | (refine zae ?_; first | refine zaa rfl (opj_loadC rfl rfl (by (repeat (first | exact mh | refine mt ?_)); done) (by omega)) ?_ | refine zaa rfl (zcf rfl rfl (by (repeat (first | exact mh | refine mt ?_)); done) rfl) ?_) | (refine zaf ?_; refine zaa rfl (zbw rfl rfl (by omega) (by omega)) ?_) | refine zaa rfl (zcd rfl) ?_ | refine zah ?_ | (refine zcr ?_; first | refine zcs ?_ | refine zcu ?_ | refine zcx ?_ | refine zda ?_) | (refine zdb ?_; first | refine zdc ?_ | refine zdd ?_ | refine zdg ?_ | refine zdh ?_)
      exact done_ret1 rfl () rfl trivial (List.nil_sublist _)
    have hlt : (0 : Int) < ((n - (j + 1) : Nat) : Int) - 1 := of_decide_eq_true hd
    clear hd
    have hR0 := hR (j + 1) (by omega)
    repeat first | refine zaa rfl (zay rfl) ?_ | (refine zae ?_; refine zaa rfl (zcg rfl rfl (by (repeat (first | exact mh | refine mt ?_)); done) rfl rfl) ?_) | (refine zcr ?_; refine zcs ?_) | (refine zdb ?_; first | refine zdd ?_ | refine zde ?_ | refine zdf ?_)
    refine rs_callM3 hR0 rfl rfl (Takes.crvOc (mt mh) (mt (mt mh)) hc1 hc2 (Takes.same Takes.nil)) rfl ?_
    rintro ⟨⟨a', b'⟩, ca', cb'⟩ ⟨h1, h2⟩
    dsimp only at h1 h2 ⊢
    repeat first | refine zah ?_ | (refine zcr ?_; refine zcv ?_) | (refine zag ?_; refine zan 2 rfl rfl rfl rfl rfl rfl rfl rfl rfl ?_)
    refine done_round (j + 1 + 1, (a', b'), ca', cb') ⟨by simp only; omega, h1, h2⟩ (by simp only; omega) ?_ (fun w h => ?_)
    · (repeat (first | exact Env.sub_nil _ | refine Env.sub_cons rfl ?_))
    · exact (h.rot3.weak (.cons_cons _ (.cons_cons _ (.cons_cons _ (List.nil_sublist _)))))
theorem curveAt_fn {n : Nat} {P : Nat → CV} {f : Int → FV} {t : FV} (hn : 2 ≤ n ∧ n ≤ 8) (hP : (tabC n P).all finC = true) (hf : (tab n f).all aboveB = true) (ht : Fn Try.prog 38 (fun _ => [.f .f32 t]) (.raw (.bool true)))
    (hq : finC (pointP n P f t) = true) : Fn Try.prog 27 (fun w => [crvA w n P f, .f .f32 t]) (.tup [cA (pointP n P f t), .raw (.bool true)]) := by
  have hV := validCurve_yes hn hP hf
  have hA := at_fn (n := n) (P := P) (f := f) (t := t) (by omega)
  have hI := ifPoint_fn _ true hq
  unfold ptT at hI
  refine fn_intro Try.func27 rfl Try.ntmps27 (fun _ => Nat.le_of_ble_eq_true rfl) fun w0 => ?_
  repeat first | refine zai rfl rfl ?_ | refine zaa rfl (zay rfl) ?_ | refine zaa rfl (zaz rfl) ?_ | (refine zad ?_; first | (refine zaa rfl (zci rfl rfl (ht) ?_) ?_; (focus ((repeat (first | exact Takes.nil | refine Takes.sl ?_ | refine Takes.lit ?_ | refine Takes.fa ?_ | refine Takes.fc ?_ | refine Takes.net ?_ | (refine Takes.ownE ?_ ?_ ?_ ?_ ?_; (focus (exact ⟨_, _, (by (repeat (first | exact mh | refine mt ?_)); done)⟩)); (focus (simp; done)); (focus omega); (focus (simp only [maxLen]; omega))) | refine Takes.same ?_)); done))) | (refine zaa rfl (zci rfl rfl (hI) ?_) ?_; (focus ((repeat (first | exact Takes.nil | refine Takes.sl ?_ | refine Takes.lit ?_ | refine Takes.fa ?_ | refine Takes.fc ?_ | refine Takes.net ?_ | (refine Takes.ownE ?_ ?_ ?_ ?_ ?_; (focus (exact ⟨_, _, (by (repeat (first | exact mh | refine mt ?_)); done)⟩)); (focus (simp; done)); (focus omega); (focus (simp only [maxLen]; omega))) | refine Takes.same ?_)); done)))) | (refine zae ?_; refine zaa rfl (zcg rfl rfl (by (repeat (first | exact mh | refine mt ?_)); done) rfl rfl) ?_) | refine zaa rfl (zbz rfl rfl) ?_ | refine zaa rfl (zcb rfl rfl) ?_ | refine zaa rfl (zcc rfl) ?_ | refine zah ?_ | (refine zcr ?_; refine zcs ?_) | (refine zdb ?_; first | refine zdc ?_ | refine zdd ?_ | refine zdf ?_ | refine zdg ?_ | refine zdj rfl ?_) | (refine zak rfl rfl rfl ?_; intro g) | refine zaa rfl (zci rfl rfl hV (Takes.crv Takes.nil)) ?_ | refine zaa rfl (zci rfl rfl hA (Takes.crv (Takes.same Takes.nil))) ?_
  exact done_ret2 rfl () rfl rfl rfl trivial (List.nil_sublist _)
theorem slope_fn {n : Nat} {P : Nat → CV} {f : Int → FV} {t : FV} (hn : 2 ≤ n ∧ n ≤ 1000) :
    Fn Try.prog 58 (fun w => [crvA w n P f, .f .f32 t]) (cA (slopeP n P f t)) := by
  have hR := next_at (P := P) (f := f) (t := t) hn.2
  have hDg : ∀ j, j ≤ n → Fn Try.prog 39 (fun w => [crvA w (n - j) (rowsP P f t j).1 (rowsP P f t j).2]) (.raw (.int .i64 (((n - j : Nat) : Int) - 1))) := fun j _ => degree_fn (n - j) _ _ (by omega)
  have hD0 := degree_fn n P f (by omega)
  have hm := minus_fn ((rowsP P f t (n - 2)).1 1) ((rowsP P f t (n - 2)).1 0)
  have hs := scaled_fn (subC2 ((rowsP P f t (n - 2)).1 1) ((rowsP P f t (n - 2)).1 0)) (slopeBy n f t)
  have hX := hR (n - 2) (by omega)
  rw [show n - (n - 2) = 2 by omega, show n - (n - 2 + 1) = 1 by omega, show n - 2 + 1 = n - 1 by omega] at hX
  have eby : slopeBy n f t = fbin .quo .f32 (fbin .mul .f32 (fbin .mul .f32 (some (FloatKind.f32.nearest ((n : Int) - 1))) ((rowsP P f t (n - 2)).2 0)) ((rowsP P f t (n - 2)).2 1)) (fbin .mul .f32 ((rowsP P f t (n - 1)).2 0) ((rowsP P f t (n - 1)).2 0)) := by
    rw [rowsP_w, rowsP_w]
    rfl
  rw [eby] at hs
  have e0 : (0 : Int).toNat = 0 := rfl
  have e1 : (1 : Int).toNat = 1 := rfl
  refine fn_intro Try.func58 rfl Try.ntmps58 (fun _ => Nat.le_of_ble_eq_true rfl) fun w0 => ?_
  repeat first | refine zaa rfl (zaz rfl) ?_ | (refine zae ?_; refine zaa rfl (zcg rfl rfl (by (repeat (first | exact mh | refine mt ?_)); done) rfl rfl) ?_) | refine zaa rfl (zby rfl) ?_ | refine zah ?_ | (refine zcr ?_; refine zcs ?_) | (refine zdb ?_; first | refine zdc ?_ | refine zdd ?_ | refine zde ?_) | (refine zak rfl rfl rfl ?_; intro g) | refine zaa rfl (zci rfl rfl hD0 (Takes.crv Takes.nil)) ?_
  obtain ⟨g2, hg2⟩ : ∃ x, x = g := ⟨g, rfl⟩
  subst hg2
  refine ws_loop (ι := Nat × (Nat × Nat) × Nat × Nat) (fun y => [(1, .f .f32 t), (2, .raw (.pointer (some ⟨g2, 0, none⟩))), (5, .f .f32 (some (FloatKind.f32.nearest ((n : Int) - 1))))])
    (atWu 30 27 w0 g2 n P f t) (fun y => y.1 + 2 ≤ n ∧ (n - y.1 ≤ y.2.2.1 ∧ y.2.2.1 ≤ maxLen) ∧ n - y.1 ≤ y.2.2.2 ∧ y.2.2.2 ≤ maxLen) (fun y => n - y.1) (0, (0, 0), n, n) ⟨by simp only; omega, by simp only [maxLen]; omega, by simp only [maxLen]; omega⟩ ?_ (fun _ h => h) (fun y hy => ?_)
  · (repeat (first | exact Env.sub_nil _ | refine Env.sub_cons rfl ?_))
  obtain ⟨j, ⟨a, b⟩, ca, cb⟩ := y
  simp only at hy ⊢
  obtain ⟨hj, hc1, hc2⟩ := hy
  have hD := hDg j (by omega)
  cases j with
  | zero =>
    have hR0 := hR 0 (by omega)
    unfold atWu
    dsimp only
    repeat first | (refine zac ?_; refine zaa rfl (zbg rfl rfl) ?_) | (refine zae ?_; refine zaa rfl (zcg rfl rfl (by (repeat (first | exact mh | refine mt ?_)); done) rfl rfl) ?_) | refine zah ?_ | (refine zcr ?_; refine zcs ?_) | (refine zdb ?_; first | refine zdc ?_ | refine zdd ?_) | refine zaa rfl (zci rfl rfl hD (Takes.crv Takes.nil)) ?_
    refine ws_cond rfl (fun hd => ?_) (fun hd => ?_)
    case' refine_1 =>
      have hlt : (1 : Int) < ((n - 0 : Nat) : Int) - 1 := of_decide_eq_true hd
      clear hd
      repeat first | refine zaa rfl (zay rfl) ?_ | (refine zae ?_; refine zaa rfl (zcg rfl rfl (by (repeat (first | exact mh | refine mt ?_)); done) rfl rfl) ?_) | (refine zcr ?_; refine zcs ?_) | (refine zdb ?_; first | refine zdd ?_ | refine zde ?_ | refine zdf ?_)
      refine rs_callM3 hR0 rfl rfl (Takes.crv (Takes.same Takes.nil)) rfl ?_
      rintro ⟨⟨a', b'⟩, ca', cb'⟩ ⟨h1, h2⟩
      dsimp only at h1 h2 ⊢
      repeat first | refine zah ?_ | (refine zcr ?_; refine zcv ?_) | (refine zag ?_; refine zan 2 rfl rfl rfl rfl rfl rfl rfl rfl rfl ?_)
      refine done_round (0 + 1, (a', b'), ca', cb') ⟨by simp only; omega, h1, h2⟩ (by simp only; omega) ?_ (fun w h => ?_)
      · (repeat (first | exact Env.sub_nil _ | refine Env.sub_cons rfl ?_))
      · exact h.rot3
    have hn2 : n = 2 := by have := of_decide_eq_false hd; omega
    subst hn2
    clear hd
    repeat first | (refine zcr ?_; first | refine zcs ?_ | refine zcu ?_ | refine zcx ?_ | refine zda ?_) | (refine zdb ?_; first | refine zdc ?_ | refine zdh ?_)
    refine ws_draw (n := 10) mixed (by decide +kernel) ?_
    repeat first | refine zap rfl (zaz rfl) ?_ | (refine zat ?_; first | refine zap rfl (zcf rfl rfl (by (repeat (first | exact mh | refine mt ?_)); done) rfl) ?_ | refine zap rfl (zbu rfl rfl) ?_) | (refine zau ?_; refine zap rfl (zbs rfl rfl (by omega) (by omega)) ?_) | refine zap rfl (zcd rfl) ?_ | refine zav ?_
    repeat first | refine zaa rfl (zay rfl) ?_ | (refine zae ?_; refine zaa rfl (zcg rfl rfl (by (repeat (first | exact mh | refine mt ?_)); done) rfl rfl) ?_) | refine zah ?_ | (refine zcr ?_; refine zcs ?_) | (refine zdb ?_; first | refine zdc ?_ | refine zdd ?_)
    refine rs_callM3 hX rfl rfl (Takes.crv (Takes.same Takes.nil)) rfl ?_
    rintro ⟨⟨a', b'⟩, ca', cb'⟩ ⟨h1, h2⟩
    dsimp only at h1 h2 ⊢
    repeat first | refine zaa rfl (zay rfl) ?_ | refine zaa rfl (zaz rfl) ?_ | (refine zac ?_; refine zaa rfl (zba rfl rfl rfl) ?_) | (refine zae ?_; refine zaa rfl (zbt rfl rfl (by (repeat (first | exact mh | refine mt ?_)); done) (by omega)) ?_) | (refine zaf ?_; refine zaa rfl (zbw rfl rfl (by omega) (by omega)) ?_) | refine zah ?_ | (refine zcr ?_; refine zcs ?_) | (refine zdb ?_; first | refine zdc ?_ | refine zdd ?_) | refine zaa rfl (opj_fieldC rfl) ?_
    refine ws_draw (n := 12) mixed (by decide +kernel) ?_
    repeat first | refine zap rfl (zay rfl) ?_ | refine zap rfl (zaz rfl) ?_ | (refine zas ?_; first | (refine zap rfl (zci rfl rfl (hm) ?_) ?_; (focus ((repeat (first | exact Takes.nil | refine Takes.sl ?_ | refine Takes.lit ?_ | refine Takes.fa ?_ | refine Takes.fc ?_ | refine Takes.net ?_ | (refine Takes.ownE ?_ ?_ ?_ ?_ ?_; (focus (exact ⟨_, _, (by (repeat (first | exact mh | refine mt ?_)); done)⟩)); (focus (simp; done)); (focus omega); (focus (simp only [maxLen]; omega))) | refine Takes.same ?_)); done))) | (refine zap rfl (zci rfl rfl (hs) ?_) ?_; (focus ((repeat (first | exact Takes.nil | refine Takes.sl ?_ | refine Takes.lit ?_ | refine Takes.fa ?_ | refine Takes.fc ?_ | refine Takes.net ?_ | (refine Takes.ownE ?_ ?_ ?_ ?_ ?_; (focus (exact ⟨_, _, (by (repeat (first | exact mh | refine mt ?_)); done)⟩)); (focus (simp; done)); (focus omega); (focus (simp only [maxLen]; omega))) | refine Takes.same ?_)); done)))) | (refine zat ?_; first | refine zap rfl (zcf rfl rfl (by (repeat (first | exact mh | refine mt ?_)); done) rfl) ?_ | refine zap rfl (zbu rfl rfl) ?_) | (refine zau ?_; refine zap rfl (opj_indexC rfl rfl (by omega) (by omega)) ?_) | refine zap rfl (zcd rfl) ?_ | refine zav ?_
    repeat first | refine zah ?_ | (refine zcr ?_; refine zcs ?_) | (refine zdb ?_; refine zdg ?_)
    exact done_ret1 rfl () rfl trivial (List.nil_sublist _)
  | succ j =>
    unfold atWu
    dsimp only
    repeat first | (refine zac ?_; refine zaa rfl (zbg rfl rfl) ?_) | (refine zae ?_; refine zaa rfl (zcg rfl rfl (by (repeat (first | exact mh | refine mt ?_)); done) rfl rfl) ?_) | refine zah ?_ | (refine zcr ?_; refine zcs ?_) | (refine zdb ?_; first | refine zdc ?_ | refine zdd ?_) | refine zaa rfl (zci rfl rfl hD (Takes.crvOc (mt mh) (mt (mt mh)) hc1 hc2 Takes.nil)) ?_
    refine ws_cond rfl (fun hd => ?_) (fun hd => ?_)
    case' refine_1 =>
      have hlt : (1 : Int) < ((n - (j + 1) : Nat) : Int) - 1 := of_decide_eq_true hd
      clear hd
      have hR0 := hR (j + 1) (by omega)
      repeat first | refine zaa rfl (zay rfl) ?_ | (refine zae ?_; refine zaa rfl (zcg rfl rfl (by (repeat (first | exact mh | refine mt ?_)); done) rfl rfl) ?_) | (refine zcr ?_; refine zcs ?_) | (refine zdb ?_; first | refine zdd ?_ | refine zde ?_ | refine zdf ?_)
      refine rs_callM3 hR0 rfl rfl (Takes.crvOc (mt mh) (mt (mt mh)) hc1 hc2 (Takes.same Takes.nil)) rfl ?_
      rintro ⟨⟨a', b'⟩, ca', cb'⟩ ⟨h1, h2⟩
      dsimp only at h1 h2 ⊢
      repeat first | refine zah ?_ | (refine zcr ?_; refine zcv ?_) | (refine zag ?_; refine zan 2 rfl rfl rfl rfl rfl rfl rfl rfl rfl ?_)
      refine done_round (j + 1 + 1, (a', b'), ca', cb') ⟨by simp only; omega, h1, h2⟩ (by simp only; omega) ?_ (fun w h => ?_)
      · (repeat (first | exact Env.sub_nil _ | refine Env.sub_cons rfl ?_))
      · exact (h.rot3.weak (.cons_cons _ (.cons_cons _ (.cons_cons _ (List.nil_sublist _)))))
    have hjn : n - (j + 1) = 2 := by have := of_decide_eq_false hd; omega
    have hjn' : n - 2 = j + 1 := by omega
    clear hd
    rw [hjn] at hc1 hc2 ⊢
    rw [hjn'] at hX hm hs eby
    unfold slopeP
    rw [hjn', eby]
    repeat first | (refine zcr ?_; first | refine zcs ?_ | refine zcu ?_ | refine zcx ?_ | refine zda ?_) | (refine zdb ?_; first | refine zdc ?_ | refine zdh ?_)
    refine ws_draw (n := 10) mixed (by decide +kernel) ?_
    repeat first | refine zap rfl (zaz rfl) ?_ | (refine zat ?_; first | refine zap rfl (zbt rfl rfl (by (repeat (first | exact mh | refine mt ?_)); done) (by omega)) ?_ | refine zap rfl (zcf rfl rfl (by (repeat (first | exact mh | refine mt ?_)); done) rfl) ?_) | (refine zau ?_; refine zap rfl (zbw rfl rfl (by omega) (by omega)) ?_) | refine zap rfl (zcd rfl) ?_ | refine zav ?_
    repeat first | refine zaa rfl (zay rfl) ?_ | (refine zae ?_; refine zaa rfl (zcg rfl rfl (by (repeat (first | exact mh | refine mt ?_)); done) rfl rfl) ?_) | refine zah ?_ | (refine zcr ?_; refine zcs ?_) | (refine zdb ?_; first | refine zdc ?_ | refine zdd ?_)
    refine rs_callM3 hX rfl rfl (Takes.crvOc (mt mh) (mt (mt mh)) hc1 hc2 (Takes.same Takes.nil)) rfl ?_
    rintro ⟨⟨a', b'⟩, ca', cb'⟩ ⟨h1, h2⟩
    dsimp only at h1 h2 ⊢
    repeat first | refine zaa rfl (zay rfl) ?_ | refine zaa rfl (zaz rfl) ?_ | (refine zac ?_; refine zaa rfl (zba rfl rfl rfl) ?_) | (refine zae ?_; refine zaa rfl (zbt rfl rfl (by (repeat (first | exact mh | refine mt ?_)); done) (by omega)) ?_) | (refine zaf ?_; refine zaa rfl (zbw rfl rfl (by omega) (by omega)) ?_) | refine zah ?_ | (refine zcr ?_; refine zcs ?_) | (refine zdb ?_; first | refine zdc ?_ | refine zdd ?_) | refine zaa rfl (opj_fieldC rfl) ?_
    refine ws_draw (n := 12) mixed (by decide +kernel) ?_
    repeat first | refine zap rfl (zay rfl) ?_ | refine zap rfl (zaz rfl) ?_ | (refine zas ?_; first | (refine zap rfl (zci rfl rfl (hm) ?_) ?_; (focus ((repeat (first | exact Takes.nil | refine Takes.sl ?_ | refine Takes.lit ?_ | refine Takes.fa ?_ | refine Takes.fc ?_ | refine Takes.net ?_ | (refine Takes.ownE ?_ ?_ ?_ ?_ ?_; (focus (exact ⟨_, _, (by (repeat (first | exact mh | refine mt ?_)); done)⟩)); (focus (simp; done)); (focus omega); (focus (simp only [maxLen]; omega))) | refine Takes.same ?_)); done))) | (refine zap rfl (zci rfl rfl (hs) ?_) ?_; (focus ((repeat (first | exact Takes.nil | refine Takes.sl ?_ | refine Takes.lit ?_ | refine Takes.fa ?_ | refine Takes.fc ?_ | refine Takes.net ?_ | (refine Takes.ownE ?_ ?_ ?_ ?_ ?_; (focus (exact ⟨_, _, (by (repeat (first | exact mh | refine mt ?_)); done)⟩)); (focus (simp; done)); (focus omega); (focus (simp only [maxLen]; omega))) | refine Takes.same ?_)); done)))) | (refine zat ?_; first | refine zap rfl (opj_loadC rfl rfl (by (repeat (first | exact mh | refine mt ?_)); done) (by omega)) ?_ | refine zap rfl (zcf rfl rfl (by (repeat (first | exact mh | refine mt ?_)); done) rfl) ?_) | (refine zau ?_; refine zap rfl (zbw rfl rfl (by omega) (by omega)) ?_) | refine zap rfl (zcd rfl) ?_ | refine zav ?_
    repeat first | refine zah ?_ | (refine zcr ?_; refine zcs ?_) | (refine zdb ?_; refine zdg ?_)
    exact done_ret1 rfl () rfl trivial (List.nil_sublist _)
theorem slopeAt_fn {n : Nat} {P : Nat → CV} {f : Int → FV} {t : FV} (hn : 2 ≤ n ∧ n ≤ 8) (hP : (tabC n P).all finC = true) (hf : (tab n f).all aboveB = true) (ht : Fn Try.prog 38 (fun _ => [.f .f32 t]) (.raw (.bool true)))
    (hq : finC (slopeP n P f t) = true) : Fn Try.prog 25 (fun w => [crvA w n P f, .f .f32 t]) (.tup [cA (slopeP n P f t), .raw (.bool true)]) := by
  have hV := validCurve_yes hn hP hf
  have hA := slope_fn (n := n) (P := P) (f := f) (t := t) (by omega)
  have hI := ifPoint_fn _ true hq
  unfold ptT at hI
  refine fn_intro Try.func25 rfl Try.ntmps25 (fun _ => Nat.le_of_ble_eq_true rfl) fun w0 => ?_
  repeat first | refine zai rfl rfl ?_ | refine zaa rfl (zay rfl) ?_ | refine zaa rfl (zaz rfl) ?_ | (refine zad ?_; first | (refine zaa rfl (zci rfl rfl (ht) ?_) ?_; (focus ((repeat (first | exact Takes.nil | refine Takes.sl ?_ | refine Takes.lit ?_ | refine Takes.fa ?_ | refine Takes.fc ?_ | refine Takes.net ?_ | (refine Takes.ownE ?_ ?_ ?_ ?_ ?_; (focus (exact ⟨_, _, (by (repeat (first | exact mh | refine mt ?_)); done)⟩)); (focus (simp; done)); (focus omega); (focus (simp only [maxLen]; omega))) | refine Takes.same ?_)); done))) | (refine zaa rfl (zci rfl rfl (hI) ?_) ?_; (focus ((repeat (first | exact Takes.nil | refine Takes.sl ?_ | refine Takes.lit ?_ | refine Takes.fa ?_ | refine Takes.fc ?_ | refine Takes.net ?_ | (refine Takes.ownE ?_ ?_ ?_ ?_ ?_; (focus (exact ⟨_, _, (by (repeat (first | exact mh | refine mt ?_)); done)⟩)); (focus (simp; done)); (focus omega); (focus (simp only [maxLen]; omega))) | refine Takes.same ?_)); done)))) | (refine zae ?_; refine zaa rfl (zcg rfl rfl (by (repeat (first | exact mh | refine mt ?_)); done) rfl rfl) ?_) | refine zaa rfl (zbz rfl rfl) ?_ | refine zaa rfl (zcb rfl rfl) ?_ | refine zaa rfl (zcc rfl) ?_ | refine zah ?_ | (refine zcr ?_; refine zcs ?_) | (refine zdb ?_; first | refine zdc ?_ | refine zdd ?_ | refine zdf ?_ | refine zdg ?_ | refine zdj rfl ?_) | (refine zak rfl rfl rfl ?_; intro g) | refine zaa rfl (zci rfl rfl hV (Takes.crv Takes.nil)) ?_ | refine zaa rfl (zci rfl rfl hA (Takes.crv (Takes.same Takes.nil))) ?_
  exact done_ret2 rfl () rfl rfl rfl trivial (List.nil_sublist _)
end Go.Ab
namespace Go.Ab
open Go.Proofs
variable {R : World → Prop} [RStab R]
class CrvB1 (P : Program) (t : TypeId) : Prop where
  b1 : ∀ (w : World) (b : Option Addr) (n' c' : Nat), (Instr.build t #[(1, .slice b n' c')]).run P w = .ok (.agg #[.slice none 0 0, .slice b n' c']) w
instance crvB1i : CrvB1 Try.prog 27 := ⟨fun w b n' c' => by kernel_rfl⟩
section
variable {P : Program} {S : World → Prop} {e : Env} {dst : Option Tmp} {ty : TypeId} {pos : String} {after : Array Edge} {guard : Option (Nat × Bool)} {t el : TypeId} {w0 : World} {gs : List Nat} {H : List Ent} {args : List AV} {A' : World → List AV}
theorem opj_buildW [hf : CrvB1 P t] {X : Operand} {b : Option Addr} {n' c' : Nat} (hx : e.ev X = some (.raw (.slice b n' c'))) : OpJ P S e ⟨dst, .build t #[(1, X)], ty, pos, after, guard⟩ (.agg [.raw (.slice none 0 0), .raw (.slice b n' c')]) :=
  opj_value fun ac w _ h => by
    have h1 := (h X (by simp [Op.operands]) _ hx).inv_raw
    refine ⟨_, w, ?_, Ext.refl _, .agg (vs := [_, _]) (.cons .raw (.cons .raw .nil))⟩
    simp only [execOp, List.map_toArray, List.map_cons, List.map_nil, h1, Sem.run_bind, hf.b1, Result.andThen_ok]
    rfl
theorem opj_makeFuncU {c : FuncId} {X : Operand} {u : Value} (hx : e.ev X = some (.raw u)) :
    OpJ P S e ⟨dst, .makeFunc (.func c) #[] #[X], ty, pos, after, guard⟩ (.raw (.func (.func c) #[] #[u])) :=
  opj_value fun a w _ h => by
    have h1 := (h X (by simp [Op.operands]) _ hx).inv_raw
    exact ⟨_, w, by simp [execOp, h1, Instr.makeFunc], Ext.refl _, .raw⟩
end
attribute [local irreducible] WS RS Done OpJ Then InBlock Round Ret Env.sub FnH
attribute [local irreducible] tab tabC
theorem ifCurveD_yes {n a b ca cb : Nat} {P : Nat → CV} {f : Int → FV} (hn : 2 ≤ n ∧ n ≤ 8) (hP : (tabC n P).all finC = true) (hf : (tab n f).all aboveB = true) (h1 : n ≤ ca ∧ ca ≤ maxLen) (h2 : n ≤ cb ∧ cb ≤ maxLen) :
    FnH (X := Unit) Try.prog 65 (fun _ => [crvOc a b n ca cb]) [entF b 30 n f cb, entC a n P ca] (fun _ => .tup [crvOc a b n ca cb, .raw (.bool true)]) (fun _ => [entF b 30 n f cb, entC a n P ca]) (fun _ => True) := by
  have hV := validCurve_yes hn hP hf
  refine fn_intro Try.func65 rfl Try.ntmps65 (fun _ => Nat.le_of_ble_eq_true rfl) fun w0 => ?_
  repeat first | refine zaa rfl (zaz rfl) ?_ | (refine zae ?_; refine zaa rfl (zcg rfl rfl (by (repeat (first | exact mh | refine mt ?_)); done) rfl rfl) ?_) | refine zaa rfl (zcc rfl) ?_ | refine zah ?_ | (refine zcr ?_; refine zcs ?_) | (refine zdb ?_; first | refine zdc ?_ | refine zdd ?_ | refine zdf ?_ | refine zdg ?_ | refine zdj rfl ?_) | (refine zak rfl rfl rfl ?_; intro g) | (refine zal rfl rfl ?_; intro g) | (refine zag ?_; refine zan 0 rfl rfl rfl rfl rfl rfl rfl rfl rfl ?_) | refine zaa rfl (zci rfl rfl hV (Takes.crvOc (mt (mt (mt mh))) (mt (mt mh)) h1 h2 Takes.nil)) ?_
  exact done_retCX rfl rfl () rfl rfl mh rfl rfl rfl trivial (.cons _ (.cons _ (List.Sublist.refl _)))
theorem isPlainN_fn {n : Nat} {P : Nat → CV} (hn : 2 ≤ n ∧ n ≤ 8) (hP : (tabC n P).all finC = true) (h1 : (tab n (fun _ => one1)).all aboveB = true) (h2 : ((tab n fun _ => one1).any fun x => cmpB .neq (fcmp .f32 x one1)) = false) : Fn Try.prog 48 (fun w => [crvA w n P (fun _ => one1)]) (.raw (.bool (decide (3 ≤ n)))) := by
  have hV := validCurve_yes hn hP h1
  have hD := degree_fn n P (fun _ => one1) (by omega)
  have hC := containsFunc_fn (tab n fun _ => one1) (by simp; omega) 70 _ isPlain1_fn
  rw [h2] at hC
  by_cases h3 : 3 ≤ n
  · rw [decide_eq_true h3]
    have d : decide ((2 : Int) ≤ (n : Int) - 1) = true := decide_eq_true (by omega)
    refine fn_intro Try.func48 rfl Try.ntmps48 (fun _ => Nat.le_of_ble_eq_true rfl) fun w0 => ?_
    repeat first | refine zai rfl rfl ?_ | refine zaa rfl (zay rfl) ?_ | refine zaa rfl (zaz rfl) ?_ | (refine zac ?_; refine zaa rfl (zbh rfl rfl) ?_) | (refine zae ?_; refine zaa rfl (zcg rfl rfl (by (repeat (first | exact mh | refine mt ?_)); done) rfl rfl) ?_) | refine zaa rfl (zca rfl rfl) ?_ | refine zah ?_ | (refine zcr ?_; refine zcs ?_) | (refine zdb ?_; first | refine zdc ?_ | refine zdd ?_) | (refine zak rfl rfl rfl ?_; intro g) | refine zaa rfl (zci rfl rfl hV (Takes.crv Takes.nil)) ?_ | refine zaa rfl (zci rfl rfl hD (Takes.crv Takes.nil)) ?_
    rw [d]
    repeat first | refine zai rfl rfl ?_ | refine zaa rfl (zaz rfl) ?_ | (refine zad ?_; (refine zaa rfl (zci rfl rfl (hC) ?_) ?_; (focus ((repeat (first | exact Takes.nil | refine Takes.sl ?_ | refine Takes.lit ?_ | refine Takes.fa ?_ | refine Takes.fc ?_ | refine Takes.net ?_ | (refine Takes.ownE ?_ ?_ ?_ ?_ ?_; (focus (exact ⟨_, _, (by (repeat (first | exact mh | refine mt ?_)); done)⟩)); (focus (simp; done)); (focus omega); (focus (simp only [maxLen]; omega))) | refine Takes.same ?_)); done)))) | (refine zae ?_; refine zaa rfl (zcf rfl rfl (by (repeat (first | exact mh | refine mt ?_)); done) rfl) ?_) | refine zaa rfl (zcd rfl) ?_ | refine zaa rfl (zca rfl rfl) ?_ | refine zaa rfl (zcc rfl) ?_ | refine zah ?_ | (refine zcr ?_; refine zcs ?_) | (refine zdb ?_; refine zdg ?_)
    exact done_ret1 rfl () rfl trivial (List.nil_sublist _)
  · rw [decide_eq_false h3]
    have d : decide ((2 : Int) ≤ (n : Int) - 1) = false := decide_eq_false (by omega)
    refine fn_intro Try.func48 rfl Try.ntmps48 (fun _ => Nat.le_of_ble_eq_true rfl) fun w0 => ?_
    repeat first | refine zai rfl rfl ?_ | refine zaa rfl (zay rfl) ?_ | refine zaa rfl (zaz rfl) ?_ | (refine zac ?_; refine zaa rfl (zbh rfl rfl) ?_) | (refine zae ?_; refine zaa rfl (zcg rfl rfl (by (repeat (first | exact mh | refine mt ?_)); done) rfl rfl) ?_) | refine zaa rfl (zca rfl rfl) ?_ | refine zah ?_ | (refine zcr ?_; refine zcs ?_) | (refine zdb ?_; first | refine zdc ?_ | refine zdd ?_) | (refine zak rfl rfl rfl ?_; intro g) | refine zaa rfl (zci rfl rfl hV (Takes.crv Takes.nil)) ?_ | refine zaa rfl (zci rfl rfl hD (Takes.crv Takes.nil)) ?_
    rw [d]
    repeat first | refine zaj rfl rfl rfl rfl ?_ | refine zaa rfl (zaz rfl) ?_ | refine zaa rfl (zcb rfl rfl) ?_ | refine zah ?_ | (refine zcr ?_; refine zcs ?_) | (refine zdb ?_; refine zdg ?_)
    exact done_ret1 rfl () rfl trivial (List.nil_sublist _)
end Go.Ab
