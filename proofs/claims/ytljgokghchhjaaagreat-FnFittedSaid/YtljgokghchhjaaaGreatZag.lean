/- Parameters of paths, as the program and the reference reckon them. No conditions. -/
import Derived.Test.YtljgokghchhjaaaGreatZaf
namespace Go.Ab
open Go.Proofs
variable {R : World → Prop} [RStab R]
/-- How much a step weighs. -/
def stW (w : FV) (P : Nat → CV) (i : Nat) : FV := exF (fbin .mul .f32 w (lgF (lngF P i)))
def sP (w : FV) (P : Nat → CV) : Nat → FV
  | 0 => fv .f32 0
  | i + 1 => fbin .add .f32 (sP w P i) (stW w P i)
def parK (w : FV) (P : Nat → CV) (n k : Nat) (i : Int) : FV := if 0 < i ∧ i < k then fbin .quo .f32 (sP w P i.toNat) (sP w P (n - 1)) else sP w P i.toNat
def parF (w : FV) (P : Nat → CV) (n : Nat) : Int → FV := parK w P n n
section
variable {n : Nat} {P : Nat → CV} {a c : Nat → Int} {l : Nat → Rat} {w : FV} {ω : Rat}
theorem Lth.pow (h : Lth n P a c l) (vw : Vl .f32 w ω) (w0 : 0 ≤ ω ∧ ω ≤ 1) {i : Nat} (hi : i + 1 < n) : (48 / 100 ≤ l i ∧ l i ≤ 24 / 10) ∧ (∃ p, Vl .f32 (fbin .mul .f32 w (lgF (lngF P i))) p ∧ -(13 / 10) ≤ p ∧ p ≤ 13 / 10) ∧ ∃ r, Vl .f32 (stW w P i) r ∧ 24 / 100 ≤ r ∧ r ≤ 4 := by
  have hb := h.b i hi
  have hr : 48 / 100 ≤ l i ∧ l i ≤ 24 / 10 := by constructor <;> grind
  obtain ⟨_, r, vr, r1, r2⟩ := lgF_vl (h.v i hi) hr
  have b := mul_bnd (p := ω) (q := r) (a := 1) (b := 126 / 100) (by grind) w0.2 r1 r2
  obtain ⟨p, vp, rp⟩ := vl_mul vw vr (fitk (by grind) (by grind))
  have n1 := rnd_abs rp (126 / 100) (by grind) (by grind)
  have hp : -(13 / 10) ≤ p ∧ p ≤ 13 / 10 := by constructor <;> grind
  obtain ⟨_, s, vs, s1, s2⟩ := exF_vl vp hp
  exact ⟨hr, ⟨p, vp, hp⟩, s, vs, s1, s2⟩
end
attribute [local irreducible] WS RS Done OpJ Then InBlock Round Ret Env.sub FnH
attribute [local irreducible] tab tabC
section
variable {n : Nat} {P : Nat → CV} {a c : Nat → Int} {l : Nat → Rat} {w : FV} {ω : Rat}
theorem params_fn (h : Lth n P a c l) (hn : 2 ≤ n ∧ n ≤ 48) (vw : Vl .f32 w ω) (hw : 0 ≤ ω ∧ ω ≤ 1) :
    FnH (X := Nat × Nat) Tryz.prog 76 (fun W => [slC W (tabC n P), .f .f32 w]) [] (fun y => .raw (.slice (some ⟨y.1, 0, none⟩) n y.2)) (fun y => [entF y.1 27 n (parF w P n) y.2]) (fun y => n ≤ y.2 ∧ y.2 ≤ maxLen) := by
  have hLs := longsOf_fn n P (by omega) h.ok
  refine fn_intro Tryz.func76 rfl Tryz.ntmps76 (fun _ => Nat.le_of_ble_eq_true rfl) fun w0 => ?_
  repeat first | refine zaa rfl (zay rfl) ?_ | refine zaa rfl (zaz rfl) ?_ | (refine zad ?_; first | refine zaa rfl (zbn rfl) ?_ | (refine rs_call1 (hLs) rfl rfl ?_ rfl ?_; (focus ((repeat (first | exact Takes.nil | refine Takes.sl ?_ | refine Takes.lit ?_ | refine Takes.fa ?_ | refine Takes.fc ?_ | refine Takes.net ?_ | (refine Takes.ownE ?_ ?_ ?_ ?_ ?_; (focus (exact ⟨_, _, (by (repeat (first | exact mh | refine mt ?_)); done)⟩)); (focus (simp; done)); (focus omega); (focus (simp only [maxLen]; omega))) | refine Takes.same ?_)); done)); rintro ⟨gl, cl⟩ ⟨hl1, hl2⟩; simp only [maxLen] at hl1 hl2)) | refine zah ?_ | (refine zcr ?_; refine zcs ?_) | (refine zdb ?_; first | refine zdc ?_ | refine zdd ?_ | refine zde ?_) | (refine rs_litP rfl rfl rfl rfl rfl rfl ?_; intro g0)
  refine ws_loop (ι := Nat × Nat × Nat) (fun y => [(1, .f .f32 w), (5, .raw (.slice (some ⟨y.2.1, 0, none⟩) (y.1 + 1) y.2.2)), (12, .raw (.slice (some ⟨gl, 0, none⟩) (n - 1 : Nat) cl)), (13, .raw (.int .i64 ((n - 1 : Nat) : Int))), (14, .raw (.int .i64 y.1))])
    (fun y => St w0 [] [entF y.2.1 27 (y.1 + 1) (fun i => sP w P i.toNat) y.2.2, entF gl 27 (n - 1) (lngF P) cl]) (fun y => y.1 + 1 ≤ n ∧ y.1 + 1 ≤ y.2.2 ∧ y.2.2 ≤ maxLen) (fun y => n - y.1) (0, g0, 1) ⟨by simp only; omega, Nat.le_refl _, by simp only [maxLen]; omega⟩ ?_ (fun _ h => ?_) (fun y hy => ?_)
  · (repeat (first | exact Env.sub_nil _ | refine Env.sub_cons rfl ?_))
  · simp only
    rw [show entF g0 27 (0 + 1) (fun i => sP w P i.toNat) 1 = ⟨g0, 27, [.f .f32 (fv .f32 0)], 1⟩ from by unfold entF tab; rfl]
    exact h.perm (List.Perm.swap _ _ _)
  obtain ⟨k, g, cap⟩ := y
  simp only at hy ⊢
  obtain ⟨hk, hc1, hc2⟩ := hy
  repeat first | (refine zac ?_; refine zaa rfl (zbe rfl rfl) ?_) | refine zah ?_ | (refine zcr ?_; refine zcs ?_) | (refine zdb ?_; first | refine zdc ?_ | refine zdd ?_)
  refine ws_cond rfl (fun hd => ?_) (fun hd => ?_)
  · have hlt : (k : Int) < ((n - 1 : Nat) : Int) := of_decide_eq_true hd
    clear hd
    obtain ⟨hr, ⟨p, vp, hp⟩, _⟩ := h.pow vw hw (i := k) (by omega)
    have hLg := logNumber_fn (h.v k (by omega)) hr
    have hEx := expNumber_fn vp hp
    repeat first | refine zaa rfl (zay rfl) ?_ | refine zaa rfl (zaz rfl) ?_ | (refine zae ?_; refine zaa rfl (zbt rfl rfl (by (repeat (first | exact mh | refine mt ?_)); done) (by omega)) ?_) | (refine zaf ?_; refine zaa rfl (zbw rfl rfl (by omega) (by omega)) ?_) | refine zah ?_ | (refine zcr ?_; refine zcs ?_) | (refine zdb ?_; first | refine zdc ?_ | refine zdd ?_ | refine zde ?_ | refine zdf ?_)
    refine ws_draw (n := 12) mixed (by decide +kernel) ?_
    repeat first | refine zap rfl (zay rfl) ?_ | (refine zar ?_; refine zap rfl (zba rfl rfl rfl) ?_) | (refine zas ?_; first | (refine zap rfl (zci rfl rfl (hLg) ?_) ?_; (focus ((repeat (first | exact Takes.nil | refine Takes.sl ?_ | refine Takes.lit ?_ | refine Takes.fa ?_ | refine Takes.fc ?_ | refine Takes.net ?_ | (refine Takes.ownE ?_ ?_ ?_ ?_ ?_; (focus (exact ⟨_, _, (by (repeat (first | exact mh | refine mt ?_)); done)⟩)); (focus (simp; done)); (focus omega); (focus (simp only [maxLen]; omega))) | refine Takes.same ?_)); done))) | (refine zap rfl (zci rfl rfl (hEx) ?_) ?_; (focus ((repeat (first | exact Takes.nil | refine Takes.sl ?_ | refine Takes.lit ?_ | refine Takes.fa ?_ | refine Takes.fc ?_ | refine Takes.net ?_ | (refine Takes.ownE ?_ ?_ ?_ ?_ ?_; (focus (exact ⟨_, _, (by (repeat (first | exact mh | refine mt ?_)); done)⟩)); (focus (simp; done)); (focus omega); (focus (simp only [maxLen]; omega))) | refine Takes.same ?_)); done)))) | (refine zat ?_; refine zap rfl (zbt rfl rfl (by (repeat (first | exact mh | refine mt ?_)); done) (by omega)) ?_) | (refine zau ?_; refine zap rfl (zbw rfl rfl (by omega) (by omega)) ?_) | refine zav ?_ | refine zap rfl (zco rfl rfl rfl rfl rfl rfl) ?_
    refine rs_appendT 0 (fun i => sP w P i.toNat) rfl rfl rfl rfl ⟨hc1, hc2⟩ (by omega) rfl rfl rfl (fun s _ _ => rfl) fun g3 c3 h3 h3' => ?_
    repeat first | refine zaa rfl (zay rfl) ?_ | refine zaa rfl (zaz rfl) ?_ | (refine zac ?_; refine zaa rfl (zbb rfl rfl (by omega)) ?_) | refine zah ?_ | (refine zcr ?_; first | refine zcs ?_ | refine zcv ?_) | (refine zdb ?_; refine zdd ?_)
    refine done_round (k + 1, g3, c3) ⟨by simp only; omega, h3, h3'⟩ (by simp only; omega) ?_ (fun _ h => h)
    simp only
    rw [show ((k + 1 : Nat) : Int) = (k : Int) + 1 from by omega]
    (repeat (first | exact Env.sub_nil _ | refine Env.sub_cons rfl ?_))
  have hge : ¬ (k : Int) < ((n - 1 : Nat) : Int) := of_decide_eq_false hd
  obtain rfl : n = k + 1 := by omega
  clear hd hge hk
  simp only [maxLen] at hc2
  have e8 : (((k + 1 : Nat) : Int) - 1).toNat = k := by omega
  repeat first | refine zaa rfl (zay rfl) ?_ | refine zaa rfl (zaz rfl) ?_ | (refine zac ?_; refine zaa rfl (zbc rfl rfl (by omega)) ?_) | (refine zad ?_; refine zaa rfl (zbn rfl) ?_) | (refine zae ?_; refine zaa rfl (zbt rfl rfl (by (repeat (first | exact mh | refine mt ?_)); done) (by omega)) ?_) | (refine zaf ?_; refine zaa rfl (zbw rfl rfl (by omega) (by omega)) ?_) | refine zah ?_ | (refine zcr ?_; first | refine zcs ?_ | refine zcu ?_ | refine zcx ?_ | refine zda ?_) | (refine zdb ?_; first | refine zdc ?_ | refine zdd ?_ | refine zde ?_ | refine zdh ?_)
  rw [e8]
  have hp0 : (fun i : Int => sP w P i.toNat) = parK w P (k + 1) 0 := funext fun i => by unfold parK; rw [if_neg (by omega)]
  have hp1 : parK w P (k + 1) 1 = parK w P (k + 1) 0 := funext fun i => by unfold parK; rw [if_neg (by omega), if_neg (by omega)]
  rw [hp0]
  refine ws_loop (ι := Nat) (fun j => [(5, .raw (.slice (some ⟨g, 0, none⟩) (k + 1) cap)), (8, .f .f32 (sP w P k)), (40, .raw (.int .i64 ((k + 1 : Nat) : Int))), (41, .raw (.int .i64 j))])
    (fun j => St w0 [] [entF g 27 (k + 1) (parK w P (k + 1) j) cap]) (fun j => j ≤ k + 1) (fun j => k + 1 - j) 0 (Nat.zero_le _) ?_ (fun _ h => StR.weak h (List.Sublist.cons_cons _ (List.nil_sublist _))) (fun j hj => ?_)
  · (repeat (first | exact Env.sub_nil _ | refine Env.sub_cons rfl ?_))
  repeat first | (refine zac ?_; refine zaa rfl (zbe rfl rfl) ?_) | refine zah ?_ | (refine zcr ?_; refine zcs ?_) | (refine zdb ?_; first | refine zdc ?_ | refine zdd ?_)
  refine ws_cond rfl (fun hd => ?_) (fun hd => ?_)
  · have hlt : (j : Int) < ((k + 1 : Nat) : Int) := of_decide_eq_true hd
    clear hd
    have hnext : ((j + 1 : Nat) : Int) = (j : Int) + 1 := by omega
    repeat first | refine zaa rfl (zay rfl) ?_ | refine zaa rfl (zaz rfl) ?_ | (refine zac ?_; refine zaa rfl (zbg rfl rfl) ?_) | refine zah ?_ | (refine zcr ?_; refine zcs ?_) | (refine zdb ?_; first | refine zdc ?_ | refine zdd ?_ | refine zde ?_ | refine zdf ?_)
    refine ws_cond rfl (fun hd => ?_) (fun hd => ?_)
    · have hj0 : (0 : Int) < (j : Int) := of_decide_eq_true hd
      have hv : parK w P (k + 1) j j = sP w P j := by unfold parK; rw [if_neg (by omega)]; rfl
      repeat first | refine zaa rfl (zay rfl) ?_ | (refine zac ?_; refine zaa rfl (zba rfl rfl rfl) ?_) | (refine zae ?_; refine zaa rfl (zbt rfl rfl (by (repeat (first | exact mh | refine mt ?_)); done) (by omega)) ?_) | (refine zaf ?_; refine zaa rfl (zbw rfl rfl (by omega) (by omega)) ?_) | (refine zdb ?_; refine zdd ?_)
      refine rs_storeT 0 (parK w P (k + 1) (j + 1)) (i := (j : Int)) rfl rfl rfl ⟨by omega, hlt, hc1⟩ ?_ (fun s h0 h1 hs => ?_) ?_
      · rw [hv]
        unfold parK
        rw [if_pos (by omega)]
        rfl
      · unfold parK
        by_cases hc : 0 < s ∧ s < j
        · rw [if_pos hc, if_pos (by omega)]
        · rw [if_neg hc, if_neg (by omega)]
      repeat first | refine zaa rfl (zay rfl) ?_ | (refine zac ?_; refine zaa rfl (zbb rfl rfl (by omega)) ?_) | refine zah ?_ | (refine zcr ?_; first | refine zcs ?_ | refine zcv ?_) | (refine zdb ?_; refine zdd ?_)
      refine done_round (j + 1) (by omega) (by omega) ?_ (fun _ h => h)
      rw [hnext]
      (repeat (first | exact Env.sub_nil _ | refine Env.sub_cons rfl ?_))
    · have hj0 : ¬ (0 : Int) < (j : Int) := of_decide_eq_false hd
      obtain rfl : j = 0 := by omega
      repeat first | refine zaa rfl (zay rfl) ?_ | (refine zac ?_; refine zaa rfl (zbb rfl rfl (by omega)) ?_) | refine zah ?_ | (refine zcr ?_; first | refine zcs ?_ | refine zcv ?_) | (refine zdb ?_; first | refine zdd ?_ | refine zdf ?_)
      refine done_round 1 (by omega) (by omega) ?_ (fun _ h => by rw [hp1]; exact h)
      (repeat (first | exact Env.sub_nil _ | refine Env.sub_cons rfl ?_))
  have hge : ¬ (j : Int) < ((k + 1 : Nat) : Int) := of_decide_eq_false hd
  obtain rfl : j = k + 1 := by omega
  repeat first | refine zaa rfl (zay rfl) ?_ | refine zaa rfl (zaz rfl) ?_ | refine zah ?_ | (refine zcr ?_; first | refine zcs ?_ | refine zcu ?_ | refine zcx ?_ | refine zda ?_) | (refine zdb ?_; first | refine zdc ?_ | refine zdd ?_ | refine zdg ?_ | refine zdh ?_)
  exact done_ret1 rfl (g, cap) rfl ⟨hc1, hc2⟩ (List.Sublist.refl _)
theorem sP_vl (h : Lth n P a c l) (hn : n ≤ 7) (vw : Vl .f32 w ω) (hw : 0 ≤ ω ∧ ω ≤ 1) : ∀ i, i < n → ∃ s, Vl .f32 (sP w P i) s ∧ 23 / 100 * (i : Rat) ≤ s ∧ s ≤ 41 / 10 * (i : Rat) ∧ (∀ j, i = j + 1 → ∃ r, Vl .f32 (sP w P j) r ∧ r + 23 / 100 ≤ s)
  | 0, _ => ⟨0, Vl.c (k := .f32) (b := 0) (q := 0) (by decide +kernel), by decide +kernel, by decide +kernel, fun j hj => by omega⟩
  | i + 1, hi => by
    obtain ⟨s, vs, s1, s2, _⟩ := sP_vl h hn vw hw i (by omega)
    obtain ⟨_, _, r, vr, r1, r2⟩ := h.pow vw hw hi
    have i6 : (i : Rat) ≤ 6 := natLe (j := 6) (by omega)
    have i0 : (0 : Rat) ≤ (i : Rat) := Rat.natCast_nonneg
    obtain ⟨t, vt, rt⟩ := vl_add vs vr (fitk (by grind) (by grind))
    have n1 := rnd_abs rt 30 (by grind) (by grind)
    have e : ((i + 1 : Nat) : Rat) = (i : Rat) + 1 := Rat.natCast_add i 1
    refine ⟨t, vt, by rw [e]; grind, by rw [e]; grind, fun j hj => ?_⟩
    obtain rfl : j = i := by omega
    exact ⟨s, vs, by grind⟩
/-- The parameters: from 0 to 1, and steps of more than 1 / 150. -/
theorem par_vl (h : Lth n P a c l) (hn : 2 ≤ n ∧ n ≤ 7) (vw : Vl .f32 w ω) (hw : 0 ≤ ω ∧ ω ≤ 1) : ∃ t : Nat → Rat, (∀ i : Nat, i < n → Vl .f32 (parF w P n i) (t i)) ∧ t 0 = 0 ∧ t (n - 1) = 1 ∧ (∀ i, i < n → 0 ≤ t i ∧ t i ≤ 1) ∧ ∀ i, i + 1 < n → t i + 1 / 150 ≤ t (i + 1) := by
  obtain ⟨A, vA, A1, A2, _⟩ := sP_vl h hn.2 vw hw (n - 1) (by omega)
  have n1 : ((1 : Nat) : Rat) ≤ ((n - 1 : Nat) : Rat) := natLe (by omega)
  have n6 : ((n - 1 : Nat) : Rat) ≤ ((6 : Nat) : Rat) := natLe (by omega)
  rw [show ((1 : Nat) : Rat) = 1 from rfl] at n1
  rw [show ((6 : Nat) : Rat) = 6 from rfl] at n6
  have A0 : 23 / 100 ≤ A := by grind
  have A25 : A ≤ 25 := by grind
  have hp : ∀ i : Nat, i < n → parF w P n i = if i = 0 then fv .f32 0 else fbin .quo .f32 (sP w P i) (sP w P (n - 1)) := fun i hi => by
    unfold parF parK
    rcases Nat.eq_zero_or_pos i with rfl | h0
    · rw [if_neg (by omega), if_pos rfl]
      rfl
    · rw [if_pos (by omega), if_neg (by omega)]
      rfl
  have mono : ∀ d i : Nat, i + d < n → ∃ s r, Vl .f32 (sP w P i) s ∧ Vl .f32 (sP w P (i + d)) r ∧ 0 ≤ s ∧ s ≤ r := fun d => by
    induction d with
    | zero =>
      intro i hi
      obtain ⟨s, vs, s1, _⟩ := sP_vl h hn.2 vw hw i hi
      have i0 : (0 : Rat) ≤ (i : Rat) := Rat.natCast_nonneg
      exact ⟨s, s, vs, vs, by grind, Rat.le_refl⟩
    | succ d ih =>
      intro i hi
      obtain ⟨s, r, vs, vr, s0, h1⟩ := ih i (by omega)
      obtain ⟨t, vt, _, _, h2⟩ := sP_vl h hn.2 vw hw (i + d + 1) (by omega)
      obtain ⟨r', vr', h3⟩ := h2 (i + d) rfl
      obtain rfl := Vl.unique vr vr'
      exact ⟨s, t, vs, vt, s0, by grind⟩
  have q126 : (1000 : Rat) ≤ p2 (ftop .f32 - 1) := by decide +kernel
  have A0' : A ≠ 0 := by grind
  have quo : ∀ i : Nat, i < n → ∃ s t, Vl .f32 (sP w P i) s ∧ Vl .f32 (parF w P n i) t ∧ 0 ≤ t ∧ t ≤ 1 ∧ -(1 / 4194304) ≤ t - s / A ∧ t - s / A ≤ 1 / 4194304 := fun i hi => by
    obtain ⟨s, A', vs, vA', s0, h1⟩ := mono (n - 1 - i) i (by omega)
    rw [show i + (n - 1 - i) = n - 1 by omega] at vA'
    obtain rfl := Vl.unique vA vA'
    have b := divle (p := s) (q := A) (c := 1) (by grind) (by grind) (by grind)
    have hs0 : 0 ≤ s / A := by
      have e : s / A * A = s := Rat.div_mul_cancel A0'
      rcases Rat.le_total (a := 0) (b := s / A) with g | g
      · exact g
      · have := Rat.mul_nonneg (show 0 ≤ -(s / A) by grind) (show 0 ≤ A - 23 / 100 by grind)
        grind
    rw [hp i hi]
    by_cases hz : i = 0
    · rw [if_pos hz]
      subst hz
      have v0 : Vl .f32 (sP w P 0) 0 := Vl.c (k := .f32) (b := 0) (q := 0) (by decide +kernel)
      obtain rfl := Vl.unique vs v0
      exact ⟨0, 0, vs, v0, by decide +kernel, by decide +kernel, by rw [show (0 : Rat) / A = 0 by grind]; decide +kernel, by rw [show (0 : Rat) / A = 0 by grind]; decide +kernel⟩
    · rw [if_neg hz]
      obtain ⟨t, vt, rt⟩ := vl_div vs vA A0' (by constructor <;> grind)
      have n := rnd_abs rt 1 b.1 b.2
      have t0 := (rt.side 0 (rep_zero _)).2 hs0
      have t1 := (rt.side 1 (.inl ⟨1, 0, by decide, by decide, by decide +kernel⟩)).1 b.2
      exact ⟨s, t, vs, vt, t0, t1, by grind, by grind⟩
  refine ⟨fun i => ratL (parF w P n i), fun i hi => ?_, ?_, ?_, fun i hi => ?_, fun i hi => ?_⟩
  · show Vl .f32 (parF w P n i) (ratL (parF w P n i))
    obtain ⟨_, t, _, vt, _⟩ := quo i hi
    rw [ratL_eq vt]
    exact vt
  · show ratL (parF w P n ((0 : Nat) : Int)) = 0
    have : parF w P n ((0 : Nat) : Int) = fv .f32 0 := by rw [hp 0 (by omega), if_pos rfl]
    rw [this]
    exact ratL_eq (Vl.c (k := .f32) (b := 0) (q := 0) (by decide +kernel))
  · show ratL (parF w P n ((n - 1 : Nat) : Int)) = 1
    rw [hp (n - 1) (by omega), if_neg (by omega)]
    exact ratL_eq (self_div_ex vA vA A0')
  · show 0 ≤ ratL (parF w P n i) ∧ ratL (parF w P n i) ≤ 1
    obtain ⟨_, t, _, vt, t0, t1, _⟩ := quo i hi
    rw [ratL_eq vt]
    exact ⟨t0, t1⟩
  · show ratL (parF w P n i) + 1 / 150 ≤ ratL (parF w P n ((i + 1 : Nat) : Int))
    obtain ⟨s, t, vs, vt, _, _, e1, e2⟩ := quo i (by omega)
    obtain ⟨r, u, vr, vu, _, _, e3, e4⟩ := quo (i + 1) hi
    rw [ratL_eq vt, ratL_eq vu]
    obtain ⟨r', vr', _, _, h2⟩ := sP_vl h hn.2 vw hw (i + 1) hi
    obtain ⟨s', vs', h3⟩ := h2 i rfl
    obtain rfl := Vl.unique vs vs'
    obtain rfl := Vl.unique vr vr'
    have e5 : r / A * A = r := Rat.div_mul_cancel A0'
    have e6 : s / A * A = s := Rat.div_mul_cancel A0'
    have key : 1 / 120 ≤ r / A - s / A := by
      rcases Rat.le_total (a := 1 / 120) (b := r / A - s / A) with g | g
      · exact g
      · have := Rat.mul_nonneg (show 0 ≤ 1 / 120 - (r / A - s / A) by grind) (show 0 ≤ A by grind)
        grind
    grind
end
end Go.Ab
