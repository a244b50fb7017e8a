/- Part 8 of the texts on which the law leans, joined: A region whose order is drawn and in whose midst an operation lies that turns the world and gives a value. No conditions. -/
import Derived.Test.YtljgokghchhjaaaGreatZag
namespace Go.Ab
open Go.Proofs
variable {R : World → Prop} [RStab R]
attribute [local irreducible] WS RS Done OpJ Then InBlock Round Ret Env.sub FnH
attribute [local irreducible] tab tabC
section
variable {n : Nat} {P : Nat → CV} {a c : Nat → Int} {l : Nat → Rat} {w : FV} {ω : Rat}
theorem isTime_yes (vw : Vl .f32 w ω) (hw : 0 ≤ ω ∧ ω ≤ 1) : Fn Tryz.prog 74 (fun _ => [.f .f32 w]) (.raw (.bool true)) := by
  have e1 : cmpB .geq (fcmp .f32 w (fv .f32 0)) = true := by rw [vl_geq vw (Vl.c (k := .f32) (b := 0) (q := 0) (by decide +kernel))]; exact decide_eq_true hw.1
  have e2 : cmpB .leq (fcmp .f32 w (fv .f32 1065353216)) = true := by rw [vl_leq vw (Vl.c (k := .f32) (b := 1065353216) (q := 1) (by decide +kernel))]; exact decide_eq_true hw.2
  refine fn_intro Tryz.func74 rfl Tryz.ntmps74 (fun _ => Nat.le_of_ble_eq_true rfl) fun w0 => ?_
  repeat first | refine zaa rfl (zay rfl) ?_ | refine zaa rfl (zaz rfl) ?_ | (refine zac ?_; refine zaa rfl (zbd rfl rfl rfl) ?_) | refine zah ?_ | (refine zcr ?_; refine zcs ?_) | (refine zdb ?_; first | refine zdc ?_ | refine zdd ?_)
  rw [e1]
  repeat first | refine zai rfl rfl ?_ | refine zaa rfl (zay rfl) ?_ | refine zaa rfl (zaz rfl) ?_ | (refine zac ?_; refine zaa rfl (zbd rfl rfl rfl) ?_) | refine zaa rfl (zca rfl rfl) ?_ | refine zah ?_ | (refine zcr ?_; refine zcs ?_) | (refine zdb ?_; refine zdg ?_)
  rw [e2]
  skip
  exact done_ret1 rfl () rfl trivial (List.nil_sublist _)
theorem l02Share_yes (vw : Vl .f32 w ω) (hw : 0 ≤ ω ∧ ω ≤ 1) : Fn Tryz.prog 29 (fun _ => [.f .f32 w]) (.raw (.bool true)) := by
  have e1 : cmpB .geq (fcmp .f32 w (fv .f32 0)) = true := by rw [vl_geq vw (Vl.c (k := .f32) (b := 0) (q := 0) (by decide +kernel))]; exact decide_eq_true hw.1
  have e2 : cmpB .leq (fcmp .f32 w (fv .f32 1065353216)) = true := by rw [vl_leq vw (Vl.c (k := .f32) (b := 1065353216) (q := 1) (by decide +kernel))]; exact decide_eq_true hw.2
  refine fn_intro Tryz.func29 rfl Tryz.ntmps29 (fun _ => Nat.le_of_ble_eq_true rfl) fun w0 => ?_
  repeat first | refine zaa rfl (zay rfl) ?_ | refine zaa rfl (zaz rfl) ?_ | (refine zac ?_; refine zaa rfl (zbd rfl rfl rfl) ?_) | refine zah ?_ | (refine zcr ?_; refine zcs ?_) | (refine zdb ?_; first | refine zdc ?_ | refine zdd ?_)
  rw [e1]
  repeat first | refine zai rfl rfl ?_ | refine zaa rfl (zay rfl) ?_ | refine zaa rfl (zaz rfl) ?_ | (refine zac ?_; refine zaa rfl (zbd rfl rfl rfl) ?_) | refine zaa rfl (zca rfl rfl) ?_ | refine zah ?_ | (refine zcr ?_; refine zcs ?_) | (refine zdb ?_; refine zdg ?_)
  rw [e2]
  skip
  exact done_ret1 rfl () rfl trivial (List.nil_sublist _)
theorem tab_fin {f : Int → FV} {t : Nat → Rat} (hf : ∀ i : Nat, i < n → Vl .f32 (f i) (t i)) : (tab n f).all finB = true := by
  rw [List.all_eq_true]
  intro y hy
  unfold tab at hy
  rw [List.mem_map] at hy
  obtain ⟨i, hi, rfl⟩ := hy
  exact vl_fin (hf i (by simpa using hi))
theorem paramsOf_fn (h : Lth n P a c l) (hp : Pth n P a c) (hn : 2 ≤ n ∧ n ≤ 7) (vw : Vl .f32 w ω) (hw : 0 ≤ ω ∧ ω ≤ 1) :
    FnH (X := Nat × Nat) Tryz.prog 47 (fun W => [slC W (tabC n P), .f .f32 w]) [] (fun y => .tup [.raw (.slice (some ⟨y.1, 0, none⟩) n y.2), .raw (.bool true)]) (fun y => [entF y.1 27 n (parF w P n) y.2]) (fun y => n ≤ y.2 ∧ y.2 ≤ maxLen) := by
  obtain ⟨t, ht, _⟩ := par_vl h hn vw hw
  have hfin := tab_fin ht
  have hI := isPath_yes n P (by omega) hp.fin h.ok (h.nz hn.1)
  have hT := isTime_yes vw hw
  have hPa := params_fn h (by omega) vw hw
  refine fn_intro Tryz.func47 rfl Tryz.ntmps47 (fun _ => Nat.le_of_ble_eq_true rfl) fun w0 => ?_
  repeat first | refine zai rfl rfl ?_ | refine zaa rfl (zay rfl) ?_ | refine zaa rfl (zaz rfl) ?_ | (refine zad ?_; first | (refine zaa rfl (zci rfl rfl (hI) ?_) ?_; (focus ((repeat (first | exact Takes.nil | refine Takes.sl ?_ | refine Takes.lit ?_ | refine Takes.fa ?_ | refine Takes.fc ?_ | refine Takes.net ?_ | (refine Takes.ownE ?_ ?_ ?_ ?_ ?_; (focus (exact ⟨_, _, (by (repeat (first | exact mh | refine mt ?_)); done)⟩)); (focus (simp; done)); (focus omega); (focus (simp only [maxLen]; omega))) | refine Takes.same ?_)); done))) | (refine zaa rfl (zci rfl rfl (hT) ?_) ?_; (focus ((repeat (first | exact Takes.nil | refine Takes.sl ?_ | refine Takes.lit ?_ | refine Takes.fa ?_ | refine Takes.fc ?_ | refine Takes.net ?_ | (refine Takes.ownE ?_ ?_ ?_ ?_ ?_; (focus (exact ⟨_, _, (by (repeat (first | exact mh | refine mt ?_)); done)⟩)); (focus (simp; done)); (focus omega); (focus (simp only [maxLen]; omega))) | refine Takes.same ?_)); done))) | (refine rs_call1 (hPa) rfl rfl ?_ rfl ?_; (focus ((repeat (first | exact Takes.nil | refine Takes.sl ?_ | refine Takes.lit ?_ | refine Takes.fa ?_ | refine Takes.fc ?_ | refine Takes.net ?_ | (refine Takes.ownE ?_ ?_ ?_ ?_ ?_; (focus (exact ⟨_, _, (by (repeat (first | exact mh | refine mt ?_)); done)⟩)); (focus (simp; done)); (focus omega); (focus (simp only [maxLen]; omega))) | refine Takes.same ?_)); done)); rintro ⟨g, cp⟩ ⟨hc1, hc2⟩; simp only [maxLen] at hc1 hc2)) | refine zaa rfl (zcb rfl rfl) ?_ | refine zaa rfl (zcc rfl) ?_ | refine zah ?_ | (refine zcr ?_; refine zcs ?_) | (refine zdb ?_; first | refine zdc ?_ | refine zdd ?_ | refine zdf ?_ | refine zdj rfl ?_)
  have hB := ifNumbers_yes n cp g (parF w P n) ⟨by omega, hc1, by simp only [maxLen]; omega⟩ hfin
  repeat first | refine zaa rfl (zaz rfl) ?_ | refine zaa rfl (zbz rfl rfl) ?_ | refine zah ?_ | (refine zcr ?_; refine zcs ?_) | (refine zdb ?_; refine zdg ?_) | (refine rs_callAt 0 hB rfl rfl rfl ?_ rfl ?_; (focus (exact Takes.same Takes.nil)); rintro _ -)
  exact done_ret2 rfl (g, cp) rfl rfl rfl ⟨hc1, hc2⟩ (List.Sublist.refl _)
theorem l05Path_yes (h : Lth n P a c l) (hp : Pth n P a c) (hn : 2 ≤ n ∧ n ≤ 7) : Fn Tryz.prog 15 (fun W => [slC W (tabC n P)]) (.raw (.bool true)) := by
  have d1 : decide ((n : Int) < 2) = false := decide_eq_false (by omega)
  have d2 : decide ((48 : Int) < n) = false := decide_eq_false (by omega)
  have hz : ∀ i, i + 1 < n → cmpB .eql (fcmp .f32 (lngF P i) (fv .f32 0)) = false := fun i hi => by
    have hb := h.b i hi
    rw [vl_eql (h.v i hi) (Vl.c (k := .f32) (b := 0) (q := 0) (by decide +kernel))]
    exact decide_eq_false (by grind)
  refine fn_intro Tryz.func15 rfl Tryz.ntmps15 (fun _ => Nat.le_of_ble_eq_true rfl) fun w0 => ?_
  repeat first | refine zaa rfl (zay rfl) ?_ | refine zaa rfl (zaz rfl) ?_ | (refine zac ?_; refine zaa rfl (zbe rfl rfl) ?_) | (refine zad ?_; refine zaa rfl (opj_lenC rfl) ?_) | refine zah ?_ | (refine zcr ?_; refine zcs ?_) | (refine zdb ?_; first | refine zdc ?_ | refine zdd ?_)
  rw [d1]
  repeat first | refine zai rfl rfl ?_ | refine zaa rfl (zay rfl) ?_ | (refine zac ?_; refine zaa rfl (zbg rfl rfl) ?_) | refine zaa rfl (zcb rfl rfl) ?_ | refine zah ?_ | (refine zcr ?_; refine zcs ?_)
  rw [d2]
  repeat first | refine zaa rfl (zay rfl) ?_ | (refine zad ?_; refine zaa rfl (opj_lenC rfl) ?_) | refine zah ?_ | (refine zcr ?_; refine zcs ?_) | (refine zdb ?_; first | refine zdc ?_ | refine zdd ?_ | refine zde ?_ | refine zdf ?_ | refine zdj rfl ?_)
  refine ws_loop (ι := Nat) (fun k => [(0, slC w0 (tabC n P)), (14, .raw (.int .i64 n)), (15, .raw (.int .i64 k))]) (fun _ => St w0 [] []) (fun k => k ≤ n) (fun k => n - k) 0 (Nat.zero_le _) ?_ (fun _ h => h) (fun k hk => ?_)
  · (repeat (first | exact Env.sub_nil _ | refine Env.sub_cons rfl ?_))
  repeat first | (refine zac ?_; refine zaa rfl (zbe rfl rfl) ?_) | refine zah ?_ | (refine zcr ?_; refine zcs ?_) | (refine zdb ?_; first | refine zdc ?_ | refine zdd ?_)
  refine ws_cond rfl (fun hd => ?_) (fun hd => ?_)
  · have hlt : (k : Int) < n := of_decide_eq_true hd
    clear hd
    have hF := l01CFinite_fn (P k)
    rw [show finC (P k) = true from finC_of (hp.vx k (by omega)) (hp.vy k (by omega))] at hF
    have hF' : Fn Tryz.prog 34 (fun _ => [cA (P (k : Int).toNat)]) (.raw (.bool true)) := hF
    have hnext : ((k + 1 : Nat) : Int) = (k : Int) + 1 := by omega
    repeat first | refine zaa rfl (zay rfl) ?_ | refine zaa rfl (zaz rfl) ?_ | refine zah ?_ | (refine zcr ?_; refine zcs ?_) | (refine zdb ?_; first | refine zdc ?_ | refine zdd ?_ | refine zde ?_ | refine zdf ?_)
    refine ws_draw (n := 24) mixed (by decide +kernel) ?_
    repeat first | refine zaw rfl rfl ?_ | refine zap rfl (zay rfl) ?_ | (refine zar ?_; refine zap rfl (zbg rfl rfl) ?_) | (refine zas ?_; (refine zap rfl (zci rfl rfl (hF') ?_) ?_; (focus ((repeat (first | exact Takes.nil | refine Takes.sl ?_ | refine Takes.lit ?_ | refine Takes.fa ?_ | refine Takes.fc ?_ | refine Takes.net ?_ | (refine Takes.ownE ?_ ?_ ?_ ?_ ?_; (focus (exact ⟨_, _, (by (repeat (first | exact mh | refine mt ?_)); done)⟩)); (focus (simp; done)); (focus omega); (focus (simp only [maxLen]; omega))) | refine Takes.same ?_)); done)))) | (refine zat ?_; refine zap rfl (zbu rfl rfl) ?_) | (refine zau ?_; refine zap rfl (opj_indexC rfl rfl (by omega) (by omega)) ?_) | refine zap rfl (zcc rfl) ?_
    by_cases hk0 : (0 : Int) < (k : Int)
    · rw [decide_eq_true hk0]
      obtain ⟨j, rfl⟩ : ∃ j, k = j + 1 := ⟨k - 1, by omega⟩
      have e1 : (((j + 1 : Nat) : Int) - 1).toNat = j := by omega
      have hLj : Fn Tryz.prog 32 (fun _ => [cA (subC2 (P ((j + 1 : Nat) : Int).toNat) (P (((j + 1 : Nat) : Int) - 1).toNat))]) (.f .f32 (lngF P j)) := by
        rw [e1]
        exact l01Long_fn _ (h.ok j (by omega))
      repeat first | refine zaw rfl rfl ?_ | refine zap rfl (zay rfl) ?_ | (refine zar ?_; first | refine zap rfl (zbc rfl rfl (by omega)) ?_ | refine zap rfl (zbd rfl rfl rfl) ?_ | refine zap rfl (opj_csub rfl rfl) ?_) | (refine zas ?_; (refine zap rfl (zci rfl rfl (hLj) ?_) ?_; (focus ((repeat (first | exact Takes.nil | refine Takes.sl ?_ | refine Takes.lit ?_ | refine Takes.fa ?_ | refine Takes.fc ?_ | refine Takes.net ?_ | (refine Takes.ownE ?_ ?_ ?_ ?_ ?_; (focus (exact ⟨_, _, (by (repeat (first | exact mh | refine mt ?_)); done)⟩)); (focus (simp; done)); (focus omega); (focus (simp only [maxLen]; omega))) | refine Takes.same ?_)); done)))) | (refine zat ?_; refine zap rfl (zbu rfl rfl) ?_) | (refine zau ?_; refine zap rfl (opj_indexC rfl rfl (by omega) (by omega)) ?_) | refine zap rfl (zca rfl rfl) ?_ | refine zap rfl (zcb rfl rfl) ?_ | refine zav ?_
      rw [hz j (by omega)]
      skip
      repeat first | refine zaa rfl (zay rfl) ?_ | (refine zac ?_; refine zaa rfl (zbb rfl rfl (by omega)) ?_) | refine zah ?_ | (refine zcr ?_; first | refine zcs ?_ | refine zcv ?_) | (refine zdb ?_; first | refine zdd ?_ | refine zdf ?_ | refine zdj rfl ?_)
      refine done_round (j + 1 + 1) (by omega) (by omega) ?_ (fun _ h => h)
      rw [hnext]
      (repeat (first | exact Env.sub_nil _ | refine Env.sub_cons rfl ?_))
    · rw [decide_eq_false hk0]
      repeat first | refine zaw rfl rfl ?_ | refine zax rfl rfl rfl rfl ?_ | refine zap rfl (zcb rfl rfl) ?_ | refine zav ?_
      repeat first | refine zaa rfl (zay rfl) ?_ | (refine zac ?_; refine zaa rfl (zbb rfl rfl (by omega)) ?_) | refine zah ?_ | (refine zcr ?_; first | refine zcs ?_ | refine zcv ?_) | (refine zdb ?_; first | refine zdd ?_ | refine zdf ?_ | refine zdj rfl ?_)
      refine done_round (k + 1) (by omega) (by omega) ?_ (fun _ h => h)
      rw [hnext]
      (repeat (first | exact Env.sub_nil _ | refine Env.sub_cons rfl ?_))
  · repeat first | refine zaa rfl (zaz rfl) ?_ | refine zah ?_ | (refine zcr ?_; first | refine zcs ?_ | refine zcu ?_ | refine zcx ?_ | refine zda ?_) | (refine zdb ?_; first | refine zdc ?_ | refine zdd ?_ | refine zdg ?_ | refine zdh ?_)
    exact done_ret1 rfl () rfl trivial (List.nil_sublist _)
/-- As the reference puts them. -/
def parQ (w : FV) (P : Nat → CV) (n k : Nat) (i : Int) : FV := if i < k then fbin .quo .f32 (sP w P i.toNat) (sP w P (n - 1)) else sP w P i.toNat
def put1S (i : Int) (x : FV) (f : Int → FV) (t : Int) : FV := if t = i then x else f t
def parS (w : FV) (P : Nat → CV) (n : Nat) : Int → FV := put1S ((n : Int) - 1) (fv .f32 1065353216) (put1S 0 (fv .f32 0) (parQ w P n n))
theorem parS_vl (h : Lth n P a c l) (hn : 2 ≤ n ∧ n ≤ 7) (vw : Vl .f32 w ω) (hw : 0 ≤ ω ∧ ω ≤ 1) {t : Nat → Rat} (ht : ∀ i : Nat, i < n → Vl .f32 (parF w P n i) (t i)) (t0 : t 0 = 0) (t1 : t (n - 1) = 1) : ∀ i : Nat, i < n → Vl .f32 (parS w P n i) (t i) := fun i hi => by
  unfold parS put1S
  by_cases h1 : (i : Int) = (n : Int) - 1
  · rw [if_pos h1, show i = n - 1 by omega, t1]
    exact Vl.c (by decide +kernel)
  · rw [if_neg h1]
    by_cases h0 : (i : Int) = 0
    · rw [if_pos h0, show i = 0 by omega, t0]
      exact Vl.c (by decide +kernel)
    · rw [if_neg h0]
      have := ht i hi
      unfold parF parK at this
      rw [if_pos (by omega)] at this
      unfold parQ
      rw [if_pos (by omega)]
      exact this
theorem l05Params_fn (h : Lth n P a c l) (hn : 2 ≤ n ∧ n ≤ 7) (vw : Vl .f32 w ω) (hw : 0 ≤ ω ∧ ω ≤ 1) (hfin : (tab n (parS w P n)).all finB = true) :
    FnH (X := Nat × Nat) Tryz.prog 37 (fun W => [slC W (tabC n P), .f .f32 w]) [] (fun y => .tup [.raw (.slice (some ⟨y.1, 0, none⟩) n y.2), .raw (.bool true)]) (fun y => [entF y.1 27 n (parS w P n) y.2]) (fun y => n ≤ y.2 ∧ y.2 ≤ maxLen) := by
  have hFi := l02Finite_fn (tab n (parS w P n)) (by simp; omega)
  rw [hfin] at hFi
  refine fn_intro Tryz.func37 rfl Tryz.ntmps37 (fun _ => Nat.le_of_ble_eq_true rfl) fun w0 => ?_
  repeat first | refine zaa rfl (zaz rfl) ?_ | refine zah ?_ | (refine zcr ?_; refine zcs ?_) | (refine zdb ?_; first | refine zdc ?_ | refine zdd ?_ | refine zde ?_) | (refine rs_litP rfl rfl rfl rfl rfl rfl ?_; intro g0)
  refine ws_loop (ι := Nat × Nat × Nat) (fun y => [(0, slC w0 (tabC n P)), (1, .f .f32 w), (6, .raw (.slice (some ⟨y.2.1, 0, none⟩) (y.1 + 1) y.2.2)), (7, .f .f32 (sP w P y.1)), (8, .raw (.int .i64 ((y.1 : Int) + 1)))])
    (fun y => St w0 [] [entF y.2.1 27 (y.1 + 1) (fun i => sP w P i.toNat) y.2.2]) (fun y => y.1 + 1 ≤ n ∧ y.1 + 1 ≤ y.2.2 ∧ y.2.2 ≤ maxLen) (fun y => n - y.1) (0, g0, 1) ⟨by simp only; omega, Nat.le_refl _, by simp only [maxLen]; omega⟩ ?_ (fun _ h => ?_) (fun y hy => ?_)
  · (repeat (first | exact Env.sub_nil _ | refine Env.sub_cons rfl ?_))
  · simp only
    rw [show entF g0 27 (0 + 1) (fun i => sP w P i.toNat) 1 = ⟨g0, 27, [.f .f32 (fv .f32 0)], 1⟩ from by unfold entF tab; rfl]
    exact h
  obtain ⟨k, g, cap⟩ := y
  simp only at hy ⊢
  obtain ⟨hk, hc1, hc2⟩ := hy
  repeat first | refine zaa rfl (zay rfl) ?_ | (refine zac ?_; refine zaa rfl (zbe rfl rfl) ?_) | (refine zad ?_; refine zaa rfl (opj_lenC rfl) ?_) | refine zah ?_ | (refine zcr ?_; refine zcs ?_) | (refine zdb ?_; first | refine zdc ?_ | refine zdd ?_)
  refine ws_cond rfl (fun hd => ?_) (fun hd => ?_)
  · have hlt : (k : Int) + 1 < n := of_decide_eq_true hd
    clear hd
    obtain ⟨hr, ⟨p, vp, hp⟩, _⟩ := h.pow vw hw (i := k) (by omega)
    have hLg := l01Log_fn (h.v k (by omega)) hr
    have hEx := l01Exp_fn vp hp
    have e1 : ((k : Int) + 1 - 1).toNat = k := by omega
    have hLj : Fn Tryz.prog 32 (fun _ => [cA (subC2 (P ((k : Int) + 1).toNat) (P ((k : Int) + 1 - 1).toNat))]) (.f .f32 (lngF P k)) := by
      rw [e1]
      exact l01Long_fn _ (h.ok k (by omega))
    repeat first | (refine zcr ?_; refine zcs ?_) | (refine zdb ?_; first | refine zdc ?_ | refine zde ?_ | refine zdf ?_)
    refine ws_draw (n := 12) mixed (by decide +kernel) ?_
    repeat first | refine zap rfl (zay rfl) ?_ | refine zap rfl (zaz rfl) ?_ | (refine zar ?_; first | refine zap rfl (zbc rfl rfl (by omega)) ?_ | refine zap rfl (opj_csub rfl rfl) ?_) | (refine zas ?_; (refine zap rfl (zci rfl rfl (hLj) ?_) ?_; (focus ((repeat (first | exact Takes.nil | refine Takes.sl ?_ | refine Takes.lit ?_ | refine Takes.fa ?_ | refine Takes.fc ?_ | refine Takes.net ?_ | (refine Takes.ownE ?_ ?_ ?_ ?_ ?_; (focus (exact ⟨_, _, (by (repeat (first | exact mh | refine mt ?_)); done)⟩)); (focus (simp; done)); (focus omega); (focus (simp only [maxLen]; omega))) | refine Takes.same ?_)); done)))) | (refine zat ?_; refine zap rfl (zbu rfl rfl) ?_) | (refine zau ?_; refine zap rfl (opj_indexC rfl rfl (by omega) (by omega)) ?_) | refine zav ?_
    repeat first | refine zaa rfl (zay rfl) ?_ | refine zaa rfl (zaz rfl) ?_ | (refine zac ?_; refine zaa rfl (zba rfl rfl rfl) ?_) | (refine zad ?_; first | (refine zaa rfl (zci rfl rfl (hLg) ?_) ?_; (focus ((repeat (first | exact Takes.nil | refine Takes.sl ?_ | refine Takes.lit ?_ | refine Takes.fa ?_ | refine Takes.fc ?_ | refine Takes.net ?_ | (refine Takes.ownE ?_ ?_ ?_ ?_ ?_; (focus (exact ⟨_, _, (by (repeat (first | exact mh | refine mt ?_)); done)⟩)); (focus (simp; done)); (focus omega); (focus (simp only [maxLen]; omega))) | refine Takes.same ?_)); done))) | (refine zaa rfl (zci rfl rfl (hEx) ?_) ?_; (focus ((repeat (first | exact Takes.nil | refine Takes.sl ?_ | refine Takes.lit ?_ | refine Takes.fa ?_ | refine Takes.fc ?_ | refine Takes.net ?_ | (refine Takes.ownE ?_ ?_ ?_ ?_ ?_; (focus (exact ⟨_, _, (by (repeat (first | exact mh | refine mt ?_)); done)⟩)); (focus (simp; done)); (focus omega); (focus (simp only [maxLen]; omega))) | refine Takes.same ?_)); done)))) | refine zah ?_ | (refine zcr ?_; refine zcs ?_) | (refine zdb ?_; first | refine zdc ?_ | refine zdd ?_) | refine zaa rfl (zco rfl rfl rfl rfl rfl rfl) ?_
    refine rs_appendT 0 (fun i => sP w P i.toNat) rfl rfl rfl rfl ⟨hc1, hc2⟩ (by omega) rfl rfl rfl (fun s _ _ => rfl) fun g3 c3 h3 h3' => ?_
    repeat first | refine zaa rfl (zay rfl) ?_ | refine zaa rfl (zaz rfl) ?_ | (refine zac ?_; refine zaa rfl (zbb rfl rfl (by omega)) ?_) | refine zah ?_ | (refine zcr ?_; first | refine zcs ?_ | refine zcv ?_) | (refine zdb ?_; refine zdd ?_)
    refine done_round (k + 1, g3, c3) ⟨by simp only; omega, h3, h3'⟩ (by simp only; omega) ?_ (fun _ h => h)
    simp only
    rw [show ((k + 1 : Nat) : Int) = (k : Int) + 1 from by omega]
    (repeat (first | exact Env.sub_nil _ | refine Env.sub_cons rfl ?_))
  have hge : ¬ (k : Int) + 1 < n := of_decide_eq_false hd
  obtain rfl : n = k + 1 := by omega
  clear hd hge hk
  simp only [maxLen] at hc2
  repeat first | refine zaa rfl (zay rfl) ?_ | (refine zad ?_; refine zaa rfl (zbn rfl) ?_) | refine zah ?_ | (refine zcr ?_; first | refine zcs ?_ | refine zcu ?_ | refine zcx ?_ | refine zda ?_) | (refine zdb ?_; first | refine zdc ?_ | refine zdd ?_ | refine zde ?_ | refine zdh ?_)
  have hp0 : (fun i : Int => sP w P i.toNat) = fun i => parQ w P (k + 1) 0 (if i < 0 then 0 else i) := funext fun i => by
    unfold parQ
    by_cases hi : i < 0
    · rw [if_pos hi, if_neg (by omega), show i.toNat = (0 : Int).toNat by omega]
    · rw [if_neg hi, if_neg (by omega)]
  refine ws_loop (ι := Nat) (fun j => [(6, .raw (.slice (some ⟨g, 0, none⟩) (k + 1) cap)), (7, .f .f32 (sP w P k)), (41, .raw (.int .i64 ((k + 1 : Nat) : Int))), (42, .raw (.int .i64 j))])
    (fun j => St w0 [] [entF g 27 (k + 1) (parQ w P (k + 1) j) cap]) (fun j => j ≤ k + 1) (fun j => k + 1 - j) 0 (Nat.zero_le _) ?_ (fun _ h => ?_) (fun j hj => ?_)
  · (repeat (first | exact Env.sub_nil _ | refine Env.sub_cons rfl ?_))
  · have hc : entF g 27 (k + 1) (fun i => sP w P i.toNat) cap = entF g 27 (k + 1) (parQ w P (k + 1) 0) cap := by
      unfold entF
      congr 2
      unfold tab
      refine List.map_congr_left fun i _ => ?_
      unfold parQ
      rw [if_neg (by omega)]
    rw [← hc]
    exact h
  clear hp0
  repeat first | (refine zac ?_; refine zaa rfl (zbe rfl rfl) ?_) | refine zah ?_ | (refine zcr ?_; refine zcs ?_) | (refine zdb ?_; first | refine zdc ?_ | refine zdd ?_)
  refine ws_cond rfl (fun hd => ?_) (fun hd => ?_)
  · have hlt : (j : Int) < ((k + 1 : Nat) : Int) := of_decide_eq_true hd
    clear hd
    have hnext : ((j + 1 : Nat) : Int) = (j : Int) + 1 := by omega
    have hv : parQ w P (k + 1) j j = sP w P j := by unfold parQ; rw [if_neg (by omega)]; rfl
    repeat first | refine zaa rfl (zay rfl) ?_ | refine zaa rfl (zaz rfl) ?_ | (refine zac ?_; refine zaa rfl (zba rfl rfl rfl) ?_) | (refine zae ?_; refine zaa rfl (zbt rfl rfl (by (repeat (first | exact mh | refine mt ?_)); done) (by omega)) ?_) | (refine zaf ?_; refine zaa rfl (zbw rfl rfl (by omega) (by omega)) ?_) | refine zah ?_ | (refine zcr ?_; refine zcs ?_) | (refine zdb ?_; first | refine zdc ?_ | refine zdd ?_ | refine zde ?_ | refine zdf ?_)
    refine rs_storeT 0 (parQ w P (k + 1) (j + 1)) (i := (j : Int)) rfl rfl rfl ⟨by omega, hlt, hc1⟩ ?_ (fun s h0 h1 hs => ?_) ?_
    · rw [hv]
      unfold parQ
      rw [if_pos (by omega)]
      rfl
    · unfold parQ
      by_cases hc : s < j
      · rw [if_pos hc, if_pos (by omega)]
      · rw [if_neg hc, if_neg (by omega)]
    repeat first | refine zaa rfl (zay rfl) ?_ | (refine zac ?_; refine zaa rfl (zbb rfl rfl (by omega)) ?_) | refine zah ?_ | (refine zcr ?_; first | refine zcs ?_ | refine zcv ?_) | (refine zdb ?_; refine zdd ?_)
    refine done_round (j + 1) (by omega) (by omega) ?_ (fun _ h => h)
    rw [hnext]
    (repeat (first | exact Env.sub_nil _ | refine Env.sub_cons rfl ?_))
  have hge : ¬ (j : Int) < ((k + 1 : Nat) : Int) := of_decide_eq_false hd
  obtain rfl : j = k + 1 := by omega
  clear hd hge hj
  repeat first | refine zaa rfl (zay rfl) ?_ | (refine zaf ?_; refine zaa rfl (zbw rfl rfl (by omega) (by omega)) ?_) | (refine zcr ?_; first | refine zcs ?_ | refine zcu ?_ | refine zcx ?_ | refine zda ?_) | (refine zdb ?_; first | refine zdc ?_ | refine zdd ?_ | refine zdh ?_)
  refine rs_storeT 0 (put1S 0 (fv .f32 0) (parQ w P (k + 1) (k + 1))) (i := 0) rfl rfl rfl ⟨by omega, by omega, hc1⟩ (if_pos rfl) (fun s h0 h1 hs => if_neg hs) ?_
  repeat first | refine zaa rfl (zay rfl) ?_ | (refine zac ?_; refine zaa rfl (zbc rfl rfl (by omega)) ?_) | (refine zad ?_; refine zaa rfl (zbn rfl) ?_) | (refine zaf ?_; refine zaa rfl (zbw rfl rfl (by omega) (by omega)) ?_) | refine zah ?_ | (refine zcr ?_; refine zcs ?_) | (refine zdb ?_; first | refine zdc ?_ | refine zdd ?_)
  refine rs_storeT 0 (parS w P (k + 1)) (i := ((k + 1 : Nat) : Int) - 1) rfl rfl rfl ⟨by omega, by omega, hc1⟩ (if_pos rfl) (fun s h0 h1 hs => if_neg hs) ?_
  repeat first | refine zaa rfl (zay rfl) ?_ | refine zaa rfl (zaz rfl) ?_ | (refine zad ?_; (refine zaa rfl (zci rfl rfl (hFi) ?_) ?_; (focus ((repeat (first | exact Takes.nil | refine Takes.sl ?_ | refine Takes.lit ?_ | refine Takes.fa ?_ | refine Takes.fc ?_ | refine Takes.net ?_ | (refine Takes.ownE ?_ ?_ ?_ ?_ ?_; (focus (exact ⟨_, _, (by (repeat (first | exact mh | refine mt ?_)); done)⟩)); (focus (simp; done)); (focus omega); (focus (simp only [maxLen]; omega))) | refine Takes.same ?_)); done)))) | refine zah ?_ | (refine zcr ?_; refine zcs ?_) | (refine zdb ?_; first | refine zdc ?_ | refine zdd ?_ | refine zdg ?_)
  exact done_ret2 rfl (g, cap) rfl rfl rfl ⟨hc1, hc2⟩ (List.Sublist.refl _)
end
end Go.Ab
namespace Go.Ab
def drawOkV (ops : Array Oper) (n d : Nat) : Bool :=
  (match ops[n]? with
    | some o => o.dst == some d && o.guard.isNone && (looks ops o).all (fun t => (List.range n).all fun j => gslot ops j != some t || ((Region.before ops).getD n 0).testBit j)
    | none => false) &&
  (List.range n).all (fun j => gslot ops j != some d) &&
  (List.range n).all (fun i => match ops[i]? with
    | some o => o.dst.isSome && (List.range n).all (fun j => j == i || gslot ops j != o.dst) &&
        (looks ops o).all (fun t => (List.range n).all fun j => gslot ops j != some t || (decide (j < i) && (directs o).contains j))
    | none => false) &&
  (List.range ops.size).all (fun k => decide (k < n + 1) || (List.range k).all fun i => ((Region.before ops).getD k 0).testBit i) &&
  (List.range ops.size).all (fun k => match ops[k]? with
    | some o => (directs o).all fun j => decide (j < k)
    | none => false)

/-- An operation that turns the world and gives a value. -/
def EffV (P : Program) (S0 S1 : World → Prop) (c : Value) (e : Env) (o : Oper) : Prop :=
  ∀ (a : Act) (w : World) (K : Act → World → Prop) (Q : Exit → Act → World → Prop), S0 w →
    (∀ x ∈ o.op.operands.toList, ∀ y, e.ev x = some y → Rel w y (a.eval x)) →
    (∀ w', S1 w' → K (a.put o.dst c) w') → o.wp P a w K Q
section
variable {P : Program} {N : Nat} {S S0 S1 W : World → Prop} {e : Env} {Q : Exit → Env → World → Prop} {ops : Array Oper} {l : List Oper} {o : Oper}
theorem ev_sub {e e' : Env} (h : Env.sub e e') {x : Operand} {y : AV} (hx : e.ev x = some y) : e'.ev x = some y := by
  cases x with
  | tmp t => exact h t y hx
  | const c => exact hx
  | global g => exact hx
  | func f => exact hx
theorem opJ_sub {e e' : Env} (h : Env.sub e e') {v : AV} (hj : OpJ P S e o v) : OpJ P S e' o v := fun a w K Q hS ho hK => hj a w K Q hS (fun x hx y hy => ho x hx y (ev_sub h hy)) hK
theorem opG_sub {e e' : Env} (h : Env.sub e e') {v : AV} (hj : OpG P S ops e o v) : OpG P S ops e' o v := by
  unfold OpG at hj ⊢
  cases hg : o.guard with
  | none => simp only [hg] at hj ⊢; exact opJ_sub h hj
  | some jb =>
    obtain ⟨j, b⟩ := jb
    simp only [hg] at hj ⊢
    obtain ⟨y, c, h1, h2, h3⟩ := hj
    refine ⟨y, c, h1, h y _ h2, ?_⟩
    rcases h3 with ⟨h3, h4⟩ | h3
    · exact .inl ⟨h3, opJ_sub h h4⟩
    · exact .inr h3
theorem drawOkV_spec {n d : Nat} (h : drawOkV ops n d = true) : (∃ o, ops[n]? = some o ∧ o.dst = some d ∧ o.guard = none ∧ ∀ t ∈ looks ops o, ∀ j, j < n → gslot ops j = some t → Must ops j n) ∧ (∀ j, j < n → gslot ops j ≠ some d) ∧
    (∀ i o, i < n → ops[i]? = some o → (∃ d, o.dst = some d) ∧ (∀ j, j < n → j ≠ i → gslot ops j ≠ o.dst) ∧ ∀ t ∈ looks ops o, ∀ j, j < n → gslot ops j = some t → j < i ∧ j ∈ directs o) ∧
    (∀ k i, n + 1 ≤ k → k < ops.size → i < k → Must ops i k) ∧ (∀ k o, ops[k]? = some o → ∀ j ∈ directs o, j < k) := by
  unfold drawOkV at h
  simp only [Bool.and_eq_true, List.all_eq_true, List.mem_range] at h
  obtain ⟨⟨⟨⟨h1, h0⟩, h2⟩, h3⟩, h4⟩ := h
  refine ⟨?_, fun j hj => by simpa using h0 j hj, fun i o hi ho => ?_, fun k i hk hks hik => ?_, fun k o ho j hj => ?_⟩
  · cases ho : ops[n]? with
    | none => simp [ho] at h1
    | some o =>
      simp only [ho, Bool.and_eq_true, List.all_eq_true, List.mem_range, Bool.or_eq_true, bne_iff_ne, Option.isNone_iff_eq_none, beq_iff_eq] at h1
      obtain ⟨⟨ha, hb⟩, hc⟩ := h1
      exact ⟨o, rfl, ha, hb, fun t ht j hj hg => before_must ops n j ((hc t ht j hj).resolve_left fun hne => hne hg)⟩
  · have := h2 i hi
    simp only [ho, Bool.and_eq_true, List.all_eq_true, List.mem_range, Bool.or_eq_true, beq_iff_eq, bne_iff_ne, decide_eq_true_eq, List.contains_iff_mem] at this
    obtain ⟨⟨ha, hb⟩, hc⟩ := this
    refine ⟨Option.isSome_iff_exists.1 ha, fun j hj hji => (hb j hj).resolve_left hji, fun t ht j hj hg => ?_⟩
    exact (hc t ht j hj).resolve_left (fun hne => hne hg)
  · have := h3 k hks
    simp only [Bool.or_eq_true, decide_eq_true_eq, List.all_eq_true, List.mem_range] at this
    exact before_must ops k i ((this.resolve_left (by omega)) i hik)
  · have hk : k < ops.size := (Array.getElem?_eq_some_iff.1 ho).1
    have := h4 k hk
    simp only [ho, List.all_eq_true, decide_eq_true_eq] at this
    exact this j hj

theorem ws_drawV {n rid d : Nat} (c : Value) [Cl W] [Cl S0] [Cl S1] (hm : P.follows .mixedOrders = true) (hchk : drawOkV ops n d = true) (hdN : Nat.blt d N = true) (hfr : e.look d = none) (hW0 : ∀ w, S0 w → W w) (hW1 : ∀ w, S1 w → W w)
    (h : Run1 P N W ops (ops.toList.take n) e (fun e' => lateStill ops n e' = true ∧ (∀ o, ops[n]? = some o → EffV P S0 S1 c e' o) ∧ RS P N ops (ops.toList.drop (n + 1)) ((d, .raw c) :: e'.keep) S1 Q)) : WS P N (.region rid ops true) e S0 Q := by
  obtain ⟨⟨on, hon, hodst, hogd, holk⟩, hnd, hfirst, hmust, hback⟩ := drawOkV_spec hchk
  have hn : n < ops.size := (Array.getElem?_eq_some_iff.1 hon).1
  obtain ⟨ps, hlen, ⟨hstill, hE, hR⟩, hall⟩ := run1_spec h
  have hlen' : ps.length = n := by rw [hlen]; simp; omega
  have hop : ∀ i, i < n → ∃ o p, ops[i]? = some o ∧ ps[i]? = some p ∧ o.dst = some p.1 ∧ p.1 < N ∧ OpG P W ops (after1 (ps.take i) e) o p.2 := fun i hi => by
    have ho : ops[i]? = some (ops[i]'(by omega)) := by simp
    have hp : ps[i]? = some (ps[i]'(by omega)) := by simp
    obtain ⟨h1, h2, h3⟩ := hall i (ops[i]'(by omega)) (ps[i]'(by omega)) (by rw [List.getElem?_take, if_pos hi]; simp) hp
    exact ⟨_, _, ho, hp, h1, h2, h3⟩
  have hslot : ∀ i p, ps[i]? = some p → gslot ops i = some p.1 := fun i p hp => by
    have hi : i < n := by rw [← hlen']; exact (List.getElem?_eq_some_iff.1 hp).1
    obtain ⟨o, p', ho, hp', hd, _⟩ := hop i hi
    rw [hp'] at hp; cases hp
    simp [gslot, ho, hd]
  have hdps : ∀ q ∈ ps, q.1 ≠ d := fun q hq he => by
    obtain ⟨j, hj⟩ := List.mem_iff_getElem?.1 hq
    exact hnd j (by rw [← hlen']; exact (List.getElem?_eq_some_iff.1 hj).1) (by rw [hslot j q hj, he])
  have hsubE : Env.sub e ((d, .raw c) :: e) := fun t v ht => by
    simp only [Env.look]
    cases hb : Nat.beq d t with
    | true => rw [← Nat.eq_of_beq_eq_true hb, hfr] at ht; cases ht
    | false => exact ht
  have hsubA : ∀ l : List (Nat × AV), Env.sub (after1 l e) (after1 l ((d, .raw c) :: e)) := fun l t v ht => by
    unfold after1 at ht ⊢
    rw [look_append] at ht ⊢
    cases hl : Env.look l.reverse t with
    | some x => simp only [hl] at ht ⊢; exact ht
    | none => simp only [hl] at ht ⊢; exact hsubE t v ht
  have hop1 : ∀ i, i < n → ∃ o p, ops[i]? = some o ∧ ps[i]? = some p ∧ o.dst = some p.1 ∧ p.1 < N ∧ OpG P W ops (after1 (ps.take i) ((d, .raw c) :: e)) o p.2 := fun i hi => by
    obtain ⟨o, p, h1, h2, h3, h4, h5⟩ := hop i hi
    exact ⟨o, p, h1, h2, h3, h4, opG_sub (hsubA _) h5⟩
  -- what a frame with all listed is
  have hfull : ∀ (S : World → Prop) (κ : AV → AV) (L : Array Bool) (a : Act) (w : World), DI N ops ps ((d, .raw c) :: e) S κ L a w → (∀ i, i < n → Listed L i) → ∀ t v, (after1 ps ((d, .raw c) :: e)).look t = some v → ∃ u, a.tmps[t]? = some u ∧ Rel w (κ v) u := fun S κ L a w hI hal t v ht => by
    unfold after1 at ht
    rw [look_append] at ht
    cases hl : Env.look ps.reverse t with
    | some x =>
      simp only [hl, Option.some.injEq] at ht; subst ht
      obtain ⟨i, hi⟩ := List.mem_iff_getElem?.1 (List.mem_reverse.1 (look_mem _ _ _ hl))
      exact hI.vals i _ hi (hal i (by have := (List.getElem?_eq_some_iff.1 hi).1; omega))
    | none =>
      simp only [hl] at ht
      exact hI.base t v (by have := (look_none_iff _ _).1 hl; simpa using this) ht
  have hfin : ∀ (L : Array Bool) (a : Act) (w : World), DI N ops ps ((d, .raw c) :: e) S1 kp L a w → (∀ i, i < n → Listed L i) → ∀ t v, Env.look ((d, .raw c) :: (after1 ps e).keep) t = some v → ∃ u, a.tmps[t]? = some u ∧ Rel w v u := fun L a w hI hal t v ht => by
    have hd1 : (after1 ps ((d, .raw c) :: e)).look d = some (.raw c) := by
      unfold after1
      rw [look_append]
      have : Env.look ps.reverse d = none := by
        rw [look_none_iff]
        intro hm'
        rw [List.map_reverse, List.mem_reverse] at hm'
        obtain ⟨q, hq, hqd⟩ := List.mem_map.1 hm'
        exact hdps q hq hqd
      rw [this]
      simp only [Env.look, Nat.beq_refl]
    simp only [Env.look] at ht
    cases hb : Nat.beq d t with
    | true =>
      simp only [hb, Option.some.injEq] at ht
      subst ht
      rw [← Nat.eq_of_beq_eq_true hb]
      obtain ⟨u, hu, hr⟩ := hfull _ _ _ _ _ hI hal d _ hd1
      exact ⟨u, hu, by rw [kp_still rfl] at hr; exact hr⟩
    | false =>
      simp only [hb] at ht
      rw [look_keep_kp] at ht
      obtain ⟨x, hx, rfl⟩ := Option.map_eq_some_iff.1 ht
      exact hfull _ _ _ _ _ hI hal t x (hsubA ps t x hx)
  -- behind the store
  have key1 : ∀ (fuel : Nat) (L : Array Bool) (a : Act) (w : World), DI N ops ps ((d, .raw c) :: e) S1 kp L a w → Listed L n → (∀ k, n + 1 ≤ k → ¬ Listed L k) → unL L ≤ fuel →
      wpAny P .any ops (fun x a' w' => ∃ e', Fr N e' a' w' ∧ Q x e' w') fuel L a w := by
    intro fuel
    induction fuel with
    | zero =>
      intro L a w hI hln hno hu
      have hal : ∀ i, i < n → Listed L i := fun i hi => unL_zero (by omega) (by rw [hI.hL]; omega)
      refine wpAny_tail (P := P) (n := n + 1) hmust hback 0 (n + 1) L a w (Nat.le_refl _) hn hI.hL (fun i => ⟨fun h => ?_, fun h => ?_⟩) (unL_tail hI.hL hno hu) (hR a w hI.hS ⟨hI.df, hI.sz, fun t v ht => ?_⟩)
      · rcases Nat.lt_or_ge i (n + 1) with h' | h'
        · exact h'
        · exact absurd h (hno i h')
      · rcases Nat.lt_or_ge i n with h' | h'
        · exact hal i h'
        · have : i = n := by omega
          subst this; exact hln
      · exact hfin _ _ _ hI hal t v ht
    | succ fuel ih =>
      intro L a w hI hln hno hu
      by_cases hal : ∀ i, i < n → Listed L i
      · refine wpAny_tail (P := P) (n := n + 1) hmust hback (fuel + 1) (n + 1) L a w (Nat.le_refl _) hn hI.hL (fun i => ⟨fun h => ?_, fun h => ?_⟩) (unL_tail hI.hL hno hu) (hR a w hI.hS ⟨hI.df, hI.sz, fun t v ht => ?_⟩)
        · rcases Nat.lt_or_ge i (n + 1) with h' | h'
          · exact h'
          · exact absurd h (hno i h')
        · rcases Nat.lt_or_ge i n with h' | h'
          · exact hal i h'
          · have : i = n := by omega
            subst this; exact hln
        · exact hfin _ _ _ hI hal t v ht
      · have hex : ∃ i, i < n ∧ ¬ Listed L i := by
          false_or_by_contra
          rename_i hc
          exact hal fun i hi => by
            false_or_by_contra
            rename_i hn'
            exact hc ⟨i, hi, hn'⟩
        obtain ⟨i0, hi0, hil0⟩ := hex
        refine ⟨fun hnil => absurd hnil (ready_ne hI.hL hback (by omega) hil0), fun i hi => ?_⟩
        obtain ⟨h1, h2, h3⟩ := (ready_iff hI.hL i).1 hi
        have hin : i < n := by
          rcases Nat.lt_or_ge i n with h' | h'
          · exact h'
          · rcases Nat.eq_or_lt_of_le h' with h' | h'
            · subst h'; exact absurd hln h2
            · exact absurd (fun j hj => (hmust i j (by omega) h1 (by omega)).listed hI.hd h3) hal
        have hlate : ((Region.before ops).getD n 0).testBit i = false := by
          cases hb : ((Region.before ops).getD n 0).testBit i with
          | false => rfl
          | true => exact absurd ((before_must ops n i hb).listed hI.hd fun o ho j hj => hI.hd n o ho hln j hj) h2
        refine DI.pure_step (n := n) hlen' (by omega) (fun _ _ _ h => rel_kp h) hW1 hop1 hslot hfirst hI hi hin (fun o ho t ht v hv => ?_) (fun a' w' hI' => ?_)
        · unfold lateStill at hstill
          simp only [List.all_eq_true, List.mem_range, Bool.or_eq_true] at hstill
          have := (hstill i hin).resolve_left (by rw [hlate]; simp)
          simp only [ho, List.all_eq_true] at this
          have hs := this t ht
          -- later operations do not write what is looked at
          have hl2 : (after1 ps ((d, .raw c) :: e)).look t = some v := by
            unfold after1 at hv ⊢
            rw [look_append] at hv ⊢
            have hsame : Env.look ps.reverse t = Env.look (ps.take i).reverse t := by
              have hsplit : ps.reverse = (ps.drop i).reverse ++ (ps.take i).reverse := by rw [← List.reverse_append, List.take_append_drop]
              rw [hsplit, look_append]
              have : Env.look (ps.drop i).reverse t = none := by
                rw [look_none_iff]
                intro hm'
                rw [List.map_reverse, List.mem_reverse] at hm'
                obtain ⟨q, hq, hqt⟩ := List.mem_map.1 hm'
                obtain ⟨j, hj⟩ := List.mem_iff_getElem?.1 hq
                rw [List.getElem?_drop] at hj
                have hjn : i + j < n := by rw [← hlen']; exact (List.getElem?_eq_some_iff.1 hj).1
                have := ((hfirst i o hin ho).2.2 t ht (i + j) hjn (by rw [hslot _ q hj, ← hqt])).1
                omega
              rw [this]
            rw [hsame]
            exact hv
          unfold after1 at hl2
          rw [look_append] at hl2
          unfold stillAt after1 at hs
          rw [look_append] at hs
          cases hl : Env.look ps.reverse t with
          | some x =>
            simp only [hl] at hl2 hs
            cases hl2
            exact kp_still hs
          | none =>
            simp only [hl, Env.look] at hl2 hs
            cases hb : Nat.beq d t with
            | true =>
              simp only [hb, Option.some.injEq] at hl2
              subst hl2
              exact kp_still rfl
            | false =>
              simp only [hb] at hl2
              rw [hl2] at hs
              exact kp_still hs
        · have hiL : i < L.size := by rw [hI.hL]; omega
          refine ih _ a' w' hI' ((listed_set hiL).2 (.inr hln)) (fun k hk hk' => ?_) (by have := unL_set hiL h2; omega)
          rcases (listed_set hiL).1 hk' with rfl | hk'
          · omega
          · exact hno k hk hk'
  -- ahead of the store
  have key0 : ∀ (fuel : Nat) (L : Array Bool) (a : Act) (w : World), DI N ops ps e S0 id L a w → (∀ k, n ≤ k → ¬ Listed L k) → unL L ≤ fuel →
      wpAny P .any ops (fun x a' w' => ∃ e', Fr N e' a' w' ∧ Q x e' w') fuel L a w := by
    intro fuel
    induction fuel with
    | zero =>
      intro L a w hI hno hu
      exact absurd (unL_zero (by omega) (by rw [hI.hL]; exact hn)) (hno n (Nat.le_refl _))
    | succ fuel ih =>
      intro L a w hI hno hu
      refine ⟨fun hnil => absurd hnil (ready_ne hI.hL hback hn (hno n (Nat.le_refl _))), fun i hi => ?_⟩
      obtain ⟨h1, h2, h3⟩ := (ready_iff hI.hL i).1 hi
      have hiL : i < L.size := by rw [hI.hL]; omega
      rcases Nat.lt_or_ge i n with hin | hin
      · refine DI.pure_step (n := n) hlen' (by omega) (fun _ _ _ h => h) hW0 hop hslot hfirst hI hi hin (fun _ _ _ _ _ _ => rfl) (fun a' w' hI' => ?_)
        refine ih _ a' w' hI' (fun k hk hk' => ?_) (by have := unL_set hiL h2; omega)
        rcases (listed_set hiL).1 hk' with rfl | hk'
        · omega
        · exact hno k hk hk'
      · rcases Nat.eq_or_lt_of_le hin with h' | h'
        · subst h'
          unfold wpOp
          simp only [hon]
          rw [if_pos (by simp [Region.wanted, hogd])]
          refine .inl (hE on hon a w _ _ hI.hS (fun x hx y hy => ?_) (fun w' hS1 => ?_))
          · cases x with
            | tmp t =>
              have ht : t ∈ looks ops on := List.mem_append_left _ (List.mem_filterMap.2 ⟨_, hx, rfl⟩)
              have : ∃ u, a.tmps[t]? = some u ∧ Rel w y u := by
                have hy' : (after1 ps e).look t = some y := hy
                unfold after1 at hy'
                rw [look_append] at hy'
                cases hl : Env.look ps.reverse t with
                | some x =>
                  simp only [hl, Option.some.injEq] at hy'; subst hy'
                  obtain ⟨j, hj⟩ := List.mem_iff_getElem?.1 (List.mem_reverse.1 (look_mem _ _ _ hl))
                  have hjn : j < n := by rw [← hlen']; exact (List.getElem?_eq_some_iff.1 hj).1
                  exact hI.vals j _ hj ((holk t ht j hjn (hslot j _ hj)).listed hI.hd h3)
                | none =>
                  simp only [hl] at hy'
                  exact hI.base t y (by have := (look_none_iff _ _).1 hl; simpa using this) hy'
              obtain ⟨u, hu', hr⟩ := this
              have : a.eval (.tmp t) = u := by simp [Act.eval, hu']
              rw [this]; exact hr
            | const c =>
              simp only [Env.ev] at hy
              split at hy
              · rename_i hc; cases hy; exact rel_cv w c hc
              · cases hy
            | global g => cases hy; exact .raw
            | func f => cases hy; exact .raw
          · have hdN' : d < a.tmps.size := by rw [hI.sz]; exact Nat.le_of_ble_eq_true hdN
            have hother : ∀ t u, t ≠ d → a.tmps[t]? = some u → (a.put on.dst c).tmps[t]? = some u := fun t u hne hu => by
              simp [hodst, Act.put, Array.getElem?_setIfInBounds_ne (Ne.symm hne), hu]
            refine key1 fuel _ (a.put on.dst c) w' ⟨by simpa using hI.hL, fun k x hx hk j hj => ?_, hS1, by simp [hodst, Act.put, hI.df], by simp [hodst, Act.put, hI.sz], fun j q hq hj => ?_, fun t v ht hv => ?_⟩ ((listed_set hiL).2 (.inl rfl)) (fun k hk hk' => ?_) (by have := unL_set hiL h2; omega)
            · rw [listed_set hiL]
              rcases (listed_set hiL).1 hk with rfl | hk
              · exact .inr (h3 x hx j hj)
              · exact .inr (hI.hd k x hx hk j hj)
            · have hjn : j < n := by rw [← hlen']; exact (List.getElem?_eq_some_iff.1 hq).1
              obtain ⟨u, hu', hr⟩ := hI.vals j q hq (((listed_set hiL).1 hj).resolve_left (by omega))
              exact ⟨u, hother _ _ (hdps q (List.mem_of_getElem? hq)) hu', rel_kp_any hr⟩
            · simp only [Env.look] at hv
              cases hb : Nat.beq d t with
              | true =>
                simp only [hb, Option.some.injEq] at hv
                subst hv
                rw [← Nat.eq_of_beq_eq_true hb]
                exact ⟨c, by simp [hodst, Act.put, hdN'], rel_kp .raw⟩
              | false =>
                simp only [hb] at hv
                obtain ⟨u, hu', hr⟩ := hI.base t v ht hv
                have hne : t ≠ d := fun he => by rw [he, Nat.beq_refl] at hb; cases hb
                exact ⟨u, hother _ _ hne hu', rel_kp_any hr⟩
            · rcases (listed_set hiL).1 hk' with rfl | hk'
              · omega
              · exact hno k (by omega) hk'
        · exact absurd ((hmust i n (by omega) h1 h').listed hI.hd h3) (hno n (Nat.le_refl _))
  intro a w hS hF
  refine wp_region_any hm ?_
  have hw0 : Ext w { w with drawn := w.drawn + 1 } := Ext.of_quiet (.inr rfl)
  have hS0 : S0 { w with drawn := w.drawn + 1 } := Cl.ext hS hw0
  have hF0 := hF.ext hw0
  generalize ({ w with drawn := w.drawn + 1 } : World) = w1 at hS0 hF0
  have hnl : ∀ k, ¬ Listed (Array.replicate ops.size false) k := fun k hk => by
    unfold Listed at hk; rw [Array.getD_eq_getD_getElem?, Array.getElem?_replicate] at hk; split at hk <;> simp at hk
  exact key0 ops.size _ a w1 ⟨by simp, fun k o _ hk => absurd hk (hnl k), hS0, hF0.defers, hF0.size, fun i p _ hi => absurd hi (hnl i), fun t v _ ht => hF0.rel t v ht⟩ (fun k _ => hnl k) (by unfold unL; simp)

end
end Go.Ab
