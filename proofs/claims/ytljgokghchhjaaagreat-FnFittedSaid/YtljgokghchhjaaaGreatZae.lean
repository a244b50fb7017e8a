/- Part 5 of the texts on which the law leans, joined: From a walk of a law to its row: what was read is read again, the answer is true. No conditions. -/
import Derived.ProofKit
import Derived.OpenShut
import Derived.Deep.Slices
import Derived.Test.YtljgokghchhjaaaGreatZad
namespace Go.Ab
open Go.Proofs
variable {R : World → Prop} [RStab R]
def hX (x : FV) : Nat → FV
  | 0 => x
  | j + 1 => fbin .quo .f64 (hX x j) d2
def tX (x : FV) : Nat → FV
  | 0 => x
  | j + 1 => fbin .mul .f64 (tX x j) d2
def hE : Nat → FV
  | 0 => d0
  | j + 1 => fbin .add .f64 (hE j) d1
def tE (e : FV) : Nat → FV
  | 0 => e
  | j + 1 => fbin .sub .f64 (tE e j) d1
/-- How often a number is halved or doubled. -/
structure LgN (x : FV) (a b : Nat) : Prop where
  a1 : a ≤ 1
  b1 : b ≤ 1
  h : ∀ j, j ≤ a → cmpB .geq (fcmp .f64 (hX x j) d15) = decide (j < a)
  t : ∀ j, j ≤ b → cmpB .lss (fcmp .f64 (tX (hX x a) j) d75) = decide (j < b)
  y : tX (hX x a) b = (lgY x).1
  e : tE (hE a) b = eI (lgY x).2
  i : (a : Int) - b = (lgY x).2
theorem lgN_ex {x : FV} {p : Rat} (hx : Vl .f64 x p) (hr : Rep .f32 p) (h : 48 / 100 ≤ p ∧ p ≤ 24 / 10) : ∃ a b, LgN x a b := by
  obtain ⟨_, _, h1, h2⟩ := lgY_vl hx hr h
  cases hg : cmpB .geq (fcmp .f64 x d15)
  · cases hl : cmpB .lss (fcmp .f64 x d75)
    · have e : lgY x = (x, 0) := by unfold lgY; rw [hg]; simp only; rw [hl]
      rw [e] at h1 h2
      refine ⟨0, 0, by omega, by omega, fun j hj => ?_, fun j hj => ?_, by rw [e]; rfl, by rw [e, eI_0]; rfl, by rw [e]; rfl⟩
      · obtain rfl : j = 0 := by omega
        exact hg
      · obtain rfl : j = 0 := by omega
        exact hl
    · have e : lgY x = (fbin .mul .f64 x d2, -1) := by unfold lgY; rw [hg]; simp only; rw [hl]
      rw [e] at h1 h2
      refine ⟨0, 1, by omega, by omega, fun j hj => ?_, fun j hj => ?_, by rw [e]; rfl, by rw [e]; exact eI_dn, by rw [e]; rfl⟩
      · obtain rfl : j = 0 := by omega
        exact hg
      · rcases (show j = 0 ∨ j = 1 from by omega) with rfl | rfl
        · exact hl
        · exact h2
  · have e : lgY x = (fbin .quo .f64 x d2, 1) := by unfold lgY; rw [hg]
    rw [e] at h1 h2
    refine ⟨1, 0, by omega, by omega, fun j hj => ?_, fun j hj => ?_, by rw [e]; rfl, by rw [e]; exact eI_up, by rw [e]; rfl⟩
    · rcases (show j = 0 ∨ j = 1 from by omega) with rfl | rfl
      · exact hg
      · exact h1
    · obtain rfl : j = 0 := by omega
      exact h2
attribute [local irreducible] WS RS Done OpJ Then InBlock Round Ret Env.sub FnH
theorem naturalLog_fn (x : FV) (a b : Nat) (h : LgN x a b) : Fn Tryz.prog 99 (fun _ => [.f .f64 x]) (.f .f64 (lgW x)) := by
  refine fn_intro Tryz.func99 rfl Tryz.ntmps99 (fun _ => Nat.le_of_ble_eq_true rfl) fun w0 => ?_
  repeat first | refine zaa rfl (zaz rfl) ?_ | refine zah ?_ | (refine zcr ?_; refine zcs ?_) | (refine zdb ?_; first | refine zdc ?_ | refine zdd ?_ | refine zde ?_)
  refine ws_loop (ι := Nat) (fun j => [(0, .f .f64 (hX x j)), (3, .f .f64 (hE j))]) (fun _ => St w0 [] []) (fun j => j ≤ a) (fun j => a - j) 0 (Nat.zero_le _) ?_ (fun _ h => h) (fun j hj => ?_)
  · (repeat (first | exact Env.sub_nil _ | refine Env.sub_cons rfl ?_))
  repeat first | refine zaa rfl (zay rfl) ?_ | (refine zac ?_; refine zaa rfl (zbd rfl rfl rfl) ?_) | refine zah ?_ | (refine zcr ?_; refine zcs ?_) | (refine zdb ?_; first | refine zdc ?_ | refine zdd ?_)
  rw [h.h j hj]
  refine ws_cond rfl (fun hd => ?_) (fun hd => ?_)
  · have hlt : j < a := of_decide_eq_true hd
    repeat first | refine zaa rfl (zay rfl) ?_ | refine zaa rfl (zaz rfl) ?_ | (refine zac ?_; refine zaa rfl (zba rfl rfl rfl) ?_) | refine zah ?_ | (refine zcr ?_; first | refine zcs ?_ | refine zcv ?_) | (refine zdb ?_; first | refine zdc ?_ | refine zdd ?_ | refine zde ?_ | refine zdf ?_)
    refine done_round (j + 1) (by omega) (by omega) ?_ (fun _ h => h)
    (repeat (first | exact Env.sub_nil _ | refine Env.sub_cons rfl ?_))
  have hge : ¬ j < a := of_decide_eq_false hd
  obtain rfl : j = a := by omega
  clear hd hge hj
  repeat first | (refine zcr ?_; first | refine zcs ?_ | refine zcu ?_ | refine zcx ?_ | refine zda ?_) | (refine zdb ?_; first | refine zdc ?_ | refine zde ?_ | refine zdh ?_)
  refine ws_loop (ι := Nat) (fun i => [(0, .f .f64 (tX (hX x j) i)), (3, .f .f64 (tE (hE j) i))]) (fun _ => St w0 [] []) (fun i => i ≤ b) (fun i => b - i) 0 (Nat.zero_le _) ?_ (fun _ h => h) (fun i hi => ?_)
  · (repeat (first | exact Env.sub_nil _ | refine Env.sub_cons rfl ?_))
  repeat first | refine zaa rfl (zay rfl) ?_ | (refine zac ?_; refine zaa rfl (zbd rfl rfl rfl) ?_) | refine zah ?_ | (refine zcr ?_; refine zcs ?_) | (refine zdb ?_; first | refine zdc ?_ | refine zdd ?_)
  rw [h.t i hi]
  refine ws_cond rfl (fun hd => ?_) (fun hd => ?_)
  · have hlt : i < b := of_decide_eq_true hd
    repeat first | refine zaa rfl (zay rfl) ?_ | refine zaa rfl (zaz rfl) ?_ | (refine zac ?_; refine zaa rfl (zba rfl rfl rfl) ?_) | refine zah ?_ | (refine zcr ?_; first | refine zcs ?_ | refine zcv ?_) | (refine zdb ?_; first | refine zdc ?_ | refine zdd ?_ | refine zde ?_ | refine zdf ?_)
    refine done_round (i + 1) (by omega) (by omega) ?_ (fun _ h => h)
    (repeat (first | exact Env.sub_nil _ | refine Env.sub_cons rfl ?_))
  have hge : ¬ i < b := of_decide_eq_false hd
  obtain rfl : i = b := by omega
  clear hd hge hi
  rw [h.y, h.e]
  repeat first | refine zaa rfl (zay rfl) ?_ | refine zaa rfl (zaz rfl) ?_ | (refine zac ?_; refine zaa rfl (zba rfl rfl rfl) ?_) | refine zah ?_ | (refine zcr ?_; first | refine zcs ?_ | refine zcu ?_ | refine zcx ?_ | refine zda ?_) | (refine zdb ?_; first | refine zdc ?_ | refine zdd ?_ | refine zde ?_ | refine zdh ?_)
  have hlw : lgW x = lgV (lgY x).1 (eI (lgY x).2) := rfl
  rw [hlw]
  generalize (lgY x).1 = y
  generalize eI (lgY x).2 = e
  clear hlw
  refine ws_loop (ι := Nat) (fun k => [(3, .f .f64 e), (4, .f .f64 (lgS y)), (5, .f .f64 (fbin .mul .f64 (lgS y) (lgS y))), (6, .f .f64 (lgQ (fbin .mul .f64 (lgS y) (lgS y)) k)), (7, .f .f64 (kO k))]) (fun _ => St w0 [] []) (fun k => k ≤ 13) (fun k => 13 - k) 0 (Nat.zero_le _) ?_ (fun _ h => h) (fun k hk => ?_)
  · rw [kO_0]
    (repeat (first | exact Env.sub_nil _ | refine Env.sub_cons rfl ?_))
  repeat first | refine zaa rfl (zay rfl) ?_ | (refine zac ?_; refine zaa rfl (zbd rfl rfl rfl) ?_) | refine zah ?_ | (refine zcr ?_; refine zcs ?_) | (refine zdb ?_; first | refine zdc ?_ | refine zdd ?_)
  rw [kO_ge (by omega)]
  refine ws_cond rfl (fun hd => ?_) (fun hd => ?_)
  · have hlt : k < 13 := of_decide_eq_true hd
    repeat first | refine zaa rfl (zay rfl) ?_ | refine zaa rfl (zaz rfl) ?_ | (refine zac ?_; refine zaa rfl (zba rfl rfl rfl) ?_) | refine zah ?_ | (refine zcr ?_; first | refine zcs ?_ | refine zcv ?_) | (refine zdb ?_; first | refine zdc ?_ | refine zdd ?_ | refine zde ?_ | refine zdf ?_)
    rw [kO_next hlt]
    skip
    refine done_round (k + 1) (by omega) (by omega) ?_ (fun _ h => h)
    (repeat (first | exact Env.sub_nil _ | refine Env.sub_cons rfl ?_))
  have hge : ¬ k < 13 := of_decide_eq_false hd
  obtain rfl : k = 13 := by omega
  repeat first | refine zaa rfl (zay rfl) ?_ | refine zaa rfl (zaz rfl) ?_ | (refine zac ?_; refine zaa rfl (zba rfl rfl rfl) ?_) | refine zah ?_ | (refine zcr ?_; first | refine zcs ?_ | refine zcu ?_ | refine zcx ?_ | refine zda ?_) | (refine zdb ?_; first | refine zdc ?_ | refine zdd ?_ | refine zdg ?_ | refine zdh ?_)
  exact done_ret1 rfl () rfl trivial (List.nil_sublist _)
theorem logNumber_fn {x : FV} {p : Rat} (hx : Vl .f32 x p) (h : 48 / 100 ≤ p ∧ p ≤ 24 / 10) : Fn Tryz.prog 91 (fun _ => [.f .f32 x]) (.f .f32 (lgF x)) := by
  obtain ⟨a, b, hN⟩ := lgN_ex (vl_wide hx) (vl_rep hx) h
  have hL := naturalLog_fn _ a b hN
  have hc := (lgF_vl hx h).1
  have v0 : Vl .f32 (fv .f32 0) 0 := Vl.c (by decide +kernel)
  have e1 : cmpB .eql (fcmp .f32 x (fv .f32 0)) = false := by rw [vl_eql hx v0]; exact decide_eq_false (by grind)
  have e2 : cmpB .lss (fcmp .f32 x (fv .f32 0)) = false := by rw [vl_lss hx v0]; exact decide_eq_false (by grind)
  have e3 : cmpB .neq (fcmp .f32 x x) = false := by rw [vl_neq hx hx]; exact decide_eq_false (by grind)
  have hF := isFinite_fn x
  have e4 : finB x = true := vl_fin hx
  rw [e4] at hF
  refine fn_intro Tryz.func91 rfl Tryz.ntmps91 (fun _ => Nat.le_of_ble_eq_true rfl) fun w0 => ?_
  repeat first | refine zaa rfl (zay rfl) ?_ | refine zaa rfl (zaz rfl) ?_ | (refine zac ?_; refine zaa rfl (zbd rfl rfl rfl) ?_) | refine zah ?_ | (refine zcr ?_; refine zcs ?_) | (refine zdb ?_; first | refine zdc ?_ | refine zdd ?_ | refine zde ?_)
  rw [e1]
  repeat first | refine zaa rfl (zay rfl) ?_ | (refine zac ?_; refine zaa rfl (zbd rfl rfl rfl) ?_) | (refine zdb ?_; first | refine zdc ?_ | refine zdd ?_ | refine zdj rfl ?_)
  rw [e2]
  repeat first | refine zai rfl rfl ?_ | refine zaa rfl (zay rfl) ?_ | refine zaa rfl (zaz rfl) ?_ | (refine zac ?_; refine zaa rfl (zbd rfl rfl rfl) ?_) | refine zaa rfl (zcb rfl rfl) ?_ | refine zah ?_ | (refine zcr ?_; refine zcs ?_)
  rw [e3]
  repeat first | refine zaa rfl (zay rfl) ?_ | refine zaa rfl (zaz rfl) ?_ | (refine zad ?_; first | (refine zaa rfl (zci rfl rfl (hF) ?_) ?_; (focus ((repeat (first | exact Takes.nil | refine Takes.sl ?_ | refine Takes.own (by (repeat (first | exact mh | refine mt ?_)); done) (by simp) (by omega) (by simp only [maxLen]; omega) ?_ | refine Takes.same ?_)); done))) | (refine zaa rfl (zci rfl rfl (hL) ?_) ?_; (focus ((repeat (first | exact Takes.nil | refine Takes.sl ?_ | refine Takes.own (by (repeat (first | exact mh | refine mt ?_)); done) (by simp) (by omega) (by simp only [maxLen]; omega) ?_ | refine Takes.same ?_)); done)))) | refine zaa rfl (zbx rfl) ?_ | refine zaa rfl (zcc rfl) ?_ | refine zah ?_ | (refine zcr ?_; first | refine zcs ?_ | refine zcv ?_) | (refine zdb ?_; first | refine zdc ?_ | refine zdd ?_ | refine zdf ?_ | refine zdg ?_ | refine zdj rfl ?_) | refine zaa rfl (opj_fconv rfl hc) ?_
  exact done_ret1 rfl () rfl trivial (List.nil_sublist _)
theorem l01LogWide_fn {x : FV} {p : Rat} (hx : Vl .f64 x p) (hr : Rep .f32 p) (h : 48 / 100 ≤ p ∧ p ≤ 24 / 10) : Fn Tryz.prog 89 (fun _ => [.f .f64 x]) (.f .f64 (lgW x)) := by
  obtain ⟨a, b, hN⟩ := lgN_ex hx hr h
  have e1 : cmpB .neq (fcmp .f64 x x) = false := by rw [vl_neq hx hx]; exact decide_eq_false (by grind)
  have e2 : cmpB .lss (fcmp .f64 x d0) = false := by rw [vl_lss hx vl_d0]; exact decide_eq_false (by grind)
  have e3 : cmpB .eql (fcmp .f64 x d0) = false := by rw [vl_eql hx vl_d0]; exact decide_eq_false (by grind)
  have vB : ∃ q, Vl .f64 (fv .f64 9218868437227405311) q ∧ 1000 ≤ q := ⟨_, Vl.c (q := (2 ^ 53 - 1) * p2 971) (by decide +kernel), by decide +kernel⟩
  have e4 : cmpB .gtr (fcmp .f64 x (fv .f64 9218868437227405311)) = false := by
    obtain ⟨q, hq, h1⟩ := vB
    rw [vl_gtr hx hq]
    exact decide_eq_false (by grind)
  have hInf : Fn Tryz.prog 98 (fun _ => [.f .f64 x, .raw (.int .i64 1)]) (.raw (.bool false)) := by
    refine fn_intro Tryz.func98 rfl Tryz.ntmps98 (fun _ => Nat.le_of_ble_eq_true rfl) fun w0 => ?_
    repeat first | refine zaa rfl (zay rfl) ?_ | refine zaa rfl (zaz rfl) ?_ | (refine zac ?_; first | refine zaa rfl (zbd rfl rfl rfl) ?_ | refine zaa rfl (zbe rfl rfl) ?_ | refine zaa rfl (zbi rfl rfl) ?_) | refine zah ?_ | (refine zcr ?_; refine zcs ?_) | (refine zdb ?_; first | refine zdc ?_ | refine zdd ?_ | refine zdf ?_ | refine zdg ?_ | refine zdj rfl ?_)
    rw [e4]
    skip
    exact done_ret1 rfl () rfl trivial (List.nil_sublist _)
  refine fn_intro Tryz.func89 rfl Tryz.ntmps89 (fun _ => Nat.le_of_ble_eq_true rfl) fun w0 => ?_
  repeat first | refine zaa rfl (zay rfl) ?_ | refine zaa rfl (zaz rfl) ?_ | (refine zac ?_; refine zaa rfl (zbd rfl rfl rfl) ?_) | refine zah ?_ | (refine zcr ?_; refine zcs ?_) | (refine zdb ?_; first | refine zdc ?_ | refine zdd ?_ | refine zde ?_)
  rw [e1]
  repeat first | refine zai rfl rfl ?_ | refine zaa rfl (zay rfl) ?_ | refine zaa rfl (zaz rfl) ?_ | (refine zac ?_; refine zaa rfl (zbd rfl rfl rfl) ?_) | refine zaa rfl (zcb rfl rfl) ?_ | refine zah ?_ | (refine zcr ?_; refine zcs ?_)
  rw [e2]
  repeat first | refine zaa rfl (zay rfl) ?_ | refine zaa rfl (zaz rfl) ?_ | (refine zac ?_; refine zaa rfl (zbd rfl rfl rfl) ?_) | refine zah ?_ | (refine zcr ?_; refine zcs ?_) | (refine zdb ?_; first | refine zdc ?_ | refine zdd ?_ | refine zdj rfl ?_)
  rw [e3]
  repeat first | refine zaa rfl (zay rfl) ?_ | refine zaa rfl (zaz rfl) ?_ | (refine zad ?_; (refine zaa rfl (zci rfl rfl (hInf) ?_) ?_; (focus ((repeat (first | exact Takes.nil | refine Takes.sl ?_ | refine Takes.own (by (repeat (first | exact mh | refine mt ?_)); done) (by simp) (by omega) (by simp only [maxLen]; omega) ?_ | refine Takes.same ?_)); done)))) | refine zah ?_ | (refine zcr ?_; first | refine zcs ?_ | refine zcv ?_) | (refine zdb ?_; first | refine zdc ?_ | refine zdd ?_ | refine zde ?_ | refine zdf ?_ | refine zdj rfl ?_)
  refine ws_loop (ι := Nat) (fun j => [(0, .f .f64 (hX x j)), (3, .raw (.int .i64 (j : Int)))]) (fun _ => St w0 [] []) (fun j => j ≤ a) (fun j => a - j) 0 (Nat.zero_le _) ?_ (fun _ h => h) (fun j hj => ?_)
  · (repeat (first | exact Env.sub_nil _ | refine Env.sub_cons rfl ?_))
  have ha1 := hN.a1
  have hb1 := hN.b1
  repeat first | refine zaa rfl (zay rfl) ?_ | (refine zac ?_; refine zaa rfl (zbd rfl rfl rfl) ?_) | refine zah ?_ | (refine zcr ?_; refine zcs ?_) | (refine zdb ?_; first | refine zdc ?_ | refine zdd ?_)
  rw [hN.h j hj]
  refine ws_cond rfl (fun hd => ?_) (fun hd => ?_)
  · have hlt : j < a := of_decide_eq_true hd
    repeat first | refine zaa rfl (zay rfl) ?_ | refine zaa rfl (zaz rfl) ?_ | (refine zac ?_; first | refine zaa rfl (zba rfl rfl rfl) ?_ | refine zaa rfl (zbb rfl rfl (by omega)) ?_) | refine zah ?_ | (refine zcr ?_; first | refine zcs ?_ | refine zcv ?_) | (refine zdb ?_; first | refine zdc ?_ | refine zdd ?_ | refine zde ?_ | refine zdf ?_)
    refine done_round (j + 1) (by omega) (by omega) ?_ (fun _ h => h)
    rw [show ((j + 1 : Nat) : Int) = (j : Int) + 1 from by omega]
    (repeat (first | exact Env.sub_nil _ | refine Env.sub_cons rfl ?_))
  have hge : ¬ j < a := of_decide_eq_false hd
  obtain rfl : j = a := by omega
  clear hd hge hj
  repeat first | (refine zcr ?_; first | refine zcs ?_ | refine zcu ?_ | refine zcx ?_ | refine zda ?_) | (refine zdb ?_; first | refine zdc ?_ | refine zde ?_ | refine zdh ?_)
  refine ws_loop (ι := Nat) (fun i => [(0, .f .f64 (tX (hX x j) i)), (3, .raw (.int .i64 ((j : Int) - i)))]) (fun _ => St w0 [] []) (fun i => i ≤ b) (fun i => b - i) 0 (Nat.zero_le _) ?_ (fun _ h => h) (fun i hi => ?_)
  · rw [show (j : Int) - ((0 : Nat) : Int) = j from by omega]
    (repeat (first | exact Env.sub_nil _ | refine Env.sub_cons rfl ?_))
  repeat first | refine zaa rfl (zay rfl) ?_ | (refine zac ?_; refine zaa rfl (zbd rfl rfl rfl) ?_) | refine zah ?_ | (refine zcr ?_; refine zcs ?_) | (refine zdb ?_; first | refine zdc ?_ | refine zdd ?_)
  rw [hN.t i hi]
  refine ws_cond rfl (fun hd => ?_) (fun hd => ?_)
  · have hlt : i < b := of_decide_eq_true hd
    repeat first | refine zaa rfl (zay rfl) ?_ | refine zaa rfl (zaz rfl) ?_ | (refine zac ?_; first | refine zaa rfl (zba rfl rfl rfl) ?_ | refine zaa rfl (zbc rfl rfl (by omega)) ?_) | refine zah ?_ | (refine zcr ?_; first | refine zcs ?_ | refine zcv ?_) | (refine zdb ?_; first | refine zdc ?_ | refine zdd ?_ | refine zde ?_ | refine zdf ?_)
    refine done_round (i + 1) (by omega) (by omega) ?_ (fun _ h => h)
    rw [show (j : Int) - ((i + 1 : Nat) : Int) = (j : Int) - i - 1 from by omega]
    (repeat (first | exact Env.sub_nil _ | refine Env.sub_cons rfl ?_))
  have hge : ¬ i < b := of_decide_eq_false hd
  obtain rfl : i = b := by omega
  clear hd hge hi
  rw [hN.y, hN.i]
  repeat first | refine zaa rfl (zay rfl) ?_ | refine zaa rfl (zaz rfl) ?_ | (refine zac ?_; refine zaa rfl (zba rfl rfl rfl) ?_) | refine zah ?_ | (refine zcr ?_; first | refine zcs ?_ | refine zcu ?_ | refine zcx ?_ | refine zda ?_) | (refine zdb ?_; first | refine zdc ?_ | refine zdd ?_ | refine zde ?_ | refine zdh ?_)
  have hlw : lgW x = lgV (lgY x).1 (eI (lgY x).2) := rfl
  rw [hlw]
  have heb : -1 ≤ (lgY x).2 ∧ (lgY x).2 ≤ 1 := by rw [← hN.i]; omega
  generalize (lgY x).1 = y
  generalize (lgY x).2 = e at *
  clear hlw
  refine ws_loop (ι := Nat) (fun k => [(3, .raw (.int .i64 e)), (4, .f .f64 (lgS y)), (5, .f .f64 (fbin .mul .f64 (lgS y) (lgS y))), (6, .f .f64 (lgQ (fbin .mul .f64 (lgS y) (lgS y)) k)), (7, .raw (.int .i64 (25 - 2 * (k : Int))))]) (fun _ => St w0 [] []) (fun k => k ≤ 13) (fun k => 13 - k) 0 (Nat.zero_le _) ?_ (fun _ h => h) (fun k hk => ?_)
  · (repeat (first | exact Env.sub_nil _ | refine Env.sub_cons rfl ?_))
  repeat first | refine zaa rfl (zay rfl) ?_ | (refine zac ?_; refine zaa rfl (zbh rfl rfl) ?_) | refine zah ?_ | (refine zcr ?_; refine zcs ?_) | (refine zdb ?_; first | refine zdc ?_ | refine zdd ?_)
  refine ws_cond rfl (fun hd => ?_) (fun hd => ?_)
  · have hlt : (1 : Int) ≤ 25 - 2 * (k : Int) := of_decide_eq_true hd
    repeat first | refine zaa rfl (zay rfl) ?_ | refine zaa rfl (zaz rfl) ?_ | (refine zac ?_; first | refine zaa rfl (zba rfl rfl rfl) ?_ | refine zaa rfl (zbc rfl rfl (by omega)) ?_) | refine zaa rfl (zby rfl) ?_ | refine zah ?_ | (refine zcr ?_; first | refine zcs ?_ | refine zcv ?_) | (refine zdb ?_; first | refine zdc ?_ | refine zdd ?_ | refine zde ?_ | refine zdf ?_)
    refine done_round (k + 1) (by omega) (by omega) ?_ (fun _ h => h)
    rw [show 25 - 2 * ((k + 1 : Nat) : Int) = 25 - 2 * (k : Int) - 2 from by omega]
    (repeat (first | exact Env.sub_nil _ | refine Env.sub_cons rfl ?_))
  have hge : ¬ (1 : Int) ≤ 25 - 2 * (k : Int) := of_decide_eq_false hd
  obtain rfl : k = 13 := by omega
  repeat first | refine zaa rfl (zay rfl) ?_ | refine zaa rfl (zaz rfl) ?_ | (refine zac ?_; refine zaa rfl (zba rfl rfl rfl) ?_) | refine zaa rfl (zby rfl) ?_ | refine zah ?_ | (refine zcr ?_; first | refine zcs ?_ | refine zcu ?_ | refine zcx ?_ | refine zda ?_) | (refine zdb ?_; first | refine zdc ?_ | refine zdd ?_ | refine zdg ?_ | refine zdh ?_)
  exact done_ret1 rfl () rfl trivial (List.nil_sublist _)
theorem l01Log_fn {x : FV} {p : Rat} (hx : Vl .f32 x p) (h : 48 / 100 ≤ p ∧ p ≤ 24 / 10) : Fn Tryz.prog 70 (fun _ => [.f .f32 x]) (.f .f32 (lgF x)) := by
  have hL := l01LogWide_fn (vl_wide hx) (vl_rep hx) h
  have hN := l01Narrow_fn _ (lgF_vl hx h).1
  refine fn_intro Tryz.func70 rfl Tryz.ntmps70 (fun _ => Nat.le_of_ble_eq_true rfl) fun w0 => ?_
  repeat first | refine zaa rfl (zay rfl) ?_ | refine zaa rfl (zaz rfl) ?_ | (refine zad ?_; first | (refine zaa rfl (zci rfl rfl (hL) ?_) ?_; (focus ((repeat (first | exact Takes.nil | refine Takes.sl ?_ | refine Takes.own (by (repeat (first | exact mh | refine mt ?_)); done) (by simp) (by omega) (by simp only [maxLen]; omega) ?_ | refine Takes.same ?_)); done))) | (refine zaa rfl (zci rfl rfl (hN) ?_) ?_; (focus ((repeat (first | exact Takes.nil | refine Takes.sl ?_ | refine Takes.own (by (repeat (first | exact mh | refine mt ?_)); done) (by simp) (by omega) (by simp only [maxLen]; omega) ?_ | refine Takes.same ?_)); done)))) | refine zaa rfl (zbx rfl) ?_ | refine zah ?_ | (refine zcr ?_; refine zcs ?_) | (refine zdb ?_; first | refine zdc ?_ | refine zdd ?_ | refine zdg ?_)
  exact done_ret1 rfl () rfl trivial (List.nil_sublist _)
theorem expNumber_fn {x : FV} {p : Rat} (hx : Vl .f32 x p) (h : -(13 / 10) ≤ p ∧ p ≤ 13 / 10) : Fn Tryz.prog 90 (fun _ => [.f .f32 x]) (.f .f32 (exF x)) := by
  have hc := (exF_vl hx h).1
  have v1 : Vl .f32 (fv .f32 1128792064) 200 := Vl.c (by decide +kernel)
  have v2 : Vl .f32 (fv .f32 3276275712) (-200) := Vl.c (by decide +kernel)
  have e1 : cmpB .gtr (fcmp .f32 x (fv .f32 1128792064)) = false := by rw [vl_gtr hx v1]; exact decide_eq_false (by grind)
  have e2 : cmpB .lss (fcmp .f32 x (fv .f32 3276275712)) = false := by rw [vl_lss hx v2]; exact decide_eq_false (by grind)
  have hex : exW (fconv .f32 .f64 x) = exQ (exP (fbin .quo .f64 (fconv .f32 .f64 x) (fv .f64 4643211215818981376)) 12) 8 := rfl
  have hxF : exF x = fconv .f64 .f32 (exW (fconv .f32 .f64 x)) := rfl
  rw [hex] at hc
  rw [hxF, hex]
  clear hxF hex
  refine fn_intro Tryz.func90 rfl Tryz.ntmps90 (fun _ => Nat.le_of_ble_eq_true rfl) fun w0 => ?_
  repeat first | refine zaa rfl (zay rfl) ?_ | refine zaa rfl (zaz rfl) ?_ | (refine zac ?_; refine zaa rfl (zbd rfl rfl rfl) ?_) | refine zah ?_ | (refine zcr ?_; refine zcs ?_) | (refine zdb ?_; first | refine zdc ?_ | refine zdd ?_ | refine zde ?_)
  rw [e1]
  repeat first | refine zaa rfl (zay rfl) ?_ | refine zaa rfl (zaz rfl) ?_ | (refine zac ?_; refine zaa rfl (zbd rfl rfl rfl) ?_) | refine zah ?_ | (refine zcr ?_; refine zcs ?_) | (refine zdb ?_; first | refine zdc ?_ | refine zdd ?_ | refine zdj rfl ?_)
  rw [e2]
  repeat first | refine zaa rfl (zay rfl) ?_ | refine zaa rfl (zaz rfl) ?_ | (refine zac ?_; refine zaa rfl (zba rfl rfl rfl) ?_) | refine zaa rfl (zbx rfl) ?_ | refine zah ?_ | (refine zcr ?_; first | refine zcs ?_ | refine zcv ?_) | (refine zdb ?_; first | refine zdc ?_ | refine zdd ?_ | refine zde ?_ | refine zdf ?_ | refine zdj rfl ?_)
  generalize fbin .quo .f64 (fconv .f32 .f64 x) (fv .f64 4643211215818981376) = t at *
  refine ws_loop (ι := Nat) (fun k => [(3, .f .f64 t), (4, .f .f64 (exP t k)), (5, .f .f64 (kE k))]) (fun _ => St w0 [] []) (fun k => k ≤ 12) (fun k => 12 - k) 0 (Nat.zero_le _) ?_ (fun _ h => h) (fun k hk => ?_)
  · rw [kE_0]
    (repeat (first | exact Env.sub_nil _ | refine Env.sub_cons rfl ?_))
  repeat first | refine zaa rfl (zay rfl) ?_ | (refine zac ?_; refine zaa rfl (zbd rfl rfl rfl) ?_) | refine zah ?_ | (refine zcr ?_; refine zcs ?_) | (refine zdb ?_; first | refine zdc ?_ | refine zdd ?_)
  rw [kE_ge (by omega)]
  refine ws_cond rfl (fun hd => ?_) (fun hd => ?_)
  · have hlt : k < 12 := of_decide_eq_true hd
    repeat first | refine zaa rfl (zay rfl) ?_ | refine zaa rfl (zaz rfl) ?_ | (refine zac ?_; refine zaa rfl (zba rfl rfl rfl) ?_) | refine zah ?_ | (refine zcr ?_; first | refine zcs ?_ | refine zcv ?_) | (refine zdb ?_; first | refine zdc ?_ | refine zdd ?_ | refine zde ?_ | refine zdf ?_)
    rw [kE_next hlt]
    skip
    refine done_round (k + 1) (by omega) (by omega) ?_ (fun _ h => h)
    (repeat (first | exact Env.sub_nil _ | refine Env.sub_cons rfl ?_))
  have hge : ¬ k < 12 := of_decide_eq_false hd
  obtain rfl : k = 12 := by omega
  clear hd hge hk
  repeat first | refine zaa rfl (zay rfl) ?_ | refine zah ?_ | (refine zcr ?_; first | refine zcs ?_ | refine zcu ?_ | refine zcx ?_ | refine zda ?_) | (refine zdb ?_; first | refine zdc ?_ | refine zdd ?_ | refine zde ?_ | refine zdh ?_)
  generalize exP t 12 = P at *
  refine ws_loop (ι := Nat) (fun k => [(4, .f .f64 (exQ P k)), (27, .raw (.int .i64 (k : Int)))]) (fun _ => St w0 [] []) (fun k => k ≤ 8) (fun k => 8 - k) 0 (Nat.zero_le _) ?_ (fun _ h => h) (fun k hk => ?_)
  · (repeat (first | exact Env.sub_nil _ | refine Env.sub_cons rfl ?_))
  repeat first | (refine zac ?_; refine zaa rfl (zbe rfl rfl) ?_) | refine zah ?_ | (refine zcr ?_; refine zcs ?_) | (refine zdb ?_; first | refine zdc ?_ | refine zdd ?_)
  refine ws_cond rfl (fun hd => ?_) (fun hd => ?_)
  · have hlt : (k : Int) < 8 := of_decide_eq_true hd
    repeat first | refine zaa rfl (zay rfl) ?_ | refine zaa rfl (zaz rfl) ?_ | (refine zac ?_; first | refine zaa rfl (zba rfl rfl rfl) ?_ | refine zaa rfl (zbb rfl rfl (by omega)) ?_) | refine zah ?_ | (refine zcr ?_; first | refine zcs ?_ | refine zcv ?_) | (refine zdb ?_; first | refine zdc ?_ | refine zdd ?_ | refine zde ?_ | refine zdf ?_)
    refine done_round (k + 1) (by omega) (by omega) ?_ (fun _ h => h)
    rw [show ((k + 1 : Nat) : Int) = (k : Int) + 1 from by omega]
    (repeat (first | exact Env.sub_nil _ | refine Env.sub_cons rfl ?_))
  have hge : ¬ (k : Int) < 8 := of_decide_eq_false hd
  obtain rfl : k = 8 := by omega
  repeat first | refine zaa rfl (zay rfl) ?_ | refine zaa rfl (zaz rfl) ?_ | refine zah ?_ | (refine zcr ?_; first | refine zcs ?_ | refine zcu ?_ | refine zcx ?_ | refine zda ?_) | (refine zdb ?_; first | refine zdc ?_ | refine zdd ?_ | refine zdg ?_ | refine zdh ?_) | refine zaa rfl (opj_fconv rfl hc) ?_
  exact done_ret1 rfl () rfl trivial (List.nil_sublist _)
theorem l01ExpWide_fn {y : FV} {p : Rat} (hy : Vl .f64 y p) (h : -(13 / 10) ≤ p ∧ p ≤ 13 / 10) : Fn Tryz.prog 88 (fun _ => [.f .f64 y]) (.f .f64 (exW y)) := by
  have v1 : Vl .f64 (fv .f64 4641240890982006784) 200 := Vl.c (by decide +kernel)
  have v2 : Vl .f64 (fv .f64 13864612927836782592) (-200) := Vl.c (by decide +kernel)
  have e0 : cmpB .neq (fcmp .f64 y y) = false := by rw [vl_neq hy hy]; exact decide_eq_false (by grind)
  have e1 : cmpB .gtr (fcmp .f64 y (fv .f64 4641240890982006784)) = false := by rw [vl_gtr hy v1]; exact decide_eq_false (by grind)
  have e2 : cmpB .lss (fcmp .f64 y (fv .f64 13864612927836782592)) = false := by rw [vl_lss hy v2]; exact decide_eq_false (by grind)
  have hex : exW y = exQ (exP (fbin .quo .f64 y (fv .f64 4643211215818981376)) 12) 8 := rfl
  rw [hex]
  clear hex
  refine fn_intro Tryz.func88 rfl Tryz.ntmps88 (fun _ => Nat.le_of_ble_eq_true rfl) fun w0 => ?_
  repeat first | refine zaa rfl (zay rfl) ?_ | refine zaa rfl (zaz rfl) ?_ | (refine zac ?_; refine zaa rfl (zbd rfl rfl rfl) ?_) | refine zah ?_ | (refine zcr ?_; refine zcs ?_) | (refine zdb ?_; first | refine zdc ?_ | refine zdd ?_)
  rw [e0]
  repeat first | refine zaa rfl (zay rfl) ?_ | (refine zac ?_; refine zaa rfl (zbd rfl rfl rfl) ?_) | refine zah ?_ | (refine zcr ?_; refine zcs ?_) | (refine zdb ?_; first | refine zdc ?_ | refine zdd ?_ | refine zdf ?_ | refine zdj rfl ?_)
  rw [e1]
  repeat first | refine zaa rfl (zay rfl) ?_ | (refine zac ?_; refine zaa rfl (zbd rfl rfl rfl) ?_) | refine zah ?_ | (refine zcr ?_; refine zcs ?_) | (refine zdb ?_; first | refine zdc ?_ | refine zdd ?_ | refine zdf ?_ | refine zdj rfl ?_)
  rw [e2]
  repeat first | refine zaa rfl (zay rfl) ?_ | refine zaa rfl (zaz rfl) ?_ | (refine zac ?_; refine zaa rfl (zba rfl rfl rfl) ?_) | refine zah ?_ | (refine zcr ?_; refine zcs ?_) | (refine zdb ?_; first | refine zdc ?_ | refine zdd ?_ | refine zde ?_ | refine zdf ?_ | refine zdj rfl ?_)
  generalize fbin .quo .f64 y (fv .f64 4643211215818981376) = t at *
  refine ws_loop (ι := Nat) (fun k => [(3, .f .f64 t), (4, .f .f64 (exP t k)), (5, .raw (.int .i64 (12 - (k : Int))))]) (fun _ => St w0 [] []) (fun k => k ≤ 12) (fun k => 12 - k) 0 (Nat.zero_le _) ?_ (fun _ h => h) (fun k hk => ?_)
  · (repeat (first | exact Env.sub_nil _ | refine Env.sub_cons rfl ?_))
  repeat first | refine zaa rfl (zay rfl) ?_ | (refine zac ?_; refine zaa rfl (zbh rfl rfl) ?_) | refine zah ?_ | (refine zcr ?_; refine zcs ?_) | (refine zdb ?_; first | refine zdc ?_ | refine zdd ?_)
  refine ws_cond rfl (fun hd => ?_) (fun hd => ?_)
  · have hlt : (1 : Int) ≤ 12 - (k : Int) := of_decide_eq_true hd
    repeat first | refine zaa rfl (zay rfl) ?_ | refine zaa rfl (zaz rfl) ?_ | (refine zac ?_; first | refine zaa rfl (zba rfl rfl rfl) ?_ | refine zaa rfl (zbc rfl rfl (by omega)) ?_) | refine zaa rfl (zby rfl) ?_ | refine zah ?_ | (refine zcr ?_; first | refine zcs ?_ | refine zcv ?_) | (refine zdb ?_; first | refine zdc ?_ | refine zdd ?_ | refine zde ?_ | refine zdf ?_)
    refine done_round (k + 1) (by omega) (by omega) ?_ (fun _ h => h)
    rw [show 12 - ((k + 1 : Nat) : Int) = 12 - (k : Int) - 1 from by omega]
    (repeat (first | exact Env.sub_nil _ | refine Env.sub_cons rfl ?_))
  have hge : ¬ (1 : Int) ≤ 12 - (k : Int) := of_decide_eq_false hd
  obtain rfl : k = 12 := by omega
  clear hd hge hk
  repeat first | refine zaa rfl (zaz rfl) ?_ | refine zah ?_ | (refine zcr ?_; first | refine zcs ?_ | refine zcu ?_ | refine zcx ?_ | refine zda ?_) | (refine zdb ?_; first | refine zdc ?_ | refine zdd ?_ | refine zde ?_ | refine zdh ?_)
  generalize exP t 12 = P at *
  refine ws_loop (ι := Nat) (fun k => [(4, .f .f64 (exQ P k)), (6, .raw (.int .i64 (k : Int)))]) (fun _ => St w0 [] []) (fun k => k ≤ 8) (fun k => 8 - k) 0 (Nat.zero_le _) ?_ (fun _ h => h) (fun k hk => ?_)
  · (repeat (first | exact Env.sub_nil _ | refine Env.sub_cons rfl ?_))
  repeat first | refine zaa rfl (zay rfl) ?_ | (refine zac ?_; refine zaa rfl (zbe rfl rfl) ?_) | refine zah ?_ | (refine zcr ?_; refine zcs ?_) | (refine zdb ?_; first | refine zdc ?_ | refine zdd ?_)
  refine ws_cond rfl (fun hd => ?_) (fun hd => ?_)
  · have hlt : (k : Int) < 8 := of_decide_eq_true hd
    repeat first | refine zaa rfl (zay rfl) ?_ | refine zaa rfl (zaz rfl) ?_ | (refine zac ?_; first | refine zaa rfl (zba rfl rfl rfl) ?_ | refine zaa rfl (zbb rfl rfl (by omega)) ?_) | refine zah ?_ | (refine zcr ?_; first | refine zcs ?_ | refine zcv ?_) | (refine zdb ?_; first | refine zdc ?_ | refine zdd ?_ | refine zde ?_ | refine zdf ?_)
    refine done_round (k + 1) (by omega) (by omega) ?_ (fun _ h => h)
    rw [show ((k + 1 : Nat) : Int) = (k : Int) + 1 from by omega]
    (repeat (first | exact Env.sub_nil _ | refine Env.sub_cons rfl ?_))
  have hge : ¬ (k : Int) < 8 := of_decide_eq_false hd
  obtain rfl : k = 8 := by omega
  repeat first | refine zaa rfl (zay rfl) ?_ | refine zaa rfl (zaz rfl) ?_ | refine zah ?_ | (refine zcr ?_; first | refine zcs ?_ | refine zcu ?_ | refine zcx ?_ | refine zda ?_) | (refine zdb ?_; first | refine zdc ?_ | refine zdd ?_ | refine zdg ?_ | refine zdh ?_)
  exact done_ret1 rfl () rfl trivial (List.nil_sublist _)
theorem l01Exp_fn {x : FV} {p : Rat} (hx : Vl .f32 x p) (h : -(13 / 10) ≤ p ∧ p ≤ 13 / 10) : Fn Tryz.prog 69 (fun _ => [.f .f32 x]) (.f .f32 (exF x)) := by
  have hL := l01ExpWide_fn (vl_wide hx) h
  have hN := l01Narrow_fn _ (exF_vl hx h).1
  refine fn_intro Tryz.func69 rfl Tryz.ntmps69 (fun _ => Nat.le_of_ble_eq_true rfl) fun w0 => ?_
  repeat first | refine zaa rfl (zay rfl) ?_ | refine zaa rfl (zaz rfl) ?_ | (refine zad ?_; first | (refine zaa rfl (zci rfl rfl (hL) ?_) ?_; (focus ((repeat (first | exact Takes.nil | refine Takes.sl ?_ | refine Takes.own (by (repeat (first | exact mh | refine mt ?_)); done) (by simp) (by omega) (by simp only [maxLen]; omega) ?_ | refine Takes.same ?_)); done))) | (refine zaa rfl (zci rfl rfl (hN) ?_) ?_; (focus ((repeat (first | exact Takes.nil | refine Takes.sl ?_ | refine Takes.own (by (repeat (first | exact mh | refine mt ?_)); done) (by simp) (by omega) (by simp only [maxLen]; omega) ?_ | refine Takes.same ?_)); done)))) | refine zaa rfl (zbx rfl) ?_ | refine zah ?_ | (refine zcr ?_; refine zcs ?_) | (refine zdb ?_; first | refine zdc ?_ | refine zdd ?_ | refine zdg ?_)
  exact done_ret1 rfl () rfl trivial (List.nil_sublist _)
end Go.Ab
namespace Go.Ab
theorem sqr_nonneg (a : Rat) : 0 ≤ a * a := by
  rcases Rat.le_total (a := 0) (b := a) with h | h
  · exact Rat.mul_nonneg h h
  · have := Rat.mul_nonneg (show 0 ≤ -a by grind) (show 0 ≤ -a by grind)
    grind
/-- No longer than. -/
structure Le2 (x y B : Rat) : Prop where
  nn : 0 ≤ B
  sq : x * x + y * y ≤ B * B
theorem Le2.dot {x y A u v B : Rat} (h : Le2 x y A) (h' : Le2 u v B) : x * u + y * v ≤ A * B := by
  have n := Rat.mul_nonneg h.nn h'.nn
  rcases Rat.le_total (a := 0) (b := x * u + y * v) with h0 | h0
  · refine sq_le_of h0 n ?_
    have h1 := sqr_nonneg (x * v - y * u)
    have h2 : (x * u + y * v) * (x * u + y * v) ≤ (x * x + y * y) * (u * u + v * v) := by grind
    have a0 : 0 ≤ u * u + v * v := by
      have := sqr_nonneg u
      have := sqr_nonneg v
      grind
    have h3 := Rat.mul_le_mul_of_nonneg_right h.sq a0
    have h4 := Rat.mul_le_mul_of_nonneg_left h'.sq (sqr_nonneg A)
    grind
  · exact Rat.le_trans h0 n
theorem Le2.x {x y A : Rat} (h : Le2 x y A) : -A ≤ x ∧ x ≤ A := by
  have n := h.nn
  have s := h.sq
  have := sqr_nonneg y
  have hx : x * x ≤ A * A := by grind
  constructor
  · rcases Rat.le_total (a := 0) (b := x) with h0 | h0
    · grind
    · have := sq_le_of (a := -x) (b := A) (by grind) n (by grind)
      grind
  · rcases Rat.le_total (a := 0) (b := x) with h0 | h0
    · exact sq_le_of h0 n hx
    · grind
theorem Le2.y {x y A : Rat} (h : Le2 x y A) : -A ≤ y ∧ y ≤ A := Le2.x (x := y) (y := x) ⟨h.nn, by have := h.sq; grind⟩
/-- The length of what is computed, beside a bound. -/
theorem long_up {x y : FV} {p q B : Rat} (hx : Vl .f32 x p) (hy : Vl .f32 y q) (h : Le2 p q B) (hB : B ≤ 1000) : ∃ R, Vl .f32 (longF x y) R ∧ ConvOk .f64 .f32 (fsqrt (powF x y)) ∧ 0 ≤ R ∧ R ≤ B * (1 + 1 / 1000000) + 1 / 1000000000 := by
  have p30 : (1000 : Rat) ≤ p2 30 := by decide +kernel
  have hx' := h.x
  have hy' := h.y
  obtain ⟨R, hR, hc, h0, hs, hn⟩ := vl_long hx hy (by constructor <;> grind) (by constructor <;> grind)
  have n := h.nn
  have s := h.sq
  refine ⟨R, hR, hc, h0, ?_⟩
  have e45 : p2 (-45) ≤ 1 / 1000000000 := by decide +kernel
  have e20 : p2 (-20) ≤ 1 / 1000000 := by decide +kernel
  rcases Rat.le_total (a := p * p + q * q) (b := p2 (-90)) with h90 | h90
  · have := (hs (p2 (-45)) ⟨1, -45, by decide, by decide, by rw [show ((1 : Nat) : Rat) = 1 from rfl, Rat.one_mul]⟩).1 (by rw [← p2_add]; exact h90)
    grind
  · have h1 := (hn h90).2
    have h2 : R * R ≤ B * (1 + 1 / 1000000) * (B * (1 + 1 / 1000000)) := by
      have h4 := sqr_nonneg B
      have h3 := Rat.mul_le_mul_of_nonneg_left e20 (show 0 ≤ p * p + q * q by
        have := sqr_nonneg p
        have := sqr_nonneg q
        grind)
      grind
    have := sq_le_of h0 (show 0 ≤ B * (1 + 1 / 1000000) by grind) h2
    grind
theorem long_lo {x y : FV} {p q B R : Rat} (hx : Vl .f32 x p) (hy : Vl .f32 y q) (hp : -1000 ≤ p ∧ p ≤ 1000) (hq : -1000 ≤ q ∧ q ≤ 1000) (hB : 1 / 1000000000 ≤ B) (h : B * B ≤ p * p + q * q) (hR : Vl .f32 (longF x y) R) : B * (1 - 1 / 1000000) ≤ R := by
  have p30 : (1000 : Rat) ≤ p2 30 := by decide +kernel
  obtain ⟨R', hR', _, h0, hs, hn⟩ := vl_long hx hy (by constructor <;> grind) (by constructor <;> grind)
  obtain rfl := Vl.unique hR hR'
  have e90 : p2 (-90) ≤ 1 / 1000000000 * (1 / 1000000000) := by decide +kernel
  have e20 : p2 (-20) ≤ 1 / 1000000 := by decide +kernel
  have b1 : 1 / 1000000000 * (1 / 1000000000) ≤ B * B := by
    have h1 := Rat.mul_le_mul_of_nonneg_left hB (show (0 : Rat) ≤ 1 / 1000000000 by decide +kernel)
    have h2 := Rat.mul_le_mul_of_nonneg_right hB (show 0 ≤ B by grind)
    grind
  have h1 := (hn (by grind)).1
  have h3 := sqr_nonneg R
  have h4 := Rat.mul_le_mul_of_nonneg_left e20 h3
  have h5 := sqr_nonneg B
  refine sq_le_of (by grind) h0 ?_
  grind
end Go.Ab
namespace Go.Ab
open Go.ChangeShapes Go.WideShapes Go.ChangeAt Go.RowKit
section
variable {H : Type} {enc : TypeId × Value → H} {P : Program}
theorem stays_all (hl : laidOutB P = true) {W W' : World} (hw : Ext W W') : ∀ {ts : List TypeId} {vs : List Value} {ds : List (DataW H)} {ps : List MemPlace}, (∀ t ∈ ts, P.readableRec t = true ∧ t < P.types.size) →
    DataW.TrodAll enc P W 0 (fun _ => true) true ts vs ds ps → (∀ p ∈ ps, p.block < W.heap.size) → ∀ sp : Nat → Bool, (∀ p ∈ ps, sp p.block = true) → DataW.TrodAll enc P W' 0 sp true ts vs ds ps
  | [], vs, ds, ps, _, h, _, sp, _ => by
    obtain ⟨rfl, rfl, rfl⟩ := trodAll_nil h
    exact rfl
  | t :: ts, vs, ds, ps, ht, h, hlt, sp, hsp => by
    obtain ⟨v, vs', d, ds', p, q, rfl, rfl, rfl, h1, h2⟩ := trodAll_cons h
    refine ⟨p, q, ?_, stays_all hl hw (fun t' h' => ht t' (by simp [h'])) h2 (fun x hx => hlt x (by simp [hx])) sp (fun x hx => hsp x (by simp [hx])), rfl⟩
    exact WideElems.Trod_stays hl (ht t (by simp)).1 (ht t (by simp)).2 h1 (fun x hx => RowKit.Below.same hw (hlt x (by simp [hx]))) (fun x hx => hsp x (by simp [hx]))

/-- The row's step of a law that only reads. -/
theorem law_lift {C : Checked} {os : Os} {f : FuncId} {fn : Func} {s : ChangeSpec} {T : TypeId}
    (own : ownKnob C.prog.godebug = none) (started : os.Started) (noInit : C.prog.inits.idxOf? f = none) (hfn : C.prog.funcs[f]? = some fn)
    (witness : ∃ (w : World) (tape : Tape) (i : Input), w.os = os ∧ (w.forCall tape i).Shaped C.prog ∧ i.vars = [] ∧ Input.okWide C.prog (w.forCall tape i) .any w.heap.size f i ∧
      s.pre6 enc C.prog fn [] false (w.forCall tape i).memory i.args ∧ ({} : Assume).holds C.prog (lone (Frame.enter C.prog f i.args .normal) [] (w.forCall tape i)))
    (hvars : s.vars = []) (hspec : ∀ ds : List (DataW H), ds.length = fn.params.size → (s.fn H ds).results = [.lit (.bool true)] ∧ (s.fn H ds).args = ds ∧ (s.fn H ds).vars = [])
    (hres : fn.resultTypes = #[T]) (hT : C.prog.underlying T = some .bool) (hl : laidOutB C.prog = true) (hts : ∀ t ∈ fn.params.toList, C.prog.readableRec t = true ∧ t < C.prog.types.size)
    (h : ∀ (W : World) (base : Nat) (args : Array Value) (ds : List (DataW H)) (ps : List MemPlace), (∀ (j : Nat) t v, fn.params[j]? = some t → args[j]? = some v → Value.okWide C.prog W .any base t v) →
      DataW.TrodAll enc C.prog W 0 (fun _ => true) true fn.params.toList args.toList ds ps → Calls C.prog f args W fun e W' => e = .returned (.bool true) ∧ Ext W W') :
    ReturnsInHanded {} C os f .any (s.pre6 enc C.prog fn [] false) (s.post enc C.prog fn false true false false) := by
  refine returnsInHanded_of_change own started noInit hfn witness ?_
  intro W base args ds gs before hval hW _ _
  obtain ⟨p, q, hA, hV, hps, hnf, hnd⟩ := hW
  have hW : DataW.Whole enc C.prog fn.params.toList s.vars false W args.toList ds gs before := ⟨p, q, hA, hV, hps, hnf, hnd⟩
  have hlen : ds.length = fn.params.size := by
    have : ∀ (ts : List TypeId) (vs : List Value) (ds : List (DataW H)) (ps : List MemPlace), DataW.TrodAll enc C.prog W 0 (fun _ => true) true ts vs ds ps → ds.length = ts.length := by
      intro ts
      induction ts with
      | nil => intro vs ds ps h; obtain ⟨_, rfl, _⟩ := trodAll_nil h; rfl
      | cons t ts ih => intro vs ds ps h; obtain ⟨v, vs', d, ds', p, q, rfl, rfl, rfl, _, h2⟩ := trodAll_cons h; simp [ih _ _ _ h2]
    simpa using this _ _ _ _ hA
  rw [hvars] at hV
  have hgs : gs = [] ∧ q = [] := by
    cases gs with
    | nil => exact ⟨rfl, hV⟩
    | cons g gs => cases hV
  obtain ⟨rfl, rfl⟩ := hgs
  refine (h W base args ds p hval hA).mono fun e W' ⟨he, hext⟩ => ⟨.bool true, he, ?_⟩
  obtain ⟨hr1, hr2, hr3⟩ := hspec (ds ++ []) (by simpa using hlen)
  have hlt : ∀ x ∈ before, x.block < W.heap.size := fun x hx => hW.lt x hx
  have hbp : before = p := by simpa using hps
  subst hbp
  have hargs : ∀ sp : Nat → Bool, (∀ x ∈ before, sp x.block = true) → DataW.TrodAll enc C.prog W' 0 sp true fn.params.toList args.toList (s.fn H (ds ++ [])).args before := fun sp hsp => by
    rw [hr2, List.append_nil]
    exact stays_all hl hext hts hA hlt sp hsp
  have hresu : ∀ (b : Nat) (sp : Nat → Bool) (hd : Bool), DataW.TrodAll enc C.prog W' b sp hd fn.resultTypes.toList ((Value.bool true).resultList fn.resultTypes.size) (s.fn H (ds ++ [])).results [] := fun b sp hd => by
    rw [hr1, hres]
    exact trodAll_mk1 (shut_bool hT true)
  have hvs : ∀ sp : Nat → Bool, DataW.TrodVars enc C.prog W' sp s.vars (s.fn H (ds ++ [])).vars [] := fun sp => by
    rw [hvars, hr3]; exact rfl
  have hok : ∀ (j : Nat) (t : TypeId) (r : Value), fn.resultTypes[j]? = some t → ((Value.bool true).resultList fn.resultTypes.size)[j]? = some r → Value.okWide C.prog W' .any 0 t r := by
    rw [hres]
    intro j t r h1 h2
    have e : (Value.bool true).resultList (#[T] : Array TypeId).size = [.bool true] := rfl
    rw [e] at h2
    cases j with
    | zero =>
      simp at h1 h2
      subst h1; subst h2
      exact okWide_bool_mk hT true
    | succ j => simp at h1
  have hold : ∀ x ∈ before, (fun b => decide (b < W.heap.size)) x.block = true := fun x hx => by simpa using hlt x hx
  refine ⟨ds, [], before, [], before, [], hW, hresu _ _ _, hargs _ hold, hvs _, World.keptBut_mono (fun x hx => ⟨hx, .inr (by simpa using hx)⟩) (RowKit.Below.frame hext (· ∈ before)), fun h => by cases h⟩

theorem trod_int1 {W : World} {t : TypeId} {k : IntKind} {sp : Nat → Bool} {hd : Bool} {fuel base : Nat} {cs : List Value} {x : DataW H × List MemPlace} (ht : P.underlying t = some (.int k)) (h : DataW.trod enc P W base sp hd fuel t cs = some x) :
    ∃ n, cs = [.int k n] ∧ k.min ≤ n ∧ n ≤ k.max := by
  cases fuel with
  | zero => simp [DataW.trod] at h
  | succ fuel =>
    unfold DataW.trod at h
    rw [ht] at h
    split at h <;> simp_all
    rename_i k' b hk
    obtain ⟨⟨rfl, hw⟩, _⟩ := h
    simpa [Lit.wf] using hw

theorem spot_of_cell {W : World} {a : Addr} {u : Value} (h : W.cell? a = some u) : a.spot = none := by
  unfold World.cell? at h
  split at h
  · cases hs : a.spot with
    | none => rfl
    | some s => simp [hs] at h
  · cases h
/-- A slice of one-cell elements that came in: each element is as its reading says. -/
theorem open_sl {α : Type} {m : α → AV} {W : World} {t e : TypeId} {v : Value} {d : DataW H} {p : List MemPlace} {base b2 : Nat} {sp : Nat → Bool} {hd : Bool} [ht : TyU P t (.slice e)] (hc : P.cellsOf e = 1)
    (helem : ∀ (n : Nat) (u : Value) (y : DataW H × List MemPlace), DataW.trod enc P W base sp hd n e [u] = some y → ∃ x : α, Ev (m x) u)
    (hval : Value.okWide P W .any b2 t v) (h : DataW.Trod enc P W base sp hd t v d p) : ∃ L : List α, Rd W 1 v (L.map m) := by
  obtain ⟨a0, n0, c0, rfl⟩ := okWide_slice ht.h hval
  obtain ⟨fuel, h⟩ := h
  rcases Deep.open_slice1 ht.h hc h with ⟨hcs, _⟩ | ⟨a, len, cap, mm, n, V, D, Pl, hcs, _, hl, hm, hmm, _, hx⟩
  · simp [Value.cells] at hcs
    obtain ⟨rfl, rfl, rfl⟩ := hcs
    exact ⟨[], none, 0, 0, rfl, rfl, Nat.le_refl _, by simp [maxLen], fun i x hi => by simp at hi⟩
  · simp [Value.cells] at hcs
    obtain ⟨rfl, rfl, rfl⟩ := hcs
    have hle : n0 ≤ mm := by rw [hmm]; split <;> omega
    have hex : ∀ k, k ≤ n0 → ∃ L : List α, L.length = k ∧ ∀ i x, L[i]? = some x → Ev (m x) (V i) := by
      intro k
      induction k with
      | zero => intro _; exact ⟨[], rfl, fun i x hi => by simp at hi⟩
      | succ k ih =>
        intro hk
        obtain ⟨L, hL, hall⟩ := ih (by omega)
        obtain ⟨x, hxk⟩ := helem _ _ _ (hx k (by omega)).2
        refine ⟨L ++ [x], by simp [hL], fun i y hi => ?_⟩
        rcases Nat.lt_or_ge i k with hik | hik
        · rw [List.getElem?_append_left (by omega)] at hi; exact hall i y hi
        · rw [List.getElem?_append_right (by omega)] at hi
          have : i - L.length = 0 := by
            false_or_by_contra
            rename_i hne
            rw [List.getElem?_eq_none (by simp; omega)] at hi
            cases hi
          have hik' : i = k := by omega
          subst hik'
          rw [this] at hi
          simp at hi
          subst hi
          exact hxk
    obtain ⟨L, hL, hall⟩ := hex n0 (Nat.le_refl _)
    refine ⟨L, some a, n0, c0, rfl, by simp [hL], hl, hm, fun i x hi => ?_⟩
    rw [List.getElem?_map] at hi
    obtain ⟨y, hy, rfl⟩ := Option.map_eq_some_iff.1 hi
    have hin : i < n0 := by rw [← hL]; exact (List.getElem?_eq_some_iff.1 hy).1
    have h0 := (hx 0 (by omega)).1
    have hsp : a.spot = none := by
      have := spot_of_cell h0
      simpa [Addr.add] using this
    refine ⟨a, rfl, hsp, V i, ?_, hall i y hy⟩
    have := (hx i (by omega)).1
    rw [addr_add a hsp] at this
    exact this
end
end Go.Ab
