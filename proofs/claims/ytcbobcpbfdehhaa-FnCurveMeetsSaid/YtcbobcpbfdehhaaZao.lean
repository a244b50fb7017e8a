/- Part 15 of the texts on which the law leans, joined: Where two curves meet, the program's; walked. No conditions. -/
import Derived.Test.YtcbobcpbfdehhaaZan
namespace Go.Ab
open Go.Proofs
variable {R : World → Prop} [RStab R]
instance tyMa : TyU Try.prog 76 (.func #[62, 62] #[4] false) := ⟨by kernel_rfl⟩
instance tyMb : TyI Try.prog 76 .nilFunc 1 8 := ⟨⟨(Try.prog.info? 76).getD default, by kernel_rfl, by kernel_rfl, by kernel_rfl, by kernel_rfl⟩⟩
structure Mk where
  n : Nat
  L : List (Nat × Nat)
  g : Nat
  c : Nat
  ok : Bool
abbrev mtCap (gk gn go gl : Nat) : List Value := [.pointer (some ⟨gk, 0, none⟩), .pointer (some ⟨gn, 0, none⟩), .pointer (some ⟨go, 0, none⟩), .pointer (some ⟨gl, 0, none⟩)]
abbrev mtFix (gk gn go gl : Nat) (N : FV) : List Ent := [⟨gn, 31, [.f .f32 N], 1⟩, ⟨gl, 76, [.raw (.func (.func 42) #[] (mtCap gk gn go gl).toArray)], 1⟩]
abbrev mtOut (go g n c : Nat) : Ent := ⟨go, 39, [.raw (.slice (some ⟨g, 0, none⟩) n c)], 1⟩
abbrev mtCnt (gk n : Nat) : Ent := ⟨gk, 3, [.raw (.int .i64 (n : Int))], 1⟩
/-- What nearness says of the parts of an even cut. -/
structure NearJ (J : Nat) (N : FV) : Prop where
  j1 : 1 ≤ J
  j2 : J ≤ 8
  leaf : ∀ j, j ≤ J → cmpB .leq (fcmp .f32 (tmF j 1) N) = decide (J ≤ j)
  four : Vl .f32 (fbin .mul .f32 (fv .f32 1082130432) N) (((4 : Nat) : Rat) / ((2 ^ J : Nat) : Rat))
theorem ge_dec : allLt (fun j => allLt (fun k => decide (cmpB .geq (fcmp .f32 (tmF j 1) (tmF k 1)) = decide (j ≤ k))) 9) 9 = true := by decide +kernel
theorem long_ge {j k : Nat} (hj : j ≤ 8) (hk : k ≤ 8) : cmpB .geq (fcmp .f32 (tmF j 1) (tmF k 1)) = decide (j ≤ k) := of_decide_eq_true (allLt_of (allLt_of ge_dec j (by omega)) k (by omega))
abbrev inJ (J : Nat) (i : Nat × Nat) : Prop := i.1 < 2 ^ J ∧ i.2 < 2 ^ J
/-- What the search for meets promises of two parts. -/
def MkC (np nq J : Nat) (N : FV) (gk gn go gl : Nat) (rp rq : Nat) : Prop :=
  ∀ (ip iq : Nat) (P Q : Nat → CV) (k : Nat) (L : List (Nat × Nat)) (a b ca cb u v du dv g c : Nat), ip < 2 ^ (J - rp) → iq < 2 ^ (J - rq) → B1 np P → B1 nq Q → MetP (inJ J) (k, L) → (np ≤ ca ∧ ca ≤ maxLen) ∧ (np ≤ cb ∧ cb ≤ maxLen) → (nq ≤ du ∧ du ≤ maxLen) ∧ (nq ≤ dv ∧ dv ≤ maxLen) → L.length ≤ c ∧ c ≤ maxLen →
    FnH (X := Mk) Try.prog 42 (fun _ => ptOc a b np ca cb (tmF (J - rp) ip) (tmF (J - rp) ((ip : Int) + 1)) :: ptOc u v nq du dv (tmF (J - rq) iq) (tmF (J - rq) ((iq : Int) + 1)) :: (mtCap gk gn go gl).map AV.raw)
      ([entC a np P ca, entF b 31 np oneF cb, entC u nq Q du, entF v 31 nq oneF dv, mtCnt gk k, mtOut go g L.length c, entM g (tmM J) L c] ++ mtFix gk gn go gl N) (fun y => .raw (.bool y.ok))
      (fun y => [entC a np P ca, entF b 31 np oneF cb, entC u nq Q du, entF v 31 nq oneF dv, mtCnt gk y.n, mtOut go y.g y.L.length y.c, entM y.g (tmM J) y.L y.c] ++ mtFix gk gn go gl N)
      (fun y => (y.L.length ≤ y.c ∧ y.c ≤ maxLen) ∧ match meetR np nq (rp + rq) rp rq ip iq P Q (k, L) with
        | some s => y.ok = true ∧ s = (y.n, y.L)
        | none => y.ok = false)
section
variable {np nq m rp rq ip iq : Nat} {P Q : Nat → CV} {s : Mst}
theorem meetR_over (h : ¬s.1 < 20000) : meetR np nq m rp rq ip iq P Q s = none := by
  cases m <;> unfold meetR <;> rw [decide_eq_false h]
theorem meetR_apart (h : s.1 < 20000) (ht : touchB np nq P Q = false) : meetR np nq m rp rq ip iq P Q s = some (s.1 + 1, s.2) := by
  cases m <;> unfold meetR <;> rw [decide_eq_true h, ht]
theorem meetR_leaf (h : s.1 < 20000) (ht : touchB np nq P Q = true) : meetR np nq 0 rp rq ip iq P Q s = addM (ip, iq) (s.1 + 1) s.2 := by
  unfold meetR
  rw [decide_eq_true h, ht]
theorem meetR_p (h : s.1 < 20000) (ht : touchB np nq P Q = true) (hr : rq ≤ rp) : meetR np nq (m + 1) rp rq ip iq P Q s = (match meetR np nq m (rp - 1) rq (2 * ip) iq (leftP P) Q (s.1 + 1, s.2) with
    | none => none
    | some s' => meetR np nq m (rp - 1) rq (2 * ip + 1) iq (rightP np P) Q s') := by
  conv => lhs; unfold meetR
  rw [decide_eq_true h, ht, decide_eq_true hr]
  rfl
theorem meetR_q (h : s.1 < 20000) (ht : touchB np nq P Q = true) (hr : ¬rq ≤ rp) : meetR np nq (m + 1) rp rq ip iq P Q s = (match meetR np nq m rp (rq - 1) ip (2 * iq) P (leftP Q) (s.1 + 1, s.2) with
    | none => none
    | some s' => meetR np nq m rp (rq - 1) ip (2 * iq + 1) P (rightP nq Q) s') := by
  conv => lhs; unfold meetR
  rw [decide_eq_true h, ht, decide_eq_false hr]
  rfl
end
theorem meet_met {np nq J : Nat} : ∀ (rp rq ip iq : Nat) (P Q : Nat → CV) (s s' : Mst), rp ≤ J → rq ≤ J → ip < 2 ^ (J - rp) → iq < 2 ^ (J - rq) → MetP (inJ J) s → meetR np nq (rp + rq) rp rq ip iq P Q s = some s' → MetP (inJ J) s' := fun rp rq ip iq P Q s s' h1 h2 h3 h4 hs h => by
  have hstep : ∀ r i, r + 1 ≤ J ∧ i < 2 ^ (J - (r + 1)) → (r ≤ J ∧ 2 * i < 2 ^ (J - r)) ∧ r ≤ J ∧ 2 * i + 1 < 2 ^ (J - r) := fun r i ⟨e1, e2⟩ => by
    have : J - r = J - (r + 1) + 1 := by omega
    rw [this, Nat.pow_succ]
    omega
  exact meetR_ok (IP := fun r i _ => r ≤ J ∧ i < 2 ^ (J - r)) (IQ := fun r i _ => r ≤ J ∧ i < 2 ^ (J - r)) (fun r i _ h => hstep r i h) (fun r i _ h => hstep r i h) (fun ip iq _ _ e1 e2 _ => ⟨e1.2, e2.2⟩) (rp + rq) rp rq ip iq P Q s s' rfl ⟨h1, h3⟩ ⟨h2, h4⟩ hs h
attribute [local irreducible] WS RS Done OpJ Then InBlock Round Ret Env.sub FnH
attribute [local irreducible] tab tabC
set_option maxRecDepth 100000 in
set_option maxHeartbeats 40000000 in
theorem meet_step {np nq J : Nat} {N : FV} {gk gn go gl : Nat} (hp : 2 ≤ np ∧ np ≤ 5) (hq : 2 ≤ nq ∧ nq ≤ 5) (hJ : NearJ J N) (rp rq : Nat) (hrp : rp ≤ J) (hrq : rq ≤ J) (ih : ∀ rp' rq', rp' ≤ J → rq' ≤ J → rp' + rq' + 1 = rp + rq → MkC np nq J N gk gn go gl rp' rq') : MkC np nq J N gk gn go gl rp rq := by
  intro ip iq P Q k L a b ca cb u v du dv gL c hip hiq hBp hBq hM ⟨hca, hcb⟩ ⟨hdu, hdv⟩ hc
  have hj8 := hJ.j2
  have hj1 := hJ.j1
  have hTp := tmP (j := J - rp) (i := ip) (by omega) hip
  have hTq := tmP (j := J - rq) (i := iq) (by omega) hiq
  obtain ⟨lp, hlp⟩ : ∃ x, x = tmF (J - rp) ip := ⟨_, rfl⟩
  obtain ⟨hp', hhp⟩ : ∃ x, x = tmF (J - rp) ((ip : Int) + 1) := ⟨_, rfl⟩
  obtain ⟨lq, hlq⟩ : ∃ x, x = tmF (J - rq) iq := ⟨_, rfl⟩
  obtain ⟨hq', hhq⟩ : ∃ x, x = tmF (J - rq) ((iq : Int) + 1) := ⟨_, rfl⟩
  have hMp := hTp.mid
  have hMq := hTq.mid
  have hLp := hTp.long
  have hLq := hTq.long
  have hk := hM.c
  dsimp only at hk
  have hlen := hM.len
  dsimp only at hlen
  rw [← hlp, ← hhp] at hMp hLp ⊢
  rw [← hlq, ← hhq] at hMq hLq ⊢
  have hLgp := long_fn (n := np) (P := P) (lo := lp) (hi := hp')
  have hMdp := middle_fn (n := np) (P := P) (lo := lp) (hi := hp')
  have hLgq := long_fn (n := nq) (P := Q) (lo := lq) (hi := hq')
  have hMdq := middle_fn (n := nq) (P := Q) (lo := lq) (hi := hq')
  rw [hLp] at hLgp
  rw [hMp] at hMdp
  rw [hLq] at hLgq
  rw [hMq] at hMdq
  have hTo := touch_fn (np := np) (nq := nq) (P := P) (Q := Q) (f := oneF) (g := oneF) (by omega) (by omega)
  obtain ⟨tb, htb⟩ : ∃ b, b = touchB np nq P Q := ⟨_, rfl⟩
  rw [← htb] at hTo
  refine fn_intro Try.func42 rfl Try.ntmps42 (fun _ => Nat.le_of_ble_eq_true rfl) fun w0 => ?_
  repeat first | refine zaa rfl (zaz rfl) ?_ | (refine zac ?_; refine zaa rfl (zbb rfl rfl (by omega)) ?_) | (refine zae ?_; refine zaa rfl (zcf rfl rfl (by (repeat (first | exact mh | refine mt ?_)); done) rfl) ?_) | refine zah ?_ | (refine zcr ?_; refine zcs ?_) | (refine zdb ?_; first | refine zdc ?_ | refine zdd ?_) | (refine zak rfl rfl rfl ?_; intro g)
  rw [show (k : Int) + 1 = ((k + 1 : Nat) : Int) by omega]
  repeat first | (refine zac ?_; refine zaa rfl (zbg rfl rfl) ?_) | (refine zae ?_; refine zaa rfl (zcf rfl rfl (by (repeat (first | exact mh | refine mt ?_)); done) rfl) ?_) | refine zah ?_ | (refine zcr ?_; refine zcs ?_) | (refine zdb ?_; first | refine zdc ?_ | refine zdd ?_) | refine zam 6 rfl rfl rfl rfl rfl rfl ?_
  rename_i g6
  obtain ⟨g7, hg7⟩ : ∃ x, x = g := ⟨_, rfl⟩
  subst hg7
  generalize List.map (fun x : Ent => x.g) ([entC a np P ca, entF b 31 np oneF cb, entC u nq Q du, entF v 31 nq oneF dv, mtCnt gk k, mtOut go gL L.length c, entM gL (tmM J) L c] ++ mtFix gk gn go gl N) = gs
  refine WS.weak (e' := [(19, .raw (.bool (decide ((20000 : Int) < ((k + 1 : Nat) : Int))))), (7, .raw (.pointer (some ⟨g7, 0, none⟩))), (6, .raw (.pointer (some ⟨g6, 0, none⟩))), (5, .raw (.pointer (some ⟨gl, 0, none⟩))), (4, .raw (.pointer (some ⟨go, 0, none⟩))), (3, .raw (.pointer (some ⟨gn, 0, none⟩))), (2, .raw (.pointer (some ⟨gk, 0, none⟩)))]) (S' := St w0 gs [⟨g7, 62, [.raw (.slice (some ⟨u, 0, none⟩) nq du), .raw (.slice (some ⟨v, 0, none⟩) nq dv), .f .f32 lq, .f .f32 hq'], 4⟩, ⟨g6, 62, [.raw (.slice (some ⟨a, 0, none⟩) np ca), .raw (.slice (some ⟨b, 0, none⟩) np cb), .f .f32 lp, .f .f32 hp'], 4⟩, entC a np P ca, entF b 31 np oneF cb, entC u nq Q du, entF v 31 nq oneF dv, mtCnt gk (k + 1), mtOut go gL L.length c, entM gL (tmM J) L c, ⟨gn, 31, [.f .f32 N], 1⟩, ⟨gl, 76, [.raw (.func (.func 42) #[] (mtCap gk gn go gl).toArray)], 1⟩]) ?_ (by (repeat (first | exact Env.sub_nil _ | refine Env.sub_cons rfl ?_))) (fun w h => h)
  refine ws_cond rfl (fun hd => ?_) (fun hd => ?_)
  case' refine_1 =>
    have hov : ¬k < 20000 := by have := of_decide_eq_true hd; omega
    repeat first | refine zaa rfl (zaz rfl) ?_ | refine zah ?_ | (refine zcr ?_; first | refine zcs ?_ | refine zct ?_) | (refine zdb ?_; first | refine zdc ?_ | refine zdd ?_ | refine zdg ?_)
    exact done_ret1 rfl (⟨k + 1, L, gL, c, false⟩ : Mk) rfl ⟨hc, by rw [meetR_over (s := (k, L)) hov]⟩ (.cons _ (.cons _ (List.Sublist.refl _)))
  have hkl : k < 20000 := by have := of_decide_eq_false hd; omega
  clear hd
  repeat first | (refine zae ?_; refine zaa rfl (zcg rfl rfl (by (repeat (first | exact mh | refine mt ?_)); done) rfl rfl) ?_) | refine zaa rfl (zcd rfl) ?_ | refine zaa rfl (zcc rfl) ?_ | refine zah ?_ | (refine zcr ?_; refine zcs ?_) | (refine zdb ?_; first | refine zdc ?_ | refine zdd ?_ | refine zdf ?_) | refine zaa rfl (zci rfl rfl hTo (Takes.crvOc (mt (mt mh)) (mt (mt (mt mh))) hca hcb (Takes.crvOc (mt (mt (mt (mt mh)))) (mt (mt (mt (mt (mt mh))))) hdu hdv Takes.nil))) ?_
  cases tb
  case' false =>
    repeat first | refine zaa rfl (zaz rfl) ?_ | refine zah ?_ | (refine zcr ?_; first | refine zcs ?_ | refine zct ?_) | (refine zdb ?_; first | refine zdc ?_ | refine zdd ?_ | refine zdg ?_ | refine zdi rfl ?_)
    exact done_ret1 rfl (⟨k + 1, L, gL, c, true⟩ : Mk) rfl ⟨hc, by rw [meetR_apart (s := (k, L)) hkl htb.symm]; exact ⟨rfl, rfl⟩⟩ (.cons _ (.cons _ (List.Sublist.refl _)))
  repeat first | (refine zcr ?_; refine zcs ?_) | (refine zdb ?_; first | refine zdc ?_ | refine zdf ?_ | refine zdj rfl ?_)
  refine WS.weak (e' := [(7, .raw (.pointer (some ⟨g7, 0, none⟩))), (6, .raw (.pointer (some ⟨g6, 0, none⟩))), (5, .raw (.pointer (some ⟨gl, 0, none⟩))), (4, .raw (.pointer (some ⟨go, 0, none⟩))), (3, .raw (.pointer (some ⟨gn, 0, none⟩))), (2, .raw (.pointer (some ⟨gk, 0, none⟩)))]) (S' := St w0 gs [⟨g7, 62, [.raw (.slice (some ⟨u, 0, none⟩) nq du), .raw (.slice (some ⟨v, 0, none⟩) nq dv), .f .f32 lq, .f .f32 hq'], 4⟩, ⟨g6, 62, [.raw (.slice (some ⟨a, 0, none⟩) np ca), .raw (.slice (some ⟨b, 0, none⟩) np cb), .f .f32 lp, .f .f32 hp'], 4⟩, entC a np P ca, entF b 31 np oneF cb, entC u nq Q du, entF v 31 nq oneF dv, mtCnt gk (k + 1), mtOut go gL L.length c, entM gL (tmM J) L c, ⟨gn, 31, [.f .f32 N], 1⟩, ⟨gl, 76, [.raw (.func (.func 42) #[] (mtCap gk gn go gl).toArray)], 1⟩]) ?_ (by (repeat (first | exact Env.sub_nil _ | refine Env.sub_cons rfl ?_))) (fun w h => h)
  have hlfp := hJ.leaf (J - rp) (by omega)
  have hlfq := hJ.leaf (J - rq) (by omega)
  have hgeq := long_ge (j := J - rp) (k := J - rq) (by omega) (by omega)
  refine ws_draw (n := 10) mixed (by decide +kernel) ?_
  repeat first | refine zap rfl (zay rfl) ?_ | (refine zar ?_; refine zap rfl (zbd rfl rfl rfl) ?_) | (refine zat ?_; first | refine zap rfl (zcf rfl rfl (by (repeat (first | exact mh | refine mt ?_)); done) rfl) ?_ | refine zap rfl (zcg rfl rfl (by (repeat (first | exact mh | refine mt ?_)); done) rfl rfl) ?_) | refine zap rfl (zci rfl rfl hLgp (Takes.ptOc (mt (mt mh)) (mt (mt (mt mh))) hca hcb Takes.nil)) ?_
  rw [hlfp]
  by_cases hrp0 : rp = 0 ∧ rq = 0
  case' pos =>
    obtain ⟨rfl, rfl⟩ := hrp0
    rw [decide_eq_true (show J ≤ J - 0 by omega)]
    have hMdp' : Fn Try.prog 33 (fun w => [partA w np P lp hp']) (.f .f32 (tmM J ip)) := hMdp
    have hMdq' : Fn Try.prog 33 (fun w => [partA w nq Q lq hq']) (.f .f32 (tmM J iq)) := hMdq
    have hip' : ip < 2 ^ J := hip
    have hiq' : iq < 2 ^ J := hiq
    have hleaf : meetR np nq (0 + 0) 0 0 ip iq P Q (k, L) = addM (ip, iq) (k + 1) L := meetR_leaf (s := (k, L)) hkl htb.symm
    have hCo := containsFuncM_fn (τ := tmM J) (xs := [.f .f32 (tmM J ip), .f .f32 (tmM J iq)]) (ys := [.f .f32 N]) L (by omega) 45 (nearB (ip, iq)) (fun x hx => nearM_fn (J := J) (i := (ip, iq)) (k := x) (by omega) ⟨hip', hiq'⟩ (hM.g x hx) hJ.four)
    clear hLgp hMdp hMdq hgeq hlfp ih hTp hTq hMp hMq hip hiq
    repeat first | refine zaw rfl rfl ?_ | (refine zar ?_; refine zap rfl (zbd rfl rfl rfl) ?_) | (refine zat ?_; first | refine zap rfl (zcf rfl rfl (by (repeat (first | exact mh | refine mt ?_)); done) rfl) ?_ | refine zap rfl (zcg rfl rfl (by (repeat (first | exact mh | refine mt ?_)); done) rfl rfl) ?_) | refine zap rfl (zca rfl rfl) ?_ | refine zav ?_ | refine zap rfl (zci rfl rfl hLgq (Takes.ptOc (mt (mt (mt (mt mh)))) (mt (mt (mt (mt (mt mh))))) hdu hdv Takes.nil)) ?_
    rw [hlfq, decide_eq_true (show J ≤ J - 0 by omega)]
    repeat first | refine zah ?_ | (refine zcr ?_; refine zcs ?_) | (refine zdb ?_; first | refine zdc ?_ | refine zdi rfl ?_)
    refine ws_drawP (ix := [0, 1, 2, 3, 4]) (W := St w0 gs [⟨g6, 62, [.raw (.slice (some ⟨a, 0, none⟩) np ca), .raw (.slice (some ⟨b, 0, none⟩) np cb), .f .f32 lp, .f .f32 hp'], 4⟩, entC a np P ca, entF b 31 np oneF cb, ⟨g7, 62, [.raw (.slice (some ⟨u, 0, none⟩) nq du), .raw (.slice (some ⟨v, 0, none⟩) nq dv), .f .f32 lq, .f .f32 hq'], 4⟩, entC u nq Q du, entF v 31 nq oneF dv]) mixed (by decide +kernel) (fun _ h => h.sel [1, 2, 3, 0, 4, 5] (by decide) rfl) ?_
    repeat first | (refine zat ?_; refine zap rfl (zcg rfl rfl (by (repeat (first | exact mh | refine mt ?_)); done) rfl rfl) ?_) | refine zav ?_ | refine zap rfl (zci rfl rfl hMdp' (Takes.ptOc (mt mh) (mt (mt mh)) hca hcb Takes.nil)) ?_ | refine zap rfl (zci rfl rfl hMdq' (Takes.ptOc (mt (mt (mt (mt mh)))) (mt (mt (mt (mt (mt mh))))) hdu hdv Takes.nil)) ?_ | refine zap rfl (opj_buildM rfl rfl) ?_
    refine ⟨rfl, ?_⟩
    refine gp_name fun o ho Q' hQ => ?_
    have q5 := op_at (i := 5) ho rfl
    have q6 := op_at (i := 6) ho rfl
    refine gp_step [5] (by rw [ho]; decide +kernel) fun x hx => ?_
    obtain rfl : x = 5 := by simpa using hx
    refine sp_makes q5 rfl (by rw [ho]; decide +kernel) rfl (makesX_alloc rfl rfl rfl) fun g9 => cont_go (fun _ h => h.sel [2, 3, 4, 1, 5, 6] (by decide) rfl) ?_
    refine gp_step [6] (by rw [ho]; decide +kernel) fun x hx => ?_
    obtain rfl : x = 6 := by simpa using hx
    refine sp_eff q6 (by rw [ho]; decide +kernel) (effj_storeAX 0 rfl rfl rfl rfl rfl rfl rfl rfl rfl) (cont_set (by rw [ho]; decide +kernel) rfl ?_)
    refine gp_end (by rw [ho]; decide +kernel) ?_
    rw [hQ]
    clear hQ ho q5 q6
    repeat first | (refine zae ?_; refine zaa rfl (zcf rfl rfl (by (repeat (first | exact mh | refine mt ?_)); done) rfl) ?_) | refine zaa rfl (zcc rfl) ?_ | refine zah ?_ | (refine zcr ?_; refine zcs ?_) | (refine zdb ?_; first | refine zdc ?_ | refine zdd ?_) | refine zaa rfl (opj_makeFunc2 rfl rfl) ?_ | refine zaa rfl (zci rfl rfl hCo (Takes.meets (mt (mt (mt (mt (mt (mt (mt (mt (mt mh))))))))) hc (Takes.clo2 mh (mt (mt (mt (mt (mt (mt (mt (mt (mt (mt mh)))))))))) Takes.nil))) ?_
    have hsn : (L ++ [(ip, iq)]).length = L.length + 1 := by simp
    cases hany : L.any (nearB (ip, iq))
    case' true =>
      repeat first | refine zaa rfl (zaz rfl) ?_ | (refine zac ?_; refine zaa rfl (zbf rfl rfl) ?_) | (refine zad ?_; refine zaa rfl (zbn rfl) ?_) | (refine zae ?_; refine zaa rfl (zcf rfl rfl (by (repeat (first | exact mh | refine mt ?_)); done) rfl) ?_) | refine zah ?_ | (refine zcr ?_; first | refine zcs ?_ | refine zct ?_) | (refine zdb ?_; first | refine zdc ?_ | refine zdd ?_ | refine zdf ?_ | refine zdg ?_ | refine zdj rfl ?_)
      exact done_ret1 rfl (⟨k + 1, L, gL, c, decide ((L.length : Int) ≤ 24)⟩ : Mk) rfl ⟨hc, by rw [hleaf]; unfold addM; rw [hany]; exact ⟨decide_eq_true (by omega), rfl⟩⟩ (.cons _ (.cons _ (.cons _ (List.Sublist.refl _))))
    case' false =>
      repeat first | refine zaa rfl (zaz rfl) ?_ | (refine zac ?_; refine zaa rfl (zbf rfl rfl) ?_) | (refine zad ?_; refine zaa rfl (zbn rfl) ?_) | (refine zae ?_; first | refine zaa rfl (zcf rfl rfl (by (repeat (first | exact mh | refine mt ?_)); done) rfl) ?_ | refine zaa rfl (zcg rfl rfl (by (repeat (first | exact mh | refine mt ?_)); done) rfl rfl) ?_) | refine zah ?_ | (refine zcr ?_; first | refine zcs ?_ | refine zct ?_) | (refine zdb ?_; first | refine zdc ?_ | refine zdd ?_ | refine zdg ?_ | refine zdi rfl ?_) | refine zaa rfl (opj_litM rfl) ?_ | (refine rs_appendM 9 L (ip, iq) (tmM J) rfl rfl rfl rfl hc (by omega) rfl rfl ?_; intro g' c' h1 h2) | refine zam 8 rfl rfl rfl rfl rfl rfl ?_
      refine done_ret1 rfl (⟨k + 1, L ++ [(ip, iq)], g', c', decide (((L ++ [(ip, iq)]).length : Int) ≤ 24)⟩ : Mk) rfl ⟨⟨h1, h2⟩, ?_⟩ (.cons _ (.cons _ (.cons _ (List.Sublist.refl _))))
      rw [hleaf]
      unfold addM
      rw [hany]
      dsimp only
      by_cases h24 : L.length < 24
      · rw [decide_eq_true h24]
        exact ⟨decide_eq_true (by omega), rfl⟩
      · rw [decide_eq_false h24]
        exact decide_eq_false (by omega)
  cases hb1 : decide (J ≤ J - rp)
  case' true =>
    have hb2 : decide (J ≤ J - rq) = false := decide_eq_false (by have := of_decide_eq_true hb1; omega)
    rw [hb2] at hlfq
    repeat first | refine zaw rfl rfl ?_ | (refine zar ?_; refine zap rfl (zbd rfl rfl rfl) ?_) | (refine zat ?_; first | refine zap rfl (zcf rfl rfl (by (repeat (first | exact mh | refine mt ?_)); done) rfl) ?_ | refine zap rfl (zcg rfl rfl (by (repeat (first | exact mh | refine mt ?_)); done) rfl rfl) ?_) | refine zap rfl (zca rfl rfl) ?_ | refine zav ?_ | refine zap rfl (zci rfl rfl hLgq (Takes.ptOc (mt (mt (mt (mt mh)))) (mt (mt (mt (mt (mt mh))))) hdu hdv Takes.nil)) ?_
    rw [hlfq]
  all_goals
    repeat first | refine zax rfl rfl rfl rfl ?_ | refine zap rfl (zcb rfl rfl) ?_ | refine zav ?_
    repeat first | refine zah ?_ | (refine zcr ?_; refine zcs ?_) | (refine zdb ?_; first | refine zdc ?_ | refine zdf ?_ | refine zdj rfl ?_)
    refine WS.weak (e' := [(7, .raw (.pointer (some ⟨g7, 0, none⟩))), (6, .raw (.pointer (some ⟨g6, 0, none⟩))), (5, .raw (.pointer (some ⟨gl, 0, none⟩))), (4, .raw (.pointer (some ⟨go, 0, none⟩))), (3, .raw (.pointer (some ⟨gn, 0, none⟩))), (2, .raw (.pointer (some ⟨gk, 0, none⟩)))]) (S' := St w0 gs [⟨g7, 62, [.raw (.slice (some ⟨u, 0, none⟩) nq du), .raw (.slice (some ⟨v, 0, none⟩) nq dv), .f .f32 lq, .f .f32 hq'], 4⟩, ⟨g6, 62, [.raw (.slice (some ⟨a, 0, none⟩) np ca), .raw (.slice (some ⟨b, 0, none⟩) np cb), .f .f32 lp, .f .f32 hp'], 4⟩, entC a np P ca, entF b 31 np oneF cb, entC u nq Q du, entF v 31 nq oneF dv, mtCnt gk (k + 1), mtOut go gL L.length c, entM gL (tmM J) L c, ⟨gn, 31, [.f .f32 N], 1⟩, ⟨gl, 76, [.raw (.func (.func 42) #[] (mtCap gk gn go gl).toArray)], 1⟩]) ?_ (by (repeat (first | exact Env.sub_nil _ | refine Env.sub_cons rfl ?_))) (fun w h => h)
    refine ws_draw (n := 5) mixed (by decide +kernel) ?_
    repeat first | (refine zar ?_; refine zap rfl (zbd rfl rfl rfl) ?_) | (refine zat ?_; refine zap rfl (zcg rfl rfl (by (repeat (first | exact mh | refine mt ?_)); done) rfl rfl) ?_) | refine zav ?_ | refine zap rfl (zci rfl rfl hLgp (Takes.ptOc (mt (mt mh)) (mt (mt (mt mh))) hca hcb Takes.nil)) ?_ | refine zap rfl (zci rfl rfl hLgq (Takes.ptOc (mt (mt (mt (mt mh)))) (mt (mt (mt (mt (mt mh))))) hdu hdv Takes.nil)) ?_
    rw [hgeq]
    by_cases hle : rq ≤ rp
    case' pos =>
      rw [decide_eq_true (show J - rp ≤ J - rq by omega)]
      obtain ⟨r, hr⟩ : ∃ r, rp = r + 1 := ⟨rp - 1, by omega⟩
      subst hr
      have hsucc := meetR_p (s := (k, L)) (m := r + rq) (ip := ip) (iq := iq) hkl htb.symm hle
      rw [show r + rq + 1 = r + 1 + rq by omega] at hsucc
      rw [show r + 1 - 1 = r from rfl] at hsucc
      dsimp only at hsucc
      have hHv := halves_fn (n := np) (P := P) (lo := lp) (hi := hp') ⟨hp.1, by omega⟩ hBp.fin hBp.left.fin hBp.right.fin
      rw [hMp] at hHv
      have hjr : J - r = J - (r + 1) + 1 := by omega
      have t1 : tmF (J - r) ((2 * ip : Nat) : Int) = lp := by rw [hjr, hlp, ← hTp.low, show ((2 * ip : Nat) : Int) = 2 * (ip : Int) by omega]
      have t2 : tmF (J - r) ((2 * ip : Nat) + 1 : Int) = tmF (J - (r + 1) + 1) (2 * (ip : Int) + 1) := by rw [hjr, show ((2 * ip : Nat) : Int) = 2 * (ip : Int) by omega]
      have t3 : tmF (J - r) ((2 * ip + 1 : Nat) : Int) = tmF (J - (r + 1) + 1) (2 * (ip : Int) + 1) := by rw [hjr, show ((2 * ip + 1 : Nat) : Int) = 2 * (ip : Int) + 1 by omega]
      have t4 : tmF (J - r) (((2 * ip + 1 : Nat) : Int) + 1) = hp' := by rw [hjr, hhp, ← hTp.high, show ((2 * ip + 1 : Nat) : Int) + 1 = 2 * (ip : Int) + 2 by omega]
      have hi1 : 2 * ip + 1 < 2 ^ (J - r) := by rw [hjr, Nat.pow_succ]; omega
      obtain ⟨mi, hmi⟩ : ∃ mi, mi = tmF (J - (r + 1) + 1) (2 * (ip : Int) + 1) := ⟨_, rfl⟩
      rw [← hmi] at hHv t2 t3
      have hM1 : MetP (inJ J) (k + 1, L) := ⟨hM.g, hM.len, by simp only; omega⟩
      repeat first | (refine zae ?_; refine zaa rfl (zcg rfl rfl (by (repeat (first | exact mh | refine mt ?_)); done) rfl rfl) ?_) | refine zah ?_ | (refine zcr ?_; refine zcs ?_) | (refine zdb ?_; first | refine zdc ?_ | refine zdd ?_ | refine zdi rfl ?_)
      refine rs_callM3 hHv rfl rfl (Takes.ptOc (mt (mt mh)) (mt (mt (mt mh))) hca hcb Takes.nil) rfl ?_
      rintro ⟨kk, a1, b1, ca1, cb1, a2, b2, ca2, cb2, ra, rb, rca, rcb⟩ ⟨⟨h1, h2⟩, h3, h4⟩
      dsimp only at h1 h2 h3 h4 ⊢
      have hc1 := ih r rq (by omega) hrq (by omega) (2 * ip) iq (leftP P) Q (k + 1) L a1 b1 ca1 cb1 u v du dv gL c (by omega) hiq hBp.left hBq hM1 ⟨h1, h2⟩ ⟨hdu, hdv⟩ hc
      rw [t1, t2, ← hlq, ← hhq] at hc1
      repeat first | refine zai rfl rfl ?_ | refine zaa rfl (zay rfl) ?_ | refine zaa rfl (zaz rfl) ?_ | (refine zae ?_; first | refine zaa rfl (zcf rfl rfl (by (repeat (first | exact mh | refine mt ?_)); done) rfl) ?_ | refine zaa rfl (zcg rfl rfl (by (repeat (first | exact mh | refine mt ?_)); done) rfl rfl) ?_) | refine zaa rfl (zbz rfl rfl) ?_ | refine zah ?_ | (refine zcr ?_; refine zcs ?_) | (refine zdb ?_; first | refine zdc ?_ | refine zdd ?_) | (refine zal rfl rfl ?_; intro g) | (refine zag ?_; first | refine zan 0 rfl rfl rfl rfl rfl rfl rfl rfl rfl ?_ | refine zan 1 rfl rfl rfl rfl rfl rfl rfl rfl rfl ?_)
      obtain ⟨g11, hg11⟩ : ∃ x, x = g := ⟨_, rfl⟩
      subst hg11
      refine RS.weakS (e' := [(67, ptOc u v nq du dv lq hq'), (66, ptOc a1 b1 np ca1 cb1 lp mi), (65, (.raw (.func (.func 42) #[] (mtCap gk gn go gl).toArray))), (64, .raw (.bool true)), (11, .raw (.pointer (some ⟨g11, 0, none⟩))), (7, .raw (.pointer (some ⟨g7, 0, none⟩))), (5, .raw (.pointer (some ⟨gl, 0, none⟩)))]) (RS.st (S' := StR (fun _ => True) w0 gs ([entC a1 np (leftP P) ca1, entF b1 31 np oneF cb1, entC u nq Q du, entF v 31 nq oneF dv, mtCnt gk (k + 1), mtOut go gL L.length c, entM gL (tmM J) L c, ⟨gn, 31, [.f .f32 N], 1⟩, ⟨gl, 76, [.raw (.func (.func 42) #[] (mtCap gk gn go gl).toArray)], 1⟩] ++ [⟨g11, 62, [.raw (.slice (some ⟨a2, 0, none⟩) np ca2), .raw (.slice (some ⟨b2, 0, none⟩) np cb2), .f .f32 mi, .f .f32 hp'], 4⟩, ⟨g7, 62, [.raw (.slice (some ⟨u, 0, none⟩) nq du), .raw (.slice (some ⟨v, 0, none⟩) nq dv), .f .f32 lq, .f .f32 hq'], 4⟩, entF b2 31 np oneF cb2, entC a2 np (rightP np P) ca2, entC a np P ca, entF b 31 np oneF cb])) ?_ (fun w h => h.sel [4, 5, 10, 11, 12, 13, 14, 15, 16, 0, 6, 2, 3, 8, 9] (by decide) rfl)) (by (repeat (first | exact Env.sub_nil _ | refine Env.sub_cons rfl ?_)))
      refine rs_callK (cap := mtCap gk gn go gl) hc1 rfl rfl (fun _ _ _ h => h) rfl ?_
      rintro ⟨k1, L1, g1, c1, ok1⟩ ⟨hcc, hres⟩
      dsimp only at hcc hres ⊢
      cases hl1 : meetR np nq (r + rq) r rq (2 * ip) iq (leftP P) Q (k + 1, L) with
      | none =>
        rw [hl1] at hres hsucc
        dsimp only at hres hsucc
        subst hres
        repeat first | refine zaj rfl rfl rfl rfl ?_ | refine zaa rfl (zay rfl) ?_ | refine zaa rfl (zaz rfl) ?_ | refine zaa rfl (zca rfl rfl) ?_ | refine zaa rfl (zcb rfl rfl) ?_ | refine zah ?_ | (refine zcr ?_; first | refine zcs ?_ | refine zct ?_) | (refine zdb ?_; refine zdg ?_)
        exact Done.st (S' := StR (fun _ => True) w0 gs [entC a np P ca, entF b 31 np oneF cb, entC u nq Q du, entF v 31 nq oneF dv, mtCnt gk k1, mtOut go g1 L1.length c1, entM g1 (tmM J) L1 c1, ⟨gn, 31, [.f .f32 N], 1⟩, ⟨gl, 76, [.raw (.func (.func 42) #[] (mtCap gk gn go gl).toArray)], 1⟩]) (done_ret1 rfl (⟨k1, L1, g1, c1, false⟩ : Mk) rfl ⟨hcc, by rw [hsucc]⟩ (List.Sublist.refl _)) (fun w h => h.sel [13, 14, 2, 3, 4, 5, 6, 7, 8] (by decide) rfl)
      | some s1 =>
        rw [hl1] at hres hsucc
        dsimp only at hres hsucc
        obtain ⟨rfl, rfl⟩ := hres
        have hM2 : MetP (inJ J) (k1, L1) := meet_met r rq (2 * ip) iq (leftP P) Q (k + 1, L) (k1, L1) (by omega) hrq (by omega) hiq hM1 hl1
        have hc2 := ih r rq (by omega) hrq (by omega) (2 * ip + 1) iq (rightP np P) Q k1 L1 a2 b2 ca2 cb2 u v du dv g1 c1 hi1 hiq hBp.right hBq hM2 ⟨h3, h4⟩ ⟨hdu, hdv⟩ hcc
        rw [t3, t4, ← hlq, ← hhq] at hc2
        repeat first | refine zai rfl rfl ?_ | refine zaa rfl (zay rfl) ?_ | (refine zae ?_; first | refine zaa rfl (zcf rfl rfl (by (repeat (first | exact mh | refine mt ?_)); done) rfl) ?_ | refine zaa rfl (zcg rfl rfl (by (repeat (first | exact mh | refine mt ?_)); done) rfl rfl) ?_) | refine zaa rfl (zca rfl rfl) ?_
        refine RS.weakS (e' := [(73, ptOc u v nq du dv lq hq'), (72, ptOc a2 b2 np ca2 cb2 mi hp'), (71, (.raw (.func (.func 42) #[] (mtCap gk gn go gl).toArray))), (70, .raw (.bool true))]) (RS.st (S' := StR (fun _ => True) w0 gs ([entC a2 np (rightP np P) ca2, entF b2 31 np oneF cb2, entC u nq Q du, entF v 31 nq oneF dv, mtCnt gk k1, mtOut go g1 L1.length c1, entM g1 (tmM J) L1 c1, ⟨gn, 31, [.f .f32 N], 1⟩, ⟨gl, 76, [.raw (.func (.func 42) #[] (mtCap gk gn go gl).toArray)], 1⟩] ++ [entC a np P ca, entF b 31 np oneF cb])) ?_ (fun w h => h.sel [12, 11, 2, 3, 4, 5, 6, 7, 8, 13, 14] (by decide) rfl)) (by (repeat (first | exact Env.sub_nil _ | refine Env.sub_cons rfl ?_)))
        refine rs_callK (cap := mtCap gk gn go gl) hc2 rfl rfl (fun _ _ _ h => h) rfl ?_
        rintro ⟨k2, L2, g2, c2, ok2⟩ ⟨hcc2, hres2⟩
        dsimp only at hcc2 hres2 ⊢
        repeat first | refine zaa rfl (zaz rfl) ?_ | refine zaa rfl (zca rfl rfl) ?_ | refine zah ?_ | (refine zcr ?_; first | refine zcs ?_ | refine zct ?_) | (refine zdb ?_; refine zdg ?_)
        exact Done.st (S' := StR (fun _ => True) w0 gs [entC a np P ca, entF b 31 np oneF cb, entC u nq Q du, entF v 31 nq oneF dv, mtCnt gk k2, mtOut go g2 L2.length c2, entM g2 (tmM J) L2 c2, ⟨gn, 31, [.f .f32 N], 1⟩, ⟨gl, 76, [.raw (.func (.func 42) #[] (mtCap gk gn go gl).toArray)], 1⟩]) (done_ret1 rfl (⟨k2, L2, g2, c2, ok2⟩ : Mk) rfl ⟨hcc2, by rw [hsucc]; exact hres2⟩ (List.Sublist.refl _)) (fun w h => h.sel [9, 10, 2, 3, 4, 5, 6, 7, 8] (by decide) rfl)
    case' neg =>
      rw [decide_eq_false (show ¬J - rp ≤ J - rq by omega)]
      obtain ⟨r, hr⟩ : ∃ r, rq = r + 1 := ⟨rq - 1, by omega⟩
      subst hr
      have hsucc := meetR_q (s := (k, L)) (m := rp + r) (ip := ip) (iq := iq) hkl htb.symm hle
      rw [show rp + r + 1 = rp + (r + 1) from rfl] at hsucc
      rw [show r + 1 - 1 = r from rfl] at hsucc
      dsimp only at hsucc
      have hHv := halves_fn (n := nq) (P := Q) (lo := lq) (hi := hq') ⟨hq.1, by omega⟩ hBq.fin hBq.left.fin hBq.right.fin
      rw [hMq] at hHv
      have hjr : J - r = J - (r + 1) + 1 := by omega
      have t1 : tmF (J - r) ((2 * iq : Nat) : Int) = lq := by rw [hjr, hlq, ← hTq.low, show ((2 * iq : Nat) : Int) = 2 * (iq : Int) by omega]
      have t2 : tmF (J - r) ((2 * iq : Nat) + 1 : Int) = tmF (J - (r + 1) + 1) (2 * (iq : Int) + 1) := by rw [hjr, show ((2 * iq : Nat) : Int) = 2 * (iq : Int) by omega]
      have t3 : tmF (J - r) ((2 * iq + 1 : Nat) : Int) = tmF (J - (r + 1) + 1) (2 * (iq : Int) + 1) := by rw [hjr, show ((2 * iq + 1 : Nat) : Int) = 2 * (iq : Int) + 1 by omega]
      have t4 : tmF (J - r) (((2 * iq + 1 : Nat) : Int) + 1) = hq' := by rw [hjr, hhq, ← hTq.high, show ((2 * iq + 1 : Nat) : Int) + 1 = 2 * (iq : Int) + 2 by omega]
      have hi1 : 2 * iq + 1 < 2 ^ (J - r) := by rw [hjr, Nat.pow_succ]; omega
      obtain ⟨mi, hmi⟩ : ∃ mi, mi = tmF (J - (r + 1) + 1) (2 * (iq : Int) + 1) := ⟨_, rfl⟩
      rw [← hmi] at hHv t2 t3
      have hM1 : MetP (inJ J) (k + 1, L) := ⟨hM.g, hM.len, by simp only; omega⟩
      repeat first | (refine zae ?_; refine zaa rfl (zcg rfl rfl (by (repeat (first | exact mh | refine mt ?_)); done) rfl rfl) ?_) | refine zah ?_ | (refine zcr ?_; refine zcs ?_) | (refine zdb ?_; first | refine zdc ?_ | refine zdd ?_ | refine zdf ?_ | refine zdj rfl ?_)
      refine rs_callM3 hHv rfl rfl (Takes.ptOc (mt (mt (mt (mt mh)))) (mt (mt (mt (mt (mt mh))))) hdu hdv Takes.nil) rfl ?_
      rintro ⟨kk, a1, b1, ca1, cb1, a2, b2, ca2, cb2, ra, rb, rca, rcb⟩ ⟨⟨h1, h2⟩, h3, h4⟩
      dsimp only at h1 h2 h3 h4 ⊢
      have hc1 := ih rp r hrp (by omega) (by omega) ip (2 * iq) P (leftP Q) (k + 1) L a b ca cb a1 b1 ca1 cb1 gL c hip (by omega) hBp hBq.left hM1 ⟨hca, hcb⟩ ⟨h1, h2⟩ hc
      rw [t1, t2, ← hlp, ← hhp] at hc1
      repeat first | refine zai rfl rfl ?_ | refine zaa rfl (zay rfl) ?_ | refine zaa rfl (zaz rfl) ?_ | (refine zae ?_; first | refine zaa rfl (zcf rfl rfl (by (repeat (first | exact mh | refine mt ?_)); done) rfl) ?_ | refine zaa rfl (zcg rfl rfl (by (repeat (first | exact mh | refine mt ?_)); done) rfl rfl) ?_) | refine zaa rfl (zbz rfl rfl) ?_ | refine zah ?_ | (refine zcr ?_; refine zcs ?_) | (refine zdb ?_; first | refine zdc ?_ | refine zdd ?_) | (refine zal rfl rfl ?_; intro g) | (refine zag ?_; first | refine zan 0 rfl rfl rfl rfl rfl rfl rfl rfl rfl ?_ | refine zan 1 rfl rfl rfl rfl rfl rfl rfl rfl rfl ?_)
      obtain ⟨g11, hg11⟩ : ∃ x, x = g := ⟨_, rfl⟩
      subst hg11
      refine RS.weakS (e' := [(86, ptOc a1 b1 nq ca1 cb1 lq mi), (85, ptOc a b np ca cb lp hp'), (84, (.raw (.func (.func 42) #[] (mtCap gk gn go gl).toArray))), (83, .raw (.bool true)), (14, .raw (.pointer (some ⟨g11, 0, none⟩))), (6, .raw (.pointer (some ⟨g6, 0, none⟩))), (5, .raw (.pointer (some ⟨gl, 0, none⟩)))]) (RS.st (S' := StR (fun _ => True) w0 gs ([entC a np P ca, entF b 31 np oneF cb, entC a1 nq (leftP Q) ca1, entF b1 31 nq oneF cb1, mtCnt gk (k + 1), mtOut go gL L.length c, entM gL (tmM J) L c, ⟨gn, 31, [.f .f32 N], 1⟩, ⟨gl, 76, [.raw (.func (.func 42) #[] (mtCap gk gn go gl).toArray)], 1⟩] ++ [⟨g11, 62, [.raw (.slice (some ⟨a2, 0, none⟩) nq ca2), .raw (.slice (some ⟨b2, 0, none⟩) nq cb2), .f .f32 mi, .f .f32 hq'], 4⟩, ⟨g6, 62, [.raw (.slice (some ⟨a, 0, none⟩) np ca), .raw (.slice (some ⟨b, 0, none⟩) np cb), .f .f32 lp, .f .f32 hp'], 4⟩, entF b2 31 nq oneF cb2, entC a2 nq (rightP nq Q) ca2, entC u nq Q du, entF v 31 nq oneF dv])) ?_ (fun w h => h.sel [8, 9, 4, 5, 12, 13, 14, 15, 16, 0, 7, 2, 3, 10, 11] (by decide) rfl)) (by (repeat (first | exact Env.sub_nil _ | refine Env.sub_cons rfl ?_)))
      refine rs_callK (cap := mtCap gk gn go gl) hc1 rfl rfl (fun _ _ _ h => h) rfl ?_
      rintro ⟨k1, L1, g1, c1, ok1⟩ ⟨hcc, hres⟩
      dsimp only at hcc hres ⊢
      cases hl1 : meetR np nq (rp + r) rp r ip (2 * iq) P (leftP Q) (k + 1, L) with
      | none =>
        rw [hl1] at hres hsucc
        dsimp only at hres hsucc
        subst hres
        repeat first | refine zaj rfl rfl rfl rfl ?_ | refine zaa rfl (zay rfl) ?_ | refine zaa rfl (zaz rfl) ?_ | refine zaa rfl (zca rfl rfl) ?_ | refine zaa rfl (zcb rfl rfl) ?_ | refine zah ?_ | (refine zcr ?_; refine zcs ?_) | (refine zdb ?_; refine zdg ?_)
        exact Done.st (S' := StR (fun _ => True) w0 gs [entC a np P ca, entF b 31 np oneF cb, entC u nq Q du, entF v 31 nq oneF dv, mtCnt gk k1, mtOut go g1 L1.length c1, entM g1 (tmM J) L1 c1, ⟨gn, 31, [.f .f32 N], 1⟩, ⟨gl, 76, [.raw (.func (.func 42) #[] (mtCap gk gn go gl).toArray)], 1⟩]) (done_ret1 rfl (⟨k1, L1, g1, c1, false⟩ : Mk) rfl ⟨hcc, by rw [hsucc]⟩ (List.Sublist.refl _)) (fun w h => h.sel [0, 1, 13, 14, 4, 5, 6, 7, 8] (by decide) rfl)
      | some s1 =>
        rw [hl1] at hres hsucc
        dsimp only at hres hsucc
        obtain ⟨rfl, rfl⟩ := hres
        have hM2 : MetP (inJ J) (k1, L1) := meet_met rp r ip (2 * iq) P (leftP Q) (k + 1, L) (k1, L1) hrp (by omega) hip (by omega) hM1 hl1
        have hc2 := ih rp r hrp (by omega) (by omega) ip (2 * iq + 1) P (rightP nq Q) k1 L1 a b ca cb a2 b2 ca2 cb2 g1 c1 hip hi1 hBp hBq.right hM2 ⟨hca, hcb⟩ ⟨h3, h4⟩ hcc
        rw [t3, t4, ← hlp, ← hhp] at hc2
        repeat first | refine zai rfl rfl ?_ | refine zaa rfl (zay rfl) ?_ | (refine zae ?_; first | refine zaa rfl (zcf rfl rfl (by (repeat (first | exact mh | refine mt ?_)); done) rfl) ?_ | refine zaa rfl (zcg rfl rfl (by (repeat (first | exact mh | refine mt ?_)); done) rfl rfl) ?_) | refine zaa rfl (zca rfl rfl) ?_
        refine RS.weakS (e' := [(92, ptOc a2 b2 nq ca2 cb2 mi hq'), (91, ptOc a b np ca cb lp hp'), (90, (.raw (.func (.func 42) #[] (mtCap gk gn go gl).toArray))), (89, .raw (.bool true))]) (RS.st (S' := StR (fun _ => True) w0 gs ([entC a np P ca, entF b 31 np oneF cb, entC a2 nq (rightP nq Q) ca2, entF b2 31 nq oneF cb2, mtCnt gk k1, mtOut go g1 L1.length c1, entM g1 (tmM J) L1 c1, ⟨gn, 31, [.f .f32 N], 1⟩, ⟨gl, 76, [.raw (.func (.func 42) #[] (mtCap gk gn go gl).toArray)], 1⟩] ++ [entC u nq Q du, entF v 31 nq oneF dv])) ?_ (fun w h => h.sel [0, 1, 12, 11, 4, 5, 6, 7, 8, 13, 14] (by decide) rfl)) (by (repeat (first | exact Env.sub_nil _ | refine Env.sub_cons rfl ?_)))
        refine rs_callK (cap := mtCap gk gn go gl) hc2 rfl rfl (fun _ _ _ h => h) rfl ?_
        rintro ⟨k2, L2, g2, c2, ok2⟩ ⟨hcc2, hres2⟩
        dsimp only at hcc2 hres2 ⊢
        repeat first | refine zaa rfl (zaz rfl) ?_ | refine zaa rfl (zca rfl rfl) ?_ | refine zah ?_ | (refine zcr ?_; refine zcs ?_) | (refine zdb ?_; refine zdg ?_)
        exact Done.st (S' := StR (fun _ => True) w0 gs [entC a np P ca, entF b 31 np oneF cb, entC u nq Q du, entF v 31 nq oneF dv, mtCnt gk k2, mtOut go g2 L2.length c2, entM g2 (tmM J) L2 c2, ⟨gn, 31, [.f .f32 N], 1⟩, ⟨gl, 76, [.raw (.func (.func 42) #[] (mtCap gk gn go gl).toArray)], 1⟩]) (done_ret1 rfl (⟨k2, L2, g2, c2, ok2⟩ : Mk) rfl ⟨hcc2, by rw [hsucc]; exact hres2⟩ (List.Sublist.refl _)) (fun w h => h.sel [0, 1, 9, 10, 4, 5, 6, 7, 8] (by decide) rfl)
theorem meet_all {np nq J : Nat} {N : FV} {gk gn go gl : Nat} (hp : 2 ≤ np ∧ np ≤ 5) (hq : 2 ≤ nq ∧ nq ≤ 5) (hJ : NearJ J N) : ∀ m rp rq, rp + rq = m → rp ≤ J → rq ≤ J → MkC np nq J N gk gn go gl rp rq
  | 0, rp, rq, hm, h1, h2 => meet_step hp hq hJ rp rq h1 h2 (fun _ _ _ _ e => by omega)
  | m + 1, rp, rq, hm, h1, h2 => meet_step hp hq hJ rp rq h1 h2 (fun rp' rq' e1 e2 e => meet_all hp hq hJ m rp' rq' (by omega) e1 e2)
end Go.Ab
namespace Go.Ab
open Go.Proofs
variable {R : World → Prop} [RStab R]
section
variable {P : Program} {t el : TypeId} {S : World → Prop} {N : Nat} {e : Env} {Q : Exit → Env → World → Prop} {ops : Array Oper} {l : List Oper} {dst : Option Tmp} {ty : TypeId} {pos : String} {after : Array Edge} {guard : Option (Nat × Bool)}
variable {w0 : World} {gs : List Nat} {H : List Ent}
theorem rs_litM0 {d : Tmp} {sz : Nat} {z : Value} {b : Nat} [hu : TyU P t (.slice el)] [hi : TyI P el z sz b] (hd : Nat.blt d N = true)
    (hk : ∀ g, RS P N ops l ((d, .raw (.slice (some ⟨g, 0, none⟩) 0 0)) :: e) (StR R w0 gs (⟨g, el, [], 0⟩ :: H)) Q) :
    RS P N ops (⟨some d, .buildSlice t 0 #[], ty, pos, after, none⟩ :: l) e (StR R w0 gs H) Q := by
  refine rs_fresh (val := fun g => .raw (.slice (some ⟨g, 0, none⟩) 0 0)) (en := fun g => ⟨g, el, [], 0⟩) hd (fun _ => rfl) (fun a w hS hF => ?_) hk
  obtain ⟨i, hi1, hz1, hs1, hb1⟩ := hi.h
  have hr0 : (Array.range 0) = (#[] : Array Nat) := rfl
  refine ⟨w.heap.size, .slice (some ⟨w.heap.size, 0, none⟩) 0 0, w.alloc (.cells #[] el), ?_, ev_raw _, Ext.alloc _ _, Nat.le_refl _, ?_⟩
  · simp [execOp, Instr.buildSlice, run_underlying hu.h, sizeOf, typeInfo, hi1, newRow, Instr.fill, hr0]
  · exact ext_alloc_own (w := w) (T := el) (xs := []) (cs := #[]) (fun k x hk => by simp at hk)
theorem opj_makeFunc4 {c : FuncId} {X1 X2 X3 X4 : Operand} {u1 u2 u3 u4 : Value} (h1 : e.ev X1 = some (.raw u1)) (h2 : e.ev X2 = some (.raw u2)) (h3 : e.ev X3 = some (.raw u3)) (h4 : e.ev X4 = some (.raw u4)) :
    OpJ P S e ⟨dst, .makeFunc (.func c) #[] #[X1, X2, X3, X4], ty, pos, after, guard⟩ (.raw (.func (.func c) #[] [u1, u2, u3, u4].toArray)) :=
  opj_value fun a w _ h => by
    have h1 := (h X1 (by simp [Op.operands]) _ h1).inv_raw
    have h2 := (h X2 (by simp [Op.operands]) _ h2).inv_raw
    have h3 := (h X3 (by simp [Op.operands]) _ h3).inv_raw
    have h4 := (h X4 (by simp [Op.operands]) _ h4).inv_raw
    exact ⟨_, w, by simp [execOp, h1, h2, h3, h4, Instr.makeFunc], Ext.refl _, .raw⟩
end
theorem nearJ_of {J : Nat} {N : FV} (h1 : 1 ≤ J) (h2 : J ≤ 8) (hl : allLt (fun j => decide (cmpB .leq (fcmp .f32 (tmF j 1) N) = decide (J ≤ j))) (J + 1) = true) (h4 : Vl .f32 (fbin .mul .f32 (fv .f32 1082130432) N) (((4 : Nat) : Rat) / ((2 ^ J : Nat) : Rat))) : NearJ J N :=
  ⟨h1, h2, fun j hj => of_decide_eq_true (allLt_of hl j (by omega)), h4⟩
theorem nearJ6 : NearJ 6 (fv .f32 1015021568) := nearJ_of (by decide) (by decide) (by decide +kernel) (by
  rw [show fbin .mul .f32 (fv .f32 1082130432) (fv .f32 1015021568) = fv .f32 1031798784 by decide +kernel]
  exact Vl.c (by decide +kernel))
theorem nearJ7 : NearJ 7 (fv .f32 1006632960) := nearJ_of (by decide) (by decide) (by decide +kernel) (by
  rw [show fbin .mul .f32 (fv .f32 1082130432) (fv .f32 1006632960) = fv .f32 1023410176 by decide +kernel]
  exact Vl.c (by decide +kernel))
attribute [local irreducible] WS RS Done OpJ Then InBlock Round Ret Env.sub FnH
attribute [local irreducible] tab tabC
set_option maxRecDepth 100000 in
set_option maxHeartbeats 4000000 in
theorem meetsOf_fn {np nq J : Nat} {N : FV} {P Q : Nat → CV} {a b ca cb u v du dv : Nat} (hp : 2 ≤ np ∧ np ≤ 5) (hq : 2 ≤ nq ∧ nq ≤ 5) (hJ : NearJ J N) (hN0 : finB N = true) (hN1 : cmpB .geq (fcmp .f32 N (fv .f32 981467136)) = true) (hBp : B1 np P) (hBq : B1 nq Q) (hca : np ≤ ca ∧ ca ≤ maxLen) (hcb : np ≤ cb ∧ cb ≤ maxLen) (hdu : nq ≤ du ∧ du ≤ maxLen) (hdv : nq ≤ dv ∧ dv ≤ maxLen) :
    FnH (X := Mk) Try.prog 13 (fun _ => [crvOc a b np ca cb, crvOc u v nq du dv, .f .f32 N]) [entC a np P ca, entF b 31 np oneF cb, entC u nq Q du, entF v 31 nq oneF dv]
      (fun y => .tup [slOr y.ok y.g y.L.length y.c, .raw (.bool y.ok)]) (fun y => [entC a np P ca, entF b 31 np oneF cb, entC u nq Q du, entF v 31 nq oneF dv, entM y.g (tmM J) y.L y.c])
      (fun y => (y.L.length ≤ y.c ∧ y.c ≤ maxLen) ∧ match meetR np nq (J + J) J J 0 0 P Q (0, []) with
        | some s => y.ok = true ∧ s = (y.n, y.L)
        | none => y.ok = false) := by
  have hV1 : Fn Try.prog 25 (fun w => [crvA w np P oneF]) (.raw (.bool true)) := validCurve_yes ⟨hp.1, by omega⟩ hBp.fin (wts_one np).above
  have hV2 : Fn Try.prog 25 (fun w => [crvA w nq Q oneF]) (.raw (.bool true)) := validCurve_yes ⟨hq.1, by omega⟩ hBq.fin (wts_one nq).above
  have hN := isNear_yes hN0 hN1
  have hW1 := whole_fn a b np ca cb
  have hW2 := whole_fn u v nq du dv
  refine fn_intro Try.func13 rfl Try.ntmps13 (fun _ => Nat.le_of_ble_eq_true rfl) fun w0 => ?_
  repeat first | refine zai rfl rfl ?_ | refine zaa rfl (zay rfl) ?_ | refine zaa rfl (zaz rfl) ?_ | (refine zad ?_; (refine zaa rfl (zci rfl rfl (hN) ?_) ?_; (focus ((repeat (first | exact Takes.nil | refine Takes.sl ?_ | refine Takes.lit ?_ | refine Takes.fa ?_ | refine Takes.fc ?_ | refine Takes.net ?_ | (refine Takes.ownE ?_ ?_ ?_ ?_ ?_; (focus (exact ⟨_, _, (by (repeat (first | exact mh | refine mt ?_)); done)⟩)); (focus (simp; done)); (focus omega); (focus (simp only [maxLen]; omega))) | refine Takes.same ?_)); done)))) | (refine zae ?_; first | refine zaa rfl (zcf rfl rfl (by (repeat (first | exact mh | refine mt ?_)); done) rfl) ?_ | refine zaa rfl (zcg rfl rfl (by (repeat (first | exact mh | refine mt ?_)); done) rfl rfl) ?_) | refine zaa rfl (zcb rfl rfl) ?_ | refine zaa rfl (zcc rfl) ?_ | refine zah ?_ | (refine zcr ?_; refine zcs ?_) | (refine zdb ?_; first | refine zdc ?_ | refine zdd ?_ | refine zdf ?_ | refine zdj rfl ?_) | (refine zak rfl rfl rfl ?_; intro g) | (refine zal rfl rfl ?_; intro g) | (refine zag ?_; refine zam 0 rfl rfl rfl rfl rfl rfl ?_) | (refine rs_box1 rfl rfl (fun v w h => (oneAV_spec (x := AV.f .f32 N) rfl h).1) rfl ?_; intro g) | refine zaa rfl (zci rfl rfl hV1 (Takes.crvOc (mt (mt (mt mh))) (mt (mt (mt (mt mh)))) hca hcb Takes.nil)) ?_ | refine zaa rfl (zci rfl rfl hV2 (Takes.crvOc (mt (mt (mt (mt (mt mh))))) (mt (mt (mt (mt (mt (mt mh)))))) hdu hdv Takes.nil)) ?_ | (refine rs_litM0 rfl ?_; intro g) | refine zaa rfl (opj_makeFunc4 rfl rfl rfl rfl) ?_
  rename_i g3 g4 gn gL go gk
  obtain ⟨gl, hgl⟩ : ∃ x, x = g := ⟨g, rfl⟩
  subst hgl
  generalize List.map (fun x : Ent => x.g) [entC a np P ca, entF b 31 np oneF cb, entC u nq Q du, entF v 31 nq oneF dv] = gs
  refine WS.weak (e' := [(10, .raw (.pointer (some ⟨gl, 0, none⟩))), (8, .raw (.pointer (some ⟨go, 0, none⟩))), (3, .raw (.pointer (some ⟨g3, 0, none⟩))), (4, .raw (.pointer (some ⟨g4, 0, none⟩)))]) (S' := St w0 gs ([entC a np P ca, entF b 31 np oneF cb, entC u nq Q du, entF v 31 nq oneF dv, mtCnt gk 0, mtOut go gL ([] : List (Nat × Nat)).length 0, entM gL (tmM J) [] 0, ⟨gn, 31, [.f .f32 N], 1⟩, ⟨gl, 76, [.raw (.func (.func 42) #[] (mtCap gk gn go gl).toArray)], 1⟩] ++ [⟨g3, 27, [.raw (.slice (some ⟨a, 0, none⟩) np ca), .raw (.slice (some ⟨b, 0, none⟩) np cb)], 2⟩, ⟨g4, 27, [.raw (.slice (some ⟨u, 0, none⟩) nq du), .raw (.slice (some ⟨v, 0, none⟩) nq dv)], 2⟩])) ?_ (by (repeat (first | exact Env.sub_nil _ | refine Env.sub_cons rfl ?_))) (fun w h => h.sel [7, 8, 9, 10, 1, 2, 3, 4, 0, 6, 5] (by decide) rfl)
  have hK := meet_all (np := np) (nq := nq) (J := J) (N := N) (gk := gk) (gn := gn) (go := go) (gl := gl) hp hq hJ (J + J) J J rfl (Nat.le_refl _) (Nat.le_refl _) 0 0 P Q 0 [] a b ca cb u v du dv gL 0 (by rw [Nat.sub_self]; decide) (by rw [Nat.sub_self]; decide) hBp hBq ⟨fun _ h => (nomatch h), by decide, by decide⟩ ⟨hca, hcb⟩ ⟨hdu, hdv⟩ ⟨Nat.le_refl _, by decide⟩
  rw [Nat.sub_self, show tmF 0 ((0 : Nat) : Int) = fv .f32 0 by decide +kernel, show tmF 0 (((0 : Nat) : Int) + 1) = one1 by decide +kernel] at hK
  refine ws_drawP (ix := [0, 1, 2, 3, 4]) (W := St w0 gs [⟨g3, 27, [.raw (.slice (some ⟨a, 0, none⟩) np ca), .raw (.slice (some ⟨b, 0, none⟩) np cb)], 2⟩, ⟨g4, 27, [.raw (.slice (some ⟨u, 0, none⟩) nq du), .raw (.slice (some ⟨v, 0, none⟩) nq dv)], 2⟩, ⟨gl, 76, [.raw (.func (.func 42) #[] (mtCap gk gn go gl).toArray)], 1⟩]) mixed (by decide +kernel) (fun _ h => h.sel [9, 10, 8] (by decide) rfl) ?_
  repeat first | (refine zas ?_; first | (refine zap rfl (zci rfl rfl (hW1) ?_) ?_; (focus ((repeat (first | exact Takes.nil | refine Takes.sl ?_ | refine Takes.lit ?_ | refine Takes.fa ?_ | refine Takes.fc ?_ | refine Takes.net ?_ | (refine Takes.ownE ?_ ?_ ?_ ?_ ?_; (focus (exact ⟨_, _, (by (repeat (first | exact mh | refine mt ?_)); done)⟩)); (focus (simp; done)); (focus omega); (focus (simp only [maxLen]; omega))) | refine Takes.same ?_)); done))) | (refine zap rfl (zci rfl rfl (hW2) ?_) ?_; (focus ((repeat (first | exact Takes.nil | refine Takes.sl ?_ | refine Takes.lit ?_ | refine Takes.fa ?_ | refine Takes.fc ?_ | refine Takes.net ?_ | (refine Takes.ownE ?_ ?_ ?_ ?_ ?_; (focus (exact ⟨_, _, (by (repeat (first | exact mh | refine mt ?_)); done)⟩)); (focus (simp; done)); (focus omega); (focus (simp only [maxLen]; omega))) | refine Takes.same ?_)); done)))) | (refine zat ?_; first | refine zap rfl (zcf rfl rfl (by (repeat (first | exact mh | refine mt ?_)); done) rfl) ?_ | refine zap rfl (zcg rfl rfl (by (repeat (first | exact mh | refine mt ?_)); done) rfl rfl) ?_) | refine zav ?_
  refine ⟨rfl, ?_⟩
  refine gp_name fun o ho Q' hQ => ?_
  have q5 := op_at (i := 5) ho rfl
  have q6 := op_at (i := 6) ho rfl
  refine gp_step [5] (by rw [ho]; decide +kernel) fun x hx => ?_
  obtain rfl : x = 5 := by simpa using hx
  refine sp_callK (cap := mtCap gk gn go gl) q5 (by rw [ho]; decide +kernel) rfl hK rfl rfl (fun _ _ _ h => h) (fun _ _ => rfl) ?_
  rintro ⟨k1, L1, g1, c1, ok1⟩ ⟨hcc, hres⟩
  dsimp only at hcc hres ⊢
  refine cont_set (by rw [ho]; decide +kernel) rfl ?_
  refine gp_step [6] (by rw [ho]; decide +kernel) fun x hx => ?_
  obtain rfl : x = 6 := by simpa using hx
  refine sp_op q6 (by rw [ho]; decide +kernel) rfl (zcc rfl) rfl (cont_set rfl rfl ?_)
  refine gp_end (by rw [ho]; decide +kernel) ?_
  rw [hQ]
  clear hQ ho q5 q6
  cases ok1
  all_goals
    repeat first | refine zaa rfl (zaz rfl) ?_ | (refine zae ?_; refine zaa rfl (zcf rfl rfl (by (repeat (first | exact mh | refine mt ?_)); done) rfl) ?_) | refine zah ?_ | (refine zcr ?_; first | refine zcs ?_ | refine zct ?_) | (refine zdb ?_; first | refine zdc ?_ | refine zdd ?_ | refine zdf ?_ | refine zdg ?_ | refine zdi rfl ?_ | refine zdj rfl ?_)
    refine done_ret2 rfl (⟨k1, L1, g1, c1, _⟩ : Mk) rfl rfl rfl ⟨hcc, hres⟩ (.cons_cons _ (.cons_cons _ (.cons_cons _ (.cons_cons _ (.cons _ (.cons _ (.cons_cons _ (List.nil_sublist _))))))))
end Go.Ab
