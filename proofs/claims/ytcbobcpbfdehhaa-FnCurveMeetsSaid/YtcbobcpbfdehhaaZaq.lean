/- The reference's search for meets of two curves; walked by induction; printed by mk_wx.py. No conditions. -/
import Derived.Test.YtcbobcpbfdehhaaZap
namespace Go.Ab
open Go.Proofs
variable {R : World → Prop} [RStab R]
def cntOr (ok : Bool) (n : Nat) : AV := match ok with
  | true => .raw (.int .i64 (n : Int))
  | false => .raw (.int .i64 0)
/-- What the reference's search promises of two parts. -/
def MsC (np nq J : Nat) (N : FV) (rp rq : Nat) : Prop :=
  ∀ (ip iq : Nat) (P Q : Nat → CV) (k : Nat) (L : List (Nat × Nat)) (ga a b ca cb gb u v du dv g c : Nat), ip < 2 ^ (J - rp) → iq < 2 ^ (J - rq) → B1 np P → B1 nq Q → MetP (inJ J) (k, L) → (np ≤ ca ∧ ca ≤ maxLen) ∧ (np ≤ cb ∧ cb ≤ maxLen) → (nq ≤ du ∧ du ≤ maxLen) ∧ (nq ≤ dv ∧ dv ≤ maxLen) → L.length ≤ c ∧ c ≤ maxLen →
    FnH (X := Mk) Try.prog 41 (fun _ => [.raw (.pointer (some ⟨ga, 0, none⟩)), .raw (.pointer (some ⟨gb, 0, none⟩)), .f .f32 N, .raw (.slice (some ⟨g, 0, none⟩) L.length c), .raw (.int .i64 (k : Int))])
      [⟨ga, 75, [.raw (.slice (some ⟨a, 0, none⟩) np ca), .raw (.slice (some ⟨b, 0, none⟩) np cb), .f .f32 (tmF (J - rp) ip), .f .f32 (tmF (J - rp) ((ip : Int) + 1))], 4⟩, entC a np P ca, entF b 31 np oneF cb, ⟨gb, 75, [.raw (.slice (some ⟨u, 0, none⟩) nq du), .raw (.slice (some ⟨v, 0, none⟩) nq dv), .f .f32 (tmF (J - rq) iq), .f .f32 (tmF (J - rq) ((iq : Int) + 1))], 4⟩, entC u nq Q du, entF v 31 nq oneF dv, entM g (tmM J) L c] (fun y => .tup [slOr y.ok y.g y.L.length y.c, cntOr y.ok y.n, .raw (.bool y.ok)])
      (fun y => [⟨ga, 75, [.raw (.slice (some ⟨a, 0, none⟩) np ca), .raw (.slice (some ⟨b, 0, none⟩) np cb), .f .f32 (tmF (J - rp) ip), .f .f32 (tmF (J - rp) ((ip : Int) + 1))], 4⟩, entC a np P ca, entF b 31 np oneF cb, ⟨gb, 75, [.raw (.slice (some ⟨u, 0, none⟩) nq du), .raw (.slice (some ⟨v, 0, none⟩) nq dv), .f .f32 (tmF (J - rq) iq), .f .f32 (tmF (J - rq) ((iq : Int) + 1))], 4⟩, entC u nq Q du, entF v 31 nq oneF dv, entM y.g (tmM J) y.L y.c])
      (fun y => (y.L.length ≤ y.c ∧ y.c ≤ maxLen) ∧ match meetR np nq (rp + rq) rp rq ip iq P Q (k, L) with
        | some s => y.ok = true ∧ s = (y.n, y.L)
        | none => y.ok = false)
section
variable {args : List AV} {A' : World → List AV} {w0 : World} {gs : List Nat} {H : List Ent}
theorem Takes.slCo {R0 : World → Prop} {n a ca : Nat} {P : Nat → CV} (ha : entC a n P ca ∈ H) (h1 : n ≤ ca ∧ ca ≤ maxLen) (h : Takes (StR R0 w0 gs H) args A') : Takes (StR R0 w0 gs H) (.raw (.slice (some ⟨a, 0, none⟩) n ca) :: args) (fun w => slC w (tabC n P) :: A' w) := fun w vs hS hr => by
  obtain ⟨v, r, rfl, hv, hrr⟩ := hr.inv_cons
  exact .cons (.q (rd_ownC hS hv ha (Nat.le_refl _) h1)) (h w r hS hrr)
end
theorem opj_loadMa {P : Program} {e : Env} {dst : Option Tmp} {ty : TypeId} {pos : String} {after : Array Edge} {guard : Option (Nat × Bool)} {w0 : World} {gs : List Nat} {H : List Ent} {R0 : World → Prop} {τ : Nat → FV} {L : List (Nat × Nat)} {X : Operand} {g c : Nat} {i : Int} {t : TypeId} {d : TypeDesc} [hd : TyU P t d] (ha : aggD d = false) (hx : e.ev X = some (.raw (.pointer (some ⟨g, i.toNat * 2 + 0, none⟩)))) (hm : entM g τ L c ∈ H) (h0 : 0 ≤ i ∧ i < (L.length : Int)) :
    OpJ P (StR R0 w0 gs H) e ⟨dst, .load t X, ty, pos, after, guard⟩ (.f .f32 (τ (L.getD i.toNat default).1)) :=
  opj_load_own (en := entM g τ L c) ha hx hm (flatM_get τ L i.toNat (by omega)).1
theorem opj_loadMb {P : Program} {e : Env} {dst : Option Tmp} {ty : TypeId} {pos : String} {after : Array Edge} {guard : Option (Nat × Bool)} {w0 : World} {gs : List Nat} {H : List Ent} {R0 : World → Prop} {τ : Nat → FV} {L : List (Nat × Nat)} {X : Operand} {g c : Nat} {i : Int} {t : TypeId} {d : TypeDesc} [hd : TyU P t d] (ha : aggD d = false) (hx : e.ev X = some (.raw (.pointer (some ⟨g, i.toNat * 2 + 1, none⟩)))) (hm : entM g τ L c ∈ H) (h0 : 0 ≤ i ∧ i < (L.length : Int)) :
    OpJ P (StR R0 w0 gs H) e ⟨dst, .load t X, ty, pos, after, guard⟩ (.f .f32 (τ (L.getD i.toNat default).2)) :=
  opj_load_own (en := entM g τ L c) ha hx hm (flatM_get τ L i.toNat (by omega)).2
attribute [local irreducible] WS RS Done OpJ Then InBlock Round Ret Env.sub FnH
attribute [local irreducible] tab tabC
set_option maxRecDepth 100000 in
set_option maxHeartbeats 40000000 in
theorem meets_step {np nq J : Nat} {N : FV} (hp : 2 ≤ np ∧ np ≤ 5) (hq : 2 ≤ nq ∧ nq ≤ 5) (hJ : NearJ J N) (rp rq : Nat) (hrp : rp ≤ J) (hrq : rq ≤ J) (ih : ∀ rp' rq', rp' ≤ J → rq' ≤ J → rp' + rq' + 1 = rp + rq → MsC np nq J N rp' rq') : MsC np nq J N rp rq := by
  intro ip iq P Q k L ga a b ca cb gb u v du dv gL c hip hiq hBp hBq hM ⟨hca, hcb⟩ ⟨hdu, hdv⟩ hc
  have hj8 := hJ.j2
  have hj1 := hJ.j1
  have hTp := tmP (j := J - rp) (i := ip) (by omega) hip
  have hTq := tmP (j := J - rq) (i := iq) (by omega) hiq
  obtain ⟨lp, hlp⟩ : ∃ x, x = tmF (J - rp) ip := ⟨_, rfl⟩
  obtain ⟨hp', hhp⟩ : ∃ x, x = tmF (J - rp) ((ip : Int) + 1) := ⟨_, rfl⟩
  obtain ⟨lq, hlq⟩ : ∃ x, x = tmF (J - rq) iq := ⟨_, rfl⟩
  obtain ⟨hq', hhq⟩ : ∃ x, x = tmF (J - rq) ((iq : Int) + 1) := ⟨_, rfl⟩
  have hMp := hTp.mid'
  have hMq := hTq.mid'
  have hLp := hTp.long
  have hLq := hTq.long
  have hk := hM.c
  dsimp only at hk
  have hlen := hM.len
  dsimp only at hlen
  rw [← hlp, ← hhp] at hMp hLp ⊢
  rw [← hlq, ← hhq] at hMq hLq ⊢
  have hB1 := l03Box_fn (n := np) (P := P) (by omega)
  have hB2 := l03Box_fn (n := nq) (P := Q) (by omega)
  obtain ⟨p1, h1⟩ : ∃ p, p = cmpB .lss (fcmp .f32 (hiF (cx1 P) np) (loF (cx1 Q) nq)) := ⟨_, rfl⟩
  obtain ⟨p2, h2⟩ : ∃ p, p = cmpB .lss (fcmp .f32 (hiF (cx1 Q) nq) (loF (cx1 P) np)) := ⟨_, rfl⟩
  obtain ⟨p3, h3⟩ : ∃ p, p = cmpB .lss (fcmp .f32 (hiF (cx2 P) np) (loF (cx2 Q) nq)) := ⟨_, rfl⟩
  obtain ⟨p4, h4⟩ : ∃ p, p = cmpB .lss (fcmp .f32 (hiF (cx2 Q) nq) (loF (cx2 P) np)) := ⟨_, rfl⟩
  have ht : touchB np nq P Q = !(p1 || p2 || p3 || p4) := by unfold touchB lssF; rw [← h1, ← h2, ← h3, ← h4]
  obtain ⟨tb, htb⟩ : ∃ b, b = touchB np nq P Q := ⟨_, rfl⟩
  rw [← htb] at ht
  refine fn_intro Try.func41 rfl Try.ntmps41 (fun _ => Nat.le_of_ble_eq_true rfl) fun w0 => ?_
  repeat first | refine zaa rfl (zay rfl) ?_ | refine zaa rfl (zaz rfl) ?_ | (refine zac ?_; first | refine zaa rfl (zbb rfl rfl (by omega)) ?_ | refine zaa rfl (zbg rfl rfl) ?_) | refine zah ?_ | (refine zcr ?_; refine zcs ?_) | (refine zdb ?_; first | refine zdc ?_ | refine zdd ?_)
  rw [show (k : Int) + 1 = ((k + 1 : Nat) : Int) by omega]
  skip
  generalize List.map (fun x : Ent => x.g) [⟨ga, 75, [.raw (.slice (some ⟨a, 0, none⟩) np ca), .raw (.slice (some ⟨b, 0, none⟩) np cb), .f .f32 lp, .f .f32 hp'], 4⟩, entC a np P ca, entF b 31 np oneF cb, ⟨gb, 75, [.raw (.slice (some ⟨u, 0, none⟩) nq du), .raw (.slice (some ⟨v, 0, none⟩) nq dv), .f .f32 lq, .f .f32 hq'], 4⟩, entC u nq Q du, entF v 31 nq oneF dv, entM gL (tmM J) L c] = gs
  refine ws_cond rfl (fun hd => ?_) (fun hd => ?_)
  case' refine_1 =>
    have hov : ¬k < 20000 := by have := of_decide_eq_true hd; omega
    repeat first | refine zaa rfl (zaz rfl) ?_ | refine zah ?_ | (refine zcr ?_; first | refine zcs ?_ | refine zct ?_) | (refine zdb ?_; first | refine zdc ?_ | refine zdd ?_ | refine zdg ?_)
    exact done_ret3 rfl (⟨k + 1, L, gL, c, false⟩ : Mk) rfl rfl rfl rfl ⟨hc, by rw [meetR_over (s := (k, L)) hov]⟩ (List.Sublist.refl _)
  have hkl : k < 20000 := by have := of_decide_eq_false hd; omega
  clear hd
  repeat first | refine zaa rfl (zay rfl) ?_ | refine zaa rfl (zaz rfl) ?_ | (refine zac ?_; refine zaa rfl (zbd rfl rfl rfl) ?_) | (refine zad ?_; refine zaa rfl (zbp rfl) ?_) | (refine zae ?_; refine zaa rfl (zcf rfl rfl (by (repeat (first | exact mh | refine mt ?_)); done) rfl) ?_) | refine zaa rfl (zcd rfl) ?_ | refine zaa rfl (zbz rfl rfl) ?_ | refine zah ?_ | (refine zcr ?_; refine zcs ?_) | (refine zdb ?_; first | refine zdc ?_ | refine zdd ?_ | refine zdf ?_) | refine zaa rfl (opj_nilRaw rfl) ?_ | refine zaa rfl (zci rfl rfl hB1 (Takes.slCo (mt mh) hca Takes.nil)) ?_ | refine zaa rfl (zci rfl rfl hB2 (Takes.slCo (mt (mt (mt (mt mh)))) hdu Takes.nil)) ?_
  rw [← h1]
  cases p1
  case' false =>
    repeat first | refine zai rfl rfl ?_ | refine zaa rfl (zay rfl) ?_ | (refine zac ?_; refine zaa rfl (zbd rfl rfl rfl) ?_) | (refine zad ?_; refine zaa rfl (zbp rfl) ?_) | refine zaa rfl (zcb rfl rfl) ?_
    rw [← h2]
    cases p2
    case' false =>
      repeat first | refine zai rfl rfl ?_ | refine zaa rfl (zay rfl) ?_ | (refine zac ?_; refine zaa rfl (zbd rfl rfl rfl) ?_) | (refine zad ?_; refine zaa rfl (zbq rfl) ?_) | refine zaa rfl (zcb rfl rfl) ?_
      rw [← h3]
      cases p3
      case' false =>
        repeat first | refine zai rfl rfl ?_ | refine zaa rfl (zay rfl) ?_ | (refine zac ?_; refine zaa rfl (zbd rfl rfl rfl) ?_) | (refine zad ?_; refine zaa rfl (zbq rfl) ?_) | refine zaa rfl (zcb rfl rfl) ?_ | refine zah ?_ | (refine zcr ?_; refine zcs ?_)
        rw [← h4]
        cases p4
  rotate_left
  next =>
    have ht' : touchB np nq P Q = false := by rw [← htb, ht]; rfl
    repeat first | refine zaa rfl (zay rfl) ?_ | refine zaa rfl (zaz rfl) ?_ | refine zah ?_ | (refine zcr ?_; first | refine zcs ?_ | refine zct ?_) | (refine zdb ?_; first | refine zdc ?_ | refine zdd ?_ | refine zdg ?_ | refine zdi rfl ?_)
    exact done_ret3 rfl (⟨k + 1, L, gL, c, true⟩ : Mk) rfl rfl rfl rfl ⟨hc, by rw [meetR_apart (s := (k, L)) hkl ht']; exact ⟨rfl, rfl⟩⟩ (List.Sublist.refl _)
  next =>
    have ht' : touchB np nq P Q = false := by rw [← htb, ht]; rfl
    repeat first | refine zaj rfl rfl rfl rfl ?_ | refine zaa rfl (zay rfl) ?_ | refine zaa rfl (zaz rfl) ?_ | refine zaa rfl (zca rfl rfl) ?_ | refine zah ?_ | (refine zcr ?_; first | refine zcs ?_ | refine zct ?_) | (refine zdb ?_; first | refine zdc ?_ | refine zdd ?_ | refine zdg ?_ | refine zdi rfl ?_)
    exact done_ret3 rfl (⟨k + 1, L, gL, c, true⟩ : Mk) rfl rfl rfl rfl ⟨hc, by rw [meetR_apart (s := (k, L)) hkl ht']; exact ⟨rfl, rfl⟩⟩ (List.Sublist.refl _)
  next =>
    have ht' : touchB np nq P Q = false := by rw [← htb, ht]; rfl
    repeat first | refine zaj rfl rfl rfl rfl ?_ | refine zaa rfl (zay rfl) ?_ | refine zaa rfl (zaz rfl) ?_ | refine zaa rfl (zca rfl rfl) ?_ | refine zah ?_ | (refine zcr ?_; first | refine zcs ?_ | refine zct ?_) | (refine zdb ?_; first | refine zdc ?_ | refine zdd ?_ | refine zdg ?_ | refine zdi rfl ?_)
    exact done_ret3 rfl (⟨k + 1, L, gL, c, true⟩ : Mk) rfl rfl rfl rfl ⟨hc, by rw [meetR_apart (s := (k, L)) hkl ht']; exact ⟨rfl, rfl⟩⟩ (List.Sublist.refl _)
  next =>
    have ht' : touchB np nq P Q = false := by rw [← htb, ht]; rfl
    repeat first | refine zaj rfl rfl rfl rfl ?_ | refine zaa rfl (zay rfl) ?_ | refine zaa rfl (zaz rfl) ?_ | refine zaa rfl (zca rfl rfl) ?_ | refine zah ?_ | (refine zcr ?_; first | refine zcs ?_ | refine zct ?_) | (refine zdb ?_; first | refine zdc ?_ | refine zdd ?_ | refine zdg ?_ | refine zdi rfl ?_)
    exact done_ret3 rfl (⟨k + 1, L, gL, c, true⟩ : Mk) rfl rfl rfl rfl ⟨hc, by rw [meetR_apart (s := (k, L)) hkl ht']; exact ⟨rfl, rfl⟩⟩ (List.Sublist.refl _)
  have htt : touchB np nq P Q = true := by rw [← htb, ht]; rfl
  clear ht htb h1 h2 h3 h4 hB1 hB2
  repeat first | (refine zcr ?_; refine zcs ?_) | (refine zdb ?_; first | refine zdc ?_ | refine zdf ?_ | refine zdj rfl ?_)
  have hlfp := hJ.leaf (J - rp) (by omega)
  have hlfq := hJ.leaf (J - rq) (by omega)
  have hgeq := long_ge (j := J - rp) (k := J - rq) (by omega) (by omega)
  refine WS.weak (e' := [(4, .raw (.int .i64 ((k + 1 : Nat) : Int))), (0, .raw (.pointer (some ⟨ga, 0, none⟩))), (1, .raw (.pointer (some ⟨gb, 0, none⟩))), (2, .f .f32 N), (3, .raw (.slice (some ⟨gL, 0, none⟩) L.length c))]) (S' := St w0 gs [⟨ga, 75, [.raw (.slice (some ⟨a, 0, none⟩) np ca), .raw (.slice (some ⟨b, 0, none⟩) np cb), .f .f32 lp, .f .f32 hp'], 4⟩, entC a np P ca, entF b 31 np oneF cb, ⟨gb, 75, [.raw (.slice (some ⟨u, 0, none⟩) nq du), .raw (.slice (some ⟨v, 0, none⟩) nq dv), .f .f32 lq, .f .f32 hq'], 4⟩, entC u nq Q du, entF v 31 nq oneF dv, entM gL (tmM J) L c]) ?_ (by (repeat (first | exact Env.sub_nil _ | refine Env.sub_cons rfl ?_))) (fun w h => h)
  refine ws_draw (n := 24) mixed (by decide +kernel) ?_
  repeat first | refine zap rfl (zay rfl) ?_ | (refine zar ?_; first | refine zap rfl (zba rfl rfl rfl) ?_ | refine zap rfl (zbd rfl rfl rfl) ?_) | (refine zat ?_; refine zap rfl (zcf rfl rfl (by (repeat (first | exact mh | refine mt ?_)); done) rfl) ?_) | refine zap rfl (zcd rfl) ?_ | refine zap rfl (opj_nilRaw rfl) ?_
  rw [hLp, hlfp]
  by_cases hrp0 : rp = 0 ∧ rq = 0
  case' pos =>
    obtain ⟨rfl, rfl⟩ := hrp0
    rw [decide_eq_true (show J ≤ J - 0 by omega)]
    have hMp' : fbin .mul .f32 (fv .f32 1056964608) (fbin .add .f32 lp hp') = tmM J ip := hMp
    have hMq' : fbin .mul .f32 (fv .f32 1056964608) (fbin .add .f32 lq hq') = tmM J iq := hMq
    have hip' : ip < 2 ^ J := hip
    have hiq' : iq < 2 ^ J := hiq
    have hleaf : meetR np nq (0 + 0) 0 0 ip iq P Q (k, L) = addM (ip, iq) (k + 1) L := meetR_leaf (s := (k, L)) hkl htt
    clear hMp hMq hgeq hlfp ih hTp hTq hip hiq
    repeat first | refine zaw rfl rfl ?_ | refine zap rfl (zay rfl) ?_ | (refine zar ?_; first | refine zap rfl (zba rfl rfl rfl) ?_ | refine zap rfl (zbd rfl rfl rfl) ?_) | (refine zat ?_; refine zap rfl (zcf rfl rfl (by (repeat (first | exact mh | refine mt ?_)); done) rfl) ?_) | refine zap rfl (zcd rfl) ?_ | refine zap rfl (zca rfl rfl) ?_ | refine zav ?_ | refine zap rfl (opj_nilRaw rfl) ?_
    rw [hLq, hlfq, decide_eq_true (show J ≤ J - 0 by omega)]
    repeat first | refine zah ?_ | (refine zcr ?_; refine zcs ?_) | (refine zdb ?_; first | refine zdc ?_ | refine zdi rfl ?_)
    refine ws_drawP (ix := [0, 1, 2, 3, 4, 5, 6, 7, 8, 9, 10, 11, 12, 13, 14, 15, 16, 17, 18, 19, 20]) (W := St w0 gs [⟨ga, 75, [.raw (.slice (some ⟨a, 0, none⟩) np ca), .raw (.slice (some ⟨b, 0, none⟩) np cb), .f .f32 lp, .f .f32 hp'], 4⟩, ⟨gb, 75, [.raw (.slice (some ⟨u, 0, none⟩) nq du), .raw (.slice (some ⟨v, 0, none⟩) nq dv), .f .f32 lq, .f .f32 hq'], 4⟩]) mixed (by decide +kernel) (fun _ h => h.sel [0, 3] (by decide) rfl) ?_
    repeat first | refine zap rfl (zay rfl) ?_ | (refine zar ?_; refine zap rfl (zba rfl rfl rfl) ?_) | (refine zat ?_; refine zap rfl (zcf rfl rfl (by (repeat (first | exact mh | refine mt ?_)); done) rfl) ?_) | refine zap rfl (zcd rfl) ?_ | refine zav ?_ | refine zap rfl (opj_nilRaw rfl) ?_ | refine zap rfl (opj_buildM rfl rfl) ?_
    rw [hMp', hMq']
    refine ⟨rfl, ?_⟩
    refine gp_name fun o ho Q' hQ => ?_
    have q21 := op_at (i := 21) ho rfl
    have q22 := op_at (i := 22) ho rfl
    refine gp_step [21] (by rw [ho]; decide +kernel) fun x hx => ?_
    obtain rfl : x = 21 := by simpa using hx
    refine sp_makes q21 rfl (by rw [ho]; decide +kernel) rfl (makesX_alloc rfl rfl rfl) fun g17 => cont_go (fun _ h => h.sel [1, 4] (by decide) rfl) ?_
    refine gp_step [22] (by rw [ho]; decide +kernel) fun x hx => ?_
    obtain rfl : x = 22 := by simpa using hx
    refine sp_eff q22 (by rw [ho]; decide +kernel) (effj_storeAX 0 rfl rfl rfl rfl rfl rfl rfl rfl rfl) (cont_set (by rw [ho]; decide +kernel) rfl ?_)
    refine gp_end (by rw [ho]; decide +kernel) ?_
    rw [hQ]
    clear hQ ho q21 q22
    repeat first | refine zaa rfl (zay rfl) ?_ | (refine zad ?_; refine zaa rfl (zbn rfl) ?_) | refine zah ?_ | (refine zcr ?_; refine zcs ?_) | (refine zdb ?_; first | refine zdc ?_ | refine zdd ?_ | refine zde ?_)
    refine ws_loop (ι := Nat) (fun x => [(4, .raw (.int .i64 ((k + 1 : Nat) : Int))), (0, .raw (.pointer (some ⟨ga, 0, none⟩))), (1, .raw (.pointer (some ⟨gb, 0, none⟩))), (2, .f .f32 N), (3, .raw (.slice (some ⟨gL, 0, none⟩) L.length c)), (17, .raw (.pointer (some ⟨g17, 0, none⟩))), (127, .raw (.int .i64 (L.length : Nat))), (128, .raw (.int .i64 (x : Nat)))]) (fun _ => St w0 gs [⟨g17, 43, [.f .f32 (tmM J ip), .f .f32 (tmM J iq)], 2⟩, ⟨ga, 75, [.raw (.slice (some ⟨a, 0, none⟩) np ca), .raw (.slice (some ⟨b, 0, none⟩) np cb), .f .f32 lp, .f .f32 hp'], 4⟩, entC a np P ca, entF b 31 np oneF cb, ⟨gb, 75, [.raw (.slice (some ⟨u, 0, none⟩) nq du), .raw (.slice (some ⟨v, 0, none⟩) nq dv), .f .f32 lq, .f .f32 hq'], 4⟩, entC u nq Q du, entF v 31 nq oneF dv, entM gL (tmM J) L c]) (fun x => x ≤ L.length ∧ ∀ y, y < x → nearB (ip, iq) (L.getD y default) = false) (fun x => L.length - x) 0 ⟨Nat.zero_le _, fun y hy => by omega⟩ ?_ (fun _ h => h) (fun x hx => ?_)
    · (repeat (first | exact Env.sub_nil _ | refine Env.sub_cons rfl ?_))
    obtain ⟨hx, hall⟩ := hx
    repeat first | (refine zac ?_; refine zaa rfl (zbe rfl rfl) ?_) | refine zah ?_ | (refine zcr ?_; refine zcs ?_) | (refine zdb ?_; first | refine zdc ?_ | refine zdd ?_)
    refine ws_cond rfl (fun hd => ?_) (fun hd => ?_)
    case' refine_1 =>
      have hlt : (x : Int) < (L.length : Int) := of_decide_eq_true hd
      clear hd
      have hin := hM.g (L.getD (x : Int).toNat default) (by rw [show (x : Int).toNat = x by omega, List.getD_eq_getElem?_getD, List.getElem?_eq_getElem (by omega)]; exact List.getElem_mem _)
      have hG1 := l03Gap_fn (tmM J ip) (tmM J (L.getD (x : Int).toNat default).1)
      have hG2 := l03Gap_fn (tmM J iq) (tmM J (L.getD (x : Int).toNat default).2)
      have hT1 := tm_gap (j := J) (by omega) hip' hin.1 hJ.four
      have hT2 := tm_gap (j := J) (by omega) hiq' hin.2 hJ.four
      obtain ⟨b1, hb1⟩ : ∃ b, b = (decide (ip ≤ (L.getD (x : Int).toNat default).1 + 4) && decide ((L.getD (x : Int).toNat default).1 ≤ ip + 4)) := ⟨_, rfl⟩
      obtain ⟨b2, hb2⟩ : ∃ b, b = (decide (iq ≤ (L.getD (x : Int).toNat default).2 + 4) && decide ((L.getD (x : Int).toNat default).2 ≤ iq + 4)) := ⟨_, rfl⟩
      have hnb : nearB (ip, iq) (L.getD x default) = (b1 && b2) := by unfold nearB; rw [hb1, hb2, Bool.and_assoc]; rfl
      rw [← hb1] at hT1
      rw [← hb2] at hT2
      obtain ⟨v1, hv1⟩ : ∃ v, v = (match cmpB .lss (fcmp .f32 (tmM J ip) (tmM J (L.getD (x : Int).toNat default).1)) with | true => fbin .sub .f32 (tmM J (L.getD (x : Int).toNat default).1) (tmM J ip) | false => fbin .sub .f32 (tmM J ip) (tmM J (L.getD (x : Int).toNat default).1)) := ⟨_, rfl⟩
      obtain ⟨v2, hv2⟩ : ∃ v, v = (match cmpB .lss (fcmp .f32 (tmM J iq) (tmM J (L.getD (x : Int).toNat default).2)) with | true => fbin .sub .f32 (tmM J (L.getD (x : Int).toNat default).2) (tmM J iq) | false => fbin .sub .f32 (tmM J iq) (tmM J (L.getD (x : Int).toNat default).2)) := ⟨_, rfl⟩
      replace hG1 : Fn Try.prog 66 (fun _ => [.f .f32 (tmM J ip), .f .f32 (tmM J (L.getD (x : Int).toNat default).1)]) (.f .f32 v1) := by rw [hv1]; exact hG1
      replace hG2 : Fn Try.prog 66 (fun _ => [.f .f32 (tmM J iq), .f .f32 (tmM J (L.getD (x : Int).toNat default).2)]) (.f .f32 v2) := by rw [hv2]; exact hG2
      replace hT1 : cmpB .leq (fcmp .f32 v1 (fbin .mul .f32 (fv .f32 1082130432) N)) = b1 := by rw [hv1]; exact hT1
      replace hT2 : cmpB .leq (fcmp .f32 v2 (fbin .mul .f32 (fv .f32 1082130432) N)) = b2 := by rw [hv2]; exact hT2
      repeat first | refine zaa rfl (zay rfl) ?_ | refine zaa rfl (zaz rfl) ?_ | refine zah ?_ | (refine zcr ?_; refine zcs ?_) | (refine zdb ?_; first | refine zdc ?_ | refine zdd ?_ | refine zde ?_ | refine zdf ?_)
      refine ws_draw (n := 24) mixed (by decide +kernel) ?_
      repeat first | refine zap rfl (zay rfl) ?_ | (refine zar ?_; first | refine zap rfl (zba rfl rfl rfl) ?_ | refine zap rfl (zbd rfl rfl rfl) ?_) | (refine zas ?_; (refine zap rfl (zci rfl rfl (hG1) ?_) ?_; (focus ((repeat (first | exact Takes.nil | refine Takes.sl ?_ | refine Takes.lit ?_ | refine Takes.fa ?_ | refine Takes.fc ?_ | refine Takes.net ?_ | (refine Takes.ownE ?_ ?_ ?_ ?_ ?_; (focus (exact ⟨_, _, (by (repeat (first | exact mh | refine mt ?_)); done)⟩)); (focus (simp; done)); (focus omega); (focus (simp only [maxLen]; omega))) | refine Takes.same ?_)); done)))) | (refine zat ?_; refine zap rfl (zcf rfl rfl (by (repeat (first | exact mh | refine mt ?_)); done) rfl) ?_) | (refine zau ?_; refine zap rfl (zbw rfl rfl (by omega) (by omega)) ?_) | refine zap rfl (zcd rfl) ?_ | refine zap rfl (opj_loadMa rfl rfl (mt (mt (mt (mt (mt (mt (mt mh))))))) ⟨by omega, hlt⟩) ?_
      rw [hT1]
      cases b1
      · repeat first | refine zax rfl rfl rfl rfl ?_ | refine zap rfl (zcb rfl rfl) ?_ | refine zav ?_
        repeat first | refine zaa rfl (zay rfl) ?_ | (refine zac ?_; refine zaa rfl (zbb rfl rfl (by omega)) ?_) | refine zah ?_ | (refine zcr ?_; first | refine zcs ?_ | refine zcv ?_) | (refine zdb ?_; first | refine zdd ?_ | refine zdf ?_ | refine zdj rfl ?_)
        refine done_round (x + 1) ⟨by omega, fun y hy => ?_⟩ (by omega) ?_ (fun _ h => h)
        · rcases Nat.lt_or_ge y x with h | h
          · exact hall y h
          · obtain rfl : y = x := by omega
            rw [hnb]
            rfl
        · rw [show ((x + 1 : Nat) : Int) = (x : Int) + 1 by omega]
          (repeat (first | exact Env.sub_nil _ | refine Env.sub_cons rfl ?_))
      · repeat first | refine zaw rfl rfl ?_ | refine zap rfl (zay rfl) ?_ | (refine zar ?_; first | refine zap rfl (zba rfl rfl rfl) ?_ | refine zap rfl (zbd rfl rfl rfl) ?_) | (refine zas ?_; (refine zap rfl (zci rfl rfl (hG2) ?_) ?_; (focus ((repeat (first | exact Takes.nil | refine Takes.sl ?_ | refine Takes.lit ?_ | refine Takes.fa ?_ | refine Takes.fc ?_ | refine Takes.net ?_ | (refine Takes.ownE ?_ ?_ ?_ ?_ ?_; (focus (exact ⟨_, _, (by (repeat (first | exact mh | refine mt ?_)); done)⟩)); (focus (simp; done)); (focus omega); (focus (simp only [maxLen]; omega))) | refine Takes.same ?_)); done)))) | (refine zat ?_; refine zap rfl (zcf rfl rfl (by (repeat (first | exact mh | refine mt ?_)); done) rfl) ?_) | (refine zau ?_; refine zap rfl (zbw rfl rfl (by omega) (by omega)) ?_) | refine zap rfl (zcd rfl) ?_ | refine zap rfl (zca rfl rfl) ?_ | refine zav ?_ | refine zap rfl (opj_loadMb rfl rfl (mt (mt (mt (mt (mt (mt (mt mh))))))) ⟨by omega, hlt⟩) ?_
        rw [hT2]
        cases b2
        · repeat first | refine zaa rfl (zay rfl) ?_ | (refine zac ?_; refine zaa rfl (zbb rfl rfl (by omega)) ?_) | refine zah ?_ | (refine zcr ?_; first | refine zcs ?_ | refine zcv ?_) | (refine zdb ?_; first | refine zdd ?_ | refine zdf ?_ | refine zdj rfl ?_)
          refine done_round (x + 1) ⟨by omega, fun y hy => ?_⟩ (by omega) ?_ (fun _ h => h)
          · rcases Nat.lt_or_ge y x with h | h
            · exact hall y h
            · obtain rfl : y = x := by omega
              rw [hnb]
              rfl
          · rw [show ((x + 1 : Nat) : Int) = (x : Int) + 1 by omega]
            (repeat (first | exact Env.sub_nil _ | refine Env.sub_cons rfl ?_))
        · have hany : L.any (nearB (ip, iq)) = true := List.any_eq_true.2 ⟨L.getD x default, by rw [List.getD_eq_getElem?_getD, List.getElem?_eq_getElem (by omega)]; exact List.getElem_mem _, hnb⟩
          repeat first | refine zaa rfl (zay rfl) ?_ | refine zaa rfl (zaz rfl) ?_ | refine zah ?_ | (refine zcr ?_; first | refine zcs ?_ | refine zct ?_ | refine zcw ?_ | refine zcz ?_) | (refine zdb ?_; first | refine zdc ?_ | refine zdd ?_ | refine zdg ?_ | refine zdi rfl ?_)
          exact done_ret3 rfl (⟨k + 1, L, gL, c, true⟩ : Mk) rfl rfl rfl rfl ⟨hc, by rw [hleaf]; unfold addM; rw [hany]; exact ⟨rfl, rfl⟩⟩ (.cons _ (List.Sublist.refl _))
    case' refine_2 =>
      have hxn : x = L.length := by have := of_decide_eq_false hd; omega
      subst hxn
      have hany : L.any (nearB (ip, iq)) = false := List.any_eq_false.2 fun y hy => by
        obtain ⟨z, hz, rfl⟩ := List.mem_iff_getElem.1 hy
        have := hall z hz
        rw [List.getD_eq_getElem?_getD, List.getElem?_eq_getElem hz] at this
        simpa using this
      have hsn : (L ++ [(ip, iq)]).length = L.length + 1 := by simp
      repeat first | refine zaa rfl (zay rfl) ?_ | (refine zac ?_; refine zaa rfl (zbi rfl rfl) ?_) | (refine zad ?_; refine zaa rfl (zbn rfl) ?_) | refine zah ?_ | (refine zcr ?_; first | refine zcs ?_ | refine zcu ?_ | refine zcx ?_ | refine zda ?_) | (refine zdb ?_; first | refine zdc ?_ | refine zdd ?_ | refine zdh ?_)
      by_cases h24 : L.length < 24
      · rw [decide_eq_false (show ¬((L.length : Int) = 24) by omega)]
        repeat first | refine zaa rfl (zay rfl) ?_ | refine zaa rfl (zaz rfl) ?_ | (refine zae ?_; refine zaa rfl (zcg rfl rfl (by (repeat (first | exact mh | refine mt ?_)); done) rfl rfl) ?_) | refine zah ?_ | (refine zcr ?_; first | refine zcs ?_ | refine zct ?_) | (refine zdb ?_; first | refine zdc ?_ | refine zdd ?_ | refine zdf ?_ | refine zdg ?_ | refine zdj rfl ?_) | refine zaa rfl (opj_litM rfl) ?_ | (refine rs_appendM 7 L (ip, iq) (tmM J) rfl rfl rfl rfl hc (by omega) rfl rfl ?_; intro g' c' h1 h2)
        exact done_ret3 rfl (⟨k + 1, L ++ [(ip, iq)], g', c', true⟩ : Mk) rfl rfl rfl rfl ⟨⟨h1, h2⟩, by rw [hleaf]; unfold addM; rw [hany]; dsimp only; rw [decide_eq_true h24]; exact ⟨rfl, rfl⟩⟩ (.cons _ (List.Sublist.refl _))
      · rw [decide_eq_true (show (L.length : Int) = 24 by omega)]
        repeat first | refine zaa rfl (zaz rfl) ?_ | refine zah ?_ | (refine zcr ?_; first | refine zcs ?_ | refine zct ?_) | (refine zdb ?_; first | refine zdc ?_ | refine zdd ?_ | refine zdg ?_ | refine zdi rfl ?_)
        exact done_ret3 rfl (⟨k + 1, L, gL, c, false⟩ : Mk) rfl rfl rfl rfl ⟨hc, by rw [hleaf]; unfold addM; rw [hany]; dsimp only; rw [decide_eq_false h24]⟩ (.cons _ (List.Sublist.refl _))
  cases hb1 : decide (J ≤ J - rp)
  case' true =>
    have hb2 : decide (J ≤ J - rq) = false := decide_eq_false (by have := of_decide_eq_true hb1; omega)
    rw [hb2] at hlfq
    repeat first | refine zaw rfl rfl ?_ | refine zap rfl (zay rfl) ?_ | (refine zar ?_; first | refine zap rfl (zba rfl rfl rfl) ?_ | refine zap rfl (zbd rfl rfl rfl) ?_) | (refine zat ?_; refine zap rfl (zcf rfl rfl (by (repeat (first | exact mh | refine mt ?_)); done) rfl) ?_) | refine zap rfl (zcd rfl) ?_ | refine zap rfl (zca rfl rfl) ?_ | refine zav ?_ | refine zap rfl (opj_nilRaw rfl) ?_
    rw [hLq, hlfq]
  all_goals
    repeat first | refine zax rfl rfl rfl rfl ?_ | refine zap rfl (zcb rfl rfl) ?_ | refine zav ?_
    repeat first | refine zah ?_ | (refine zcr ?_; refine zcs ?_) | (refine zdb ?_; first | refine zdc ?_ | refine zdf ?_ | refine zdj rfl ?_)
    refine WS.weak (e' := [(4, .raw (.int .i64 ((k + 1 : Nat) : Int))), (0, .raw (.pointer (some ⟨ga, 0, none⟩))), (1, .raw (.pointer (some ⟨gb, 0, none⟩))), (2, .f .f32 N), (3, .raw (.slice (some ⟨gL, 0, none⟩) L.length c))]) (S' := St w0 gs [⟨ga, 75, [.raw (.slice (some ⟨a, 0, none⟩) np ca), .raw (.slice (some ⟨b, 0, none⟩) np cb), .f .f32 lp, .f .f32 hp'], 4⟩, entC a np P ca, entF b 31 np oneF cb, ⟨gb, 75, [.raw (.slice (some ⟨u, 0, none⟩) nq du), .raw (.slice (some ⟨v, 0, none⟩) nq dv), .f .f32 lq, .f .f32 hq'], 4⟩, entC u nq Q du, entF v 31 nq oneF dv, entM gL (tmM J) L c]) ?_ (by (repeat (first | exact Env.sub_nil _ | refine Env.sub_cons rfl ?_))) (fun w h => h)
    refine ws_draw (n := 19) mixed (by decide +kernel) ?_
    repeat first | refine zap rfl (zay rfl) ?_ | (refine zar ?_; first | refine zap rfl (zba rfl rfl rfl) ?_ | refine zap rfl (zbd rfl rfl rfl) ?_) | (refine zat ?_; refine zap rfl (zcf rfl rfl (by (repeat (first | exact mh | refine mt ?_)); done) rfl) ?_) | refine zap rfl (zcd rfl) ?_ | refine zav ?_ | refine zap rfl (opj_nilRaw rfl) ?_
    rw [hLp, hLq, hgeq]
    by_cases hle : rq ≤ rp
    case' pos =>
      rw [decide_eq_true (show J - rp ≤ J - rq by omega)]
      obtain ⟨r, hr⟩ : ∃ r, rp = r + 1 := ⟨rp - 1, by omega⟩
      subst hr
      have hsucc := meetR_p (s := (k, L)) (m := r + rq) (ip := ip) (iq := iq) hkl htt hle
      rw [show r + rq + 1 = r + 1 + rq by omega] at hsucc
      rw [show r + 1 - 1 = r from rfl] at hsucc
      dsimp only at hsucc
      have hHv := l03Halves_fn (n := np) (P := P) (lo := lp) (hi := hp') ⟨hp.1, by omega⟩ hBp.left.fin hBp.right.fin
      rw [hMp] at hHv
      have hjr : J - r = J - (r + 1) + 1 := by omega
      have t1 : tmF (J - r) ((2 * ip : Nat) : Int) = lp := by rw [hjr, hlp, ← hTp.low, show ((2 * ip : Nat) : Int) = 2 * (ip : Int) by omega]
      have t2 : tmF (J - r) ((2 * ip : Nat) + 1 : Int) = tmF (J - (r + 1) + 1) (2 * (ip : Int) + 1) := by rw [hjr, show ((2 * ip : Nat) : Int) = 2 * (ip : Int) by omega]
      have t3 : tmF (J - r) ((2 * ip + 1 : Nat) : Int) = tmF (J - (r + 1) + 1) (2 * (ip : Int) + 1) := by rw [hjr, show ((2 * ip + 1 : Nat) : Int) = 2 * (ip : Int) + 1 by omega]
      have t4 : tmF (J - r) (((2 * ip + 1 : Nat) : Int) + 1) = hp' := by rw [hjr, hhp, ← hTp.high, show ((2 * ip + 1 : Nat) : Int) + 1 = 2 * (ip : Int) + 2 by omega]
      have hi1 : 2 * ip + 1 < 2 ^ (J - r) := by rw [hjr, Nat.pow_succ]; omega
      obtain ⟨mi, hmi⟩ : ∃ mi, mi = tmF (J - (r + 1) + 1) (2 * (ip : Int) + 1) := ⟨_, rfl⟩
      rw [← hmi] at hHv t2 t3
      have hM1 : MetP (inJ J) (k + 1, L) := ⟨hM.g, hM.len, by simp only; omega⟩
      repeat first | refine zaa rfl (zay rfl) ?_ | refine zah ?_ | (refine zcr ?_; refine zcs ?_) | (refine zdb ?_; first | refine zdc ?_ | refine zdd ?_ | refine zdi rfl ?_)
      refine rs_callM3 hHv rfl rfl (Takes.ptQ mh (mt mh) (mt (mt mh)) hca hcb Takes.nil) rfl ?_
      rintro ⟨kk, a1, b1, ca1, cb1, a2, b2, ca2, cb2, ra, rb, rca, rcb⟩ ⟨⟨h1, h2⟩, h3, h4⟩
      dsimp only at h1 h2 h3 h4 ⊢
      repeat first | refine zaa rfl (zay rfl) ?_ | refine zaa rfl (zaz rfl) ?_ | refine zaa rfl (zbz rfl rfl) ?_ | refine zaa rfl (zcc rfl) ?_ | refine zah ?_ | (refine zcr ?_; refine zcs ?_) | (refine zdb ?_; first | refine zdc ?_ | refine zdd ?_ | refine zdf ?_ | refine zdj rfl ?_) | (refine zal rfl rfl ?_; intro g) | (refine zag ?_; first | refine zan 0 rfl rfl rfl rfl rfl rfl rfl rfl rfl ?_ | refine zan 1 rfl rfl rfl rfl rfl rfl rfl rfl rfl ?_)
      rename_i g19
      obtain ⟨g20, hg2n⟩ : ∃ x, x = g := ⟨_, rfl⟩
      subst hg2n
      have hc1 := ih r rq (by omega) hrq (by omega) (2 * ip) iq (leftP P) Q (k + 1) L g19 a1 b1 ca1 cb1 gb u v du dv gL c (by omega) hiq hBp.left hBq hM1 ⟨h1, h2⟩ ⟨hdu, hdv⟩ hc
      rw [t1, t2, ← hlq, ← hhq] at hc1
      refine RS.weakS (e' := [(19, .raw (.pointer (some ⟨g19, 0, none⟩))), (194, .raw (.pointer (some ⟨gb, 0, none⟩))), (195, .f .f32 N), (196, .raw (.slice (some ⟨gL, 0, none⟩) L.length c)), (197, .raw (.int .i64 ((k + 1 : Nat) : Int))), (20, .raw (.pointer (some ⟨g20, 0, none⟩))), (1, .raw (.pointer (some ⟨gb, 0, none⟩))), (2, .f .f32 N)]) (RS.st (S' := StR (fun _ => True) w0 gs ([⟨g19, 75, [.raw (.slice (some ⟨a1, 0, none⟩) np ca1), .raw (.slice (some ⟨b1, 0, none⟩) np cb1), .f .f32 lp, .f .f32 mi], 4⟩, entC a1 np (leftP P) ca1, entF b1 31 np oneF cb1, ⟨gb, 75, [.raw (.slice (some ⟨u, 0, none⟩) nq du), .raw (.slice (some ⟨v, 0, none⟩) nq dv), .f .f32 lq, .f .f32 hq'], 4⟩, entC u nq Q du, entF v 31 nq oneF dv, entM gL (tmM J) L c] ++ [⟨g20, 75, [.raw (.slice (some ⟨a2, 0, none⟩) np ca2), .raw (.slice (some ⟨b2, 0, none⟩) np cb2), .f .f32 mi, .f .f32 hp'], 4⟩, entC a2 np (rightP np P) ca2, entF b2 31 np oneF cb2, ⟨ga, 75, [.raw (.slice (some ⟨a, 0, none⟩) np ca), .raw (.slice (some ⟨b, 0, none⟩) np cb), .f .f32 lp, .f .f32 hp'], 4⟩, entC a np P ca, entF b 31 np oneF cb])) ?_ (fun w h => h.sel [1, 4, 5, 9, 10, 11, 12, 0, 3, 2, 6, 7, 8] (by decide) rfl)) (by (repeat (first | exact Env.sub_nil _ | refine Env.sub_cons rfl ?_)))
      refine rs_call hc1 rfl rfl (fun _ _ _ h => h) rfl ?_
      rintro ⟨k1, L1, g1, c1, ok1⟩ ⟨hcc, hres⟩
      dsimp only at hcc hres ⊢
      cases hl1 : meetR np nq (r + rq) r rq (2 * ip) iq (leftP P) Q (k + 1, L) with
      | none =>
        rw [hl1] at hres hsucc
        dsimp only at hres hsucc
        subst hres
        repeat first | refine zaa rfl (zay rfl) ?_ | refine zaa rfl (zaz rfl) ?_ | refine zaa rfl (zbz rfl rfl) ?_ | refine zaa rfl (zcc rfl) ?_ | refine zah ?_ | (refine zcr ?_; first | refine zcs ?_ | refine zct ?_) | (refine zdb ?_; first | refine zdc ?_ | refine zdd ?_ | refine zdg ?_ | refine zdi rfl ?_)
        exact Done.st (S' := StR (fun _ => True) w0 gs ([⟨ga, 75, [.raw (.slice (some ⟨a, 0, none⟩) np ca), .raw (.slice (some ⟨b, 0, none⟩) np cb), .f .f32 lp, .f .f32 hp'], 4⟩, entC a np P ca, entF b 31 np oneF cb, ⟨gb, 75, [.raw (.slice (some ⟨u, 0, none⟩) nq du), .raw (.slice (some ⟨v, 0, none⟩) nq dv), .f .f32 lq, .f .f32 hq'], 4⟩, entC u nq Q du, entF v 31 nq oneF dv, entM g1 (tmM J) L1 c1] : List Ent)) (done_ret3 rfl (⟨k1, L1, g1, c1, false⟩ : Mk) rfl rfl rfl rfl ⟨hcc, by rw [hsucc]⟩ (List.Sublist.refl _)) (fun w h => h.sel [10, 11, 12, 3, 4, 5, 6] (by decide) rfl)
      | some s1 =>
        rw [hl1] at hres hsucc
        dsimp only at hres hsucc
        obtain ⟨rfl, rfl⟩ := hres
        have hM2 : MetP (inJ J) (k1, L1) := meet_met r rq (2 * ip) iq (leftP P) Q (k + 1, L) (k1, L1) (by omega) hrq (by omega) hiq hM1 hl1
        have hc2 := ih r rq (by omega) hrq (by omega) (2 * ip + 1) iq (rightP np P) Q k1 L1 g20 a2 b2 ca2 cb2 gb u v du dv g1 c1 hi1 hiq hBp.right hBq hM2 ⟨h3, h4⟩ ⟨hdu, hdv⟩ hcc
        rw [t3, t4, ← hlq, ← hhq] at hc2
        repeat first | refine zaa rfl (zay rfl) ?_ | refine zaa rfl (zaz rfl) ?_ | refine zaa rfl (zbz rfl rfl) ?_ | refine zaa rfl (zcc rfl) ?_ | refine zah ?_ | (refine zcr ?_; refine zcs ?_) | (refine zdb ?_; first | refine zdc ?_ | refine zdd ?_ | refine zdf ?_ | refine zdj rfl ?_)
        refine RS.weakS (e' := [(20, .raw (.pointer (some ⟨g20, 0, none⟩))), (204, .raw (.pointer (some ⟨gb, 0, none⟩))), (205, .f .f32 N), (206, .raw (.slice (some ⟨g1, 0, none⟩) L1.length c1)), (207, .raw (.int .i64 ((k1 : Nat) : Int)))]) (RS.st (S' := StR (fun _ => True) w0 gs ([⟨g20, 75, [.raw (.slice (some ⟨a2, 0, none⟩) np ca2), .raw (.slice (some ⟨b2, 0, none⟩) np cb2), .f .f32 mi, .f .f32 hp'], 4⟩, entC a2 np (rightP np P) ca2, entF b2 31 np oneF cb2, ⟨gb, 75, [.raw (.slice (some ⟨u, 0, none⟩) nq du), .raw (.slice (some ⟨v, 0, none⟩) nq dv), .f .f32 lq, .f .f32 hq'], 4⟩, entC u nq Q du, entF v 31 nq oneF dv, entM g1 (tmM J) L1 c1] ++ [⟨ga, 75, [.raw (.slice (some ⟨a, 0, none⟩) np ca), .raw (.slice (some ⟨b, 0, none⟩) np cb), .f .f32 lp, .f .f32 hp'], 4⟩, entC a np P ca, entF b 31 np oneF cb])) ?_ (fun w h => h.sel [7, 8, 9, 3, 4, 5, 6, 10, 11, 12] (by decide) rfl)) (by (repeat (first | exact Env.sub_nil _ | refine Env.sub_cons rfl ?_)))
        refine rs_call hc2 rfl rfl (fun _ _ _ h => h) rfl ?_
        rintro ⟨k2, L2, g2, c2, ok2⟩ ⟨hcc2, hres2⟩
        dsimp only at hcc2 hres2 ⊢
        repeat first | refine zaa rfl (zaz rfl) ?_ | refine zaa rfl (zbz rfl rfl) ?_ | refine zah ?_ | (refine zcr ?_; first | refine zcs ?_ | refine zct ?_) | (refine zdb ?_; refine zdg ?_)
        exact Done.st (S' := StR (fun _ => True) w0 gs ([⟨ga, 75, [.raw (.slice (some ⟨a, 0, none⟩) np ca), .raw (.slice (some ⟨b, 0, none⟩) np cb), .f .f32 lp, .f .f32 hp'], 4⟩, entC a np P ca, entF b 31 np oneF cb, ⟨gb, 75, [.raw (.slice (some ⟨u, 0, none⟩) nq du), .raw (.slice (some ⟨v, 0, none⟩) nq dv), .f .f32 lq, .f .f32 hq'], 4⟩, entC u nq Q du, entF v 31 nq oneF dv, entM g2 (tmM J) L2 c2] : List Ent)) (done_ret3 rfl (⟨k2, L2, g2, c2, ok2⟩ : Mk) rfl rfl rfl rfl ⟨hcc2, by rw [hsucc]; exact hres2⟩ (List.Sublist.refl _)) (fun w h => h.sel [7, 8, 9, 3, 4, 5, 6] (by decide) rfl)
    case' neg =>
      rw [decide_eq_false (show ¬J - rp ≤ J - rq by omega)]
      obtain ⟨r, hr⟩ : ∃ r, rq = r + 1 := ⟨rq - 1, by omega⟩
      subst hr
      have hsucc := meetR_q (s := (k, L)) (m := rp + r) (ip := ip) (iq := iq) hkl htt hle
      rw [show rp + r + 1 = rp + (r + 1) from rfl] at hsucc
      rw [show r + 1 - 1 = r from rfl] at hsucc
      dsimp only at hsucc
      have hHv := l03Halves_fn (n := nq) (P := Q) (lo := lq) (hi := hq') ⟨hq.1, by omega⟩ hBq.left.fin hBq.right.fin
      rw [hMq] at hHv
      have hjr : J - r = J - (r + 1) + 1 := by omega
      have t1 : tmF (J - r) ((2 * iq : Nat) : Int) = lq := by rw [hjr, hlq, ← hTq.low, show ((2 * iq : Nat) : Int) = 2 * (iq : Int) by omega]
      have t2 : tmF (J - r) ((2 * iq : Nat) + 1 : Int) = tmF (J - (r + 1) + 1) (2 * (iq : Int) + 1) := by rw [hjr, show ((2 * iq : Nat) : Int) = 2 * (iq : Int) by omega]
      have t3 : tmF (J - r) ((2 * iq + 1 : Nat) : Int) = tmF (J - (r + 1) + 1) (2 * (iq : Int) + 1) := by rw [hjr, show ((2 * iq + 1 : Nat) : Int) = 2 * (iq : Int) + 1 by omega]
      have t4 : tmF (J - r) (((2 * iq + 1 : Nat) : Int) + 1) = hq' := by rw [hjr, hhq, ← hTq.high, show ((2 * iq + 1 : Nat) : Int) + 1 = 2 * (iq : Int) + 2 by omega]
      have hi1 : 2 * iq + 1 < 2 ^ (J - r) := by rw [hjr, Nat.pow_succ]; omega
      obtain ⟨mi, hmi⟩ : ∃ mi, mi = tmF (J - (r + 1) + 1) (2 * (iq : Int) + 1) := ⟨_, rfl⟩
      rw [← hmi] at hHv t2 t3
      have hM1 : MetP (inJ J) (k + 1, L) := ⟨hM.g, hM.len, by simp only; omega⟩
      repeat first | refine zaa rfl (zay rfl) ?_ | refine zah ?_ | (refine zcr ?_; refine zcs ?_) | (refine zdb ?_; first | refine zdc ?_ | refine zdd ?_ | refine zdf ?_ | refine zdj rfl ?_)
      refine rs_callM3 hHv rfl rfl (Takes.ptQ (mt (mt (mt (mh)))) (mt (mt (mt (mt (mh))))) (mt (mt (mt (mt (mt (mh)))))) hdu hdv Takes.nil) rfl ?_
      rintro ⟨kk, a1, b1, ca1, cb1, a2, b2, ca2, cb2, ra, rb, rca, rcb⟩ ⟨⟨h1, h2⟩, h3, h4⟩
      dsimp only at h1 h2 h3 h4 ⊢
      repeat first | refine zaa rfl (zay rfl) ?_ | refine zaa rfl (zaz rfl) ?_ | refine zaa rfl (zbz rfl rfl) ?_ | refine zaa rfl (zcc rfl) ?_ | refine zah ?_ | (refine zcr ?_; refine zcs ?_) | (refine zdb ?_; first | refine zdc ?_ | refine zdd ?_ | refine zdf ?_ | refine zdj rfl ?_) | (refine zal rfl rfl ?_; intro g) | (refine zag ?_; first | refine zan 0 rfl rfl rfl rfl rfl rfl rfl rfl rfl ?_ | refine zan 1 rfl rfl rfl rfl rfl rfl rfl rfl rfl ?_)
      rename_i g25
      obtain ⟨g26, hg2n⟩ : ∃ x, x = g := ⟨_, rfl⟩
      subst hg2n
      have hc1 := ih rp r hrp (by omega) (by omega) ip (2 * iq) P (leftP Q) (k + 1) L ga a b ca cb g25 a1 b1 ca1 cb1 gL c hip (by omega) hBp hBq.left hM1 ⟨hca, hcb⟩ ⟨h1, h2⟩ hc
      rw [t1, t2, ← hlp, ← hhp] at hc1
      refine RS.weakS (e' := [(25, .raw (.pointer (some ⟨g25, 0, none⟩))), (221, .raw (.pointer (some ⟨ga, 0, none⟩))), (222, .f .f32 N), (223, .raw (.slice (some ⟨gL, 0, none⟩) L.length c)), (224, .raw (.int .i64 ((k + 1 : Nat) : Int))), (26, .raw (.pointer (some ⟨g26, 0, none⟩))), (0, .raw (.pointer (some ⟨ga, 0, none⟩))), (2, .f .f32 N)]) (RS.st (S' := StR (fun _ => True) w0 gs ([⟨ga, 75, [.raw (.slice (some ⟨a, 0, none⟩) np ca), .raw (.slice (some ⟨b, 0, none⟩) np cb), .f .f32 lp, .f .f32 hp'], 4⟩, entC a np P ca, entF b 31 np oneF cb, ⟨g25, 75, [.raw (.slice (some ⟨a1, 0, none⟩) nq ca1), .raw (.slice (some ⟨b1, 0, none⟩) nq cb1), .f .f32 lq, .f .f32 mi], 4⟩, entC a1 nq (leftP Q) ca1, entF b1 31 nq oneF cb1, entM gL (tmM J) L c] ++ [⟨g26, 75, [.raw (.slice (some ⟨a2, 0, none⟩) nq ca2), .raw (.slice (some ⟨b2, 0, none⟩) nq cb2), .f .f32 mi, .f .f32 hq'], 4⟩, entC a2 nq (rightP nq Q) ca2, entF b2 31 nq oneF cb2, ⟨gb, 75, [.raw (.slice (some ⟨u, 0, none⟩) nq du), .raw (.slice (some ⟨v, 0, none⟩) nq dv), .f .f32 lq, .f .f32 hq'], 4⟩, entC u nq Q du, entF v 31 nq oneF dv])) ?_ (fun w h => h.sel [6, 7, 8, 1, 4, 5, 12, 0, 3, 2, 9, 10, 11] (by decide) rfl)) (by (repeat (first | exact Env.sub_nil _ | refine Env.sub_cons rfl ?_)))
      refine rs_call hc1 rfl rfl (fun _ _ _ h => h) rfl ?_
      rintro ⟨k1, L1, g1, c1, ok1⟩ ⟨hcc, hres⟩
      dsimp only at hcc hres ⊢
      cases hl1 : meetR np nq (rp + r) rp r ip (2 * iq) P (leftP Q) (k + 1, L) with
      | none =>
        rw [hl1] at hres hsucc
        dsimp only at hres hsucc
        subst hres
        repeat first | refine zaa rfl (zay rfl) ?_ | refine zaa rfl (zaz rfl) ?_ | refine zaa rfl (zbz rfl rfl) ?_ | refine zaa rfl (zcc rfl) ?_ | refine zah ?_ | (refine zcr ?_; first | refine zcs ?_ | refine zct ?_) | (refine zdb ?_; first | refine zdc ?_ | refine zdd ?_ | refine zdg ?_ | refine zdi rfl ?_)
        exact Done.st (S' := StR (fun _ => True) w0 gs ([⟨ga, 75, [.raw (.slice (some ⟨a, 0, none⟩) np ca), .raw (.slice (some ⟨b, 0, none⟩) np cb), .f .f32 lp, .f .f32 hp'], 4⟩, entC a np P ca, entF b 31 np oneF cb, ⟨gb, 75, [.raw (.slice (some ⟨u, 0, none⟩) nq du), .raw (.slice (some ⟨v, 0, none⟩) nq dv), .f .f32 lq, .f .f32 hq'], 4⟩, entC u nq Q du, entF v 31 nq oneF dv, entM g1 (tmM J) L1 c1] : List Ent)) (done_ret3 rfl (⟨k1, L1, g1, c1, false⟩ : Mk) rfl rfl rfl rfl ⟨hcc, by rw [hsucc]⟩ (List.Sublist.refl _)) (fun w h => h.sel [0, 1, 2, 10, 11, 12, 6] (by decide) rfl)
      | some s1 =>
        rw [hl1] at hres hsucc
        dsimp only at hres hsucc
        obtain ⟨rfl, rfl⟩ := hres
        have hM2 : MetP (inJ J) (k1, L1) := meet_met rp r ip (2 * iq) P (leftP Q) (k + 1, L) (k1, L1) hrp (by omega) hip (by omega) hM1 hl1
        have hc2 := ih rp r hrp (by omega) (by omega) ip (2 * iq + 1) P (rightP nq Q) k1 L1 ga a b ca cb g26 a2 b2 ca2 cb2 g1 c1 hip hi1 hBp hBq.right hM2 ⟨hca, hcb⟩ ⟨h3, h4⟩ hcc
        rw [t3, t4, ← hlp, ← hhp] at hc2
        repeat first | refine zaa rfl (zay rfl) ?_ | refine zaa rfl (zaz rfl) ?_ | refine zaa rfl (zbz rfl rfl) ?_ | refine zaa rfl (zcc rfl) ?_ | refine zah ?_ | (refine zcr ?_; refine zcs ?_) | (refine zdb ?_; first | refine zdc ?_ | refine zdd ?_ | refine zdf ?_ | refine zdj rfl ?_)
        refine RS.weakS (e' := [(26, .raw (.pointer (some ⟨g26, 0, none⟩))), (231, .raw (.pointer (some ⟨ga, 0, none⟩))), (232, .f .f32 N), (233, .raw (.slice (some ⟨g1, 0, none⟩) L1.length c1)), (234, .raw (.int .i64 ((k1 : Nat) : Int)))]) (RS.st (S' := StR (fun _ => True) w0 gs ([⟨ga, 75, [.raw (.slice (some ⟨a, 0, none⟩) np ca), .raw (.slice (some ⟨b, 0, none⟩) np cb), .f .f32 lp, .f .f32 hp'], 4⟩, entC a np P ca, entF b 31 np oneF cb, ⟨g26, 75, [.raw (.slice (some ⟨a2, 0, none⟩) nq ca2), .raw (.slice (some ⟨b2, 0, none⟩) nq cb2), .f .f32 mi, .f .f32 hq'], 4⟩, entC a2 nq (rightP nq Q) ca2, entF b2 31 nq oneF cb2, entM g1 (tmM J) L1 c1] ++ [⟨gb, 75, [.raw (.slice (some ⟨u, 0, none⟩) nq du), .raw (.slice (some ⟨v, 0, none⟩) nq dv), .f .f32 lq, .f .f32 hq'], 4⟩, entC u nq Q du, entF v 31 nq oneF dv])) ?_ (fun w h => h.sel [0, 1, 2, 7, 8, 9, 6, 10, 11, 12] (by decide) rfl)) (by (repeat (first | exact Env.sub_nil _ | refine Env.sub_cons rfl ?_)))
        refine rs_call hc2 rfl rfl (fun _ _ _ h => h) rfl ?_
        rintro ⟨k2, L2, g2, c2, ok2⟩ ⟨hcc2, hres2⟩
        dsimp only at hcc2 hres2 ⊢
        repeat first | refine zaa rfl (zaz rfl) ?_ | refine zaa rfl (zbz rfl rfl) ?_ | refine zah ?_ | (refine zcr ?_; refine zcs ?_) | (refine zdb ?_; refine zdg ?_)
        exact Done.st (S' := StR (fun _ => True) w0 gs ([⟨ga, 75, [.raw (.slice (some ⟨a, 0, none⟩) np ca), .raw (.slice (some ⟨b, 0, none⟩) np cb), .f .f32 lp, .f .f32 hp'], 4⟩, entC a np P ca, entF b 31 np oneF cb, ⟨gb, 75, [.raw (.slice (some ⟨u, 0, none⟩) nq du), .raw (.slice (some ⟨v, 0, none⟩) nq dv), .f .f32 lq, .f .f32 hq'], 4⟩, entC u nq Q du, entF v 31 nq oneF dv, entM g2 (tmM J) L2 c2] : List Ent)) (done_ret3 rfl (⟨k2, L2, g2, c2, ok2⟩ : Mk) rfl rfl rfl rfl ⟨hcc2, by rw [hsucc]; exact hres2⟩ (List.Sublist.refl _)) (fun w h => h.sel [0, 1, 2, 7, 8, 9, 6] (by decide) rfl)
theorem meets_all {np nq J : Nat} {N : FV} (hp : 2 ≤ np ∧ np ≤ 5) (hq : 2 ≤ nq ∧ nq ≤ 5) (hJ : NearJ J N) : ∀ n rp rq, rp + rq = n → rp ≤ J → rq ≤ J → MsC np nq J N rp rq
  | 0, rp, rq, hn, h1, h2 => meets_step hp hq hJ rp rq h1 h2 (fun _ _ _ _ e => by omega)
  | n + 1, rp, rq, hn, h1, h2 => meets_step hp hq hJ rp rq h1 h2 (fun rp' rq' e1 e2 e => meets_all hp hq hJ n rp' rq' (by omega) e1 e2)
end Go.Ab
