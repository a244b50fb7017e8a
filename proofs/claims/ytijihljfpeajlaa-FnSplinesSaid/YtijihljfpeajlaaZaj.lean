/- Part 10 of the texts on which the law leans, joined: Splines in memory: corners cut by knots; walked. No conditions. -/
import Derived.Maps.Keyed
import Derived.KernelRfl
import Derived.Test.YtijihljfpeajlaaZai
namespace Go.Ab
open Go.Proofs
variable {R : World → Prop} [RStab R]
/-- A spline that is drawn. -/
structure Dsp where
  d : Nat
  n : Nat
  ga : Nat
  gb : Nat
  ca : Nat
  cb : Nat
  P : Nat → CV
  m : Int → Int
  a : Nat → Int
  b : Nat → Int
structure DspOk (y : Dsp) : Prop where
  d : 1 ≤ y.d ∧ y.d ≤ 4
  n : y.d + 1 ≤ y.n ∧ y.n ≤ y.d + 5
  ca : y.n + y.d + 1 ≤ y.ca ∧ y.ca ≤ maxLen
  cb : y.n ≤ y.cb ∧ y.cb ≤ maxLen
  p : DpOk y.n y.P y.a y.b
  k : DrK y.d y.n y.n y.m
attribute [local irreducible] WS RS Done OpJ Then InBlock Round Ret Env.sub FnH
attribute [local irreducible] tab tabC
set_option maxRecDepth 100000 in
set_option maxHeartbeats 4000000 in
theorem drawSpl_fn (w1 : World) (gs : Nat) (L : List By) (hL : L.length < 2 ^ 40) :
    FnH (X := Dsp) Try.prog 20 (fun w => [srcP w1 gs w]) [srcE w1 gs L 0 0] (fun y => splO y.ga y.gb y.d y.n y.ca y.cb) (fun y => [entF y.ga 29 (y.n + y.d + 1) (mF y.m) y.ca, entC y.gb y.n y.P y.cb]) DspOk := by
  refine fn_intro Try.func20 rfl Try.ntmps20 (fun _ => Nat.le_of_ble_eq_true rfl) fun w0 => ?_
  refine ws_q (t := 0) rfl fun v hv => ?_
  obtain ⟨rfl, hx, hg⟩ := hv
  have hk : KeepW w1 w0 [gs] := ⟨hx, fun x hx => by simp at hx; omega⟩
  have hp0 := pick_fn w1 gs L 0 0 4 (by omega) (by omega) hL
  repeat first | refine zaa rfl (zay rfl) ?_ | refine zaa rfl (zaz rfl) ?_ | (refine zac ?_; first | refine zaa rfl (zbb rfl rfl (by omega)) ?_ | refine zaa rfl (zbb (x := 1) (y := r1) rfl rfl (by omega)) ?_) | refine zah ?_ | (refine zcr ?_; refine zcs ?_) | (refine zdb ?_; first | refine zdc ?_ | refine zdd ?_) | (refine zal rfl rfl ?_; intro g) | (refine rs_callAt 1 hp0 rfl rfl rfl (Takes.srcP hk hg (Takes.same Takes.nil)) rfl ?_; rintro ⟨r1, a1, s1⟩ ⟨hr1, hr2, hr3⟩; simp only at hr1 hr2 hr3)
  obtain ⟨d, hd0⟩ : ∃ d : Nat, 1 + r1 = (d : Int) := ⟨(1 + r1).toNat, by omega⟩
  rw [hd0]
  have hd : 1 ≤ d ∧ d ≤ 4 := by omega
  have hp1 := pick_fn w1 gs L a1 s1 5 (by omega) (by omega) hL
  repeat first | refine zaa rfl (zay rfl) ?_ | refine zaa rfl (zaz rfl) ?_ | (refine zac ?_; refine zaa rfl (zbb (x := (d : Int) + 1) (y := r2) rfl rfl (by omega)) ?_) | refine zah ?_ | (refine zcr ?_; refine zcs ?_) | (refine zdb ?_; first | refine zdc ?_ | refine zdd ?_) | (refine rs_callAt 1 hp1 rfl rfl rfl (Takes.srcP hk hg (Takes.same Takes.nil)) rfl ?_; rintro ⟨r2, a2, s2⟩ ⟨hr4, hr5, hr6⟩; simp only at hr4 hr5 hr6)
  obtain ⟨n, hn0⟩ : ∃ n : Nat, (d : Int) + 1 + r2 = (n : Int) := ⟨((d : Int) + 1 + r2).toNat, by omega⟩
  rw [hn0]
  have hn : d + 1 ≤ n ∧ n ≤ d + 5 := by omega
  have hD := drawPts_fn w1 gs L a2 s2 n (by omega) (by omega) hL
  obtain ⟨g2, hg2⟩ : ∃ x, x = g := ⟨g, rfl⟩
  subst hg2
  refine RS.perm (H' := [srcE w1 gs L a2 s2] ++ [⟨g2, 27, [.raw (.int .i64 0), .raw (.slice none 0 0), .raw (.slice none 0 0)], 3⟩]) ?_ (List.Perm.swap _ _ _)
  refine rs_call (pre := [srcE w1 gs L a2 s2]) hD rfl rfl (Takes.srcP hk hg (Takes.same Takes.nil)) rfl ?_
  rintro ⟨g0, c0, P, pa, pb, ⟨r3, a3, s3⟩⟩ ⟨hc0, hdp, ha3⟩
  simp only [maxLen] at hc0 hdp ha3
  dsimp only
  repeat (refine zaa rfl (zay rfl) ?_)
  refine rs_callM3 (specEven_fn (d := d) (n := n) (P := P) ⟨hd.1, by omega⟩ ⟨hn.1, by omega⟩) rfl rfl (Takes.ownE ⟨_, _, mh⟩ (by simp) (by omega) (by simp only [maxLen]; omega) (Takes.same Takes.nil)) rfl ?_
  rintro ⟨⟨ga, gb⟩, ca, cb⟩ ⟨⟨h1, h2⟩, h3, h4⟩
  dsimp only at h1 h2 h3 h4 ⊢
  repeat first | refine zaa rfl (zay rfl) ?_ | refine zaa rfl (zaz rfl) ?_ | (refine zac ?_; refine zaa rfl (zbb rfl rfl (by omega)) ?_) | refine zah ?_ | (refine zcr ?_; refine zcs ?_) | (refine zdb ?_; first | refine zdc ?_ | refine zdd ?_ | refine zde ?_) | (refine zal rfl rfl ?_; intro g) | (refine zag ?_; refine zan 0 rfl rfl rfl rfl rfl rfl rfl rfl rfl ?_)
  refine ws_loop (ι := Nat × (Int → Int) × Dr) (fun y => [(0, .raw (.pointer (some ⟨gs, 0, none⟩))), (2, .raw (.pointer (some ⟨g2, 0, none⟩))), (3, .raw (.int .i64 (d : Int))), (4, .raw (.int .i64 (n : Int))), (5, .raw (.pointer (some ⟨g, 0, none⟩))), (6, .raw (.int .i64 ((d : Int) + 1 + (y.1 : Nat))))])
    (fun y => St w0 [gs] [⟨g, 27, [.raw (.int .i64 (d : Int)), .raw (.slice (some ⟨ga, 0, none⟩) (n + d + 1) ca), .raw (.slice (some ⟨gb, 0, none⟩) n cb)], 3⟩, entF ga 29 (n + d + 1) (mF y.2.1) ca, entC gb n P cb, entC g0 n P c0, srcE w1 gs L y.2.2.at_ y.2.2.seed, ⟨g2, 27, [.raw (.int .i64 0), .raw (.slice none 0 0), .raw (.slice none 0 0)], 3⟩])
    (fun y => y.1 ≤ n - d - 1 ∧ DrK d n ((d : Int) + 1 + (y.1 : Nat)) y.2.1 ∧ y.2.2.at_ = a3 + (y.1 : Nat)) (fun y => n - d - 1 - y.1) (0, eeI d n, ⟨r3, a3, s3⟩) ⟨Nat.zero_le _, by simpa using DrK.start hn.1, by simp⟩ ?_ (fun w hw => hw) (fun y hy => ?_)
  · rw [show (d : Int) + 1 + (((0, eeI d n, ⟨r3, a3, s3⟩) : Nat × (Int → Int) × Dr).1 : Nat) = (d : Int) + 1 by simp]
    (repeat (first | exact Env.sub_nil _ | refine Env.sub_cons rfl ?_))
  obtain ⟨c, m, ⟨r4, a4, s4⟩⟩ := y
  obtain ⟨hc, hK, ha4⟩ := hy
  dsimp only at hc hK ha4 ⊢
  repeat first | refine zaa rfl (zay rfl) ?_ | (refine zac ?_; refine zaa rfl (zbe rfl rfl) ?_) | refine zah ?_ | (refine zcr ?_; refine zcs ?_) | (refine zdb ?_; first | refine zdc ?_ | refine zdd ?_)
  refine ws_cond rfl (fun hd1 => ?_) (fun hd1 => ?_)
  case' refine_2 =>
    have hge : ¬ (d : Int) + 1 + c < (n : Int) := of_decide_eq_false hd1
    clear hd1
    rw [show (d : Int) + 1 + (c : Nat) = n by omega] at hK
    repeat first | (refine zae ?_; refine zaa rfl (zcg rfl rfl (by (repeat (first | exact mh | refine mt ?_)); done) rfl rfl) ?_) | refine zah ?_ | (refine zcr ?_; first | refine zcs ?_ | refine zcu ?_ | refine zcx ?_ | refine zda ?_) | (refine zdb ?_; first | refine zdc ?_ | refine zdd ?_ | refine zdg ?_ | refine zdh ?_) | (refine zag ?_; refine zan 5 rfl rfl rfl rfl rfl rfl rfl rfl rfl ?_)
    exact done_retX rfl rfl (⟨d, n, ga, gb, ca, cb, P, m, pa, pb⟩ : Dsp) rfl (mt (mt (mt (mt (mt mh))))) rfl rfl rfl ⟨hd, hn, ⟨h1, h2⟩, ⟨h3, h4⟩, hdp, hK⟩ (.cons _ (.cons_cons _ (.cons_cons _ (List.nil_sublist _))))
  have hlt : (d : Int) + 1 + c < (n : Int) := of_decide_eq_true hd1
  clear hd1
  have ho := one_fn w1 gs L a4 s4 4 (by omega) (by omega) hL
  have hb : ∀ j, 0 ≤ m j ∧ m j ≤ 10 := fun j => by
    have x1 := hK.up (min j d) j (by omega)
    rw [hK.lo (min j d) (by omega)] at x1
    have x2 := hK.le j
    have x3 := eeI_up hn.1 j (max j n) (by omega)
    rw [eeI_hi (j := max j n) (by omega) hn.1] at x3
    exact ⟨x1, by omega⟩
  have hne : cmpB .neq (fcmp .f32 (mF m ((d : Int) + 1 + c - 2)) (mF m ((d : Int) + 1 + c - 1))) = decide (64 * m ((d : Int) + 1 + c - 2) ≠ 64 * m ((d : Int) + 1 + c - 1)) := (gd_cmp (gd_whole (hb ((d : Int) + 1 + c - 2)).1 (hb _).2) (gd_whole (hb ((d : Int) + 1 + c - 1)).1 (hb _).2)).2.2.2.2.2
  have e6 : (d : Int) + 1 + ((c + 1 : Nat) : Int) = (d : Int) + 1 + c + 1 := by omega
  have hKn := hK.next
  rw [← e6] at hKn
  repeat first | (refine zcr ?_; refine zcs ?_) | (refine zdb ?_; first | refine zdc ?_ | refine zde ?_ | refine zdf ?_)
  refine ws_drawP (ix := []) (W := St w0 [gs] []) mixed (by decide +kernel) (fun _ hw => hw.weak (List.nil_sublist _)) ?_
  repeat (refine zav ?_)
  refine ⟨rfl, ?_⟩
  refine gp_step [0] (by decide +kernel) fun x hx => ?_
  obtain rfl : x = 0 := by simpa using hx
  refine sp_op rfl (by decide +kernel) rfl (zay rfl) rfl (cont_set (by decide +kernel) rfl ?_)
  refine gp_step [1] (by decide +kernel) fun x hx => ?_
  obtain rfl : x = 1 := by simpa using hx
  refine sp_callAt 4 rfl (by decide +kernel) rfl ho rfl rfl rfl (Takes.srcP hk hg (Takes.same Takes.nil)) (fun _ _ => rfl) ?_
  rintro ⟨bb, ⟨r5, a5, s5⟩⟩ ha5
  simp only at ha5
  refine cont_set (by decide +kernel) rfl ?_
  refine gp_pure (W := St w0 [gs] [⟨g, 27, [.raw (.int .i64 (d : Int)), .raw (.slice (some ⟨ga, 0, none⟩) (n + d + 1) ca), .raw (.slice (some ⟨gb, 0, none⟩) n cb)], 3⟩, entF ga 29 (n + d + 1) (mF m) ca, entC gb n P cb, entC g0 n P c0, srcE w1 gs L a5 s5, ⟨g2, 27, [.raw (.int .i64 0), .raw (.slice none 0 0), .raw (.slice none 0 0)], 3⟩]) [2, 3, 4, 5, 6, 7, 8, 9, 10, 11, 12, 13, 14, 15, 16, 17, 18, 19, 20, 21, 22, 23, 24, 25, 26] (by decide +kernel) (by decide) (fun _ hw => hw) ?_
  cases bb with
  | false =>
    repeat first | refine zax rfl rfl rfl rfl ?_ | refine zap rfl (zay rfl) ?_ | refine zap rfl (zcb rfl rfl) ?_ | refine zav ?_
    refine ⟨rfl, ?_⟩
    refine gp_end (by decide +kernel) ?_
    repeat first | refine zaa rfl (zay rfl) ?_ | refine zaa rfl (zaz rfl) ?_ | (refine zac ?_; refine zaa rfl (zbb rfl rfl (by omega)) ?_) | refine zah ?_ | (refine zcr ?_; first | refine zcs ?_ | refine zcv ?_) | (refine zdb ?_; first | refine zdd ?_ | refine zdf ?_ | refine zdj rfl ?_)
    refine done_round (c + 1, m, ⟨r5, a5, s5⟩) ⟨by simp only; omega, hKn, by simp only; omega⟩ (by simp only; omega) ?_ (fun _ hw => hw)
    simp only [e6]
    (repeat (first | exact Env.sub_nil _ | refine Env.sub_cons rfl ?_))
  | true =>
    repeat first | refine zaw rfl rfl ?_ | refine zap rfl (zay rfl) ?_ | (refine zar ?_; refine zap rfl (zbg rfl rfl) ?_) | refine zap rfl (zca rfl rfl) ?_
    cases hA : decide ((1 : Int) < (d : Int))
    · repeat first | refine zax rfl rfl rfl rfl ?_ | refine zap rfl (zay rfl) ?_ | refine zap rfl (zcb rfl rfl) ?_ | refine zav ?_
      refine ⟨rfl, ?_⟩
      refine gp_end (by decide +kernel) ?_
      repeat first | refine zaa rfl (zay rfl) ?_ | refine zaa rfl (zaz rfl) ?_ | (refine zac ?_; refine zaa rfl (zbb rfl rfl (by omega)) ?_) | refine zah ?_ | (refine zcr ?_; first | refine zcs ?_ | refine zcv ?_) | (refine zdb ?_; first | refine zdd ?_ | refine zdf ?_ | refine zdj rfl ?_)
      refine done_round (c + 1, m, ⟨r5, a5, s5⟩) ⟨by simp only; omega, hKn, by simp only; omega⟩ (by simp only; omega) ?_ (fun _ hw => hw)
      simp only [e6]
      (repeat (first | exact Env.sub_nil _ | refine Env.sub_cons rfl ?_))
    · repeat first | refine zaw rfl rfl ?_ | refine zap rfl (zay rfl) ?_ | (refine zar ?_; first | refine zap rfl (zbb rfl rfl (by omega)) ?_ | refine zap rfl (zbg rfl rfl) ?_) | refine zap rfl (zca rfl rfl) ?_
      cases hB : decide ((d : Int) + 1 < (d : Int) + 1 + c)
      · repeat first | refine zax rfl rfl rfl rfl ?_ | refine zap rfl (zcb rfl rfl) ?_ | refine zav ?_
        refine ⟨rfl, ?_⟩
        refine gp_end (by decide +kernel) ?_
        repeat first | refine zaa rfl (zay rfl) ?_ | refine zaa rfl (zaz rfl) ?_ | (refine zac ?_; refine zaa rfl (zbb rfl rfl (by omega)) ?_) | refine zah ?_ | (refine zcr ?_; first | refine zcs ?_ | refine zcv ?_) | (refine zdb ?_; first | refine zdd ?_ | refine zdf ?_ | refine zdj rfl ?_)
        refine done_round (c + 1, m, ⟨r5, a5, s5⟩) ⟨by simp only; omega, hKn, by simp only; omega⟩ (by simp only; omega) ?_ (fun _ hw => hw)
        simp only [e6]
        (repeat (first | exact Env.sub_nil _ | refine Env.sub_cons rfl ?_))
      · have hd1 := of_decide_eq_true hA
        have hi1 := of_decide_eq_true hB
        repeat first | refine zaw rfl rfl ?_ | refine zap rfl (zay rfl) ?_ | (refine zar ?_; first | refine zap rfl (zbc rfl rfl (by omega)) ?_ | refine zap rfl (zbd rfl rfl rfl) ?_) | (refine zat ?_; first | refine zap rfl (zbt rfl rfl (by (repeat (first | exact mh | refine mt ?_)); done) (by omega)) ?_ | refine zap rfl (zcf rfl rfl (by (repeat (first | exact mh | refine mt ?_)); done) rfl) ?_) | (refine zau ?_; refine zap rfl (zbw rfl rfl (by omega) (by omega)) ?_) | refine zap rfl (zcd rfl) ?_ | refine zap rfl (zca rfl rfl) ?_ | refine zav ?_
        rw [hne]
        cases hC : decide (64 * m ((d : Int) + 1 + c - 2) ≠ 64 * m ((d : Int) + 1 + c - 1))
        · skip
          refine ⟨rfl, ?_⟩
          refine gp_end (by decide +kernel) ?_
          repeat first | refine zaa rfl (zay rfl) ?_ | refine zaa rfl (zaz rfl) ?_ | (refine zac ?_; refine zaa rfl (zbb rfl rfl (by omega)) ?_) | refine zah ?_ | (refine zcr ?_; first | refine zcs ?_ | refine zcv ?_) | (refine zdb ?_; first | refine zdd ?_ | refine zdf ?_ | refine zdj rfl ?_)
          refine done_round (c + 1, m, ⟨r5, a5, s5⟩) ⟨by simp only; omega, hKn, by simp only; omega⟩ (by simp only; omega) ?_ (fun _ hw => hw)
          simp only [e6]
          (repeat (first | exact Env.sub_nil _ | refine Env.sub_cons rfl ?_))
        · have hn2 := of_decide_eq_true hC
          have hKd := hK.dbl hn.1 (by omega) hi1 hlt (fun e => hn2 (by rw [e]))
          rw [← e6] at hKd
          skip
          refine ⟨rfl, ?_⟩
          refine gp_end (by decide +kernel) ?_
          repeat first | (refine zcr ?_; refine zcs ?_) | (refine zdb ?_; refine zdi rfl ?_)
          refine ws_draw (n := 9) mixed (by decide +kernel) ?_
          repeat first | refine zap rfl (zay rfl) ?_ | (refine zar ?_; refine zap rfl (zbc rfl rfl (by omega)) ?_) | (refine zat ?_; first | refine zap rfl (zbt rfl rfl (by (repeat (first | exact mh | refine mt ?_)); done) (by omega)) ?_ | refine zap rfl (zcf rfl rfl (by (repeat (first | exact mh | refine mt ?_)); done) rfl) ?_) | (refine zau ?_; refine zap rfl (zbw rfl rfl (by omega) (by omega)) ?_) | refine zap rfl (zcd rfl) ?_ | refine zav ?_
          refine zaa rfl (zbw rfl rfl (by omega) (by omega)) ?_
          refine rs_storeT 1 (mF (dblM m ((d : Int) + 1 + c))) (i := (d : Int) + 1 + c) (n := n + d + 1) (c := ca) rfl rfl rfl (by omega) (by unfold mF dblM; rw [if_pos rfl]) (fun s _ _ hs => by unfold mF dblM; rw [if_neg hs]) ?_
          repeat first | refine zaa rfl (zay rfl) ?_ | refine zaa rfl (zaz rfl) ?_ | (refine zac ?_; refine zaa rfl (zbb rfl rfl (by omega)) ?_) | refine zah ?_ | (refine zcr ?_; first | refine zcs ?_ | refine zcv ?_) | (refine zdb ?_; refine zdd ?_)
          refine done_round (c + 1, dblM m ((d : Int) + 1 + c), ⟨r5, a5, s5⟩) ⟨by simp only; omega, hKd, by simp only; omega⟩ (by simp only; omega) ?_ (fun _ hw => hw)
          simp only [e6]
          (repeat (first | exact Env.sub_nil _ | refine Env.sub_cons rfl ?_))
end Go.Ab
namespace Go.Ab
open Go.Proofs
variable {R : World → Prop} [RStab R]
attribute [local irreducible] WS RS Done OpJ Then InBlock Round Ret Env.sub FnH
attribute [local irreducible] tab tabC
theorem r8Spline_fn (L : List By) (hL : L.length < 2 ^ 40) :
    FnH (X := Dsp) Try.prog 5 (fun w => [slB w L]) [] (fun y => splO y.ga y.gb y.d y.n y.ca y.cb) (fun y => [entF y.ga 29 (y.n + y.d + 1) (mF y.m) y.ca, entC y.gb y.n y.P y.cb]) DspOk := by
  refine fn_intro Try.func5 rfl Try.ntmps5 (fun _ => Nat.le_of_ble_eq_true rfl) fun w0 => ?_
  repeat first | refine zaa rfl (zay rfl) ?_ | refine zaa rfl (zaz rfl) ?_ | refine zah ?_ | (refine zcr ?_; refine zcs ?_) | (refine zdb ?_; first | refine zdc ?_ | refine zdd ?_) | (refine zal rfl rfl ?_; intro g) | (refine rs_call1 (l00From_fn w0 L) rfl rfl (Takes.same Takes.nil) rfl ?_; rintro gs -)
  refine rs_fact (fun w hw => own_new (en := srcE w0 gs L 0 0) hw mh) fun hgs => ?_
  have hk : KeepW w0 w0 [] := ⟨Ext.refl _, fun x hx => by cases hx⟩
  skip
  refine rs_call (pre := [srcE w0 gs L 0 0]) (drawSpl_fn w0 gs L hL) rfl rfl (Takes.srcP hk hgs Takes.nil) rfl ?_
  rintro y hy
  repeat first | refine zah ?_ | (refine zcr ?_; refine zcs ?_) | (refine zdb ?_; refine zdg ?_) | (refine zag ?_; refine zan 2 rfl rfl rfl rfl rfl rfl rfl rfl rfl ?_)
  exact done_retX rfl rfl y rfl (mt (mt mh)) rfl rfl rfl hy (.cons_cons _ (.cons_cons _ (List.nil_sublist _)))
end Go.Ab
namespace Go.Ab
open Go.Proofs
open Go.ChangeMaps (setBlock heap_setBlock_same heap_setBlock_other)
variable {R : World → Prop} [RStab R]
abbrev ki (a : Int) : Value := .int .i64 a
def Ki64 (a : Int) : Prop := -9223372036854775808 ≤ a ∧ a ≤ 9223372036854775807
class MapI (P : Program) (t : TypeId) (k e : outParam TypeId) : Prop where
  hu : P.underlying t = some (.map k e)
  law : Go.Maps.Keyed P k
  key : ∀ {a : Int}, Ki64 a → ∃ l, keyOf P k (ki a) = some l
theorem ki_inj {a b : Int} (h : ki a = ki b) : a = b := by
  simp only [Value.int.injEq, true_and] at h
  exact h
/-- Block g is a map: what it holds at whole numbers. -/
structure MapC (g : Nat) (f : Int → Option CV) (w : World) : Prop where
  ex : ∃ es clock, w.heap[g]? = some (.map es clock) ∧ (∀ x ∈ es.toList, ∃ a p, Ki64 a ∧ x.key = ki a ∧ f a = some p ∧ Ev (cA p) x.val) ∧
    (∀ a p, Ki64 a → f a = some p → ∃ x ∈ es.toList, x.key = ki a) ∧ (es.toList.map (·.key)).Nodup
instance (g : Nat) (f : Int → Option CV) : RStab (MapC g f) where
  stab := fun ⟨es, clock, hb, r⟩ hm hc => ⟨es, clock, by
    have hlt := (Array.getElem?_eq_some_iff.1 hb).1
    rw [hm.block g hlt (fun hg => by obtain ⟨c, T, fr, h⟩ := hc g hg; rw [hb] at h; cases h)]
    exact hb, r⟩
def updC (f : Int → Option CV) (a : Int) (p : CV) (x : Int) : Option CV := if x = a then some p else f x
section
variable {P : Program} {N : Nat} {e : Env} {Q : Exit → Env → World → Prop} {ops : Array Oper} {l : List Oper} {o : Oper} {w0 : World} {gs : List Nat} {H : List Ent} {g : Nat} {f : Int → Option CV}
variable {t k el : TypeId} {pos : String} {ty : TypeId} {after : Array Edge} {guard : Option (Nat × Bool)}
theorem run_lookupC [hm : MapI P t k el] {z : Value} {sz b0 : Nat} [hi : TyI P el z sz b0] {w : World} (h : MapC g f w) {a : Int} {p : CV} (ha : Ki64 a) (hp : f a = some p) :
    ∃ v, (Instr.lookup t (.map (some g)) (ki a) false).run P w = .ok v w ∧ Ev (cA p) v := by
  obtain ⟨es, clock, hg, h1, h2, _⟩ := h.ex
  obtain ⟨lk, hk⟩ := hm.key ha
  have hz := run_zero hi w
  rcases hm.law.find w hk es.toList (fun x hx => by obtain ⟨a', p', ha', e', _⟩ := h1 x hx; rw [e']; exact hm.key ha') with ⟨hf, hn⟩ | ⟨j, e0, hf, hj, he⟩
  · obtain ⟨x, hx, hxe⟩ := h2 a p ha hp
    exact absurd hxe (hn x hx)
  · have hm0 : e0 ∈ es.toList := List.mem_of_getElem? hj
    obtain ⟨a', p', _, e', hv, hev⟩ := h1 e0 hm0
    rw [he] at e'
    obtain rfl := ki_inj e'
    rw [hp] at hv
    cases hv
    exact ⟨e0.val, by simp [Instr.lookup, run_underlying hm.hu, MapKept.run_getObj_map hg, hm.law.check w _ hk, hf, Result.andThen], hev⟩
theorem opj_lookupC [hm : MapI P t k el] {z : Value} {sz b0 : Nat} [hi : TyI P el z sz b0] {dst : Option Tmp} {X K : Operand} {a : Int} {p : CV} (hx : e.ev X = some (.raw (.map (some g)))) (hk : e.ev K = some (.raw (.int .i64 a))) (ha : Ki64 a) (hp : f a = some p) :
    OpJ P (StR (MapC g f) w0 gs H) e ⟨dst, .lookup t X K false, ty, pos, after, guard⟩ (cA p) :=
  opj_value fun ac w hS h => by
    have h1 := (h X (by simp [Op.operands]) _ hx).inv_raw
    have h2 := (h K (by simp [Op.operands]) _ hk).inv_raw
    obtain ⟨v, hr, hev⟩ := run_lookupC (P := P) (t := t) hS.r ha hp
    exact ⟨v, w, by simp only [execOp, h1, h2, Sem.run_bind, hr, Result.andThen_ok]; rfl, Ext.refl _, hev w⟩
theorem rs_makeMapC {R0 : World → Prop} {d : Tmp} (hd : Nat.blt d N = true) (hk : ∀ g, w0.heap.size ≤ g → RS P N ops l ((d, .raw (.map (some g))) :: e) (StR (MapC g fun _ => none) w0 gs H) Q) :
    RS P N ops (⟨some d, .makeMap t none, ty, pos, after, none⟩ :: l) e (StR R0 w0 gs H) Q := by
  intro a w hS hF
  refine wpList_plain rfl fun K hK => ?_
  unfold Oper.wp
  have hrun : (execOp a.eval ⟨some d, .makeMap t none, ty, pos, after, none⟩).run P w = .ok (.value (.map (some w.heap.size))) (w.alloc (.map #[] 0)) := by
    simp [execOp, Instr.makeMap]
  rw [hrun]
  have hw : Ext w (w.alloc (.map #[] 0)) := Ext.alloc _ _
  refine hK _ _ (hk w.heap.size hS.mod.size _ _ ⟨hS.mod.ext hw, fun x hx => ⟨(hS.own x hx).1, (hS.own x hx).2.ext hw⟩, hS.nodup, ?_⟩ (Fr.put (some d) (hF.ext hw) (fun _ h => by cases h; exact Nat.le_of_ble_eq_true hd) .raw))
  exact ⟨#[], 0, heap_alloc_new w _, (fun x hx => by cases hx), (fun a v _ h => by cases h), List.Pairwise.nil⟩
theorem rs_mapUpdateC [hm : MapI P t k el] (hg : w0.heap.size ≤ g) {X K V : Operand} {a : Int} {p : CV} (hx : e.ev X = some (.raw (.map (some g)))) (hk : e.ev K = some (.raw (.int .i64 a))) (hv : e.ev V = some (cA p)) (ha : Ki64 a)
    (h : RS P N ops l e.keep (StR (MapC g (updC f a p)) w0 gs H) Q) :
    RS P N ops (⟨none, .mapUpdate t X K V, ty, pos, after, none⟩ :: l) e (StR (MapC g f) w0 gs H) Q := by
  intro ac w hS hF
  refine wpList_plain rfl fun K' hK => ?_
  have e1 := (hF.eval hx).inv_raw
  have e2 := (hF.eval hk).inv_raw
  have e3 : Ev (cA p) (ac.eval V) := (hF.eval hv).ev rfl
  generalize hvv : ac.eval V = v at e3
  obtain ⟨es, clock, hgb, h1, h2, h3⟩ := hS.r.ex
  obtain ⟨lk, hkey⟩ := hm.key ha
  have hfind := hm.law.find w hkey es.toList (fun x hx => by obtain ⟨a', p', ha', e', _⟩ := h1 x hx; rw [e']; exact hm.key ha')
  have hkeys : ∃ es' clock', (Instr.mapUpdate t (.map (some g)) (ki a) v).run P w = .ok () (setBlock w g (.map es' clock')) ∧ (∀ x ∈ es'.toList, ∃ a' p', Ki64 a' ∧ x.key = ki a' ∧ updC f a p a' = some p' ∧ Ev (cA p') x.val) ∧
      (∀ a' p', Ki64 a' → updC f a p a' = some p' → ∃ x ∈ es'.toList, x.key = ki a') ∧ (es'.toList.map (·.key)).Nodup := by
    rcases hfind with ⟨hf, hn⟩ | ⟨j, e0, hf, hj, he⟩
    · refine ⟨es.push ⟨ki a, v, clock⟩, clock + 1, ?_, fun x hx' => ?_, fun a' p' ha' hv' => ?_, ?_⟩
      · simp [Instr.mapUpdate, run_underlying hm.hu, MapKept.run_getObj_map hgb, hm.law.check w false hkey, hf, MapKept.run_setObj_map _ hgb, Result.andThen, setBlock]
      · simp only [Array.toList_push, List.mem_append, List.mem_singleton] at hx'
        rcases hx' with hx' | rfl
        · obtain ⟨a', p', ha', e', hf', hev⟩ := h1 x hx'
          refine ⟨a', p', ha', e', ?_, hev⟩
          unfold updC
          rw [if_neg (fun hab => hn x hx' (by rw [e', hab])), hf']
        · exact ⟨a, p, ha, rfl, by unfold updC; rw [if_pos rfl], e3⟩
      · unfold updC at hv'
        split at hv'
        · rename_i hab
          exact ⟨⟨ki a, v, clock⟩, by simp, by rw [hab]⟩
        · obtain ⟨x, hx', e'⟩ := h2 a' p' ha' hv'
          exact ⟨x, by simp only [Array.toList_push, List.mem_append]; exact .inl hx', e'⟩
      · simp only [Array.toList_push, List.map_append, List.map_cons, List.map_nil]
        rw [List.nodup_append]
        refine ⟨h3, by simp, fun y hy z hz hyz => ?_⟩
        obtain ⟨x, hx', rfl⟩ := List.mem_map.1 hy
        simp only [List.mem_singleton] at hz
        exact hn x hx' (by rw [hyz, hz])
    · have hjlt : j < es.size := by have := (List.getElem?_eq_some_iff.1 hj).1; simpa using this
      have hj' : es[j]? = some e0 := by simpa using hj
      have hstay := hm.law.stays w hkey
      refine ⟨es.modify j fun x => { x with key := ki a, val := v }, clock, ?_, ?_⟩
      · have hst : (Instr.keyThatStays (((es[j]?).map (·.key)).getD (ki a)) (ki a)).run P w = .ok (ki a) w := by
          rw [hj']
          simp only [Option.map_some, Option.getD_some, he]
          exact hstay
        simp only [hj', Option.map_some, Option.getD_some] at hst
        simp [Instr.mapUpdate, run_underlying hm.hu, MapKept.run_getObj_map hgb, hm.law.check w false hkey, hf, MapKept.run_setObj_map _ hgb, Result.andThen, setBlock, hj', hst]
      · have hmod : ∀ i x, (es.modify j fun x => { x with key := ki a, val := v }).toList[i]? = some x → (i = j ∧ x.key = ki a ∧ x.val = v) ∨ (i ≠ j ∧ es.toList[i]? = some x) := fun i x hix => by
          simp only [Array.getElem?_toList, Array.getElem?_modify] at hix
          split at hix
          · rename_i hij
            subst hij
            rw [hj'] at hix
            simp only [Option.map_some, Option.some.injEq] at hix
            subst hix
            exact .inl ⟨rfl, rfl, rfl⟩
          · rename_i hij
            exact .inr ⟨fun h => hij h.symm, by simpa using hix⟩
        have hkeq : (es.modify j fun x => { x with key := ki a, val := v }).toList.map (·.key) = es.toList.map (·.key) := by
          apply List.ext_getElem?
          intro i
          simp only [List.getElem?_map, Array.getElem?_toList, Array.getElem?_modify]
          split
          · rename_i hij
            subst hij
            rw [hj']
            simp [he]
          · rfl
        refine ⟨fun x hx' => ?_, fun a' p' ha' hv' => ?_, by rw [hkeq]; exact h3⟩
        · obtain ⟨i, hi⟩ := List.mem_iff_getElem?.1 hx'
          rcases hmod i x hi with ⟨_, hk', hv'⟩ | ⟨hij, hi'⟩
          · exact ⟨a, p, ha, hk', by unfold updC; rw [if_pos rfl], by rw [hv']; exact e3⟩
          · obtain ⟨a', p', ha', e', hf', hev⟩ := h1 x (List.mem_of_getElem? hi')
            refine ⟨a', p', ha', e', ?_, hev⟩
            unfold updC
            rw [if_neg (fun hab => hij ?_), hf']
            have h4 : (es.toList.map (·.key))[i]? = some (ki a) := by rw [List.getElem?_map, hi']; simp [e', hab]
            have h5 : (es.toList.map (·.key))[j]? = some (ki a) := by rw [List.getElem?_map, hj]; simp [he]
            obtain ⟨hi4, hi5⟩ := List.getElem?_eq_some_iff.1 h4
            obtain ⟨hj4, hj5⟩ := List.getElem?_eq_some_iff.1 h5
            have hpw := List.pairwise_iff_getElem.1 h3
            rcases Nat.lt_trichotomy i j with h | h | h
            · exact absurd (hi5.trans hj5.symm) (hpw i j hi4 hj4 h)
            · exact h
            · exact absurd (hj5.trans hi5.symm) (hpw j i hj4 hi4 h)
        · have : ki a' ∈ es.toList.map (·.key) := by
            unfold updC at hv'
            split at hv'
            · rename_i hab
              rw [hab]
              exact List.mem_map.2 ⟨e0, List.mem_of_getElem? hj, he⟩
            · obtain ⟨x, hx', e'⟩ := h2 a' p' ha' hv'
              exact List.mem_map.2 ⟨x, hx', e'⟩
          rw [← hkeq] at this
          obtain ⟨x, hx', e'⟩ := List.mem_map.1 this
          exact ⟨x, hx', e'⟩
  obtain ⟨es', clock', hrun, r1, r2, r3⟩ := hkeys
  unfold Oper.wp
  have hrun' : (execOp ac.eval ⟨none, .mapUpdate t X K V, ty, pos, after, none⟩).run P w = .ok .skip (setBlock w g (.map es' clock')) := by
    simp only [execOp, e1, e2, hvv, Sem.run_bind, hrun, Result.andThen_ok]; rfl
  rw [hrun']
  have hlt := (Array.getElem?_eq_some_iff.1 hgb).1
  have hmod : Mod w (setBlock w g (.map es' clock')) [g] := ⟨rfl, rfl, rfl, by simp [setBlock], fun i _ hi => heap_setBlock_other hgb _ (fun h => hi (by simp [h]))⟩
  refine hK _ _ (h _ _ ⟨hS.mod.trans hmod (fun i hi => .inr ?_), fun x hx => ⟨(hS.own x hx).1, (hS.own x hx).2.of_heap (heap_setBlock_other hgb _ fun hxg => ?_)⟩, hS.nodup, ⟨es', clock', heap_setBlock_same hgb _, r1, r2, r3⟩⟩ hF.keep)
  · simp at hi; subst hi; exact hg
  · obtain ⟨cur, hc, _⟩ := (hS.own x hx).2
    rw [hxg, hgb] at hc
    cases hc
end
theorem k_intKey {a : Int} (ha : Ki64 a) : ∃ l, keyOf Try.prog 3 (ki a) = some l := by
  have hu : Try.prog.underlying 3 = some (.int .i64) := by kernel_rfl
  refine ⟨.int .i64 a, ?_⟩
  rw [keyOf_int hu]
  have hw : (Lit.int .i64 a).wf = true := by
    simp only [Lit.wf, Bool.and_eq_true, decide_eq_true_eq]
    exact ha
  simp [mapKey, hu, hw]
instance mapI_c : MapI Try.prog 57 3 31 := ⟨by kernel_rfl, Go.Maps.int_keyed (q := .i64) (by kernel_rfl), k_intKey⟩
end Go.Ab
namespace Go.Ab
open Go.Proofs
variable {R : World → Prop} [RStab R]
def FnW (P : Program) (f : FuncId) (A : List AV) (S T : World → Prop) (r : AV) : Prop :=
  ∀ w vs, RelL w A vs → S w → Calls P f vs.toArray w fun x w' => ∃ v, x = .returned v ∧ Rel w' r v ∧ T w'
def RetW (P : Program) (fn : Func) (N : Nat) (T : World → Prop) (r : AV) (x : Exit) (e : Env) (w : World) : Prop :=
  (x = .ret ∨ x = .normal) ∧ T w ∧ ∀ a, Fr N e a w → ∃ v, (results fn a.tmps).run P w = .ok v w ∧ Rel w r v
section
variable {P : Program} {N : Nat} {S T : World → Prop} {e : Env} {Q : Exit → Env → World → Prop} {ops : Array Oper} {l : List Oper} {o : Oper} {f : FuncId} {fn : Func} {r : AV}
theorem fnw_intro {A : List AV} {c : Code} (hf : P.funcs[f]? = some fn) (hb : fn.body = some c) (hN : fn.ntmps = N) (hA : A.length ≤ N) (h : WS P N c (envOf 0 A) S (RetW P fn N T r)) : FnW P f A S T r := by
  intro w vs hr hS
  refine calls_of_wp hf hb (Code.wp_mono ?_ (h _ w hS ?_))
  · intro x a' w' ⟨e', hF, hx, hT, hres⟩
    obtain ⟨v, hv, hrv⟩ := hres a' hF
    have : a'.defers = [] ∧ ∃ v, (results fn a'.tmps).run P w' = .ok v w' ∧ (∃ v', Ending.returned v = .returned v' ∧ Rel w' r v' ∧ T w') := ⟨hF.defers, v, hv, v, rfl, hrv, hT⟩
    rcases hx with rfl | rfl <;> exact this
  · have hlen := hr.length
    refine ⟨rfl, ?_, fun t v ht => ?_⟩
    · simp [hN]; omega
    · obtain ⟨_, hv⟩ := envOf_look 0 A t v ht
      obtain ⟨u, hu, hru⟩ := hr.get hv
      refine ⟨u, ?_, hru⟩
      have hlt : t < vs.length := (List.getElem?_eq_some_iff.1 hu).1
      simp only [Nat.sub_zero] at hu
      simp [Array.getElem?_append, hlt]
      exact (List.getElem?_eq_some_iff.1 hu).2
theorem done_w1 {t : Tmp} {r : AV} (hr : fn.results = #[.tmp t]) (ht : e.look t = some r) (h : ∀ w, S w → T w) : Done .ret e S (RetW P fn N T r) := fun w hw =>
  ⟨.inl rfl, h w hw, fun a hF => by
    obtain ⟨u, hu, hru⟩ := hF.rel t _ ht
    exact ⟨u, by rw [results_tmp hr]; simp [hu], hru⟩⟩
/-- A call of a function by name. -/
theorem rs_callW {c : FuncId} {A args : List AV} {xs : List Operand} {F : Operand} {dst : Tmp} {ts : Array TypeId} {ty : TypeId} {pos : String} {after : Array Edge} [hb : HasBody P c]
    (hc : FnW P c A S T r) (hF' : e.ev F = some (.raw (.func (.func c) #[] #[]))) (hx : evL e xs = some args) (ht : Takes S args (fun _ => A)) (hd : Nat.blt dst N = true)
    (h : RS P N ops l ((dst, r) :: e.keep) T Q) :
    RS P N ops (⟨some dst, .call { callee := .value F, args := xs.toArray, argTypes := ts }, ty, pos, after, none⟩ :: l) e S Q := by
  intro a w hS hF
  refine wpList_plain rfl fun K hK => ?_
  obtain ⟨fnc, hf, hbd, hn⟩ := hb.h
  have h1 := (hF.eval hF').inv_raw
  have hrl : RelL w A (xs.map a.eval) := ht w _ hS (evL_rel hx fun x _ y hy => hF.eval hy)
  have hcall := hc w _ hrl hS
  unfold Oper.wp
  have hrun : (execOp a.eval ⟨some dst, .call { callee := .value F, args := xs.toArray, argTypes := ts }, ty, pos, after, none⟩).run P w = .ok (.enter c (xs.map a.eval).toArray) w := by
    simp [execOp, resolve, h1, Deferred.ofValue, invoke, run_callFn hf hbd hn]
  rw [hrun]
  refine Calls.mono hcall fun x w' ⟨v, hx', hrv, hT⟩ => ?_
  subst hx'
  exact hK _ _ (h _ w' hT (Fr.put (some dst) hF.keep (fun _ h => by cases h; exact Nat.le_of_ble_eq_true hd) hrv))
end
attribute [local irreducible] WS RS Done OpJ Then InBlock Round Ret Env.sub FnH
attribute [local irreducible] tab tabC
section
variable {d n : Nat} {f : Int → FV} {P : Nat → CV}
theorem updC_at {F : Int → Option CV} {a : Int} {p : CV} : updC F a p a = some p := if_pos rfl
theorem updC_ne {F : Int → Option CV} {a : Int} {p : CV} {x : Int} (h : x ≠ a) : updC F a p x = F x := if_neg h
theorem corners_fn (w0 : World) (H : List Ent) (gm : Nat) (hg : w0.heap.size ≤ gm) (F : Int → Option CV) (P0 : Int → CV) (k m : Nat) (t : FV) (hn : n + d < 2 ^ 30) (hk : k + 1 ≤ n) (hm : m ≤ k) (hm2 : k + m ≤ n + d) (hF : ∀ i : Int, (k : Int) - m ≤ i → i ≤ k → F i = some (P0 i)) :
    FnW Try.prog 24 [splA w0 d n f P, .raw (.map (some gm)), .raw (.int .i64 (k : Int)), .raw (.int .i64 (m : Int)), .f .f32 t] (StR (MapC gm F) w0 [] H) (StR (fun _ => True) w0 [] H) (cA (deBF f t m P0 k)) := by
  refine fnw_intro Try.func24 rfl Try.ntmps24 (Nat.le_of_ble_eq_true rfl) ?_
  repeat first | refine zaa rfl (zaz rfl) ?_ | refine zah ?_ | (refine zcr ?_; refine zcs ?_) | (refine zdb ?_; first | refine zdc ?_ | refine zdd ?_ | refine zde ?_) | (refine zak rfl rfl rfl ?_; intro g)
  refine ws_loop (ι := Nat × (Int → CV) × (Int → Option CV)) (fun y => [(1, .raw (.map (some gm))), (2, .raw (.int .i64 (k : Int))), (3, .raw (.int .i64 (m : Int))), (4, .f .f32 t), (5, .raw (.pointer (some ⟨g, 0, none⟩))), (11, .raw (.int .i64 ((y.1 : Int) + 1)))])
    (fun y => StR (MapC gm y.2.2) w0 [] (⟨g, 27, [.raw (.int .i64 (d : Int)), AV.sl w0 1 ((tab (n + d + 1) f).map (AV.f .f32)), slC w0 (tabC n P)], 3⟩ :: H))
    (fun y => y.1 ≤ m ∧ (∀ i : Int, (k : Int) - (m - y.1 : Nat) ≤ i → i ≤ k → y.2.2 i = some (y.2.1 i)) ∧ deBF f t (m - y.1) y.2.1 k = deBF f t m P0 k) (fun y => m - y.1) (0, P0, F) ⟨Nat.zero_le _, hF, rfl⟩ ?_ (fun w h => h) (fun y hy => ?_)
  · (repeat (first | exact Env.sub_nil _ | refine Env.sub_cons rfl ?_))
  obtain ⟨r, Q, G⟩ := y
  obtain ⟨hr, hG, hD⟩ := hy
  dsimp only at hr hG hD ⊢
  repeat first | refine zaa rfl (zay rfl) ?_ | (refine zac ?_; refine zaa rfl (zbf rfl rfl) ?_) | refine zah ?_ | (refine zcr ?_; refine zcs ?_) | (refine zdb ?_; first | refine zdc ?_ | refine zdd ?_)
  refine ws_cond rfl (fun hd => ?_) (fun hd => ?_)
  case' refine_2 =>
    have hge : ¬ (r : Int) + 1 ≤ (m : Int) := of_decide_eq_false hd
    clear hd
    obtain rfl : r = m := by omega
    have h1 := hG k (by omega) (by omega)
    rw [Nat.sub_self] at hD
    rw [show Q k = deBF f t r P0 k from hD] at h1
    repeat first | refine zaa rfl (zay rfl) ?_ | refine zaa rfl (zaz rfl) ?_ | refine zah ?_ | (refine zcr ?_; first | refine zcs ?_ | refine zcu ?_ | refine zcx ?_ | refine zda ?_) | (refine zdb ?_; first | refine zdc ?_ | refine zdd ?_ | refine zdg ?_ | refine zdh ?_) | refine zaa rfl (opj_lookupC rfl rfl ⟨by omega, by omega⟩ h1) ?_
    exact done_w1 rfl rfl fun w hw => (fun h2 => ⟨h2.mod, h2.own, h2.nodup, trivial⟩) (StR.weak hw (List.sublist_cons_self _ _))
  have hlt : (r : Int) + 1 ≤ (m : Int) := of_decide_eq_true hd
  clear hd
  obtain ⟨q, hq⟩ : ∃ q, m - r = q + 1 := ⟨m - r - 1, by omega⟩
  rw [hq] at hG hD
  repeat first | refine zaa rfl (zay rfl) ?_ | refine zaa rfl (zaz rfl) ?_ | refine zah ?_ | (refine zcr ?_; refine zcs ?_) | (refine zdb ?_; first | refine zdc ?_ | refine zdd ?_ | refine zde ?_ | refine zdf ?_)
  refine ws_loop (ι := Nat × (Int → Option CV)) (fun y => [(1, .raw (.map (some gm))), (2, .raw (.int .i64 (k : Int))), (3, .raw (.int .i64 (m : Int))), (4, .f .f32 t), (5, .raw (.pointer (some ⟨g, 0, none⟩))), (11, .raw (.int .i64 ((r : Int) + 1))), (12, .raw (.int .i64 ((k : Int) - (y.1 : Nat))))])
    (fun y => StR (MapC gm y.2) w0 [] (⟨g, 27, [.raw (.int .i64 (d : Int)), AV.sl w0 1 ((tab (n + d + 1) f).map (AV.f .f32)), slC w0 (tabC n P)], 3⟩ :: H))
    (fun y => y.1 ≤ q + 1 ∧ (∀ i : Int, (k : Int) - (q + 1) ≤ i → i ≤ (k : Int) - y.1 → y.2 i = some (Q i)) ∧ ∀ i : Int, (k : Int) - y.1 < i → i ≤ k → y.2 i = some (dBF f ((q : Int) + 1) t Q i)) (fun y => q + 1 - y.1) (0, G) ⟨Nat.zero_le _, fun i h1 h2 => hG i (by omega) (by omega), fun i h1 h2 => by omega⟩ ?_ (fun w h => h) (fun y hy => ?_)
  · rw [show (k : Int) - (((0, G) : Nat × (Int → Option CV)).1 : Nat) = k by simp]
    (repeat (first | exact Env.sub_nil _ | refine Env.sub_cons rfl ?_))
  obtain ⟨c, G1⟩ := y
  obtain ⟨hc, hL, hU⟩ := hy
  dsimp only at hc hL hU ⊢
  repeat first | refine zaa rfl (zay rfl) ?_ | (refine zac ?_; first | refine zaa rfl (zbb rfl rfl (by omega)) ?_ | refine zaa rfl (zbc rfl rfl (by omega)) ?_ | refine zaa rfl (zbh rfl rfl) ?_) | refine zah ?_ | (refine zcr ?_; refine zcs ?_) | (refine zdb ?_; first | refine zdc ?_ | refine zdd ?_)
  refine ws_cond rfl (fun hd => ?_) (fun hd => ?_)
  · have hle : (k : Int) - m + ((r : Int) + 1) ≤ (k : Int) - c := of_decide_eq_true hd
    clear hd
    have l0 := hL ((k : Int) - c - 1) (by omega) (by omega)
    have l1 := hL ((k : Int) - c) (by omega) (by omega)
    have hB := between_fn (Q ((k : Int) - c - 1)) (Q ((k : Int) - c)) (uF t (f ((k : Int) - c)) (f ((k : Int) - c + ((q : Int) + 1))))
    repeat first | (refine zcr ?_; refine zcs ?_) | (refine zdb ?_; first | refine zdc ?_ | refine zde ?_ | refine zdf ?_)
    refine ws_draw (n := 24) mixed (by decide +kernel) ?_
    repeat first | refine zap rfl (zay rfl) ?_ | (refine zar ?_; first | refine zap rfl (zba rfl rfl rfl) ?_ | refine zap rfl (zbb rfl rfl (by omega)) ?_ | refine zap rfl (zbc rfl rfl (by omega)) ?_) | (refine zat ?_; first | refine zap rfl (zcf rfl rfl (by (repeat (first | exact mh | refine mt ?_)); done) rfl) ?_ | refine zap rfl (zbu rfl rfl) ?_) | (refine zau ?_; refine zap rfl (zbs rfl rfl (by omega) (by omega)) ?_) | refine zap rfl (zcd rfl) ?_ | refine zav ?_
    rw [show (k : Int) - c + m + 1 - ((r : Int) + 1) = (k : Int) - c + ((q : Int) + 1) by omega]
    skip
    repeat first | refine zaa rfl (zay rfl) ?_ | refine zaa rfl (zaz rfl) ?_ | (refine zac ?_; refine zaa rfl (zbc rfl rfl (by omega)) ?_) | (refine zad ?_; (refine zaa rfl (zci rfl rfl (hB) ?_) ?_; (focus ((repeat (first | exact Takes.nil | refine Takes.sl ?_ | refine Takes.lit ?_ | refine Takes.fa ?_ | refine Takes.fc ?_ | refine Takes.net ?_ | (refine Takes.ownE ?_ ?_ ?_ ?_ ?_; (focus (exact ⟨_, _, (by (repeat (first | exact mh | refine mt ?_)); done)⟩)); (focus (simp; done)); (focus omega); (focus (simp only [maxLen]; omega))) | refine Takes.same ?_)); done)))) | refine zah ?_ | (refine zcr ?_; refine zcs ?_) | (refine zdb ?_; refine zdd ?_) | refine zaa rfl (opj_lookupC rfl rfl ⟨by omega, by omega⟩ l0) ?_ | refine zaa rfl (opj_lookupC rfl rfl ⟨by omega, by omega⟩ l1) ?_
    refine rs_mapUpdateC hg rfl rfl rfl ⟨by omega, by omega⟩ ?_
    repeat first | refine zaa rfl (zay rfl) ?_ | refine zaa rfl (zaz rfl) ?_ | (refine zac ?_; refine zaa rfl (zbc rfl rfl (by omega)) ?_) | refine zah ?_ | (refine zcr ?_; first | refine zcs ?_ | refine zcv ?_) | (refine zdb ?_; refine zdd ?_)
    refine done_round (c + 1, updC G1 ((k : Int) - c) (btC (Q ((k : Int) - c - 1)) (Q ((k : Int) - c)) (uF t (f ((k : Int) - c)) (f ((k : Int) - c + ((q : Int) + 1)))))) ⟨by simp only; omega, fun i h1 h2 => ?_, fun i h1 h2 => ?_⟩ (by simp only; omega) ?_ (fun _ h => h)
    · simp only at h2 ⊢
      rw [updC_ne (by omega)]
      exact hL i h1 (by omega)
    · simp only at h1 ⊢
      by_cases hi : i = (k : Int) - c
      · rw [hi, updC_at]
        rfl
      · rw [updC_ne hi]
        exact hU i (by omega) h2
    · simp only
      rw [show (k : Int) - ((c + 1 : Nat) : Int) = (k : Int) - c - 1 by omega]
      (repeat (first | exact Env.sub_nil _ | refine Env.sub_cons rfl ?_))
  · have hgt : ¬ (k : Int) - m + ((r : Int) + 1) ≤ (k : Int) - c := of_decide_eq_false hd
    clear hd
    obtain rfl : c = q + 1 := by omega
    repeat first | refine zaa rfl (zay rfl) ?_ | refine zaa rfl (zaz rfl) ?_ | (refine zac ?_; refine zaa rfl (zbb rfl rfl (by omega)) ?_) | refine zah ?_ | (refine zcr ?_; first | refine zcs ?_ | refine zcu ?_ | refine zcv ?_ | refine zcx ?_ | refine zda ?_) | (refine zdb ?_; first | refine zdd ?_ | refine zdh ?_)
    refine done_round (r + 1, dBF f ((q : Int) + 1) t Q, G1) ⟨by simp only; omega, fun i h1 h2 => ?_, ?_⟩ (by simp only; omega) ?_ (fun _ h => h)
    · simp only at h1 ⊢
      exact hU i (by omega) h2
    · simp only
      rw [← hD, show m - (r + 1) = q by omega]
      rfl
    · simp only
      rw [show ((r + 1 : Nat) : Int) + 1 = (r : Int) + 1 + 1 by omega]
      (repeat (first | exact Env.sub_nil _ | refine Env.sub_cons rfl ?_))
end
end Go.Ab
