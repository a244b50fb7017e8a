/- Part 10 of the texts on which the law leans, joined: Small functions of the laws of curves, walked. No conditions. -/
import Derived.Test.YtapclajklcflbaaZai
namespace Go.Ab
open Go.Proofs
variable {R : World → Prop} [RStab R]
section
variable {P : Program} {e : Env} {w0 : World} {gs : List Nat} {H : List Ent} {ty : TypeId} {pos : String} {after : Array Edge}
theorem effj_storeTU (k : Nat) (f' : Int → FV) {g n c : Nat} {i : Int} {f : Int → FV} {x : FV} {T t : TypeId} {z : Value} {b : Nat} [hi : TyI P t z 1 b] {A X : Operand}
    (hA : e.ev A = some (.raw (.pointer (some ⟨g, i.toNat * 1, none⟩)))) (hx : e.ev X = some (.f .f32 x)) (hH : H[k]? = some (entF g T n f c)) (h0 : 0 ≤ i ∧ i < n ∧ n ≤ c)
    (hf : f' i = x) (hf' : ∀ s : Int, 0 ≤ s → s < n → s ≠ i → f' s = f s) :
    EffJ P (StR R w0 gs H) (StR R w0 gs (H.set k (entF g T n f' c))) e ⟨none, .store t A X, ty, pos, after, none⟩ := by
  have hn : i.toNat < n := by omega
  have he : ((i.toNat : Nat) : Int) = i := by omega
  have hb : Nat.blt (i.toNat * 1) c = true := Nat.ble_eq_true_of_le (by omega)
  refine effj_storeX k (xs := (entF g T n f c).xs) hA hx rfl hH hb ?_
  simp only [entF, Nat.mul_one]
  rw [← List.map_set, tab_set hn (by rw [he]; exact hf) (fun s h1 h2 h3 => hf' s h1 h2 (by rw [he] at h3; exact h3))]
end
/-- A number of quarters. -/
def qtF (a : Int) : FV := fbin .quo .f32 (some (FloatKind.f32.nearest a)) (fv .f32 1082130432)
theorem qtF_4 : qtF 4 = one1 := by decide +kernel
/-- Points that are drawn. -/
structure Dp where
  g : Nat
  c : Nat
  P : Nat → CV
  a : Nat → Int
  b : Nat → Int
  r : Dr
structure DpOk (n : Nat) (P : Nat → CV) (a b : Nat → Int) : Prop where
  q : ∀ i, i < n → P i = (qtF (a i), qtF (b i))
  a : ∀ i, i < n → -16 ≤ a i ∧ a i ≤ 16
  b : ∀ i, i < n → -16 ≤ b i ∧ b i ≤ 16
def putU {α : Type} (i : Nat) (x : α) (f : Nat → α) (t : Nat) : α := if t = i then x else f t
theorem putU_at {α : Type} (i : Nat) (x : α) (f : Nat → α) : putU i x f i = x := if_pos rfl
theorem putU_ne {α : Type} {i t : Nat} (x : α) (f : Nat → α) (h : t ≠ i) : putU i x f t = f t := if_neg h
theorem DpOk.put {n : Nat} {P : Nat → CV} {a b : Nat → Int} (h : DpOk n P a b) {u v : Int} (hu : -16 ≤ u ∧ u ≤ 16) (hv : -16 ≤ v ∧ v ≤ 16) : DpOk (n + 1) (putU n (qtF u, qtF v) P) (putU n u a) (putU n v b) := by
  refine ⟨fun i hi => ?_, fun i hi => ?_, fun i hi => ?_⟩
  all_goals
    rcases Nat.lt_or_ge i n with h1 | h1
    · simp only [putU_ne _ _ (show i ≠ n by omega)]
      first | exact h.q i h1 | exact h.a i h1 | exact h.b i h1
    · obtain rfl : i = n := by omega
      simp only [putU_at]
      try assumption
attribute [local irreducible] WS RS Done OpJ Then InBlock Round Ret Env.sub FnH
attribute [local irreducible] tab tabC
theorem drawPoints_fn (w1 : World) (gs : Nat) (L : List By) (at_ seed : Int) (n : Nat) (hn : n ≤ 8) (hat : 0 ≤ at_ ∧ at_ < 2 ^ 30) (hL : L.length < 2 ^ 40) :
    FnH (X := Dp) Try.prog 33 (fun w => [srcP w1 gs w, .raw (.int .i64 n)]) [srcE w1 gs L at_ seed] (fun y => .raw (.slice (some ⟨y.g, 0, none⟩) n y.c)) (fun y => [entC y.g n y.P y.c, srcE w1 gs L y.r.at_ y.r.seed])
      (fun y => (n ≤ y.c ∧ y.c ≤ maxLen) ∧ DpOk n y.P y.a y.b ∧ y.r.at_ = at_ + 2 * n) := by
  refine fn_intro Try.func33 rfl Try.ntmps33 (fun _ => Nat.le_of_ble_eq_true rfl) fun w0 => ?_
  refine ws_q (t := 0) rfl fun v hv => ?_
  obtain ⟨rfl, hx, hg⟩ := hv
  have hk : KeepW w1 w0 [gs] := ⟨hx, fun x hx => by simp at hx; omega⟩
  repeat first | refine zaa rfl (zaz rfl) ?_ | refine zah ?_ | (refine zcr ?_; refine zcs ?_) | (refine zdb ?_; first | refine zdc ?_ | refine zdd ?_ | refine zde ?_) | (refine rs_lit0 rfl ?_; intro g0)
  rw [entC_nilU (F := fun _ => (none, none))]
  refine ws_loop (ι := Nat × Dp) (fun y => [(0, .raw (.pointer (some ⟨gs, 0, none⟩))), (1, .raw (.int .i64 ((n : Int) - y.1))), (5, .raw (.slice (some ⟨y.2.g, 0, none⟩) y.1 y.2.c))])
    (fun y => St w0 [gs] [entC y.2.g y.1 y.2.P y.2.c, srcE w1 gs L y.2.r.at_ y.2.r.seed]) (fun y => y.1 ≤ n ∧ (y.1 ≤ y.2.c ∧ y.2.c ≤ maxLen) ∧ DpOk y.1 y.2.P y.2.a y.2.b ∧ y.2.r.at_ = at_ + 2 * y.1) (fun y => n - y.1)
    (0, ⟨g0, 0, fun _ => (none, none), fun _ => 0, fun _ => 0, ⟨0, at_, seed⟩⟩) ⟨Nat.zero_le _, ⟨Nat.le_refl _, Nat.zero_le _⟩, ⟨fun i hi => by simp only at hi; omega, fun i hi => by simp only at hi; omega, fun i hi => by simp only at hi; omega⟩, by simp⟩ ?_ (fun _ h => h) (fun y hy => ?_)
  · rw [show (n : Int) - (((0, ⟨g0, 0, fun _ => (none, none), fun _ => 0, fun _ => 0, ⟨0, at_, seed⟩⟩) : Nat × Dp).1 : Int) = n from by simp]
    (repeat (first | exact Env.sub_nil _ | refine Env.sub_cons rfl ?_))
  obtain ⟨k, ⟨g, c, P, a, b, ⟨r, at1, seed1⟩⟩⟩ := y
  simp only at hy ⊢
  obtain ⟨hkn, ⟨hc1, hc2⟩, hd, rfl⟩ := hy
  simp only [maxLen] at hc1 hc2
  repeat first | refine zaa rfl (zay rfl) ?_ | (refine zac ?_; refine zaa rfl (zbg rfl rfl) ?_) | refine zah ?_ | (refine zcr ?_; refine zcs ?_) | (refine zdb ?_; first | refine zdc ?_ | refine zdd ?_)
  refine ws_cond rfl (fun hd1 => ?_) (fun hd1 => ?_)
  case' refine_2 =>
    have hge : ¬ (0 : Int) < (n : Int) - k := of_decide_eq_false hd1
    obtain rfl : k = n := by omega
    repeat first | refine zaa rfl (zay rfl) ?_ | refine zaa rfl (zaz rfl) ?_ | refine zah ?_ | (refine zcr ?_; first | refine zcs ?_ | refine zcu ?_ | refine zcx ?_ | refine zda ?_) | (refine zdb ?_; first | refine zdc ?_ | refine zdd ?_ | refine zdg ?_ | refine zdh ?_)
    exact done_ret1 rfl (⟨g, c, P, a, b, ⟨r, at_ + 2 * (k : Int), seed1⟩⟩ : Dp) rfl ⟨⟨hc1, by simp only [maxLen]; omega⟩, hd, rfl⟩ (List.Sublist.refl _)
  have hlt : (0 : Int) < (n : Int) - k := of_decide_eq_true hd1
  clear hd1
  have hp1 := pick_fn w1 gs L (at_ + 2 * (k : Int)) seed1 33 (by omega) (by omega) hL
  repeat first | refine zaa rfl (zay rfl) ?_ | refine zaa rfl (zaz rfl) ?_ | (refine zac ?_; first | refine zaa rfl (zba rfl rfl rfl) ?_ | refine zaa rfl (zbc (x := r2) (y := 16) rfl rfl (by omega)) ?_) | refine zaa rfl (zby rfl) ?_ | refine zah ?_ | (refine zcr ?_; refine zcs ?_) | (refine zdb ?_; first | refine zdc ?_ | refine zdd ?_ | refine zde ?_ | refine zdf ?_) | (refine rs_callAt 1 hp1 rfl rfl rfl (Takes.srcP hk hg (Takes.same Takes.nil)) rfl ?_; rintro ⟨r2, a2, s2⟩ ⟨hr1, hr2, hr3⟩; simp only at hr1 hr2 hr3)
  have hp2 := pick_fn w1 gs L a2 s2 33 (by omega) (by omega) hL
  repeat first | (refine zac ?_; first | refine zaa rfl (zba rfl rfl rfl) ?_ | refine zaa rfl (zbc (x := r4) (y := 16) rfl rfl (by omega)) ?_) | (refine zad ?_; refine zaa rfl (zbr rfl rfl) ?_) | refine zaa rfl (zby rfl) ?_ | (refine rs_callAt 1 hp2 rfl rfl rfl (Takes.srcP hk hg (Takes.same Takes.nil)) rfl ?_; rintro ⟨r4, a4, s4⟩ ⟨hr5, hr6, hr7⟩; simp only at hr5 hr6 hr7) | refine zaa rfl (zco rfl rfl rfl rfl rfl rfl) ?_
  refine rs_appendC 0 (putU k (qtF (r2 - 16), qtF (r4 - 16)) P) rfl rfl rfl rfl ⟨hc1, by simp only [maxLen]; omega⟩ (by omega) rfl rfl (putU_at _ _ _) (fun s h => putU_ne _ _ (by omega)) fun g3 c3 h3 h3' => ?_
  repeat first | refine zaa rfl (zay rfl) ?_ | refine zaa rfl (zaz rfl) ?_ | (refine zac ?_; refine zaa rfl (zbc rfl rfl (by omega)) ?_) | refine zah ?_ | (refine zcr ?_; first | refine zcs ?_ | refine zcv ?_) | (refine zdb ?_; refine zdd ?_)
  refine done_round (k + 1, ⟨g3, c3, putU k (qtF (r2 - 16), qtF (r4 - 16)) P, putU k (r2 - 16) a, putU k (r4 - 16) b, ⟨r4, a4, s4⟩⟩) ⟨by simp only; omega, ⟨h3, h3'⟩, hd.put (by omega) (by omega), by simp only; omega⟩ (by simp only; omega) ?_ (fun _ h => h)
  simp only
  rw [show (n : Int) - ((k + 1 : Nat) : Int) = (n : Int) - k - 1 from by omega]
  (repeat (first | exact Env.sub_nil _ | refine Env.sub_cons rfl ?_))
theorem one_fn (w1 : World) (g : Nat) (L : List By) (at_ seed : Int) (n : Int) (hn : 2 ≤ n ∧ n ≤ 200) (hat : 0 ≤ at_ ∧ at_ < 2 ^ 40) (hL : L.length < 2 ^ 40) :
    FnH (X := Bool × Dr) Try.prog 51 (fun w => [srcP w1 g w, .raw (.int .i64 n)]) [srcE w1 g L at_ seed] (fun y => .raw (.bool y.1)) (fun y => [srcE w1 g L y.2.at_ y.2.seed]) (fun y => y.2.at_ = at_ + 1) := by
  have hp := pick_fn w1 g L at_ seed n hn hat hL
  refine fn_intro Try.func51 rfl Try.ntmps51 (fun _ => Nat.le_of_ble_eq_true rfl) fun w0 => ?_
  refine ws_q (t := 0) rfl fun v hv => ?_
  obtain ⟨rfl, hx, hg⟩ := hv
  have hk : KeepW w1 w0 [g] := ⟨hx, fun x hx => by simp at hx; omega⟩
  repeat first | refine zaa rfl (zay rfl) ?_ | refine zaa rfl (zaz rfl) ?_ | (refine zac ?_; refine zaa rfl (zbi rfl rfl) ?_) | refine zah ?_ | (refine zcr ?_; refine zcs ?_) | (refine zdb ?_; first | refine zdc ?_ | refine zdd ?_ | refine zdg ?_) | (refine rs_callAt 0 hp rfl rfl rfl (Takes.srcP hk hg (Takes.same Takes.nil)) rfl ?_; rintro ⟨r, a2, s2⟩ ⟨hr1, hr2, hr3⟩; simp only at hr1 hr2 hr3)
  exact done_ret1 rfl ((decide (r = 0), (⟨r, a2, s2⟩ : Dr)) : Bool × Dr) rfl hr3 (List.Sublist.refl _)
theorem specPlain_fn {n : Nat} {P : Nat → CV} (hn : 1 ≤ n ∧ n ≤ 1000) : FnH (X := (Nat × Nat) × Nat × Nat) Try.prog 50 (fun w => [slC w (tabC n P)]) [] (fun y => crvOc y.1.1 y.1.2 n y.2.1 y.2.2) (fun y => [entF y.1.2 29 n (fun _ => one1) y.2.2, entC y.1.1 n P y.2.1]) (fun y => (n ≤ y.2.1 ∧ y.2.1 ≤ maxLen) ∧ n ≤ y.2.2 ∧ y.2.2 ≤ maxLen) := by
  have hlen : ((tabC n P).map cA).length = n := by simp
  have hone := one_cA n P
  refine fn_intro Try.func50 rfl Try.ntmps50 (fun _ => Nat.le_of_ble_eq_true rfl) fun w0 => ?_
  repeat first | refine zaa rfl (zay rfl) ?_ | refine zah ?_ | (refine zcr ?_; refine zcs ?_) | (refine zdb ?_; first | refine zdc ?_ | refine zdd ?_) | (refine zal rfl rfl ?_; intro g) | (refine rs_lit0 (t := 24) rfl ?_; intro g0)
  refine rs_append 0 (xs := []) (ys := (tabC n P).map cA) (n := 0) (cap := 0) rfl rfl ⟨_, rfl, fun w v hS h => hS.rd h.inv_q⟩ rfl ⟨rfl, Nat.le_refl _, Nat.zero_le _⟩ (by rw [hlen]; omega) hone (by rw [hlen]; simp only [maxLen]; omega) (by rw [hlen]; omega) rfl fun a ca h1 h2 => ?_
  rw [hlen, Nat.zero_add] at h1 ⊢
  repeat first | refine zaa rfl (zaz rfl) ?_ | refine zah ?_ | (refine zcr ?_; refine zcs ?_) | (refine zdb ?_; first | refine zdc ?_ | refine zdd ?_ | refine zde ?_) | (refine zal rfl rfl ?_; intro g) | (refine zag ?_; refine zan 0 rfl rfl rfl rfl rfl rfl rfl rfl rfl ?_) | (refine rs_lit0 (t := 25) rfl ?_; intro b) | refine zaa rfl (opj_buildV rfl rfl) ?_
  rename_i g2
  obtain ⟨g3, hg3⟩ : ∃ x, x = g := ⟨g, rfl⟩
  subst hg3
  rw [entF_nilU (f := fun _ => one1)]
  refine ws_loop (ι := Nat × Nat × Nat) (fun y => [(0, slC w0 (tabC n P)), (2, .raw (.pointer (some ⟨g2, 0, none⟩))), (3, .raw (.pointer (some ⟨g3, 0, none⟩))), (4, .raw (.int .i64 (y.1 : Nat)))])
    (fun y => St w0 [] [⟨g3, 27, [.raw (.slice (some ⟨a, 0, none⟩) n ca), .raw (.slice (some ⟨y.2.1, 0, none⟩) y.1 y.2.2)], 2⟩, entF y.2.1 29 y.1 (fun _ => one1) y.2.2, entC a n P ca, ⟨g2, 27, [.raw (.slice none 0 0), .raw (.slice none 0 0)], 2⟩]) (fun y => y.1 ≤ n ∧ y.1 ≤ y.2.2 ∧ y.2.2 ≤ maxLen) (fun y => n - y.1) (0, b, 0) ⟨by simp only; omega, by simp only; omega, by simp only; omega⟩ ?_ (fun _ h => h) (fun y hy => ?_)
  · (repeat (first | exact Env.sub_nil _ | refine Env.sub_cons rfl ?_))
  obtain ⟨k, b, cb⟩ := y
  simp only at hy ⊢
  obtain ⟨hk, hc1, hc2⟩ := hy
  simp only [maxLen] at hc1 hc2
  repeat first | refine zaa rfl (zay rfl) ?_ | (refine zac ?_; refine zaa rfl (zbe rfl rfl) ?_) | (refine zad ?_; refine zaa rfl (opj_lenC rfl) ?_) | refine zah ?_ | (refine zcr ?_; refine zcs ?_) | (refine zdb ?_; first | refine zdc ?_ | refine zdd ?_)
  refine ws_cond rfl (fun hd => ?_) (fun hd => ?_)
  case' refine_2 =>
    have hkn : k = n := by have := of_decide_eq_false hd; omega
    subst hkn
    repeat first | (refine zae ?_; refine zaa rfl (zcg rfl rfl (by (repeat (first | exact mh | refine mt ?_)); done) rfl rfl) ?_) | refine zah ?_ | (refine zcr ?_; first | refine zcs ?_ | refine zcu ?_ | refine zcx ?_ | refine zda ?_) | (refine zdb ?_; first | refine zdc ?_ | refine zdd ?_ | refine zdg ?_ | refine zdh ?_) | (refine zag ?_; refine zan 3 rfl rfl rfl rfl rfl rfl rfl rfl rfl ?_)
    exact done_retX rfl rfl ((a, b), ca, cb) rfl (mt (mt (mt mh))) rfl rfl rfl ⟨⟨h1, h2⟩, hc1, by simp only [maxLen]; omega⟩ (.cons _ (.cons_cons _ (.cons_cons _ (List.nil_sublist _))))
  have hlt : (k : Int) < n := of_decide_eq_true hd
  clear hd
  repeat first | (refine zae ?_; refine zaa rfl (zcf rfl rfl (by (repeat (first | exact mh | refine mt ?_)); done) rfl) ?_) | refine zaa rfl (zcd rfl) ?_ | (refine zcr ?_; refine zcs ?_) | (refine zdb ?_; first | refine zdc ?_ | refine zdd ?_ | refine zde ?_ | refine zdf ?_) | refine zaa rfl (zco rfl rfl rfl rfl rfl rfl) ?_
  refine rs_appendT 1 (fun _ => one1) rfl rfl rfl rfl ⟨hc1, by simp only [maxLen]; omega⟩ (by omega) rfl rfl rfl (fun s _ _ => rfl) fun b' cb' h3 h4 => ?_
  repeat first | refine zaa rfl (zay rfl) ?_ | refine zaa rfl (zaz rfl) ?_ | (refine zac ?_; refine zaa rfl (zbb rfl rfl (by omega)) ?_) | refine zaa rfl (zcd rfl) ?_ | refine zah ?_ | (refine zcr ?_; first | refine zcs ?_ | refine zcv ?_) | (refine zdb ?_; refine zdd ?_) | (refine zag ?_; refine zam 0 rfl rfl rfl rfl rfl rfl ?_)
  refine done_round (k + 1, b', cb') ⟨by simp only; omega, h3, h4⟩ (by simp only; omega) ?_ (fun _ h => h)
  simp only
  rw [show ((k + 1 : Nat) : Int) = (k : Int) + 1 by omega]
  (repeat (first | exact Env.sub_nil _ | refine Env.sub_cons rfl ?_))
/-- A curve that is drawn. -/
structure Dc where
  n : Nat
  ga : Nat
  gb : Nat
  ca : Nat
  cb : Nat
  P : Nat → CV
  f : Int → FV
  a : Nat → Int
  b : Nat → Int
  u : Nat → Int
structure DcOk (y : Dc) : Prop where
  n : 2 ≤ y.n ∧ y.n ≤ 5
  ca : y.n ≤ y.ca ∧ y.ca ≤ maxLen
  cb : y.n ≤ y.cb ∧ y.cb ≤ maxLen
  p : DpOk y.n y.P y.a y.b
  f : ∀ i : Nat, i < y.n → y.f i = qtF (y.u i)
  u : ∀ i, i < y.n → 1 ≤ y.u i ∧ y.u i ≤ 8
def putW (i : Nat) (x : FV) (f : Int → FV) (t : Int) : FV := if t = i then x else f t
theorem drawOk_fn (w1 : World) (gs : Nat) (L : List By) (hL : L.length < 2 ^ 40) :
    FnH (X := Dc × Dr) Try.prog 21 (fun w => [srcP w1 gs w]) [srcE w1 gs L 0 0] (fun y => crvOc y.1.ga y.1.gb y.1.n y.1.ca y.1.cb) (fun y => [entF y.1.gb 29 y.1.n y.1.f y.1.cb, entC y.1.ga y.1.n y.1.P y.1.ca, srcE w1 gs L y.2.at_ y.2.seed]) (fun y => DcOk y.1) := by
  refine fn_intro Try.func21 rfl Try.ntmps21 (fun _ => Nat.le_of_ble_eq_true rfl) fun w0 => ?_
  refine ws_q (t := 0) rfl fun v hv => ?_
  obtain ⟨rfl, hx, hg⟩ := hv
  have hk : KeepW w1 w0 [gs] := ⟨hx, fun x hx => by simp at hx; omega⟩
  have hp0 := pick_fn w1 gs L 0 0 4 (by omega) (by omega) hL
  repeat first | refine zaa rfl (zay rfl) ?_ | refine zaa rfl (zaz rfl) ?_ | (refine zac ?_; refine zaa rfl (zbb (x := 2) (y := r2) rfl rfl (by omega)) ?_) | refine zah ?_ | (refine zcr ?_; refine zcs ?_) | (refine zdb ?_; first | refine zdc ?_ | refine zdd ?_) | (refine zal rfl rfl ?_; intro g) | (refine rs_callAt 1 hp0 rfl rfl rfl (Takes.srcP hk hg (Takes.same Takes.nil)) rfl ?_; rintro ⟨r2, a2, s2⟩ ⟨hr1, hr2, hr3⟩; simp only at hr1 hr2 hr3)
  obtain ⟨n, hn0⟩ : ∃ n : Nat, 2 + r2 = (n : Int) := ⟨(2 + r2).toNat, by omega⟩
  rw [hn0]
  have hn : 2 ≤ n ∧ n ≤ 5 := by omega
  have hp1 := drawPoints_fn w1 gs L a2 s2 n (by omega) (by omega) hL
  refine RS.perm (H' := [srcE w1 gs L a2 s2] ++ [⟨g, 27, [.raw (.slice none 0 0), .raw (.slice none 0 0)], 2⟩]) ?_ (List.Perm.swap _ _ _)
  refine rs_call (pre := [srcE w1 gs L a2 s2]) hp1 rfl rfl (Takes.srcP hk hg (Takes.same Takes.nil)) rfl ?_
  rintro ⟨g0, c0, P, pa, pb, ⟨r3, a3, s3⟩⟩ ⟨hc0, hdp, ha3⟩
  simp only [maxLen] at hc0 hdp ha3
  dsimp only
  refine rs_callM3 (specPlain_fn (n := n) (P := P) (by omega)) rfl rfl (Takes.ownE ⟨_, _, mh⟩ (by simp) (by omega) (by simp only [maxLen]; omega) Takes.nil) rfl ?_
  rintro ⟨⟨a, b⟩, ca, cb⟩ ⟨h1, h2⟩
  dsimp only at h1 h2 ⊢
  obtain ⟨g2, hg2⟩ : ∃ x, x = g := ⟨g, rfl⟩
  subst hg2
  repeat first | refine zaa rfl (zay rfl) ?_ | refine zah ?_ | (refine zcr ?_; refine zcs ?_) | (refine zdb ?_; first | refine zdc ?_ | refine zdd ?_) | (refine zal rfl rfl ?_; intro g) | (refine zag ?_; refine zan 0 rfl rfl rfl rfl rfl rfl rfl rfl rfl ?_)
  obtain ⟨g4, hg4⟩ : ∃ x, x = g := ⟨g, rfl⟩
  subst hg4
  have ho := one_fn w1 gs L a3 s3 3 (by omega) (by omega) hL
  repeat first | refine zah ?_ | (refine zcr ?_; refine zcs ?_) | (refine rs_callAt 4 ho rfl rfl rfl (Takes.srcP hk hg (Takes.same Takes.nil)) rfl ?_; rintro ⟨bb, ⟨r5, a5, s5⟩⟩ ha5; simp only at ha5)
  refine ws_thenJ (ι := (Int → FV) × (Nat → Int) × Dr) (fun _ => [(2, .raw (.pointer (some ⟨g2, 0, none⟩))), (4, .raw (.pointer (some ⟨g4, 0, none⟩)))])
    (fun y => St w0 [gs] [⟨g4, 27, [.raw (.slice (some ⟨a, 0, none⟩) n ca), .raw (.slice (some ⟨b, 0, none⟩) n cb)], 2⟩, entF b 29 n y.1 cb, entC a n P ca, entC g0 n P c0, srcE w1 gs L y.2.2.at_ y.2.2.seed, ⟨g2, 27, [.raw (.slice none 0 0), .raw (.slice none 0 0)], 2⟩]) (fun y => ∀ i : Nat, i < n → y.1 i = qtF (y.2.1 i) ∧ 1 ≤ y.2.1 i ∧ y.2.1 i ≤ 8) ?_ (fun y hy => ?_)
  case' refine_2 =>
    obtain ⟨f, u, r⟩ := y
    dsimp only at hy ⊢
    repeat first | (refine zae ?_; refine zaa rfl (zcg rfl rfl (by (repeat (first | exact mh | refine mt ?_)); done) rfl rfl) ?_) | refine zah ?_ | (refine zcr ?_; refine zcs ?_) | (refine zdb ?_; first | refine zdc ?_ | refine zdd ?_ | refine zdg ?_) | (refine zag ?_; refine zan 5 rfl rfl rfl rfl rfl rfl rfl rfl rfl ?_)
    exact done_retX rfl rfl ((⟨n, a, b, ca, cb, P, f, pa, pb, u⟩ : Dc), r) rfl (mt (mt (mt (mt (mt mh))))) rfl rfl rfl ⟨hn, h1, h2, hdp, fun i hi => (hy i hi).1, fun i hi => (hy i hi).2⟩ (.cons _ (.cons_cons _ (.cons_cons _ (.cons _ (.cons_cons _ (List.nil_sublist _))))))
  cases bb with
  | false =>
    repeat ((refine zdb ?_; first | refine zdf ?_ | refine zdj rfl ?_))
    exact done_join ((fun _ => one1), (fun _ => 4), (⟨r5, a5, s5⟩ : Dr)) (fun i _ => ⟨qtF_4.symm, by simp⟩) (by (repeat (first | exact Env.sub_nil _ | refine Env.sub_cons rfl ?_))) (fun _ h => h)
  | true =>
  repeat first | refine zaa rfl (zaz rfl) ?_ | refine zah ?_ | (refine zcr ?_; refine zcs ?_) | (refine zdb ?_; first | refine zdc ?_ | refine zdd ?_ | refine zde ?_ | refine zdi rfl ?_)
  refine ws_loop (ι := Nat × (Int → FV) × (Nat → Int) × Dr) (fun y => [(0, .raw (.pointer (some ⟨gs, 0, none⟩))), (2, .raw (.pointer (some ⟨g2, 0, none⟩))), (4, .raw (.pointer (some ⟨g4, 0, none⟩))), (5, .raw (.int .i64 (y.1 : Nat)))])
    (fun y => St w0 [gs] [⟨g4, 27, [.raw (.slice (some ⟨a, 0, none⟩) n ca), .raw (.slice (some ⟨b, 0, none⟩) n cb)], 2⟩, entF b 29 n y.2.1 cb, entC a n P ca, entC g0 n P c0, srcE w1 gs L y.2.2.2.at_ y.2.2.2.seed, ⟨g2, 27, [.raw (.slice none 0 0), .raw (.slice none 0 0)], 2⟩]) (fun y => y.1 ≤ n ∧ (∀ i : Nat, i < n → y.2.1 i = qtF (y.2.2.1 i) ∧ 1 ≤ y.2.2.1 i ∧ y.2.2.1 i ≤ 8) ∧ y.2.2.2.at_ = a5 + y.1) (fun y => n - y.1) (0, (fun _ => one1), (fun _ => 4), (⟨r5, a5, s5⟩ : Dr)) ⟨Nat.zero_le _, fun i _ => ⟨qtF_4.symm, by simp⟩, by simp⟩ ?_ (fun _ h => h) (fun y hy => ?_)
  · (repeat (first | exact Env.sub_nil _ | refine Env.sub_cons rfl ?_))
  obtain ⟨k, f, u, ⟨r6, at6, s6⟩⟩ := y
  dsimp only at hy ⊢
  obtain ⟨hkn, hfu, rfl⟩ := hy
  repeat first | refine zaa rfl (zay rfl) ?_ | (refine zac ?_; refine zaa rfl (zbe rfl rfl) ?_) | (refine zad ?_; refine zaa rfl (zbn rfl) ?_) | (refine zae ?_; refine zaa rfl (zcf rfl rfl (by (repeat (first | exact mh | refine mt ?_)); done) rfl) ?_) | refine zaa rfl (zcd rfl) ?_ | refine zah ?_ | (refine zcr ?_; refine zcs ?_) | (refine zdb ?_; first | refine zdc ?_ | refine zdd ?_)
  refine ws_cond rfl (fun hd => ?_) (fun hd => ?_)
  case' refine_2 =>
    repeat first | (refine zcr ?_; first | refine zcu ?_ | refine zcx ?_ | refine zda ?_) | (refine zdb ?_; refine zdh ?_)
    exact done_join (f, u, (⟨r6, a5 + (k : Int), s6⟩ : Dr)) hfu (by (repeat (first | exact Env.sub_nil _ | refine Env.sub_cons rfl ?_))) (fun _ h => h)
  have hlt : (k : Int) < n := of_decide_eq_true hd
  clear hd
  have hpk := pick_fn w1 gs L (a5 + (k : Int)) s6 8 (by omega) (by omega) hL
  repeat first | (refine zcr ?_; refine zcs ?_) | (refine zdb ?_; first | refine zdc ?_ | refine zde ?_ | refine zdf ?_)
  refine ws_drawP (ix := [0, 1, 2, 3]) (W := St w0 [gs] [⟨g4, 27, [.raw (.slice (some ⟨a, 0, none⟩) n ca), .raw (.slice (some ⟨b, 0, none⟩) n cb)], 2⟩]) mixed (by decide +kernel) (fun _ h => h.weak (.cons_cons _ (List.nil_sublist _))) ?_
  repeat first | refine zap rfl (zay rfl) ?_ | (refine zat ?_; refine zap rfl (zcf rfl rfl (by (repeat (first | exact mh | refine mt ?_)); done) rfl) ?_) | refine zap rfl (zcd rfl) ?_ | refine zav ?_
  refine ⟨rfl, ?_⟩
  refine gp_step [4] (by decide +kernel) fun fi hfi => ?_
  obtain rfl : fi = 4 := by simpa using hfi
  refine sp_callAt 4 rfl (by decide +kernel) rfl hpk rfl rfl rfl (Takes.srcP hk hg (Takes.same Takes.nil)) (fun _ _ => rfl) ?_
  rintro ⟨r7, a7, s7⟩ ⟨hr7, hr8, hr9⟩
  simp only at hr7 hr8 hr9
  refine cont_go (fun _ h => h.weak (.cons_cons _ (List.nil_sublist _))) ?_
  refine gp_step [5] (by decide +kernel) fun fi hfi => ?_
  obtain rfl : fi = 5 := by simpa using hfi
  refine sp_op rfl (by decide +kernel) rfl (zbb (x := 1) (y := r7) rfl rfl (by omega)) rfl (cont_go (fun _ h => h.weak (.cons_cons _ (List.nil_sublist _))) ?_)
  refine gp_step [6] (by decide +kernel) fun fi hfi => ?_
  obtain rfl : fi = 6 := by simpa using hfi
  refine sp_op rfl (by decide +kernel) rfl (zby rfl) rfl (cont_go (fun _ h => h.weak (.cons_cons _ (List.nil_sublist _))) ?_)
  refine gp_step [7] (by decide +kernel) fun fi hfi => ?_
  obtain rfl : fi = 7 := by simpa using hfi
  refine sp_op rfl (by decide +kernel) rfl (zba rfl rfl rfl) rfl (cont_go (fun _ h => h.weak (.cons_cons _ (List.nil_sublist _))) ?_)
  refine gp_step [8] (by decide +kernel) fun fi hfi => ?_
  obtain rfl : fi = 8 := by simpa using hfi
  refine sp_op rfl (by decide +kernel) rfl (zbw (n := n) (cap := cb) (g := b) rfl rfl (by omega) (by omega)) rfl (cont_set (by decide +kernel) rfl ?_)
  refine gp_step [9] (by decide +kernel) fun fi hfi => ?_
  obtain rfl : fi = 9 := by simpa using hfi
  refine sp_eff rfl (by decide +kernel) (effj_storeTU 1 (putW k (qtF (1 + r7)) f) (i := (k : Int)) rfl rfl rfl (by omega) (if_pos rfl) (fun s _ _ h => if_neg h)) (cont_set rfl rfl ?_)
  refine gp_end (by decide +kernel) ?_
  repeat first | refine zaa rfl (zay rfl) ?_ | refine zaa rfl (zaz rfl) ?_ | (refine zac ?_; refine zaa rfl (zbb rfl rfl (by omega)) ?_) | refine zah ?_ | (refine zcr ?_; first | refine zcs ?_ | refine zcv ?_) | (refine zdb ?_; refine zdd ?_)
  refine done_round (k + 1, putW k (qtF (1 + r7)) f, putU k (1 + r7) u, (⟨r7, a7, s7⟩ : Dr)) ⟨by simp only; omega, fun i hi => ?_, by simp only; omega⟩ (by simp only; omega) ?_ (fun _ h => h)
  · unfold putW putU
    by_cases hik : i = k
    · subst hik
      dsimp only
      rw [if_pos rfl, if_pos rfl]
      exact ⟨rfl, by omega, by omega⟩
    · dsimp only
      rw [if_neg (by omega), if_neg hik]
      exact hfu i hi
  · simp only
    rw [show ((k + 1 : Nat) : Int) = (k : Int) + 1 by omega]
    (repeat (first | exact Env.sub_nil _ | refine Env.sub_cons rfl ?_))
theorem r8Curve_fn (L : List By) (hL : L.length < 2 ^ 40) :
    FnH (X := Dc) Try.prog 5 (fun w => [slB w L]) [] (fun y => crvOc y.ga y.gb y.n y.ca y.cb) (fun y => [entF y.gb 29 y.n y.f y.cb, entC y.ga y.n y.P y.ca]) DcOk := by
  refine fn_intro Try.func5 rfl Try.ntmps5 (fun _ => Nat.le_of_ble_eq_true rfl) fun w0 => ?_
  repeat first | refine zaa rfl (zay rfl) ?_ | refine zaa rfl (zaz rfl) ?_ | refine zah ?_ | (refine zcr ?_; refine zcs ?_) | (refine zdb ?_; first | refine zdc ?_ | refine zdd ?_) | (refine zal rfl rfl ?_; intro g) | (refine rs_call1 (l00From_fn w0 L) rfl rfl (Takes.same Takes.nil) rfl ?_; rintro gs -)
  refine rs_fact (fun w hw => own_new (en := srcE w0 gs L 0 0) hw mh) fun hgs => ?_
  have hk : KeepW w0 w0 [] := ⟨Ext.refl _, fun x hx => by cases hx⟩
  skip
  refine rs_call (pre := [srcE w0 gs L 0 0]) (drawOk_fn w0 gs L hL) rfl rfl (Takes.srcP hk hgs Takes.nil) rfl ?_
  rintro ⟨y, r⟩ hy
  dsimp only at hy ⊢
  repeat first | refine zah ?_ | (refine zcr ?_; refine zcs ?_) | (refine zdb ?_; refine zdg ?_) | (refine zag ?_; refine zan 3 rfl rfl rfl rfl rfl rfl rfl rfl rfl ?_)
  exact done_retX rfl rfl y rfl (mt (mt (mt mh))) rfl rfl rfl hy (.cons_cons _ (.cons_cons _ (List.nil_sublist _)))
theorem r8Points_fn (L : List By) (hL : L.length < 2 ^ 40) :
    FnH (X := Dp) Try.prog 12 (fun w => [slB w L, .raw (.int .i64 1)]) [] (fun y => .raw (.slice (some ⟨y.g, 0, none⟩) 1 y.c)) (fun y => [entC y.g 1 y.P y.c]) (fun y => (1 ≤ y.c ∧ y.c ≤ maxLen) ∧ DpOk 1 y.P y.a y.b) := by
  refine fn_intro Try.func12 rfl Try.ntmps12 (fun _ => Nat.le_of_ble_eq_true rfl) fun w0 => ?_
  repeat first | refine zaa rfl (zay rfl) ?_ | refine zaa rfl (zaz rfl) ?_ | refine zah ?_ | (refine zcr ?_; refine zcs ?_) | (refine zdb ?_; first | refine zdc ?_ | refine zdd ?_) | (refine rs_call1 (l00From_fn w0 L) rfl rfl (Takes.same Takes.nil) rfl ?_; rintro gs -)
  refine rs_fact (fun w hw => own_new (en := srcE w0 gs L 0 0) hw mh) fun hgs => ?_
  have hk : KeepW w0 w0 [] := ⟨Ext.refl _, fun x hx => by cases hx⟩
  have hp := drawPoints_fn w0 gs L 0 0 1 (by omega) (by omega) hL
  skip
  refine rs_call (pre := [srcE w0 gs L 0 0]) hp rfl rfl (Takes.srcP hk hgs (Takes.same Takes.nil)) rfl ?_
  rintro ⟨g0, c0, P, pa, pb, r3⟩ ⟨hc0, hdp, _⟩
  dsimp only at hc0 hdp ⊢
  repeat first | refine zaa rfl (zaz rfl) ?_ | refine zah ?_ | (refine zcr ?_; refine zcs ?_) | (refine zdb ?_; refine zdg ?_)
  exact done_ret1 rfl (⟨g0, c0, P, pa, pb, r3⟩ : Dp) rfl ⟨hc0, hdp⟩ (.cons_cons _ (List.nil_sublist _))
end Go.Ab
namespace Go.Ab
open Go.Proofs
variable {R : World → Prop} [RStab R]
def farF (p q : CV) : FV := fconv .f32 .f64 (longC (subC2 p q))
def gapM (x y : FV) : FV := maxF .f64 (fbin .sub .f64 x y) (fbin .sub .f64 y x)
attribute [local irreducible] WS RS Done OpJ Then InBlock Round Ret Env.sub FnH
attribute [local irreducible] tab tabC
theorem r8Long_fn (L M : List By) : Fn Try.prog 4 (fun w => [slB w L, slB w M]) (.raw (.bool (decide ((48 : Int) < L.length) || decide ((48 : Int) < M.length)))) := by
  refine fn_intro Try.func4 rfl Try.ntmps4 (fun _ => Nat.le_of_ble_eq_true rfl) fun w0 => ?_
  repeat first | refine zaa rfl (zay rfl) ?_ | refine zaa rfl (zaz rfl) ?_ | (refine zac ?_; refine zaa rfl (zbg rfl rfl) ?_) | (refine zad ?_; refine zaa rfl (zbm rfl) ?_) | refine zah ?_ | (refine zcr ?_; refine zcs ?_) | (refine zdb ?_; first | refine zdc ?_ | refine zdd ?_)
  cases decide ((48 : Int) < L.length)
  all_goals
    repeat first | refine zai rfl rfl ?_ | refine zaj rfl rfl rfl rfl ?_ | refine zaa rfl (zay rfl) ?_ | refine zaa rfl (zaz rfl) ?_ | (refine zac ?_; refine zaa rfl (zbg rfl rfl) ?_) | (refine zad ?_; refine zaa rfl (zbm rfl) ?_) | refine zaa rfl (zca rfl rfl) ?_ | refine zaa rfl (zcb rfl rfl) ?_ | refine zah ?_ | (refine zcr ?_; refine zcs ?_) | (refine zdb ?_; refine zdg ?_)
    exact done_ret1 rfl () rfl trivial (List.nil_sublist _)
theorem r8At_fn (L : List By) (i n : Int) (hn : 2 ≤ n) (hi : 0 ≤ i ∧ i < 2 ^ 40) : FnH (X := Int) Try.prog 6 (fun w => [slB w L, .raw (.int .i64 i), .raw (.int .i64 n)]) [] (fun y => .raw (.int .i64 y)) (fun _ => []) (fun y => 0 ≤ y ∧ y < n) := by
  refine fn_intro Try.func6 rfl Try.ntmps6 (fun _ => Nat.le_of_ble_eq_true rfl) fun w0 => ?_
  repeat first | refine zaa rfl (zay rfl) ?_ | refine zaa rfl (zaz rfl) ?_ | (refine zac ?_; refine zaa rfl (zbf rfl rfl) ?_) | refine zah ?_ | (refine zcr ?_; refine zcs ?_) | (refine zdb ?_; first | refine zdc ?_ | refine zdd ?_)
  rw [decide_eq_false (show ¬ n ≤ 1 by omega)]
  repeat first | refine zai rfl rfl ?_ | refine zaa rfl (zay rfl) ?_ | (refine zac ?_; refine zaa rfl (zbh rfl rfl) ?_) | (refine zad ?_; refine zaa rfl (zbm rfl) ?_) | refine zaa rfl (zcb rfl rfl) ?_ | refine zah ?_ | (refine zcr ?_; refine zcs ?_)
  refine ws_cond rfl (fun hd => ?_) (fun hd => ?_)
  · repeat first | refine zaa rfl (zaz rfl) ?_ | refine zah ?_ | (refine zcr ?_; first | refine zcs ?_ | refine zct ?_) | (refine zdb ?_; first | refine zdc ?_ | refine zdd ?_ | refine zdg ?_)
    exact done_ret1 rfl 0 rfl ⟨by omega, by omega⟩ (List.nil_sublist _)
  · have hlt : ¬ (L.length : Int) ≤ i := of_decide_eq_false hd
    have hby := (L.getD i.toNat default).isLt
    repeat first | refine zaa rfl (zay rfl) ?_ | refine zaa rfl (zaz rfl) ?_ | (refine zac ?_; refine zaa rfl (zcq rfl rfl (by omega) (by omega)) ?_) | (refine zae ?_; refine zaa rfl (zbu rfl rfl) ?_) | (refine zaf ?_; refine zaa rfl (zbv rfl rfl (by omega) (by omega)) ?_) | refine zah ?_ | (refine zcr ?_; refine zcs ?_) | (refine zdb ?_; first | refine zdc ?_ | refine zdd ?_ | refine zdf ?_ | refine zdg ?_) | refine zaa rfl (opj_byte rfl) ?_
    exact done_ret1 rfl _ rfl ⟨Int.emod_nonneg _ (by omega), Int.emod_lt_of_pos _ (by omega)⟩ (List.nil_sublist _)
theorem r8Far_fn (p q : CV) (h : LongOk (subC2 p q)) : Fn Try.prog 11 (fun _ => [cA p, cA q]) (.f .f64 (farF p q)) := by
  have hl := longOf_fn _ h
  refine fn_intro Try.func11 rfl Try.ntmps11 (fun _ => Nat.le_of_ble_eq_true rfl) fun w0 => ?_
  repeat first | refine zaa rfl (zay rfl) ?_ | refine zaa rfl (zaz rfl) ?_ | (refine zac ?_; refine zaa rfl (opj_csub rfl rfl) ?_) | (refine zad ?_; (refine zaa rfl (zci rfl rfl (hl) ?_) ?_; (focus ((repeat (first | exact Takes.nil | refine Takes.sl ?_ | refine Takes.lit ?_ | refine Takes.fa ?_ | refine Takes.fc ?_ | refine Takes.net ?_ | (refine Takes.ownE ?_ ?_ ?_ ?_ ?_; (focus (exact ⟨_, _, (by (repeat (first | exact mh | refine mt ?_)); done)⟩)); (focus (simp; done)); (focus omega); (focus (simp only [maxLen]; omega))) | refine Takes.same ?_)); done)))) | refine zaa rfl (zbx rfl) ?_ | refine zah ?_ | (refine zcr ?_; refine zcs ?_) | (refine zdb ?_; first | refine zdc ?_ | refine zdd ?_ | refine zdg ?_)
  exact done_ret1 rfl () rfl trivial (List.nil_sublist _)
theorem r8Gap_fn {x y : FV} {p q : Rat} (vx : Vl .f64 (fbin .sub .f64 x y) p) (vy : Vl .f64 (fbin .sub .f64 y x) q) : Fn Try.prog 15 (fun _ => [.f .f64 x, .f .f64 y]) (.f .f64 (gapM x y)) := by
  refine fn_intro Try.func15 rfl Try.ntmps15 (fun _ => Nat.le_of_ble_eq_true rfl) fun w0 => ?_
  repeat first | refine zaa rfl (zay rfl) ?_ | refine zaa rfl (zaz rfl) ?_ | (refine zac ?_; refine zaa rfl (zba rfl rfl rfl) ?_) | refine zah ?_ | (refine zcr ?_; refine zcs ?_) | (refine zdb ?_; first | refine zdc ?_ | refine zdd ?_ | refine zdg ?_) | refine zaa rfl (opj_maxV vx vy rfl rfl) ?_
  exact done_ret1 rfl () rfl trivial (List.nil_sublist _)
end Go.Ab
