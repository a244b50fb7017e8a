/- Part 9 of the texts on which the law leans, joined: Splines in memory: a corner moved; walked. No conditions. -/
import Derived.Test.YtijihljfpeajlaaZah
namespace Go.Ab
open Go.Proofs
variable {R : World → Prop} [RStab R]
/-- Even knots, as the reference makes them. -/
def eeI (d n i : Int) : Int := if (if n - d < i - d then n - d else i - d) > 0 then (if n - d < i - d then n - d else i - d) else 0
def eeF (d n : Nat) (i : Int) : FV := some (FloatKind.f32.nearest (eeI d n i))
theorem ent_firstE (g : Nat) (T : TypeId) (d n c : Nat) : (⟨g, T, [.f .f32 (eeF d n ((0 : Nat) : Int))], c * 1⟩ : Ent) = entF g T 1 (eeF d n) c := by
  rw [Nat.mul_one]
  rfl
theorem eeI_eq (d n i : Int) : eeI d n i = evI d n i ∨ n < d := by
  unfold eeI evI
  split <;> split <;> (try split) <;> omega
attribute [local irreducible] WS RS Done OpJ Then InBlock Round Ret Env.sub FnH
attribute [local irreducible] tab tabC
section
variable {d n : Nat} {P : Nat → CV} {a : Int → Int}
theorem specEven_fn (d1 : 1 ≤ d ∧ d ≤ 5) (n1 : d + 1 ≤ n ∧ n ≤ 24) :
    FnH (X := (Nat × Nat) × Nat × Nat) Try.prog 44 (fun w => [slC w (tabC n P), .raw (.int .i64 (d : Int))]) [] (fun y => splO y.1.1 y.1.2 d n y.2.1 y.2.2)
      (fun y => [entF y.1.1 29 (n + d + 1) (eeF d n) y.2.1, entC y.1.2 n P y.2.2]) (fun y => (n + d + 1 ≤ y.2.1 ∧ y.2.1 ≤ maxLen) ∧ n ≤ y.2.2 ∧ y.2.2 ≤ maxLen) := by
  obtain ⟨d1, d2⟩ := d1
  obtain ⟨n1, n2⟩ := n1
  have hlen : ((tabC n P).map cA).length = n := by simp
  have hone := one_cA n P
  refine fn_intro Try.func44 rfl Try.ntmps44 (fun _ => Nat.le_of_ble_eq_true rfl) fun w0 => ?_
  repeat first | refine zaa rfl (zay rfl) ?_ | refine zaa rfl (zaz rfl) ?_ | (refine zad ?_; refine zaa rfl (opj_lenC rfl) ?_) | refine zah ?_ | (refine zcr ?_; refine zcs ?_) | (refine zdb ?_; first | refine zdc ?_ | refine zdd ?_) | (refine zal rfl rfl ?_; intro g) | (refine rs_lit0 (t := 25) rfl ?_; intro g0)
  obtain ⟨g4, hg4⟩ : ∃ x, x = g := ⟨g, rfl⟩
  subst hg4
  refine rs_append 0 (xs := []) (ys := (tabC n P).map cA) (n := 0) (cap := 0) rfl rfl ⟨_, rfl, fun w v hS h => hS.rd h.inv_q⟩ rfl ⟨rfl, Nat.le_refl _, Nat.zero_le _⟩ (by rw [hlen]; omega) hone (by rw [hlen]; simp only [maxLen]; omega) (by rw [hlen]; omega) rfl fun gb cb h1 h2 => ?_
  rw [hlen, Nat.zero_add] at h1 ⊢
  repeat first | refine zaa rfl (zaz rfl) ?_ | refine zah ?_ | (refine zcr ?_; refine zcs ?_) | (refine zdb ?_; first | refine zdc ?_ | refine zdd ?_ | refine zde ?_) | (refine zal rfl rfl ?_; intro g) | (refine zag ?_; refine zan 0 rfl rfl rfl rfl rfl rfl rfl rfl rfl ?_) | refine zaa rfl (opj_build02 rfl rfl) ?_
  have hcb : n ≤ cb ∧ cb ≤ maxLen := ⟨h1, h2⟩
  refine ws_loop (ι := Nat × Nat × Nat) (fun y => [(0, slC w0 (tabC n P)), (1, .raw (.int .i64 (d : Int))), (4, .raw (.pointer (some ⟨g4, 0, none⟩))), (5, .raw (.int .i64 (n : Int))), (6, .raw (.pointer (some ⟨g, 0, none⟩))), (7, .raw (.int .i64 ((y.1 : Nat) : Int)))])
    (fun y => match y.1 with
      | 0 => St w0 [] [⟨g, 27, [.raw (.int .i64 (d : Int)), .raw (.slice none 0 0), .raw (.slice (some ⟨gb, 0, none⟩) n cb)], 3⟩, entC gb n P cb, ⟨g4, 27, [.raw (.int .i64 0), .raw (.slice none 0 0), .raw (.slice none 0 0)], 3⟩]
      | k + 1 => St w0 [] [entF y.2.1 29 (k + 1) (eeF d n) y.2.2, ⟨g, 27, [.raw (.int .i64 (d : Int)), .raw (.slice (some ⟨y.2.1, 0, none⟩) (k + 1) y.2.2), .raw (.slice (some ⟨gb, 0, none⟩) n cb)], 3⟩, entC gb n P cb, ⟨g4, 27, [.raw (.int .i64 0), .raw (.slice none 0 0), .raw (.slice none 0 0)], 3⟩])
    (fun y => y.1 ≤ n + d + 1 ∧ (0 < y.1 → y.1 ≤ y.2.2 ∧ y.2.2 ≤ maxLen)) (fun y => n + d + 1 - y.1) (0, 0, 0) ⟨Nat.zero_le _, fun h => absurd h (Nat.lt_irrefl _)⟩ ?_ (fun w hw => hw) (fun y hy => ?_)
  · (repeat (first | exact Env.sub_nil _ | refine Env.sub_cons rfl ?_))
  obtain ⟨k, ga, ca⟩ := y
  obtain ⟨hk, hca⟩ := hy
  dsimp only at hk hca ⊢
  cases k with
  | zero =>
    dsimp only
    repeat first | refine zaa rfl (zay rfl) ?_ | (refine zac ?_; first | refine zaa rfl (zbb rfl rfl (by omega)) ?_ | refine zaa rfl (zbe rfl rfl) ?_) | refine zah ?_ | (refine zcr ?_; refine zcs ?_) | (refine zdb ?_; first | refine zdc ?_ | refine zdd ?_)
    rw [decide_eq_true (show ((0 : Nat) : Int) < (n : Int) + d + 1 by omega)]
    repeat first | refine zaa rfl (zay rfl) ?_ | (refine zac ?_; refine zaa rfl (zbc rfl rfl (by omega)) ?_) | (refine zae ?_; refine zaa rfl (zcf rfl rfl (by (repeat (first | exact mh | refine mt ?_)); done) rfl) ?_) | refine zaa rfl (zcd rfl) ?_ | refine zaa rfl (zby rfl) ?_ | (refine zcr ?_; refine zcs ?_) | (refine zdb ?_; first | refine zdc ?_ | refine zdd ?_ | refine zde ?_ | refine zdf ?_ | refine zdi rfl ?_) | refine zaa rfl (zco rfl rfl rfl rfl rfl rfl) ?_ | refine zaa rfl (opj_maxO rfl rfl) ?_ | refine zaa rfl (opj_minO rfl rfl) ?_
    refine rs_appendNil2 (sz := 1) (m := 1) (ys := [.f .f32 (eeF d n ((0 : Nat) : Int))]) rfl (by decide) rfl ⟨_, rfl, fun w v _ h => h.inv_p.2⟩ rfl (by decide) rfl (by simp only [maxLen]; decide) (by decide) rfl fun ga ca h1 h2 => ?_
    rw [ent_firstE]
    repeat first | refine zaa rfl (zay rfl) ?_ | refine zaa rfl (zaz rfl) ?_ | (refine zac ?_; refine zaa rfl (zbb rfl rfl (by omega)) ?_) | refine zaa rfl (zcd rfl) ?_ | refine zah ?_ | (refine zcr ?_; first | refine zcs ?_ | refine zcv ?_) | (refine zdb ?_; refine zdd ?_) | (refine zag ?_; refine zam 1 rfl rfl rfl rfl rfl rfl ?_)
    refine done_round (1, ga, ca) ⟨by simp only; omega, fun _ => ⟨h1, h2⟩⟩ (by simp only; omega) ?_ (fun _ hw => hw)
    (repeat (first | exact Env.sub_nil _ | refine Env.sub_cons rfl ?_))
  | succ k =>
    obtain ⟨hc1, hc2⟩ := hca (Nat.succ_pos k)
    dsimp only
    simp only [maxLen] at hc2
    repeat first | refine zaa rfl (zay rfl) ?_ | (refine zac ?_; first | refine zaa rfl (zbb rfl rfl (by omega)) ?_ | refine zaa rfl (zbe rfl rfl) ?_) | refine zah ?_ | (refine zcr ?_; refine zcs ?_) | (refine zdb ?_; first | refine zdc ?_ | refine zdd ?_)
    refine ws_cond rfl (fun hd => ?_) (fun hd => ?_)
    · have hlt : ((k + 1 : Nat) : Int) < (n : Int) + d + 1 := of_decide_eq_true hd
      clear hd
      repeat first | refine zaa rfl (zay rfl) ?_ | (refine zac ?_; refine zaa rfl (zbc rfl rfl (by omega)) ?_) | (refine zae ?_; refine zaa rfl (zcf rfl rfl (by (repeat (first | exact mh | refine mt ?_)); done) rfl) ?_) | refine zaa rfl (zcd rfl) ?_ | refine zaa rfl (zby rfl) ?_ | (refine zcr ?_; refine zcs ?_) | (refine zdb ?_; first | refine zdc ?_ | refine zdd ?_ | refine zde ?_ | refine zdf ?_) | refine zaa rfl (zco rfl rfl rfl rfl rfl rfl) ?_ | refine zaa rfl (opj_maxO rfl rfl) ?_ | refine zaa rfl (opj_minO rfl rfl) ?_
      refine rs_appendT 0 (eeF d n) rfl rfl rfl rfl ⟨hc1, by simp only [maxLen]; omega⟩ (by omega) rfl rfl rfl (fun s _ _ => rfl) fun g' c' h1 h2 => ?_
      repeat first | refine zaa rfl (zay rfl) ?_ | refine zaa rfl (zaz rfl) ?_ | (refine zac ?_; refine zaa rfl (zbb rfl rfl (by omega)) ?_) | refine zaa rfl (zcd rfl) ?_ | refine zah ?_ | (refine zcr ?_; first | refine zcs ?_ | refine zcv ?_) | (refine zdb ?_; refine zdd ?_) | (refine zag ?_; refine zam 1 rfl rfl rfl rfl rfl rfl ?_)
      refine done_round (k + 1 + 1, g', c') ⟨by simp only; omega, fun _ => ⟨h1, h2⟩⟩ (by simp only; omega) ?_ (fun _ hw => hw)
      rw [show ((k + 1 + 1 : Nat) : Int) = ((k + 1 : Nat) : Int) + 1 by omega]
      (repeat (first | exact Env.sub_nil _ | refine Env.sub_cons rfl ?_))
    · have hge : ¬ ((k + 1 : Nat) : Int) < (n : Int) + d + 1 := of_decide_eq_false hd
      clear hd
      obtain rfl : k = n + d := by omega
      repeat first | (refine zae ?_; refine zaa rfl (zcg rfl rfl (by (repeat (first | exact mh | refine mt ?_)); done) rfl rfl) ?_) | (refine zcr ?_; first | refine zcs ?_ | refine zcu ?_ | refine zcx ?_ | refine zda ?_) | (refine zdb ?_; first | refine zdc ?_ | refine zdd ?_ | refine zdh ?_)
      refine zan 3 rfl rfl rfl rfl rfl rfl rfl rfl rfl ?_
      repeat first | refine zah ?_ | (refine zcr ?_; refine zcs ?_) | (refine zdb ?_; refine zdg ?_)
      exact done_retX rfl rfl ((ga, gb), ca, cb) rfl (mt (mt (mt mh))) rfl rfl rfl ⟨⟨hc1, by simp only [maxLen]; omega⟩, hcb⟩ (.cons_cons _ (.cons _ (.cons_cons _ (List.nil_sublist _))))
end
end Go.Ab
namespace Go.Ab
/-- Knots as far as an index: whole numbers. -/
structure DrK (d n : Nat) (i : Int) (m : Int → Int) : Prop where
  lo : ∀ j : Int, j ≤ d → m j = 0
  hi : ∀ j : Int, i ≤ j → m j = eeI d n j
  up : ∀ j j' : Int, j ≤ j' → m j ≤ m j'
  le : ∀ j : Int, m j ≤ eeI d n j
  two : ∀ j : Int, (d : Int) ≤ j → j + 2 ≤ n → m j < m (j + 2)
  one : d = 1 → ∀ j : Int, m j = eeI d n j
  fst : m ((d : Int) + 1) = 1
theorem eeI_lo {d n : Nat} {j : Int} (h : j ≤ d) (hn : d + 1 ≤ n) : eeI d n j = 0 := by
  unfold eeI
  split <;> split <;> omega
theorem eeI_mid {d n : Nat} {j : Int} (h : (d : Int) ≤ j) (h2 : j ≤ n) : eeI d n j = j - d := by
  unfold eeI
  split <;> split <;> omega
theorem eeI_hi {d n : Nat} {j : Int} (h : (n : Int) ≤ j) (hn : d + 1 ≤ n) : eeI d n j = (n : Int) - d := by
  unfold eeI
  split <;> split <;> omega
theorem eeI_up {d n : Nat} (hn : d + 1 ≤ n) (j j' : Int) (h : j ≤ j') : eeI d n j ≤ eeI d n j' := by
  rcases Int.lt_or_le j d with a | a
  · rw [eeI_lo (j := j) (by omega) hn]
    unfold eeI
    split <;> omega
  · rcases Int.lt_or_le n j' with b | b
    · rw [eeI_hi (j := j') (by omega) hn]
      unfold eeI
      split <;> split <;> omega
    · rw [eeI_mid (j := j) a (by omega), eeI_mid (j := j') (by omega) b]
      omega
theorem DrK.start {d n : Nat} (hn : d + 1 ≤ n) : DrK d n (d + 1) (eeI d n) where
  lo := fun j h => eeI_lo h hn
  hi := fun j _ => rfl
  up := eeI_up hn
  le := fun j => Int.le_refl _
  two := fun j h1 h2 => by rw [eeI_mid h1 (by omega), eeI_mid (by omega) h2]; omega
  one := fun _ j => rfl
  fst := by rw [eeI_mid (by omega) (by omega)]; omega
/-- A knot doubled, or not. -/
def dblM (m : Int → Int) (i j : Int) : Int := if j = i then m (i - 1) else m j
theorem DrK.next {d n : Nat} {i : Int} {m : Int → Int} (h : DrK d n i m) : DrK d n (i + 1) m := ⟨h.lo, fun j hj => h.hi j (by omega), h.up, h.le, h.two, h.one, h.fst⟩
theorem DrK.dbl {d n : Nat} {i : Int} {m : Int → Int} (h : DrK d n i m) (hn : d + 1 ≤ n) (hd : d ≠ 1) (h1 : (d : Int) + 1 < i) (h2 : i < n) (hne : m (i - 2) ≠ m (i - 1)) : DrK d n (i + 1) (dblM m i) := by
  have ups := h.up
  have at_ : dblM m i i = m (i - 1) := if_pos rfl
  have ne_ : ∀ j, j ≠ i → dblM m i j = m j := fun j hj => if_neg hj
  refine ⟨fun j hj => ?_, fun j hj => ?_, fun j j' hj => ?_, fun j => ?_, fun j a b => ?_, fun e => absurd e hd, by rw [ne_ _ (by omega)]; exact h.fst⟩
  · rw [ne_ j (by omega)]; exact h.lo j hj
  · rw [ne_ j (by omega)]; exact h.hi j (by omega)
  · by_cases e1 : j = i
    · subst e1
      rw [at_]
      by_cases e2 : j' = j
      · rw [e2, at_]; exact Int.le_refl _
      · rw [ne_ _ e2]; exact ups _ _ (by omega)
    · rw [ne_ j e1]
      by_cases e2 : j' = i
      · rw [e2, at_]; exact ups _ _ (by omega)
      · rw [ne_ _ e2]; exact ups _ _ hj
  · by_cases e1 : j = i
    · subst e1
      rw [at_]
      exact Int.le_trans (h.le _) (eeI_up hn _ _ (by omega))
    · rw [ne_ j e1]; exact h.le j
  · by_cases e1 : j = i
    · subst e1
      rw [at_, ne_ (j + 2) (by omega), h.hi (j + 2) (by omega), eeI_mid (by omega) (by omega)]
      have := h.le (j - 1)
      rw [eeI_mid (by omega) (by omega)] at this
      omega
    · rw [ne_ j e1]
      by_cases e2 : j + 2 = i
      · rw [e2, at_]
        have := ups (i - 2) (i - 1) (by omega)
        rw [show j = i - 2 by omega]
        omega
      · rw [ne_ _ e2]; exact h.two j a b
/-- A knot as a float. -/
def mF (m : Int → Int) (i : Int) : FV := some (FloatKind.f32.nearest (m i))
theorem gd_whole {x : Int} (h0 : 0 ≤ x) (h1 : x ≤ 10) : Gd (some (FloatKind.f32.nearest x)) (64 * x) := by
  refine ⟨?_, by omega, by omega⟩
  have h := vl_ofInt .f32 x (by have : FloatKind.f32.format.fractionBits = 23 := rfl; rw [this]; omega)
  have e : ((64 * x : Int) : Rat) / 64 = (x : Rat) := by
    rw [Rat.intCast_mul]
    have : ((64 : Int) : Rat) = 64 := rfl
    rw [this]
    grind
  rw [e]
  exact h
/-- What is drawn is a valid spline. -/
theorem DrK.ok {d n : Nat} {m : Int → Int} {P : Nat → CV} (h : DrK d n n m) (hd : 1 ≤ d ∧ d ≤ 4) (hn : d + 1 ≤ n ∧ n ≤ d + 5) (hP : (tabC n P).all finC = true) : SpOk d n (mF m) P (fun i => 64 * m i) := by
  have hb : ∀ i, 0 ≤ m i ∧ m i ≤ (n : Int) - d := fun i => by
    have a1 := h.up (min i d) i (by omega)
    rw [h.lo (min i d) (by omega)] at a1
    have a2 := h.up i (max i n) (by omega)
    rw [h.hi (max i n) (by omega), eeI_hi (by omega) hn.1] at a2
    exact ⟨a1, a2⟩
  have eN : ∀ i : Int, n ≤ i → m i = (n : Int) - d := fun i hi => by rw [h.hi i hi, eeI_hi hi hn.1]
  have e0 := h.lo 0 (by omega)
  have eN' := eN n (Int.le_refl _)
  refine ⟨⟨hd.1, by omega⟩, ⟨hn.1, by omega⟩, ⟨fun i _ _ => gd_whole (hb i).1 (by have := (hb i).2; omega), fun i j hij => by have := h.up i j hij; omega⟩, fun i hi => ?_, fun i hi => ?_, ?_, ?_, fun j h1 h2 => ?_, hP⟩
  · rw [h.lo i hi, e0]
  · rw [eN i hi, eN']
  · have := h.le ((n : Int) - 1)
    rw [eeI_mid (by omega) (by omega)] at this
    omega
  · have a0 := h.lo d (Int.le_refl _)
    have a1 := h.fst
    omega
  · rcases Nat.lt_or_ge d 2 with c2 | c2
    · obtain rfl : d = 1 := by omega
      have o1 := h.one rfl j
      have o2 := h.one rfl (j + (1 : Nat))
      rw [eeI_mid (by omega) (by omega)] at o1 o2
      omega
    · have t := h.two j (by omega) (by omega)
      have t2 := h.up (j + 2) (j + d) (by omega)
      omega
end Go.Ab
namespace Go.Ab
open Go.Proofs
variable {R : World → Prop} [RStab R]
attribute [local irreducible] WS RS Done OpJ Then InBlock Round Ret Env.sub FnH
attribute [local irreducible] tab tabC
theorem drawPts_fn (w1 : World) (gs : Nat) (L : List By) (at_ seed : Int) (n : Nat) (hn : n ≤ 100) (hat : 0 ≤ at_ ∧ at_ < 2 ^ 30) (hL : L.length < 2 ^ 40) :
    FnH (X := Dp) Try.prog 45 (fun w => [srcP w1 gs w, .raw (.int .i64 n)]) [srcE w1 gs L at_ seed] (fun y => .raw (.slice (some ⟨y.g, 0, none⟩) n y.c)) (fun y => [entC y.g n y.P y.c, srcE w1 gs L y.r.at_ y.r.seed])
      (fun y => (n ≤ y.c ∧ y.c ≤ maxLen) ∧ DpOk n y.P y.a y.b ∧ y.r.at_ = at_ + 2 * n) := by
  refine fn_intro Try.func45 rfl Try.ntmps45 (fun _ => Nat.le_of_ble_eq_true rfl) fun w0 => ?_
  refine ws_q (t := 0) rfl fun v hv => ?_
  obtain ⟨rfl, hx, hg⟩ := hv
  have hk : KeepW w1 w0 [gs] := ⟨hx, fun x hx => by simp at hx; omega⟩
  repeat first | refine zaa rfl (zaz rfl) ?_ | refine zah ?_ | (refine zcr ?_; refine zcs ?_) | (refine zdb ?_; first | refine zdc ?_ | refine zdd ?_ | refine zde ?_) | (refine rs_lit0 rfl ?_; intro g0)
  rw [entC_nilU (F := fun _ => (none, none))]
  refine ws_loop (ι := Nat × Dp) (fun y => [(0, .raw (.pointer (some ⟨gs, 0, none⟩))), (1, .raw (.int .i64 ((n : Int) - y.1))), (5, .raw (.slice (some ⟨y.2.g, 0, none⟩) y.1 y.2.c))])
    (fun y => St w0 [gs] [entC y.2.g y.1 y.2.P y.2.c, srcE w1 gs L y.2.r.at_ y.2.r.seed]) (fun y => y.1 ≤ n ∧ (y.1 ≤ y.2.c ∧ y.2.c ≤ maxLen) ∧ DpOk y.1 y.2.P y.2.a y.2.b ∧ y.2.r.at_ = at_ + 2 * y.1) (fun y => n - y.1)
    (0, ⟨g0, 0, fun _ => (none, none), fun _ => 0, fun _ => 0, ⟨0, at_, seed⟩⟩) ⟨Nat.zero_le _, ⟨Nat.le_refl _, Nat.zero_le _⟩, ⟨fun i hi => by simp only at hi; omega, fun i hi => by simp only at hi; omega, fun i hi => by simp only at hi; omega⟩, by simp⟩ ?_ (fun _ h => h) (fun y hy => ?_)
  · rw [show (n : Int) - (((0, ⟨g0, 0, fun _ => (none, none), fun _ => 0, fun _ => 0, ⟨0, at_, seed⟩⟩) : Nat × Dp).1 : Int) = n from by simp]
    (repeat (first | exact Env.sub_nil _ | refine Env.sub_cons rfl ?_))
  obtain ⟨k, ⟨g, c, P, a, b, ⟨r, at1, seed1⟩⟩⟩ := y
  simp only at hy ⊢
  obtain ⟨hkn, ⟨hc1, hc2⟩, hd, rfl⟩ := hy
  simp only [maxLen] at hc1 hc2
  repeat first | refine zaa rfl (zay rfl) ?_ | (refine zac ?_; refine zaa rfl (zbg rfl rfl) ?_) | refine zah ?_ | (refine zcr ?_; refine zcs ?_) | (refine zdb ?_; first | refine zdc ?_ | refine zdd ?_)
  refine ws_cond rfl (fun hd1 => ?_) (fun hd1 => ?_)
  case' refine_2 =>
    have hge : ¬ (0 : Int) < (n : Int) - k := of_decide_eq_false hd1
    obtain rfl : k = n := by omega
    repeat first | refine zaa rfl (zay rfl) ?_ | refine zaa rfl (zaz rfl) ?_ | refine zah ?_ | (refine zcr ?_; first | refine zcs ?_ | refine zcu ?_ | refine zcx ?_ | refine zda ?_) | (refine zdb ?_; first | refine zdc ?_ | refine zdd ?_ | refine zdg ?_ | refine zdh ?_)
    exact done_ret1 rfl (⟨g, c, P, a, b, ⟨r, at_ + 2 * (k : Int), seed1⟩⟩ : Dp) rfl ⟨⟨hc1, by simp only [maxLen]; omega⟩, hd, rfl⟩ (List.Sublist.refl _)
  have hlt : (0 : Int) < (n : Int) - k := of_decide_eq_true hd1
  clear hd1
  have hp1 := pick_fn w1 gs L (at_ + 2 * (k : Int)) seed1 33 (by omega) (by omega) hL
  repeat first | refine zaa rfl (zay rfl) ?_ | refine zaa rfl (zaz rfl) ?_ | (refine zac ?_; first | refine zaa rfl (zba rfl rfl rfl) ?_ | refine zaa rfl (zbc (x := r2) (y := 16) rfl rfl (by omega)) ?_) | refine zaa rfl (zby rfl) ?_ | refine zah ?_ | (refine zcr ?_; refine zcs ?_) | (refine zdb ?_; first | refine zdc ?_ | refine zdd ?_ | refine zde ?_ | refine zdf ?_) | (refine rs_callAt 1 hp1 rfl rfl rfl (Takes.srcP hk hg (Takes.same Takes.nil)) rfl ?_; rintro ⟨r2, a2, s2⟩ ⟨hr1, hr2, hr3⟩; simp only at hr1 hr2 hr3)
  have hp2 := pick_fn w1 gs L a2 s2 33 (by omega) (by omega) hL
  repeat first | (refine zac ?_; first | refine zaa rfl (zba rfl rfl rfl) ?_ | refine zaa rfl (zbc (x := r4) (y := 16) rfl rfl (by omega)) ?_) | (refine zad ?_; refine zaa rfl (zbr rfl rfl) ?_) | refine zaa rfl (zby rfl) ?_ | (refine rs_callAt 1 hp2 rfl rfl rfl (Takes.srcP hk hg (Takes.same Takes.nil)) rfl ?_; rintro ⟨r4, a4, s4⟩ ⟨hr5, hr6, hr7⟩; simp only at hr5 hr6 hr7) | refine zaa rfl (zco rfl rfl rfl rfl rfl rfl) ?_
  refine rs_appendC 0 (putU k (qtF (r2 - 16), qtF (r4 - 16)) P) rfl rfl rfl rfl ⟨hc1, by simp only [maxLen]; omega⟩ (by omega) rfl rfl (putU_at _ _ _) (fun s h => putU_ne _ _ (by omega)) fun g3 c3 h3 h3' => ?_
  repeat first | refine zaa rfl (zay rfl) ?_ | refine zaa rfl (zaz rfl) ?_ | (refine zac ?_; refine zaa rfl (zbc rfl rfl (by omega)) ?_) | refine zah ?_ | (refine zcr ?_; first | refine zcs ?_ | refine zcv ?_) | (refine zdb ?_; refine zdd ?_)
  refine done_round (k + 1, ⟨g3, c3, putU k (qtF (r2 - 16), qtF (r4 - 16)) P, putU k (r2 - 16) a, putU k (r4 - 16) b, ⟨r4, a4, s4⟩⟩) ⟨by simp only; omega, ⟨h3, h3'⟩, hd.put (by omega) (by omega), by simp only; omega⟩ (by simp only; omega) ?_ (fun _ h => h)
  simp only
  rw [show (n : Int) - ((k + 1 : Nat) : Int) = (n : Int) - k - 1 from by omega]
  (repeat (first | exact Env.sub_nil _ | refine Env.sub_cons rfl ?_))
end Go.Ab
namespace Go.Ab
variable {R : World → Prop} [RStab R]
section
variable {P : Program} {N : Nat} {S S' W : World → Prop} {e F : Env} {Q : Exit → Env → World → Prop} {ops : Array Oper} {ix D : List Nat}
/-- What is left of a region only tells: all of it, whenever it comes. -/
theorem gp_pure (ix : List Nat) {e0 : Env} [Cl W] [Cl S] (hchk : drawOkP ops ix = true) (hdis : ∀ i ∈ ix, i ∉ D) (hW : ∀ w, S w → W w)
    (h : Run1 P N W ops (pickOps ops ix) e0 (fun F => stillE F = true ∧ GP P N ops ix W D F S Q)) : GP P N ops [] (fun _ => True) D e0 S Q := by
  unfold drawOkP at hchk
  simp only [Bool.and_eq_true, List.all_eq_true, List.mem_range, decide_eq_true_eq] at hchk
  obtain ⟨⟨h1, hnd⟩, h2⟩ := hchk
  obtain ⟨ps, hlen, ⟨hst, hG⟩, hall⟩ := run1_spec h
  have hlen' : ps.length = ix.length := by rw [hlen]; simp [pickOps]
  have hback : ∀ k o, ops[k]? = some o → ∀ j ∈ directs o, j < k := fun k o ho j hj => by
    have hk : k < ops.size := (Array.getElem?_eq_some_iff.1 ho).1
    have := h2 k hk
    simp only [ho, List.all_eq_true, decide_eq_true_eq] at this
    exact this j hj
  have hat : ∀ n i, ix[n]? = some i → ∃ o p, ops[i]? = some o ∧ ps[n]? = some p ∧ o.dst = some p.1 ∧ p.1 < N ∧ OpG P W ops (after1 (ps.take n) e0) o p.2 ∧ (∀ j ∈ ix, j ≠ i → gslot ops j ≠ some p.1) ∧ ∀ t ∈ looks ops o, ∀ j ∈ ix, gslot ops j = some t → ix.idxOf j < n ∧ j ∈ directs o := fun n i hn => by
    have hi := h1 i (List.mem_of_getElem? hn)
    have hnl : n < ps.length := by rw [hlen']; exact (List.getElem?_eq_some_iff.1 hn).1
    cases ho : ops[i]? with
    | none => simp [ho] at hi
    | some o =>
      simp only [ho, Bool.and_eq_true, List.all_eq_true, Bool.or_eq_true, beq_iff_eq, bne_iff_ne, decide_eq_true_eq, List.contains_iff_mem] at hi
      obtain ⟨⟨_, hu⟩, hl⟩ := hi
      have hp : ps[n]? = some (ps[n]'hnl) := by simp
      obtain ⟨g1, g2, g3⟩ := hall n o _ (by simp [pickOps, hn, ho]) hp
      refine ⟨o, _, rfl, hp, g1, g2, g3, fun j hj hne hg => (hu j hj).resolve_left hne (by rw [hg, g1]), fun t ht j hj hg => ?_⟩
      have := (hl t ht j hj).resolve_left (fun hne => hne hg)
      rw [nodup_idx hnd hn] at this
      exact this
  have hslot : ∀ (n i : Nat) (p : Nat × AV), ix[n]? = some i → ps[n]? = some p → gslot ops i = some p.1 := fun n i p hn hp => by
    obtain ⟨o, p', ho, hp', hd, _⟩ := hat n i hn
    rw [hp'] at hp; cases hp
    simp [gslot, ho, hd]
  have hpsix : ∀ (n : Nat) (p : Nat × AV), ps[n]? = some p → ∃ i, ix[n]? = some i := fun n p hp => ⟨_, List.getElem?_eq_getElem (by rw [← hlen']; exact (List.getElem?_eq_some_iff.1 hp).1)⟩
  -- values by slots
  have hval : ∀ (n : Nat) (p : Nat × AV), ps[n]? = some p → Env.look (after1 ps e0) p.1 = some p.2 := fun n p hp => by
    unfold after1
    rw [look_append]
    obtain ⟨i, hi⟩ := hpsix n p hp
    have hgi := hslot n i p hi hp
    have hex : ∃ v, Env.look ps.reverse p.1 = some v := by
      cases hl : Env.look ps.reverse p.1 with
      | some v => exact ⟨v, rfl⟩
      | none =>
        exfalso
        refine (look_none_iff _ _).1 hl ?_
        rw [List.map_reverse, List.mem_reverse]
        exact List.mem_map.2 ⟨p, List.mem_of_getElem? hp, rfl⟩
    obtain ⟨v, hv⟩ := hex
    simp only [hv]
    have hmem := List.mem_reverse.1 (look_mem _ _ _ hv)
    obtain ⟨m, hm'⟩ := List.mem_iff_getElem?.1 hmem
    obtain ⟨j, hj⟩ := hpsix m _ hm'
    have hgj := hslot m j _ hj hm'
    have hij : j = i := by
      false_or_by_contra
      rename_i hne
      obtain ⟨o, p', ho, hp', hd, _, _, hu, _⟩ := hat n i hi
      rw [hp'] at hp; cases hp
      exact hu j (List.mem_of_getElem? hj) hne hgj
    subst hij
    have hmn : m = n := by rw [← nodup_idx hnd hj, ← nodup_idx hnd hi]
    subst hmn
    exact congrArg (fun q : Nat × AV => some q.2) (Option.some.inj (hm'.symm.trans hp))
  have hpure : PureAt P N W ops ix (after1 ps e0) := fun i hi => by
    obtain ⟨n, hn⟩ := List.mem_iff_getElem?.1 hi
    obtain ⟨o, p, ho, hp, hd, hN, hG', hu, hl⟩ := hat n i hn
    refine ⟨o, p.1, p.2, after1 (ps.take n) e0, ho, hd, hN, hval n p hp, hG', hu, fun t ht => ⟨fun y hy => ?_, fun j hj hg => (hl t ht j hj hg).2⟩⟩
    unfold after1 at hy
    rw [look_append] at hy
    cases hq : Env.look (ps.take n).reverse t with
    | some x =>
      simp only [hq, Option.some.injEq] at hy; subst hy
      obtain ⟨m, hm'⟩ := List.mem_iff_getElem?.1 (List.mem_reverse.1 (look_mem _ _ _ hq))
      rw [List.getElem?_take] at hm'
      split at hm'
      · exact hval m (t, x) hm'
      · cases hm'
    | none =>
      simp only [hq] at hy
      unfold after1
      rw [look_append]
      cases hq2 : Env.look ps.reverse t with
      | none => exact hy
      | some x =>
        exfalso
        obtain ⟨m, hm'⟩ := List.mem_iff_getElem?.1 (List.mem_reverse.1 (look_mem _ _ _ hq2))
        obtain ⟨j, hj⟩ := hpsix m _ hm'
        obtain ⟨hjn, _⟩ := hl t ht j (List.mem_of_getElem? hj) (hslot m j _ hj hm')
        rw [nodup_idx hnd hj] at hjn
        refine (look_none_iff _ _).1 hq ?_
        rw [List.map_reverse, List.mem_reverse]
        exact List.mem_map.2 ⟨(t, x), List.mem_iff_getElem?.2 ⟨m, by rw [List.getElem?_take, if_pos hjn]; exact hm'⟩, rfl⟩
  intro _ _ _ _ fuel L a w hI hfuel
  refine hG hpure hback hW hst fuel L a w ⟨hI.hL, hI.hd, hI.hS, hI.df, hI.sz, fun k hk => .inl ((hI.only k hk).resolve_right (by simp)), hI.done, fun t v ht hc => ?_⟩ hfuel
  unfold after1 at ht
  rw [look_append] at ht
  cases hq : Env.look ps.reverse t with
  | some x =>
    obtain ⟨m, hm'⟩ := List.mem_iff_getElem?.1 (List.mem_reverse.1 (look_mem _ _ _ hq))
    obtain ⟨j, hj⟩ := hpsix m _ hm'
    have hLj := (hI.only j (hc j (List.mem_of_getElem? hj) (hslot m j _ hj hm'))).resolve_right (by simp)
    exact absurd hLj (hdis j (List.mem_of_getElem? hj))
  | none =>
    simp only [hq] at ht
    exact hI.facts t v ht (fun i hi => by cases hi)
end
end Go.Ab
namespace Go.Ab
open Go.Proofs
section
variable {P : Program} {S : World → Prop} {e : Env} {dst : Option Tmp} {ty : TypeId} {pos : String} {after : Array Edge} {guard : Option (Nat × Bool)} {w0 : World} {gs : List Nat} {H : List Ent} {R : World → Prop} [RStab R]
theorem effj_storeAG (k : Nat) {en : Ent} {i : Nat} {t : TypeId} {z : Value} {sz b : Nat} [hi : TyI P t z sz b] {A X : Operand} {ys : List AV} (hA : e.ev A = some (.raw (.pointer (some ⟨en.g, i, none⟩)))) (hx : e.ev X = some (.agg ys)) (h1 : OneL ys) (hs : AV.stillL ys = true)
    (hH : H[k]? = some en) (hl : ys.length = sz) (hi' : i + sz ≤ en.xs.length) (hc : en.xs.length = en.csz) :
    EffJ P (StR R w0 gs H) (StR R w0 gs (H.set k { en with xs := splice i ys en.xs })) e ⟨none, .store t A X, ty, pos, after, none⟩ := by
  intro a w K Q hS ho hK
  have h2 := (ho A (by simp [Op.operands]) _ hA).inv_raw
  obtain ⟨vs, hv, hr⟩ := (ho X (by simp [Op.operands]) _ hx).inv_agg
  have hvl : vs.length = sz := by rw [hr.length, hl]
  have hmem : en ∈ H := List.mem_of_getElem? hH
  obtain ⟨cur, hb, hcs, hcx⟩ := (hS.own en hmem).2
  have hone : ∀ v ∈ vs, v.oneCell' = true := fun v hv' => by
    obtain ⟨j, hj⟩ := List.mem_iff_getElem?.1 hv'
    have hjl : j < ys.length := by rw [← hr.length]; exact (List.getElem?_eq_some_iff.1 hj).1
    obtain ⟨u, hu, hru⟩ := hr.get (List.getElem?_eq_getElem hjl)
    rw [hj] at hu; cases hu
    exact h1 _ (List.getElem_mem _) _ _ hru
  have hst := run_storeCells_at (P := P) en.g i en.T vs 0 cur w hb (by omega) hone
  have hrun : (execOp a.eval ⟨none, .store t A X, ty, pos, after, none⟩).run P w = .ok .skip (w.setRow en.g (cur.toList.take (i + 0) ++ vs ++ cur.toList.drop (i + 0 + vs.length)).toArray) := by
    have hcs' : (Value.agg vs.toArray).cells = vs.toArray := rfl
    simp [execOp, h2, hv, Instr.storeAt, Instr.sureAddr, storeVar, run_size hi, hcs', hvl, hst]
  simp only [Nat.add_zero] at hrun
  unfold Oper.wp
  rw [hrun]
  have hrow : ((w.setRow en.g (cur.toList.take i ++ vs ++ cur.toList.drop (i + vs.length)).toArray)).heap[en.g]? = some (.cells (cur.toList.take i ++ vs ++ cur.toList.drop (i + vs.length)).toArray en.T (0, 0)) := setRow_heap w en.g cur _ en.T _ hb
  have hto : (cur.toList.take i).length = i := by simp; omega
  have hto' : (en.xs.take i).length = i := by simp; omega
  refine hK _ (hS.updAt (e' := { en with xs := splice i ys en.xs }) hH ?_ (.inl rfl) ?_)
  · refine ⟨rfl, rfl, rfl, by simp, fun k _ hk => setRow_other w en.g k _ (fun e => hk (by simp [e]))⟩
  · refine ⟨_, hrow, ?_, fun j x hj => ?_⟩
    · simp only [List.size_toArray, List.length_append, List.length_drop, hto, Array.length_toList, hvl]; omega
    · simp only [splice] at hj
      simp only [List.getElem?_toArray]
      rcases Nat.lt_or_ge j i with h | h
      · rw [List.append_assoc, List.getElem?_append_left (by omega), List.getElem?_take, if_pos h] at hj
        obtain ⟨u, hu, hev⟩ := hcx j x hj
        exact ⟨u, by rw [List.append_assoc, List.getElem?_append_left (by omega), List.getElem?_take, if_pos h]; simpa using hu, hev⟩
      · rcases Nat.lt_or_ge j (i + sz) with h' | h'
        · rw [List.append_assoc, List.getElem?_append_right (by omega), hto', List.getElem?_append_left (by omega)] at hj
          obtain ⟨u, hu, hru⟩ := hr.get hj
          refine ⟨u, ?_, hru.ev (still_mem hs x (List.mem_of_getElem? hj))⟩
          rw [List.append_assoc, List.getElem?_append_right (by omega), hto, List.getElem?_append_left (by omega)]
          exact hu
        · rw [List.getElem?_append_right (by simp; omega), List.getElem?_drop] at hj
          have e1 : i + ys.length + (j - (en.xs.take i ++ ys).length) = j := by simp; omega
          rw [e1] at hj
          obtain ⟨u, hu, hev⟩ := hcx j x hj
          refine ⟨u, ?_, hev⟩
          rw [List.getElem?_append_right (by simp; omega), List.getElem?_drop]
          have e2 : i + vs.length + (j - (cur.toList.take i ++ vs).length) = j := by simp; omega
          rw [e2]
          simpa using hu
theorem effj_storeAX (k : Nat) {g i c : Nat} {T : TypeId} {xs zs : List AV} {t : TypeId} {z : Value} {sz b : Nat} [hi : TyI P t z sz b] {A X : Operand} {ys : List AV} (hA : e.ev A = some (.raw (.pointer (some ⟨g, i, none⟩)))) (hx : e.ev X = some (.agg ys)) (h1 : ys.all AV.one = true) (hs : AV.stillL ys = true)
    (hH : H[k]? = some ⟨g, T, xs, c⟩) (hl : ys.length = sz) (hi' : Nat.ble (i + sz) xs.length = true) (hc : xs.length = c) (hz : splice i ys xs = zs) :
    EffJ P (StR R w0 gs H) (StR R w0 gs (H.set k ⟨g, T, zs, c⟩)) e ⟨none, .store t A X, ty, pos, after, none⟩ := by
  subst hz
  exact effj_storeAG k (en := ⟨g, T, xs, c⟩) hA hx (oneL_of h1) hs hH hl (Nat.le_of_ble_eq_true hi') hc
end
end Go.Ab
namespace Go.Ab
open Go.Proofs
variable {R : World → Prop} [RStab R]
section
variable {P : Program} {t el : TypeId} {S : World → Prop} {N : Nat} {e : Env} {Q : Exit → Env → World → Prop} {ops : Array Oper} {l : List Oper} {dst : Option Tmp} {ty : TypeId} {pos : String} {after : Array Edge} {guard : Option (Nat × Bool)}
variable {w0 : World} {gs : List Nat} {H : List Ent}
theorem rs_storeC2 (k : Nat) (f' : Nat → CV) {g n c : Nat} {i : Int} {f : Nat → CV} {x : CV} {t : TypeId} {z : Value} {b : Nat} [hi : TyI P t z 1 b] {A X : Operand}
    (hA : e.ev A = some (.raw (.pointer (some ⟨g, i.toNat * 1, none⟩)))) (hx : e.ev X = some (cA x)) (hH : H[k]? = some (entC g n f c)) (h0 : 0 ≤ i ∧ i < n ∧ n ≤ c)
    (hf : f' i.toNat = x) (hf' : ∀ s, s < n → s ≠ i.toNat → f' s = f s)
    (hk : RS P N ops l e.keep (StR R w0 gs (H.set k (entC g n f' c))) Q) :
    RS P N ops (⟨none, .store t A X, ty, pos, after, none⟩ :: l) e (StR R w0 gs H) Q := by
  have hn : i.toNat < n := by omega
  refine rs_storeAt k (en := entC g n f c) (i := i.toNat * 1) hA hx rfl hH (by simp only; omega) ?_
  have : ({ entC g n f c with xs := (entC g n f c).xs.set (i.toNat * 1) (cA x) } : Ent) = entC g n f' c := by
    simp only [entC, Nat.mul_one]
    rw [← List.map_set, tabC_set hn hf hf']
  rw [this]
  exact hk
end
attribute [local irreducible] WS RS Done OpJ Then InBlock Round Ret Env.sub FnH
attribute [local irreducible] tab tabC
set_option maxRecDepth 100000 in
set_option maxHeartbeats 4000000 in
theorem moveCorner_fn {d n : Nat} {f : Int → FV} {P : Nat → CV} {a : Int → Int} (h : SpOk d n f P a) {i : Nat} (hi : i < n) {q : CV} (hq : finC q = true) :
    FnH (X := (Nat × Nat) × Nat × Nat) Try.prog 13 (fun w => [splA w d n f P, .raw (.int .i64 (i : Int)), cA q]) [] (fun y => .tup [splO y.1.1 y.1.2 d n y.2.1 y.2.2, .raw (.bool true)])
      (fun y => [entF y.1.1 29 (n + d + 1) f y.2.1, entC y.1.2 n (putU i q P) y.2.2]) (fun y => (n + d + 1 ≤ y.2.1 ∧ y.2.1 ≤ maxLen) ∧ n ≤ y.2.2 ∧ y.2.2 ≤ maxLen) := by
  obtain ⟨d1, d2⟩ := h.d1
  obtain ⟨n1, n2⟩ := h.n1
  have hV := validSpline_fn h
  have hW := within_fn (i : Int) 0 ((n : Int) - 1)
  rw [decide_eq_true (show (0 : Int) ≤ i by omega), decide_eq_true (show (i : Int) ≤ (n : Int) - 1 by omega)] at hW
  have hQ := isFiniteComplex_fn q
  rw [hq] at hQ
  have hCF := cloneFU_fn (n + d + 1) f (by omega) (by omega)
  have hCC := cloneC_fn n P (by omega) (by omega)
  refine fn_intro Try.func13 rfl Try.ntmps13 (fun _ => Nat.le_of_ble_eq_true rfl) fun w0 => ?_
  repeat first | refine zai rfl rfl ?_ | refine zaa rfl (zay rfl) ?_ | refine zaa rfl (zaz rfl) ?_ | (refine zac ?_; refine zaa rfl (zbc rfl rfl (by omega)) ?_) | (refine zad ?_; first | refine zaa rfl (opj_lenC rfl) ?_ | (refine zaa rfl (zci rfl rfl (hW) ?_) ?_; (focus ((repeat (first | exact Takes.nil | refine Takes.sl ?_ | refine Takes.lit ?_ | refine Takes.fa ?_ | refine Takes.fc ?_ | refine Takes.net ?_ | (refine Takes.ownE ?_ ?_ ?_ ?_ ?_; (focus (exact ⟨_, _, (by (repeat (first | exact mh | refine mt ?_)); done)⟩)); (focus (simp; done)); (focus omega); (focus (simp only [maxLen]; omega))) | refine Takes.same ?_)); done))) | (refine zaa rfl (zci rfl rfl (hQ) ?_) ?_; (focus ((repeat (first | exact Takes.nil | refine Takes.sl ?_ | refine Takes.lit ?_ | refine Takes.fa ?_ | refine Takes.fc ?_ | refine Takes.net ?_ | (refine Takes.ownE ?_ ?_ ?_ ?_ ?_; (focus (exact ⟨_, _, (by (repeat (first | exact mh | refine mt ?_)); done)⟩)); (focus (simp; done)); (focus omega); (focus (simp only [maxLen]; omega))) | refine Takes.same ?_)); done)))) | (refine zae ?_; first | refine zaa rfl (zcf rfl rfl (by (repeat (first | exact mh | refine mt ?_)); done) rfl) ?_ | refine zaa rfl (zcg rfl rfl (by (repeat (first | exact mh | refine mt ?_)); done) rfl rfl) ?_) | refine zaa rfl (zcd rfl) ?_ | refine zaa rfl (zcb rfl rfl) ?_ | refine zaa rfl (zcc rfl) ?_ | refine zah ?_ | (refine zcr ?_; refine zcs ?_) | (refine zdb ?_; first | refine zdc ?_ | refine zdd ?_ | refine zdf ?_ | refine zdj rfl ?_) | (refine zak rfl rfl rfl ?_; intro gx) | (refine zal rfl rfl ?_; intro gr) | refine zaa rfl (zci rfl rfl hV (Takes.spl Takes.nil)) ?_
  clear hV hW hQ
  refine ws_drawP (ix := [0, 1, 2, 3, 5, 6]) (W := St w0 [] [⟨gr, 27, [.raw (.int .i64 0), .raw (.slice none 0 0), .raw (.slice none 0 0)], 3⟩, ⟨gx, 27, [.raw (.int .i64 (d : Int)), AV.sl w0 1 ((tab (n + d + 1) f).map (AV.f .f32)), slC w0 (tabC n P)], 3⟩]) mixed (by decide +kernel) (fun _ h => h) ?_
  repeat first | (refine zat ?_; refine zap rfl (zcf rfl rfl (by (repeat (first | exact mh | refine mt ?_)); done) rfl) ?_) | refine zap rfl (zcd rfl) ?_ | refine zav ?_
  refine ⟨rfl, ?_⟩
  refine gp_name fun o ho Q' hQ => ?_
  have q4 := op_at (i := 4) ho rfl
  have q7 := op_at (i := 7) ho rfl
  have q8 := op_at (i := 8) ho rfl
  have q9 := op_at (i := 9) ho rfl
  have q10 := op_at (i := 10) ho rfl
  refine gp_step [4, 9] (by rw [ho]; decide +kernel) fun x hx => ?_
  rcases (show x = 4 ∨ x = 9 by simpa using hx) with rfl | rfl
  · skip
    refine sp_call q4 (by rw [ho]; decide +kernel) rfl hCF rfl rfl (by (repeat (first | exact Takes.nil | refine Takes.sl ?_ | refine Takes.lit ?_ | refine Takes.fa ?_ | refine Takes.fc ?_ | refine Takes.net ?_ | (refine Takes.ownE ?_ ?_ ?_ ?_ ?_; (focus (exact ⟨_, _, (by (repeat (first | exact mh | refine mt ?_)); done)⟩)); (focus (simp; done)); (focus omega); (focus (simp only [maxLen]; omega))) | refine Takes.same ?_)); done) (fun _ _ => rfl) ?_
    rintro ⟨gk, ck⟩ hck
    dsimp only at hck
    refine cont_go (fun _ h => h.weak (.cons _ (List.Sublist.refl _))) ?_
    refine gp_step [7, 9] (by rw [ho]; decide +kernel) fun x hx => ?_
    rcases (show x = 7 ∨ x = 9 by simpa using hx) with rfl | rfl
    · skip
      refine sp_call q7 (by rw [ho]; decide +kernel) rfl hCC rfl rfl (by (repeat (first | exact Takes.nil | refine Takes.sl ?_ | refine Takes.lit ?_ | refine Takes.fa ?_ | refine Takes.fc ?_ | refine Takes.net ?_ | (refine Takes.ownE ?_ ?_ ?_ ?_ ?_; (focus (exact ⟨_, _, (by (repeat (first | exact mh | refine mt ?_)); done)⟩)); (focus (simp; done)); (focus omega); (focus (simp only [maxLen]; omega))) | refine Takes.same ?_)); done) (fun _ _ => rfl) ?_
      rintro ⟨gc, cc⟩ hcc
      dsimp only at hcc
      refine cont_go (fun _ h => h.weak (.cons _ (.cons _ (List.Sublist.refl _)))) ?_
      refine gp_step [8, 9] (by rw [ho]; decide +kernel) fun x hx => ?_
      rcases (show x = 8 ∨ x = 9 by simpa using hx) with rfl | rfl
      · skip
        refine sp_op q8 (by rw [ho]; decide +kernel) rfl (opj_build3 rfl rfl rfl) rfl (cont_set (by rw [ho]; decide +kernel) rfl ?_)
        refine gp_step [9] (by rw [ho]; decide +kernel) fun x hx => ?_
        obtain rfl : x = 9 := by simpa using hx
        refine sp_makes q9 rfl (by rw [ho]; decide +kernel) rfl (makesX_alloc rfl rfl rfl) fun g8 => cont_go (fun _ _ => trivial) ?_
        refine gp_step [10] (by rw [ho]; decide +kernel) fun x hx => ?_
        obtain rfl : x = 10 := by simpa using hx
        refine sp_eff q10 (by rw [ho]; decide +kernel) (effj_storeAX 0 rfl rfl rfl rfl rfl rfl rfl rfl rfl) (cont_go (fun _ _ => trivial) ?_)
        refine gp_end (by rw [ho]; decide +kernel) ?_
        rw [hQ]
        repeat first | refine zaa rfl (zay rfl) ?_ | (refine zae ?_; refine zaa rfl (zcf rfl rfl (by (repeat (first | exact mh | refine mt ?_)); done) rfl) ?_) | (refine zaf ?_; refine zaa rfl (zbw rfl rfl (by omega) (by omega)) ?_) | refine zaa rfl (zcd rfl) ?_ | (refine zcr ?_; refine zcs ?_) | (refine zdb ?_; first | refine zdc ?_ | refine zdd ?_)
        refine RS.st (S' := StR (fun _ => True) w0 [] [entF gk 29 (n + d + 1) f ck, entC gc n P cc, ⟨g8, 27, [.raw (.int .i64 (d : Int)), .raw (.slice (some ⟨gk, 0, none⟩) (n + d + 1) ck), .raw (.slice (some ⟨gc, 0, none⟩) n cc)], 3⟩, ⟨gr, 27, [.raw (.int .i64 0), .raw (.slice none 0 0), .raw (.slice none 0 0)], 3⟩, ⟨gx, 27, [.raw (.int .i64 (d : Int)), AV.sl w0 1 ((tab (n + d + 1) f).map (AV.f .f32)), slC w0 (tabC n P)], 3⟩]) ?_ (fun w hw => hw.sel [2, 1, 0, 3, 4] (by decide) rfl)
        refine rs_storeC2 1 (putU i q P) (i := (i : Int)) rfl rfl rfl ⟨by omega, by omega, hcc.1⟩ (by rw [Int.toNat_natCast]; exact putU_at _ _ _) (fun s _ hs => putU_ne _ _ (by simpa using hs)) ?_
        repeat first | (refine zae ?_; refine zaa rfl (zcg rfl rfl (by (repeat (first | exact mh | refine mt ?_)); done) rfl rfl) ?_) | refine zah ?_ | (refine zcr ?_; refine zcs ?_) | (refine zdb ?_; first | refine zdc ?_ | refine zdd ?_)
        refine zan 3 rfl rfl rfl rfl rfl rfl rfl rfl rfl ?_
        repeat first | refine zaa rfl (zaz rfl) ?_ | refine zah ?_ | (refine zcr ?_; refine zcs ?_) | (refine zdb ?_; refine zdg ?_)
        exact done_retCX rfl rfl ((gk, gc), ck, cc) rfl rfl (mt (mt (mt mh))) rfl rfl rfl ⟨hck, hcc⟩ (.cons_cons _ (.cons_cons _ (List.nil_sublist _)))
      · skip
        refine sp_makes q9 rfl (by rw [ho]; decide +kernel) rfl (makesX_alloc rfl rfl rfl) fun g8 => cont_go (fun _ h => h.weak (.cons _ (.cons _ (.cons _ (List.Sublist.refl _))))) ?_
        refine gp_step [8] (by rw [ho]; decide +kernel) fun x hx => ?_
        obtain rfl : x = 8 := by simpa using hx
        refine sp_op q8 (by rw [ho]; decide +kernel) rfl (opj_build3 rfl rfl rfl) rfl (cont_set (by rw [ho]; decide +kernel) rfl ?_)
        refine gp_step [10] (by rw [ho]; decide +kernel) fun x hx => ?_
        obtain rfl : x = 10 := by simpa using hx
        refine sp_eff q10 (by rw [ho]; decide +kernel) (effj_storeAX 0 rfl rfl rfl rfl rfl rfl rfl rfl rfl) (cont_go (fun _ _ => trivial) ?_)
        refine gp_end (by rw [ho]; decide +kernel) ?_
        rw [hQ]
        repeat first | refine zaa rfl (zay rfl) ?_ | (refine zae ?_; refine zaa rfl (zcf rfl rfl (by (repeat (first | exact mh | refine mt ?_)); done) rfl) ?_) | (refine zaf ?_; refine zaa rfl (zbw rfl rfl (by omega) (by omega)) ?_) | refine zaa rfl (zcd rfl) ?_ | (refine zcr ?_; refine zcs ?_) | (refine zdb ?_; first | refine zdc ?_ | refine zdd ?_)
        refine RS.st (S' := StR (fun _ => True) w0 [] [entF gk 29 (n + d + 1) f ck, entC gc n P cc, ⟨g8, 27, [.raw (.int .i64 (d : Int)), .raw (.slice (some ⟨gk, 0, none⟩) (n + d + 1) ck), .raw (.slice (some ⟨gc, 0, none⟩) n cc)], 3⟩, ⟨gr, 27, [.raw (.int .i64 0), .raw (.slice none 0 0), .raw (.slice none 0 0)], 3⟩, ⟨gx, 27, [.raw (.int .i64 (d : Int)), AV.sl w0 1 ((tab (n + d + 1) f).map (AV.f .f32)), slC w0 (tabC n P)], 3⟩]) ?_ (fun w hw => hw.sel [2, 1, 0, 3, 4] (by decide) rfl)
        refine rs_storeC2 1 (putU i q P) (i := (i : Int)) rfl rfl rfl ⟨by omega, by omega, hcc.1⟩ (by rw [Int.toNat_natCast]; exact putU_at _ _ _) (fun s _ hs => putU_ne _ _ (by simpa using hs)) ?_
        repeat first | (refine zae ?_; refine zaa rfl (zcg rfl rfl (by (repeat (first | exact mh | refine mt ?_)); done) rfl rfl) ?_) | refine zah ?_ | (refine zcr ?_; refine zcs ?_) | (refine zdb ?_; first | refine zdc ?_ | refine zdd ?_)
        refine zan 3 rfl rfl rfl rfl rfl rfl rfl rfl rfl ?_
        repeat first | refine zaa rfl (zaz rfl) ?_ | refine zah ?_ | (refine zcr ?_; refine zcs ?_) | (refine zdb ?_; refine zdg ?_)
        exact done_retCX rfl rfl ((gk, gc), ck, cc) rfl rfl (mt (mt (mt mh))) rfl rfl rfl ⟨hck, hcc⟩ (.cons_cons _ (.cons_cons _ (List.nil_sublist _)))
    · skip
      refine sp_makes q9 rfl (by rw [ho]; decide +kernel) rfl (makesX_alloc rfl rfl rfl) fun g8 => cont_go (fun _ h => h.weak (.cons _ (.cons _ (List.Sublist.refl _)))) ?_
      refine gp_step [7] (by rw [ho]; decide +kernel) fun x hx => ?_
      obtain rfl : x = 7 := by simpa using hx
      refine sp_call q7 (by rw [ho]; decide +kernel) rfl hCC rfl rfl (by (repeat (first | exact Takes.nil | refine Takes.sl ?_ | refine Takes.lit ?_ | refine Takes.fa ?_ | refine Takes.fc ?_ | refine Takes.net ?_ | (refine Takes.ownE ?_ ?_ ?_ ?_ ?_; (focus (exact ⟨_, _, (by (repeat (first | exact mh | refine mt ?_)); done)⟩)); (focus (simp; done)); (focus omega); (focus (simp only [maxLen]; omega))) | refine Takes.same ?_)); done) (fun _ _ => rfl) ?_
      rintro ⟨gc, cc⟩ hcc
      dsimp only at hcc
      refine cont_go (fun _ h => h.weak (.cons _ (.cons _ (.cons _ (List.Sublist.refl _))))) ?_
      refine gp_step [8] (by rw [ho]; decide +kernel) fun x hx => ?_
      obtain rfl : x = 8 := by simpa using hx
      refine sp_op q8 (by rw [ho]; decide +kernel) rfl (opj_build3 rfl rfl rfl) rfl (cont_set (by rw [ho]; decide +kernel) rfl ?_)
      refine gp_step [10] (by rw [ho]; decide +kernel) fun x hx => ?_
      obtain rfl : x = 10 := by simpa using hx
      refine sp_eff q10 (by rw [ho]; decide +kernel) (effj_storeAX 1 rfl rfl rfl rfl rfl rfl rfl rfl rfl) (cont_go (fun _ _ => trivial) ?_)
      refine gp_end (by rw [ho]; decide +kernel) ?_
      rw [hQ]
      repeat first | refine zaa rfl (zay rfl) ?_ | (refine zae ?_; refine zaa rfl (zcf rfl rfl (by (repeat (first | exact mh | refine mt ?_)); done) rfl) ?_) | (refine zaf ?_; refine zaa rfl (zbw rfl rfl (by omega) (by omega)) ?_) | refine zaa rfl (zcd rfl) ?_ | (refine zcr ?_; refine zcs ?_) | (refine zdb ?_; first | refine zdc ?_ | refine zdd ?_)
      refine RS.st (S' := StR (fun _ => True) w0 [] [entF gk 29 (n + d + 1) f ck, entC gc n P cc, ⟨g8, 27, [.raw (.int .i64 (d : Int)), .raw (.slice (some ⟨gk, 0, none⟩) (n + d + 1) ck), .raw (.slice (some ⟨gc, 0, none⟩) n cc)], 3⟩, ⟨gr, 27, [.raw (.int .i64 0), .raw (.slice none 0 0), .raw (.slice none 0 0)], 3⟩, ⟨gx, 27, [.raw (.int .i64 (d : Int)), AV.sl w0 1 ((tab (n + d + 1) f).map (AV.f .f32)), slC w0 (tabC n P)], 3⟩]) ?_ (fun w hw => hw.sel [2, 0, 1, 3, 4] (by decide) rfl)
      refine rs_storeC2 1 (putU i q P) (i := (i : Int)) rfl rfl rfl ⟨by omega, by omega, hcc.1⟩ (by rw [Int.toNat_natCast]; exact putU_at _ _ _) (fun s _ hs => putU_ne _ _ (by simpa using hs)) ?_
      repeat first | (refine zae ?_; refine zaa rfl (zcg rfl rfl (by (repeat (first | exact mh | refine mt ?_)); done) rfl rfl) ?_) | refine zah ?_ | (refine zcr ?_; refine zcs ?_) | (refine zdb ?_; first | refine zdc ?_ | refine zdd ?_)
      refine zan 3 rfl rfl rfl rfl rfl rfl rfl rfl rfl ?_
      repeat first | refine zaa rfl (zaz rfl) ?_ | refine zah ?_ | (refine zcr ?_; refine zcs ?_) | (refine zdb ?_; refine zdg ?_)
      exact done_retCX rfl rfl ((gk, gc), ck, cc) rfl rfl (mt (mt (mt mh))) rfl rfl rfl ⟨hck, hcc⟩ (.cons_cons _ (.cons_cons _ (List.nil_sublist _)))
  · skip
    refine sp_makes q9 rfl (by rw [ho]; decide +kernel) rfl (makesX_alloc rfl rfl rfl) fun g8 => cont_go (fun _ h => h.weak (.cons _ (List.Sublist.refl _))) ?_
    refine gp_step [4] (by rw [ho]; decide +kernel) fun x hx => ?_
    obtain rfl : x = 4 := by simpa using hx
    refine sp_call q4 (by rw [ho]; decide +kernel) rfl hCF rfl rfl (by (repeat (first | exact Takes.nil | refine Takes.sl ?_ | refine Takes.lit ?_ | refine Takes.fa ?_ | refine Takes.fc ?_ | refine Takes.net ?_ | (refine Takes.ownE ?_ ?_ ?_ ?_ ?_; (focus (exact ⟨_, _, (by (repeat (first | exact mh | refine mt ?_)); done)⟩)); (focus (simp; done)); (focus omega); (focus (simp only [maxLen]; omega))) | refine Takes.same ?_)); done) (fun _ _ => rfl) ?_
    rintro ⟨gk, ck⟩ hck
    dsimp only at hck
    refine cont_go (fun _ h => h.weak (.cons _ (.cons _ (List.Sublist.refl _)))) ?_
    refine gp_step [7] (by rw [ho]; decide +kernel) fun x hx => ?_
    obtain rfl : x = 7 := by simpa using hx
    refine sp_call q7 (by rw [ho]; decide +kernel) rfl hCC rfl rfl (by (repeat (first | exact Takes.nil | refine Takes.sl ?_ | refine Takes.lit ?_ | refine Takes.fa ?_ | refine Takes.fc ?_ | refine Takes.net ?_ | (refine Takes.ownE ?_ ?_ ?_ ?_ ?_; (focus (exact ⟨_, _, (by (repeat (first | exact mh | refine mt ?_)); done)⟩)); (focus (simp; done)); (focus omega); (focus (simp only [maxLen]; omega))) | refine Takes.same ?_)); done) (fun _ _ => rfl) ?_
    rintro ⟨gc, cc⟩ hcc
    dsimp only at hcc
    refine cont_go (fun _ h => h.weak (.cons _ (.cons _ (.cons _ (List.Sublist.refl _))))) ?_
    refine gp_step [8] (by rw [ho]; decide +kernel) fun x hx => ?_
    obtain rfl : x = 8 := by simpa using hx
    refine sp_op q8 (by rw [ho]; decide +kernel) rfl (opj_build3 rfl rfl rfl) rfl (cont_set (by rw [ho]; decide +kernel) rfl ?_)
    refine gp_step [10] (by rw [ho]; decide +kernel) fun x hx => ?_
    obtain rfl : x = 10 := by simpa using hx
    refine sp_eff q10 (by rw [ho]; decide +kernel) (effj_storeAX 2 rfl rfl rfl rfl rfl rfl rfl rfl rfl) (cont_go (fun _ _ => trivial) ?_)
    refine gp_end (by rw [ho]; decide +kernel) ?_
    rw [hQ]
    repeat first | refine zaa rfl (zay rfl) ?_ | (refine zae ?_; refine zaa rfl (zcf rfl rfl (by (repeat (first | exact mh | refine mt ?_)); done) rfl) ?_) | (refine zaf ?_; refine zaa rfl (zbw rfl rfl (by omega) (by omega)) ?_) | refine zaa rfl (zcd rfl) ?_ | (refine zcr ?_; refine zcs ?_) | (refine zdb ?_; first | refine zdc ?_ | refine zdd ?_)
    refine RS.st (S' := StR (fun _ => True) w0 [] [entF gk 29 (n + d + 1) f ck, entC gc n P cc, ⟨g8, 27, [.raw (.int .i64 (d : Int)), .raw (.slice (some ⟨gk, 0, none⟩) (n + d + 1) ck), .raw (.slice (some ⟨gc, 0, none⟩) n cc)], 3⟩, ⟨gr, 27, [.raw (.int .i64 0), .raw (.slice none 0 0), .raw (.slice none 0 0)], 3⟩, ⟨gx, 27, [.raw (.int .i64 (d : Int)), AV.sl w0 1 ((tab (n + d + 1) f).map (AV.f .f32)), slC w0 (tabC n P)], 3⟩]) ?_ (fun w hw => hw.sel [1, 0, 2, 3, 4] (by decide) rfl)
    refine rs_storeC2 1 (putU i q P) (i := (i : Int)) rfl rfl rfl ⟨by omega, by omega, hcc.1⟩ (by rw [Int.toNat_natCast]; exact putU_at _ _ _) (fun s _ hs => putU_ne _ _ (by simpa using hs)) ?_
    repeat first | (refine zae ?_; refine zaa rfl (zcg rfl rfl (by (repeat (first | exact mh | refine mt ?_)); done) rfl rfl) ?_) | refine zah ?_ | (refine zcr ?_; refine zcs ?_) | (refine zdb ?_; first | refine zdc ?_ | refine zdd ?_)
    refine zan 3 rfl rfl rfl rfl rfl rfl rfl rfl rfl ?_
    repeat first | refine zaa rfl (zaz rfl) ?_ | refine zah ?_ | (refine zcr ?_; refine zcs ?_) | (refine zdb ?_; refine zdg ?_)
    exact done_retCX rfl rfl ((gk, gc), ck, cc) rfl rfl (mt (mt (mt mh))) rfl rfl rfl ⟨hck, hcc⟩ (.cons_cons _ (.cons_cons _ (List.nil_sublist _)))
end Go.Ab
