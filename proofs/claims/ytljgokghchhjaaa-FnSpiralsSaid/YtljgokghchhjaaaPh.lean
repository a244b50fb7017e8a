/- The point of the unit circle at some turns, as it is computed in 64-bit floats: what is computed is a number, and not great. No conditions. -/
import Derived.Test.YtljgokghchhjaaaRw
namespace Go.Ab

abbrev d0 : FV := fv .f64 0
abbrev d1 : FV := fv .f64 4607182418800017408
abbrev dQ : FV := fv .f64 4598175219545276416
abbrev dH : FV := fv .f64 4602678819172646912
abbrev dT : FV := fv .f64 4618760256179416344
abbrev dB : FV := fv .f64 4841369599423283200
abbrev dN : FV := fv .f64 14064741636278059008
theorem vl_d0 : Vl .f64 d0 0 := Vl.c (by decide +kernel)
theorem vl_d1 : Vl .f64 d1 1 := Vl.c (by decide +kernel)
theorem vl_dQ : Vl .f64 dQ (1 / 4) := Vl.c (by decide +kernel)
theorem vl_dH : Vl .f64 dH (1 / 2) := Vl.c (by decide +kernel)
theorem vl_dB : Vl .f64 dB (p2 52) := Vl.c (by decide +kernel)
theorem vl_dN : Vl .f64 dN (-p2 52) := Vl.c (by decide +kernel)
theorem vl_dT : ∃ q, Vl .f64 dT q ∧ 0 ≤ q ∧ q ≤ 13 / 2 := ⟨_, Vl.c (q := 884279719003555 / 140737488355328) (by decide +kernel), by decide +kernel, by decide +kernel⟩
theorem fit64 {q : Rat} (h : -p2 60 ≤ q) (h' : q ≤ p2 60) : Fit .f64 q := by
  have : p2 60 < p2 (ftop .f64) := by decide +kernel
  constructor <;> grind
theorem fit32 {q : Rat} (h : -p2 60 ≤ q) (h' : q ≤ p2 60) : Fit .f32 q := by
  have : p2 60 < p2 (ftop .f32) := by decide +kernel
  constructor <;> grind
theorem p60 : p2 60 = 1152921504606846976 := by decide +kernel
theorem p52 : p2 52 = 4503599627370496 := by decide +kernel
/-- A small multiple of a quarter can be written. -/
theorem rep_quarter (n : Int) (h : n.natAbs ≤ 1000) : Rep .f64 ((n : Rat) / 4) := by
  have e : (n : Rat) / 4 = (n : Rat) * p2 (-2) := by
    have : p2 (-2) = 1 / 4 := by decide +kernel
    rw [this]
    grind
  have hb : n.natAbs ≤ 2 ^ (FloatKind.f64.format.fractionBits + 1) := Nat.le_trans h (by decide)
  have hl : FloatKind.f64.format.leastPlace ≤ -2 := by decide
  rcases Int.le_total 0 n with h0 | h0
  · refine .inl ⟨n.natAbs, -2, hb, hl, ?_⟩
    rw [e, ← Rat.intCast_natCast]
    congr 2
    omega
  · refine .inr ⟨n.natAbs, -2, hb, hl, ?_⟩
    have : ((n.natAbs : Nat) : Rat) = -(n : Rat) := by
      rw [← Rat.intCast_natCast, ← Rat.intCast_neg]
      congr 1
      omega
    rw [e, this]
    grind
theorem rq (n : Int) (h : n.natAbs ≤ 1000) {q : Rat} (e : q = (n : Rat) / 4) : Rep .f64 q := e ▸ rep_quarter n h
/-- An operation whose exact answer lies between quarters. -/
theorem rnd_in {q r : Rat} (h : Rnd .f64 q r) (a b : Int) (ha : a.natAbs ≤ 1000) (hb : b.natAbs ≤ 1000) (h1 : (a : Rat) / 4 ≤ q) (h2 : q ≤ (b : Rat) / 4) : (a : Rat) / 4 ≤ r ∧ r ≤ (b : Rat) / 4 :=
  ⟨(h.side _ (rep_quarter a ha)).2 h1, (h.side _ (rep_quarter b hb)).1 h2⟩
theorem fitq {q : Rat} (a b : Int) (ha : a.natAbs ≤ 1000) (hb : b.natAbs ≤ 1000) (h1 : (a : Rat) / 4 ≤ q) (h2 : q ≤ (b : Rat) / 4) : Fit .f64 q := by
  have a1 : (-1000 : Rat) ≤ (a : Rat) := by
    have : ((-1000 : Int) : Rat) ≤ (a : Rat) := Rat.intCast_le_intCast.2 (by omega)
    exact this
  have a2 : (b : Rat) ≤ 1000 := by
    have : (b : Rat) ≤ ((1000 : Int) : Rat) := Rat.intCast_le_intCast.2 (by omega)
    exact this
  have := p60
  exact fit64 (by grind) (by grind)
/-- A sum, a difference, a product between quarters. -/
theorem add_in {x y : FV} {p q : Rat} (hx : Vl .f64 x p) (hy : Vl .f64 y q) (a b : Int) (ha : a.natAbs ≤ 1000) (hb : b.natAbs ≤ 1000) (h1 : (a : Rat) / 4 ≤ p + q) (h2 : p + q ≤ (b : Rat) / 4) : ∃ r, Vl .f64 (fbin .add .f64 x y) r ∧ (a : Rat) / 4 ≤ r ∧ r ≤ (b : Rat) / 4 := by
  obtain ⟨r, h, hr⟩ := vl_add hx hy (fitq a b ha hb h1 h2)
  exact ⟨r, h, rnd_in hr a b ha hb h1 h2⟩
theorem sub_in {x y : FV} {p q : Rat} (hx : Vl .f64 x p) (hy : Vl .f64 y q) (a b : Int) (ha : a.natAbs ≤ 1000) (hb : b.natAbs ≤ 1000) (h1 : (a : Rat) / 4 ≤ p - q) (h2 : p - q ≤ (b : Rat) / 4) : ∃ r, Vl .f64 (fbin .sub .f64 x y) r ∧ (a : Rat) / 4 ≤ r ∧ r ≤ (b : Rat) / 4 := by
  obtain ⟨r, h, hr⟩ := vl_sub hx hy (fitq a b ha hb h1 h2)
  exact ⟨r, h, rnd_in hr a b ha hb h1 h2⟩
theorem mul_in {x y : FV} {p q : Rat} (hx : Vl .f64 x p) (hy : Vl .f64 y q) (a b : Int) (ha : a.natAbs ≤ 1000) (hb : b.natAbs ≤ 1000) (h1 : (a : Rat) / 4 ≤ p * q) (h2 : p * q ≤ (b : Rat) / 4) : ∃ r, Vl .f64 (fbin .mul .f64 x y) r ∧ (a : Rat) / 4 ≤ r ∧ r ≤ (b : Rat) / 4 := by
  obtain ⟨r, h, hr⟩ := vl_mul hx hy (fitq a b ha hb h1 h2)
  exact ⟨r, h, rnd_in hr a b ha hb h1 h2⟩
/-- A product of bounded numbers. -/
theorem mul_bd {p q a b : Rat} (h1 : -a ≤ p) (h2 : p ≤ a) (h3 : -b ≤ q) (h4 : q ≤ b) : -(a * b) ≤ p * q ∧ p * q ≤ a * b := by
  have x1 := Rat.mul_nonneg (show 0 ≤ a - p by grind) (show 0 ≤ b - q by grind)
  have x2 := Rat.mul_nonneg (show 0 ≤ a + p by grind) (show 0 ≤ b + q by grind)
  have x3 := Rat.mul_nonneg (show 0 ≤ a - p by grind) (show 0 ≤ b + q by grind)
  have x4 := Rat.mul_nonneg (show 0 ≤ a + p by grind) (show 0 ≤ b - q by grind)
  constructor <;> grind

/-! The part behind the point. -/
def truncI : FV → Int
  | some b => ((FloatKind.f64.decode b).toInt .zero).getD 0
  | none => 0
def fracF (x : FV) : FV :=
  if cmpB .lss (fcmp .f64 (fbin .sub .f64 x (some (FloatKind.f64.nearest (truncI x)))) d0) then fbin .add .f64 (fbin .sub .f64 x (some (FloatKind.f64.nearest (truncI x)))) d1
  else fbin .sub .f64 x (some (FloatKind.f64.nearest (truncI x)))
/-- Not as great as 2 ^ 52. -/
def Sm (x : FV) : Prop := ∃ q, Vl .f64 x q ∧ -p2 52 ≤ q ∧ q ≤ p2 52
theorem trunc_ok {x : FV} (h : Sm x) : (∃ b, x = some b ∧ (FloatKind.f64.decode b).toInt .zero = some (truncI x)) ∧ -9223372036854775808 ≤ truncI x ∧ truncI x ≤ 9223372036854775807 ∧
    ∃ f, Vl .f64 (fbin .sub .f64 x (some (FloatKind.f64.nearest (truncI x)))) f ∧ -1 ≤ f ∧ f ≤ 1 := by
  obtain ⟨q, hv, h1, h2⟩ := h
  obtain ⟨b, s, m, e, rfl, hd, hq⟩ := hv
  obtain ⟨n, hn, ht⟩ := vl_trunc (k := .f64) ⟨b, s, m, e, rfl, hd, hq⟩
  have htr : truncI (some b) = n := by simp [truncI, hn]
  rw [htr]
  rw [p52] at h1 h2
  have hn1 : (-4503599627370497 : Rat) < n := by rcases ht with ⟨_, _, _⟩ | ⟨_, _, _⟩ <;> grind
  have hn2 : (n : Rat) < 4503599627370497 := by rcases ht with ⟨_, _, _⟩ | ⟨_, _, _⟩ <;> grind
  have hi1 : -4503599627370497 < n := Rat.intCast_lt_intCast.1 hn1
  have hi2 : n < 4503599627370497 := Rat.intCast_lt_intCast.1 hn2
  refine ⟨⟨b, rfl, hn⟩, by omega, by omega, ?_⟩
  have hni := vl_ofInt .f64 n (by have : FloatKind.f64.format.fractionBits = 52 := rfl; rw [this]; omega)
  obtain ⟨r, hr, hlo, hhi⟩ := sub_in ⟨b, s, m, e, rfl, hd, hq⟩ hni (-4) 4 (by decide) (by decide) (by rcases ht with ⟨_, _, _⟩ | ⟨_, _, _⟩ <;> grind) (by rcases ht with ⟨_, _, _⟩ | ⟨_, _, _⟩ <;> grind)
  exact ⟨r, hr, by grind, by grind⟩
theorem frac_vl {x : FV} (h : Sm x) : ∃ r, Vl .f64 (fracF x) r ∧ 0 ≤ r ∧ r ≤ 1 := by
  obtain ⟨_, _, _, f, hf, h1, h2⟩ := trunc_ok h
  unfold fracF
  rw [vl_lss hf vl_d0]
  by_cases h0 : f < 0
  · rw [decide_eq_true h0, if_pos rfl]
    obtain ⟨r, hr, hlo, hhi⟩ := add_in hf vl_d1 0 4 (by decide) (by decide) (by grind) (by grind)
    exact ⟨r, hr, by grind, by grind⟩
  · rw [decide_eq_false h0, if_neg (by decide)]
    exact ⟨f, hf, Rat.not_lt.1 h0, h2⟩
theorem sm_unit {x : FV} {q : Rat} (h : Vl .f64 x q) (h1 : -1 ≤ q) (h2 : q ≤ 1) : Sm x := ⟨q, h, by rw [p52]; grind, by rw [p52]; grind⟩

/-! The quarter in which a turn lies. -/
def geQ (f : FV) : Bool := cmpB .geq (fcmp .f64 f dQ)
def qF : Nat → FV → FV
  | 0, f => f
  | j + 1, f => fbin .sub .f64 (qF j f) dQ
def qN (f : FV) : Nat := if geQ (qF 0 f) = false then 0 else if geQ (qF 1 f) = false then 1 else if geQ (qF 2 f) = false then 2 else if geQ (qF 3 f) = false then 3 else 4
theorem q_vl {f : FV} (h : ∃ r, Vl .f64 f r ∧ 0 ≤ r ∧ r ≤ 1) : ∀ j, (∀ i, i < j → geQ (qF i f) = true) → j ≤ 4 ∧ ∃ r, Vl .f64 (qF j f) r ∧ 0 ≤ r ∧ r ≤ 1 - (j : Rat) / 4
  | 0, _ => by
    obtain ⟨r, hr, h0, h1⟩ := h
    exact ⟨by decide, r, hr, h0, by rw [show ((0 : Nat) : Rat) = 0 from rfl]; grind⟩
  | j + 1, hall => by
    obtain ⟨hj, r, hr, h0, h1⟩ := q_vl h j fun i hi => hall i (by omega)
    have hg := hall j (by omega)
    unfold geQ at hg
    rw [vl_geq hr vl_dQ] at hg
    have hg' := of_decide_eq_true hg
    have hj4 : j < 4 := by
      rcases Nat.lt_or_ge j 4 with h | h
      · exact h
      · have : j = 4 := by omega
        subst this
        rw [show ((4 : Nat) : Rat) = 4 from rfl] at h1
        grind
    have hc : ((3 - j : Int) : Rat) = 3 - (j : Rat) := by
      rw [Rat.intCast_sub]
      rfl
    obtain ⟨s, hs, hlo, hhi⟩ := sub_in hr vl_dQ 0 (3 - j) (by decide) (by omega) (by grind) (by rw [hc]; grind)
    rw [hc] at hhi
    refine ⟨by omega, s, hs, by grind, ?_⟩
    rw [Rat.natCast_add, show ((1 : Nat) : Rat) = 1 from rfl]
    grind
theorem qN_eq {f : FV} (h : ∃ r, Vl .f64 f r ∧ 0 ≤ r ∧ r ≤ 1) {j : Nat} (hall : ∀ i, i < j → geQ (qF i f) = true) (hj : geQ (qF j f) = false) : qN f = j := by
  have hj4 := (q_vl h j hall).1
  unfold qN
  have hc : j = 0 ∨ j = 1 ∨ j = 2 ∨ j = 3 ∨ j = 4 := by omega
  rcases hc with rfl | rfl | rfl | rfl | rfl
  · rw [if_pos hj]
  · rw [if_neg (by rw [hall 0 (by decide)]; decide), if_pos hj]
  · rw [if_neg (by rw [hall 0 (by decide)]; decide), if_neg (by rw [hall 1 (by decide)]; decide), if_pos hj]
  · rw [if_neg (by rw [hall 0 (by decide)]; decide), if_neg (by rw [hall 1 (by decide)]; decide), if_neg (by rw [hall 2 (by decide)]; decide), if_pos hj]
  · rw [if_neg (by rw [hall 0 (by decide)]; decide), if_neg (by rw [hall 1 (by decide)]; decide), if_neg (by rw [hall 2 (by decide)]; decide), if_neg (by rw [hall 3 (by decide)]; decide)]

/-! The sine. -/
def halfF (f : FV) : FV := if cmpB .geq (fcmp .f64 f dH) then fbin .sub .f64 f dH else f
def foldF (f : FV) : FV := if cmpB .gtr (fcmp .f64 f dQ) then fbin .sub .f64 dH f else f
def sinK (j : Nat) : FV := some (FloatKind.f64.nearest (2 * (8 - (j : Int)) * (2 * (8 - (j : Int)) + 1)))
def sinP (u : FV) : Nat → FV
  | 0 => d1
  | j + 1 => fbin .sub .f64 d1 (fbin .quo .f64 (fbin .mul .f64 u (sinP u j)) (sinK j))
def sinZ (f : FV) : FV := fbin .mul .f64 (foldF (halfF f)) dT
def sinV (f : FV) : FV := fbin .mul .f64 (sinZ f) (sinP (fbin .mul .f64 (sinZ f) (sinZ f)) 8)
def sinF (x : FV) : FV := if cmpB .geq (fcmp .f64 (fracF x) dH) then fneg .f64 (sinV (fracF x)) else sinV (fracF x)
theorem sinK_vl {j : Nat} (h : j < 8) : ∃ k, Vl .f64 (sinK j) k ∧ 6 ≤ k := by
  unfold sinK
  have hv := vl_ofInt .f64 (2 * (8 - (j : Int)) * (2 * (8 - (j : Int)) + 1))
  have hc : j = 0 ∨ j = 1 ∨ j = 2 ∨ j = 3 ∨ j = 4 ∨ j = 5 ∨ j = 6 ∨ j = 7 := by omega
  rcases hc with rfl | rfl | rfl | rfl | rfl | rfl | rfl | rfl
  all_goals exact ⟨_, hv (by decide), by decide +kernel⟩
theorem sinP_vl {u : FV} {q : Rat} (hu : Vl .f64 u q) (h0 : 0 ≤ q) (h4 : q ≤ 4) : ∀ j, j ≤ 8 → ∃ r, Vl .f64 (sinP u j) r ∧ -4 ≤ r ∧ r ≤ 4
  | 0, _ => ⟨1, vl_d1, by decide +kernel, by decide +kernel⟩
  | j + 1, hj => by
    obtain ⟨r, hr, h1, h2⟩ := sinP_vl hu h0 h4 j (by omega)
    obtain ⟨k, hk, h6⟩ := sinK_vl (j := j) (by omega)
    have hb := mul_bd (p := q) (q := r) (a := 4) (b := 4) (by grind) h4 h1 h2
    obtain ⟨s, hs, h3, h5⟩ := mul_in hu hr (-64) 64 (by decide) (by decide) (by grind) (by grind)
    have hk0 : k ≠ 0 := fun h => by grind
    have hsk : s / k * k = s := Rat.div_mul_cancel hk0
    have hq1 : -3 ≤ s / k := by
      rcases Rat.le_total (a := -3) (b := s / k) with h | h
      · exact h
      · have := Rat.mul_nonneg (show 0 ≤ -3 - s / k by grind) (show 0 ≤ k by grind)
        grind
    have hq2 : s / k ≤ 3 := by
      rcases Rat.le_total (a := s / k) (b := 3) with h | h
      · exact h
      · have := Rat.mul_nonneg (show 0 ≤ s / k - 3 by grind) (show 0 ≤ k by grind)
        grind
    have ht : p2 60 ≤ p2 (ftop .f64 - 1) := by decide +kernel
    have h60 := p60
    obtain ⟨t, ht1, ht2⟩ := vl_div hs hk hk0 ⟨by grind, by grind⟩
    have ht3 := rnd_in ht2 (-12) 12 (by decide) (by decide) (by grind) (by grind)
    obtain ⟨v, hv, h7, h8⟩ := sub_in vl_d1 ht1 (-16) 16 (by decide) (by decide) (by grind) (by grind)
    exact ⟨v, hv, by grind, by grind⟩
theorem sinV_vl {f : FV} (h : ∃ r, Vl .f64 f r ∧ 0 ≤ r ∧ r ≤ 1) : ∃ r, Vl .f64 (sinV f) r ∧ -8 ≤ r ∧ r ≤ 8 := by
  obtain ⟨q, hq, h0, h1⟩ := h
  have hh : ∃ r, Vl .f64 (halfF f) r ∧ 0 ≤ r ∧ r ≤ 1 / 2 := by
    unfold halfF
    rw [vl_geq hq vl_dH]
    by_cases hc : (1 / 2 : Rat) ≤ q
    · rw [decide_eq_true hc, if_pos rfl]
      obtain ⟨r, hr, h2, h3⟩ := sub_in hq vl_dH 0 2 (by decide) (by decide) (by grind) (by grind)
      exact ⟨r, hr, by grind, by grind⟩
    · rw [decide_eq_false hc, if_neg (by decide)]
      exact ⟨q, hq, h0, by grind⟩
  obtain ⟨r, hr, h2, h3⟩ := hh
  have hg : ∃ s, Vl .f64 (foldF (halfF f)) s ∧ 0 ≤ s ∧ s ≤ 1 / 4 := by
    unfold foldF
    rw [vl_gtr hr vl_dQ]
    by_cases hc : (1 / 4 : Rat) < r
    · rw [decide_eq_true hc, if_pos rfl]
      obtain ⟨s, hs, h4, h5⟩ := sub_in vl_dH hr 0 1 (by decide) (by decide) (by grind) (by grind)
      exact ⟨s, hs, by grind, by grind⟩
    · rw [decide_eq_false hc, if_neg (by decide)]
      exact ⟨r, hr, h2, Rat.not_lt.1 hc⟩
  obtain ⟨s, hs, h4, h5⟩ := hg
  obtain ⟨t, ht, ht0, ht1⟩ := vl_dT
  have hst := mul_bd (p := s) (q := t) (a := 1 / 4) (b := 13 / 2) (by grind) h5 (by grind) ht1
  have hst0 := Rat.mul_nonneg h4 ht0
  obtain ⟨z, hz, hz0, hz1⟩ := mul_in hs ht 0 8 (by decide) (by decide) (by grind) (by grind)
  have hz' : Vl .f64 (sinZ f) z := hz
  have hzz := mul_bd (p := z) (q := z) (a := 2) (b := 2) (by grind) (by grind) (by grind) (by grind)
  have hzz0 := Rat.mul_nonneg (show 0 ≤ z by grind) (show 0 ≤ z by grind)
  obtain ⟨u, hu, hu0, hu1⟩ := mul_in hz' hz' 0 16 (by decide) (by decide) (by grind) (by grind)
  obtain ⟨p, hp, hp0, hp1⟩ := sinP_vl hu (by grind) (by grind) 8 (by decide)
  have hzp := mul_bd (p := z) (q := p) (a := 2) (b := 4) (by grind) (by grind) hp0 hp1
  obtain ⟨v, hv, h7, h8⟩ := mul_in hz' hp (-32) 32 (by decide) (by decide) (by grind) (by grind)
  exact ⟨v, hv, by grind, by grind⟩
theorem sin_vl {x : FV} (h : Sm x) : ∃ r, Vl .f64 (sinF x) r ∧ -8 ≤ r ∧ r ≤ 8 := by
  obtain ⟨r, hr, h1, h2⟩ := sinV_vl (frac_vl h)
  unfold sinF
  split
  · exact ⟨-r, vl_fneg hr, by grind, by grind⟩
  · exact ⟨r, hr, h1, h2⟩

/-! The point. -/
def phG (t : FV) : FV := qF (qN (fracF t)) (fracF t)
def phC (t : FV) : FV := sinF (fbin .sub .f64 dQ (phG t))
def phS (t : FV) : FV := sinF (phG t)
def turnW : Nat → FV → FV → FV × FV
  | 1, c, s => (fbin .sub .f64 d0 s, c)
  | 2, c, s => (fbin .sub .f64 d0 c, fbin .sub .f64 d0 s)
  | 3, c, s => (s, fbin .sub .f64 d0 c)
  | _, c, s => (c, s)
def phW (t : FV) : FV × FV := turnW (qN (fracF t)) (phC t) (phS t)
theorem phG_vl {t : FV} (h : Sm t) : ∃ r, Vl .f64 (phG t) r ∧ 0 ≤ r ∧ r ≤ 1 := by
  have hf := frac_vl h
  have hall : ∀ j, j ≤ qN (fracF t) → ∀ i, i < j → geQ (qF i (fracF t)) = true := by
    intro j hj i hi
    have hi' : i < qN (fracF t) := by omega
    unfold qN at hi'
    cases h0 : geQ (qF 0 (fracF t)) <;> simp only [h0, if_true, if_false, Bool.true_eq_false, reduceCtorEq] at hi'
    · omega
    cases h1 : geQ (qF 1 (fracF t)) <;> simp only [h1, if_true, if_false, Bool.true_eq_false, reduceCtorEq] at hi'
    · have : i = 0 := by omega
      subst this; exact h0
    cases h2 : geQ (qF 2 (fracF t)) <;> simp only [h2, if_true, if_false, Bool.true_eq_false, reduceCtorEq] at hi'
    · have : i = 0 ∨ i = 1 := by omega
      rcases this with rfl | rfl <;> assumption
    cases h3 : geQ (qF 3 (fracF t)) <;> simp only [h3, if_true, if_false, Bool.true_eq_false, reduceCtorEq] at hi'
    · have : i = 0 ∨ i = 1 ∨ i = 2 := by omega
      rcases this with rfl | rfl | rfl <;> assumption
    · have : i = 0 ∨ i = 1 ∨ i = 2 ∨ i = 3 := by omega
      rcases this with rfl | rfl | rfl | rfl <;> assumption
  obtain ⟨_, r, hr, h1, h2⟩ := q_vl hf (qN (fracF t)) (hall _ (Nat.le_refl _))
  refine ⟨r, hr, h1, ?_⟩
  have : (0 : Rat) ≤ (qN (fracF t) : Rat) := Rat.natCast_nonneg
  grind
/-- The exit of the rounds. -/
theorem quarter_sm {g : FV} (h : ∃ r, Vl .f64 g r ∧ 0 ≤ r ∧ r ≤ 1) : Sm g ∧ Sm (fbin .sub .f64 dQ g) := by
  obtain ⟨r, hr, h1, h2⟩ := h
  obtain ⟨s, hs, h3, h4⟩ := sub_in vl_dQ hr (-4) 4 (by decide) (by decide) (by grind) (by grind)
  exact ⟨sm_unit hr (by grind) h2, sm_unit hs (by grind) (by grind)⟩
theorem eight_ok {x : FV} (h : ∃ r, Vl .f64 x r ∧ -8 ≤ r ∧ r ≤ 8) : ConvOk .f64 .f32 x ∧ ConvOk .f64 .f32 (fbin .sub .f64 d0 x) := by
  obtain ⟨r, hr, h1, h2⟩ := h
  have h60 := p60
  obtain ⟨s, hs, h3, h4⟩ := sub_in vl_d0 hr (-32) 32 (by decide) (by decide) (by grind) (by grind)
  exact ⟨vl_narrow_ok hr (fit32 (by grind) (by grind)), vl_narrow_ok hs (fit32 (by grind) (by grind))⟩
theorem phC_ok {t : FV} (h : Sm t) : ConvOk .f64 .f32 (phC t) ∧ ConvOk .f64 .f32 (fbin .sub .f64 d0 (phC t)) := eight_ok (sin_vl (quarter_sm (phG_vl h)).2)
theorem phS_ok {t : FV} (h : Sm t) : ConvOk .f64 .f32 (phS t) ∧ ConvOk .f64 .f32 (fbin .sub .f64 d0 (phS t)) := eight_ok (sin_vl (quarter_sm (phG_vl h)).1)
def fin64 (t : FV) : Bool := cmpB .eql (fcmp .f64 (fbin .sub .f64 t t) d0)
def bigT (t : FV) : Bool := cmpB .geq (fcmp .f64 t dB) || cmpB .leq (fcmp .f64 t dN)
theorem big_abs {t : FV} {q : Rat} (h : Vl .f64 t q) : cmpB .geq (fcmp .f64 (fabs64 t) dB) = bigT t := by
  unfold bigT
  rw [vl_geq (vl_abs h) vl_dB, vl_geq h vl_dB, vl_leq h vl_dN]
  rw [Bool.eq_iff_iff, Bool.or_eq_true, decide_eq_true_iff, decide_eq_true_iff, decide_eq_true_iff]
  have := p2_pos 52
  split <;> grind
theorem small_sm {t : FV} {q : Rat} (h : Vl .f64 t q) (hb : bigT t = false) : Sm t := by
  unfold bigT at hb
  rw [vl_geq h vl_dB, vl_leq h vl_dN, Bool.or_eq_false_iff, decide_eq_false_iff_not, decide_eq_false_iff_not] at hb
  exact ⟨q, h, by grind, by grind⟩
/-- The point of the unit circle at some turns. -/
def phasF (t : FV) : FV × FV :=
  match fin64 t with
  | false => (none, none)
  | true => match bigT t with
    | true => (fv .f32 1065353216, fv .f32 0)
    | false => (fconv .f64 .f32 (phW t).1, fconv .f64 .f32 (phW t).2)
end Go.Ab
