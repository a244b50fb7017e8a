/- Operations on floats whose exact answers can be written, and bounds by numbers that can. No conditions. -/
import Derived.Test.YtljgokghchhjaaaRw
namespace Go.Ab

/-- A product of bounded numbers. -/
theorem mul_bnd {p q a b : Rat} (h1 : -a ≤ p) (h2 : p ≤ a) (h3 : -b ≤ q) (h4 : q ≤ b) : -(a * b) ≤ p * q ∧ p * q ≤ a * b := by
  have x1 := Rat.mul_nonneg (show 0 ≤ a - p by grind) (show 0 ≤ b - q by grind)
  have x2 := Rat.mul_nonneg (show 0 ≤ a + p by grind) (show 0 ≤ b + q by grind)
  have x3 := Rat.mul_nonneg (show 0 ≤ a - p by grind) (show 0 ≤ b + q by grind)
  have x4 := Rat.mul_nonneg (show 0 ≤ a + p by grind) (show 0 ≤ b - q by grind)
  constructor <;> grind
theorem natCast_intCast (n : Nat) : ((n : Int) : Rat) = (n : Rat) := rfl
/-- A multiple of a small power of a half. -/
theorem dy_rep {q : Rat} (n : Int) (j : Nat) (hn : n.natAbs ≤ 2 ^ 24) (hj : j ≤ 100) (hq : q * ((2 ^ j : Nat) : Rat) = (n : Rat)) : Rep .f32 q ∧ -p2 24 ≤ q ∧ q ≤ p2 24 := by
  have hp := p2_mul_neg (j : Int)
  rw [p2_nat] at hp
  have h2 := p2_pos (-(j : Int))
  have hq' : q = (n : Rat) * p2 (-(j : Int)) := by
    rw [← hq, Rat.mul_assoc, hp, Rat.mul_one]
  have hle : p2 (-(j : Int)) ≤ 1 := by
    have := p2_le (show -(j : Int) ≤ 0 by omega)
    rwa [p2_zero] at this
  have hn1 : ((n.natAbs : Nat) : Rat) ≤ p2 24 := by
    have h3 : ((n.natAbs : Nat) : Rat) ≤ ((2 ^ 24 : Nat) : Rat) := Rat.natCast_le_natCast.2 hn
    rw [← p2_nat] at h3
    exact h3
  have hb : n.natAbs ≤ 2 ^ (FloatKind.f32.format.fractionBits + 1) := hn
  have hl : FloatKind.f32.format.leastPlace ≤ -(j : Int) := by
    have : FloatKind.f32.format.leastPlace = -149 := by decide
    omega
  have hN0 : (0 : Rat) ≤ ((n.natAbs : Nat) : Rat) := Rat.natCast_nonneg
  have hmul : ((n.natAbs : Nat) : Rat) * p2 (-(j : Int)) ≤ p2 24 := by
    have := Rat.mul_le_mul_of_nonneg_left hle hN0
    grind
  have hpos := Rat.mul_nonneg hN0 (Rat.le_of_lt h2)
  rcases Int.le_total 0 n with h0 | h0
  · have hc : ((n.natAbs : Nat) : Rat) = (n : Rat) := by
      rw [← Rat.intCast_natCast]
      congr 1
      omega
    rw [hc] at hmul hpos
    exact ⟨.inl ⟨n.natAbs, -(j : Int), hb, hl, by rw [hc]; exact hq'⟩, by grind, by grind⟩
  · have hc : ((n.natAbs : Nat) : Rat) = -(n : Rat) := by
      rw [← Rat.intCast_natCast, ← Rat.intCast_neg]
      congr 1
      omega
    rw [hc] at hmul hpos
    exact ⟨.inr ⟨n.natAbs, -(j : Int), hb, hl, by rw [hc, hq']; grind⟩, by grind, by grind⟩
theorem fit_24 {q : Rat} (h1 : -p2 24 ≤ q) (h2 : q ≤ p2 24) : Fit .f32 q := by
  have : p2 24 < p2 (ftop .f32) := by decide +kernel
  constructor <;> grind
theorem fit_24' {q : Rat} (h1 : -p2 24 ≤ q) (h2 : q ≤ p2 24) : -p2 (ftop .f32 - 1) ≤ q ∧ q ≤ p2 (ftop .f32 - 1) := by
  have : p2 24 ≤ p2 (ftop .f32 - 1) := by decide +kernel
  constructor <;> grind
section
variable {x y : FV} {p q : Rat}
theorem add_ex (hx : Vl .f32 x p) (hy : Vl .f32 y q) (n : Int) (j : Nat) (hn : n.natAbs ≤ 2 ^ 24) (hj : j ≤ 100) (hq : (p + q) * ((2 ^ j : Nat) : Rat) = (n : Rat)) : Vl .f32 (fbin .add .f32 x y) (p + q) := by
  obtain ⟨hr, h1, h2⟩ := dy_rep n j hn hj hq
  obtain ⟨r, h3, h4⟩ := vl_add hx hy (fit_24 h1 h2)
  rwa [rnd_rep h4 hr] at h3
theorem sub_ex (hx : Vl .f32 x p) (hy : Vl .f32 y q) (n : Int) (j : Nat) (hn : n.natAbs ≤ 2 ^ 24) (hj : j ≤ 100) (hq : (p - q) * ((2 ^ j : Nat) : Rat) = (n : Rat)) : Vl .f32 (fbin .sub .f32 x y) (p - q) := by
  obtain ⟨hr, h1, h2⟩ := dy_rep n j hn hj hq
  obtain ⟨r, h3, h4⟩ := vl_sub hx hy (fit_24 h1 h2)
  rwa [rnd_rep h4 hr] at h3
theorem mul_ex (hx : Vl .f32 x p) (hy : Vl .f32 y q) (n : Int) (j : Nat) (hn : n.natAbs ≤ 2 ^ 24) (hj : j ≤ 100) (hq : (p * q) * ((2 ^ j : Nat) : Rat) = (n : Rat)) : Vl .f32 (fbin .mul .f32 x y) (p * q) := by
  obtain ⟨hr, h1, h2⟩ := dy_rep n j hn hj hq
  obtain ⟨r, h3, h4⟩ := vl_mul hx hy (fit_24 h1 h2)
  rwa [rnd_rep h4 hr] at h3
theorem div_ex (hx : Vl .f32 x p) (hy : Vl .f32 y q) (h0 : q ≠ 0) {v : Rat} (hv : v * q = p) (n : Int) (j : Nat) (hn : n.natAbs ≤ 2 ^ 24) (hj : j ≤ 100) (hq : v * ((2 ^ j : Nat) : Rat) = (n : Rat)) : Vl .f32 (fbin .quo .f32 x y) v := by
  have he : p / q = v := by
    rw [← hv]
    exact Rat.mul_div_cancel h0
  obtain ⟨hr, h1, h2⟩ := dy_rep n j hn hj hq
  obtain ⟨r, h3, h4⟩ := vl_div hx hy h0 (by rw [he]; exact fit_24' h1 h2)
  rw [he] at h4
  rwa [rnd_rep h4 hr] at h3
/-- Between whole numbers. -/
theorem int_rep (n : Int) (hn : n.natAbs ≤ 2 ^ 24) : Rep .f32 (n : Rat) ∧ -p2 24 ≤ (n : Rat) ∧ (n : Rat) ≤ p2 24 :=
  dy_rep n 0 hn (by decide) (by rw [show ((2 ^ 0 : Nat) : Rat) = 1 from rfl, Rat.mul_one])
theorem rnd_btw {k : FloatKind} {q r A B : Rat} (h : Rnd k q r) (hA : Rep k A) (hB : Rep k B) (h1 : A ≤ q) (h2 : q ≤ B) : A ≤ r ∧ r ≤ B := ⟨(h.side A hA).2 h1, (h.side B hB).1 h2⟩
/-- How near, of a number that is not above a. -/
theorem rnd_abs {q r : Rat} (h : Rnd .f32 q r) (a : Rat) (h1 : -a ≤ q) (h2 : q ≤ a) : q - (a / 8388608 + 1 / 8388608) ≤ r ∧ r ≤ q + (a / 8388608 + 1 / 8388608) := by
  have h3 := h.near a h1 h2
  have e1 : feps .f32 = 1 / 8388608 := by decide +kernel
  have e2 : ftiny .f32 ≤ 1 / 8388608 := by decide +kernel
  rw [e1] at h3
  obtain ⟨h4, h5⟩ := h3
  constructor <;> grind
theorem add_i (hx : Vl .f32 x p) (hy : Vl .f32 y q) (a b : Int) (ha : a.natAbs ≤ 2 ^ 24) (hb : b.natAbs ≤ 2 ^ 24) (h1 : (a : Rat) ≤ p + q) (h2 : p + q ≤ (b : Rat)) : ∃ r, Vl .f32 (fbin .add .f32 x y) r ∧ (a : Rat) ≤ r ∧ r ≤ (b : Rat) ∧ Rnd .f32 (p + q) r := by
  obtain ⟨ra, a1, _⟩ := int_rep a ha
  obtain ⟨rb, _, b2⟩ := int_rep b hb
  obtain ⟨r, h3, h4⟩ := vl_add hx hy (fit_24 (Rat.le_trans a1 h1) (Rat.le_trans h2 b2))
  obtain ⟨h5, h6⟩ := rnd_btw h4 ra rb h1 h2
  exact ⟨r, h3, h5, h6, h4⟩
theorem sub_i (hx : Vl .f32 x p) (hy : Vl .f32 y q) (a b : Int) (ha : a.natAbs ≤ 2 ^ 24) (hb : b.natAbs ≤ 2 ^ 24) (h1 : (a : Rat) ≤ p - q) (h2 : p - q ≤ (b : Rat)) : ∃ r, Vl .f32 (fbin .sub .f32 x y) r ∧ (a : Rat) ≤ r ∧ r ≤ (b : Rat) ∧ Rnd .f32 (p - q) r := by
  obtain ⟨ra, a1, _⟩ := int_rep a ha
  obtain ⟨rb, _, b2⟩ := int_rep b hb
  obtain ⟨r, h3, h4⟩ := vl_sub hx hy (fit_24 (Rat.le_trans a1 h1) (Rat.le_trans h2 b2))
  obtain ⟨h5, h6⟩ := rnd_btw h4 ra rb h1 h2
  exact ⟨r, h3, h5, h6, h4⟩
theorem mul_i (hx : Vl .f32 x p) (hy : Vl .f32 y q) (a b : Int) (ha : a.natAbs ≤ 2 ^ 24) (hb : b.natAbs ≤ 2 ^ 24) (h1 : (a : Rat) ≤ p * q) (h2 : p * q ≤ (b : Rat)) : ∃ r, Vl .f32 (fbin .mul .f32 x y) r ∧ (a : Rat) ≤ r ∧ r ≤ (b : Rat) ∧ Rnd .f32 (p * q) r := by
  obtain ⟨ra, a1, _⟩ := int_rep a ha
  obtain ⟨rb, _, b2⟩ := int_rep b hb
  obtain ⟨r, h3, h4⟩ := vl_mul hx hy (fit_24 (Rat.le_trans a1 h1) (Rat.le_trans h2 b2))
  obtain ⟨h5, h6⟩ := rnd_btw h4 ra rb h1 h2
  exact ⟨r, h3, h5, h6, h4⟩
theorem div_i (hx : Vl .f32 x p) (hy : Vl .f32 y q) (h0 : q ≠ 0) (a b : Int) (ha : a.natAbs ≤ 2 ^ 24) (hb : b.natAbs ≤ 2 ^ 24) (h1 : (a : Rat) ≤ p / q) (h2 : p / q ≤ (b : Rat)) : ∃ r, Vl .f32 (fbin .quo .f32 x y) r ∧ (a : Rat) ≤ r ∧ r ≤ (b : Rat) ∧ Rnd .f32 (p / q) r := by
  obtain ⟨ra, a1, _⟩ := int_rep a ha
  obtain ⟨rb, _, b2⟩ := int_rep b hb
  obtain ⟨r, h3, h4⟩ := vl_div hx hy h0 (fit_24' (Rat.le_trans a1 h1) (Rat.le_trans h2 b2))
  obtain ⟨h5, h6⟩ := rnd_btw h4 ra rb h1 h2
  exact ⟨r, h3, h5, h6, h4⟩
end
/-- What a float is can be written. -/
theorem vl_rep {x : FV} {p : Rat} (h : Vl .f32 x p) : Rep .f32 p := by
  obtain ⟨b, s, m, e, rfl, hd, rfl⟩ := h
  obtain ⟨h1, h2, h3⟩ := single_number hd
  have hb : m ≤ 2 ^ (FloatKind.f32.format.fractionBits + 1) := Nat.le_of_lt h1
  have hl : FloatKind.f32.format.leastPlace ≤ e := Int.le_trans (by decide) h2
  unfold vl sgn
  cases s
  · refine .inl ⟨m, e, hb, hl, ?_⟩
    simp
  · refine .inr ⟨m, e, hb, hl, ?_⟩
    simp only [if_true]
    grind
theorem add_zero_ex {x y : FV} {p : Rat} (hx : Vl .f32 x p) (hy : Vl .f32 y 0) (hf : Fit .f32 p) : Vl .f32 (fbin .add .f32 x y) p := by
  obtain ⟨r, h3, h4⟩ := vl_add hx hy (by rw [Rat.add_zero]; exact hf)
  rw [Rat.add_zero] at h4
  rwa [rnd_rep h4 (vl_rep hx)] at h3
theorem zero_add_ex {x y : FV} {p : Rat} (hx : Vl .f32 x 0) (hy : Vl .f32 y p) (hf : Fit .f32 p) : Vl .f32 (fbin .add .f32 x y) p := by
  obtain ⟨r, h3, h4⟩ := vl_add hx hy (by rw [Rat.zero_add]; exact hf)
  rw [Rat.zero_add] at h4
  rwa [rnd_rep h4 (vl_rep hy)] at h3
theorem mul_zero_ex {x y : FV} {p : Rat} (hx : Vl .f32 x p) (hy : Vl .f32 y 0) : Vl .f32 (fbin .mul .f32 x y) 0 := by
  obtain ⟨r, h3, h4⟩ := vl_mul hx hy (by rw [Rat.mul_zero]; exact ⟨by decide +kernel, by decide +kernel⟩)
  rw [Rat.mul_zero] at h4
  rwa [rnd_rep h4 (rep_zero _)] at h3
theorem zero_mul_ex {x y : FV} {p : Rat} (hx : Vl .f32 x 0) (hy : Vl .f32 y p) : Vl .f32 (fbin .mul .f32 x y) 0 := by
  obtain ⟨r, h3, h4⟩ := vl_mul hx hy (by rw [Rat.zero_mul]; exact ⟨by decide +kernel, by decide +kernel⟩)
  rw [Rat.zero_mul] at h4
  rwa [rnd_rep h4 (rep_zero _)] at h3
theorem one_mul_ex {x y : FV} {p : Rat} (hx : Vl .f32 x 1) (hy : Vl .f32 y p) (hf : Fit .f32 p) : Vl .f32 (fbin .mul .f32 x y) p := by
  obtain ⟨r, h3, h4⟩ := vl_mul hx hy (by rw [Rat.one_mul]; exact hf)
  rw [Rat.one_mul] at h4
  rwa [rnd_rep h4 (vl_rep hy)] at h3
theorem zero_div_ex {x y : FV} {q : Rat} (hx : Vl .f32 x 0) (hy : Vl .f32 y q) (hq : q ≠ 0) : Vl .f32 (fbin .quo .f32 x y) 0 := by
  have he : (0 : Rat) / q = 0 := by rw [Rat.div_def, Rat.zero_mul]
  obtain ⟨r, h3, h4⟩ := vl_div hx hy hq (by rw [he]; exact ⟨by decide +kernel, by decide +kernel⟩)
  rw [he] at h4
  rwa [rnd_rep h4 (rep_zero _)] at h3
theorem self_div_ex {x y : FV} {q : Rat} (hx : Vl .f32 x q) (hy : Vl .f32 y q) (hq : q ≠ 0) : Vl .f32 (fbin .quo .f32 x y) 1 :=
  div_ex hx hy hq (Rat.one_mul q) 1 0 (by decide) (by decide) (by decide +kernel)
theorem sub_self_ex {x y : FV} {q : Rat} (hx : Vl .f32 x q) (hy : Vl .f32 y q) : Vl .f32 (fbin .sub .f32 x y) 0 := by
  have he : q - q = 0 := Rat.sub_self
  obtain ⟨r, h3, h4⟩ := vl_sub hx hy (by rw [he]; exact ⟨by decide +kernel, by decide +kernel⟩)
  rw [he] at h4
  rwa [rnd_rep h4 (rep_zero _)] at h3
theorem fit_any {x : FV} {p : Rat} (h : Vl .f32 x p) (h1 : -p2 24 ≤ p) (h2 : p ≤ p2 24) : Fit .f32 p := fit_24 h1 h2
/-- A quotient is bounded by what bounds products. -/
theorem div_le_of {p q c : Rat} (hq : 0 < q) (h : p ≤ c * q) : p / q ≤ c := by
  have h1 : p / q * q = p := Rat.div_mul_cancel (Rat.ne_of_gt hq)
  exact Rat.le_of_mul_le_mul_right (by rw [h1]; exact h) hq
theorem le_div_of {p q c : Rat} (hq : 0 < q) (h : c * q ≤ p) : c ≤ p / q := by
  have h1 : p / q * q = p := Rat.div_mul_cancel (Rat.ne_of_gt hq)
  exact Rat.le_of_mul_le_mul_right (by rw [h1]; exact h) hq
end Go.Ab
