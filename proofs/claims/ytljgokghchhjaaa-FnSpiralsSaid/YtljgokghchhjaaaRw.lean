/- Floats that are numbers, with their values: what sums, products, quotients, comparisons and conversions of them are. No conditions. -/
import Derived.Test.YtljgokghchhjaaaRv
namespace Go.Ab

/-- A float that is a number of some value. -/
def Vl (k : FloatKind) (x : FV) (q : Rat) : Prop := ∃ b s m e, x = some b ∧ k.decode b = .number s m e ∧ vl s m e = q
theorem Vl.of {k : FloatKind} {b : Nat} {s : Bool} {m : Nat} {e : Int} (h : k.decode b = .number s m e) : Vl k (some b) (vl s m e) := ⟨b, s, m, e, rfl, h, rfl⟩
theorem Vl.fvc {k : FloatKind} {b : Nat} {s : Bool} {m : Nat} {e : Int} {q : Rat} (h : k.decode b = .number s m e) (hq : vl s m e = q) : Vl k (fv k b) q := by
  have : fv k b = some b := fv_some (by rw [h]; rfl)
  rw [this, ← hq]
  exact .of h
/-- Whether a word is a number of some value. -/
def vlc (k : FloatKind) (b : Nat) (q : Rat) : Bool := match k.decode b with
  | .number s m e => decide (vl s m e = q)
  | _ => false
theorem Vl.cs {k : FloatKind} {b : Nat} {q : Rat} (h : vlc k b q = true) : Vl k (.some b) q := by
  unfold vlc at h
  split at h
  · rename_i s m e hd
    exact ⟨b, s, m, e, rfl, hd, of_decide_eq_true h⟩
  · cases h
theorem Vl.c {k : FloatKind} {b : Nat} {q : Rat} (h : vlc k b q = true) : Vl k (fv k b) q := by
  obtain ⟨b', s, m, e, hb, hd, hq⟩ := Vl.cs h
  cases hb
  exact Vl.fvc hd hq
theorem Vl.some {k : FloatKind} {x : FV} {q : Rat} (h : Vl k x q) : x ≠ none := by
  obtain ⟨b, _, _, _, rfl, _, _⟩ := h
  exact Option.some_ne_none b
theorem Vl.unique {k : FloatKind} {x : FV} {p q : Rat} (h : Vl k x p) (h' : Vl k x q) : p = q := by
  obtain ⟨b, s, m, e, rfl, hd, rfl⟩ := h
  obtain ⟨b', s', m', e', hb, hd', rfl⟩ := h'
  cases hb
  rw [hd] at hd'
  cases hd'
  rfl
/-- Not too great to be written. -/
def Fit (k : FloatKind) (q : Rat) : Prop := -p2 (ftop k) < q ∧ q < p2 (ftop k)
theorem Fit.mag {k : FloatKind} {s : Bool} {m : Nat} {e : Int} (h : Fit k (vl s m e)) : (m : Rat) * p2 e < p2 (ftop k) := by
  obtain ⟨h1, h2⟩ := h
  unfold vl sgn at h1 h2
  cases s <;> grind
theorem write_vl (k : FloatKind) (s : Bool) (m : Nat) (e : Int) (h : Fit k (vl s m e)) : ∃ r, Vl k (some (k.format.nearest s m e)) r ∧ Rnd k (vl s m e) r := by
  obtain ⟨m', e', h1, h2, _⟩ := nearest_rnd k s m e h.mag
  exact ⟨_, .of h1, h2⟩
/-- What has a value of its own. -/
theorem rnd_rep {k : FloatKind} {q r : Rat} (h : Rnd k q r) (hq : Rep k q) : r = q :=
  Rat.le_antisymm ((h.side q hq).1 Rat.le_refl) ((h.side q hq).2 Rat.le_refl)
theorem rep_zero (k : FloatKind) : Rep k 0 := .inl ⟨0, k.format.leastPlace, Nat.zero_le _, Int.le_refl _, by rw [show ((0 : Nat) : Rat) = 0 from rfl, Rat.zero_mul]⟩
theorem rep_int (k : FloatKind) (n : Int) (h : n.natAbs ≤ 2 ^ (k.format.fractionBits + 1)) : Rep k (n : Rat) := by
  have hlp : k.format.leastPlace ≤ 0 := by cases k <;> decide
  rcases Int.le_total 0 n with h0 | h0
  · refine .inl ⟨n.natAbs, 0, h, hlp, ?_⟩
    rw [p2_zero, Rat.mul_one, ← Rat.intCast_natCast]
    congr 1
    omega
  · refine .inr ⟨n.natAbs, 0, h, hlp, ?_⟩
    rw [p2_zero, Rat.mul_one, ← Rat.intCast_natCast, ← Rat.intCast_neg]
    congr 1
    omega

/-! Sums. -/
theorem sum_vl (s t : Bool) (m n : Nat) (i j : Int) : ∃ u M, Ieee.Datum.sum (.number s m i) (.number t n j) = some (.number u M (min i j)) ∧ vl u M (min i j) = vl s m i + vl t n j := by
  simp only [Ieee.Datum.sum]
  refine ⟨_, _, rfl, ?_⟩
  have e1 := vl_signed s m (i - min i j).toNat (min i j)
  have e2 := vl_signed t n (j - min i j).toNat (min i j)
  have a1 : min i j + ((i - min i j).toNat : Int) = i := by omega
  have a2 : min i j + ((j - min i j).toNat : Int) = j := by omega
  rw [a1] at e1
  rw [a2] at e2
  rw [← e1, ← e2, ← Rat.add_mul, ← Rat.intCast_add, vl_int]
  split
  · rename_i h0
    rw [h0]
    show vl _ 0 _ = vl _ 0 _
    rw [vl_zero, vl_zero]
  · rfl
theorem vl_add {k : FloatKind} {x y : FV} {p q : Rat} (hx : Vl k x p) (hy : Vl k y q) (hf : Fit k (p + q)) : ∃ r, Vl k (fbin .add k x y) r ∧ Rnd k (p + q) r := by
  obtain ⟨a, s, m, i, rfl, ha, rfl⟩ := hx
  obtain ⟨b, t, n, j, rfl, hb, rfl⟩ := hy
  obtain ⟨u, M, h1, h2⟩ := sum_vl s t m n i j
  rw [← h2] at hf ⊢
  have : fbin .add k (some a) (some b) = some (k.format.nearest u M (min i j)) := by
    have ha' : k.format.read a = .number s m i := ha
    have hb' : k.format.read b = .number t n j := hb
    simp [fbin, floatBits, Ieee.Format.add, ha', hb', h1, Ieee.Format.write]
  rw [this]
  exact write_vl k u M _ hf
theorem vl_sub {k : FloatKind} {x y : FV} {p q : Rat} (hx : Vl k x p) (hy : Vl k y q) (hf : Fit k (p - q)) : ∃ r, Vl k (fbin .sub k x y) r ∧ Rnd k (p - q) r := by
  obtain ⟨a, s, m, i, rfl, ha, rfl⟩ := hx
  obtain ⟨b, t, n, j, rfl, hb, rfl⟩ := hy
  obtain ⟨u, M, h1, h2⟩ := sum_vl s (!t) m n i j
  have h3 : vl s m i - vl t n j = vl s m i + vl (!t) n j := by rw [vl_neg, Rat.sub_eq_add_neg]
  rw [h3, ← h2] at hf ⊢
  have : fbin .sub k (some a) (some b) = some (k.format.nearest u M (min i j)) := by
    have ha' : k.format.read a = .number s m i := ha
    have hb' : k.format.read b = .number t n j := hb
    simp [fbin, floatBits, Ieee.Format.sub, ha', hb', Ieee.Datum.opposite, h1, Ieee.Format.write]
  rw [this]
  exact write_vl k u M _ hf
/-! Products. -/
theorem mul_vl (s t : Bool) (m n : Nat) (i j : Int) : vl (s ^^ t) (m * n) (i + j) = vl s m i * vl t n j := by
  unfold vl
  rw [Rat.natCast_mul, p2_add]
  have : sgn (s ^^ t) = sgn s * sgn t := by cases s <;> cases t <;> decide +kernel
  rw [this]
  grind
theorem vl_mul {k : FloatKind} {x y : FV} {p q : Rat} (hx : Vl k x p) (hy : Vl k y q) (hf : Fit k (p * q)) : ∃ r, Vl k (fbin .mul k x y) r ∧ Rnd k (p * q) r := by
  obtain ⟨a, s, m, i, rfl, ha, rfl⟩ := hx
  obtain ⟨b, t, n, j, rfl, hb, rfl⟩ := hy
  rw [← mul_vl] at hf ⊢
  have : fbin .mul k (some a) (some b) = some (k.format.nearest (s ^^ t) (m * n) (i + j)) := by
    have ha' : k.format.read a = .number s m i := ha
    have hb' : k.format.read b = .number t n j := hb
    simp [fbin, floatBits, Ieee.Format.mul, ha', hb', Ieee.Datum.product, Ieee.Format.write]
  rw [this]
  exact write_vl k _ _ _ hf
/-! Quotients. -/
/-- A quotient with its sticky digit, as it lies beside the true one. -/
theorem quo_sticky (m n fb : Nat) (i j : Int) (hm : m ≠ 0) (hn : n ≠ 0) : ∀ more, fb + 2 + n.log2 ≤ m.log2 + more → ∀ A : Rat, A * ((n : Rat) * p2 j) = (m : Rat) * p2 i →
    ∃ F st : Nat, 2 * (m <<< more / n) + (m <<< more % n != 0).toNat = 2 * F + st ∧ (st = 0 ∨ st = 1) ∧ 2 ^ (fb + 1) ≤ F ∧
      ((st = 0 ∧ A = 2 * ((F : Rat) * p2 (i - j - more - 1))) ∨ (st = 1 ∧ 2 * ((F : Rat) * p2 (i - j - more - 1)) < A ∧ A < 2 * ((F : Rat) * p2 (i - j - more - 1)) + 2 * p2 (i - j - more - 1))) := by
  intro more hmore A hA
  have hD := mul_shl m more (i - more)
  have hDn : 2 ^ (fb + 1) * n ≤ m <<< more := by
    rw [Nat.shiftLeft_eq]
    have h1 : n < 2 ^ (n.log2 + 1) := Nat.lt_log2_self
    have h2 : 2 ^ (fb + 1) * n ≤ 2 ^ (fb + 1) * 2 ^ (n.log2 + 1) := Nat.mul_le_mul_left _ (Nat.le_of_lt h1)
    rw [← Nat.pow_add] at h2
    have h3 : 2 ^ m.log2 * 2 ^ more ≤ m * 2 ^ more := Nat.mul_le_mul_right _ (Nat.log2_self_le hm)
    rw [← Nat.pow_add] at h3
    exact Nat.le_trans h2 (Nat.le_trans (Nat.pow_le_pow_right (by decide) (by omega)) h3)
  generalize m <<< more = D at *
  have hn0 : 0 < n := by omega
  have hF : 2 ^ (fb + 1) ≤ D / n := (Nat.le_div_iff_mul_le hn0).2 hDn
  have h3 := Nat.div_add_mod D n
  have h4 := Nat.mod_lt D hn0
  generalize D / n = F at *
  generalize D % n = r at *
  have e1 : i - (more : Int) + more = i := by omega
  rw [e1] at hD
  have hu : p2 (i - more) = 2 * p2 (i - j - more - 1) * p2 j := by
    rw [← p2_one, ← p2_add, ← p2_add]
    congr 1
    omega
  have hj := p2_pos j
  have hup := p2_pos (i - j - more - 1)
  generalize p2 (i - j - more - 1) = u at *
  have hN : (0 : Rat) < n := by
    rw [show (0 : Rat) = ((0 : Nat) : Rat) from rfl]
    exact Rat.natCast_lt_natCast.2 hn0
  have hDr : (D : Rat) = (n : Rat) * F + r := by rw [← h3, Rat.natCast_add, Rat.natCast_mul]
  have hnj : 0 < (n : Rat) * p2 j := Rat.mul_pos hN hj
  -- A n = D 2u
  have hAn : A * ((n : Rat) * p2 j) = ((n : Rat) * F + r) * (2 * u * p2 j) := by rw [hA, ← hD, hu, hDr]
  have hAn2 : (A * (n : Rat)) * p2 j = (((n : Rat) * F + r) * (2 * u)) * p2 j := by grind
  have hAn3 : A * (n : Rat) = ((n : Rat) * F + r) * (2 * u) := by
    apply Rat.le_antisymm
    · exact Rat.le_of_mul_le_mul_right (by rw [hAn2]; exact Rat.le_refl) hj
    · exact Rat.le_of_mul_le_mul_right (by rw [hAn2]; exact Rat.le_refl) hj
  rcases Nat.eq_zero_or_pos r with h0 | h0
  · subst h0
    refine ⟨F, 0, by simp, .inl rfl, hF, .inl ⟨rfl, ?_⟩⟩
    rw [show ((0 : Nat) : Rat) = 0 from rfl, Rat.add_zero] at hAn3
    apply Rat.le_antisymm
    · exact Rat.le_of_mul_le_mul_right (c := (n : Rat)) (by grind) hN
    · exact Rat.le_of_mul_le_mul_right (c := (n : Rat)) (by grind) hN
  · have hr0 : (0 : Rat) < r := by
      rw [show (0 : Rat) = ((0 : Nat) : Rat) from rfl]
      exact Rat.natCast_lt_natCast.2 h0
    have hrn : (r : Rat) < n := Rat.natCast_lt_natCast.2 h4
    have hne : (r != 0).toNat = 1 := by
      have : (r != 0) = true := by simp; omega
      rw [this]; rfl
    refine ⟨F, 1, by rw [hne], .inr rfl, hF, .inr ⟨rfl, ?_, ?_⟩⟩
    · refine Rat.lt_of_mul_lt_mul_right (c := (n : Rat)) ?_ (Rat.le_of_lt hN)
      rw [hAn3]
      have := Rat.mul_pos hr0 hup
      grind
    · refine Rat.lt_of_mul_lt_mul_right (c := (n : Rat)) ?_ (Rat.le_of_lt hN)
      rw [hAn3]
      have := Rat.mul_lt_mul_of_pos_right hrn hup
      grind
theorem sticky_side {k : FloatKind} {A u : Rat} {F st : Nat} {e : Int} (hu : u = p2 e) (hst : st = 0 ∨ st = 1) (hF : 2 ^ (k.format.fractionBits + 1) ≤ F)
    (hA : (st = 0 ∧ A = 2 * ((F : Rat) * u)) ∨ (st = 1 ∧ 2 * ((F : Rat) * u) < A ∧ A < 2 * ((F : Rat) * u) + 2 * u)) {B : Rat} (hB : RepN k B) :
    (A ≤ B → ((2 * F + st : Nat) : Rat) * u ≤ B) ∧ (B ≤ A → B ≤ ((2 * F + st : Nat) : Rat) * u) := by
  have hup : 0 < u := by rw [hu]; exact p2_pos e
  have hc : ((2 * F + st : Nat) : Rat) * u = 2 * ((F : Rat) * u) + (st : Rat) * u := by
    rw [Rat.natCast_add, Rat.natCast_mul]
    show (2 * (F : Rat) + st) * u = _
    grind
  rw [hc]
  rcases hA with ⟨h0, h1⟩ | ⟨h0, h1, h2⟩
  · subst h0
    rw [show ((0 : Nat) : Rat) = 0 from rfl, Rat.zero_mul, Rat.add_zero, ← h1]
    exact ⟨id, id⟩
  · subst h0
    rw [show ((1 : Nat) : Rat) = 1 from rfl, Rat.one_mul]
    obtain ⟨M, E, hM, hE, hBe⟩ := hB
    rcases (show e + 1 ≤ E ∨ E ≤ e from by omega) with hle | hle
    · have hB2 : B = 2 * (((M * 2 ^ (E - (e + 1)).toNat : Nat) : Rat) * u) := by
        rw [hBe, p2_split hle, p2_add, p2_one, Rat.natCast_mul, hu]
        grind
      generalize M * 2 ^ (E - (e + 1)).toNat = N at *
      refine ⟨fun h => ?_, fun h => ?_⟩
      · have h3 : (F : Rat) * u < (N : Rat) * u := by grind
        have h4 : F < N := Rat.natCast_lt_natCast.1 ((Rat.mul_lt_mul_right hup).1 h3)
        have h5 : ((F + 1 : Nat) : Rat) * u ≤ (N : Rat) * u := Rat.mul_le_mul_of_nonneg_right (Rat.natCast_le_natCast.2 h4) (Rat.le_of_lt hup)
        rw [Rat.natCast_add, show ((1 : Nat) : Rat) = 1 from rfl] at h5
        grind
      · have h3 : (N : Rat) * u < ((F + 1 : Nat) : Rat) * u := by
          rw [Rat.natCast_add, show ((1 : Nat) : Rat) = 1 from rfl]
          grind
        have h4 : N < F + 1 := Rat.natCast_lt_natCast.1 ((Rat.mul_lt_mul_right hup).1 h3)
        have h5 : (N : Rat) * u ≤ (F : Rat) * u := Rat.mul_le_mul_of_nonneg_right (Rat.natCast_le_natCast.2 (by omega)) (Rat.le_of_lt hup)
        grind
    · have h3 : B ≤ (F : Rat) * u := by
        rw [hBe, hu]
        refine Rat.le_trans (Rat.mul_le_mul_of_nonneg_left (p2_le hle) Rat.natCast_nonneg) (mul_p2_le (Nat.le_trans hM hF) e)
      have h4 : 0 < (F : Rat) * u := by
        refine Rat.mul_pos ?_ hup
        rw [show (0 : Rat) = ((0 : Nat) : Rat) from rfl]
        exact Rat.natCast_lt_natCast.2 (Nat.lt_of_lt_of_le (Nat.two_pow_pos _) hF)
      exact ⟨fun h => by grind, fun h => by grind⟩
theorem vl_div {k : FloatKind} {x y : FV} {p q : Rat} (hx : Vl k x p) (hy : Vl k y q) (hq : q ≠ 0) (hf : -p2 (ftop k - 1) ≤ p / q ∧ p / q ≤ p2 (ftop k - 1)) : ∃ r, Vl k (fbin .quo k x y) r ∧ Rnd k (p / q) r := by
  obtain ⟨a, s, m, i, rfl, ha, rfl⟩ := hx
  obtain ⟨b, t, n, j, rfl, hb, rfl⟩ := hy
  have hn : n ≠ 0 := fun h => by
    subst h
    exact hq (vl_zero t j)
  have hn0 : (0 : Rat) < n := by
    rw [show (0 : Rat) = ((0 : Nat) : Rat) from rfl]
    exact Rat.natCast_lt_natCast.2 (by omega)
  have hnj : 0 < (n : Rat) * p2 j := Rat.mul_pos hn0 (p2_pos j)
  have hsg : vl s m i / vl t n j = sgn (s ^^ t) * (((m : Rat) * p2 i) / ((n : Rat) * p2 j)) := by
    have h1 : vl s m i / vl t n j * vl t n j = vl s m i := Rat.div_mul_cancel hq
    have h2 : ((m : Rat) * p2 i) / ((n : Rat) * p2 j) * ((n : Rat) * p2 j) = (m : Rat) * p2 i := Rat.div_mul_cancel (Rat.ne_of_gt hnj)
    have h3 : sgn (s ^^ t) * (((m : Rat) * p2 i) / ((n : Rat) * p2 j)) * vl t n j = vl s m i := by
      have h4 : sgn (s ^^ t) * sgn t = sgn s := by cases s <;> cases t <;> decide +kernel
      have h5 : sgn (s ^^ t) * (((m : Rat) * p2 i) / ((n : Rat) * p2 j)) * vl t n j = (sgn (s ^^ t) * sgn t) * (((m : Rat) * p2 i) / ((n : Rat) * p2 j) * ((n : Rat) * p2 j)) := by
        unfold vl
        generalize ((m : Rat) * p2 i) / ((n : Rat) * p2 j) = A
        grind
      rw [h5, h4, h2]
      rfl
    generalize vl s m i / vl t n j = X at *
    generalize sgn (s ^^ t) * (((m : Rat) * p2 i) / ((n : Rat) * p2 j)) = Y at *
    have h6 : (X - Y) * vl t n j = 0 := by grind
    rcases Rat.mul_eq_zero.1 h6 with h7 | h7
    · grind
    · exact absurd h7 hq
  rw [hsg] at hf ⊢
  have hA : ((m : Rat) * p2 i) / ((n : Rat) * p2 j) * ((n : Rat) * p2 j) = (m : Rat) * p2 i := Rat.div_mul_cancel (Rat.ne_of_gt hnj)
  generalize ((m : Rat) * p2 i) / ((n : Rat) * p2 j) = A at *
  have hA0 : 0 ≤ A := by
    rcases Rat.le_total (a := 0) (b := A) with h | h
    · exact h
    · have h1 := Rat.mul_nonneg (Rat.natCast_nonneg (a := m)) (Rat.le_of_lt (p2_pos i))
      rw [← hA] at h1
      have h2 := Rat.mul_nonneg (show 0 ≤ -A by grind) (Rat.le_of_lt hnj)
      have h3 : A * ((n : Rat) * p2 j) = 0 := by grind
      rcases Rat.mul_eq_zero.1 h3 with h4 | h4
      · grind
      · grind
  have hAf : A ≤ p2 (ftop k - 1) := by
    obtain ⟨h1, h2⟩ := hf
    cases hst : (s ^^ t) <;> rw [hst] at h1 h2 <;> simp only [sgn] at h1 h2 <;> grind
  have hfb : fbin .quo k (some a) (some b) = some (k.format.nearest (s ^^ t) (2 * (m <<< (k.format.fractionBits + 2 + n.log2 - m.log2) / n) + (m <<< (k.format.fractionBits + 2 + n.log2 - m.log2) % n != 0).toNat) (i - j - (k.format.fractionBits + 2 + n.log2 - m.log2 : Nat) - 1)) := by
    have ha' : k.format.read a = .number s m i := ha
    have hb' : k.format.read b = .number t n j := hb
    simp [fbin, floatBits, Ieee.Format.div, ha', hb', Ieee.Datum.quotient, hn, Ieee.Format.write]
  rw [hfb]
  have htop : p2 (ftop k - 1) < p2 (ftop k) := by cases k <;> decide +kernel
  by_cases hm : m = 0
  · subst hm
    have hA1 : A = 0 := by
      rw [show ((0 : Nat) : Rat) = 0 from rfl, Rat.zero_mul] at hA
      rcases Rat.mul_eq_zero.1 hA with h4 | h4
      · exact h4
      · exact absurd h4 (Rat.ne_of_gt hnj)
    subst hA1
    have e0 : 2 * (0 <<< (k.format.fractionBits + 2 + n.log2 - Nat.log2 0) / n) + (0 <<< (k.format.fractionBits + 2 + n.log2 - Nat.log2 0) % n != 0).toNat = 0 := by
      rw [Nat.zero_shiftLeft, Nat.zero_div, Nat.zero_mod]; rfl
    rw [e0]
    generalize i - j - (k.format.fractionBits + 2 + n.log2 - Nat.log2 0 : Nat) - 1 = e
    have h1 := write_vl k (s ^^ t) 0 e (by rw [vl_zero]; cases k <;> exact ⟨by decide +kernel, by decide +kernel⟩)
    rw [vl_zero] at h1
    rw [Rat.mul_zero]
    exact h1
  · obtain ⟨F, st, h1, h2, h3, h4⟩ := quo_sticky m n k.format.fractionBits i j hm hn (k.format.fractionBits + 2 + n.log2 - m.log2) (by omega) A hA
    rw [h1]
    generalize i - j - (k.format.fractionBits + 2 + n.log2 - m.log2 : Nat) - 1 = e at *
    have hsd := fun {B} (hB : RepN k B) => sticky_side (k := k) rfl h2 h3 h4 (B := B) hB
    have hrt : RepN k (p2 (ftop k - 1)) := ⟨1, ftop k - 1, Nat.one_le_two_pow, by cases k <;> decide, by rw [show ((1 : Nat) : Rat) = 1 from rfl, Rat.one_mul]⟩
    have hA' := (hsd hrt).1 hAf
    obtain ⟨m', e', g1, g2, g3, g4, g5⟩ := nearest_rnd' k (s ^^ t) (2 * F + st) e (Std.lt_of_le_of_lt hA' htop)
    refine ⟨_, .of g1, ?_⟩
    have hup := p2_pos e
    have hFu : feps k * ((F : Rat) * p2 e) ≥ 2 * p2 e := by
      have h5 := mul_p2_le h3 e
      rw [p2_shl] at h5
      have h6 := Rat.mul_le_mul_of_nonneg_left h5 (Rat.le_of_lt (eps_pos k))
      rw [eps_eq, ← p2_add] at h6
      have h7 : -(k.format.fractionBits : Int) + (((k.format.fractionBits + 1 : Nat) : Int) + e) = 1 + e := by omega
      rw [h7, p2_add, p2_one] at h6
      rw [eps_eq]
      exact h6
    have hc : ((2 * F + st : Nat) : Rat) * p2 e = 2 * ((F : Rat) * p2 e) + (st : Rat) * p2 e := by
      rw [Rat.natCast_add, Rat.natCast_mul]
      show (2 * (F : Rat) + st) * p2 e = _
      grind
    have he1 : feps k ≤ 1 / 4 := by cases k <;> decide +kernel
    have he0 := eps_pos k
    have ht := tiny_pos k
    refine rnd_sign hA0 (Rat.mul_nonneg Rat.natCast_nonneg (Rat.le_of_lt (p2_pos e'))) ?_ (Rat.le_of_lt he0) (fun B hB => ⟨fun h => (g3 B hB).1 ((hsd hB).1 h), fun h => (g3 B hB).2 ((hsd hB).2 h)⟩)
    generalize (m' : Rat) * p2 e' = R at *
    generalize ((2 * F + st : Nat) : Rat) * p2 e = A' at *
    generalize (F : Rat) * p2 e = FU at *
    generalize p2 e = u at *
    generalize ftiny k = T at *
    generalize feps k = E at *
    rcases h4 with ⟨h0, h5⟩ | ⟨h0, h5, h6⟩
    · subst h0
      rw [show ((0 : Nat) : Rat) = 0 from rfl, Rat.zero_mul, Rat.add_zero, ← h5] at hc
      subst hc
      have := Rat.mul_nonneg hA0 (Rat.le_of_lt he0)
      constructor <;> grind
    · subst h0
      rw [show ((1 : Nat) : Rat) = 1 from rfl, Rat.one_mul] at hc
      -- u ≤ E * FU / 2 ≤ E * A / 4
      have a1 : E * (2 * FU) ≤ E * A := Rat.mul_le_mul_of_nonneg_left (Rat.le_of_lt h5) (Rat.le_of_lt he0)
      have a2 : A' * E ≤ (A + u) * E := Rat.mul_le_mul_of_nonneg_right (by grind) (Rat.le_of_lt he0)
      have a3 : u * E ≤ u * (1 / 4) := Rat.mul_le_mul_of_nonneg_left he1 (Rat.le_of_lt hup)
      constructor <;> grind
/-! Comparisons. -/
theorem int_mul_lt {a b : Int} (e : Int) : (a : Rat) * p2 e < (b : Rat) * p2 e ↔ a < b := by
  rw [Rat.mul_lt_mul_right (p2_pos e)]
  exact Rat.intCast_lt_intCast
theorem vl_cmp {k : FloatKind} {x y : FV} {p q : Rat} (hx : Vl k x p) (hy : Vl k y q) : ∃ a b : Int, fcmp k x y = some (compare a b) ∧ (p < q ↔ a < b) ∧ (q < p ↔ b < a) := by
  obtain ⟨a, s, m, i, rfl, ha, rfl⟩ := hx
  obtain ⟨b, t, n, j, rfl, hb, rfl⟩ := hy
  have ha' : k.format.read a = .number s m i := ha
  have hb' : k.format.read b = .number t n j := hb
  refine ⟨_, _, by simp [fcmp, Ieee.Format.order, ha', hb', Ieee.Datum.order]; rfl, ?_, ?_⟩
  all_goals
    have e1 := vl_signed s m (i - min i j).toNat (min i j)
    have e2 := vl_signed t n (j - min i j).toNat (min i j)
    have a1 : min i j + ((i - min i j).toNat : Int) = i := by omega
    have a2 : min i j + ((j - min i j).toNat : Int) = j := by omega
    rw [a1] at e1
    rw [a2] at e2
    rw [← e1, ← e2, int_mul_lt]
theorem vl_lss {k : FloatKind} {x y : FV} {p q : Rat} (hx : Vl k x p) (hy : Vl k y q) : cmpB .lss (fcmp k x y) = decide (p < q) := by
  obtain ⟨a, b, h, h1, h2⟩ := vl_cmp hx hy
  rw [h]
  have hh : (p < q) = (a < b) := propext h1
  simp only [hh]
  rcases Int.lt_trichotomy a b with h3 | h3 | h3
  · simp [cmpB, h3, Int.compare_eq_lt.2 h3]
  · subst h3; simp [cmpB]
  · have : ¬ a < b := by omega
    simp [cmpB, this, Int.compare_eq_gt.2 h3]
theorem vl_gtr {k : FloatKind} {x y : FV} {p q : Rat} (hx : Vl k x p) (hy : Vl k y q) : cmpB .gtr (fcmp k x y) = decide (q < p) := by
  obtain ⟨a, b, h, h1, h2⟩ := vl_cmp hx hy
  rw [h]
  have hh : (q < p) = (b < a) := propext h2
  simp only [hh]
  rcases Int.lt_trichotomy a b with h3 | h3 | h3
  · have : ¬ b < a := by omega
    simp [cmpB, this, Int.compare_eq_lt.2 h3]
  · subst h3; simp [cmpB]
  · simp [cmpB, h3, Int.compare_eq_gt.2 h3]
theorem vl_leq {k : FloatKind} {x y : FV} {p q : Rat} (hx : Vl k x p) (hy : Vl k y q) : cmpB .leq (fcmp k x y) = decide (p ≤ q) := by
  obtain ⟨a, b, h, h1, h2⟩ := vl_cmp hx hy
  rw [h]
  have hh : (p ≤ q) = ¬ (b < a) := propext (by rw [← h2]; exact Rat.not_lt.symm)
  simp only [hh]
  rcases Int.lt_trichotomy a b with h3 | h3 | h3
  · have : ¬ b < a := by omega
    simp [cmpB, this, Int.compare_eq_lt.2 h3]
  · subst h3; simp [cmpB]
  · simp [cmpB, h3, Int.compare_eq_gt.2 h3]
theorem vl_geq {k : FloatKind} {x y : FV} {p q : Rat} (hx : Vl k x p) (hy : Vl k y q) : cmpB .geq (fcmp k x y) = decide (q ≤ p) := by
  obtain ⟨a, b, h, h1, h2⟩ := vl_cmp hx hy
  rw [h]
  have hh : (q ≤ p) = ¬ (a < b) := propext (by rw [← h1]; exact Rat.not_lt.symm)
  simp only [hh]
  rcases Int.lt_trichotomy a b with h3 | h3 | h3
  · simp [cmpB, h3, Int.compare_eq_lt.2 h3]
  · subst h3; simp [cmpB]
  · have : ¬ a < b := by omega
    simp [cmpB, this, Int.compare_eq_gt.2 h3]
theorem vl_eql {k : FloatKind} {x y : FV} {p q : Rat} (hx : Vl k x p) (hy : Vl k y q) : cmpB .eql (fcmp k x y) = decide (p = q) := by
  obtain ⟨a, b, h, h1, h2⟩ := vl_cmp hx hy
  rw [h]
  rcases Int.lt_trichotomy a b with h3 | h3 | h3
  · have : ¬ p = q := Rat.ne_of_lt (h1.2 h3)
    simp [cmpB, this, Int.compare_eq_lt.2 h3]
  · have : p = q := Rat.le_antisymm (Rat.not_lt.1 fun h4 => by have := h2.1 h4; omega) (Rat.not_lt.1 fun h4 => by have := h1.1 h4; omega)
    subst h3; simp [cmpB, this]
  · have : ¬ p = q := fun e => Rat.ne_of_lt (h2.2 h3) e.symm
    simp [cmpB, this, Int.compare_eq_gt.2 h3]
theorem vl_neq {k : FloatKind} {x y : FV} {p q : Rat} (hx : Vl k x p) (hy : Vl k y q) : cmpB .neq (fcmp k x y) = decide (p ≠ q) := by
  have h := vl_eql hx hy
  have : cmpB .neq (fcmp k x y) = !cmpB .eql (fcmp k x y) := rfl
  rw [this, h]
  by_cases h : p = q <;> simp [h]
/-! Conversions. -/
theorem single_fit {b : Nat} {s : Bool} {m : Nat} {e : Int} (h : FloatKind.f32.decode b = .number s m e) : (m : Rat) * p2 e < p2 128 := by
  obtain ⟨h1, h2, h3⟩ := single_number h
  have h4 : (m : Rat) < ((2 ^ 24 : Nat) : Rat) := Rat.natCast_lt_natCast.2 h1
  have h5 := Rat.mul_lt_mul_of_pos_right h4 (p2_pos e)
  rw [p2_shl] at h5
  exact Std.lt_of_lt_of_le h5 (p2_le (by omega))
theorem vl_wide {x : FV} {p : Rat} (hx : Vl .f32 x p) : Vl .f64 (fconv .f32 .f64 x) p := by
  obtain ⟨b, s, m, e, rfl, hd, rfl⟩ := hx
  obtain ⟨h1, h2, h3⟩ := single_number hd
  have h4 := single_fit hd
  obtain ⟨m', e', h5, h6, h7⟩ := nearest_rnd .f64 s m e (Std.lt_of_lt_of_le h4 (p2_le (by decide)))
  have hrep : RepN .f64 ((m : Rat) * p2 e) := ⟨m, e, Nat.le_trans (Nat.le_of_lt h1) (by decide), Int.le_trans (by decide) h2, rfl⟩
  have heq : (m' : Rat) * p2 e' = (m : Rat) * p2 e := Rat.le_antisymm ((h7 _ hrep).1 Rat.le_refl) ((h7 _ hrep).2 Rat.le_refl)
  have hc : fconv .f32 .f64 (some b) = some (FloatKind.f64.format.nearest s m e) := by
    have h8 : FloatKind.f64.encode (.number s m e) = FloatKind.f64.format.nearest s m e := rfl
    simp only [fconv, Option.bind_some, floatToFloatBits, if_neg (by decide : ¬ FloatKind.f32 = FloatKind.f64), hd, h8]
    rw [if_neg]
    rw [h5]
    simp [Ieee.Datum.isInfinity]
  rw [hc]
  refine ⟨_, s, m', e', rfl, h5, ?_⟩
  unfold vl
  rw [heq]
theorem vl_narrow {x : FV} {p : Rat} (hx : Vl .f64 x p) (hf : Fit .f32 p) : ∃ r, Vl .f32 (fconv .f64 .f32 x) r ∧ Rnd .f32 p r := by
  obtain ⟨b, s, m, e, rfl, hd, rfl⟩ := hx
  obtain ⟨m', e', h5, h6, h7⟩ := nearest_rnd .f32 s m e hf.mag
  have hc : fconv .f64 .f32 (some b) = some (FloatKind.f32.format.nearest s m e) := by
    have h8 : FloatKind.f32.encode (.number s m e) = FloatKind.f32.format.nearest s m e := rfl
    simp only [fconv, Option.bind_some, floatToFloatBits, if_neg (by decide : ¬ FloatKind.f64 = FloatKind.f32), hd, h8]
    rw [if_neg]
    rw [h5]
    simp [Ieee.Datum.isInfinity]
  rw [hc]
  exact ⟨_, .of h5, h6⟩
theorem vl_narrow_ok {x : FV} {p : Rat} (hx : Vl .f64 x p) (hf : Fit .f32 p) : ConvOk .f64 .f32 x := by
  obtain ⟨r, h, _⟩ := vl_narrow hx hf
  exact .inr h.some
theorem vl_ofInt (k : FloatKind) (n : Int) (h : n.natAbs ≤ 2 ^ (k.format.fractionBits + 1)) : Vl k (some (k.nearest n)) (n : Rat) := by
  have hv := vl_int n 0
  rw [p2_zero, Rat.mul_one] at hv
  have hrep := rep_int k n h
  have hb : (((2 ^ (k.format.fractionBits + 1) : Nat)) : Rat) < p2 (ftop k) := by cases k <;> decide +kernel
  have hfit : (n.natAbs : Rat) * p2 0 < p2 (ftop k) := by
    rw [p2_zero, Rat.mul_one]
    exact Std.lt_of_le_of_lt (Rat.natCast_le_natCast.2 h) hb
  obtain ⟨m', e', h5, h6, _⟩ := nearest_rnd k (decide (n < 0)) n.natAbs 0 hfit
  rw [← hv] at h6
  have := rnd_rep h6 hrep
  exact ⟨_, _, m', e', rfl, h5, this⟩
/-- The whole number towards nought. -/
theorem vl_trunc {k : FloatKind} {b : Nat} {q : Rat} (hx : Vl k (some b) q) : ∃ n : Int, (k.decode b).toInt .zero = some n ∧ ((0 ≤ q ∧ (n : Rat) ≤ q ∧ q < n + 1) ∨ (q ≤ 0 ∧ q ≤ n ∧ (n : Rat) - 1 < q)) := by
  obtain ⟨b', s, m, e, hb, hd, rfl⟩ := hx
  cases hb
  rw [hd]
  simp only [Ieee.Datum.toInt, Ieee.Datum.integral]
  have hcut : ∀ n d, Ieee.Toward.zero.cut s n d = n / 2 ^ d := fun n d => by
    unfold Ieee.Toward.cut
    dsimp only
    rw [Nat.one_shiftLeft, Bool.toNat_false, Nat.add_zero]
    rcases Nat.le_total d (n.log2 + 2) with h | h
    · rw [Nat.min_eq_left h]
    · rw [Nat.min_eq_right h]
      have h1 : n < 2 ^ (n.log2 + 1) := Nat.lt_log2_self
      have h2 : 2 ^ (n.log2 + 1) ≤ 2 ^ (n.log2 + 2) := Nat.pow_le_pow_right (by decide) (by omega)
      have h3 : 2 ^ (n.log2 + 2) ≤ 2 ^ d := Nat.pow_le_pow_right (by decide) h
      rw [Nat.div_eq_of_lt (by omega), Nat.div_eq_of_lt (by omega)]
  rw [hcut]
  have hN : ∃ N : Nat, (m <<< e.toNat) / 2 ^ (-e).toNat = N ∧ (N : Rat) ≤ (m : Rat) * p2 e ∧ (m : Rat) * p2 e < N + 1 := by
    refine ⟨_, rfl, ?_⟩
    rcases Int.le_total 0 e with h | h
    · have : (-e).toNat = 0 := by omega
      rw [this, Nat.pow_zero, Nat.div_one]
      have h1 := mul_shl m e.toNat 0
      rw [p2_zero, Rat.mul_one] at h1
      rw [h1]
      have h2 : (0 : Int) + (e.toNat : Int) = e := by omega
      rw [h2]
      constructor <;> grind
    · have : e.toNat = 0 := by omega
      rw [this, Nat.shiftLeft_zero]
      have hs := p2_mul_neg e
      have h2 : p2 (-e) = ((2 ^ (-e).toNat : Nat) : Rat) := by
        rw [← p2_nat]
        congr 1
        omega
      rw [h2] at hs
      have hG : 0 < 2 ^ (-e).toNat := Nat.two_pow_pos _
      generalize 2 ^ (-e).toNat = G at *
      have h3 := Nat.div_add_mod m G
      have h4 := Nat.mod_lt m hG
      generalize m / G = N at *
      generalize m % G = r at *
      have hp := p2_pos e
      have hm : (m : Rat) = (G : Rat) * N + r := by
        rw [← h3, Rat.natCast_add, Rat.natCast_mul]
      have hr0 : (0 : Rat) ≤ r := Rat.natCast_nonneg
      have hr : (r : Rat) < G := Rat.natCast_lt_natCast.2 h4
      have a1 : (r : Rat) * p2 e < G * p2 e := Rat.mul_lt_mul_of_pos_right hr hp
      have a2 : 0 ≤ (r : Rat) * p2 e := Rat.mul_nonneg hr0 (Rat.le_of_lt hp)
      have a3 : (m : Rat) * p2 e = N + (r : Rat) * p2 e := by
        rw [hm, Rat.add_mul, Rat.mul_comm (G : Rat) (N : Rat), Rat.mul_assoc, Rat.mul_comm (G : Rat), hs, Rat.mul_one]
      rw [Rat.mul_comm (G : Rat), hs] at a1
      rw [a3]
      constructor <;> grind
  obtain ⟨N, hN1, hN2, hN3⟩ := hN
  rw [hN1]
  have hn : ((Ieee.signed s N 0 : Int) : Rat) = sgn s * N := by
    have := vl_signed s N 0 0
    rw [p2_zero, Rat.mul_one] at this
    rw [this]
    unfold vl
    show sgn s * ((N : Rat) * p2 0) = _
    rw [p2_zero, Rat.mul_one]
  have h0 : (0 : Rat) ≤ (m : Rat) * p2 e := Rat.mul_nonneg Rat.natCast_nonneg (Rat.le_of_lt (p2_pos e))
  refine ⟨_, rfl, ?_⟩
  rw [hn]
  unfold vl sgn
  cases s
  · left
    simp only [Bool.false_eq_true, if_false, Rat.one_mul]
    exact ⟨h0, hN2, hN3⟩
  · right
    simp only [if_true]
    refine ⟨?_, ?_, ?_⟩ <;> grind
/-! Finite numbers. -/
theorem vl_fin {x : FV} {p : Rat} (hx : Vl .f32 x p) : cmpB .eql (fcmp .f32 (fbin .sub .f32 x x) (fv .f32 0)) = true := by
  have hz : p - p = 0 := Rat.sub_self
  obtain ⟨r, h1, h2⟩ := vl_sub hx hx (by rw [hz]; exact ⟨by decide +kernel, by decide +kernel⟩)
  rw [hz] at h2
  have hr := rnd_rep h2 (rep_zero _)
  subst hr
  rw [vl_eql h1 (Vl.c (b := 0) (q := 0) (by decide +kernel))]
  rfl
theorem fin_vl {k : FloatKind} {x : FV} (h : cmpB .eql (fcmp k (fbin .sub k x x) (fv k 0)) = true) : ∃ q, Vl k x q := by
  cases x with
  | none => simp [fbin, fcmp, cmpB] at h
  | some b =>
    cases hd : k.decode b with
    | number s m e => exact ⟨_, .of hd⟩
    | infinity s =>
      have hd' : k.format.read b = .infinity s := hd
      have : fbin .sub k (some b) (some b) = none := by cases s <;> simp [fbin, floatBits, Ieee.Format.sub, hd', Ieee.Datum.opposite, Ieee.Datum.sum]
      rw [this] at h
      simp [fcmp, cmpB] at h
    | nan s t =>
      have hd' : k.format.read b = .nan s t := hd
      have : fbin .sub k (some b) (some b) = none := by simp [fbin, floatBits, Ieee.Format.sub, hd', Ieee.Datum.opposite, Ieee.Datum.sum]
      rw [this] at h
      simp [fcmp, cmpB] at h
/-- The other sign. -/
def negBits (k : FloatKind) (b : Nat) : Nat := b ^^^ 2 ^ (k.format.exponentBits + k.format.fractionBits)
def fneg (k : FloatKind) (x : FV) : FV := x.map (negBits k)
theorem negBits_mod (k : FloatKind) (b : Nat) : negBits k b % k.format.signWeight = b % k.format.signWeight := by
  show (b ^^^ k.format.signWeight) % 2 ^ (k.format.exponentBits + k.format.fractionBits) = b % 2 ^ (k.format.exponentBits + k.format.fractionBits)
  rw [Nat.xor_mod_two_pow]
  show _ ^^^ 2 ^ (k.format.exponentBits + k.format.fractionBits) % 2 ^ (k.format.exponentBits + k.format.fractionBits) = _
  rw [Nat.mod_self, Nat.xor_zero]
theorem negBits_sign (k : FloatKind) (b : Nat) : (negBits k b / k.format.signWeight % 2 == 1) = !(b / k.format.signWeight % 2 == 1) := by
  have h : ∀ x : Nat, (x / k.format.signWeight % 2 == 1) = x.testBit (k.format.exponentBits + k.format.fractionBits) := fun x => by
    rw [Nat.testBit_eq_decide_div_mod_eq]
    show (x / 2 ^ _ % 2 == 1) = _
    rw [Bool.eq_iff_iff, beq_iff_eq, decide_eq_true_iff]
  rw [h, h]
  unfold negBits
  rw [Nat.testBit_xor, Nat.testBit_two_pow_self, Bool.xor_true]
theorem read_negBits (k : FloatKind) (b : Nat) : k.decode (negBits k b) = (k.decode b).opposite := by
  unfold FloatKind.decode Ieee.Format.read
  simp only [negBits_mod, negBits_sign]
  split
  · rfl
  · split
    · rfl
    · split <;> rfl
theorem fv_negBits (k : FloatKind) (b : Nat) : fv k (negBits k b) = fneg k (fv k b) := by
  unfold fv
  rw [read_negBits]
  have : (k.decode b).opposite.isNaN = (k.decode b).isNaN := by cases k.decode b <;> rfl
  rw [this]
  split <;> rfl
theorem vl_fneg {k : FloatKind} {x : FV} {q : Rat} (h : Vl k x q) : Vl k (fneg k x) (-q) := by
  obtain ⟨b, s, m, e, rfl, hd, rfl⟩ := h
  refine ⟨negBits k b, !s, m, e, rfl, ?_, vl_neg s m e⟩
  rw [read_negBits, hd]
  rfl
theorem negBits_lt (k : FloatKind) {b : Nat} (h : b < 2 ^ k.format.width) : negBits k b < 2 ^ k.format.width := by
  unfold negBits
  refine Nat.xor_lt_two_pow h (Nat.pow_lt_pow_right (by decide) ?_)
  show _ < 1 + k.format.exponentBits + k.format.fractionBits
  omega
/-! The absolute value. -/
def fabs64 (x : FV) : FV := x.map (fun b => b % 2 ^ 63)
theorem read_abs (b : Nat) : FloatKind.f64.decode (b % 2 ^ 63) = match FloatKind.f64.decode b with
  | .number _ m e => .number false m e
  | .infinity _ => .infinity false
  | .nan _ t => .nan false t := by
  have hs : FloatKind.f64.format.signWeight = 2 ^ 63 := rfl
  unfold FloatKind.decode Ieee.Format.read
  simp only [hs, Nat.mod_mod]
  have h0 : (b % 2 ^ 63 / 2 ^ 63 % 2 == 1) = false := by
    rw [Nat.div_eq_of_lt (Nat.mod_lt _ (by decide))]
    rfl
  rw [h0]
  split
  · rfl
  · split
    · rfl
    · split <;> rfl
theorem vl_abs {x : FV} {q : Rat} (h : Vl .f64 x q) : Vl .f64 (fabs64 x) (if 0 ≤ q then q else -q) := by
  obtain ⟨b, s, m, e, rfl, hd, rfl⟩ := h
  refine ⟨b % 2 ^ 63, false, m, e, rfl, by rw [read_abs, hd], ?_⟩
  have h0 : (0 : Rat) ≤ (m : Rat) * p2 e := Rat.mul_nonneg Rat.natCast_nonneg (Rat.le_of_lt (p2_pos e))
  unfold vl sgn
  cases s
  · simp only [Bool.false_eq_true, if_false, Rat.one_mul]
    rw [if_pos h0]
  · simp only [Bool.false_eq_true, if_false, if_true, Rat.one_mul]
    split <;> grind
end Go.Ab
