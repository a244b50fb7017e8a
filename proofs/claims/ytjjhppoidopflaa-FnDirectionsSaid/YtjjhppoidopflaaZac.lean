/- Part 3 of the texts on which the law leans, joined: The length of a complex number, as it is computed. No conditions. -/
import Derived.OwnWalk
import Derived.Test.YtjjhppoidopflaaRows
import Derived.KernelRfl
import Derived.Test.YtjjhppoidopflaaZab
namespace Go.Ab
/-- A float that is a number of some value. -/
def Vl (k : FloatKind) (x : FV) (q : Rat) : Prop := ∃ b s m e, x = some b ∧ k.decode b = .number s m e ∧ vl s m e = q
theorem Vl.of {k : FloatKind} {b : Nat} {s : Bool} {m : Nat} {e : Int} (h : k.decode b = .number s m e) : Vl k (some b) (vl s m e) := ⟨b, s, m, e, rfl, h, rfl⟩
theorem Vl.fvc {k : FloatKind} {b : Nat} {s : Bool} {m : Nat} {e : Int} {q : Rat} (h : k.decode b = .number s m e) (hq : vl s m e = q) : Vl k (fv k b) q := by
  have : fv k b = some b := fv_some (by rw [h]; rfl)
  rw [this, ← hq]
  exact .of h
/-- Whether a word is a number of some value. -/
def vlc (k : FloatKind) (b : Nat) (q : Rat) : Bool := match k.decode b with
  | .number s m e => decide (vl s m e = q)
  | _ => false
theorem Vl.cs {k : FloatKind} {b : Nat} {q : Rat} (h : vlc k b q = true) : Vl k (.some b) q := by
  unfold vlc at h
  split at h
  · rename_i s m e hd
    exact ⟨b, s, m, e, rfl, hd, of_decide_eq_true h⟩
  · cases h
theorem Vl.c {k : FloatKind} {b : Nat} {q : Rat} (h : vlc k b q = true) : Vl k (fv k b) q := by
  obtain ⟨b', s, m, e, hb, hd, hq⟩ := Vl.cs h
  cases hb
  exact Vl.fvc hd hq
theorem Vl.some {k : FloatKind} {x : FV} {q : Rat} (h : Vl k x q) : x ≠ none := by
  obtain ⟨b, _, _, _, rfl, _, _⟩ := h
  exact Option.some_ne_none b
theorem Vl.unique {k : FloatKind} {x : FV} {p q : Rat} (h : Vl k x p) (h' : Vl k x q) : p = q := by
  obtain ⟨b, s, m, e, rfl, hd, rfl⟩ := h
  obtain ⟨b', s', m', e', hb, hd', rfl⟩ := h'
  cases hb
  rw [hd] at hd'
  cases hd'
  rfl
/-- Not too great to be written. -/
def Fit (k : FloatKind) (q : Rat) : Prop := -p2 (ftop k) < q ∧ q < p2 (ftop k)
theorem Fit.mag {k : FloatKind} {s : Bool} {m : Nat} {e : Int} (h : Fit k (vl s m e)) : (m : Rat) * p2 e < p2 (ftop k) := by
  obtain ⟨h1, h2⟩ := h
  unfold vl sgn at h1 h2
  cases s <;> grind
theorem write_vl (k : FloatKind) (s : Bool) (m : Nat) (e : Int) (h : Fit k (vl s m e)) : ∃ r, Vl k (some (k.format.nearest s m e)) r ∧ Rnd k (vl s m e) r := by
  obtain ⟨m', e', h1, h2, _⟩ := nearest_rnd k s m e h.mag
  exact ⟨_, .of h1, h2⟩
/-- What has a value of its own. -/
theorem rnd_rep {k : FloatKind} {q r : Rat} (h : Rnd k q r) (hq : Rep k q) : r = q :=
  Rat.le_antisymm ((h.side q hq).1 Rat.le_refl) ((h.side q hq).2 Rat.le_refl)
theorem rep_zero (k : FloatKind) : Rep k 0 := .inl ⟨0, k.format.leastPlace, Nat.zero_le _, Int.le_refl _, by rw [show ((0 : Nat) : Rat) = 0 from rfl, Rat.zero_mul]⟩
theorem rep_int (k : FloatKind) (n : Int) (h : n.natAbs ≤ 2 ^ (k.format.fractionBits + 1)) : Rep k (n : Rat) := by
  have hlp : k.format.leastPlace ≤ 0 := by cases k <;> decide
  rcases Int.le_total 0 n with h0 | h0
  · refine .inl ⟨n.natAbs, 0, h, hlp, ?_⟩
    rw [p2_zero, Rat.mul_one, ← Rat.intCast_natCast]
    congr 1
    omega
  · refine .inr ⟨n.natAbs, 0, h, hlp, ?_⟩
    rw [p2_zero, Rat.mul_one, ← Rat.intCast_natCast, ← Rat.intCast_neg]
    congr 1
    omega

theorem sum_vl (s t : Bool) (m n : Nat) (i j : Int) : ∃ u M, Ieee.Datum.sum (.number s m i) (.number t n j) = some (.number u M (min i j)) ∧ vl u M (min i j) = vl s m i + vl t n j := by
  simp only [Ieee.Datum.sum]
  refine ⟨_, _, rfl, ?_⟩
  have e1 := vl_signed s m (i - min i j).toNat (min i j)
  have e2 := vl_signed t n (j - min i j).toNat (min i j)
  have a1 : min i j + ((i - min i j).toNat : Int) = i := by omega
  have a2 : min i j + ((j - min i j).toNat : Int) = j := by omega
  rw [a1] at e1
  rw [a2] at e2
  rw [← e1, ← e2, ← Rat.add_mul, ← Rat.intCast_add, vl_int]
  split
  · rename_i h0
    rw [h0]
    show vl _ 0 _ = vl _ 0 _
    rw [vl_zero, vl_zero]
  · rfl
theorem vl_add {k : FloatKind} {x y : FV} {p q : Rat} (hx : Vl k x p) (hy : Vl k y q) (hf : Fit k (p + q)) : ∃ r, Vl k (fbin .add k x y) r ∧ Rnd k (p + q) r := by
  obtain ⟨a, s, m, i, rfl, ha, rfl⟩ := hx
  obtain ⟨b, t, n, j, rfl, hb, rfl⟩ := hy
  obtain ⟨u, M, h1, h2⟩ := sum_vl s t m n i j
  rw [← h2] at hf ⊢
  have : fbin .add k (some a) (some b) = some (k.format.nearest u M (min i j)) := by
    have ha' : k.format.read a = .number s m i := ha
    have hb' : k.format.read b = .number t n j := hb
    simp [fbin, floatBits, Ieee.Format.add, ha', hb', h1, Ieee.Format.write]
  rw [this]
  exact write_vl k u M _ hf
theorem vl_sub {k : FloatKind} {x y : FV} {p q : Rat} (hx : Vl k x p) (hy : Vl k y q) (hf : Fit k (p - q)) : ∃ r, Vl k (fbin .sub k x y) r ∧ Rnd k (p - q) r := by
  obtain ⟨a, s, m, i, rfl, ha, rfl⟩ := hx
  obtain ⟨b, t, n, j, rfl, hb, rfl⟩ := hy
  obtain ⟨u, M, h1, h2⟩ := sum_vl s (!t) m n i j
  have h3 : vl s m i - vl t n j = vl s m i + vl (!t) n j := by rw [vl_neg, Rat.sub_eq_add_neg]
  rw [h3, ← h2] at hf ⊢
  have : fbin .sub k (some a) (some b) = some (k.format.nearest u M (min i j)) := by
    have ha' : k.format.read a = .number s m i := ha
    have hb' : k.format.read b = .number t n j := hb
    simp [fbin, floatBits, Ieee.Format.sub, ha', hb', Ieee.Datum.opposite, h1, Ieee.Format.write]
  rw [this]
  exact write_vl k u M _ hf
theorem mul_vl (s t : Bool) (m n : Nat) (i j : Int) : vl (s ^^ t) (m * n) (i + j) = vl s m i * vl t n j := by
  unfold vl
  rw [Rat.natCast_mul, p2_add]
  have : sgn (s ^^ t) = sgn s * sgn t := by cases s <;> cases t <;> decide +kernel
  rw [this]
  grind
theorem vl_mul {k : FloatKind} {x y : FV} {p q : Rat} (hx : Vl k x p) (hy : Vl k y q) (hf : Fit k (p * q)) : ∃ r, Vl k (fbin .mul k x y) r ∧ Rnd k (p * q) r := by
  obtain ⟨a, s, m, i, rfl, ha, rfl⟩ := hx
  obtain ⟨b, t, n, j, rfl, hb, rfl⟩ := hy
  rw [← mul_vl] at hf ⊢
  have : fbin .mul k (some a) (some b) = some (k.format.nearest (s ^^ t) (m * n) (i + j)) := by
    have ha' : k.format.read a = .number s m i := ha
    have hb' : k.format.read b = .number t n j := hb
    simp [fbin, floatBits, Ieee.Format.mul, ha', hb', Ieee.Datum.product, Ieee.Format.write]
  rw [this]
  exact write_vl k _ _ _ hf
/-- A quotient with its sticky digit, as it lies beside the true one. -/
theorem quo_sticky (m n fb : Nat) (i j : Int) (hm : m ≠ 0) (hn : n ≠ 0) : ∀ more, fb + 2 + n.log2 ≤ m.log2 + more → ∀ A : Rat, A * ((n : Rat) * p2 j) = (m : Rat) * p2 i →
    ∃ F st : Nat, 2 * (m <<< more / n) + (m <<< more % n != 0).toNat = 2 * F + st ∧ (st = 0 ∨ st = 1) ∧ 2 ^ (fb + 1) ≤ F ∧
      ((st = 0 ∧ A = 2 * ((F : Rat) * p2 (i - j - more - 1))) ∨ (st = 1 ∧ 2 * ((F : Rat) * p2 (i - j - more - 1)) < A ∧ A < 2 * ((F : Rat) * p2 (i - j - more - 1)) + 2 * p2 (i - j - more - 1))) := by
  intro more hmore A hA
  have hD := mul_shl m more (i - more)
  have hDn : 2 ^ (fb + 1) * n ≤ m <<< more := by
    rw [Nat.shiftLeft_eq]
    have h1 : n < 2 ^ (n.log2 + 1) := Nat.lt_log2_self
    have h2 : 2 ^ (fb + 1) * n ≤ 2 ^ (fb + 1) * 2 ^ (n.log2 + 1) := Nat.mul_le_mul_left _ (Nat.le_of_lt h1)
    rw [← Nat.pow_add] at h2
    have h3 : 2 ^ m.log2 * 2 ^ more ≤ m * 2 ^ more := Nat.mul_le_mul_right _ (Nat.log2_self_le hm)
    rw [← Nat.pow_add] at h3
    exact Nat.le_trans h2 (Nat.le_trans (Nat.pow_le_pow_right (by decide) (by omega)) h3)
  generalize m <<< more = D at *
  have hn0 : 0 < n := by omega
  have hF : 2 ^ (fb + 1) ≤ D / n := (Nat.le_div_iff_mul_le hn0).2 hDn
  have h3 := Nat.div_add_mod D n
  have h4 := Nat.mod_lt D hn0
  generalize D / n = F at *
  generalize D % n = r at *
  have e1 : i - (more : Int) + more = i := by omega
  rw [e1] at hD
  have hu : p2 (i - more) = 2 * p2 (i - j - more - 1) * p2 j := by
    rw [← p2_one, ← p2_add, ← p2_add]
    congr 1
    omega
  have hj := p2_pos j
  have hup := p2_pos (i - j - more - 1)
  generalize p2 (i - j - more - 1) = u at *
  have hN : (0 : Rat) < n := by
    rw [show (0 : Rat) = ((0 : Nat) : Rat) from rfl]
    exact Rat.natCast_lt_natCast.2 hn0
  have hDr : (D : Rat) = (n : Rat) * F + r := by rw [← h3, Rat.natCast_add, Rat.natCast_mul]
  have hnj : 0 < (n : Rat) * p2 j := Rat.mul_pos hN hj
  -- A n = D 2u
  have hAn : A * ((n : Rat) * p2 j) = ((n : Rat) * F + r) * (2 * u * p2 j) := by rw [hA, ← hD, hu, hDr]
  have hAn2 : (A * (n : Rat)) * p2 j = (((n : Rat) * F + r) * (2 * u)) * p2 j := by grind
  have hAn3 : A * (n : Rat) = ((n : Rat) * F + r) * (2 * u) := by
    apply Rat.le_antisymm
    · exact Rat.le_of_mul_le_mul_right (by rw [hAn2]; exact Rat.le_refl) hj
    · exact Rat.le_of_mul_le_mul_right (by rw [hAn2]; exact Rat.le_refl) hj
  rcases Nat.eq_zero_or_pos r with h0 | h0
  · subst h0
    refine ⟨F, 0, by simp, .inl rfl, hF, .inl ⟨rfl, ?_⟩⟩
    rw [show ((0 : Nat) : Rat) = 0 from rfl, Rat.add_zero] at hAn3
    apply Rat.le_antisymm
    · exact Rat.le_of_mul_le_mul_right (c := (n : Rat)) (by grind) hN
    · exact Rat.le_of_mul_le_mul_right (c := (n : Rat)) (by grind) hN
  · have hr0 : (0 : Rat) < r := by
      rw [show (0 : Rat) = ((0 : Nat) : Rat) from rfl]
      exact Rat.natCast_lt_natCast.2 h0
    have hrn : (r : Rat) < n := Rat.natCast_lt_natCast.2 h4
    have hne : (r != 0).toNat = 1 := by
      have : (r != 0) = true := by simp; omega
      rw [this]; rfl
    refine ⟨F, 1, by rw [hne], .inr rfl, hF, .inr ⟨rfl, ?_, ?_⟩⟩
    · refine Rat.lt_of_mul_lt_mul_right (c := (n : Rat)) ?_ (Rat.le_of_lt hN)
      rw [hAn3]
      have := Rat.mul_pos hr0 hup
      grind
    · refine Rat.lt_of_mul_lt_mul_right (c := (n : Rat)) ?_ (Rat.le_of_lt hN)
      rw [hAn3]
      have := Rat.mul_lt_mul_of_pos_right hrn hup
      grind
theorem sticky_side {k : FloatKind} {A u : Rat} {F st : Nat} {e : Int} (hu : u = p2 e) (hst : st = 0 ∨ st = 1) (hF : 2 ^ (k.format.fractionBits + 1) ≤ F)
    (hA : (st = 0 ∧ A = 2 * ((F : Rat) * u)) ∨ (st = 1 ∧ 2 * ((F : Rat) * u) < A ∧ A < 2 * ((F : Rat) * u) + 2 * u)) {B : Rat} (hB : RepN k B) :
    (A ≤ B → ((2 * F + st : Nat) : Rat) * u ≤ B) ∧ (B ≤ A → B ≤ ((2 * F + st : Nat) : Rat) * u) := by
  have hup : 0 < u := by rw [hu]; exact p2_pos e
  have hc : ((2 * F + st : Nat) : Rat) * u = 2 * ((F : Rat) * u) + (st : Rat) * u := by
    rw [Rat.natCast_add, Rat.natCast_mul]
    show (2 * (F : Rat) + st) * u = _
    grind
  rw [hc]
  rcases hA with ⟨h0, h1⟩ | ⟨h0, h1, h2⟩
  · subst h0
    rw [show ((0 : Nat) : Rat) = 0 from rfl, Rat.zero_mul, Rat.add_zero, ← h1]
    exact ⟨id, id⟩
  · subst h0
    rw [show ((1 : Nat) : Rat) = 1 from rfl, Rat.one_mul]
    obtain ⟨M, E, hM, hE, hBe⟩ := hB
    rcases (show e + 1 ≤ E ∨ E ≤ e from by omega) with hle | hle
    · have hB2 : B = 2 * (((M * 2 ^ (E - (e + 1)).toNat : Nat) : Rat) * u) := by
        rw [hBe, p2_split hle, p2_add, p2_one, Rat.natCast_mul, hu]
        grind
      generalize M * 2 ^ (E - (e + 1)).toNat = N at *
      refine ⟨fun h => ?_, fun h => ?_⟩
      · have h3 : (F : Rat) * u < (N : Rat) * u := by grind
        have h4 : F < N := Rat.natCast_lt_natCast.1 ((Rat.mul_lt_mul_right hup).1 h3)
        have h5 : ((F + 1 : Nat) : Rat) * u ≤ (N : Rat) * u := Rat.mul_le_mul_of_nonneg_right (Rat.natCast_le_natCast.2 h4) (Rat.le_of_lt hup)
        rw [Rat.natCast_add, show ((1 : Nat) : Rat) = 1 from rfl] at h5
        grind
      · have h3 : (N : Rat) * u < ((F + 1 : Nat) : Rat) * u := by
          rw [Rat.natCast_add, show ((1 : Nat) : Rat) = 1 from rfl]
          grind
        have h4 : N < F + 1 := Rat.natCast_lt_natCast.1 ((Rat.mul_lt_mul_right hup).1 h3)
        have h5 : (N : Rat) * u ≤ (F : Rat) * u := Rat.mul_le_mul_of_nonneg_right (Rat.natCast_le_natCast.2 (by omega)) (Rat.le_of_lt hup)
        grind
    · have h3 : B ≤ (F : Rat) * u := by
        rw [hBe, hu]
        refine Rat.le_trans (Rat.mul_le_mul_of_nonneg_left (p2_le hle) Rat.natCast_nonneg) (mul_p2_le (Nat.le_trans hM hF) e)
      have h4 : 0 < (F : Rat) * u := by
        refine Rat.mul_pos ?_ hup
        rw [show (0 : Rat) = ((0 : Nat) : Rat) from rfl]
        exact Rat.natCast_lt_natCast.2 (Nat.lt_of_lt_of_le (Nat.two_pow_pos _) hF)
      exact ⟨fun h => by grind, fun h => by grind⟩
theorem vl_div {k : FloatKind} {x y : FV} {p q : Rat} (hx : Vl k x p) (hy : Vl k y q) (hq : q ≠ 0) (hf : -p2 (ftop k - 1) ≤ p / q ∧ p / q ≤ p2 (ftop k - 1)) : ∃ r, Vl k (fbin .quo k x y) r ∧ Rnd k (p / q) r := by
  obtain ⟨a, s, m, i, rfl, ha, rfl⟩ := hx
  obtain ⟨b, t, n, j, rfl, hb, rfl⟩ := hy
  have hn : n ≠ 0 := fun h => by
    subst h
    exact hq (vl_zero t j)
  have hn0 : (0 : Rat) < n := by
    rw [show (0 : Rat) = ((0 : Nat) : Rat) from rfl]
    exact Rat.natCast_lt_natCast.2 (by omega)
  have hnj : 0 < (n : Rat) * p2 j := Rat.mul_pos hn0 (p2_pos j)
  have hsg : vl s m i / vl t n j = sgn (s ^^ t) * (((m : Rat) * p2 i) / ((n : Rat) * p2 j)) := by
    have h1 : vl s m i / vl t n j * vl t n j = vl s m i := Rat.div_mul_cancel hq
    have h2 : ((m : Rat) * p2 i) / ((n : Rat) * p2 j) * ((n : Rat) * p2 j) = (m : Rat) * p2 i := Rat.div_mul_cancel (Rat.ne_of_gt hnj)
    have h3 : sgn (s ^^ t) * (((m : Rat) * p2 i) / ((n : Rat) * p2 j)) * vl t n j = vl s m i := by
      have h4 : sgn (s ^^ t) * sgn t = sgn s := by cases s <;> cases t <;> decide +kernel
      have h5 : sgn (s ^^ t) * (((m : Rat) * p2 i) / ((n : Rat) * p2 j)) * vl t n j = (sgn (s ^^ t) * sgn t) * (((m : Rat) * p2 i) / ((n : Rat) * p2 j) * ((n : Rat) * p2 j)) := by
        unfold vl
        generalize ((m : Rat) * p2 i) / ((n : Rat) * p2 j) = A
        grind
      rw [h5, h4, h2]
      rfl
    generalize vl s m i / vl t n j = X at *
    generalize sgn (s ^^ t) * (((m : Rat) * p2 i) / ((n : Rat) * p2 j)) = Y at *
    have h6 : (X - Y) * vl t n j = 0 := by grind
    rcases Rat.mul_eq_zero.1 h6 with h7 | h7
    · grind
    · exact absurd h7 hq
  rw [hsg] at hf ⊢
  have hA : ((m : Rat) * p2 i) / ((n : Rat) * p2 j) * ((n : Rat) * p2 j) = (m : Rat) * p2 i := Rat.div_mul_cancel (Rat.ne_of_gt hnj)
  generalize ((m : Rat) * p2 i) / ((n : Rat) * p2 j) = A at *
  have hA0 : 0 ≤ A := by
    rcases Rat.le_total (a := 0) (b := A) with h | h
    · exact h
    · have h1 := Rat.mul_nonneg (Rat.natCast_nonneg (a := m)) (Rat.le_of_lt (p2_pos i))
      rw [← hA] at h1
      have h2 := Rat.mul_nonneg (show 0 ≤ -A by grind) (Rat.le_of_lt hnj)
      have h3 : A * ((n : Rat) * p2 j) = 0 := by grind
      rcases Rat.mul_eq_zero.1 h3 with h4 | h4
      · grind
      · grind
  have hAf : A ≤ p2 (ftop k - 1) := by
    obtain ⟨h1, h2⟩ := hf
    cases hst : (s ^^ t) <;> rw [hst] at h1 h2 <;> simp only [sgn] at h1 h2 <;> grind
  have hfb : fbin .quo k (some a) (some b) = some (k.format.nearest (s ^^ t) (2 * (m <<< (k.format.fractionBits + 2 + n.log2 - m.log2) / n) + (m <<< (k.format.fractionBits + 2 + n.log2 - m.log2) % n != 0).toNat) (i - j - (k.format.fractionBits + 2 + n.log2 - m.log2 : Nat) - 1)) := by
    have ha' : k.format.read a = .number s m i := ha
    have hb' : k.format.read b = .number t n j := hb
    simp [fbin, floatBits, Ieee.Format.div, ha', hb', Ieee.Datum.quotient, hn, Ieee.Format.write]
  rw [hfb]
  have htop : p2 (ftop k - 1) < p2 (ftop k) := by cases k <;> decide +kernel
  by_cases hm : m = 0
  · subst hm
    have hA1 : A = 0 := by
      rw [show ((0 : Nat) : Rat) = 0 from rfl, Rat.zero_mul] at hA
      rcases Rat.mul_eq_zero.1 hA with h4 | h4
      · exact h4
      · exact absurd h4 (Rat.ne_of_gt hnj)
    subst hA1
    have e0 : 2 * (0 <<< (k.format.fractionBits + 2 + n.log2 - Nat.log2 0) / n) + (0 <<< (k.format.fractionBits + 2 + n.log2 - Nat.log2 0) % n != 0).toNat = 0 := by
      rw [Nat.zero_shiftLeft, Nat.zero_div, Nat.zero_mod]; rfl
    rw [e0]
    generalize i - j - (k.format.fractionBits + 2 + n.log2 - Nat.log2 0 : Nat) - 1 = e
    have h1 := write_vl k (s ^^ t) 0 e (by rw [vl_zero]; cases k <;> exact ⟨by decide +kernel, by decide +kernel⟩)
    rw [vl_zero] at h1
    rw [Rat.mul_zero]
    exact h1
  · obtain ⟨F, st, h1, h2, h3, h4⟩ := quo_sticky m n k.format.fractionBits i j hm hn (k.format.fractionBits + 2 + n.log2 - m.log2) (by omega) A hA
    rw [h1]
    generalize i - j - (k.format.fractionBits + 2 + n.log2 - m.log2 : Nat) - 1 = e at *
    have hsd := fun {B} (hB : RepN k B) => sticky_side (k := k) rfl h2 h3 h4 (B := B) hB
    have hrt : RepN k (p2 (ftop k - 1)) := ⟨1, ftop k - 1, Nat.one_le_two_pow, by cases k <;> decide, by rw [show ((1 : Nat) : Rat) = 1 from rfl, Rat.one_mul]⟩
    have hA' := (hsd hrt).1 hAf
    obtain ⟨m', e', g1, g2, g3, g4, g5⟩ := nearest_rnd' k (s ^^ t) (2 * F + st) e (Std.lt_of_le_of_lt hA' htop)
    refine ⟨_, .of g1, ?_⟩
    have hup := p2_pos e
    have hFu : feps k * ((F : Rat) * p2 e) ≥ 2 * p2 e := by
      have h5 := mul_p2_le h3 e
      rw [p2_shl] at h5
      have h6 := Rat.mul_le_mul_of_nonneg_left h5 (Rat.le_of_lt (eps_pos k))
      rw [eps_eq, ← p2_add] at h6
      have h7 : -(k.format.fractionBits : Int) + (((k.format.fractionBits + 1 : Nat) : Int) + e) = 1 + e := by omega
      rw [h7, p2_add, p2_one] at h6
      rw [eps_eq]
      exact h6
    have hc : ((2 * F + st : Nat) : Rat) * p2 e = 2 * ((F : Rat) * p2 e) + (st : Rat) * p2 e := by
      rw [Rat.natCast_add, Rat.natCast_mul]
      show (2 * (F : Rat) + st) * p2 e = _
      grind
    have he1 : feps k ≤ 1 / 4 := by cases k <;> decide +kernel
    have he0 := eps_pos k
    have ht := tiny_pos k
    refine rnd_sign hA0 (Rat.mul_nonneg Rat.natCast_nonneg (Rat.le_of_lt (p2_pos e'))) ?_ (Rat.le_of_lt he0) (fun B hB => ⟨fun h => (g3 B hB).1 ((hsd hB).1 h), fun h => (g3 B hB).2 ((hsd hB).2 h)⟩)
    generalize (m' : Rat) * p2 e' = R at *
    generalize ((2 * F + st : Nat) : Rat) * p2 e = A' at *
    generalize (F : Rat) * p2 e = FU at *
    generalize p2 e = u at *
    generalize ftiny k = T at *
    generalize feps k = E at *
    rcases h4 with ⟨h0, h5⟩ | ⟨h0, h5, h6⟩
    · subst h0
      rw [show ((0 : Nat) : Rat) = 0 from rfl, Rat.zero_mul, Rat.add_zero, ← h5] at hc
      subst hc
      have := Rat.mul_nonneg hA0 (Rat.le_of_lt he0)
      constructor <;> grind
    · subst h0
      rw [show ((1 : Nat) : Rat) = 1 from rfl, Rat.one_mul] at hc
      -- u ≤ E * FU / 2 ≤ E * A / 4
      have a1 : E * (2 * FU) ≤ E * A := Rat.mul_le_mul_of_nonneg_left (Rat.le_of_lt h5) (Rat.le_of_lt he0)
      have a2 : A' * E ≤ (A + u) * E := Rat.mul_le_mul_of_nonneg_right (by grind) (Rat.le_of_lt he0)
      have a3 : u * E ≤ u * (1 / 4) := Rat.mul_le_mul_of_nonneg_left he1 (Rat.le_of_lt hup)
      constructor <;> grind
theorem int_mul_lt {a b : Int} (e : Int) : (a : Rat) * p2 e < (b : Rat) * p2 e ↔ a < b := by
  rw [Rat.mul_lt_mul_right (p2_pos e)]
  exact Rat.intCast_lt_intCast
theorem vl_cmp {k : FloatKind} {x y : FV} {p q : Rat} (hx : Vl k x p) (hy : Vl k y q) : ∃ a b : Int, fcmp k x y = some (compare a b) ∧ (p < q ↔ a < b) ∧ (q < p ↔ b < a) := by
  obtain ⟨a, s, m, i, rfl, ha, rfl⟩ := hx
  obtain ⟨b, t, n, j, rfl, hb, rfl⟩ := hy
  have ha' : k.format.read a = .number s m i := ha
  have hb' : k.format.read b = .number t n j := hb
  refine ⟨_, _, by simp [fcmp, Ieee.Format.order, ha', hb', Ieee.Datum.order]; rfl, ?_, ?_⟩
  all_goals
    have e1 := vl_signed s m (i - min i j).toNat (min i j)
    have e2 := vl_signed t n (j - min i j).toNat (min i j)
    have a1 : min i j + ((i - min i j).toNat : Int) = i := by omega
    have a2 : min i j + ((j - min i j).toNat : Int) = j := by omega
    rw [a1] at e1
    rw [a2] at e2
    rw [← e1, ← e2, int_mul_lt]
theorem vl_lss {k : FloatKind} {x y : FV} {p q : Rat} (hx : Vl k x p) (hy : Vl k y q) : cmpB .lss (fcmp k x y) = decide (p < q) := by
  obtain ⟨a, b, h, h1, h2⟩ := vl_cmp hx hy
  rw [h]
  have hh : (p < q) = (a < b) := propext h1
  simp only [hh]
  rcases Int.lt_trichotomy a b with h3 | h3 | h3
  · simp [cmpB, h3, Int.compare_eq_lt.2 h3]
  · subst h3; simp [cmpB]
  · have : ¬ a < b := by omega
    simp [cmpB, this, Int.compare_eq_gt.2 h3]
theorem vl_gtr {k : FloatKind} {x y : FV} {p q : Rat} (hx : Vl k x p) (hy : Vl k y q) : cmpB .gtr (fcmp k x y) = decide (q < p) := by
  obtain ⟨a, b, h, h1, h2⟩ := vl_cmp hx hy
  rw [h]
  have hh : (q < p) = (b < a) := propext h2
  simp only [hh]
  rcases Int.lt_trichotomy a b with h3 | h3 | h3
  · have : ¬ b < a := by omega
    simp [cmpB, this, Int.compare_eq_lt.2 h3]
  · subst h3; simp [cmpB]
  · simp [cmpB, h3, Int.compare_eq_gt.2 h3]
theorem vl_leq {k : FloatKind} {x y : FV} {p q : Rat} (hx : Vl k x p) (hy : Vl k y q) : cmpB .leq (fcmp k x y) = decide (p ≤ q) := by
  obtain ⟨a, b, h, h1, h2⟩ := vl_cmp hx hy
  rw [h]
  have hh : (p ≤ q) = ¬ (b < a) := propext (by rw [← h2]; exact Rat.not_lt.symm)
  simp only [hh]
  rcases Int.lt_trichotomy a b with h3 | h3 | h3
  · have : ¬ b < a := by omega
    simp [cmpB, this, Int.compare_eq_lt.2 h3]
  · subst h3; simp [cmpB]
  · simp [cmpB, h3, Int.compare_eq_gt.2 h3]
theorem vl_geq {k : FloatKind} {x y : FV} {p q : Rat} (hx : Vl k x p) (hy : Vl k y q) : cmpB .geq (fcmp k x y) = decide (q ≤ p) := by
  obtain ⟨a, b, h, h1, h2⟩ := vl_cmp hx hy
  rw [h]
  have hh : (q ≤ p) = ¬ (a < b) := propext (by rw [← h1]; exact Rat.not_lt.symm)
  simp only [hh]
  rcases Int.lt_trichotomy a b with h3 | h3 | h3
  · simp [cmpB, h3, Int.compare_eq_lt.2 h3]
  · subst h3; simp [cmpB]
  · have : ¬ a < b := by omega
    simp [cmpB, this, Int.compare_eq_gt.2 h3]
theorem vl_eql {k : FloatKind} {x y : FV} {p q : Rat} (hx : Vl k x p) (hy : Vl k y q) : cmpB .eql (fcmp k x y) = decide (p = q) := by
  obtain ⟨a, b, h, h1, h2⟩ := vl_cmp hx hy
  rw [h]
  rcases Int.lt_trichotomy a b with h3 | h3 | h3
  · have : ¬ p = q := Rat.ne_of_lt (h1.2 h3)
    simp [cmpB, this, Int.compare_eq_lt.2 h3]
  · have : p = q := Rat.le_antisymm (Rat.not_lt.1 fun h4 => by have := h2.1 h4; omega) (Rat.not_lt.1 fun h4 => by have := h1.1 h4; omega)
    subst h3; simp [cmpB, this]
  · have : ¬ p = q := fun e => Rat.ne_of_lt (h2.2 h3) e.symm
    simp [cmpB, this, Int.compare_eq_gt.2 h3]
theorem single_fit {b : Nat} {s : Bool} {m : Nat} {e : Int} (h : FloatKind.f32.decode b = .number s m e) : (m : Rat) * p2 e < p2 128 := by
  obtain ⟨h1, h2, h3⟩ := single_number h
  have h4 : (m : Rat) < ((2 ^ 24 : Nat) : Rat) := Rat.natCast_lt_natCast.2 h1
  have h5 := Rat.mul_lt_mul_of_pos_right h4 (p2_pos e)
  rw [p2_shl] at h5
  exact Std.lt_of_lt_of_le h5 (p2_le (by omega))
theorem vl_wide {x : FV} {p : Rat} (hx : Vl .f32 x p) : Vl .f64 (fconv .f32 .f64 x) p := by
  obtain ⟨b, s, m, e, rfl, hd, rfl⟩ := hx
  obtain ⟨h1, h2, h3⟩ := single_number hd
  have h4 := single_fit hd
  obtain ⟨m', e', h5, h6, h7⟩ := nearest_rnd .f64 s m e (Std.lt_of_lt_of_le h4 (p2_le (by decide)))
  have hrep : RepN .f64 ((m : Rat) * p2 e) := ⟨m, e, Nat.le_trans (Nat.le_of_lt h1) (by decide), Int.le_trans (by decide) h2, rfl⟩
  have heq : (m' : Rat) * p2 e' = (m : Rat) * p2 e := Rat.le_antisymm ((h7 _ hrep).1 Rat.le_refl) ((h7 _ hrep).2 Rat.le_refl)
  have hc : fconv .f32 .f64 (some b) = some (FloatKind.f64.format.nearest s m e) := by
    have h8 : FloatKind.f64.encode (.number s m e) = FloatKind.f64.format.nearest s m e := rfl
    simp only [fconv, Option.bind_some, floatToFloatBits, if_neg (by decide : ¬ FloatKind.f32 = FloatKind.f64), hd, h8]
    rw [if_neg]
    rw [h5]
    simp [Ieee.Datum.isInfinity]
  rw [hc]
  refine ⟨_, s, m', e', rfl, h5, ?_⟩
  unfold vl
  rw [heq]
theorem vl_narrow {x : FV} {p : Rat} (hx : Vl .f64 x p) (hf : Fit .f32 p) : ∃ r, Vl .f32 (fconv .f64 .f32 x) r ∧ Rnd .f32 p r := by
  obtain ⟨b, s, m, e, rfl, hd, rfl⟩ := hx
  obtain ⟨m', e', h5, h6, h7⟩ := nearest_rnd .f32 s m e hf.mag
  have hc : fconv .f64 .f32 (some b) = some (FloatKind.f32.format.nearest s m e) := by
    have h8 : FloatKind.f32.encode (.number s m e) = FloatKind.f32.format.nearest s m e := rfl
    simp only [fconv, Option.bind_some, floatToFloatBits, if_neg (by decide : ¬ FloatKind.f64 = FloatKind.f32), hd, h8]
    rw [if_neg]
    rw [h5]
    simp [Ieee.Datum.isInfinity]
  rw [hc]
  exact ⟨_, .of h5, h6⟩
theorem vl_narrow_ok {x : FV} {p : Rat} (hx : Vl .f64 x p) (hf : Fit .f32 p) : ConvOk .f64 .f32 x := by
  obtain ⟨r, h, _⟩ := vl_narrow hx hf
  exact .inr h.some
theorem vl_ofInt (k : FloatKind) (n : Int) (h : n.natAbs ≤ 2 ^ (k.format.fractionBits + 1)) : Vl k (some (k.nearest n)) (n : Rat) := by
  have hv := vl_int n 0
  rw [p2_zero, Rat.mul_one] at hv
  have hrep := rep_int k n h
  have hb : (((2 ^ (k.format.fractionBits + 1) : Nat)) : Rat) < p2 (ftop k) := by cases k <;> decide +kernel
  have hfit : (n.natAbs : Rat) * p2 0 < p2 (ftop k) := by
    rw [p2_zero, Rat.mul_one]
    exact Std.lt_of_le_of_lt (Rat.natCast_le_natCast.2 h) hb
  obtain ⟨m', e', h5, h6, _⟩ := nearest_rnd k (decide (n < 0)) n.natAbs 0 hfit
  rw [← hv] at h6
  have := rnd_rep h6 hrep
  exact ⟨_, _, m', e', rfl, h5, this⟩
theorem vl_fin {x : FV} {p : Rat} (hx : Vl .f32 x p) : cmpB .eql (fcmp .f32 (fbin .sub .f32 x x) (fv .f32 0)) = true := by
  have hz : p - p = 0 := Rat.sub_self
  obtain ⟨r, h1, h2⟩ := vl_sub hx hx (by rw [hz]; exact ⟨by decide +kernel, by decide +kernel⟩)
  rw [hz] at h2
  have hr := rnd_rep h2 (rep_zero _)
  subst hr
  rw [vl_eql h1 (Vl.c (b := 0) (q := 0) (by decide +kernel))]
  rfl
/-- The other sign. -/
def negBits (k : FloatKind) (b : Nat) : Nat := b ^^^ 2 ^ (k.format.exponentBits + k.format.fractionBits)
def fneg (k : FloatKind) (x : FV) : FV := x.map (negBits k)
theorem negBits_mod (k : FloatKind) (b : Nat) : negBits k b % k.format.signWeight = b % k.format.signWeight := by
  show (b ^^^ k.format.signWeight) % 2 ^ (k.format.exponentBits + k.format.fractionBits) = b % 2 ^ (k.format.exponentBits + k.format.fractionBits)
  rw [Nat.xor_mod_two_pow]
  show _ ^^^ 2 ^ (k.format.exponentBits + k.format.fractionBits) % 2 ^ (k.format.exponentBits + k.format.fractionBits) = _
  rw [Nat.mod_self, Nat.xor_zero]
theorem negBits_sign (k : FloatKind) (b : Nat) : (negBits k b / k.format.signWeight % 2 == 1) = !(b / k.format.signWeight % 2 == 1) := by
  have h : ∀ x : Nat, (x / k.format.signWeight % 2 == 1) = x.testBit (k.format.exponentBits + k.format.fractionBits) := fun x => by
    rw [Nat.testBit_eq_decide_div_mod_eq]
    show (x / 2 ^ _ % 2 == 1) = _
    rw [Bool.eq_iff_iff, beq_iff_eq, decide_eq_true_iff]
  rw [h, h]
  unfold negBits
  rw [Nat.testBit_xor, Nat.testBit_two_pow_self, Bool.xor_true]
theorem read_negBits (k : FloatKind) (b : Nat) : k.decode (negBits k b) = (k.decode b).opposite := by
  unfold FloatKind.decode Ieee.Format.read
  simp only [negBits_mod, negBits_sign]
  split
  · rfl
  · split
    · rfl
    · split <;> rfl
theorem fv_negBits (k : FloatKind) (b : Nat) : fv k (negBits k b) = fneg k (fv k b) := by
  unfold fv
  rw [read_negBits]
  have : (k.decode b).opposite.isNaN = (k.decode b).isNaN := by cases k.decode b <;> rfl
  rw [this]
  split <;> rfl
theorem vl_fneg {k : FloatKind} {x : FV} {q : Rat} (h : Vl k x q) : Vl k (fneg k x) (-q) := by
  obtain ⟨b, s, m, e, rfl, hd, rfl⟩ := h
  refine ⟨negBits k b, !s, m, e, rfl, ?_, vl_neg s m e⟩
  rw [read_negBits, hd]
  rfl
theorem negBits_lt (k : FloatKind) {b : Nat} (h : b < 2 ^ k.format.width) : negBits k b < 2 ^ k.format.width := by
  unfold negBits
  refine Nat.xor_lt_two_pow h (Nat.pow_lt_pow_right (by decide) ?_)
  show _ < 1 + k.format.exponentBits + k.format.fractionBits
  omega
end Go.Ab
namespace Go.Ab
variable {R : World → Prop} [RStab R]
section
variable {P : Program} {N : Nat} {S : World → Prop} {e : Env} {Q : Exit → Env → World → Prop} {ops : Array Oper} {l : List Oper}
variable {w0 : World} {gs : List Nat} {H : List Ent} {dst : Option Tmp} {ty : TypeId} {pos : String} {after : Array Edge} {guard : Option (Nat × Bool)}
theorem opj_neg {t : TypeId} {X : Operand} {k : FloatKind} {x : FV} (hx : e.ev X = some (.f k x)) : OpJ P S e ⟨dst, .unOp .neg t X, ty, pos, after, guard⟩ (.f k (fneg k x)) :=
  opj_value fun a w _ h => by
    obtain ⟨b, h1, e1, hb⟩ := (h X (by simp [Op.operands]) _ hx).inv_f
    refine ⟨.float k (negBits k b), w, ?_, Ext.refl _, Rel.f' (negBits_lt k hb) (by rw [fv_negBits, e1])⟩
    simp [execOp, h1, Op.unary, Op.negFloat, negBits]
theorem opj_caddsub {op : BinOp} (hop : op = .add ∨ op = .sub) {t t' : TypeId} {X Y : Operand} {k : FloatKind} {x y x' y' : FV} (hx : e.ev X = some (.c k x y)) (hy : e.ev Y = some (.c k x' y')) :
    OpJ P S e ⟨dst, .binOp op t X Y t', ty, pos, after, guard⟩ (.c k (fbin op k x x') (fbin op k y y')) :=
  opj_value fun a w _ h => by
    obtain ⟨p, q, h1, e1, e2, hp, hq⟩ := (h X (by simp [Op.operands]) _ hx).inv_c
    obtain ⟨p', q', h2, e1', e2', hp', hq'⟩ := (h Y (by simp [Op.operands]) _ hy).inv_c
    have ha : isArith op = true := by rcases hop with rfl | rfl <;> rfl
    obtain ⟨r, w1, hr, hq1, hv, hl⟩ := run_farith P w op ha k p p'
    obtain ⟨r2, w2, hr2, hq2, hv2, hl2⟩ := run_farith P w1 op ha k q q'
    refine ⟨.complex k r r2, w2, ?_, (Ext.of_quiet hq1).trans (Ext.of_quiet hq2), Rel.c' hl hl2 (by rw [hv, e1, e1']) (by rw [hv2, e2, e2'])⟩
    rcases hop with rfl | rfl <;> simp [execOp, h1, h2, eqGuard, binOp, Op.complexOp, Op.Complex.arith, hr, hr2]
theorem opj_cadd {t t' : TypeId} {X Y : Operand} {k : FloatKind} {x y x' y' : FV} (hx : e.ev X = some (.c k x y)) (hy : e.ev Y = some (.c k x' y')) :
    OpJ P S e ⟨dst, .binOp .add t X Y t', ty, pos, after, guard⟩ (.c k (fbin .add k x x') (fbin .add k y y')) := opj_caddsub (.inl rfl) hx hy
theorem opj_csub {t t' : TypeId} {X Y : Operand} {k : FloatKind} {x y x' y' : FV} (hx : e.ev X = some (.c k x y)) (hy : e.ev Y = some (.c k x' y')) :
    OpJ P S e ⟨dst, .binOp .sub t X Y t', ty, pos, after, guard⟩ (.c k (fbin .sub k x x') (fbin .sub k y y')) := opj_caddsub (.inr rfl) hx hy
theorem rel_raws (w : World) : ∀ cap : List Value, RelL w (cap.map AV.raw) cap
  | [] => .nil
  | _ :: r => .cons .raw (rel_raws w r)
theorem relL_append {w : World} {xs ys : List AV} {us vs : List Value} (h : RelL w xs us) (h' : RelL w ys vs) : RelL w (xs ++ ys) (us ++ vs) := by
  induction xs generalizing us with
  | nil =>
    obtain rfl := h.inv_nil
    exact h'
  | cons x xs ih =>
    obtain ⟨v, r, rfl, hv, hr⟩ := h.inv_cons
    exact .cons hv (ih hr)
theorem opj_callC {c : FuncId} {xs : List Operand} {F : Operand} {args : List AV} {r : AV} {ts : Array TypeId} {A : World → List AV} [hb : HasBody P c] {cap : List Value}
    (hF : e.ev F = some (.raw (.func (.func c) #[] cap.toArray))) (hx : evL e xs = some args) (hc : Fn P c A r) (ht : Takes S (args ++ cap.map AV.raw) A) :
    OpJ P S e ⟨dst, .call { callee := .value F, args := xs.toArray, argTypes := ts }, ty, pos, after, guard⟩ r := by
  intro a w K Q hS ho hK
  obtain ⟨fnc, hf, hbd, hn⟩ := hb.h
  have h1 := (ho F (by simp [Op.operands, Call.operands]) _ hF).inv_raw
  have hrl0 : RelL w args (xs.map a.eval) := evL_rel hx fun x hxm => ho x (by simp [Op.operands, Call.operands, hxm])
  have hrl : RelL w (A w) (xs.map a.eval ++ cap) := ht w _ hS (relL_append hrl0 (rel_raws w cap))
  have hcall := hc w _ hrl (fun _ h => by cases h) List.Pairwise.nil
  unfold Oper.wp
  have hrun : (execOp a.eval ⟨dst, .call { callee := .value F, args := xs.toArray, argTypes := ts }, ty, pos, after, guard⟩).run P w = .ok (.enter c (xs.map a.eval ++ cap).toArray) w := by
    simp [execOp, resolve, h1, Deferred.ofValue, invoke, run_callFn hf hbd hn]
  rw [hrun]
  refine Calls.mono hcall fun x w' ⟨v, y, hx', _, hrv, hm, _, _⟩ => ?_
  subst hx'
  exact hK v w' hm.to_ext hrv
def Join {ι : Type} (E : ι → Env) (SI : ι → World → Prop) (ok : ι → Prop) (Q : Exit → Env → World → Prop) : Exit → Env → World → Prop
  | .normal, e, w => ∃ y, ok y ∧ Env.sub (E y) e ∧ SI y w
  | x, e, w => Q x e w
theorem ws_thenJ {ι : Type} (E : ι → Env) (SI : ι → World → Prop) (ok : ι → Prop) {c d : Code} (h1 : WS P N c e S (Join E SI ok Q)) (h2 : ∀ y, ok y → WS P N d (E y) (SI y) Q) : WS P N c e S (Then P N d Q) := by
  refine h1.mono fun x e' w hq => ?_
  cases x <;> first | exact hq | skip
  obtain ⟨y, hy, hs, hw⟩ := hq
  exact fun a w' hw' hF => h2 y hy a w' (hw' ▸ hw) (hF.sub hs)
theorem done_join {ι : Type} {E : ι → Env} {SI : ι → World → Prop} {ok : ι → Prop} (y : ι) (hy : ok y) (hs : Env.sub (E y) e) (hS : ∀ w, S w → SI y w) : Done .normal e S (Join E SI ok Q) := fun w hw => ⟨y, hy, hs, hS w hw⟩
end
end Go.Ab
namespace Go.Ab
open Go.Proofs
attribute [local irreducible] WS RS Done OpJ Then InBlock Round Ret Env.sub FnH
section
variable {P : Program} {N : Nat} {S : World → Prop} {e : Env} {Q : Exit → Env → World → Prop} {ops : Array Oper} {l : List Oper}
theorem yielded_undef {a : Act} {w : World} (hF : Fr N e a w) {j d : Nat} (hy : gslot ops j = some d) (he : e.look d = some (.raw undef)) : yielded ops a.tmps j = none := by
  obtain ⟨u, hu, hr⟩ := hF.rel d _ he
  have := hr.inv_raw
  subst this
  unfold yielded
  rw [show ((ops[j]?).bind (·.dst)) = some d from hy]
  simp [hu, undef]
theorem rs_nu {d : Tmp} {op : Op} {ty : TypeId} {pos : String} {after : Array Edge} {j y : Nat} {b : Bool} (hd : Nat.blt d N = true) (hy : gslot ops j = some y) (he : e.look y = some (.raw undef))
    (h : RS P N ops l ((d, .raw undef) :: e) S Q) : RS P N ops (⟨some d, op, ty, pos, after, some (j, b)⟩ :: l) e S Q := by
  unfold RS at *
  intro a w hS hF
  refine wpList_step fun K hK => ?_
  rw [if_neg (by simp [Region.wanted, yielded_undef hF hy he])]
  exact hK _ _ (h _ w hS (Fr.put (some d) hF (fun _ h => by cases h; exact Nat.le_of_ble_eq_true hd) .raw))
end
end Go.Ab
namespace Go.Ab
open Go.Proofs
abbrev CV := FV × FV
def cA (p : CV) : AV := .c .f32 p.1 p.2
/-- A list of complex numbers that came in. -/
abbrev slC (w : World) (L : List CV) : AV := AV.sl w 1 (L.map cA)
def tabC (n : Nat) (f : Nat → CV) : List CV := (List.range n).map f
@[simp] theorem tabC_length (n : Nat) (f : Nat → CV) : (tabC n f).length = n := by simp [tabC]
theorem tabC_get {n : Nat} (f : Nat → CV) {i : Nat} (h : i < n) : (tabC n f)[i]? = some (f i) := by simp [tabC, h]
theorem tabC_getD {n : Nat} (f : Nat → CV) {i : Nat} (h : i < n) : (tabC n f).getD i default = f i := by simp [List.getD, tabC_get f h]
theorem tabC_ext {L : List CV} {n : Nat} {f : Nat → CV} (hl : L.length = n) (h : ∀ i, i < n → L[i]? = some (f i)) : L = tabC n f := by
  apply List.ext_getElem?
  intro i
  rcases Nat.lt_or_ge i n with hi | hi
  · rw [h i hi, tabC_get f hi]
  · rw [List.getElem?_eq_none (by omega), List.getElem?_eq_none (by rw [tabC_length]; exact hi)]
theorem tabC_congr {n : Nat} {f g : Nat → CV} (h : ∀ i, i < n → f i = g i) : tabC n f = tabC n g := tabC_ext (tabC_length n f) fun i hi => by rw [tabC_get f hi, h i hi]
theorem tabC_snoc (n : Nat) (f : Nat → CV) : tabC n f ++ [f n] = tabC (n + 1) f := by unfold tabC; rw [List.range_succ, List.map_append]; rfl
abbrev entC (g n : Nat) (f : Nat → CV) (c : Nat) : Ent := ⟨g, 31, (tabC n f).map cA, c⟩
attribute [local irreducible] WS RS Done OpJ Then InBlock Round Ret Env.sub FnH
def finC (p : CV) : Bool := finB p.1 && finB p.2
theorem isFiniteComplex_fn (p : CV) : Fn Try.prog 60 (fun _ => [cA p]) (.raw (.bool (finC p))) := by
  have h1 := isFinite_fn p.1
  have h2 := isFinite_fn p.2
  unfold finC
  cases hb : finB p.1 <;> rw [hb] at h1
  all_goals
    refine fn_intro Try.func60 rfl Try.ntmps60 (fun _ => Nat.le_of_ble_eq_true rfl) fun w0 => ?_
    unfold cA
    repeat first | refine zai rfl rfl ?_ | refine zaj rfl rfl rfl rfl ?_ | refine zaa rfl (zay rfl) ?_ | refine zaa rfl (zaz rfl) ?_ | (refine zad ?_; first | refine zaa rfl (zbp rfl) ?_ | refine zaa rfl (zbq rfl) ?_ | (refine zaa rfl (zci rfl rfl (h1) ?_) ?_; (focus ((repeat (first | exact Takes.nil | refine Takes.sl ?_ | refine Takes.own (by (repeat (first | exact mh | refine mt ?_)); done) (by simp) (by omega) (by simp only [maxLen]; omega) ?_ | refine Takes.same ?_)); done))) | (refine zaa rfl (zci rfl rfl (h2) ?_) ?_; (focus ((repeat (first | exact Takes.nil | refine Takes.sl ?_ | refine Takes.own (by (repeat (first | exact mh | refine mt ?_)); done) (by simp) (by omega) (by simp only [maxLen]; omega) ?_ | refine Takes.same ?_)); done)))) | refine zaa rfl (zca rfl rfl) ?_ | refine zaa rfl (zcb rfl rfl) ?_ | refine zah ?_ | (refine zcr ?_; refine zcs ?_) | (refine zdb ?_; first | refine zdc ?_ | refine zdd ?_ | refine zdg ?_)
    exact done_ret1 rfl () rfl trivial (List.nil_sublist _)
theorem l01CFinite_fn (p : CV) : Fn Try.prog 54 (fun _ => [cA p]) (.raw (.bool (finC p))) := by
  have h1 := l01Finite_fn p.1
  have h2 := l01Finite_fn p.2
  unfold finC
  cases hb : finB p.1 <;> rw [hb] at h1
  all_goals
    refine fn_intro Try.func54 rfl Try.ntmps54 (fun _ => Nat.le_of_ble_eq_true rfl) fun w0 => ?_
    unfold cA
    repeat first | refine zai rfl rfl ?_ | refine zaj rfl rfl rfl rfl ?_ | refine zaa rfl (zay rfl) ?_ | refine zaa rfl (zaz rfl) ?_ | (refine zad ?_; first | refine zaa rfl (zbp rfl) ?_ | refine zaa rfl (zbq rfl) ?_ | (refine zaa rfl (zci rfl rfl (h1) ?_) ?_; (focus ((repeat (first | exact Takes.nil | refine Takes.sl ?_ | refine Takes.own (by (repeat (first | exact mh | refine mt ?_)); done) (by simp) (by omega) (by simp only [maxLen]; omega) ?_ | refine Takes.same ?_)); done))) | (refine zaa rfl (zci rfl rfl (h2) ?_) ?_; (focus ((repeat (first | exact Takes.nil | refine Takes.sl ?_ | refine Takes.own (by (repeat (first | exact mh | refine mt ?_)); done) (by simp) (by omega) (by simp only [maxLen]; omega) ?_ | refine Takes.same ?_)); done)))) | refine zaa rfl (zca rfl rfl) ?_ | refine zaa rfl (zcb rfl rfl) ?_ | refine zah ?_ | (refine zcr ?_; refine zcs ?_) | (refine zdb ?_; first | refine zdc ?_ | refine zdd ?_ | refine zdg ?_)
    exact done_ret1 rfl () rfl trivial (List.nil_sublist _)
theorem arePoints1_fn (p : CV) : Fn Try.prog 85 (fun _ => [cA p]) (.raw (.bool (!(finC p)))) := by
  refine fn_intro Try.func85 rfl Try.ntmps85 (fun _ => Nat.le_of_ble_eq_true rfl) fun w0 => ?_
  repeat first | refine zaa rfl (zay rfl) ?_ | refine zaa rfl (zaz rfl) ?_ | (refine zad ?_; (refine zaa rfl (zci rfl rfl (isFiniteComplex_fn p) ?_) ?_; (focus ((repeat (first | exact Takes.nil | refine Takes.sl ?_ | refine Takes.own (by (repeat (first | exact mh | refine mt ?_)); done) (by simp) (by omega) (by simp only [maxLen]; omega) ?_ | refine Takes.same ?_)); done)))) | refine zaa rfl (zcc rfl) ?_ | refine zah ?_ | (refine zcr ?_; refine zcs ?_) | (refine zdb ?_; first | refine zdc ?_ | refine zdd ?_ | refine zdg ?_)
  exact done_ret1 rfl () rfl trivial (List.nil_sublist _)
theorem indexFuncC_fn (L : List CV) (hL : L.length < 2 ^ 62) (c : FuncId) [HasBody Try.prog c] (p : CV → Bool) (hp : ∀ x, Fn Try.prog c (fun _ => [cA x]) (.raw (.bool (p x)))) :
    Fn Try.prog 89 (fun w => [slC w L, .raw (.func (.func c) #[] #[])]) (.raw (.int .i64 (idxOf p L))) := by
  refine fn_intro Try.func89 rfl Try.ntmps89 (fun _ => Nat.le_of_ble_eq_true rfl) fun w0 => ?_
  repeat first | refine zaa rfl (zay rfl) ?_ | refine zaa rfl (zaz rfl) ?_ | (refine zad ?_; refine zaa rfl (zbm rfl) ?_) | refine zah ?_ | (refine zcr ?_; refine zcs ?_) | (refine zdb ?_; first | refine zdc ?_ | refine zdd ?_ | refine zde ?_)
  refine ws_loop (ι := Nat) (fun k => [(0, slC w0 L), (1, .raw (.func (.func c) #[] #[])), (7, .raw (.int .i64 L.length)), (8, .raw (.int .i64 k))]) (fun _ => St w0 [] []) (fun k => k ≤ L.length ∧ ∀ i, i < k → p (L.getD i default) = false) (fun k => L.length - k) 0 ⟨Nat.zero_le _, fun i hi => by omega⟩ ?_ (fun _ h => h) (fun k hk => ?_)
  · (repeat (first | exact Env.sub_nil _ | refine Env.sub_cons rfl ?_))
  · obtain ⟨hk, hall⟩ := hk
    repeat first | (refine zac ?_; refine zaa rfl (zbe rfl rfl) ?_) | refine zah ?_ | (refine zcr ?_; refine zcs ?_) | (refine zdb ?_; first | refine zdc ?_ | refine zdd ?_)
    refine ws_cond rfl (fun hc => ?_) (fun hc => ?_)
    · have hlt : (k : Int) < L.length := of_decide_eq_true hc
      repeat first | refine zaa rfl (zay rfl) ?_ | refine zaa rfl (zaz rfl) ?_ | (refine zad ?_; refine zaa rfl (zci rfl rfl (hp _) (by (repeat (first | exact Takes.nil | refine Takes.sl ?_ | refine Takes.own (by (repeat (first | exact mh | refine mt ?_)); done) (by simp) (by omega) (by simp only [maxLen]; omega) ?_ | refine Takes.same ?_)); done)) ?_) | refine zaa rfl (zbu rfl rfl) ?_ | refine zaa rfl (zbv rfl rfl (by omega) (by omega)) ?_ | refine zah ?_ | (refine zcr ?_; refine zcs ?_) | (refine zdb ?_; first | refine zdc ?_ | refine zdd ?_ | refine zde ?_ | refine zdf ?_)
      refine ws_cond rfl (fun hd => ?_) (fun hd => ?_)
      · repeat first | refine zaa rfl (zay rfl) ?_ | refine zaa rfl (zaz rfl) ?_ | refine zah ?_ | (refine zcr ?_; first | refine zcs ?_ | refine zct ?_ | refine zcw ?_ | refine zcz ?_) | (refine zdb ?_; first | refine zdc ?_ | refine zdd ?_ | refine zdg ?_)
        exact done_ret1 rfl () (by rw [idxOf_found (by omega) hall hd]; rfl) trivial (List.nil_sublist _)
      · repeat first | refine zaa rfl (zay rfl) ?_ | (refine zac ?_; refine zaa rfl (zbb rfl rfl (by omega)) ?_) | refine zah ?_ | (refine zcr ?_; first | refine zcs ?_ | refine zcv ?_) | (refine zdb ?_; first | refine zdd ?_ | refine zdf ?_)
        refine done_round (k + 1) ⟨by omega, fun i hi => ?_⟩ (by omega) ?_ (fun _ h => h)
        · rcases Nat.lt_or_ge i k with h | h
          · exact hall i h
          · obtain rfl : i = k := by omega
            exact hd
        · (repeat (first | exact Env.sub_nil _ | refine Env.sub_cons rfl ?_))
    · have hge : ¬ (k : Int) < L.length := of_decide_eq_false hc
      repeat first | refine zaa rfl (zaz rfl) ?_ | refine zah ?_ | (refine zcr ?_; first | refine zcs ?_ | refine zcu ?_ | refine zcx ?_ | refine zda ?_) | (refine zdb ?_; first | refine zdc ?_ | refine zdd ?_ | refine zdg ?_ | refine zdh ?_)
      exact done_ret1 rfl () (by rw [idxOf_none (fun i hi => hall i (by omega))]; rfl) trivial (List.nil_sublist _)
theorem containsFuncC_fn (L : List CV) (hL : L.length < 2 ^ 62) (c : FuncId) [HasBody Try.prog c] (p : CV → Bool) (hp : ∀ x, Fn Try.prog c (fun _ => [cA x]) (.raw (.bool (p x)))) :
    Fn Try.prog 84 (fun w => [slC w L, .raw (.func (.func c) #[] #[])]) (.raw (.bool (L.any p))) := by
  refine fn_intro Try.func84 rfl Try.ntmps84 (fun _ => Nat.le_of_ble_eq_true rfl) fun w0 => ?_
  repeat first | refine zaa rfl (zay rfl) ?_ | refine zaa rfl (zaz rfl) ?_ | (refine zac ?_; refine zaa rfl (zbh rfl rfl) ?_) | (refine zad ?_; (refine zaa rfl (zci rfl rfl (indexFuncC_fn _ hL _ _ hp) ?_) ?_; (focus ((repeat (first | exact Takes.nil | refine Takes.sl ?_ | refine Takes.own (by (repeat (first | exact mh | refine mt ?_)); done) (by simp) (by omega) (by simp only [maxLen]; omega) ?_ | refine Takes.same ?_)); done)))) | refine zah ?_ | (refine zcr ?_; refine zcs ?_) | (refine zdb ?_; first | refine zdc ?_ | refine zdd ?_ | refine zdg ?_)
  exact done_ret1 rfl () (by rw [← idxOf_nonneg]; rfl) trivial (List.nil_sublist _)
theorem arePoints_fn (L : List CV) (hL : L.length < 2 ^ 62) : Fn Try.prog 76 (fun w => [slC w L]) (.raw (.bool (L.all finC))) := by
  refine fn_intro Try.func76 rfl Try.ntmps76 (fun _ => Nat.le_of_ble_eq_true rfl) fun w0 => ?_
  repeat first | refine zaa rfl (zay rfl) ?_ | refine zaa rfl (zaz rfl) ?_ | (refine zad ?_; (refine zaa rfl (zci rfl rfl (containsFuncC_fn _ hL _ _ arePoints1_fn) ?_) ?_; (focus ((repeat (first | exact Takes.nil | refine Takes.sl ?_ | refine Takes.own (by (repeat (first | exact mh | refine mt ?_)); done) (by simp) (by omega) (by simp only [maxLen]; omega) ?_ | refine Takes.same ?_)); done)))) | refine zaa rfl (zcc rfl) ?_ | refine zah ?_ | (refine zcr ?_; refine zcs ?_) | (refine zdb ?_; first | refine zdc ?_ | refine zdd ?_ | refine zdg ?_)
  exact done_ret1 rfl () (by rw [show L.all finC = !(L.any fun x => !(finC x)) from by simp [List.all_eq_not_any_not]]; rfl) trivial (List.nil_sublist _)
end Go.Ab
namespace Go.Ab
open Go.Proofs
attribute [local irreducible] WS RS Done OpJ Then InBlock Round Ret Env.sub FnH
/-- A number, if it is finite; else zero. -/
def numF (x : FV) : FV := if finB x then x else fv .f32 0
def numT (x : FV) : AV := .tup [.f .f32 (numF x), .raw (.bool (finB x))]

theorem ifNumber_fn (x : FV) : Fn Try.prog 42 (fun _ => [.f .f32 x]) (numT x) := by
  refine fn_intro Try.func42 rfl Try.ntmps42 (fun _ => Nat.le_of_ble_eq_true rfl) fun w0 => ?_
  repeat first | refine zaa rfl (zay rfl) ?_ | refine zaa rfl (zaz rfl) ?_ | (refine zad ?_; refine zaa rfl (zci rfl rfl (isFinite_fn _) (by (repeat (first | exact Takes.nil | refine Takes.sl ?_ | refine Takes.own (by (repeat (first | exact mh | refine mt ?_)); done) (by simp) (by omega) (by simp only [maxLen]; omega) ?_ | refine Takes.same ?_)); done)) ?_) | refine zaa rfl (zcc rfl) ?_ | refine zah ?_ | (refine zcr ?_; refine zcs ?_) | (refine zdb ?_; first | refine zdc ?_ | refine zdd ?_)
  refine ws_cond rfl (fun hc => ?_) (fun hc => ?_)
  · have hf : finB x = false := by simpa using hc
    repeat first | refine zaa rfl (zaz rfl) ?_ | refine zah ?_ | (refine zcr ?_; first | refine zcs ?_ | refine zct ?_) | (refine zdb ?_; first | refine zdc ?_ | refine zdd ?_ | refine zdg ?_)
    exact done_ret2 rfl () (by simp only [numT, numF, hf]; rfl) rfl rfl trivial (List.nil_sublist _)
  · have hf : finB x = true := by simpa using hc
    repeat first | refine zaa rfl (zay rfl) ?_ | refine zaa rfl (zaz rfl) ?_ | refine zah ?_ | (refine zcr ?_; refine zcs ?_) | (refine zdb ?_; first | refine zdc ?_ | refine zdd ?_ | refine zdf ?_ | refine zdg ?_)
    exact done_ret2 rfl () (by simp only [numT, numF, hf]; rfl) rfl rfl trivial (List.nil_sublist _)
end Go.Ab
namespace Go.Ab
open Go.Proofs
def addC2 (p q : CV) : CV := (fbin .add .f32 p.1 q.1, fbin .add .f32 p.2 q.2)
def scaleC (p : CV) (h : FV) : CV := (fbin .mul .f32 p.1 h, fbin .mul .f32 p.2 h)
def aboveB (x : FV) : Bool := finB x && cmpB .gtr (fcmp .f32 x (fv .f32 0))
attribute [local irreducible] WS RS Done OpJ Then InBlock Round Ret Env.sub FnH
theorem areMore1_fn (x : FV) : Fn Try.prog 86 (fun _ => [.f .f32 x]) (.raw (.bool (!(aboveB x)))) := by
  have h1 := isFinite_fn x
  unfold aboveB
  cases hb : finB x <;> rw [hb] at h1
  all_goals
    refine fn_intro Try.func86 rfl Try.ntmps86 (fun _ => Nat.le_of_ble_eq_true rfl) fun w0 => ?_
    repeat first | refine zai rfl rfl ?_ | refine zaj rfl rfl rfl rfl ?_ | refine zaa rfl (zay rfl) ?_ | refine zaa rfl (zaz rfl) ?_ | (refine zac ?_; refine zaa rfl (zbd rfl rfl rfl) ?_) | (refine zad ?_; (refine zaa rfl (zci rfl rfl (h1) ?_) ?_; (focus ((repeat (first | exact Takes.nil | refine Takes.sl ?_ | refine Takes.lit ?_ | (refine Takes.ownE ?_ ?_ ?_ ?_ ?_; (focus (exact ⟨_, _, (by (repeat (first | exact mh | refine mt ?_)); done)⟩)); (focus (simp; done)); (focus omega); (focus (simp only [maxLen]; omega))) | refine Takes.same ?_)); done)))) | refine zaa rfl (zca rfl rfl) ?_ | refine zaa rfl (zcb rfl rfl) ?_ | refine zaa rfl (zcc rfl) ?_ | refine zah ?_ | (refine zcr ?_; refine zcs ?_) | (refine zdb ?_; first | refine zdc ?_ | refine zdd ?_ | refine zdg ?_)
    exact done_ret1 rfl () rfl trivial (List.nil_sublist _)
theorem areMore_fn (L : List FV) (hL : L.length < 2 ^ 62) : Fn Try.prog 77 (fun w => [slF w L]) (.raw (.bool (L.all aboveB))) := by
  refine fn_intro Try.func77 rfl Try.ntmps77 (fun _ => Nat.le_of_ble_eq_true rfl) fun w0 => ?_
  repeat first | refine zaa rfl (zay rfl) ?_ | refine zaa rfl (zaz rfl) ?_ | (refine zad ?_; (refine zaa rfl (zci rfl rfl (containsFunc_fn _ hL _ _ areMore1_fn) ?_) ?_; (focus ((repeat (first | exact Takes.nil | refine Takes.sl ?_ | refine Takes.lit ?_ | (refine Takes.ownE ?_ ?_ ?_ ?_ ?_; (focus (exact ⟨_, _, (by (repeat (first | exact mh | refine mt ?_)); done)⟩)); (focus (simp; done)); (focus omega); (focus (simp only [maxLen]; omega))) | refine Takes.same ?_)); done)))) | refine zaa rfl (zcc rfl) ?_ | refine zah ?_ | (refine zcr ?_; refine zcs ?_) | (refine zdb ?_; first | refine zdc ?_ | refine zdd ?_ | refine zdg ?_)
  exact done_ret1 rfl () (by rw [show L.all aboveB = !(L.any fun x => !(aboveB x)) from by simp [List.all_eq_not_any_not]]; rfl) trivial (List.nil_sublist _)
theorem l02Above_fn (x : FV) : Fn Try.prog 55 (fun _ => [.f .f32 x]) (.raw (.bool (aboveB x))) := by
  have h1 := l01Finite_fn x
  unfold aboveB
  cases hb : finB x <;> rw [hb] at h1
  all_goals
    refine fn_intro Try.func55 rfl Try.ntmps55 (fun _ => Nat.le_of_ble_eq_true rfl) fun w0 => ?_
    repeat first | refine zai rfl rfl ?_ | refine zaj rfl rfl rfl rfl ?_ | refine zaa rfl (zay rfl) ?_ | refine zaa rfl (zaz rfl) ?_ | (refine zac ?_; refine zaa rfl (zbd rfl rfl rfl) ?_) | (refine zad ?_; (refine zaa rfl (zci rfl rfl (h1) ?_) ?_; (focus ((repeat (first | exact Takes.nil | refine Takes.sl ?_ | refine Takes.lit ?_ | (refine Takes.ownE ?_ ?_ ?_ ?_ ?_; (focus (exact ⟨_, _, (by (repeat (first | exact mh | refine mt ?_)); done)⟩)); (focus (simp; done)); (focus omega); (focus (simp only [maxLen]; omega))) | refine Takes.same ?_)); done)))) | refine zaa rfl (zca rfl rfl) ?_ | refine zaa rfl (zcb rfl rfl) ?_ | refine zah ?_ | (refine zcr ?_; refine zcs ?_) | (refine zdb ?_; first | refine zdc ?_ | refine zdd ?_ | refine zdg ?_)
    exact done_ret1 rfl () rfl trivial (List.nil_sublist _)
theorem within_fn (n a b : Int) : Fn Try.prog 68 (fun _ => [.raw (.int .i64 n), .raw (.int .i64 a), .raw (.int .i64 b)]) (.raw (.bool (decide (a ≤ n) && decide (n ≤ b)))) := by
  refine fn_intro Try.func68 rfl Try.ntmps68 (fun _ => Nat.le_of_ble_eq_true rfl) fun w0 => ?_
  repeat first | refine zaa rfl (zay rfl) ?_ | refine zaa rfl (zaz rfl) ?_ | (refine zac ?_; refine zaa rfl (zbh rfl rfl) ?_) | refine zah ?_ | (refine zcr ?_; refine zcs ?_) | (refine zdb ?_; first | refine zdc ?_ | refine zdd ?_)
  cases decide (a ≤ n)
  all_goals
    repeat first | refine zai rfl rfl ?_ | refine zaj rfl rfl rfl rfl ?_ | refine zaa rfl (zay rfl) ?_ | refine zaa rfl (zaz rfl) ?_ | (refine zac ?_; refine zaa rfl (zbf rfl rfl) ?_) | refine zaa rfl (zca rfl rfl) ?_ | refine zaa rfl (zcb rfl rfl) ?_ | refine zah ?_ | (refine zcr ?_; refine zcs ?_) | (refine zdb ?_; refine zdg ?_)
    exact done_ret1 rfl () rfl trivial (List.nil_sublist _)
theorem plus_fn (p q : CV) : Fn Try.prog 30 (fun _ => [cA p, cA q]) (cA (addC2 p q)) := by
  refine fn_intro Try.func30 rfl Try.ntmps30 (fun _ => Nat.le_of_ble_eq_true rfl) fun w0 => ?_
  unfold cA
  repeat first | refine zaa rfl (zay rfl) ?_ | refine zaa rfl (zaz rfl) ?_ | (refine zac ?_; refine zaa rfl (zba rfl rfl rfl) ?_) | (refine zad ?_; first | refine zaa rfl (zbp rfl) ?_ | refine zaa rfl (zbq rfl) ?_ | refine zaa rfl (zbr rfl rfl) ?_) | refine zah ?_ | (refine zcr ?_; refine zcs ?_) | (refine zdb ?_; first | refine zdc ?_ | refine zdd ?_ | refine zdg ?_)
  exact done_ret1 rfl () rfl trivial (List.nil_sublist _)
theorem scaleComplex_fn (p : CV) (h : FV) : Fn Try.prog 31 (fun _ => [cA p, .f .f32 h]) (cA (scaleC p h)) := by
  refine fn_intro Try.func31 rfl Try.ntmps31 (fun _ => Nat.le_of_ble_eq_true rfl) fun w0 => ?_
  unfold cA
  repeat first | refine zaa rfl (zay rfl) ?_ | refine zaa rfl (zaz rfl) ?_ | (refine zac ?_; refine zaa rfl (zba rfl rfl rfl) ?_) | (refine zad ?_; first | refine zaa rfl (zbp rfl) ?_ | refine zaa rfl (zbq rfl) ?_ | refine zaa rfl (zbr rfl rfl) ?_) | refine zah ?_ | (refine zcr ?_; refine zcs ?_) | (refine zdb ?_; first | refine zdc ?_ | refine zdd ?_ | refine zdg ?_)
  exact done_ret1 rfl () rfl trivial (List.nil_sublist _)
end Go.Ab
namespace Go.Ab
open Go.Proofs
instance tf27_0 : TyF Try.prog 27 0 0 := ⟨⟨Try.prog.fieldsOf 26, (Try.prog.fieldsOf 26)[0]?.getD default, (Try.prog.info? ((Try.prog.fieldsOf 26)[0]?.getD default).type).getD default, by kernel_rfl, by kernel_rfl, by kernel_rfl, by kernel_rfl, by kernel_rfl⟩⟩
instance tf27_1 : TyF Try.prog 27 1 1 := ⟨⟨Try.prog.fieldsOf 26, (Try.prog.fieldsOf 26)[1]?.getD default, (Try.prog.info? ((Try.prog.fieldsOf 26)[1]?.getD default).type).getD default, by kernel_rfl, by kernel_rfl, by kernel_rfl, by kernel_rfl, by kernel_rfl⟩⟩
instance tf71_0 : TyF Try.prog 71 0 0 := ⟨⟨Try.prog.fieldsOf 70, (Try.prog.fieldsOf 70)[0]?.getD default, (Try.prog.info? ((Try.prog.fieldsOf 70)[0]?.getD default).type).getD default, by kernel_rfl, by kernel_rfl, by kernel_rfl, by kernel_rfl, by kernel_rfl⟩⟩
instance tf71_1 : TyF Try.prog 71 1 1 := ⟨⟨Try.prog.fieldsOf 70, (Try.prog.fieldsOf 70)[1]?.getD default, (Try.prog.info? ((Try.prog.fieldsOf 70)[1]?.getD default).type).getD default, by kernel_rfl, by kernel_rfl, by kernel_rfl, by kernel_rfl, by kernel_rfl⟩⟩
instance tf71_2 : TyF Try.prog 71 2 2 := ⟨⟨Try.prog.fieldsOf 70, (Try.prog.fieldsOf 70)[2]?.getD default, (Try.prog.info? ((Try.prog.fieldsOf 70)[2]?.getD default).type).getD default, by kernel_rfl, by kernel_rfl, by kernel_rfl, by kernel_rfl, by kernel_rfl⟩⟩
end Go.Ab
namespace Go.Ab
open Go.Proofs
variable {R : World → Prop} [RStab R]
section
variable {P : Program} {S : World → Prop} {N : Nat} {e : Env} {Q : Exit → Env → World → Prop} {ops : Array Oper} {l : List Oper} {dst : Option Tmp} {ty : TypeId} {pos : String} {after : Array Edge} {guard : Option (Nat × Bool)}
variable {w0 : World} {gs : List Nat} {H : List Ent}
theorem opj_loadC {R0 : World → Prop} {X : Operand} {g n c : Nat} {i : Int} {f : Nat → CV} {t : TypeId} {d : TypeDesc} [hd : TyU P t d] (ha : aggD d = false)
    (hx : e.ev X = some (.raw (.pointer (some ⟨g, i.toNat * 1, none⟩)))) (hm : entC g n f c ∈ H) (h0 : 0 ≤ i ∧ i < n) : OpJ P (StR R0 w0 gs H) e ⟨dst, .load t X, ty, pos, after, guard⟩ (cA (f i.toNat)) := by
  refine opj_load_own (en := entC g n f c) ha hx hm ?_
  have hi : i.toNat < n := by omega
  rw [Nat.mul_one, List.getElem?_map, tabC_get f hi]
  rfl
end
attribute [local irreducible] WS RS Done OpJ Then InBlock Round Ret Env.sub FnH
attribute [local irreducible] tabC
end Go.Ab
namespace Go.Ab
/-- A product of bounded numbers. -/
theorem mul_bnd {p q a b : Rat} (h1 : -a ≤ p) (h2 : p ≤ a) (h3 : -b ≤ q) (h4 : q ≤ b) : -(a * b) ≤ p * q ∧ p * q ≤ a * b := by
  have x1 := Rat.mul_nonneg (show 0 ≤ a - p by grind) (show 0 ≤ b - q by grind)
  have x2 := Rat.mul_nonneg (show 0 ≤ a + p by grind) (show 0 ≤ b + q by grind)
  have x3 := Rat.mul_nonneg (show 0 ≤ a - p by grind) (show 0 ≤ b + q by grind)
  have x4 := Rat.mul_nonneg (show 0 ≤ a + p by grind) (show 0 ≤ b - q by grind)
  constructor <;> grind
/-- A multiple of a small power of a half. -/
theorem dy_rep {q : Rat} (n : Int) (j : Nat) (hn : n.natAbs ≤ 2 ^ 24) (hj : j ≤ 100) (hq : q * ((2 ^ j : Nat) : Rat) = (n : Rat)) : Rep .f32 q ∧ -p2 24 ≤ q ∧ q ≤ p2 24 := by
  have hp := p2_mul_neg (j : Int)
  rw [p2_nat] at hp
  have h2 := p2_pos (-(j : Int))
  have hq' : q = (n : Rat) * p2 (-(j : Int)) := by
    rw [← hq, Rat.mul_assoc, hp, Rat.mul_one]
  have hle : p2 (-(j : Int)) ≤ 1 := by
    have := p2_le (show -(j : Int) ≤ 0 by omega)
    rwa [p2_zero] at this
  have hn1 : ((n.natAbs : Nat) : Rat) ≤ p2 24 := by
    have h3 : ((n.natAbs : Nat) : Rat) ≤ ((2 ^ 24 : Nat) : Rat) := Rat.natCast_le_natCast.2 hn
    rw [← p2_nat] at h3
    exact h3
  have hb : n.natAbs ≤ 2 ^ (FloatKind.f32.format.fractionBits + 1) := hn
  have hl : FloatKind.f32.format.leastPlace ≤ -(j : Int) := by
    have : FloatKind.f32.format.leastPlace = -149 := by decide
    omega
  have hN0 : (0 : Rat) ≤ ((n.natAbs : Nat) : Rat) := Rat.natCast_nonneg
  have hmul : ((n.natAbs : Nat) : Rat) * p2 (-(j : Int)) ≤ p2 24 := by
    have := Rat.mul_le_mul_of_nonneg_left hle hN0
    grind
  have hpos := Rat.mul_nonneg hN0 (Rat.le_of_lt h2)
  rcases Int.le_total 0 n with h0 | h0
  · have hc : ((n.natAbs : Nat) : Rat) = (n : Rat) := by
      rw [← Rat.intCast_natCast]
      congr 1
      omega
    rw [hc] at hmul hpos
    exact ⟨.inl ⟨n.natAbs, -(j : Int), hb, hl, by rw [hc]; exact hq'⟩, by grind, by grind⟩
  · have hc : ((n.natAbs : Nat) : Rat) = -(n : Rat) := by
      rw [← Rat.intCast_natCast, ← Rat.intCast_neg]
      congr 1
      omega
    rw [hc] at hmul hpos
    exact ⟨.inr ⟨n.natAbs, -(j : Int), hb, hl, by rw [hc, hq']; grind⟩, by grind, by grind⟩
theorem fit_24 {q : Rat} (h1 : -p2 24 ≤ q) (h2 : q ≤ p2 24) : Fit .f32 q := by
  have : p2 24 < p2 (ftop .f32) := by decide +kernel
  constructor <;> grind
theorem fit_24' {q : Rat} (h1 : -p2 24 ≤ q) (h2 : q ≤ p2 24) : -p2 (ftop .f32 - 1) ≤ q ∧ q ≤ p2 (ftop .f32 - 1) := by
  have : p2 24 ≤ p2 (ftop .f32 - 1) := by decide +kernel
  constructor <;> grind
section
variable {x y : FV} {p q : Rat}
theorem mul_ex (hx : Vl .f32 x p) (hy : Vl .f32 y q) (n : Int) (j : Nat) (hn : n.natAbs ≤ 2 ^ 24) (hj : j ≤ 100) (hq : (p * q) * ((2 ^ j : Nat) : Rat) = (n : Rat)) : Vl .f32 (fbin .mul .f32 x y) (p * q) := by
  obtain ⟨hr, h1, h2⟩ := dy_rep n j hn hj hq
  obtain ⟨r, h3, h4⟩ := vl_mul hx hy (fit_24 h1 h2)
  rwa [rnd_rep h4 hr] at h3
theorem div_ex (hx : Vl .f32 x p) (hy : Vl .f32 y q) (h0 : q ≠ 0) {v : Rat} (hv : v * q = p) (n : Int) (j : Nat) (hn : n.natAbs ≤ 2 ^ 24) (hj : j ≤ 100) (hq : v * ((2 ^ j : Nat) : Rat) = (n : Rat)) : Vl .f32 (fbin .quo .f32 x y) v := by
  have he : p / q = v := by
    rw [← hv]
    exact Rat.mul_div_cancel h0
  obtain ⟨hr, h1, h2⟩ := dy_rep n j hn hj hq
  obtain ⟨r, h3, h4⟩ := vl_div hx hy h0 (by rw [he]; exact fit_24' h1 h2)
  rw [he] at h4
  rwa [rnd_rep h4 hr] at h3
/-- How near, of a number that is not above a. -/
theorem rnd_abs {q r : Rat} (h : Rnd .f32 q r) (a : Rat) (h1 : -a ≤ q) (h2 : q ≤ a) : q - (a / 8388608 + 1 / 8388608) ≤ r ∧ r ≤ q + (a / 8388608 + 1 / 8388608) := by
  have h3 := h.near a h1 h2
  have e1 : feps .f32 = 1 / 8388608 := by decide +kernel
  have e2 : ftiny .f32 ≤ 1 / 8388608 := by decide +kernel
  rw [e1] at h3
  obtain ⟨h4, h5⟩ := h3
  constructor <;> grind
end
/-- What a float is can be written. -/
theorem vl_rep {x : FV} {p : Rat} (h : Vl .f32 x p) : Rep .f32 p := by
  obtain ⟨b, s, m, e, rfl, hd, rfl⟩ := h
  obtain ⟨h1, h2, h3⟩ := single_number hd
  have hb : m ≤ 2 ^ (FloatKind.f32.format.fractionBits + 1) := Nat.le_of_lt h1
  have hl : FloatKind.f32.format.leastPlace ≤ e := Int.le_trans (by decide) h2
  unfold vl sgn
  cases s
  · refine .inl ⟨m, e, hb, hl, ?_⟩
    simp
  · refine .inr ⟨m, e, hb, hl, ?_⟩
    simp only [if_true]
    grind
theorem one_mul_ex {x y : FV} {p : Rat} (hx : Vl .f32 x 1) (hy : Vl .f32 y p) (hf : Fit .f32 p) : Vl .f32 (fbin .mul .f32 x y) p := by
  obtain ⟨r, h3, h4⟩ := vl_mul hx hy (by rw [Rat.one_mul]; exact hf)
  rw [Rat.one_mul] at h4
  rwa [rnd_rep h4 (vl_rep hy)] at h3
/-- A quotient is bounded by what bounds products. -/
theorem div_le_of {p q c : Rat} (hq : 0 < q) (h : p ≤ c * q) : p / q ≤ c := by
  have h1 : p / q * q = p := Rat.div_mul_cancel (Rat.ne_of_gt hq)
  exact Rat.le_of_mul_le_mul_right (by rw [h1]; exact h) hq
theorem le_div_of {p q c : Rat} (hq : 0 < q) (h : c * q ≤ p) : c ≤ p / q := by
  have h1 : p / q * q = p := Rat.div_mul_cancel (Rat.ne_of_gt hq)
  exact Rat.le_of_mul_le_mul_right (by rw [h1]; exact h) hq
end Go.Ab
namespace Go.Ab
theorem rootFrom_spec (n : Nat) : ∀ (todo root : Nat), root * root ≤ n → n < (root + 2 ^ todo) * (root + 2 ^ todo) →
    Ieee.Datum.rootFrom n todo root * Ieee.Datum.rootFrom n todo root ≤ n ∧ n < (Ieee.Datum.rootFrom n todo root + 1) * (Ieee.Datum.rootFrom n todo root + 1)
  | 0, root, h1, h2 => ⟨h1, h2⟩
  | todo + 1, root, h1, h2 => by
    unfold Ieee.Datum.rootFrom
    rw [Nat.one_shiftLeft]
    dsimp only
    have hp : 2 ^ (todo + 1) = 2 ^ todo + 2 ^ todo := by rw [Nat.pow_succ]; omega
    rw [hp, ← Nat.add_assoc] at h2
    split
    · rename_i h
      exact rootFrom_spec n todo _ h h2
    · rename_i h
      exact rootFrom_spec n todo _ h1 (by omega)
theorem root_start (n : Nat) : n < (0 + 2 ^ (n.log2 / 2 + 1)) * (0 + 2 ^ (n.log2 / 2 + 1)) := by
  rw [Nat.zero_add, ← Nat.pow_add]
  exact Nat.lt_of_lt_of_le Nat.lt_log2_self (Nat.pow_le_pow_right (by decide) (by omega))
theorem sq_le_of {a b : Rat} (ha : 0 ≤ a) (hb : 0 ≤ b) (h : a * a ≤ b * b) : a ≤ b := by
  rcases Rat.le_total (a := a) (b := b) with h1 | h1
  · exact h1
  · rcases Rat.le_iff_lt_or_eq.1 h1 with h2 | h2
    · have h3 : b * b ≤ b * a := Rat.mul_le_mul_of_nonneg_left h1 hb
      have h4 : b * a < a * a := Rat.mul_lt_mul_of_pos_right h2 (by grind)
      grind
    · rw [h2]; exact Rat.le_refl
theorem nsq_le {a b : Nat} (h : a * a ≤ b * b) : a ≤ b := Nat.mul_self_le_mul_self_iff.1 h
theorem nsq_lt {a b : Nat} (h : a * a < b * b) : a < b := Nat.mul_self_lt_mul_self_iff.1 h
/-- A root's digits with a sticky one, beside what can be written. -/
theorem root_side {k : FloatKind} {W st n : Nat} {e : Int} (hW : 2 ^ (k.format.fractionBits + 1) ≤ W) (hst : (st = 0 ∧ n = W * W) ∨ (st = 1 ∧ W * W < n ∧ n < (W + 1) * (W + 1))) {B : Rat} (hB : RepN k B) :
    ((n : Rat) * (2 * p2 e * (2 * p2 e)) ≤ B * B → ((2 * W + st : Nat) : Rat) * p2 e ≤ B) ∧ (B * B ≤ (n : Rat) * (2 * p2 e * (2 * p2 e)) → B ≤ ((2 * W + st : Nat) : Rat) * p2 e) := by
  have hup := p2_pos e
  obtain ⟨M, E, hM, hE, hBe⟩ := hB
  have hWn : W * W ≤ n := by rcases hst with ⟨_, h⟩ | ⟨_, h, _⟩ <;> omega
  rcases (show e + 1 ≤ E ∨ E ≤ e from by omega) with hle | hle
  · have hB2 : B = ((M * 2 ^ (E - (e + 1)).toNat : Nat) : Rat) * (2 * p2 e) := by
      rw [hBe, p2_split hle, p2_add, p2_one, Rat.natCast_mul]
      grind
    generalize M * 2 ^ (E - (e + 1)).toNat = N at *
    have hsq : B * B = ((N * N : Nat) : Rat) * (2 * p2 e * (2 * p2 e)) := by
      rw [hB2, Rat.natCast_mul]
      grind
    have hu2 : 0 < 2 * p2 e * (2 * p2 e) := Rat.mul_pos (by grind) (by grind)
    rw [hsq]
    refine ⟨fun h => ?_, fun h => ?_⟩
    · have h1 : n ≤ N * N := Rat.natCast_le_natCast.1 (Rat.le_of_mul_le_mul_right h hu2)
      have h2 : 2 * W + st ≤ 2 * N := by
        rcases hst with ⟨h0, h3⟩ | ⟨h0, h3, _⟩
        · have := nsq_le (a := W) (b := N) (by omega)
          omega
        · have := nsq_lt (a := W) (b := N) (by omega)
          omega
      have h3 := mul_p2_le h2 e
      rw [hB2]
      rw [Rat.natCast_mul] at h3
      have e2 : ((2 : Nat) : Rat) = 2 := rfl
      rw [e2] at h3
      grind
    · have h1 : N * N ≤ n := Rat.natCast_le_natCast.1 (Rat.le_of_mul_le_mul_right h hu2)
      have h2 : 2 * N ≤ 2 * W + st := by
        rcases hst with ⟨h0, h3⟩ | ⟨h0, _, h3⟩
        · have := nsq_le (a := N) (b := W) (by omega)
          omega
        · have := nsq_lt (a := N) (b := W + 1) (by omega)
          omega
      have h3 := mul_p2_le h2 e
      rw [hB2]
      rw [Rat.natCast_mul] at h3
      have e2 : ((2 : Nat) : Rat) = 2 := rfl
      rw [e2] at h3
      grind
  · have h3 : B ≤ (W : Rat) * p2 e := by
      rw [hBe]
      exact Rat.le_trans (Rat.mul_le_mul_of_nonneg_left (p2_le hle) Rat.natCast_nonneg) (mul_p2_le (Nat.le_trans hM hW) e)
    have hB0 : 0 ≤ B := by
      rw [hBe]
      exact Rat.mul_nonneg Rat.natCast_nonneg (Rat.le_of_lt (p2_pos E))
    have hW0 : (0 : Rat) < W := by
      rw [show (0 : Rat) = ((0 : Nat) : Rat) from rfl]
      exact Rat.natCast_lt_natCast.2 (Nat.lt_of_lt_of_le (Nat.two_pow_pos _) hW)
    have hX : 0 < (W : Rat) * p2 e := Rat.mul_pos hW0 hup
    have hc : ((2 * W + st : Nat) : Rat) * p2 e = 2 * ((W : Rat) * p2 e) + (st : Rat) * p2 e := by
      rw [Rat.natCast_add, Rat.natCast_mul]
      show (2 * (W : Rat) + st) * p2 e = _
      grind
    have hst0 : 0 ≤ (st : Rat) * p2 e := Rat.mul_nonneg Rat.natCast_nonneg (Rat.le_of_lt hup)
    rw [hc]
    refine ⟨fun h => ?_, fun _ => by grind⟩
    exfalso
    have h4 : ((W * W : Nat) : Rat) ≤ (n : Rat) := Rat.natCast_le_natCast.2 hWn
    rw [Rat.natCast_mul] at h4
    have h5 := Rat.mul_le_mul_of_nonneg_right h4 (show 0 ≤ 2 * p2 e * (2 * p2 e) from Rat.mul_nonneg (by grind) (by grind))
    have h6 : B * B ≤ (W : Rat) * p2 e * ((W : Rat) * p2 e) := Rat.le_trans (Rat.mul_le_mul_of_nonneg_left h3 hB0) (Rat.mul_le_mul_of_nonneg_right h3 (Rat.le_of_lt hX))
    have h7 := Rat.mul_pos hX hX
    grind
/-- A root of a 64-bit number. -/
theorem vl_sqrt {x : FV} {p : Rat} (hx : Vl .f64 x p) (h1 : p2 (-400) ≤ p) (h2 : p ≤ p2 200) :
    ∃ r, Vl .f64 (fsqrt x) r ∧ 0 < r ∧ (∀ B, RepN .f64 B → (p ≤ B * B → r ≤ B) ∧ (B * B ≤ p → B ≤ r)) ∧ p ≤ r * r * (1 + p2 (-40)) ∧ r * r ≤ p * (1 + p2 (-40)) := by
  obtain ⟨b, s, m, i, rfl, hd, hq⟩ := hx
  have hp0 : 0 < p := Std.lt_of_lt_of_le (p2_pos _) h1
  have hs : s = false := by
    cases s
    · rfl
    · exfalso
      have := Rat.mul_nonneg (Rat.natCast_nonneg (a := m)) (Rat.le_of_lt (p2_pos i))
      unfold vl sgn at hq
      simp only [if_true] at hq
      grind
  subst hs
  have hm : m ≠ 0 := fun h => by
    subst h
    rw [vl_zero] at hq
    grind
  have hpv : p = (m : Rat) * p2 i := by
    rw [← hq]
    unfold vl sgn
    simp
  have hroot : ∃ more : Nat, 108 ≤ m.log2 + more ∧ (i - more) % 2 = 0 ∧ fsqrt (some b) = some (FloatKind.f64.format.nearest false (2 * Ieee.Datum.rootFrom (m <<< more) ((m <<< more).log2 / 2 + 1) 0 + (Ieee.Datum.rootFrom (m <<< more) ((m <<< more).log2 / 2 + 1) 0 * Ieee.Datum.rootFrom (m <<< more) ((m <<< more).log2 / 2 + 1) 0 != m <<< more).toNat) ((i - more) / 2 - 1)) := by
    refine ⟨2 * 54 - m.log2 + ((i - (2 * 54 - m.log2 : Nat)) % 2).toNat, by omega, by omega, ?_⟩
    have hd' : FloatKind.f64.format.read b = .number false m i := hd
    have hfb : FloatKind.f64.format.fractionBits + 2 = 54 := rfl
    simp [fsqrt, Ieee.Format.sqrt, hd', Ieee.Datum.root, hm, Ieee.Format.write, hfb]
  obtain ⟨more, hmore, hev, hfs⟩ := hroot
  rw [hfs]
  clear hfs hd
  have hn0 : 2 ^ 108 ≤ m <<< more := by
    rw [Nat.shiftLeft_eq]
    have h3 : 2 ^ m.log2 * 2 ^ more ≤ m * 2 ^ more := Nat.mul_le_mul_right _ (Nat.log2_self_le hm)
    rw [← Nat.pow_add] at h3
    exact Nat.le_trans (Nat.pow_le_pow_right (by decide) (by omega)) h3
  have hval := mul_shl m more (i - more)
  rw [show i - (more : Int) + more = i from by omega, ← hpv] at hval
  have hu : p2 (i - more) = 2 * p2 ((i - more) / 2 - 1) * (2 * p2 ((i - more) / 2 - 1)) := by
    have e1 : (2 : Rat) * p2 ((i - more) / 2 - 1) = p2 ((i - more) / 2) := by
      rw [← p2_one, ← p2_add]
      congr 1
      omega
    rw [e1, ← p2_add]
    congr 1
    omega
  rw [hu] at hval
  generalize m <<< more = n at *
  obtain ⟨hw1, hw2⟩ := rootFrom_spec n (n.log2 / 2 + 1) 0 (Nat.zero_le _) (root_start n)
  generalize Ieee.Datum.rootFrom n (n.log2 / 2 + 1) 0 = W at *
  generalize (i - more) / 2 - 1 = e at *
  have hW : 2 ^ (FloatKind.f64.format.fractionBits + 1) ≤ W := by
    show 2 ^ 53 ≤ W
    have := nsq_lt (a := 2 ^ 53) (b := W + 1) (by omega)
    omega
  obtain ⟨st, hst, hstc⟩ : ∃ st, (W * W != n).toNat = st ∧ ((st = 0 ∧ n = W * W) ∨ (st = 1 ∧ W * W < n ∧ n < (W + 1) * (W + 1))) := by
    refine ⟨_, rfl, ?_⟩
    by_cases h : W * W = n
    · left
      simp [h]
    · right
      have : (W * W != n) = true := by simpa using h
      rw [this]
      exact ⟨rfl, by omega, hw2⟩
  rw [hst]
  have hside := fun {B} (hB : RepN .f64 B) => root_side (k := .f64) (e := e) hW hstc (B := B) hB
  rw [hval] at hside
  have hr100 : RepN .f64 (p2 100) := ⟨1, 100, Nat.one_le_two_pow, by decide, by rw [show ((1 : Nat) : Rat) = 1 from rfl, Rat.one_mul]⟩
  have hrm : RepN .f64 (p2 (-200)) := ⟨1, -200, Nat.one_le_two_pow, by decide, by rw [show ((1 : Nat) : Rat) = 1 from rfl, Rat.one_mul]⟩
  have hA1 := (hside hr100).1 (by rw [← p2_add]; exact h2)
  have hA2 := (hside hrm).2 (by rw [← p2_add]; exact h1)
  have htop : p2 100 < p2 (ftop .f64) := by decide +kernel
  obtain ⟨m', e', g1, g2, g3, g4, g5⟩ := nearest_rnd' .f64 false (2 * W + st) e (Std.lt_of_le_of_lt hA1 htop)
  have hup := p2_pos e
  have hWr : (1 : Rat) ≤ W * p2 (-53) := by
    have h3 := mul_p2_le hW (-53)
    rw [p2_shl] at h3
    exact h3
  have hc : ((2 * W + st : Nat) : Rat) * p2 e = 2 * ((W : Rat) * p2 e) + (st : Rat) * p2 e := by
    rw [Rat.natCast_add, Rat.natCast_mul]
    show (2 * (W : Rat) + st) * p2 e = _
    grind
  -- p beside the square of what is rounded
  have hpA : p ≤ (((2 * W + st : Nat) : Rat) * p2 e + p2 e) * (((2 * W + st : Nat) : Rat) * p2 e + p2 e) ∧ (((2 * W + st : Nat) : Rat) * p2 e - p2 e) * (((2 * W + st : Nat) : Rat) * p2 e - p2 e) ≤ p := by
    rw [hc, ← hval]
    rcases hstc with ⟨h0, h3⟩ | ⟨h0, h3, h4⟩
    · subst h0
      rw [show ((0 : Nat) : Rat) = 0 from rfl, Rat.zero_mul, Rat.add_zero]
      have h5 : (n : Rat) = (W : Rat) * W := by rw [h3, Rat.natCast_mul]
      rw [h5]
      have h6 : 0 ≤ (W : Rat) * p2 e := Rat.mul_nonneg Rat.natCast_nonneg (Rat.le_of_lt hup)
      have h7 := Rat.mul_nonneg h6 (Rat.le_of_lt hup)
      have h8 := Rat.mul_pos hup hup
      have h9 : p2 e * p2 e ≤ (W : Rat) * p2 e * p2 e := by
        have hW1 : (1 : Rat) ≤ W := by
          have := Rat.natCast_le_natCast.2 (show 1 ≤ W from Nat.le_trans (by decide) hW)
          exact this
        have := Rat.mul_le_mul_of_nonneg_right hW1 (Rat.le_of_lt h8)
        grind
      constructor <;> grind
    · subst h0
      rw [show ((1 : Nat) : Rat) = 1 from rfl, Rat.one_mul]
      have h5 : ((W * W : Nat) : Rat) < n := Rat.natCast_lt_natCast.2 h3
      have h6 : (n : Rat) < (((W + 1) * (W + 1) : Nat) : Rat) := Rat.natCast_lt_natCast.2 h4
      rw [Rat.natCast_mul] at h5 h6
      rw [Rat.natCast_add, show ((1 : Nat) : Rat) = 1 from rfl] at h6
      have hu2 : 0 < 2 * p2 e * (2 * p2 e) := Rat.mul_pos (by grind) (by grind)
      have h7 := Rat.mul_lt_mul_of_pos_right h5 hu2
      have h8 := Rat.mul_lt_mul_of_pos_right h6 hu2
      constructor <;> grind
  have huA : p2 e ≤ ((2 * W + st : Nat) : Rat) * p2 e * p2 (-54) := by
    rw [hc]
    have h3 : 0 ≤ (st : Rat) * p2 e := Rat.mul_nonneg Rat.natCast_nonneg (Rat.le_of_lt hup)
    have h4 := Rat.mul_nonneg h3 (Rat.le_of_lt (p2_pos (-54)))
    have h5 := Rat.mul_le_mul_of_nonneg_right hWr (Rat.le_of_lt hup)
    have h6 : p2 (-53) = 2 * p2 (-54) := by decide +kernel
    rw [h6] at h5
    grind
  have e1 : feps .f64 = p2 (-52) := rfl
  have e2 : ftiny .f64 ≤ p2 (-200) * p2 (-52) := by decide +kernel
  have hr' : vl false m' e' = (m' : Rat) * p2 e' := by unfold vl sgn; simp
  have hv := Vl.of (k := .f64) g1
  rw [hr'] at hv
  have hrv : ∀ B, RepN .f64 B → (p ≤ B * B → (m' : Rat) * p2 e' ≤ B) ∧ (B * B ≤ p → B ≤ (m' : Rat) * p2 e') := fun B hB => ⟨fun h => (g3 B hB).1 ((hside hB).1 h), fun h => (g3 B hB).2 ((hside hB).2 h)⟩
  generalize (m' : Rat) * p2 e' = r at *
  generalize ((2 * W + st : Nat) : Rat) * p2 e = A at *
  have hp100 := p2_pos (-200)
  have hr0 : 0 < r := Std.lt_of_lt_of_le hp100 ((hrv _ hrm).2 (by rw [← p2_add]; exact h1))
  rw [e1] at g4 g5
  have hA0 : 0 < A := Std.lt_of_lt_of_le hp100 hA2
  have e3 := Rat.mul_le_mul_of_nonneg_right hA2 (Rat.le_of_lt (p2_pos (-52)))
  -- A within a small share of r
  have c52 : p2 (-52) = 1 / 4503599627370496 := by decide +kernel
  have c54 : p2 (-54) = 1 / 18014398509481984 := by decide +kernel
  have c40 : p2 (-40) = 1 / 1099511627776 := by decide +kernel
  rw [c52] at g4 g5 e2 e3
  rw [c54] at huA
  have k1 : A ≤ r * (1 + 1 / 1000000000000000) := by grind
  have k2 : r ≤ A * (1 + 1 / 1000000000000000) := by grind
  have k3 : A + p2 e ≤ r * (1 + 1 / 100000000000000) := by grind
  have k4 : r * (1 - 1 / 100000000000000) ≤ A - p2 e := by grind
  refine ⟨r, hv, hr0, hrv, ?_, ?_⟩
  · rw [c40]
    have q1 : (A + p2 e) * (A + p2 e) ≤ r * (1 + 1 / 100000000000000) * (r * (1 + 1 / 100000000000000)) :=
      Rat.le_trans (Rat.mul_le_mul_of_nonneg_left k3 (by grind)) (Rat.mul_le_mul_of_nonneg_right k3 (by grind))
    have q2 := Rat.mul_pos hr0 hr0
    grind
  · rw [c40]
    have q1 : r * (1 - 1 / 100000000000000) * (r * (1 - 1 / 100000000000000)) ≤ (A - p2 e) * (A - p2 e) :=
      Rat.le_trans (Rat.mul_le_mul_of_nonneg_left k4 (by grind)) (Rat.mul_le_mul_of_nonneg_right k4 (by grind))
    have q2 := Rat.mul_pos hr0 hr0
    grind
end Go.Ab
namespace Go.Ab
def powF (x y : FV) : FV := fbin .add .f64 (fbin .mul .f64 (fconv .f32 .f64 x) (fconv .f32 .f64 x)) (fbin .mul .f64 (fconv .f32 .f64 y) (fconv .f32 .f64 y))
def longF (x y : FV) : FV := fconv .f64 .f32 (fsqrt (powF x y))
theorem rep_sq {B : Rat} (h : Rep .f32 B) : RepN .f64 (B * B) ∧ (B = 0 ∨ p2 (-298) ≤ B * B) := by
  have key : ∀ B : Rat, RepN .f32 B → RepN .f64 (B * B) ∧ (B = 0 ∨ p2 (-298) ≤ B * B) := fun B ⟨M, E, hM, hE, hB⟩ => by
    have hM' : M ≤ 2 ^ 24 := hM
    have hE' : -149 ≤ E := hE
    have e : B * B = ((M * M : Nat) : Rat) * p2 (E + E) := by rw [hB, Rat.natCast_mul, p2_add]; grind
    refine ⟨⟨M * M, E + E, ?_, ?_, e⟩, ?_⟩
    · have h1 : M * M ≤ 2 ^ 24 * 2 ^ 24 := Nat.mul_le_mul hM' hM'
      exact Nat.le_trans h1 (by decide)
    · have : FloatKind.f64.format.leastPlace = -1074 := by decide
      omega
    · rcases Nat.eq_zero_or_pos M with h0 | h0
      · left
        rw [hB, h0, show ((0 : Nat) : Rat) = 0 from rfl, Rat.zero_mul]
      · right
        rw [e]
        have h1 : (1 : Rat) ≤ ((M * M : Nat) : Rat) := by
          have := Rat.natCast_le_natCast.2 (show 1 ≤ M * M from Nat.mul_pos h0 h0)
          exact this
        have h2 := p2_le (show -298 ≤ E + E by omega)
        have h3 := Rat.mul_le_mul_of_nonneg_right h1 (Rat.le_of_lt (p2_pos (E + E)))
        rw [Rat.one_mul] at h3
        exact Rat.le_trans h2 h3
  rcases h with h | h
  · exact key B h
  · have := key (-B) h
    have e : -B * -B = B * B := by grind
    rw [e] at this
    exact ⟨this.1, this.2.imp (fun h => by grind) id⟩
theorem sqrt_zero {x : FV} (hx : Vl .f64 x 0) : Vl .f64 (fsqrt x) 0 := by
  obtain ⟨b, s, m, i, rfl, hd, hq⟩ := hx
  have hm : m = 0 := by
    rcases Nat.eq_zero_or_pos m with h | h
    · exact h
    · exfalso
      have h1 : (1 : Rat) ≤ ((m : Nat) : Rat) := by
        have := Rat.natCast_le_natCast.2 h
        exact this
      have h2 := p2_pos i
      have h3 := Rat.mul_le_mul_of_nonneg_right h1 (Rat.le_of_lt h2)
      unfold vl sgn at hq
      cases s
      · simp only [Bool.false_eq_true, if_false] at hq
        grind
      · simp only [if_true] at hq
        grind
  subst hm
  have hd' : FloatKind.f64.format.read b = .number s 0 i := hd
  have hfb : FloatKind.f64.format.fractionBits + 2 = 54 := rfl
  cases s
  · have : fsqrt (some b) = some (FloatKind.f64.format.nearest false 0 i) := by
      simp [fsqrt, Ieee.Format.sqrt, hd', Ieee.Datum.root, Ieee.Format.write]
    rw [this]
    have h0 : FloatKind.f64.format.nearest false 0 i = 0 := by unfold Ieee.Format.nearest; rw [if_pos rfl]; rfl
    rw [h0]
    exact Vl.cs (by decide +kernel)
  · have : fsqrt (some b) = some (FloatKind.f64.format.nearest true 0 i) := by
      simp [fsqrt, Ieee.Format.sqrt, hd', Ieee.Datum.root, Ieee.Format.write]
    rw [this]
    have h0 : FloatKind.f64.format.nearest true 0 i = 9223372036854775808 := by unfold Ieee.Format.nearest; rw [if_pos rfl]; rfl
    rw [h0]
    exact Vl.cs (by decide +kernel)
section
variable {x y : FV} {p q : Rat}
theorem vl_powB (hx : Vl .f32 x p) (hy : Vl .f32 y q) (hp : -p2 70 ≤ p ∧ p ≤ p2 70) (hq : -p2 70 ≤ q ∧ q ≤ p2 70) : ∃ P, Vl .f64 (powF x y) P ∧ Rnd .f64 (p * p + q * q) P ∧ p * p + q * q ≤ p2 141 := by
  have e60 : p2 70 * p2 70 = p2 140 := by decide +kernel
  have e61 : p2 140 + p2 140 = p2 141 := by decide +kernel
  have f60 : p2 141 < p2 (ftop .f64) := by decide +kernel
  have n60 := p2_pos 140
  have b1 := mul_bnd hp.1 hp.2 hp.1 hp.2
  have b2 := mul_bnd hq.1 hq.2 hq.1 hq.2
  rw [e60] at b1 b2
  obtain ⟨a, ha, ra⟩ := vl_mul (vl_wide hx) (vl_wide hx) (show Fit .f64 (p * p) by constructor <;> grind)
  obtain ⟨b, hb, rb⟩ := vl_mul (vl_wide hy) (vl_wide hy) (show Fit .f64 (q * q) by constructor <;> grind)
  rw [rnd_rep ra (.inl (rep_sq (vl_rep hx)).1)] at ha
  rw [rnd_rep rb (.inl (rep_sq (vl_rep hy)).1)] at hb
  obtain ⟨P, hP, rP⟩ := vl_add ha hb (show Fit .f64 (p * p + q * q) by constructor <;> grind)
  exact ⟨P, hP, rP, by grind⟩
theorem vl_longB (hx : Vl .f32 x p) (hy : Vl .f32 y q) (hp : -p2 70 ≤ p ∧ p ≤ p2 70) (hq : -p2 70 ≤ q ∧ q ≤ p2 70) :
    ∃ R, Vl .f32 (longF x y) R ∧ ConvOk .f64 .f32 (fsqrt (powF x y)) ∧ 0 ≤ R ∧ (∀ B, RepN .f32 B → (p * p + q * q ≤ B * B → R ≤ B) ∧ (B * B ≤ p * p + q * q → B ≤ R)) ∧
      (p2 (-90) ≤ p * p + q * q → p * p + q * q ≤ R * R * (1 + p2 (-20)) ∧ R * R ≤ (p * p + q * q) * (1 + p2 (-20))) := by
  obtain ⟨P, hP, rP, P61⟩ := vl_powB hx hy hp hq
  have hs1 := rep_sq (vl_rep hx)
  have hs2 := rep_sq (vl_rep hy)
  have hpp : 0 ≤ p * p := by
    rcases Rat.le_total (a := 0) (b := p) with h | h
    · exact Rat.mul_nonneg h h
    · have := Rat.mul_nonneg (show 0 ≤ -p by grind) (show 0 ≤ -p by grind); grind
  have hqq : 0 ≤ q * q := by
    rcases Rat.le_total (a := 0) (b := q) with h | h
    · exact Rat.mul_nonneg h h
    · have := Rat.mul_nonneg (show 0 ≤ -q by grind) (show 0 ≤ -q by grind); grind
  have n298 := p2_pos (-298)
  have hsd : ∀ B, RepN .f32 B → (p * p + q * q ≤ B * B → P ≤ B * B) ∧ (B * B ≤ p * p + q * q → B * B ≤ P) := fun B hB => rP.side _ (.inl (rep_sq (.inl hB)).1)
  by_cases h0 : p * p + q * q = 0
  · have hP0 : P = 0 := by
      rw [h0] at rP
      exact rnd_rep rP (rep_zero _)
    rw [hP0] at hP
    have h1 := sqrt_zero hP
    have hf : Fit .f32 0 := ⟨by decide +kernel, by decide +kernel⟩
    obtain ⟨R, hR, hRr⟩ := vl_narrow h1 hf
    obtain rfl := rnd_rep hRr (rep_zero _)
    refine ⟨0, hR, vl_narrow_ok h1 hf, Rat.le_refl, fun B hB => ⟨fun _ => ?_, fun h => ?_⟩, fun h => ?_⟩
    · obtain ⟨M, E, _, _, rfl⟩ := hB
      exact Rat.mul_nonneg Rat.natCast_nonneg (Rat.le_of_lt (p2_pos E))
    · rw [h0] at h
      obtain ⟨M, E, _, _, rfl⟩ := hB
      have hb : 0 ≤ (M : Rat) * p2 E := Rat.mul_nonneg Rat.natCast_nonneg (Rat.le_of_lt (p2_pos E))
      rcases (show (M : Rat) * p2 E = 0 ∨ 0 < (M : Rat) * p2 E from by grind) with h4 | h4
      · grind
      · have := Rat.mul_pos h4 h4
        grind
    · have := p2_pos (-90)
      grind
  · have hge : p2 (-298) ≤ p * p + q * q := by
      rcases hs1.2 with h1 | h1
      · rcases hs2.2 with h2 | h2
        · subst h1 h2
          exfalso
          exact h0 (by grind)
        · grind
      · grind
    have hPge : p2 (-298) ≤ P := (rP.side _ (.inl ⟨1, -298, by decide, by decide, by rw [show ((1 : Nat) : Rat) = 1 from rfl, Rat.one_mul]⟩)).2 hge
    have hPle : P ≤ p2 141 := (rP.side _ (.inl ⟨1, 141, by decide, by decide, by rw [show ((1 : Nat) : Rat) = 1 from rfl, Rat.one_mul]⟩)).1 P61
    obtain ⟨r, hr, hr0, hside, hn1, hn2⟩ := vl_sqrt hP (Rat.le_trans (p2_le (by decide)) hPge) (Rat.le_trans hPle (p2_le (by decide)))
    have hwide : ∀ B, RepN .f32 B → RepN .f64 B := fun B ⟨M, E, hM, hE, hB⟩ => ⟨M, E, Nat.le_trans hM (by decide), Int.le_trans (by decide) hE, hB⟩
    have hr50 : RepN .f32 (p2 72) := ⟨1, 72, Nat.one_le_two_pow, by decide, by rw [show ((1 : Nat) : Rat) = 1 from rfl, Rat.one_mul]⟩
    have k1 := (hside _ (hwide _ hr50)).1 (by rw [← p2_add]; exact Rat.le_trans hPle (p2_le (by decide)))
    have htop : p2 72 < p2 (ftop .f32) := by decide +kernel
    have hfit : Fit .f32 r := ⟨by have := p2_pos (ftop .f32); grind, Std.lt_of_le_of_lt k1 htop⟩
    obtain ⟨R, hR, hRr⟩ := vl_narrow hr hfit
    have hR0 : 0 ≤ R := (hRr.side 0 (rep_zero _)).2 (Rat.le_of_lt hr0)
    have hs3 : ∀ B, RepN .f32 B → (p * p + q * q ≤ B * B → R ≤ B) ∧ (B * B ≤ p * p + q * q → B ≤ R) := fun B hB => ⟨fun h => (hRr.side B (.inl hB)).1 ((hside B (hwide B hB)).1 ((hsd B hB).1 h)), fun h => (hRr.side B (.inl hB)).2 ((hside B (hwide B hB)).2 ((hsd B hB).2 h))⟩
    refine ⟨R, hR, vl_narrow_ok hr hfit, hR0, hs3, fun h90 => ?_⟩
    have hrm : RepN .f32 (p2 (-45)) := ⟨1, -45, Nat.one_le_two_pow, by decide, by rw [show ((1 : Nat) : Rat) = 1 from rfl, Rat.one_mul]⟩
    have k2 := (hside _ (hwide _ hrm)).2 ((hsd _ hrm).2 (by rw [← p2_add]; exact h90))
    have k3 := (hs3 _ hrm).2 (by rw [← p2_add]; exact h90)
    have h45 := p2_pos (-45)
    obtain ⟨n1, n2⟩ := hRr.near r (by grind) Rat.le_refl
    obtain ⟨n3, n4⟩ := rP.near (p * p + q * q) (by grind) Rat.le_refl
    have e1 : feps .f32 = 1 / 8388608 := by decide +kernel
    have e2 : ftiny .f32 ≤ p2 (-45) * (1 / 1000000000000) := by decide +kernel
    have e3 : p2 (-20) = 1 / 1048576 := by decide +kernel
    have e4 : p2 (-40) = 1 / 1099511627776 := by decide +kernel
    have e5 : feps .f64 = 1 / 4503599627370496 := by decide +kernel
    have e6 : ftiny .f64 ≤ p2 (-90) * (1 / 1000000000000) := by decide +kernel
    rw [e1] at n1 n2
    rw [e4] at hn1 hn2
    rw [e5] at n3 n4
    have e7 := Rat.mul_le_mul_of_nonneg_right k2 (show (0 : Rat) ≤ 1 / 1000000000000 by decide +kernel)
    have e8 := Rat.mul_le_mul_of_nonneg_right h90 (show (0 : Rat) ≤ 1 / 1000000000000 by decide +kernel)
    have m1 : r ≤ R * (1 + 13 / 100000000) := by grind
    have m2 : R ≤ r * (1 + 13 / 100000000) := by grind
    have q1 : r * r ≤ R * (1 + 13 / 100000000) * (R * (1 + 13 / 100000000)) :=
      Rat.le_trans (Rat.mul_le_mul_of_nonneg_left m1 (by grind)) (Rat.mul_le_mul_of_nonneg_right m1 (by grind))
    have q2 : R * R ≤ r * (1 + 13 / 100000000) * (r * (1 + 13 / 100000000)) :=
      Rat.le_trans (Rat.mul_le_mul_of_nonneg_left m2 (by grind)) (Rat.mul_le_mul_of_nonneg_right m2 (by grind))
    have hRp : 0 < R := by grind
    have q3 := Rat.mul_pos hRp hRp
    have q4 := Rat.mul_pos hr0 hr0
    rw [e3]
    generalize p * p + q * q = T at *
    have m3 : T ≤ P * (1 + 1 / 100000000000) := by grind
    have m4 : P ≤ T * (1 + 1 / 100000000000) := by grind
    constructor
    · grind
    · grind
theorem vl_long (hx : Vl .f32 x p) (hy : Vl .f32 y q) (hp : -p2 30 ≤ p ∧ p ≤ p2 30) (hq : -p2 30 ≤ q ∧ q ≤ p2 30) :
    ∃ R, Vl .f32 (longF x y) R ∧ ConvOk .f64 .f32 (fsqrt (powF x y)) ∧ 0 ≤ R ∧ (∀ B, RepN .f32 B → (p * p + q * q ≤ B * B → R ≤ B) ∧ (B * B ≤ p * p + q * q → B ≤ R)) ∧
      (p2 (-90) ≤ p * p + q * q → p * p + q * q ≤ R * R * (1 + p2 (-20)) ∧ R * R ≤ (p * p + q * q) * (1 + p2 (-20))) := by
  have h : p2 30 ≤ p2 70 := p2_le (by decide)
  exact vl_longB hx hy (by constructor <;> grind) (by constructor <;> grind)
end
end Go.Ab
