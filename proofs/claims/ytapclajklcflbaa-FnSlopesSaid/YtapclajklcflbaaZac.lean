/- Part 3 of the texts on which the law leans, joined: Lists of complex numbers: that one is as itself, marks on it, whether all of it is finite. No conditions. -/
import Derived.OwnWalk
import Derived.KernelRfl
import Derived.Test.YtapclajklcflbaaZab
namespace Go.Ab
/-- A float that is a number of some value. -/
def Vl (k : FloatKind) (x : FV) (q : Rat) : Prop := ∃ b s m e, x = some b ∧ k.decode b = .number s m e ∧ vl s m e = q
theorem Vl.of {k : FloatKind} {b : Nat} {s : Bool} {m : Nat} {e : Int} (h : k.decode b = .number s m e) : Vl k (some b) (vl s m e) := ⟨b, s, m, e, rfl, h, rfl⟩
theorem Vl.fvc {k : FloatKind} {b : Nat} {s : Bool} {m : Nat} {e : Int} {q : Rat} (h : k.decode b = .number s m e) (hq : vl s m e = q) : Vl k (fv k b) q := by
  have : fv k b = some b := fv_some (by rw [h]; rfl)
  rw [this, ← hq]
  exact .of h
/-- Whether a word is a number of some value. -/
def vlc (k : FloatKind) (b : Nat) (q : Rat) : Bool := match k.decode b with
  | .number s m e => decide (vl s m e = q)
  | _ => false
theorem Vl.cs {k : FloatKind} {b : Nat} {q : Rat} (h : vlc k b q = true) : Vl k (.some b) q := by
  unfold vlc at h
  split at h
  · rename_i s m e hd
    exact ⟨b, s, m, e, rfl, hd, of_decide_eq_true h⟩
  · cases h
theorem Vl.c {k : FloatKind} {b : Nat} {q : Rat} (h : vlc k b q = true) : Vl k (fv k b) q := by
  obtain ⟨b', s, m, e, hb, hd, hq⟩ := Vl.cs h
  cases hb
  exact Vl.fvc hd hq
theorem Vl.some {k : FloatKind} {x : FV} {q : Rat} (h : Vl k x q) : x ≠ none := by
  obtain ⟨b, _, _, _, rfl, _, _⟩ := h
  exact Option.some_ne_none b
theorem Vl.unique {k : FloatKind} {x : FV} {p q : Rat} (h : Vl k x p) (h' : Vl k x q) : p = q := by
  obtain ⟨b, s, m, e, rfl, hd, rfl⟩ := h
  obtain ⟨b', s', m', e', hb, hd', rfl⟩ := h'
  cases hb
  rw [hd] at hd'
  cases hd'
  rfl
/-- Not too great to be written. -/
def Fit (k : FloatKind) (q : Rat) : Prop := -p2 (ftop k) < q ∧ q < p2 (ftop k)
theorem Fit.mag {k : FloatKind} {s : Bool} {m : Nat} {e : Int} (h : Fit k (vl s m e)) : (m : Rat) * p2 e < p2 (ftop k) := by
  obtain ⟨h1, h2⟩ := h
  unfold vl sgn at h1 h2
  cases s <;> grind
theorem write_vl (k : FloatKind) (s : Bool) (m : Nat) (e : Int) (h : Fit k (vl s m e)) : ∃ r, Vl k (some (k.format.nearest s m e)) r ∧ Rnd k (vl s m e) r := by
  obtain ⟨m', e', h1, h2, _⟩ := nearest_rnd k s m e h.mag
  exact ⟨_, .of h1, h2⟩
/-- What has a value of its own. -/
theorem rnd_rep {k : FloatKind} {q r : Rat} (h : Rnd k q r) (hq : Rep k q) : r = q :=
  Rat.le_antisymm ((h.side q hq).1 Rat.le_refl) ((h.side q hq).2 Rat.le_refl)
theorem rep_zero (k : FloatKind) : Rep k 0 := .inl ⟨0, k.format.leastPlace, Nat.zero_le _, Int.le_refl _, by rw [show ((0 : Nat) : Rat) = 0 from rfl, Rat.zero_mul]⟩
theorem rep_int (k : FloatKind) (n : Int) (h : n.natAbs ≤ 2 ^ (k.format.fractionBits + 1)) : Rep k (n : Rat) := by
  have hlp : k.format.leastPlace ≤ 0 := by cases k <;> decide
  rcases Int.le_total 0 n with h0 | h0
  · refine .inl ⟨n.natAbs, 0, h, hlp, ?_⟩
    rw [p2_zero, Rat.mul_one, ← Rat.intCast_natCast]
    congr 1
    omega
  · refine .inr ⟨n.natAbs, 0, h, hlp, ?_⟩
    rw [p2_zero, Rat.mul_one, ← Rat.intCast_natCast, ← Rat.intCast_neg]
    congr 1
    omega

theorem sum_vl (s t : Bool) (m n : Nat) (i j : Int) : ∃ u M, Ieee.Datum.sum (.number s m i) (.number t n j) = some (.number u M (min i j)) ∧ vl u M (min i j) = vl s m i + vl t n j := by
  simp only [Ieee.Datum.sum]
  refine ⟨_, _, rfl, ?_⟩
  have e1 := vl_signed s m (i - min i j).toNat (min i j)
  have e2 := vl_signed t n (j - min i j).toNat (min i j)
  have a1 : min i j + ((i - min i j).toNat : Int) = i := by omega
  have a2 : min i j + ((j - min i j).toNat : Int) = j := by omega
  rw [a1] at e1
  rw [a2] at e2
  rw [← e1, ← e2, ← Rat.add_mul, ← Rat.intCast_add, vl_int]
  split
  · rename_i h0
    rw [h0]
    show vl _ 0 _ = vl _ 0 _
    rw [vl_zero, vl_zero]
  · rfl
theorem vl_add {k : FloatKind} {x y : FV} {p q : Rat} (hx : Vl k x p) (hy : Vl k y q) (hf : Fit k (p + q)) : ∃ r, Vl k (fbin .add k x y) r ∧ Rnd k (p + q) r := by
  obtain ⟨a, s, m, i, rfl, ha, rfl⟩ := hx
  obtain ⟨b, t, n, j, rfl, hb, rfl⟩ := hy
  obtain ⟨u, M, h1, h2⟩ := sum_vl s t m n i j
  rw [← h2] at hf ⊢
  have : fbin .add k (some a) (some b) = some (k.format.nearest u M (min i j)) := by
    have ha' : k.format.read a = .number s m i := ha
    have hb' : k.format.read b = .number t n j := hb
    simp [fbin, floatBits, Ieee.Format.add, ha', hb', h1, Ieee.Format.write]
  rw [this]
  exact write_vl k u M _ hf
theorem vl_sub {k : FloatKind} {x y : FV} {p q : Rat} (hx : Vl k x p) (hy : Vl k y q) (hf : Fit k (p - q)) : ∃ r, Vl k (fbin .sub k x y) r ∧ Rnd k (p - q) r := by
  obtain ⟨a, s, m, i, rfl, ha, rfl⟩ := hx
  obtain ⟨b, t, n, j, rfl, hb, rfl⟩ := hy
  obtain ⟨u, M, h1, h2⟩ := sum_vl s (!t) m n i j
  have h3 : vl s m i - vl t n j = vl s m i + vl (!t) n j := by rw [vl_neg, Rat.sub_eq_add_neg]
  rw [h3, ← h2] at hf ⊢
  have : fbin .sub k (some a) (some b) = some (k.format.nearest u M (min i j)) := by
    have ha' : k.format.read a = .number s m i := ha
    have hb' : k.format.read b = .number t n j := hb
    simp [fbin, floatBits, Ieee.Format.sub, ha', hb', Ieee.Datum.opposite, h1, Ieee.Format.write]
  rw [this]
  exact write_vl k u M _ hf
theorem mul_vl (s t : Bool) (m n : Nat) (i j : Int) : vl (s ^^ t) (m * n) (i + j) = vl s m i * vl t n j := by
  unfold vl
  rw [Rat.natCast_mul, p2_add]
  have : sgn (s ^^ t) = sgn s * sgn t := by cases s <;> cases t <;> decide +kernel
  rw [this]
  grind
theorem vl_mul {k : FloatKind} {x y : FV} {p q : Rat} (hx : Vl k x p) (hy : Vl k y q) (hf : Fit k (p * q)) : ∃ r, Vl k (fbin .mul k x y) r ∧ Rnd k (p * q) r := by
  obtain ⟨a, s, m, i, rfl, ha, rfl⟩ := hx
  obtain ⟨b, t, n, j, rfl, hb, rfl⟩ := hy
  rw [← mul_vl] at hf ⊢
  have : fbin .mul k (some a) (some b) = some (k.format.nearest (s ^^ t) (m * n) (i + j)) := by
    have ha' : k.format.read a = .number s m i := ha
    have hb' : k.format.read b = .number t n j := hb
    simp [fbin, floatBits, Ieee.Format.mul, ha', hb', Ieee.Datum.product, Ieee.Format.write]
  rw [this]
  exact write_vl k _ _ _ hf
/-- A quotient with its sticky digit, as it lies beside the true one. -/
theorem quo_sticky (m n fb : Nat) (i j : Int) (hm : m ≠ 0) (hn : n ≠ 0) : ∀ more, fb + 2 + n.log2 ≤ m.log2 + more → ∀ A : Rat, A * ((n : Rat) * p2 j) = (m : Rat) * p2 i →
    ∃ F st : Nat, 2 * (m <<< more / n) + (m <<< more % n != 0).toNat = 2 * F + st ∧ (st = 0 ∨ st = 1) ∧ 2 ^ (fb + 1) ≤ F ∧
      ((st = 0 ∧ A = 2 * ((F : Rat) * p2 (i - j - more - 1))) ∨ (st = 1 ∧ 2 * ((F : Rat) * p2 (i - j - more - 1)) < A ∧ A < 2 * ((F : Rat) * p2 (i - j - more - 1)) + 2 * p2 (i - j - more - 1))) := by
  intro more hmore A hA
  have hD := mul_shl m more (i - more)
  have hDn : 2 ^ (fb + 1) * n ≤ m <<< more := by
    rw [Nat.shiftLeft_eq]
    have h1 : n < 2 ^ (n.log2 + 1) := Nat.lt_log2_self
    have h2 : 2 ^ (fb + 1) * n ≤ 2 ^ (fb + 1) * 2 ^ (n.log2 + 1) := Nat.mul_le_mul_left _ (Nat.le_of_lt h1)
    rw [← Nat.pow_add] at h2
    have h3 : 2 ^ m.log2 * 2 ^ more ≤ m * 2 ^ more := Nat.mul_le_mul_right _ (Nat.log2_self_le hm)
    rw [← Nat.pow_add] at h3
    exact Nat.le_trans h2 (Nat.le_trans (Nat.pow_le_pow_right (by decide) (by omega)) h3)
  generalize m <<< more = D at *
  have hn0 : 0 < n := by omega
  have hF : 2 ^ (fb + 1) ≤ D / n := (Nat.le_div_iff_mul_le hn0).2 hDn
  have h3 := Nat.div_add_mod D n
  have h4 := Nat.mod_lt D hn0
  generalize D / n = F at *
  generalize D % n = r at *
  have e1 : i - (more : Int) + more = i := by omega
  rw [e1] at hD
  have hu : p2 (i - more) = 2 * p2 (i - j - more - 1) * p2 j := by
    rw [← p2_one, ← p2_add, ← p2_add]
    congr 1
    omega
  have hj := p2_pos j
  have hup := p2_pos (i - j - more - 1)
  generalize p2 (i - j - more - 1) = u at *
  have hN : (0 : Rat) < n := by
    rw [show (0 : Rat) = ((0 : Nat) : Rat) from rfl]
    exact Rat.natCast_lt_natCast.2 hn0
  have hDr : (D : Rat) = (n : Rat) * F + r := by rw [← h3, Rat.natCast_add, Rat.natCast_mul]
  have hnj : 0 < (n : Rat) * p2 j := Rat.mul_pos hN hj
  -- A n = D 2u
  have hAn : A * ((n : Rat) * p2 j) = ((n : Rat) * F + r) * (2 * u * p2 j) := by rw [hA, ← hD, hu, hDr]
  have hAn2 : (A * (n : Rat)) * p2 j = (((n : Rat) * F + r) * (2 * u)) * p2 j := by grind
  have hAn3 : A * (n : Rat) = ((n : Rat) * F + r) * (2 * u) := by
    apply Rat.le_antisymm
    · exact Rat.le_of_mul_le_mul_right (by rw [hAn2]; exact Rat.le_refl) hj
    · exact Rat.le_of_mul_le_mul_right (by rw [hAn2]; exact Rat.le_refl) hj
  rcases Nat.eq_zero_or_pos r with h0 | h0
  · subst h0
    refine ⟨F, 0, by simp, .inl rfl, hF, .inl ⟨rfl, ?_⟩⟩
    rw [show ((0 : Nat) : Rat) = 0 from rfl, Rat.add_zero] at hAn3
    apply Rat.le_antisymm
    · exact Rat.le_of_mul_le_mul_right (c := (n : Rat)) (by grind) hN
    · exact Rat.le_of_mul_le_mul_right (c := (n : Rat)) (by grind) hN
  · have hr0 : (0 : Rat) < r := by
      rw [show (0 : Rat) = ((0 : Nat) : Rat) from rfl]
      exact Rat.natCast_lt_natCast.2 h0
    have hrn : (r : Rat) < n := Rat.natCast_lt_natCast.2 h4
    have hne : (r != 0).toNat = 1 := by
      have : (r != 0) = true := by simp; omega
      rw [this]; rfl
    refine ⟨F, 1, by rw [hne], .inr rfl, hF, .inr ⟨rfl, ?_, ?_⟩⟩
    · refine Rat.lt_of_mul_lt_mul_right (c := (n : Rat)) ?_ (Rat.le_of_lt hN)
      rw [hAn3]
      have := Rat.mul_pos hr0 hup
      grind
    · refine Rat.lt_of_mul_lt_mul_right (c := (n : Rat)) ?_ (Rat.le_of_lt hN)
      rw [hAn3]
      have := Rat.mul_lt_mul_of_pos_right hrn hup
      grind
theorem sticky_side {k : FloatKind} {A u : Rat} {F st : Nat} {e : Int} (hu : u = p2 e) (hst : st = 0 ∨ st = 1) (hF : 2 ^ (k.format.fractionBits + 1) ≤ F)
    (hA : (st = 0 ∧ A = 2 * ((F : Rat) * u)) ∨ (st = 1 ∧ 2 * ((F : Rat) * u) < A ∧ A < 2 * ((F : Rat) * u) + 2 * u)) {B : Rat} (hB : RepN k B) :
    (A ≤ B → ((2 * F + st : Nat) : Rat) * u ≤ B) ∧ (B ≤ A → B ≤ ((2 * F + st : Nat) : Rat) * u) := by
  have hup : 0 < u := by rw [hu]; exact p2_pos e
  have hc : ((2 * F + st : Nat) : Rat) * u = 2 * ((F : Rat) * u) + (st : Rat) * u := by
    rw [Rat.natCast_add, Rat.natCast_mul]
    show (2 * (F : Rat) + st) * u = _
    grind
  rw [hc]
  rcases hA with ⟨h0, h1⟩ | ⟨h0, h1, h2⟩
  · subst h0
    rw [show ((0 : Nat) : Rat) = 0 from rfl, Rat.zero_mul, Rat.add_zero, ← h1]
    exact ⟨id, id⟩
  · subst h0
    rw [show ((1 : Nat) : Rat) = 1 from rfl, Rat.one_mul]
    obtain ⟨M, E, hM, hE, hBe⟩ := hB
    rcases (show e + 1 ≤ E ∨ E ≤ e from by omega) with hle | hle
    · have hB2 : B = 2 * (((M * 2 ^ (E - (e + 1)).toNat : Nat) : Rat) * u) := by
        rw [hBe, p2_split hle, p2_add, p2_one, Rat.natCast_mul, hu]
        grind
      generalize M * 2 ^ (E - (e + 1)).toNat = N at *
      refine ⟨fun h => ?_, fun h => ?_⟩
      · have h3 : (F : Rat) * u < (N : Rat) * u := by grind
        have h4 : F < N := Rat.natCast_lt_natCast.1 ((Rat.mul_lt_mul_right hup).1 h3)
        have h5 : ((F + 1 : Nat) : Rat) * u ≤ (N : Rat) * u := Rat.mul_le_mul_of_nonneg_right (Rat.natCast_le_natCast.2 h4) (Rat.le_of_lt hup)
        rw [Rat.natCast_add, show ((1 : Nat) : Rat) = 1 from rfl] at h5
        grind
      · have h3 : (N : Rat) * u < ((F + 1 : Nat) : Rat) * u := by
          rw [Rat.natCast_add, show ((1 : Nat) : Rat) = 1 from rfl]
          grind
        have h4 : N < F + 1 := Rat.natCast_lt_natCast.1 ((Rat.mul_lt_mul_right hup).1 h3)
        have h5 : (N : Rat) * u ≤ (F : Rat) * u := Rat.mul_le_mul_of_nonneg_right (Rat.natCast_le_natCast.2 (by omega)) (Rat.le_of_lt hup)
        grind
    · have h3 : B ≤ (F : Rat) * u := by
        rw [hBe, hu]
        refine Rat.le_trans (Rat.mul_le_mul_of_nonneg_left (p2_le hle) Rat.natCast_nonneg) (mul_p2_le (Nat.le_trans hM hF) e)
      have h4 : 0 < (F : Rat) * u := by
        refine Rat.mul_pos ?_ hup
        rw [show (0 : Rat) = ((0 : Nat) : Rat) from rfl]
        exact Rat.natCast_lt_natCast.2 (Nat.lt_of_lt_of_le (Nat.two_pow_pos _) hF)
      exact ⟨fun h => by grind, fun h => by grind⟩
theorem vl_div {k : FloatKind} {x y : FV} {p q : Rat} (hx : Vl k x p) (hy : Vl k y q) (hq : q ≠ 0) (hf : -p2 (ftop k - 1) ≤ p / q ∧ p / q ≤ p2 (ftop k - 1)) : ∃ r, Vl k (fbin .quo k x y) r ∧ Rnd k (p / q) r := by
  obtain ⟨a, s, m, i, rfl, ha, rfl⟩ := hx
  obtain ⟨b, t, n, j, rfl, hb, rfl⟩ := hy
  have hn : n ≠ 0 := fun h => by
    subst h
    exact hq (vl_zero t j)
  have hn0 : (0 : Rat) < n := by
    rw [show (0 : Rat) = ((0 : Nat) : Rat) from rfl]
    exact Rat.natCast_lt_natCast.2 (by omega)
  have hnj : 0 < (n : Rat) * p2 j := Rat.mul_pos hn0 (p2_pos j)
  have hsg : vl s m i / vl t n j = sgn (s ^^ t) * (((m : Rat) * p2 i) / ((n : Rat) * p2 j)) := by
    have h1 : vl s m i / vl t n j * vl t n j = vl s m i := Rat.div_mul_cancel hq
    have h2 : ((m : Rat) * p2 i) / ((n : Rat) * p2 j) * ((n : Rat) * p2 j) = (m : Rat) * p2 i := Rat.div_mul_cancel (Rat.ne_of_gt hnj)
    have h3 : sgn (s ^^ t) * (((m : Rat) * p2 i) / ((n : Rat) * p2 j)) * vl t n j = vl s m i := by
      have h4 : sgn (s ^^ t) * sgn t = sgn s := by cases s <;> cases t <;> decide +kernel
      have h5 : sgn (s ^^ t) * (((m : Rat) * p2 i) / ((n : Rat) * p2 j)) * vl t n j = (sgn (s ^^ t) * sgn t) * (((m : Rat) * p2 i) / ((n : Rat) * p2 j) * ((n : Rat) * p2 j)) := by
        unfold vl
        generalize ((m : Rat) * p2 i) / ((n : Rat) * p2 j) = A
        grind
      rw [h5, h4, h2]
      rfl
    generalize vl s m i / vl t n j = X at *
    generalize sgn (s ^^ t) * (((m : Rat) * p2 i) / ((n : Rat) * p2 j)) = Y at *
    have h6 : (X - Y) * vl t n j = 0 := by grind
    rcases Rat.mul_eq_zero.1 h6 with h7 | h7
    · grind
    · exact absurd h7 hq
  rw [hsg] at hf ⊢
  have hA : ((m : Rat) * p2 i) / ((n : Rat) * p2 j) * ((n : Rat) * p2 j) = (m : Rat) * p2 i := Rat.div_mul_cancel (Rat.ne_of_gt hnj)
  generalize ((m : Rat) * p2 i) / ((n : Rat) * p2 j) = A at *
  have hA0 : 0 ≤ A := by
    rcases Rat.le_total (a := 0) (b := A) with h | h
    · exact h
    · have h1 := Rat.mul_nonneg (Rat.natCast_nonneg (a := m)) (Rat.le_of_lt (p2_pos i))
      rw [← hA] at h1
      have h2 := Rat.mul_nonneg (show 0 ≤ -A by grind) (Rat.le_of_lt hnj)
      have h3 : A * ((n : Rat) * p2 j) = 0 := by grind
      rcases Rat.mul_eq_zero.1 h3 with h4 | h4
      · grind
      · grind
  have hAf : A ≤ p2 (ftop k - 1) := by
    obtain ⟨h1, h2⟩ := hf
    cases hst : (s ^^ t) <;> rw [hst] at h1 h2 <;> simp only [sgn] at h1 h2 <;> grind
  have hfb : fbin .quo k (some a) (some b) = some (k.format.nearest (s ^^ t) (2 * (m <<< (k.format.fractionBits + 2 + n.log2 - m.log2) / n) + (m <<< (k.format.fractionBits + 2 + n.log2 - m.log2) % n != 0).toNat) (i - j - (k.format.fractionBits + 2 + n.log2 - m.log2 : Nat) - 1)) := by
    have ha' : k.format.read a = .number s m i := ha
    have hb' : k.format.read b = .number t n j := hb
    simp [fbin, floatBits, Ieee.Format.div, ha', hb', Ieee.Datum.quotient, hn, Ieee.Format.write]
  rw [hfb]
  have htop : p2 (ftop k - 1) < p2 (ftop k) := by cases k <;> decide +kernel
  by_cases hm : m = 0
  · subst hm
    have hA1 : A = 0 := by
      rw [show ((0 : Nat) : Rat) = 0 from rfl, Rat.zero_mul] at hA
      rcases Rat.mul_eq_zero.1 hA with h4 | h4
      · exact h4
      · exact absurd h4 (Rat.ne_of_gt hnj)
    subst hA1
    have e0 : 2 * (0 <<< (k.format.fractionBits + 2 + n.log2 - Nat.log2 0) / n) + (0 <<< (k.format.fractionBits + 2 + n.log2 - Nat.log2 0) % n != 0).toNat = 0 := by
      rw [Nat.zero_shiftLeft, Nat.zero_div, Nat.zero_mod]; rfl
    rw [e0]
    generalize i - j - (k.format.fractionBits + 2 + n.log2 - Nat.log2 0 : Nat) - 1 = e
    have h1 := write_vl k (s ^^ t) 0 e (by rw [vl_zero]; cases k <;> exact ⟨by decide +kernel, by decide +kernel⟩)
    rw [vl_zero] at h1
    rw [Rat.mul_zero]
    exact h1
  · obtain ⟨F, st, h1, h2, h3, h4⟩ := quo_sticky m n k.format.fractionBits i j hm hn (k.format.fractionBits + 2 + n.log2 - m.log2) (by omega) A hA
    rw [h1]
    generalize i - j - (k.format.fractionBits + 2 + n.log2 - m.log2 : Nat) - 1 = e at *
    have hsd := fun {B} (hB : RepN k B) => sticky_side (k := k) rfl h2 h3 h4 (B := B) hB
    have hrt : RepN k (p2 (ftop k - 1)) := ⟨1, ftop k - 1, Nat.one_le_two_pow, by cases k <;> decide, by rw [show ((1 : Nat) : Rat) = 1 from rfl, Rat.one_mul]⟩
    have hA' := (hsd hrt).1 hAf
    obtain ⟨m', e', g1, g2, g3, g4, g5⟩ := nearest_rnd' k (s ^^ t) (2 * F + st) e (Std.lt_of_le_of_lt hA' htop)
    refine ⟨_, .of g1, ?_⟩
    have hup := p2_pos e
    have hFu : feps k * ((F : Rat) * p2 e) ≥ 2 * p2 e := by
      have h5 := mul_p2_le h3 e
      rw [p2_shl] at h5
      have h6 := Rat.mul_le_mul_of_nonneg_left h5 (Rat.le_of_lt (eps_pos k))
      rw [eps_eq, ← p2_add] at h6
      have h7 : -(k.format.fractionBits : Int) + (((k.format.fractionBits + 1 : Nat) : Int) + e) = 1 + e := by omega
      rw [h7, p2_add, p2_one] at h6
      rw [eps_eq]
      exact h6
    have hc : ((2 * F + st : Nat) : Rat) * p2 e = 2 * ((F : Rat) * p2 e) + (st : Rat) * p2 e := by
      rw [Rat.natCast_add, Rat.natCast_mul]
      show (2 * (F : Rat) + st) * p2 e = _
      grind
    have he1 : feps k ≤ 1 / 4 := by cases k <;> decide +kernel
    have he0 := eps_pos k
    have ht := tiny_pos k
    refine rnd_sign hA0 (Rat.mul_nonneg Rat.natCast_nonneg (Rat.le_of_lt (p2_pos e'))) ?_ (Rat.le_of_lt he0) (fun B hB => ⟨fun h => (g3 B hB).1 ((hsd hB).1 h), fun h => (g3 B hB).2 ((hsd hB).2 h)⟩)
    generalize (m' : Rat) * p2 e' = R at *
    generalize ((2 * F + st : Nat) : Rat) * p2 e = A' at *
    generalize (F : Rat) * p2 e = FU at *
    generalize p2 e = u at *
    generalize ftiny k = T at *
    generalize feps k = E at *
    rcases h4 with ⟨h0, h5⟩ | ⟨h0, h5, h6⟩
    · subst h0
      rw [show ((0 : Nat) : Rat) = 0 from rfl, Rat.zero_mul, Rat.add_zero, ← h5] at hc
      subst hc
      have := Rat.mul_nonneg hA0 (Rat.le_of_lt he0)
      constructor <;> grind
    · subst h0
      rw [show ((1 : Nat) : Rat) = 1 from rfl, Rat.one_mul] at hc
      -- u ≤ E * FU / 2 ≤ E * A / 4
      have a1 : E * (2 * FU) ≤ E * A := Rat.mul_le_mul_of_nonneg_left (Rat.le_of_lt h5) (Rat.le_of_lt he0)
      have a2 : A' * E ≤ (A + u) * E := Rat.mul_le_mul_of_nonneg_right (by grind) (Rat.le_of_lt he0)
      have a3 : u * E ≤ u * (1 / 4) := Rat.mul_le_mul_of_nonneg_left he1 (Rat.le_of_lt hup)
      constructor <;> grind
theorem int_mul_lt {a b : Int} (e : Int) : (a : Rat) * p2 e < (b : Rat) * p2 e ↔ a < b := by
  rw [Rat.mul_lt_mul_right (p2_pos e)]
  exact Rat.intCast_lt_intCast
theorem vl_cmp {k : FloatKind} {x y : FV} {p q : Rat} (hx : Vl k x p) (hy : Vl k y q) : ∃ a b : Int, fcmp k x y = some (compare a b) ∧ (p < q ↔ a < b) ∧ (q < p ↔ b < a) := by
  obtain ⟨a, s, m, i, rfl, ha, rfl⟩ := hx
  obtain ⟨b, t, n, j, rfl, hb, rfl⟩ := hy
  have ha' : k.format.read a = .number s m i := ha
  have hb' : k.format.read b = .number t n j := hb
  refine ⟨_, _, by simp [fcmp, Ieee.Format.order, ha', hb', Ieee.Datum.order]; rfl, ?_, ?_⟩
  all_goals
    have e1 := vl_signed s m (i - min i j).toNat (min i j)
    have e2 := vl_signed t n (j - min i j).toNat (min i j)
    have a1 : min i j + ((i - min i j).toNat : Int) = i := by omega
    have a2 : min i j + ((j - min i j).toNat : Int) = j := by omega
    rw [a1] at e1
    rw [a2] at e2
    rw [← e1, ← e2, int_mul_lt]
theorem vl_lss {k : FloatKind} {x y : FV} {p q : Rat} (hx : Vl k x p) (hy : Vl k y q) : cmpB .lss (fcmp k x y) = decide (p < q) := by
  obtain ⟨a, b, h, h1, h2⟩ := vl_cmp hx hy
  rw [h]
  have hh : (p < q) = (a < b) := propext h1
  simp only [hh]
  rcases Int.lt_trichotomy a b with h3 | h3 | h3
  · simp [cmpB, h3, Int.compare_eq_lt.2 h3]
  · subst h3; simp [cmpB]
  · have : ¬ a < b := by omega
    simp [cmpB, this, Int.compare_eq_gt.2 h3]
theorem vl_gtr {k : FloatKind} {x y : FV} {p q : Rat} (hx : Vl k x p) (hy : Vl k y q) : cmpB .gtr (fcmp k x y) = decide (q < p) := by
  obtain ⟨a, b, h, h1, h2⟩ := vl_cmp hx hy
  rw [h]
  have hh : (q < p) = (b < a) := propext h2
  simp only [hh]
  rcases Int.lt_trichotomy a b with h3 | h3 | h3
  · have : ¬ b < a := by omega
    simp [cmpB, this, Int.compare_eq_lt.2 h3]
  · subst h3; simp [cmpB]
  · simp [cmpB, h3, Int.compare_eq_gt.2 h3]
theorem vl_leq {k : FloatKind} {x y : FV} {p q : Rat} (hx : Vl k x p) (hy : Vl k y q) : cmpB .leq (fcmp k x y) = decide (p ≤ q) := by
  obtain ⟨a, b, h, h1, h2⟩ := vl_cmp hx hy
  rw [h]
  have hh : (p ≤ q) = ¬ (b < a) := propext (by rw [← h2]; exact Rat.not_lt.symm)
  simp only [hh]
  rcases Int.lt_trichotomy a b with h3 | h3 | h3
  · have : ¬ b < a := by omega
    simp [cmpB, this, Int.compare_eq_lt.2 h3]
  · subst h3; simp [cmpB]
  · simp [cmpB, h3, Int.compare_eq_gt.2 h3]
theorem vl_geq {k : FloatKind} {x y : FV} {p q : Rat} (hx : Vl k x p) (hy : Vl k y q) : cmpB .geq (fcmp k x y) = decide (q ≤ p) := by
  obtain ⟨a, b, h, h1, h2⟩ := vl_cmp hx hy
  rw [h]
  have hh : (q ≤ p) = ¬ (a < b) := propext (by rw [← h1]; exact Rat.not_lt.symm)
  simp only [hh]
  rcases Int.lt_trichotomy a b with h3 | h3 | h3
  · simp [cmpB, h3, Int.compare_eq_lt.2 h3]
  · subst h3; simp [cmpB]
  · have : ¬ a < b := by omega
    simp [cmpB, this, Int.compare_eq_gt.2 h3]
theorem vl_eql {k : FloatKind} {x y : FV} {p q : Rat} (hx : Vl k x p) (hy : Vl k y q) : cmpB .eql (fcmp k x y) = decide (p = q) := by
  obtain ⟨a, b, h, h1, h2⟩ := vl_cmp hx hy
  rw [h]
  rcases Int.lt_trichotomy a b with h3 | h3 | h3
  · have : ¬ p = q := Rat.ne_of_lt (h1.2 h3)
    simp [cmpB, this, Int.compare_eq_lt.2 h3]
  · have : p = q := Rat.le_antisymm (Rat.not_lt.1 fun h4 => by have := h2.1 h4; omega) (Rat.not_lt.1 fun h4 => by have := h1.1 h4; omega)
    subst h3; simp [cmpB, this]
  · have : ¬ p = q := fun e => Rat.ne_of_lt (h2.2 h3) e.symm
    simp [cmpB, this, Int.compare_eq_gt.2 h3]
theorem single_fit {b : Nat} {s : Bool} {m : Nat} {e : Int} (h : FloatKind.f32.decode b = .number s m e) : (m : Rat) * p2 e < p2 128 := by
  obtain ⟨h1, h2, h3⟩ := single_number h
  have h4 : (m : Rat) < ((2 ^ 24 : Nat) : Rat) := Rat.natCast_lt_natCast.2 h1
  have h5 := Rat.mul_lt_mul_of_pos_right h4 (p2_pos e)
  rw [p2_shl] at h5
  exact Std.lt_of_lt_of_le h5 (p2_le (by omega))
theorem vl_wide {x : FV} {p : Rat} (hx : Vl .f32 x p) : Vl .f64 (fconv .f32 .f64 x) p := by
  obtain ⟨b, s, m, e, rfl, hd, rfl⟩ := hx
  obtain ⟨h1, h2, h3⟩ := single_number hd
  have h4 := single_fit hd
  obtain ⟨m', e', h5, h6, h7⟩ := nearest_rnd .f64 s m e (Std.lt_of_lt_of_le h4 (p2_le (by decide)))
  have hrep : RepN .f64 ((m : Rat) * p2 e) := ⟨m, e, Nat.le_trans (Nat.le_of_lt h1) (by decide), Int.le_trans (by decide) h2, rfl⟩
  have heq : (m' : Rat) * p2 e' = (m : Rat) * p2 e := Rat.le_antisymm ((h7 _ hrep).1 Rat.le_refl) ((h7 _ hrep).2 Rat.le_refl)
  have hc : fconv .f32 .f64 (some b) = some (FloatKind.f64.format.nearest s m e) := by
    have h8 : FloatKind.f64.encode (.number s m e) = FloatKind.f64.format.nearest s m e := rfl
    simp only [fconv, Option.bind_some, floatToFloatBits, if_neg (by decide : ¬ FloatKind.f32 = FloatKind.f64), hd, h8]
    rw [if_neg]
    rw [h5]
    simp [Ieee.Datum.isInfinity]
  rw [hc]
  refine ⟨_, s, m', e', rfl, h5, ?_⟩
  unfold vl
  rw [heq]
theorem vl_narrow {x : FV} {p : Rat} (hx : Vl .f64 x p) (hf : Fit .f32 p) : ∃ r, Vl .f32 (fconv .f64 .f32 x) r ∧ Rnd .f32 p r := by
  obtain ⟨b, s, m, e, rfl, hd, rfl⟩ := hx
  obtain ⟨m', e', h5, h6, h7⟩ := nearest_rnd .f32 s m e hf.mag
  have hc : fconv .f64 .f32 (some b) = some (FloatKind.f32.format.nearest s m e) := by
    have h8 : FloatKind.f32.encode (.number s m e) = FloatKind.f32.format.nearest s m e := rfl
    simp only [fconv, Option.bind_some, floatToFloatBits, if_neg (by decide : ¬ FloatKind.f64 = FloatKind.f32), hd, h8]
    rw [if_neg]
    rw [h5]
    simp [Ieee.Datum.isInfinity]
  rw [hc]
  exact ⟨_, .of h5, h6⟩
theorem vl_narrow_ok {x : FV} {p : Rat} (hx : Vl .f64 x p) (hf : Fit .f32 p) : ConvOk .f64 .f32 x := by
  obtain ⟨r, h, _⟩ := vl_narrow hx hf
  exact .inr h.some
theorem vl_ofInt (k : FloatKind) (n : Int) (h : n.natAbs ≤ 2 ^ (k.format.fractionBits + 1)) : Vl k (some (k.nearest n)) (n : Rat) := by
  have hv := vl_int n 0
  rw [p2_zero, Rat.mul_one] at hv
  have hrep := rep_int k n h
  have hb : (((2 ^ (k.format.fractionBits + 1) : Nat)) : Rat) < p2 (ftop k) := by cases k <;> decide +kernel
  have hfit : (n.natAbs : Rat) * p2 0 < p2 (ftop k) := by
    rw [p2_zero, Rat.mul_one]
    exact Std.lt_of_le_of_lt (Rat.natCast_le_natCast.2 h) hb
  obtain ⟨m', e', h5, h6, _⟩ := nearest_rnd k (decide (n < 0)) n.natAbs 0 hfit
  rw [← hv] at h6
  have := rnd_rep h6 hrep
  exact ⟨_, _, m', e', rfl, h5, this⟩
/-- The whole number towards nought. -/
theorem vl_trunc {k : FloatKind} {b : Nat} {q : Rat} (hx : Vl k (some b) q) : ∃ n : Int, (k.decode b).toInt .zero = some n ∧ ((0 ≤ q ∧ (n : Rat) ≤ q ∧ q < n + 1) ∨ (q ≤ 0 ∧ q ≤ n ∧ (n : Rat) - 1 < q)) := by
  obtain ⟨b', s, m, e, hb, hd, rfl⟩ := hx
  cases hb
  rw [hd]
  simp only [Ieee.Datum.toInt, Ieee.Datum.integral]
  have hcut : ∀ n d, Ieee.Toward.zero.cut s n d = n / 2 ^ d := fun n d => by
    unfold Ieee.Toward.cut
    dsimp only
    rw [Nat.one_shiftLeft, Bool.toNat_false, Nat.add_zero]
    rcases Nat.le_total d (n.log2 + 2) with h | h
    · rw [Nat.min_eq_left h]
    · rw [Nat.min_eq_right h]
      have h1 : n < 2 ^ (n.log2 + 1) := Nat.lt_log2_self
      have h2 : 2 ^ (n.log2 + 1) ≤ 2 ^ (n.log2 + 2) := Nat.pow_le_pow_right (by decide) (by omega)
      have h3 : 2 ^ (n.log2 + 2) ≤ 2 ^ d := Nat.pow_le_pow_right (by decide) h
      rw [Nat.div_eq_of_lt (by omega), Nat.div_eq_of_lt (by omega)]
  rw [hcut]
  have hN : ∃ N : Nat, (m <<< e.toNat) / 2 ^ (-e).toNat = N ∧ (N : Rat) ≤ (m : Rat) * p2 e ∧ (m : Rat) * p2 e < N + 1 := by
    refine ⟨_, rfl, ?_⟩
    rcases Int.le_total 0 e with h | h
    · have : (-e).toNat = 0 := by omega
      rw [this, Nat.pow_zero, Nat.div_one]
      have h1 := mul_shl m e.toNat 0
      rw [p2_zero, Rat.mul_one] at h1
      rw [h1]
      have h2 : (0 : Int) + (e.toNat : Int) = e := by omega
      rw [h2]
      constructor <;> grind
    · have : e.toNat = 0 := by omega
      rw [this, Nat.shiftLeft_zero]
      have hs := p2_mul_neg e
      have h2 : p2 (-e) = ((2 ^ (-e).toNat : Nat) : Rat) := by
        rw [← p2_nat]
        congr 1
        omega
      rw [h2] at hs
      have hG : 0 < 2 ^ (-e).toNat := Nat.two_pow_pos _
      generalize 2 ^ (-e).toNat = G at *
      have h3 := Nat.div_add_mod m G
      have h4 := Nat.mod_lt m hG
      generalize m / G = N at *
      generalize m % G = r at *
      have hp := p2_pos e
      have hm : (m : Rat) = (G : Rat) * N + r := by
        rw [← h3, Rat.natCast_add, Rat.natCast_mul]
      have hr0 : (0 : Rat) ≤ r := Rat.natCast_nonneg
      have hr : (r : Rat) < G := Rat.natCast_lt_natCast.2 h4
      have a1 : (r : Rat) * p2 e < G * p2 e := Rat.mul_lt_mul_of_pos_right hr hp
      have a2 : 0 ≤ (r : Rat) * p2 e := Rat.mul_nonneg hr0 (Rat.le_of_lt hp)
      have a3 : (m : Rat) * p2 e = N + (r : Rat) * p2 e := by
        rw [hm, Rat.add_mul, Rat.mul_comm (G : Rat) (N : Rat), Rat.mul_assoc, Rat.mul_comm (G : Rat), hs, Rat.mul_one]
      rw [Rat.mul_comm (G : Rat), hs] at a1
      rw [a3]
      constructor <;> grind
  obtain ⟨N, hN1, hN2, hN3⟩ := hN
  rw [hN1]
  have hn : ((Ieee.signed s N 0 : Int) : Rat) = sgn s * N := by
    have := vl_signed s N 0 0
    rw [p2_zero, Rat.mul_one] at this
    rw [this]
    unfold vl
    show sgn s * ((N : Rat) * p2 0) = _
    rw [p2_zero, Rat.mul_one]
  have h0 : (0 : Rat) ≤ (m : Rat) * p2 e := Rat.mul_nonneg Rat.natCast_nonneg (Rat.le_of_lt (p2_pos e))
  refine ⟨_, rfl, ?_⟩
  rw [hn]
  unfold vl sgn
  cases s
  · left
    simp only [Bool.false_eq_true, if_false, Rat.one_mul]
    exact ⟨h0, hN2, hN3⟩
  · right
    simp only [if_true]
    refine ⟨?_, ?_, ?_⟩ <;> grind
theorem vl_fin {x : FV} {p : Rat} (hx : Vl .f32 x p) : cmpB .eql (fcmp .f32 (fbin .sub .f32 x x) (fv .f32 0)) = true := by
  have hz : p - p = 0 := Rat.sub_self
  obtain ⟨r, h1, h2⟩ := vl_sub hx hx (by rw [hz]; exact ⟨by decide +kernel, by decide +kernel⟩)
  rw [hz] at h2
  have hr := rnd_rep h2 (rep_zero _)
  subst hr
  rw [vl_eql h1 (Vl.c (b := 0) (q := 0) (by decide +kernel))]
  rfl
theorem fin_vl {k : FloatKind} {x : FV} (h : cmpB .eql (fcmp k (fbin .sub k x x) (fv k 0)) = true) : ∃ q, Vl k x q := by
  cases x with
  | none => simp [fbin, fcmp, cmpB] at h
  | some b =>
    cases hd : k.decode b with
    | number s m e => exact ⟨_, .of hd⟩
    | infinity s =>
      have hd' : k.format.read b = .infinity s := hd
      have : fbin .sub k (some b) (some b) = none := by cases s <;> simp [fbin, floatBits, Ieee.Format.sub, hd', Ieee.Datum.opposite, Ieee.Datum.sum]
      rw [this] at h
      simp [fcmp, cmpB] at h
    | nan s t =>
      have hd' : k.format.read b = .nan s t := hd
      have : fbin .sub k (some b) (some b) = none := by simp [fbin, floatBits, Ieee.Format.sub, hd', Ieee.Datum.opposite, Ieee.Datum.sum]
      rw [this] at h
      simp [fcmp, cmpB] at h
/-- The other sign. -/
def negBits (k : FloatKind) (b : Nat) : Nat := b ^^^ 2 ^ (k.format.exponentBits + k.format.fractionBits)
def fneg (k : FloatKind) (x : FV) : FV := x.map (negBits k)
theorem negBits_mod (k : FloatKind) (b : Nat) : negBits k b % k.format.signWeight = b % k.format.signWeight := by
  show (b ^^^ k.format.signWeight) % 2 ^ (k.format.exponentBits + k.format.fractionBits) = b % 2 ^ (k.format.exponentBits + k.format.fractionBits)
  rw [Nat.xor_mod_two_pow]
  show _ ^^^ 2 ^ (k.format.exponentBits + k.format.fractionBits) % 2 ^ (k.format.exponentBits + k.format.fractionBits) = _
  rw [Nat.mod_self, Nat.xor_zero]
theorem negBits_sign (k : FloatKind) (b : Nat) : (negBits k b / k.format.signWeight % 2 == 1) = !(b / k.format.signWeight % 2 == 1) := by
  have h : ∀ x : Nat, (x / k.format.signWeight % 2 == 1) = x.testBit (k.format.exponentBits + k.format.fractionBits) := fun x => by
    rw [Nat.testBit_eq_decide_div_mod_eq]
    show (x / 2 ^ _ % 2 == 1) = _
    rw [Bool.eq_iff_iff, beq_iff_eq, decide_eq_true_iff]
  rw [h, h]
  unfold negBits
  rw [Nat.testBit_xor, Nat.testBit_two_pow_self, Bool.xor_true]
theorem read_negBits (k : FloatKind) (b : Nat) : k.decode (negBits k b) = (k.decode b).opposite := by
  unfold FloatKind.decode Ieee.Format.read
  simp only [negBits_mod, negBits_sign]
  split
  · rfl
  · split
    · rfl
    · split <;> rfl
theorem fv_negBits (k : FloatKind) (b : Nat) : fv k (negBits k b) = fneg k (fv k b) := by
  unfold fv
  rw [read_negBits]
  have : (k.decode b).opposite.isNaN = (k.decode b).isNaN := by cases k.decode b <;> rfl
  rw [this]
  split <;> rfl
theorem vl_fneg {k : FloatKind} {x : FV} {q : Rat} (h : Vl k x q) : Vl k (fneg k x) (-q) := by
  obtain ⟨b, s, m, e, rfl, hd, rfl⟩ := h
  refine ⟨negBits k b, !s, m, e, rfl, ?_, vl_neg s m e⟩
  rw [read_negBits, hd]
  rfl
theorem negBits_lt (k : FloatKind) {b : Nat} (h : b < 2 ^ k.format.width) : negBits k b < 2 ^ k.format.width := by
  unfold negBits
  refine Nat.xor_lt_two_pow h (Nat.pow_lt_pow_right (by decide) ?_)
  show _ < 1 + k.format.exponentBits + k.format.fractionBits
  omega
def fabs64 (x : FV) : FV := x.map (fun b => b % 2 ^ 63)
theorem read_abs (b : Nat) : FloatKind.f64.decode (b % 2 ^ 63) = match FloatKind.f64.decode b with
  | .number _ m e => .number false m e
  | .infinity _ => .infinity false
  | .nan _ t => .nan false t := by
  have hs : FloatKind.f64.format.signWeight = 2 ^ 63 := rfl
  unfold FloatKind.decode Ieee.Format.read
  simp only [hs, Nat.mod_mod]
  have h0 : (b % 2 ^ 63 / 2 ^ 63 % 2 == 1) = false := by
    rw [Nat.div_eq_of_lt (Nat.mod_lt _ (by decide))]
    rfl
  rw [h0]
  split
  · rfl
  · split
    · rfl
    · split <;> rfl
theorem vl_abs {x : FV} {q : Rat} (h : Vl .f64 x q) : Vl .f64 (fabs64 x) (if 0 ≤ q then q else -q) := by
  obtain ⟨b, s, m, e, rfl, hd, rfl⟩ := h
  refine ⟨b % 2 ^ 63, false, m, e, rfl, by rw [read_abs, hd], ?_⟩
  have h0 : (0 : Rat) ≤ (m : Rat) * p2 e := Rat.mul_nonneg Rat.natCast_nonneg (Rat.le_of_lt (p2_pos e))
  unfold vl sgn
  cases s
  · simp only [Bool.false_eq_true, if_false, Rat.one_mul]
    rw [if_pos h0]
  · simp only [Bool.false_eq_true, if_false, if_true, Rat.one_mul]
    split <;> grind
end Go.Ab
namespace Go.Ab
variable {R : World → Prop} [RStab R]
section
variable {P : Program} {N : Nat} {S : World → Prop} {e : Env} {Q : Exit → Env → World → Prop} {ops : Array Oper} {l : List Oper}
variable {w0 : World} {gs : List Nat} {H : List Ent} {dst : Option Tmp} {ty : TypeId} {pos : String} {after : Array Edge} {guard : Option (Nat × Bool)}
theorem opj_f2i {src dt : TypeId} {X : Operand} {x : FV} {n : Int} [hs : TyU P src (.float .f64)] [hd : TyU P dt (.int .i64)] (hx : e.ev X = some (.f .f64 x)) (hn : ∃ b, x = some b ∧ (FloatKind.f64.decode b).toInt .zero = some n) (hr : -9223372036854775808 ≤ n ∧ n ≤ 9223372036854775807) :
    OpJ P S e ⟨dst, .convert src dt X, ty, pos, after, guard⟩ (.raw (.int .i64 n)) :=
  opj_value fun a w _ h => by
    obtain ⟨b', h1, e1, _⟩ := (h X (by simp [Op.operands]) _ hx).inv_f
    obtain ⟨b, hb, ht⟩ := hn
    rw [hb] at e1
    obtain rfl := fv_inv e1
    refine ⟨_, w, ?_, Ext.refl _, .raw⟩
    have hmin : IntKind.i64.min = -9223372036854775808 := by decide
    have hmax : IntKind.i64.max = 9223372036854775807 := by decide
    simp [execOp, h1, convert, run_underlying hs.h, run_underlying hd.h, Conv.floatToInt, ht, hmin, hmax, hr.1, hr.2]
theorem opj_neg {t : TypeId} {X : Operand} {k : FloatKind} {x : FV} (hx : e.ev X = some (.f k x)) : OpJ P S e ⟨dst, .unOp .neg t X, ty, pos, after, guard⟩ (.f k (fneg k x)) :=
  opj_value fun a w _ h => by
    obtain ⟨b, h1, e1, hb⟩ := (h X (by simp [Op.operands]) _ hx).inv_f
    refine ⟨.float k (negBits k b), w, ?_, Ext.refl _, Rel.f' (negBits_lt k hb) (by rw [fv_negBits, e1])⟩
    simp [execOp, h1, Op.unary, Op.negFloat, negBits]
theorem opj_caddsub {op : BinOp} (hop : op = .add ∨ op = .sub) {t t' : TypeId} {X Y : Operand} {k : FloatKind} {x y x' y' : FV} (hx : e.ev X = some (.c k x y)) (hy : e.ev Y = some (.c k x' y')) :
    OpJ P S e ⟨dst, .binOp op t X Y t', ty, pos, after, guard⟩ (.c k (fbin op k x x') (fbin op k y y')) :=
  opj_value fun a w _ h => by
    obtain ⟨p, q, h1, e1, e2, hp, hq⟩ := (h X (by simp [Op.operands]) _ hx).inv_c
    obtain ⟨p', q', h2, e1', e2', hp', hq'⟩ := (h Y (by simp [Op.operands]) _ hy).inv_c
    have ha : isArith op = true := by rcases hop with rfl | rfl <;> rfl
    obtain ⟨r, w1, hr, hq1, hv, hl⟩ := run_farith P w op ha k p p'
    obtain ⟨r2, w2, hr2, hq2, hv2, hl2⟩ := run_farith P w1 op ha k q q'
    refine ⟨.complex k r r2, w2, ?_, (Ext.of_quiet hq1).trans (Ext.of_quiet hq2), Rel.c' hl hl2 (by rw [hv, e1, e1']) (by rw [hv2, e2, e2'])⟩
    rcases hop with rfl | rfl <;> simp [execOp, h1, h2, eqGuard, binOp, Op.complexOp, Op.Complex.arith, hr, hr2]
theorem opj_cadd {t t' : TypeId} {X Y : Operand} {k : FloatKind} {x y x' y' : FV} (hx : e.ev X = some (.c k x y)) (hy : e.ev Y = some (.c k x' y')) :
    OpJ P S e ⟨dst, .binOp .add t X Y t', ty, pos, after, guard⟩ (.c k (fbin .add k x x') (fbin .add k y y')) := opj_caddsub (.inl rfl) hx hy
theorem opj_csub {t t' : TypeId} {X Y : Operand} {k : FloatKind} {x y x' y' : FV} (hx : e.ev X = some (.c k x y)) (hy : e.ev Y = some (.c k x' y')) :
    OpJ P S e ⟨dst, .binOp .sub t X Y t', ty, pos, after, guard⟩ (.c k (fbin .sub k x x') (fbin .sub k y y')) := opj_caddsub (.inr rfl) hx hy
theorem run_ccmp (w : World) (k : FloatKind) (a b : Nat) : (Op.Complex.cmp .eql k a b).run P w = .ok (cmpB .eql (fcmp k (fv k a) (fv k b))) w := by
  rw [fcmp_fv]
  simp [Op.Complex.cmp, Op.floatCmp, asBool, cmpB]
theorem opj_cneq {t t' : TypeId} {X Y : Operand} {k : FloatKind} {x y x' y' : FV} (hx : e.ev X = some (.c k x y)) (hy : e.ev Y = some (.c k x' y')) :
    OpJ P S e ⟨dst, .binOp .neq t X Y t', ty, pos, after, guard⟩ (.raw (.bool (!(cmpB .eql (fcmp k x x') && cmpB .eql (fcmp k y y'))))) :=
  opj_value fun a w _ h => by
    obtain ⟨p, q, h1, e1, e2, hp, hq⟩ := (h X (by simp [Op.operands]) _ hx).inv_c
    obtain ⟨p', q', h2, e1', e2', hp', hq'⟩ := (h Y (by simp [Op.operands]) _ hy).inv_c
    refine ⟨_, w, ?_, Ext.refl _, .raw⟩
    rw [← e1, ← e2, ← e1', ← e2']
    cases hc : cmpB .eql (fcmp k (fv k p) (fv k p')) <;> simp [execOp, h1, h2, eqGuard, binOp, Op.complexOp, run_ccmp, hc]
theorem opj_andNot63 {t t' : TypeId} {X Y : Operand} {b : Nat} (hx : e.ev X = some (.raw (.int .u64 (b : Int)))) (hy : e.ev Y = some (.raw (.int .u64 9223372036854775808))) :
    OpJ P S e ⟨dst, .binOp .andNot t X Y t', ty, pos, after, guard⟩ (.raw (.int .u64 ((b % 2 ^ 63 : Nat) : Int))) :=
  opj_value fun a w _ h => by
    have h1 := (h X (by simp [Op.operands]) _ hx).inv_raw
    have h2 := (h Y (by simp [Op.operands]) _ hy).inv_raw
    refine ⟨_, w, ?_, Ext.refl _, .raw⟩
    have hbits : IntKind.u64.bits = 64 := rfl
    have he : (BitVec.ofInt 64 (b : Int) &&& ~~~ (BitVec.ofInt 64 9223372036854775808)).toNat = b % 2 ^ 63 := by
      have e1 : BitVec.ofInt 64 (b : Int) = BitVec.ofNat 64 b := BitVec.ofInt_natCast 64 b
      have e2 : (~~~ (BitVec.ofInt 64 9223372036854775808)).toNat = 2 ^ 63 - 1 := by decide
      rw [BitVec.toNat_and, e2, e1, BitVec.toNat_ofNat, Nat.and_two_pow_sub_one_eq_mod]
      omega
    have hw : IntKind.u64.wrap ((b % 2 ^ 63 : Nat) : Int) = ((b % 2 ^ 63 : Nat) : Int) := by
      have hlt : b % 2 ^ 63 < 2 ^ 63 := Nat.mod_lt _ (by decide)
      have hs : IntKind.u64.signed = false := rfl
      unfold IntKind.wrap
      simp only [hbits, hs, Bool.false_and]
      rw [if_neg (by decide)]
      exact Int.emod_eq_of_lt (by omega) (by omega)
    have hrun : (binOp .andNot t (.int .u64 (b : Int)) (.int .u64 9223372036854775808)).run P w = .ok (.int .u64 ((b % 2 ^ 63 : Nat) : Int)) w := by
      have : (Op.intBits .andNot .u64 (b : Int) 9223372036854775808).run P w = .ok (.int .u64 (IntKind.u64.wrap ((BitVec.ofInt 64 (b : Int) &&& ~~~ (BitVec.ofInt 64 9223372036854775808)).toNat : Int))) w := rfl
      rw [he, hw] at this
      simpa [binOp] using this
    simp [execOp, h1, h2, eqGuard, hrun]
theorem opj_from64 {c : FuncId} [hc : ExtFn P c Extern.MathFloatBits.float64frombits] {F X : Operand} {n : Int} {ts : Array TypeId} (hF : e.ev F = some (.raw (.func (.func c) #[] #[]))) (hX : e.ev X = some (.raw (.int .u64 n))) (hn : n.toNat < 2 ^ 64) :
    OpJ P S e ⟨dst, .call { callee := .value F, args := #[X], argTypes := ts }, ty, pos, after, guard⟩ (.f .f64 (fv .f64 n.toNat)) :=
  opj_value fun a w _ h => by
    have h1 := (h F (by simp [Op.operands, Call.operands]) _ hF).inv_raw
    have h2 := (h X (by simp [Op.operands, Call.operands]) _ hX).inv_raw
    refine ⟨.float .f64 n.toNat, w, ?_, Ext.refl _, Rel.f' hn rfl⟩
    have hr : (Extern.MathFloatBits.float64frombits #[.int .u64 n]).run P w = .ok (.float .f64 n.toNat) w := rfl
    have := run_ext (h := hc) hr
    simp [execOp, resolve, h1, h2, Deferred.ofValue, invoke, this]
theorem rel_raws (w : World) : ∀ cap : List Value, RelL w (cap.map AV.raw) cap
  | [] => .nil
  | _ :: r => .cons .raw (rel_raws w r)
theorem relL_append {w : World} {xs ys : List AV} {us vs : List Value} (h : RelL w xs us) (h' : RelL w ys vs) : RelL w (xs ++ ys) (us ++ vs) := by
  induction xs generalizing us with
  | nil =>
    obtain rfl := h.inv_nil
    exact h'
  | cons x xs ih =>
    obtain ⟨v, r, rfl, hv, hr⟩ := h.inv_cons
    exact .cons hv (ih hr)
theorem opj_callC {c : FuncId} {xs : List Operand} {F : Operand} {args : List AV} {r : AV} {ts : Array TypeId} {A : World → List AV} [hb : HasBody P c] {cap : List Value}
    (hF : e.ev F = some (.raw (.func (.func c) #[] cap.toArray))) (hx : evL e xs = some args) (hc : Fn P c A r) (ht : Takes S (args ++ cap.map AV.raw) A) :
    OpJ P S e ⟨dst, .call { callee := .value F, args := xs.toArray, argTypes := ts }, ty, pos, after, guard⟩ r := by
  intro a w K Q hS ho hK
  obtain ⟨fnc, hf, hbd, hn⟩ := hb.h
  have h1 := (ho F (by simp [Op.operands, Call.operands]) _ hF).inv_raw
  have hrl0 : RelL w args (xs.map a.eval) := evL_rel hx fun x hxm => ho x (by simp [Op.operands, Call.operands, hxm])
  have hrl : RelL w (A w) (xs.map a.eval ++ cap) := ht w _ hS (relL_append hrl0 (rel_raws w cap))
  have hcall := hc w _ hrl (fun _ h => by cases h) List.Pairwise.nil
  unfold Oper.wp
  have hrun : (execOp a.eval ⟨dst, .call { callee := .value F, args := xs.toArray, argTypes := ts }, ty, pos, after, guard⟩).run P w = .ok (.enter c (xs.map a.eval ++ cap).toArray) w := by
    simp [execOp, resolve, h1, Deferred.ofValue, invoke, run_callFn hf hbd hn]
  rw [hrun]
  refine Calls.mono hcall fun x w' ⟨v, y, hx', _, hrv, hm, _, _⟩ => ?_
  subst hx'
  exact hK v w' hm.to_ext hrv
def Join {ι : Type} (E : ι → Env) (SI : ι → World → Prop) (ok : ι → Prop) (Q : Exit → Env → World → Prop) : Exit → Env → World → Prop
  | .normal, e, w => ∃ y, ok y ∧ Env.sub (E y) e ∧ SI y w
  | x, e, w => Q x e w
theorem ws_thenJ {ι : Type} (E : ι → Env) (SI : ι → World → Prop) (ok : ι → Prop) {c d : Code} (h1 : WS P N c e S (Join E SI ok Q)) (h2 : ∀ y, ok y → WS P N d (E y) (SI y) Q) : WS P N c e S (Then P N d Q) := by
  refine h1.mono fun x e' w hq => ?_
  cases x <;> first | exact hq | skip
  obtain ⟨y, hy, hs, hw⟩ := hq
  exact fun a w' hw' hF => h2 y hy a w' (hw' ▸ hw) (hF.sub hs)
theorem done_join {ι : Type} {E : ι → Env} {SI : ι → World → Prop} {ok : ι → Prop} (y : ι) (hy : ok y) (hs : Env.sub (E y) e) (hS : ∀ w, S w → SI y w) : Done .normal e S (Join E SI ok Q) := fun w hw => ⟨y, hy, hs, hS w hw⟩
end
end Go.Ab
namespace Go.Ab
abbrev d0 : FV := fv .f64 0
abbrev d1 : FV := fv .f64 4607182418800017408
abbrev dQ : FV := fv .f64 4598175219545276416
abbrev dH : FV := fv .f64 4602678819172646912
abbrev dT : FV := fv .f64 4618760256179416344
abbrev dB : FV := fv .f64 4841369599423283200
abbrev dN : FV := fv .f64 14064741636278059008
theorem vl_d0 : Vl .f64 d0 0 := Vl.c (by decide +kernel)
theorem vl_d1 : Vl .f64 d1 1 := Vl.c (by decide +kernel)
theorem vl_dQ : Vl .f64 dQ (1 / 4) := Vl.c (by decide +kernel)
theorem vl_dH : Vl .f64 dH (1 / 2) := Vl.c (by decide +kernel)
theorem vl_dB : Vl .f64 dB (p2 52) := Vl.c (by decide +kernel)
theorem vl_dN : Vl .f64 dN (-p2 52) := Vl.c (by decide +kernel)
theorem vl_dT : ∃ q, Vl .f64 dT q ∧ 0 ≤ q ∧ q ≤ 13 / 2 := ⟨_, Vl.c (q := 884279719003555 / 140737488355328) (by decide +kernel), by decide +kernel, by decide +kernel⟩
theorem fit64 {q : Rat} (h : -p2 60 ≤ q) (h' : q ≤ p2 60) : Fit .f64 q := by
  have : p2 60 < p2 (ftop .f64) := by decide +kernel
  constructor <;> grind
theorem fit32 {q : Rat} (h : -p2 60 ≤ q) (h' : q ≤ p2 60) : Fit .f32 q := by
  have : p2 60 < p2 (ftop .f32) := by decide +kernel
  constructor <;> grind
theorem p60 : p2 60 = 1152921504606846976 := by decide +kernel
theorem p52 : p2 52 = 4503599627370496 := by decide +kernel
/-- A small multiple of a quarter can be written. -/
theorem rep_quarter (n : Int) (h : n.natAbs ≤ 1000) : Rep .f64 ((n : Rat) / 4) := by
  have e : (n : Rat) / 4 = (n : Rat) * p2 (-2) := by
    have : p2 (-2) = 1 / 4 := by decide +kernel
    rw [this]
    grind
  have hb : n.natAbs ≤ 2 ^ (FloatKind.f64.format.fractionBits + 1) := Nat.le_trans h (by decide)
  have hl : FloatKind.f64.format.leastPlace ≤ -2 := by decide
  rcases Int.le_total 0 n with h0 | h0
  · refine .inl ⟨n.natAbs, -2, hb, hl, ?_⟩
    rw [e, ← Rat.intCast_natCast]
    congr 2
    omega
  · refine .inr ⟨n.natAbs, -2, hb, hl, ?_⟩
    have : ((n.natAbs : Nat) : Rat) = -(n : Rat) := by
      rw [← Rat.intCast_natCast, ← Rat.intCast_neg]
      congr 1
      omega
    rw [e, this]
    grind
/-- An operation whose exact answer lies between quarters. -/
theorem rnd_in {q r : Rat} (h : Rnd .f64 q r) (a b : Int) (ha : a.natAbs ≤ 1000) (hb : b.natAbs ≤ 1000) (h1 : (a : Rat) / 4 ≤ q) (h2 : q ≤ (b : Rat) / 4) : (a : Rat) / 4 ≤ r ∧ r ≤ (b : Rat) / 4 :=
  ⟨(h.side _ (rep_quarter a ha)).2 h1, (h.side _ (rep_quarter b hb)).1 h2⟩
theorem fitq {q : Rat} (a b : Int) (ha : a.natAbs ≤ 1000) (hb : b.natAbs ≤ 1000) (h1 : (a : Rat) / 4 ≤ q) (h2 : q ≤ (b : Rat) / 4) : Fit .f64 q := by
  have a1 : (-1000 : Rat) ≤ (a : Rat) := by
    have : ((-1000 : Int) : Rat) ≤ (a : Rat) := Rat.intCast_le_intCast.2 (by omega)
    exact this
  have a2 : (b : Rat) ≤ 1000 := by
    have : (b : Rat) ≤ ((1000 : Int) : Rat) := Rat.intCast_le_intCast.2 (by omega)
    exact this
  have := p60
  exact fit64 (by grind) (by grind)
/-- A sum, a difference, a product between quarters. -/
theorem add_in {x y : FV} {p q : Rat} (hx : Vl .f64 x p) (hy : Vl .f64 y q) (a b : Int) (ha : a.natAbs ≤ 1000) (hb : b.natAbs ≤ 1000) (h1 : (a : Rat) / 4 ≤ p + q) (h2 : p + q ≤ (b : Rat) / 4) : ∃ r, Vl .f64 (fbin .add .f64 x y) r ∧ (a : Rat) / 4 ≤ r ∧ r ≤ (b : Rat) / 4 := by
  obtain ⟨r, h, hr⟩ := vl_add hx hy (fitq a b ha hb h1 h2)
  exact ⟨r, h, rnd_in hr a b ha hb h1 h2⟩
theorem sub_in {x y : FV} {p q : Rat} (hx : Vl .f64 x p) (hy : Vl .f64 y q) (a b : Int) (ha : a.natAbs ≤ 1000) (hb : b.natAbs ≤ 1000) (h1 : (a : Rat) / 4 ≤ p - q) (h2 : p - q ≤ (b : Rat) / 4) : ∃ r, Vl .f64 (fbin .sub .f64 x y) r ∧ (a : Rat) / 4 ≤ r ∧ r ≤ (b : Rat) / 4 := by
  obtain ⟨r, h, hr⟩ := vl_sub hx hy (fitq a b ha hb h1 h2)
  exact ⟨r, h, rnd_in hr a b ha hb h1 h2⟩
theorem mul_in {x y : FV} {p q : Rat} (hx : Vl .f64 x p) (hy : Vl .f64 y q) (a b : Int) (ha : a.natAbs ≤ 1000) (hb : b.natAbs ≤ 1000) (h1 : (a : Rat) / 4 ≤ p * q) (h2 : p * q ≤ (b : Rat) / 4) : ∃ r, Vl .f64 (fbin .mul .f64 x y) r ∧ (a : Rat) / 4 ≤ r ∧ r ≤ (b : Rat) / 4 := by
  obtain ⟨r, h, hr⟩ := vl_mul hx hy (fitq a b ha hb h1 h2)
  exact ⟨r, h, rnd_in hr a b ha hb h1 h2⟩
/-- A product of bounded numbers. -/
theorem mul_bd {p q a b : Rat} (h1 : -a ≤ p) (h2 : p ≤ a) (h3 : -b ≤ q) (h4 : q ≤ b) : -(a * b) ≤ p * q ∧ p * q ≤ a * b := by
  have x1 := Rat.mul_nonneg (show 0 ≤ a - p by grind) (show 0 ≤ b - q by grind)
  have x2 := Rat.mul_nonneg (show 0 ≤ a + p by grind) (show 0 ≤ b + q by grind)
  have x3 := Rat.mul_nonneg (show 0 ≤ a - p by grind) (show 0 ≤ b + q by grind)
  have x4 := Rat.mul_nonneg (show 0 ≤ a + p by grind) (show 0 ≤ b - q by grind)
  constructor <;> grind

def truncI : FV → Int
  | some b => ((FloatKind.f64.decode b).toInt .zero).getD 0
  | none => 0
def fracF (x : FV) : FV :=
  if cmpB .lss (fcmp .f64 (fbin .sub .f64 x (some (FloatKind.f64.nearest (truncI x)))) d0) then fbin .add .f64 (fbin .sub .f64 x (some (FloatKind.f64.nearest (truncI x)))) d1
  else fbin .sub .f64 x (some (FloatKind.f64.nearest (truncI x)))
/-- Not as great as 2 ^ 52. -/
def Sm (x : FV) : Prop := ∃ q, Vl .f64 x q ∧ -p2 52 ≤ q ∧ q ≤ p2 52
theorem trunc_ok {x : FV} (h : Sm x) : (∃ b, x = some b ∧ (FloatKind.f64.decode b).toInt .zero = some (truncI x)) ∧ -9223372036854775808 ≤ truncI x ∧ truncI x ≤ 9223372036854775807 ∧
    ∃ f, Vl .f64 (fbin .sub .f64 x (some (FloatKind.f64.nearest (truncI x)))) f ∧ -1 ≤ f ∧ f ≤ 1 := by
  obtain ⟨q, hv, h1, h2⟩ := h
  obtain ⟨b, s, m, e, rfl, hd, hq⟩ := hv
  obtain ⟨n, hn, ht⟩ := vl_trunc (k := .f64) ⟨b, s, m, e, rfl, hd, hq⟩
  have htr : truncI (some b) = n := by simp [truncI, hn]
  rw [htr]
  rw [p52] at h1 h2
  have hn1 : (-4503599627370497 : Rat) < n := by rcases ht with ⟨_, _, _⟩ | ⟨_, _, _⟩ <;> grind
  have hn2 : (n : Rat) < 4503599627370497 := by rcases ht with ⟨_, _, _⟩ | ⟨_, _, _⟩ <;> grind
  have hi1 : -4503599627370497 < n := Rat.intCast_lt_intCast.1 hn1
  have hi2 : n < 4503599627370497 := Rat.intCast_lt_intCast.1 hn2
  refine ⟨⟨b, rfl, hn⟩, by omega, by omega, ?_⟩
  have hni := vl_ofInt .f64 n (by have : FloatKind.f64.format.fractionBits = 52 := rfl; rw [this]; omega)
  obtain ⟨r, hr, hlo, hhi⟩ := sub_in ⟨b, s, m, e, rfl, hd, hq⟩ hni (-4) 4 (by decide) (by decide) (by rcases ht with ⟨_, _, _⟩ | ⟨_, _, _⟩ <;> grind) (by rcases ht with ⟨_, _, _⟩ | ⟨_, _, _⟩ <;> grind)
  exact ⟨r, hr, by grind, by grind⟩
theorem frac_vl {x : FV} (h : Sm x) : ∃ r, Vl .f64 (fracF x) r ∧ 0 ≤ r ∧ r ≤ 1 := by
  obtain ⟨_, _, _, f, hf, h1, h2⟩ := trunc_ok h
  unfold fracF
  rw [vl_lss hf vl_d0]
  by_cases h0 : f < 0
  · rw [decide_eq_true h0, if_pos rfl]
    obtain ⟨r, hr, hlo, hhi⟩ := add_in hf vl_d1 0 4 (by decide) (by decide) (by grind) (by grind)
    exact ⟨r, hr, by grind, by grind⟩
  · rw [decide_eq_false h0, if_neg (by decide)]
    exact ⟨f, hf, Rat.not_lt.1 h0, h2⟩
theorem sm_unit {x : FV} {q : Rat} (h : Vl .f64 x q) (h1 : -1 ≤ q) (h2 : q ≤ 1) : Sm x := ⟨q, h, by rw [p52]; grind, by rw [p52]; grind⟩

def geQ (f : FV) : Bool := cmpB .geq (fcmp .f64 f dQ)
def qF : Nat → FV → FV
  | 0, f => f
  | j + 1, f => fbin .sub .f64 (qF j f) dQ
def qN (f : FV) : Nat := if geQ (qF 0 f) = false then 0 else if geQ (qF 1 f) = false then 1 else if geQ (qF 2 f) = false then 2 else if geQ (qF 3 f) = false then 3 else 4
theorem q_vl {f : FV} (h : ∃ r, Vl .f64 f r ∧ 0 ≤ r ∧ r ≤ 1) : ∀ j, (∀ i, i < j → geQ (qF i f) = true) → j ≤ 4 ∧ ∃ r, Vl .f64 (qF j f) r ∧ 0 ≤ r ∧ r ≤ 1 - (j : Rat) / 4
  | 0, _ => by
    obtain ⟨r, hr, h0, h1⟩ := h
    exact ⟨by decide, r, hr, h0, by rw [show ((0 : Nat) : Rat) = 0 from rfl]; grind⟩
  | j + 1, hall => by
    obtain ⟨hj, r, hr, h0, h1⟩ := q_vl h j fun i hi => hall i (by omega)
    have hg := hall j (by omega)
    unfold geQ at hg
    rw [vl_geq hr vl_dQ] at hg
    have hg' := of_decide_eq_true hg
    have hj4 : j < 4 := by
      rcases Nat.lt_or_ge j 4 with h | h
      · exact h
      · have : j = 4 := by omega
        subst this
        rw [show ((4 : Nat) : Rat) = 4 from rfl] at h1
        grind
    have hc : ((3 - j : Int) : Rat) = 3 - (j : Rat) := by
      rw [Rat.intCast_sub]
      rfl
    obtain ⟨s, hs, hlo, hhi⟩ := sub_in hr vl_dQ 0 (3 - j) (by decide) (by omega) (by grind) (by rw [hc]; grind)
    rw [hc] at hhi
    refine ⟨by omega, s, hs, by grind, ?_⟩
    rw [Rat.natCast_add, show ((1 : Nat) : Rat) = 1 from rfl]
    grind
theorem qN_eq {f : FV} (h : ∃ r, Vl .f64 f r ∧ 0 ≤ r ∧ r ≤ 1) {j : Nat} (hall : ∀ i, i < j → geQ (qF i f) = true) (hj : geQ (qF j f) = false) : qN f = j := by
  have hj4 := (q_vl h j hall).1
  unfold qN
  have hc : j = 0 ∨ j = 1 ∨ j = 2 ∨ j = 3 ∨ j = 4 := by omega
  rcases hc with rfl | rfl | rfl | rfl | rfl
  · rw [if_pos hj]
  · rw [if_neg (by rw [hall 0 (by decide)]; decide), if_pos hj]
  · rw [if_neg (by rw [hall 0 (by decide)]; decide), if_neg (by rw [hall 1 (by decide)]; decide), if_pos hj]
  · rw [if_neg (by rw [hall 0 (by decide)]; decide), if_neg (by rw [hall 1 (by decide)]; decide), if_neg (by rw [hall 2 (by decide)]; decide), if_pos hj]
  · rw [if_neg (by rw [hall 0 (by decide)]; decide), if_neg (by rw [hall 1 (by decide)]; decide), if_neg (by rw [hall 2 (by decide)]; decide), if_neg (by rw [hall 3 (by decide)]; decide)]

def halfF (f : FV) : FV := if cmpB .geq (fcmp .f64 f dH) then fbin .sub .f64 f dH else f
def foldF (f : FV) : FV := if cmpB .gtr (fcmp .f64 f dQ) then fbin .sub .f64 dH f else f
def sinK (j : Nat) : FV := some (FloatKind.f64.nearest (2 * (8 - (j : Int)) * (2 * (8 - (j : Int)) + 1)))
def sinP (u : FV) : Nat → FV
  | 0 => d1
  | j + 1 => fbin .sub .f64 d1 (fbin .quo .f64 (fbin .mul .f64 u (sinP u j)) (sinK j))
def sinZ (f : FV) : FV := fbin .mul .f64 (foldF (halfF f)) dT
def sinV (f : FV) : FV := fbin .mul .f64 (sinZ f) (sinP (fbin .mul .f64 (sinZ f) (sinZ f)) 8)
def sinF (x : FV) : FV := if cmpB .geq (fcmp .f64 (fracF x) dH) then fneg .f64 (sinV (fracF x)) else sinV (fracF x)
theorem sinK_vl {j : Nat} (h : j < 8) : ∃ k, Vl .f64 (sinK j) k ∧ 6 ≤ k := by
  unfold sinK
  have hv := vl_ofInt .f64 (2 * (8 - (j : Int)) * (2 * (8 - (j : Int)) + 1))
  have hc : j = 0 ∨ j = 1 ∨ j = 2 ∨ j = 3 ∨ j = 4 ∨ j = 5 ∨ j = 6 ∨ j = 7 := by omega
  rcases hc with rfl | rfl | rfl | rfl | rfl | rfl | rfl | rfl
  all_goals exact ⟨_, hv (by decide), by decide +kernel⟩
theorem sinP_vl {u : FV} {q : Rat} (hu : Vl .f64 u q) (h0 : 0 ≤ q) (h4 : q ≤ 4) : ∀ j, j ≤ 8 → ∃ r, Vl .f64 (sinP u j) r ∧ -4 ≤ r ∧ r ≤ 4
  | 0, _ => ⟨1, vl_d1, by decide +kernel, by decide +kernel⟩
  | j + 1, hj => by
    obtain ⟨r, hr, h1, h2⟩ := sinP_vl hu h0 h4 j (by omega)
    obtain ⟨k, hk, h6⟩ := sinK_vl (j := j) (by omega)
    have hb := mul_bd (p := q) (q := r) (a := 4) (b := 4) (by grind) h4 h1 h2
    obtain ⟨s, hs, h3, h5⟩ := mul_in hu hr (-64) 64 (by decide) (by decide) (by grind) (by grind)
    have hk0 : k ≠ 0 := fun h => by grind
    have hsk : s / k * k = s := Rat.div_mul_cancel hk0
    have hq1 : -3 ≤ s / k := by
      rcases Rat.le_total (a := -3) (b := s / k) with h | h
      · exact h
      · have := Rat.mul_nonneg (show 0 ≤ -3 - s / k by grind) (show 0 ≤ k by grind)
        grind
    have hq2 : s / k ≤ 3 := by
      rcases Rat.le_total (a := s / k) (b := 3) with h | h
      · exact h
      · have := Rat.mul_nonneg (show 0 ≤ s / k - 3 by grind) (show 0 ≤ k by grind)
        grind
    have ht : p2 60 ≤ p2 (ftop .f64 - 1) := by decide +kernel
    have h60 := p60
    obtain ⟨t, ht1, ht2⟩ := vl_div hs hk hk0 ⟨by grind, by grind⟩
    have ht3 := rnd_in ht2 (-12) 12 (by decide) (by decide) (by grind) (by grind)
    obtain ⟨v, hv, h7, h8⟩ := sub_in vl_d1 ht1 (-16) 16 (by decide) (by decide) (by grind) (by grind)
    exact ⟨v, hv, by grind, by grind⟩
theorem sinV_vl {f : FV} (h : ∃ r, Vl .f64 f r ∧ 0 ≤ r ∧ r ≤ 1) : ∃ r, Vl .f64 (sinV f) r ∧ -8 ≤ r ∧ r ≤ 8 := by
  obtain ⟨q, hq, h0, h1⟩ := h
  have hh : ∃ r, Vl .f64 (halfF f) r ∧ 0 ≤ r ∧ r ≤ 1 / 2 := by
    unfold halfF
    rw [vl_geq hq vl_dH]
    by_cases hc : (1 / 2 : Rat) ≤ q
    · rw [decide_eq_true hc, if_pos rfl]
      obtain ⟨r, hr, h2, h3⟩ := sub_in hq vl_dH 0 2 (by decide) (by decide) (by grind) (by grind)
      exact ⟨r, hr, by grind, by grind⟩
    · rw [decide_eq_false hc, if_neg (by decide)]
      exact ⟨q, hq, h0, by grind⟩
  obtain ⟨r, hr, h2, h3⟩ := hh
  have hg : ∃ s, Vl .f64 (foldF (halfF f)) s ∧ 0 ≤ s ∧ s ≤ 1 / 4 := by
    unfold foldF
    rw [vl_gtr hr vl_dQ]
    by_cases hc : (1 / 4 : Rat) < r
    · rw [decide_eq_true hc, if_pos rfl]
      obtain ⟨s, hs, h4, h5⟩ := sub_in vl_dH hr 0 1 (by decide) (by decide) (by grind) (by grind)
      exact ⟨s, hs, by grind, by grind⟩
    · rw [decide_eq_false hc, if_neg (by decide)]
      exact ⟨r, hr, h2, Rat.not_lt.1 hc⟩
  obtain ⟨s, hs, h4, h5⟩ := hg
  obtain ⟨t, ht, ht0, ht1⟩ := vl_dT
  have hst := mul_bd (p := s) (q := t) (a := 1 / 4) (b := 13 / 2) (by grind) h5 (by grind) ht1
  have hst0 := Rat.mul_nonneg h4 ht0
  obtain ⟨z, hz, hz0, hz1⟩ := mul_in hs ht 0 8 (by decide) (by decide) (by grind) (by grind)
  have hz' : Vl .f64 (sinZ f) z := hz
  have hzz := mul_bd (p := z) (q := z) (a := 2) (b := 2) (by grind) (by grind) (by grind) (by grind)
  have hzz0 := Rat.mul_nonneg (show 0 ≤ z by grind) (show 0 ≤ z by grind)
  obtain ⟨u, hu, hu0, hu1⟩ := mul_in hz' hz' 0 16 (by decide) (by decide) (by grind) (by grind)
  obtain ⟨p, hp, hp0, hp1⟩ := sinP_vl hu (by grind) (by grind) 8 (by decide)
  have hzp := mul_bd (p := z) (q := p) (a := 2) (b := 4) (by grind) (by grind) hp0 hp1
  obtain ⟨v, hv, h7, h8⟩ := mul_in hz' hp (-32) 32 (by decide) (by decide) (by grind) (by grind)
  exact ⟨v, hv, by grind, by grind⟩
theorem sin_vl {x : FV} (h : Sm x) : ∃ r, Vl .f64 (sinF x) r ∧ -8 ≤ r ∧ r ≤ 8 := by
  obtain ⟨r, hr, h1, h2⟩ := sinV_vl (frac_vl h)
  unfold sinF
  split
  · exact ⟨-r, vl_fneg hr, by grind, by grind⟩
  · exact ⟨r, hr, h1, h2⟩

def phG (t : FV) : FV := qF (qN (fracF t)) (fracF t)
def phC (t : FV) : FV := sinF (fbin .sub .f64 dQ (phG t))
def phS (t : FV) : FV := sinF (phG t)
def turnW : Nat → FV → FV → FV × FV
  | 1, c, s => (fbin .sub .f64 d0 s, c)
  | 2, c, s => (fbin .sub .f64 d0 c, fbin .sub .f64 d0 s)
  | 3, c, s => (s, fbin .sub .f64 d0 c)
  | _, c, s => (c, s)
def phW (t : FV) : FV × FV := turnW (qN (fracF t)) (phC t) (phS t)
theorem phG_vl {t : FV} (h : Sm t) : ∃ r, Vl .f64 (phG t) r ∧ 0 ≤ r ∧ r ≤ 1 := by
  have hf := frac_vl h
  have hall : ∀ j, j ≤ qN (fracF t) → ∀ i, i < j → geQ (qF i (fracF t)) = true := by
    intro j hj i hi
    have hi' : i < qN (fracF t) := by omega
    unfold qN at hi'
    cases h0 : geQ (qF 0 (fracF t)) <;> simp only [h0, if_true, if_false, Bool.true_eq_false, reduceCtorEq] at hi'
    · omega
    cases h1 : geQ (qF 1 (fracF t)) <;> simp only [h1, if_true, if_false, Bool.true_eq_false, reduceCtorEq] at hi'
    · have : i = 0 := by omega
      subst this; exact h0
    cases h2 : geQ (qF 2 (fracF t)) <;> simp only [h2, if_true, if_false, Bool.true_eq_false, reduceCtorEq] at hi'
    · have : i = 0 ∨ i = 1 := by omega
      rcases this with rfl | rfl <;> assumption
    cases h3 : geQ (qF 3 (fracF t)) <;> simp only [h3, if_true, if_false, Bool.true_eq_false, reduceCtorEq] at hi'
    · have : i = 0 ∨ i = 1 ∨ i = 2 := by omega
      rcases this with rfl | rfl | rfl <;> assumption
    · have : i = 0 ∨ i = 1 ∨ i = 2 ∨ i = 3 := by omega
      rcases this with rfl | rfl | rfl | rfl <;> assumption
  obtain ⟨_, r, hr, h1, h2⟩ := q_vl hf (qN (fracF t)) (hall _ (Nat.le_refl _))
  refine ⟨r, hr, h1, ?_⟩
  have : (0 : Rat) ≤ (qN (fracF t) : Rat) := Rat.natCast_nonneg
  grind
/-- The exit of the rounds. -/
theorem quarter_sm {g : FV} (h : ∃ r, Vl .f64 g r ∧ 0 ≤ r ∧ r ≤ 1) : Sm g ∧ Sm (fbin .sub .f64 dQ g) := by
  obtain ⟨r, hr, h1, h2⟩ := h
  obtain ⟨s, hs, h3, h4⟩ := sub_in vl_dQ hr (-4) 4 (by decide) (by decide) (by grind) (by grind)
  exact ⟨sm_unit hr (by grind) h2, sm_unit hs (by grind) (by grind)⟩
theorem eight_ok {x : FV} (h : ∃ r, Vl .f64 x r ∧ -8 ≤ r ∧ r ≤ 8) : ConvOk .f64 .f32 x ∧ ConvOk .f64 .f32 (fbin .sub .f64 d0 x) := by
  obtain ⟨r, hr, h1, h2⟩ := h
  have h60 := p60
  obtain ⟨s, hs, h3, h4⟩ := sub_in vl_d0 hr (-32) 32 (by decide) (by decide) (by grind) (by grind)
  exact ⟨vl_narrow_ok hr (fit32 (by grind) (by grind)), vl_narrow_ok hs (fit32 (by grind) (by grind))⟩
theorem phC_ok {t : FV} (h : Sm t) : ConvOk .f64 .f32 (phC t) ∧ ConvOk .f64 .f32 (fbin .sub .f64 d0 (phC t)) := eight_ok (sin_vl (quarter_sm (phG_vl h)).2)
theorem phS_ok {t : FV} (h : Sm t) : ConvOk .f64 .f32 (phS t) ∧ ConvOk .f64 .f32 (fbin .sub .f64 d0 (phS t)) := eight_ok (sin_vl (quarter_sm (phG_vl h)).1)
def fin64 (t : FV) : Bool := cmpB .eql (fcmp .f64 (fbin .sub .f64 t t) d0)
def bigT (t : FV) : Bool := cmpB .geq (fcmp .f64 t dB) || cmpB .leq (fcmp .f64 t dN)
theorem big_abs {t : FV} {q : Rat} (h : Vl .f64 t q) : cmpB .geq (fcmp .f64 (fabs64 t) dB) = bigT t := by
  unfold bigT
  rw [vl_geq (vl_abs h) vl_dB, vl_geq h vl_dB, vl_leq h vl_dN]
  rw [Bool.eq_iff_iff, Bool.or_eq_true, decide_eq_true_iff, decide_eq_true_iff, decide_eq_true_iff]
  have := p2_pos 52
  split <;> grind
theorem small_sm {t : FV} {q : Rat} (h : Vl .f64 t q) (hb : bigT t = false) : Sm t := by
  unfold bigT at hb
  rw [vl_geq h vl_dB, vl_leq h vl_dN, Bool.or_eq_false_iff, decide_eq_false_iff_not, decide_eq_false_iff_not] at hb
  exact ⟨q, h, by grind, by grind⟩
/-- The point of the unit circle at some turns. -/
def phasF (t : FV) : FV × FV :=
  match fin64 t with
  | false => (none, none)
  | true => match bigT t with
    | true => (fv .f32 1065353216, fv .f32 0)
    | false => (fconv .f64 .f32 (phW t).1, fconv .f64 .f32 (phW t).2)
end Go.Ab
namespace Go.Ab
open Go.Proofs
instance extF64 : ExtFn Try.prog 78 Extern.MathFloatBits.float64frombits := ⟨⟨(Try.prog.funcs[78]?).getD default, by kernel_rfl, by kernel_rfl, by kernel_rfl, by kernel_rfl, by kernel_rfl⟩⟩
instance hbNaN : HasBody Try.prog 64 := ⟨⟨Try.f64, Try.func64, rfl, by kernel_rfl⟩⟩
instance hbAbs : HasBody Try.prog 65 := ⟨⟨Try.f65, Try.func65, rfl, by kernel_rfl⟩⟩
attribute [local irreducible] WS RS Done OpJ Then InBlock Round Ret Env.sub FnH
theorem nan_fn : Fn Try.prog 64 (fun _ => []) (.f .f64 none) := by
  refine fn_intro Try.func64 rfl Try.ntmps64 (fun _ => Nat.le_of_ble_eq_true rfl) fun w0 => ?_
  repeat first | refine zaa rfl (zaz rfl) ?_ | refine zah ?_ | (refine zcr ?_; refine zcs ?_) | (refine zdb ?_; first | refine zdc ?_ | refine zdd ?_ | refine zdg ?_) | refine zaa rfl (opj_from64 rfl rfl (by decide)) ?_
  exact done_ret1 rfl () rfl trivial (List.nil_sublist _)
theorem abs_fn (x : FV) (b : Nat) (hx : x = some b) (hn : (FloatKind.f64.decode b).isNaN = false) : Fn Try.prog 65 (fun _ => [.f .f64 x]) (.f .f64 (fabs64 x)) := by
  have hv : fv .f64 ((b % 2 ^ 63 : Nat) : Int).toNat = fabs64 x := by
    rw [Int.toNat_natCast, hx]
    refine fv_some ?_
    rw [read_abs]
    cases hd : FloatKind.f64.decode b <;> rw [hd] at hn <;> first | rfl | cases hn
  refine fn_intro Try.func65 rfl Try.ntmps65 (fun _ => Nat.le_of_ble_eq_true rfl) fun w0 => ?_
  repeat first | refine zaa rfl (zay rfl) ?_ | refine zaa rfl (zaz rfl) ?_ | (refine zac ?_; refine zaa rfl (opj_andNot63 rfl rfl) ?_) | refine zah ?_ | (refine zcr ?_; refine zcs ?_) | (refine zdb ?_; first | refine zdc ?_ | refine zdd ?_ | refine zdg ?_) | refine zaa rfl (opj_bits64 rfl rfl hx) ?_ | refine zaa rfl (opj_from64 rfl rfl (by rw [Int.toNat_natCast]; omega)) ?_
  exact done_ret1 rfl () (by rw [hv]; rfl) trivial (List.nil_sublist _)
theorem isFinite64_fn (x : FV) : Fn Try.prog 63 (fun _ => [.f .f64 x]) (.raw (.bool (fin64 x))) := by
  refine fn_intro Try.func63 rfl Try.ntmps63 (fun _ => Nat.le_of_ble_eq_true rfl) fun w0 => ?_
  repeat first | refine zaa rfl (zay rfl) ?_ | refine zaa rfl (zaz rfl) ?_ | (refine zac ?_; first | refine zaa rfl (zba rfl rfl rfl) ?_ | refine zaa rfl (zbd rfl rfl rfl) ?_) | refine zah ?_ | (refine zcr ?_; refine zcs ?_) | (refine zdb ?_; first | refine zdc ?_ | refine zdd ?_ | refine zdg ?_)
  exact done_ret1 rfl () rfl trivial (List.nil_sublist _)
theorem fraction_fn (x : FV) (h : Sm x) : Fn Try.prog 66 (fun _ => [.f .f64 x]) (.f .f64 (fracF x)) := by
  obtain ⟨h1, h2, h3, _⟩ := trunc_ok h
  refine fn_intro Try.func66 rfl Try.ntmps66 (fun _ => Nat.le_of_ble_eq_true rfl) fun w0 => ?_
  repeat first | refine zaa rfl (zay rfl) ?_ | refine zaa rfl (zaz rfl) ?_ | (refine zac ?_; first | refine zaa rfl (zba rfl rfl rfl) ?_ | refine zaa rfl (zbd rfl rfl rfl) ?_) | refine zaa rfl (zby rfl) ?_ | refine zah ?_ | (refine zcr ?_; refine zcs ?_) | (refine zdb ?_; first | refine zdc ?_ | refine zdd ?_) | refine zaa rfl (opj_f2i rfl h1 ⟨h2, h3⟩) ?_
  refine ws_thenJ (fun y : FV => [(3, .f .f64 y)]) (fun _ => St w0 [] []) (fun y => y = fracF x) (ws_cond rfl (fun hd => ?_) (fun hd => ?_)) (fun y hy => ?_)
  · repeat first | refine zaa rfl (zay rfl) ?_ | refine zaa rfl (zaz rfl) ?_ | (refine zac ?_; refine zaa rfl (zba rfl rfl rfl) ?_) | refine zah ?_ | (refine zdb ?_; refine zdd ?_)
    refine done_join _ (by unfold fracF; rw [hd, if_pos rfl]) ?_ (fun _ h => h)
    (repeat (first | exact Env.sub_nil _ | refine Env.sub_cons rfl ?_))
  · repeat ((refine zdb ?_; refine zdf ?_))
    refine done_join _ (by unfold fracF; rw [hd, if_neg (by decide)]) ?_ (fun _ h => h)
    (repeat (first | exact Env.sub_nil _ | refine Env.sub_cons rfl ?_))
  · subst hy
    repeat first | refine zaa rfl (zay rfl) ?_ | refine zaa rfl (zaz rfl) ?_ | refine zah ?_ | (refine zcr ?_; refine zcs ?_) | (refine zdb ?_; first | refine zdc ?_ | refine zdd ?_ | refine zdg ?_)
    exact done_ret1 rfl () rfl trivial (List.nil_sublist _)
def kv (j : Nat) : FV := some (FloatKind.f64.nearest (8 - (j : Int)))
theorem kv_ge (j : Nat) (h : j ≤ 8) : cmpB .geq (fcmp .f64 (kv j) d1) = decide (j < 8) := by
  have hc : j = 0 ∨ j = 1 ∨ j = 2 ∨ j = 3 ∨ j = 4 ∨ j = 5 ∨ j = 6 ∨ j = 7 ∨ j = 8 := by omega
  rcases hc with rfl | rfl | rfl | rfl | rfl | rfl | rfl | rfl | rfl <;> decide +kernel
theorem kv_next (j : Nat) (h : j < 8) : fbin .sub .f64 (kv j) d1 = kv (j + 1) := by
  have hc : j = 0 ∨ j = 1 ∨ j = 2 ∨ j = 3 ∨ j = 4 ∨ j = 5 ∨ j = 6 ∨ j = 7 := by omega
  rcases hc with rfl | rfl | rfl | rfl | rfl | rfl | rfl | rfl <;> decide +kernel
theorem kv_prod (j : Nat) (h : j < 8) : fbin .mul .f64 (fbin .mul .f64 (fv .f64 4611686018427387904) (kv j)) (fbin .add .f64 (fbin .mul .f64 (fv .f64 4611686018427387904) (kv j)) d1) = sinK j := by
  have hc : j = 0 ∨ j = 1 ∨ j = 2 ∨ j = 3 ∨ j = 4 ∨ j = 5 ∨ j = 6 ∨ j = 7 := by omega
  rcases hc with rfl | rfl | rfl | rfl | rfl | rfl | rfl | rfl <;> decide +kernel
theorem sine_fn (x : FV) (h : Sm x) : Fn Try.prog 67 (fun _ => [.f .f64 x]) (.f .f64 (sinF x)) := by
  have hf := fraction_fn x h
  have hs : sinF x = if cmpB .geq (fcmp .f64 (fracF x) dH) then fneg .f64 (sinV (fracF x)) else sinV (fracF x) := rfl
  generalize sinF x = res at *
  generalize fracF x = f at *
  refine fn_intro Try.func67 rfl Try.ntmps67 (fun _ => Nat.le_of_ble_eq_true rfl) fun w0 => ?_
  repeat first | refine zaa rfl (zay rfl) ?_ | refine zaa rfl (zaz rfl) ?_ | (refine zac ?_; refine zaa rfl (zbd rfl rfl rfl) ?_) | (refine zad ?_; (refine zaa rfl (zci rfl rfl (hf) ?_) ?_; (focus ((repeat (first | exact Takes.nil | refine Takes.sl ?_ | refine Takes.own (by (repeat (first | exact mh | refine mt ?_)); done) (by simp) (by omega) (by simp only [maxLen]; omega) ?_ | refine Takes.same ?_)); done)))) | refine zah ?_ | (refine zcr ?_; refine zcs ?_) | (refine zdb ?_; first | refine zdc ?_ | refine zdd ?_)
  refine ws_thenJ (fun y : FV => [(3, .f .f64 y), (4, .raw (.bool (cmpB .geq (fcmp .f64 f dH))))]) (fun _ => St w0 [] []) (fun y => y = halfF f) (ws_cond rfl (fun hd => ?_) (fun hd => ?_)) (fun y hy => ?_)
  · repeat first | refine zaa rfl (zay rfl) ?_ | refine zaa rfl (zaz rfl) ?_ | (refine zac ?_; refine zaa rfl (zba rfl rfl rfl) ?_) | refine zah ?_ | (refine zdb ?_; refine zdd ?_)
    refine done_join _ (by unfold halfF; rw [hd, if_pos rfl]) ?_ (fun _ h => h)
    (repeat (first | exact Env.sub_nil _ | refine Env.sub_cons rfl ?_))
  · repeat ((refine zdb ?_; refine zdf ?_))
    refine done_join _ (by unfold halfF; rw [hd, if_neg (by decide)]) ?_ (fun _ h => h)
    (repeat (first | exact Env.sub_nil _ | refine Env.sub_cons rfl ?_))
  repeat first | refine zaa rfl (zay rfl) ?_ | (refine zac ?_; refine zaa rfl (zbd rfl rfl rfl) ?_) | refine zah ?_ | (refine zcr ?_; refine zcs ?_) | (refine zdb ?_; first | refine zdc ?_ | refine zdd ?_)
  refine ws_thenJ (fun z : FV => [(3, .f .f64 z), (4, .raw (.bool (cmpB .geq (fcmp .f64 f dH))))]) (fun _ => St w0 [] []) (fun z => z = foldF y) (ws_cond rfl (fun hd => ?_) (fun hd => ?_)) (fun z hz => ?_)
  · repeat first | refine zaa rfl (zay rfl) ?_ | refine zaa rfl (zaz rfl) ?_ | (refine zac ?_; refine zaa rfl (zba rfl rfl rfl) ?_) | refine zah ?_ | (refine zdb ?_; refine zdd ?_)
    refine done_join _ (by unfold foldF; rw [hd, if_pos rfl]) ?_ (fun _ h => h)
    (repeat (first | exact Env.sub_nil _ | refine Env.sub_cons rfl ?_))
  · repeat ((refine zdb ?_; refine zdf ?_))
    refine done_join _ (by unfold foldF; rw [hd, if_neg (by decide)]) ?_ (fun _ h => h)
    (repeat (first | exact Env.sub_nil _ | refine Env.sub_cons rfl ?_))
  repeat first | refine zaa rfl (zay rfl) ?_ | refine zaa rfl (zaz rfl) ?_ | (refine zac ?_; refine zaa rfl (zba rfl rfl rfl) ?_) | refine zah ?_ | (refine zcr ?_; refine zcs ?_) | (refine zdb ?_; first | refine zdc ?_ | refine zdd ?_ | refine zde ?_)
  have hz' : fbin .mul .f64 z dT = sinZ f := by rw [hz, hy]; rfl
  rw [hz']
  refine ws_loop (ι := Nat) (fun j => [(4, .raw (.bool (cmpB .geq (fcmp .f64 f dH)))), (5, .f .f64 (sinZ f)), (6, .f .f64 (fbin .mul .f64 (sinZ f) (sinZ f))), (7, .f .f64 (sinP (fbin .mul .f64 (sinZ f) (sinZ f)) j)), (8, .f .f64 (kv j))]) (fun _ => St w0 [] []) (fun j => j ≤ 8) (fun j => 8 - j) 0 (by decide) ?_ (fun _ h => h) (fun j hj => ?_)
  · (repeat (first | exact Env.sub_nil _ | refine Env.sub_cons rfl ?_))
  repeat first | refine zaa rfl (zay rfl) ?_ | (refine zac ?_; refine zaa rfl (zbd rfl rfl rfl) ?_) | refine zah ?_ | (refine zcr ?_; refine zcs ?_) | (refine zdb ?_; first | refine zdc ?_ | refine zdd ?_)
  rw [kv_ge j hj]
  refine ws_cond rfl (fun hd => ?_) (fun hd => ?_)
  · have hj8 : j < 8 := of_decide_eq_true hd
    repeat first | refine zaa rfl (zay rfl) ?_ | refine zaa rfl (zaz rfl) ?_ | (refine zac ?_; refine zaa rfl (zba rfl rfl rfl) ?_) | refine zah ?_ | (refine zcr ?_; first | refine zcs ?_ | refine zcv ?_) | (refine zdb ?_; first | refine zdc ?_ | refine zdd ?_ | refine zde ?_ | refine zdf ?_)
    rw [kv_prod j hj8, kv_next j hj8]
    refine done_round (j + 1) (by omega) (by omega) ?_ (fun _ h => h)
    (repeat (first | exact Env.sub_nil _ | refine Env.sub_cons rfl ?_))
  · have hj8 : ¬ j < 8 := of_decide_eq_false hd
    obtain rfl : j = 8 := by omega
    repeat first | refine zaa rfl (zay rfl) ?_ | refine zah ?_ | (refine zcr ?_; first | refine zcs ?_ | refine zcu ?_ | refine zcx ?_ | refine zda ?_) | (refine zdb ?_; first | refine zdc ?_ | refine zdd ?_ | refine zdh ?_)
    refine ws_cond rfl (fun hd => ?_) (fun hd => ?_)
    · rw [hd, if_pos rfl] at hs
      repeat first | refine zaa rfl (zay rfl) ?_ | refine zaa rfl (zaz rfl) ?_ | (refine zac ?_; refine zaa rfl (zba rfl rfl rfl) ?_) | refine zah ?_ | (refine zcr ?_; first | refine zcs ?_ | refine zct ?_) | (refine zdb ?_; first | refine zdc ?_ | refine zdd ?_ | refine zdg ?_) | refine zaa rfl (opj_neg rfl) ?_
      exact done_ret1 rfl () (by rw [hs]; rfl) trivial (List.nil_sublist _)
    · rw [hd, if_neg (by decide)] at hs
      repeat first | refine zaa rfl (zay rfl) ?_ | refine zaa rfl (zaz rfl) ?_ | (refine zac ?_; refine zaa rfl (zba rfl rfl rfl) ?_) | refine zah ?_ | (refine zcr ?_; refine zcs ?_) | (refine zdb ?_; first | refine zdc ?_ | refine zdd ?_ | refine zdf ?_ | refine zdg ?_)
      exact done_ret1 rfl () (by rw [hs]; rfl) trivial (List.nil_sublist _)
/-- The exit of the rounds. -/
theorem phas_exit {t : FV} (h : Sm t) {j : Nat} (hall : ∀ i, i < j → geQ (qF i (fracF t)) = true) (hj : geQ (qF j (fracF t)) = false) :
    j ≤ 4 ∧ Sm (qF j (fracF t)) ∧ Sm (fbin .sub .f64 dQ (qF j (fracF t))) ∧ phW t = turnW j (sinF (fbin .sub .f64 dQ (qF j (fracF t)))) (sinF (qF j (fracF t))) ∧
      (ConvOk .f64 .f32 (sinF (fbin .sub .f64 dQ (qF j (fracF t)))) ∧ ConvOk .f64 .f32 (fbin .sub .f64 d0 (sinF (fbin .sub .f64 dQ (qF j (fracF t)))))) ∧
      (ConvOk .f64 .f32 (sinF (qF j (fracF t))) ∧ ConvOk .f64 .f32 (fbin .sub .f64 d0 (sinF (qF j (fracF t))))) := by
  have hq := qN_eq (frac_vl h) hall hj
  have h1 := phG_vl h
  have hg : phG t = qF j (fracF t) := by unfold phG; rw [hq]
  have h2 := quarter_sm h1
  rw [hg] at h2
  have h3 := phC_ok h
  have h4 := phS_ok h
  have h5 : phW t = turnW (qN (fracF t)) (phC t) (phS t) := rfl
  unfold phC at h3 h5
  unfold phS at h4 h5
  rw [hg] at h3 h5 h4
  rw [hq] at h5
  exact ⟨(q_vl (frac_vl h) j hall).1, h2.1, h2.2, h5, h3, h4⟩
set_option maxHeartbeats 16000000 in
theorem phasorOf_fn (t : FV) : Fn Try.prog 40 (fun _ => [.f .f64 t]) (.c .f32 (phasF t).1 (phasF t).2) := by
  have hfin := isFinite64_fn t
  cases hf : fin64 t
  · rw [hf] at hfin
    have hp : phasF t = (none, none) := by unfold phasF; rw [hf]
    rw [hp]
    refine fn_intro Try.func40 rfl Try.ntmps40 (fun _ => Nat.le_of_ble_eq_true rfl) fun w0 => ?_
    repeat first | refine zaa rfl (zay rfl) ?_ | refine zaa rfl (zaz rfl) ?_ | (refine zad ?_; first | refine zaa rfl (zbr rfl rfl) ?_ | (refine zaa rfl (zci rfl rfl (hfin) ?_) ?_; (focus ((repeat (first | exact Takes.nil | refine Takes.sl ?_ | refine Takes.own (by (repeat (first | exact mh | refine mt ?_)); done) (by simp) (by omega) (by simp only [maxLen]; omega) ?_ | refine Takes.same ?_)); done))) | (refine zaa rfl (zci rfl rfl (nan_fn) ?_) ?_; (focus ((repeat (first | exact Takes.nil | refine Takes.sl ?_ | refine Takes.own (by (repeat (first | exact mh | refine mt ?_)); done) (by simp) (by omega) (by simp only [maxLen]; omega) ?_ | refine Takes.same ?_)); done)))) | refine zaa rfl (zcc rfl) ?_ | refine zah ?_ | (refine zcr ?_; first | refine zcs ?_ | refine zct ?_) | (refine zdb ?_; first | refine zdc ?_ | refine zdd ?_ | refine zdg ?_ | refine zdi rfl ?_) | refine zaa rfl (opj_fconv rfl (.inl rfl)) ?_
    exact done_ret1 rfl () rfl trivial (List.nil_sublist _)
  rw [hf] at hfin
  obtain ⟨q, hv⟩ := fin_vl hf
  have habs : Fn Try.prog 65 (fun _ => [.f .f64 t]) (.f .f64 (fabs64 t)) := by
    obtain ⟨b, s, m, e, hb, hd, _⟩ := hv
    exact abs_fn t b hb (by rw [hd]; rfl)
  have hbig := big_abs hv
  cases hb : bigT t
  case true =>
    rw [hb] at hbig
    have hp : phasF t = (fv .f32 1065353216, fv .f32 0) := by unfold phasF; rw [hf, hb]
    rw [hp]
    refine fn_intro Try.func40 rfl Try.ntmps40 (fun _ => Nat.le_of_ble_eq_true rfl) fun w0 => ?_
    repeat first | refine zaa rfl (zay rfl) ?_ | refine zaa rfl (zaz rfl) ?_ | (refine zac ?_; refine zaa rfl (zbd rfl rfl rfl) ?_) | (refine zad ?_; first | (refine zaa rfl (zci rfl rfl (hfin) ?_) ?_; (focus ((repeat (first | exact Takes.nil | refine Takes.sl ?_ | refine Takes.own (by (repeat (first | exact mh | refine mt ?_)); done) (by simp) (by omega) (by simp only [maxLen]; omega) ?_ | refine Takes.same ?_)); done))) | (refine zaa rfl (zci rfl rfl (habs) ?_) ?_; (focus ((repeat (first | exact Takes.nil | refine Takes.sl ?_ | refine Takes.own (by (repeat (first | exact mh | refine mt ?_)); done) (by simp) (by omega) (by simp only [maxLen]; omega) ?_ | refine Takes.same ?_)); done)))) | refine zaa rfl (zcc rfl) ?_ | refine zah ?_ | (refine zcr ?_; refine zcs ?_) | (refine zdb ?_; first | refine zdc ?_ | refine zdd ?_ | refine zdf ?_ | refine zdj rfl ?_)
    rw [hbig]
    repeat first | refine zaa rfl (zaz rfl) ?_ | refine zah ?_ | (refine zcr ?_; first | refine zcs ?_ | refine zct ?_) | (refine zdb ?_; first | refine zdc ?_ | refine zdd ?_ | refine zdg ?_ | refine zdi rfl ?_)
    exact done_ret1 rfl () rfl trivial (List.nil_sublist _)
  rw [hb] at hbig
  have hsm := small_sm hv hb
  have hp : phasF t = (fconv .f64 .f32 (phW t).1, fconv .f64 .f32 (phW t).2) := by unfold phasF; rw [hf, hb]
  rw [hp]
  have hfr := fraction_fn t hsm
  refine fn_intro Try.func40 rfl Try.ntmps40 (fun _ => Nat.le_of_ble_eq_true rfl) fun w0 => ?_
  repeat first | refine zaa rfl (zay rfl) ?_ | refine zaa rfl (zaz rfl) ?_ | (refine zac ?_; refine zaa rfl (zbd rfl rfl rfl) ?_) | (refine zad ?_; first | (refine zaa rfl (zci rfl rfl (hfin) ?_) ?_; (focus ((repeat (first | exact Takes.nil | refine Takes.sl ?_ | refine Takes.own (by (repeat (first | exact mh | refine mt ?_)); done) (by simp) (by omega) (by simp only [maxLen]; omega) ?_ | refine Takes.same ?_)); done))) | (refine zaa rfl (zci rfl rfl (habs) ?_) ?_; (focus ((repeat (first | exact Takes.nil | refine Takes.sl ?_ | refine Takes.own (by (repeat (first | exact mh | refine mt ?_)); done) (by simp) (by omega) (by simp only [maxLen]; omega) ?_ | refine Takes.same ?_)); done)))) | refine zaa rfl (zcc rfl) ?_ | refine zah ?_ | (refine zcr ?_; refine zcs ?_) | (refine zdb ?_; first | refine zdc ?_ | refine zdd ?_ | refine zdf ?_ | refine zdj rfl ?_)
  rw [hbig]
  repeat first | refine zaa rfl (zay rfl) ?_ | refine zaa rfl (zaz rfl) ?_ | (refine zad ?_; (refine zaa rfl (zci rfl rfl (hfr) ?_) ?_; (focus ((repeat (first | exact Takes.nil | refine Takes.sl ?_ | refine Takes.own (by (repeat (first | exact mh | refine mt ?_)); done) (by simp) (by omega) (by simp only [maxLen]; omega) ?_ | refine Takes.same ?_)); done)))) | refine zah ?_ | (refine zcr ?_; refine zcs ?_) | (refine zdb ?_; first | refine zdc ?_ | refine zdd ?_ | refine zde ?_ | refine zdf ?_ | refine zdj rfl ?_)
  refine ws_loop (ι := Nat) (fun j => [(4, .f .f64 (qF j (fracF t))), (5, .raw (.int .i64 j))]) (fun _ => St w0 [] []) (fun j => ∀ i, i < j → geQ (qF i (fracF t)) = true) (fun j => 5 - j) 0 (fun i hi => by omega) ?_ (fun _ h => h) (fun j hj => ?_)
  · (repeat (first | exact Env.sub_nil _ | refine Env.sub_cons rfl ?_))
  have hj4 := (q_vl (frac_vl hsm) j hj).1
  repeat first | refine zaa rfl (zay rfl) ?_ | (refine zac ?_; refine zaa rfl (zbd rfl rfl rfl) ?_) | refine zah ?_ | (refine zcr ?_; refine zcs ?_) | (refine zdb ?_; first | refine zdc ?_ | refine zdd ?_)
  refine ws_cond rfl (fun hd => ?_) (fun hd => ?_)
  · have hj1 : ∀ i, i < j + 1 → geQ (qF i (fracF t)) = true := fun i hi => by
      rcases Nat.lt_or_ge i j with h | h
      · exact hj i h
      · obtain rfl : i = j := by omega
        exact hd
    repeat first | refine zaa rfl (zay rfl) ?_ | refine zaa rfl (zaz rfl) ?_ | (refine zac ?_; first | refine zaa rfl (zba rfl rfl rfl) ?_ | refine zaa rfl (zbb rfl rfl (by omega)) ?_) | refine zah ?_ | (refine zcr ?_; first | refine zcs ?_ | refine zcv ?_) | (refine zdb ?_; first | refine zdc ?_ | refine zdd ?_ | refine zde ?_ | refine zdf ?_)
    refine done_round (j + 1) hj1 (by omega) ?_ (fun _ h => h)
    (repeat (first | exact Env.sub_nil _ | refine Env.sub_cons rfl ?_))
  · obtain ⟨h4, hs1, hs2, hw, ⟨hc1, hc2⟩, hs3, hs4⟩ := phas_exit hsm hj hd
    have hcall1 := sine_fn _ hs2
    have hcall2 := sine_fn _ hs1
    clear hj hd hj4
    rw [hw]
    clear hw hs1 hs2
    generalize sinF (fbin .sub .f64 dQ (qF j (fracF t))) = C at *
    generalize sinF (qF j (fracF t)) = S at *
    have hcase : j = 0 ∨ j = 1 ∨ j = 2 ∨ j = 3 ∨ j = 4 := by omega
    clear h4
    rcases hcase with rfl | rfl | rfl | rfl | rfl
    all_goals
      repeat first | refine zaa rfl (zay rfl) ?_ | refine zaa rfl (zaz rfl) ?_ | (refine zac ?_; first | refine zaa rfl (zba rfl rfl rfl) ?_ | refine zaa rfl (zbi rfl rfl) ?_) | (refine zad ?_; first | refine zaa rfl (zbr rfl rfl) ?_ | (refine zaa rfl (zci rfl rfl (hcall1) ?_) ?_; (focus ((repeat (first | exact Takes.nil | refine Takes.sl ?_ | refine Takes.own (by (repeat (first | exact mh | refine mt ?_)); done) (by simp) (by omega) (by simp only [maxLen]; omega) ?_ | refine Takes.same ?_)); done))) | (refine zaa rfl (zci rfl rfl (hcall2) ?_) ?_; (focus ((repeat (first | exact Takes.nil | refine Takes.sl ?_ | refine Takes.own (by (repeat (first | exact mh | refine mt ?_)); done) (by simp) (by omega) (by simp only [maxLen]; omega) ?_ | refine Takes.same ?_)); done)))) | refine zah ?_ | (refine zcr ?_; first | refine zcs ?_ | refine zcu ?_ | refine zcv ?_ | refine zcx ?_ | refine zda ?_) | (refine zdb ?_; first | refine zdc ?_ | refine zdd ?_ | refine zde ?_ | refine zdf ?_ | refine zdg ?_ | refine zdh ?_ | refine zdi rfl ?_ | refine zdj rfl ?_) | refine zaa rfl (opj_fconv rfl hc1) ?_ | refine zaa rfl (opj_fconv rfl hc2) ?_ | refine zaa rfl (opj_fconv rfl hs3) ?_ | refine zaa rfl (opj_fconv rfl hs4) ?_
      exact done_ret1 rfl () rfl trivial (List.nil_sublist _)
end Go.Ab
namespace Go.Ab
open Go.Proofs
abbrev CV := FV × FV
def cA (p : CV) : AV := .c .f32 p.1 p.2
/-- A list of complex numbers that came in. -/
abbrev slC (w : World) (L : List CV) : AV := AV.sl w 1 (L.map cA)
def tabC (n : Nat) (f : Nat → CV) : List CV := (List.range n).map f
@[simp] theorem tabC_length (n : Nat) (f : Nat → CV) : (tabC n f).length = n := by simp [tabC]
theorem tabC_get {n : Nat} (f : Nat → CV) {i : Nat} (h : i < n) : (tabC n f)[i]? = some (f i) := by simp [tabC, h]
theorem tabC_getD {n : Nat} (f : Nat → CV) {i : Nat} (h : i < n) : (tabC n f).getD i default = f i := by simp [List.getD, tabC_get f h]
theorem tabC_ext {L : List CV} {n : Nat} {f : Nat → CV} (hl : L.length = n) (h : ∀ i, i < n → L[i]? = some (f i)) : L = tabC n f := by
  apply List.ext_getElem?
  intro i
  rcases Nat.lt_or_ge i n with hi | hi
  · rw [h i hi, tabC_get f hi]
  · rw [List.getElem?_eq_none (by omega), List.getElem?_eq_none (by rw [tabC_length]; exact hi)]
theorem tabC_congr {n : Nat} {f g : Nat → CV} (h : ∀ i, i < n → f i = g i) : tabC n f = tabC n g := tabC_ext (tabC_length n f) fun i hi => by rw [tabC_get f hi, h i hi]
theorem tabC_snoc (n : Nat) (f : Nat → CV) : tabC n f ++ [f n] = tabC (n + 1) f := by unfold tabC; rw [List.range_succ, List.map_append]; rfl
abbrev entC (g n : Nat) (f : Nat → CV) (c : Nat) : Ent := ⟨g, 31, (tabC n f).map cA, c⟩
attribute [local irreducible] WS RS Done OpJ Then InBlock Round Ret Env.sub FnH
def finC (p : CV) : Bool := finB p.1 && finB p.2
theorem isFiniteComplex_fn (p : CV) : Fn Try.prog 34 (fun _ => [cA p]) (.raw (.bool (finC p))) := by
  have h1 := isFinite_fn p.1
  have h2 := isFinite_fn p.2
  unfold finC
  cases hb : finB p.1 <;> rw [hb] at h1
  all_goals
    refine fn_intro Try.func34 rfl Try.ntmps34 (fun _ => Nat.le_of_ble_eq_true rfl) fun w0 => ?_
    unfold cA
    repeat first | refine zai rfl rfl ?_ | refine zaj rfl rfl rfl rfl ?_ | refine zaa rfl (zay rfl) ?_ | refine zaa rfl (zaz rfl) ?_ | (refine zad ?_; first | refine zaa rfl (zbp rfl) ?_ | refine zaa rfl (zbq rfl) ?_ | (refine zaa rfl (zci rfl rfl (h1) ?_) ?_; (focus ((repeat (first | exact Takes.nil | refine Takes.sl ?_ | refine Takes.own (by (repeat (first | exact mh | refine mt ?_)); done) (by simp) (by omega) (by simp only [maxLen]; omega) ?_ | refine Takes.same ?_)); done))) | (refine zaa rfl (zci rfl rfl (h2) ?_) ?_; (focus ((repeat (first | exact Takes.nil | refine Takes.sl ?_ | refine Takes.own (by (repeat (first | exact mh | refine mt ?_)); done) (by simp) (by omega) (by simp only [maxLen]; omega) ?_ | refine Takes.same ?_)); done)))) | refine zaa rfl (zca rfl rfl) ?_ | refine zaa rfl (zcb rfl rfl) ?_ | refine zah ?_ | (refine zcr ?_; refine zcs ?_) | (refine zdb ?_; first | refine zdc ?_ | refine zdd ?_ | refine zdg ?_)
    exact done_ret1 rfl () rfl trivial (List.nil_sublist _)
theorem arePoints1_fn (p : CV) : Fn Try.prog 73 (fun _ => [cA p]) (.raw (.bool (!(finC p)))) := by
  refine fn_intro Try.func73 rfl Try.ntmps73 (fun _ => Nat.le_of_ble_eq_true rfl) fun w0 => ?_
  repeat first | refine zaa rfl (zay rfl) ?_ | refine zaa rfl (zaz rfl) ?_ | (refine zad ?_; (refine zaa rfl (zci rfl rfl (isFiniteComplex_fn p) ?_) ?_; (focus ((repeat (first | exact Takes.nil | refine Takes.sl ?_ | refine Takes.own (by (repeat (first | exact mh | refine mt ?_)); done) (by simp) (by omega) (by simp only [maxLen]; omega) ?_ | refine Takes.same ?_)); done)))) | refine zaa rfl (zcc rfl) ?_ | refine zah ?_ | (refine zcr ?_; refine zcs ?_) | (refine zdb ?_; first | refine zdc ?_ | refine zdd ?_ | refine zdg ?_)
  exact done_ret1 rfl () rfl trivial (List.nil_sublist _)
theorem indexFuncC_fn (L : List CV) (hL : L.length < 2 ^ 62) (c : FuncId) [HasBody Try.prog c] (p : CV → Bool) (hp : ∀ x, Fn Try.prog c (fun _ => [cA x]) (.raw (.bool (p x)))) :
    Fn Try.prog 80 (fun w => [slC w L, .raw (.func (.func c) #[] #[])]) (.raw (.int .i64 (idxOf p L))) := by
  refine fn_intro Try.func80 rfl Try.ntmps80 (fun _ => Nat.le_of_ble_eq_true rfl) fun w0 => ?_
  repeat first | refine zaa rfl (zay rfl) ?_ | refine zaa rfl (zaz rfl) ?_ | (refine zad ?_; refine zaa rfl (zbm rfl) ?_) | refine zah ?_ | (refine zcr ?_; refine zcs ?_) | (refine zdb ?_; first | refine zdc ?_ | refine zdd ?_ | refine zde ?_)
  refine ws_loop (ι := Nat) (fun k => [(0, slC w0 L), (1, .raw (.func (.func c) #[] #[])), (7, .raw (.int .i64 L.length)), (8, .raw (.int .i64 k))]) (fun _ => St w0 [] []) (fun k => k ≤ L.length ∧ ∀ i, i < k → p (L.getD i default) = false) (fun k => L.length - k) 0 ⟨Nat.zero_le _, fun i hi => by omega⟩ ?_ (fun _ h => h) (fun k hk => ?_)
  · (repeat (first | exact Env.sub_nil _ | refine Env.sub_cons rfl ?_))
  · obtain ⟨hk, hall⟩ := hk
    repeat first | (refine zac ?_; refine zaa rfl (zbe rfl rfl) ?_) | refine zah ?_ | (refine zcr ?_; refine zcs ?_) | (refine zdb ?_; first | refine zdc ?_ | refine zdd ?_)
    refine ws_cond rfl (fun hc => ?_) (fun hc => ?_)
    · have hlt : (k : Int) < L.length := of_decide_eq_true hc
      repeat first | refine zaa rfl (zay rfl) ?_ | refine zaa rfl (zaz rfl) ?_ | (refine zad ?_; refine zaa rfl (zci rfl rfl (hp _) (by (repeat (first | exact Takes.nil | refine Takes.sl ?_ | refine Takes.own (by (repeat (first | exact mh | refine mt ?_)); done) (by simp) (by omega) (by simp only [maxLen]; omega) ?_ | refine Takes.same ?_)); done)) ?_) | refine zaa rfl (zbu rfl rfl) ?_ | refine zaa rfl (zbv rfl rfl (by omega) (by omega)) ?_ | refine zah ?_ | (refine zcr ?_; refine zcs ?_) | (refine zdb ?_; first | refine zdc ?_ | refine zdd ?_ | refine zde ?_ | refine zdf ?_)
      refine ws_cond rfl (fun hd => ?_) (fun hd => ?_)
      · repeat first | refine zaa rfl (zay rfl) ?_ | refine zaa rfl (zaz rfl) ?_ | refine zah ?_ | (refine zcr ?_; first | refine zcs ?_ | refine zct ?_ | refine zcw ?_ | refine zcz ?_) | (refine zdb ?_; first | refine zdc ?_ | refine zdd ?_ | refine zdg ?_)
        exact done_ret1 rfl () (by rw [idxOf_found (by omega) hall hd]; rfl) trivial (List.nil_sublist _)
      · repeat first | refine zaa rfl (zay rfl) ?_ | (refine zac ?_; refine zaa rfl (zbb rfl rfl (by omega)) ?_) | refine zah ?_ | (refine zcr ?_; first | refine zcs ?_ | refine zcv ?_) | (refine zdb ?_; first | refine zdd ?_ | refine zdf ?_)
        refine done_round (k + 1) ⟨by omega, fun i hi => ?_⟩ (by omega) ?_ (fun _ h => h)
        · rcases Nat.lt_or_ge i k with h | h
          · exact hall i h
          · obtain rfl : i = k := by omega
            exact hd
        · (repeat (first | exact Env.sub_nil _ | refine Env.sub_cons rfl ?_))
    · have hge : ¬ (k : Int) < L.length := of_decide_eq_false hc
      repeat first | refine zaa rfl (zaz rfl) ?_ | refine zah ?_ | (refine zcr ?_; first | refine zcs ?_ | refine zcu ?_ | refine zcx ?_ | refine zda ?_) | (refine zdb ?_; first | refine zdc ?_ | refine zdd ?_ | refine zdg ?_ | refine zdh ?_)
      exact done_ret1 rfl () (by rw [idxOf_none (fun i hi => hall i (by omega))]; rfl) trivial (List.nil_sublist _)
theorem containsFuncC_fn (L : List CV) (hL : L.length < 2 ^ 62) (c : FuncId) [HasBody Try.prog c] (p : CV → Bool) (hp : ∀ x, Fn Try.prog c (fun _ => [cA x]) (.raw (.bool (p x)))) :
    Fn Try.prog 72 (fun w => [slC w L, .raw (.func (.func c) #[] #[])]) (.raw (.bool (L.any p))) := by
  refine fn_intro Try.func72 rfl Try.ntmps72 (fun _ => Nat.le_of_ble_eq_true rfl) fun w0 => ?_
  repeat first | refine zaa rfl (zay rfl) ?_ | refine zaa rfl (zaz rfl) ?_ | (refine zac ?_; refine zaa rfl (zbh rfl rfl) ?_) | (refine zad ?_; (refine zaa rfl (zci rfl rfl (indexFuncC_fn _ hL _ _ hp) ?_) ?_; (focus ((repeat (first | exact Takes.nil | refine Takes.sl ?_ | refine Takes.own (by (repeat (first | exact mh | refine mt ?_)); done) (by simp) (by omega) (by simp only [maxLen]; omega) ?_ | refine Takes.same ?_)); done)))) | refine zah ?_ | (refine zcr ?_; refine zcs ?_) | (refine zdb ?_; first | refine zdc ?_ | refine zdd ?_ | refine zdg ?_)
  exact done_ret1 rfl () (by rw [← idxOf_nonneg]; rfl) trivial (List.nil_sublist _)
theorem arePoints_fn (L : List CV) (hL : L.length < 2 ^ 62) : Fn Try.prog 53 (fun w => [slC w L]) (.raw (.bool (L.all finC))) := by
  refine fn_intro Try.func53 rfl Try.ntmps53 (fun _ => Nat.le_of_ble_eq_true rfl) fun w0 => ?_
  repeat first | refine zaa rfl (zay rfl) ?_ | refine zaa rfl (zaz rfl) ?_ | (refine zad ?_; (refine zaa rfl (zci rfl rfl (containsFuncC_fn _ hL _ _ arePoints1_fn) ?_) ?_; (focus ((repeat (first | exact Takes.nil | refine Takes.sl ?_ | refine Takes.own (by (repeat (first | exact mh | refine mt ?_)); done) (by simp) (by omega) (by simp only [maxLen]; omega) ?_ | refine Takes.same ?_)); done)))) | refine zaa rfl (zcc rfl) ?_ | refine zah ?_ | (refine zcr ?_; refine zcs ?_) | (refine zdb ?_; first | refine zdc ?_ | refine zdd ?_ | refine zdg ?_)
  exact done_ret1 rfl () (by rw [show L.all finC = !(L.any fun x => !(finC x)) from by simp [List.all_eq_not_any_not]]; rfl) trivial (List.nil_sublist _)
end Go.Ab
