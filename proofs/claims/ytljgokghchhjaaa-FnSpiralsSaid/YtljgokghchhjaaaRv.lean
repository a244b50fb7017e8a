/- Powers of two and the values of data, as rational numbers; how far a number is from the word nearest to it. No conditions. -/
import Derived.Test.YtljgokghchhjaaaNum
namespace Go.Ab

/-! Powers of two. -/
def p2 (e : Int) : Rat := (2 : Rat) ^ e
theorem p2_pos (e : Int) : 0 < p2 e := Rat.zpow_pos (by decide)
theorem p2_add (a b : Int) : p2 (a + b) = p2 a * p2 b := Rat.zpow_add (by decide) a b
theorem p2_zero : p2 0 = 1 := rfl
theorem p2_nat (n : Nat) : p2 n = ((2 ^ n : Nat) : Rat) := by
  show (2 : Rat) ^ (n : Int) = _
  rw [Rat.zpow_natCast, Rat.natCast_pow]
  rfl
theorem p2_one : p2 1 = 2 := by
  have := p2_nat 1
  simpa using this
theorem p2_split {a b : Int} (h : a ≤ b) : p2 b = ((2 ^ (b - a).toNat : Nat) : Rat) * p2 a := by
  rw [← p2_nat, ← p2_add]
  congr 1
  omega
theorem one_le_two_pow (n : Nat) : (1 : Rat) ≤ ((2 ^ n : Nat) : Rat) := by
  have h : 1 ≤ 2 ^ n := Nat.one_le_two_pow
  exact_mod_cast (Rat.natCast_le_natCast.2 h)
theorem p2_le {a b : Int} (h : a ≤ b) : p2 a ≤ p2 b := by
  rw [p2_split h]
  have h1 := one_le_two_pow (b - a).toNat
  have h2 := Rat.mul_le_mul_of_nonneg_right h1 (Rat.le_of_lt (p2_pos a))
  rwa [Rat.one_mul] at h2
theorem p2_mul_neg (a : Int) : p2 a * p2 (-a) = 1 := by
  rw [← p2_add, Int.add_right_neg, p2_zero]
theorem mul_shl (m n : Nat) (e : Int) : ((m <<< n : Nat) : Rat) * p2 e = (m : Rat) * p2 (e + n) := by
  rw [Nat.shiftLeft_eq, Rat.natCast_mul, ← p2_nat, Rat.mul_assoc, ← p2_add]
  congr 2
  omega

/-! Values. -/
def sgn (s : Bool) : Rat := if s then -1 else 1
def vl (s : Bool) (m : Nat) (e : Int) : Rat := sgn s * ((m : Rat) * p2 e)
theorem sgn_sq (s : Bool) : sgn s * sgn s = 1 := by cases s <;> decide +kernel
theorem vl_neg (s : Bool) (m : Nat) (e : Int) : vl (!s) m e = - vl s m e := by
  unfold vl sgn
  cases s <;> simp <;> grind
theorem vl_signed (s : Bool) (m k : Nat) (e : Int) : ((Ieee.signed s m k : Int) : Rat) * p2 e = vl s m (e + k) := by
  unfold Ieee.signed vl sgn
  have h := mul_shl m k e
  cases s
  · simp only [Bool.false_eq_true, if_false]
    rw [Rat.one_mul, ← h]
    rfl
  · simp only [if_true]
    rw [Rat.intCast_neg, ← h]
    show -((m <<< k : Nat) : Rat) * p2 e = _
    grind
theorem vl_int (n : Int) (e : Int) : (n : Rat) * p2 e = vl (decide (n < 0)) n.natAbs e := by
  unfold vl sgn
  rcases (show n < 0 ∨ 0 ≤ n from by omega) with h | h
  · rw [decide_eq_true h, if_pos rfl]
    have : ((n.natAbs : Nat) : Rat) = -(n : Rat) := by
      rw [← Rat.intCast_natCast, ← Rat.intCast_neg]
      congr 1
      omega
    rw [this]
    grind
  · rw [decide_eq_false (by omega), if_neg (by decide)]
    have : ((n.natAbs : Nat) : Rat) = (n : Rat) := by
      rw [← Rat.intCast_natCast]
      congr 1
      omega
    rw [this, Rat.one_mul]
/-- The same value, whatever the sign of a nought. -/
theorem vl_zero (s : Bool) (e : Int) : vl s 0 e = 0 := by
  unfold vl
  rw [show ((0 : Nat) : Rat) = 0 from rfl, Rat.zero_mul, Rat.mul_zero]

/-! Rounding. -/
theorem cut_err (neg : Bool) (n d : Nat) : 2 * n ≤ 2 * (Ieee.Toward.even.cut neg n d * 2 ^ d) + 2 ^ d ∧ 2 * (Ieee.Toward.even.cut neg n d * 2 ^ d) ≤ 2 * n + 2 ^ d := by
  unfold Ieee.Toward.cut
  dsimp only
  rw [Nat.one_shiftLeft]
  rcases Nat.le_total d (n.log2 + 2) with hm | hm
  · rw [Nat.min_eq_left hm]
    have hG : 0 < 2 ^ d := Nat.two_pow_pos _
    generalize 2 ^ d = G at *
    have h1 := Nat.div_add_mod n G
    have h2 := Nat.mod_lt n hG
    generalize n / G = q at *
    generalize n % G = r at *
    rw [Nat.mul_comm] at h1
    have hx : ∀ b : Bool, (q + b.toNat) * G = q * G + b.toNat * G := fun b => Nat.add_mul _ _ _
    rw [hx]
    generalize q * G = qg at *
    cases hb : (decide (G < 2 * r) || (G == 2 * r && q % 2 == 1)) with
    | true =>
      simp only [Bool.toNat_true, Nat.one_mul]
      have : G ≤ 2 * r := by
        rw [Bool.or_eq_true, Bool.and_eq_true] at hb
        rcases hb with hb | hb
        · have := of_decide_eq_true hb; omega
        · have := beq_iff_eq.1 hb.1; omega
      omega
    | false =>
      simp only [Bool.toNat_false, Nat.zero_mul]
      have : 2 * r ≤ G := by
        rw [Bool.or_eq_false_iff] at hb
        have := of_decide_eq_false hb.1
        omega
      omega
  · rw [Nat.min_eq_right hm]
    have h1 : n < 2 ^ (n.log2 + 1) := Nat.lt_log2_self
    have h2 : 2 ^ (n.log2 + 2) = 2 * 2 ^ (n.log2 + 1) := by rw [Nat.pow_succ]; omega
    have h3 : 2 ^ (n.log2 + 2) ≤ 2 ^ d := Nat.pow_le_pow_right (by decide) hm
    have h4 : n / 2 ^ (n.log2 + 2) = 0 := Nat.div_eq_of_lt (by omega)
    have h5 : n % 2 ^ (n.log2 + 2) = n := Nat.mod_eq_of_lt (by omega)
    rw [h4, h5]
    have h6 : (decide (2 ^ (n.log2 + 2) < 2 * n) || (2 ^ (n.log2 + 2) == 2 * n && 0 % 2 == 1)) = false := by
      rw [decide_eq_false (by omega)]
      simp
    rw [h6]
    simp only [Bool.toNat_false, Nat.add_zero, Nat.zero_mul]
    omega

/-- The place of the last digit that is kept. -/
def lastP (f : Ieee.Format) (m : Nat) (e : Int) : Int := max (e + m.log2 - f.fractionBits) f.leastPlace
theorem read_rung (f : Ieee.Format) (s : Bool) (a kept : Nat) (hk : kept ≤ 2 ^ (f.fractionBits + 1)) (ha : 0 < a → 2 ^ f.fractionBits ≤ kept) (hlt : a * f.binade + kept < f.infRung) :
    ∃ m' e', f.read (f.word s (a * f.binade + kept)) = .number s m' e' ∧ (m' : Rat) * p2 e' = (kept : Rat) * p2 (f.leastPlace + a) := by
  have hb : f.binade = 2 ^ f.fractionBits := rfl
  have hB : 0 < f.binade := Nat.two_pow_pos _
  have hsw : a * f.binade + kept < f.signWeight := Nat.lt_trans hlt f.infRung_lt
  have hsg : (f.word s (a * f.binade + kept) / f.signWeight % 2 == 1) = s := by
    unfold Ieee.Format.word
    cases s
    · simp only [Bool.false_eq_true, if_false]
      rw [Nat.div_eq_of_lt hsw]
      rfl
    · simp only [if_true]
      have hpos : 0 < f.signWeight := Nat.two_pow_pos _
      rw [Nat.add_comm, Nat.add_div_right _ hpos, Nat.div_eq_of_lt hsw]
      rfl
  unfold Ieee.Format.read
  simp only [word_mod f s hsw, hsg]
  rw [← hb] at ha
  have hk2 : kept ≤ 2 * f.binade := by rw [hb]; rw [Nat.pow_succ] at hk; omega
  clear hk
  by_cases h1 : a * f.binade + kept < f.binade
  · rw [if_pos h1]
    have h0 : a = 0 := by
      rcases Nat.eq_zero_or_pos a with h | h
      · exact h
      · have := Nat.mul_le_mul_right f.binade h
        omega
    subst h0
    refine ⟨_, _, rfl, ?_⟩
    rw [Nat.zero_mul, Nat.zero_add]
    congr 2
    omega
  · rw [if_neg h1, if_pos hlt]
    refine ⟨_, _, rfl, ?_⟩
    rcases Nat.lt_or_ge kept (2 * f.binade) with h2 | h2
    · have h3 : f.binade ≤ kept := by
        rcases Nat.eq_zero_or_pos a with h | h
        · subst h; omega
        · exact ha h
      obtain ⟨r, rfl⟩ : ∃ r, kept = f.binade + r := ⟨kept - f.binade, by omega⟩
      have e1 : a * f.binade + (f.binade + r) = r + f.binade * (a + 1) := by rw [Nat.mul_add, Nat.mul_one, Nat.mul_comm]; omega
      have hr : r < f.binade := by omega
      rw [e1, Nat.add_mul_mod_self_left, Nat.mod_eq_of_lt hr, Nat.add_mul_div_left _ _ hB, Nat.div_eq_of_lt hr]
      congr 2
      omega
    · have h3 : kept = 2 * f.binade := by omega
      subst h3
      have e1 : a * f.binade + 2 * f.binade = f.binade * (a + 2) := by rw [Nat.mul_add, Nat.mul_comm f.binade 2, Nat.mul_comm]
      rw [e1, Nat.mul_mod_right, Nat.mul_div_right _ hB]
      have e2 : ((a + 2 - 1 : Nat) : Int) = (a : Int) + 1 := by omega
      rw [e2, Nat.add_zero, Rat.natCast_mul, ← Int.add_assoc, p2_add _ 1, p2_one]
      have : ((2 : Nat) : Rat) = 2 := rfl
      rw [this]
      grind

/-- Where the nearest word lies, by the grid of its last place. -/
theorem nearest_grid (f : Ieee.Format) (s : Bool) (m : Nat) (e : Int) (hm : m ≠ 0) (hhi : lastP f m e - f.leastPlace + 2 < 2 ^ f.exponentBits - 1) :
    ∃ m' e' kept, f.read (f.nearest s m e) = .number s m' e' ∧ (m' : Rat) * p2 e' = ((kept : Nat) : Rat) * p2 (lastP f m e) ∧
      2 * ((m : Rat) * p2 e) ≤ 2 * ((kept : Rat) * p2 (lastP f m e)) + p2 (lastP f m e) ∧ 2 * ((kept : Rat) * p2 (lastP f m e)) ≤ 2 * ((m : Rat) * p2 e) + p2 (lastP f m e) := by
  unfold Ieee.Format.nearest
  rw [if_neg hm]
  dsimp only
  have hl : max (e + (m.log2 : Int) - f.fractionBits) f.leastPlace = lastP f m e := rfl
  rw [hl]
  have hlast2 : e + m.log2 - f.fractionBits ≤ lastP f m e := Int.le_max_left _ _
  have hlast3 : f.leastPlace ≤ lastP f m e := Int.le_max_right _ _
  have hlast4 : lastP f m e = f.leastPlace ∨ lastP f m e = e + m.log2 - f.fractionBits := by unfold lastP; omega
  generalize lastP f m e = last at *
  have herr := cut_err s (m <<< (e - last).toNat) (last - e).toNat
  have hcut : Ieee.Toward.even.cut s (m <<< (e - last).toNat) (last - e).toNat ≤ 2 ^ (f.fractionBits + 1) := by
    refine cut_le _ _ _ _ ?_
    rw [Nat.shiftLeft_eq]
    have h1 : m < 2 ^ (m.log2 + 1) := Nat.lt_log2_self
    have h2 : m * 2 ^ (e - last).toNat < 2 ^ (m.log2 + 1) * 2 ^ (e - last).toNat := Nat.mul_lt_mul_of_pos_right h1 (Nat.two_pow_pos _)
    rw [← Nat.pow_add] at h2
    exact Nat.lt_of_lt_of_le h2 (Nat.pow_le_pow_right (by decide) (by omega))
  have hlow : f.leastPlace < last → 2 ^ f.fractionBits ≤ Ieee.Toward.even.cut s (m <<< (e - last).toNat) (last - e).toNat := by
    intro hlt
    have hle : last = e + m.log2 - f.fractionBits := by omega
    have h1 : 2 ^ m.log2 ≤ m := Nat.log2_self_le hm
    have h2 : 2 ^ (f.fractionBits + (last - e).toNat) ≤ m <<< (e - last).toNat := by
      rw [Nat.shiftLeft_eq]
      have h3 : 2 ^ m.log2 * 2 ^ (e - last).toNat ≤ m * 2 ^ (e - last).toNat := Nat.mul_le_mul_right _ h1
      rw [← Nat.pow_add] at h3
      refine Nat.le_trans (Nat.pow_le_pow_right (by decide) ?_) h3
      omega
    rw [Nat.pow_add] at h2
    generalize m <<< (e - last).toNat = n at *
    generalize Ieee.Toward.even.cut s n (last - e).toNat = kept at *
    have hG : 0 < 2 ^ (last - e).toNat := Nat.two_pow_pos _
    generalize 2 ^ (last - e).toNat = G at *
    generalize 2 ^ f.fractionBits = B at *
    rcases Nat.lt_or_ge kept B with h | h
    · exfalso
      have h4 : (kept + 1) * G ≤ B * G := Nat.mul_le_mul_right _ h
      rw [Nat.add_mul, Nat.one_mul] at h4
      omega
    · exact h
  generalize hkept : Ieee.Toward.even.cut s (m <<< (e - last).toNat) (last - e).toNat = kept at *
  have hb : f.binade = 2 ^ f.fractionBits := rfl
  have hi : (f.infRung : Int) = (2 ^ f.exponentBits - 1) * 2 ^ f.fractionBits := by
    unfold Ieee.Format.infRung
    rw [hb]
    have : 1 ≤ 2 ^ f.exponentBits := Nat.one_le_two_pow
    push_cast [Int.natCast_sub this]
    rfl
  have hB : 0 < 2 ^ f.fractionBits := Nat.two_pow_pos _
  have hrung : (last - f.leastPlace).toNat * f.binade + kept < f.infRung := by
    have h1 : (((last - f.leastPlace).toNat * f.binade + kept : Nat) : Int) ≤ (last - f.leastPlace + 2) * 2 ^ f.fractionBits := by
      have e1 : (((last - f.leastPlace).toNat : Nat) : Int) = last - f.leastPlace := by omega
      rw [hb, Int.natCast_add, Int.natCast_mul, e1, Int.add_mul]
      have h2 : (kept : Int) ≤ 2 * 2 ^ f.fractionBits := by
        rw [Nat.pow_succ, Nat.mul_comm] at hcut
        exact_mod_cast hcut
      have h3 : (((2 ^ f.fractionBits : Nat)) : Int) = 2 ^ f.fractionBits := by push_cast; rfl
      rw [h3]
      omega
    have h2 : (last - f.leastPlace + 2) * 2 ^ f.fractionBits < (2 ^ f.exponentBits - 1) * 2 ^ f.fractionBits := Int.mul_lt_mul_of_pos_right hhi (by exact_mod_cast hB)
    have : (((last - f.leastPlace).toNat * f.binade + kept : Nat) : Int) < f.infRung := by rw [hi]; omega
    exact_mod_cast this
  rw [Nat.min_eq_left (Nat.le_of_lt hrung)]
  obtain ⟨m', e', h1, h2⟩ := read_rung f s (last - f.leastPlace).toNat kept hcut (fun h => hlow (by omega)) hrung
  have e1 : f.leastPlace + ((last - f.leastPlace).toNat : Int) = last := by omega
  rw [e1] at h2
  refine ⟨m', e', kept, h1, h2, ?_⟩
  -- the error, in units of the place
  clear h1 h2 hrung hi hB hb hcut hlow hlast4 hlast2 hhi
  rcases Int.le_total last e with hle | hle
  · have a2 : (last - e).toNat = 0 := by omega
    rw [a2, cut_zero] at hkept
    subst hkept
    rw [mul_shl]
    have : last + ((e - last).toNat : Int) = e := by omega
    rw [this]
    have := p2_pos last
    constructor <;> grind
  · have a1 : (e - last).toNat = 0 := by omega
    rw [a1, Nat.shiftLeft_zero] at herr
    have hs := p2_split hle
    generalize 2 ^ (last - e).toNat = G at *
    have hp := p2_pos e
    obtain ⟨h1, h2⟩ := herr
    have h1' : (2 * (m : Rat)) ≤ 2 * ((kept : Rat) * (G : Rat)) + G := by exact_mod_cast Rat.natCast_le_natCast.2 h1
    have h2' : 2 * ((kept : Rat) * (G : Rat)) ≤ 2 * (m : Rat) + G := by exact_mod_cast Rat.natCast_le_natCast.2 h2
    have h3 := Rat.mul_le_mul_of_nonneg_right h1' (Rat.le_of_lt hp)
    have h4 := Rat.mul_le_mul_of_nonneg_right h2' (Rat.le_of_lt hp)
    rw [hs]
    constructor <;> grind

/-! How far, and on which side of what can be written. -/
def feps : FloatKind → Rat
  | .f32 => p2 (-23)
  | .f64 => p2 (-52)
def ftiny : FloatKind → Rat
  | .f32 => p2 (-149)
  | .f64 => p2 (-1074)
def ftop : FloatKind → Int
  | .f32 => 127
  | .f64 => 1023
/-- What can be written. -/
def RepN (k : FloatKind) (B : Rat) : Prop := ∃ (M : Nat) (E : Int), M ≤ 2 ^ (k.format.fractionBits + 1) ∧ k.format.leastPlace ≤ E ∧ B = (M : Rat) * p2 E
def Rep (k : FloatKind) (B : Rat) : Prop := RepN k B ∨ RepN k (-B)
/-- r is q rounded. -/
structure Rnd (k : FloatKind) (q r : Rat) : Prop where
  near : ∀ a, -a ≤ q → q ≤ a → q ≤ r + (a * feps k + ftiny k) ∧ r ≤ q + (a * feps k + ftiny k)
  side : ∀ B, Rep k B → (q ≤ B → r ≤ B) ∧ (B ≤ q → B ≤ r)

theorem nat_le_of_rat {a b : Nat} (h : 2 * (a : Rat) ≤ 2 * (b : Rat) + 1) : a ≤ b := by
  have h1 : ((2 * a : Nat) : Rat) ≤ ((2 * b + 1 : Nat) : Rat) := by
    rw [Rat.natCast_mul, Rat.natCast_add, Rat.natCast_mul]
    exact h
  have h2 := Rat.natCast_le_natCast.1 h1
  omega
theorem grid_le {kept N : Nat} {q P : Rat} (hP : 0 < P) (h : 2 * ((kept : Rat) * P) ≤ 2 * q + P) (hq : q ≤ (N : Rat) * P) : kept ≤ N := by
  refine nat_le_of_rat ?_
  have h1 : (2 * (kept : Rat)) * P ≤ (2 * (N : Rat) + 1) * P := by grind
  exact Rat.le_of_mul_le_mul_right h1 hP
theorem grid_ge {kept N : Nat} {q P : Rat} (hP : 0 < P) (h : 2 * q ≤ 2 * ((kept : Rat) * P) + P) (hq : (N : Rat) * P ≤ q) : N ≤ kept := by
  refine nat_le_of_rat ?_
  have h1 : (2 * (N : Rat)) * P ≤ (2 * (kept : Rat) + 1) * P := by grind
  exact Rat.le_of_mul_le_mul_right h1 hP
theorem mul_p2_le {a b : Nat} (h : a ≤ b) (e : Int) : (a : Rat) * p2 e ≤ (b : Rat) * p2 e :=
  Rat.mul_le_mul_of_nonneg_right (Rat.natCast_le_natCast.2 h) (Rat.le_of_lt (p2_pos e))
theorem p2_shl (n : Nat) (e : Int) : ((2 ^ n : Nat) : Rat) * p2 e = p2 (n + e) := by rw [← p2_nat, ← p2_add]
/-- The highest digit. -/
theorem log_le (m : Nat) (hm : m ≠ 0) (e : Int) : p2 (e + m.log2) ≤ (m : Rat) * p2 e := by
  have h := mul_p2_le (Nat.log2_self_le hm) e
  rw [p2_shl, Int.add_comm] at h
  exact h
theorem log_lt (m : Nat) (e : Int) : (m : Rat) * p2 e < p2 (e + m.log2 + 1) := by
  have h : (m : Rat) < ((2 ^ (m.log2 + 1) : Nat) : Rat) := Rat.natCast_lt_natCast.2 Nat.lt_log2_self
  have h2 := Rat.mul_lt_mul_of_pos_right h (p2_pos e)
  rw [p2_shl] at h2
  have : ((m.log2 + 1 : Nat) : Int) + e = e + m.log2 + 1 := by omega
  rwa [this] at h2
theorem p2_lt_of_lt {a b : Int} (h : p2 a < p2 b) : a < b := by
  rcases (show a < b ∨ b ≤ a from by omega) with h1 | h1
  · exact h1
  · exact absurd (p2_le h1) (Rat.not_le.2 h)
theorem grid_side (f : Ieee.Format) (m : Nat) (e : Int) (hm : m ≠ 0) (kept : Nat) (h1 : 2 * ((m : Rat) * p2 e) ≤ 2 * ((kept : Rat) * p2 (lastP f m e)) + p2 (lastP f m e)) (h2 : 2 * ((kept : Rat) * p2 (lastP f m e)) ≤ 2 * ((m : Rat) * p2 e) + p2 (lastP f m e))
    {M : Nat} {E : Int} (hM : M ≤ 2 ^ (f.fractionBits + 1)) (hE : f.leastPlace ≤ E) :
    ((m : Rat) * p2 e ≤ (M : Rat) * p2 E → (kept : Rat) * p2 (lastP f m e) ≤ (M : Rat) * p2 E) ∧ ((M : Rat) * p2 E ≤ (m : Rat) * p2 e → (M : Rat) * p2 E ≤ (kept : Rat) * p2 (lastP f m e)) := by
  have hP := p2_pos (lastP f m e)
  rcases Int.le_total (lastP f m e) E with hle | hle
  · have hB : (M : Rat) * p2 E = ((M * 2 ^ (E - lastP f m e).toNat : Nat) : Rat) * p2 (lastP f m e) := by
      rw [p2_split hle, Rat.natCast_mul, Rat.mul_assoc]
    rw [hB]
    exact ⟨fun h => mul_p2_le (grid_le hP h2 h) _, fun h => mul_p2_le (grid_ge hP h1 h) _⟩
  · rcases (show E < lastP f m e ∨ lastP f m e ≤ E from by omega) with hlt | hge
    · have hl : lastP f m e = e + m.log2 - f.fractionBits := by
        have : lastP f m e = f.leastPlace ∨ lastP f m e = e + m.log2 - f.fractionBits := by unfold lastP; omega
        omega
      have hlow := log_le m hm e
      have e1 : e + (m.log2 : Int) = (f.fractionBits : Int) + lastP f m e := by omega
      rw [e1, ← p2_shl] at hlow
      have hMB : (M : Rat) * p2 E ≤ ((2 ^ f.fractionBits : Nat) : Rat) * p2 (lastP f m e) := by
        refine Rat.le_trans (mul_p2_le hM E) ?_
        rw [p2_shl, p2_shl]
        exact p2_le (by omega)
      refine ⟨fun h => ?_, fun h => Rat.le_trans hMB (mul_p2_le (grid_ge hP h1 hlow) _)⟩
      have heq : (M : Rat) * p2 E = ((2 ^ f.fractionBits : Nat) : Rat) * p2 (lastP f m e) := Rat.le_antisymm hMB (Rat.le_trans hlow h)
      rw [heq] at h ⊢
      exact mul_p2_le (grid_le hP h2 h) _
    · have : E = lastP f m e := by omega
      subst this
      exact ⟨fun h => mul_p2_le (grid_le hP h2 h) _, fun h => mul_p2_le (grid_ge hP h1 h) _⟩
theorem last_bound (f : Ieee.Format) (m : Nat) (e : Int) (hm : m ≠ 0) : p2 (lastP f m e) ≤ ((m : Rat) * p2 e) * p2 (-(f.fractionBits : Int)) + p2 f.leastPlace := by
  have hlow := log_le m hm e
  have h0 := p2_pos (-(f.fractionBits : Int))
  have h1 := Rat.mul_le_mul_of_nonneg_right hlow (Rat.le_of_lt h0)
  rw [← p2_add] at h1
  have hlp := p2_pos f.leastPlace
  have : lastP f m e = f.leastPlace ∨ lastP f m e = e + m.log2 + -(f.fractionBits : Int) := by unfold lastP; omega
  rcases this with h | h
  · rw [h]
    have := p2_pos (e + m.log2 + -(f.fractionBits : Int))
    grind
  · rw [h]
    grind
theorem rnd_sign {k : FloatKind} {s : Bool} {q r : Rat} (h0 : 0 ≤ q) (hr : 0 ≤ r) (hn : q ≤ r + (q * feps k + ftiny k) ∧ r ≤ q + (q * feps k + ftiny k)) (he : 0 ≤ feps k)
    (hs : ∀ B, RepN k B → (q ≤ B → r ≤ B) ∧ (B ≤ q → B ≤ r)) : Rnd k (sgn s * q) (sgn s * r) := by
  have hneg : ∀ B, RepN k B → 0 ≤ B := fun B ⟨M, E, _, _, hB⟩ => by
    rw [hB]
    exact Rat.mul_nonneg Rat.natCast_nonneg (Rat.le_of_lt (p2_pos E))
  refine ⟨fun a h1 h2 => ?_, fun B hB => ?_⟩
  · have ha : q ≤ a := by cases s <;> simp only [sgn] at h1 h2 <;> grind
    have hm := Rat.mul_le_mul_of_nonneg_right ha he
    obtain ⟨h3, h4⟩ := hn
    cases s <;> simp only [sgn] <;> constructor <;> grind
  · rcases hB with hB | hB
    · have h3 := hs B hB
      have h4 := hneg B hB
      cases s
      · simp only [sgn, Bool.false_eq_true, if_false, Rat.one_mul]
        exact h3
      · simp only [sgn, if_true]
        refine ⟨fun h => by grind, fun h => ?_⟩
        have hB0 : B = 0 := by grind
        have hq0 : q = 0 := by grind
        have := (hs 0 ⟨0, k.format.leastPlace, Nat.zero_le _, Int.le_refl _, by rw [show ((0 : Nat) : Rat) = 0 from rfl, Rat.zero_mul]⟩).1 (by grind)
        grind
    · have h3 := hs (-B) hB
      have h4 := hneg (-B) hB
      cases s
      · simp only [sgn, Bool.false_eq_true, if_false, Rat.one_mul]
        refine ⟨fun h => ?_, fun h => by grind⟩
        have := (hs 0 ⟨0, k.format.leastPlace, Nat.zero_le _, Int.le_refl _, by rw [show ((0 : Nat) : Rat) = 0 from rfl, Rat.zero_mul]⟩).1 (by grind)
        grind
      · simp only [sgn, if_true]
        refine ⟨fun h => ?_, fun h => ?_⟩
        · have := h3.2 (by grind)
          grind
        · have := h3.1 (by grind)
          grind
theorem eps_eq (k : FloatKind) : feps k = p2 (-(k.format.fractionBits : Int)) := by cases k <;> rfl
theorem tiny_eq (k : FloatKind) : ftiny k = p2 k.format.leastPlace := by cases k <;> decide +kernel
theorem eps_pos (k : FloatKind) : 0 < feps k := by rw [eps_eq]; exact p2_pos _
theorem tiny_pos (k : FloatKind) : 0 < ftiny k := by rw [tiny_eq]; exact p2_pos _
theorem top_ok {k : FloatKind} {m : Nat} {e : Int} (hm : m ≠ 0) (h : (m : Rat) * p2 e < p2 (ftop k)) : lastP k.format m e - k.format.leastPlace + 2 < 2 ^ k.format.exponentBits - 1 := by
  have h1 := p2_lt_of_lt (Std.lt_of_le_of_lt (log_le m hm e) h)
  cases k
  · have a1 : FloatKind.f32.format.leastPlace = -149 := by decide
    have a2 : FloatKind.f32.format.fractionBits = 23 := rfl
    have a3 : FloatKind.f32.format.exponentBits = 8 := rfl
    unfold lastP
    rw [a1, a2, a3]
    simp only [ftop] at h1
    omega
  · have a1 : FloatKind.f64.format.leastPlace = -1074 := by decide
    have a2 : FloatKind.f64.format.fractionBits = 52 := rfl
    have a3 : FloatKind.f64.format.exponentBits = 11 := rfl
    unfold lastP
    rw [a1, a2, a3]
    simp only [ftop] at h1
    omega
/-- What is written is what is rounded. -/
theorem nearest_rnd' (k : FloatKind) (s : Bool) (m : Nat) (e : Int) (h : (m : Rat) * p2 e < p2 (ftop k)) :
    ∃ m' e', k.decode (k.format.nearest s m e) = .number s m' e' ∧ Rnd k (vl s m e) (vl s m' e') ∧ (∀ B, RepN k B → ((m : Rat) * p2 e ≤ B → (m' : Rat) * p2 e' ≤ B) ∧ (B ≤ (m : Rat) * p2 e → B ≤ (m' : Rat) * p2 e')) ∧
      2 * ((m : Rat) * p2 e) ≤ 2 * ((m' : Rat) * p2 e') + ((m : Rat) * p2 e * feps k + ftiny k) ∧ 2 * ((m' : Rat) * p2 e') ≤ 2 * ((m : Rat) * p2 e) + ((m : Rat) * p2 e * feps k + ftiny k) := by
  by_cases hm : m = 0
  · subst hm
    have h0 : k.decode (k.format.nearest s 0 e) = .number s 0 k.format.leastPlace := by
      unfold Ieee.Format.nearest
      rw [if_pos rfl]
      have hlt : (0 : Nat) < k.format.signWeight := Nat.two_pow_pos _
      have hsg : (k.format.word s 0 / k.format.signWeight % 2 == 1) = s := by
        unfold Ieee.Format.word
        cases s
        · simp only [Bool.false_eq_true, if_false, Nat.zero_div]; rfl
        · simp only [if_true, Nat.add_zero, Nat.div_self hlt]; rfl
      unfold FloatKind.decode Ieee.Format.read
      simp only [word_mod k.format s hlt, hsg]
      rw [if_pos (show 0 < k.format.binade from Nat.two_pow_pos _)]
    refine ⟨0, k.format.leastPlace, h0, ?_, fun B _ => ?_, ?_⟩
    · rw [vl_zero, vl_zero]
      refine ⟨fun a h1 h2 => ?_, fun B _ => ⟨id, id⟩⟩
      have h3 := Rat.mul_nonneg (show 0 ≤ a from h2) (Rat.le_of_lt (eps_pos k))
      have h4 := tiny_pos k
      constructor <;> grind
    · rw [show ((0 : Nat) : Rat) = 0 from rfl, Rat.zero_mul, Rat.zero_mul]
      exact ⟨id, id⟩
    · have h4 := tiny_pos k
      rw [show ((0 : Nat) : Rat) = 0 from rfl, Rat.zero_mul, Rat.zero_mul, Rat.zero_mul]
      constructor <;> grind
  · obtain ⟨m', e', kept, h1, h2, h3, h4⟩ := nearest_grid k.format s m e hm (top_ok hm h)
    have hside : ∀ B, RepN k B → ((m : Rat) * p2 e ≤ B → (m' : Rat) * p2 e' ≤ B) ∧ (B ≤ (m : Rat) * p2 e → B ≤ (m' : Rat) * p2 e') := fun B ⟨M, E, hM, hE, hB⟩ => by
      rw [h2, hB]
      exact grid_side k.format m e hm kept h3 h4 hM hE
    have hl := last_bound k.format m e hm
    rw [← eps_eq, ← tiny_eq] at hl
    have hP := p2_pos (lastP k.format m e)
    refine ⟨m', e', h1, ?_, hside, ?_⟩
    · refine rnd_sign (Rat.mul_nonneg Rat.natCast_nonneg (Rat.le_of_lt (p2_pos e))) (Rat.mul_nonneg Rat.natCast_nonneg (Rat.le_of_lt (p2_pos e'))) ?_ (Rat.le_of_lt (eps_pos k)) hside
      rw [h2]
      constructor <;> grind
    · rw [h2]
      constructor <;> grind
theorem nearest_rnd (k : FloatKind) (s : Bool) (m : Nat) (e : Int) (h : (m : Rat) * p2 e < p2 (ftop k)) :
    ∃ m' e', k.decode (k.format.nearest s m e) = .number s m' e' ∧ Rnd k (vl s m e) (vl s m' e') ∧ ∀ B, RepN k B → ((m : Rat) * p2 e ≤ B → (m' : Rat) * p2 e' ≤ B) ∧ (B ≤ (m : Rat) * p2 e → B ≤ (m' : Rat) * p2 e') := by
  obtain ⟨m', e', h1, h2, h3, _⟩ := nearest_rnd' k s m e h
  exact ⟨m', e', h1, h2, h3⟩
end Go.Ab
