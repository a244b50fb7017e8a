/- How near a root is that is computed. No conditions. -/
import Derived.Test.YtljgokghchhjaaaEx
namespace Go.Ab

theorem rootFrom_spec (n : Nat) : ∀ (todo root : Nat), root * root ≤ n → n < (root + 2 ^ todo) * (root + 2 ^ todo) →
    Ieee.Datum.rootFrom n todo root * Ieee.Datum.rootFrom n todo root ≤ n ∧ n < (Ieee.Datum.rootFrom n todo root + 1) * (Ieee.Datum.rootFrom n todo root + 1)
  | 0, root, h1, h2 => ⟨h1, h2⟩
  | todo + 1, root, h1, h2 => by
    unfold Ieee.Datum.rootFrom
    rw [Nat.one_shiftLeft]
    dsimp only
    have hp : 2 ^ (todo + 1) = 2 ^ todo + 2 ^ todo := by rw [Nat.pow_succ]; omega
    rw [hp, ← Nat.add_assoc] at h2
    split
    · rename_i h
      exact rootFrom_spec n todo _ h h2
    · rename_i h
      exact rootFrom_spec n todo _ h1 (by omega)
theorem root_start (n : Nat) : n < (0 + 2 ^ (n.log2 / 2 + 1)) * (0 + 2 ^ (n.log2 / 2 + 1)) := by
  rw [Nat.zero_add, ← Nat.pow_add]
  exact Nat.lt_of_lt_of_le Nat.lt_log2_self (Nat.pow_le_pow_right (by decide) (by omega))
theorem sq_le_of {a b : Rat} (ha : 0 ≤ a) (hb : 0 ≤ b) (h : a * a ≤ b * b) : a ≤ b := by
  rcases Rat.le_total (a := a) (b := b) with h1 | h1
  · exact h1
  · rcases Rat.le_iff_lt_or_eq.1 h1 with h2 | h2
    · have h3 : b * b ≤ b * a := Rat.mul_le_mul_of_nonneg_left h1 hb
      have h4 : b * a < a * a := Rat.mul_lt_mul_of_pos_right h2 (by grind)
      grind
    · rw [h2]; exact Rat.le_refl
theorem nsq_le {a b : Nat} (h : a * a ≤ b * b) : a ≤ b := Nat.mul_self_le_mul_self_iff.1 h
theorem nsq_lt {a b : Nat} (h : a * a < b * b) : a < b := Nat.mul_self_lt_mul_self_iff.1 h
/-- A root's digits with a sticky one, beside what can be written. -/
theorem root_side {k : FloatKind} {W st n : Nat} {e : Int} (hW : 2 ^ (k.format.fractionBits + 1) ≤ W) (hst : (st = 0 ∧ n = W * W) ∨ (st = 1 ∧ W * W < n ∧ n < (W + 1) * (W + 1))) {B : Rat} (hB : RepN k B) :
    ((n : Rat) * (2 * p2 e * (2 * p2 e)) ≤ B * B → ((2 * W + st : Nat) : Rat) * p2 e ≤ B) ∧ (B * B ≤ (n : Rat) * (2 * p2 e * (2 * p2 e)) → B ≤ ((2 * W + st : Nat) : Rat) * p2 e) := by
  have hup := p2_pos e
  obtain ⟨M, E, hM, hE, hBe⟩ := hB
  have hWn : W * W ≤ n := by rcases hst with ⟨_, h⟩ | ⟨_, h, _⟩ <;> omega
  rcases (show e + 1 ≤ E ∨ E ≤ e from by omega) with hle | hle
  · have hB2 : B = ((M * 2 ^ (E - (e + 1)).toNat : Nat) : Rat) * (2 * p2 e) := by
      rw [hBe, p2_split hle, p2_add, p2_one, Rat.natCast_mul]
      grind
    generalize M * 2 ^ (E - (e + 1)).toNat = N at *
    have hsq : B * B = ((N * N : Nat) : Rat) * (2 * p2 e * (2 * p2 e)) := by
      rw [hB2, Rat.natCast_mul]
      grind
    have hu2 : 0 < 2 * p2 e * (2 * p2 e) := Rat.mul_pos (by grind) (by grind)
    rw [hsq]
    refine ⟨fun h => ?_, fun h => ?_⟩
    · have h1 : n ≤ N * N := Rat.natCast_le_natCast.1 (Rat.le_of_mul_le_mul_right h hu2)
      have h2 : 2 * W + st ≤ 2 * N := by
        rcases hst with ⟨h0, h3⟩ | ⟨h0, h3, _⟩
        · have := nsq_le (a := W) (b := N) (by omega)
          omega
        · have := nsq_lt (a := W) (b := N) (by omega)
          omega
      have h3 := mul_p2_le h2 e
      rw [hB2]
      rw [Rat.natCast_mul] at h3
      have e2 : ((2 : Nat) : Rat) = 2 := rfl
      rw [e2] at h3
      grind
    · have h1 : N * N ≤ n := Rat.natCast_le_natCast.1 (Rat.le_of_mul_le_mul_right h hu2)
      have h2 : 2 * N ≤ 2 * W + st := by
        rcases hst with ⟨h0, h3⟩ | ⟨h0, _, h3⟩
        · have := nsq_le (a := N) (b := W) (by omega)
          omega
        · have := nsq_lt (a := N) (b := W + 1) (by omega)
          omega
      have h3 := mul_p2_le h2 e
      rw [hB2]
      rw [Rat.natCast_mul] at h3
      have e2 : ((2 : Nat) : Rat) = 2 := rfl
      rw [e2] at h3
      grind
  · have h3 : B ≤ (W : Rat) * p2 e := by
      rw [hBe]
      exact Rat.le_trans (Rat.mul_le_mul_of_nonneg_left (p2_le hle) Rat.natCast_nonneg) (mul_p2_le (Nat.le_trans hM hW) e)
    have hB0 : 0 ≤ B := by
      rw [hBe]
      exact Rat.mul_nonneg Rat.natCast_nonneg (Rat.le_of_lt (p2_pos E))
    have hW0 : (0 : Rat) < W := by
      rw [show (0 : Rat) = ((0 : Nat) : Rat) from rfl]
      exact Rat.natCast_lt_natCast.2 (Nat.lt_of_lt_of_le (Nat.two_pow_pos _) hW)
    have hX : 0 < (W : Rat) * p2 e := Rat.mul_pos hW0 hup
    have hc : ((2 * W + st : Nat) : Rat) * p2 e = 2 * ((W : Rat) * p2 e) + (st : Rat) * p2 e := by
      rw [Rat.natCast_add, Rat.natCast_mul]
      show (2 * (W : Rat) + st) * p2 e = _
      grind
    have hst0 : 0 ≤ (st : Rat) * p2 e := Rat.mul_nonneg Rat.natCast_nonneg (Rat.le_of_lt hup)
    rw [hc]
    refine ⟨fun h => ?_, fun _ => by grind⟩
    exfalso
    have h4 : ((W * W : Nat) : Rat) ≤ (n : Rat) := Rat.natCast_le_natCast.2 hWn
    rw [Rat.natCast_mul] at h4
    have h5 := Rat.mul_le_mul_of_nonneg_right h4 (show 0 ≤ 2 * p2 e * (2 * p2 e) from Rat.mul_nonneg (by grind) (by grind))
    have h6 : B * B ≤ (W : Rat) * p2 e * ((W : Rat) * p2 e) := Rat.le_trans (Rat.mul_le_mul_of_nonneg_left h3 hB0) (Rat.mul_le_mul_of_nonneg_right h3 (Rat.le_of_lt hX))
    have h7 := Rat.mul_pos hX hX
    grind
/-- A root of a 64-bit number. -/
theorem vl_sqrt {x : FV} {p : Rat} (hx : Vl .f64 x p) (h1 : p2 (-400) ≤ p) (h2 : p ≤ p2 200) :
    ∃ r, Vl .f64 (fsqrt x) r ∧ 0 < r ∧ (∀ B, RepN .f64 B → (p ≤ B * B → r ≤ B) ∧ (B * B ≤ p → B ≤ r)) ∧ p ≤ r * r * (1 + p2 (-40)) ∧ r * r ≤ p * (1 + p2 (-40)) := by
  obtain ⟨b, s, m, i, rfl, hd, hq⟩ := hx
  have hp0 : 0 < p := Std.lt_of_lt_of_le (p2_pos _) h1
  have hs : s = false := by
    cases s
    · rfl
    · exfalso
      have := Rat.mul_nonneg (Rat.natCast_nonneg (a := m)) (Rat.le_of_lt (p2_pos i))
      unfold vl sgn at hq
      simp only [if_true] at hq
      grind
  subst hs
  have hm : m ≠ 0 := fun h => by
    subst h
    rw [vl_zero] at hq
    grind
  have hpv : p = (m : Rat) * p2 i := by
    rw [← hq]
    unfold vl sgn
    simp
  have hroot : ∃ more : Nat, 108 ≤ m.log2 + more ∧ (i - more) % 2 = 0 ∧ fsqrt (some b) = some (FloatKind.f64.format.nearest false (2 * Ieee.Datum.rootFrom (m <<< more) ((m <<< more).log2 / 2 + 1) 0 + (Ieee.Datum.rootFrom (m <<< more) ((m <<< more).log2 / 2 + 1) 0 * Ieee.Datum.rootFrom (m <<< more) ((m <<< more).log2 / 2 + 1) 0 != m <<< more).toNat) ((i - more) / 2 - 1)) := by
    refine ⟨2 * 54 - m.log2 + ((i - (2 * 54 - m.log2 : Nat)) % 2).toNat, by omega, by omega, ?_⟩
    have hd' : FloatKind.f64.format.read b = .number false m i := hd
    have hfb : FloatKind.f64.format.fractionBits + 2 = 54 := rfl
    simp [fsqrt, Ieee.Format.sqrt, hd', Ieee.Datum.root, hm, Ieee.Format.write, hfb]
  obtain ⟨more, hmore, hev, hfs⟩ := hroot
  rw [hfs]
  clear hfs hd
  have hn0 : 2 ^ 108 ≤ m <<< more := by
    rw [Nat.shiftLeft_eq]
    have h3 : 2 ^ m.log2 * 2 ^ more ≤ m * 2 ^ more := Nat.mul_le_mul_right _ (Nat.log2_self_le hm)
    rw [← Nat.pow_add] at h3
    exact Nat.le_trans (Nat.pow_le_pow_right (by decide) (by omega)) h3
  have hval := mul_shl m more (i - more)
  rw [show i - (more : Int) + more = i from by omega, ← hpv] at hval
  have hu : p2 (i - more) = 2 * p2 ((i - more) / 2 - 1) * (2 * p2 ((i - more) / 2 - 1)) := by
    have e1 : (2 : Rat) * p2 ((i - more) / 2 - 1) = p2 ((i - more) / 2) := by
      rw [← p2_one, ← p2_add]
      congr 1
      omega
    rw [e1, ← p2_add]
    congr 1
    omega
  rw [hu] at hval
  generalize m <<< more = n at *
  obtain ⟨hw1, hw2⟩ := rootFrom_spec n (n.log2 / 2 + 1) 0 (Nat.zero_le _) (root_start n)
  generalize Ieee.Datum.rootFrom n (n.log2 / 2 + 1) 0 = W at *
  generalize (i - more) / 2 - 1 = e at *
  have hW : 2 ^ (FloatKind.f64.format.fractionBits + 1) ≤ W := by
    show 2 ^ 53 ≤ W
    have := nsq_lt (a := 2 ^ 53) (b := W + 1) (by omega)
    omega
  obtain ⟨st, hst, hstc⟩ : ∃ st, (W * W != n).toNat = st ∧ ((st = 0 ∧ n = W * W) ∨ (st = 1 ∧ W * W < n ∧ n < (W + 1) * (W + 1))) := by
    refine ⟨_, rfl, ?_⟩
    by_cases h : W * W = n
    · left
      simp [h]
    · right
      have : (W * W != n) = true := by simpa using h
      rw [this]
      exact ⟨rfl, by omega, hw2⟩
  rw [hst]
  have hside := fun {B} (hB : RepN .f64 B) => root_side (k := .f64) (e := e) hW hstc (B := B) hB
  rw [hval] at hside
  have hr100 : RepN .f64 (p2 100) := ⟨1, 100, Nat.one_le_two_pow, by decide, by rw [show ((1 : Nat) : Rat) = 1 from rfl, Rat.one_mul]⟩
  have hrm : RepN .f64 (p2 (-200)) := ⟨1, -200, Nat.one_le_two_pow, by decide, by rw [show ((1 : Nat) : Rat) = 1 from rfl, Rat.one_mul]⟩
  have hA1 := (hside hr100).1 (by rw [← p2_add]; exact h2)
  have hA2 := (hside hrm).2 (by rw [← p2_add]; exact h1)
  have htop : p2 100 < p2 (ftop .f64) := by decide +kernel
  obtain ⟨m', e', g1, g2, g3, g4, g5⟩ := nearest_rnd' .f64 false (2 * W + st) e (Std.lt_of_le_of_lt hA1 htop)
  have hup := p2_pos e
  have hWr : (1 : Rat) ≤ W * p2 (-53) := by
    have h3 := mul_p2_le hW (-53)
    rw [p2_shl] at h3
    exact h3
  have hc : ((2 * W + st : Nat) : Rat) * p2 e = 2 * ((W : Rat) * p2 e) + (st : Rat) * p2 e := by
    rw [Rat.natCast_add, Rat.natCast_mul]
    show (2 * (W : Rat) + st) * p2 e = _
    grind
  -- p beside the square of what is rounded
  have hpA : p ≤ (((2 * W + st : Nat) : Rat) * p2 e + p2 e) * (((2 * W + st : Nat) : Rat) * p2 e + p2 e) ∧ (((2 * W + st : Nat) : Rat) * p2 e - p2 e) * (((2 * W + st : Nat) : Rat) * p2 e - p2 e) ≤ p := by
    rw [hc, ← hval]
    rcases hstc with ⟨h0, h3⟩ | ⟨h0, h3, h4⟩
    · subst h0
      rw [show ((0 : Nat) : Rat) = 0 from rfl, Rat.zero_mul, Rat.add_zero]
      have h5 : (n : Rat) = (W : Rat) * W := by rw [h3, Rat.natCast_mul]
      rw [h5]
      have h6 : 0 ≤ (W : Rat) * p2 e := Rat.mul_nonneg Rat.natCast_nonneg (Rat.le_of_lt hup)
      have h7 := Rat.mul_nonneg h6 (Rat.le_of_lt hup)
      have h8 := Rat.mul_pos hup hup
      have h9 : p2 e * p2 e ≤ (W : Rat) * p2 e * p2 e := by
        have hW1 : (1 : Rat) ≤ W := by
          have := Rat.natCast_le_natCast.2 (show 1 ≤ W from Nat.le_trans (by decide) hW)
          exact this
        have := Rat.mul_le_mul_of_nonneg_right hW1 (Rat.le_of_lt h8)
        grind
      constructor <;> grind
    · subst h0
      rw [show ((1 : Nat) : Rat) = 1 from rfl, Rat.one_mul]
      have h5 : ((W * W : Nat) : Rat) < n := Rat.natCast_lt_natCast.2 h3
      have h6 : (n : Rat) < (((W + 1) * (W + 1) : Nat) : Rat) := Rat.natCast_lt_natCast.2 h4
      rw [Rat.natCast_mul] at h5 h6
      rw [Rat.natCast_add, show ((1 : Nat) : Rat) = 1 from rfl] at h6
      have hu2 : 0 < 2 * p2 e * (2 * p2 e) := Rat.mul_pos (by grind) (by grind)
      have h7 := Rat.mul_lt_mul_of_pos_right h5 hu2
      have h8 := Rat.mul_lt_mul_of_pos_right h6 hu2
      constructor <;> grind
  have huA : p2 e ≤ ((2 * W + st : Nat) : Rat) * p2 e * p2 (-54) := by
    rw [hc]
    have h3 : 0 ≤ (st : Rat) * p2 e := Rat.mul_nonneg Rat.natCast_nonneg (Rat.le_of_lt hup)
    have h4 := Rat.mul_nonneg h3 (Rat.le_of_lt (p2_pos (-54)))
    have h5 := Rat.mul_le_mul_of_nonneg_right hWr (Rat.le_of_lt hup)
    have h6 : p2 (-53) = 2 * p2 (-54) := by decide +kernel
    rw [h6] at h5
    grind
  have e1 : feps .f64 = p2 (-52) := rfl
  have e2 : ftiny .f64 ≤ p2 (-200) * p2 (-52) := by decide +kernel
  have hr' : vl false m' e' = (m' : Rat) * p2 e' := by unfold vl sgn; simp
  have hv := Vl.of (k := .f64) g1
  rw [hr'] at hv
  have hrv : ∀ B, RepN .f64 B → (p ≤ B * B → (m' : Rat) * p2 e' ≤ B) ∧ (B * B ≤ p → B ≤ (m' : Rat) * p2 e') := fun B hB => ⟨fun h => (g3 B hB).1 ((hside hB).1 h), fun h => (g3 B hB).2 ((hside hB).2 h)⟩
  generalize (m' : Rat) * p2 e' = r at *
  generalize ((2 * W + st : Nat) : Rat) * p2 e = A at *
  have hp100 := p2_pos (-200)
  have hr0 : 0 < r := Std.lt_of_lt_of_le hp100 ((hrv _ hrm).2 (by rw [← p2_add]; exact h1))
  rw [e1] at g4 g5
  have hA0 : 0 < A := Std.lt_of_lt_of_le hp100 hA2
  have e3 := Rat.mul_le_mul_of_nonneg_right hA2 (Rat.le_of_lt (p2_pos (-52)))
  -- A within a small share of r
  have c52 : p2 (-52) = 1 / 4503599627370496 := by decide +kernel
  have c54 : p2 (-54) = 1 / 18014398509481984 := by decide +kernel
  have c40 : p2 (-40) = 1 / 1099511627776 := by decide +kernel
  rw [c52] at g4 g5 e2 e3
  rw [c54] at huA
  have k1 : A ≤ r * (1 + 1 / 1000000000000000) := by grind
  have k2 : r ≤ A * (1 + 1 / 1000000000000000) := by grind
  have k3 : A + p2 e ≤ r * (1 + 1 / 100000000000000) := by grind
  have k4 : r * (1 - 1 / 100000000000000) ≤ A - p2 e := by grind
  refine ⟨r, hv, hr0, hrv, ?_, ?_⟩
  · rw [c40]
    have q1 : (A + p2 e) * (A + p2 e) ≤ r * (1 + 1 / 100000000000000) * (r * (1 + 1 / 100000000000000)) :=
      Rat.le_trans (Rat.mul_le_mul_of_nonneg_left k3 (by grind)) (Rat.mul_le_mul_of_nonneg_right k3 (by grind))
    have q2 := Rat.mul_pos hr0 hr0
    grind
  · rw [c40]
    have q1 : r * (1 - 1 / 100000000000000) * (r * (1 - 1 / 100000000000000)) ≤ (A - p2 e) * (A - p2 e) :=
      Rat.le_trans (Rat.mul_le_mul_of_nonneg_left k4 (by grind)) (Rat.mul_le_mul_of_nonneg_right k4 (by grind))
    have q2 := Rat.mul_pos hr0 hr0
    grind
/-- A root of a 32-bit number. -/
theorem vl_root {x : FV} {p : Rat} (hx : Vl .f32 x p) (h1 : p2 (-100) ≤ p) (h2 : p ≤ p2 100) :
    ∃ R, Vl .f32 (fconv .f64 .f32 (fsqrt (fconv .f32 .f64 x))) R ∧ 0 < R ∧ (∀ B, RepN .f32 B → (p ≤ B * B → R ≤ B) ∧ (B * B ≤ p → B ≤ R)) ∧ p ≤ R * R * (1 + p2 (-21)) ∧ R * R ≤ p * (1 + p2 (-21)) := by
  obtain ⟨r, hr, hr0, hside, hn1, hn2⟩ := vl_sqrt (vl_wide hx) (Rat.le_trans (p2_le (by decide)) h1) (Rat.le_trans h2 (p2_le (by decide)))
  have hwide : ∀ B, RepN .f32 B → RepN .f64 B := fun B ⟨M, E, hM, hE, hB⟩ => ⟨M, E, Nat.le_trans hM (by decide), Int.le_trans (by decide) hE, hB⟩
  have hr50 : RepN .f32 (p2 50) := ⟨1, 50, Nat.one_le_two_pow, by decide, by rw [show ((1 : Nat) : Rat) = 1 from rfl, Rat.one_mul]⟩
  have hrm : RepN .f32 (p2 (-50)) := ⟨1, -50, Nat.one_le_two_pow, by decide, by rw [show ((1 : Nat) : Rat) = 1 from rfl, Rat.one_mul]⟩
  have k1 := (hside _ (hwide _ hr50)).1 (by rw [← p2_add]; exact h2)
  have k2 := (hside _ (hwide _ hrm)).2 (by rw [← p2_add]; exact h1)
  have htop : p2 50 < p2 (ftop .f32) := by decide +kernel
  have hp50 := p2_pos (-50)
  obtain ⟨R, hR, hRr⟩ := vl_narrow hr ⟨by have := p2_pos (ftop .f32); grind, Std.lt_of_le_of_lt k1 htop⟩
  have hs2 : ∀ B, RepN .f32 B → (p ≤ B * B → R ≤ B) ∧ (B * B ≤ p → B ≤ R) := fun B hB => ⟨fun h => (hRr.side B (.inl hB)).1 ((hside B (hwide B hB)).1 h), fun h => (hRr.side B (.inl hB)).2 ((hside B (hwide B hB)).2 h)⟩
  have hR0 : 0 < R := Std.lt_of_lt_of_le hp50 ((hs2 _ hrm).2 (by rw [← p2_add]; exact h1))
  obtain ⟨n1, n2⟩ := hRr.near r (by grind) Rat.le_refl
  have e1 : feps .f32 = 1 / 8388608 := by decide +kernel
  have e2 : ftiny .f32 ≤ p2 (-50) * (1 / 1000000000000) := by decide +kernel
  have e3 : p2 (-21) = 1 / 2097152 := by decide +kernel
  have e4 : p2 (-40) = 1 / 1099511627776 := by decide +kernel
  rw [e1] at n1 n2
  rw [e4] at hn1 hn2
  have e5 := Rat.mul_le_mul_of_nonneg_right k2 (show (0 : Rat) ≤ 1 / 1000000000000 by decide +kernel)
  have m1 : r ≤ R * (1 + 13 / 100000000) := by grind
  have m2 : R ≤ r * (1 + 13 / 100000000) := by grind
  have q1 : r * r ≤ R * (1 + 13 / 100000000) * (R * (1 + 13 / 100000000)) :=
    Rat.le_trans (Rat.mul_le_mul_of_nonneg_left m1 (by grind)) (Rat.mul_le_mul_of_nonneg_right m1 (by grind))
  have q2 : R * R ≤ r * (1 + 13 / 100000000) * (r * (1 + 13 / 100000000)) :=
    Rat.le_trans (Rat.mul_le_mul_of_nonneg_left m2 (by grind)) (Rat.mul_le_mul_of_nonneg_right m2 (by grind))
  have q3 := Rat.mul_pos hR0 hR0
  have q4 := Rat.mul_pos hr0 hr0
  refine ⟨R, hR, hR0, hs2, ?_, ?_⟩
  · rw [e3]; grind
  · rw [e3]; grind
end Go.Ab
