/- The length of a complex number, as it is computed. No conditions. -/
import Derived.Test.YtljgokghchhjaaaRt
import Derived.Test.YtljgokghchhjaaaEx
namespace Go.Ab

def powF (x y : FV) : FV := fbin .add .f64 (fbin .mul .f64 (fconv .f32 .f64 x) (fconv .f32 .f64 x)) (fbin .mul .f64 (fconv .f32 .f64 y) (fconv .f32 .f64 y))
def longF (x y : FV) : FV := fconv .f64 .f32 (fsqrt (powF x y))
theorem rep_sq {B : Rat} (h : Rep .f32 B) : RepN .f64 (B * B) ∧ (B = 0 ∨ p2 (-298) ≤ B * B) := by
  have key : ∀ B : Rat, RepN .f32 B → RepN .f64 (B * B) ∧ (B = 0 ∨ p2 (-298) ≤ B * B) := fun B ⟨M, E, hM, hE, hB⟩ => by
    have hM' : M ≤ 2 ^ 24 := hM
    have hE' : -149 ≤ E := hE
    have e : B * B = ((M * M : Nat) : Rat) * p2 (E + E) := by rw [hB, Rat.natCast_mul, p2_add]; grind
    refine ⟨⟨M * M, E + E, ?_, ?_, e⟩, ?_⟩
    · have h1 : M * M ≤ 2 ^ 24 * 2 ^ 24 := Nat.mul_le_mul hM' hM'
      exact Nat.le_trans h1 (by decide)
    · have : FloatKind.f64.format.leastPlace = -1074 := by decide
      omega
    · rcases Nat.eq_zero_or_pos M with h0 | h0
      · left
        rw [hB, h0, show ((0 : Nat) : Rat) = 0 from rfl, Rat.zero_mul]
      · right
        rw [e]
        have h1 : (1 : Rat) ≤ ((M * M : Nat) : Rat) := by
          have := Rat.natCast_le_natCast.2 (show 1 ≤ M * M from Nat.mul_pos h0 h0)
          exact this
        have h2 := p2_le (show -298 ≤ E + E by omega)
        have h3 := Rat.mul_le_mul_of_nonneg_right h1 (Rat.le_of_lt (p2_pos (E + E)))
        rw [Rat.one_mul] at h3
        exact Rat.le_trans h2 h3
  rcases h with h | h
  · exact key B h
  · have := key (-B) h
    have e : -B * -B = B * B := by grind
    rw [e] at this
    exact ⟨this.1, this.2.imp (fun h => by grind) id⟩
theorem sqrt_zero {x : FV} (hx : Vl .f64 x 0) : Vl .f64 (fsqrt x) 0 := by
  obtain ⟨b, s, m, i, rfl, hd, hq⟩ := hx
  have hm : m = 0 := by
    rcases Nat.eq_zero_or_pos m with h | h
    · exact h
    · exfalso
      have h1 : (1 : Rat) ≤ ((m : Nat) : Rat) := by
        have := Rat.natCast_le_natCast.2 h
        exact this
      have h2 := p2_pos i
      have h3 := Rat.mul_le_mul_of_nonneg_right h1 (Rat.le_of_lt h2)
      unfold vl sgn at hq
      cases s
      · simp only [Bool.false_eq_true, if_false] at hq
        grind
      · simp only [if_true] at hq
        grind
  subst hm
  have hd' : FloatKind.f64.format.read b = .number s 0 i := hd
  have hfb : FloatKind.f64.format.fractionBits + 2 = 54 := rfl
  cases s
  · have : fsqrt (some b) = some (FloatKind.f64.format.nearest false 0 i) := by
      simp [fsqrt, Ieee.Format.sqrt, hd', Ieee.Datum.root, Ieee.Format.write]
    rw [this]
    have h0 : FloatKind.f64.format.nearest false 0 i = 0 := by unfold Ieee.Format.nearest; rw [if_pos rfl]; rfl
    rw [h0]
    exact Vl.cs (by decide +kernel)
  · have : fsqrt (some b) = some (FloatKind.f64.format.nearest true 0 i) := by
      simp [fsqrt, Ieee.Format.sqrt, hd', Ieee.Datum.root, Ieee.Format.write]
    rw [this]
    have h0 : FloatKind.f64.format.nearest true 0 i = 9223372036854775808 := by unfold Ieee.Format.nearest; rw [if_pos rfl]; rfl
    rw [h0]
    exact Vl.cs (by decide +kernel)
section
variable {x y : FV} {p q : Rat}
theorem vl_pow (hx : Vl .f32 x p) (hy : Vl .f32 y q) (hp : -p2 30 ≤ p ∧ p ≤ p2 30) (hq : -p2 30 ≤ q ∧ q ≤ p2 30) : ∃ P, Vl .f64 (powF x y) P ∧ Rnd .f64 (p * p + q * q) P ∧ p * p + q * q ≤ p2 61 := by
  have e60 : p2 30 * p2 30 = p2 60 := by decide +kernel
  have e61 : p2 60 + p2 60 = p2 61 := by decide +kernel
  have f60 : p2 61 < p2 (ftop .f64) := by decide +kernel
  have n60 := p2_pos 60
  have b1 := mul_bnd hp.1 hp.2 hp.1 hp.2
  have b2 := mul_bnd hq.1 hq.2 hq.1 hq.2
  rw [e60] at b1 b2
  obtain ⟨a, ha, ra⟩ := vl_mul (vl_wide hx) (vl_wide hx) (show Fit .f64 (p * p) by constructor <;> grind)
  obtain ⟨b, hb, rb⟩ := vl_mul (vl_wide hy) (vl_wide hy) (show Fit .f64 (q * q) by constructor <;> grind)
  rw [rnd_rep ra (.inl (rep_sq (vl_rep hx)).1)] at ha
  rw [rnd_rep rb (.inl (rep_sq (vl_rep hy)).1)] at hb
  obtain ⟨P, hP, rP⟩ := vl_add ha hb (show Fit .f64 (p * p + q * q) by constructor <;> grind)
  exact ⟨P, hP, rP, by grind⟩
theorem vl_long (hx : Vl .f32 x p) (hy : Vl .f32 y q) (hp : -p2 30 ≤ p ∧ p ≤ p2 30) (hq : -p2 30 ≤ q ∧ q ≤ p2 30) :
    ∃ R, Vl .f32 (longF x y) R ∧ ConvOk .f64 .f32 (fsqrt (powF x y)) ∧ 0 ≤ R ∧ (∀ B, RepN .f32 B → (p * p + q * q ≤ B * B → R ≤ B) ∧ (B * B ≤ p * p + q * q → B ≤ R)) ∧
      (p2 (-90) ≤ p * p + q * q → p * p + q * q ≤ R * R * (1 + p2 (-20)) ∧ R * R ≤ (p * p + q * q) * (1 + p2 (-20))) := by
  obtain ⟨P, hP, rP, P61⟩ := vl_pow hx hy hp hq
  have hs1 := rep_sq (vl_rep hx)
  have hs2 := rep_sq (vl_rep hy)
  have hpp : 0 ≤ p * p := by
    rcases Rat.le_total (a := 0) (b := p) with h | h
    · exact Rat.mul_nonneg h h
    · have := Rat.mul_nonneg (show 0 ≤ -p by grind) (show 0 ≤ -p by grind); grind
  have hqq : 0 ≤ q * q := by
    rcases Rat.le_total (a := 0) (b := q) with h | h
    · exact Rat.mul_nonneg h h
    · have := Rat.mul_nonneg (show 0 ≤ -q by grind) (show 0 ≤ -q by grind); grind
  have n298 := p2_pos (-298)
  have hsd : ∀ B, RepN .f32 B → (p * p + q * q ≤ B * B → P ≤ B * B) ∧ (B * B ≤ p * p + q * q → B * B ≤ P) := fun B hB => rP.side _ (.inl (rep_sq (.inl hB)).1)
  by_cases h0 : p * p + q * q = 0
  · have hP0 : P = 0 := by
      rw [h0] at rP
      exact rnd_rep rP (rep_zero _)
    rw [hP0] at hP
    have h1 := sqrt_zero hP
    have hf : Fit .f32 0 := ⟨by decide +kernel, by decide +kernel⟩
    obtain ⟨R, hR, hRr⟩ := vl_narrow h1 hf
    obtain rfl := rnd_rep hRr (rep_zero _)
    refine ⟨0, hR, vl_narrow_ok h1 hf, Rat.le_refl, fun B hB => ⟨fun _ => ?_, fun h => ?_⟩, fun h => ?_⟩
    · obtain ⟨M, E, _, _, rfl⟩ := hB
      exact Rat.mul_nonneg Rat.natCast_nonneg (Rat.le_of_lt (p2_pos E))
    · rw [h0] at h
      obtain ⟨M, E, _, _, rfl⟩ := hB
      have hb : 0 ≤ (M : Rat) * p2 E := Rat.mul_nonneg Rat.natCast_nonneg (Rat.le_of_lt (p2_pos E))
      rcases (show (M : Rat) * p2 E = 0 ∨ 0 < (M : Rat) * p2 E from by grind) with h4 | h4
      · grind
      · have := Rat.mul_pos h4 h4
        grind
    · have := p2_pos (-90)
      grind
  · have hge : p2 (-298) ≤ p * p + q * q := by
      rcases hs1.2 with h1 | h1
      · rcases hs2.2 with h2 | h2
        · subst h1 h2
          exfalso
          exact h0 (by grind)
        · grind
      · grind
    have hPge : p2 (-298) ≤ P := (rP.side _ (.inl ⟨1, -298, by decide, by decide, by rw [show ((1 : Nat) : Rat) = 1 from rfl, Rat.one_mul]⟩)).2 hge
    have hPle : P ≤ p2 61 := (rP.side _ (.inl ⟨1, 61, by decide, by decide, by rw [show ((1 : Nat) : Rat) = 1 from rfl, Rat.one_mul]⟩)).1 P61
    obtain ⟨r, hr, hr0, hside, hn1, hn2⟩ := vl_sqrt hP (Rat.le_trans (p2_le (by decide)) hPge) (Rat.le_trans hPle (p2_le (by decide)))
    have hwide : ∀ B, RepN .f32 B → RepN .f64 B := fun B ⟨M, E, hM, hE, hB⟩ => ⟨M, E, Nat.le_trans hM (by decide), Int.le_trans (by decide) hE, hB⟩
    have hr50 : RepN .f32 (p2 50) := ⟨1, 50, Nat.one_le_two_pow, by decide, by rw [show ((1 : Nat) : Rat) = 1 from rfl, Rat.one_mul]⟩
    have k1 := (hside _ (hwide _ hr50)).1 (by rw [← p2_add]; exact Rat.le_trans hPle (p2_le (by decide)))
    have htop : p2 50 < p2 (ftop .f32) := by decide +kernel
    have hfit : Fit .f32 r := ⟨by have := p2_pos (ftop .f32); grind, Std.lt_of_le_of_lt k1 htop⟩
    obtain ⟨R, hR, hRr⟩ := vl_narrow hr hfit
    have hR0 : 0 ≤ R := (hRr.side 0 (rep_zero _)).2 (Rat.le_of_lt hr0)
    have hs3 : ∀ B, RepN .f32 B → (p * p + q * q ≤ B * B → R ≤ B) ∧ (B * B ≤ p * p + q * q → B ≤ R) := fun B hB => ⟨fun h => (hRr.side B (.inl hB)).1 ((hside B (hwide B hB)).1 ((hsd B hB).1 h)), fun h => (hRr.side B (.inl hB)).2 ((hside B (hwide B hB)).2 ((hsd B hB).2 h))⟩
    refine ⟨R, hR, vl_narrow_ok hr hfit, hR0, hs3, fun h90 => ?_⟩
    have hrm : RepN .f32 (p2 (-45)) := ⟨1, -45, Nat.one_le_two_pow, by decide, by rw [show ((1 : Nat) : Rat) = 1 from rfl, Rat.one_mul]⟩
    have k2 := (hside _ (hwide _ hrm)).2 ((hsd _ hrm).2 (by rw [← p2_add]; exact h90))
    have k3 := (hs3 _ hrm).2 (by rw [← p2_add]; exact h90)
    have h45 := p2_pos (-45)
    obtain ⟨n1, n2⟩ := hRr.near r (by grind) Rat.le_refl
    obtain ⟨n3, n4⟩ := rP.near (p * p + q * q) (by grind) Rat.le_refl
    have e1 : feps .f32 = 1 / 8388608 := by decide +kernel
    have e2 : ftiny .f32 ≤ p2 (-45) * (1 / 1000000000000) := by decide +kernel
    have e3 : p2 (-20) = 1 / 1048576 := by decide +kernel
    have e4 : p2 (-40) = 1 / 1099511627776 := by decide +kernel
    have e5 : feps .f64 = 1 / 4503599627370496 := by decide +kernel
    have e6 : ftiny .f64 ≤ p2 (-90) * (1 / 1000000000000) := by decide +kernel
    rw [e1] at n1 n2
    rw [e4] at hn1 hn2
    rw [e5] at n3 n4
    have e7 := Rat.mul_le_mul_of_nonneg_right k2 (show (0 : Rat) ≤ 1 / 1000000000000 by decide +kernel)
    have e8 := Rat.mul_le_mul_of_nonneg_right h90 (show (0 : Rat) ≤ 1 / 1000000000000 by decide +kernel)
    have m1 : r ≤ R * (1 + 13 / 100000000) := by grind
    have m2 : R ≤ r * (1 + 13 / 100000000) := by grind
    have q1 : r * r ≤ R * (1 + 13 / 100000000) * (R * (1 + 13 / 100000000)) :=
      Rat.le_trans (Rat.mul_le_mul_of_nonneg_left m1 (by grind)) (Rat.mul_le_mul_of_nonneg_right m1 (by grind))
    have q2 : R * R ≤ r * (1 + 13 / 100000000) * (r * (1 + 13 / 100000000)) :=
      Rat.le_trans (Rat.mul_le_mul_of_nonneg_left m2 (by grind)) (Rat.mul_le_mul_of_nonneg_right m2 (by grind))
    have hRp : 0 < R := by grind
    have q3 := Rat.mul_pos hRp hRp
    have q4 := Rat.mul_pos hr0 hr0
    rw [e3]
    generalize p * p + q * q = T at *
    have m3 : T ≤ P * (1 + 1 / 100000000000) := by grind
    have m4 : P ≤ T * (1 + 1 / 100000000000) := by grind
    constructor
    · grind
    · grind
end
end Go.Ab
