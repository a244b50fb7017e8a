/- Facts on the conversions and comparisons of floats. No conditions. -/
import Derived.Test.YtljgokghchhjaaaFl
namespace Go.Ab

theorem cut_zero (way : Ieee.Toward) (neg : Bool) (n : Nat) : way.cut neg n 0 = n := by
  unfold Ieee.Toward.cut
  cases way <;> simp [Nat.mod_one]

theorem log2_le_of_lt {m k : Nat} (hm : m ≠ 0) (h : m < 2 ^ (k + 1)) : m.log2 ≤ k := by
  have := (Nat.log2_lt hm).2 h
  omega

theorem lin_sum (q k B : Nat) (h1 : q ≤ 1149 * B) (h2 : k < 2 * B) : q + k < 1151 * B := by omega
/-- A 32-bit number has a 64-bit one. -/
theorem wide_not_inf (s : Bool) (m : Nat) (e : Int) (hm : m < 2 ^ 24) (he1 : -149 ≤ e) (he2 : e ≤ 104) :
    (Ieee.double.read (Ieee.double.nearest s m e)).isInfinity = false := by
  unfold Ieee.Format.nearest
  dsimp only
  split
  · cases s <;> decide +kernel
  · rename_i h0
    have hl : m.log2 ≤ 23 := log2_le_of_lt h0 hm
    have hlp : Ieee.double.leastPlace = -1074 := by decide
    have hfb : Ieee.double.fractionBits = 52 := rfl
    rw [hlp, hfb]
    have hmax : max (e + (m.log2 : Int) - ((52 : Nat) : Int)) (-1074) = e + m.log2 - 52 := by omega
    rw [hmax]
    have h1 : (e - (e + (m.log2 : Int) - 52)).toNat = 52 - m.log2 := by omega
    have h2 : ((e + (m.log2 : Int) - 52) - e).toNat = 0 := by omega
    rw [h1, h2, cut_zero]
    have hlt : m <<< (52 - m.log2) < 2 ^ 53 := by
      rw [Nat.shiftLeft_eq]
      have hml : m < 2 ^ (m.log2 + 1) := Nat.lt_log2_self
      have h3 : m * 2 ^ (52 - m.log2) < 2 ^ (m.log2 + 1) * 2 ^ (52 - m.log2) := Nat.mul_lt_mul_of_pos_right hml (Nat.two_pow_pos _)
      rw [← Nat.pow_add] at h3
      have h4 : m.log2 + 1 + (52 - m.log2) = 53 := by omega
      rw [h4] at h3
      exact h3
    generalize m <<< (52 - m.log2) = kept at *
    have hr : (e + (m.log2 : Int) - 52 - -1074).toNat ≤ 1149 := by omega
    generalize (e + (m.log2 : Int) - 52 - -1074).toNat = r at *
    have hb : Ieee.double.binade = 2 ^ 52 := rfl
    have hi : Ieee.double.infRung = 2047 * 2 ^ 52 := by decide
    rw [hb, hi]
    have hq : r * 2 ^ 52 ≤ 1149 * 2 ^ 52 := Nat.mul_le_mul_right _ hr
    have hk2 : kept < 2 * 2 ^ 52 := hlt
    have hsum : r * 2 ^ 52 + kept < 1151 * 2 ^ 52 := lin_sum _ _ _ hq hk2
    have hrung : r * 2 ^ 52 + kept < 2047 * 2 ^ 52 := Nat.lt_of_lt_of_le hsum (Nat.mul_le_mul_right _ (by decide))
    rw [Nat.min_eq_left (Nat.le_of_lt hrung)]
    clear hsum hq hk2 hlt hr
    generalize r * 2 ^ 52 + kept = rung at *
    have hs : rung < Ieee.double.signWeight := Nat.lt_trans hrung (by decide)
    unfold Ieee.Format.read
    simp only [word_mod _ _ hs, hb, hi]
    split
    · rfl
    · simp [hrung, Ieee.Datum.isInfinity]

theorem single_number {b : Nat} {s : Bool} {m : Nat} {e : Int} (h : FloatKind.f32.decode b = .number s m e) : m < 2 ^ 24 ∧ -149 ≤ e ∧ e ≤ 104 := by
  unfold FloatKind.decode Ieee.Format.read at h
  have hb : FloatKind.f32.format.binade = 2 ^ 23 := rfl
  have hi : FloatKind.f32.format.infRung = 255 * 2 ^ 23 := by decide
  have hl : FloatKind.f32.format.leastPlace = -149 := by decide
  simp only [hb, hi, hl] at h
  have hmod : (b % FloatKind.f32.format.signWeight) % 2 ^ 23 < 2 ^ 23 := Nat.mod_lt _ (by decide)
  generalize b % FloatKind.f32.format.signWeight = rung at *
  split at h
  · cases h; omega
  · split at h
    · cases h
      refine ⟨by omega, by omega, ?_⟩
      have : rung / 2 ^ 23 < 255 := Nat.div_lt_of_lt_mul (by omega)
      omega
    · split at h <;> cases h

theorem wide_some (b : Nat) (hn : (FloatKind.f32.decode b).isNaN = false) : floatToFloatBits .f32 b .f64 ≠ none := by
  unfold floatToFloatBits
  rw [if_neg (by decide)]
  cases hd : FloatKind.f32.decode b with
  | nan s t => rw [hd] at hn; cases hn
  | infinity s => simp
  | number s m e =>
    obtain ⟨h1, h2, h3⟩ := single_number hd
    have := wide_not_inf s m e h1 h2 h3
    have h' : (FloatKind.f64.decode (FloatKind.f64.encode (.number s m e))).isInfinity = false := this
    simp [h']

/-- Widening is always told; of a value that is one of the kind. -/
def Is32 (x : FV) : Prop := ∀ b, x = some b → (FloatKind.f32.decode b).isNaN = false
theorem is32_fv (b : Nat) : Is32 (fv .f32 b) := by
  intro c h
  unfold fv at h
  split at h
  · cases h
  · rename_i hn; cases h; simpa using hn
theorem conv_wide {x : FV} (h : Is32 x) : ConvOk .f32 .f64 x := by
  cases x with
  | none => exact .inl rfl
  | some b => exact .inr (wide_some b (h b rfl))

theorem order_refl {k : FloatKind} {b : Nat} (h : (k.decode b).isNaN = false) : k.format.order b b = some .eq := by
  unfold Ieee.Format.order
  cases hd : k.format.read b with
  | nan s t => have : (k.decode b) = .nan s t := hd; rw [this] at h; cases h
  | infinity s => simp [Ieee.Datum.order]
  | number s m e => simp [Ieee.Datum.order]
end Go.Ab
