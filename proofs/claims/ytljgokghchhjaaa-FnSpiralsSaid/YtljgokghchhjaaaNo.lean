/- Lengths of vectors: what is no longer than what. No conditions. -/
import Derived.Test.YtljgokghchhjaaaLo
namespace Go.Ab

theorem sqr_nonneg (a : Rat) : 0 ≤ a * a := by
  rcases Rat.le_total (a := 0) (b := a) with h | h
  · exact Rat.mul_nonneg h h
  · have := Rat.mul_nonneg (show 0 ≤ -a by grind) (show 0 ≤ -a by grind)
    grind
/-- No longer than. -/
structure Le2 (x y B : Rat) : Prop where
  nn : 0 ≤ B
  sq : x * x + y * y ≤ B * B
theorem Le2.dot {x y A u v B : Rat} (h : Le2 x y A) (h' : Le2 u v B) : x * u + y * v ≤ A * B := by
  have n := Rat.mul_nonneg h.nn h'.nn
  rcases Rat.le_total (a := 0) (b := x * u + y * v) with h0 | h0
  · refine sq_le_of h0 n ?_
    have h1 := sqr_nonneg (x * v - y * u)
    have h2 : (x * u + y * v) * (x * u + y * v) ≤ (x * x + y * y) * (u * u + v * v) := by grind
    have a0 : 0 ≤ u * u + v * v := by
      have := sqr_nonneg u
      have := sqr_nonneg v
      grind
    have h3 := Rat.mul_le_mul_of_nonneg_right h.sq a0
    have h4 := Rat.mul_le_mul_of_nonneg_left h'.sq (sqr_nonneg A)
    grind
  · exact Rat.le_trans h0 n
theorem Le2.add {x y A u v B : Rat} (h : Le2 x y A) (h' : Le2 u v B) : Le2 (x + u) (y + v) (A + B) := by
  have n1 := h.nn
  have n2 := h'.nn
  have s1 := h.sq
  have s2 := h'.sq
  have d := h.dot h'
  exact ⟨by grind, by grind⟩
theorem Le2.neg {x y A : Rat} (h : Le2 x y A) : Le2 (-x) (-y) A := ⟨h.nn, by have := h.sq; grind⟩
theorem Le2.mono {x y A B : Rat} (h : Le2 x y A) (hB : A ≤ B) : Le2 x y B := ⟨Rat.le_trans h.nn hB, by
  have n := h.nn
  have s := h.sq
  have h1 := Rat.mul_le_mul_of_nonneg_left hB n
  have h2 := Rat.mul_le_mul_of_nonneg_right hB (Rat.le_trans n hB)
  grind⟩
theorem Le2.scale {x y A t : Rat} (h : Le2 x y A) (ht : 0 ≤ t) : Le2 (t * x) (t * y) (t * A) := ⟨Rat.mul_nonneg ht h.nn, by
  have s := Rat.mul_le_mul_of_nonneg_left h.sq (Rat.mul_nonneg ht ht)
  grind⟩
theorem Le2.of_abs {x y a b : Rat} (h1 : -a ≤ x) (h2 : x ≤ a) (h3 : -b ≤ y) (h4 : y ≤ b) : Le2 x y (a + b) := by
  have n1 : 0 ≤ a := by grind
  have n2 : 0 ≤ b := by grind
  have m1 := (mul_bnd h1 h2 h1 h2).2
  have m2 := (mul_bnd h3 h4 h3 h4).2
  have m3 := Rat.mul_nonneg n1 n2
  exact ⟨by grind, by grind⟩
theorem Le2.x {x y A : Rat} (h : Le2 x y A) : -A ≤ x ∧ x ≤ A := by
  have n := h.nn
  have s := h.sq
  have := sqr_nonneg y
  have hx : x * x ≤ A * A := by grind
  constructor
  · rcases Rat.le_total (a := 0) (b := x) with h0 | h0
    · grind
    · have := sq_le_of (a := -x) (b := A) (by grind) n (by grind)
      grind
  · rcases Rat.le_total (a := 0) (b := x) with h0 | h0
    · exact sq_le_of h0 n hx
    · grind
theorem Le2.y {x y A : Rat} (h : Le2 x y A) : -A ≤ y ∧ y ≤ A := Le2.x (x := y) (y := x) ⟨h.nn, by have := h.sq; grind⟩
/-- The length of what is computed, beside a bound. -/
theorem long_up {x y : FV} {p q B : Rat} (hx : Vl .f32 x p) (hy : Vl .f32 y q) (h : Le2 p q B) (hB : B ≤ 1000) : ∃ R, Vl .f32 (longF x y) R ∧ ConvOk .f64 .f32 (fsqrt (powF x y)) ∧ 0 ≤ R ∧ R ≤ B * (1 + 1 / 1000000) + 1 / 1000000000 := by
  have p30 : (1000 : Rat) ≤ p2 30 := by decide +kernel
  have hx' := h.x
  have hy' := h.y
  obtain ⟨R, hR, hc, h0, hs, hn⟩ := vl_long hx hy (by constructor <;> grind) (by constructor <;> grind)
  have n := h.nn
  have s := h.sq
  refine ⟨R, hR, hc, h0, ?_⟩
  have e45 : p2 (-45) ≤ 1 / 1000000000 := by decide +kernel
  have e20 : p2 (-20) ≤ 1 / 1000000 := by decide +kernel
  rcases Rat.le_total (a := p * p + q * q) (b := p2 (-90)) with h90 | h90
  · have := (hs (p2 (-45)) ⟨1, -45, by decide, by decide, by rw [show ((1 : Nat) : Rat) = 1 from rfl, Rat.one_mul]⟩).1 (by rw [← p2_add]; exact h90)
    grind
  · have h1 := (hn h90).2
    have h2 : R * R ≤ B * (1 + 1 / 1000000) * (B * (1 + 1 / 1000000)) := by
      have h4 := sqr_nonneg B
      have h3 := Rat.mul_le_mul_of_nonneg_left e20 (show 0 ≤ p * p + q * q by
        have := sqr_nonneg p
        have := sqr_nonneg q
        grind)
      grind
    have := sq_le_of h0 (show 0 ≤ B * (1 + 1 / 1000000) by grind) h2
    grind
theorem long_lo {x y : FV} {p q B R : Rat} (hx : Vl .f32 x p) (hy : Vl .f32 y q) (hp : -1000 ≤ p ∧ p ≤ 1000) (hq : -1000 ≤ q ∧ q ≤ 1000) (hB : 1 / 1000000000 ≤ B) (h : B * B ≤ p * p + q * q) (hR : Vl .f32 (longF x y) R) : B * (1 - 1 / 1000000) ≤ R := by
  have p30 : (1000 : Rat) ≤ p2 30 := by decide +kernel
  obtain ⟨R', hR', _, h0, hs, hn⟩ := vl_long hx hy (by constructor <;> grind) (by constructor <;> grind)
  obtain rfl := Vl.unique hR hR'
  have e90 : p2 (-90) ≤ 1 / 1000000000 * (1 / 1000000000) := by decide +kernel
  have e20 : p2 (-20) ≤ 1 / 1000000 := by decide +kernel
  have b1 : 1 / 1000000000 * (1 / 1000000000) ≤ B * B := by
    have h1 := Rat.mul_le_mul_of_nonneg_left hB (show (0 : Rat) ≤ 1 / 1000000000 by decide +kernel)
    have h2 := Rat.mul_le_mul_of_nonneg_right hB (show 0 ≤ B by grind)
    grind
  have h1 := (hn (by grind)).1
  have h3 := sqr_nonneg R
  have h4 := Rat.mul_le_mul_of_nonneg_left e20 h3
  have h5 := sqr_nonneg B
  refine sq_le_of (by grind) h0 ?_
  grind
end Go.Ab
