/- Quiet lists: what is computed solves the square, nearly. No conditions. -/
import Derived.Test.YtlnfbadoglllbaaQk
import Derived.Test.YtlnfbadoglllbaaQe
namespace Go.Ab

/-! Rounding, by what comes out. -/
theorem rnd_refl (k : FloatKind) (q : Rat) : Rnd k q q := ⟨fun a h1 h2 => by
  have h3 := Rat.mul_nonneg (show 0 ≤ a by grind) (Rat.le_of_lt (eps_pos k))
  have h4 := tiny_pos k
  constructor <;> grind, fun _ _ => ⟨id, id⟩⟩
theorem rep_pow {e : Int} (he : -149 ≤ e) : RepN .f32 (p2 e) := ⟨1, e, by decide, he, by
  have : ((1 : Nat) : Rat) = 1 := rfl
  rw [this, Rat.one_mul]⟩
theorem rnd_pow {q r : Rat} {e : Int} (h : Rnd .f32 q r) (he : -149 ≤ e) (h1 : -p2 e ≤ q) (h2 : q ≤ p2 e) : -p2 e ≤ r ∧ r ≤ p2 e :=
  ⟨(h.side _ (.inr (by rw [Rat.neg_neg]; exact rep_pow he))).2 h1, (h.side _ (.inl (rep_pow he))).1 h2⟩
theorem fit_pow {q : Rat} {e : Int} (he : e < 127) (h1 : -p2 e ≤ q) (h2 : q ≤ p2 e) : Fit .f32 q := by
  have h3 := p2_le (show e ≤ 126 by omega)
  have h4 : p2 126 < p2 (ftop .f32) := by decide +kernel
  constructor <;> grind
theorem rnd_back {q r A : Rat} (h : Rnd .f32 q r) (h1 : -A ≤ r) (h2 : r ≤ A) (hA : 1 ≤ A) : -(1001 / 1000 * A) ≤ q ∧ q ≤ 1001 / 1000 * A ∧ -((1001 / 1000 * A + 1) / 8388608) ≤ q - r ∧ q - r ≤ (1001 / 1000 * A + 1) / 8388608 := by
  rcases Rat.le_total (a := 0) (b := q) with h0 | h0
  · have h3 := rnd_abs h q (by grind) (by grind)
    have h4 : q ≤ 1001 / 1000 * A := by grind
    refine ⟨by grind, h4, by grind, by grind⟩
  · have h3 := rnd_abs h (-q) (by grind) (by grind)
    have h4 : -(1001 / 1000 * A) ≤ q := by grind
    refine ⟨h4, by grind, by grind, by grind⟩
theorem rnd_fwd {q r A : Rat} (h : Rnd .f32 q r) (h1 : -A ≤ q) (h2 : q ≤ A) : -((A + 1) / 8388608) ≤ q - r ∧ q - r ≤ (A + 1) / 8388608 := by
  have h3 := rnd_abs h A h1 h2
  constructor <;> grind
theorem Vl.rat {x : FV} {q : Rat} (h : Vl .f32 x q) : ratF x = q := by
  obtain ⟨b, s, m, e, rfl, hd, rfl⟩ := h
  simp only [ratF, hd]
theorem Vl.own {x : FV} {q : Rat} (h : Vl .f32 x q) : Vl .f32 x (ratF x) := by rw [h.rat]; exact h

/-- A difference with a product. -/
theorem fms {a u x : FV} {A U X : Rat} (ha : Vl .f32 a A) (hu : Vl .f32 u U) (hx : Vl .f32 x X) {e1 e2 : Int} (h1 : -149 ≤ e1 ∧ e1 < 127) (h2 : -149 ≤ e2 ∧ e2 < 127) (hP : -p2 e1 ≤ U * X ∧ U * X ≤ p2 e1)
    (hS : ∀ p, -p2 e1 ≤ p → p ≤ p2 e1 → -p2 e2 ≤ A - p ∧ A - p ≤ p2 e2) : ∃ p s, Vl .f32 (fbin .sub .f32 a (fbin .mul .f32 u x)) s ∧ Rnd .f32 (U * X) p ∧ Rnd .f32 (A - p) s ∧ -p2 e2 ≤ s ∧ s ≤ p2 e2 := by
  obtain ⟨p, v1, r1⟩ := vl_mul hu hx (fit_pow h1.2 hP.1 hP.2)
  have b1 := rnd_pow r1 h1.1 hP.1 hP.2
  have b2 := hS p b1.1 b1.2
  obtain ⟨s, v2, r2⟩ := vl_sub ha v1 (fit_pow h2.2 b2.1 b2.2)
  have b3 := rnd_pow r2 h2.1 b2.1 b2.2
  exact ⟨p, s, v2, r1, r2, b3.1, b3.2⟩
structure FRel (b l2 y2 l1 y1 y : Rat) : Prop where
  h : ∃ p t q, Rnd .f32 (l2 * y2) p ∧ Rnd .f32 (b - p) t ∧ Rnd .f32 (l1 * y1) q ∧ Rnd .f32 (t - q) y
structure BRel (y e x1 g x2 d x : Rat) : Prop where
  h : ∃ p t q s, Rnd .f32 (e * x1) p ∧ Rnd .f32 (y - p) t ∧ Rnd .f32 (g * x2) q ∧ Rnd .f32 (t - q) s ∧ Rnd .f32 (s / d) x
theorem brel_err {y e x1 g x2 d x X : Rat} (h : BRel y e x1 g x2 d x) (hX : 1 ≤ X) (hx : -X ≤ x ∧ x ≤ X) (hx1 : -X ≤ x1 ∧ x1 ≤ X) (hx2 : -X ≤ x2 ∧ x2 ≤ X) (hd : 1 ≤ d ∧ d ≤ 20) (he : -32 ≤ e ∧ e ≤ 0) (hg : 0 ≤ g ∧ g ≤ 8) :
    (-(135 * X / 8388608) ≤ d * x + e * x1 + g * x2 - y ∧ d * x + e * x1 + g * x2 - y ≤ 135 * X / 8388608) ∧ (-(61 * X) ≤ y ∧ y ≤ 61 * X) := by
  obtain ⟨p, t, q, s, r1, r2, r3, r4, r5⟩ := h.h
  have d0 : d ≠ 0 := by grind
  have b5 := rnd_back r5 hx.1 hx.2 hX
  have es : s / d * d = s := Rat.div_mul_cancel d0
  generalize s / d = c at *
  have m5 := mul_bnd (p := c) (q := d) (a := 1001 / 1000 * X) (b := 20) (by grind) (by grind) (by grind) (by grind)
  have m6 := mul_bnd (p := c - x) (q := d) (a := (1001 / 1000 * X + 1) / 8388608) (b := 20) (by grind) (by grind) (by grind) (by grind)
  have b4 := rnd_back (A := 2003 / 100 * X) r4 (by grind) (by grind) (by grind)
  have m3 := mul_bnd (p := g) (q := x2) (a := 8) (b := X) (by grind) (by grind) hx2.1 hx2.2
  have b3 := rnd_fwd (A := 8 * X) r3 (by grind) (by grind)
  have b2 := rnd_back (A := 2820 / 100 * X) r2 (by grind) (by grind) (by grind)
  have m1 := mul_bnd (p := e) (q := x1) (a := 32) (b := X) (by grind) (by grind) hx1.1 hx1.2
  have b1 := rnd_fwd (A := 32 * X) r1 (by grind) (by grind)
  have key : d * x + e * x1 + g * x2 - y = -((c - x) * d) - (t - q - s) - (y - p - t) + (e * x1 - p) + (g * x2 - q) := by grind
  refine ⟨?_, by grind, by grind⟩
  rw [key]
  generalize (c - x) * d = z1 at *
  generalize e * x1 = z2 at *
  generalize g * x2 = z3 at *
  constructor <;> grind
theorem frel_err {b l2 y2 l1 y1 y X : Rat} (h : FRel b l2 y2 l1 y1 y) (hX : 1 ≤ X) (hy : -(61 * X) ≤ y ∧ y ≤ 61 * X) (hy1 : -(61 * X) ≤ y1 ∧ y1 ≤ 61 * X) (hy2 : -(61 * X) ≤ y2 ∧ y2 ≤ 61 * X) (hl1 : -2 ≤ l1 ∧ l1 ≤ 0) (hl2 : 0 ≤ l2 ∧ l2 ≤ 1) :
    -(435 * X / 8388608) ≤ y + l1 * y1 + l2 * y2 - b ∧ y + l1 * y1 + l2 * y2 - b ≤ 435 * X / 8388608 := by
  obtain ⟨p, t, q, r1, r2, r3, r4⟩ := h.h
  have m1 := mul_bnd (p := l2) (q := y2) (a := 1) (b := 61 * X) (by grind) (by grind) hy2.1 hy2.2
  have b1 := rnd_fwd (A := 61 * X) r1 (by grind) (by grind)
  have m3 := mul_bnd (p := l1) (q := y1) (a := 2) (b := 61 * X) (by grind) (by grind) hy1.1 hy1.2
  have b3 := rnd_fwd (A := 122 * X) r3 (by grind) (by grind)
  have b4 := rnd_back (A := 61 * X) r4 hy.1 hy.2 (by grind)
  have b2 := rnd_back (A := 18410 / 100 * X) r2 (by grind) (by grind) (by grind)
  have key : y + l1 * y1 + l2 * y2 - b = -(t - q - y) + (l1 * y1 - q) + (l2 * y2 - p) - (b - p - t) := by grind
  rw [key]
  generalize l1 * y1 = z2 at *
  generalize l2 * y2 = z3 at *
  constructor <;> grind
end Go.Ab
