/- Part 11 of the texts on which the law leans, joined: Stores of structs in drawn regions. No conditions. -/
import Derived.Test.YtapclajklcflbaaZaj
namespace Go.Ab
/-- How near, by what is near it. -/
theorem rnd_rel {q r : Rat} (h : Rnd .f32 q r) (a : Rat) (h1 : -a ≤ q) (h2 : q ≤ a) : q - (a / 8388608 + 1 / 100000000000000000000) ≤ r ∧ r ≤ q + (a / 8388608 + 1 / 100000000000000000000) := by
  have h3 := h.near a h1 h2
  have e1 : feps .f32 = 1 / 8388608 := by decide +kernel
  have e2 : ftiny .f32 ≤ 1 / 100000000000000000000 := by decide +kernel
  rw [e1] at h3
  obtain ⟨h4, h5⟩ := h3
  constructor <;> grind
theorem p24_big : (16000000 : Rat) ≤ p2 24 := by decide +kernel
section
variable {x y : FV} {p q : Rat}
theorem fit_16 {a q : Rat} (h1 : -a ≤ q) (h2 : q ≤ a) (h3 : a ≤ 16000000) : Fit .f32 q := by
  have := p24_big
  exact fit_24 (by grind) (by grind)
theorem mulR (hx : Vl .f32 x p) (hy : Vl .f32 y q) (a : Rat) (h1 : -a ≤ p * q) (h2 : p * q ≤ a) (h3 : a ≤ 16000000) : ∃ r, Vl .f32 (fbin .mul .f32 x y) r ∧ Rnd .f32 (p * q) r ∧ p * q - (a / 8388608 + 1 / 100000000000000000000) ≤ r ∧ r ≤ p * q + (a / 8388608 + 1 / 100000000000000000000) := by
  obtain ⟨r, vr, hr⟩ := vl_mul hx hy (fit_16 h1 h2 h3)
  exact ⟨r, vr, hr, rnd_rel hr a h1 h2⟩
theorem addR (hx : Vl .f32 x p) (hy : Vl .f32 y q) (a : Rat) (h1 : -a ≤ p + q) (h2 : p + q ≤ a) (h3 : a ≤ 16000000) : ∃ r, Vl .f32 (fbin .add .f32 x y) r ∧ Rnd .f32 (p + q) r ∧ p + q - (a / 8388608 + 1 / 100000000000000000000) ≤ r ∧ r ≤ p + q + (a / 8388608 + 1 / 100000000000000000000) := by
  obtain ⟨r, vr, hr⟩ := vl_add hx hy (fit_16 h1 h2 h3)
  exact ⟨r, vr, hr, rnd_rel hr a h1 h2⟩
theorem subR (hx : Vl .f32 x p) (hy : Vl .f32 y q) (a : Rat) (h1 : -a ≤ p - q) (h2 : p - q ≤ a) (h3 : a ≤ 16000000) : ∃ r, Vl .f32 (fbin .sub .f32 x y) r ∧ Rnd .f32 (p - q) r ∧ p - q - (a / 8388608 + 1 / 100000000000000000000) ≤ r ∧ r ≤ p - q + (a / 8388608 + 1 / 100000000000000000000) := by
  obtain ⟨r, vr, hr⟩ := vl_sub hx hy (fit_16 h1 h2 h3)
  exact ⟨r, vr, hr, rnd_rel hr a h1 h2⟩
theorem divR (hx : Vl .f32 x p) (hy : Vl .f32 y q) (hq : q ≠ 0) (a : Rat) (h1 : -a ≤ p / q) (h2 : p / q ≤ a) (h3 : a ≤ 16000000) : ∃ r, Vl .f32 (fbin .quo .f32 x y) r ∧ Rnd .f32 (p / q) r ∧ p / q - (a / 8388608 + 1 / 100000000000000000000) ≤ r ∧ r ≤ p / q + (a / 8388608 + 1 / 100000000000000000000) := by
  have := p24_big
  obtain ⟨r, vr, hr⟩ := vl_div hx hy hq (fit_24' (by grind) (by grind))
  exact ⟨r, vr, hr, rnd_rel hr a h1 h2⟩
end
/-- A time, by value. -/
structure Tm (t : FV) (τ : Rat) : Prop where
  v : Vl .f32 t τ
  s : Vl .f32 (fbin .sub .f32 one1 t) (1 - τ)
  lo : 0 ≤ τ
  hi : τ ≤ 1
/-- A coordinate's blend. -/
def blF (a b u v t : FV) : FV := fbin .mul .f32 (fbin .add .f32 (fbin .mul .f32 a (fbin .mul .f32 u (fbin .sub .f32 one1 t))) (fbin .mul .f32 b (fbin .mul .f32 v t))) (fbin .quo .f32 one1 (blW u v t))
theorem blC_1 (a b : CV) (u v t : FV) : (blC a b u v t).1 = blF a.1 b.1 u v t := rfl
theorem blC_2 (a b : CV) (u v t : FV) : (blC a b u v t).2 = blF a.2 b.2 u v t := rfl
theorem one1_vl : Vl .f32 one1 1 := Vl.c (by decide +kernel)
/-- What two weights make, by value. -/
structure Bw (u v t : FV) (x y τ : Rat) (p q W : Rat) : Prop where
  vp : Vl .f32 (fbin .mul .f32 u (fbin .sub .f32 one1 t)) p
  vq : Vl .f32 (fbin .mul .f32 v t) q
  vW : Vl .f32 (blW u v t) W
  p0 : 0 ≤ p
  q0 : 0 ≤ q
  p1 : x * (1 - τ) - 4 / 8388608 ≤ p
  p2 : p ≤ x * (1 - τ) + 4 / 8388608
  q1 : y * τ - 4 / 8388608 ≤ q
  q2 : q ≤ y * τ + 4 / 8388608
  S0 : 1 / 6 ≤ p + q
  S1 : p + q ≤ 4
  w1 : p + q - ((p + q) / 8388608 + 1 / 100000000000000000000) ≤ W
  w2 : W ≤ p + q + ((p + q) / 8388608 + 1 / 100000000000000000000)
theorem bw_of {u v t : FV} {x y τ : Rat} (hT : Tm t τ) (vu : Vl .f32 u x) (vv : Vl .f32 v y) (hx : 1 / 5 ≤ x ∧ x ≤ 3) (hy : 1 / 5 ≤ y ∧ y ≤ 3) : ∃ p q W, Bw u v t x y τ p q W := by
  have l := hT.lo
  have h := hT.hi
  have a1 := Rat.mul_nonneg (show 0 ≤ x - 1 / 5 by grind) (show 0 ≤ 1 - τ by grind)
  have a2 := Rat.mul_nonneg (show 0 ≤ 3 - x by grind) (show 0 ≤ 1 - τ by grind)
  have a3 := Rat.mul_nonneg (show 0 ≤ y - 1 / 5 by grind) l
  have a4 := Rat.mul_nonneg (show 0 ≤ 3 - y by grind) l
  obtain ⟨p, vp, rp, p1, p2⟩ := mulR vu hT.s 3 (by grind) (by grind) (by decide +kernel)
  obtain ⟨q, vq, rq, q1, q2⟩ := mulR vv hT.v 3 (by grind) (by grind) (by decide +kernel)
  have p0 := (rp.side 0 (rep_zero _)).2 (by grind)
  have q0 := (rq.side 0 (rep_zero _)).2 (by grind)
  obtain ⟨W, vW, rW, w1, w2⟩ := addR vp vq (p + q) (by grind) (by grind) (by grind)
  exact ⟨p, q, W, vp, vq, vW, p0, q0, by grind, by grind, by grind, by grind, by grind, by grind, w1, w2⟩
theorem blF_vl {a b u v t : FV} {x y τ α β p q W : Rat} (h : Bw u v t x y τ p q W) (va : Vl .f32 a α) (vb : Vl .f32 b β) (ha : -40 ≤ α ∧ α ≤ 40) (hb : -40 ≤ β ∧ β ≤ 40) :
    ∃ z, Vl .f32 (blF a b u v t) z ∧ (p * α + q * β) / (p + q) - 1 / 25000 ≤ z ∧ z ≤ (p * α + q * β) / (p + q) + 1 / 25000 := by
  have p0 := h.p0
  have q0 := h.q0
  have S0 := h.S0
  have S1 := h.S1
  have w1 := h.w1
  have w2 := h.w2
  have hS : p + q ≠ 0 := by grind
  obtain ⟨S, eS⟩ : ∃ S, S = p + q := ⟨_, rfl⟩
  rw [← eS] at S0 S1 w1 w2 hS ⊢
  have W0 : 1 / 7 ≤ W := by grind
  have hW : W ≠ 0 := by grind
  obtain ⟨I, eI⟩ : ∃ I, I = 1 / W := ⟨_, rfl⟩
  have hI : I * W = 1 := by rw [eI]; exact Rat.div_mul_cancel hW
  have I7 : I ≤ 7 := by rw [eI]; exact div_le_of (by grind) (by grind)
  have I0 : 0 ≤ I := by rw [eI]; exact le_div_of (by grind) (by grind)
  obtain ⟨R, vR, rR, r1, r2⟩ := divR one1_vl h.vW hW I (by rw [← eI]; grind) (by rw [← eI]; exact Rat.le_refl) (by grind)
  rw [← eI] at r1 r2 rR
  obtain ⟨c, ec⟩ : ∃ c, c = (p * α + q * β) / S := ⟨_, rfl⟩
  have hc : c * S = p * α + q * β := by rw [ec]; exact Rat.div_mul_cancel hS
  rw [← ec]
  have b1 := Rat.mul_nonneg p0 (show 0 ≤ 40 - α by grind)
  have b2 := Rat.mul_nonneg p0 (show 0 ≤ 40 + α by grind)
  have b3 := Rat.mul_nonneg q0 (show 0 ≤ 40 - β by grind)
  have b4 := Rat.mul_nonneg q0 (show 0 ≤ 40 + β by grind)
  have c1 : c ≤ 40 := by rw [ec]; exact div_le_of (by grind) (by grind)
  have c2 : -40 ≤ c := by rw [ec]; exact le_div_of (by grind) (by grind)
  obtain ⟨m1, vm1, _, m11, m12⟩ := mulR va h.vp (40 * p) (by grind) (by grind) (by grind)
  obtain ⟨m2, vm2, _, m21, m22⟩ := mulR vb h.vq (40 * q) (by grind) (by grind) (by grind)
  obtain ⟨s, vs, _, s1, s2⟩ := addR vm1 vm2 (40 * S + 1 / 1000) (by grind) (by grind) (by grind)
  clear p0 q0 b1 b2 b3 b4
  have d1 : s - c * S ≤ 81 / 8388608 * S := by grind
  have d2 : -(81 / 8388608 * S) ≤ s - c * S := by grind
  clear m11 m12 m21 m22 s1 s2 vm1 vm2
  have R0 : 0 ≤ R := (rR.side 0 (rep_zero _)).2 I0
  have R8 : R ≤ 8 := by grind
  -- R W is near 1
  have e1 := Rat.mul_le_mul_of_nonneg_right r1 (show 0 ≤ W by grind)
  have e2 := Rat.mul_le_mul_of_nonneg_right r2 (show 0 ≤ W by grind)
  have f1 := Rat.mul_le_mul_of_nonneg_left w1 R0
  have f2 := Rat.mul_le_mul_of_nonneg_left w2 R0
  obtain ⟨ρ, eρ⟩ : ∃ ρ, ρ = R * S := ⟨_, rfl⟩
  have ρ0 : 0 ≤ ρ := by rw [eρ]; exact Rat.mul_nonneg R0 (by grind)
  have g1 : R * W - 1 ≤ 2 / 8388608 := by grind
  have g2 : -(2 / 8388608) ≤ R * W - 1 := by grind
  have k1 : ρ ≤ 1 + 4 / 8388608 := by grind
  have k2 : 1 - 4 / 8388608 ≤ ρ := by grind
  clear e1 e2 f1 f2 g1 g2 r1 r2
  have n1 := Rat.mul_le_mul_of_nonneg_right d1 R0
  have n2 := Rat.mul_le_mul_of_nonneg_right d2 R0
  have n3 := mul_bnd (a := 40) (b := 4 / 8388608) c2 c1 (show -(4 / 8388608) ≤ ρ - 1 by grind) (show ρ - 1 ≤ 4 / 8388608 by grind)
  have n0 : s * R - c = (s - c * S) * R + c * (ρ - 1) := by rw [eρ]; grind
  have n4 : 81 / 8388608 * S * R = 81 / 8388608 * ρ := by rw [eρ]; grind
  have n5 : -(81 / 8388608 * S) * R = -(81 / 8388608 * ρ) := by rw [eρ]; grind
  rw [n4] at n1
  rw [n5] at n2
  obtain ⟨n3, n6⟩ := n3
  clear n4 n5 d1 d2
  have o1 : s * R - c ≤ 245 / 8388608 := by
    rw [n0]
    generalize (s - c * S) * R = A at n1 n2 ⊢
    generalize c * (ρ - 1) = B at n3 n6 ⊢
    clear n0
    grind
  have o2 : -(245 / 8388608) ≤ s * R - c := by
    rw [n0]
    generalize (s - c * S) * R = A at n1 n2 ⊢
    generalize c * (ρ - 1) = B at n3 n6 ⊢
    clear n0
    grind
  obtain ⟨z, vz, _, z1, z2⟩ := mulR vs vR 41 (by grind) (by grind) (by decide +kernel)
  exact ⟨z, vz, by grind, by grind⟩
/-- By how much a level leans on the next point. -/
def valR (x : FV) : Rat := match x with
  | none => 0
  | some b => match FloatKind.f32.decode b with
    | .number s m e => vl s m e
    | _ => 0
theorem Vl.valR {x : FV} {p : Rat} (h : Vl .f32 x p) : valR x = p := by
  obtain ⟨b, s, m, e, rfl, hd, rfl⟩ := h
  simp only [Go.Ab.valR, hd]
def lamQ (p q : Rat) : Rat := q / (p + q)
def lam (f : Int → FV) (t : FV) (k i : Nat) : Rat := lamQ (valR (fbin .mul .f32 (rowsW f t k i) (fbin .sub .f32 one1 t))) (valR (fbin .mul .f32 (rowsW f t k ((i : Int) + 1)) t))
/-- A level, by value. -/
def Cx (f : Int → FV) (t : FV) (x : Nat → Rat) : Nat → Nat → Rat
  | 0, i => x i
  | k + 1, i => (1 - lam f t k i) * Cx f t x k i + lam f t k i * Cx f t x k (i + 1)
/-- A level of coordinates. -/
def rowsF (X : Nat → FV) (f : Int → FV) (t : FV) : Nat → Nat → FV
  | 0, i => X i
  | k + 1, i => blF (rowsF X f t k i) (rowsF X f t k (i + 1)) (rowsW f t k i) (rowsW f t k ((i : Int) + 1)) t
theorem rowsP_1 (P : Nat → CV) (f : Int → FV) (t : FV) : ∀ k i, ((rowsP P f t k).1 i).1 = rowsF (fun i => (P i).1) f t k i
  | 0, i => rfl
  | k + 1, i => by
    show (rowP (rowsP P f t k).1 (rowsP P f t k).2 t i).1 = _
    unfold rowP
    rw [rowsP_w, blC_1, rowsP_1 P f t k i, rowsP_1 P f t k (i + 1)]
    rfl
theorem rowsP_2 (P : Nat → CV) (f : Int → FV) (t : FV) : ∀ k i, ((rowsP P f t k).1 i).2 = rowsF (fun i => (P i).2) f t k i
  | 0, i => rfl
  | k + 1, i => by
    show (rowP (rowsP P f t k).1 (rowsP P f t k).2 t i).2 = _
    unfold rowP
    rw [rowsP_w, blC_2, rowsP_2 P f t k i, rowsP_2 P f t k (i + 1)]
    rfl
/-- Weights between a quarter and two. -/
def Wts (f : Int → FV) (n : Nat) : Prop := ∀ i : Nat, i < n → ∃ r, Vl .f32 (f i) r ∧ 1 / 4 ≤ r ∧ r ≤ 2
theorem rowsW_vl {f : Int → FV} {n : Nat} {t : FV} {τ : Rat} (hf : Wts f n) (hT : Tm t τ) : ∀ (k : Nat), k < 8 → ∀ i : Nat, i + k < n → ∃ r, Vl .f32 (rowsW f t k i) r ∧ 1 / 4 - (k : Rat) / 100000 ≤ r ∧ r ≤ 2 + (k : Rat) / 100000
  | 0, _, i, hi => by
    obtain ⟨r, vr, h1, h2⟩ := hf i (by omega)
    refine ⟨r, vr, ?_, ?_⟩
    · rw [show ((0 : Nat) : Rat) = 0 from rfl]
      grind
    · rw [show ((0 : Nat) : Rat) = 0 from rfl]
      grind
  | k + 1, hk, i, hi => by
    obtain ⟨x, vx, x1, x2⟩ := rowsW_vl hf hT k (by omega) i (by omega)
    obtain ⟨y, vy, y1, y2⟩ := rowsW_vl hf hT k (by omega) (i + 1) (by omega)
    rw [show ((i + 1 : Nat) : Int) = (i : Int) + 1 by omega] at vy
    have hk8 : (k : Rat) ≤ 8 := by
      have := Rat.natCast_le_natCast.2 (show k ≤ 8 by omega)
      exact this
    have ek : ((k + 1 : Nat) : Rat) = (k : Rat) + 1 := Rat.natCast_add k 1
    rw [ek]
    obtain ⟨p, q, W, h⟩ := bw_of hT vx vy (by constructor <;> grind) (by constructor <;> grind)
    refine ⟨W, h.vW, ?_, ?_⟩
    · have a1 := Rat.mul_nonneg (show 0 ≤ x - (1 / 4 - (k : Rat) / 100000) by grind) (show 0 ≤ 1 - τ by have := hT.hi; grind)
      have a2 := Rat.mul_nonneg (show 0 ≤ y - (1 / 4 - (k : Rat) / 100000) by grind) hT.lo
      have := h.w1
      have := h.p1
      have := h.q1
      have := h.S1
      grind
    · have a1 := Rat.mul_nonneg (show 0 ≤ 2 + (k : Rat) / 100000 - x by grind) (show 0 ≤ 1 - τ by have := hT.hi; grind)
      have a2 := Rat.mul_nonneg (show 0 ≤ 2 + (k : Rat) / 100000 - y by grind) hT.lo
      have := h.w2
      have := h.p2
      have := h.q2
      have := h.S1
      grind
/-- What a level's two weights make. -/
theorem rowsW_bw {f : Int → FV} {n : Nat} {t : FV} {τ : Rat} (hf : Wts f n) (hT : Tm t τ) {k i : Nat} (hk : k < 8) (hi : i + k + 1 < n) :
    ∃ x y p q W, Bw (rowsW f t k i) (rowsW f t k ((i : Int) + 1)) t x y τ p q W ∧ lam f t k i = q / (p + q) ∧ 0 ≤ lam f t k i ∧ lam f t k i ≤ 1 := by
  obtain ⟨x, vx, x1, x2⟩ := rowsW_vl hf hT k (by omega) i (by omega)
  obtain ⟨y, vy, y1, y2⟩ := rowsW_vl hf hT k (by omega) (i + 1) (by omega)
  rw [show ((i + 1 : Nat) : Int) = (i : Int) + 1 by omega] at vy
  have hk8 : (k : Rat) ≤ 8 := by
    have := Rat.natCast_le_natCast.2 (show k ≤ 8 by omega)
    exact this
  obtain ⟨p, q, W, h⟩ := bw_of hT vx vy (by constructor <;> grind) (by constructor <;> grind)
  have e : lam f t k i = q / (p + q) := by
    unfold lam lamQ
    rw [h.vp.valR, h.vq.valR]
  have S0 := h.S0
  have p0 := h.p0
  have q0 := h.q0
  refine ⟨x, y, p, q, W, h, e, ?_, ?_⟩
  · rw [e]
    exact le_div_of (by grind) (by grind)
  · rw [e]
    exact div_le_of (by grind) (by grind)
/-- A mean of two. -/
theorem mean_bnd {l a b B : Rat} (h0 : 0 ≤ l) (h1 : l ≤ 1) (ha : -B ≤ a ∧ a ≤ B) (hb : -B ≤ b ∧ b ≤ B) : -B ≤ (1 - l) * a + l * b ∧ (1 - l) * a + l * b ≤ B := by
  have a1 := Rat.mul_nonneg (show 0 ≤ 1 - l by grind) (show 0 ≤ B - a by grind)
  have a2 := Rat.mul_nonneg (show 0 ≤ 1 - l by grind) (show 0 ≤ B + a by grind)
  have a3 := Rat.mul_nonneg h0 (show 0 ≤ B - b by grind)
  have a4 := Rat.mul_nonneg h0 (show 0 ≤ B + b by grind)
  constructor <;> grind
section
variable {f : Int → FV} {n : Nat} {t : FV} {τ : Rat}
theorem cx_near (hf : Wts f n) (hT : Tm t τ) {x y : Nat → Rat} {B : Rat} (h : ∀ i, i < n → -B ≤ x i - y i ∧ x i - y i ≤ B) : ∀ (k : Nat), k ≤ 8 → ∀ i, i + k < n → -B ≤ Cx f t x k i - Cx f t y k i ∧ Cx f t x k i - Cx f t y k i ≤ B
  | 0, _, i, hi => h i (by omega)
  | k + 1, hk, i, hi => by
    obtain ⟨_, _, _, _, _, _, _, l0, l1⟩ := rowsW_bw hf hT (k := k) (i := i) (by omega) (by omega)
    have h1 := cx_near hf hT h k (by omega) i (by omega)
    have h2 := cx_near hf hT h k (by omega) (i + 1) (by omega)
    have h3 := mean_bnd l0 l1 h1 h2
    unfold Cx
    constructor <;> grind
theorem cx_lin (a b c : Rat) (x y : Nat → Rat) : ∀ (k i : Nat), Cx f t (fun i => a * x i + b * y i + c) k i = a * Cx f t x k i + b * Cx f t y k i + c
  | 0, i => rfl
  | k + 1, i => by
    unfold Cx
    rw [cx_lin a b c x y k i, cx_lin a b c x y k (i + 1)]
    grind
theorem cx_zero : ∀ (k i : Nat), Cx f t (fun _ => 0) k i = 0
  | 0, i => rfl
  | k + 1, i => by
    unfold Cx
    rw [cx_zero k i, cx_zero k (i + 1)]
    grind
theorem cx_bnd (hf : Wts f n) (hT : Tm t τ) {x : Nat → Rat} {B : Rat} (h : ∀ i, i < n → -B ≤ x i ∧ x i ≤ B) (k : Nat) (hk : k ≤ 8) (i : Nat) (hi : i + k < n) : -B ≤ Cx f t x k i ∧ Cx f t x k i ≤ B := by
  have := cx_near hf hT (x := x) (y := fun _ => 0) (B := B) (fun i hi => by have := h i hi; constructor <;> grind) k hk i hi
  rw [cx_zero] at this
  constructor <;> grind
/-- A level of coordinates is what it is by value, nearly. -/
theorem rows_cx (hf : Wts f n) (hT : Tm t τ) {X : Nat → FV} {x : Nat → Rat} (hX : ∀ i, i < n → Vl .f32 (X i) (x i)) (h : ∀ i, i < n → -39 ≤ x i ∧ x i ≤ 39) : ∀ (k : Nat), k ≤ 8 → ∀ i, i + k < n → ∃ r, Vl .f32 (rowsF X f t k i) r ∧ -((k : Rat) / 25000) ≤ r - Cx f t x k i ∧ r - Cx f t x k i ≤ (k : Rat) / 25000
  | 0, _, i, hi => ⟨x i, hX i (by omega), by
      show -(((0 : Nat) : Rat) / 25000) ≤ x i - x i
      rw [show ((0 : Nat) : Rat) = 0 from rfl]
      grind, by
      show x i - x i ≤ ((0 : Nat) : Rat) / 25000
      rw [show ((0 : Nat) : Rat) = 0 from rfl]
      grind⟩
  | k + 1, hk, i, hi => by
    obtain ⟨x', y', p, q, W, hB, el, l0, l1⟩ := rowsW_bw hf hT (k := k) (i := i) (by omega) (by omega)
    obtain ⟨a, va, a1, a2⟩ := rows_cx hf hT hX h k (by omega) i (by omega)
    obtain ⟨b, vb, b1, b2⟩ := rows_cx hf hT hX h k (by omega) (i + 1) (by omega)
    obtain ⟨ca, ca'⟩ := cx_bnd hf hT h k (by omega) i (by omega)
    obtain ⟨cb, cb'⟩ := cx_bnd hf hT h k (by omega) (i + 1) (by omega)
    have hk8 : (k : Rat) ≤ 8 := by
      have := Rat.natCast_le_natCast.2 (show k ≤ 8 by omega)
      exact this
    have ek : ((k + 1 : Nat) : Rat) = (k : Rat) + 1 := Rat.natCast_add k 1
    rw [ek]
    obtain ⟨z, vz, z1, z2⟩ := blF_vl hB va vb (by constructor <;> grind) (by constructor <;> grind)
    have S0 := hB.S0
    have hS : p + q ≠ 0 := by grind
    have e1 : (p * a + q * b) / (p + q) = (1 - lam f t k i) * a + lam f t k i * b := by
      rw [el]
      have e2 : q / (p + q) * (p + q) = q := Rat.div_mul_cancel hS
      have e3 : (p * a + q * b) / (p + q) * (p + q) = p * a + q * b := Rat.div_mul_cancel hS
      have e4 : ((1 - q / (p + q)) * a + q / (p + q) * b) * (p + q) = p * a + q * b := by
        generalize q / (p + q) = l at e2 ⊢
        grind
      have e5 : ((p * a + q * b) / (p + q)) * (p + q) = ((1 - q / (p + q)) * a + q / (p + q) * b) * (p + q) := by rw [e3, e4]
      have e6 := congrArg (· / (p + q)) e5
      simp only [Rat.mul_div_cancel hS] at e6
      exact e6
    rw [e1] at z1 z2
    have m := mean_bnd l0 l1 (a := a - Cx f t x k i) (b := b - Cx f t x k (i + 1)) ⟨a1, a2⟩ ⟨b1, b2⟩
    refine ⟨z, vz, ?_, ?_⟩
    · unfold Cx
      grind
    · unfold Cx
      grind
end
end Go.Ab
namespace Go.Ab
section
variable {f g : Int → FV} {n : Nat} {t : FV} {τ : Rat}
theorem rowsW_congr (h : ∀ i : Nat, i < n → f i = g i) : ∀ (k i : Nat), i + k < n → rowsW f t k i = rowsW g t k i
  | 0, i, hi => h i (by omega)
  | k + 1, i, hi => by
    have e1 := rowsW_congr h k i (by omega)
    have e2 := rowsW_congr h k (i + 1) (by omega)
    rw [show ((i + 1 : Nat) : Int) = (i : Int) + 1 by omega] at e2
    show rowW (rowsW f t k) t i = rowW (rowsW g t k) t i
    unfold rowW
    rw [e1, e2]
theorem lam_congr (h : ∀ i : Nat, i < n → f i = g i) (k i : Nat) (hi : i + k + 1 < n) : lam f t k i = lam g t k i := by
  have e1 := rowsW_congr (t := t) h k i (by omega)
  have e2 := rowsW_congr (t := t) h k (i + 1) (by omega)
  rw [show ((i + 1 : Nat) : Int) = (i : Int) + 1 by omega] at e2
  unfold lam
  rw [e1, e2]
theorem cx_congr (h : ∀ i : Nat, i < n → f i = g i) {x y : Nat → Rat} (hx : ∀ i, i < n → x i = y i) : ∀ (k i : Nat), i + k < n → Cx f t x k i = Cx g t y k i
  | 0, i, hi => hx i (by omega)
  | k + 1, i, hi => by
    unfold Cx
    rw [cx_congr h hx k i (by omega), cx_congr h hx k (i + 1) (by omega), lam_congr h k i (by omega)]
/-- The weights of a curve that has none of its own. -/
theorem wts_one (n : Nat) : Wts (fun _ => one1) n := fun i _ => ⟨1, one1_vl, by grind, by grind⟩
theorem rowsW_one (hT : Tm t τ) : ∀ (k : Nat) (i : Int), Vl .f32 (rowsW (fun _ => one1) t k i) 1
  | 0, i => one1_vl
  | k + 1, i => by
    have h1 := rowsW_one hT k i
    have h2 := rowsW_one hT k (i + 1)
    have l := hT.lo
    have u := hT.hi
    have b := p24_big
    show Vl .f32 (blW (rowsW (fun _ => one1) t k i) (rowsW (fun _ => one1) t k (i + 1)) t) 1
    obtain ⟨r, vr, rr⟩ := vl_add (one_mul_ex h1 hT.s (fit_24 (by grind) (by grind))) (one_mul_ex h2 hT.v (fit_24 (by grind) (by grind))) (fit_24 (by grind) (by grind))
    rw [show 1 - τ + τ = 1 by grind] at rr
    rw [rnd_rep rr (vl_rep one1_vl)] at vr
    exact vr
theorem lam_one (hT : Tm t τ) (k i : Nat) : lam (fun _ => one1) t k i = τ := by
  have h1 := rowsW_one hT k i
  have h2 := rowsW_one hT k ((i : Int) + 1)
  have l := hT.lo
  have u := hT.hi
  have b := p24_big
  unfold lam lamQ
  rw [(one_mul_ex h1 hT.s (fit_24 (by grind) (by grind))).valR, (one_mul_ex h2 hT.v (fit_24 (by grind) (by grind))).valR, show 1 - τ + τ = 1 by grind]
  grind
theorem cx_shift (hT : Tm t τ) (x : Nat → Rat) : ∀ (k i : Nat), Cx (fun _ => one1) t x k (i + 1) = Cx (fun _ => one1) t (fun j => x (j + 1)) k i
  | 0, i => rfl
  | k + 1, i => by
    unfold Cx
    rw [cx_shift hT x k i, cx_shift hT x k (i + 1), lam_one hT, lam_one hT]
/-- Points by value. -/
structure Pv (n : Nat) (P : Nat → CV) (x y : Nat → Rat) (B : Rat) : Prop where
  vx : ∀ i, i < n → Vl .f32 (P i).1 (x i)
  vy : ∀ i, i < n → Vl .f32 (P i).2 (y i)
  bx : ∀ i, i < n → -B ≤ x i ∧ x i ≤ B
  by_ : ∀ i, i < n → -B ≤ y i ∧ y i ≤ B
theorem k_le {k m : Nat} (h : k ≤ m) : (k : Rat) ≤ (m : Rat) := Rat.natCast_le_natCast.2 h
theorem coord_vl (hf : Wts f n) (hT : Tm t τ) {X : Nat → FV} {x : Nat → Rat} (hn : 2 ≤ n ∧ n ≤ 5) (hX : ∀ i, i < n → Vl .f32 (X i) (x i)) (h : ∀ i, i < n → -39 ≤ x i ∧ x i ≤ 39) : ∃ r, Vl .f32 (rowsF X f t (n - 1) 0) r ∧ -(4 / 25000) ≤ r - Cx f t x (n - 1) 0 ∧ r - Cx f t x (n - 1) 0 ≤ 4 / 25000 := by
  obtain ⟨r, vr, r1, r2⟩ := rows_cx hf hT hX h (n - 1) (by omega) 0 (by omega)
  have := k_le (show n - 1 ≤ 4 by omega)
  have e4 : ((4 : Nat) : Rat) = 4 := rfl
  exact ⟨r, vr, by grind, by grind⟩
theorem point_vl (hf : Wts f n) (hT : Tm t τ) {P : Nat → CV} {x y : Nat → Rat} {B : Rat} (hB : B ≤ 39) (hn : 2 ≤ n ∧ n ≤ 5) (h : Pv n P x y B) :
    ∃ u v, Vl .f32 (pointP n P f t).1 u ∧ Vl .f32 (pointP n P f t).2 v ∧ (-(4 / 25000) ≤ u - Cx f t x (n - 1) 0 ∧ u - Cx f t x (n - 1) 0 ≤ 4 / 25000) ∧ (-(4 / 25000) ≤ v - Cx f t y (n - 1) 0 ∧ v - Cx f t y (n - 1) 0 ≤ 4 / 25000) := by
  obtain ⟨u, vu, u1, u2⟩ := coord_vl hf hT hn h.vx (fun i hi => by have := h.bx i hi; constructor <;> grind)
  obtain ⟨v, vv, v1, v2⟩ := coord_vl hf hT hn h.vy (fun i hi => by have := h.by_ i hi; constructor <;> grind)
  refine ⟨u, v, ?_, ?_, ⟨u1, u2⟩, ⟨v1, v2⟩⟩
  · unfold pointP
    rw [rowsP_1]
    exact vu
  · unfold pointP
    rw [rowsP_2]
    exact vv
/-- What a slope is, by value. -/
def Sx (f : Int → FV) (t : FV) (x : Nat → Rat) (n : Nat) : Rat := Cx f t x (n - 2) 1 - Cx f t x (n - 2) 0
theorem scoord_vl (hf : Wts f n) (hT : Tm t τ) {X : Nat → FV} {x : Nat → Rat} {by_ : FV} {b : Rat} (vb : Vl .f32 by_ b) (hb : 0 ≤ b ∧ b ≤ 10) (hn : 2 ≤ n ∧ n ≤ 5) (hX : ∀ i, i < n → Vl .f32 (X i) (x i)) (h : ∀ i, i < n → -39 ≤ x i ∧ x i ≤ 39) :
    ∃ r, Vl .f32 (fbin .mul .f32 (fbin .sub .f32 (rowsF X f t (n - 2) 1) (rowsF X f t (n - 2) 0)) by_) r ∧ -(3 / 1000) ≤ r - b * Sx f t x n ∧ r - b * Sx f t x n ≤ 3 / 1000 := by
  obtain ⟨r1, v1, l1, u1⟩ := rows_cx hf hT hX h (n - 2) (by omega) 1 (by omega)
  obtain ⟨r0, v0, l0, u0⟩ := rows_cx hf hT hX h (n - 2) (by omega) 0 (by omega)
  obtain ⟨c1, c1'⟩ := cx_bnd hf hT h (n - 2) (by omega) 1 (by omega)
  obtain ⟨c0, c0'⟩ := cx_bnd hf hT h (n - 2) (by omega) 0 (by omega)
  have := k_le (show n - 2 ≤ 3 by omega)
  have e3 : ((3 : Nat) : Rat) = 3 := rfl
  obtain ⟨d, vd, _, d1, d2⟩ := subR v1 v0 80 (by grind) (by grind) (by decide +kernel)
  unfold Sx
  generalize Cx f t x (n - 2) 1 = C1 at *
  generalize Cx f t x (n - 2) 0 = C0 at *
  have hd1 : -(26 / 100000) ≤ d - (C1 - C0) := by grind
  have hd2 : d - (C1 - C0) ≤ 26 / 100000 := by grind
  have m := mul_bnd (a := 10) (b := 26 / 100000) (show -10 ≤ b by grind) hb.2 hd1 hd2
  have m2 := mul_bnd (a := 80) (b := 10) (show -80 ≤ d by grind) (show d ≤ 80 by grind) (show -10 ≤ b by grind) hb.2
  obtain ⟨r, vr, _, q1, q2⟩ := mulR vd vb 800 (by grind) (by grind) (by decide +kernel)
  refine ⟨r, vr, ?_, ?_⟩ <;> grind
theorem slope_vl (hf : Wts f n) (hT : Tm t τ) {P : Nat → CV} {x y : Nat → Rat} {B b : Rat} (vb : Vl .f32 (slopeBy n f t) b) (hb : 0 ≤ b ∧ b ≤ 10) (hB : B ≤ 39) (hn : 2 ≤ n ∧ n ≤ 5) (h : Pv n P x y B) :
    ∃ u v, Vl .f32 (slopeP n P f t).1 u ∧ Vl .f32 (slopeP n P f t).2 v ∧ (-(3 / 1000) ≤ u - b * Sx f t x n ∧ u - b * Sx f t x n ≤ 3 / 1000) ∧ (-(3 / 1000) ≤ v - b * Sx f t y n ∧ v - b * Sx f t y n ≤ 3 / 1000) := by
  obtain ⟨u, vu, u1, u2⟩ := scoord_vl hf hT vb hb hn h.vx (fun i hi => by have := h.bx i hi; constructor <;> grind)
  obtain ⟨v, vv, v1, v2⟩ := scoord_vl hf hT vb hb hn h.vy (fun i hi => by have := h.by_ i hi; constructor <;> grind)
  refine ⟨u, v, ?_, ?_, ⟨u1, u2⟩, ⟨v1, v2⟩⟩
  · unfold slopeP scaleC subC2
    rw [rowsP_1, rowsP_1]
    exact vu
  · unfold slopeP scaleC subC2
    rw [rowsP_2, rowsP_2]
    exact vv
theorem deg_vl (hn : 2 ≤ n ∧ n ≤ 5) : Vl .f32 (some (FloatKind.f32.nearest ((n : Int) - 1))) ((n : Rat) - 1) := by
  have h := vl_ofInt .f32 ((n : Int) - 1) (by
    have : (2 : Nat) ^ (FloatKind.f32.format.fractionBits + 1) = 16777216 := by decide
    omega)
  rw [show (((n : Int) - 1 : Int) : Rat) = (n : Rat) - 1 by rw [Rat.intCast_sub]; rfl] at h
  exact h
theorem n_bd (hn : 2 ≤ n ∧ n ≤ 5) : (1 : Rat) ≤ (n : Rat) - 1 ∧ (n : Rat) - 1 ≤ 4 := by
  have h1 := k_le hn.1
  have h2 := k_le hn.2
  have e2 : ((2 : Nat) : Rat) = 2 := rfl
  have e5 : ((5 : Nat) : Rat) = 5 := rfl
  constructor <;> grind
/-- By what slopes are scaled. -/
theorem slopeBy_vl (hf : Wts f n) (hT : Tm t τ) (hτ : 1 / 8 ≤ τ ∧ τ ≤ 7 / 8) (hn : 2 ≤ n ∧ n ≤ 5) : ∃ b, Vl .f32 (slopeBy n f t) b ∧ 0 ≤ b ∧ b ≤ 10 := by
  obtain ⟨x, vx, x1, x2⟩ := rowsW_vl hf hT (n - 2) (by omega) 0 (by omega)
  obtain ⟨y, vy, y1, y2⟩ := rowsW_vl hf hT (n - 2) (by omega) 1 (by omega)
  have hk := k_le (show n - 2 ≤ 3 by omega)
  have e3 : ((3 : Nat) : Rat) = 3 := rfl
  have h0 : (0 : Rat) ≤ ((n - 2 : Nat) : Rat) := k_le (Nat.zero_le _)
  obtain ⟨p, q, W, hB⟩ := bw_of hT vx vy (by constructor <;> grind) (by constructor <;> grind)
  have vW : Vl .f32 (rowsW f t (n - 1) 0) W := by
    rw [show n - 1 = (n - 2) + 1 by omega]
    exact hB.vW
  obtain ⟨d1, d2⟩ := n_bd hn
  have vd := deg_vl hn
  generalize (n : Rat) - 1 = d at d1 d2 vd
  have hx : 24 / 100 ≤ x ∧ x ≤ 201 / 100 := by constructor <;> grind
  have hy : 24 / 100 ≤ y ∧ y ≤ 201 / 100 := by constructor <;> grind
  clear x1 x2 y1 y2 hk h0 e3
  have l := hT.lo
  have u := hT.hi
  -- the numerator
  have m1 := mul_bnd (a := 4) (b := 201 / 100) (p := d) (q := x) (by grind) d2 (by grind) hx.2
  have m1' := Rat.mul_nonneg (show 0 ≤ d by grind) (show 0 ≤ x by grind)
  obtain ⟨s, vs, rs, s1, s2⟩ := mulR vd vx 9 (by grind) (by grind) (by decide +kernel)
  have s0 := (rs.side 0 (rep_zero _)).2 m1'
  have m2 := mul_bnd (a := 9) (b := 201 / 100) (p := s) (q := y) (by grind) (by grind) (by grind) hy.2
  have m2' := Rat.mul_nonneg s0 (show 0 ≤ y by grind)
  obtain ⟨N, vN, rN, N1, N2⟩ := mulR vs vy 19 (by grind) (by grind) (by decide +kernel)
  have N0 := (rN.side 0 (rep_zero _)).2 m2'
  have m3 := mul_bnd (a := 10 / 8388608) (b := 201 / 100) (p := s - d * x) (q := y) (by grind) (by grind) (by grind) hy.2
  have xy := Rat.mul_nonneg (show 0 ≤ x by grind) (show 0 ≤ y by grind)
  have m4 := Rat.mul_le_mul_of_nonneg_right d2 xy
  have hN : N ≤ 4 * (x * y) + 1 / 100000 := by grind
  -- the denominator
  obtain ⟨V, eV⟩ : ∃ V, V = x * (1 - τ) + y * τ := ⟨_, rfl⟩
  have w1 := hB.w1
  have w2 := hB.w2
  have p1 := hB.p1
  have q1 := hB.q1
  have p2 := hB.p2
  have q2 := hB.q2
  have S1 := hB.S1
  have S0 := hB.S0
  have hWV : V - 13 / 8388608 ≤ W := by grind
  have hW0 : 1 / 7 ≤ W := by grind
  have hW5 : W ≤ 5 := by grind
  have mw := mul_bnd (a := 5) (b := 5) (p := W) (q := W) (by grind) hW5 (by grind) hW5
  obtain ⟨D, vD, rD, D1, D2⟩ := mulR vW vW 25 (by grind) (by grind) (by decide +kernel)
  have v1 := Rat.mul_nonneg (show 0 ≤ 201 / 100 - x by grind) (show 0 ≤ 1 - τ by grind)
  have v2 := Rat.mul_nonneg (show 0 ≤ 201 / 100 - y by grind) l
  have V3 : V ≤ 201 / 100 := by grind
  have a1 := Rat.mul_nonneg (show 0 ≤ x by grind) (show 0 ≤ 1 - τ by grind)
  have a2 := Rat.mul_nonneg (show 0 ≤ y by grind) l
  have V0 : 0 ≤ V := by grind
  -- V V is at least 7/16 x y
  have t1 : 7 / 64 ≤ τ * (1 - τ) := by
    have := Rat.mul_nonneg (show 0 ≤ τ - 1 / 8 by grind) (show 0 ≤ 7 / 8 - τ by grind)
    grind
  have t2 := Rat.mul_le_mul_of_nonneg_left t1 xy
  have t3 : 4 * (x * y * (τ * (1 - τ))) ≤ V * V := by
    have := sqr_nonneg (x * (1 - τ) - y * τ)
    rw [eV]
    grind
  have hV : 7 / 16 * (x * y) ≤ V * V := by grind
  clear t1 t2 t3 a1 a2 v1 v2 eV
  have b1 := Rat.mul_nonneg (show 0 ≤ W - (V - 13 / 8388608) by grind) (show 0 ≤ W + V by grind)
  have b2 : V * V - 100 / 8388608 ≤ W * W := by grind
  have hD : 7 / 16 * (x * y) - 1 / 50000 ≤ D := by grind
  have c1 := Rat.mul_nonneg (show 0 ≤ x - 24 / 100 by grind) (show 0 ≤ y - 24 / 100 by grind)
  have c2 : 5 / 100 ≤ x * y := by grind
  have D0 : 1 / 100 ≤ D := by grind
  have hf1 : N / D ≤ 99 / 10 := div_le_of (by grind) (by grind)
  have hf0 : 0 ≤ N / D := le_div_of (by grind) (by grind)
  obtain ⟨b, vb, rb, b1', b2'⟩ := divR vN vD (by grind) 10 (by grind) (by grind) (by decide +kernel)
  exact ⟨b, vb, (rb.side 0 (rep_zero _)).2 hf0, by grind⟩
end
end Go.Ab
namespace Go.Ab
def allLt (p : Nat → Bool) : Nat → Bool
  | 0 => true
  | n + 1 => p n && allLt p n
theorem allLt_of {p : Nat → Bool} : ∀ {n : Nat}, allLt p n = true → ∀ m, m < n → p m = true
  | n + 1, h, m, hm => by
    simp only [allLt, Bool.and_eq_true] at h
    rcases Nat.lt_or_ge m n with h1 | h1
    · exact allLt_of h.2 m h1
    · obtain rfl : m = n := by omega
      exact h.1
/-- Sixteenths. -/
def tq (m : Int) : FV := fbin .quo .f32 (some (FloatKind.f32.nearest m)) (fv .f32 1098907648)
/-- Whether a float is a number. -/
def isNum (x : FV) : Bool := match x with
  | none => false
  | some b => match FloatKind.f32.decode b with
    | .number _ _ _ => true
    | _ => false
theorem isNum_vl {x : FV} (h : isNum x = true) : Vl .f32 x (valR x) := by
  unfold isNum at h
  unfold valR
  split at h
  · cases h
  · rename_i b
    split at h
    · rename_i s m e hd
      refine ⟨b, s, m, e, rfl, hd, ?_⟩
      simp only [hd]
    · cases h
def tmB (t : FV) (τ : Rat) : Bool := isNum t && isNum (fbin .sub .f32 one1 t) && decide (valR t = τ) && decide (valR (fbin .sub .f32 one1 t) = 1 - τ) && decide (0 ≤ τ) && decide (τ ≤ 1)
theorem tm_of {t : FV} {τ : Rat} (h : tmB t τ = true) : Tm t τ := by
  unfold tmB at h
  simp only [Bool.and_eq_true, decide_eq_true_eq] at h
  obtain ⟨⟨⟨⟨⟨h1, h2⟩, h3⟩, h4⟩, h5⟩, h6⟩ := h
  exact ⟨h3 ▸ isNum_vl h1, h4 ▸ isNum_vl h2, h5, h6⟩
theorem tq_tm (m : Nat) (h : m < 17) : Tm (tq (m : Int)) ((m : Rat) / 16) :=
  tm_of (allLt_of (p := fun m => tmB (tq (m : Int)) ((m : Rat) / 16)) (n := 17) (by decide +kernel) m h)
theorem zero_tm : Tm (fv .f32 0) 0 := tm_of (by decide +kernel)
theorem half_tm : Tm (fv .f32 1056964608) (1 / 2) := tm_of (by decide +kernel)
theorem timeK_tm (k : Nat) (h : k < 5) : Tm (timeK k 5) ((k : Rat) / 4) :=
  tm_of (allLt_of (p := fun k => tmB (timeK k 5) ((k : Rat) / 4)) (n := 5) (by decide +kernel) k h)
theorem timeK_zero : timeK 0 5 = fv .f32 0 := by decide +kernel
def quR (a : Nat → Int) (i : Nat) : Rat := ((a i : Int) : Rat) / 4
theorem int_rat_bd {a : Int} {B : Nat} (h : -(B : Int) ≤ a ∧ a ≤ B) : -(B : Rat) ≤ (a : Rat) ∧ (a : Rat) ≤ (B : Rat) := by
  have h1 := Rat.intCast_le_intCast.2 h.1
  have h2 := Rat.intCast_le_intCast.2 h.2
  rw [Rat.intCast_neg] at h1
  exact ⟨h1, h2⟩
theorem qu_bd {a : Int} (h : -16 ≤ a ∧ a ≤ 16) : -4 ≤ (a : Rat) / 4 ∧ (a : Rat) / 4 ≤ 4 := by
  have := int_rat_bd (B := 16) h
  rw [show ((16 : Nat) : Rat) = 16 from rfl] at this
  constructor <;> grind
theorem qtF_vl {a : Int} (h : -16 ≤ a ∧ a ≤ 16) : Vl .f32 (qtF a) ((a : Rat) / 4) := quarter_vl (by omega)
theorem DpOk.pv {n : Nat} {P : Nat → CV} {a b : Nat → Int} (h : DpOk n P a b) : Pv n P (quR a) (quR b) 4 :=
  ⟨fun i hi => by rw [h.q i hi]; exact qtF_vl (h.a i hi), fun i hi => by rw [h.q i hi]; exact qtF_vl (h.b i hi), fun i hi => qu_bd (h.a i hi), fun i hi => qu_bd (h.b i hi)⟩
theorem DcOk.wts {y : Dc} (h : DcOk y) : Wts y.f y.n := fun i hi => by
  have hu := h.u i hi
  refine ⟨((y.u i : Int) : Rat) / 4, ?_, ?_, ?_⟩
  · rw [h.f i hi]
    exact qtF_vl (by omega)
  · have := Rat.intCast_le_intCast.2 hu.1
    rw [show ((1 : Int) : Rat) = 1 from rfl] at this
    grind
  · have := Rat.intCast_le_intCast.2 hu.2
    rw [show ((8 : Int) : Rat) = 8 from rfl] at this
    grind
theorem qadd_vl {x y : FV} {a c : Int} (ha : -16 ≤ a ∧ a ≤ 16) (hc : -16 ≤ c ∧ c ≤ 16) (vx : Vl .f32 x ((a : Rat) / 4)) (vy : Vl .f32 y ((c : Rat) / 4)) : Vl .f32 (fbin .add .f32 x y) ((a : Rat) / 4 + (c : Rat) / 4) :=
  add_ex vx vy (a + c) 2 (by omega) (by omega) (by
    rw [Rat.intCast_add, show ((2 ^ 2 : Nat) : Rat) = 4 from rfl]
    grind)
theorem moved_pv {n : Nat} {P : Nat → CV} {a b : Nat → Int} {p : CV} {c d : Int} (h : DpOk n P a b) (hp : p = (qtF c, qtF d)) (hc : -16 ≤ c ∧ c ≤ 16) (hd : -16 ≤ d ∧ d ≤ 16) :
    Pv n (fun i => addC2 (P i) p) (fun i => quR a i + (c : Rat) / 4) (fun i => quR b i + (d : Rat) / 4) 8 := by
  have c1 := qu_bd hc
  have d1 := qu_bd hd
  refine ⟨fun i hi => ?_, fun i hi => ?_, fun i hi => ?_, fun i hi => ?_⟩
  · simp only [hp, h.q i hi, addC2]
    exact qadd_vl (h.a i hi) hc (qtF_vl (h.a i hi)) (qtF_vl hc)
  · simp only [hp, h.q i hi, addC2]
    exact qadd_vl (h.b i hi) hd (qtF_vl (h.b i hi)) (qtF_vl hd)
  · have := qu_bd (h.a i hi)
    unfold quR
    constructor <;> grind
  · have := qu_bd (h.b i hi)
    unfold quR
    constructor <;> grind
def halF : FV := fv .f32 1056964608
theorem halF_vl : Vl .f32 halF (1 / 2) := Vl.c (by decide +kernel)
theorem qhalf_vl {x y : FV} {a c : Int} (ha : -16 ≤ a ∧ a ≤ 16) (hc : -16 ≤ c ∧ c ≤ 16) (vx : Vl .f32 x ((a : Rat) / 4)) (vy : Vl .f32 y ((c : Rat) / 4)) :
    Vl .f32 (fbin .add .f32 x (fbin .mul .f32 (fbin .sub .f32 (fbin .add .f32 x y) x) halF)) ((a : Rat) / 4 + (c : Rat) / 8) := by
  have v1 := qadd_vl ha hc vx vy
  have e4 : ((2 ^ 2 : Nat) : Rat) = 4 := rfl
  have e8 : ((2 ^ 3 : Nat) : Rat) = 8 := rfl
  have v2 := sub_ex v1 vx c 2 (by omega) (by omega) (by rw [e4]; grind)
  have v3 := mul_ex v2 halF_vl c 3 (by omega) (by omega) (by rw [e8]; grind)
  have v4 := add_ex vx v3 (2 * a + c) 3 (by omega) (by omega) (by rw [e8, Rat.intCast_add, Rat.intCast_mul, show ((2 : Int) : Rat) = 2 from rfl]; grind)
  have e : (a : Rat) / 4 + ((a : Rat) / 4 + (c : Rat) / 4 - (a : Rat) / 4) * (1 / 2) = (a : Rat) / 4 + (c : Rat) / 8 := by grind
  rw [e] at v4
  exact v4
theorem blend_pv {n : Nat} {P : Nat → CV} {a b : Nat → Int} {p : CV} {c d : Int} (h : DpOk n P a b) (hp : p = (qtF c, qtF d)) (hc : -16 ≤ c ∧ c ≤ 16) (hd : -16 ≤ d ∧ d ≤ 16) :
    Pv n (blendP P (fun i => addC2 (P i) p) halF) (fun i => quR a i + (c : Rat) / 8) (fun i => quR b i + (d : Rat) / 8) 8 := by
  have c1 := qu_bd hc
  have d1 := qu_bd hd
  refine ⟨fun i hi => ?_, fun i hi => ?_, fun i hi => ?_, fun i hi => ?_⟩
  · simp only [hp, h.q i hi, blendP, addC2, scaleC, subC2]
    exact qhalf_vl (h.a i hi) hc (qtF_vl (h.a i hi)) (qtF_vl hc)
  · simp only [hp, h.q i hi, blendP, addC2, scaleC, subC2]
    exact qhalf_vl (h.b i hi) hd (qtF_vl (h.b i hi)) (qtF_vl hd)
  · have := qu_bd (h.a i hi)
    unfold quR
    constructor <;> grind
  · have := qu_bd (h.b i hi)
    unfold quR
    constructor <;> grind
theorem blendW_eq {y : Dc} (h : DcOk y) : ∀ i : Nat, i < y.n → blendW y.f y.f halF i = y.f i := fun i hi => by
  have hu := h.u i hi
  obtain ⟨m, hm⟩ : ∃ m : Nat, y.u i = (m : Int) := ⟨(y.u i).toNat, by omega⟩
  have := allLt_of (p := fun m => decide (m = 0) || decide (fbin .add .f32 (qtF (m : Int)) (fbin .mul .f32 (fbin .sub .f32 (qtF (m : Int)) (qtF (m : Int))) halF) = qtF (m : Int))) (n := 9) (by decide +kernel) m (by omega)
  simp only [Bool.or_eq_true, decide_eq_true_eq] at this
  unfold blendW
  rw [h.f i hi, hm]
  exact this.resolve_left (by omega)
theorem diff_pv {n : Nat} {P : Nat → CV} {a b : Nat → Int} (h : DpOk n P a b) (hn : 2 ≤ n ∧ n ≤ 5) :
    Pv (n - 1) (diffP n P) (fun i => ((n : Rat) - 1) * (quR a (i + 1) - quR a i)) (fun i => ((n : Rat) - 1) * (quR b (i + 1) - quR b i)) 32 := by
  have vd := deg_vl hn
  obtain ⟨d1, d2⟩ := n_bd hn
  have key : ∀ {x y : FV} {p q : Int}, -16 ≤ p ∧ p ≤ 16 → -16 ≤ q ∧ q ≤ 16 → Vl .f32 x ((p : Rat) / 4) → Vl .f32 y ((q : Rat) / 4) → Vl .f32 (fbin .mul .f32 (fbin .sub .f32 x y) (some (FloatKind.f32.nearest ((n : Int) - 1)))) (((n : Rat) - 1) * ((p : Rat) / 4 - (q : Rat) / 4)) := fun {x y p q} hp hq vx vy => by
    have e4 : ((2 ^ 2 : Nat) : Rat) = 4 := rfl
    have v1 := sub_ex vx vy (p - q) 2 (by omega) (by omega) (by rw [e4, Rat.intCast_sub]; grind)
    have hz : (((n : Int) - 1 : Int) : Rat) = (n : Rat) - 1 := by rw [Rat.intCast_sub]; rfl
    have hb : ((p - q) * ((n : Int) - 1)).natAbs ≤ 2 ^ 24 := by
      rw [Int.natAbs_mul]
      exact Nat.le_trans (Nat.mul_le_mul (show (p - q).natAbs ≤ 32 by omega) (show ((n : Int) - 1).natAbs ≤ 4 by omega)) (by decide)
    have v2 := mul_ex v1 vd ((p - q) * ((n : Int) - 1)) 2 hb (by omega) (by rw [e4, Rat.intCast_mul, hz, Rat.intCast_sub]; grind)
    rw [show ((n : Rat) - 1) * ((p : Rat) / 4 - (q : Rat) / 4) = ((p : Rat) / 4 - (q : Rat) / 4) * ((n : Rat) - 1) by grind]
    exact v2
  have bd : ∀ {p q : Int}, -16 ≤ p ∧ p ≤ 16 → -16 ≤ q ∧ q ≤ 16 → -32 ≤ ((n : Rat) - 1) * ((p : Rat) / 4 - (q : Rat) / 4) ∧ ((n : Rat) - 1) * ((p : Rat) / 4 - (q : Rat) / 4) ≤ 32 := fun {p q} hp hq => by
    have h1 := qu_bd hp
    have h2 := qu_bd hq
    have := mul_bnd (a := 4) (b := 8) (p := (n : Rat) - 1) (q := (p : Rat) / 4 - (q : Rat) / 4) (by grind) d2 (by grind) (by grind)
    constructor <;> grind
  refine ⟨fun i hi => ?_, fun i hi => ?_, fun i hi => ?_, fun i hi => ?_⟩
  · simp only [diffP, scaleC, subC2, h.q i (by omega), h.q (i + 1) (by omega)]
    exact key (h.a (i + 1) (by omega)) (h.a i (by omega)) (qtF_vl (h.a (i + 1) (by omega))) (qtF_vl (h.a i (by omega)))
  · simp only [diffP, scaleC, subC2, h.q i (by omega), h.q (i + 1) (by omega)]
    exact key (h.b (i + 1) (by omega)) (h.b i (by omega)) (qtF_vl (h.b (i + 1) (by omega))) (qtF_vl (h.b i (by omega)))
  · exact bd (h.a (i + 1) (by omega)) (h.a i (by omega))
  · exact bd (h.b (i + 1) (by omega)) (h.b i (by omega))
def twoF : FV := fv .f32 1073741824
theorem rnd_64 {q r : Rat} (h : Rnd .f64 q r) (a : Rat) (h1 : -a ≤ q) (h2 : q ≤ a) : q - (a / 1000000000000 + 1 / 1000000000000) ≤ r ∧ r ≤ q + (a / 1000000000000 + 1 / 1000000000000) := by
  have h3 := h.near a h1 h2
  have e1 : feps .f64 ≤ 1 / 1000000000000 := by decide +kernel
  have e2 : ftiny .f64 ≤ 1 / 1000000000000 := by decide +kernel
  obtain ⟨h4, h5⟩ := h3
  have h6 := Rat.mul_le_mul_of_nonneg_left e1 (show 0 ≤ a by grind)
  constructor <;> grind
theorem fit_64 {a q : Rat} (h1 : -a ≤ q) (h2 : q ≤ a) (h3 : a ≤ 16000000) : Fit .f64 q := by
  have : (16000000 : Rat) < p2 (ftop .f64) := by decide +kernel
  constructor <;> grind
section
variable {p q : CV} {x y a b : Rat}
theorem mulC_vl (vx : Vl .f32 p.1 x) (vy : Vl .f32 p.2 y) (va : Vl .f32 q.1 a) (vb : Vl .f32 q.2 b) (hx : -4 ≤ x ∧ x ≤ 4) (hy : -4 ≤ y ∧ y ≤ 4) (ha : -21 / 10 ≤ a ∧ a ≤ 21 / 10) (hb : -21 / 10 ≤ b ∧ b ≤ 21 / 10) :
    MulOk p q ∧ ∃ u v, Vl .f32 (mulC p q).1 u ∧ Vl .f32 (mulC p q).2 v ∧ (-(1 / 100000) ≤ u - (x * a - y * b) ∧ u - (x * a - y * b) ≤ 1 / 100000) ∧ (-(1 / 100000) ≤ v - (x * b + y * a) ∧ v - (x * b + y * a) ≤ 1 / 100000) := by
  have m1 := mul_bnd (a := 4) (b := 21 / 10) hx.1 hx.2 (by grind) ha.2
  have m2 := mul_bnd (a := 4) (b := 21 / 10) hy.1 hy.2 (by grind) hb.2
  have m3 := mul_bnd (a := 4) (b := 21 / 10) hx.1 hx.2 (by grind) hb.2
  have m4 := mul_bnd (a := 4) (b := 21 / 10) hy.1 hy.2 (by grind) ha.2
  obtain ⟨r1, v1, n1⟩ := vl_mul (vl_wide vx) (vl_wide va) (fit_64 (a := 9) (by grind) (by grind) (by grind))
  obtain ⟨r2, v2, n2⟩ := vl_mul (vl_wide vy) (vl_wide vb) (fit_64 (a := 9) (by grind) (by grind) (by grind))
  obtain ⟨r3, v3, n3⟩ := vl_mul (vl_wide vx) (vl_wide vb) (fit_64 (a := 9) (by grind) (by grind) (by grind))
  obtain ⟨r4, v4, n4⟩ := vl_mul (vl_wide vy) (vl_wide va) (fit_64 (a := 9) (by grind) (by grind) (by grind))
  have n1 := rnd_64 n1 9 (by grind) (by grind)
  have n2 := rnd_64 n2 9 (by grind) (by grind)
  have n3 := rnd_64 n3 9 (by grind) (by grind)
  have n4 := rnd_64 n4 9 (by grind) (by grind)
  generalize x * a = xa at *
  generalize y * b = yb at *
  generalize x * b = xb at *
  generalize y * a = ya at *
  obtain ⟨s, vs, ns⟩ := vl_sub v1 v2 (fit_64 (a := 20) (by grind) (by grind) (by grind))
  obtain ⟨w, vw, nw⟩ := vl_add v3 v4 (fit_64 (a := 20) (by grind) (by grind) (by grind))
  have ns := rnd_64 ns 20 (by grind) (by grind)
  have nw := rnd_64 nw 20 (by grind) (by grind)
  have fs : Fit .f32 s := fit_16 (a := 21) (by grind) (by grind) (by grind)
  have fw : Fit .f32 w := fit_16 (a := 21) (by grind) (by grind) (by grind)
  obtain ⟨u, vu, ru⟩ := vl_narrow vs fs
  obtain ⟨v, vv, rv⟩ := vl_narrow vw fw
  have ru := rnd_rel ru 21 (by grind) (by grind)
  have rv := rnd_rel rv 21 (by grind) (by grind)
  exact ⟨⟨vl_narrow_ok vs fs, vl_narrow_ok vw fw⟩, u, v, vu, vv, by constructor <;> grind, by constructor <;> grind⟩
end
def turB (m : Nat) : Bool :=
  isNum (turnBy (tq (m : Int)) twoF).1 && isNum (turnBy (tq (m : Int)) twoF).2
    && decide (-21 / 10 ≤ valR (turnBy (tq (m : Int)) twoF).1) && decide (valR (turnBy (tq (m : Int)) twoF).1 ≤ 21 / 10) && decide (-21 / 10 ≤ valR (turnBy (tq (m : Int)) twoF).2) && decide (valR (turnBy (tq (m : Int)) twoF).2 ≤ 21 / 10)
    && decide (4 * (99999 / 100000 * (99999 / 100000)) ≤ valR (turnBy (tq (m : Int)) twoF).1 * valR (turnBy (tq (m : Int)) twoF).1 + valR (turnBy (tq (m : Int)) twoF).2 * valR (turnBy (tq (m : Int)) twoF).2)
    && decide (valR (turnBy (tq (m : Int)) twoF).1 * valR (turnBy (tq (m : Int)) twoF).1 + valR (turnBy (tq (m : Int)) twoF).2 * valR (turnBy (tq (m : Int)) twoF).2 ≤ 4 * (100001 / 100000 * (100001 / 100000)))
theorem turnBy_vl (m : Nat) (h : m < 16) : ∃ a b, Vl .f32 (turnBy (tq (m : Int)) twoF).1 a ∧ Vl .f32 (turnBy (tq (m : Int)) twoF).2 b ∧ (-21 / 10 ≤ a ∧ a ≤ 21 / 10) ∧ (-21 / 10 ≤ b ∧ b ≤ 21 / 10) ∧ 4 * (99999 / 100000 * (99999 / 100000)) ≤ a * a + b * b ∧ a * a + b * b ≤ 4 * (100001 / 100000 * (100001 / 100000)) := by
  have := allLt_of (p := turB) (n := 16) (by decide +kernel) m h
  unfold turB at this
  simp only [Bool.and_eq_true, decide_eq_true_eq] at this
  obtain ⟨⟨⟨⟨⟨⟨⟨h1, h2⟩, h3⟩, h4⟩, h5⟩, h6⟩, h7⟩, h8⟩ := this
  exact ⟨_, _, isNum_vl h1, isNum_vl h2, ⟨h3, h4⟩, ⟨h5, h6⟩, h7, h8⟩
end Go.Ab
namespace Go.Ab
open Go.Proofs
section
variable {x y : FV} {p q : Rat}
theorem fitN {q A : Rat} (h1 : -A ≤ q) (h2 : q ≤ A) (hA : A ≤ 100000) : Fit .f32 q := by
  have : (100000 : Rat) < p2 (ftop .f32) := by decide +kernel
  constructor <;> grind
end
end Go.Ab
namespace Go.Ab
open Go.Proofs
/-- A quotient of complex numbers, while the divisor's real part is the greater. -/
def qrR (C D : FV) : FV := fbin .quo .f64 D C
def qrN (C D : FV) : FV := fbin .add .f64 C (fbin .mul .f64 (qrR C D) D)
def qrE (A B C D : FV) : FV := fbin .quo .f64 (fbin .add .f64 A (fbin .mul .f64 B (qrR C D))) (qrN C D)
def qrF (A B C D : FV) : FV := fbin .quo .f64 (fbin .sub .f64 B (fbin .mul .f64 A (qrR C D))) (qrN C D)
theorem run_carith (P : Program) (w : World) (op : BinOp) (hop : isArith op = true) (a b : Nat) :
    ∃ r w', (Op.Complex.arith op .f64 a b).run P w = .ok r w' ∧ Ext w w' ∧ fv .f64 r = fbin op .f64 (fv .f64 a) (fv .f64 b) ∧ r < 2 ^ FloatKind.f64.format.width := by
  obtain ⟨r, w', h, q, e, l⟩ := run_farith P w op hop .f64 a b
  exact ⟨r, w', by simp [Op.Complex.arith, h], Ext.of_quiet q, e, l⟩
theorem run_ccmpB (P : Program) (w : World) (op : BinOp) (hop : isCmp op = true) (k : FloatKind) (a b : Nat) : (Op.Complex.cmp op k a b).run P w = .ok (cmpB op (fcmp k (fv k a) (fv k b))) w := by
  rw [fcmp_fv]
  cases op <;> first | (cases hop; done) | simp [Op.Complex.cmp, Op.floatCmp, asBool, cmpB]
theorem notnan_of {b : Nat} {x : FV} (h : fv .f64 b = x) (hx : x ≠ none) : Op.Complex.isNaN b = false := by
  unfold Op.Complex.isNaN
  cases hn : (FloatKind.f64.decode b).isNaN with
  | false => rfl
  | true => rw [fv_nan hn] at h; exact absurd h.symm hx
theorem run_cquo (P : Program) (w : World) {a b c d : Nat} (hge : cmpB .geq (fcmp .f64 (fv .f64 (Op.Complex.abs c)) (fv .f64 (Op.Complex.abs d))) = true)
    (he : qrE (fv .f64 a) (fv .f64 b) (fv .f64 c) (fv .f64 d) ≠ none) :
    ∃ e f w', (Op.Complex.quotient a b c d).run P w = .ok (e, f) w' ∧ Ext w w' ∧ (fv .f64 e = qrE (fv .f64 a) (fv .f64 b) (fv .f64 c) (fv .f64 d) ∧ e < 2 ^ FloatKind.f64.format.width) ∧
      fv .f64 f = qrF (fv .f64 a) (fv .f64 b) (fv .f64 c) (fv .f64 d) ∧ f < 2 ^ FloatKind.f64.format.width := by
  obtain ⟨r, w1, r1, x1, e1, _⟩ := run_carith P w .quo rfl d c
  obtain ⟨m, w2, r2, x2, e2, _⟩ := run_carith P w1 .mul rfl r d
  obtain ⟨n, w3, r3, x3, e3, _⟩ := run_carith P w2 .add rfl c m
  obtain ⟨m2, w4, r4, x4, e4, _⟩ := run_carith P w3 .mul rfl b r
  obtain ⟨s, w5, r5, x5, e5, _⟩ := run_carith P w4 .add rfl a m2
  obtain ⟨e, w6, r6, x6, e6, l6⟩ := run_carith P w5 .quo rfl s n
  obtain ⟨m3, w7, r7, x7, e7, _⟩ := run_carith P w6 .mul rfl a r
  obtain ⟨t, w8, r8, x8, e8, _⟩ := run_carith P w7 .sub rfl b m3
  obtain ⟨f, w9, r9, x9, e9, l9⟩ := run_carith P w8 .quo rfl t n
  have hE : fv .f64 e = qrE (fv .f64 a) (fv .f64 b) (fv .f64 c) (fv .f64 d) := by rw [e6, e5, e4, e3, e2, e1]; rfl
  have hF : fv .f64 f = qrF (fv .f64 a) (fv .f64 b) (fv .f64 c) (fv .f64 d) := by rw [e9, e8, e7, e3, e2, e1]; rfl
  have hn := notnan_of hE he
  refine ⟨e, f, w9, ?_, ((((((((x1.trans x2).trans x3).trans x4).trans x5).trans x6).trans x7).trans x8).trans x9), ⟨hE, l6⟩, hF, l9⟩
  have hc0 := run_ccmpB P w .geq rfl .f64 (Op.Complex.abs c) (Op.Complex.abs d)
  rw [hge] at hc0
  have z1 := run_ccmpB P w9 .eql rfl .f64 c 0
  have z2 := run_ccmpB P w9 .eql rfl .f64 d 0
  unfold Op.Complex.quotient Op.Complex.quo Op.Complex.mul Op.Complex.add Op.Complex.sub
  cases hz : cmpB .eql (fcmp .f64 (fv .f64 c) (fv .f64 0)) <;> rw [hz] at z1 <;>
    simp only [Sem.run_bind, Sem.run_pure, Result.andThen_ok, hc0, r1, r2, r3, r4, r5, r6, r7, r8, r9, z1, z2, hn, if_true, Bool.false_and, Bool.not_false, Bool.false_eq_true, if_false]
section
variable {P : Program} {S : World → Prop} {e : Env} {dst : Option Tmp} {ty : TypeId} {pos : String} {after : Array Edge} {guard : Option (Nat × Bool)}
abbrev w64 (x : FV) : FV := fconv .f32 .f64 x
theorem opj_cquo {t t' : TypeId} {X Y : Operand} {x y c d : FV} (hx : e.ev X = some (.c .f32 x y)) (hy : e.ev Y = some (.c .f32 c d))
    (hge : cmpB .geq (fcmp .f64 (fabs64 (w64 c)) (fabs64 (w64 d))) = true) (hc : w64 c ≠ none) (hd : w64 d ≠ none) (he : qrE (w64 x) (w64 y) (w64 c) (w64 d) ≠ none)
    (o1 : ConvOk .f64 .f32 (qrE (w64 x) (w64 y) (w64 c) (w64 d))) (o2 : ConvOk .f64 .f32 (qrF (w64 x) (w64 y) (w64 c) (w64 d))) :
    OpJ P S e ⟨dst, .binOp .quo t X Y t', ty, pos, after, guard⟩ (.c .f32 (fconv .f64 .f32 (qrE (w64 x) (w64 y) (w64 c) (w64 d))) (fconv .f64 .f32 (qrF (w64 x) (w64 y) (w64 c) (w64 d)))) :=
  opj_value fun a w _ h => by
    obtain ⟨p, q, h1, e1, e2, hp, hq⟩ := (h X (by simp [Op.operands]) _ hx).inv_c
    obtain ⟨p', q', h2, e1', e2', hp', hq'⟩ := (h Y (by simp [Op.operands]) _ hy).inv_c
    obtain ⟨b1, w1, r1, x1, f1, _⟩ := run_fconv P w .f32 .f64 p hp (conv_wide (is32_fv p))
    obtain ⟨b2, w2, r2, x2, f2, _⟩ := run_fconv P w1 .f32 .f64 q hq (conv_wide (is32_fv q))
    obtain ⟨b3, w3, r3, x3, f3, _⟩ := run_fconv P w2 .f32 .f64 p' hp' (conv_wide (is32_fv p'))
    obtain ⟨b4, w4, r4, x4, f4, _⟩ := run_fconv P w3 .f32 .f64 q' hq' (conv_wide (is32_fv q'))
    rw [e1] at f1
    rw [e2] at f2
    rw [e1'] at f3
    rw [e2'] at f4
    have habs : ∀ {b : Nat} {z : FV}, fv .f64 b = z → z ≠ none → fv .f64 (Op.Complex.abs b) = fabs64 z := fun {b z} hb hz => by
      have hn : (FloatKind.f64.decode b).isNaN = false := notnan_of hb hz
      have hz' : z = some b := by rw [← hb, fv_some hn]
      rw [hz']
      have : (FloatKind.f64.decode (b % 2 ^ 63)).isNaN = false := by
        rw [read_abs]
        cases hd : FloatKind.f64.decode b with
        | nan s t => rw [hd] at hn; cases hn
        | infinity s => rfl
        | number s m e => rfl
      unfold Op.Complex.abs
      rw [fv_some this]
      rfl
    obtain ⟨u, v, w5, r5, x5, ⟨f5, l5⟩, f6, l6⟩ := run_cquo P w4 (a := b1) (b := b2) (c := b3) (d := b4) (by rw [habs f3 hc, habs f4 hd]; exact hge) (by rw [f1, f2, f3, f4]; exact he)
    rw [f1, f2, f3, f4] at f5 f6
    obtain ⟨b7, w7, r7, x7, f7, l7⟩ := run_fconv P w5 .f64 .f32 u l5 (by rw [f5]; exact o1)
    obtain ⟨b8, w8, r8, x8, f8, l8⟩ := run_fconv P w7 .f64 .f32 v l6 (by rw [f6]; exact o2)
    refine ⟨.complex .f32 b7 b8, w8, ?_, (((((((Ext.of_quiet x1).trans (Ext.of_quiet x2)).trans (Ext.of_quiet x3)).trans (Ext.of_quiet x4)).trans x5).trans (Ext.of_quiet x7)).trans (Ext.of_quiet x8)), Rel.c' l7 l8 (by rw [f7, f5]) (by rw [f8, f6])⟩
    simp [execOp, h1, h2, eqGuard, binOp, Op.complexOp, Op.Complex.conv, r1, r2, r3, r4, r5, r7, r8]
end
/-- Divided by a real number. -/
def cdC (p : CV) (c : FV) : CV := (fconv .f64 .f32 (qrE (w64 p.1) (w64 p.2) (w64 c) (w64 (fv .f32 0))), fconv .f64 .f32 (qrF (w64 p.1) (w64 p.2) (w64 c) (w64 (fv .f32 0))))
/-- What is needed for it. -/
structure CdOk (p : CV) (c : FV) : Prop where
  ge : cmpB .geq (fcmp .f64 (fabs64 (w64 c)) (fabs64 (w64 (fv .f32 0)))) = true
  nc : w64 c ≠ none
  nd : w64 (fv .f32 0) ≠ none
  e : qrE (w64 p.1) (w64 p.2) (w64 c) (w64 (fv .f32 0)) ≠ none
  o1 : ConvOk .f64 .f32 (qrE (w64 p.1) (w64 p.2) (w64 c) (w64 (fv .f32 0)))
  o2 : ConvOk .f64 .f32 (qrF (w64 p.1) (w64 p.2) (w64 c) (w64 (fv .f32 0)))
theorem opj_cdC {P : Program} {S : World → Prop} {e : Env} {dst : Option Tmp} {ty : TypeId} {pos : String} {after : Array Edge} {guard : Option (Nat × Bool)} {t t' : TypeId} {X Y : Operand} {p : CV} {c : FV} (hk : CdOk p c) (hx : e.ev X = some (.c .f32 p.1 p.2)) (hy : e.ev Y = some (.c .f32 c (fv .f32 0))) :
    OpJ P S e ⟨dst, .binOp .quo t X Y t', ty, pos, after, guard⟩ (.c .f32 (cdC p c).1 (cdC p c).2) := opj_cquo hx hy hk.ge hk.nc hk.nd hk.e hk.o1 hk.o2
theorem rep_wide {x : FV} {p : Rat} (h : Vl .f32 x p) : Rep .f64 p := by
  have h1 : FloatKind.f32.format.leastPlace = -149 := by decide
  have h2 : FloatKind.f64.format.leastPlace = -1074 := by decide
  rcases vl_rep h with ⟨M, E, hM, hE, hB⟩ | ⟨M, E, hM, hE, hB⟩
  · exact .inl ⟨M, E, Nat.le_trans hM (by decide), by omega, hB⟩
  · exact .inr ⟨M, E, Nat.le_trans hM (by decide), by omega, hB⟩
theorem near64r {q r : Rat} (h : Rnd .f64 q r) (a : Rat) (h1 : -a ≤ q) (h2 : q ≤ a) (ha : a ≤ 100000) : -(1 / 1000000000) ≤ q - r ∧ q - r ≤ 1 / 1000000000 := by
  have h3 := h.near a h1 h2
  have e1 : feps .f64 ≤ 1 / 1000000000000000 := by decide +kernel
  have e0 : 0 < feps .f64 := eps_pos _
  have e2 : ftiny .f64 ≤ 1 / 1000000000000000 := by decide +kernel
  have ha0 : 0 ≤ a := by grind
  have := Rat.mul_le_mul_of_nonneg_left e1 ha0
  obtain ⟨h4, h5⟩ := h3
  constructor <;> grind
/-- How near it is. -/
theorem cdC_vl {p : CV} {c : FV} {x y h : Rat} (hx : Vl .f32 p.1 x) (hy : Vl .f32 p.2 y) (hc : Vl .f32 c h) (h0 : 0 < h) (A : Rat) (x1 : -(A * h) ≤ x) (x2 : x ≤ A * h) (y1 : -(A * h) ≤ y) (y2 : y ≤ A * h) (hA : A ≤ 10000) (b1 : -10000 ≤ x ∧ x ≤ 10000) (b2 : -10000 ≤ y ∧ y ≤ 10000) (b3 : h ≤ 10000) :
    CdOk p c ∧ ∃ u v s t, Vl .f32 (cdC p c).1 u ∧ Vl .f32 (cdC p c).2 v ∧ s * h = x ∧ t * h = y ∧ (-A ≤ s ∧ s ≤ A) ∧ (-A ≤ t ∧ t ≤ A) ∧ (-((A + 2) / 8388608) ≤ u - s ∧ u - s ≤ (A + 2) / 8388608) ∧ -((A + 2) / 8388608) ≤ v - t ∧ v - t ≤ (A + 2) / 8388608 := by
  have z32 : Vl .f32 (fv .f32 0) 0 := Vl.c (by decide +kernel)
  have Z := vl_wide z32
  have X := vl_wide hx
  have Y := vl_wide hy
  have C := vl_wide hc
  have k0 : Fit .f64 0 := by constructor <;> decide +kernel
  have f100 : (1000000 : Rat) < p2 (ftop .f64) := by decide +kernel
  have f100' : (100000 : Rat) ≤ p2 (ftop .f64 - 1) := by decide +kernel
  have hz : (0 : Rat) / h = 0 := by rw [Rat.div_def, Rat.zero_mul]
  obtain ⟨r, vr, rr⟩ := vl_div Z C (Rat.ne_of_gt h0) (by rw [hz]; constructor <;> decide +kernel)
  rw [hz] at rr
  obtain rfl := rnd_rep rr (rep_zero _)
  obtain ⟨m, vm, rm⟩ := vl_mul vr Z (by rw [Rat.mul_zero]; exact k0)
  rw [Rat.mul_zero] at rm
  obtain rfl := rnd_rep rm (rep_zero _)
  have repC : Rep .f64 h := rep_wide hc
  have repX : Rep .f64 x := rep_wide hx
  have repY : Rep .f64 y := rep_wide hy
  obtain ⟨n, vn, rn⟩ := vl_add C vm (by rw [Rat.add_zero]; constructor <;> grind)
  rw [Rat.add_zero] at rn
  obtain rfl := rnd_rep rn repC
  have vN : Vl .f64 (qrN (w64 c) (w64 (fv .f32 0))) n := vn
  obtain ⟨m2, vm2, rm2⟩ := vl_mul Y vr (by rw [Rat.mul_zero]; exact k0)
  rw [Rat.mul_zero] at rm2
  obtain rfl := rnd_rep rm2 (rep_zero _)
  obtain ⟨s1, vs1, rs1⟩ := vl_add X vm2 (by rw [Rat.add_zero]; constructor <;> grind)
  rw [Rat.add_zero] at rs1
  obtain rfl := rnd_rep rs1 repX
  obtain ⟨m3, vm3, rm3⟩ := vl_mul X vr (by rw [Rat.mul_zero]; exact k0)
  rw [Rat.mul_zero] at rm3
  obtain rfl := rnd_rep rm3 (rep_zero _)
  have e0 : y - 0 = y := by grind
  obtain ⟨s2, vs2, rs2⟩ := vl_sub Y vm3 (by rw [e0]; constructor <;> grind)
  rw [e0] at rs2
  obtain rfl := rnd_rep rs2 repY
  have q1 : -A ≤ s1 / n ∧ s1 / n ≤ A := ⟨le_div_of h0 (by grind), div_le_of h0 x2⟩
  have q2 : -A ≤ s2 / n ∧ s2 / n ≤ A := ⟨le_div_of h0 (by grind), div_le_of h0 y2⟩
  obtain ⟨E, vE, rE⟩ := vl_div vs1 vN (Rat.ne_of_gt h0) (by constructor <;> grind)
  obtain ⟨F, vF, rF⟩ := vl_div vs2 vN (Rat.ne_of_gt h0) (by constructor <;> grind)
  have n1 := near64r rE A q1.1 q1.2 (by grind)
  have n2 := near64r rF A q2.1 q2.2 (by grind)
  have vE' : Vl .f64 (qrE (w64 p.1) (w64 p.2) (w64 c) (w64 (fv .f32 0))) E := vE
  have vF' : Vl .f64 (qrF (w64 p.1) (w64 p.2) (w64 c) (w64 (fv .f32 0))) F := vF
  have fE : Fit .f32 E := fitN (A := 20000) (by grind) (by grind) (by decide +kernel)
  have fF : Fit .f32 F := fitN (A := 20000) (by grind) (by grind) (by decide +kernel)
  obtain ⟨u, vu, ru⟩ := vl_narrow vE' fE
  obtain ⟨v, vv, rv⟩ := vl_narrow vF' fF
  have n3 := rnd_abs ru (A + 1 / 1000000000) (by grind) (by grind)
  have n4 := rnd_abs rv (A + 1 / 1000000000) (by grind) (by grind)
  refine ⟨⟨?_, C.some, Z.some, vE'.some, vl_narrow_ok vE' fE, vl_narrow_ok vF' fF⟩, u, v, s1 / n, s2 / n, vu, vv, Rat.div_mul_cancel (Rat.ne_of_gt h0), Rat.div_mul_cancel (Rat.ne_of_gt h0), q1, q2, ⟨by grind, by grind⟩, by grind, by grind⟩
  rw [vl_geq (vl_abs C) (vl_abs Z)]
  rw [if_pos (Rat.le_of_lt h0), if_pos (Rat.le_refl)]
  exact decide_eq_true (Rat.le_of_lt h0)
end Go.Ab
namespace Go.Ab
theorem finC_vl {p : CV} {x y : Rat} (hx : Vl .f32 p.1 x) (hy : Vl .f32 p.2 y) : finC p = true := by
  unfold finC finB
  rw [vl_fin hx, vl_fin hy]
  rfl
/-- Near a point. -/
def Nea (p : CV) (x y E : Rat) : Prop := ∃ u v, Vl .f32 p.1 u ∧ Vl .f32 p.2 v ∧ (-E ≤ u - x ∧ u - x ≤ E) ∧ (-E ≤ v - y ∧ v - y ≤ E)
theorem Nea.fin {p : CV} {x y E : Rat} (h : Nea p x y E) : finC p = true := by
  obtain ⟨u, v, vu, vv, _⟩ := h
  exact finC_vl vu vv
theorem Pv.fin {n : Nat} {P : Nat → CV} {x y : Nat → Rat} {B : Rat} (h : Pv n P x y B) : (tabC n P).all finC = true := by
  unfold tabC
  rw [List.all_eq_true]
  intro p hp
  obtain ⟨i, hi, rfl⟩ := List.mem_map.1 hp
  have := List.mem_range.1 hi
  exact finC_vl (h.vx i this) (h.vy i this)
theorem zvl (k : FloatKind) : Vl k (fv k 0) 0 := by cases k <;> exact Vl.c (by decide +kernel)
theorem above_vl {x : FV} {r : Rat} (h : Vl .f32 x r) (h0 : 0 < r) : aboveB x = true := by
  unfold aboveB finB
  rw [vl_fin h, vl_gtr h (zvl .f32), decide_eq_true h0]
  rfl
theorem Wts.above {f : Int → FV} {n : Nat} (h : Wts f n) : (tab n f).all aboveB = true := by
  unfold tab
  rw [List.all_eq_true]
  intro p hp
  obtain ⟨i, hi, rfl⟩ := List.mem_map.1 hp
  obtain ⟨r, vr, h1, _⟩ := h i (List.mem_range.1 hi)
  exact above_vl vr (by grind)
section
variable {p q : CV} {x y z w E F : Rat}
/-- What points are apart. -/
theorem far_vl (h1 : Nea p x y E) (h2 : Nea q z w F) (hE : E ≤ 1 / 10) (hF : F ≤ 1 / 10) (bx : -400 ≤ x ∧ x ≤ 400) (by_ : -400 ≤ y ∧ y ≤ 400) {D : Rat} (hx : -D ≤ x - z ∧ x - z ≤ D) (hy : -D ≤ y - w ∧ y - w ≤ D) (hD : D ≤ 1 / 10) :
    ∃ r, LongOk (subC2 p q) ∧ Vl .f64 (farF p q) r ∧ 0 ≤ r ∧ r ≤ 2 * (D + E + F) + 1 / 1000 := by
  obtain ⟨u, v, vu, vv, u1, v1⟩ := h1
  obtain ⟨s, t, vs, vt, s1, t1⟩ := h2
  obtain ⟨a, va, _, a1, a2⟩ := subR vu vs 1000 (by grind) (by grind) (by decide +kernel)
  obtain ⟨b, vb, _, b1, b2⟩ := subR vv vt 1000 (by grind) (by grind) (by decide +kernel)
  obtain ⟨R, vR, ok, R0, R1⟩ := long_up (x := (subC2 p q).1) (y := (subC2 p q).2) va vb (Le2.of_abs (a := D + E + F + 2 / 10000) (b := D + E + F + 2 / 10000) (by grind) (by grind) (by grind) (by grind)) (by grind)
  exact ⟨R, ok, vl_wide vR, R0, by grind⟩
end
def c01 : FV := fv .f64 4576918229304087675
theorem c01_vl : ∃ C, Vl .f64 c01 C ∧ 99 / 10000 ≤ C ∧ C ≤ 101 / 10000 := by
  refine ⟨(5764607523034235 : Rat) * p2 (-59), Vl.c (by decide +kernel), by decide +kernel, by decide +kernel⟩
theorem cmp_no {x c : FV} {r C : Rat} (hx : Vl .f64 x r) (hc : Vl .f64 c C) (h : r ≤ C) : cmpB .gtr (fcmp .f64 x c) = false := by
  rw [vl_gtr hx hc, decide_eq_false (by grind)]
theorem cmp_lt {x c : FV} {r C : Rat} (hx : Vl .f64 x r) (hc : Vl .f64 c C) (h : r < C) : cmpB .lss (fcmp .f64 x c) = true := by
  rw [vl_lss hx hc, decide_eq_true h]
def zC : CV := (fv .f32 0, fv .f32 0)
/-- How long a point is, as the laws measure it. -/
structure Ln (p : CV) (u v R : Rat) : Prop where
  ok : LongOk (subC2 p zC)
  vR : Vl .f64 (farF p zC) R
  R0 : 0 ≤ R
  R1 : R ≤ 1200
  lo : Le2 u v (R * (1 + 1 / 100000) + 1 / 10000000)
  up : ∀ B, B ≤ 1000 → Le2 u v B → R ≤ B * (1 + 1 / 1000000) + 1 / 1000000000
theorem ln_of {p : CV} {u v : Rat} (vu : Vl .f32 p.1 u) (vv : Vl .f32 p.2 v) (hu : -400 ≤ u ∧ u ≤ 400) (hv : -400 ≤ v ∧ v ≤ 400) : ∃ R, Ln p u v R := by
  have b := p24_big
  have z := zvl .f32
  have key : ∀ {x : FV} {r : Rat}, Vl .f32 x r → -400 ≤ r ∧ r ≤ 400 → Vl .f32 (fbin .sub .f32 x (fv .f32 0)) r := fun {x r} vx hr => by
    obtain ⟨s, vs, rs⟩ := vl_sub vx z (fit_16 (a := 400) (by grind) (by grind) (by grind))
    rw [show r - 0 = r by grind] at rs
    rw [rnd_rep rs (vl_rep vx)] at vs
    exact vs
  have v1 := key vu hu
  have v2 := key vv hv
  obtain ⟨R, vR, ok, R0, R1⟩ := long_up (x := (subC2 p zC).1) (y := (subC2 p zC).2) v1 v2 (Le2.of_abs (a := 400) (b := 400) hu.1 hu.2 hv.1 hv.2) (by grind)
  refine ⟨R, ok, vl_wide vR, R0, by grind, ?_, fun B hB h => ?_⟩
  · obtain ⟨C, eC⟩ : ∃ C, C = R * (1 + 1 / 100000) + 1 / 10000000 := ⟨_, rfl⟩
    rw [← eC]
    refine ⟨by grind, ?_⟩
    rcases Rat.le_total (a := u * u + v * v) (b := C * C) with h | h
    · exact h
    · have := long_lo v1 v2 (by constructor <;> grind) (by constructor <;> grind) (show 1 / 1000000000 ≤ C by grind) h vR
      exfalso
      grind
  · obtain ⟨R', vR', _, _, R1'⟩ := long_up (x := (subC2 p zC).1) (y := (subC2 p zC).2) v1 v2 h hB
    obtain rfl := Vl.unique vR vR'
    exact R1'
/-- Turned points are twice as long. -/
theorem turn_gap {p q : CV} {U V a b E F u v u' v' Rp Rq : Rat} (ha : 4 * (99999 / 100000 * (99999 / 100000)) ≤ a * a + b * b) (hb : a * a + b * b ≤ 4 * (100001 / 100000 * (100001 / 100000)))
    (h1 : Ln p u v Rp) (h2 : Ln q u' v' Rq) (e1 : -E ≤ u - U ∧ u - U ≤ E) (e2 : -E ≤ v - V ∧ v - V ≤ E) (f1 : -F ≤ u' - (a * U - b * V) ∧ u' - (a * U - b * V) ≤ F) (f2 : -F ≤ v' - (b * U + a * V) ∧ v' - (b * U + a * V) ≤ F)
    (hE : E ≤ 1 / 10) (hF : F ≤ 1 / 10) (hu : -200 ≤ u ∧ u ≤ 200) (hv : -200 ≤ v ∧ v ≤ 200) : Rq - 2 * Rp ≤ Rp / 10000 + 5 * E + 3 * F + 1 / 10000 ∧ 2 * Rp - Rq ≤ Rp / 10000 + 5 * E + 3 * F + 1 / 10000 := by
  have p0 := h1.R0
  have q0 := h2.R0
  have l1 := h1.lo
  have l2 := h2.lo
  have hR := h1.up (200 + 200) (by grind) (Le2.of_abs (a := 200) (b := 200) hu.1 hu.2 hv.1 hv.2)
  -- upwards
  have s1 : Le2 (U - u) (V - v) (E + E) := Le2.of_abs (by grind) (by grind) (by grind) (by grind)
  have s2 := l1.add s1
  have g1 : Le2 U V (Rp * (1 + 1 / 100000) + 1 / 10000000 + (E + E)) := by
    rw [show u + (U - u) = U by grind, show v + (V - v) = V by grind] at s2
    exact s2
  have g2 : Le2 (a * U - b * V) (b * U + a * V) (2 * (100001 / 100000) * (Rp * (1 + 1 / 100000) + 1 / 10000000 + (E + E))) := by
    have n := g1.nn
    have s := g1.sq
    generalize Rp * (1 + 1 / 100000) + 1 / 10000000 + (E + E) = M at n s ⊢
    refine ⟨by grind, ?_⟩
    have t1 := Rat.mul_le_mul_of_nonneg_right hb (show 0 ≤ U * U + V * V by
      have := sqr_nonneg U
      have := sqr_nonneg V
      grind)
    have t2 := Rat.mul_le_mul_of_nonneg_left s (show (0 : Rat) ≤ 4 * (100001 / 100000 * (100001 / 100000)) by decide +kernel)
    grind
  have s3 : Le2 (u' - (a * U - b * V)) (v' - (b * U + a * V)) (F + F) := Le2.of_abs f1.1 f1.2 f2.1 f2.2
  have g3 := g2.add s3
  rw [show a * U - b * V + (u' - (a * U - b * V)) = u' by grind, show b * U + a * V + (v' - (b * U + a * V)) = v' by grind] at g3
  have g4 := h2.up _ (by grind) g3
  -- downwards
  have s4 : Le2 (a * U - b * V - u') (b * U + a * V - v') (F + F) := Le2.of_abs (by grind) (by grind) (by grind) (by grind)
  have k1 := l2.add s4
  rw [show u' + (a * U - b * V - u') = a * U - b * V by grind, show v' + (b * U + a * V - v') = b * U + a * V by grind] at k1
  have k2 : Le2 U V ((Rq * (1 + 1 / 100000) + 1 / 10000000 + (F + F)) * (50001 / 100000)) := by
    have n := k1.nn
    have s := k1.sq
    generalize Rq * (1 + 1 / 100000) + 1 / 10000000 + (F + F) = M at n s ⊢
    refine ⟨by grind, ?_⟩
    have t1 := Rat.mul_le_mul_of_nonneg_right ha (show 0 ≤ U * U + V * V by
      have := sqr_nonneg U
      have := sqr_nonneg V
      grind)
    have t2 := sqr_nonneg M
    have t3 : (a * U - b * V) * (a * U - b * V) + (b * U + a * V) * (b * U + a * V) = (a * a + b * b) * (U * U + V * V) := by grind
    rw [t3] at s
    have t4 : 4 * (99999 / 100000 * (99999 / 100000)) * (U * U + V * V) ≤ M * M := Rat.le_trans t1 s
    have t5 : M * (50001 / 100000) * (M * (50001 / 100000)) = M * M * (50001 / 100000 * (50001 / 100000)) := by grind
    rw [t5]
    generalize U * U + V * V = N at t4 ⊢
    generalize M * M = K at t2 t4 ⊢
    clear t1 t3 t5 s
    grind
  have s5 : Le2 (u - U) (v - V) (E + E) := Le2.of_abs e1.1 e1.2 e2.1 e2.2
  have k3 := k2.add s5
  rw [show U + (u - U) = u by grind, show V + (v - V) = v by grind] at k3
  have k4 := h1.up _ (by grind) k3
  constructor
  · grind
  · grind
end Go.Ab
namespace Go.Ab
section
variable {f : Int → FV} {n : Nat} {t : FV} {τ : Rat}
theorem cx_add (x : Nat → Rat) (c : Rat) (k i : Nat) : Cx f t (fun i => x i + c) k i = Cx f t x k i + c := by
  have := cx_lin (f := f) (t := t) 1 0 c x x k i
  rw [show (fun i => 1 * x i + 0 * x i + c) = (fun i => x i + c) from funext fun i => by grind] at this
  rw [this]
  grind
theorem cx_bound (hf : Wts f n) (hT : Tm t τ) {x : Nat → Rat} {B : Rat} (hn : 2 ≤ n ∧ n ≤ 5) (h : ∀ i, i < n → -B ≤ x i ∧ x i ≤ B) : -B ≤ Cx f t x (n - 1) 0 ∧ Cx f t x (n - 1) 0 ≤ B := cx_bnd hf hT h (n - 1) (by omega) 0 (by omega)
theorem sx_bound (hf : Wts f n) (hT : Tm t τ) {x : Nat → Rat} {B : Rat} (hn : 2 ≤ n ∧ n ≤ 5) (h : ∀ i, i < n → -B ≤ x i ∧ x i ≤ B) : -(2 * B) ≤ Sx f t x n ∧ Sx f t x n ≤ 2 * B := by
  have h1 := cx_bnd hf hT h (n - 2) (by omega) 0 (by omega)
  have h2 := cx_bnd hf hT h (n - 2) (by omega) 1 (by omega)
  unfold Sx
  constructor <;> grind
theorem point_nea (hf : Wts f n) (hT : Tm t τ) {P : Nat → CV} {x y : Nat → Rat} {B : Rat} (hB : B ≤ 39) (hn : 2 ≤ n ∧ n ≤ 5) (h : Pv n P x y B) : Nea (pointP n P f t) (Cx f t x (n - 1) 0) (Cx f t y (n - 1) 0) (4 / 25000) := point_vl hf hT hB hn h
theorem slope_nea (hf : Wts f n) (hT : Tm t τ) {P : Nat → CV} {x y : Nat → Rat} {B b : Rat} (vb : Vl .f32 (slopeBy n f t) b) (hb : 0 ≤ b ∧ b ≤ 10) (hB : B ≤ 39) (hn : 2 ≤ n ∧ n ≤ 5) (h : Pv n P x y B) : Nea (slopeP n P f t) (b * Sx f t x n) (b * Sx f t y n) (3 / 1000) := slope_vl hf hT vb hb hB hn h
theorem slopeBy_one (hT : Tm t τ) (hn : 2 ≤ n ∧ n ≤ 5) : Vl .f32 (slopeBy n (fun _ => one1) t) ((n : Rat) - 1) := by
  have vd := deg_vl hn
  have h0 := rowsW_one hT (n - 2) 0
  have h1 := rowsW_one hT (n - 2) 1
  have hW := rowsW_one hT (n - 1) 0
  have hz : (((n : Int) - 1 : Int) : Rat) = (n : Rat) - 1 := by rw [Rat.intCast_sub]; rfl
  have e1 : ((2 ^ 0 : Nat) : Rat) = 1 := rfl
  have m1 := mul_ex vd h0 ((n : Int) - 1) 0 (by omega) (by omega) (by rw [e1, hz]; grind)
  have m2 := mul_ex m1 h1 ((n : Int) - 1) 0 (by omega) (by omega) (by rw [e1, hz]; grind)
  have m3 := mul_ex hW hW 1 0 (by omega) (by omega) (by rw [e1, show ((1 : Int) : Rat) = 1 from rfl]; grind)
  exact div_ex m2 m3 (by grind) (v := (n : Rat) - 1) (by grind) ((n : Int) - 1) 0 (by omega) (by omega) (by rw [e1, hz]; grind)
theorem Nea.to {p : CV} {x y x' y' E D : Rat} (h : Nea p x y E) (hx : -D ≤ x - x' ∧ x - x' ≤ D) (hy : -D ≤ y - y' ∧ y - y' ≤ D) : Nea p x' y' (E + D) := by
  obtain ⟨u, v, vu, vv, h1, h2⟩ := h
  exact ⟨u, v, vu, vv, by constructor <;> grind, by constructor <;> grind⟩
/-- Near points are not far, as the law asks. -/
theorem far_no {p q : CV} {x y E F : Rat} (h1 : Nea p x y E) (h2 : Nea q x y F) (hE : E + F ≤ 1 / 250) (e0 : 0 ≤ E) (f0 : 0 ≤ F) (bx : -400 ≤ x ∧ x ≤ 400) (by_ : -400 ≤ y ∧ y ≤ 400) :
    LongOk (subC2 p q) ∧ cmpB .gtr (fcmp .f64 (farF p q) c01) = false := by
  obtain ⟨r, ok, vr, r0, r1⟩ := far_vl h1 h2 (by grind) (by grind) bx by_ (D := 0) (by constructor <;> grind) (by constructor <;> grind) (by grind)
  obtain ⟨C, vC, C1, C2⟩ := c01_vl
  exact ⟨ok, cmp_no vr vC (by grind)⟩
def c05 : FV := fv .f64 4587366580439587226
def one64 : FV := fv .f64 4607182418800017408
def two64 : FV := fv .f64 4611686018427387904
theorem one64_vl : Vl .f64 one64 1 := Vl.c (by decide +kernel)
theorem two64_vl : Vl .f64 two64 2 := Vl.c (by decide +kernel)
theorem c05_vl : ∃ C, Vl .f64 c05 C ∧ 499 / 10000 ≤ C ∧ C ≤ 501 / 10000 := by
  refine ⟨(7205759403792794 : Rat) * p2 (-57), Vl.c (by decide +kernel), by decide +kernel, by decide +kernel⟩
/-- What a slope may be off by. -/
theorem thr_vl {x : FV} {R : Rat} (h : Vl .f64 x R) (h0 : 0 ≤ R) (h1 : R ≤ 1200) : ∃ T, Vl .f64 (fbin .mul .f64 c05 (fbin .add .f64 one64 x)) T ∧ 49 / 1000 * (1 + R) ≤ T := by
  obtain ⟨C, vC, C1, C2⟩ := c05_vl
  obtain ⟨s, vs, rs⟩ := vl_add one64_vl h (fit_64 (a := 2000) (by grind) (by grind) (by grind))
  have rs := rnd_64 rs 2000 (by grind) (by grind)
  have m := mul_bnd (a := 501 / 10000) (b := 2000) (p := C) (q := s) (by grind) C2 (by grind) (by grind)
  obtain ⟨T, vT, rT⟩ := vl_mul vC vs (fit_64 (a := 200) (by grind) (by grind) (by grind))
  have rT := rnd_64 rT 200 (by grind) (by grind)
  have m2 := Rat.mul_le_mul_of_nonneg_right C1 (show 0 ≤ s by grind)
  exact ⟨T, vT, by grind⟩
theorem dbl_vl {x : FV} {R : Rat} (h : Vl .f64 x R) (h0 : 0 ≤ R) (h1 : R ≤ 1200) : ∃ T, Vl .f64 (fbin .mul .f64 two64 x) T ∧ -(1 / 100000000) ≤ T - 2 * R ∧ T - 2 * R ≤ 1 / 100000000 := by
  obtain ⟨T, vT, rT⟩ := vl_mul two64_vl h (fit_64 (a := 2400) (by grind) (by grind) (by grind))
  have rT := rnd_64 rT 2400 (by grind) (by grind)
  exact ⟨T, vT, by grind, by grind⟩
theorem gap_vl {x y : FV} {r s G : Rat} (hx : Vl .f64 x r) (hy : Vl .f64 y s) (h1 : r - s ≤ G) (h2 : s - r ≤ G) (hG : G ≤ 5000) : ∃ p q g, Vl .f64 (fbin .sub .f64 x y) p ∧ Vl .f64 (fbin .sub .f64 y x) q ∧ Vl .f64 (gapM x y) g ∧ g ≤ G + 1 / 10000000 := by
  obtain ⟨p, vp, rp⟩ := vl_sub hx hy (fit_64 (a := 5000) (by grind) (by grind) (by grind))
  obtain ⟨q, vq, rq⟩ := vl_sub hy hx (fit_64 (a := 5000) (by grind) (by grind) (by grind))
  have rp := rnd_64 rp 5000 (by grind) (by grind)
  have rq := rnd_64 rq 5000 (by grind) (by grind)
  obtain ⟨g, vg, _, _, hg⟩ := vl_max vp vq
  refine ⟨p, q, g, vp, vq, vg, ?_⟩
  rcases hg with rfl | rfl <;> grind
end
/-- What r8Gap asks of two numbers, and that it is not above. -/
structure GapOk (x y c : FV) : Prop where
  v1 : ∃ p, Vl .f64 (fbin .sub .f64 x y) p
  v2 : ∃ q, Vl .f64 (fbin .sub .f64 y x) q
  no : cmpB .gtr (fcmp .f64 (gapM x y) c) = false
structure GapLt (x y c : FV) : Prop where
  v1 : ∃ p, Vl .f64 (fbin .sub .f64 x y) p
  v2 : ∃ q, Vl .f64 (fbin .sub .f64 y x) q
  yes : cmpB .lss (fcmp .f64 (gapM x y) c) = true
theorem gap_ok {x y c : FV} {r s G C : Rat} (hx : Vl .f64 x r) (hy : Vl .f64 y s) (h1 : r - s ≤ G) (h2 : s - r ≤ G) (hG : G ≤ 5000) (hc : Vl .f64 c C) (hC : G + 1 / 10000000 ≤ C) : GapOk x y c := by
  obtain ⟨p, q, g, vp, vq, vg, hg⟩ := gap_vl hx hy h1 h2 hG
  exact ⟨⟨p, vp⟩, ⟨q, vq⟩, cmp_no vg hc (by grind)⟩
theorem gap_lt {x y c : FV} {r s G C : Rat} (hx : Vl .f64 x r) (hy : Vl .f64 y s) (h1 : r - s ≤ G) (h2 : s - r ≤ G) (hG : G ≤ 5000) (hc : Vl .f64 c C) (hC : G + 1 / 10000000 < C) : GapLt x y c := by
  obtain ⟨p, q, g, vp, vq, vg, hg⟩ := gap_vl hx hy h1 h2 hG
  exact ⟨⟨p, vp⟩, ⟨q, vq⟩, cmp_lt vg hc (by grind)⟩
def thrS (q : CV) : FV := fbin .mul .f64 c05 (fbin .add .f64 one64 (farF q zC))
/-- A point and a turned one. -/
theorem turned_no {p q : CV} {U V a b E F : Rat} (ha : 4 * (99999 / 100000 * (99999 / 100000)) ≤ a * a + b * b) (hb : a * a + b * b ≤ 4 * (100001 / 100000 * (100001 / 100000)))
    (h1 : Nea p U V E) (h2 : Nea q (a * U - b * V) (b * U + a * V) F) (hE : 0 ≤ E ∧ E ≤ 1 / 10) (hF : 0 ≤ F ∧ F ≤ 1 / 10) (hU : -190 ≤ U ∧ U ≤ 190) (hV : -190 ≤ V ∧ V ≤ 190) (hX : -390 ≤ a * U - b * V ∧ a * U - b * V ≤ 390) (hY : -390 ≤ b * U + a * V ∧ b * U + a * V ≤ 390) :
    ∃ Rp, LongOk (subC2 p zC) ∧ LongOk (subC2 q zC) ∧ 0 ≤ Rp ∧ Rp ≤ 1200 ∧ Vl .f64 (farF p zC) Rp ∧ (∀ B, B ≤ 900 → Le2 U V B → Rp ≤ (B + 2 * E) * (1 + 1 / 1000000) + 1 / 1000000000) ∧ ∀ c C, Vl .f64 c C → Rp / 10000 + 5 * E + 3 * F + 2 / 10000 ≤ C → GapOk (farF q zC) (fbin .mul .f64 two64 (farF p zC)) c := by
  obtain ⟨u, v, vu, vv, e1, e2⟩ := h1
  obtain ⟨u', v', vu', vv', f1, f2⟩ := h2
  obtain ⟨Rp, L1⟩ := ln_of vu vv (by constructor <;> grind) (by constructor <;> grind)
  obtain ⟨Rq, L2⟩ := ln_of vu' vv' (by constructor <;> grind) (by constructor <;> grind)
  obtain ⟨g1, g2⟩ := turn_gap ha hb L1 L2 e1 e2 f1 f2 hE.2 hF.2 (by constructor <;> grind) (by constructor <;> grind)
  refine ⟨Rp, L1.ok, L2.ok, L1.R0, L1.R1, L1.vR, fun B hB h => ?_, fun c C vc hC => ?_⟩
  · have s : Le2 (u - U) (v - V) (E + E) := Le2.of_abs e1.1 e1.2 e2.1 e2.2
    have s2 := h.add s
    rw [show U + (u - U) = u by grind, show V + (v - V) = v by grind] at s2
    have := L1.up _ (by grind) s2
    grind
  · obtain ⟨T, vT, T1, T2⟩ := dbl_vl L1.vR L1.R0 L1.R1
    have q1 := L2.R1
    have q0 := L2.R0
    have p1 := L1.R1
    have p0 := L1.R0
    exact gap_ok L2.vR vT (G := Rp / 10000 + 5 * E + 3 * F + 1 / 10000 + 1 / 100000000) (by grind) (by grind) (by grind) vc (by grind)
end Go.Ab
namespace Go.Ab
section
variable {f : Int → FV} {n : Nat} {P : Nat → CV} {a b : Nat → Int} {p : CV} {c d : Int} {m : Nat}
/-- Points that are turned. -/
theorem turned_pv (h : DpOk n P a b) (k : Nat) (hk : k < 16) : ∃ α β X Y, Pv n (fun i => mulC (P i) (turnBy (tq (k : Int)) twoF)) X Y 18 ∧ (∀ i, i < n → MulOk (P i) (turnBy (tq (k : Int)) twoF)) ∧ (-21 / 10 ≤ α ∧ α ≤ 21 / 10) ∧ (-21 / 10 ≤ β ∧ β ≤ 21 / 10) ∧ 4 * (99999 / 100000 * (99999 / 100000)) ≤ α * α + β * β ∧ α * α + β * β ≤ 4 * (100001 / 100000 * (100001 / 100000)) ∧
    (∀ i, i < n → -(1 / 100000) ≤ X i - (α * quR a i + -β * quR b i + 0) ∧ X i - (α * quR a i + -β * quR b i + 0) ≤ 1 / 100000) ∧ (∀ i, i < n → -(1 / 100000) ≤ Y i - (β * quR a i + α * quR b i + 0) ∧ Y i - (β * quR a i + α * quR b i + 0) ≤ 1 / 100000) := by
  obtain ⟨α, β, va, vb, ha, hb, s1, s2⟩ := turnBy_vl k hk
  have key : ∀ i, i < n → MulOk (P i) (turnBy (tq (k : Int)) twoF) ∧ Vl .f32 (mulC (P i) (turnBy (tq (k : Int)) twoF)).1 (valR (mulC (P i) (turnBy (tq (k : Int)) twoF)).1) ∧ Vl .f32 (mulC (P i) (turnBy (tq (k : Int)) twoF)).2 (valR (mulC (P i) (turnBy (tq (k : Int)) twoF)).2) ∧
      (-(1 / 100000) ≤ valR (mulC (P i) (turnBy (tq (k : Int)) twoF)).1 - (quR a i * α - quR b i * β) ∧ valR (mulC (P i) (turnBy (tq (k : Int)) twoF)).1 - (quR a i * α - quR b i * β) ≤ 1 / 100000) ∧ (-(1 / 100000) ≤ valR (mulC (P i) (turnBy (tq (k : Int)) twoF)).2 - (quR a i * β + quR b i * α) ∧ valR (mulC (P i) (turnBy (tq (k : Int)) twoF)).2 - (quR a i * β + quR b i * α) ≤ 1 / 100000) := fun i hi => by
    obtain ⟨ok, u, v, vu, vv, h1, h2⟩ := mulC_vl (h.pv.vx i hi) (h.pv.vy i hi) va vb (h.pv.bx i hi) (h.pv.by_ i hi) ha hb
    rw [vu.valR, vv.valR]
    exact ⟨ok, vu, vv, h1, h2⟩
  have bd : ∀ i, i < n → (-(84 / 10) ≤ quR a i * α ∧ quR a i * α ≤ 84 / 10) ∧ (-(84 / 10) ≤ quR b i * β ∧ quR b i * β ≤ 84 / 10) ∧ (-(84 / 10) ≤ quR a i * β ∧ quR a i * β ≤ 84 / 10) ∧ (-(84 / 10) ≤ quR b i * α ∧ quR b i * α ≤ 84 / 10) := fun i hi => by
    have x := h.pv.bx i hi
    have y := h.pv.by_ i hi
    have m1 := mul_bnd (a := 4) (b := 21 / 10) x.1 x.2 (show -(21 / 10) ≤ α by grind) ha.2
    have m2 := mul_bnd (a := 4) (b := 21 / 10) y.1 y.2 (show -(21 / 10) ≤ β by grind) hb.2
    have m3 := mul_bnd (a := 4) (b := 21 / 10) x.1 x.2 (show -(21 / 10) ≤ β by grind) hb.2
    have m4 := mul_bnd (a := 4) (b := 21 / 10) y.1 y.2 (show -(21 / 10) ≤ α by grind) ha.2
    refine ⟨?_, ?_, ?_, ?_⟩ <;> constructor <;> grind
  refine ⟨α, β, fun i => valR (mulC (P i) (turnBy (tq (k : Int)) twoF)).1, fun i => valR (mulC (P i) (turnBy (tq (k : Int)) twoF)).2, ⟨fun i hi => (key i hi).2.1, fun i hi => (key i hi).2.2.1, fun i hi => ?_, fun i hi => ?_⟩, fun i hi => (key i hi).1, ha, hb, s1, s2, fun i hi => ?_, fun i hi => ?_⟩
  · have k1 := (key i hi).2.2.2.1
    have b1 := bd i hi
    constructor <;> grind
  · have k1 := (key i hi).2.2.2.2
    have b1 := bd i hi
    constructor <;> grind
  · have k1 := (key i hi).2.2.2.1
    constructor <;> grind
  · have k1 := (key i hi).2.2.2.2
    constructor <;> grind
theorem tq_tau (hm : 2 ≤ m ∧ m ≤ 14) : 1 / 8 ≤ (m : Rat) / 16 ∧ (m : Rat) / 16 ≤ 7 / 8 := by
  have h1 := k_le hm.1
  have h2 := k_le hm.2
  rw [show ((2 : Nat) : Rat) = 2 from rfl] at h1
  rw [show ((14 : Nat) : Rat) = 14 from rfl] at h2
  constructor <;> grind
variable (h : DpOk n P a b) (hn : 2 ≤ n ∧ n ≤ 5) (hf : Wts f n) (hm : 2 ≤ m ∧ m ≤ 14)
include h hn hf hm
theorem law_at : Nea (pointP n P f (tq (m : Int))) (Cx f (tq (m : Int)) (quR a) (n - 1) 0) (Cx f (tq (m : Int)) (quR b) (n - 1) 0) (4 / 25000) ∧ (-4 ≤ Cx f (tq (m : Int)) (quR a) (n - 1) 0 ∧ Cx f (tq (m : Int)) (quR a) (n - 1) 0 ≤ 4) ∧ (-4 ≤ Cx f (tq (m : Int)) (quR b) (n - 1) 0 ∧ Cx f (tq (m : Int)) (quR b) (n - 1) 0 ≤ 4) :=
  ⟨point_nea hf (tq_tm m (by omega)) (by grind) hn h.pv, cx_bound hf (tq_tm m (by omega)) hn h.pv.bx, cx_bound hf (tq_tm m (by omega)) hn h.pv.by_⟩
/-- The slope. -/
theorem law_slope : ∃ β, Vl .f32 (slopeBy n f (tq (m : Int))) β ∧ (0 ≤ β ∧ β ≤ 10) ∧ Nea (slopeP n P f (tq (m : Int))) (β * Sx f (tq (m : Int)) (quR a) n) (β * Sx f (tq (m : Int)) (quR b) n) (3 / 1000) ∧ (-80 ≤ β * Sx f (tq (m : Int)) (quR a) n ∧ β * Sx f (tq (m : Int)) (quR a) n ≤ 80) ∧ (-80 ≤ β * Sx f (tq (m : Int)) (quR b) n ∧ β * Sx f (tq (m : Int)) (quR b) n ≤ 80) := by
  have hT := tq_tm m (by omega)
  obtain ⟨β, vb, b0, b1⟩ := slopeBy_vl hf hT (tq_tau hm) hn
  have s1 := sx_bound hf hT hn h.pv.bx
  have s2 := sx_bound hf hT hn h.pv.by_
  have m1 := mul_bnd (a := 10) (b := 8) (p := β) (q := Sx f (tq (m : Int)) (quR a) n) (by grind) b1 (by grind) (by grind)
  have m2 := mul_bnd (a := 10) (b := 8) (p := β) (q := Sx f (tq (m : Int)) (quR b) n) (by grind) b1 (by grind) (by grind)
  exact ⟨β, vb, ⟨b0, b1⟩, slope_nea hf hT vb ⟨b0, b1⟩ (by grind) hn h.pv, by constructor <;> grind, by constructor <;> grind⟩
variable (hp : p = (qtF c, qtF d)) (hc : -16 ≤ c ∧ c ≤ 16) (hd : -16 ≤ d ∧ d ≤ 16)
include hp hc hd
theorem law_moved : finC (pointP n (fun i => addC2 (P i) p) f (tq (m : Int))) = true ∧ LongOk (subC2 (pointP n (fun i => addC2 (P i) p) f (tq (m : Int))) (addC2 (pointP n P f (tq (m : Int))) p)) ∧ cmpB .gtr (fcmp .f64 (farF (pointP n (fun i => addC2 (P i) p) f (tq (m : Int))) (addC2 (pointP n P f (tq (m : Int))) p)) c01) = false := by
  have hT := tq_tm m (by omega)
  obtain ⟨hA, U1, V1⟩ := law_at h hn hf hm
  have hM := point_nea hf hT (by grind) hn (moved_pv h hp hc hd)
  rw [cx_add, cx_add] at hM
  have c1 := qu_bd hc
  have d1 := qu_bd hd
  generalize Cx f (tq (m : Int)) (quR a) (n - 1) 0 = U at *
  generalize Cx f (tq (m : Int)) (quR b) (n - 1) 0 = V at *
  have hS : Nea (addC2 (pointP n P f (tq (m : Int))) p) (U + (c : Rat) / 4) (V + (d : Rat) / 4) (5 / 25000) := by
    obtain ⟨u, v, vu, vv, e1, e2⟩ := hA
    obtain ⟨r, vr, _, r1, r2⟩ := addR vu (qtF_vl hc) 20 (by grind) (by grind) (by decide +kernel)
    obtain ⟨s, vs, _, s1, s2⟩ := addR vv (qtF_vl hd) 20 (by grind) (by grind) (by decide +kernel)
    subst hp
    exact ⟨r, s, vr, vs, by constructor <;> grind, by constructor <;> grind⟩
  exact ⟨hM.fin, far_no hM hS (by grind) (by grind) (by grind) (by constructor <;> grind) (by constructor <;> grind)⟩
theorem law_half (e : ∀ i : Nat, i < n → blendW f f halF i = f i) : finC (pointP n (blendP P (fun i => addC2 (P i) p) halF) (blendW f f halF) (tq (m : Int))) = true ∧ CdOk p twoF ∧ LongOk (subC2 (pointP n (blendP P (fun i => addC2 (P i) p) halF) (blendW f f halF) (tq (m : Int))) (addC2 (pointP n P f (tq (m : Int))) (cdC p twoF))) ∧ cmpB .gtr (fcmp .f64 (farF (pointP n (blendP P (fun i => addC2 (P i) p) halF) (blendW f f halF) (tq (m : Int))) (addC2 (pointP n P f (tq (m : Int))) (cdC p twoF))) c01) = false := by
  have hT := tq_tm m (by omega)
  have hW : Wts (blendW f f halF) n := fun i hi => by rw [e i hi]; exact hf i hi
  obtain ⟨hA, U1, V1⟩ := law_at h hn hf hm
  have hM := point_nea hW hT (by grind) hn (blend_pv h hp hc hd)
  rw [cx_add, cx_add, cx_congr (n := n) e (x := quR a) (y := quR a) (fun _ _ => rfl) (n - 1) 0 (by omega), cx_congr (n := n) e (x := quR b) (y := quR b) (fun _ _ => rfl) (n - 1) 0 (by omega)] at hM
  have c1 := qu_bd hc
  have d1 := qu_bd hd
  have v2 : Vl .f32 twoF 2 := Vl.c (by decide +kernel)
  have px : Vl .f32 p.1 ((c : Rat) / 4) := by rw [hp]; exact qtF_vl hc
  have py : Vl .f32 p.2 ((d : Rat) / 4) := by rw [hp]; exact qtF_vl hd
  obtain ⟨ok, q1, q2, s1, s2, vq1, vq2, hs1, hs2, _, _, k1, k2⟩ := cdC_vl px py v2 (by grind) 2 (by grind) (by grind) (by grind) (by grind) (by grind) (by constructor <;> grind) (by constructor <;> grind) (by grind)
  generalize Cx f (tq (m : Int)) (quR a) (n - 1) 0 = U at *
  generalize Cx f (tq (m : Int)) (quR b) (n - 1) 0 = V at *
  have hS : Nea (addC2 (pointP n P f (tq (m : Int))) (cdC p twoF)) (U + (c : Rat) / 8) (V + (d : Rat) / 8) (6 / 25000) := by
    obtain ⟨u, v, vu, vv, e1, e2⟩ := hA
    obtain ⟨r, vr, _, r1, r2⟩ := addR vu vq1 20 (by grind) (by grind) (by decide +kernel)
    obtain ⟨s, vs, _, s1, s2⟩ := addR vv vq2 20 (by grind) (by grind) (by decide +kernel)
    exact ⟨r, s, vr, vs, by constructor <;> grind, by constructor <;> grind⟩
  exact ⟨hM.fin, ok, far_no hM hS (by grind) (by grind) (by grind) (by constructor <;> grind) (by constructor <;> grind)⟩
theorem law_moved_slope : finC (slopeP n (fun i => addC2 (P i) p) f (tq (m : Int))) = true ∧ finC (slopeP n P f (tq (m : Int))) = true ∧ LongOk (subC2 (slopeP n (fun i => addC2 (P i) p) f (tq (m : Int))) (slopeP n P f (tq (m : Int)))) ∧ LongOk (subC2 (slopeP n P f (tq (m : Int))) zC) ∧
    cmpB .gtr (fcmp .f64 (farF (slopeP n (fun i => addC2 (P i) p) f (tq (m : Int))) (slopeP n P f (tq (m : Int)))) (thrS (slopeP n P f (tq (m : Int))))) = false := by
  have hT := tq_tm m (by omega)
  obtain ⟨β, vb, hb, hS, bx, by_⟩ := law_slope h hn hf hm
  have hM := slope_nea hf hT vb hb (by grind) hn (moved_pv h hp hc hd)
  unfold Sx at hM hS bx by_
  rw [cx_add, cx_add, cx_add, cx_add] at hM
  rw [show Cx f (tq (m : Int)) (quR a) (n - 2) 1 + (c : Rat) / 4 - (Cx f (tq (m : Int)) (quR a) (n - 2) 0 + (c : Rat) / 4) = Cx f (tq (m : Int)) (quR a) (n - 2) 1 - Cx f (tq (m : Int)) (quR a) (n - 2) 0 by grind, show Cx f (tq (m : Int)) (quR b) (n - 2) 1 + (d : Rat) / 4 - (Cx f (tq (m : Int)) (quR b) (n - 2) 0 + (d : Rat) / 4) = Cx f (tq (m : Int)) (quR b) (n - 2) 1 - Cx f (tq (m : Int)) (quR b) (n - 2) 0 by grind] at hM
  obtain ⟨r, ok, vr, r0, r1⟩ := far_vl hM hS (by grind) (by grind) (by constructor <;> grind) (by constructor <;> grind) (D := 0) (by constructor <;> grind) (by constructor <;> grind) (by grind)
  obtain ⟨u, v, vu, vv, e1, e2⟩ := id hS
  obtain ⟨R, L⟩ := ln_of vu vv (by constructor <;> grind) (by constructor <;> grind)
  obtain ⟨T, vT, hT'⟩ := thr_vl L.vR L.R0 L.R1
  have R0 := L.R0
  exact ⟨hM.fin, hS.fin, ok, L.ok, cmp_no vr vT (by grind)⟩
end
section
variable {f : Int → FV} {n : Nat} {P : Nat → CV} {a b : Nat → Int} {m k : Nat}
variable (h : DpOk n P a b) (hn : 2 ≤ n ∧ n ≤ 5) (hf : Wts f n) (hm : 2 ≤ m ∧ m ≤ 14) (hk : k < 16)
include h hn hf hm hk
theorem law_turned : ∃ X Y, Pv n (fun i => mulC (P i) (turnBy (tq (k : Int)) twoF)) X Y 18 ∧ (∀ i, i < n → MulOk (P i) (turnBy (tq (k : Int)) twoF)) ∧
    (finC (pointP n (fun i => mulC (P i) (turnBy (tq (k : Int)) twoF)) f (tq (m : Int))) = true ∧ finC (pointP n P f (tq (m : Int))) = true ∧ LongOk (subC2 (pointP n (fun i => mulC (P i) (turnBy (tq (k : Int)) twoF)) f (tq (m : Int))) zC) ∧ LongOk (subC2 (pointP n P f (tq (m : Int))) zC) ∧ GapOk (farF (pointP n (fun i => mulC (P i) (turnBy (tq (k : Int)) twoF)) f (tq (m : Int))) zC) (fbin .mul .f64 two64 (farF (pointP n P f (tq (m : Int))) zC)) c01) ∧
    finC (slopeP n (fun i => mulC (P i) (turnBy (tq (k : Int)) twoF)) f (tq (m : Int))) = true ∧ LongOk (subC2 (slopeP n (fun i => mulC (P i) (turnBy (tq (k : Int)) twoF)) f (tq (m : Int))) zC) ∧ GapOk (farF (slopeP n (fun i => mulC (P i) (turnBy (tq (k : Int)) twoF)) f (tq (m : Int))) zC) (fbin .mul .f64 two64 (farF (slopeP n P f (tq (m : Int))) zC)) (thrS (slopeP n P f (tq (m : Int)))) := by
  have hT := tq_tm m (by omega)
  obtain ⟨α, β, X, Y, hP, hM, hα, hβ, s1, s2, hX, hY⟩ := turned_pv h k hk
  refine ⟨X, Y, hP, hM, ?_, ?_⟩
  · obtain ⟨hA, U1, V1⟩ := law_at h hn hf hm
    have hB := point_nea hf hT (by grind) hn hP
    have nx := cx_near hf hT hX (n - 1) (by omega) 0 (by omega)
    have ny := cx_near hf hT hY (n - 1) (by omega) 0 (by omega)
    rw [cx_lin] at nx ny
    have hC := hB.to nx ny
    generalize Cx f (tq (m : Int)) (quR a) (n - 1) 0 = U at *
    generalize Cx f (tq (m : Int)) (quR b) (n - 1) 0 = V at *
    rw [show α * U + -β * V + 0 = α * U - β * V by grind, show β * U + α * V + 0 = β * U + α * V by grind] at hC
    have m1 := mul_bnd (a := 21 / 10) (b := 4) (p := α) (q := U) (by grind) hα.2 U1.1 U1.2
    have m2 := mul_bnd (a := 21 / 10) (b := 4) (p := β) (q := V) (by grind) hβ.2 V1.1 V1.2
    have m3 := mul_bnd (a := 21 / 10) (b := 4) (p := β) (q := U) (by grind) hβ.2 U1.1 U1.2
    have m4 := mul_bnd (a := 21 / 10) (b := 4) (p := α) (q := V) (by grind) hα.2 V1.1 V1.2
    obtain ⟨Rp, o1, o2, R0, R1, vR, up, hG⟩ := turned_no s1 s2 hA hC (by constructor <;> grind) (by constructor <;> grind) (by constructor <;> grind) (by constructor <;> grind) (by constructor <;> grind) (by constructor <;> grind)
    have hR := up (4 + 4) (by grind) (Le2.of_abs U1.1 U1.2 V1.1 V1.2)
    obtain ⟨C, vC, C1, C2⟩ := c01_vl
    exact ⟨hB.fin, hA.fin, o2, o1, hG c01 C vC (by grind)⟩
  · obtain ⟨σ, vb, hb, hS, bx, by_⟩ := law_slope h hn hf hm
    have hB := slope_nea hf hT vb hb (by grind) hn hP
    have nx1 := cx_near hf hT hX (n - 2) (by omega) 1 (by omega)
    have ny1 := cx_near hf hT hY (n - 2) (by omega) 1 (by omega)
    have nx0 := cx_near hf hT hX (n - 2) (by omega) 0 (by omega)
    have ny0 := cx_near hf hT hY (n - 2) (by omega) 0 (by omega)
    rw [cx_lin] at nx1 ny1 nx0 ny0
    have dx : -(2 / 10000) ≤ σ * Sx f (tq (m : Int)) X n - (α * (σ * Sx f (tq (m : Int)) (quR a) n) - β * (σ * Sx f (tq (m : Int)) (quR b) n)) ∧ σ * Sx f (tq (m : Int)) X n - (α * (σ * Sx f (tq (m : Int)) (quR a) n) - β * (σ * Sx f (tq (m : Int)) (quR b) n)) ≤ 2 / 10000 := by
      have := mul_bnd (a := 10) (b := 2 / 100000) (p := σ) (q := Sx f (tq (m : Int)) X n - (α * Sx f (tq (m : Int)) (quR a) n - β * Sx f (tq (m : Int)) (quR b) n)) (by grind) hb.2 (by unfold Sx; grind) (by unfold Sx; grind)
      constructor <;> grind
    have dy : -(2 / 10000) ≤ σ * Sx f (tq (m : Int)) Y n - (β * (σ * Sx f (tq (m : Int)) (quR a) n) + α * (σ * Sx f (tq (m : Int)) (quR b) n)) ∧ σ * Sx f (tq (m : Int)) Y n - (β * (σ * Sx f (tq (m : Int)) (quR a) n) + α * (σ * Sx f (tq (m : Int)) (quR b) n)) ≤ 2 / 10000 := by
      have := mul_bnd (a := 10) (b := 2 / 100000) (p := σ) (q := Sx f (tq (m : Int)) Y n - (β * Sx f (tq (m : Int)) (quR a) n + α * Sx f (tq (m : Int)) (quR b) n)) (by grind) hb.2 (by unfold Sx; grind) (by unfold Sx; grind)
      constructor <;> grind
    have hC := hB.to dx dy
    generalize σ * Sx f (tq (m : Int)) (quR a) n = U at *
    generalize σ * Sx f (tq (m : Int)) (quR b) n = V at *
    have m1 := mul_bnd (a := 21 / 10) (b := 80) (p := α) (q := U) (by grind) hα.2 bx.1 bx.2
    have m2 := mul_bnd (a := 21 / 10) (b := 80) (p := β) (q := V) (by grind) hβ.2 by_.1 by_.2
    have m3 := mul_bnd (a := 21 / 10) (b := 80) (p := β) (q := U) (by grind) hβ.2 bx.1 bx.2
    have m4 := mul_bnd (a := 21 / 10) (b := 80) (p := α) (q := V) (by grind) hα.2 by_.1 by_.2
    obtain ⟨Rp, o1, o2, R0, R1, vR, up, hG⟩ := turned_no s1 s2 hS hC (by constructor <;> grind) (by constructor <;> grind) (by constructor <;> grind) (by constructor <;> grind) (by constructor <;> grind) (by constructor <;> grind)
    obtain ⟨T, vT, hT'⟩ := thr_vl vR R0 R1
    exact ⟨hB.fin, o2, hG _ T vT (by grind)⟩
end
end Go.Ab
namespace Go.Ab
theorem half_above {f : Int → FV} {n : Nat} (hf : Wts f n) (e : ∀ i : Nat, i < n → blendW f f halF i = f i) : (tab n (blendW f f halF)).all aboveB = true := by
  have hW : Wts (blendW f f halF) n := fun i hi => by rw [e i hi]; exact hf i hi
  exact hW.above
section
variable {f : Int → FV} {n : Nat} {P : Nat → CV} {a b : Nat → Int} {m : Nat}
theorem points_fin (h : DpOk n P a b) (hn : 2 ≤ n ∧ n ≤ 5) (hf : Wts f n) : (tabC 5 fun k => pointP n P f (timeK k 5)).all finC = true ∧ finC (pointP n P f (fv .f32 0)) = true :=
  ⟨tabC_fin fun k hk => (point_nea hf (timeK_tm k hk) (by grind) hn h.pv).fin, (point_nea hf zero_tm (by grind) hn h.pv).fin⟩
theorem plain_at (h : DpOk n P a b) (hn : 2 ≤ n ∧ n ≤ 5) (hm : 2 ≤ m ∧ m ≤ 14) : Nea (pointP n P (fun _ => one1) (tq (m : Int))) (Cx (fun _ => one1) (tq (m : Int)) (quR a) (n - 1) 0) (Cx (fun _ => one1) (tq (m : Int)) (quR b) (n - 1) 0) (4 / 25000) :=
  point_nea (wts_one n) (tq_tm m (by omega)) (by grind) hn h.pv
theorem told_eq {t : FV} {τ : Rat} (hT : Tm t τ) (hn : 3 ≤ n) (r : Rat) (x : Nat → Rat) : Cx (fun _ => one1) t (fun i => r * (x (i + 1) - x i)) (n - 1 - 1) 0 = r * Sx (fun _ => one1) t x n := by
  have h1 := cx_lin (f := fun _ => one1) (t := t) r (-r) 0 (fun i => x (i + 1)) x (n - 2) 0
  rw [show (fun i => r * x (i + 1) + -r * x i + 0) = (fun i => r * (x (i + 1) - x i)) from funext fun i => by grind, ← cx_shift hT x (n - 2) 0] at h1
  rw [show n - 1 - 1 = n - 2 by omega, h1]
  unfold Sx
  grind
theorem own_nea (h : DpOk n P a b) (hn : 2 ≤ n ∧ n ≤ 5) (hm : 2 ≤ m ∧ m ≤ 14) : Nea (slopeP n P (fun _ => one1) (tq (m : Int))) (((n : Rat) - 1) * Sx (fun _ => one1) (tq (m : Int)) (quR a) n) (((n : Rat) - 1) * Sx (fun _ => one1) (tq (m : Int)) (quR b) n) (3 / 1000) := by
  have hT := tq_tm m (by omega)
  obtain ⟨d1, d2⟩ := n_bd hn
  exact slope_nea (wts_one n) hT (slopeBy_one hT hn) (by constructor <;> grind) (by grind) hn h.pv
theorem law_told (h : DpOk n P a b) (hn : 3 ≤ n ∧ n ≤ 5) (hm : 2 ≤ m ∧ m ≤ 14) : (tabC (n - 1) (diffP n P)).all finC = true ∧ finC (pointP (n - 1) (diffP n P) (fun _ => one1) (tq (m : Int))) = true ∧ LongOk (subC2 (pointP (n - 1) (diffP n P) (fun _ => one1) (tq (m : Int))) (slopeP n P (fun _ => one1) (tq (m : Int)))) ∧
    cmpB .gtr (fcmp .f64 (farF (pointP (n - 1) (diffP n P) (fun _ => one1) (tq (m : Int))) (slopeP n P (fun _ => one1) (tq (m : Int)))) c01) = false := by
  have hT := tq_tm m (by omega)
  have hD := diff_pv h (by omega)
  have hP := point_nea (wts_one (n - 1)) hT (by grind) (by omega) hD
  rw [told_eq hT hn.1, told_eq hT hn.1] at hP
  have hO := own_nea h (by omega) hm
  obtain ⟨d1, d2⟩ := n_bd (n := n) (by omega)
  have s1 := sx_bound (wts_one n) hT (by omega) h.pv.bx
  have s2 := sx_bound (wts_one n) hT (by omega) h.pv.by_
  have m1 := mul_bnd (a := 4) (b := 8) (p := (n : Rat) - 1) (q := Sx (fun _ => one1) (tq (m : Int)) (quR a) n) (by grind) d2 (by grind) (by grind)
  have m2 := mul_bnd (a := 4) (b := 8) (p := (n : Rat) - 1) (q := Sx (fun _ => one1) (tq (m : Int)) (quR b) n) (by grind) d2 (by grind) (by grind)
  exact ⟨hD.fin, hP.fin, far_no hP hO (by grind) (by grind) (by grind) (by constructor <;> grind) (by constructor <;> grind)⟩
end
def bern (τ : Rat) : Nat → Int → Rat
  | 0 => fun _ => 1
  | k + 1 => fun i => (if i < (k : Int) + 1 then bern τ k i else 0) * (1 - τ) + (if 0 < i then bern τ k (i - 1) else 0) * τ
def berB (m k i : Nat) : Bool := decide (k < i) || (isNum (shareT (tq (m : Int)) k (i : Int)) && decide (valR (shareT (tq (m : Int)) k (i : Int)) = bern ((m : Rat) / 16) k (i : Int)) && decide (0 ≤ bern ((m : Rat) / 16) k (i : Int)) && decide (bern ((m : Rat) / 16) k (i : Int) ≤ 1))
theorem shares_vl {m k i : Nat} (hm : m < 15) (hk : k < 5) (hi : i ≤ k) : Vl .f32 (shareT (tq (m : Int)) k (i : Int)) (bern ((m : Rat) / 16) k (i : Int)) ∧ 0 ≤ bern ((m : Rat) / 16) k (i : Int) ∧ bern ((m : Rat) / 16) k (i : Int) ≤ 1 := by
  have h := allLt_of (p := fun m => allLt (fun k => allLt (berB m k) 5) 5) (n := 15) (by decide +kernel) m hm
  have h := allLt_of h k hk
  have h := allLt_of h i (by omega)
  unfold berB at h
  simp only [Bool.or_eq_true, Bool.and_eq_true, decide_eq_true_eq] at h
  obtain ⟨⟨⟨h1, h2⟩, h3⟩, h4⟩ := h.resolve_left (by omega)
  exact ⟨h2 ▸ isNum_vl h1, h3, h4⟩
def accF (T : Nat → FV) : Nat → FV
  | 0 => fv .f64 0
  | i + 1 => fbin .add .f64 (accF T i) (T i)
def sumR (s : Nat → Rat) : Nat → Rat
  | 0 => 0
  | i + 1 => sumR s i + s i
theorem acc_vl {T : Nat → FV} {s : Nat → Rat} {n : Nat} (hn : n ≤ 5) (h : ∀ i, i < n → ∃ w, Vl .f64 (T i) w ∧ -(1 / 1000000000) ≤ w - s i ∧ w - s i ≤ 1 / 1000000000) (hb : ∀ i, i < n → -5 ≤ s i ∧ s i ≤ 5) : ∀ i, i ≤ n → ∃ r, Vl .f64 (accF T i) r ∧ (-((i : Rat) / 100000000) ≤ r - sumR s i ∧ r - sumR s i ≤ (i : Rat) / 100000000) ∧ -(5 * (i : Rat)) ≤ sumR s i ∧ sumR s i ≤ 5 * (i : Rat)
  | 0, _ => ⟨0, zvl .f64, by
      show -(((0 : Nat) : Rat) / 100000000) ≤ 0 - 0 ∧ (0 : Rat) - 0 ≤ ((0 : Nat) : Rat) / 100000000
      rw [show ((0 : Nat) : Rat) = 0 from rfl]
      constructor <;> grind, by
      show -(5 * ((0 : Nat) : Rat)) ≤ 0 ∧ (0 : Rat) ≤ 5 * ((0 : Nat) : Rat)
      rw [show ((0 : Nat) : Rat) = 0 from rfl]
      constructor <;> grind⟩
  | i + 1, hi => by
    obtain ⟨r, vr, e1, e2⟩ := acc_vl hn h hb i (by omega)
    obtain ⟨w, vw, w1, w2⟩ := h i (by omega)
    have b := hb i (by omega)
    have ek : ((i + 1 : Nat) : Rat) = (i : Rat) + 1 := Rat.natCast_add i 1
    have i5 := k_le (show i ≤ 5 by omega)
    rw [show ((5 : Nat) : Rat) = 5 from rfl] at i5
    obtain ⟨q, vq, rq⟩ := vl_add vr vw (fit_64 (a := 100) (by grind) (by grind) (by grind))
    have rq := rnd_64 rq 100 (by grind) (by grind)
    refine ⟨q, vq, ?_, ?_⟩
    · rw [ek]
      unfold sumR
      constructor <;> grind
    · rw [ek]
      unfold sumR
      constructor <;> grind
theorem bern_sum (τ : Rat) {n : Nat} (hn : 2 ≤ n ∧ n ≤ 5) : sumR (fun i => bern τ (n - 1) (i : Int)) n = 1 := by
  obtain rfl | rfl | rfl | rfl : n = 2 ∨ n = 3 ∨ n = 4 ∨ n = 5 := by omega
  all_goals
    simp [sumR, bern]
    try grind
theorem bern_cx {t : FV} {τ : Rat} (hT : Tm t τ) (x : Nat → Rat) {n : Nat} (hn : 2 ≤ n ∧ n ≤ 5) : sumR (fun i => bern τ (n - 1) (i : Int) * x i) n = Cx (fun _ => one1) t x (n - 1) 0 := by
  obtain rfl | rfl | rfl | rfl : n = 2 ∨ n = 3 ∨ n = 4 ∨ n = 5 := by omega
  all_goals
    simp [sumR, bern, Cx, lam_one hT]
    try grind
end Go.Ab
namespace Go.Ab
def c001 : FV := fv .f64 4562254508917369340
theorem c001_vl : ∃ C, Vl .f64 c001 C ∧ 99 / 100000 ≤ C := by
  refine ⟨(1152921504606847 : Rat) * p2 (-60), Vl.c (by decide +kernel), by decide +kernel⟩
def sumT (t : FV) (n : Nat) (i : Nat) : FV := fconv .f32 .f64 (shareT t (n - 1) (i : Int))
def sumX (t : FV) (P : Nat → CV) (n : Nat) (i : Nat) : FV := fbin .mul .f64 (fconv .f32 .f64 (shareT t (n - 1) (i : Int))) (fconv .f32 .f64 (P i).1)
section
variable {n : Nat} {P : Nat → CV} {a b : Nat → Int} {m : Nat}
theorem law_sum (hn : 2 ≤ n ∧ n ≤ 5) (hm : 2 ≤ m ∧ m ≤ 14) : GapLt (accF (sumT (tq (m : Int)) n) n) one64 c001 := by
  obtain ⟨r, vr, ⟨r1, r2⟩, _⟩ := acc_vl (T := sumT (tq (m : Int)) n) (s := fun i => bern ((m : Rat) / 16) (n - 1) (i : Int)) (n := n) hn.2 (fun i hi => by
    obtain ⟨v, _, _⟩ := shares_vl (m := m) (k := n - 1) (i := i) (by omega) (by omega) (by omega)
    exact ⟨_, vl_wide v, by grind, by grind⟩) (fun i hi => by
    obtain ⟨_, l, u⟩ := shares_vl (m := m) (k := n - 1) (i := i) (by omega) (by omega) (by omega)
    constructor <;> grind) n (Nat.le_refl n)
  rw [bern_sum _ hn] at r1 r2
  have n5 := k_le hn.2
  rw [show ((5 : Nat) : Rat) = 5 from rfl] at n5
  obtain ⟨C, vC, hC⟩ := c001_vl
  exact gap_lt vr one64_vl (G := 1 / 10000000) (by grind) (by grind) (by grind) vC (by grind)
theorem law_share (hn : 2 ≤ n ∧ n ≤ 5) (hm : 2 ≤ m ∧ m ≤ 14) (i : Nat) (hi : i < n) : cmpB .lss (fcmp .f32 (shareT (tq (m : Int)) (n - 1) (i : Int)) (fv .f32 0)) = false := by
  obtain ⟨v, h0, _⟩ := shares_vl (m := m) (k := n - 1) (i := i) (by omega) (by omega) (by omega)
  rw [vl_lss v (zvl .f32), decide_eq_false (by grind)]
theorem law_x (h : DpOk n P a b) (hn : 2 ≤ n ∧ n ≤ 5) (hm : 2 ≤ m ∧ m ≤ 14) : finC (pointP n P (fun _ => one1) (tq (m : Int))) = true ∧ GapLt (accF (sumX (tq (m : Int)) P n) n) (fconv .f32 .f64 (pointP n P (fun _ => one1) (tq (m : Int))).1) c01 := by
  have hT := tq_tm m (by omega)
  have hA := plain_at h hn hm
  have hx : ∀ i, i < n → (0 ≤ bern ((m : Rat) / 16) (n - 1) (i : Int) ∧ bern ((m : Rat) / 16) (n - 1) (i : Int) ≤ 1) ∧ Vl .f32 (shareT (tq (m : Int)) (n - 1) (i : Int)) (bern ((m : Rat) / 16) (n - 1) (i : Int)) ∧ -4 ≤ bern ((m : Rat) / 16) (n - 1) (i : Int) * quR a i ∧ bern ((m : Rat) / 16) (n - 1) (i : Int) * quR a i ≤ 4 := fun i hi => by
    obtain ⟨v, l, u⟩ := shares_vl (m := m) (k := n - 1) (i := i) (by omega) (by omega) (by omega)
    have bx := h.pv.bx i hi
    have mb := mul_bnd (a := 1) (b := 4) (p := bern ((m : Rat) / 16) (n - 1) (i : Int)) (q := quR a i) (by grind) u bx.1 bx.2
    exact ⟨⟨l, u⟩, v, by grind, by grind⟩
  obtain ⟨r, vr, ⟨r1, r2⟩, _⟩ := acc_vl (T := sumX (tq (m : Int)) P n) (s := fun i => bern ((m : Rat) / 16) (n - 1) (i : Int) * quR a i) (n := n) hn.2 (fun i hi => by
    obtain ⟨_, v, l, u⟩ := hx i hi
    obtain ⟨w, vw, rw_⟩ := vl_mul (vl_wide v) (vl_wide (h.pv.vx i hi)) (fit_64 (a := 4) l u (by grind))
    have := rnd_64 rw_ 4 l u
    exact ⟨w, vw, by grind, by grind⟩) (fun i hi => by
    obtain ⟨_, _, l, u⟩ := hx i hi
    constructor <;> grind) n (Nat.le_refl n)
  rw [bern_cx hT (quR a) hn] at r1 r2
  have n5 := k_le hn.2
  rw [show ((5 : Nat) : Rat) = 5 from rfl] at n5
  have fin := hA.fin
  obtain ⟨u, v, vu, _, e1, _⟩ := hA
  obtain ⟨C, vC, C1, _⟩ := c01_vl
  exact ⟨fin, gap_lt vr (vl_wide vu) (G := 1 / 1000) (by grind) (by grind) (by grind) vC (by grind)⟩
end
def qX (i : Nat) : Rat := if i = 0 then 2 else if i = 1 then 2 else 0
def qY (i : Nat) : Rat := if i = 0 then 0 else if i = 1 then 2 else 2
def quaB (m : Nat) : Bool := decide (19999 / 10000 * (19999 / 10000) ≤ Cx quarterW (tq (m : Int)) qX 2 0 * Cx quarterW (tq (m : Int)) qX 2 0 + Cx quarterW (tq (m : Int)) qY 2 0 * Cx quarterW (tq (m : Int)) qY 2 0) && decide (Cx quarterW (tq (m : Int)) qX 2 0 * Cx quarterW (tq (m : Int)) qX 2 0 + Cx quarterW (tq (m : Int)) qY 2 0 * Cx quarterW (tq (m : Int)) qY 2 0 ≤ 20001 / 10000 * (20001 / 10000))
theorem qua_of (m : Nat) (hm : m < 15) : 19999 / 10000 * (19999 / 10000) ≤ Cx quarterW (tq (m : Int)) qX 2 0 * Cx quarterW (tq (m : Int)) qX 2 0 + Cx quarterW (tq (m : Int)) qY 2 0 * Cx quarterW (tq (m : Int)) qY 2 0 ∧ Cx quarterW (tq (m : Int)) qX 2 0 * Cx quarterW (tq (m : Int)) qX 2 0 + Cx quarterW (tq (m : Int)) qY 2 0 * Cx quarterW (tq (m : Int)) qY 2 0 ≤ 20001 / 10000 * (20001 / 10000) := by
  have h := allLt_of (p := quaB) (n := 15) (by decide +kernel) m hm
  unfold quaB at h
  simp only [Bool.and_eq_true, decide_eq_true_eq] at h
  exact h
theorem wts_qua : Wts quarterW 3 := fun i hi => by
  have h := allLt_of (p := fun i => isNum (quarterW (i : Int)) && decide (1 / 4 ≤ valR (quarterW (i : Int))) && decide (valR (quarterW (i : Int)) ≤ 2)) (n := 3) (by decide +kernel) i hi
  simp only [Bool.and_eq_true, decide_eq_true_eq] at h
  exact ⟨_, isNum_vl h.1.1, h.1.2, h.2⟩
section
variable {p : CV} {c d : Int} {m : Nat}
theorem qua_pv (hp : p = (qtF c, qtF d)) (hc : -16 ≤ c ∧ c ≤ 16) (hd : -16 ≤ d ∧ d ≤ 16) : Pv 3 (quarterP p twoF) (fun i => qX i + (c : Rat) / 4) (fun i => qY i + (d : Rat) / 4) 6 := by
  have c1 := qu_bd hc
  have d1 := qu_bd hd
  have v0 : ∀ {x : Int}, -16 ≤ x ∧ x ≤ 16 → Vl .f32 (fbin .add .f32 (qtF x) (fv .f32 0)) (0 + (x : Rat) / 4) := fun {x} hx => by
    have := qu_bd hx
    rw [Rat.zero_add]
    exact add_zero_ex (qtF_vl hx) (zvl .f32) (fit_16 (a := 4) (by grind) (by grind) (by grind))
  have v2 : ∀ {x : Int}, -16 ≤ x ∧ x ≤ 16 → Vl .f32 (fbin .add .f32 (qtF x) twoF) (2 + (x : Rat) / 4) := fun {x} hx => by
    have := add_ex (qtF_vl hx) (show Vl .f32 twoF 2 from Vl.c (by decide +kernel)) (x + 8) 2 (by omega) (by omega) (by
      rw [Rat.intCast_add, show ((2 ^ 2 : Nat) : Rat) = 4 from rfl, show ((8 : Int) : Rat) = 8 from rfl]
      grind)
    rw [Rat.add_comm]
    exact this
  refine ⟨fun i hi => ?_, fun i hi => ?_, fun i hi => ?_, fun i hi => ?_⟩
  all_goals obtain rfl | rfl | rfl : i = 0 ∨ i = 1 ∨ i = 2 := by omega
  all_goals simp only [quarterP, qX, qY, hp, addC2, if_pos, if_neg, Nat.one_ne_zero, reduceIte, show ¬ (2 : Nat) = 1 by omega, show ¬ (2 : Nat) = 0 by omega]
  · exact v2 hc
  · exact v2 hc
  · exact v0 hc
  · exact v0 hd
  · exact v2 hd
  · exact v2 hd
  all_goals constructor <;> grind
theorem law_quarter (hp : p = (qtF c, qtF d)) (hc : -16 ≤ c ∧ c ≤ 16) (hd : -16 ≤ d ∧ d ≤ 16) (hm : 2 ≤ m ∧ m ≤ 14) : finC (pointP 3 (quarterP p twoF) quarterW (tq (m : Int))) = true ∧ LongOk (subC2 (pointP 3 (quarterP p twoF) quarterW (tq (m : Int))) p) ∧ GapLt (farF (pointP 3 (quarterP p twoF) quarterW (tq (m : Int))) p) two64 c01 := by
  have hT := tq_tm m (by omega)
  have hP := point_nea wts_qua hT (by grind) (by omega) (qua_pv hp hc hd)
  rw [cx_add, cx_add] at hP
  obtain ⟨q1, q2⟩ := qua_of m (by omega)
  have c1 := qu_bd hc
  have d1 := qu_bd hd
  have fin := hP.fin
  rw [show 3 - 1 = 2 from rfl] at hP
  generalize Cx quarterW (tq (m : Int)) qX 2 0 = X at *
  generalize Cx quarterW (tq (m : Int)) qY 2 0 = Y at *
  have hXY : Le2 X Y (20001 / 10000) := ⟨by grind, q2⟩
  have bX := hXY.x
  have bY := hXY.y
  obtain ⟨u, v, vu, vv, e1, e2⟩ := hP
  have px : Vl .f32 p.1 ((c : Rat) / 4) := by rw [hp]; exact qtF_vl hc
  have py : Vl .f32 p.2 ((d : Rat) / 4) := by rw [hp]; exact qtF_vl hd
  obtain ⟨s, vs, _, s1, s2⟩ := subR vu px 20 (by grind) (by grind) (by decide +kernel)
  obtain ⟨w, vw, _, w1, w2⟩ := subR vv py 20 (by grind) (by grind) (by decide +kernel)
  have near : Le2 (s - X) (w - Y) (2 / 10000 + 2 / 10000) := Le2.of_abs (by grind) (by grind) (by grind) (by grind)
  have far : Le2 (X - s) (Y - w) (2 / 10000 + 2 / 10000) := Le2.of_abs (by grind) (by grind) (by grind) (by grind)
  have up := hXY.add near
  rw [show X + (s - X) = s by grind, show Y + (w - Y) = w by grind] at up
  obtain ⟨R, vR, ok, R0, R1⟩ := long_up (x := (subC2 (pointP 3 (quarterP p twoF) quarterW (tq (m : Int))) p).1) (y := (subC2 (pointP 3 (quarterP p twoF) quarterW (tq (m : Int))) p).2) vs vw up (by grind)
  have lo : 1999 / 1000 * (1 - 1 / 1000000) ≤ R := by
    refine long_lo vs vw (by constructor <;> grind) (by constructor <;> grind) (by grind) ?_ vR
    rcases Rat.le_total (a := 1999 / 1000 * (1999 / 1000)) (b := s * s + w * w) with h | h
    · exact h
    · exfalso
      have l1 : Le2 s w (1999 / 1000) := ⟨by grind, h⟩
      have l2 := l1.add far
      rw [show s + (X - s) = X by grind, show w + (Y - w) = Y by grind] at l2
      have := l2.sq
      grind
  obtain ⟨C, vC, C1, _⟩ := c01_vl
  exact ⟨fin, ok, gap_lt (vl_wide vR) two64_vl (G := 1 / 500) (by grind) (by grind) (by grind) vC (by grind)⟩
end
end Go.Ab
namespace Go.Ab
open Go.Proofs
section
variable {P : Program} {S : World → Prop} {e : Env} {dst : Option Tmp} {ty : TypeId} {pos : String} {after : Array Edge} {guard : Option (Nat × Bool)} {w0 : World} {gs : List Nat} {H : List Ent} {R : World → Prop} [RStab R]
theorem effj_storeAG (k : Nat) {en : Ent} {i : Nat} {t : TypeId} {z : Value} {sz b : Nat} [hi : TyI P t z sz b] {A X : Operand} {ys : List AV} (hA : e.ev A = some (.raw (.pointer (some ⟨en.g, i, none⟩)))) (hx : e.ev X = some (.agg ys)) (h1 : OneL ys) (hs : AV.stillL ys = true)
    (hH : H[k]? = some en) (hl : ys.length = sz) (hi' : i + sz ≤ en.xs.length) (hc : en.xs.length = en.csz) :
    EffJ P (StR R w0 gs H) (StR R w0 gs (H.set k { en with xs := splice i ys en.xs })) e ⟨none, .store t A X, ty, pos, after, none⟩ := by
  intro a w K Q hS ho hK
  have h2 := (ho A (by simp [Op.operands]) _ hA).inv_raw
  obtain ⟨vs, hv, hr⟩ := (ho X (by simp [Op.operands]) _ hx).inv_agg
  have hvl : vs.length = sz := by rw [hr.length, hl]
  have hmem : en ∈ H := List.mem_of_getElem? hH
  obtain ⟨cur, hb, hcs, hcx⟩ := (hS.own en hmem).2
  have hone : ∀ v ∈ vs, v.oneCell' = true := fun v hv' => by
    obtain ⟨j, hj⟩ := List.mem_iff_getElem?.1 hv'
    have hjl : j < ys.length := by rw [← hr.length]; exact (List.getElem?_eq_some_iff.1 hj).1
    obtain ⟨u, hu, hru⟩ := hr.get (List.getElem?_eq_getElem hjl)
    rw [hj] at hu; cases hu
    exact h1 _ (List.getElem_mem _) _ _ hru
  have hst := run_storeCells_at (P := P) en.g i en.T vs 0 cur w hb (by omega) hone
  have hrun : (execOp a.eval ⟨none, .store t A X, ty, pos, after, none⟩).run P w = .ok .skip (w.setRow en.g (cur.toList.take (i + 0) ++ vs ++ cur.toList.drop (i + 0 + vs.length)).toArray) := by
    have hcs' : (Value.agg vs.toArray).cells = vs.toArray := rfl
    simp [execOp, h2, hv, Instr.storeAt, Instr.sureAddr, storeVar, run_size hi, hcs', hvl, hst]
  simp only [Nat.add_zero] at hrun
  unfold Oper.wp
  rw [hrun]
  have hrow : ((w.setRow en.g (cur.toList.take i ++ vs ++ cur.toList.drop (i + vs.length)).toArray)).heap[en.g]? = some (.cells (cur.toList.take i ++ vs ++ cur.toList.drop (i + vs.length)).toArray en.T (0, 0)) := setRow_heap w en.g cur _ en.T _ hb
  have hto : (cur.toList.take i).length = i := by simp; omega
  have hto' : (en.xs.take i).length = i := by simp; omega
  refine hK _ (hS.updAt (e' := { en with xs := splice i ys en.xs }) hH ?_ (.inl rfl) ?_)
  · refine ⟨rfl, rfl, rfl, by simp, fun k _ hk => setRow_other w en.g k _ (fun e => hk (by simp [e]))⟩
  · refine ⟨_, hrow, ?_, fun j x hj => ?_⟩
    · simp only [List.size_toArray, List.length_append, List.length_drop, hto, Array.length_toList, hvl]; omega
    · simp only [splice] at hj
      simp only [List.getElem?_toArray]
      rcases Nat.lt_or_ge j i with h | h
      · rw [List.append_assoc, List.getElem?_append_left (by omega), List.getElem?_take, if_pos h] at hj
        obtain ⟨u, hu, hev⟩ := hcx j x hj
        exact ⟨u, by rw [List.append_assoc, List.getElem?_append_left (by omega), List.getElem?_take, if_pos h]; simpa using hu, hev⟩
      · rcases Nat.lt_or_ge j (i + sz) with h' | h'
        · rw [List.append_assoc, List.getElem?_append_right (by omega), hto', List.getElem?_append_left (by omega)] at hj
          obtain ⟨u, hu, hru⟩ := hr.get hj
          refine ⟨u, ?_, hru.ev (still_mem hs x (List.mem_of_getElem? hj))⟩
          rw [List.append_assoc, List.getElem?_append_right (by omega), hto, List.getElem?_append_left (by omega)]
          exact hu
        · rw [List.getElem?_append_right (by simp; omega), List.getElem?_drop] at hj
          have e1 : i + ys.length + (j - (en.xs.take i ++ ys).length) = j := by simp; omega
          rw [e1] at hj
          obtain ⟨u, hu, hev⟩ := hcx j x hj
          refine ⟨u, ?_, hev⟩
          rw [List.getElem?_append_right (by simp; omega), List.getElem?_drop]
          have e2 : i + vs.length + (j - (cur.toList.take i ++ vs).length) = j := by simp; omega
          rw [e2]
          simpa using hu
theorem effj_storeAX (k : Nat) {g i c : Nat} {T : TypeId} {xs zs : List AV} {t : TypeId} {z : Value} {sz b : Nat} [hi : TyI P t z sz b] {A X : Operand} {ys : List AV} (hA : e.ev A = some (.raw (.pointer (some ⟨g, i, none⟩)))) (hx : e.ev X = some (.agg ys)) (h1 : ys.all AV.one = true) (hs : AV.stillL ys = true)
    (hH : H[k]? = some ⟨g, T, xs, c⟩) (hl : ys.length = sz) (hi' : Nat.ble (i + sz) xs.length = true) (hc : xs.length = c) (hz : splice i ys xs = zs) :
    EffJ P (StR R w0 gs H) (StR R w0 gs (H.set k ⟨g, T, zs, c⟩)) e ⟨none, .store t A X, ty, pos, after, none⟩ := by
  subst hz
  exact effj_storeAG k (en := ⟨g, T, xs, c⟩) hA hx (oneL_of h1) hs hH hl (Nat.le_of_ble_eq_true hi') hc
end
end Go.Ab
