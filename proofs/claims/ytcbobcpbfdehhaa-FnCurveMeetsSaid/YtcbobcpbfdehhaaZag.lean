/- Part 7 of the texts on which the law leans, joined: Lists turned round, and curves the other way round, the program's; walked. No conditions. -/
import Derived.Test.YtcbobcpbfdehhaaZaf
namespace Go.Ab
/-- How near, by what is near it. -/
theorem rnd_rel {q r : Rat} (h : Rnd .f32 q r) (a : Rat) (h1 : -a ≤ q) (h2 : q ≤ a) : q - (a / 8388608 + 1 / 100000000000000000000) ≤ r ∧ r ≤ q + (a / 8388608 + 1 / 100000000000000000000) := by
  have h3 := h.near a h1 h2
  have e1 : feps .f32 = 1 / 8388608 := by decide +kernel
  have e2 : ftiny .f32 ≤ 1 / 100000000000000000000 := by decide +kernel
  rw [e1] at h3
  obtain ⟨h4, h5⟩ := h3
  constructor <;> grind
theorem p24_big : (16000000 : Rat) ≤ p2 24 := by decide +kernel
section
variable {x y : FV} {p q : Rat}
theorem fit_16 {a q : Rat} (h1 : -a ≤ q) (h2 : q ≤ a) (h3 : a ≤ 16000000) : Fit .f32 q := by
  have := p24_big
  exact fit_24 (by grind) (by grind)
theorem mulR (hx : Vl .f32 x p) (hy : Vl .f32 y q) (a : Rat) (h1 : -a ≤ p * q) (h2 : p * q ≤ a) (h3 : a ≤ 16000000) : ∃ r, Vl .f32 (fbin .mul .f32 x y) r ∧ Rnd .f32 (p * q) r ∧ p * q - (a / 8388608 + 1 / 100000000000000000000) ≤ r ∧ r ≤ p * q + (a / 8388608 + 1 / 100000000000000000000) := by
  obtain ⟨r, vr, hr⟩ := vl_mul hx hy (fit_16 h1 h2 h3)
  exact ⟨r, vr, hr, rnd_rel hr a h1 h2⟩
theorem addR (hx : Vl .f32 x p) (hy : Vl .f32 y q) (a : Rat) (h1 : -a ≤ p + q) (h2 : p + q ≤ a) (h3 : a ≤ 16000000) : ∃ r, Vl .f32 (fbin .add .f32 x y) r ∧ Rnd .f32 (p + q) r ∧ p + q - (a / 8388608 + 1 / 100000000000000000000) ≤ r ∧ r ≤ p + q + (a / 8388608 + 1 / 100000000000000000000) := by
  obtain ⟨r, vr, hr⟩ := vl_add hx hy (fit_16 h1 h2 h3)
  exact ⟨r, vr, hr, rnd_rel hr a h1 h2⟩
theorem subR (hx : Vl .f32 x p) (hy : Vl .f32 y q) (a : Rat) (h1 : -a ≤ p - q) (h2 : p - q ≤ a) (h3 : a ≤ 16000000) : ∃ r, Vl .f32 (fbin .sub .f32 x y) r ∧ Rnd .f32 (p - q) r ∧ p - q - (a / 8388608 + 1 / 100000000000000000000) ≤ r ∧ r ≤ p - q + (a / 8388608 + 1 / 100000000000000000000) := by
  obtain ⟨r, vr, hr⟩ := vl_sub hx hy (fit_16 h1 h2 h3)
  exact ⟨r, vr, hr, rnd_rel hr a h1 h2⟩
theorem divR (hx : Vl .f32 x p) (hy : Vl .f32 y q) (hq : q ≠ 0) (a : Rat) (h1 : -a ≤ p / q) (h2 : p / q ≤ a) (h3 : a ≤ 16000000) : ∃ r, Vl .f32 (fbin .quo .f32 x y) r ∧ Rnd .f32 (p / q) r ∧ p / q - (a / 8388608 + 1 / 100000000000000000000) ≤ r ∧ r ≤ p / q + (a / 8388608 + 1 / 100000000000000000000) := by
  have := p24_big
  obtain ⟨r, vr, hr⟩ := vl_div hx hy hq (fit_24' (by grind) (by grind))
  exact ⟨r, vr, hr, rnd_rel hr a h1 h2⟩
end
/-- A time, by value. -/
structure Tm (t : FV) (τ : Rat) : Prop where
  v : Vl .f32 t τ
  s : Vl .f32 (fbin .sub .f32 one1 t) (1 - τ)
  lo : 0 ≤ τ
  hi : τ ≤ 1
/-- A coordinate's blend. -/
def blF (a b u v t : FV) : FV := fbin .mul .f32 (fbin .add .f32 (fbin .mul .f32 a (fbin .mul .f32 u (fbin .sub .f32 one1 t))) (fbin .mul .f32 b (fbin .mul .f32 v t))) (fbin .quo .f32 one1 (blW u v t))
theorem blC_1 (a b : CV) (u v t : FV) : (blC a b u v t).1 = blF a.1 b.1 u v t := rfl
theorem blC_2 (a b : CV) (u v t : FV) : (blC a b u v t).2 = blF a.2 b.2 u v t := rfl
theorem one1_vl : Vl .f32 one1 1 := Vl.c (by decide +kernel)
/-- What two weights make, by value. -/
structure Bw (u v t : FV) (x y τ : Rat) (p q W : Rat) : Prop where
  vp : Vl .f32 (fbin .mul .f32 u (fbin .sub .f32 one1 t)) p
  vq : Vl .f32 (fbin .mul .f32 v t) q
  vW : Vl .f32 (blW u v t) W
  p0 : 0 ≤ p
  q0 : 0 ≤ q
  p1 : x * (1 - τ) - 4 / 8388608 ≤ p
  p2 : p ≤ x * (1 - τ) + 4 / 8388608
  q1 : y * τ - 4 / 8388608 ≤ q
  q2 : q ≤ y * τ + 4 / 8388608
  S0 : 1 / 6 ≤ p + q
  S1 : p + q ≤ 4
  w1 : p + q - ((p + q) / 8388608 + 1 / 100000000000000000000) ≤ W
  w2 : W ≤ p + q + ((p + q) / 8388608 + 1 / 100000000000000000000)
theorem bw_of {u v t : FV} {x y τ : Rat} (hT : Tm t τ) (vu : Vl .f32 u x) (vv : Vl .f32 v y) (hx : 1 / 5 ≤ x ∧ x ≤ 3) (hy : 1 / 5 ≤ y ∧ y ≤ 3) : ∃ p q W, Bw u v t x y τ p q W := by
  have l := hT.lo
  have h := hT.hi
  have a1 := Rat.mul_nonneg (show 0 ≤ x - 1 / 5 by grind) (show 0 ≤ 1 - τ by grind)
  have a2 := Rat.mul_nonneg (show 0 ≤ 3 - x by grind) (show 0 ≤ 1 - τ by grind)
  have a3 := Rat.mul_nonneg (show 0 ≤ y - 1 / 5 by grind) l
  have a4 := Rat.mul_nonneg (show 0 ≤ 3 - y by grind) l
  obtain ⟨p, vp, rp, p1, p2⟩ := mulR vu hT.s 3 (by grind) (by grind) (by decide +kernel)
  obtain ⟨q, vq, rq, q1, q2⟩ := mulR vv hT.v 3 (by grind) (by grind) (by decide +kernel)
  have p0 := (rp.side 0 (rep_zero _)).2 (by grind)
  have q0 := (rq.side 0 (rep_zero _)).2 (by grind)
  obtain ⟨W, vW, rW, w1, w2⟩ := addR vp vq (p + q) (by grind) (by grind) (by grind)
  exact ⟨p, q, W, vp, vq, vW, p0, q0, by grind, by grind, by grind, by grind, by grind, by grind, w1, w2⟩
theorem blF_vl {a b u v t : FV} {x y τ α β p q W : Rat} (h : Bw u v t x y τ p q W) (va : Vl .f32 a α) (vb : Vl .f32 b β) (ha : -40 ≤ α ∧ α ≤ 40) (hb : -40 ≤ β ∧ β ≤ 40) :
    ∃ z, Vl .f32 (blF a b u v t) z ∧ (p * α + q * β) / (p + q) - 1 / 25000 ≤ z ∧ z ≤ (p * α + q * β) / (p + q) + 1 / 25000 := by
  have p0 := h.p0
  have q0 := h.q0
  have S0 := h.S0
  have S1 := h.S1
  have w1 := h.w1
  have w2 := h.w2
  have hS : p + q ≠ 0 := by grind
  obtain ⟨S, eS⟩ : ∃ S, S = p + q := ⟨_, rfl⟩
  rw [← eS] at S0 S1 w1 w2 hS ⊢
  have W0 : 1 / 7 ≤ W := by grind
  have hW : W ≠ 0 := by grind
  obtain ⟨I, eI⟩ : ∃ I, I = 1 / W := ⟨_, rfl⟩
  have hI : I * W = 1 := by rw [eI]; exact Rat.div_mul_cancel hW
  have I7 : I ≤ 7 := by rw [eI]; exact div_le_of (by grind) (by grind)
  have I0 : 0 ≤ I := by rw [eI]; exact le_div_of (by grind) (by grind)
  obtain ⟨R, vR, rR, r1, r2⟩ := divR one1_vl h.vW hW I (by rw [← eI]; grind) (by rw [← eI]; exact Rat.le_refl) (by grind)
  rw [← eI] at r1 r2 rR
  obtain ⟨c, ec⟩ : ∃ c, c = (p * α + q * β) / S := ⟨_, rfl⟩
  have hc : c * S = p * α + q * β := by rw [ec]; exact Rat.div_mul_cancel hS
  rw [← ec]
  have b1 := Rat.mul_nonneg p0 (show 0 ≤ 40 - α by grind)
  have b2 := Rat.mul_nonneg p0 (show 0 ≤ 40 + α by grind)
  have b3 := Rat.mul_nonneg q0 (show 0 ≤ 40 - β by grind)
  have b4 := Rat.mul_nonneg q0 (show 0 ≤ 40 + β by grind)
  have c1 : c ≤ 40 := by rw [ec]; exact div_le_of (by grind) (by grind)
  have c2 : -40 ≤ c := by rw [ec]; exact le_div_of (by grind) (by grind)
  obtain ⟨m1, vm1, _, m11, m12⟩ := mulR va h.vp (40 * p) (by grind) (by grind) (by grind)
  obtain ⟨m2, vm2, _, m21, m22⟩ := mulR vb h.vq (40 * q) (by grind) (by grind) (by grind)
  obtain ⟨s, vs, _, s1, s2⟩ := addR vm1 vm2 (40 * S + 1 / 1000) (by grind) (by grind) (by grind)
  clear p0 q0 b1 b2 b3 b4
  have d1 : s - c * S ≤ 81 / 8388608 * S := by grind
  have d2 : -(81 / 8388608 * S) ≤ s - c * S := by grind
  clear m11 m12 m21 m22 s1 s2 vm1 vm2
  have R0 : 0 ≤ R := (rR.side 0 (rep_zero _)).2 I0
  have R8 : R ≤ 8 := by grind
  -- R W is near 1
  have e1 := Rat.mul_le_mul_of_nonneg_right r1 (show 0 ≤ W by grind)
  have e2 := Rat.mul_le_mul_of_nonneg_right r2 (show 0 ≤ W by grind)
  have f1 := Rat.mul_le_mul_of_nonneg_left w1 R0
  have f2 := Rat.mul_le_mul_of_nonneg_left w2 R0
  obtain ⟨ρ, eρ⟩ : ∃ ρ, ρ = R * S := ⟨_, rfl⟩
  have ρ0 : 0 ≤ ρ := by rw [eρ]; exact Rat.mul_nonneg R0 (by grind)
  have g1 : R * W - 1 ≤ 2 / 8388608 := by grind
  have g2 : -(2 / 8388608) ≤ R * W - 1 := by grind
  have k1 : ρ ≤ 1 + 4 / 8388608 := by grind
  have k2 : 1 - 4 / 8388608 ≤ ρ := by grind
  clear e1 e2 f1 f2 g1 g2 r1 r2
  have n1 := Rat.mul_le_mul_of_nonneg_right d1 R0
  have n2 := Rat.mul_le_mul_of_nonneg_right d2 R0
  have n3 := mul_bnd (a := 40) (b := 4 / 8388608) c2 c1 (show -(4 / 8388608) ≤ ρ - 1 by grind) (show ρ - 1 ≤ 4 / 8388608 by grind)
  have n0 : s * R - c = (s - c * S) * R + c * (ρ - 1) := by rw [eρ]; grind
  have n4 : 81 / 8388608 * S * R = 81 / 8388608 * ρ := by rw [eρ]; grind
  have n5 : -(81 / 8388608 * S) * R = -(81 / 8388608 * ρ) := by rw [eρ]; grind
  rw [n4] at n1
  rw [n5] at n2
  obtain ⟨n3, n6⟩ := n3
  clear n4 n5 d1 d2
  have o1 : s * R - c ≤ 245 / 8388608 := by
    rw [n0]
    generalize (s - c * S) * R = A at n1 n2 ⊢
    generalize c * (ρ - 1) = B at n3 n6 ⊢
    clear n0
    grind
  have o2 : -(245 / 8388608) ≤ s * R - c := by
    rw [n0]
    generalize (s - c * S) * R = A at n1 n2 ⊢
    generalize c * (ρ - 1) = B at n3 n6 ⊢
    clear n0
    grind
  obtain ⟨z, vz, _, z1, z2⟩ := mulR vs vR 41 (by grind) (by grind) (by decide +kernel)
  exact ⟨z, vz, by grind, by grind⟩
/-- By how much a level leans on the next point. -/
def valR (x : FV) : Rat := match x with
  | none => 0
  | some b => match FloatKind.f32.decode b with
    | .number s m e => vl s m e
    | _ => 0
theorem Vl.valR {x : FV} {p : Rat} (h : Vl .f32 x p) : valR x = p := by
  obtain ⟨b, s, m, e, rfl, hd, rfl⟩ := h
  simp only [Go.Ab.valR, hd]
def lamQ (p q : Rat) : Rat := q / (p + q)
def lam (f : Int → FV) (t : FV) (k i : Nat) : Rat := lamQ (valR (fbin .mul .f32 (rowsW f t k i) (fbin .sub .f32 one1 t))) (valR (fbin .mul .f32 (rowsW f t k ((i : Int) + 1)) t))
/-- A level, by value. -/
def Cx (f : Int → FV) (t : FV) (x : Nat → Rat) : Nat → Nat → Rat
  | 0, i => x i
  | k + 1, i => (1 - lam f t k i) * Cx f t x k i + lam f t k i * Cx f t x k (i + 1)
/-- A level of coordinates. -/
def rowsF (X : Nat → FV) (f : Int → FV) (t : FV) : Nat → Nat → FV
  | 0, i => X i
  | k + 1, i => blF (rowsF X f t k i) (rowsF X f t k (i + 1)) (rowsW f t k i) (rowsW f t k ((i : Int) + 1)) t
theorem rowsP_1 (P : Nat → CV) (f : Int → FV) (t : FV) : ∀ k i, ((rowsP P f t k).1 i).1 = rowsF (fun i => (P i).1) f t k i
  | 0, i => rfl
  | k + 1, i => by
    show (rowP (rowsP P f t k).1 (rowsP P f t k).2 t i).1 = _
    unfold rowP
    rw [rowsP_w, blC_1, rowsP_1 P f t k i, rowsP_1 P f t k (i + 1)]
    rfl
theorem rowsP_2 (P : Nat → CV) (f : Int → FV) (t : FV) : ∀ k i, ((rowsP P f t k).1 i).2 = rowsF (fun i => (P i).2) f t k i
  | 0, i => rfl
  | k + 1, i => by
    show (rowP (rowsP P f t k).1 (rowsP P f t k).2 t i).2 = _
    unfold rowP
    rw [rowsP_w, blC_2, rowsP_2 P f t k i, rowsP_2 P f t k (i + 1)]
    rfl
/-- Weights between a quarter and two. -/
def Wts (f : Int → FV) (n : Nat) : Prop := ∀ i : Nat, i < n → ∃ r, Vl .f32 (f i) r ∧ 1 / 4 ≤ r ∧ r ≤ 2
theorem rowsW_vl {f : Int → FV} {n : Nat} {t : FV} {τ : Rat} (hf : Wts f n) (hT : Tm t τ) : ∀ (k : Nat), k < 8 → ∀ i : Nat, i + k < n → ∃ r, Vl .f32 (rowsW f t k i) r ∧ 1 / 4 - (k : Rat) / 100000 ≤ r ∧ r ≤ 2 + (k : Rat) / 100000
  | 0, _, i, hi => by
    obtain ⟨r, vr, h1, h2⟩ := hf i (by omega)
    refine ⟨r, vr, ?_, ?_⟩
    · rw [show ((0 : Nat) : Rat) = 0 from rfl]
      grind
    · rw [show ((0 : Nat) : Rat) = 0 from rfl]
      grind
  | k + 1, hk, i, hi => by
    obtain ⟨x, vx, x1, x2⟩ := rowsW_vl hf hT k (by omega) i (by omega)
    obtain ⟨y, vy, y1, y2⟩ := rowsW_vl hf hT k (by omega) (i + 1) (by omega)
    rw [show ((i + 1 : Nat) : Int) = (i : Int) + 1 by omega] at vy
    have hk8 : (k : Rat) ≤ 8 := by
      have := Rat.natCast_le_natCast.2 (show k ≤ 8 by omega)
      exact this
    have ek : ((k + 1 : Nat) : Rat) = (k : Rat) + 1 := Rat.natCast_add k 1
    rw [ek]
    obtain ⟨p, q, W, h⟩ := bw_of hT vx vy (by constructor <;> grind) (by constructor <;> grind)
    refine ⟨W, h.vW, ?_, ?_⟩
    · have a1 := Rat.mul_nonneg (show 0 ≤ x - (1 / 4 - (k : Rat) / 100000) by grind) (show 0 ≤ 1 - τ by have := hT.hi; grind)
      have a2 := Rat.mul_nonneg (show 0 ≤ y - (1 / 4 - (k : Rat) / 100000) by grind) hT.lo
      have := h.w1
      have := h.p1
      have := h.q1
      have := h.S1
      grind
    · have a1 := Rat.mul_nonneg (show 0 ≤ 2 + (k : Rat) / 100000 - x by grind) (show 0 ≤ 1 - τ by have := hT.hi; grind)
      have a2 := Rat.mul_nonneg (show 0 ≤ 2 + (k : Rat) / 100000 - y by grind) hT.lo
      have := h.w2
      have := h.p2
      have := h.q2
      have := h.S1
      grind
/-- What a level's two weights make. -/
theorem rowsW_bw {f : Int → FV} {n : Nat} {t : FV} {τ : Rat} (hf : Wts f n) (hT : Tm t τ) {k i : Nat} (hk : k < 8) (hi : i + k + 1 < n) :
    ∃ x y p q W, Bw (rowsW f t k i) (rowsW f t k ((i : Int) + 1)) t x y τ p q W ∧ lam f t k i = q / (p + q) ∧ 0 ≤ lam f t k i ∧ lam f t k i ≤ 1 := by
  obtain ⟨x, vx, x1, x2⟩ := rowsW_vl hf hT k (by omega) i (by omega)
  obtain ⟨y, vy, y1, y2⟩ := rowsW_vl hf hT k (by omega) (i + 1) (by omega)
  rw [show ((i + 1 : Nat) : Int) = (i : Int) + 1 by omega] at vy
  have hk8 : (k : Rat) ≤ 8 := by
    have := Rat.natCast_le_natCast.2 (show k ≤ 8 by omega)
    exact this
  obtain ⟨p, q, W, h⟩ := bw_of hT vx vy (by constructor <;> grind) (by constructor <;> grind)
  have e : lam f t k i = q / (p + q) := by
    unfold lam lamQ
    rw [h.vp.valR, h.vq.valR]
  have S0 := h.S0
  have p0 := h.p0
  have q0 := h.q0
  refine ⟨x, y, p, q, W, h, e, ?_, ?_⟩
  · rw [e]
    exact le_div_of (by grind) (by grind)
  · rw [e]
    exact div_le_of (by grind) (by grind)
/-- A mean of two. -/
theorem mean_bnd {l a b B : Rat} (h0 : 0 ≤ l) (h1 : l ≤ 1) (ha : -B ≤ a ∧ a ≤ B) (hb : -B ≤ b ∧ b ≤ B) : -B ≤ (1 - l) * a + l * b ∧ (1 - l) * a + l * b ≤ B := by
  have a1 := Rat.mul_nonneg (show 0 ≤ 1 - l by grind) (show 0 ≤ B - a by grind)
  have a2 := Rat.mul_nonneg (show 0 ≤ 1 - l by grind) (show 0 ≤ B + a by grind)
  have a3 := Rat.mul_nonneg h0 (show 0 ≤ B - b by grind)
  have a4 := Rat.mul_nonneg h0 (show 0 ≤ B + b by grind)
  constructor <;> grind
section
variable {f : Int → FV} {n : Nat} {t : FV} {τ : Rat}
theorem cx_near (hf : Wts f n) (hT : Tm t τ) {x y : Nat → Rat} {B : Rat} (h : ∀ i, i < n → -B ≤ x i - y i ∧ x i - y i ≤ B) : ∀ (k : Nat), k ≤ 8 → ∀ i, i + k < n → -B ≤ Cx f t x k i - Cx f t y k i ∧ Cx f t x k i - Cx f t y k i ≤ B
  | 0, _, i, hi => h i (by omega)
  | k + 1, hk, i, hi => by
    obtain ⟨_, _, _, _, _, _, _, l0, l1⟩ := rowsW_bw hf hT (k := k) (i := i) (by omega) (by omega)
    have h1 := cx_near hf hT h k (by omega) i (by omega)
    have h2 := cx_near hf hT h k (by omega) (i + 1) (by omega)
    have h3 := mean_bnd l0 l1 h1 h2
    unfold Cx
    constructor <;> grind
theorem cx_zero : ∀ (k i : Nat), Cx f t (fun _ => 0) k i = 0
  | 0, i => rfl
  | k + 1, i => by
    unfold Cx
    rw [cx_zero k i, cx_zero k (i + 1)]
    grind
theorem cx_bnd (hf : Wts f n) (hT : Tm t τ) {x : Nat → Rat} {B : Rat} (h : ∀ i, i < n → -B ≤ x i ∧ x i ≤ B) (k : Nat) (hk : k ≤ 8) (i : Nat) (hi : i + k < n) : -B ≤ Cx f t x k i ∧ Cx f t x k i ≤ B := by
  have := cx_near hf hT (x := x) (y := fun _ => 0) (B := B) (fun i hi => by have := h i hi; constructor <;> grind) k hk i hi
  rw [cx_zero] at this
  constructor <;> grind
/-- A level of coordinates is what it is by value, nearly. -/
theorem rows_cx (hf : Wts f n) (hT : Tm t τ) {X : Nat → FV} {x : Nat → Rat} (hX : ∀ i, i < n → Vl .f32 (X i) (x i)) (h : ∀ i, i < n → -39 ≤ x i ∧ x i ≤ 39) : ∀ (k : Nat), k ≤ 8 → ∀ i, i + k < n → ∃ r, Vl .f32 (rowsF X f t k i) r ∧ -((k : Rat) / 25000) ≤ r - Cx f t x k i ∧ r - Cx f t x k i ≤ (k : Rat) / 25000
  | 0, _, i, hi => ⟨x i, hX i (by omega), by
      show -(((0 : Nat) : Rat) / 25000) ≤ x i - x i
      rw [show ((0 : Nat) : Rat) = 0 from rfl]
      grind, by
      show x i - x i ≤ ((0 : Nat) : Rat) / 25000
      rw [show ((0 : Nat) : Rat) = 0 from rfl]
      grind⟩
  | k + 1, hk, i, hi => by
    obtain ⟨x', y', p, q, W, hB, el, l0, l1⟩ := rowsW_bw hf hT (k := k) (i := i) (by omega) (by omega)
    obtain ⟨a, va, a1, a2⟩ := rows_cx hf hT hX h k (by omega) i (by omega)
    obtain ⟨b, vb, b1, b2⟩ := rows_cx hf hT hX h k (by omega) (i + 1) (by omega)
    obtain ⟨ca, ca'⟩ := cx_bnd hf hT h k (by omega) i (by omega)
    obtain ⟨cb, cb'⟩ := cx_bnd hf hT h k (by omega) (i + 1) (by omega)
    have hk8 : (k : Rat) ≤ 8 := by
      have := Rat.natCast_le_natCast.2 (show k ≤ 8 by omega)
      exact this
    have ek : ((k + 1 : Nat) : Rat) = (k : Rat) + 1 := Rat.natCast_add k 1
    rw [ek]
    obtain ⟨z, vz, z1, z2⟩ := blF_vl hB va vb (by constructor <;> grind) (by constructor <;> grind)
    have S0 := hB.S0
    have hS : p + q ≠ 0 := by grind
    have e1 : (p * a + q * b) / (p + q) = (1 - lam f t k i) * a + lam f t k i * b := by
      rw [el]
      have e2 : q / (p + q) * (p + q) = q := Rat.div_mul_cancel hS
      have e3 : (p * a + q * b) / (p + q) * (p + q) = p * a + q * b := Rat.div_mul_cancel hS
      have e4 : ((1 - q / (p + q)) * a + q / (p + q) * b) * (p + q) = p * a + q * b := by
        generalize q / (p + q) = l at e2 ⊢
        grind
      have e5 : ((p * a + q * b) / (p + q)) * (p + q) = ((1 - q / (p + q)) * a + q / (p + q) * b) * (p + q) := by rw [e3, e4]
      have e6 := congrArg (· / (p + q)) e5
      simp only [Rat.mul_div_cancel hS] at e6
      exact e6
    rw [e1] at z1 z2
    have m := mean_bnd l0 l1 (a := a - Cx f t x k i) (b := b - Cx f t x k (i + 1)) ⟨a1, a2⟩ ⟨b1, b2⟩
    refine ⟨z, vz, ?_, ?_⟩
    · unfold Cx
      grind
    · unfold Cx
      grind
end
end Go.Ab
namespace Go.Ab
section
variable {f g : Int → FV} {n : Nat} {t : FV} {τ : Rat}
/-- The weights of a curve that has none of its own. -/
theorem wts_one (n : Nat) : Wts (fun _ => one1) n := fun i _ => ⟨1, one1_vl, by grind, by grind⟩
theorem rowsW_one (hT : Tm t τ) : ∀ (k : Nat) (i : Int), Vl .f32 (rowsW (fun _ => one1) t k i) 1
  | 0, i => one1_vl
  | k + 1, i => by
    have h1 := rowsW_one hT k i
    have h2 := rowsW_one hT k (i + 1)
    have l := hT.lo
    have u := hT.hi
    have b := p24_big
    show Vl .f32 (blW (rowsW (fun _ => one1) t k i) (rowsW (fun _ => one1) t k (i + 1)) t) 1
    obtain ⟨r, vr, rr⟩ := vl_add (one_mul_ex h1 hT.s (fit_24 (by grind) (by grind))) (one_mul_ex h2 hT.v (fit_24 (by grind) (by grind))) (fit_24 (by grind) (by grind))
    rw [show 1 - τ + τ = 1 by grind] at rr
    rw [rnd_rep rr (vl_rep one1_vl)] at vr
    exact vr
theorem lam_one (hT : Tm t τ) (k i : Nat) : lam (fun _ => one1) t k i = τ := by
  have h1 := rowsW_one hT k i
  have h2 := rowsW_one hT k ((i : Int) + 1)
  have l := hT.lo
  have u := hT.hi
  have b := p24_big
  unfold lam lamQ
  rw [(one_mul_ex h1 hT.s (fit_24 (by grind) (by grind))).valR, (one_mul_ex h2 hT.v (fit_24 (by grind) (by grind))).valR, show 1 - τ + τ = 1 by grind]
  grind
/-- Points by value. -/
structure Pv (n : Nat) (P : Nat → CV) (x y : Nat → Rat) (B : Rat) : Prop where
  vx : ∀ i, i < n → Vl .f32 (P i).1 (x i)
  vy : ∀ i, i < n → Vl .f32 (P i).2 (y i)
  bx : ∀ i, i < n → -B ≤ x i ∧ x i ≤ B
  by_ : ∀ i, i < n → -B ≤ y i ∧ y i ≤ B
theorem k_le {k m : Nat} (h : k ≤ m) : (k : Rat) ≤ (m : Rat) := Rat.natCast_le_natCast.2 h
theorem coord_vl (hf : Wts f n) (hT : Tm t τ) {X : Nat → FV} {x : Nat → Rat} (hn : 2 ≤ n ∧ n ≤ 5) (hX : ∀ i, i < n → Vl .f32 (X i) (x i)) (h : ∀ i, i < n → -39 ≤ x i ∧ x i ≤ 39) : ∃ r, Vl .f32 (rowsF X f t (n - 1) 0) r ∧ -(4 / 25000) ≤ r - Cx f t x (n - 1) 0 ∧ r - Cx f t x (n - 1) 0 ≤ 4 / 25000 := by
  obtain ⟨r, vr, r1, r2⟩ := rows_cx hf hT hX h (n - 1) (by omega) 0 (by omega)
  have := k_le (show n - 1 ≤ 4 by omega)
  have e4 : ((4 : Nat) : Rat) = 4 := rfl
  exact ⟨r, vr, by grind, by grind⟩
theorem point_vl (hf : Wts f n) (hT : Tm t τ) {P : Nat → CV} {x y : Nat → Rat} {B : Rat} (hB : B ≤ 39) (hn : 2 ≤ n ∧ n ≤ 5) (h : Pv n P x y B) :
    ∃ u v, Vl .f32 (pointP n P f t).1 u ∧ Vl .f32 (pointP n P f t).2 v ∧ (-(4 / 25000) ≤ u - Cx f t x (n - 1) 0 ∧ u - Cx f t x (n - 1) 0 ≤ 4 / 25000) ∧ (-(4 / 25000) ≤ v - Cx f t y (n - 1) 0 ∧ v - Cx f t y (n - 1) 0 ≤ 4 / 25000) := by
  obtain ⟨u, vu, u1, u2⟩ := coord_vl hf hT hn h.vx (fun i hi => by have := h.bx i hi; constructor <;> grind)
  obtain ⟨v, vv, v1, v2⟩ := coord_vl hf hT hn h.vy (fun i hi => by have := h.by_ i hi; constructor <;> grind)
  refine ⟨u, v, ?_, ?_, ⟨u1, u2⟩, ⟨v1, v2⟩⟩
  · unfold pointP
    rw [rowsP_1]
    exact vu
  · unfold pointP
    rw [rowsP_2]
    exact vv
end
end Go.Ab
namespace Go.Ab
def allLt (p : Nat → Bool) : Nat → Bool
  | 0 => true
  | n + 1 => p n && allLt p n
theorem allLt_of {p : Nat → Bool} : ∀ {n : Nat}, allLt p n = true → ∀ m, m < n → p m = true
  | n + 1, h, m, hm => by
    simp only [allLt, Bool.and_eq_true] at h
    rcases Nat.lt_or_ge m n with h1 | h1
    · exact allLt_of h.2 m h1
    · obtain rfl : m = n := by omega
      exact h.1
/-- Whether a float is a number. -/
def isNum (x : FV) : Bool := match x with
  | none => false
  | some b => match FloatKind.f32.decode b with
    | .number _ _ _ => true
    | _ => false
theorem isNum_vl {x : FV} (h : isNum x = true) : Vl .f32 x (valR x) := by
  unfold isNum at h
  unfold valR
  split at h
  · cases h
  · rename_i b
    split at h
    · rename_i s m e hd
      refine ⟨b, s, m, e, rfl, hd, ?_⟩
      simp only [hd]
    · cases h
def tmB (t : FV) (τ : Rat) : Bool := isNum t && isNum (fbin .sub .f32 one1 t) && decide (valR t = τ) && decide (valR (fbin .sub .f32 one1 t) = 1 - τ) && decide (0 ≤ τ) && decide (τ ≤ 1)
theorem tm_of {t : FV} {τ : Rat} (h : tmB t τ = true) : Tm t τ := by
  unfold tmB at h
  simp only [Bool.and_eq_true, decide_eq_true_eq] at h
  obtain ⟨⟨⟨⟨⟨h1, h2⟩, h3⟩, h4⟩, h5⟩, h6⟩ := h
  exact ⟨h3 ▸ isNum_vl h1, h4 ▸ isNum_vl h2, h5, h6⟩
def quR (a : Nat → Int) (i : Nat) : Rat := ((a i : Int) : Rat) / 4
theorem int_rat_bd {a : Int} {B : Nat} (h : -(B : Int) ≤ a ∧ a ≤ B) : -(B : Rat) ≤ (a : Rat) ∧ (a : Rat) ≤ (B : Rat) := by
  have h1 := Rat.intCast_le_intCast.2 h.1
  have h2 := Rat.intCast_le_intCast.2 h.2
  rw [Rat.intCast_neg] at h1
  exact ⟨h1, h2⟩
theorem rnd_64 {q r : Rat} (h : Rnd .f64 q r) (a : Rat) (h1 : -a ≤ q) (h2 : q ≤ a) : q - (a / 1000000000000 + 1 / 1000000000000) ≤ r ∧ r ≤ q + (a / 1000000000000 + 1 / 1000000000000) := by
  have h3 := h.near a h1 h2
  have e1 : feps .f64 ≤ 1 / 1000000000000 := by decide +kernel
  have e2 : ftiny .f64 ≤ 1 / 1000000000000 := by decide +kernel
  obtain ⟨h4, h5⟩ := h3
  have h6 := Rat.mul_le_mul_of_nonneg_left e1 (show 0 ≤ a by grind)
  constructor <;> grind
theorem fit_64 {a q : Rat} (h1 : -a ≤ q) (h2 : q ≤ a) (h3 : a ≤ 16000000) : Fit .f64 q := by
  have : (16000000 : Rat) < p2 (ftop .f64) := by decide +kernel
  constructor <;> grind
end Go.Ab
namespace Go.Ab
theorem finC_vl {p : CV} {x y : Rat} (hx : Vl .f32 p.1 x) (hy : Vl .f32 p.2 y) : finC p = true := by
  unfold finC finB
  rw [vl_fin hx, vl_fin hy]
  rfl
/-- Near a point. -/
def Nea (p : CV) (x y E : Rat) : Prop := ∃ u v, Vl .f32 p.1 u ∧ Vl .f32 p.2 v ∧ (-E ≤ u - x ∧ u - x ≤ E) ∧ (-E ≤ v - y ∧ v - y ≤ E)
theorem Nea.fin {p : CV} {x y E : Rat} (h : Nea p x y E) : finC p = true := by
  obtain ⟨u, v, vu, vv, _⟩ := h
  exact finC_vl vu vv
theorem Pv.fin {n : Nat} {P : Nat → CV} {x y : Nat → Rat} {B : Rat} (h : Pv n P x y B) : (tabC n P).all finC = true := by
  unfold tabC
  rw [List.all_eq_true]
  intro p hp
  obtain ⟨i, hi, rfl⟩ := List.mem_map.1 hp
  have := List.mem_range.1 hi
  exact finC_vl (h.vx i this) (h.vy i this)
theorem zvl (k : FloatKind) : Vl k (fv k 0) 0 := by cases k <;> exact Vl.c (by decide +kernel)
theorem above_vl {x : FV} {r : Rat} (h : Vl .f32 x r) (h0 : 0 < r) : aboveB x = true := by
  unfold aboveB finB
  rw [vl_fin h, vl_gtr h (zvl .f32), decide_eq_true h0]
  rfl
theorem Wts.above {f : Int → FV} {n : Nat} (h : Wts f n) : (tab n f).all aboveB = true := by
  unfold tab
  rw [List.all_eq_true]
  intro p hp
  obtain ⟨i, hi, rfl⟩ := List.mem_map.1 hp
  obtain ⟨r, vr, h1, _⟩ := h i (List.mem_range.1 hi)
  exact above_vl vr (by grind)
end Go.Ab
namespace Go.Ab
section
variable {f : Int → FV} {n : Nat} {t : FV} {τ : Rat}
theorem cx_bound (hf : Wts f n) (hT : Tm t τ) {x : Nat → Rat} {B : Rat} (hn : 2 ≤ n ∧ n ≤ 5) (h : ∀ i, i < n → -B ≤ x i ∧ x i ≤ B) : -B ≤ Cx f t x (n - 1) 0 ∧ Cx f t x (n - 1) 0 ≤ B := cx_bnd hf hT h (n - 1) (by omega) 0 (by omega)
theorem point_nea (hf : Wts f n) (hT : Tm t τ) {P : Nat → CV} {x y : Nat → Rat} {B : Rat} (hB : B ≤ 39) (hn : 2 ≤ n ∧ n ≤ 5) (h : Pv n P x y B) : Nea (pointP n P f t) (Cx f t x (n - 1) 0) (Cx f t y (n - 1) 0) (4 / 25000) := point_vl hf hT hB hn h
def c05 : FV := fv .f64 4587366580439587226
def two64 : FV := fv .f64 4611686018427387904
theorem two64_vl : Vl .f64 two64 2 := Vl.c (by decide +kernel)
end
end Go.Ab
namespace Go.Ab
structure DqOk (n : Nat) (P : Nat → CV) (a b : Nat → Int) : Prop where
  q : ∀ i, i < n → P i = (qtF (a i), qtF (b i))
  a : ∀ i, i < n → 4 * (i : Int) ≤ a i ∧ a i ≤ 4 * (i : Int) + 3
  b : ∀ i, i < n → -8 ≤ b i ∧ b i ≤ 8
/-- Eighths. -/
def te (m : Int) : FV := fbin .quo .f32 (some (FloatKind.f32.nearest m)) (fv .f32 1090519040)
section
variable {n : Nat} {P : Nat → CV} {a b : Nat → Int} {t : FV} {τ : Rat}
theorem DqOk.pv (h : DqOk n P a b) (hn : 2 ≤ n ∧ n ≤ 5) : Pv n P (quR a) (quR b) 5 := by
  have key : ∀ z : Int, -19 ≤ z → z ≤ 19 → Vl .f32 (qtF z) ((z : Rat) / 4) ∧ -5 ≤ (z : Rat) / 4 ∧ (z : Rat) / 4 ≤ 5 := fun z h1 h2 => by
    have := int_rat_bd (a := z) (B := 19) ⟨by omega, by omega⟩
    have e : ((19 : Nat) : Rat) = 19 := rfl
    exact ⟨quarter_vl (by omega), by grind, by grind⟩
  have ha : ∀ i, i < n → -19 ≤ a i ∧ a i ≤ 19 := fun i hi => by have := h.a i hi; omega
  have hb : ∀ i, i < n → -19 ≤ b i ∧ b i ≤ 19 := fun i hi => by have := h.b i hi; omega
  refine ⟨fun i hi => ?_, fun i hi => ?_, fun i hi => (key _ (ha i hi).1 (ha i hi).2).2, fun i hi => (key _ (hb i hi).1 (hb i hi).2).2⟩
  · rw [h.q i hi]; exact (key _ (ha i hi).1 (ha i hi).2).1
  · rw [h.q i hi]; exact (key _ (hb i hi).1 (hb i hi).2).1
end
end Go.Ab
namespace Go.Ab
def hfT : FV := fv .f32 1056964608
/-- The middle of two points, as it is reckoned. -/
def hbC (a b : CV) : CV := scaleC (addC2 (scaleC a hfT) (scaleC b hfT)) one1
def hrow (P : Nat → CV) : Nat → Nat → CV
  | 0 => P
  | k + 1 => fun i => hbC (hrow P k i) (hrow P k (i + 1))
def leftP (P : Nat → CV) (k : Nat) : CV := hrow P k 0
def rightP (n : Nat) (P : Nat → CV) (k : Nat) : CV := hrow P (n - 1 - k) k
theorem hf_u : fbin .mul .f32 one1 (fbin .sub .f32 one1 hfT) = hfT ∧ fbin .mul .f32 one1 hfT = hfT ∧ blW one1 one1 hfT = one1 ∧ fbin .quo .f32 one1 one1 = one1 := by decide +kernel
theorem blC_half (a b : CV) : blC a b one1 one1 hfT = hbC a b := by
  obtain ⟨h1, h2, h3, h4⟩ := hf_u
  unfold blC hbC
  rw [h3, h1, h2, h4]
theorem rows_half (P : Nat → CV) : ∀ k, rowsP P (fun _ => one1) hfT k = (hrow P k, fun _ => one1)
  | 0 => rfl
  | k + 1 => by
    have h := rows_half P k
    show (rowP (rowsP P (fun _ => one1) hfT k).1 (rowsP P (fun _ => one1) hfT k).2 hfT, rowW (rowsP P (fun _ => one1) hfT k).2 hfT) = _
    rw [h]
    refine Prod.ext ?_ ?_
    · funext i
      exact blC_half _ _
    · funext i
      exact hf_u.2.2.1
def tmF (j : Nat) (i : Int) : FV := fbin .quo .f32 (some (FloatKind.f32.nearest i)) (some (FloatKind.f32.nearest ((2 ^ j : Nat) : Int)))
/-- What the programs ask of the times of a part. -/
def tmOk (j i : Nat) : Bool :=
  decide (fbin .quo .f32 (fbin .add .f32 (tmF j i) (tmF j ((i : Int) + 1))) (fv .f32 1073741824) = tmF (j + 1) (2 * (i : Int) + 1)) &&
  decide (fbin .mul .f32 (fv .f32 1056964608) (fbin .add .f32 (tmF j i) (tmF j ((i : Int) + 1))) = tmF (j + 1) (2 * (i : Int) + 1)) &&
  decide (tmF (j + 1) (2 * (i : Int)) = tmF j i) && decide (fbin .sub .f32 (tmF j ((i : Int) + 1)) (tmF j i) = tmF j 1) &&
  tmB (tmF (j + 1) (2 * (i : Int) + 1)) (((2 * i + 1 : Nat) : Rat) / ((2 ^ (j + 1) : Nat) : Rat)) && tmB (tmF j i) ((i : Rat) / ((2 ^ j : Nat) : Rat))
theorem tm_all : allLt (fun j => allLt (fun i => tmOk j i) (2 ^ j)) 9 = true := by decide +kernel
structure TmP (j i : Nat) : Prop where
  mid : fbin .quo .f32 (fbin .add .f32 (tmF j i) (tmF j ((i : Int) + 1))) (fv .f32 1073741824) = tmF (j + 1) (2 * (i : Int) + 1)
  mid' : fbin .mul .f32 (fv .f32 1056964608) (fbin .add .f32 (tmF j i) (tmF j ((i : Int) + 1))) = tmF (j + 1) (2 * (i : Int) + 1)
  low : tmF (j + 1) (2 * (i : Int)) = tmF j i
  high : tmF (j + 1) (2 * (i : Int) + 2) = tmF j ((i : Int) + 1)
  long : fbin .sub .f32 (tmF j ((i : Int) + 1)) (tmF j i) = tmF j 1
  tm : Tm (tmF (j + 1) (2 * (i : Int) + 1)) (((2 * i + 1 : Nat) : Rat) / ((2 ^ (j + 1) : Nat) : Rat))
theorem tm_high : allLt (fun j => allLt (fun i => decide (tmF (j + 1) (2 * (i : Int) + 2) = tmF j ((i : Int) + 1))) (2 ^ j)) 9 = true := by decide +kernel
theorem tmP {j i : Nat} (hj : j < 9) (hi : i < 2 ^ j) : TmP j i := by
  have h := allLt_of (allLt_of tm_all j hj) i hi
  have h2 := allLt_of (allLt_of tm_high j hj) i hi
  unfold tmOk at h
  simp only [Bool.and_eq_true, decide_eq_true_eq] at h h2
  obtain ⟨⟨⟨⟨⟨h1, h3⟩, h4⟩, h5⟩, h6⟩, _⟩ := h
  exact ⟨h1, h3, h4, h2, h5, tm_of h6⟩
end Go.Ab
namespace Go.Ab
open Go.Proofs
section
variable {P : Program} {S : World → Prop} {e : Env} {dst : Option Tmp} {ty : TypeId} {pos : String} {after : Array Edge} {guard : Option (Nat × Bool)} {w0 : World} {gs : List Nat} {H : List Ent} {R : World → Prop} [RStab R]
theorem effj_storeAG (k : Nat) {en : Ent} {i : Nat} {t : TypeId} {z : Value} {sz b : Nat} [hi : TyI P t z sz b] {A X : Operand} {ys : List AV} (hA : e.ev A = some (.raw (.pointer (some ⟨en.g, i, none⟩)))) (hx : e.ev X = some (.agg ys)) (h1 : OneL ys) (hs : AV.stillL ys = true)
    (hH : H[k]? = some en) (hl : ys.length = sz) (hi' : i + sz ≤ en.xs.length) (hc : en.xs.length = en.csz) :
    EffJ P (StR R w0 gs H) (StR R w0 gs (H.set k { en with xs := splice i ys en.xs })) e ⟨none, .store t A X, ty, pos, after, none⟩ := by
  intro a w K Q hS ho hK
  have h2 := (ho A (by simp [Op.operands]) _ hA).inv_raw
  obtain ⟨vs, hv, hr⟩ := (ho X (by simp [Op.operands]) _ hx).inv_agg
  have hvl : vs.length = sz := by rw [hr.length, hl]
  have hmem : en ∈ H := List.mem_of_getElem? hH
  obtain ⟨cur, hb, hcs, hcx⟩ := (hS.own en hmem).2
  have hone : ∀ v ∈ vs, v.oneCell' = true := fun v hv' => by
    obtain ⟨j, hj⟩ := List.mem_iff_getElem?.1 hv'
    have hjl : j < ys.length := by rw [← hr.length]; exact (List.getElem?_eq_some_iff.1 hj).1
    obtain ⟨u, hu, hru⟩ := hr.get (List.getElem?_eq_getElem hjl)
    rw [hj] at hu; cases hu
    exact h1 _ (List.getElem_mem _) _ _ hru
  have hst := run_storeCells_at (P := P) en.g i en.T vs 0 cur w hb (by omega) hone
  have hrun : (execOp a.eval ⟨none, .store t A X, ty, pos, after, none⟩).run P w = .ok .skip (w.setRow en.g (cur.toList.take (i + 0) ++ vs ++ cur.toList.drop (i + 0 + vs.length)).toArray) := by
    have hcs' : (Value.agg vs.toArray).cells = vs.toArray := rfl
    simp [execOp, h2, hv, Instr.storeAt, Instr.sureAddr, storeVar, run_size hi, hcs', hvl, hst]
  simp only [Nat.add_zero] at hrun
  unfold Oper.wp
  rw [hrun]
  have hrow : ((w.setRow en.g (cur.toList.take i ++ vs ++ cur.toList.drop (i + vs.length)).toArray)).heap[en.g]? = some (.cells (cur.toList.take i ++ vs ++ cur.toList.drop (i + vs.length)).toArray en.T (0, 0)) := setRow_heap w en.g cur _ en.T _ hb
  have hto : (cur.toList.take i).length = i := by simp; omega
  have hto' : (en.xs.take i).length = i := by simp; omega
  refine hK _ (hS.updAt (e' := { en with xs := splice i ys en.xs }) hH ?_ (.inl rfl) ?_)
  · refine ⟨rfl, rfl, rfl, by simp, fun k _ hk => setRow_other w en.g k _ (fun e => hk (by simp [e]))⟩
  · refine ⟨_, hrow, ?_, fun j x hj => ?_⟩
    · simp only [List.size_toArray, List.length_append, List.length_drop, hto, Array.length_toList, hvl]; omega
    · simp only [splice] at hj
      simp only [List.getElem?_toArray]
      rcases Nat.lt_or_ge j i with h | h
      · rw [List.append_assoc, List.getElem?_append_left (by omega), List.getElem?_take, if_pos h] at hj
        obtain ⟨u, hu, hev⟩ := hcx j x hj
        exact ⟨u, by rw [List.append_assoc, List.getElem?_append_left (by omega), List.getElem?_take, if_pos h]; simpa using hu, hev⟩
      · rcases Nat.lt_or_ge j (i + sz) with h' | h'
        · rw [List.append_assoc, List.getElem?_append_right (by omega), hto', List.getElem?_append_left (by omega)] at hj
          obtain ⟨u, hu, hru⟩ := hr.get hj
          refine ⟨u, ?_, hru.ev (still_mem hs x (List.mem_of_getElem? hj))⟩
          rw [List.append_assoc, List.getElem?_append_right (by omega), hto, List.getElem?_append_left (by omega)]
          exact hu
        · rw [List.getElem?_append_right (by simp; omega), List.getElem?_drop] at hj
          have e1 : i + ys.length + (j - (en.xs.take i ++ ys).length) = j := by simp; omega
          rw [e1] at hj
          obtain ⟨u, hu, hev⟩ := hcx j x hj
          refine ⟨u, ?_, hev⟩
          rw [List.getElem?_append_right (by simp; omega), List.getElem?_drop]
          have e2 : i + vs.length + (j - (cur.toList.take i ++ vs).length) = j := by simp; omega
          rw [e2]
          simpa using hu
theorem effj_storeAX (k : Nat) {g i c : Nat} {T : TypeId} {xs zs : List AV} {t : TypeId} {z : Value} {sz b : Nat} [hi : TyI P t z sz b] {A X : Operand} {ys : List AV} (hA : e.ev A = some (.raw (.pointer (some ⟨g, i, none⟩)))) (hx : e.ev X = some (.agg ys)) (h1 : ys.all AV.one = true) (hs : AV.stillL ys = true)
    (hH : H[k]? = some ⟨g, T, xs, c⟩) (hl : ys.length = sz) (hi' : Nat.ble (i + sz) xs.length = true) (hc : xs.length = c) (hz : splice i ys xs = zs) :
    EffJ P (StR R w0 gs H) (StR R w0 gs (H.set k ⟨g, T, zs, c⟩)) e ⟨none, .store t A X, ty, pos, after, none⟩ := by
  subst hz
  exact effj_storeAG k (en := ⟨g, T, xs, c⟩) hA hx (oneL_of h1) hs hH hl (Nat.le_of_ble_eq_true hi') hc
end
end Go.Ab
namespace Go.Ab
open Go.Proofs
variable {R : World → Prop} [RStab R]
def oneF (_ : Int) : FV := one1
section
variable {P : Program} {N : Nat} {e : Env} {w0 : World} {gs : List Nat} {H : List Ent}
theorem done_ret0 {R0 : World → Prop} {X : Type} {mk : X → AV} {post : X → List Ent} {good : X → Prop} {fn : Func} {x : Exit} (hx : x = .ret ∨ x = .normal) (hr : fn.results = #[]) (y : X) (hmk : mk y = .tup []) (hy : good y) (hs : (post y).Sublist H) :
    Done x e (StR R0 w0 gs H) (Ret P fn N w0 gs mk post good) := fun w hw =>
  ⟨hx, y, hy, hw.mod, fun x hx => ⟨(hw.own x (hs.subset hx)).2, (hw.own x (hs.subset hx)).1⟩, (hw.weak hs).nodup, fun a hF => by
    refine ⟨.tuple #[], ?_, by rw [hmk]; exact .tup (vs := []) .nil⟩
    simp [results, hr]⟩
end
theorem entC_storeC {n : Nat} {f h : Nat → CV} {i : Nat} {x : CV} (hi : i < n) (hx : h i = x) (hg : ∀ t, t < n → t ≠ i → h t = f t) : ((tabC n f).map cA).set i (cA x) = (tabC n h).map cA := by
  rw [← List.map_set, tabC_set hi hx hg]
theorem tab_one_set (n i : Nat) : ((tab n oneF).map (AV.f .f32)).set i (.f .f32 one1) = (tab n oneF).map (AV.f .f32) := by
  refine List.ext_getElem? fun j => ?_
  rw [List.getElem?_set]
  split
  · rename_i h
    subst h
    split
    · rename_i hl
      have hl' : i < n := by simpa using hl
      rw [List.getElem?_map, tab_get oneF hl']
      rfl
    · rename_i hl
      rw [List.getElem?_eq_none (by omega)]
  · rfl
def swpC (n : Nat) (f : Nat → CV) (k i : Nat) : CV := if i < k ∨ n - 1 - k < i then f (n - 1 - i) else f i
def putR (i : Nat) (x : CV) (f : Nat → CV) (t : Nat) : CV := if t = i then x else f t
def turC (n : Nat) (f : Nat → CV) (i : Nat) : CV := f (n - 1 - i)
attribute [local irreducible] WS RS Done OpJ Then InBlock Round Ret Env.sub FnH
attribute [local irreducible] tab tabC
set_option maxRecDepth 100000 in
theorem revC_fn (g n c : Nat) (f : Nat → CV) (hn : 1 ≤ n ∧ n ≤ 1000) (hc : n ≤ c ∧ c ≤ maxLen) :
    FnH (X := Unit) Try.prog 83 (fun _ => [.raw (.slice (some ⟨g, 0, none⟩) n c)]) [entC g n f c] (fun _ => .tup []) (fun _ => [entC g n (turC n f) c]) (fun _ => True) := by
  refine fn_intro Try.func83 rfl Try.ntmps83 (fun _ => Nat.le_of_ble_eq_true rfl) fun w0 => ?_
  repeat first | refine zaa rfl (zay rfl) ?_ | refine zaa rfl (zaz rfl) ?_ | (refine zac ?_; refine zaa rfl (zbc rfl rfl (by omega)) ?_) | (refine zad ?_; refine zaa rfl (zbn rfl) ?_) | refine zah ?_ | (refine zcr ?_; refine zcs ?_) | (refine zdb ?_; first | refine zdc ?_ | refine zdd ?_ | refine zde ?_)
  refine ws_loop (ι := Nat) (fun k => [(0, .raw (.slice (some ⟨g, 0, none⟩) n c)), (2, .raw (.int .i64 (k : Nat))), (3, .raw (.int .i64 ((n : Int) - 1 - k)))])
    (fun k => St w0 [g] [entC g n (swpC n f k) c]) (fun k => k ≤ n) (fun k => n - k) 0 (Nat.zero_le _) ?_ (fun w h => ?_) (fun k hk => ?_)
  · rw [show (n : Int) - 1 - ((0 : Nat) : Int) = (n : Int) - 1 by omega]
    (repeat (first | exact Env.sub_nil _ | refine Env.sub_cons rfl ?_))
  · have e0 : entC g n (swpC n f 0) c = entC g n f c := entC_congr (fun t ht => by unfold swpC; rw [if_neg (by omega)])
    rw [e0]
    exact h
  repeat first | refine zaa rfl (zay rfl) ?_ | (refine zac ?_; refine zaa rfl (zbe rfl rfl) ?_) | refine zah ?_ | (refine zcr ?_; refine zcs ?_) | (refine zdb ?_; first | refine zdc ?_ | refine zdd ?_)
  refine ws_cond rfl (fun hd => ?_) (fun hd => ?_)
  case' refine_2 =>
    have hge : ¬ (k : Int) < (n : Int) - 1 - k := of_decide_eq_false hd
    have e1 : entC g n (swpC n f k) c = entC g n (turC n f) c := entC_congr (fun t ht => by
      unfold swpC turC
      by_cases h : t < k ∨ n - 1 - k < t
      · rw [if_pos h]
      · rw [if_neg h, show n - 1 - t = t by omega])
    rw [e1]
    repeat first | (refine zcr ?_; first | refine zcu ?_ | refine zcx ?_ | refine zda ?_) | (refine zdb ?_; refine zdh ?_)
    exact done_ret0 (.inr rfl) rfl () rfl trivial (List.Sublist.refl _)
  have hlt : (k : Int) < (n : Int) - 1 - k := of_decide_eq_true hd
  clear hd
  have hi : ((k : Int).toNat * 1 : Nat) = k := by omega
  have hj : (((n : Int) - 1 - k).toNat * 1 : Nat) = n - 1 - k := by omega
  have hj' : ((n : Int) - 1 - k).toNat = n - 1 - k := by omega
  repeat first | (refine zcr ?_; refine zcs ?_) | (refine zdb ?_; first | refine zdc ?_ | refine zde ?_ | refine zdf ?_)
  refine ws_drawP (ix := [0, 1, 2, 3, 4, 5, 6, 8, 9, 10, 12]) (W := (St w0 [g] [])) mixed (by decide +kernel) (fun _ h => h.weak (List.nil_sublist _)) ?_
  repeat first | refine zap rfl (zay rfl) ?_ | (refine zau ?_; refine zap rfl (zbw rfl rfl (by omega) (by omega)) ?_) | refine zav ?_
  refine ⟨rfl, ?_⟩
  refine gp_name fun o ho Q' hQ => ?_
  have hso : slotsOf o [0, 1, 2, 3, 4, 5, 6, 8, 9, 10, 12] = [14, 0, 15, 2, 16, 0, 17, 3, 18, 0, 19, 3, 20, 18, 19, 22, 0, 23, 2, 24, 22, 23, 26, 14, 15] := by rw [ho]; decide +kernel
  have q7 := op_at (i := 7) ho rfl
  have q11 := op_at (i := 11) ho rfl
  have q13 := op_at (i := 13) ho rfl
  have q14 := op_at (i := 14) ho rfl
  have q15 := op_at (i := 15) ho rfl
  have b1 : Nat.blt ((k : Int).toNat * 1) c = true := Nat.ble_eq_true_of_le (by omega)
  have b2 : Nat.blt (((n : Int) - 1 - k).toNat * 1) c = true := Nat.ble_eq_true_of_le (by omega)
  have s1 : ((tabC n (swpC n f k)).map cA).set ((k : Int).toNat * 1) (cA (swpC n f k ((n : Int) - 1 - k).toNat)) = (tabC n (putR k (swpC n f k (n - 1 - k)) (swpC n f k))).map cA := by
    rw [hi, hj']
    exact entC_storeC (by omega) (if_pos rfl) (fun t _ h => if_neg h)
  have s2 : ((tabC n (putR k (swpC n f k (n - 1 - k)) (swpC n f k))).map cA).set (((n : Int) - 1 - k).toNat * 1) (cA (swpC n f k (k : Int).toNat)) = (tabC n (swpC n f (k + 1))).map cA := by
    rw [hj]
    refine entC_storeC (by omega) ?_ (fun t ht h => ?_)
    · show swpC n f (k + 1) (n - 1 - k) = swpC n f k k
      unfold swpC
      rw [if_pos (by omega), if_neg (by omega), show n - 1 - (n - 1 - k) = k by omega]
    · unfold putR swpC
      by_cases h1 : t = k
      · subst h1
        rw [if_pos (by omega), if_pos rfl, if_neg (by omega)]
      · rw [if_neg h1]
        by_cases h2 : t < k ∨ n - 1 - k < t
        · rw [if_pos (by omega), if_pos h2]
        · rw [if_neg (by omega), if_neg h2]
  have sD : GP Try.prog 28 o [0, 1, 2, 3, 4, 5, 6, 8, 9, 10, 12] (St w0 [g] []) [11, 7] [(25, cA (swpC n f k (k : Int).toNat)), (21, cA (swpC n f k ((n : Int) - 1 - k).toNat)), (26, .raw (.pointer (some ⟨g, (k : Int).toNat * 1, none⟩))), (24, .raw (.pointer (some ⟨g, (k : Int).toNat * 1, none⟩))), (23, .raw (.int .i64 (k : Nat))), (22, .raw (.slice (some ⟨g, 0, none⟩) n c)), (20, .raw (.pointer (some ⟨g, ((n : Int) - 1 - k).toNat * 1, none⟩))), (19, .raw (.int .i64 ((n : Int) - 1 - k))), (18, .raw (.slice (some ⟨g, 0, none⟩) n c)), (17, .raw (.int .i64 ((n : Int) - 1 - k))), (16, .raw (.slice (some ⟨g, 0, none⟩) n c)), (15, .raw (.int .i64 (k : Nat))), (14, .raw (.slice (some ⟨g, 0, none⟩) n c)), (0, .raw (.slice (some ⟨g, 0, none⟩) n c)), (2, .raw (.int .i64 (k : Nat))), (3, .raw (.int .i64 ((n : Int) - 1 - k)))] (St w0 [g] [entC g n (swpC n f k) c]) Q' := by
    refine gp_step [13] (by rw [ho]; decide +kernel) fun x hx => ?_
    obtain rfl : x = 13 := by simpa using hx
    refine sp_eff q13 (by rw [ho]; decide +kernel) (effj_storeX 0 rfl rfl rfl rfl b1 s1) (cont_go (fun _ h => h.weak (List.nil_sublist _)) ?_)
    refine gp_step [14] (by rw [ho]; decide +kernel) fun x hx => ?_
    obtain rfl : x = 14 := by simpa using hx
    refine sp_op q14 (by rw [ho]; decide +kernel) rfl (zbw rfl rfl (by omega) (by omega)) rfl (cont_set (by rw [ho]; decide +kernel) rfl ?_)
    refine gp_step [15] (by rw [ho]; decide +kernel) fun x hx => ?_
    obtain rfl : x = 15 := by simpa using hx
    refine sp_eff q15 (by rw [ho]; decide +kernel) (effj_storeX 0 rfl rfl rfl rfl b2 s2) (cont_set rfl rfl ?_)
    refine gp_end (by rw [ho]; decide +kernel) ?_
    rw [hQ]
    repeat first | refine zaa rfl (zay rfl) ?_ | refine zaa rfl (zaz rfl) ?_ | (refine zac ?_; first | refine zaa rfl (zbb rfl rfl (by omega)) ?_ | refine zaa rfl (zbc rfl rfl (by omega)) ?_) | refine zah ?_ | (refine zcr ?_; first | refine zcs ?_ | refine zcv ?_) | (refine zdb ?_; refine zdd ?_)
    refine done_round (k + 1) (by omega) (by omega) ?_ (fun w h => h)
    rw [show ((k + 1 : Nat) : Int) = (k : Int) + 1 by omega, show (n : Int) - 1 - ((k : Int) + 1) = (n : Int) - 1 - k - 1 by omega]
    (repeat (first | exact Env.sub_nil _ | refine Env.sub_cons rfl ?_))
  refine gp_step [7, 11] (by rw [ho]; decide +kernel) fun x hx => ?_
  have hx : x = 7 ∨ x = 11 := by simpa using hx
  rcases hx with rfl | rfl
  · refine sp_op q7 (by rw [ho]; decide +kernel) rfl (opj_loadC rfl rfl mh (by omega)) rfl (cont_go (fun _ h => h.weak (List.nil_sublist _)) ?_)
    refine gp_step [11] (by rw [ho]; decide +kernel) fun x hx => ?_
    obtain rfl : x = 11 := by simpa using hx
    refine sp_op q11 (by rw [ho]; decide +kernel) rfl (opj_loadC rfl rfl mh (by omega)) rfl (cont_go (fun _ h => h.weak (List.nil_sublist _)) ?_)
    exact gp_to sD rfl (by (repeat (first | exact Env.sub_nil _ | refine Env.sub_cons rfl ?_))) (by rw [hso]; exact ⟨rfl, rfl, rfl, rfl, rfl, rfl, rfl, rfl, rfl, rfl, rfl, rfl, rfl, rfl, rfl, rfl, rfl, rfl, rfl, rfl, rfl, rfl, rfl, rfl, rfl, trivial⟩) rfl (fun _ h => h) (fun _ h => h.weak (List.nil_sublist _))
  · refine sp_op q11 (by rw [ho]; decide +kernel) rfl (opj_loadC rfl rfl mh (by omega)) rfl (cont_go (fun _ h => h.weak (List.nil_sublist _)) ?_)
    refine gp_step [7] (by rw [ho]; decide +kernel) fun x hx => ?_
    obtain rfl : x = 7 := by simpa using hx
    refine sp_op q7 (by rw [ho]; decide +kernel) rfl (opj_loadC rfl rfl mh (by omega)) rfl (cont_go (fun _ h => h.weak (List.nil_sublist _)) ?_)
    exact gp_to sD rfl (by (repeat (first | exact Env.sub_nil _ | refine Env.sub_cons rfl ?_))) (by rw [hso]; exact ⟨rfl, rfl, rfl, rfl, rfl, rfl, rfl, rfl, rfl, rfl, rfl, rfl, rfl, rfl, rfl, rfl, rfl, rfl, rfl, rfl, rfl, rfl, rfl, rfl, rfl, trivial⟩) rfl (fun _ h => h) (fun _ h => h.weak (List.nil_sublist _))
set_option maxRecDepth 100000 in
theorem revF_fn (g n c : Nat) (hn : 1 ≤ n ∧ n ≤ 1000) (hc : n ≤ c ∧ c ≤ maxLen) :
    FnH (X := Unit) Try.prog 84 (fun _ => [.raw (.slice (some ⟨g, 0, none⟩) n c)]) [entF g 31 n oneF c] (fun _ => .tup []) (fun _ => [entF g 31 n oneF c]) (fun _ => True) := by
  refine fn_intro Try.func84 rfl Try.ntmps84 (fun _ => Nat.le_of_ble_eq_true rfl) fun w0 => ?_
  repeat first | refine zaa rfl (zay rfl) ?_ | refine zaa rfl (zaz rfl) ?_ | (refine zac ?_; refine zaa rfl (zbc rfl rfl (by omega)) ?_) | (refine zad ?_; refine zaa rfl (zbn rfl) ?_) | refine zah ?_ | (refine zcr ?_; refine zcs ?_) | (refine zdb ?_; first | refine zdc ?_ | refine zdd ?_ | refine zde ?_)
  refine ws_loop (ι := Nat) (fun k => [(0, .raw (.slice (some ⟨g, 0, none⟩) n c)), (2, .raw (.int .i64 (k : Nat))), (3, .raw (.int .i64 ((n : Int) - 1 - k)))])
    (fun _ => St w0 [g] [entF g 31 n oneF c]) (fun k => k ≤ n) (fun k => n - k) 0 (Nat.zero_le _) ?_ (fun w h => h) (fun k hk => ?_)
  · rw [show (n : Int) - 1 - ((0 : Nat) : Int) = (n : Int) - 1 by omega]
    (repeat (first | exact Env.sub_nil _ | refine Env.sub_cons rfl ?_))
  repeat first | refine zaa rfl (zay rfl) ?_ | (refine zac ?_; refine zaa rfl (zbe rfl rfl) ?_) | refine zah ?_ | (refine zcr ?_; refine zcs ?_) | (refine zdb ?_; first | refine zdc ?_ | refine zdd ?_)
  refine ws_cond rfl (fun hd => ?_) (fun hd => ?_)
  case' refine_2 =>
    repeat first | (refine zcr ?_; first | refine zcu ?_ | refine zcx ?_ | refine zda ?_) | (refine zdb ?_; refine zdh ?_)
    exact done_ret0 (.inr rfl) rfl () rfl trivial (List.Sublist.refl _)
  have hlt : (k : Int) < (n : Int) - 1 - k := of_decide_eq_true hd
  clear hd
  repeat first | (refine zcr ?_; refine zcs ?_) | (refine zdb ?_; first | refine zdc ?_ | refine zde ?_ | refine zdf ?_)
  refine ws_drawP (ix := [0, 1, 2, 3, 4, 5, 6, 7, 8, 9, 10, 11, 12]) (W := St w0 [g] [entF g 31 n oneF c]) mixed (by decide +kernel) (fun _ h => h) ?_
  repeat first | refine zap rfl (zay rfl) ?_ | (refine zat ?_; refine zap rfl (zbt rfl rfl (by (repeat (first | exact mh | refine mt ?_)); done) (by omega)) ?_) | (refine zau ?_; refine zap rfl (zbw rfl rfl (by omega) (by omega)) ?_) | refine zav ?_
  refine ⟨rfl, ?_⟩
  refine gp_name fun o ho Q' hQ => ?_
  have q13 := op_at (i := 13) ho rfl
  have q14 := op_at (i := 14) ho rfl
  have q15 := op_at (i := 15) ho rfl
  have b1 : Nat.blt ((k : Int).toNat * 1) c = true := Nat.ble_eq_true_of_le (by omega)
  have b2 : Nat.blt (((n : Int) - 1 - k).toNat * 1) c = true := Nat.ble_eq_true_of_le (by omega)
  refine gp_step [13] (by rw [ho]; decide +kernel) fun x hx => ?_
  obtain rfl : x = 13 := by simpa using hx
  refine sp_eff q13 (by rw [ho]; decide +kernel) (effj_storeX 0 rfl rfl rfl rfl b1 (tab_one_set n _)) (cont_go (fun _ h => h) ?_)
  refine gp_step [14] (by rw [ho]; decide +kernel) fun x hx => ?_
  obtain rfl : x = 14 := by simpa using hx
  refine sp_op q14 (by rw [ho]; decide +kernel) rfl (zbw rfl rfl (by omega) (by omega)) rfl (cont_set (by rw [ho]; decide +kernel) rfl ?_)
  refine gp_step [15] (by rw [ho]; decide +kernel) fun x hx => ?_
  obtain rfl : x = 15 := by simpa using hx
  refine sp_eff q15 (by rw [ho]; decide +kernel) (effj_storeX 0 rfl rfl rfl rfl b2 (tab_one_set n _)) (cont_set rfl rfl ?_)
  refine gp_end (by rw [ho]; decide +kernel) ?_
  rw [hQ]
  repeat first | refine zaa rfl (zay rfl) ?_ | refine zaa rfl (zaz rfl) ?_ | (refine zac ?_; first | refine zaa rfl (zbb rfl rfl (by omega)) ?_ | refine zaa rfl (zbc rfl rfl (by omega)) ?_) | refine zah ?_ | (refine zcr ?_; first | refine zcs ?_ | refine zcv ?_) | (refine zdb ?_; refine zdd ?_)
  refine done_round (k + 1) (by omega) (by omega) ?_ (fun w h => h)
  rw [show ((k + 1 : Nat) : Int) = (k : Int) + 1 by omega, show (n : Int) - 1 - ((k : Int) + 1) = (n : Int) - 1 - k - 1 by omega]
  (repeat (first | exact Env.sub_nil _ | refine Env.sub_cons rfl ?_))
theorem copyCurve_fn {n : Nat} {P : Nat → CV} (hn : 1 ≤ n ∧ n ≤ 1000) :
    FnH (X := (Nat × Nat) × Nat × Nat) Try.prog 82 (fun w => [crvA w n P oneF]) []
      (fun y => crvOc y.1.1 y.1.2 n y.2.1 y.2.2) (fun y => [entF y.1.2 31 n oneF y.2.2, entC y.1.1 n P y.2.1]) (fun y => (n ≤ y.2.1 ∧ y.2.1 ≤ maxLen) ∧ n ≤ y.2.2 ∧ y.2.2 ≤ maxLen) := by
  have hC := cloneC_fn n P (by omega) (by omega)
  have hF := cloneFU_fn n oneF (by omega) (by omega)
  refine fn_intro Try.func82 rfl Try.ntmps82 (fun _ => Nat.le_of_ble_eq_true rfl) fun w0 => ?_
  repeat first | refine zah ?_ | (refine zcr ?_; refine zcs ?_) | (refine zdb ?_; first | refine zdc ?_ | refine zdd ?_) | (refine zak rfl rfl rfl ?_; intro g) | (refine zal rfl rfl ?_; intro g)
  rename_i g1
  obtain ⟨g2, hg2⟩ : ∃ x, x = g := ⟨g, rfl⟩
  subst hg2
  refine WS.weak (e' := [(1, .raw (.pointer (some ⟨g1, 0, none⟩))), (2, .raw (.pointer (some ⟨g2, 0, none⟩)))]) (S' := St w0 [] [⟨g2, 27, [.raw (.slice none 0 0), .raw (.slice none 0 0)], 2⟩, ⟨g1, 27, [slC w0 (tabC n P), AV.sl w0 1 ((tab n oneF).map (AV.f .f32))], 2⟩]) ?_ (by (repeat (first | exact Env.sub_nil _ | refine Env.sub_cons rfl ?_))) (fun w h => h)
  refine ws_drawP (ix := [0, 1, 3, 4]) (W := St w0 [] [⟨g1, 27, [slC w0 (tabC n P), AV.sl w0 1 ((tab n oneF).map (AV.f .f32))], 2⟩]) mixed (by decide +kernel) (fun _ h => h.weak (.cons _ (List.Sublist.refl _))) ?_
  repeat first | (refine zat ?_; refine zap rfl (zcf rfl rfl (by (repeat (first | exact mh | refine mt ?_)); done) rfl) ?_) | refine zap rfl (zcd rfl) ?_ | refine zav ?_
  refine ⟨rfl, ?_⟩
  refine gp_name fun o ho Q' hQ => ?_
  have q2 := op_at (i := 2) ho rfl
  have q5 := op_at (i := 5) ho rfl
  have q6 := op_at (i := 6) ho rfl
  have q7 := op_at (i := 7) ho rfl
  refine gp_step [2] (by rw [ho]; decide +kernel) fun x hx => ?_
  obtain rfl : x = 2 := by simpa using hx
  refine sp_call q2 (by rw [ho]; decide +kernel) rfl hC rfl rfl (Takes.sl Takes.nil) (fun _ _ => rfl) ?_
  rintro ⟨a, ca⟩ hca
  refine cont_go (fun _ h => h.weak (.cons _ (.cons _ (List.Sublist.refl _)))) ?_
  refine gp_step [5] (by rw [ho]; decide +kernel) fun x hx => ?_
  obtain rfl : x = 5 := by simpa using hx
  refine sp_call q5 (by rw [ho]; decide +kernel) rfl hF rfl rfl (Takes.sl Takes.nil) (fun _ _ => rfl) ?_
  rintro ⟨b, cb⟩ hcb
  refine cont_set (by rw [ho]; decide +kernel) rfl ?_
  refine gp_step [6] (by rw [ho]; decide +kernel) fun x hx => ?_
  obtain rfl : x = 6 := by simpa using hx
  refine sp_op q6 (by rw [ho]; decide +kernel) rfl (opj_buildV rfl rfl) rfl (cont_set rfl rfl ?_)
  refine gp_step [7] (by rw [ho]; decide +kernel) fun x hx => ?_
  obtain rfl : x = 7 := by simpa using hx
  refine sp_eff q7 (by rw [ho]; decide +kernel) (effj_storeAX 2 rfl rfl rfl rfl rfl rfl rfl rfl rfl) (cont_set rfl rfl ?_)
  refine gp_end (by rw [ho]; decide +kernel) ?_
  rw [hQ]
  repeat first | (refine zcr ?_; refine zcs ?_) | (refine zdb ?_; refine zdg ?_)
  exact done_retX rfl rfl ((a, b), ca, cb) rfl (mt (mt mh)) rfl rfl rfl ⟨hca, hcb⟩ (.cons_cons _ (.cons_cons _ (List.nil_sublist _)))
theorem back_fn {n : Nat} {P : Nat → CV} (hn : 1 ≤ n ∧ n ≤ 1000) :
    FnH (X := (Nat × Nat) × Nat × Nat) Try.prog 78 (fun w => [crvA w n P oneF]) []
      (fun y => crvOc y.1.1 y.1.2 n y.2.1 y.2.2) (fun y => [entF y.1.2 31 n oneF y.2.2, entC y.1.1 n (turC n P) y.2.1]) (fun y => (n ≤ y.2.1 ∧ y.2.1 ≤ maxLen) ∧ n ≤ y.2.2 ∧ y.2.2 ≤ maxLen) := by
  have hC := copyCurve_fn (n := n) (P := P) hn
  refine fn_intro Try.func78 rfl Try.ntmps78 (fun _ => Nat.le_of_ble_eq_true rfl) fun w0 => ?_
  repeat first | (refine zae ?_; refine zaa rfl (zcg rfl rfl (by (repeat (first | exact mh | refine mt ?_)); done) rfl rfl) ?_) | refine zah ?_ | (refine zcr ?_; refine zcs ?_) | (refine zdb ?_; first | refine zdc ?_ | refine zdd ?_) | (refine zak rfl rfl rfl ?_; intro g) | (refine zal rfl rfl ?_; intro g)
  refine rs_callM3 hC rfl rfl (Takes.crv Takes.nil) rfl ?_
  rintro ⟨⟨a, b⟩, ca, cb⟩ ⟨h1, h2⟩
  dsimp only at h1 h2 ⊢
  have hRC := revC_fn a n ca P hn h1
  have hRF := revF_fn b n cb hn h2
  repeat first | (refine zae ?_; first | refine zaa rfl (zcf rfl rfl (by (repeat (first | exact mh | refine mt ?_)); done) rfl) ?_ | refine zaa rfl (zcg rfl rfl (by (repeat (first | exact mh | refine mt ?_)); done) rfl rfl) ?_) | refine zaa rfl (zcd rfl) ?_ | refine zah ?_ | (refine zcr ?_; refine zcs ?_) | (refine zdb ?_; first | refine zdc ?_ | refine zdd ?_ | refine zdg ?_) | (refine zal rfl rfl ?_; intro g) | (refine zag ?_; first | refine zan 0 rfl rfl rfl rfl rfl rfl rfl rfl rfl ?_ | refine zan 3 rfl rfl rfl rfl rfl rfl rfl rfl rfl ?_) | (refine rs_callAt 2 hRC rfl rfl rfl (Takes.same Takes.nil) rfl ?_; rintro _ -) | (refine rs_callAt 1 hRF rfl rfl rfl (Takes.same Takes.nil) rfl ?_; rintro _ -)
  exact done_retX rfl rfl ((a, b), ca, cb) rfl (mt (mt (mt mh))) rfl rfl rfl ⟨h1, h2⟩ (.cons _ (.cons_cons _ (.cons_cons _ (List.nil_sublist _))))
end Go.Ab
