/- Drawn paths: how long they are, points at equal ways, normals. No conditions. -/
import Derived.Test.YtljgokghchhjaaaCb
import Derived.Test.YtljgokghchhjaaaCc
import Derived.Test.YtljgokghchhjaaaCd
import Derived.Test.YtljgokghchhjaaaAc
namespace Go.Ab
open Go.Proofs

theorem finC_of {p : CV} {x y : Rat} (hx : Vl .f32 p.1 x) (hy : Vl .f32 p.2 y) : finC p = true := by
  have h1 : finB p.1 = true := vl_fin hx
  have h2 : finB p.2 = true := vl_fin hy
  unfold finC
  rw [h1, h2]
  rfl
theorem tabC_fin {n : Nat} {f : Nat → CV} (h : ∀ i, i < n → finC (f i) = true) : (tabC n f).all finC = true := by
  rw [List.all_eq_true]
  intro p hp
  unfold tabC at hp
  rw [List.mem_map] at hp
  obtain ⟨i, hi, rfl⟩ := hp
  exact h i (by simpa using hi)
theorem fitk {q : Rat} (h1 : -1000 ≤ q) (h2 : q ≤ 1000) : Fit .f32 q := by
  have : (1000 : Rat) < p2 (ftop .f32) := by decide +kernel
  constructor <;> grind
/-- Sums of lengths. -/
def su (l : Nat → Rat) : Nat → Rat
  | 0 => 0
  | n + 1 => su l n + l n
section
variable {n : Nat} {P : Nat → CV} {a c : Nat → Int}
def pX (a : Nat → Int) (i : Nat) : Rat := (a i : Rat) / 4
theorem Pth.bdx (h : Pth n P a c) (hn : n ≤ 7) {i : Nat} (hi : i < n) : (0 ≤ pX a i ∧ pX a i ≤ 12) ∧ (-6 ≤ pX c i ∧ pX c i ≤ 6) := by
  obtain ⟨⟨b1, b2⟩, b3, b4⟩ := h.bd i hi
  have e1 : ((0 : Int) : Rat) ≤ (a i : Rat) := Rat.intCast_le_intCast.2 b1
  have e2 : (a i : Rat) ≤ ((48 : Int) : Rat) := Rat.intCast_le_intCast.2 (by omega)
  have e3 : ((-24 : Int) : Rat) ≤ (c i : Rat) := Rat.intCast_le_intCast.2 (by omega)
  have e4 : (c i : Rat) ≤ ((24 : Int) : Rat) := Rat.intCast_le_intCast.2 (by omega)
  rw [show ((0 : Int) : Rat) = 0 from rfl] at e1
  rw [show ((48 : Int) : Rat) = 48 from rfl] at e2
  rw [show ((-24 : Int) : Rat) = -24 from rfl] at e3
  rw [show ((24 : Int) : Rat) = 24 from rfl] at e4
  unfold pX
  constructor <;> constructor <;> grind
/-- A step: exact. -/
theorem Pth.step_vl (h : Pth n P a c) {i : Nat} (hi : i + 1 < n) (hn : n ≤ 7) : Vl .f32 (subC2 (P (i + 1)) (P i)).1 (pX a (i + 1) - pX a i) ∧ Vl .f32 (subC2 (P (i + 1)) (P i)).2 (pX c (i + 1) - pX c i) ∧
    (1 / 2 ≤ pX a (i + 1) - pX a i ∧ pX a (i + 1) - pX a i ≤ 2) ∧ (-1 ≤ pX c (i + 1) - pX c i ∧ pX c (i + 1) - pX c i ≤ 1) := by
  obtain ⟨⟨s1, s2⟩, s3, s4⟩ := h.st i hi
  have c4 : ((2 ^ 2 : Nat) : Rat) = 4 := rfl
  have m1 := sub_ex (h.vx (i + 1) hi) (h.vx i (by omega)) (a (i + 1) - a i) 2 (by omega) (by decide) (by rw [c4, Rat.intCast_sub]; grind)
  have m2 := sub_ex (h.vy (i + 1) hi) (h.vy i (by omega)) (c (i + 1) - c i) 2 (by omega) (by decide) (by rw [c4, Rat.intCast_sub]; grind)
  have e1 : ((2 : Int) : Rat) ≤ ((a (i + 1) - a i : Int) : Rat) := Rat.intCast_le_intCast.2 s1
  have e2 : ((a (i + 1) - a i : Int) : Rat) ≤ ((8 : Int) : Rat) := Rat.intCast_le_intCast.2 s2
  have e3 : ((-4 : Int) : Rat) ≤ ((c (i + 1) - c i : Int) : Rat) := Rat.intCast_le_intCast.2 s3
  have e4 : ((c (i + 1) - c i : Int) : Rat) ≤ ((4 : Int) : Rat) := Rat.intCast_le_intCast.2 s4
  rw [Rat.intCast_sub] at e1 e2 e3 e4
  rw [show ((2 : Int) : Rat) = 2 from rfl] at e1
  rw [show ((8 : Int) : Rat) = 8 from rfl] at e2
  rw [show ((-4 : Int) : Rat) = -4 from rfl] at e3
  rw [show ((4 : Int) : Rat) = 4 from rfl] at e4
  refine ⟨m1, m2, ?_, ?_⟩
  · unfold pX; constructor <;> grind
  · unfold pX; constructor <;> grind
/-- The length of a step. -/
theorem Pth.len (h : Pth n P a c) {i : Nat} (hi : i + 1 < n) (hn : n ≤ 7) : LongOk (subC2 (P (i + 1)) (P i)) ∧ ∃ l, Vl .f32 (lngF P i) l ∧ 49 / 100 ≤ l ∧ l ≤ 23 / 10 ∧ Le2 (pX a (i + 1) - pX a i) (pX c (i + 1) - pX c i) (l * (1 + 1 / 500000)) := by
  obtain ⟨vx, vy, ⟨x1, x2⟩, y1, y2⟩ := h.step_vl hi hn
  generalize pX a (i + 1) - pX a i = x at *
  generalize pX c (i + 1) - pX c i = y at *
  have hxx : 1 / 4 ≤ x * x := by
    have := Rat.mul_nonneg (show 0 ≤ x - 1 / 2 by grind) (show 0 ≤ x - 1 / 2 by grind)
    grind
  have hx4 := (mul_bnd (p := x) (q := x) (a := 2) (b := 2) (by grind) x2 (by grind) x2).2
  have hy1 := (mul_bnd (p := y) (q := y) (a := 1) (b := 1) y1 y2 y1 y2).2
  have hyy := sqr_nonneg y
  have up : Le2 x y (2237 / 1000) := ⟨by decide +kernel, by grind⟩
  obtain ⟨l, vl1, hc, l0, lu⟩ := long_up vx vy up (by decide +kernel)
  have lo := long_lo vx vy (by constructor <;> grind) (by constructor <;> grind) (B := 1 / 2) (by decide +kernel) (by grind) vl1
  have e30 : (1000 : Rat) ≤ p2 30 := by decide +kernel
  obtain ⟨l', vl2, _, _, _, hrel⟩ := vl_long vx vy (by constructor <;> grind) (by constructor <;> grind)
  obtain rfl := Vl.unique vl1 vl2
  have e90 : p2 (-90) ≤ 1 / 4 := by decide +kernel
  have e20 : p2 (-20) ≤ 1 / 1000000 := by decide +kernel
  have h1 := (hrel (by grind)).1
  have ll := sqr_nonneg l
  have h2 := Rat.mul_le_mul_of_nonneg_left e20 ll
  exact ⟨hc, l, vl1, by grind, by grind, by grind, by grind⟩
/-- The value of a number. -/
def ratL (x : FV) : Rat := match x with
  | some b => match FloatKind.f32.decode b with
    | .number s m e => vl s m e
    | _ => 0
  | none => 0
theorem ratL_eq {x : FV} {q : Rat} (h : Vl .f32 x q) : ratL x = q := by
  obtain ⟨b, s, m, e, rfl, hd, rfl⟩ := h
  simp only [ratL, hd]
/-- All of a path's lengths. -/
structure Lth (n : Nat) (P : Nat → CV) (a c : Nat → Int) (l : Nat → Rat) : Prop where
  ok : ∀ i, i + 1 < n → LongOk (subC2 (P (i + 1)) (P i))
  v : ∀ i, i + 1 < n → Vl .f32 (lngF P i) (l i)
  b : ∀ i, i + 1 < n → 49 / 100 ≤ l i ∧ l i ≤ 23 / 10
  le : ∀ i, i + 1 < n → Le2 (pX a (i + 1) - pX a i) (pX c (i + 1) - pX c i) (l i * (1 + 1 / 500000))
theorem Pth.lens (h : Pth n P a c) (hn : n ≤ 7) : ∃ l, Lth n P a c l := by
  refine ⟨fun i => ratL (lngF P i), ⟨fun i hi => (h.len hi hn).1, fun i hi => ?_, fun i hi => ?_, fun i hi => ?_⟩⟩
  all_goals
    obtain ⟨_, l, v, l1, l2, l3⟩ := h.len hi hn
    have e : ratL (lngF P i) = l := ratL_eq v
    simp only [e]
  · exact v
  · exact ⟨l1, l2⟩
  · exact l3
end
end Go.Ab
/- Points at equal ways along a drawn path are no farther apart than they should, nearly. No conditions. -/
namespace Go.Ab
open Go.Proofs
section
variable {n : Nat} {P : Nat → CV} {a c : Nat → Int} {l : Nat → Rat}
theorem Lth.chord (h : Lth n P a c l) (i : Nat) : ∀ d : Nat, i + d < n → Le2 (pX a (i + d) - pX a i) (pX c (i + d) - pX c i) ((su l (i + d) - su l i) * (1 + 1 / 500000))
  | 0, _ => by
    have e1 : pX a (i + 0) - pX a i = 0 := by rw [Nat.add_zero]; grind
    have e2 : pX c (i + 0) - pX c i = 0 := by rw [Nat.add_zero]; grind
    have e3 : (su l (i + 0) - su l i) * (1 + 1 / 500000) = 0 := by rw [Nat.add_zero]; grind
    rw [e1, e2, e3]
    exact ⟨by decide +kernel, by decide +kernel⟩
  | d + 1, hd => by
    have h1 := h.chord i d (by omega)
    have h2 := h.le (i + d) (by omega)
    have h3 := h1.add h2
    have e1 : pX a (i + d) - pX a i + (pX a (i + d + 1) - pX a (i + d)) = pX a (i + (d + 1)) - pX a i := by
      rw [show i + (d + 1) = i + d + 1 from rfl]; grind
    have e2 : pX c (i + d) - pX c i + (pX c (i + d + 1) - pX c (i + d)) = pX c (i + (d + 1)) - pX c i := by
      rw [show i + (d + 1) = i + d + 1 from rfl]; grind
    have e3 : (su l (i + d) - su l i) * (1 + 1 / 500000) + l (i + d) * (1 + 1 / 500000) = (su l (i + (d + 1)) - su l i) * (1 + 1 / 500000) := by
      rw [show i + (d + 1) = i + d + 1 from rfl, su]; grind
    rw [e1, e2, e3] at h3
    exact h3
theorem sumF_succ (f : Int → FV) (j : Nat) : sumF (tab (j + 1) f) = fbin .add .f32 (sumF (tab j f)) (f j) := by
  unfold sumF
  have : tab (j + 1) f = tab j f ++ [f j] := by
    unfold tab
    rw [List.range_succ, List.map_append]
    rfl
  rw [this, List.foldl_append]
  rfl
theorem su_bd {m : Nat} (hl : ∀ i, i < m → 49 / 100 ≤ l i ∧ l i ≤ 23 / 10) : ∀ j, j ≤ m → 49 / 100 * (j : Rat) ≤ su l j ∧ su l j ≤ 23 / 10 * (j : Rat)
  | 0, _ => by rw [su]; decide +kernel
  | j + 1, hj => by
    have h1 := su_bd hl j (by omega)
    have h2 := hl j (by omega)
    have e : ((j + 1 : Nat) : Rat) = (j : Rat) + 1 := Rat.natCast_add j 1
    rw [su, e]
    constructor <;> grind
theorem natLe {i j : Nat} (h : i ≤ j) : (i : Rat) ≤ (j : Rat) := Rat.natCast_le_natCast.2 h
theorem Lth.sum (h : Lth n P a c l) (hn : n ≤ 7) : ∀ j, j + 1 ≤ n → ∃ A, Vl .f32 (sumF (tab j (lngF P))) A ∧ -((j : Rat) / 500000) ≤ A - su l j ∧ A - su l j ≤ (j : Rat) / 500000
  | 0, _ => ⟨0, Vl.c (k := .f32) (b := 0) (q := 0) (by decide +kernel), by rw [su]; decide +kernel, by rw [su]; decide +kernel⟩
  | j + 1, hj => by
    obtain ⟨A, vA, a1, a2⟩ := h.sum hn j (by omega)
    have hs := su_bd (l := l) (m := j) (fun i hi => h.b i (by omega)) j (Nat.le_refl _)
    have hb := h.b j hj
    have j5 : (j : Rat) ≤ 5 := natLe (j := 5) (by omega)
    have j0 : (0 : Rat) ≤ (j : Rat) := Rat.natCast_nonneg
    obtain ⟨r, vr, rr⟩ := vl_add vA (h.v j hj) (fitk (by grind) (by grind))
    have nr := rnd_abs rr 14 (by grind) (by grind)
    have e : ((j + 1 : Nat) : Rat) = (j : Rat) + 1 := Rat.natCast_add j 1
    refine ⟨r, ?_, ?_, ?_⟩
    · rw [sumF_succ]; exact vr
    · rw [su, e]; grind
    · rw [su, e]; grind
theorem way_vl {all : FV} {A : Rat} (hA : Vl .f32 all A) (A0 : 0 ≤ A ∧ A ≤ 141 / 10) {cnt k : Nat} (hc : 2 ≤ cnt ∧ cnt ≤ 48) (hk : k + 1 ≤ cnt) {q : Rat} (hq : q * ((cnt : Rat) - 1) = (k : Rat)) : ∃ w, Vl .f32 (wayF all cnt k) w ∧ 0 ≤ w ∧ (k = 0 → w = 0) ∧ -(1 / 150000) ≤ w - A * q ∧ w - A * q ≤ 1 / 150000 := by
  have k0 : (0 : Rat) ≤ (k : Rat) := Rat.natCast_nonneg
  have c2 : (2 : Rat) ≤ (cnt : Rat) := natLe (i := 2) hc.1
  have kc : (k : Rat) + 1 ≤ (cnt : Rat) := by
    have := natLe hk
    rw [Rat.natCast_add] at this
    exact this
  have vk : Vl .f32 (some (FloatKind.f32.nearest (k : Int))) (k : Rat) := vl_ofInt .f32 (k : Int) (by
    have : FloatKind.f32.format.fractionBits = 23 := rfl
    rw [this]
    omega)
  have vc : Vl .f32 (some (FloatKind.f32.nearest ((cnt : Int) - 1))) ((cnt : Rat) - 1) := by
    have := vl_ofInt .f32 ((cnt : Int) - 1) (by
      have : FloatKind.f32.format.fractionBits = 23 := rfl
      rw [this]
      omega)
    rw [Rat.intCast_sub] at this
    exact this
  have cne : (cnt : Rat) - 1 ≠ 0 := by grind
  have eq1 : (k : Rat) / ((cnt : Rat) - 1) = q := by rw [← hq]; grind
  have q0 : 0 ≤ q := by
    rcases Rat.le_total (a := 0) (b := q) with h | h
    · exact h
    · have := Rat.mul_nonneg (show 0 ≤ -q by grind) (show 0 ≤ (cnt : Rat) - 2 by grind)
      grind
  have q1 : q ≤ 1 := by
    rcases Rat.le_total (a := q) (b := 1) with h | h
    · exact h
    · have := Rat.mul_nonneg (show 0 ≤ q - 1 by grind) (show 0 ≤ (cnt : Rat) - 2 by grind)
      grind
  have p126 : (1000 : Rat) ≤ p2 (ftop .f32 - 1) := by decide +kernel
  obtain ⟨r, vr, rr⟩ := vl_div vk vc cne (by rw [eq1]; constructor <;> grind)
  rw [eq1] at rr
  have nr := rnd_abs rr 1 (by grind) (by grind)
  have r0 := (rr.side 0 (rep_zero _)).2 q0
  have b1 := mul_bnd (p := A) (q := r - q) (a := 141 / 10) (b := 2 / 8388608) (by grind) A0.2 (by grind) (by grind)
  have b2 := mul_bnd (p := A) (q := r) (a := 141 / 10) (b := 101 / 100) (by grind) A0.2 (by grind) (by grind)
  have b3 := Rat.mul_nonneg A0.1 r0
  obtain ⟨w, vw, rw1⟩ := vl_mul hA vr (fitk (by grind) (by grind))
  have nw := rnd_abs rw1 (143 / 10) (by grind) (by grind)
  have w0 := (rw1.side 0 (rep_zero _)).2 b3
  have key : A * r = A * q + A * (r - q) := by grind
  refine ⟨w, vw, w0, fun hk0 => ?_, by grind, by grind⟩
  have qz : q = 0 := by
    rw [← eq1, hk0]
    show ((0 : Nat) : Rat) / _ = 0
    rw [show ((0 : Nat) : Rat) = 0 from rfl]
    grind
  rw [qz] at rr
  have rz := rnd_rep rr (rep_zero _)
  rw [rz, Rat.mul_zero] at rw1
  exact rnd_rep rw1 (rep_zero _)
/-- Where a way ends. -/
theorem Lth.adv (h : Lth n P a c l) : ∀ (f i : Nat) (s : FV) (σ : Rat), i + f + 1 < n → Vl .f32 s σ → 0 ≤ σ → σ ≤ 15 →
    ∃ I T τ, Go.Ab.adv (lngF P) f i s = (I, T) ∧ Vl .f32 T τ ∧ 0 ≤ τ ∧ τ ≤ σ + 1 / 100 * (f : Rat) ∧ i ≤ I ∧ I ≤ i + f ∧ (-((f : Rat) / 500000) ≤ su l I + τ - (su l i + σ) ∧ su l I + τ - (su l i + σ) ≤ (f : Rat) / 500000) ∧ (I = i + f ∨ τ ≤ l I) ∧ (σ = 0 → I = i ∧ τ = 0)
  | 0, i, s, σ, hn, hv, h0, h15 => ⟨i, s, σ, rfl, hv, h0, by rw [show ((0 : Nat) : Rat) = 0 from rfl]; grind, Nat.le_refl _, Nat.le_refl _, by rw [show ((0 : Nat) : Rat) = 0 from rfl]; constructor <;> grind, .inl rfl, fun e => ⟨rfl, e⟩⟩
  | f + 1, i, s, σ, hn, hv, h0, h15 => by
    have hl := h.v i (by omega)
    have hb := h.b i (by omega)
    have ef : ((f + 1 : Nat) : Rat) = (f : Rat) + 1 := Rat.natCast_add f 1
    have f0 : (0 : Rat) ≤ (f : Rat) := Rat.natCast_nonneg
    rw [Go.Ab.adv, vl_gtr hv hl]
    by_cases hg : l i < σ
    · rw [decide_eq_true hg]
      obtain ⟨r, vr, rr⟩ := vl_sub hv hl (fitk (by grind) (by grind))
      have nr := rnd_abs rr 15 (by grind) (by grind)
      have r0 := (rr.side 0 (rep_zero _)).2 (by grind)
      obtain ⟨I, T, τ, e1, vT, t0, t1, i1, i2, ⟨p1, p2⟩, hlast, _⟩ := h.adv f (i + 1) _ r (by omega) vr r0 (by grind)
      rw [su] at p1 p2
      refine ⟨I, T, τ, e1, vT, t0, by rw [ef]; grind, by omega, by omega, by rw [ef]; constructor <;> grind, hlast.imp (fun e => by omega) id, fun e => by grind⟩
    · rw [decide_eq_false hg]
      refine ⟨i, s, σ, rfl, hv, h0, by rw [ef]; grind, Nat.le_refl _, by omega, by rw [ef]; constructor <;> grind, .inr (Rat.not_lt.1 hg), fun e => ⟨rfl, e⟩⟩
/-- The place after a way, exactly. -/
def eX (a : Nat → Int) (l : Nat → Rat) (I : Nat) (τ : Rat) : Rat := pX a I + τ / l I * (pX a (I + 1) - pX a I)
theorem Lth.apart_lt (h : Lth n P a c l) {I J : Nat} {τ υ : Rat} (hIJ : I < J) (hJ : J + 1 < n) (t0 : 0 ≤ τ) (t1 : τ ≤ l I) (u0 : 0 ≤ υ) :
    Le2 (eX a l J υ - eX a l I τ) (eX c l J υ - eX c l I τ) ((su l J + υ - (su l I + τ)) * (1 + 1 / 500000)) := by
  have bI := h.b I (by omega)
  have bJ := h.b J hJ
  have lI : l I ≠ 0 := by grind
  have lJ : l J ≠ 0 := by grind
  obtain ⟨d, rfl⟩ : ∃ d, J = I + 1 + d := ⟨J - (I + 1), by omega⟩
  have h1 := h.chord (I + 1) d (by omega)
  have e1 : τ / l I * l I = τ := Rat.div_mul_cancel lI
  have e2 : υ / l (I + 1 + d) * l (I + 1 + d) = υ := Rat.div_mul_cancel lJ
  have r0 : 0 ≤ 1 - τ / l I := by
    rcases Rat.le_total (a := τ / l I) (b := 1) with g | g
    · grind
    · have := Rat.mul_nonneg (show 0 ≤ τ / l I - 1 by grind) (show 0 ≤ l I by grind)
      have : (τ / l I - 1) * l I = 0 := by grind
      have hz : τ / l I - 1 = 0 := by
        rcases Rat.mul_eq_zero.1 this with z | z
        · exact z
        · exact absurd z lI
      grind
  have s0 : 0 ≤ υ / l (I + 1 + d) := by
    rcases Rat.le_total (a := 0) (b := υ / l (I + 1 + d)) with g | g
    · exact g
    · have := Rat.mul_nonneg (show 0 ≤ -(υ / l (I + 1 + d)) by grind) (show 0 ≤ l (I + 1 + d) by grind)
      have : υ / l (I + 1 + d) * l (I + 1 + d) = 0 := by grind
      have hz : υ / l (I + 1 + d) = 0 := by
        rcases Rat.mul_eq_zero.1 this with z | z
        · exact z
        · exact absurd z lJ
      grind
  have h2 := (h.le I (by omega)).scale r0
  have h3 := (h.le (I + 1 + d) hJ).scale s0
  have h4 := (h2.add h1).add h3
  have k1 : (1 - τ / l I) * (pX a (I + 1) - pX a I) + (pX a (I + 1 + d) - pX a (I + 1)) + υ / l (I + 1 + d) * (pX a (I + 1 + d + 1) - pX a (I + 1 + d)) = eX a l (I + 1 + d) υ - eX a l I τ := by unfold eX; grind
  have k2 : (1 - τ / l I) * (pX c (I + 1) - pX c I) + (pX c (I + 1 + d) - pX c (I + 1)) + υ / l (I + 1 + d) * (pX c (I + 1 + d + 1) - pX c (I + 1 + d)) = eX c l (I + 1 + d) υ - eX c l I τ := by unfold eX; grind
  have k3 : (1 - τ / l I) * (l I * (1 + 1 / 500000)) + (su l (I + 1 + d) - su l (I + 1)) * (1 + 1 / 500000) + υ / l (I + 1 + d) * (l (I + 1 + d) * (1 + 1 / 500000)) = (su l (I + 1 + d) + υ - (su l I + τ)) * (1 + 1 / 500000) := by
    rw [su]
    grind
  rw [k1, k2, k3] at h4
  exact h4
theorem Lth.apart_eq (h : Lth n P a c l) {I : Nat} {τ υ D : Rat} (hI : I + 1 < n) (hD : -D ≤ υ - τ ∧ υ - τ ≤ D) :
    Le2 (eX a l I υ - eX a l I τ) (eX c l I υ - eX c l I τ) (D * (1 + 1 / 500000)) := by
  have bI := h.b I (by omega)
  have lI : l I ≠ 0 := by grind
  have D0 : 0 ≤ D := by grind
  have hinv : 0 ≤ 1 / l I := by
    rcases Rat.le_total (a := 0) (b := 1 / l I) with g | g
    · exact g
    · have e : 1 / l I * l I = 1 := Rat.div_mul_cancel lI
      have := Rat.mul_nonneg (show 0 ≤ -(1 / l I) by grind) (show 0 ≤ l I by grind)
      grind
  have key : ∀ z : Rat, 0 ≤ z → z ≤ D → Le2 (z / l I * (pX a (I + 1) - pX a I)) (z / l I * (pX c (I + 1) - pX c I)) (D * (1 + 1 / 500000)) := fun z z0 z1 => by
    have ez : z / l I = z * (1 / l I) := by grind
    have hz : 0 ≤ z / l I := by rw [ez]; exact Rat.mul_nonneg z0 hinv
    have h1 := (h.le I hI).scale hz
    refine h1.mono ?_
    have e : z / l I * l I = z := Rat.div_mul_cancel lI
    have e2 : z / l I * (l I * (1 + 1 / 500000)) = z * (1 + 1 / 500000) := by grind
    rw [e2]
    grind
  rcases Rat.le_total (a := 0) (b := υ - τ) with g | g
  · have h1 := key (υ - τ) g hD.2
    have e1 : (υ - τ) / l I * (pX a (I + 1) - pX a I) = eX a l I υ - eX a l I τ := by unfold eX; grind
    have e2 : (υ - τ) / l I * (pX c (I + 1) - pX c I) = eX c l I υ - eX c l I τ := by unfold eX; grind
    rw [e1, e2] at h1
    exact h1
  · have h1 := (key (τ - υ) (by grind) (by grind)).neg
    have e1 : -((τ - υ) / l I * (pX a (I + 1) - pX a I)) = eX a l I υ - eX a l I τ := by unfold eX; grind
    have e2 : -((τ - υ) / l I * (pX c (I + 1) - pX c I)) = eX c l I υ - eX c l I τ := by unfold eX; grind
    rw [e1, e2] at h1
    exact h1
/-- Two places are no farther apart than their ways. -/
theorem Lth.apart (h : Lth n P a c l) {I J : Nat} {τ υ D : Rat} (hI : I + 1 < n) (hJ : J + 1 < n) (t0 : 0 ≤ τ) (u0 : 0 ≤ υ) (t1 : I + 2 = n ∨ τ ≤ l I) (u1 : J + 2 = n ∨ υ ≤ l J) (hD : -D ≤ su l J + υ - (su l I + τ) ∧ su l J + υ - (su l I + τ) ≤ D) :
    Le2 (eX a l J υ - eX a l I τ) (eX c l J υ - eX c l I τ) (D * (1 + 1 / 500000)) := by
  rcases (show I < J ∨ I = J ∨ J < I from by omega) with g | rfl | g
  · exact (h.apart_lt g hJ t0 (t1.resolve_left (by omega)) u0).mono (by grind)
  · exact h.apart_eq hI (by constructor <;> grind)
  · have h1 := (h.apart_lt g hI u0 (u1.resolve_left (by omega)) t0).neg
    have e1 : -(eX a l I τ - eX a l J υ) = eX a l J υ - eX a l I τ := by grind
    have e2 : -(eX c l I τ - eX c l J υ) = eX c l J υ - eX c l I τ := by grind
    rw [e1, e2] at h1
    exact h1.mono (by grind)
/-- What is put there. -/
theorem Lth.at (h : Lth n P a c l) (hp : Pth n P a c) (hn : n ≤ 7) {I : Nat} {T : FV} {τ : Rat} (hI : I + 1 < n) (vT : Vl .f32 T τ) (t0 : 0 ≤ τ) (t1 : τ ≤ l I + 1 / 10000) :
    ∃ x y, Vl .f32 (atR P (lngF P) (I, T)).1 x ∧ Vl .f32 (atR P (lngF P) (I, T)).2 y ∧ (-(1 / 200000) ≤ x - eX a l I τ ∧ x - eX a l I τ ≤ 1 / 200000) ∧ (-(1 / 200000) ≤ y - eX c l I τ ∧ y - eX c l I τ ≤ 1 / 200000) ∧ (-100 ≤ x ∧ x ≤ 100) ∧ (-100 ≤ y ∧ y ≤ 100) ∧ (τ = 0 → x = pX a I ∧ y = pX c I) := by
  obtain ⟨vx, vy, ⟨x1, x2⟩, y1, y2⟩ := hp.step_vl hI hn
  have bI := h.b I hI
  have lI : l I ≠ 0 := by grind
  have e1 : τ / l I * l I = τ := Rat.div_mul_cancel lI
  have u0 : 0 ≤ τ / l I := by
    rcases Rat.le_total (a := 0) (b := τ / l I) with g | g
    · exact g
    · have := Rat.mul_nonneg (show 0 ≤ -(τ / l I) by grind) (show 0 ≤ l I - 49 / 100 by grind)
      grind
  have u1 : τ / l I ≤ 1001 / 1000 := by
    rcases Rat.le_total (a := τ / l I) (b := 1001 / 1000) with g | g
    · exact g
    · have := Rat.mul_nonneg (show 0 ≤ τ / l I - 1001 / 1000 by grind) (show 0 ≤ l I - 49 / 100 by grind)
      grind
  have p126 : (1000 : Rat) ≤ p2 (ftop .f32 - 1) := by decide +kernel
  obtain ⟨u, vu, ru⟩ := vl_div vT (h.v I hI) lI ⟨by grind, by grind⟩
  have nu := rnd_abs ru (1001 / 1000) (by grind) (by grind)
  obtain ⟨⟨pa1, pa2⟩, pc1, pc2⟩ := hp.bdx hn (show I < n by omega)
  have vpx : Vl .f32 (P I).1 (pX a I) := hp.vx I (by omega)
  have vpy : Vl .f32 (P I).2 (pX c I) := hp.vy I (by omega)
  have uz : τ = 0 → u = 0 := fun hz => by
    rw [hz, show (0 : Rat) / l I = 0 by grind] at ru
    exact rnd_rep ru (rep_zero _)
  unfold eX
  generalize τ / l I = q at *
  have st : ∀ {D Z : FV} {d z : Rat}, Vl .f32 D d → -2 ≤ d → d ≤ 2 → Vl .f32 Z z → -12 ≤ z → z ≤ 12 → ∃ x, Vl .f32 (fbin .add .f32 Z (fbin .mul .f32 D (fbin .quo .f32 T (lngF P I)))) x ∧ -(1 / 200000) ≤ x - (z + q * d) ∧ x - (z + q * d) ≤ 1 / 200000 ∧ (τ = 0 → x = z) := fun {D Z d z} vD d1 d2 vZ z1 z2 => by
    have m1 := mul_bnd (p := d) (q := u - q) (a := 2) (b := 2002 / 1000 / 8388608) d1 d2 (by grind) (by grind)
    have m2 := mul_bnd (p := d) (q := u) (a := 2) (b := 101 / 100) d1 d2 (by grind) (by grind)
    obtain ⟨m, vm, rm⟩ := vl_mul vD vu (fitk (by grind) (by grind))
    have nm := rnd_abs rm 3 (by grind) (by grind)
    obtain ⟨x, vx, rx⟩ := vl_add vZ vm (fitk (by grind) (by grind))
    have nx := rnd_abs rx 16 (by grind) (by grind)
    have key : d * u = q * d + d * (u - q) := by grind
    refine ⟨x, vx, by grind, by grind, fun hz => ?_⟩
    have uz' := uz hz
    rw [uz', Rat.mul_zero] at rm
    have mz := rnd_rep rm (rep_zero _)
    rw [mz, Rat.add_zero] at rx
    exact rnd_rep rx (vl_rep vZ)
  have qb1 := mul_bnd (p := q) (q := pX a (I + 1) - pX a I) (a := 1001 / 1000) (b := 2) (by grind) u1 (by grind) x2
  have qb2 := mul_bnd (p := q) (q := pX c (I + 1) - pX c I) (a := 1001 / 1000) (b := 2) (by grind) u1 (by grind) (by grind)
  obtain ⟨x, vx', e3, e4, zx⟩ := st vx (by grind) x2 vpx (by grind) pa2
  obtain ⟨y, vy', e5, e6, zy⟩ := st vy (by grind) (by grind) vpy (by grind) (by grind)
  exact ⟨x, y, vx', vy', ⟨e3, e4⟩, ⟨e5, e6⟩, by constructor <;> grind, by constructor <;> grind, fun hz => ⟨zx hz, zy hz⟩⟩
end
end Go.Ab
/- What FnSpirals asks of drawn paths. No conditions. -/
namespace Go.Ab
open Go.Proofs
section
variable {n : Nat} {P : Nat → CV} {a c : Nat → Int} {l : Nat → Rat}
theorem Pth.fin (h : Pth n P a c) : (tabC n P).all finC = true := tabC_fin fun i hi => finC_of (h.vx i hi) (h.vy i hi)
theorem Lth.nz (h : Lth n P a c l) (hn : 2 ≤ n) : ∀ i : Int, 0 ≤ i → i < (n - 1 : Nat) → cmpB .eql (fcmp .f32 (fv .f32 0) (lngF P i)) = false := fun i h0 h1 => by
  obtain ⟨j, rfl⟩ : ∃ j : Nat, i = (j : Int) := ⟨i.toNat, by omega⟩
  have hb := h.b j (by omega)
  rw [vl_eql (Vl.c (k := .f32) (b := 0) (q := 0) (by decide +kernel)) (h.v j (by omega))]
  exact decide_eq_false (by grind)
theorem Lth.suS (h : Lth n P a c l) (hn : 2 ≤ n ∧ n ≤ 7) : 49 / 100 ≤ su l (n - 1) ∧ su l (n - 1) ≤ 138 / 10 := by
  have h1 := su_bd (l := l) (m := n - 1) (fun i hi => h.b i (by omega)) (n - 1) (Nat.le_refl _)
  have h2 : ((1 : Nat) : Rat) ≤ ((n - 1 : Nat) : Rat) := natLe (by omega)
  have h3 : ((n - 1 : Nat) : Rat) ≤ ((6 : Nat) : Rat) := natLe (by omega)
  rw [show ((1 : Nat) : Rat) = 1 from rfl] at h2
  rw [show ((6 : Nat) : Rat) = 6 from rfl] at h3
  constructor <;> grind
/-- The k-th point. -/
theorem Lth.res (h : Lth n P a c l) (hp : Pth n P a c) (hn : 2 ≤ n ∧ n ≤ 7) {cnt k : Nat} (hc : 2 ≤ cnt ∧ cnt ≤ 48) (hk : k + 1 ≤ cnt) {q : Rat} (hq : q * ((cnt : Rat) - 1) = (k : Rat)) :
    ∃ I τ x y, I + 1 < n ∧ 0 ≤ τ ∧ (I + 2 = n ∨ τ ≤ l I) ∧ Vl .f32 (rsP P n cnt k).1 x ∧ Vl .f32 (rsP P n cnt k).2 y ∧ (-(1 / 200000) ≤ x - eX a l I τ ∧ x - eX a l I τ ≤ 1 / 200000) ∧ (-(1 / 200000) ≤ y - eX c l I τ ∧ y - eX c l I τ ≤ 1 / 200000) ∧
      (-(1 / 20000) ≤ su l I + τ - su l (n - 1) * q ∧ su l I + τ - su l (n - 1) * q ≤ 1 / 20000) ∧ (-100 ≤ x ∧ x ≤ 100) ∧ (-100 ≤ y ∧ y ≤ 100) ∧ (k = 0 → x = pX a 0 ∧ y = pX c 0) := by
  have hS := h.suS hn
  have c2 : (2 : Rat) ≤ (cnt : Rat) := natLe (i := 2) hc.1
  have k0 : (0 : Rat) ≤ (k : Rat) := Rat.natCast_nonneg
  have kc : (k : Rat) + 1 ≤ (cnt : Rat) := by
    have := natLe hk
    rw [Rat.natCast_add] at this
    exact this
  have q0 : 0 ≤ q := by
    rcases Rat.le_total (a := 0) (b := q) with g | g
    · exact g
    · have := Rat.mul_nonneg (show 0 ≤ -q by grind) (show 0 ≤ (cnt : Rat) - 2 by grind)
      grind
  have q1 : q ≤ 1 := by
    rcases Rat.le_total (a := q) (b := 1) with g | g
    · exact g
    · have := Rat.mul_nonneg (show 0 ≤ q - 1 by grind) (show 0 ≤ (cnt : Rat) - 2 by grind)
      grind
  have n6 : ((n - 1 : Nat) : Rat) ≤ 6 := natLe (j := 6) (by omega)
  by_cases hlast : k + 1 < cnt
  · obtain ⟨A, vA, a1, a2⟩ := h.sum hn.2 (n - 1) (by omega)
    obtain ⟨w, vw, w0, wz, w1, w2⟩ := way_vl vA (by constructor <;> grind) hc hk hq
    have b1 := mul_bnd (p := A - su l (n - 1)) (q := q) (a := 6 / 500000) (b := 1) (by grind) (by grind) (by grind) q1
    have b2 := mul_bnd (p := A) (q := q) (a := 14) (b := 1) (by grind) (by grind) (by grind) q1
    have key : A * q = su l (n - 1) * q + (A - su l (n - 1)) * q := by grind
    obtain ⟨I, T, τ, e1, vT, t0, t1, i1, i2, ⟨p1, p2⟩, hl, hz⟩ := h.adv (n - 2) 0 _ w (by omega) vw w0 (by grind)
    have f5 : ((n - 2 : Nat) : Rat) ≤ 5 := natLe (j := 5) (by omega)
    have su0 : su l 0 = 0 := rfl
    rw [su0] at p1 p2
    have hI : I + 1 < n := by omega
    have tl : τ ≤ l I + 1 / 10000 := by
      rcases hl with e | e
      · have eI : I = n - 2 := by omega
        have e2 : su l (n - 1) = su l I + l I := by
          rw [show n - 1 = I + 1 by omega]
          rfl
        have b3 := Rat.mul_nonneg (show 0 ≤ su l (n - 1) by grind) (show 0 ≤ 1 - q by grind)
        grind
      · grind
    obtain ⟨x, y, vx, vy, ex, ey, bx, b_y, hz2⟩ := h.at hp hn.2 hI vT t0 tl
    have er : rsP P n cnt k = atR P (lngF P) (I, T) := by
      unfold rsP
      rw [if_pos hlast, e1]
    rw [er]
    refine ⟨I, τ, x, y, hI, t0, hl.imp (fun e => by omega) id, vx, vy, ex, ey, by constructor <;> grind, bx, b_y, fun hk0 => ?_⟩
    obtain ⟨zI, zt⟩ := hz (wz hk0)
    have := hz2 zt
    rw [zI] at this
    exact this
  · have ek : k + 1 = cnt := by omega
    have eq1 : q = 1 := by
      have e1 : (k : Rat) = (cnt : Rat) - 1 := by
        rw [← ek, Rat.natCast_add]
        have : ((1 : Nat) : Rat) = 1 := rfl
        grind
      rw [e1] at hq
      have e2 : (q - 1) * ((cnt : Rat) - 1) = 0 := by grind
      rcases Rat.mul_eq_zero.1 e2 with z | z
      · grind
      · grind
    have er : rsP P n cnt k = P (n - 1) := by
      unfold rsP
      rw [if_neg hlast]
    have hb := h.b (n - 2) (by omega)
    have ln : l (n - 2) ≠ 0 := by grind
    have e1 : l (n - 2) / l (n - 2) = 1 := by grind
    have eX1 : eX a l (n - 2) (l (n - 2)) = pX a (n - 1) := by
      unfold eX
      rw [e1, show n - 1 = n - 2 + 1 by omega]
      grind
    have eX2 : eX c l (n - 2) (l (n - 2)) = pX c (n - 1) := by
      unfold eX
      rw [e1, show n - 1 = n - 2 + 1 by omega]
      grind
    have e2 : su l (n - 1) = su l (n - 2) + l (n - 2) := by
      rw [show n - 1 = n - 2 + 1 by omega]
      rfl
    rw [er]
    obtain ⟨⟨pa1, pa2⟩, pc1, pc2⟩ := hp.bdx hn.2 (show n - 1 < n by omega)
    refine ⟨n - 2, l (n - 2), pX a (n - 1), pX c (n - 1), by omega, by grind, .inl (by omega), hp.vx _ (by omega), hp.vy _ (by omega), by rw [eX1]; constructor <;> grind, by rw [eX2]; constructor <;> grind, by rw [e2, eq1]; constructor <;> grind, by constructor <;> grind, by constructor <;> grind, fun hk0 => by omega⟩
theorem Lth.res_fin (h : Lth n P a c l) (hp : Pth n P a c) (hn : 2 ≤ n ∧ n ≤ 7) {cnt : Nat} (hc : 2 ≤ cnt ∧ cnt ≤ 48) : (tabC cnt (rsP P n cnt)).all finC = true := tabC_fin fun k hk => by
  have c2 : (2 : Rat) ≤ (cnt : Rat) := natLe (i := 2) hc.1
  obtain ⟨_, _, x, y, _, _, _, vx, vy, _⟩ := h.res hp hn hc (show k + 1 ≤ cnt from hk) (q := (k : Rat) / ((cnt : Rat) - 1)) (Rat.div_mul_cancel (by grind))
  exact finC_of vx vy
/-- The first and the last. -/
def eqC (p q : CV) : Bool := cmpB .eql (fcmp .f32 p.1 q.1) && cmpB .eql (fcmp .f32 p.2 q.2)
theorem eqC_of {p q : CV} {x y : Rat} (h1 : Vl .f32 p.1 x) (h2 : Vl .f32 q.1 x) (h3 : Vl .f32 p.2 y) (h4 : Vl .f32 q.2 y) : eqC p q = true := by
  unfold eqC
  rw [vl_eql h1 h2, vl_eql h3 h4]
  simp
theorem Lth.res_ends (h : Lth n P a c l) (hp : Pth n P a c) (hn : 2 ≤ n ∧ n ≤ 7) {cnt : Nat} (hc : 2 ≤ cnt ∧ cnt ≤ 48) : eqC (rsP P n cnt 0) (P 0) = true ∧ eqC (rsP P n cnt (cnt - 1)) (P (n - 1)) = true := by
  constructor
  · have c2 : (2 : Rat) ≤ (cnt : Rat) := natLe (i := 2) hc.1
    obtain ⟨_, _, x, y, _, _, _, vx, vy, _, _, _, _, _, hz⟩ := h.res hp hn hc (show 0 + 1 ≤ cnt by omega) (q := 0) (by rw [show ((0 : Nat) : Rat) = 0 from rfl]; grind)
    obtain ⟨rfl, rfl⟩ := hz rfl
    exact eqC_of vx (hp.vx 0 (by omega)) vy (hp.vy 0 (by omega))
  · have er : rsP P n cnt (cnt - 1) = P (n - 1) := by
      unfold rsP
      rw [if_neg (by omega)]
    rw [er]
    exact eqC_of (hp.vx _ (by omega)) (hp.vx _ (by omega)) (hp.vy _ (by omega)) (hp.vy _ (by omega))
/-- The whole way in double precision. -/
def totW (P : Nat → CV) : Nat → FV
  | 0 => fv .f64 0
  | j + 1 => fbin .add .f64 (totW P j) (fconv .f32 .f64 (lngF P j))
theorem Lth.tot (h : Lth n P a c l) (hn : n ≤ 7) : ∀ j, j + 1 ≤ n → ∃ A, Vl .f64 (totW P j) A ∧ -((j : Rat) / 1000000) ≤ A - su l j ∧ A - su l j ≤ (j : Rat) / 1000000
  | 0, _ => ⟨0, Vl.c (k := .f64) (b := 0) (q := 0) (by decide +kernel), by rw [su]; decide +kernel, by rw [su]; decide +kernel⟩
  | j + 1, hj => by
    obtain ⟨A, vA, a1, a2⟩ := h.tot hn j (by omega)
    have hs := su_bd (l := l) (m := j) (fun i hi => h.b i (by omega)) j (Nat.le_refl _)
    have hb := h.b j hj
    have j5 : (j : Rat) ≤ 5 := natLe (j := 5) (by omega)
    have j0 : (0 : Rat) ≤ (j : Rat) := Rat.natCast_nonneg
    obtain ⟨r, vr, rr⟩ := vl_add vA (vl_wide (h.v j hj)) (fit16 (by grind) (by grind))
    have nr := near64 rr (by grind) (by grind)
    have e : ((j + 1 : Nat) : Rat) = (j : Rat) + 1 := Rat.natCast_add j 1
    exact ⟨r, vr, by rw [su, e]; grind, by rw [su, e]; grind⟩
abbrev dE2 : FV := fv .f64 4576918229304087675
theorem vl_dE2 : ∃ q, Vl .f64 dE2 q ∧ 99 / 10000 ≤ q ∧ q ≤ 101 / 10000 := ⟨_, Vl.c (q := 5764607523034235 / 576460752303423488) (by decide +kernel), by decide +kernel, by decide +kernel⟩
def stepW (P : Nat → CV) (n cnt : Nat) : FV := fbin .quo .f64 (totW P (n - 1)) (some (FloatKind.f64.nearest ((cnt : Int) - 1)))
/-- Neighbours are no farther apart than a step, nearly. -/
theorem Lth.res_dist (h : Lth n P a c l) (hp : Pth n P a c) (hn : 2 ≤ n ∧ n ≤ 7) {cnt k : Nat} (hc : 2 ≤ cnt ∧ cnt ≤ 48) (hk : k + 2 ≤ cnt) :
    LongOk (subC2 (rsP P n cnt (k + 1)) (rsP P n cnt k)) ∧ cmpB .gtr (fcmp .f64 (fconv .f32 .f64 (longC (subC2 (rsP P n cnt (k + 1)) (rsP P n cnt k)))) (fbin .add .f64 (stepW P n cnt) dE2)) = false := by
  have hS := h.suS hn
  have c2 : (2 : Rat) ≤ (cnt : Rat) := natLe (i := 2) hc.1
  have c48 : (cnt : Rat) ≤ 48 := natLe (j := 48) hc.2
  have cne : (cnt : Rat) - 1 ≠ 0 := by grind
  have ec : (1 : Rat) / ((cnt : Rat) - 1) * ((cnt : Rat) - 1) = 1 := Rat.div_mul_cancel cne
  generalize hz : (1 : Rat) / ((cnt : Rat) - 1) = z at *
  have z0 : 0 ≤ z := by
    rcases Rat.le_total (a := 0) (b := z) with g | g
    · exact g
    · have := Rat.mul_nonneg (show 0 ≤ -z by grind) (show 0 ≤ (cnt : Rat) - 2 by grind)
      grind
  have z1 : z ≤ 1 := by
    rcases Rat.le_total (a := z) (b := 1) with g | g
    · exact g
    · have := Rat.mul_nonneg (show 0 ≤ z - 1 by grind) (show 0 ≤ (cnt : Rat) - 2 by grind)
      grind
  have ek : ((k + 1 : Nat) : Rat) = (k : Rat) + 1 := Rat.natCast_add k 1
  obtain ⟨I, τ, x, y, hI, t0, t1, vx, vy, ex, ey, ep, bx, b_y, _⟩ := h.res hp hn hc (show k + 1 ≤ cnt by omega) (q := (k : Rat) * z) (by grind)
  obtain ⟨J, υ, u, v, hJ, u0, u1, vu, vv, eu, ev, eq, bu, bv, _⟩ := h.res hp hn hc (show k + 1 + 1 ≤ cnt by omega) (q := ((k : Rat) + 1) * z) (by rw [ek]; grind)
  have key : su l (n - 1) * (((k : Rat) + 1) * z) = su l (n - 1) * ((k : Rat) * z) + su l (n - 1) * z := by grind
  have sz := mul_bnd (p := su l (n - 1)) (q := z) (a := 14) (b := 1) (by grind) (by grind) (by grind) z1
  have sz0 := Rat.mul_nonneg (show 0 ≤ su l (n - 1) by grind) z0
  have hap := h.apart hI hJ t0 u0 t1 u1 (D := su l (n - 1) * z + 1 / 10000) (by constructor <;> grind)
  obtain ⟨dx, vdx, rdx⟩ := vl_sub vu vx (fitk (by grind) (by grind))
  have nx := rnd_abs rdx 200 (by grind) (by grind)
  obtain ⟨dy, vdy, rdy⟩ := vl_sub vv vy (fitk (by grind) (by grind))
  have ny := rnd_abs rdy 200 (by grind) (by grind)
  have ee := Le2.of_abs (x := dx - (eX a l J υ - eX a l I τ)) (y := dy - (eX c l J υ - eX c l I τ)) (a := 1 / 10000) (b := 1 / 10000) (by grind) (by grind) (by grind) (by grind)
  have h1 := hap.add ee
  have e1 : eX a l J υ - eX a l I τ + (dx - (eX a l J υ - eX a l I τ)) = dx := by grind
  have e2 : eX c l J υ - eX c l I τ + (dy - (eX c l J υ - eX c l I τ)) = dy := by grind
  rw [e1, e2] at h1
  obtain ⟨R, vR, hok, R0, hup⟩ := long_up vdx vdy h1 (by grind)
  refine ⟨hok, ?_⟩
  obtain ⟨A, vA, a1, a2⟩ := h.tot hn.2 (n - 1) (by omega)
  have n6 : ((n - 1 : Nat) : Rat) ≤ 6 := natLe (j := 6) (by omega)
  have vc : Vl .f64 (some (FloatKind.f64.nearest ((cnt : Int) - 1))) ((cnt : Rat) - 1) := by
    have := vl_ofInt .f64 ((cnt : Int) - 1) (by
      have : FloatKind.f64.format.fractionBits = 52 := rfl
      rw [this]
      omega)
    rw [Rat.intCast_sub] at this
    exact this
  have eA : A / ((cnt : Rat) - 1) = A * z := by rw [← hz]; grind
  have bA := mul_bnd (p := A) (q := z) (a := 15) (b := 1) (by grind) (by grind) (by grind) z1
  have bAS := mul_bnd (p := A - su l (n - 1)) (q := z) (a := 6 / 1000000) (b := 1) (by grind) (by grind) (by grind) z1
  have q126 : (1000 : Rat) ≤ p2 (ftop .f64 - 1) := by decide +kernel
  obtain ⟨s, vs, rs⟩ := vl_div vA vc cne (by rw [eA]; constructor <;> grind)
  rw [eA] at rs
  have ns := near64 rs (by grind) (by grind)
  obtain ⟨d, hd, d1, d2⟩ := vl_dE2
  have vs' : Vl .f64 (stepW P n cnt) s := vs
  obtain ⟨t, vt, rt⟩ := vl_add vs' hd (fit16 (by grind) (by grind))
  have nt := near64 rt (by grind) (by grind)
  have keyA : A * z = su l (n - 1) * z + (A - su l (n - 1)) * z := by grind
  have vR' : Vl .f32 (longC (subC2 (rsP P n cnt (k + 1)) (rsP P n cnt k))) R := vR
  rw [vl_gtr (vl_wide vR') vt]
  exact decide_eq_false (Rat.not_lt.2 (by grind))
/-- Normals. -/
theorem Lth.nrm_vl (h : Lth n P a c l) (hp : Pth n P a c) (hn : n ≤ 7) {i : Nat} (hi : i + 1 < n) : (LongOk (negC (subC2 (P (i + 1)) (P i))) ∧ cmpB .gtr (fcmp .f32 (longC (negC (subC2 (P (i + 1)) (P i)))) (fv .f32 0)) = true ∧ finC (nrm P i) = true) ∧
    ∃ u v, Vl .f32 (nrm P i).1 u ∧ Vl .f32 (nrm P i).2 v ∧ (-(101 / 100) ≤ u ∧ u ≤ 101 / 100) ∧ (-(101 / 100) ≤ v ∧ v ≤ 101 / 100) := by
  obtain ⟨vx, vy, ⟨x1, x2⟩, y1, y2⟩ := hp.step_vl hi hn
  have vny := vl_fneg vy
  generalize pX a (i + 1) - pX a i = x at *
  generalize pX c (i + 1) - pX c i = y at *
  have hxx : 1 / 4 ≤ x * x := by
    have := Rat.mul_nonneg (show 0 ≤ x - 1 / 2 by grind) (show 0 ≤ x - 1 / 2 by grind)
    grind
  have hx4 := (mul_bnd (p := x) (q := x) (a := 2) (b := 2) (by grind) x2 (by grind) x2).2
  have hy1 := (mul_bnd (p := y) (q := y) (a := 1) (b := 1) y1 y2 y1 y2).2
  have hyy := sqr_nonneg y
  have e30 : (1000 : Rat) ≤ p2 30 := by decide +kernel
  obtain ⟨L, vL, hok, L0, _, hrel⟩ := vl_long vny vx (by constructor <;> grind) (by constructor <;> grind)
  have e90 : p2 (-90) ≤ 1 / 4 := by decide +kernel
  have e20 : p2 (-20) ≤ 1 / 1000000 := by decide +kernel
  have h1 := (hrel (by grind)).1
  have ll := sqr_nonneg L
  have h2 := Rat.mul_le_mul_of_nonneg_left e20 ll
  have hle : Le2 (-y) x (L * (1 + 1 / 500000)) := ⟨by grind, by grind⟩
  have b1 := hle.x
  have b2 := hle.y
  have Lpos : 49 / 100 ≤ L := by
    rcases Rat.le_total (a := 49 / 100) (b := L) with g | g
    · exact g
    · have := Rat.mul_nonneg (show 0 ≤ 49 / 100 - L by grind) (show 0 ≤ 49 / 100 + L by grind)
      grind
  have Lne : L ≠ 0 := by grind
  have p126 : (1000 : Rat) ≤ p2 (ftop .f32 - 1) := by decide +kernel
  have quo : ∀ {Z : FV} {z : Rat}, Vl .f32 Z z → -(L * (1 + 1 / 500000)) ≤ z → z ≤ L * (1 + 1 / 500000) → ∃ r, Vl .f32 (fbin .quo .f32 Z (longC (negC (subC2 (P (i + 1)) (P i))))) r ∧ -(101 / 100) ≤ r ∧ r ≤ 101 / 100 := fun {Z z} vZ z1 z2 => by
    have ez : z / L * L = z := Rat.div_mul_cancel Lne
    have q1 : z / L ≤ 1001 / 1000 := by
      rcases Rat.le_total (a := z / L) (b := 1001 / 1000) with g | g
      · exact g
      · have := Rat.mul_nonneg (show 0 ≤ z / L - 1001 / 1000 by grind) (show 0 ≤ L - 49 / 100 by grind)
        grind
    have q2 : -(1001 / 1000) ≤ z / L := by
      rcases Rat.le_total (a := -(1001 / 1000)) (b := z / L) with g | g
      · exact g
      · have := Rat.mul_nonneg (show 0 ≤ -(1001 / 1000) - z / L by grind) (show 0 ≤ L - 49 / 100 by grind)
        grind
    obtain ⟨r, vr, rr⟩ := vl_div vZ vL Lne ⟨by grind, by grind⟩
    have nr := rnd_abs rr (1001 / 1000) q2 q1
    exact ⟨r, vr, by grind, by grind⟩
  obtain ⟨u, vu, u1, u2⟩ := quo vny b1.1 b1.2
  obtain ⟨v, vv, v1, v2⟩ := quo vx b2.1 b2.2
  have hfin : finC (nrm P i) = true := finC_of (p := nrm P i) vu vv
  have vL' : Vl .f32 (longC (negC (subC2 (P (i + 1)) (P i)))) L := vL
  have hgt : cmpB .gtr (fcmp .f32 (longC (negC (subC2 (P (i + 1)) (P i)))) (fv .f32 0)) = true := by
    rw [vl_gtr vL' (Vl.c (k := .f32) (b := 0) (q := 0) (by decide +kernel))]
    exact decide_eq_true (by grind)
  exact ⟨⟨hok, hgt, hfin⟩, u, v, vu, vv, ⟨u1, u2⟩, v1, v2⟩
/-- A path beside is finite. -/
theorem Lth.off_fin (h : Lth n P a c l) (hp : Pth n P a c) (hn : 2 ≤ n ∧ n ≤ 7) {B M : FV} {β : Rat} (vB : Vl .f32 B β) (b1 : -(1 / 2) ≤ β ∧ β ≤ 1 / 2) (vM : Vl .f32 M (1 / 16)) : ∀ k, k ≤ n → (offO P B M n k).all finC = true
  | 0, _ => rfl
  | k + 1, hk => by
    have ih := h.off_fin hp hn vB b1 vM k (by omega)
    rw [offO, List.all_append, ih, Bool.true_and]
    have vpx := hp.vx k hk
    have vpy := hp.vy k hk
    obtain ⟨⟨pa1, pa2⟩, pc1, pc2⟩ := hp.bdx hn.2 hk
    have vpx : Vl .f32 (P k).1 (pX a k) := vpx
    have vpy : Vl .f32 (P k).2 (pX c k) := vpy
    have st : ∀ {D Z S : FV} {d z s : Rat}, Vl .f32 D d → -3 ≤ d → d ≤ 3 → Vl .f32 Z z → -12 ≤ z → z ≤ 12 → Vl .f32 S s → -9 ≤ s → s ≤ 9 → ∃ x, Vl .f32 (fbin .add .f32 Z (fbin .mul .f32 D S)) x := fun {D Z S d z s} vD d1 d2 vZ z1 z2 vS s1 s2 => by
      have m1 := mul_bnd (p := d) (q := s) (a := 3) (b := 9) d1 d2 s1 s2
      obtain ⟨m, vm, rm⟩ := vl_mul vD vS (fitk (by grind) (by grind))
      have nm := rnd_abs rm 27 (by grind) (by grind)
      obtain ⟨x, vx, _⟩ := vl_add vZ vm (fitk (by grind) (by grind))
      exact ⟨x, vx⟩
    have one : ∀ {i : Nat}, i + 1 < n → finC (addC2 (P k) (scaleC (nrm P i) B)) = true := fun {i} hi => by
      obtain ⟨_, u, v, vu, vv, ⟨u1, u2⟩, v1, v2⟩ := h.nrm_vl hp hn.2 hi
      obtain ⟨x, vx⟩ := st vu (by grind) (by grind) vpx (by grind) (by grind) vB (by grind) (by grind)
      obtain ⟨y, vy⟩ := st vv (by grind) (by grind) vpy (by grind) (by grind) vB (by grind) (by grind)
      exact finC_of (p := addC2 (P k) (scaleC (nrm P i) B)) vx vy
    unfold ptsO
    by_cases he : k = 0 ∨ k + 1 = n
    · rw [if_pos he]
      simp only [List.all_cons, List.all_nil, Bool.and_true]
      exact one (by omega)
    · rw [if_neg he]
      cases hcm : cmpB .geq (fcmp .f32 (fbin .add .f32 (fv .f32 1065353216) (dotF (nrm P (k - 1)) (nrm P k))) M)
      · simp only [List.all_cons, List.all_nil, Bool.and_true, Bool.and_eq_true]
        exact ⟨one (by omega), one (by omega)⟩
      · simp only [List.all_cons, List.all_nil, Bool.and_true]
        obtain ⟨_, u, v, vu, vv, ⟨u1, u2⟩, v1, v2⟩ := h.nrm_vl hp hn.2 (i := k - 1) (by omega)
        obtain ⟨_, s, t, vs, vt, ⟨s1, s2⟩, t1, t2⟩ := h.nrm_vl hp hn.2 (i := k) (by omega)
        have m1 := mul_bnd (p := u) (q := s) (a := 101 / 100) (b := 101 / 100) u1 u2 s1 s2
        have m2 := mul_bnd (p := v) (q := t) (a := 101 / 100) (b := 101 / 100) v1 v2 t1 t2
        obtain ⟨x, vx, rx⟩ := vl_mul vu vs (fitk (by grind) (by grind))
        have nx := rnd_abs rx 2 (by grind) (by grind)
        obtain ⟨y, vy, ry⟩ := vl_mul vv vt (fitk (by grind) (by grind))
        have ny := rnd_abs ry 2 (by grind) (by grind)
        obtain ⟨z, vz, rz⟩ := vl_add vx vy (fitk (by grind) (by grind))
        have nz := rnd_abs rz 5 (by grind) (by grind)
        have v1' : Vl .f32 (fv .f32 1065353216) 1 := Vl.c (by decide +kernel)
        obtain ⟨d, vd, rd⟩ := vl_add v1' vz (fitk (by grind) (by grind))
        have vd' : Vl .f32 (fbin .add .f32 (fv .f32 1065353216) (dotF (nrm P (k - 1)) (nrm P k))) d := vd
        rw [vl_geq vd' vM] at hcm
        have hd := of_decide_eq_true hcm
        have dne : d ≠ 0 := by grind
        have eb : β / d * d = β := Rat.div_mul_cancel dne
        have q1 : β / d ≤ 8 := by
          rcases Rat.le_total (a := β / d) (b := 8) with g | g
          · exact g
          · have := Rat.mul_nonneg (show 0 ≤ β / d - 8 by grind) (show 0 ≤ d - 1 / 16 by grind)
            grind
        have q2 : -8 ≤ β / d := by
          rcases Rat.le_total (a := -8) (b := β / d) with g | g
          · exact g
          · have := Rat.mul_nonneg (show 0 ≤ -8 - β / d by grind) (show 0 ≤ d - 1 / 16 by grind)
            grind
        have p126 : (1000 : Rat) ≤ p2 (ftop .f32 - 1) := by decide +kernel
        obtain ⟨e, ve, re⟩ := vl_div vB vd' dne ⟨by grind, by grind⟩
        have ne := rnd_abs re 8 q2 q1
        obtain ⟨p, vp, rp⟩ := vl_add vu vs (fitk (by grind) (by grind))
        have np := rnd_abs rp (21 / 10) (by grind) (by grind)
        obtain ⟨q, vq, rq⟩ := vl_add vv vt (fitk (by grind) (by grind))
        have nq := rnd_abs rq (21 / 10) (by grind) (by grind)
        obtain ⟨f, vf⟩ := st vp (by grind) (by grind) vpx (by grind) (by grind) ve (by grind) (by grind)
        obtain ⟨g, vg⟩ := st vq (by grind) (by grind) vpy (by grind) (by grind) ve (by grind) (by grind)
        exact finC_of (p := addC2 (P k) (scaleC (addC2 (nrm P (k - 1)) (nrm P k)) (fbin .quo .f32 B (fbin .add .f32 (fv .f32 1065353216) (dotF (nrm P (k - 1)) (nrm P k)))))) vf vg
end
end Go.Ab
