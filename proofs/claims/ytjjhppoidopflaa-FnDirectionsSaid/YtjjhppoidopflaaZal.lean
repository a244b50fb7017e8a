/- Part 12 of the texts on which the law leans, joined: Points of curves by cutting, the reference's, walked. No conditions. -/
import Derived.Test.YtjjhppoidopflaaZak
namespace Go.Ab
section
variable {p q : CV} {x y : Rat}
/-- A direction has the length 1, nearly. -/
theorem unit_near (vx : Vl .f32 p.1 x) (vy : Vl .f32 p.2 y) (hx : -100 ≤ x ∧ x ≤ 100) (hy : -100 ≤ y ∧ y ≤ 100) (hs : 1 / 20 ≤ x * x + y * y) :
    LongOk p ∧ cmpB .gtr (fcmp .f32 (longC p) (fv .f32 0)) = true ∧ finC (unitC p) = true ∧ ∃ u v, Vl .f32 (unitC p).1 u ∧ Vl .f32 (unitC p).2 v ∧ (-(101 / 100) ≤ u ∧ u ≤ 101 / 100) ∧ (-(101 / 100) ≤ v ∧ v ≤ 101 / 100) ∧ 1 - 1 / 100000 ≤ u * u + v * v ∧ u * u + v * v ≤ 1 + 1 / 100000 := by
  have p30 : (1000 : Rat) ≤ p2 30 := by decide +kernel
  obtain ⟨R, vR, ok, R0, hside, hrel⟩ := vl_long vx vy (by constructor <;> grind) (by constructor <;> grind)
  have e90 : p2 (-90) ≤ 1 / 20 := by decide +kernel
  have e20 : p2 (-20) = 1 / 1048576 := by decide +kernel
  obtain ⟨h1, h2⟩ := hrel (by grind)
  rw [e20] at h1 h2
  have RR := sqr_nonneg R
  have Rlo : 22 / 100 ≤ R := sq_le_of (by decide +kernel) R0 (by grind)
  have xx := sqr_nonneg x
  have yy := sqr_nonneg y
  have bnd : ∀ z : Rat, z * z ≤ R * R * (1 + 1 / 1048576) → -(1001 / 1000 * R) ≤ z ∧ z ≤ 1001 / 1000 * R := fun z hz => by
    have hR1 : 0 ≤ 1001 / 1000 * R := by grind
    constructor
    · rcases Rat.le_total (a := 0) (b := z) with g | g
      · grind
      · have := sq_le_of (a := -z) (b := 1001 / 1000 * R) (by grind) hR1 (by grind)
        grind
    · rcases Rat.le_total (a := 0) (b := z) with g | g
      · exact sq_le_of g hR1 (by grind)
      · grind
  have bx := bnd x (by grind)
  have by_ := bnd y (by grind)
  obtain ⟨u, U, vu, eU, ⟨U1, U2⟩, u1, u2⟩ := dvn vx vR (by grind) (1001 / 1000) bx.1 bx.2 (by decide +kernel)
  obtain ⟨v, V, vv, eV, ⟨V1, V2⟩, v1, v2⟩ := dvn vy vR (by grind) (1001 / 1000) by_.1 by_.2 (by decide +kernel)
  have hpos : 0 < R * R := Rat.mul_pos (show 0 < R by grind) (show 0 < R by grind)
  have e : (U * U + V * V) * (R * R) = x * x + y * y := by rw [← eU, ← eV]; grind
  have hUV : 1 - 1 / 1000000 ≤ U * U + V * V := by
    refine Rat.le_of_mul_le_mul_right (c := R * R) ?_ hpos
    rw [e]
    grind
  have hVU : U * U + V * V ≤ 1 + 1 / 1000000 := by
    refine Rat.le_of_mul_le_mul_right (c := R * R) ?_ hpos
    rw [e]
    grind
  have k1 := mul_bnd (p := u - U) (q := u + U) (a := 3 / 8388608) (b := 3) (by grind) (by grind) (by grind) (by grind)
  have k2 := mul_bnd (p := v - V) (q := v + V) (a := 3 / 8388608) (b := 3) (by grind) (by grind) (by grind) (by grind)
  have e1 : u * u = U * U + (u - U) * (u + U) := by grind
  have e2 : v * v = V * V + (v - V) * (v + V) := by grind
  have hg := vl_gtr vR (zvl .f32)
  refine ⟨ok, (show _ = decide (0 < R) from hg).trans (decide_eq_true (by grind)), finC_vl (p := unitC p) vu vv, u, v, vu, vv, ⟨by grind, by grind⟩, ⟨by grind, by grind⟩, ?_, ?_⟩
  · rw [e1, e2]
    grind
  · rw [e1, e2]
    grind
/-- How long it is. -/
theorem one_long {u v : Rat} (vu : Vl .f32 q.1 u) (vv : Vl .f32 q.2 v) (h1 : 1 - 1 / 100000 ≤ u * u + v * v) (h2 : u * u + v * v ≤ 1 + 1 / 100000) (hu : -(101 / 100) ≤ u ∧ u ≤ 101 / 100) (hv : -(101 / 100) ≤ v ∧ v ≤ 101 / 100) :
    LongOk q ∧ ∃ R, Vl .f32 (longC q) R ∧ 999 / 1000 + 6 / 10000 ≤ R ∧ R ≤ 1 + 4 / 10000 := by
  obtain ⟨R, vR, ok, R0, R1⟩ := long_up (x := q.1) (y := q.2) (B := 1 + 1 / 10000) vu vv ⟨by grind, by grind⟩ (by grind)
  have := long_lo (x := q.1) (y := q.2) (B := 1 - 1 / 10000) vu vv (by constructor <;> grind) (by constructor <;> grind) (by grind) (by grind) vR
  exact ⟨ok, R, vR, by grind, by grind⟩
theorem gap_zero {x : FV} {p : Rat} (hx : Vl .f64 x p) (hr : Rep .f64 p) (hr' : Rep .f64 (-p)) (hb : -1000 ≤ p ∧ p ≤ 1000) : ∃ g, Vl .f64 (gapF x (fv .f64 0)) g ∧ 0 ≤ g ∧ (g = p ∨ g = -p) := by
  have h1000 : (1000 : Rat) < p2 (ftop .f64) := by decide +kernel
  unfold gapF
  rw [vl_lss hx (zvl .f64)]
  by_cases h : p < 0
  · rw [if_pos (decide_eq_true h)]
    obtain ⟨r, hr1, hrr⟩ := vl_sub (zvl .f64) hx (by constructor <;> grind)
    rw [show (0 : Rat) - p = -p by grind] at hrr
    obtain rfl := rnd_rep hrr hr'
    exact ⟨_, hr1, by grind, .inr rfl⟩
  · rw [if_neg (by rw [decide_eq_false h]; simp)]
    obtain ⟨r, hr1, hrr⟩ := vl_sub hx (zvl .f64) (by constructor <;> grind)
    rw [show p - (0 : Rat) = p by grind] at hrr
    obtain rfl := rnd_rep hrr hr
    exact ⟨_, hr1, by grind, .inl rfl⟩
end
structure DqOk (n : Nat) (P : Nat → CV) (a b : Nat → Int) : Prop where
  q : ∀ i, i < n → P i = (qtF (a i), qtF (b i))
  a : ∀ i, i < n → 4 * (i : Int) ≤ a i ∧ a i ≤ 4 * (i : Int) + 3
  b : ∀ i, i < n → -8 ≤ b i ∧ b i ≤ 8
/-- Eighths. -/
def te (m : Int) : FV := fbin .quo .f32 (some (FloatKind.f32.nearest m)) (fv .f32 1090519040)
theorem te_tm (m : Nat) (h : m < 9) : Tm (te (m : Int)) ((m : Rat) / 8) :=
  tm_of (allLt_of (p := fun m => tmB (te (m : Int)) ((m : Rat) / 8)) (n := 9) (by decide +kernel) m h)
section
variable {n : Nat} {P : Nat → CV} {a b : Nat → Int} {t : FV} {τ : Rat}
theorem DqOk.pv (h : DqOk n P a b) (hn : 2 ≤ n ∧ n ≤ 5) : Pv n P (quR a) (quR b) 5 := by
  have key : ∀ z : Int, -19 ≤ z → z ≤ 19 → Vl .f32 (qtF z) ((z : Rat) / 4) ∧ -5 ≤ (z : Rat) / 4 ∧ (z : Rat) / 4 ≤ 5 := fun z h1 h2 => by
    have := int_rat_bd (a := z) (B := 19) ⟨by omega, by omega⟩
    have e : ((19 : Nat) : Rat) = 19 := rfl
    exact ⟨quarter_vl (by omega), by grind, by grind⟩
  have ha : ∀ i, i < n → -19 ≤ a i ∧ a i ≤ 19 := fun i hi => by have := h.a i hi; omega
  have hb : ∀ i, i < n → -19 ≤ b i ∧ b i ≤ 19 := fun i hi => by have := h.b i hi; omega
  refine ⟨fun i hi => ?_, fun i hi => ?_, fun i hi => (key _ (ha i hi).1 (ha i hi).2).2, fun i hi => (key _ (hb i hi).1 (hb i hi).2).2⟩
  · rw [h.q i hi]; exact (key _ (ha i hi).1 (ha i hi).2).1
  · rw [h.q i hi]; exact (key _ (hb i hi).1 (hb i hi).2).1
/-- They go to the right. -/
theorem DqOk.right (h : DqOk n P a b) (hT : Tm t τ) (hn : 2 ≤ n ∧ n ≤ 5) : 1 / 4 ≤ Sx (fun _ => one1) t (quR a) n ∧ Sx (fun _ => one1) t (quR a) n ≤ 7 / 4 := by
  unfold Sx
  rw [cx_shift hT]
  have hl := cx_lin (f := fun _ => one1) (t := t) 1 (-1) (-1) (fun j => quR a (j + 1)) (quR a) (n - 2) 0
  have hb := cx_bnd (f := fun _ => one1) (n := n - 1) (wts_one (n - 1)) hT (x := fun i => 1 * quR a (i + 1) + (-1) * quR a i + (-1)) (B := 3 / 4) (fun i hi => by
    have h1 := h.a i (by omega)
    have h2 := h.a (i + 1) (by omega)
    have h3 := int_rat_bd (a := a (i + 1) - a i - 4) (B := 3) (by omega)
    have e : (((a (i + 1) - a i - 4 : Int)) : Rat) = (a (i + 1) : Rat) - (a i : Rat) - 4 := by rw [Rat.intCast_sub, Rat.intCast_sub]; rfl
    have e3 : ((3 : Nat) : Rat) = 3 := rfl
    rw [e, e3] at h3
    show _ ≤ 1 * (((a (i + 1) : Int) : Rat) / 4) + (-1) * (((a i : Int) : Rat) / 4) + (-1) ∧ 1 * (((a (i + 1) : Int) : Rat) / 4) + (-1) * (((a i : Int) : Rat) / 4) + (-1) ≤ _
    constructor <;> grind) (n - 2) (by omega) 0 (by omega)
  rw [hl] at hb
  constructor <;> grind
/-- The slope at a time, and its direction. -/
theorem DqOk.way (h : DqOk n P a b) (hT : Tm t τ) (hn : 2 ≤ n ∧ n ≤ 5) :
    finC (slopeP n P (fun _ => one1) t) = true ∧ LongOk (slopeP n P (fun _ => one1) t) ∧ cmpB .gtr (fcmp .f32 (longC (slopeP n P (fun _ => one1) t)) (fv .f32 0)) = true ∧ finC (unitC (slopeP n P (fun _ => one1) t)) = true ∧
      ∃ u v, Vl .f32 (unitC (slopeP n P (fun _ => one1) t)).1 u ∧ Vl .f32 (unitC (slopeP n P (fun _ => one1) t)).2 v ∧ (-(101 / 100) ≤ u ∧ u ≤ 101 / 100) ∧ (-(101 / 100) ≤ v ∧ v ≤ 101 / 100) ∧ 1 - 1 / 100000 ≤ u * u + v * v ∧ u * u + v * v ≤ 1 + 1 / 100000 := by
  have hn1 := n_bd hn
  have hR := h.right hT hn
  have hV := sx_bound (n := n) (wts_one n) hT hn (h.pv hn).by_
  have hN := slope_nea (wts_one n) hT (slopeBy_one hT hn) (by constructor <;> grind) (show (5 : Rat) ≤ 39 by decide +kernel) hn (h.pv hn)
  have hf := hN.fin
  obtain ⟨u, v, vu, vv, hu, hv⟩ := hN
  generalize Sx (fun _ => one1) t (quR a) n = X at *
  generalize Sx (fun _ => one1) t (quR b) n = Y at *
  generalize (n : Rat) - 1 = m at *
  have m1 := mul_bnd (p := m) (q := X) (a := 4) (b := 7 / 4) (by grind) (by grind) (by grind) (by grind)
  have m2 := mul_bnd (p := m) (q := Y) (a := 4) (b := 10) (by grind) (by grind) (by grind) (by grind)
  have m3 := Rat.mul_le_mul_of_nonneg_left hR.1 (show 0 ≤ m by grind)
  have u1 : 24 / 100 ≤ u := by grind
  have uu := Rat.mul_le_mul_of_nonneg_left u1 (show 0 ≤ u by grind)
  have vv' := sqr_nonneg v
  obtain ⟨h1, h2, h3, h4⟩ := unit_near (p := slopeP n P (fun _ => one1) t) vu vv (by constructor <;> grind) (by constructor <;> grind) (by grind)
  exact ⟨hf, h1, h2, h3, h4⟩
end
end Go.Ab
namespace Go.Ab
def cTh : FV := fv .f64 4562254508917369340
theorem cTh_vl : ∃ C, Vl .f64 cTh C ∧ 1 / 2048 ≤ C := by
  refine ⟨(1152921504606847 : Rat) * p2 (-60), Vl.c (by decide +kernel), by decide +kernel⟩
theorem rep_2048 : Rep .f64 (1 / 2048) := .inl ⟨1, -11, by decide, by decide, by decide +kernel⟩
theorem near_one {q : CV} {u v : Rat} (vu : Vl .f32 q.1 u) (vv : Vl .f32 q.2 v) (h1 : 1 - 1 / 100000 ≤ u * u + v * v) (h2 : u * u + v * v ≤ 1 + 1 / 100000) (hu : -(101 / 100) ≤ u ∧ u ≤ 101 / 100) (hv : -(101 / 100) ≤ v ∧ v ≤ 101 / 100) :
    LongOk q ∧ cmpB .gtr (fcmp .f64 (gapF (fconv .f32 .f64 (longC q)) one64) cTh) = false := by
  obtain ⟨ok, R, vR, R1, R2⟩ := one_long vu vv h1 h2 hu hv
  obtain ⟨C, vC, hC⟩ := cTh_vl
  exact ⟨ok, gap_le (vl_wide vR) one64_vl vC rep_2048 (by decide +kernel) (by grind) (by grind) hC⟩
section
variable {z q : CV} {s : FV} {x y u v β : Rat}
theorem off_near (hx : -6 ≤ x ∧ x ≤ 6) (hβ : -1 ≤ β ∧ β ≤ 1) (hu : -(101 / 100) ≤ u ∧ u ≤ 101 / 100) {z s w : FV} (vz : Vl .f32 z x) (vs : Vl .f32 s β) (vw : Vl .f32 w u) :
    ∃ r, Vl .f32 (fbin .add .f32 z (fbin .mul .f32 w s)) (r) ∧ ∃ d, Vl .f32 (fbin .sub .f32 (fbin .add .f32 z (fbin .mul .f32 w s)) z) d ∧ -(1 / 100000) ≤ d - u * β ∧ d - u * β ≤ 1 / 100000 ∧ -3 ≤ d ∧ d ≤ 3 := by
  have m := mul_bnd (p := u) (q := β) (a := 101 / 100) (b := 1) (by grind) (by grind) (by grind) (by grind)
  obtain ⟨p, vp, _, p1, p2⟩ := mulR vw vs 2 (by grind) (by grind) (by decide +kernel)
  obtain ⟨r, vr, _, r1, r2⟩ := addR vz vp 8 (by grind) (by grind) (by decide +kernel)
  obtain ⟨d, vd, _, d1, d2⟩ := subR vr vz 8 (by grind) (by grind) (by decide +kernel)
  exact ⟨r, vr, d, vd, by grind, by grind, by grind, by grind⟩
/-- A point beside, and how far it is. -/
theorem beside_near (vx : Vl .f32 z.1 x) (vy : Vl .f32 z.2 y) (hx : -6 ≤ x ∧ x ≤ 6) (hy : -6 ≤ y ∧ y ≤ 6) (vu : Vl .f32 q.1 u) (vv : Vl .f32 q.2 v) (h1 : 1 - 1 / 100000 ≤ u * u + v * v) (h2 : u * u + v * v ≤ 1 + 1 / 100000)
    (hu : -(101 / 100) ≤ u ∧ u ≤ 101 / 100) (hv : -(101 / 100) ≤ v ∧ v ≤ 101 / 100) (r : Int) (hr : -4 ≤ r ∧ r ≤ 4) :
    finC (addC2 z (scaleC (negC q) (qtF r))) = true ∧ LongOk (subC2 (addC2 z (scaleC (negC q) (qtF r))) z) ∧
      cmpB .gtr (fcmp .f64 (gapF (fconv .f32 .f64 (longC (subC2 (addC2 z (scaleC (negC q) (qtF r))) z))) (gapF (fconv .f32 .f64 (qtF r)) (fv .f64 0))) cTh) = false := by
  have vs : Vl .f32 (qtF r) ((r : Rat) / 4) := quarter_vl (by omega)
  obtain ⟨hb1, hb2⟩ := int_rat_bd (a := r) (B := 4) (by omega)
  have e4 : ((4 : Nat) : Rat) = 4 := rfl
  rw [e4] at hb1 hb2
  obtain ⟨β, eβ⟩ : ∃ β, β = (r : Rat) / 4 := ⟨_, rfl⟩
  rw [← eβ] at vs
  have hβ : -1 ≤ β ∧ β ≤ 1 := by constructor <;> grind
  obtain ⟨r1, vr1, d1, vd1, d11, d12, d13⟩ := off_near (z := z.1) (s := qtF r) (w := (negC q).1) hx hβ (u := -v) (by constructor <;> grind) vx vs (vl_fneg vv)
  obtain ⟨r2, vr2, d2, vd2, d21, d22, d23⟩ := off_near (z := z.2) (s := qtF r) (w := (negC q).2) hy hβ hu vy vs vu
  have rep : Rep .f64 β := rep_wide vs
  have rep' : Rep .f64 (-β) := rep_wide (vl_fneg vs)
  obtain ⟨g, vg, g0, hg⟩ := gap_zero (vl_wide vs) rep rep' (by constructor <;> grind)
  have gg : g * g = β * β := by rcases hg with rfl | rfl <;> grind
  have g1 : g ≤ 1 := by rcases hg with rfl | rfl <;> grind
  have gq : g = 0 ∨ 1 / 4 ≤ g := by
    rcases Int.lt_trichotomy r 0 with h | h | h
    · right
      have h3 : r ≤ -1 := by omega
      have h4 : (r : Rat) ≤ ((-1 : Int) : Rat) := Rat.intCast_le_intCast.2 h3
      have h5 : ((-1 : Int) : Rat) = -1 := rfl
      rcases hg with rfl | rfl <;> grind
    · left
      have h5 : ((0 : Int) : Rat) = 0 := rfl
      subst h
      rcases hg with rfl | rfl <;> grind
    · right
      have h3 : 1 ≤ r := by omega
      have h4 : ((1 : Int) : Rat) ≤ (r : Rat) := Rat.intCast_le_intCast.2 h3
      have h5 : ((1 : Int) : Rat) = 1 := rfl
      rcases hg with rfl | rfl <;> grind
  -- the sum of the squares
  obtain ⟨e1, he1⟩ : ∃ e, e = d1 - -v * β := ⟨_, rfl⟩
  obtain ⟨e2, he2⟩ : ∃ e, e = d2 - u * β := ⟨_, rfl⟩
  have es : d1 * d1 + d2 * d2 = (u * u + v * v) * (g * g) + (2 * (-v * β) * e1 + 2 * (u * β) * e2) + (e1 * e1 + e2 * e2) := by rw [gg, he1, he2]; grind
  have q1 := mul_bnd (p := e1) (q := e1) (a := 1 / 100000) (b := 1 / 100000) (by grind) (by grind) (by grind) (by grind)
  have q2 := mul_bnd (p := e2) (q := e2) (a := 1 / 100000) (b := 1 / 100000) (by grind) (by grind) (by grind) (by grind)
  have s1 := sqr_nonneg e1
  have s2 := sqr_nonneg e2
  have bg : -g ≤ β ∧ β ≤ g := by rcases hg with h | h <;> constructor <;> grind
  have c1 := mul_bnd (p := -v) (q := e1) (a := 101 / 100) (b := 1 / 100000) (by grind) (by grind) (by grind) (by grind)
  have c2 := mul_bnd (p := u) (q := e2) (a := 101 / 100) (b := 1 / 100000) (by grind) (by grind) (by grind) (by grind)
  have c3 := mul_bnd (p := β) (q := -v * e1 + u * e2) (a := g) (b := 3 / 100000) bg.1 bg.2 (by grind) (by grind)
  have ec : 2 * (-v * β) * e1 + 2 * (u * β) * e2 = 2 * (β * (-v * e1 + u * e2)) := by grind
  have g2 := Rat.mul_le_mul_of_nonneg_left h1 (sqr_nonneg g)
  have g3 := Rat.mul_le_mul_of_nonneg_left h2 (sqr_nonneg g)
  have gle := Rat.mul_le_mul_of_nonneg_left g1 g0
  have hS1 : g * g - 7 / 100000 * g ≤ d1 * d1 + d2 * d2 := by rw [es, ec]; grind
  have hS2 : d1 * d1 + d2 * d2 ≤ g * g + 7 / 100000 * g + 2 / 10000000000 := by rw [es, ec]; grind
  clear es ec c1 c2 c3 q1 q2 s1 s2 g2 g3
  have eB1 : (g + 1 / 4000) * (g + 1 / 4000) = g * g + 1 / 2000 * g + 1 / 16000000 := by grind
  have eB2 : (g - 1 / 4000) * (g - 1 / 4000) = g * g - 1 / 2000 * g + 1 / 16000000 := by grind
  have Bn : 0 ≤ g + 1 / 4000 := by grind
  obtain ⟨R, vR, ok, R0, R1⟩ := long_up (x := (subC2 (addC2 z (scaleC (negC q) (qtF r))) z).1) (y := (subC2 (addC2 z (scaleC (negC q) (qtF r))) z).2) (B := g + 1 / 4000) vd1 vd2 ⟨Bn, by grind⟩ (by grind)
  have R2 : g - 1 / 3000 ≤ R := by
    rcases gq with h | h
    · grind
    · have := long_lo (x := (subC2 (addC2 z (scaleC (negC q) (qtF r))) z).1) (y := (subC2 (addC2 z (scaleC (negC q) (qtF r))) z).2) (B := g - 1 / 4000) vd1 vd2 (by constructor <;> grind) (by constructor <;> grind) (by grind) (by grind) vR
      grind
  obtain ⟨C, vC, hC⟩ := cTh_vl
  exact ⟨finC_vl (p := addC2 z (scaleC (negC q) (qtF r))) vr1 vr2, ok, gap_le (vl_wide vR) vg vC rep_2048 (by decide +kernel) (by grind) (by grind) hC⟩
end
section
variable {n : Nat} {P : Nat → CV} {a b : Nat → Int} {t : FV} {τ : Rat}
theorem DqOk.at (h : DqOk n P a b) (hT : Tm t τ) (hn : 2 ≤ n ∧ n ≤ 5) : finC (pointP n P (fun _ => one1) t) = true ∧ ∃ x y, Vl .f32 (pointP n P (fun _ => one1) t).1 x ∧ Vl .f32 (pointP n P (fun _ => one1) t).2 y ∧ (-6 ≤ x ∧ x ≤ 6) ∧ (-6 ≤ y ∧ y ≤ 6) := by
  have hN := point_nea (wts_one n) hT (show (5 : Rat) ≤ 39 by decide +kernel) hn (h.pv hn)
  have hx := cx_bound (n := n) (wts_one n) hT hn (h.pv hn).bx
  have hy := cx_bound (n := n) (wts_one n) hT hn (h.pv hn).by_
  have hf := hN.fin
  obtain ⟨u, v, vu, vv, hu, hv⟩ := hN
  exact ⟨hf, u, v, vu, vv, by constructor <;> grind, by constructor <;> grind⟩
end
end Go.Ab
namespace Go.Ab
open Go.Proofs
variable {R : World → Prop} [RStab R]
structure Bc where
  ga : Nat
  gb : Nat
  ca : Nat
  cb : Nat
  P : Nat → CV
  a : Nat → Int
  b : Nat → Int
theorem DqOk.put {n : Nat} {P : Nat → CV} {a b : Nat → Int} (h : DqOk n P a b) {u v : Int} (hu : 4 * (n : Int) ≤ u ∧ u ≤ 4 * (n : Int) + 3) (hv : -8 ≤ v ∧ v ≤ 8) : DqOk (n + 1) (putU n (qtF u, qtF v) P) (putU n u a) (putU n v b) := by
  refine ⟨fun i hi => ?_, fun i hi => ?_, fun i hi => ?_⟩
  all_goals
    rcases Nat.lt_or_ge i n with h1 | h1
    · simp only [putU_ne _ _ (show i ≠ n by omega)]
      first | exact h.q i h1 | exact h.a i h1 | exact h.b i h1
    · obtain rfl : i = n := by omega
      simp only [putU_at]
      try assumption
attribute [local irreducible] WS RS Done OpJ Then InBlock Round Ret Env.sub FnH
attribute [local irreducible] tab tabC
theorem b10Curve_fn (L : List By) (n : Nat) (hn : 2 ≤ n ∧ n ≤ 8) (hL : L.length < 2 ^ 40) :
    FnH (X := Bc) Try.prog 5 (fun w => [slB w L, .raw (.int .i64 ((n : Int) - 1))]) [] (fun y => crvOc y.ga y.gb n y.ca y.cb) (fun y => [entF y.gb 30 n (fun _ => one1) y.cb, entC y.ga n y.P y.ca])
      (fun y => ((n ≤ y.ca ∧ y.ca ≤ maxLen) ∧ n ≤ y.cb ∧ y.cb ≤ maxLen) ∧ DqOk n y.P y.a y.b) := by
  refine fn_intro Try.func5 rfl Try.ntmps5 (fun _ => Nat.le_of_ble_eq_true rfl) fun w0 => ?_
  repeat first | refine zaa rfl (zay rfl) ?_ | refine zaa rfl (zaz rfl) ?_ | refine zah ?_ | (refine zcr ?_; refine zcs ?_) | (refine zdb ?_; first | refine zdc ?_ | refine zdd ?_ | refine zde ?_) | (refine zal rfl rfl ?_; intro g) | (refine rs_call1 (l00From_fn w0 L) rfl rfl (Takes.same Takes.nil) rfl ?_; rintro gs -) | (refine rs_lit0 rfl ?_; intro g0)
  refine ws_fact (fun w hw => own_new (en := srcE w0 gs L 0 0) hw (mt mh)) fun hgs => ?_
  have hk : KeepW w0 w0 [] := ⟨Ext.refl _, fun x hx => by cases hx⟩
  rw [entC_nilU (F := fun _ => (none, none))]
  obtain ⟨g4, hg4⟩ : ∃ x, x = g := ⟨g, rfl⟩
  subst hg4
  refine ws_loop (ι := Nat × Bc × Dr) (fun y => [(1, .raw (.int .i64 ((n : Int) - 1))), (4, .raw (.pointer (some ⟨g4, 0, none⟩))), (5, .raw (.pointer (some ⟨gs, 0, none⟩))), (6, .raw (.slice (some ⟨y.2.1.ga, 0, none⟩) y.1 y.2.1.ca)), (7, .raw (.int .i64 (y.1 : Nat)))])
    (fun y => St w0 [] [entC y.2.1.ga y.1 y.2.1.P y.2.1.ca, srcE w0 gs L y.2.2.at_ y.2.2.seed, ⟨g4, 27, [.raw (.slice none 0 0), .raw (.slice none 0 0)], 2⟩]) (fun y => y.1 ≤ n ∧ (y.1 ≤ y.2.1.ca ∧ y.2.1.ca ≤ maxLen) ∧ DqOk y.1 y.2.1.P y.2.1.a y.2.1.b ∧ y.2.2.at_ = 2 * y.1) (fun y => n - y.1)
    (0, ⟨g0, 0, 0, 0, fun _ => (none, none), fun _ => 0, fun _ => 0⟩, ⟨0, 0, 0⟩) ⟨Nat.zero_le _, ⟨Nat.le_refl _, Nat.zero_le _⟩, ⟨fun i hi => by simp only at hi; omega, fun i hi => by simp only at hi; omega, fun i hi => by simp only at hi; omega⟩, by simp⟩ ?_ (fun _ h => h) (fun y hy => ?_)
  · (repeat (first | exact Env.sub_nil _ | refine Env.sub_cons rfl ?_))
  obtain ⟨k, ⟨ga, gb, ca, cb, P, a, b⟩, ⟨r, at1, seed1⟩⟩ := y
  simp only at hy ⊢
  obtain ⟨hkn, ⟨hc1, hc2⟩, hd, rfl⟩ := hy
  simp only [maxLen] at hc1 hc2
  repeat first | refine zaa rfl (zay rfl) ?_ | (refine zac ?_; refine zaa rfl (zbf rfl rfl) ?_) | refine zah ?_ | (refine zcr ?_; refine zcs ?_) | (refine zdb ?_; first | refine zdc ?_ | refine zdd ?_)
  refine ws_cond rfl (fun hd1 => ?_) (fun hd1 => ?_)
  case' refine_2 =>
    have hge : ¬ (k : Int) ≤ (n : Int) - 1 := of_decide_eq_false hd1
    obtain rfl : k = n := by omega
    have hSp := specPlain_fn (n := k) (P := P) (by omega)
    repeat first | refine zaa rfl (zay rfl) ?_ | (refine zcr ?_; first | refine zcs ?_ | refine zcu ?_ | refine zcx ?_ | refine zda ?_) | (refine zdb ?_; first | refine zdc ?_ | refine zdd ?_ | refine zdh ?_)
    refine rs_callM3 hSp rfl rfl (Takes.ownE ⟨_, _, mh⟩ (by simp) hc1 (by simp only [maxLen]; omega) Takes.nil) rfl ?_
    rintro ⟨⟨a', b'⟩, ca', cb'⟩ ⟨h1, h2⟩
    dsimp only at h1 h2 ⊢
    repeat first | refine zah ?_ | (refine zcr ?_; refine zcs ?_) | (refine zdb ?_; refine zdg ?_) | (refine zag ?_; refine zan 4 rfl rfl rfl rfl rfl rfl rfl rfl rfl ?_)
    exact done_retX rfl rfl (⟨a', b', ca', cb', P, a, b⟩ : Bc) rfl (mt (mt (mt (mt mh)))) rfl rfl rfl ⟨⟨h1, h2⟩, hd⟩ (.cons_cons _ (.cons_cons _ (List.nil_sublist _)))
  have hlt : (k : Int) ≤ (n : Int) - 1 := of_decide_eq_true hd1
  clear hd1
  have hp1 := pick_fn w0 gs L (2 * (k : Int)) seed1 4 (by omega) (by omega) hL
  repeat first | refine zaa rfl (zay rfl) ?_ | refine zaa rfl (zaz rfl) ?_ | (refine zac ?_; first | refine zaa rfl (zba rfl rfl rfl) ?_ | refine zaa rfl (opj_mul (x := 4) (y := (k : Int)) rfl rfl (by omega)) ?_ | refine zaa rfl (zbb (x := 4 * (k : Int)) (y := r2) rfl rfl (by omega)) ?_) | refine zaa rfl (zby rfl) ?_ | refine zah ?_ | (refine zcr ?_; refine zcs ?_) | (refine zdb ?_; first | refine zdc ?_ | refine zdd ?_ | refine zde ?_ | refine zdf ?_) | (refine rs_callAt 1 hp1 rfl rfl rfl (Takes.srcP hk hgs (Takes.same Takes.nil)) rfl ?_; rintro ⟨r2, a2, s2⟩ ⟨hr1, hr2, hr3⟩; simp only at hr1 hr2 hr3)
  have hp2 := pick_fn w0 gs L a2 s2 17 (by omega) (by omega) hL
  repeat first | (refine zac ?_; first | refine zaa rfl (zba rfl rfl rfl) ?_ | refine zaa rfl (zbc (x := r4) (y := 8) rfl rfl (by omega)) ?_) | (refine zad ?_; refine zaa rfl (zbr rfl rfl) ?_) | refine zaa rfl (zby rfl) ?_ | (refine rs_callAt 1 hp2 rfl rfl rfl (Takes.srcP hk hgs (Takes.same Takes.nil)) rfl ?_; rintro ⟨r4, a4, s4⟩ ⟨hr5, hr6, hr7⟩; simp only at hr5 hr6 hr7) | refine zaa rfl (zco rfl rfl rfl rfl rfl rfl) ?_
  refine rs_appendC 0 (putU k (qtF (4 * (k : Int) + r2), qtF (r4 - 8)) P) rfl rfl rfl rfl ⟨hc1, by simp only [maxLen]; omega⟩ (by omega) rfl rfl (putU_at _ _ _) (fun s h => putU_ne _ _ (by omega)) fun g3 c3 h3 h3' => ?_
  repeat first | refine zaa rfl (zay rfl) ?_ | refine zaa rfl (zaz rfl) ?_ | (refine zac ?_; refine zaa rfl (zbb rfl rfl (by omega)) ?_) | refine zah ?_ | (refine zcr ?_; first | refine zcs ?_ | refine zcv ?_) | (refine zdb ?_; refine zdd ?_)
  refine done_round (k + 1, ⟨g3, gb, c3, cb, putU k (qtF (4 * (k : Int) + r2), qtF (r4 - 8)) P, putU k (4 * (k : Int) + r2) a, putU k (r4 - 8) b⟩, ⟨r4, a4, s4⟩) ⟨by simp only; omega, ⟨h3, h3'⟩, hd.put (by omega) (by omega), by simp only; omega⟩ (by simp only; omega) ?_ (fun _ h => h)
  simp only
  rw [show ((k + 1 : Nat) : Int) = (k : Int) + 1 from by omega]
  (repeat (first | exact Env.sub_nil _ | refine Env.sub_cons rfl ?_))
end Go.Ab
namespace Go.Ab
open Go.Proofs
variable {R : World → Prop} [RStab R]
attribute [local irreducible] WS RS Done OpJ Then InBlock Round Ret Env.sub FnH
attribute [local irreducible] tab tabC
theorem l02Times_fn (p : CV) (h : FV) : Fn Try.prog 74 (fun _ => [cA p, .f .f32 h]) (cA (scaleC p h)) := by
  refine fn_intro Try.func74 rfl Try.ntmps74 (fun _ => Nat.le_of_ble_eq_true rfl) fun w0 => ?_
  unfold cA
  repeat first | refine zaa rfl (zay rfl) ?_ | refine zaa rfl (zaz rfl) ?_ | (refine zac ?_; refine zaa rfl (zba rfl rfl rfl) ?_) | (refine zad ?_; first | refine zaa rfl (zbp rfl) ?_ | refine zaa rfl (zbq rfl) ?_ | refine zaa rfl (zbr rfl rfl) ?_) | refine zah ?_ | (refine zcr ?_; refine zcs ?_) | (refine zdb ?_; first | refine zdc ?_ | refine zdd ?_ | refine zdg ?_)
  exact done_ret1 rfl () rfl trivial (List.nil_sublist _)
theorem l02Blend_fn (a b : CV) (u v t : FV) : Fn Try.prog 73 (fun _ => [cA a, cA b, .f .f32 u, .f .f32 v, .f .f32 t]) (.tup [cA (blC a b u v t), .f .f32 (blW u v t)]) := by
  have h1 := l02Times_fn a (fbin .mul .f32 u (fbin .sub .f32 one1 t))
  have h2 := l02Times_fn b (fbin .mul .f32 v t)
  have h3 := l02Times_fn (addC2 (scaleC a (fbin .mul .f32 u (fbin .sub .f32 one1 t))) (scaleC b (fbin .mul .f32 v t))) (fbin .quo .f32 one1 (blW u v t))
  refine fn_intro Try.func73 rfl Try.ntmps73 (fun _ => Nat.le_of_ble_eq_true rfl) fun w0 => ?_
  repeat first | refine zaa rfl (zay rfl) ?_ | refine zaa rfl (zaz rfl) ?_ | (refine zac ?_; first | refine zaa rfl (zba rfl rfl rfl) ?_ | refine zaa rfl (opj_cadd rfl rfl) ?_) | (refine zad ?_; first | (refine zaa rfl (zci rfl rfl (h1) ?_) ?_; (focus ((repeat (first | exact Takes.nil | refine Takes.sl ?_ | refine Takes.lit ?_ | refine Takes.fa ?_ | refine Takes.fc ?_ | refine Takes.net ?_ | (refine Takes.ownE ?_ ?_ ?_ ?_ ?_; (focus (exact ⟨_, _, (by (repeat (first | exact mh | refine mt ?_)); done)⟩)); (focus (simp; done)); (focus omega); (focus (simp only [maxLen]; omega))) | refine Takes.same ?_)); done))) | (refine zaa rfl (zci rfl rfl (h2) ?_) ?_; (focus ((repeat (first | exact Takes.nil | refine Takes.sl ?_ | refine Takes.lit ?_ | refine Takes.fa ?_ | refine Takes.fc ?_ | refine Takes.net ?_ | (refine Takes.ownE ?_ ?_ ?_ ?_ ?_; (focus (exact ⟨_, _, (by (repeat (first | exact mh | refine mt ?_)); done)⟩)); (focus (simp; done)); (focus omega); (focus (simp only [maxLen]; omega))) | refine Takes.same ?_)); done))) | (refine zaa rfl (zci rfl rfl (h3) ?_) ?_; (focus ((repeat (first | exact Takes.nil | refine Takes.sl ?_ | refine Takes.lit ?_ | refine Takes.fa ?_ | refine Takes.fc ?_ | refine Takes.net ?_ | (refine Takes.ownE ?_ ?_ ?_ ?_ ?_; (focus (exact ⟨_, _, (by (repeat (first | exact mh | refine mt ?_)); done)⟩)); (focus (simp; done)); (focus omega); (focus (simp only [maxLen]; omega))) | refine Takes.same ?_)); done)))) | refine zah ?_ | (refine zcr ?_; refine zcs ?_) | (refine zdb ?_; first | refine zdc ?_ | refine zdd ?_ | refine zdg ?_)
  exact done_ret2 rfl () rfl rfl rfl trivial (List.nil_sublist _)
/-- Where a row stands: how many points it has, and its lists. -/
def rowWd (T Tc : TypeId) (w0 : World) (g4 g5 : Nat) (P' : Nat → CV) (f' : Int → FV) (y : Nat × (Nat × Nat) × Nat × Nat) : World → Prop := match y.1 with
  | 0 => St w0 [] [⟨g5, Tc, [.raw (.slice none 0 0), .raw (.slice none 0 0)], 2⟩, ⟨g4, Tc, [.raw (.slice none 0 0), .raw (.slice none 0 0)], 2⟩]
  | i + 1 => St w0 [] [⟨g5, Tc, [.raw (.slice (some ⟨y.2.1.1, 0, none⟩) (i + 1) y.2.2.1), .raw (.slice (some ⟨y.2.1.2, 0, none⟩) (i + 1) y.2.2.2)], 2⟩, ⟨g4, Tc, [.raw (.slice none 0 0), .raw (.slice none 0 0)], 2⟩, entC y.2.1.1 (i + 1) P' y.2.2.1, entF y.2.1.2 T (i + 1) f' y.2.2.2]
theorem l02Row_fn {n : Nat} {P : Nat → CV} {f : Int → FV} {t : FV} (hn : 2 ≤ n ∧ n ≤ 1000) :
    FnH (X := (Nat × Nat) × Nat × Nat) Try.prog 61 (fun w => [crvQ w n P f, .f .f32 t]) []
      (fun y => crvOc y.1.1 y.1.2 (n - 1) y.2.1 y.2.2) (fun y => [entC y.1.1 (n - 1) (rowP P f t) y.2.1, entF y.1.2 30 (n - 1) (rowW f t) y.2.2]) (fun y => (n - 1 ≤ y.2.1 ∧ y.2.1 ≤ maxLen) ∧ n - 1 ≤ y.2.2 ∧ y.2.2 ≤ maxLen) := by
  have hB : ∀ i : Nat, Fn Try.prog 73 (fun _ => [cA (P i), cA (P (i + 1)), .f .f32 (f i), .f .f32 (f ((i : Int) + 1)), .f .f32 t]) (.tup [cA (rowP P f t i), .f .f32 (rowW f t i)]) := fun i => l02Blend_fn _ _ _ _ _
  obtain ⟨P', hP'⟩ : ∃ P', P' = rowP P f t := ⟨_, rfl⟩
  obtain ⟨f', hf'⟩ : ∃ f', f' = rowW f t := ⟨_, rfl⟩
  rw [← hP', ← hf'] at hB ⊢
  have e1 : ∀ i : Nat, ((i : Int) + 1).toNat = i + 1 := fun i => by omega
  have e0 : ∀ i : Nat, (i : Int).toNat = i := fun i => rfl
  refine fn_intro Try.func61 rfl Try.ntmps61 (fun _ => Nat.le_of_ble_eq_true rfl) fun w0 => ?_
  repeat first | refine zaa rfl (zaz rfl) ?_ | refine zah ?_ | (refine zcr ?_; refine zcs ?_) | (refine zdb ?_; first | refine zdc ?_ | refine zdd ?_ | refine zde ?_) | (refine zal rfl rfl ?_; intro g) | (refine zag ?_; refine zan 0 rfl rfl rfl rfl rfl rfl rfl rfl rfl ?_) | refine zaa rfl opj_buildZ ?_
  rename_i g4
  obtain ⟨g5, hg5⟩ : ∃ x, x = g := ⟨g, rfl⟩
  subst hg5
  refine ws_loop (ι := Nat × (Nat × Nat) × Nat × Nat) (fun y => [(0, crvQ w0 n P f), (1, .f .f32 t), (4, .raw (.pointer (some ⟨g4, 0, none⟩))), (5, .raw (.pointer (some ⟨g5, 0, none⟩))), (6, .raw (.int .i64 (y.1 : Nat)))])
    (rowWd 30 27 w0 g4 g5 P' f') (fun y => y.1 + 1 ≤ n ∧ (y.1 ≤ y.2.2.1 ∧ y.2.2.1 ≤ maxLen) ∧ y.1 ≤ y.2.2.2 ∧ y.2.2.2 ≤ maxLen) (fun y => n - y.1) (0, (0, 0), 0, 0) ⟨by simp only; omega, by simp only; omega, by simp only; omega⟩ ?_ (fun _ h => h) (fun y hy => ?_)
  · (repeat (first | exact Env.sub_nil _ | refine Env.sub_cons rfl ?_))
  obtain ⟨i, ⟨a, b⟩, ca, cb⟩ := y
  simp only at hy ⊢
  obtain ⟨hi, ⟨hca1, hca2⟩, hcb1, hcb2⟩ := hy
  simp only [maxLen] at hca1 hca2 hcb1 hcb2
  have hBi : Fn Try.prog 73 (fun _ => [cA (P (i : Int).toNat), cA (P ((i : Int) + 1).toNat), .f .f32 (f i), .f .f32 (f ((i : Int) + 1)), .f .f32 t]) (.tup [cA (P' i), .f .f32 (f' i)]) := by
    rw [e1, e0]
    exact hB i
  cases i with
  | zero =>
    unfold rowWd
    dsimp only
    repeat first | refine zaa rfl (zay rfl) ?_ | (refine zac ?_; first | refine zaa rfl (zbb rfl rfl (by omega)) ?_ | refine zaa rfl (zbe rfl rfl) ?_) | (refine zad ?_; refine zaa rfl (opj_lenC rfl) ?_) | refine zah ?_ | (refine zcr ?_; refine zcs ?_) | (refine zdb ?_; first | refine zdc ?_ | refine zdd ?_) | refine zaa rfl (opj_nilZ rfl) ?_ | refine zaa rfl (opj_fieldZ rfl) ?_ | refine zaa rfl (opj_loadZ rfl rfl rfl) ?_
    refine ws_cond rfl (fun hd => ?_) (fun hd => ?_)
    case' refine_2 =>
      exfalso
      have := of_decide_eq_false hd
      omega
    clear hd
    repeat first | (refine zcr ?_; refine zcs ?_) | (refine zdb ?_; first | refine zdc ?_ | refine zde ?_ | refine zdf ?_)
    refine ws_draw (n := 37) mixed (by decide +kernel) ?_
    repeat first | refine zap rfl (zay rfl) ?_ | refine zap rfl (zaz rfl) ?_ | (refine zar ?_; refine zap rfl (zbb rfl rfl (by omega)) ?_) | (refine zas ?_; (refine zap rfl (zci rfl rfl (hBi) ?_) ?_; (focus ((repeat (first | exact Takes.nil | refine Takes.sl ?_ | refine Takes.lit ?_ | refine Takes.fa ?_ | refine Takes.fc ?_ | refine Takes.net ?_ | (refine Takes.ownE ?_ ?_ ?_ ?_ ?_; (focus (exact ⟨_, _, (by (repeat (first | exact mh | refine mt ?_)); done)⟩)); (focus (simp; done)); (focus omega); (focus (simp only [maxLen]; omega))) | refine Takes.same ?_)); done)))) | (refine zat ?_; refine zap rfl (zbu rfl rfl) ?_) | (refine zau ?_; first | refine zap rfl (opj_indexC rfl rfl (by omega) (by omega)) ?_ | refine zap rfl (zbs rfl rfl (by omega) (by omega)) ?_) | refine zap rfl (zbz rfl rfl) ?_ | refine zav ?_ | refine zap rfl (opj_nilZ rfl) ?_ | refine zap rfl (opj_fieldZ rfl) ?_ | refine zap rfl (opj_loadZ rfl rfl rfl) ?_
    repeat first | refine zaa rfl (zay rfl) ?_ | (refine zae ?_; refine zaa rfl (zcf rfl rfl (by (repeat (first | exact mh | refine mt ?_)); done) rfl) ?_) | refine zaa rfl (zcd rfl) ?_ | refine zah ?_ | (refine zcr ?_; refine zcs ?_) | (refine zdb ?_; first | refine zdc ?_ | refine zdd ?_) | refine zaa rfl (zco rfl rfl rfl rfl rfl rfl) ?_
    refine rs_appendNil2 (sz := 1) (m := 1) (ys := [cA (P' 0)]) rfl (by omega) rfl ⟨_, rfl, fun w v _ h => h.inv_p.2⟩ rfl (by omega) rfl (by simp only [maxLen]; omega) (by omega) rfl fun a' ca' h1 h2 => ?_
    rw [entC_one]
    repeat first | refine zaa rfl (zay rfl) ?_ | (refine zae ?_; refine zaa rfl (zcf rfl rfl (by (repeat (first | exact mh | refine mt ?_)); done) rfl) ?_) | refine zaa rfl (zcd rfl) ?_ | refine zah ?_ | (refine zcr ?_; refine zcs ?_) | (refine zdb ?_; refine zdd ?_) | (refine zag ?_; refine zam 1 rfl rfl rfl rfl rfl rfl ?_) | refine zaa rfl (zco rfl rfl rfl rfl rfl rfl) ?_
    refine rs_appendNil2 (sz := 1) (m := 1) (ys := [.f .f32 (f' 0)]) rfl (by omega) rfl ⟨_, rfl, fun w v _ h => h.inv_p.2⟩ rfl (by omega) rfl (by simp only [maxLen]; omega) (by omega) rfl fun b' cb' h3 h4 => ?_
    rw [entF_one]
    repeat first | refine zaa rfl (zay rfl) ?_ | refine zaa rfl (zaz rfl) ?_ | (refine zac ?_; refine zaa rfl (zbb rfl rfl (by omega)) ?_) | refine zaa rfl (zcd rfl) ?_ | refine zah ?_ | (refine zcr ?_; first | refine zcs ?_ | refine zcv ?_) | (refine zdb ?_; refine zdd ?_) | (refine zag ?_; refine zam 2 rfl rfl rfl rfl rfl rfl ?_)
    refine done_round (1, (a', b'), ca', cb') ⟨by simp only; omega, ⟨h1, h2⟩, h3, h4⟩ (by simp only; omega) ?_ (fun w h => ?_)
    · simp only
      (repeat (first | exact Env.sub_nil _ | refine Env.sub_cons rfl ?_))
    · exact h.swap.rot4.rot4
  | succ j =>
    unfold rowWd
    dsimp only
    repeat first | refine zaa rfl (zay rfl) ?_ | (refine zac ?_; first | refine zaa rfl (zbb rfl rfl (by omega)) ?_ | refine zaa rfl (zbe rfl rfl) ?_) | (refine zad ?_; refine zaa rfl (opj_lenC rfl) ?_) | refine zah ?_ | (refine zcr ?_; refine zcs ?_) | (refine zdb ?_; first | refine zdc ?_ | refine zdd ?_) | refine zaa rfl (opj_nilZ rfl) ?_ | refine zaa rfl (opj_fieldZ rfl) ?_ | refine zaa rfl (opj_loadZ rfl rfl rfl) ?_
    refine ws_cond rfl (fun hd => ?_) (fun hd => ?_)
    case' refine_2 =>
      have hjn : n - 1 = j + 1 := by have := of_decide_eq_false hd; omega
      rw [hjn]
      repeat first | (refine zae ?_; refine zaa rfl (zcg rfl rfl (by (repeat (first | exact mh | refine mt ?_)); done) rfl rfl) ?_) | refine zah ?_ | (refine zcr ?_; first | refine zcs ?_ | refine zcu ?_ | refine zcx ?_ | refine zda ?_) | (refine zdb ?_; first | refine zdc ?_ | refine zdd ?_ | refine zdg ?_ | refine zdh ?_) | (refine zag ?_; refine zan 1 rfl rfl rfl rfl rfl rfl rfl rfl rfl ?_)
      exact done_retX rfl rfl ((a, b), ca, cb) rfl (mt mh) rfl rfl rfl ⟨⟨hca1, by simp only [maxLen]; omega⟩, hcb1, by simp only [maxLen]; omega⟩ (.cons _ (.cons _ (List.Sublist.refl _)))
    have hlt : ((j + 1 : Nat) : Int) + 1 < n := of_decide_eq_true hd
    clear hd
    repeat first | (refine zcr ?_; refine zcs ?_) | (refine zdb ?_; first | refine zdc ?_ | refine zde ?_ | refine zdf ?_)
    refine ws_draw (n := 37) mixed (by decide +kernel) ?_
    repeat first | refine zap rfl (zay rfl) ?_ | refine zap rfl (zaz rfl) ?_ | (refine zar ?_; refine zap rfl (zbb rfl rfl (by omega)) ?_) | (refine zas ?_; (refine zap rfl (zci rfl rfl (hBi) ?_) ?_; (focus ((repeat (first | exact Takes.nil | refine Takes.sl ?_ | refine Takes.lit ?_ | refine Takes.fa ?_ | refine Takes.fc ?_ | refine Takes.net ?_ | (refine Takes.ownE ?_ ?_ ?_ ?_ ?_; (focus (exact ⟨_, _, (by (repeat (first | exact mh | refine mt ?_)); done)⟩)); (focus (simp; done)); (focus omega); (focus (simp only [maxLen]; omega))) | refine Takes.same ?_)); done)))) | (refine zat ?_; refine zap rfl (zbu rfl rfl) ?_) | (refine zau ?_; first | refine zap rfl (opj_indexC rfl rfl (by omega) (by omega)) ?_ | refine zap rfl (zbs rfl rfl (by omega) (by omega)) ?_) | refine zap rfl (zbz rfl rfl) ?_ | refine zav ?_ | refine zap rfl (opj_nilZ rfl) ?_ | refine zap rfl (opj_fieldZ rfl) ?_ | refine zap rfl (opj_loadZ rfl rfl rfl) ?_
    repeat first | refine zaa rfl (zay rfl) ?_ | (refine zae ?_; refine zaa rfl (zcf rfl rfl (by (repeat (first | exact mh | refine mt ?_)); done) rfl) ?_) | refine zaa rfl (zcd rfl) ?_ | refine zah ?_ | (refine zcr ?_; refine zcs ?_) | (refine zdb ?_; first | refine zdc ?_ | refine zdd ?_) | refine zaa rfl (zco rfl rfl rfl rfl rfl rfl) ?_
    refine rs_appendC 2 P' rfl rfl rfl rfl ⟨hca1, by simp only [maxLen]; omega⟩ (by omega) rfl rfl rfl (fun s _ => rfl) fun a' ca' h1 h2 => ?_
    repeat first | refine zaa rfl (zay rfl) ?_ | (refine zae ?_; refine zaa rfl (zcf rfl rfl (by (repeat (first | exact mh | refine mt ?_)); done) rfl) ?_) | refine zaa rfl (zcd rfl) ?_ | refine zah ?_ | (refine zcr ?_; refine zcs ?_) | (refine zdb ?_; refine zdd ?_) | (refine zag ?_; refine zam 0 rfl rfl rfl rfl rfl rfl ?_) | refine zaa rfl (zco rfl rfl rfl rfl rfl rfl) ?_
    refine rs_appendT 3 f' rfl rfl rfl rfl ⟨hcb1, by simp only [maxLen]; omega⟩ (by omega) rfl rfl rfl (fun s _ _ => rfl) fun b' cb' h3 h4 => ?_
    repeat first | refine zaa rfl (zay rfl) ?_ | refine zaa rfl (zaz rfl) ?_ | (refine zac ?_; refine zaa rfl (zbb rfl rfl (by omega)) ?_) | refine zaa rfl (zcd rfl) ?_ | refine zah ?_ | (refine zcr ?_; first | refine zcs ?_ | refine zcv ?_) | (refine zdb ?_; refine zdd ?_) | (refine zag ?_; refine zam 0 rfl rfl rfl rfl rfl rfl ?_)
    refine done_round (j + 1 + 1, (a', b'), ca', cb') ⟨by simp only; omega, ⟨h1, h2⟩, h3, h4⟩ (by simp only; omega) ?_ (fun w h => ?_)
    · simp only
      rw [show ((j + 1 + 1 : Nat) : Int) = ((j + 1 : Nat) : Int) + 1 by omega]
      (repeat (first | exact Env.sub_nil _ | refine Env.sub_cons rfl ?_))
    · exact h
/-- Where a search for a point stands. -/
def atWd (T Tc : TypeId) (w0 : World) (g5 n : Nat) (P : Nat → CV) (f : Int → FV) (t : FV) (y : Nat × (Nat × Nat) × Nat × Nat) : World → Prop := match y.1 with
  | 0 => St w0 [] [⟨g5, Tc, [slC w0 (tabC n P), AV.sl w0 1 ((tab n f).map (AV.f .f32))], 2⟩]
  | j + 1 => St w0 [] [⟨g5, Tc, [.raw (.slice (some ⟨y.2.1.1, 0, none⟩) (n - (j + 1)) y.2.2.1), .raw (.slice (some ⟨y.2.1.2, 0, none⟩) (n - (j + 1)) y.2.2.2)], 2⟩, entC y.2.1.1 (n - (j + 1)) (rowsP P f t (j + 1)).1 y.2.2.1, entF y.2.1.2 T (n - (j + 1)) (rowsP P f t (j + 1)).2 y.2.2.2]
theorem l02At_fn {n : Nat} {P : Nat → CV} {f : Int → FV} {t : FV} (hn : 2 ≤ n ∧ n ≤ 1000) :
    Fn Try.prog 34 (fun w => [crvQ w n P f, .f .f32 t]) (cA ((rowsP P f t (n - 1)).1 0)) := by
  have hR : ∀ j, j + 2 ≤ n → FnH (X := (Nat × Nat) × Nat × Nat) Try.prog 61 (fun w => [crvQ w (n - j) (rowsP P f t j).1 (rowsP P f t j).2, .f .f32 t]) []
      (fun y => crvOc y.1.1 y.1.2 (n - (j + 1)) y.2.1 y.2.2) (fun y => [entC y.1.1 (n - (j + 1)) (rowsP P f t (j + 1)).1 y.2.1, entF y.1.2 30 (n - (j + 1)) (rowsP P f t (j + 1)).2 y.2.2]) (fun y => (n - (j + 1) ≤ y.2.1 ∧ y.2.1 ≤ maxLen) ∧ n - (j + 1) ≤ y.2.2 ∧ y.2.2 ≤ maxLen) := fun j hj => by
    have := l02Row_fn (n := n - j) (P := (rowsP P f t j).1) (f := (rowsP P f t j).2) (t := t) (by omega)
    rw [show n - j - 1 = n - (j + 1) by omega] at this
    exact this
  refine fn_intro Try.func34 rfl Try.ntmps34 (fun _ => Nat.le_of_ble_eq_true rfl) fun w0 => ?_
  repeat first | refine zaa rfl (zay rfl) ?_ | refine zaa rfl (zaz rfl) ?_ | refine zah ?_ | (refine zcr ?_; refine zcs ?_) | (refine zdb ?_; first | refine zdc ?_ | refine zdd ?_ | refine zde ?_) | (refine zal rfl rfl ?_; intro g) | refine zaa rfl (opj_nilZ rfl) ?_ | refine zaa rfl (opj_loadAZ rfl rfl rfl) ?_ | refine rs_storeA2 0 rfl rfl rfl rfl rfl rfl ?_
  obtain ⟨g5, hg5⟩ : ∃ x, x = g := ⟨g, rfl⟩
  subst hg5
  refine ws_loop (ι := Nat × (Nat × Nat) × Nat × Nat) (fun y => [(1, .f .f32 t), (5, .raw (.pointer (some ⟨g5, 0, none⟩)))])
    (atWd 30 27 w0 g5 n P f t) (fun y => y.1 + 1 ≤ n ∧ (n - y.1 ≤ y.2.2.1 ∧ y.2.2.1 ≤ maxLen) ∧ n - y.1 ≤ y.2.2.2 ∧ y.2.2.2 ≤ maxLen) (fun y => n - y.1) (0, (0, 0), n, n) ⟨by simp only; omega, by simp only [maxLen]; omega, by simp only [maxLen]; omega⟩ ?_ (fun _ h => h) (fun y hy => ?_)
  · (repeat (first | exact Env.sub_nil _ | refine Env.sub_cons rfl ?_))
  obtain ⟨j, ⟨a, b⟩, ca, cb⟩ := y
  simp only at hy ⊢
  obtain ⟨hj, ⟨hca1, hca2⟩, hcb1, hcb2⟩ := hy
  cases j with
  | zero =>
    have hR0 := hR 0 (by omega)
    unfold atWd
    dsimp only
    repeat first | (refine zac ?_; refine zaa rfl (zbg rfl rfl) ?_) | (refine zad ?_; refine zaa rfl (opj_lenC rfl) ?_) | (refine zae ?_; refine zaa rfl (zcf rfl rfl (by (repeat (first | exact mh | refine mt ?_)); done) rfl) ?_) | refine zaa rfl (zcd rfl) ?_ | refine zah ?_ | (refine zcr ?_; refine zcs ?_) | (refine zdb ?_; first | refine zdc ?_ | refine zdd ?_)
    refine ws_cond rfl (fun hd => ?_) (fun hd => ?_)
    case' refine_2 =>
      exfalso
      have := of_decide_eq_false hd
      omega
    clear hd
    repeat first | refine zaa rfl (zay rfl) ?_ | (refine zcr ?_; refine zcs ?_) | (refine zdb ?_; first | refine zdd ?_ | refine zde ?_ | refine zdf ?_)
    refine rs_callM3 hR0 rfl rfl (Takes.crvZi mh (Takes.same Takes.nil)) rfl ?_
    rintro ⟨⟨a', b'⟩, ca', cb'⟩ ⟨⟨h1, h2⟩, h3, h4⟩
    dsimp only at h1 h2 h3 h4 ⊢
    repeat first | refine zah ?_ | (refine zcr ?_; refine zcv ?_) | (refine zag ?_; refine zan 2 rfl rfl rfl rfl rfl rfl rfl rfl rfl ?_)
    refine done_round (0 + 1, (a', b'), ca', cb') ⟨by simp only; omega, ⟨h1, h2⟩, h3, h4⟩ (by simp only; omega) ?_ (fun w h => ?_)
    · (repeat (first | exact Env.sub_nil _ | refine Env.sub_cons rfl ?_))
    · exact h.rot3
  | succ j =>
    unfold atWd
    dsimp only
    repeat first | (refine zac ?_; refine zaa rfl (zbg rfl rfl) ?_) | (refine zad ?_; refine zaa rfl (zbn rfl) ?_) | (refine zae ?_; refine zaa rfl (zcf rfl rfl (by (repeat (first | exact mh | refine mt ?_)); done) rfl) ?_) | refine zaa rfl (zcd rfl) ?_ | refine zah ?_ | (refine zcr ?_; refine zcs ?_) | (refine zdb ?_; first | refine zdc ?_ | refine zdd ?_)
    refine ws_cond rfl (fun hd => ?_) (fun hd => ?_)
    case' refine_2 =>
      have hjn : n - (j + 1) = 1 := by have := of_decide_eq_false hd; omega
      have hjn' : n - 1 = j + 1 := by omega
      rw [hjn, hjn']
      repeat first | refine zaa rfl (zaz rfl) ?_ | (refine zae ?_; first | refine zaa rfl (opj_loadC rfl rfl (by (repeat (first | exact mh | refine mt ?_)); done) (by omega)) ?_ | refine zaa rfl (zcf rfl rfl (by (repeat (first | exact mh | refine mt ?_)); done) rfl) ?_) | (refine zaf ?_; refine zaa rfl (zbw rfl rfl (by omega) (by omega)) ?_) | refine zaa rfl (zcd rfl) ?_ | refine zah ?_ | (refine zcr ?_; first | refine zcs ?_ | refine zcu ?_ | refine zcx ?_ | refine zda ?_) | (refine zdb ?_; first | refine zdc ?_ | refine zdd ?_ | refine zdg ?_ | refine zdh ?_)
      exact done_ret1 rfl () rfl trivial (List.nil_sublist _)
    have hlt : (1 : Int) < ((n - (j + 1) : Nat) : Int) := of_decide_eq_true hd
    clear hd
    have hR0 := hR (j + 1) (by omega)
    repeat first | refine zaa rfl (zay rfl) ?_ | (refine zcr ?_; refine zcs ?_) | (refine zdb ?_; first | refine zdd ?_ | refine zde ?_ | refine zdf ?_)
    refine rs_callM3 hR0 rfl rfl (Takes.crvZo mh (mt mh) (mt (mt mh)) ⟨hca1, hca2⟩ ⟨hcb1, hcb2⟩ (Takes.same Takes.nil)) rfl ?_
    rintro ⟨⟨a', b'⟩, ca', cb'⟩ ⟨⟨h1, h2⟩, h3, h4⟩
    dsimp only at h1 h2 h3 h4 ⊢
    repeat first | refine zah ?_ | (refine zcr ?_; refine zcv ?_) | (refine zag ?_; refine zan 2 rfl rfl rfl rfl rfl rfl rfl rfl rfl ?_)
    refine done_round (j + 1 + 1, (a', b'), ca', cb') ⟨by simp only; omega, ⟨h1, h2⟩, h3, h4⟩ (by simp only; omega) ?_ (fun w h => ?_)
    · (repeat (first | exact Env.sub_nil _ | refine Env.sub_cons rfl ?_))
    · exact (h.rot3.weak (.cons_cons _ (.cons_cons _ (.cons_cons _ (List.nil_sublist _)))))
theorem l02Complex_yes (p : CV) (hp : finC p = true) : Fn Try.prog 33 (fun _ => [cA p]) (.tup [cA p, .raw (.bool true)]) := by
  have hF := l01CFinite_fn p
  rw [hp] at hF
  refine fn_intro Try.func33 rfl Try.ntmps33 (fun _ => Nat.le_of_ble_eq_true rfl) fun w0 => ?_
  repeat first | refine zaa rfl (zay rfl) ?_ | refine zaa rfl (zaz rfl) ?_ | (refine zad ?_; (refine zaa rfl (zci rfl rfl (hF) ?_) ?_; (focus ((repeat (first | exact Takes.nil | refine Takes.sl ?_ | refine Takes.lit ?_ | refine Takes.fa ?_ | refine Takes.fc ?_ | refine Takes.net ?_ | (refine Takes.ownE ?_ ?_ ?_ ?_ ?_; (focus (exact ⟨_, _, (by (repeat (first | exact mh | refine mt ?_)); done)⟩)); (focus (simp; done)); (focus omega); (focus (simp only [maxLen]; omega))) | refine Takes.same ?_)); done)))) | refine zaa rfl (zcc rfl) ?_ | refine zah ?_ | (refine zcr ?_; refine zcs ?_) | (refine zdb ?_; first | refine zdc ?_ | refine zdd ?_ | refine zdf ?_ | refine zdg ?_ | refine zdj rfl ?_)
  exact done_ret2 rfl () rfl rfl rfl trivial (List.nil_sublist _)
theorem specCurveAt_fn {n : Nat} {P : Nat → CV} {f : Int → FV} {t : FV} (hn : 2 ≤ n ∧ n ≤ 8) (hP : (tabC n P).all finC = true) (hf : (tab n f).all aboveB = true) (ht : Fn Try.prog 23 (fun _ => [.f .f32 t]) (.raw (.bool true)))
    (hq : finC ((rowsP P f t (n - 1)).1 0) = true) : Fn Try.prog 10 (fun w => [crvA w n P f, .f .f32 t]) (.tup [cA ((rowsP P f t (n - 1)).1 0), .raw (.bool true)]) := by
  have hL := l02Is_yes hn hP hf
  have hA := l02At_fn (n := n) (P := P) (f := f) (t := t) (by omega)
  have hC := l02Complex_yes _ hq
  refine fn_intro Try.func10 rfl Try.ntmps10 (fun _ => Nat.le_of_ble_eq_true rfl) fun w0 => ?_
  repeat first | refine zai rfl rfl ?_ | refine zaa rfl (zay rfl) ?_ | refine zaa rfl (zaz rfl) ?_ | (refine zad ?_; first | (refine zaa rfl (zci rfl rfl (ht) ?_) ?_; (focus ((repeat (first | exact Takes.nil | refine Takes.sl ?_ | refine Takes.lit ?_ | refine Takes.fa ?_ | refine Takes.fc ?_ | refine Takes.net ?_ | (refine Takes.ownE ?_ ?_ ?_ ?_ ?_; (focus (exact ⟨_, _, (by (repeat (first | exact mh | refine mt ?_)); done)⟩)); (focus (simp; done)); (focus omega); (focus (simp only [maxLen]; omega))) | refine Takes.same ?_)); done))) | (refine zaa rfl (zci rfl rfl (hC) ?_) ?_; (focus ((repeat (first | exact Takes.nil | refine Takes.sl ?_ | refine Takes.lit ?_ | refine Takes.fa ?_ | refine Takes.fc ?_ | refine Takes.net ?_ | (refine Takes.ownE ?_ ?_ ?_ ?_ ?_; (focus (exact ⟨_, _, (by (repeat (first | exact mh | refine mt ?_)); done)⟩)); (focus (simp; done)); (focus omega); (focus (simp only [maxLen]; omega))) | refine Takes.same ?_)); done)))) | refine zaa rfl (zbz rfl rfl) ?_ | refine zaa rfl (zcb rfl rfl) ?_ | refine zaa rfl (zcc rfl) ?_ | refine zah ?_ | (refine zcr ?_; refine zcs ?_) | (refine zdb ?_; first | refine zdc ?_ | refine zdd ?_ | refine zdf ?_ | refine zdg ?_ | refine zdj rfl ?_) | (refine zak rfl rfl rfl ?_; intro g) | refine zaa rfl (zci rfl rfl hL (Takes.crvPt mh Takes.nil)) ?_ | refine zaa rfl (zci rfl rfl hA (Takes.crvZi mh (Takes.same Takes.nil))) ?_
  exact done_ret2 rfl () rfl rfl rfl trivial (List.nil_sublist _)
end Go.Ab
