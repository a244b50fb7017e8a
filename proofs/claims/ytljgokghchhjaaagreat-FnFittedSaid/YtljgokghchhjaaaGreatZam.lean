/- Part 13 of the texts on which the law leans, joined: Fits, the reference's: a cubic curve near a path. No conditions. -/
import Derived.Test.YtljgokghchhjaaaGreatZal
namespace Go.Ab
open Go.Proofs
section
variable {s e : CV} {n : Nat} {P : Nat → CV} {tt : Int → FV} {su sv eu ev : Rat} {x y t : Nat → Rat}
theorem quo63 {p q : Rat} (h1 : -p2 14 ≤ p) (h2 : p ≤ p2 14) (hq : p2 (-49) ≤ q) : -p2 63 ≤ p / q ∧ p / q ≤ p2 63 := by
  have n49 := p2_pos (-49)
  have n63 := p2_pos 63
  have e : p2 63 * p2 (-49) = p2 14 := by decide +kernel
  have m := Rat.mul_le_mul_of_nonneg_left hq (Rat.le_of_lt n63)
  rw [e] at m
  exact ⟨le_div_of (by grind) (by grind), div_le_of (by grind) (by grind)⟩
theorem quoB {a b : FV} {p q : Rat} (va : Vl .f32 a p) (vb : Vl .f32 b q) (h1 : -p2 14 ≤ p) (h2 : p ≤ p2 14) (hq : p2 (-49) ≤ q ∨ q ≤ -p2 (-49)) : ∃ r, Vl .f32 (fbin .quo .f32 a b) r ∧ -p2 63 ≤ r ∧ r ≤ p2 63 := by
  have n49 := p2_pos (-49)
  have k : -p2 63 ≤ p / q ∧ p / q ≤ p2 63 := by
    rcases hq with hq | hq
    · exact quo63 h1 h2 hq
    · have h := quo63 (p := -p) (q := -q) (by grind) (by grind) (by grind)
      have e : -p / -q = p / q := by
        have hq0 : q ≠ 0 := by grind
        grind
      rw [e] at h
      exact h
  have top : p2 63 ≤ p2 (ftop .f32 - 1) := p2_le (by decide +kernel)
  obtain ⟨r, v, h⟩ := vl_div va vb (by rcases hq with hq | hq <;> grind) (by constructor <;> grind)
  exact ⟨r, v, rnd_btw h (rep_neg (rep_p2 (by decide))) (rep_p2 (by decide)) k.1 k.2⟩
theorem cmp0 {m : FV} (v : Vl .f32 m 0) : cmpB .eql (fcmp .f32 m (fv .f32 0)) = true := by
  have h := vl_eql v (Vl.c (k := .f32) (b := 0) (q := 0) (by decide +kernel))
  exact (show _ = decide ((0 : Rat) = 0) from h).trans (decide_eq_true rfl)
/-- The length of the whole, a third of it. -/
theorem FitV.len (F : FitV s e n P tt su sv eu ev x y t) : LongOk (subC2 (P (n - 1)) (P 0)) ∧ ∃ r, Vl .f32 (fitL n P) r ∧ -p2 63 ≤ r ∧ r ≤ p2 63 := by
  have hn := F.hn
  obtain ⟨v1, a1, a2⟩ := F.px (n - 1) (by omega)
  obtain ⟨v2, b1, b2⟩ := F.px 0 (by omega)
  obtain ⟨v3, c1, c2⟩ := F.py (n - 1) (by omega)
  obtain ⟨v4, d1, d2⟩ := F.py 0 (by omega)
  have e5 : p2 5 = 32 := by decide +kernel
  have h70 : p2 5 ≤ p2 70 := p2_le (by decide)
  have h63 : p2 6 ≤ p2 63 := p2_le (by decide)
  have e6 : p2 6 = 64 := by decide +kernel
  obtain ⟨p, vp, p1, p3⟩ := subB v1 v2 (E := 5) (by decide) (by grind) (by grind)
  obtain ⟨q, vq, q1, q3⟩ := subB v3 v4 (E := 5) (by decide) (by grind) (by grind)
  obtain ⟨R, vR, ok, R0, hside, _⟩ := vl_longB vp vq (by constructor <;> grind) (by constructor <;> grind)
  have m1 := (mul_bnd p1 p3 p1 p3).2
  have m2 := (mul_bnd q1 q3 q1 q3).2
  have R1 := (hside 64 (by rw [← e6]; exact ⟨1, 6, Nat.one_le_two_pow, by decide, by rw [show ((1 : Nat) : Rat) = 1 from rfl, Rat.one_mul]⟩)).1 (by rw [e5] at m1 m2; grind)
  have v3 : Vl .f32 thr3 3 := Vl.c (b := 1077936128) (by decide +kernel)
  obtain ⟨r, w, vr, ew, ⟨w1, w2⟩, r1, r2⟩ := dvn vR v3 (by decide +kernel) 22 (by grind) (by grind) (by decide +kernel)
  exact ⟨ok, r, vr, by grind, by grind⟩
/-- How far the inner points are from the ends. -/
theorem FitV.XY (F : FitV s e n P tt su sv eu ev x y t) : ∃ X Y, (Vl .f32 (fitX s e n P tt) X ∧ -p2 63 ≤ X ∧ X ≤ p2 63) ∧ (Vl .f32 (fitY s e n P tt) Y ∧ -p2 63 ≤ Y ∧ Y ≤ p2 63) := by
  obtain ⟨_, l, vl, l1, l2⟩ := F.len
  obtain ⟨m, vm, hm⟩ := F.M
  cases hb : fitBad s e n P tt with
  | true => exact ⟨l, l, ⟨by unfold fitX; rw [hb]; exact vl, l1, l2⟩, by unfold fitY; rw [hb]; exact vl, l1, l2⟩
  | false =>
    have hm' : p2 (-49) ≤ m ∨ m ≤ -p2 (-49) := by
      rcases hm with h | h
      · exfalso
        subst h
        unfold fitBad at hb
        rw [cmp0 vm] at hb
        cases hb
      · exact h
    obtain ⟨c, d, f, g, k, vc, vd, vf, vg, vk, bc, bd, bf, bg, bk, _, _⟩ := F.sums
    have e13 : p2 13 = 8192 := by decide +kernel
    have e14 : p2 14 = 16384 := by decide +kernel
    have t1 := mul_bnd (p := g) (q := f) (a := 620) (b := 9) bg.1 bg.2 (by grind) bf.2
    have t2 := mul_bnd (p := k) (q := d) (a := 620) (b := 9) bk.1 bk.2 bd.1 bd.2
    have t3 := mul_bnd (p := c) (q := k) (a := 9) (b := 620) (by grind) bc.2 bk.1 bk.2
    have t4 := mul_bnd (p := d) (q := g) (a := 9) (b := 620) bd.1 bd.2 bg.1 bg.2
    obtain ⟨a1, va1, a11, a12⟩ := mulB vg vf (E := 13) (by decide) (by grind) (by grind)
    obtain ⟨a2, va2, a21, a22⟩ := mulB vk vd (E := 13) (by decide) (by grind) (by grind)
    obtain ⟨a3, va3, a31, a32⟩ := mulB vc vk (E := 13) (by decide) (by grind) (by grind)
    obtain ⟨a4, va4, a41, a42⟩ := mulB vd vg (E := 13) (by decide) (by grind) (by grind)
    obtain ⟨z1, vz1, z11, z12⟩ := subB va1 va2 (E := 14) (by decide) (by grind) (by grind)
    obtain ⟨z2, vz2, z21, z22⟩ := subB va3 va4 (E := 14) (by decide) (by grind) (by grind)
    obtain ⟨X, vX, X1⟩ := quoB vz1 vm z11 z12 hm'
    obtain ⟨Y, vY, Y1⟩ := quoB vz2 vm z21 z22 hm'
    exact ⟨X, Y, ⟨by unfold fitX; rw [hb]; exact vX, X1⟩, by unfold fitY; rw [hb]; exact vY, Y1⟩
theorem far_vl {p d z : FV} {q s Z : Rat} (vp : Vl .f32 p q) (vd : Vl .f32 d s) (vz : Vl .f32 z Z) (hq : -12 ≤ q ∧ q ≤ 12) (hs : -(101 / 100) ≤ s ∧ s ≤ 101 / 100) (hz : -p2 63 ≤ Z ∧ Z ≤ p2 63) : ∃ r, Vl .f32 (fbin .add .f32 p (fbin .mul .f32 d z)) r ∧ -p2 65 ≤ r ∧ r ≤ p2 65 := by
  have m := mul_bnd hs.1 hs.2 hz.1 hz.2
  have e64 : p2 64 = 2 * p2 63 := by decide +kernel
  have e65 : p2 65 = 4 * p2 63 := by decide +kernel
  have n63 : (12 : Rat) ≤ p2 63 := by decide +kernel
  obtain ⟨a, va, a1, a2⟩ := mulB vd vz (E := 64) (by decide) (by grind) (by grind)
  exact addB vp va (E := 65) (by decide) (by grind) (by grind)
/-- The points of the curve. -/
theorem FitV.Q (F : FitV s e n P tt su sv eu ev x y t) (j : Nat) : ∃ a b, Vl .f32 (fitQ s e n P tt j).1 a ∧ Vl .f32 (fitQ s e n P tt j).2 b ∧ (-p2 65 ≤ a ∧ a ≤ p2 65) ∧ -p2 65 ≤ b ∧ b ≤ p2 65 := by
  have hn := F.hn
  obtain ⟨X, Y, ⟨vX, bX⟩, vY, bY⟩ := F.XY
  have n65 : (12 : Rat) ≤ p2 65 := by decide +kernel
  have pt : ∀ i, i < n → ∃ a b, Vl .f32 (P i).1 a ∧ Vl .f32 (P i).2 b ∧ (-p2 65 ≤ a ∧ a ≤ p2 65) ∧ -p2 65 ≤ b ∧ b ≤ p2 65 := fun i hi => by
    obtain ⟨v1, a1, a2⟩ := F.px i hi
    obtain ⟨v2, b1, b2⟩ := F.py i hi
    exact ⟨_, _, v1, v2, by constructor <;> grind, by constructor <;> grind⟩
  unfold fitQ
  split
  · exact pt 0 (by omega)
  split
  · obtain ⟨a, va, ha⟩ := far_vl (F.px 0 (by omega)).1 F.s1.1 vX (F.px 0 (by omega)).2 F.s1.2 bX
    obtain ⟨b, vb, hb⟩ := far_vl (F.py 0 (by omega)).1 F.s2.1 vX (F.py 0 (by omega)).2 F.s2.2 bX
    exact ⟨a, b, va, vb, ha, hb⟩
  split
  · obtain ⟨a, va, ha⟩ := far_vl (F.px (n - 1) (by omega)).1 F.e1.1 vY (F.px (n - 1) (by omega)).2 F.e1.2 bY
    obtain ⟨b, vb, hb⟩ := far_vl (F.py (n - 1) (by omega)).1 F.e2.1 vY (F.py (n - 1) (by omega)).2 F.e2.2 bY
    exact ⟨a, b, va, vb, ha, hb⟩
  · exact pt (n - 1) (by omega)
theorem FitV.bdQ (F : FitV s e n P tt su sv eu ev x y t) : BdQ (fitQ s e n P tt) := fun j _ => by
  obtain ⟨a, b, va, vb, ha, hb⟩ := F.Q j
  have h : p2 65 ≤ p66 := by decide +kernel
  exact ⟨a, b, va, vb, by constructor <;> grind, by constructor <;> grind⟩
/-- One share of one point. -/
theorem term_vl {q h : FV} {Q b : Rat} (vq : Vl .f32 q Q) (vh : Vl .f32 h b) (hQ : -p2 65 ≤ Q ∧ Q ≤ p2 65) (hb : 0 ≤ b ∧ b ≤ 101 / 100) : ∃ r, Vl .f32 (fbin .mul .f32 q h) r ∧ -p2 66 ≤ r ∧ r ≤ p2 66 := by
  have m := mul_bnd (b := 101 / 100) hQ.1 hQ.2 (show -(101 / 100) ≤ b by grind) hb.2
  have e66 : p2 66 = 2 * p2 65 := by decide +kernel
  have n65 := p2_pos 65
  exact mulB vq vh (E := 66) (by decide) (by grind) (by grind)
theorem sum4_vl {z0 a b c d : FV} {A B C D : Rat} (v0 : Vl .f32 z0 0) (va : Vl .f32 a A) (vb : Vl .f32 b B) (vc : Vl .f32 c C) (vd : Vl .f32 d D) (ha : -p2 66 ≤ A ∧ A ≤ p2 66) (hb : -p2 66 ≤ B ∧ B ≤ p2 66) (hc : -p2 66 ≤ C ∧ C ≤ p2 66) (hd : -p2 66 ≤ D ∧ D ≤ p2 66) :
    (∃ r, Vl .f32 (fbin .add .f32 (fbin .add .f32 (fbin .add .f32 (fbin .add .f32 z0 a) b) c) d) r ∧ -p2 69 ≤ r ∧ r ≤ p2 69) ∧ ∃ r, Vl .f32 (fbin .add .f32 (fbin .add .f32 (fbin .add .f32 a b) c) d) r ∧ -p2 69 ≤ r ∧ r ≤ p2 69 := by
  have e67 : p2 67 = 2 * p2 66 := by decide +kernel
  have e68 : p2 68 = 4 * p2 66 := by decide +kernel
  have e69 : p2 69 = 8 * p2 66 := by decide +kernel
  have n66 := p2_pos 66
  obtain ⟨s1, vs1, s11, s12⟩ := addB v0 va (E := 66) (by decide) (by grind) (by grind)
  obtain ⟨s2, vs2, s21, s22⟩ := addB vs1 vb (E := 67) (by decide) (by grind) (by grind)
  obtain ⟨s3, vs3, s31, s32⟩ := addB vs2 vc (E := 68) (by decide) (by grind) (by grind)
  obtain ⟨s4, vs4, s41, s42⟩ := addB vs3 vd (E := 69) (by decide) (by grind) (by grind)
  obtain ⟨r2, vr2, r21, r22⟩ := addB va vb (E := 67) (by decide) (by grind) (by grind)
  obtain ⟨r3, vr3, r31, r32⟩ := addB vr2 vc (E := 68) (by decide) (by grind) (by grind)
  obtain ⟨r4, vr4, r41, r42⟩ := addB vr3 vd (E := 69) (by decide) (by grind) (by grind)
  exact ⟨⟨s4, vs4, s41, s42⟩, r4, vr4, r41, r42⟩
theorem miss_long {p z : CV} {a b u v : Rat} (v1 : Vl .f32 p.1 a) (v2 : Vl .f32 p.2 b) (w1 : Vl .f32 z.1 u) (w2 : Vl .f32 z.2 v) (ha : -12 ≤ a ∧ a ≤ 12) (hb : -12 ≤ b ∧ b ≤ 12) (hu : -p2 69 ≤ u ∧ u ≤ p2 69) (hv : -p2 69 ≤ v ∧ v ≤ p2 69) :
    LongOk (subC2 p z) ∧ ∃ r, Vl .f32 (longC (subC2 p z)) r ∧ 0 ≤ r := by
  have e70 : p2 70 = 2 * p2 69 := by decide +kernel
  have n69 : (12 : Rat) ≤ p2 69 := by decide +kernel
  obtain ⟨p', vp, p1, p3⟩ := subB v1 w1 (E := 70) (by decide) (by grind) (by grind)
  obtain ⟨q', vq, q1, q3⟩ := subB v2 w2 (E := 70) (by decide) (by grind) (by grind)
  obtain ⟨R, vR, ok, R0, _⟩ := vl_longB vp vq ⟨p1, p3⟩ ⟨q1, q3⟩
  exact ⟨ok, R, vR, R0⟩
/-- How far a point is away, either way of summing. -/
theorem FitV.miss (F : FitV s e n P tt su sv eu ev x y t) {i : Nat} (hi : i < n) : (LongOk (missC' (fitQ s e n P tt) P tt i) ∧ ∃ r, Vl .f32 (longC (missC' (fitQ s e n P tt) P tt i)) r ∧ 0 ≤ r) ∧
    (LongOk (subC2 (P i) (addC2 (addC2 (addC2 (scaleC (fitQ s e n P tt 0) (shr (tt i) 0)) (scaleC (fitQ s e n P tt 1) (shr (tt i) 1))) (scaleC (fitQ s e n P tt 2) (shr (tt i) 2))) (scaleC (fitQ s e n P tt 3) (shr (tt i) 3)))) ∧
      ∃ r, Vl .f32 (longC (subC2 (P i) (addC2 (addC2 (addC2 (scaleC (fitQ s e n P tt 0) (shr (tt i) 0)) (scaleC (fitQ s e n P tt 1) (shr (tt i) 1))) (scaleC (fitQ s e n P tt 2) (shr (tt i) 2))) (scaleC (fitQ s e n P tt 3) (shr (tt i) 3))))) r ∧ 0 ≤ r) := by
  obtain ⟨vt, t0, t1⟩ := F.tv i hi
  obtain ⟨b0, b1, b2, b3, vb0, vb1, vb2, vb3, k0, k1, k2, k3, _⟩ := shr_vl vt ⟨t0, t1⟩
  obtain ⟨x0, y0, vx0, vy0, bx0, by0⟩ := F.Q 0
  obtain ⟨x1, y1, vx1, vy1, bx1, by1⟩ := F.Q 1
  obtain ⟨x2, y2, vx2, vy2, bx2, by2⟩ := F.Q 2
  obtain ⟨x3, y3, vx3, vy3, bx3, by3⟩ := F.Q 3
  obtain ⟨X0, vX0, BX0⟩ := term_vl vx0 vb0 bx0 k0
  obtain ⟨X1, vX1, BX1⟩ := term_vl vx1 vb1 bx1 ⟨k1.1, by grind⟩
  obtain ⟨X2, vX2, BX2⟩ := term_vl vx2 vb2 bx2 ⟨k2.1, by grind⟩
  obtain ⟨X3, vX3, BX3⟩ := term_vl vx3 vb3 bx3 k3
  obtain ⟨Y0, vY0, BY0⟩ := term_vl vy0 vb0 by0 k0
  obtain ⟨Y1, vY1, BY1⟩ := term_vl vy1 vb1 by1 ⟨k1.1, by grind⟩
  obtain ⟨Y2, vY2, BY2⟩ := term_vl vy2 vb2 by2 ⟨k2.1, by grind⟩
  obtain ⟨Y3, vY3, BY3⟩ := term_vl vy3 vb3 by3 k3
  have v0 : Vl .f32 (fv .f32 0) 0 := Vl.c (k := .f32) (b := 0) (q := 0) (by decide +kernel)
  obtain ⟨⟨u, vu, bu⟩, u', vu', bu'⟩ := sum4_vl v0 vX0 vX1 vX2 vX3 BX0 BX1 BX2 BX3
  obtain ⟨⟨v, vv, bv⟩, v', vv', bv'⟩ := sum4_vl v0 vY0 vY1 vY2 vY3 BY0 BY1 BY2 BY3
  exact ⟨miss_long (z := sumZ (fitQ s e n P tt) (tt i) 4) (F.px i hi).1 (F.py i hi).1 vu vv (F.px i hi).2 (F.py i hi).2 bu bv,
    miss_long (z := addC2 (addC2 (addC2 (scaleC (fitQ s e n P tt 0) (shr (tt i) 0)) (scaleC (fitQ s e n P tt 1) (shr (tt i) 1))) (scaleC (fitQ s e n P tt 2) (shr (tt i) 2))) (scaleC (fitQ s e n P tt 3) (shr (tt i) 3))) (F.px i hi).1 (F.py i hi).1 vu' vv' (F.px i hi).2 (F.py i hi).2 bu' bv'⟩
/-- All that a fit needs. -/
theorem FitV.ok (F : FitV s e n P tt su sv eu ev x y t) : FitOk s e n P tt where
  hn := ⟨F.hn.1, by have := F.hn.2; omega⟩
  u := fun i hi => by
    obtain ⟨ux, uy, vx, vy, _, _, ⟨v1, b1⟩, ⟨v2, b2⟩, ⟨v3, b3⟩, ⟨v4, b4⟩, _⟩ := F.pt hi
    exact ⟨(pow_vl v1 v2 (by constructor <;> grind) (by constructor <;> grind)).1, (pow_vl v3 v4 (by constructor <;> grind) (by constructor <;> grind)).1⟩
  l := F.len.1
  q := tabC_fin fun j _ => by
    obtain ⟨a, b, va, vb, _⟩ := F.Q j
    exact finC_of va vb
  m := fun i hi => (F.miss hi).1.1
  f := tab_all_fin fun i h0 h1 => by
    obtain ⟨r, vr, _⟩ := (F.miss (i := i.toNat) (by omega)).1.2
    exact ⟨r, vr⟩
end
end Go.Ab
namespace Go.Ab
open Go.Proofs
/-- The directions at the ends. -/
def dirS (P : Nat → CV) : CV := subC2 (P 1) (P 0)
def dirE (n : Nat) (P : Nat → CV) : CV := ngC (subC2 (P (n - 1)) (P (n - 2)))
section
variable {n : Nat} {P : Nat → CV} {a c : Nat → Int} {l : Nat → Rat}
theorem dirS_ok (hp : Pth n P a c) (hn : 2 ≤ n ∧ n ≤ 7) : LongOk (dirS P) ∧ cmpB .gtr (fcmp .f32 (longC (dirS P)) (fv .f32 0)) = true ∧ finC (unitC (dirS P)) = true ∧ ∃ u v, Vl .f32 (unitC (dirS P)).1 u ∧ Vl .f32 (unitC (dirS P)).2 v ∧ (-(101 / 100) ≤ u ∧ u ≤ 101 / 100) ∧ (-(101 / 100) ≤ v ∧ v ≤ 101 / 100) ∧ 98 / 100 ≤ u * u + v * v := by
  obtain ⟨v1, v2, ⟨x1, x2⟩, y1, y2⟩ := hp.step_vl (i := 0) (by omega) hn.2
  have yy := sqr_nonneg (pX c (0 + 1) - pX c 0)
  have xx := mul_bnd (p := pX a (0 + 1) - pX a 0 - 1 / 2) (q := pX a (0 + 1) - pX a 0) (a := 2) (b := 2) (by grind) (by grind) (by grind) (by grind)
  have xm := Rat.mul_nonneg (show 0 ≤ pX a (0 + 1) - pX a 0 - 1 / 2 by grind) (show 0 ≤ pX a (0 + 1) - pX a 0 by grind)
  exact unit_ok (p := dirS P) v1 v2 (by constructor <;> grind) (by constructor <;> grind) (by grind)
theorem dirE_ok (hp : Pth n P a c) (hn : 2 ≤ n ∧ n ≤ 7) : LongOk (dirE n P) ∧ cmpB .gtr (fcmp .f32 (longC (dirE n P)) (fv .f32 0)) = true ∧ finC (unitC (dirE n P)) = true ∧ ∃ u v, Vl .f32 (unitC (dirE n P)).1 u ∧ Vl .f32 (unitC (dirE n P)).2 v ∧ (-(101 / 100) ≤ u ∧ u ≤ 101 / 100) ∧ (-(101 / 100) ≤ v ∧ v ≤ 101 / 100) ∧ 98 / 100 ≤ u * u + v * v := by
  obtain ⟨v1, v2, ⟨x1, x2⟩, y1, y2⟩ := hp.step_vl (i := n - 2) (by omega) hn.2
  rw [show n - 2 + 1 = n - 1 by omega] at v1 v2 x1 x2 y1 y2
  obtain ⟨X, hX⟩ : ∃ X, X = pX a (n - 1) - pX a (n - 2) := ⟨_, rfl⟩
  obtain ⟨Y, hY⟩ : ∃ Y, Y = pX c (n - 1) - pX c (n - 2) := ⟨_, rfl⟩
  rw [← hX] at v1 x1 x2
  rw [← hY] at v2 y1 y2
  have yy := sqr_nonneg Y
  have xm := Rat.mul_nonneg (show 0 ≤ X - 1 / 2 by grind) (show 0 ≤ X by grind)
  exact unit_ok (p := dirE n P) (vl_fneg v1) (vl_fneg v2) (by constructor <;> grind) (by constructor <;> grind) (by grind)
/-- All that a fit is made of. -/
theorem Pth.fitV (hp : Pth n P a c) (hn : 2 ≤ n ∧ n ≤ 7) : ∃ su sv eu ev x y t, FitV (unitC (dirS P)) (unitC (dirE n P)) n P (parF one1 P n) su sv eu ev x y t := by
  obtain ⟨l, h⟩ := hp.lens hn.2
  obtain ⟨_, _, _, su, sv, s1, s2, s3, s4, s5⟩ := dirS_ok hp hn
  obtain ⟨_, _, _, eu, ev, e1, e2, e3, e4, e5⟩ := dirE_ok hp hn
  obtain ⟨t, ht, t0, t1, tb, ts⟩ := par_vl h hn vl_one1 (by decide +kernel)
  refine ⟨su, sv, eu, ev, pX a, pX c, t, ⟨hn, ⟨s1, s3⟩, ⟨s2, s4⟩, ⟨e1, e3⟩, ⟨e2, e4⟩, s5, e5, fun i hi => ?_, fun i hi => ?_, fun i hi => ⟨ht i hi, tb i hi⟩, fun h3 => ?_, ⟨t0, t1⟩⟩⟩
  · have b := (hp.bdx hn.2 hi).1
    exact ⟨hp.vx i hi, by grind, by grind⟩
  · have b := (hp.bdx hn.2 hi).2
    exact ⟨hp.vy i hi, by grind, by grind⟩
  · have k0 := h.steps hp hn ht (i := 0) (by omega)
    have k1 := h.steps hp hn ht (i := 1) (by omega)
    have l0 := (h.b 0 (by omega)).1
    have l1 := (h.b 1 (by omega)).1
    have u2 := (tb 2 (by omega)).2
    rw [show (0 : Nat) + 1 = 1 from rfl, t0] at k0
    rw [show (1 : Nat) + 1 = 2 from rfl] at k1
    constructor <;> grind
def fitPQ (n : Nat) (P : Nat → CV) : Nat → CV := fitQ (unitC (dirS P)) (unitC (dirE n P)) n P (parF one1 P n)
/-- How far a path's points are from its fit. -/
def fitPM (n : Nat) (P : Nat → CV) : Int → FV := missF (fitPQ n P) P (parF one1 P n)
/-- The program fits a drawn path, and any part of it. -/
theorem Pth.fpOk (hp : Pth n P a c) (hn : 2 ≤ n ∧ n ≤ 7) : FpOk fitPM n P := by
  obtain ⟨l, h⟩ := hp.lens hn.2
  obtain ⟨su, sv, eu, ev, x, y, t, F⟩ := hp.fitV hn
  obtain ⟨s1, s2, s3, _⟩ := dirS_ok hp hn
  obtain ⟨e1, e2, e3, _⟩ := dirE_ok hp hn
  refine ⟨⟨hn.1, by omega⟩, isPath_yes n P (by omega) hp.fin h.ok (h.nz hn.1), fitPQ n P, ?_, fun i hi => ?_, F.bdQ, rfl, rfl⟩
  · exact fit_fn F.ok (unit_yes (dirS P) s1 s2 s3) (unit_yes (dirE n P) e1 e2 e3) (paramsOf_fn h hp hn vl_one1 (by decide +kernel))
  · obtain ⟨r, vr, _⟩ := (F.miss hi).1.2
    exact ⟨r, vr⟩
theorem Pth.first (hp : Pth n P a c) {k : Nat} (hk : k ≤ n) : Pth k P a c :=
  ⟨fun i hi => hp.vx i (by omega), fun i hi => hp.vy i (by omega), fun i hi => hp.st i (by omega), fun i hi => hp.bd i (by omega), fun i hi => hp.q i (by omega)⟩
theorem Pth.last (hp : Pth n P a c) (k : Nat) : Pth (n - k) (fun i => P (i + k)) (fun i => a (i + k)) (fun i => c (i + k)) :=
  ⟨fun i hi => hp.vx (i + k) (by omega), fun i hi => hp.vy (i + k) (by omega), fun i hi => by
    have := hp.st (i + k) (by omega)
    rw [show i + 1 + k = i + k + 1 by omega]
    exact this, fun i hi => hp.bd (i + k) (by omega), fun i hi => hp.q (i + k) (by omega)⟩
/-- What is fitted: drawn paths and their parts. -/
def FitG (n : Nat) (P : Nat → CV) : Prop := (2 ≤ n ∧ n ≤ 7) ∧ ∃ a c, Pth n P a c
theorem fitG_parts (n : Nat) (P : Nat → CV) (c : Nat) (h : FitG n P) (h1 : 1 ≤ c) (h2 : c + 1 < n) : FitG (c + 1) P ∧ FitG (n - c) (fun i => P (i + c)) := by
  obtain ⟨hn, a, b, hp⟩ := h
  exact ⟨⟨by omega, a, b, hp.first (by omega)⟩, ⟨by omega, _, _, hp.last c⟩⟩
theorem fitPieces_path (h : FitG n P) {near : FV} (hn1 : finB near = true) (hn2 : cmpB .geq (fcmp .f32 near (fv .f32 0)) = true) : FpC fitPM n P near :=
  fitPieces_fn (G := FitG) (fun _ _ ⟨hn, _, _, hp⟩ => hp.fpOk hn) fitG_parts hn1 hn2 n P h
end
end Go.Ab
namespace Go.Ab
open Go.Proofs
variable {R : World → Prop} [RStab R]
section
variable {P : Program} {S : World → Prop} {e : Env} {dst : Option Tmp} {ty : TypeId} {pos : String} {after : Array Edge} {guard : Option (Nat × Bool)}
theorem opj_nilQ {X : Operand} {xs : List AV} (hx : e.ev X = some (AV.ptr xs)) : OpJ P S e ⟨dst, .nilCheck X, ty, pos, after, guard⟩ (AV.ptr xs) :=
  opj_value fun a w _ h => by
    obtain ⟨hm, bb, hv, hsp, hr⟩ := (h X (by simp [Op.operands]) _ hx).inv_p
    exact ⟨a.eval X, w, by simp [execOp, hv], Ext.refl _, .p hm ⟨bb, hv, hsp, hr⟩⟩
end
abbrev crvP (w : World) (n : Nat) (P : Nat → CV) (f : Int → FV) : AV := AV.ptr [slC w (tabC n P), AV.sl w 1 ((tab n f).map (AV.f .f32))]
theorem Takes.crvPt {w0 : World} {H : List Ent} {args : List AV} {A' : World → List AV} {R0 : World → Prop} {n g c : Nat} {T : TypeId} {P : Nat → CV} {f : Int → FV} (hm : (⟨g, T, [slC w0 (tabC n P), AV.sl w0 1 ((tab n f).map (AV.f .f32))], c⟩ : Ent) ∈ H) (h : Takes (StR R0 w0 [] H) args A') :
    Takes (StR R0 w0 [] H) (.raw (.pointer (some ⟨g, 0, none⟩)) :: args) (fun w => crvP w n P f :: A' w) := fun w vs hS hr => by
  obtain ⟨v, r, rfl, hv, hrr⟩ := hr.inv_cons
  rw [hv.inv_raw]
  refine .cons (.p (mono_ptrTo _) ⟨_, rfl, rfl, fun i x hx => ?_⟩) (h w r hS hrr)
  match i, hx with
  | 0, hx =>
    cases hx
    obtain ⟨u, hu, hev⟩ := (hS.own _ hm).2.cell (i := 0) rfl
    exact ⟨u, by simpa using hu, fun w' => .q (hS.rd (hev w').inv_q)⟩
  | 1, hx =>
    cases hx
    obtain ⟨u, hu, hev⟩ := (hS.own _ hm).2.cell (i := 1) rfl
    exact ⟨u, by simpa using hu, fun w' => .q (hS.rd (hev w').inv_q)⟩
attribute [local irreducible] WS RS Done OpJ Then InBlock Round Ret Env.sub FnH
attribute [local irreducible] tab tabC crvsC
theorem l02Is_yes {n : Nat} {P : Nat → CV} {f : Int → FV} (hn : 2 ≤ n ∧ n ≤ 8) (hP : (tabC n P).all finC = true) (hf : (tab n f).all aboveB = true) : Fn Tryz.prog 28 (fun w => [crvP w n P f]) (.raw (.bool true)) := by
  have d1 : decide ((n : Int) < 2) = false := decide_eq_false (by omega)
  have d2 : decide ((8 : Int) < n) = false := decide_eq_false (by omega)
  have d3 : decide (¬ (n : Int) = n) = false := by simp
  refine fn_intro Tryz.func28 rfl Tryz.ntmps28 (fun _ => Nat.le_of_ble_eq_true rfl) fun w0 => ?_
  repeat first | refine zaa rfl (zay rfl) ?_ | refine zaa rfl (zaz rfl) ?_ | (refine zac ?_; refine zaa rfl (zbe rfl rfl) ?_) | (refine zad ?_; refine zaa rfl (opj_lenC rfl) ?_) | refine zaa rfl (zce rfl) ?_ | refine zah ?_ | (refine zcr ?_; refine zcs ?_) | (refine zdb ?_; first | refine zdc ?_ | refine zdd ?_) | refine zaa rfl (opj_nilQ rfl) ?_ | refine zaa rfl (opj_load_ptr rfl rfl rfl) ?_
  rw [d1]
  repeat first | refine zai rfl rfl ?_ | refine zaa rfl (zay rfl) ?_ | (refine zac ?_; refine zaa rfl (zbg rfl rfl) ?_) | refine zaa rfl (zcb rfl rfl) ?_
  rw [d2]
  repeat first | refine zai rfl rfl ?_ | refine zaa rfl (zay rfl) ?_ | (refine zac ?_; refine zaa rfl (zbj rfl rfl) ?_) | (refine zad ?_; refine zaa rfl (zbo rfl) ?_) | (refine zae ?_; refine zaa rfl (zbu rfl rfl) ?_) | refine zaa rfl (zce rfl) ?_ | refine zaa rfl (zcb rfl rfl) ?_ | refine zah ?_ | (refine zcr ?_; refine zcs ?_) | refine zaa rfl (opj_nilQ rfl) ?_
  rw [d3]
  repeat first | refine zaa rfl (zaz rfl) ?_ | refine zah ?_ | (refine zcr ?_; refine zcs ?_) | (refine zdb ?_; first | refine zdc ?_ | refine zdd ?_ | refine zde ?_ | refine zdf ?_ | refine zdj rfl ?_)
  refine ws_loop (ι := Nat) (fun j => [(0, crvP w0 n P f), (3, .raw (.int .i64 n)), (4, .raw (.int .i64 j))]) (fun _ => St w0 [] []) (fun j => j ≤ n) (fun j => n - j) 0 (Nat.zero_le _) ?_ (fun _ h => h) (fun j hj => ?_)
  · (repeat (first | exact Env.sub_nil _ | refine Env.sub_cons rfl ?_))
  repeat first | refine zaa rfl (zay rfl) ?_ | (refine zac ?_; refine zaa rfl (zbe rfl rfl) ?_) | refine zah ?_ | (refine zcr ?_; refine zcs ?_) | (refine zdb ?_; first | refine zdc ?_ | refine zdd ?_)
  refine ws_cond rfl (fun hc => ?_) (fun hc => ?_)
  · have hlt : (j : Int) < n := of_decide_eq_true hc
    have hfin : finC (P j) = true := by
      have := List.all_eq_true.1 hP (P j) (List.mem_of_getElem? (tabC_get P (i := j) (by omega)))
      exact this
    have hab : aboveB (f j) = true := by
      have := List.all_eq_true.1 hf (f j) (List.mem_of_getElem? (tab_get f (i := j) (by omega)))
      exact this
    have hF := l01CFinite_fn (P (j : Int).toNat)
    rw [show finC (P (j : Int).toNat) = true from hfin] at hF
    have hA := l02Above_fn (f j)
    rw [hab] at hA
    repeat first | refine zai rfl rfl ?_ | refine zaa rfl (zay rfl) ?_ | refine zaa rfl (zaz rfl) ?_ | (refine zac ?_; refine zaa rfl (zbb rfl rfl (by omega)) ?_) | (refine zad ?_; first | (refine zaa rfl (zci rfl rfl (hF) ?_) ?_; (focus ((repeat (first | exact Takes.nil | refine Takes.sl ?_ | refine Takes.lit ?_ | refine Takes.fa ?_ | refine Takes.fc ?_ | refine Takes.net ?_ | (refine Takes.ownE ?_ ?_ ?_ ?_ ?_; (focus (exact ⟨_, _, (by (repeat (first | exact mh | refine mt ?_)); done)⟩)); (focus (simp; done)); (focus omega); (focus (simp only [maxLen]; omega))) | refine Takes.same ?_)); done))) | (refine zaa rfl (zci rfl rfl (hA) ?_) ?_; (focus ((repeat (first | exact Takes.nil | refine Takes.sl ?_ | refine Takes.lit ?_ | refine Takes.fa ?_ | refine Takes.fc ?_ | refine Takes.net ?_ | (refine Takes.ownE ?_ ?_ ?_ ?_ ?_; (focus (exact ⟨_, _, (by (repeat (first | exact mh | refine mt ?_)); done)⟩)); (focus (simp; done)); (focus omega); (focus (simp only [maxLen]; omega))) | refine Takes.same ?_)); done)))) | (refine zae ?_; refine zaa rfl (zbu rfl rfl) ?_) | (refine zaf ?_; first | refine zaa rfl (opj_indexC rfl rfl (by omega) (by omega)) ?_ | refine zaa rfl (zbs rfl rfl (by omega) (by omega)) ?_) | refine zaa rfl (zce rfl) ?_ | refine zaa rfl (zcb rfl rfl) ?_ | refine zaa rfl (zcc rfl) ?_ | refine zah ?_ | (refine zcr ?_; first | refine zcs ?_ | refine zcv ?_) | (refine zdb ?_; first | refine zdc ?_ | refine zdd ?_ | refine zde ?_ | refine zdf ?_ | refine zdj rfl ?_) | refine zaa rfl (opj_nilQ rfl) ?_ | refine zaa rfl (opj_load_ptr rfl rfl rfl) ?_
    refine done_round (j + 1) (by omega) (by omega) ?_ (fun _ h => h)
    (repeat (first | exact Env.sub_nil _ | refine Env.sub_cons rfl ?_))
  · repeat first | refine zaa rfl (zaz rfl) ?_ | refine zah ?_ | (refine zcr ?_; first | refine zcs ?_ | refine zcu ?_ | refine zcx ?_ | refine zda ?_) | (refine zdb ?_; first | refine zdc ?_ | refine zdd ?_ | refine zdg ?_ | refine zdh ?_)
    exact done_ret1 rfl () rfl trivial (List.nil_sublist _)
end Go.Ab
namespace Go.Ab
open Go.Proofs
variable {R : World → Prop} [RStab R]
section
variable {P : Program} {N : Nat} {S : World → Prop} {e : Env} {Q : Exit → Env → World → Prop}
variable {w0 : World} {gs : List Nat} {H : List Ent} {t : TypeId}
/-- Four values are what is returned. -/
theorem done_ret4 {R0 : World → Prop} {X : Type} {mk : X → AV} {post : X → List Ent} {good : X → Prop} {fn : Func} {t1 t2 t3 t4 : Tmp} {x1 x2 x3 x4 : AV} (hr : fn.results = #[.tmp t1, .tmp t2, .tmp t3, .tmp t4]) (y : X) (hmk : mk y = .tup [x1, x2, x3, x4]) (h1 : e.look t1 = some x1) (h2 : e.look t2 = some x2) (h3 : e.look t3 = some x3) (h4 : e.look t4 = some x4) (hy : good y) (hs : (post y).Sublist H) :
    Done .ret e (StR R0 w0 gs H) (Ret P fn N w0 gs mk post good) := fun w hw =>
  ⟨.inl rfl, y, hy, hw.mod, fun x hx => ⟨(hw.own x (hs.subset hx)).2, (hw.own x (hs.subset hx)).1⟩, (hw.weak hs).nodup, fun a hF => by
    obtain ⟨u1, hu1, hr1⟩ := hF.rel t1 _ h1
    obtain ⟨u2, hu2, hr2⟩ := hF.rel t2 _ h2
    obtain ⟨u3, hu3, hr3⟩ := hF.rel t3 _ h3
    obtain ⟨u4, hu4, hr4⟩ := hF.rel t4 _ h4
    refine ⟨.tuple #[u1, u2, u3, u4], by simp [results, hr, hu1, hu2, hu3, hu4], ?_⟩
    rw [hmk]
    exact .tup (vs := [u1, u2, u3, u4]) (.cons hr1 (.cons hr2 (.cons hr3 (.cons hr4 .nil))))⟩
/-- A struct that lies in a block of its own, and three more values, are what is returned. -/
theorem done_retCX3 {R0 : World → Prop} {X : Type} {mk : X → AV} {post : X → List Ent} {good : X → Prop} {fn : Func} {p u v u3 : Tmp} {d : TypeDesc} {z : Value} {sz b g c : Nat} {T : TypeId} {xs ys : List AV} {x2 x3 x4 : AV} [hd : TyU P t d] [hi : TyI P t z sz b] (ha : aggD d = true) (hr : fn.results = #[.cell p t, .tmp u, .tmp v, .tmp u3]) (y : X)
    (hp : e.look p = some (.raw (.pointer (some ⟨g, 0, none⟩)))) (h2 : e.look u = some x2) (h3 : e.look v = some x3) (h4 : e.look u3 = some x4) (hm : (⟨g, T, xs, c⟩ : Ent) ∈ H) (hl : Nat.beq xs.length sz = true) (hmk : mk y = .tup [.agg ys, x2, x3, x4]) (hxy : ys = xs) (hy : good y) (hs : (post y).Sublist H) :
    Done .ret e (StR R0 w0 gs H) (Ret P fn N w0 gs mk post good) := fun w hw =>
  ⟨.inl rfl, y, hy, hw.mod, fun x hx => ⟨(hw.own x (hs.subset hx)).2, (hw.own x (hs.subset hx)).1⟩, (hw.weak hs).nodup, fun a hF => by
    subst hxy
    obtain ⟨v1, hv, hrv⟩ := hF.rel p _ hp
    have := hrv.inv_raw
    subst this
    obtain ⟨v2, hv2, hrv2⟩ := hF.rel u _ h2
    obtain ⟨v3, hv3, hrv3⟩ := hF.rel _ _ h3
    obtain ⟨v4, hv4, hrv4⟩ := hF.rel _ _ h4
    obtain ⟨cs, hrun, hrel⟩ := run_loadA (P := P) (t := t) (w := w) ha (bb := ⟨g, 0, none⟩) rfl (xs := ys) (Nat.eq_of_beq_eq_true hl) (fun j x hj => (hw.own _ hm).2.cell (by simpa using hj))
    refine ⟨.tuple #[.agg cs.toArray, v2, v3, v4], ?_, by rw [hmk]; exact .tup (vs := [_, _, _, _]) (.cons (.agg hrel) (.cons hrv2 (.cons hrv3 (.cons hrv4 .nil))))⟩
    simp [results, hr, hv, hv2, hv3, hv4, asAddr, hrun]⟩
/-- A curve of the call's own is handed on by its address. -/
theorem Takes.crvPO {args : List AV} {A' : World → List AV} {R0 : World → Prop} {n g c a b : Nat} {T : TypeId} {F : Nat → CV} {f : Int → FV} (hm : (⟨g, T, [.raw (.slice (some ⟨a, 0, none⟩) n n), .raw (.slice (some ⟨b, 0, none⟩) n n)], c⟩ : Ent) ∈ H) {T' : TypeId} (ha : entC a n F n ∈ H) (hb : entF b T' n f n ∈ H) (hn : n ≤ maxLen) (h : Takes (StR R0 w0 gs H) args A') :
    Takes (StR R0 w0 gs H) (.raw (.pointer (some ⟨g, 0, none⟩)) :: args) (fun w => crvP w n F f :: A' w) := fun w vs hS hr => by
  obtain ⟨v, r, rfl, hv, hrr⟩ := hr.inv_cons
  rw [hv.inv_raw]
  refine .cons (.p (mono_ptrTo _) ⟨_, rfl, rfl, fun i x hx => ?_⟩) (h w r hS hrr)
  match i, hx with
  | 0, hx =>
    cases hx
    obtain ⟨u, hu, hev⟩ := (hS.own _ hm).2.cell (i := 0) rfl
    exact ⟨u, by simpa using hu, fun w' => .q (rd_ownC hS (hev w) ha (Nat.le_refl _) ⟨Nat.le_refl _, hn⟩)⟩
  | 1, hx =>
    cases hx
    obtain ⟨u, hu, hev⟩ := (hS.own _ hm).2.cell (i := 1) rfl
    exact ⟨u, by simpa using hu, fun w' => .q (rd_own hS (hev w) hb (Nat.le_refl _) ⟨Nat.le_refl _, hn⟩)⟩
end
attribute [local irreducible] WS RS Done OpJ Then InBlock Round Ret Env.sub FnH
attribute [local irreducible] tab tabC
theorem l05Weights_fn (t : FV) : Fn Tryz.prog 38 (fun _ => [.f .f32 t]) (.tup [.f .f32 (shr t 0), .f .f32 (shr t 1), .f .f32 (shr t 2), .f .f32 (shr t 3)]) := by
  refine fn_intro Tryz.func38 rfl Tryz.ntmps38 (fun _ => Nat.le_of_ble_eq_true rfl) fun w0 => ?_
  repeat first | refine zaa rfl (zay rfl) ?_ | refine zaa rfl (zaz rfl) ?_ | (refine zac ?_; refine zaa rfl (zba rfl rfl rfl) ?_) | refine zah ?_ | (refine zcr ?_; refine zcs ?_) | (refine zdb ?_; first | refine zdc ?_ | refine zdd ?_ | refine zdg ?_)
  exact done_ret4 rfl () rfl rfl rfl rfl rfl trivial (List.nil_sublist _)
theorem l05Unit_fn (p : CV) (hp : LongOk p) : Fn Tryz.prog 36 (fun _ => [cA p]) (cA (unitC p)) := by
  have hL := l01Long_fn p hp
  refine fn_intro Tryz.func36 rfl Tryz.ntmps36 (fun _ => Nat.le_of_ble_eq_true rfl) fun w0 => ?_
  repeat first | refine zaa rfl (zay rfl) ?_ | refine zaa rfl (zaz rfl) ?_ | (refine zac ?_; refine zaa rfl (zba rfl rfl rfl) ?_) | (refine zad ?_; first | refine zaa rfl (zbp rfl) ?_ | refine zaa rfl (zbq rfl) ?_ | refine zaa rfl (zbr rfl rfl) ?_ | (refine zaa rfl (zci rfl rfl (hL) ?_) ?_; (focus ((repeat (first | exact Takes.nil | refine Takes.sl ?_ | refine Takes.lit ?_ | refine Takes.fa ?_ | refine Takes.fc ?_ | refine Takes.net ?_ | (refine Takes.ownE ?_ ?_ ?_ ?_ ?_; (focus (exact ⟨_, _, (by (repeat (first | exact mh | refine mt ?_)); done)⟩)); (focus (simp; done)); (focus omega); (focus (simp only [maxLen]; omega))) | refine Takes.same ?_)); done)))) | refine zah ?_ | (refine zcr ?_; refine zcs ?_) | (refine zdb ?_; first | refine zdc ?_ | refine zdd ?_ | refine zdg ?_)
  unfold cA
  skip
  exact done_ret1 rfl () rfl trivial (List.nil_sublist _)
theorem l05Dot_fn (p q : CV) : Fn Tryz.prog 41 (fun _ => [cA p, cA q]) (.f .f32 (dotF p q)) := by
  refine fn_intro Tryz.func41 rfl Tryz.ntmps41 (fun _ => Nat.le_of_ble_eq_true rfl) fun w0 => ?_
  unfold cA
  repeat first | refine zaa rfl (zay rfl) ?_ | refine zaa rfl (zaz rfl) ?_ | (refine zac ?_; refine zaa rfl (zba rfl rfl rfl) ?_) | (refine zad ?_; first | refine zaa rfl (zbp rfl) ?_ | refine zaa rfl (zbq rfl) ?_) | refine zah ?_ | (refine zcr ?_; refine zcs ?_) | (refine zdb ?_; first | refine zdc ?_ | refine zdd ?_ | refine zdg ?_)
  exact done_ret1 rfl () rfl trivial (List.nil_sublist _)
theorem l01Power_fn (p : CV) (hp : PowOk p) : Fn Tryz.prog 40 (fun _ => [cA p]) (.f .f32 (powC p)) := by
  have h := l01PowerWide_fn p
  have h2 := l01Narrow_fn _ hp
  refine fn_intro Tryz.func40 rfl Tryz.ntmps40 (fun _ => Nat.le_of_ble_eq_true rfl) fun w0 => ?_
  repeat first | refine zaa rfl (zay rfl) ?_ | refine zaa rfl (zaz rfl) ?_ | (refine zad ?_; first | (refine zaa rfl (zci rfl rfl (h) ?_) ?_; (focus ((repeat (first | exact Takes.nil | refine Takes.sl ?_ | refine Takes.lit ?_ | refine Takes.fa ?_ | refine Takes.fc ?_ | refine Takes.net ?_ | (refine Takes.ownE ?_ ?_ ?_ ?_ ?_; (focus (exact ⟨_, _, (by (repeat (first | exact mh | refine mt ?_)); done)⟩)); (focus (simp; done)); (focus omega); (focus (simp only [maxLen]; omega))) | refine Takes.same ?_)); done))) | (refine zaa rfl (zci rfl rfl (h2) ?_) ?_; (focus ((repeat (first | exact Takes.nil | refine Takes.sl ?_ | refine Takes.lit ?_ | refine Takes.fa ?_ | refine Takes.fc ?_ | refine Takes.net ?_ | (refine Takes.ownE ?_ ?_ ?_ ?_ ?_; (focus (exact ⟨_, _, (by (repeat (first | exact mh | refine mt ?_)); done)⟩)); (focus (simp; done)); (focus omega); (focus (simp only [maxLen]; omega))) | refine Takes.same ?_)); done)))) | refine zah ?_ | (refine zcr ?_; refine zcs ?_) | (refine zdb ?_; first | refine zdc ?_ | refine zdd ?_ | refine zdg ?_)
  exact done_ret1 rfl () rfl trivial (List.nil_sublist _)
theorem l05Piece_fn (F : Nat → CV) : FnH (X := Nat × Nat) Tryz.prog 42 (fun _ => [cA (F 0), cA (F 1), cA (F 2), cA (F 3)]) [] (fun y => crvO y.1 y.2 4) (fun y => [entF y.2 27 4 (fun _ => one1) 4, entC y.1 4 F 4]) (fun _ => True) := by
  have e1 : (tabC 4 F).map cA = [cA (F 0), cA (F 1), cA (F 2), cA (F 3)] := by unfold tabC; rfl
  refine fn_intro Tryz.func42 rfl Tryz.ntmps42 (fun _ => Nat.le_of_ble_eq_true rfl) fun w0 => ?_
  repeat first | refine zaa rfl (zay rfl) ?_ | refine zah ?_ | (refine zcr ?_; refine zcs ?_) | (refine zdb ?_; first | refine zdc ?_ | refine zdd ?_) | (refine zal rfl rfl ?_; intro g) | (refine rs_litP rfl rfl rfl rfl rfl rfl ?_; intro a) | refine zaa rfl (opj_buildV rfl rfl) ?_
  rw [show ∀ g, (⟨g, 36, [cA (F 0), cA (F 1), cA (F 2), cA (F 3)], 4⟩ : Ent) = entC g 4 F 4 from fun g => by unfold entC; rw [e1]]
  rw [show ∀ g, (⟨g, 27, [cv (Value.float FloatKind.f32 1065353216), cv (Value.float FloatKind.f32 1065353216), cv (Value.float FloatKind.f32 1065353216), cv (Value.float FloatKind.f32 1065353216)], 4⟩ : Ent) = entF g 27 4 (fun _ => one1) 4 from fun g => by unfold entF tab; rfl]
  repeat first | refine zah ?_ | (refine zcr ?_; refine zcs ?_) | (refine zdb ?_; refine zdg ?_) | refine zan 2 rfl rfl rfl rfl rfl rfl rfl rfl rfl ?_
  exact done_retX rfl rfl (_, _) rfl (mt (mt mh)) rfl rfl rfl trivial (.cons_cons _ (.cons_cons _ (List.nil_sublist _)))
end Go.Ab
namespace Go.Ab
open Go.Proofs
variable {R : World → Prop} [RStab R]
def missS (F P : Nat → CV) (tt : Int → FV) (i : Nat) : CV := subC2 (P i) (addC2 (addC2 (addC2 (scaleC (F 0) (shr (tt i) 0)) (scaleC (F 1) (shr (tt i) 1))) (scaleC (F 2) (shr (tt i) 2))) (scaleC (F 3) (shr (tt i) 3)))
attribute [local irreducible] WS RS Done OpJ Then InBlock Round Ret Env.sub FnH
attribute [local irreducible] tab tabC
theorem l05Miss_fn {n i : Nat} (F P : Nat → CV) (tt : Int → FV) (hi : i < n) (hL : LongOk (missS F P tt i)) :
    Fn Tryz.prog 43 (fun w => [slC w (tabC n P), slC w (tabC 4 F), AV.sl w 1 ((tab n tt).map (AV.f .f32)), .raw (.int .i64 i)]) (.f .f32 (longC (missS F P tt i))) := by
  have hW := l05Weights_fn (tt i)
  have h0 := l01Scale_fn (F 0) (shr (tt i) 0)
  have h1 := l01Scale_fn (F 1) (shr (tt i) 1)
  have h2 := l01Scale_fn (F 2) (shr (tt i) 2)
  have h3 := l01Scale_fn (F 3) (shr (tt i) 3)
  have hl := l01Long_fn _ hL
  unfold missS at hl
  have e0 : (0 : Int).toNat = 0 := rfl
  have e1 : (1 : Int).toNat = 1 := rfl
  have e2 : (2 : Int).toNat = 2 := rfl
  have e3 : (3 : Int).toNat = 3 := rfl
  refine fn_intro Tryz.func43 rfl Tryz.ntmps43 (fun _ => Nat.le_of_ble_eq_true rfl) fun w0 => ?_
  repeat first | refine zaa rfl (zay rfl) ?_ | refine zaa rfl (zaz rfl) ?_ | (refine zad ?_; (refine zaa rfl (zci rfl rfl (hW) ?_) ?_; (focus ((repeat (first | exact Takes.nil | refine Takes.sl ?_ | refine Takes.lit ?_ | refine Takes.fa ?_ | refine Takes.fc ?_ | refine Takes.net ?_ | (refine Takes.ownE ?_ ?_ ?_ ?_ ?_; (focus (exact ⟨_, _, (by (repeat (first | exact mh | refine mt ?_)); done)⟩)); (focus (simp; done)); (focus omega); (focus (simp only [maxLen]; omega))) | refine Takes.same ?_)); done)))) | (refine zae ?_; refine zaa rfl (zbu rfl rfl) ?_) | (refine zaf ?_; refine zaa rfl (zbs rfl rfl (by omega) (by omega)) ?_) | refine zaa rfl (zbz rfl rfl) ?_ | refine zah ?_ | (refine zcr ?_; refine zcs ?_) | (refine zdb ?_; first | refine zdc ?_ | refine zdd ?_)
  refine ws_draw (n := 24) mixed (by decide +kernel) ?_
  repeat first | refine zap rfl (zay rfl) ?_ | refine zap rfl (zaz rfl) ?_ | (refine zar ?_; refine zap rfl (opj_cadd rfl rfl) ?_) | (refine zas ?_; first | (refine zap rfl (zci rfl rfl (h0) ?_) ?_; (focus ((repeat (first | exact Takes.nil | refine Takes.sl ?_ | refine Takes.lit ?_ | refine Takes.fa ?_ | refine Takes.fc ?_ | refine Takes.net ?_ | (refine Takes.ownE ?_ ?_ ?_ ?_ ?_; (focus (exact ⟨_, _, (by (repeat (first | exact mh | refine mt ?_)); done)⟩)); (focus (simp; done)); (focus omega); (focus (simp only [maxLen]; omega))) | refine Takes.same ?_)); done))) | (refine zap rfl (zci rfl rfl (h1) ?_) ?_; (focus ((repeat (first | exact Takes.nil | refine Takes.sl ?_ | refine Takes.lit ?_ | refine Takes.fa ?_ | refine Takes.fc ?_ | refine Takes.net ?_ | (refine Takes.ownE ?_ ?_ ?_ ?_ ?_; (focus (exact ⟨_, _, (by (repeat (first | exact mh | refine mt ?_)); done)⟩)); (focus (simp; done)); (focus omega); (focus (simp only [maxLen]; omega))) | refine Takes.same ?_)); done))) | (refine zap rfl (zci rfl rfl (h2) ?_) ?_; (focus ((repeat (first | exact Takes.nil | refine Takes.sl ?_ | refine Takes.lit ?_ | refine Takes.fa ?_ | refine Takes.fc ?_ | refine Takes.net ?_ | (refine Takes.ownE ?_ ?_ ?_ ?_ ?_; (focus (exact ⟨_, _, (by (repeat (first | exact mh | refine mt ?_)); done)⟩)); (focus (simp; done)); (focus omega); (focus (simp only [maxLen]; omega))) | refine Takes.same ?_)); done))) | (refine zap rfl (zci rfl rfl (h3) ?_) ?_; (focus ((repeat (first | exact Takes.nil | refine Takes.sl ?_ | refine Takes.lit ?_ | refine Takes.fa ?_ | refine Takes.fc ?_ | refine Takes.net ?_ | (refine Takes.ownE ?_ ?_ ?_ ?_ ?_; (focus (exact ⟨_, _, (by (repeat (first | exact mh | refine mt ?_)); done)⟩)); (focus (simp; done)); (focus omega); (focus (simp only [maxLen]; omega))) | refine Takes.same ?_)); done)))) | (refine zat ?_; refine zap rfl (zbu rfl rfl) ?_) | (refine zau ?_; refine zap rfl (opj_indexC rfl rfl (by omega) (by omega)) ?_) | refine zav ?_
  repeat first | refine zaa rfl (zay rfl) ?_ | refine zaa rfl (zaz rfl) ?_ | (refine zac ?_; refine zaa rfl (opj_csub rfl rfl) ?_) | (refine zad ?_; (refine zaa rfl (zci rfl rfl (hl) ?_) ?_; (focus ((repeat (first | exact Takes.nil | refine Takes.sl ?_ | refine Takes.lit ?_ | refine Takes.fa ?_ | refine Takes.fc ?_ | refine Takes.net ?_ | (refine Takes.ownE ?_ ?_ ?_ ?_ ?_; (focus (exact ⟨_, _, (by (repeat (first | exact mh | refine mt ?_)); done)⟩)); (focus (simp; done)); (focus omega); (focus (simp only [maxLen]; omega))) | refine Takes.same ?_)); done)))) | (refine zae ?_; refine zaa rfl (zbu rfl rfl) ?_) | (refine zaf ?_; refine zaa rfl (opj_indexC rfl rfl (by omega) (by omega)) ?_) | refine zah ?_ | (refine zcr ?_; refine zcs ?_) | (refine zdb ?_; first | refine zdc ?_ | refine zdd ?_ | refine zdg ?_)
  exact done_ret1 rfl () rfl trivial (List.nil_sublist _)
end Go.Ab
namespace Go.Ab
open Go.Proofs
section
variable {P : Program} {S : World → Prop} {e : Env} {dst : Option Tmp} {ty : TypeId} {pos : String} {after : Array Edge} {guard : Option (Nat × Bool)} {w0 : World} {gs : List Nat} {H : List Ent} {R : World → Prop} [RStab R]
theorem opj_cneg {t : TypeId} {X : Operand} {k : FloatKind} {x y : FV} (hx : e.ev X = some (.c k x y)) : OpJ P S e ⟨dst, .unOp .neg t X, ty, pos, after, guard⟩ (.c k (fneg k x) (fneg k y)) :=
  opj_value fun a w _ h => by
    obtain ⟨p, q, h1, e1, e2, hp, hq⟩ := (h X (by simp [Op.operands]) _ hx).inv_c
    refine ⟨.complex k (negBits k p) (negBits k q), w, ?_, Ext.refl _, Rel.c' (negBits_lt k hp) (negBits_lt k hq) (by rw [fv_negBits, e1]) (by rw [fv_negBits, e2])⟩
    simp [execOp, h1, Op.unary, Op.negFloat, negBits]
end
end Go.Ab
