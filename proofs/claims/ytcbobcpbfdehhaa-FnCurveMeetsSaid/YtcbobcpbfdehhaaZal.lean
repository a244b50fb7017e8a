/- Part 12 of the texts on which the law leans, joined: Where a curve meets a line, the program's; walked. No conditions. -/
import Derived.Test.YtcbobcpbfdehhaaZak
namespace Go.Ab
/-- Points within bounds. -/
structure B1 (n : Nat) (P : Nat → CV) : Prop where
  c1 : ∀ k, k < n → ∃ r, Vl .f32 (P k).1 r ∧ -128 ≤ r ∧ r ≤ 128
  c2 : ∀ k, k < n → ∃ r, Vl .f32 (P k).2 r ∧ -128 ≤ r ∧ r ≤ 128
theorem hrow_b1 {n : Nat} {X : Nat → FV} (h : ∀ k, k < n → ∃ r, Vl .f32 (X k) r ∧ -128 ≤ r ∧ r ≤ 128) : ∀ (k i : Nat), i + k < n → ∃ r, Vl .f32 (hrowF X k i) r ∧ -128 ≤ r ∧ r ≤ 128
  | 0, i, hi => h i (by omega)
  | k + 1, i, hi => by
    obtain ⟨r, vr, br⟩ := hrow_b1 h k i (by omega)
    obtain ⟨s, vs, bs⟩ := hrow_b1 h k (i + 1) (by omega)
    obtain ⟨z, vz, bz, _⟩ := hbF_vl vr vs br bs
    exact ⟨z, vz, bz⟩
theorem B1.left {n : Nat} {P : Nat → CV} (h : B1 n P) : B1 n (leftP P) :=
  ⟨fun k hk => by unfold leftP; rw [hrow_1]; exact hrow_b1 h.c1 k 0 (by omega), fun k hk => by unfold leftP; rw [hrow_2]; exact hrow_b1 h.c2 k 0 (by omega)⟩
theorem B1.right {n : Nat} {P : Nat → CV} (h : B1 n P) : B1 n (rightP n P) :=
  ⟨fun k hk => by unfold rightP; rw [hrow_1]; exact hrow_b1 h.c1 (n - 1 - k) k (by omega), fun k hk => by unfold rightP; rw [hrow_2]; exact hrow_b1 h.c2 (n - 1 - k) k (by omega)⟩
theorem B1.fin {n : Nat} {P : Nat → CV} (h : B1 n P) : (tabC n P).all finC = true := by
  unfold tabC
  rw [List.all_eq_true]
  intro p hp
  obtain ⟨i, hi, rfl⟩ := List.mem_map.1 hp
  have := List.mem_range.1 hi
  obtain ⟨r, vr, _⟩ := h.c1 i this
  obtain ⟨s, vs, _⟩ := h.c2 i this
  exact finC_vl vr vs
section
variable {d a z : CV} {δ ε α β x y : Rat}
theorem cross_vl (v1 : Vl .f32 d.1 δ) (v2 : Vl .f32 d.2 ε) (w1 : Vl .f32 z.1 x) (w2 : Vl .f32 z.2 y) (h1 : -5 ≤ δ ∧ δ ≤ 5) (h2 : -5 ≤ ε ∧ ε ≤ 5) (h3 : -140 ≤ x ∧ x ≤ 140) (h4 : -140 ≤ y ∧ y ≤ 140) :
    ∃ s, Vl .f32 (crossM d z) s ∧ -(1 / 2000) ≤ s - (δ * y - ε * x) ∧ s - (δ * y - ε * x) ≤ 1 / 2000 := by
  have m1 := mul_bnd (p := δ) (q := y) (a := 5) (b := 140) (by grind) (by grind) (by grind) (by grind)
  have m2 := mul_bnd (p := ε) (q := x) (a := 5) (b := 140) (by grind) (by grind) (by grind) (by grind)
  obtain ⟨p, vp, _, p1, p2⟩ := mulR v1 w2 700 (by grind) (by grind) (by decide +kernel)
  obtain ⟨q, vq, _, q1, q2⟩ := mulR v2 w1 700 (by grind) (by grind) (by decide +kernel)
  obtain ⟨s, vs, _, s1, s2⟩ := subR vp vq 1500 (by grind) (by grind) (by decide +kernel)
  exact ⟨s, vs, by grind, by grind⟩
theorem side_vl (v1 : Vl .f32 d.1 δ) (v2 : Vl .f32 d.2 ε) (a1 : Vl .f32 a.1 α) (a2 : Vl .f32 a.2 β) (w1 : Vl .f32 z.1 x) (w2 : Vl .f32 z.2 y) (h1 : -5 ≤ δ ∧ δ ≤ 5) (h2 : -5 ≤ ε ∧ ε ≤ 5) (h5 : -5 ≤ α ∧ α ≤ 5) (h6 : -5 ≤ β ∧ β ≤ 5) (h3 : -128 ≤ x ∧ x ≤ 128) (h4 : -128 ≤ y ∧ y ≤ 128) :
    ∃ s, Vl .f32 (sideC d a z) s ∧ -(1 / 500) ≤ s - (δ * (y - β) - ε * (x - α)) ∧ s - (δ * (y - β) - ε * (x - α)) ≤ 1 / 500 := by
  obtain ⟨u, vu, _, u1, u2⟩ := subR w1 a1 134 (by grind) (by grind) (by decide +kernel)
  obtain ⟨v, vv, _, w3, w4⟩ := subR w2 a2 134 (by grind) (by grind) (by decide +kernel)
  obtain ⟨s, vs, s1, s2⟩ := cross_vl (z := subC2 z a) v1 v2 vu vv h1 h2 (by constructor <;> grind) (by constructor <;> grind)
  have m1 := mul_bnd (p := δ) (q := v - (y - β)) (a := 5) (b := 1 / 20000) (by grind) (by grind) (by grind) (by grind)
  have m2 := mul_bnd (p := ε) (q := u - (x - α)) (a := 5) (b := 1 / 20000) (by grind) (by grind) (by grind) (by grind)
  have e : δ * v - ε * u = (δ * (y - β) - ε * (x - α)) + δ * (v - (y - β)) - ε * (u - (x - α)) := by grind
  exact ⟨s, vs, by grind, by grind⟩
end
/-- A line's direction and a point of it, by value. -/
structure LnV (d a : CV) : Prop where
  h : ∃ δ ε α β, (Vl .f32 d.1 δ ∧ 1 ≤ δ ∧ δ ≤ 4) ∧ (Vl .f32 d.2 ε ∧ -1 ≤ ε ∧ ε ≤ 1) ∧ (Vl .f32 a.1 α ∧ -2 ≤ α ∧ α ≤ 2) ∧ (Vl .f32 a.2 β ∧ -2 ≤ β ∧ β ≤ 2)
theorem LnV.fin {d a : CV} {n : Nat} {P : Nat → CV} (h : LnV d a) (hP : B1 n P) (k : Nat) (hk : k < n) : finB (sideC d a (P k)) = true := by
  obtain ⟨δ, ε, α, β, ⟨v1, a1, b1⟩, ⟨v2, a2, b2⟩, ⟨v3, a3, b3⟩, v4, a4, b4⟩ := h.h
  obtain ⟨x, vx, x1, x2⟩ := hP.c1 k hk
  obtain ⟨y, vy, y1, y2⟩ := hP.c2 k hk
  obtain ⟨s, vs, _⟩ := side_vl v1 v2 v3 v4 vx vy (by constructor <;> grind) (by constructor <;> grind) (by constructor <;> grind) (by constructor <;> grind) (by constructor <;> grind) (by constructor <;> grind)
  unfold finB
  exact vl_fin vs
def cntP (p : Nat → Bool) : Nat → Nat
  | 0 => 0
  | k + 1 => match p k with
    | true => cntP p k + 1
    | false => cntP p k
theorem cntP_le (p : Nat → Bool) : ∀ n, cntP p n ≤ n
  | 0 => Nat.le_refl _
  | k + 1 => by
    have := cntP_le p k
    unfold cntP
    cases p k <;> simp only <;> omega
theorem cntP_all (p : Nat → Bool) : ∀ n, decide (cntP p n = n) = allLt p n
  | 0 => rfl
  | k + 1 => by
    have ih := cntP_all p k
    have hle := cntP_le p k
    unfold cntP allLt
    cases hp : p k with
    | true =>
      simp only [Bool.true_and]
      rw [← ih]
      exact decide_eq_decide.2 (by omega)
    | false =>
      simp only [Bool.false_and]
      exact decide_eq_false (by omega)
theorem cntP_dec (p : Nat → Bool) (n : Nat) : decide ((cntP p n : Int) = (n : Int)) = allLt p n := by
  rw [← cntP_all]
  exact decide_eq_decide.2 (by omega)
def nearL : FV := fv .f32 998244352
def tmM (j : Nat) (i : Nat) : FV := tmF (j + 1) (2 * (i : Int) + 1)
theorem near_dec : allLt (fun j => decide (cmpB .leq (fcmp .f32 (tmF j 1) nearL) = decide (8 ≤ j))) 9 = true := by decide +kernel
theorem line_near {j : Nat} (hj : j ≤ 8) : cmpB .leq (fcmp .f32 (tmF j 1) nearL) = decide (8 ≤ j) := of_decide_eq_true (allLt_of near_dec j (by omega))
theorem tmM_vl {j i : Nat} (hj : j < 9) (hi : i < 2 ^ j) : Vl .f32 (tmM j i) (((2 * i + 1 : Nat) : Rat) / ((2 ^ (j + 1) : Nat) : Rat)) := (tmP hj hi).tm.v
theorem rep_dy (k : Int) (hk : -1000 ≤ k ∧ k ≤ 1000) (e : Int) (he : -100 ≤ e ∧ e ≤ 0) : Rep .f32 ((k : Rat) * p2 e) := by
  have hl : FloatKind.f32.format.leastPlace = -149 := by decide
  rcases Int.le_total 0 k with h | h
  · obtain ⟨m, rfl⟩ := Int.eq_ofNat_of_zero_le h
    exact .inl ⟨m, e, by have : (2 : Nat) ^ (FloatKind.f32.format.fractionBits + 1) = 16777216 := by decide
                         omega, by omega, rfl⟩
  · obtain ⟨m, hm⟩ := Int.eq_ofNat_of_zero_le (show 0 ≤ -k by omega)
    have e1 : -((k : Rat) * p2 e) = ((m : Nat) : Rat) * p2 e := by
      have : ((-k : Int) : Rat) = ((m : Int) : Rat) := by rw [hm]
      rw [Rat.intCast_neg] at this
      rw [← natCast_intCast, ← this]
      grind
    exact .inr ⟨m, e, by have : (2 : Nat) ^ (FloatKind.f32.format.fractionBits + 1) = 16777216 := by decide
                         omega, by omega, e1⟩
/-- How far two times are apart. -/
theorem tm_sub {j i l : Nat} (hj : j < 9) (hi : i < 2 ^ j) (hl : l < 2 ^ j) : Vl .f32 (fbin .sub .f32 (tmM j i) (tmM j l)) ((((i : Int) - (l : Int) : Int) : Rat) / ((2 ^ j : Nat) : Rat)) := by
  have h1 := tmM_vl hj hi
  have h2 := tmM_vl hj hl
  have hp : (2 : Nat) ^ j ≤ 256 := Nat.le_trans (Nat.pow_le_pow_right (by decide) (show j ≤ 8 by omega)) (by decide)
  have hpos : 0 < 2 ^ j := Nat.pos_of_ne_zero (by have := Nat.one_le_two_pow (n := j); omega)
  obtain ⟨D, hD⟩ : ∃ D : Rat, D = ((2 ^ j : Nat) : Rat) := ⟨_, rfl⟩
  have hD1 : 1 ≤ D := by rw [hD]; exact k_le hpos
  have e2 : ((2 ^ (j + 1) : Nat) : Rat) = 2 * D := by rw [Nat.pow_succ, Rat.natCast_mul, hD]; show _ * 2 = _; grind
  have en : ∀ m : Nat, ((2 * m + 1 : Nat) : Rat) = 2 * (m : Rat) + 1 := fun m => by rw [Rat.natCast_add, Rat.natCast_mul]; rfl
  have ei : (((i : Int) - (l : Int) : Int) : Rat) = (i : Rat) - (l : Rat) := by rw [Rat.intCast_sub]; rfl
  rw [en, e2] at h1 h2
  rw [← hD]
  have ev : (2 * (i : Rat) + 1) / (2 * D) - (2 * (l : Rat) + 1) / (2 * D) = (((i : Int) - (l : Int) : Int) : Rat) / D := by
    rw [ei]
    have : D ≠ 0 := by grind
    grind
  have il := k_le (show i ≤ 256 by omega)
  have ll := k_le (show l ≤ 256 by omega)
  have i0 := k_le (Nat.zero_le i)
  have l0 := k_le (Nat.zero_le l)
  have e256 : ((256 : Nat) : Rat) = 256 := rfl
  have e0 : ((0 : Nat) : Rat) = 0 := rfl
  have dv : -256 ≤ (((i : Int) - (l : Int) : Int) : Rat) / D ∧ (((i : Int) - (l : Int) : Int) : Rat) / D ≤ 256 := by
    rw [ei]
    have p0 : 0 < D := by grind
    constructor
    · exact le_div_of p0 (by grind)
    · exact div_le_of p0 (by grind)
  obtain ⟨r, vr, rr, _⟩ := subR h1 h2 256 (by rw [ev]; exact dv.1) (by rw [ev]; exact dv.2) (by decide +kernel)
  rw [ev] at rr
  have hrep : Rep .f32 ((((i : Int) - (l : Int) : Int) : Rat) / D) := by
    have := rep_dy ((i : Int) - (l : Int)) (by omega) (-(j : Int)) (by omega)
    have ep : ((((i : Int) - (l : Int) : Int) : Rat) / D) = (((i : Int) - (l : Int) : Int) : Rat) * p2 (-(j : Int)) := by
      have e3 : p2 (-(j : Int)) * D = 1 := by
        rw [hD, show ((2 ^ j : Nat) : Rat) = p2 (j : Int) from (p2_nat j).symm, ← p2_add, show -(j : Int) + j = 0 by omega]
        decide +kernel
      have : D ≠ 0 := by grind
      have e4 : p2 (-(j : Int)) = 1 / D := by grind
      rw [e4]
      grind
    rw [ep]
    exact this
  rw [rnd_rep rr hrep] at vr
  exact vr
/-- The absolute value of how far two times are apart, beside some steps. -/
theorem tm_abs {j i l c : Nat} (hj : j < 9) (hi : i < 2 ^ j) (hl : l < 2 ^ j) {N : FV} (hN : Vl .f32 N ((c : Rat) / ((2 ^ j : Nat) : Rat))) :
    cmpB .leq (fcmp .f32 (maxF .f32 (fbin .sub .f32 (tmM j i) (tmM j l)) (fneg .f32 (fbin .sub .f32 (tmM j i) (tmM j l)))) N) = (decide (i ≤ l + c) && decide (l ≤ i + c)) := by
  have h := tm_sub hj hi hl
  obtain ⟨D, hD⟩ : ∃ D : Rat, D = ((2 ^ j : Nat) : Rat) := ⟨_, rfl⟩
  have hpos : 0 < 2 ^ j := Nat.pos_of_ne_zero (by have := Nat.one_le_two_pow (n := j); omega)
  have hD1 : 1 ≤ D := by rw [hD]; exact k_le hpos
  rw [← hD] at h hN
  obtain ⟨r, vr, h1, h2, h3⟩ := vl_max h (vl_fneg h)
  rw [vl_leq vr hN]
  have ei : (((i : Int) - (l : Int) : Int) : Rat) = (i : Rat) - (l : Rat) := by rw [Rat.intCast_sub]; rfl
  rw [ei] at h1 h2 h3
  have p0 : 0 < D := by grind
  have up : ∀ x y : Rat, x / D ≤ y / D ↔ x ≤ y := fun x y => by
    constructor
    · intro hxy
      have := Rat.mul_le_mul_of_nonneg_right hxy (Rat.le_of_lt p0)
      rw [Rat.div_mul_cancel (Rat.ne_of_gt p0), Rat.div_mul_cancel (Rat.ne_of_gt p0)] at this
      exact this
    · intro hxy
      exact div_le_of p0 (by rw [Rat.div_mul_cancel (Rat.ne_of_gt p0)]; exact hxy)
  have eneg : -(((i : Rat) - (l : Rat)) / D) = ((l : Rat) - (i : Rat)) / D := by grind
  rw [eneg] at h2 h3
  have nle : ∀ a b : Nat, (a : Rat) ≤ (b : Rat) + (c : Rat) ↔ a ≤ b + c := fun a b => by
    rw [← Rat.natCast_add]
    exact Rat.natCast_le_natCast
  rw [← Bool.decide_and]
  refine decide_eq_decide.2 ⟨fun hr => ?_, fun ⟨g1, g2⟩ => ?_⟩
  · have q1 := (up _ _).1 (Rat.le_trans h1 hr)
    have q2 := (up _ _).1 (Rat.le_trans h2 hr)
    exact ⟨(nle _ _).1 (by grind), (nle _ _).1 (by grind)⟩
  · have q1 := (nle i l).2 g1
    have q2 := (nle l i).2 g2
    rcases h3 with rfl | rfl
    · exact (up _ _).2 (by grind)
    · exact (up _ _).2 (by grind)
/-- The reference's way to say so. -/
theorem tm_gap {j i l c : Nat} (hj : j < 9) (hi : i < 2 ^ j) (hl : l < 2 ^ j) {N : FV} (hN : Vl .f32 N ((c : Rat) / ((2 ^ j : Nat) : Rat))) :
    cmpB .leq (fcmp .f32 (match cmpB .lss (fcmp .f32 (tmM j i) (tmM j l)) with | true => fbin .sub .f32 (tmM j l) (tmM j i) | false => fbin .sub .f32 (tmM j i) (tmM j l)) N) = (decide (i ≤ l + c) && decide (l ≤ i + c)) := by
  have h := tm_sub hj hi hl
  have h' := tm_sub hj hl hi
  have v1 := tmM_vl hj hi
  have v2 := tmM_vl hj hl
  obtain ⟨D, hD⟩ : ∃ D : Rat, D = ((2 ^ j : Nat) : Rat) := ⟨_, rfl⟩
  have hpos : 0 < 2 ^ j := Nat.pos_of_ne_zero (by have := Nat.one_le_two_pow (n := j); omega)
  have hD1 : 1 ≤ D := by rw [hD]; exact k_le hpos
  have e2 : ((2 ^ (j + 1) : Nat) : Rat) = 2 * D := by rw [Nat.pow_succ, Rat.natCast_mul, hD]; show _ * 2 = _; grind
  rw [← hD] at h h' hN
  have ei : ∀ i l : Nat, (((i : Int) - (l : Int) : Int) : Rat) = (i : Rat) - (l : Rat) := fun i l => by rw [Rat.intCast_sub]; rfl
  rw [ei] at h h'
  have p0 : 0 < D := by grind
  have up : ∀ x y : Rat, x / D ≤ y / D ↔ x ≤ y := fun x y => by
    constructor
    · intro hxy
      have := Rat.mul_le_mul_of_nonneg_right hxy (Rat.le_of_lt p0)
      rw [Rat.div_mul_cancel (Rat.ne_of_gt p0), Rat.div_mul_cancel (Rat.ne_of_gt p0)] at this
      exact this
    · intro hxy
      exact div_le_of p0 (by rw [Rat.div_mul_cancel (Rat.ne_of_gt p0)]; exact hxy)
  have nle : ∀ a b : Nat, (a : Rat) ≤ (b : Rat) + (c : Rat) ↔ a ≤ b + c := fun a b => by
    rw [← Rat.natCast_add]
    exact Rat.natCast_le_natCast
  have hlt : cmpB .lss (fcmp .f32 (tmM j i) (tmM j l)) = decide (i < l) := by
    rw [vl_lss v1 v2, e2]
    refine decide_eq_decide.2 ?_
    have en : ∀ m : Nat, ((2 * m + 1 : Nat) : Rat) = 2 * (m : Rat) + 1 := fun m => by rw [Rat.natCast_add, Rat.natCast_mul]; rfl
    rw [en, en]
    have e3 : ∀ x : Rat, x / (2 * D) = (x / 2) / D := fun x => by grind
    rw [e3, e3, ← Rat.not_le, up, ← Nat.not_le]
    refine not_congr ⟨fun h => ?_, fun h => ?_⟩
    · exact Rat.natCast_le_natCast.1 (by grind)
    · have := Rat.natCast_le_natCast.2 h
      grind
  rw [hlt]
  by_cases hil : i < l
  · rw [decide_eq_true hil]
    dsimp only
    rw [vl_leq h' hN, ← Bool.decide_and]
    refine decide_eq_decide.2 ⟨fun hr => ⟨by omega, (nle _ _).1 (by have := (up _ _).1 hr; grind)⟩, fun ⟨_, g2⟩ => (up _ _).2 (by have := (nle l i).2 g2; grind)⟩
  · rw [decide_eq_false hil]
    dsimp only
    rw [vl_leq h hN, ← Bool.decide_and]
    refine decide_eq_decide.2 ⟨fun hr => ⟨(nle _ _).1 (by have := (up _ _).1 hr; grind), by omega⟩, fun ⟨g1, _⟩ => (up _ _).2 (by have := (nle i l).2 g1; grind)⟩
end Go.Ab
namespace Go.Ab
open Go.Proofs
variable {R : World → Prop} [RStab R]
section
variable {P : Program} {N : Nat} {e : Env} {w0 : World} {gs : List Nat} {H : List Ent} {Q : Exit → Env → World → Prop} {ops : Array Oper} {l : List Oper}
theorem rs_callK {X : Type} {mk : X → AV} {pre : List Ent} {post : X → List Ent} {good : X → Prop} {c : FuncId} {xs : List Operand} {F : Operand} {args : List AV} {dst : Tmp} {ts : Array TypeId} {ty : TypeId} {pos : String} {after : Array Edge} [hb : HasBody P c] {A : World → List AV} {cap : List Value}
    (hc : FnH P c A pre mk post good) (hF' : e.ev F = some (.raw (.func (.func c) #[] cap.toArray))) (hx : evL e xs = some args) (ht : Takes (StR R w0 gs (pre ++ H)) (args ++ cap.map AV.raw) A) (hd : Nat.blt dst N = true)
    (h : ∀ y, good y → RS P N ops l ((dst, mk y) :: e.keep) (StR R w0 gs (post y ++ H)) Q) :
    RS P N ops (⟨some dst, .call { callee := .value F, args := xs.toArray, argTypes := ts }, ty, pos, after, none⟩ :: l) e (StR R w0 gs (pre ++ H)) Q := by
  intro a w hS hF
  refine wpList_plain rfl fun K hK => ?_
  obtain ⟨fnc, hf, hbd, hn⟩ := hb.h
  have h1 := (hF.eval hF').inv_raw
  have hrl : RelL w (A w) (xs.map a.eval ++ cap) := ht w _ hS (relL_append (evL_rel hx fun x _ y hy => hF.eval hy) (rel_raws w cap))
  have hnd := hS.nodup
  rw [List.map_append, List.nodup_append] at hnd
  have hcall := hc w _ hrl (fun x hx => (hS.own x (by simp [hx])).2) hnd.1
  unfold Oper.wp
  have hrun : (execOp a.eval ⟨some dst, .call { callee := .value F, args := xs.toArray, argTypes := ts }, ty, pos, after, none⟩).run P w = .ok (.enter c (xs.map a.eval ++ cap).toArray) w := by
    simp [execOp, resolve, h1, Deferred.ofValue, invoke, run_callFn hf hbd hn]
  rw [hrun]
  refine Calls.mono hcall fun x w' ⟨v, y, hx', hy, hrv, hm, hp, hpn⟩ => ?_
  subst hx'
  exact hK _ _ (h y hy _ w' (hS.call hm hp hpn) (Fr.put (some dst) hF.keep (fun _ h => by cases h; exact Nat.le_of_ble_eq_true hd) hrv))
end
instance tyKa : TyU Try.prog 60 (.func #[62] #[4] false) := ⟨by kernel_rfl⟩
instance tyKb : TyI Try.prog 60 .nilFunc 1 8 := ⟨⟨(Try.prog.info? 60).getD default, by kernel_rfl, by kernel_rfl, by kernel_rfl, by kernel_rfl⟩⟩
/-- Times that are told. -/
def lstF (L : List Nat) (i : Int) : FV := tmM 8 (L.getD i.toNat 0)
structure Lk where
  L : List Nat
  g : Nat
  c : Nat
  ok : Bool
abbrev lnCap (gd ga gn go gl : Nat) : List Value := [.pointer (some ⟨gd, 0, none⟩), .pointer (some ⟨ga, 0, none⟩), .pointer (some ⟨gn, 0, none⟩), .pointer (some ⟨go, 0, none⟩), .pointer (some ⟨gl, 0, none⟩)]
abbrev lnFix (gd ga gn gl go : Nat) (d av : CV) : List Ent := [⟨gd, 30, [cA d], 1⟩, ⟨ga, 30, [cA av], 1⟩, ⟨gn, 31, [.f .f32 nearL], 1⟩, ⟨gl, 60, [.raw (.func (.func 29) #[] (lnCap gd ga gn go gl).toArray)], 1⟩]
abbrev lnOut (go g n c : Nat) : Ent := ⟨go, 25, [.raw (.slice (some ⟨g, 0, none⟩) n c)], 1⟩
/-- What the search for meets promises of a part. -/
def LkC (n : Nat) (d av : CV) (gd ga gn go gl : Nat) (r : Nat) : Prop :=
  ∀ (i : Nat) (P : Nat → CV) (L : List Nat) (a b ca cb g c : Nat), i < 2 ^ (8 - r) → B1 n P → LinP (fun _ => True) (i * 2 ^ r) L → (n ≤ ca ∧ ca ≤ maxLen) ∧ (n ≤ cb ∧ cb ≤ maxLen) → L.length ≤ c ∧ c ≤ maxLen →
    FnH (X := Lk) Try.prog 29 (fun _ => ptOc a b n ca cb (tmF (8 - r) i) (tmF (8 - r) ((i : Int) + 1)) :: (lnCap gd ga gn go gl).map AV.raw)
      ([entC a n P ca, entF b 31 n oneF cb, lnOut go g L.length c, entF g 31 L.length (lstF L) c] ++ lnFix gd ga gn gl go d av) (fun y => .raw (.bool y.ok))
      (fun y => [entC a n P ca, entF b 31 n oneF cb, lnOut go y.g y.L.length y.c, entF y.g 31 y.L.length (lstF y.L) y.c] ++ lnFix gd ga gn gl go d av)
      (fun y => (y.L.length ≤ y.c ∧ y.c ≤ maxLen) ∧ match lineR n d av r i P L with
        | some L' => y.ok = true ∧ y.L = L'
        | none => y.ok = false)
theorem addL_nil (i : Nat) : addL i [] = some [i] := rfl
theorem addL_near {i l : Nat} {L : List Nat} (hq : L.getLast? = some l) (h : i ≤ l + 2) : addL i L = some L := by
  unfold addL
  rw [hq]
  dsimp only
  rw [decide_eq_true h]
theorem addL_far {i l : Nat} {L : List Nat} (hq : L.getLast? = some l) (h : ¬i ≤ l + 2) : addL i L = (match decide (L.length < 24) with | true => some (L ++ [i]) | false => none) := by
  unfold addL
  rw [hq]
  dsimp only
  rw [decide_eq_false h]
  rfl
theorem lstF_last {L : List Nat} {l : Nat} (hq : L.getLast? = some l) : lstF L ((L.length : Int) - 1) = tmM 8 l ∧ l ∈ L ∧ 1 ≤ L.length := by
  rw [List.getLast?_eq_getElem?] at hq
  have h1 : 1 ≤ L.length := by
    cases L with
    | nil => simp at hq
    | cons a L => simp
  refine ⟨?_, List.mem_of_getElem? hq, h1⟩
  unfold lstF
  rw [show ((L.length : Int) - 1).toNat = L.length - 1 by omega, List.getD_eq_getElem?_getD, hq]
  rfl
theorem lstF_new (L : List Nat) (i : Nat) : lstF (L ++ [i]) (L.length : Int) = tmM 8 i := by
  unfold lstF
  rw [show (L.length : Int).toNat = L.length by omega, List.getD_eq_getElem?_getD, List.getElem?_append_right (Nat.le_refl _), Nat.sub_self]
  rfl
theorem lstF_old (L : List Nat) (i : Nat) (s : Int) (h0 : 0 ≤ s) (h : s < (L.length : Nat)) : lstF (L ++ [i]) s = lstF L s := by
  unfold lstF
  rw [List.getD_eq_getElem?_getD, List.getD_eq_getElem?_getD, List.getElem?_append_left (by omega)]
theorem near2_vl : Vl .f32 (fbin .mul .f32 (fv .f32 1073741824) nearL) (((2 : Nat) : Rat) / ((2 ^ 8 : Nat) : Rat)) := by
  have : fbin .mul .f32 (fv .f32 1073741824) nearL = fv .f32 1006632960 := by decide +kernel
  rw [this]
  exact Vl.c (by decide +kernel)
theorem lineR_side {n : Nat} {d a : CV} {P : Nat → CV} (h : sideB n d a P = true) (r i : Nat) (L : List Nat) : lineR n d a r i P L = some L := by
  cases r <;> unfold lineR <;> rw [h]
attribute [local irreducible] WS RS Done OpJ Then InBlock Round Ret Env.sub FnH
attribute [local irreducible] tab tabC
set_option maxRecDepth 100000 in
set_option maxHeartbeats 40000000 in
theorem look_step {n : Nat} {d av : CV} {gd ga gn go gl : Nat} (hn : 2 ≤ n ∧ n ≤ 5) (hl : LnV d av) (r : Nat) (hr : r ≤ 8) (ih : ∀ r', r = r' + 1 → LkC n d av gd ga gn go gl r') : LkC n d av gd ga gn go gl r := by
  intro i P L a b ca cb gL c hi hB hLP ⟨hca, hcb⟩ hc
  have hT := tmP (j := 8 - r) (i := i) (by omega) hi
  have hS := hl.fin hB
  obtain ⟨lo, hlo⟩ : ∃ lo, lo = tmF (8 - r) i := ⟨_, rfl⟩
  obtain ⟨hh, hhh⟩ : ∃ hh, hh = tmF (8 - r) ((i : Int) + 1) := ⟨_, rfl⟩
  have hM := hT.mid
  have hLo := hT.long
  have hmin : ∀ k, Fn Try.prog 28 (fun _ => [cA (P k), cA av]) (cA (subC2 (P k) av)) := fun k => minus_fn _ _
  have hcr : ∀ k, Fn Try.prog 30 (fun _ => [cA d, cA (subC2 (P k) av)]) (.f .f32 (sideC d av (P k))) := fun k => crossM_fn _ _
  rw [← hlo, ← hhh] at hM hLo ⊢
  refine fn_intro Try.func29 rfl Try.ntmps29 (fun _ => Nat.le_of_ble_eq_true rfl) fun w0 => ?_
  repeat first | refine zaa rfl (zay rfl) ?_ | refine zaa rfl (zaz rfl) ?_ | (refine zad ?_; refine zaa rfl (zbn rfl) ?_) | (refine zae ?_; refine zaa rfl (zcf rfl rfl (by (repeat (first | exact mh | refine mt ?_)); done) rfl) ?_) | refine zaa rfl (zcd rfl) ?_ | refine zah ?_ | (refine zcr ?_; refine zcs ?_) | (refine zdb ?_; first | refine zdc ?_ | refine zdd ?_ | refine zde ?_) | (refine zak rfl rfl rfl ?_; intro g)
  obtain ⟨g6, hg6⟩ : ∃ x, x = g := ⟨g, rfl⟩
  subst hg6
  generalize List.map (fun x : Ent => x.g) ([entC a n P ca, entF b 31 n oneF cb, lnOut go gL L.length c, entF gL 31 L.length (lstF L) c] ++ lnFix gd ga gn gl go d av) = gs
  have hP1 : ∀ k, pos0 (sideC d av (P k)) = (fun k => pos0 (sideC d av (P k))) k := fun _ => rfl
  refine ws_loop (ι := Nat) (fun k => [(8, .raw (.int .i64 (cntP (fun k => pos0 (sideC d av (P k))) k : Nat))), (9, .raw (.int .i64 (cntP (fun k => neg0 (sideC d av (P k))) k : Nat))), (19, .raw (.slice (some ⟨a, 0, none⟩) n ca)), (20, .raw (.int .i64 n)), (21, .raw (.int .i64 (k : Nat))), (1, .raw (.pointer (some ⟨gd, 0, none⟩))), (2, .raw (.pointer (some ⟨ga, 0, none⟩))), (3, .raw (.pointer (some ⟨gn, 0, none⟩))), (4, .raw (.pointer (some ⟨go, 0, none⟩))), (5, .raw (.pointer (some ⟨gl, 0, none⟩))), (6, .raw (.pointer (some ⟨g6, 0, none⟩)))])
    (fun _ => St w0 gs [⟨g6, 62, [.raw (.slice (some ⟨a, 0, none⟩) n ca), .raw (.slice (some ⟨b, 0, none⟩) n cb), .f .f32 lo, .f .f32 hh], 4⟩, entC a n P ca, entF b 31 n oneF cb, lnOut go gL L.length c, entF gL 31 L.length (lstF L) c, ⟨gd, 30, [cA d], 1⟩, ⟨ga, 30, [cA av], 1⟩, ⟨gn, 31, [.f .f32 nearL], 1⟩, ⟨gl, 60, [.raw (.func (.func 29) #[] (lnCap gd ga gn go gl).toArray)], 1⟩]) (fun k => k ≤ n) (fun k => n - k) 0 (Nat.zero_le _) ?_ (fun _ h => h) (fun k hk => ?_)
  · (repeat (first | exact Env.sub_nil _ | refine Env.sub_cons rfl ?_))
  repeat first | (refine zac ?_; refine zaa rfl (zbe rfl rfl) ?_) | refine zah ?_ | (refine zcr ?_; refine zcs ?_) | (refine zdb ?_; first | refine zdc ?_ | refine zdd ?_)
  refine ws_cond rfl (fun hd => ?_) (fun hd => ?_)
  case' refine_1 =>
    have hlt : (k : Int) < n := of_decide_eq_true hd
    clear hd
    have e1 : cntP (fun k => pos0 (sideC d av (P k))) (k + 1) = (match pos0 (sideC d av (P k)) with | true => cntP (fun k => pos0 (sideC d av (P k))) k + 1 | false => cntP (fun k => pos0 (sideC d av (P k))) k) := rfl
    have e2 : cntP (fun k => neg0 (sideC d av (P k))) (k + 1) = (match neg0 (sideC d av (P k)) with | true => cntP (fun k => neg0 (sideC d av (P k))) k + 1 | false => cntP (fun k => neg0 (sideC d av (P k))) k) := rfl
    have l1 := cntP_le (fun k => pos0 (sideC d av (P k))) k
    have l2 := cntP_le (fun k => neg0 (sideC d av (P k))) k
    have hfin := isFinite_fn (sideC d av (P k))
    rw [hS k (by omega)] at hfin
    have hmk : Fn Try.prog 28 (fun _ => [cA (P (k : Int).toNat), cA av]) (cA (subC2 (P k) av)) := hmin k
    have hck := hcr k
    repeat first | refine zaa rfl (zaz rfl) ?_ | (refine zae ?_; refine zaa rfl (opj_loadC rfl rfl (by (repeat (first | exact mh | refine mt ?_)); done) (by omega)) ?_) | (refine zaf ?_; refine zaa rfl (zbw rfl rfl (by omega) (by omega)) ?_) | refine zah ?_ | (refine zcr ?_; refine zcs ?_) | (refine zdb ?_; first | refine zdc ?_ | refine zdd ?_ | refine zde ?_ | refine zdf ?_)
    refine ws_draw (n := 6) mixed (by decide +kernel) ?_
    repeat first | refine zap rfl (zay rfl) ?_ | refine zap rfl (zaz rfl) ?_ | (refine zas ?_; first | (refine zap rfl (zci rfl rfl (hmk) ?_) ?_; (focus ((repeat (first | exact Takes.nil | refine Takes.sl ?_ | refine Takes.lit ?_ | refine Takes.fa ?_ | refine Takes.fc ?_ | refine Takes.net ?_ | (refine Takes.ownE ?_ ?_ ?_ ?_ ?_; (focus (exact ⟨_, _, (by (repeat (first | exact mh | refine mt ?_)); done)⟩)); (focus (simp; done)); (focus omega); (focus (simp only [maxLen]; omega))) | refine Takes.same ?_)); done))) | (refine zap rfl (zci rfl rfl (hck) ?_) ?_; (focus ((repeat (first | exact Takes.nil | refine Takes.sl ?_ | refine Takes.lit ?_ | refine Takes.fa ?_ | refine Takes.fc ?_ | refine Takes.net ?_ | (refine Takes.ownE ?_ ?_ ?_ ?_ ?_; (focus (exact ⟨_, _, (by (repeat (first | exact mh | refine mt ?_)); done)⟩)); (focus (simp; done)); (focus omega); (focus (simp only [maxLen]; omega))) | refine Takes.same ?_)); done)))) | (refine zat ?_; refine zap rfl (zcf rfl rfl (by (repeat (first | exact mh | refine mt ?_)); done) rfl) ?_) | refine zav ?_
    repeat first | refine zaa rfl (zay rfl) ?_ | (refine zac ?_; refine zaa rfl (zbd rfl rfl rfl) ?_) | (refine zad ?_; (refine zaa rfl (zci rfl rfl (hfin) ?_) ?_; (focus ((repeat (first | exact Takes.nil | refine Takes.sl ?_ | refine Takes.lit ?_ | refine Takes.fa ?_ | refine Takes.fc ?_ | refine Takes.net ?_ | (refine Takes.ownE ?_ ?_ ?_ ?_ ?_; (focus (exact ⟨_, _, (by (repeat (first | exact mh | refine mt ?_)); done)⟩)); (focus (simp; done)); (focus omega); (focus (simp only [maxLen]; omega))) | refine Takes.same ?_)); done)))) | refine zaa rfl (zcc rfl) ?_ | refine zah ?_ | (refine zcr ?_; refine zcs ?_) | (refine zdb ?_; first | refine zdc ?_ | refine zdd ?_ | refine zdf ?_ | refine zdj rfl ?_)
    refine ws_cond rfl (fun h1 => ?_) (fun h1 => ?_)
    all_goals
      have h1' : pos0 (sideC d av (P k)) = _ := h1
      rw [h1'] at e1
      dsimp only at e1
      repeat first | refine zaa rfl (zay rfl) ?_ | refine zaa rfl (zaz rfl) ?_ | (refine zac ?_; first | refine zaa rfl (zbb rfl rfl (by omega)) ?_ | refine zaa rfl (zbd rfl rfl rfl) ?_) | refine zah ?_ | (refine zcr ?_; refine zcs ?_) | (refine zdb ?_; first | refine zdc ?_ | refine zdd ?_ | refine zdf ?_)
      refine ws_cond rfl (fun h2 => ?_) (fun h2 => ?_)
      all_goals
        have h2' : neg0 (sideC d av (P k)) = _ := h2
        rw [h2'] at e2
        dsimp only at e2
        repeat first | refine zaa rfl (zay rfl) ?_ | refine zaa rfl (zaz rfl) ?_ | (refine zac ?_; refine zaa rfl (zbb rfl rfl (by omega)) ?_) | refine zah ?_ | (refine zcr ?_; first | refine zcs ?_ | refine zcv ?_) | (refine zdb ?_; first | refine zdd ?_ | refine zdf ?_)
        refine done_round (k + 1) (by omega) (by omega) ?_ (fun _ h => h)
        rw [e1, e2, show ((k + 1 : Nat) : Int) = (k : Int) + 1 by omega]
        (repeat (first | exact Env.sub_nil _ | refine Env.sub_cons rfl ?_))
  have hkn : n = k := by have := of_decide_eq_false hd; omega
  subst hkn
  clear hd hk
  have c1 := cntP_dec (fun k => pos0 (sideC d av (P k))) n
  have c2 := cntP_dec (fun k => neg0 (sideC d av (P k))) n
  repeat first | refine zaa rfl (zay rfl) ?_ | (refine zac ?_; refine zaa rfl (zbi rfl rfl) ?_) | (refine zad ?_; refine zaa rfl (zbn rfl) ?_) | (refine zae ?_; refine zaa rfl (zcf rfl rfl (by (repeat (first | exact mh | refine mt ?_)); done) rfl) ?_) | refine zaa rfl (zcd rfl) ?_ | (refine zcr ?_; first | refine zcs ?_ | refine zcu ?_ | refine zcx ?_ | refine zda ?_) | (refine zdb ?_; first | refine zdc ?_ | refine zdd ?_ | refine zdh ?_)
  rw [c1]
  cases p1 : allLt (fun k => pos0 (sideC d av (P k))) n
  case' true =>
    repeat first | refine zaj rfl rfl rfl rfl ?_ | refine zaa rfl (zaz rfl) ?_ | refine zaa rfl (zca rfl rfl) ?_ | refine zah ?_ | (refine zcr ?_; first | refine zcs ?_ | refine zct ?_) | (refine zdb ?_; first | refine zdc ?_ | refine zdd ?_ | refine zdg ?_ | refine zdi rfl ?_)
    exact done_ret1 rfl (⟨L, gL, c, true⟩ : Lk) rfl ⟨hc, by rw [lineR_side (by unfold sideB; rw [p1]; rfl)]; exact ⟨rfl, rfl⟩⟩ (.cons _ (List.Sublist.refl _))
  repeat first | refine zai rfl rfl ?_ | refine zaa rfl (zay rfl) ?_ | (refine zac ?_; refine zaa rfl (zbi rfl rfl) ?_) | (refine zad ?_; refine zaa rfl (zbn rfl) ?_) | (refine zae ?_; refine zaa rfl (zcf rfl rfl (by (repeat (first | exact mh | refine mt ?_)); done) rfl) ?_) | refine zaa rfl (zcd rfl) ?_ | refine zaa rfl (zcb rfl rfl) ?_ | refine zah ?_ | (refine zcr ?_; refine zcs ?_)
  rw [c2]
  cases p2 : allLt (fun k => neg0 (sideC d av (P k))) n
  case' true =>
    repeat first | refine zaa rfl (zaz rfl) ?_ | refine zah ?_ | (refine zcr ?_; first | refine zcs ?_ | refine zct ?_) | (refine zdb ?_; first | refine zdc ?_ | refine zdd ?_ | refine zdg ?_ | refine zdi rfl ?_)
    exact done_ret1 rfl (⟨L, gL, c, true⟩ : Lk) rfl ⟨hc, by rw [lineR_side (by unfold sideB; rw [p1, p2]; rfl)]; exact ⟨rfl, rfl⟩⟩ (.cons _ (List.Sublist.refl _))
  have hsb : sideB n d av P = false := by unfold sideB; rw [p1, p2]; rfl
  clear c1 c2 p1 p2 hmin hcr hS hP1
  have hLg := long_fn (n := n) (P := P) (lo := lo) (hi := hh)
  have hMd := middle_fn (n := n) (P := P) (lo := lo) (hi := hh)
  rw [hLo] at hLg
  rw [hM] at hMd
  have hnr := line_near (j := 8 - r) (by omega)
  repeat first | (refine zcr ?_; refine zcs ?_) | (refine zdb ?_; first | refine zdc ?_ | refine zdf ?_ | refine zdj rfl ?_)
  refine ws_draw (n := 4) mixed (by decide +kernel) ?_
  repeat first | (refine zar ?_; refine zap rfl (zbd rfl rfl rfl) ?_) | (refine zat ?_; first | refine zap rfl (zcf rfl rfl (by (repeat (first | exact mh | refine mt ?_)); done) rfl) ?_ | refine zap rfl (zcg rfl rfl (by (repeat (first | exact mh | refine mt ?_)); done) rfl rfl) ?_) | refine zav ?_ | refine zap rfl (zci rfl rfl hLg (Takes.ptOc (mt mh) (mt (mt mh)) hca hcb Takes.nil)) ?_
  rw [hnr]
  cases r
  case' zero =>
    rw [show decide (8 ≤ 8 - 0) = true from rfl]
    have hMd' : Fn Try.prog 33 (fun w => [partA w n P lo hh]) (.f .f32 (tmM 8 i)) := hMd
    rw [show i * 2 ^ 0 = i by omega] at hLP
    have hzero : lineR n d av 0 i P L = addL i L := by unfold lineR; rw [hsb]
    have hi8 : i < 2 ^ 8 := hi
    have hlen := hLP.len
    have hsn : (L ++ [i]).length = L.length + 1 := by simp
    repeat first | refine zaa rfl (zaz rfl) ?_ | (refine zae ?_; refine zaa rfl (zcg rfl rfl (by (repeat (first | exact mh | refine mt ?_)); done) rfl rfl) ?_) | refine zah ?_ | (refine zcr ?_; refine zcs ?_) | (refine zdb ?_; first | refine zdc ?_ | refine zdd ?_ | refine zdi rfl ?_) | refine zaa rfl (zci rfl rfl hMd' (Takes.ptOc (mt mh) (mt (mt mh)) hca hcb Takes.nil)) ?_
    rcases hq : L.getLast? with _ | l
    case' none =>
      have hnil : L = [] := by simpa using hq
      subst hnil
      rw [addL_nil] at hzero
      refine ws_draw (n := 18) mixed (by decide +kernel) ?_
      repeat first | refine zax rfl rfl rfl rfl ?_ | refine zap rfl (zay rfl) ?_ | (refine zar ?_; refine zap rfl (zbi rfl rfl) ?_) | (refine zas ?_; refine zap rfl (zbn rfl) ?_) | (refine zat ?_; refine zap rfl (zcf rfl rfl (by (repeat (first | exact mh | refine mt ?_)); done) rfl) ?_) | refine zap rfl (zca rfl rfl) ?_ | refine zav ?_
      repeat first | refine zaa rfl (zay rfl) ?_ | refine zaa rfl (zaz rfl) ?_ | (refine zac ?_; refine zaa rfl (zbf rfl rfl) ?_) | (refine zad ?_; refine zaa rfl (zbn rfl) ?_) | (refine zae ?_; refine zaa rfl (zcf rfl rfl (by (repeat (first | exact mh | refine mt ?_)); done) rfl) ?_) | refine zah ?_ | (refine zcr ?_; first | refine zcs ?_ | refine zct ?_) | (refine zdb ?_; first | refine zdc ?_ | refine zdd ?_ | refine zdg ?_ | refine zdi rfl ?_) | (refine zag ?_; refine zam 3 rfl rfl rfl rfl rfl rfl ?_) | refine zaa rfl (zco (t := 25) rfl rfl rfl rfl rfl rfl) ?_ | (refine rs_appendT 4 (lstF [i]) rfl rfl rfl rfl hc (by decide) rfl rfl (lstF_new [] i) (lstF_old [] i) ?_; intro g' c' h1 h2)
      exact done_ret1 rfl (⟨[i], g', c', true⟩ : Lk) rfl ⟨⟨h1, h2⟩, by rw [hzero]; exact ⟨rfl, rfl⟩⟩ (.cons _ (List.Sublist.refl _))
    case' some =>
      obtain ⟨hls, hlm, hl1⟩ := lstF_last hq
      have hll := hLP.lt l hlm
      have hAb := absolute_fn (tm_sub (j := 8) (by decide) hi8 (show l < 2 ^ 8 by omega))
      have hTm := tm_abs (j := 8) (by decide) hi8 (show l < 2 ^ 8 by omega) near2_vl
      rw [decide_eq_true (show l ≤ i + 2 by omega), Bool.and_true] at hTm
      rw [← hls] at hAb hTm
      have hz0 : decide ((L.length : Int) = 0) = false := decide_eq_false (by omega)
      refine ws_draw (n := 18) mixed (by decide +kernel) ?_
      repeat first | refine zap rfl (zay rfl) ?_ | (refine zar ?_; refine zap rfl (zbi rfl rfl) ?_) | (refine zas ?_; refine zap rfl (zbn rfl) ?_) | (refine zat ?_; refine zap rfl (zcf rfl rfl (by (repeat (first | exact mh | refine mt ?_)); done) rfl) ?_)
      rw [hz0]
      repeat first | refine zaw rfl rfl ?_ | refine zap rfl (zay rfl) ?_ | (refine zar ?_; first | refine zap rfl (zba rfl rfl rfl) ?_ | refine zap rfl (zbc rfl rfl (by omega)) ?_ | refine zap rfl (zbd rfl rfl rfl) ?_) | (refine zas ?_; first | refine zap rfl (zbn rfl) ?_ | (refine zap rfl (zci rfl rfl (hAb) ?_) ?_; (focus ((repeat (first | exact Takes.nil | refine Takes.sl ?_ | refine Takes.lit ?_ | refine Takes.fa ?_ | refine Takes.fc ?_ | refine Takes.net ?_ | (refine Takes.ownE ?_ ?_ ?_ ?_ ?_; (focus (exact ⟨_, _, (by (repeat (first | exact mh | refine mt ?_)); done)⟩)); (focus (simp; done)); (focus omega); (focus (simp only [maxLen]; omega))) | refine Takes.same ?_)); done)))) | (refine zat ?_; first | refine zap rfl (zbt rfl rfl (by (repeat (first | exact mh | refine mt ?_)); done) (by omega)) ?_ | refine zap rfl (zcf rfl rfl (by (repeat (first | exact mh | refine mt ?_)); done) rfl) ?_) | (refine zau ?_; refine zap rfl (zbw rfl rfl (by omega) (by omega)) ?_) | refine zap rfl (zcb rfl rfl) ?_ | refine zap rfl (zcc rfl) ?_ | refine zav ?_
      rw [hTm]
      cases hd : decide (i ≤ l + 2)
      case' true =>
        rw [addL_near hq (of_decide_eq_true hd)] at hzero
        repeat first | refine zaa rfl (zaz rfl) ?_ | (refine zac ?_; refine zaa rfl (zbf rfl rfl) ?_) | (refine zad ?_; refine zaa rfl (zbn rfl) ?_) | (refine zae ?_; refine zaa rfl (zcf rfl rfl (by (repeat (first | exact mh | refine mt ?_)); done) rfl) ?_) | refine zah ?_ | (refine zcr ?_; first | refine zcs ?_ | refine zct ?_) | (refine zdb ?_; first | refine zdc ?_ | refine zdd ?_ | refine zdf ?_ | refine zdg ?_ | refine zdj rfl ?_)
        exact done_ret1 rfl (⟨L, gL, c, decide ((L.length : Int) ≤ 24)⟩ : Lk) rfl ⟨hc, by rw [hzero]; exact ⟨decide_eq_true (by omega), rfl⟩⟩ (.cons _ (List.Sublist.refl _))
      case' false =>
        rw [addL_far hq (of_decide_eq_false hd)] at hzero
        repeat first | refine zaa rfl (zay rfl) ?_ | refine zaa rfl (zaz rfl) ?_ | (refine zac ?_; refine zaa rfl (zbf rfl rfl) ?_) | (refine zad ?_; refine zaa rfl (zbn rfl) ?_) | (refine zae ?_; refine zaa rfl (zcf rfl rfl (by (repeat (first | exact mh | refine mt ?_)); done) rfl) ?_) | refine zah ?_ | (refine zcr ?_; first | refine zcs ?_ | refine zct ?_) | (refine zdb ?_; first | refine zdc ?_ | refine zdd ?_ | refine zdg ?_ | refine zdi rfl ?_) | (refine zag ?_; refine zam 3 rfl rfl rfl rfl rfl rfl ?_) | refine zaa rfl (zco (t := 25) rfl rfl rfl rfl rfl rfl) ?_ | (refine rs_appendT 4 (lstF (L ++ [i])) rfl rfl rfl rfl hc (by omega) rfl rfl (lstF_new L i) (lstF_old L i) ?_; intro g' c' h1 h2)
        refine done_ret1 rfl (⟨L ++ [i], g', c', decide (((L.length + 1 : Nat) : Int) ≤ 24)⟩ : Lk) rfl ⟨by dsimp only; rw [hsn]; exact ⟨h1, h2⟩, ?_⟩ (by dsimp only; rw [hsn]; exact .cons _ (List.Sublist.refl _))
        rw [hzero]
        by_cases h24 : L.length < 24
        · rw [decide_eq_true h24]
          exact ⟨decide_eq_true (by omega), rfl⟩
        · rw [decide_eq_false h24]
          exact decide_eq_false (by omega)
  rename_i r
  rw [decide_eq_false (show ¬8 ≤ 8 - (r + 1) by omega)]
  have hsucc : lineR n d av (r + 1) i P L = (match lineR n d av r (2 * i) (leftP P) L with | none => none | some L' => lineR n d av r (2 * i + 1) (rightP n P) L') := by
    conv => lhs; unfold lineR
    rw [hsb]
    rfl
  have hHv := halves_fn (n := n) (P := P) (lo := lo) (hi := hh) ⟨hn.1, by omega⟩ hB.fin hB.left.fin hB.right.fin
  rw [hM] at hHv
  have hjr : 8 - r = 8 - (r + 1) + 1 := by omega
  have t1 : tmF (8 - r) ((2 * i : Nat) : Int) = lo := by rw [hjr, hlo, ← hT.low, show ((2 * i : Nat) : Int) = 2 * (i : Int) by omega]
  have t2 : tmF (8 - r) ((2 * i : Nat) + 1 : Int) = tmF (8 - (r + 1) + 1) (2 * (i : Int) + 1) := by rw [hjr, show ((2 * i : Nat) : Int) = 2 * (i : Int) by omega]
  have t3 : tmF (8 - r) ((2 * i + 1 : Nat) : Int) = tmF (8 - (r + 1) + 1) (2 * (i : Int) + 1) := by rw [hjr, show ((2 * i + 1 : Nat) : Int) = 2 * (i : Int) + 1 by omega]
  have t4 : tmF (8 - r) (((2 * i + 1 : Nat) : Int) + 1) = hh := by rw [hjr, hhh, ← hT.high, show ((2 * i + 1 : Nat) : Int) + 1 = 2 * (i : Int) + 2 by omega]
  have hi1 : 2 * i + 1 < 2 ^ (8 - r) := by rw [hjr, Nat.pow_succ]; omega
  have hL1 : LinP (fun _ => True) (2 * i * 2 ^ r) L := by rw [show 2 * i * 2 ^ r = i * 2 ^ (r + 1) by rw [Nat.pow_succ, Nat.mul_comm (2 ^ r) 2, ← Nat.mul_assoc, Nat.mul_comm i 2]]; exact hLP
  obtain ⟨mi, hmi⟩ : ∃ mi, mi = tmF (8 - (r + 1) + 1) (2 * (i : Int) + 1) := ⟨_, rfl⟩
  rw [← hmi] at hHv t2 t3
  repeat first | (refine zae ?_; refine zaa rfl (zcg rfl rfl (by (repeat (first | exact mh | refine mt ?_)); done) rfl rfl) ?_) | refine zah ?_ | (refine zcr ?_; refine zcs ?_) | (refine zdb ?_; first | refine zdc ?_ | refine zdd ?_ | refine zdf ?_ | refine zdj rfl ?_)
  refine rs_callM3 hHv rfl rfl (Takes.ptOc (mt mh) (mt (mt mh)) hca hcb Takes.nil) rfl ?_
  rintro ⟨k, a1, b1, ca1, cb1, a2, b2, ca2, cb2, ra, rb, rca, rcb⟩ ⟨⟨h1, h2⟩, h3, h4⟩
  dsimp only at h1 h2 h3 h4 ⊢
  have hc1 := ih r rfl (2 * i) (leftP P) L a1 b1 ca1 cb1 gL c (by omega) hB.left hL1 ⟨h1, h2⟩ hc
  rw [t1, t2] at hc1
  repeat first | refine zai rfl rfl ?_ | refine zaa rfl (zay rfl) ?_ | refine zaa rfl (zaz rfl) ?_ | (refine zae ?_; first | refine zaa rfl (zcf rfl rfl (by (repeat (first | exact mh | refine mt ?_)); done) rfl) ?_ | refine zaa rfl (zcg rfl rfl (by (repeat (first | exact mh | refine mt ?_)); done) rfl rfl) ?_) | refine zaa rfl (zbz rfl rfl) ?_ | refine zah ?_ | (refine zcr ?_; refine zcs ?_) | (refine zdb ?_; first | refine zdc ?_ | refine zdd ?_) | (refine zal rfl rfl ?_; intro g) | (refine zag ?_; first | refine zan 0 rfl rfl rfl rfl rfl rfl rfl rfl rfl ?_ | refine zan 1 rfl rfl rfl rfl rfl rfl rfl rfl rfl ?_)
  obtain ⟨g15, hg15⟩ : ∃ x, x = g := ⟨g, rfl⟩
  subst hg15
  refine RS.weakS (e' := [(96, ptOc a1 b1 n ca1 cb1 lo mi), (95, .raw (.func (.func 29) #[] (lnCap gd ga gn go gl).toArray)), (94, .raw (.bool true)), (15, .raw (.pointer (some ⟨g15, 0, none⟩))), (5, .raw (.pointer (some ⟨gl, 0, none⟩)))]) (RS.st (S' := StR (fun _ => True) w0 gs ([entC a1 n (leftP P) ca1, entF b1 31 n oneF cb1, lnOut go gL L.length c, entF gL 31 L.length (lstF L) c, ⟨gd, 30, [cA d], 1⟩, ⟨ga, 30, [cA av], 1⟩, ⟨gn, 31, [.f .f32 nearL], 1⟩, ⟨gl, 60, [.raw (.func (.func 29) #[] (lnCap gd ga gn go gl).toArray)], 1⟩] ++ [⟨g15, 62, [.raw (.slice (some ⟨a2, 0, none⟩) n ca2), .raw (.slice (some ⟨b2, 0, none⟩) n cb2), .f .f32 mi, .f .f32 hh], 4⟩, entF b2 31 n oneF cb2, entC a2 n (rightP n P) ca2, entC a n P ca, entF b 31 n oneF cb])) ?_ (fun w h => h.sel [4, 5, 9, 10, 11, 12, 13, 14, 0, 2, 3, 7, 8] (by decide) rfl)) (by (repeat (first | exact Env.sub_nil _ | refine Env.sub_cons rfl ?_)))
  refine rs_callK (cap := lnCap gd ga gn go gl) hc1 rfl rfl (fun _ _ _ h => h) rfl ?_
  rintro ⟨L1, g1, c1, ok1⟩ ⟨hcc, hres⟩
  dsimp only at hcc hres ⊢
  cases hl1 : lineR n d av r (2 * i) (leftP P) L with
  | none =>
    rw [hl1] at hres hsucc
    dsimp only at hres hsucc
    subst hres
    repeat first | refine zaj rfl rfl rfl rfl ?_ | refine zaa rfl (zay rfl) ?_ | refine zaa rfl (zaz rfl) ?_ | refine zaa rfl (zca rfl rfl) ?_ | refine zaa rfl (zcb rfl rfl) ?_ | refine zah ?_ | (refine zcr ?_; refine zcs ?_) | (refine zdb ?_; refine zdg ?_)
    refine Done.st (S' := StR (fun _ => True) w0 gs [entC a n P ca, entF b 31 n oneF cb, lnOut go g1 L1.length c1, entF g1 31 L1.length (lstF L1) c1, ⟨gd, 30, [cA d], 1⟩, ⟨ga, 30, [cA av], 1⟩, ⟨gn, 31, [.f .f32 nearL], 1⟩, ⟨gl, 60, [.raw (.func (.func 29) #[] (lnCap gd ga gn go gl).toArray)], 1⟩]) (done_ret1 rfl (⟨L1, g1, c1, false⟩ : Lk) rfl ⟨hcc, by rw [hsucc]⟩ (List.Sublist.refl _)) (fun w h => h.sel [11, 12, 2, 3, 4, 5, 6, 7] (by decide) rfl)
  | some L1' =>
    rw [hl1] at hres hsucc
    dsimp only at hres hsucc
    obtain ⟨rfl, rfl⟩ := hres
    have hL2 : LinP (fun _ => True) ((2 * i + 1) * 2 ^ r) L1 := lineR_ok (Inv := fun _ _ P => B1 n P) (fun r i P h => ⟨h.left, h.right⟩) (fun _ _ _ _ => trivial) r (2 * i) (leftP P) L L1 hB.left hL1 hl1
    have hc2 := ih r rfl (2 * i + 1) (rightP n P) L1 a2 b2 ca2 cb2 g1 c1 hi1 hB.right hL2 ⟨h3, h4⟩ hcc
    rw [t3, t4] at hc2
    repeat first | refine zai rfl rfl ?_ | refine zaa rfl (zay rfl) ?_ | (refine zae ?_; first | refine zaa rfl (zcf rfl rfl (by (repeat (first | exact mh | refine mt ?_)); done) rfl) ?_ | refine zaa rfl (zcg rfl rfl (by (repeat (first | exact mh | refine mt ?_)); done) rfl rfl) ?_) | refine zaa rfl (zca rfl rfl) ?_
    refine RS.weakS (e' := [(101, ptOc a2 b2 n ca2 cb2 mi hh), (100, .raw (.func (.func 29) #[] (lnCap gd ga gn go gl).toArray)), (99, .raw (.bool true))]) (RS.st (S' := StR (fun _ => True) w0 gs ([entC a2 n (rightP n P) ca2, entF b2 31 n oneF cb2, lnOut go g1 L1.length c1, entF g1 31 L1.length (lstF L1) c1, ⟨gd, 30, [cA d], 1⟩, ⟨ga, 30, [cA av], 1⟩, ⟨gn, 31, [.f .f32 nearL], 1⟩, ⟨gl, 60, [.raw (.func (.func 29) #[] (lnCap gd ga gn go gl).toArray)], 1⟩] ++ [entC a n P ca, entF b 31 n oneF cb])) ?_ (fun w h => h.sel [10, 9, 2, 3, 4, 5, 6, 7, 11, 12] (by decide) rfl)) (by (repeat (first | exact Env.sub_nil _ | refine Env.sub_cons rfl ?_)))
    refine rs_callK (cap := lnCap gd ga gn go gl) hc2 rfl rfl (fun _ _ _ h => h) rfl ?_
    rintro ⟨L2, g2, c2, ok2⟩ ⟨hcc2, hres2⟩
    dsimp only at hcc2 hres2 ⊢
    repeat first | refine zaa rfl (zaz rfl) ?_ | refine zaa rfl (zca rfl rfl) ?_ | refine zah ?_ | (refine zcr ?_; refine zcs ?_) | (refine zdb ?_; refine zdg ?_)
    refine Done.st (S' := StR (fun _ => True) w0 gs [entC a n P ca, entF b 31 n oneF cb, lnOut go g2 L2.length c2, entF g2 31 L2.length (lstF L2) c2, ⟨gd, 30, [cA d], 1⟩, ⟨ga, 30, [cA av], 1⟩, ⟨gn, 31, [.f .f32 nearL], 1⟩, ⟨gl, 60, [.raw (.func (.func 29) #[] (lnCap gd ga gn go gl).toArray)], 1⟩]) (done_ret1 rfl (⟨L2, g2, c2, ok2⟩ : Lk) rfl ⟨hcc2, by rw [hsucc]; exact hres2⟩ (List.Sublist.refl _)) (fun w h => h.sel [8, 9, 2, 3, 4, 5, 6, 7] (by decide) rfl)
theorem look_all {n : Nat} {d av : CV} {gd ga gn go gl : Nat} (hn : 2 ≤ n ∧ n ≤ 5) (hl : LnV d av) : ∀ r, r ≤ 8 → LkC n d av gd ga gn go gl r
  | 0, h => look_step hn hl 0 h (fun _ e => by cases e)
  | r + 1, h => look_step hn hl (r + 1) h (fun r' e => by cases e; exact look_all hn hl r (by omega))
end Go.Ab
namespace Go.Ab
open Go.Proofs
variable {R : World → Prop} [RStab R]
section
variable {P : Program} {N : Nat} {ops : Array Oper} {ix : List Nat} {W : World → Prop} {D : List Nat} {F : Env} {Q : Exit → Env → World → Prop} {w0 : World} {gs : List Nat} {H : List Ent} {ty : TypeId} {pos : String} {after : Array Edge}
theorem sp_callK {X : Type} {A : World → List AV} {mk : X → AV} {pre : List Ent} {post : X → List Ent} {good : X → Prop} {f : Nat} {c : FuncId} {xs : List Operand} {Fo : Operand} {args : List AV} {d : Tmp} {ts : Array TypeId} [hb : HasBody P c] {cap : List Value}
    (ho : ops[f]? = some ⟨some d, .call { callee := .value Fo, args := xs.toArray, argTypes := ts }, ty, pos, after, none⟩) (hck : tuOk ops ix N f = true) (hfr : F.look d = none)
    (hc : FnH P c A pre mk post good) (hF' : F.ev Fo = some (.raw (.func (.func c) #[] cap.toArray))) (hx : evL F xs = some args) (ht : Takes (StR R w0 gs (pre ++ H)) (args ++ cap.map AV.raw) A) (hs : ∀ y, good y → (mk y).still = true)
    (hk : ∀ y, good y → Cont P N ops ix W D Q f ((d, mk y) :: F) (StR R w0 gs (post y ++ H))) : SP P N ops ix W D F (StR R w0 gs (pre ++ H)) Q f := by
  refine ⟨_, ho, hck, fun a w K Q' hS hop hK => ?_⟩
  obtain ⟨fnc, hf, hbd, hn⟩ := hb.h
  have h1 := (hop Fo (by simp [Op.operands, Call.operands]) _ hF').inv_raw
  have hrl : RelL w (A w) (xs.map a.eval ++ cap) := ht w _ hS (relL_append (evL_rel hx fun x hxm => hop x (by simp [Op.operands, Call.operands, hxm])) (rel_raws w cap))
  have hnd := hS.nodup
  rw [List.map_append, List.nodup_append] at hnd
  have hcall := hc w _ hrl (fun x hx => (hS.own x (by simp [hx])).2) hnd.1
  unfold Oper.wp
  have hrun : (execOp a.eval ⟨some d, .call { callee := .value Fo, args := xs.toArray, argTypes := ts }, ty, pos, after, none⟩).run P w = .ok (.enter c (xs.map a.eval ++ cap).toArray) w := by
    simp [execOp, resolve, h1, Deferred.ofValue, invoke, run_callFn hf hbd hn]
  rw [hrun]
  refine Calls.mono hcall fun x w' ⟨v, y, hx', hy, hrv, hm, hp, hpn⟩ => ?_
  subst hx'
  exact hK _ w' ⟨_, _, StR.call (A := pre) (H := H) hS hm hp hpn, hk y hy, .inr ⟨d, mk y, v, rfl, hfr, rfl, hrv, hs y hy, rfl⟩⟩
end
section
variable {P : Program} {S : World → Prop} {e : Env} {dst : Option Tmp} {ty : TypeId} {pos : String} {after : Array Edge} {guard : Option (Nat × Bool)}
theorem opj_makeFunc5 {c : FuncId} {X1 X2 X3 X4 X5 : Operand} {u1 u2 u3 u4 u5 : Value} (h1 : e.ev X1 = some (.raw u1)) (h2 : e.ev X2 = some (.raw u2)) (h3 : e.ev X3 = some (.raw u3)) (h4 : e.ev X4 = some (.raw u4)) (h5 : e.ev X5 = some (.raw u5)) :
    OpJ P S e ⟨dst, .makeFunc (.func c) #[] #[X1, X2, X3, X4, X5], ty, pos, after, guard⟩ (.raw (.func (.func c) #[] [u1, u2, u3, u4, u5].toArray)) :=
  opj_value fun a w _ h => by
    have h1 := (h X1 (by simp [Op.operands]) _ h1).inv_raw
    have h2 := (h X2 (by simp [Op.operands]) _ h2).inv_raw
    have h3 := (h X3 (by simp [Op.operands]) _ h3).inv_raw
    have h4 := (h X4 (by simp [Op.operands]) _ h4).inv_raw
    have h5 := (h X5 (by simp [Op.operands]) _ h5).inv_raw
    exact ⟨_, w, by simp [execOp, h1, h2, h3, h4, h5, Instr.makeFunc], Ext.refl _, .raw⟩
end
def slOr (ok : Bool) (g n c : Nat) : AV := match ok with
  | true => .raw (.slice (some ⟨g, 0, none⟩) n c)
  | false => .raw (.slice none 0 0)
def nearE (x y : CV) : Bool := cmpB .eql (fcmp .f32 x.1 y.1) && cmpB .eql (fcmp .f32 x.2 y.2)
theorem tab_nil (f : Int → FV) : (tab 0 f).map (AV.f .f32) = [] := rfl
attribute [local irreducible] WS RS Done OpJ Then InBlock Round Ret Env.sub FnH
attribute [local irreducible] tab tabC
set_option maxRecDepth 100000 in
set_option maxHeartbeats 4000000 in
theorem lineMeets_fn {n : Nat} {P : Nat → CV} {av bv : CV} {a b ca cb : Nat} (hn : 2 ≤ n ∧ n ≤ 5) (hB : B1 n P) (hl : LnV (subC2 bv av) av) (hf : [av, bv].all finC = true) (hne : nearE av bv = false) (hca : n ≤ ca ∧ ca ≤ maxLen) (hcb : n ≤ cb ∧ cb ≤ maxLen) :
    FnH (X := Lk) Try.prog 8 (fun _ => [crvOc a b n ca cb, cA av, cA bv, .f .f32 nearL]) [entC a n P ca, entF b 31 n oneF cb]
      (fun y => .tup [slOr y.ok y.g y.L.length y.c, .raw (.bool y.ok)]) (fun y => [entC a n P ca, entF b 31 n oneF cb, entF y.g 31 y.L.length (lstF y.L) y.c])
      (fun y => (y.L.length ≤ y.c ∧ y.c ≤ maxLen) ∧ match lineR n (subC2 bv av) av 8 0 P [] with
        | some L' => y.ok = true ∧ y.L = L'
        | none => y.ok = false) := by
  have hV : Fn Try.prog 25 (fun w => [crvA w n P oneF]) (.raw (.bool true)) := validCurve_yes ⟨hn.1, by omega⟩ hB.fin (wts_one n).above
  have hI := arePoints_fn [av, bv] (show 2 < 2 ^ 62 by decide)
  rw [hf] at hI
  have hN : Fn Try.prog 27 (fun _ => [.f .f32 nearL]) (.raw (.bool true)) := isNear_yes (by decide +kernel) (by decide +kernel)
  have hMi := minus_fn bv av
  have hW := whole_fn a b n ca cb
  refine fn_intro Try.func8 rfl Try.ntmps8 (fun _ => Nat.le_of_ble_eq_true rfl) fun w0 => ?_
  have hne' : (cmpB .eql (fcmp .f32 av.1 bv.1) && cmpB .eql (fcmp .f32 av.2 bv.2)) = false := hne
  repeat first | refine zai rfl rfl ?_ | refine zaa rfl (zay rfl) ?_ | refine zaa rfl (zaz rfl) ?_ | (refine zad ?_; (refine zaa rfl (zci rfl rfl (hI) ?_) ?_; (focus ((repeat (first | exact Takes.nil | refine Takes.sl ?_ | refine Takes.lit ?_ | refine Takes.fa ?_ | refine Takes.fc ?_ | refine Takes.net ?_ | (refine Takes.ownE ?_ ?_ ?_ ?_ ?_; (focus (exact ⟨_, _, (by (repeat (first | exact mh | refine mt ?_)); done)⟩)); (focus (simp; done)); (focus omega); (focus (simp only [maxLen]; omega))) | refine Takes.same ?_)); done)))) | (refine zae ?_; first | refine zaa rfl (zcf rfl rfl (by (repeat (first | exact mh | refine mt ?_)); done) rfl) ?_ | refine zaa rfl (zcg rfl rfl (by (repeat (first | exact mh | refine mt ?_)); done) rfl rfl) ?_) | refine zaa rfl (zcb rfl rfl) ?_ | refine zaa rfl (zcc rfl) ?_ | refine zah ?_ | (refine zcr ?_; refine zcs ?_) | (refine zdb ?_; first | refine zdc ?_ | refine zdd ?_) | (refine zak rfl rfl rfl ?_; intro g) | (refine rs_box1 rfl rfl (fun v w h => (oneAV_spec (x := cA av) rfl h).1) rfl ?_; intro g) | (refine rs_box1 rfl rfl (fun v w h => (oneAV_spec (x := AV.f .f32 nearL) rfl h).1) rfl ?_; intro g) | refine zaa rfl (zci rfl rfl hV (Takes.crvOc (mt (mt (mt mh))) (mt (mt (mt (mt mh)))) hca hcb Takes.nil)) ?_ | refine zaa rfl (zco rfl rfl rfl rfl rfl rfl) ?_ | refine zaa rfl (opj_ceql rfl rfl) ?_
  rw [hne']
  repeat first | refine zai rfl rfl ?_ | refine zaa rfl (zay rfl) ?_ | (refine zad ?_; first | (refine zaa rfl (zci rfl rfl (hN) ?_) ?_; (focus ((repeat (first | exact Takes.nil | refine Takes.sl ?_ | refine Takes.lit ?_ | refine Takes.fa ?_ | refine Takes.fc ?_ | refine Takes.net ?_ | (refine Takes.ownE ?_ ?_ ?_ ?_ ?_; (focus (exact ⟨_, _, (by (repeat (first | exact mh | refine mt ?_)); done)⟩)); (focus (simp; done)); (focus omega); (focus (simp only [maxLen]; omega))) | refine Takes.same ?_)); done))) | (refine zaa rfl (zci rfl rfl (hMi) ?_) ?_; (focus ((repeat (first | exact Takes.nil | refine Takes.sl ?_ | refine Takes.lit ?_ | refine Takes.fa ?_ | refine Takes.fc ?_ | refine Takes.net ?_ | (refine Takes.ownE ?_ ?_ ?_ ?_ ?_; (focus (exact ⟨_, _, (by (repeat (first | exact mh | refine mt ?_)); done)⟩)); (focus (simp; done)); (focus omega); (focus (simp only [maxLen]; omega))) | refine Takes.same ?_)); done)))) | (refine zae ?_; refine zaa rfl (zcf rfl rfl (by (repeat (first | exact mh | refine mt ?_)); done) rfl) ?_) | refine zaa rfl (zcb rfl rfl) ?_ | refine zaa rfl (zcc rfl) ?_ | refine zah ?_ | (refine zcr ?_; refine zcs ?_) | (refine zdb ?_; first | refine zdc ?_ | refine zdd ?_ | refine zdf ?_ | refine zdj rfl ?_) | (refine zal rfl rfl ?_; intro g) | (refine zag ?_; refine zam 0 rfl rfl rfl rfl rfl rfl ?_) | (refine rs_litO (Xs := []) (xs := []) rfl rfl rfl rfl rfl rfl ?_; intro g) | refine zaa rfl (opj_makeFunc5 rfl rfl rfl rfl rfl) ?_
  rename_i g4 ga gn gd g36 go
  obtain ⟨gl, hgl⟩ : ∃ x, x = g := ⟨g, rfl⟩
  subst hgl
  generalize List.map (fun x : Ent => x.g) [entC a n P ca, entF b 31 n oneF cb] = gs
  refine WS.weak (e' := [(12, .raw (.pointer (some ⟨gl, 0, none⟩))), (11, .raw (.pointer (some ⟨go, 0, none⟩))), (4, .raw (.pointer (some ⟨g4, 0, none⟩)))]) (S' := St w0 gs ([entC a n P ca, entF b 31 n oneF cb, lnOut go g36 ([] : List Nat).length 0, ⟨g36, 31, [], 0⟩, ⟨gd, 30, [cA (subC2 bv av)], 1⟩, ⟨ga, 30, [cA av], 1⟩, ⟨gn, 31, [.f .f32 nearL], 1⟩, ⟨gl, 60, [.raw (.func (.func 29) #[] (lnCap gd ga gn go gl).toArray)], 1⟩] ++ [⟨g4, 27, [.raw (.slice (some ⟨a, 0, none⟩) n ca), .raw (.slice (some ⟨b, 0, none⟩) n cb)], 2⟩])) ?_ (by (repeat (first | exact Env.sub_nil _ | refine Env.sub_cons rfl ?_))) (fun w h => h.sel [7, 8, 1, 2, 3, 5, 4, 0, 6] (by decide) rfl)
  have e36 : (⟨g36, 31, [], 0⟩ : Ent) = entF g36 31 ([] : List Nat).length (lstF []) 0 := by show _ = (⟨g36, _, (tab 0 (lstF [])).map (AV.f .f32), 0⟩ : Ent); rw [tab_nil]
  rw [e36]
  have hK := look_all (n := n) (d := subC2 bv av) (av := av) (gd := gd) (ga := ga) (gn := gn) (go := go) (gl := gl) hn hl 8 (Nat.le_refl _) 0 P [] a b ca cb g36 0 (by decide) hB ⟨.nil, fun _ h => (nomatch h), fun _ h => (nomatch h), by decide⟩ ⟨hca, hcb⟩ ⟨Nat.le_refl _, by decide⟩
  rw [show tmF (8 - 8) ((0 : Nat) : Int) = fv .f32 0 by decide +kernel, show tmF (8 - 8) (((0 : Nat) : Int) + 1) = one1 by decide +kernel] at hK
  refine ws_drawP (ix := [0, 1, 2]) (W := St w0 gs [⟨g4, 27, [.raw (.slice (some ⟨a, 0, none⟩) n ca), .raw (.slice (some ⟨b, 0, none⟩) n cb)], 2⟩, ⟨gl, 60, [.raw (.func (.func 29) #[] (lnCap gd ga gn go gl).toArray)], 1⟩]) mixed (by decide +kernel) (fun _ h => h.sel [8, 7] (by decide) rfl) ?_
  repeat first | (refine zas ?_; (refine zap rfl (zci rfl rfl (hW) ?_) ?_; (focus ((repeat (first | exact Takes.nil | refine Takes.sl ?_ | refine Takes.lit ?_ | refine Takes.fa ?_ | refine Takes.fc ?_ | refine Takes.net ?_ | (refine Takes.ownE ?_ ?_ ?_ ?_ ?_; (focus (exact ⟨_, _, (by (repeat (first | exact mh | refine mt ?_)); done)⟩)); (focus (simp; done)); (focus omega); (focus (simp only [maxLen]; omega))) | refine Takes.same ?_)); done)))) | (refine zat ?_; first | refine zap rfl (zcf rfl rfl (by (repeat (first | exact mh | refine mt ?_)); done) rfl) ?_ | refine zap rfl (zcg rfl rfl (by (repeat (first | exact mh | refine mt ?_)); done) rfl rfl) ?_) | refine zav ?_
  refine ⟨rfl, ?_⟩
  refine gp_name fun o ho Q' hQ => ?_
  have q3 := op_at (i := 3) ho rfl
  have q4 := op_at (i := 4) ho rfl
  refine gp_step [3] (by rw [ho]; decide +kernel) fun x hx => ?_
  obtain rfl : x = 3 := by simpa using hx
  refine sp_callK (cap := lnCap gd ga gn go gl) q3 (by rw [ho]; decide +kernel) rfl hK rfl rfl (fun _ _ _ h => h) (fun _ _ => rfl) ?_
  rintro ⟨L1, g1, c1, ok1⟩ ⟨hcc, hres⟩
  dsimp only at hcc hres ⊢
  refine cont_set (by rw [ho]; decide +kernel) rfl ?_
  refine gp_step [4] (by rw [ho]; decide +kernel) fun x hx => ?_
  obtain rfl : x = 4 := by simpa using hx
  refine sp_op q4 (by rw [ho]; decide +kernel) rfl (zcc rfl) rfl (cont_set rfl rfl ?_)
  refine gp_end (by rw [ho]; decide +kernel) ?_
  rw [hQ]
  clear hQ ho q3 q4
  cases ok1
  all_goals
    repeat first | refine zaa rfl (zaz rfl) ?_ | (refine zae ?_; refine zaa rfl (zcf rfl rfl (by (repeat (first | exact mh | refine mt ?_)); done) rfl) ?_) | refine zah ?_ | (refine zcr ?_; first | refine zcs ?_ | refine zct ?_) | (refine zdb ?_; first | refine zdc ?_ | refine zdd ?_ | refine zdf ?_ | refine zdg ?_ | refine zdi rfl ?_ | refine zdj rfl ?_)
    refine done_ret2 rfl (⟨L1, g1, c1, _⟩ : Lk) rfl rfl rfl ⟨hcc, hres⟩ (.cons_cons _ (.cons_cons _ (.cons _ (.cons_cons _ (List.nil_sublist _)))))
end Go.Ab
