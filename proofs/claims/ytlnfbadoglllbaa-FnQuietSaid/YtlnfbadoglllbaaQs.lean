/- Quiet lists: sums stay, lines stay, and roughness does not grow, nearly. No conditions. -/
import Derived.Test.YtlnfbadoglllbaaQr
namespace Go.Ab

theorem n0_mul {E x X : Rat} (h : N0 E) (hx : -X ≤ x ∧ x ≤ X) : -(X / 262144) ≤ E * x ∧ E * x ≤ X / 262144 := by
  have := mul_bnd (p := E) (q := x) (a := 1 / 262144) (b := X) h.1 h.2 hx.1 hx.2
  constructor <;> grind
theorem row_bound (d e g p q d1 e1 g1 d0 e0 g0 W t0 t1 t2 x0 x1 x2 x3 x4 y0 y1 y2 b X : Rat)
    (hx0 : -X ≤ x0 ∧ x0 ≤ X) (hx1 : -X ≤ x1 ∧ x1 ≤ X) (hx2 : -X ≤ x2 ∧ x2 ≤ X) (hx3 : -X ≤ x3 ∧ x3 ≤ X) (hx4 : -X ≤ x4 ∧ x4 ≤ X) (hp : -2 ≤ p ∧ p ≤ 0) (hq : 0 ≤ q ∧ q ≤ 1)
    (E0 : N0 (d + p * e1 + q * g0 - (1 + W * (t0 + 4 * t1 + t2)))) (E1 : N0 (e + p * g1 - W * (-2 * t0 - 2 * t1))) (E2 : N0 (g - W * t0)) (E3 : N0 (p * d1 + q * e0 - W * (-2 * t1 - 2 * t2))) (E4 : N0 (q * d0 - W * t2))
    (h2 : -(135 * X / 8388608) ≤ d * x2 + e * x3 + g * x4 - y2 ∧ d * x2 + e * x3 + g * x4 - y2 ≤ 135 * X / 8388608)
    (h1 : -(135 * X / 8388608) ≤ d1 * x1 + e1 * x2 + g1 * x3 - y1 ∧ d1 * x1 + e1 * x2 + g1 * x3 - y1 ≤ 135 * X / 8388608)
    (h0 : -(135 * X / 8388608) ≤ d0 * x0 + e0 * x1 + g0 * x2 - y0 ∧ d0 * x0 + e0 * x1 + g0 * x2 - y0 ≤ 135 * X / 8388608)
    (hf : -(435 * X / 8388608) ≤ y2 + p * y1 + q * y0 - b ∧ y2 + p * y1 + q * y0 - b ≤ 435 * X / 8388608) :
    -(1135 * X / 8388608) ≤ x2 + W * (t0 * (x2 - 2 * x3 + x4) - 2 * (t1 * (x1 - 2 * x2 + x3)) + t2 * (x0 - 2 * x1 + x2)) - b ∧ x2 + W * (t0 * (x2 - 2 * x3 + x4) - 2 * (t1 * (x1 - 2 * x2 + x3)) + t2 * (x0 - 2 * x1 + x2)) - b ≤ 1135 * X / 8388608 := by
  have m0 := n0_mul E0 hx2
  have m1 := n0_mul E1 hx3
  have m2 := n0_mul E2 hx4
  have m3 := n0_mul E3 hx1
  have m4 := n0_mul E4 hx0
  have k1 := mul_bnd (p := p) (q := d1 * x1 + e1 * x2 + g1 * x3 - y1) (a := 2) (b := 135 * X / 8388608) (by grind) (by grind) h1.1 h1.2
  have k0 := mul_bnd (p := q) (q := d0 * x0 + e0 * x1 + g0 * x2 - y0) (a := 1) (b := 135 * X / 8388608) (by grind) (by grind) h0.1 h0.2
  have key : x2 + W * (t0 * (x2 - 2 * x3 + x4) - 2 * (t1 * (x1 - 2 * x2 + x3)) + t2 * (x0 - 2 * x1 + x2)) - b
      = (y2 + p * y1 + q * y0 - b) + (d * x2 + e * x3 + g * x4 - y2) + p * (d1 * x1 + e1 * x2 + g1 * x3 - y1) + q * (d0 * x0 + e0 * x1 + g0 * x2 - y0)
        - (d + p * e1 + q * g0 - (1 + W * (t0 + 4 * t1 + t2))) * x2 - (e + p * g1 - W * (-2 * t0 - 2 * t1)) * x3 - (g - W * t0) * x4 - (p * d1 + q * e0 - W * (-2 * t1 - 2 * t2)) * x1 - (q * d0 - W * t2) * x0 := by grind
  rw [key]
  generalize p * (d1 * x1 + e1 * x2 + g1 * x3 - y1) = a1 at *
  generalize q * (d0 * x0 + e0 * x1 + g0 * x2 - y0) = a2 at *
  generalize (d + p * e1 + q * g0 - (1 + W * (t0 + 4 * t1 + t2))) * x2 = a3 at *
  generalize (e + p * g1 - W * (-2 * t0 - 2 * t1)) * x3 = a4 at *
  generalize (g - W * t0) * x4 = a5 at *
  generalize (p * d1 + q * e0 - W * (-2 * t1 - 2 * t2)) * x1 = a6 at *
  generalize (q * d0 - W * t2) * x0 = a7 at *
  generalize y2 + p * y1 + q * y0 - b = a8 at *
  generalize d * x2 + e * x3 + g * x4 - y2 = a9 at *
  clear key E0 E1 E2 E3 E4 h1 h0
  constructor <;> grind
section
variable {n k : Nat} {f : Int → FV} {b : Nat → Rat}
theorem hH0 {n : Nat} (hn : 3 ≤ n) (x : Nat → Rat) (r : Nat) : hH n x (r + 2) = tI n r 0 * dd2 x r := by
  unfold hH tI
  by_cases h : r + 2 < n
  · rw [if_pos (by omega), if_pos (by omega), Rat.one_mul]
    rfl
  · rw [if_neg (by omega), if_neg (by omega), Rat.zero_mul]
theorem hH1 {n : Nat} (hn : 3 ≤ n) (x : Nat → Rat) (r : Nat) : hH n x (r + 1) = tI n r 1 * dd2 x (r - 1) := by
  unfold hH tI
  by_cases h : 1 ≤ r ∧ r + 1 < n
  · rw [if_pos (by omega), if_pos (by omega), Rat.one_mul]
    rfl
  · rw [if_neg (by omega), if_neg (by omega), Rat.zero_mul]
theorem hH2 {n : Nat} (hn : 3 ≤ n) (x : Nat → Rat) (r : Nat) : hH n x r = tI n r 2 * dd2 x (r - 2) := by
  unfold hH tI
  by_cases h : 2 ≤ r ∧ r < n
  · rw [if_pos (by omega), if_pos (by omega), Rat.one_mul]
  · rw [if_neg (by omega), if_neg (by omega), Rat.zero_mul]
/-- How far what is computed is from what is solved for. -/
theorem resid (hn : 3 ≤ n ∧ n ≤ 14) (hk : k ≤ 16) (hf : ∀ r : Nat, r < n → Vl .f32 (f r) (b r)) (hb : ∀ r, r < n → -8 ≤ b r ∧ b r ≤ 8) {X : Rat} (hX : 1 ≤ X) (hx : ∀ r, r < n → -X ≤ xQ n k f r ∧ xQ n k f r ≤ X) {r : Nat} (hr : r < n) :
    -(1135 * X / 8388608) ≤ aA ((k : Rat) / 2) n (xQ n k f) r - b r ∧ aA ((k : Rat) / 2) n (xQ n k f) r - b r ≤ 1135 * X / 8388608 := by
  have hxx : ∀ r, -X ≤ xQ n k f r ∧ xQ n k f r ≤ X := fun r => by
    by_cases h : r < n
    · exact hx r h
    · have : xQ n k f r = 0 := if_neg h
      rw [this]
      constructor <;> grind
  have hB : ∀ r, r < n → (-(135 * X / 8388608) ≤ (qk n k r).d * xQ n k f r + (qk n k r).e * xQ n k f (r + 1) + (qk n k r).g * xQ n k f (r + 2) - yQ n k f r ∧ (qk n k r).d * xQ n k f r + (qk n k r).e * xQ n k f (r + 1) + (qk n k r).g * xQ n k f (r + 2) - yQ n k f r ≤ 135 * X / 8388608) ∧ (-(61 * X) ≤ yQ n k f r ∧ yQ n k f r ≤ 61 * X) := fun r hr => by
    obtain ⟨hd, he, hg, _, _⟩ := qk_b hn hk hr
    have h := (up_ok hn hk hf hb (n - 1 - r) r (by omega)).2.1
    exact brel_err h hX (hxx r) (hxx (r + 1)) (hxx (r + 2)) hd he hg
  have hF := (down_ok hn hk hf hb r hr).2.1
  obtain ⟨c0, c1, c2, c3, c4⟩ := q_near (rows_ok hn hk hr).chk
  have z0 : -(X) ≤ (0 : Rat) ∧ (0 : Rat) ≤ X := by constructor <;> grind
  have c1' : N0 ((qk n k r).e + (if 1 ≤ r then qk n k (r - 1) else q5z).p * (if 1 ≤ r then qk n k (r - 1) else q5z).g - (k : Rat) / 2 * (-2 * tI n r 0 - 2 * tI n r 1)) := by
    by_cases h : r + 1 < n
    · rw [if_pos h] at c1
      exact c1
    · rw [if_neg h] at c1
      have e0 : tI n r 0 = 0 := if_neg (by omega)
      have e1 : tI n r 1 = 0 := if_neg (by omega)
      rw [e0, e1]
      have : (k : Rat) / 2 * (-2 * 0 - 2 * 0) = 0 := by grind
      rw [this]
      exact c1
  unfold aA
  rw [hH0 hn.1, hH1 hn.1, hH2 hn.1]
  match r, hr, hF, c0, c1', c2, c3, c4 with
  | 0, hr, hF, c0, c1, c2, c3, c4 =>
    have e1 : tI n 0 1 = 0 := if_neg (by omega)
    have e2 : tI n 0 2 = 0 := if_neg (by omega)
    rw [e1, e2] at *
    have hB0 := hB 0 hr
    have hfr := frel_err hF hX hB0.2 hB0.2 hB0.2 (by show -2 ≤ (0 : Rat) ∧ (0 : Rat) ≤ 0; constructor <;> grind) (by show 0 ≤ (0 : Rat) ∧ (0 : Rat) ≤ 1; constructor <;> grind)
    have hfr' : -(435 * X / 8388608) ≤ yQ n k f 0 + 0 * yQ n k f 0 + 0 * yQ n k f 0 - b 0 ∧ yQ n k f 0 + 0 * yQ n k f 0 + 0 * yQ n k f 0 - b 0 ≤ 435 * X / 8388608 := hfr
    have c0' : N0 ((qk n k 0).d + 0 * 0 + 0 * 0 - (1 + (k : Rat) / 2 * (tI n 0 0 + 4 * 0 + 0))) := c0
    have c1' : N0 ((qk n k 0).e + 0 * 0 - (k : Rat) / 2 * (-2 * tI n 0 0 - 2 * 0)) := c1
    have hN : N0 (0 * 0 + 0 * 0 - (k : Rat) / 2 * (-2 * 0 - 2 * 0)) := by
      have : 0 * 0 + 0 * 0 - (k : Rat) / 2 * (-2 * 0 - 2 * 0) = 0 := by grind
      rw [this]
      exact ⟨by decide +kernel, by decide +kernel⟩
    have hN2 : N0 (0 * 0 - (k : Rat) / 2 * 0) := by
      have : 0 * 0 - (k : Rat) / 2 * 0 = 0 := by grind
      rw [this]
      exact ⟨by decide +kernel, by decide +kernel⟩
    have h0 := row_bound (qk n k 0).d (qk n k 0).e (qk n k 0).g 0 0 0 0 0 0 0 0 ((k : Rat) / 2) (tI n 0 0) 0 0 0 0 (xQ n k f 0) (xQ n k f 1) (xQ n k f 2) 0 0 (yQ n k f 0) (b 0) X z0 z0 (hxx 0) (hxx 1) (hxx 2) (by constructor <;> grind) (by constructor <;> grind) c0' c1' c2 hN hN2 hB0.1 (by constructor <;> grind) (by constructor <;> grind) (by constructor <;> grind)
    unfold dd2
    constructor <;> grind
  | 1, hr, hF, c0, c1, c2, c3, c4 =>
    have e2 : tI n 1 2 = 0 := if_neg (by omega)
    rw [e2] at *
    have hB0 := hB 0 (by omega)
    have hB1 := hB 1 hr
    obtain ⟨_, _, _, hp, _⟩ := qk_b hn hk (r := 0) (by omega)
    have hfr : -(435 * X / 8388608) ≤ yQ n k f 1 + (qk n k 0).p * yQ n k f 0 + 0 * yQ n k f 0 - b 1 ∧ yQ n k f 1 + (qk n k 0).p * yQ n k f 0 + 0 * yQ n k f 0 - b 1 ≤ 435 * X / 8388608 := frel_err hF hX hB1.2 hB0.2 hB0.2 hp (by show 0 ≤ (0 : Rat) ∧ (0 : Rat) ≤ 1; constructor <;> grind)
    have c0' : N0 ((qk n k 1).d + (qk n k 0).p * (qk n k 0).e + 0 * 0 - (1 + (k : Rat) / 2 * (tI n 1 0 + 4 * tI n 1 1 + 0))) := c0
    have c1' : N0 ((qk n k 1).e + (qk n k 0).p * (qk n k 0).g - (k : Rat) / 2 * (-2 * tI n 1 0 - 2 * tI n 1 1)) := c1
    have c3' : N0 ((qk n k 0).p * (qk n k 0).d + 0 * 0 - (k : Rat) / 2 * (-2 * tI n 1 1 - 2 * 0)) := c3
    have hN2 : N0 (0 * 0 - (k : Rat) / 2 * 0) := by
      have : 0 * 0 - (k : Rat) / 2 * 0 = 0 := by grind
      rw [this]
      exact ⟨by decide +kernel, by decide +kernel⟩
    have h0 := row_bound (qk n k 1).d (qk n k 1).e (qk n k 1).g (qk n k 0).p 0 (qk n k 0).d (qk n k 0).e (qk n k 0).g 0 0 0 ((k : Rat) / 2) (tI n 1 0) (tI n 1 1) 0 0 (xQ n k f 0) (xQ n k f 1) (xQ n k f 2) (xQ n k f 3) 0 (yQ n k f 0) (yQ n k f 1) (b 1) X z0 (hxx 0) (hxx 1) (hxx 2) (hxx 3) hp (by constructor <;> grind) c0' c1' c2 c3' hN2 hB1.1 hB0.1 (by constructor <;> grind) (by constructor <;> grind)
    unfold dd2
    constructor <;> grind
  | r + 2, hr, hF, c0, c1, c2, c3, c4 =>
    have hB0 := hB r (by omega)
    have hB1 := hB (r + 1) (by omega)
    have hB2 := hB (r + 2) hr
    obtain ⟨_, _, _, _, hq⟩ := qk_b hn hk (r := r) (by omega)
    obtain ⟨_, _, _, hp, _⟩ := qk_b hn hk (r := r + 1) (by omega)
    have hfr := frel_err hF hX hB2.2 hB1.2 hB0.2 hp hq
    rw [if_pos (by omega), if_pos (by omega)] at c0 c3
    rw [if_pos (by omega)] at c1 c4
    rw [if_pos (by omega)] at c3
    have h0 := row_bound (qk n k (r + 2)).d (qk n k (r + 2)).e (qk n k (r + 2)).g (qk n k (r + 1)).p (qk n k r).q (qk n k (r + 1)).d (qk n k (r + 1)).e (qk n k (r + 1)).g (qk n k r).d (qk n k r).e (qk n k r).g ((k : Rat) / 2) (tI n (r + 2) 0) (tI n (r + 2) 1) (tI n (r + 2) 2) (xQ n k f r) (xQ n k f (r + 1)) (xQ n k f (r + 2)) (xQ n k f (r + 3)) (xQ n k f (r + 4)) (yQ n k f r) (yQ n k f (r + 1)) (yQ n k f (r + 2)) (b (r + 2)) X (hxx r) (hxx (r + 1)) (hxx (r + 2)) (hxx (r + 3)) (hxx (r + 4)) hp hq c0 c1 c2 c3 c4 hB2.1 hB1.1 hB0.1 hfr
    exact h0
theorem most (x : Nat → Rat) : ∀ n, ∃ X : Rat, 1 ≤ X ∧ (∀ r, r < n → -X ≤ x r ∧ x r ≤ X) ∧ (X = 1 ∨ ∃ m, m < n ∧ X * X = x m * x m)
  | 0 => ⟨1, by decide +kernel, fun r h => by omega, .inl rfl⟩
  | n + 1 => by
    obtain ⟨X, h1, h2, h3⟩ := most x n
    by_cases c : -X ≤ x n ∧ x n ≤ X
    · refine ⟨X, h1, fun r hr => ?_, h3.imp id fun ⟨m, hm, e⟩ => ⟨m, by omega, e⟩⟩
      rcases (show r < n ∨ r = n from by omega) with h | rfl
      · exact h2 r h
      · exact c
    · rcases Rat.le_total (a := 0) (b := x n) with h | h
      · refine ⟨x n, by grind, fun r hr => ?_, .inr ⟨n, by omega, rfl⟩⟩
        rcases (show r < n ∨ r = n from by omega) with h4 | rfl
        · have := h2 r h4
          constructor <;> grind
        · constructor <;> grind
      · refine ⟨-x n, by grind, fun r hr => ?_, .inr ⟨n, by omega, by grind⟩⟩
        rcases (show r < n ∨ r = n from by omega) with h4 | rfl
        · have := h2 r h4
          constructor <;> grind
        · constructor <;> grind
/-- What QuietList computes solves the square, nearly. -/
theorem solved (hn : 3 ≤ n ∧ n ≤ 14) (hk : k ≤ 16) (hf : ∀ r : Nat, r < n → Vl .f32 (f r) (b r)) (hb : ∀ r, r < n → -8 ≤ b r ∧ b r ≤ 8) (hs : sm n (fun r => b r * b r) ≤ 225) :
    ∃ x ρ : Nat → Rat, (∀ r : Nat, r < n → Vl .f32 (quietR (wF k) n f r) (x r)) ∧ (∀ r, r < n → -16 ≤ x r ∧ x r ≤ 16) ∧ (∀ r, r < n → aA ((k : Rat) / 2) n x r = b r + ρ r) ∧ (∀ r, r < n → -(1 / 450) ≤ ρ r ∧ ρ r ≤ 1 / 450) := by
  have hW : (0 : Rat) ≤ (k : Rat) / 2 := by
    have : (0 : Rat) ≤ (k : Rat) := Rat.natCast_nonneg
    grind
  obtain ⟨X, h1, h2, h3⟩ := most (xQ n k f) n
  have hR := fun r hr => resid hn hk hf hb h1 h2 (r := r) hr
  have h16 : X ≤ 16 := by
    rcases h3 with rfl | ⟨m, hm, e⟩
    · decide +kernel
    · have h4 := long_le (W := (k : Rat) / 2) (x := xQ n k f) (b := b) (ρ := fun r => aA ((k : Rat) / 2) n (xQ n k f) r - b r) (K := 1135 * (X * X) / 8388608) hn hW (fun r _ => by grind) (fun r hr => by
        have h5 := mul_bnd (p := xQ n k f r) (q := aA ((k : Rat) / 2) n (xQ n k f) r - b r) (a := X) (b := 1135 * X / 8388608) (h2 r hr).1 (h2 r hr).2 (hR r hr).1 (hR r hr).2
        grind)
      have hXX := sq_nonneg X
      have h5 := sm_term (f := fun r => xQ n k f r * xQ n k f r) (n := n) (fun i _ => sq_nonneg _) hm
      have h6 : X * X ≤ 256 := by grind
      rcases Rat.le_total (a := X) (b := 16) with h | h
      · exact h
      · have h7 := Rat.mul_nonneg (show 0 ≤ X - 16 by grind) (show 0 ≤ X by grind)
        grind
  refine ⟨xQ n k f, fun r => aA ((k : Rat) / 2) n (xQ n k f) r - b r, fun r hr => ?_, fun r hr => ?_, fun r _ => by grind, fun r hr => ?_⟩
  · exact (up_ok hn hk hf hb (n - 1 - r) r (by omega)).1
  · have := h2 r hr
    constructor <;> grind
  · have := hR r hr
    constructor <;> grind
/-- With no weight, lists stay. -/
theorem solved0 (hn : 3 ≤ n ∧ n ≤ 14) (hf : ∀ r : Nat, r < n → Vl .f32 (f r) (b r)) (hb : ∀ r, r < n → -8 ≤ b r ∧ b r ≤ 8) : ∀ r : Nat, r < n → Vl .f32 (quietR (wF 0) n f r) (b r) := by
  have hz : ∀ r, r < n → (qk n 0 r).d = 1 ∧ (qk n 0 r).e = 0 ∧ (qk n 0 r).g = 0 ∧ (qk n 0 r).p = 0 ∧ (qk n 0 r).q = 0 := fun r hr => by
    have h := (rows_ok hn (k := 0) (by omega) hr).chk
    have e : ((0 : Nat) : Rat) / 2 = 0 := by decide +kernel
    rw [e] at h
    exact q_plain h
  have r0 : ∀ {a p : Rat}, Rnd .f32 (0 * a) p → p = 0 := fun {a p} h => by
    rw [Rat.zero_mul] at h
    exact rnd_rep h (rep_zero _)
  have s0 : ∀ {a p : Rat}, Rnd .f32 (a - 0) p → Rep .f32 a → p = a := fun {a p} h hr => by
    rw [show a - 0 = a by grind] at h
    exact rnd_rep h hr
  have hy : ∀ r, r < n → yQ n 0 f r = b r := fun r hr => by
    obtain ⟨_, hF, _⟩ := down_ok hn (k := 0) (by omega) hf hb r hr
    obtain ⟨p, t, q, h1, h2, h3, h4⟩ := hF.h
    have e1 : L1 n 0 r = 0 := by
      unfold L1
      by_cases h : 1 ≤ r
      · rw [if_pos h]; exact (hz (r - 1) (by omega)).2.2.2.1
      · rw [if_neg h]; rfl
    have e2 : L2 n 0 r = 0 := by
      unfold L2
      by_cases h : 2 ≤ r
      · rw [if_pos h]; exact (hz (r - 2) (by omega)).2.2.2.2
      · rw [if_neg h]; rfl
    rw [e2] at h1
    rw [e1] at h3
    obtain rfl := r0 h1
    obtain rfl := r0 h3
    have hb' := vl_rep (hf r hr)
    obtain rfl := s0 h2 hb'
    exact s0 h4 hb'
  intro r hr
  obtain ⟨vx, hB, _⟩ := up_ok hn (k := 0) (by omega) hf hb (n - 1 - r) r (by omega)
  obtain ⟨p, t, q, s, h1, h2, h3, h4, h5⟩ := hB.h
  obtain ⟨z1, z2, z3, _, _⟩ := hz r hr
  rw [z2] at h1
  rw [z3] at h3
  rw [z1] at h5
  rw [hy r hr] at h2
  obtain rfl := r0 h1
  obtain rfl := r0 h3
  have hb' := vl_rep (hf r hr)
  obtain rfl := s0 h2 hb'
  obtain rfl := s0 h4 hb'
  rw [show b r / 1 = b r by grind] at h5
  rw [rnd_rep h5 hb'] at vx
  exact vx
end
end Go.Ab
