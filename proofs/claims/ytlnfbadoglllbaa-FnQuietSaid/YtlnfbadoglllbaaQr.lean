/- Quiet lists: sums stay, lines stay, and roughness does not grow, nearly. No conditions. -/
import Derived.Test.YtlnfbadoglllbaaQp
namespace Go.Ab

theorem q_bounds {W : Rat} {n r : Nat} {P2 P1 Q : Q5} (h : chkR W n r P2 P1 Q = true) : (1 ≤ Q.d ∧ Q.d ≤ 20) ∧ (-32 ≤ Q.e ∧ Q.e ≤ 0) ∧ (0 ≤ Q.g ∧ Q.g ≤ 8) ∧ (-2 ≤ Q.p ∧ Q.p ≤ 0) ∧ (0 ≤ Q.q ∧ Q.q ≤ 1) := by
  simp only [chkR, Bool.and_eq_true, decide_eq_true_eq] at h
  grind
def N0 (x : Rat) : Prop := -(1 / 262144) ≤ x ∧ x ≤ 1 / 262144
theorem near0_iff {x : Rat} (h : near0 x = true) : N0 x := by
  simpa only [near0, N0, Bool.and_eq_true, decide_eq_true_eq] using h
theorem q_near {W : Rat} {n r : Nat} {P2 P1 Q : Q5} (h : chkR W n r P2 P1 Q = true) :
    N0 (Q.d + P1.p * P1.e + P2.q * P2.g - (1 + W * (tI n r 0 + 4 * tI n r 1 + tI n r 2))) ∧ N0 (Q.e + P1.p * P1.g - (if r + 1 < n then W * (-2 * tI n r 0 - 2 * tI n r 1) else 0)) ∧ N0 (Q.g - W * tI n r 0) ∧
    N0 (P1.p * P1.d + P2.q * P2.e - (if 1 ≤ r then W * (-2 * tI n r 1 - 2 * tI n r 2) else 0)) ∧ N0 (P2.q * P2.d - W * tI n r 2) := by
  simp only [chkR, Bool.and_eq_true] at h
  obtain ⟨⟨⟨⟨⟨⟨_, h1⟩, h2⟩, h3⟩, h4⟩, h5⟩, _⟩ := h
  exact ⟨near0_iff h1, near0_iff h2, near0_iff h3, near0_iff h4, near0_iff h5⟩
theorem q_plain {n r : Nat} {P2 P1 Q : Q5} (h : chkR 0 n r P2 P1 Q = true) : Q.d = 1 ∧ Q.e = 0 ∧ Q.g = 0 ∧ Q.p = 0 ∧ Q.q = 0 := by
  simp only [chkR, Bool.and_eq_true] at h
  obtain ⟨_, h6⟩ := h
  simp at h6
  grind
section
variable {n k : Nat} {f : Int → FV} {b : Nat → Rat}
/-- The rows of a square. -/
abbrev qk (n k r : Nat) : Q5 := qR (wF k) n r
def L1 (n k r : Nat) : Rat := (if 1 ≤ r then qk n k (r - 1) else q5z).p
def L2 (n k r : Nat) : Rat := (if 2 ≤ r then qk n k (r - 2) else q5z).q
theorem qk_b (hn : 3 ≤ n ∧ n ≤ 14) (hk : k ≤ 16) {r : Nat} (hr : r < n) : (1 ≤ (qk n k r).d ∧ (qk n k r).d ≤ 20) ∧ (-32 ≤ (qk n k r).e ∧ (qk n k r).e ≤ 0) ∧ (0 ≤ (qk n k r).g ∧ (qk n k r).g ≤ 8) ∧ (-2 ≤ (qk n k r).p ∧ (qk n k r).p ≤ 0) ∧ (0 ≤ (qk n k r).q ∧ (qk n k r).q ≤ 1) := q_bounds (rows_ok hn hk hr).chk
def yQ (n k : Nat) (f : Int → FV) (r : Nat) : Rat := ratF (yF (wF k) n f r)
def xQ (n k : Nat) (f : Int → FV) (r : Nat) : Rat := if r < n then ratF (quietR (wF k) n f r) else 0
theorem p2s (e : Int) (m : Nat) : p2 (e + m) = ((2 ^ m : Nat) : Rat) * p2 e := by rw [p2_add, p2_nat, Rat.mul_comm]
/-- The way down. -/
theorem down_ok (hn : 3 ≤ n ∧ n ≤ 14) (hk : k ≤ 16) (hf : ∀ r : Nat, r < n → Vl .f32 (f r) (b r)) (hb : ∀ r, r < n → -8 ≤ b r ∧ b r ≤ 8) : ∀ r : Nat, r < n →
    Vl .f32 (yF (wF k) n f r) (yQ n k f r) ∧ FRel (b r) (L2 n k r) (yQ n k f (r - 2)) (L1 n k r) (yQ n k f (r - 1)) (yQ n k f r) ∧ -p2 (2 * r + 3) ≤ yQ n k f r ∧ yQ n k f r ≤ p2 (2 * r + 3) := by
  have e8 : p2 3 = 8 := by decide +kernel
  intro r
  induction r using Nat.strongRecOn with
  | ind r ih =>
    intro hr
    match r, ih, hr with
    | 0, _, hr =>
      have h := hf 0 hr
      have e : yF (wF k) n f ((0 : Nat) : Int) = f ((0 : Nat) : Int) := yF_0 _ _ _
      have hy : yQ n k f 0 = b 0 := by unfold yQ; rw [e]; exact h.rat
      refine ⟨by rw [hy, e]; exact h, ⟨0, b 0, 0, ?_, ?_, ?_, ?_⟩, ?_, ?_⟩
      · show Rnd .f32 (0 * _) 0
        rw [Rat.zero_mul]
        exact rnd_refl _ _
      · have : b 0 - 0 = b 0 := by grind
        rw [this]
        exact rnd_refl _ _
      · show Rnd .f32 (0 * _) 0
        rw [Rat.zero_mul]
        exact rnd_refl _ _
      · have : b 0 - 0 = b 0 := by grind
        rw [this, hy]
        exact rnd_refl _ _
      · show -p2 3 ≤ _
        rw [e8, hy]
        exact (hb 0 hr).1
      · show _ ≤ p2 3
        rw [e8, hy]
        exact (hb 0 hr).2
    | 1, ih, hr =>
      obtain ⟨v0, _, l0, u0⟩ := ih 0 (by omega) (by omega)
      have l0' : -p2 3 ≤ yQ n k f 0 := l0
      have u0' : yQ n k f 0 ≤ p2 3 := u0
      obtain ⟨_, _, _, ⟨p1, p2'⟩, _⟩ := qk_b hn hk (r := 0) (by omega)
      have vl := ((rows_ok hn hk (r := 0) (by omega)).v1 (by omega)).2
      have e : yF (wF k) n f ((1 : Nat) : Int) = _ := yF_1 (wF k) (by omega) f
      have m := mul_bnd (p := (qk n k 0).p) (q := yQ n k f 0) (a := 2) (b := 8) (by grind) (by grind) (by grind) (by grind)
      have e4 : p2 4 = 16 := by decide +kernel
      have e5 : p2 5 = 32 := by decide +kernel
      have hb1 := hb 1 hr
      obtain ⟨p, s, vs, r1, r2, b1, b2⟩ := fms (hf 1 hr) vl v0 (e1 := 4) (e2 := 5) (by omega) (by omega) (by grind) (fun p h1 h2 => by grind)
      have vs : Vl .f32 (yF (wF k) n f ((1 : Nat) : Int)) s := by rw [e]; exact vs
      have hy : yQ n k f 1 = s := vs.rat
      refine ⟨by rw [hy]; exact vs, ⟨0, b 1, p, ?_, ?_, ?_, ?_⟩, ?_, ?_⟩
      · show Rnd .f32 (0 * _) 0
        rw [Rat.zero_mul]
        exact rnd_refl _ _
      · have : b 1 - 0 = b 1 := by grind
        rw [this]
        exact rnd_refl _ _
      · exact r1
      · rw [hy]; exact r2
      · rw [hy]; exact b1
      · rw [hy]; exact b2
    | r + 2, ih, hr =>
      obtain ⟨v0, _, l0, u0⟩ := ih r (by omega) (by omega)
      obtain ⟨v1, _, l1, u1⟩ := ih (r + 1) (by omega) (by omega)
      obtain ⟨_, _, _, _, ⟨q1, q2⟩⟩ := qk_b hn hk (r := r) (by omega)
      obtain ⟨_, _, _, ⟨p1, p2'⟩, _⟩ := qk_b hn hk (r := r + 1) (by omega)
      have vl2 := ((rows_ok hn hk (r := r) (by omega)).v2 (by omega)).2
      have vl1 := ((rows_ok hn hk (r := r + 1) (by omega)).v1 (by omega)).2
      have e : yF (wF k) n f ((r + 2 : Nat) : Int) = _ := yF_2 (wF k) hr f
      have hb2 := hb (r + 2) hr
      have a0 : p2 (2 * ((r + 1 : Nat) : Int) + 3) = 4 * p2 (2 * (r : Int) + 3) := by
        rw [show 2 * ((r + 1 : Nat) : Int) + 3 = 2 * (r : Int) + 3 + ((2 : Nat) : Int) from by omega, p2s]
        rfl
      have a1 : p2 (2 * (r : Int) + 4) = 2 * p2 (2 * (r : Int) + 3) := by
        rw [show 2 * (r : Int) + 4 = 2 * (r : Int) + 3 + ((1 : Nat) : Int) from by omega, p2s]
        rfl
      have a3 : p2 (2 * (r : Int) + 6) = 8 * p2 (2 * (r : Int) + 3) := by
        rw [show 2 * (r : Int) + 6 = 2 * (r : Int) + 3 + ((3 : Nat) : Int) from by omega, p2s]
        rfl
      have a4 : p2 (2 * ((r + 2 : Nat) : Int) + 3) = 16 * p2 (2 * (r : Int) + 3) := by
        rw [show 2 * ((r + 2 : Nat) : Int) + 3 = 2 * (r : Int) + 3 + ((4 : Nat) : Int) from by omega, p2s]
        rfl
      have a8 : 8 ≤ p2 (2 * (r : Int) + 3) := by
        rw [← e8]
        exact p2_le (by omega)
      rw [a0] at l1 u1
      have m2 := mul_bnd (p := (qk n k r).q) (q := yQ n k f r) (a := 1) (b := p2 (2 * (r : Int) + 3)) (by grind) (by grind) l0 u0
      have m1 := mul_bnd (p := (qk n k (r + 1)).p) (q := yQ n k f (r + 1)) (a := 2) (b := 4 * p2 (2 * (r : Int) + 3)) (by grind) (by grind) l1 u1
      obtain ⟨p, t, vt, r1, r2, b1, b2⟩ := fms (hf (r + 2) hr) vl2 v0 (e1 := 2 * (r : Int) + 3) (e2 := 2 * (r : Int) + 4) (by omega) (by omega) (by grind) (fun p h1 h2 => by rw [a1]; grind)
      rw [a1] at b1 b2
      obtain ⟨q, s, vs, r3, r4, b3, b4⟩ := fms vt vl1 v1 (e1 := 2 * (r : Int) + 6) (e2 := 2 * ((r + 2 : Nat) : Int) + 3) (by omega) (by omega) (by rw [a3]; grind) (fun p h1 h2 => by rw [a3] at h1 h2; rw [a4]; grind)
      rw [← e] at vs
      have hy : yQ n k f (r + 2) = s := vs.rat
      refine ⟨by rw [hy]; exact vs, ⟨p, t, q, r1, r2, r3, by rw [hy]; exact r4⟩, by rw [hy]; exact b3, by rw [hy]; exact b4⟩
set_option maxHeartbeats 4000000 in
/-- The way back. -/
theorem up_ok (hn : 3 ≤ n ∧ n ≤ 14) (hk : k ≤ 16) (hf : ∀ r : Nat, r < n → Vl .f32 (f r) (b r)) (hb : ∀ r, r < n → -8 ≤ b r ∧ b r ≤ 8) : ∀ m r : Nat, r + m + 1 = n →
    Vl .f32 (quietR (wF k) n f r) (xQ n k f r) ∧ BRel (yQ n k f r) (qk n k r).e (xQ n k f (r + 1)) (qk n k r).g (xQ n k f (r + 2)) (qk n k r).d (xQ n k f r) ∧ -p2 (29 + 7 * m) ≤ xQ n k f r ∧ xQ n k f r ≤ p2 (29 + 7 * m) := by
  have hD := down_ok hn hk hf hb
  have yb : ∀ r : Nat, r < n → -p2 29 ≤ yQ n k f r ∧ yQ n k f r ≤ p2 29 := fun r hr => by
    have h1 := (hD r hr).2.2
    have h2 := p2_le (show 2 * (r : Int) + 3 ≤ 29 by omega)
    constructor <;> grind
  have quo : ∀ {d s q : Rat} {P : Rat}, 1 ≤ d → s / d = q → -P ≤ s → s ≤ P → 0 ≤ P → -P ≤ q ∧ q ≤ P := fun {d s q P} hd hq h1 h2 hP => by
    have d0 : d ≠ 0 := by grind
    have es : s / d * d = s := Rat.div_mul_cancel d0
    rw [hq] at es
    have := Rat.mul_le_mul_of_nonneg_left hd hP
    constructor
    · rcases Rat.le_total (a := q) (b := -P) with h | h
      · rcases Rat.le_total (a := -P) (b := q) with h' | h'
        · exact h'
        · have h3 := Rat.mul_nonneg (show 0 ≤ -P - q by grind) (show 0 ≤ d by grind)
          have h4 := Rat.mul_nonneg (show 0 ≤ -P - q by grind) (show 0 ≤ d - 1 by grind)
          grind
      · exact h
    · rcases Rat.le_total (a := q) (b := P) with h | h
      · exact h
      · have h3 := Rat.mul_nonneg (show 0 ≤ q - P by grind) (show 0 ≤ d by grind)
        have h4 := Rat.mul_nonneg (show 0 ≤ q - P by grind) (show 0 ≤ d - 1 by grind)
        grind
  have hout : ∀ r, n ≤ r → xQ n k f r = 0 := fun r hr => if_neg (by omega)
  intro m
  induction m using Nat.strongRecOn with
  | ind m ih =>
    intro r hr
    have hrn : r < n := by omega
    have hR := rows_ok hn hk hrn
    obtain ⟨hd, he, hg, _, _⟩ := qk_b hn hk hrn
    obtain ⟨vy, _, _, _⟩ := hD r hrn
    obtain ⟨y1, y2⟩ := yb r hrn
    have d0 : (qk n k r).d ≠ 0 := by grind
    have hx : xQ n k f r = ratF (quietR (wF k) n f r) := if_pos hrn
    have pp : ∀ e, 0 ≤ p2 e := fun e => Rat.le_of_lt (p2_pos e)
    have fin : ∀ {sF : FV} {s : Rat} {e : Int}, Vl .f32 sF s → -149 ≤ e ∧ e ≤ 126 → -p2 e ≤ s → s ≤ p2 e → quietR (wF k) n f r = fbin .quo .f32 sF (mF (wF k) n r r) →
        Vl .f32 (quietR (wF k) n f r) (xQ n k f r) ∧ Rnd .f32 (s / (qk n k r).d) (xQ n k f r) ∧ -p2 e ≤ xQ n k f r ∧ xQ n k f r ≤ p2 e := fun {sF s e} vs h1 h2 h3 hq => by
      have b1 := quo hd.1 rfl h2 h3 (pp e)
      have h4 : p2 e ≤ p2 (ftop .f32 - 1) := p2_le (by show e ≤ 126; omega)
      obtain ⟨x, vx, rx⟩ := vl_div vs hR.vd d0 ⟨by grind, by grind⟩
      rw [← hq] at vx
      have b2 := rnd_pow rx h1.1 b1.1 b1.2
      have : xQ n k f r = x := by rw [hx]; exact vx.rat
      rw [this]
      exact ⟨vx, rx, b2.1, b2.2⟩
    match m, ih, hr with
    | 0, _, hr =>
      obtain ⟨vx, rx, b1, b2⟩ := fin vy (e := 29) (by omega) y1 y2 (x_last (wF k) (by omega) f)
      obtain ⟨z1, _⟩ := hR.z1 (by omega)
      obtain ⟨z2, _⟩ := hR.z2 (by omega)
      refine ⟨vx, ⟨0, yQ n k f r, 0, yQ n k f r, ?_, ?_, ?_, ?_, rx⟩, b1, b2⟩
      · have : (qk n k r).e = 0 := z1
        rw [this, Rat.zero_mul]
        exact rnd_refl _ _
      · have : yQ n k f r - 0 = yQ n k f r := by grind
        rw [this]
        exact rnd_refl _ _
      · have : (qk n k r).g = 0 := z2
        rw [this, Rat.zero_mul]
        exact rnd_refl _ _
      · have : yQ n k f r - 0 = yQ n k f r := by grind
        rw [this]
        exact rnd_refl _ _
    | m + 1, ih, hr =>
      obtain ⟨v1, _, l1, u1⟩ := ih m (by omega) (r + 1) (by omega)
      have vle := (hR.v1 (by omega)).1
      have aP : p2 29 ≤ p2 (29 + 7 * (m : Int)) := p2_le (by omega)
      have a5 : p2 (29 + 7 * (m : Int) + 5) = 32 * p2 (29 + 7 * (m : Int)) := by
        have := p2s (29 + 7 * (m : Int)) 5
        exact this
      have a6 : p2 (29 + 7 * (m : Int) + 6) = 64 * p2 (29 + 7 * (m : Int)) := by
        have := p2s (29 + 7 * (m : Int)) 6
        exact this
      have a3 : p2 (29 + 7 * (m : Int) + 3) = 8 * p2 (29 + 7 * (m : Int)) := by
        have := p2s (29 + 7 * (m : Int)) 3
        exact this
      have a7 : p2 (29 + 7 * ((m + 1 : Nat) : Int)) = 128 * p2 (29 + 7 * (m : Int)) := by
        rw [show 29 + 7 * ((m + 1 : Nat) : Int) = 29 + 7 * (m : Int) + ((7 : Nat) : Int) from by omega, p2s]
        rfl
      have p0 := pp (29 + 7 * (m : Int))
      have m1 := mul_bnd (p := (qk n k r).e) (q := xQ n k f (r + 1)) (a := 32) (b := p2 (29 + 7 * (m : Int))) (by grind) (by grind) l1 u1
      obtain ⟨p, t, vt, r1, r2, b1, b2⟩ := fms vy vle v1 (e1 := 29 + 7 * (m : Int) + 5) (e2 := 29 + 7 * (m : Int) + 6) (by omega) (by omega) (by rw [a5]; grind) (fun p h1 h2 => by rw [a5] at h1 h2; rw [a6]; grind)
      rw [a6] at b1 b2
      by_cases hm : m = 0
      · obtain ⟨z2, _⟩ := hR.z2 (by omega)
        have z2' : (qk n k r).g = 0 := z2
        obtain ⟨vx, rx, b5, b6⟩ := fin vt (e := 29 + 7 * ((m + 1 : Nat) : Int)) (by omega) (by rw [a7]; grind) (by rw [a7]; grind) (x_next (wF k) (by omega) f)
        refine ⟨vx, ⟨p, t, 0, t, r1, r2, ?_, ?_, rx⟩, b5, b6⟩
        · rw [z2', Rat.zero_mul]
          exact rnd_refl _ _
        · have : t - 0 = t := by grind
          rw [this]
          exact rnd_refl _ _
      · obtain ⟨m', hm'⟩ : ∃ m', m = m' + 1 := ⟨m - 1, by omega⟩
        obtain ⟨v2, _, l2, u2⟩ := ih m' (by omega) (r + 2) (by omega)
        have vlg := (hR.v2 (by omega)).1
        have a2 : p2 (29 + 7 * (m' : Int)) ≤ p2 (29 + 7 * (m : Int)) := p2_le (by omega)
        have m2 := mul_bnd (p := (qk n k r).g) (q := xQ n k f (r + 2)) (a := 8) (b := p2 (29 + 7 * (m : Int))) (by grind) (by grind) (by grind) (by grind)
        obtain ⟨q, s, vs, r3, r4, b3, b4⟩ := fms vt vlg v2 (e1 := 29 + 7 * (m : Int) + 3) (e2 := 29 + 7 * ((m + 1 : Nat) : Int)) (by omega) (by omega) (by rw [a3]; grind) (fun p h1 h2 => by rw [a3] at h1 h2; rw [a7]; grind)
        obtain ⟨vx, rx, b5, b6⟩ := fin vs (e := 29 + 7 * ((m + 1 : Nat) : Int)) (by omega) b3 b4 (x_more (wF k) (by omega) f)
        exact ⟨vx, ⟨p, t, q, s, r1, r2, r3, r4, rx⟩, b5, b6⟩
end
end Go.Ab
