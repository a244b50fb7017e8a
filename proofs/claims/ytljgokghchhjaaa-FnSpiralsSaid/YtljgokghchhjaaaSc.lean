/- Arcs of even bends lie on their circles, and spirals without bends are straight, nearly. No conditions. -/
import Derived.Test.YtljgokghchhjaaaSb
import Derived.Test.YtljgokghchhjaaaNo
import Derived.Test.YtljgokghchhjaaaBy
import Derived.Test.YtljgokghchhjaaaSiB
namespace Go.Ab

theorem nearC_out {b : Nat} {p : Int × Int} (hb : 1 ≤ b ∧ b ≤ 8) (h : nearC b p = true) :
    (4 - 3 / 200 * (b : Rat)) * (4 - 3 / 200 * (b : Rat)) ≤ (b : Rat) * (shR p.1 / 256) * ((b : Rat) * (shR p.1 / 256)) + ((b : Rat) * (shR p.2 / 256) - 4) * ((b : Rat) * (shR p.2 / 256) - 4) ∧
    (b : Rat) * (shR p.1 / 256) * ((b : Rat) * (shR p.1 / 256)) + ((b : Rat) * (shR p.2 / 256) - 4) * ((b : Rat) * (shR p.2 / 256) - 4) ≤ (4 + 3 / 200 * (b : Rat)) * (4 + 3 / 200 * (b : Rat)) := by
  have b1 : (1 : Rat) ≤ (b : Rat) := by
    have := Rat.natCast_le_natCast.2 hb.1
    exact this
  have b8 : (b : Rat) ≤ 8 := by
    have := Rat.natCast_le_natCast.2 hb.2
    exact this
  have eK : 384 * sS / 100 = 4222124650659 := by decide
  have eS : 1024 * sS = 1125899906842624 := by decide
  simp only [nearC, Bool.and_eq_true, decide_eq_true_eq, eK, eS] at h
  obtain ⟨h1, h2⟩ := h
  have h1' : (((1125899906842624 - (b : Int) * 4222124650659) * (1125899906842624 - (b : Int) * 4222124650659) : Int) : Rat) ≤ (((b : Int) * p.1 * ((b : Int) * p.1) + ((b : Int) * p.2 - 1125899906842624) * ((b : Int) * p.2 - 1125899906842624) : Int) : Rat) := Rat.intCast_le_intCast.2 h1
  have h2' : (((b : Int) * p.1 * ((b : Int) * p.1) + ((b : Int) * p.2 - 1125899906842624) * ((b : Int) * p.2 - 1125899906842624) : Int) : Rat) ≤ (((1125899906842624 + (b : Int) * 4222124650659) * (1125899906842624 + (b : Int) * 4222124650659) : Int) : Rat) := Rat.intCast_le_intCast.2 h2
  simp only [Rat.intCast_mul, Rat.intCast_add, Rat.intCast_sub] at h1' h2'
  have e1 : ((1125899906842624 : Int) : Rat) = 1125899906842624 := rfl
  have e2 : ((4222124650659 : Int) : Rat) = 4222124650659 := rfl
  have e3 : (((b : Nat) : Int) : Rat) = (b : Rat) := rfl
  rw [e1, e2, e3] at h1' h2'
  unfold shR
  generalize (p.1 : Rat) = X at *
  generalize (p.2 : Rat) = Y at *
  generalize (b : Rat) = A at *
  have k1 : A * (X / 1099511627776 / 256) * (A * (X / 1099511627776 / 256)) + (A * (Y / 1099511627776 / 256) - 4) * (A * (Y / 1099511627776 / 256) - 4) = (A * X * (A * X) + (A * Y - 1125899906842624) * (A * Y - 1125899906842624)) / 79228162514264337593543950336 := by grind
  rw [k1]
  generalize A * X * (A * X) + (A * Y - 1125899906842624) * (A * Y - 1125899906842624) = Q at *
  have k2 := Rat.mul_nonneg (show 0 ≤ A by grind) (show 0 ≤ A by grind)
  have k3 := Rat.mul_nonneg (show 0 ≤ A by grind) (show 0 ≤ 8 - A by grind)
  constructor
  · have : (4 - 3 / 200 * A) * (4 - 3 / 200 * A) * 79228162514264337593543950336 ≤ (1125899906842624 - A * 4222124650659) * (1125899906842624 - A * 4222124650659) := by grind
    grind
  · have : (1125899906842624 + A * 4222124650659) * (1125899906842624 + A * 4222124650659) ≤ (4 + 3 / 200 * A) * (4 + 3 / 200 * A) * 79228162514264337593543950336 := by grind
    grind
/-- As lengths: from the middle of the circle, its radius left and right. -/
theorem nearC_le {b : Nat} {p : Int × Int} {R : Rat} (hb : 1 ≤ b ∧ b ≤ 8) (hR : R * (b : Rat) = 4) (h : nearC b p = true) :
    Le2 (shR p.1 / 256) (shR p.2 / 256 - R) (R + 3 / 200) ∧ (R - 3 / 200) * (R - 3 / 200) ≤ shR p.1 / 256 * (shR p.1 / 256) + (shR p.2 / 256 - R) * (shR p.2 / 256 - R) := by
  have b1 : (1 : Rat) ≤ (b : Rat) := by
    have := Rat.natCast_le_natCast.2 hb.1
    exact this
  obtain ⟨h1, h2⟩ := nearC_out hb h
  generalize shR p.1 / 256 = X at *
  generalize shR p.2 / 256 = Y at *
  generalize (b : Rat) = A at *
  have hA := Rat.mul_pos (show 0 < A by grind) (show 0 < A by grind)
  have e1 : A * X * (A * X) + (A * Y - 4) * (A * Y - 4) = (A * A) * (X * X + (Y - R) * (Y - R)) := by grind
  have e2 : (4 - 3 / 200 * A) * (4 - 3 / 200 * A) = (A * A) * ((R - 3 / 200) * (R - 3 / 200)) := by grind
  have e3 : (4 + 3 / 200 * A) * (4 + 3 / 200 * A) = (A * A) * ((R + 3 / 200) * (R + 3 / 200)) := by grind
  rw [e1] at h1 h2
  rw [e2] at h1
  rw [e3] at h2
  have R0 : 0 ≤ R := by
    rcases Rat.le_total (a := 0) (b := R) with h | h
    · exact h
    · have := Rat.mul_nonneg (show 0 ≤ -R by grind) (show 0 ≤ A by grind)
      grind
  exact ⟨⟨by grind, Rat.le_of_mul_le_mul_left h2 hA⟩, Rat.le_of_mul_le_mul_left h1 hA⟩
section
variable {b m : Nat}
theorem fin1000 {q : Rat} (h1 : -1000 ≤ q) (h2 : q ≤ 1000) : Fit .f32 q := by
  have : (1000 : Rat) < p2 (ftop .f32) := by decide +kernel
  constructor <;> grind
theorem arc_vl (hb : 1 ≤ b ∧ b ≤ 8) (hm : 1 ≤ m ∧ m ≤ 16) {R : Rat} (hR : R * (b : Rat) = 4) : ∀ k : Nat, k ≤ 64 → ∃ x y, Vl .f32 (spZ (quarterF b) (fv .f32 0) (stepF (quarterF m) 64) k).1 x ∧ Vl .f32 (spZ (quarterF b) (fv .f32 0) (stepF (quarterF m) 64) k).2 y ∧
    (-((k : Rat) / 700000) ≤ x - shR (xyI b m k).1 / 256 ∧ x - shR (xyI b m k).1 / 256 ≤ (k : Rat) / 700000) ∧ (-((k : Rat) / 700000) ≤ y - shR (xyI b m k).2 / 256 ∧ y - shR (xyI b m k).2 / 256 ≤ (k : Rat) / 700000)
  | 0, _ => ⟨0, 0, Vl.c (k := .f32) (b := 0) (q := 0) (by decide +kernel), Vl.c (k := .f32) (b := 0) (q := 0) (by decide +kernel), by
    show (-(((0 : Nat) : Rat) / 700000) ≤ 0 - shR 0 / 256 ∧ 0 - shR 0 / 256 ≤ ((0 : Nat) : Rat) / 700000)
    rw [shR_0]
    decide +kernel, by
    show (-(((0 : Nat) : Rat) / 700000) ≤ 0 - shR 0 / 256 ∧ 0 - shR 0 / 256 ≤ ((0 : Nat) : Rat) / 700000)
    rw [shR_0]
    decide +kernel⟩
  | k + 1, hk => by
    obtain ⟨x, y, vx, vy, ex, ey⟩ := arc_vl hb hm hR k (by omega)
    have hgo := goA_out 64 0 (goB_all hb hm)
    have hn := nearC_le hb hR (hgo.1 k (Nat.zero_le _) (by omega))
    have ht := hgo.2 k (Nat.zero_le _) (by omega)
    simp only [okT, Bool.and_eq_true, decide_eq_true_eq] at ht
    obtain ⟨⟨t1, t2⟩, t3⟩ := ht
    have vt := vl_wide (intF_vl t1)
    obtain ⟨⟨c, vc, c1, c2⟩, ⟨s, vs, s1, s2⟩⟩ := phas_acc vt t2 t3
    have hm1 : (1 : Rat) ≤ (m : Rat) := by
      have := Rat.natCast_le_natCast.2 hm.1
      exact this
    have hm16 : (m : Rat) ≤ 16 := by
      have := Rat.natCast_le_natCast.2 hm.2
      exact this
    have vm : Vl .f32 (quarterF m) (((m : Int) : Rat) / 4) := quarter_vl (by omega)
    have v64 : Vl .f32 (some (FloatKind.f32.nearest 64)) 64 := vl_ofInt .f32 64 (by decide)
    have vh : Vl .f32 (stepF (quarterF m) 64) ((m : Rat) / 256) := by
      refine div_ex vm v64 (by decide +kernel) (by rw [show ((m : Int) : Rat) = (m : Rat) from rfl]; grind) (m : Int) 8 (by omega) (by decide) ?_
      rw [show ((2 ^ 8 : Nat) : Rat) = 256 from rfl, show ((m : Int) : Rat) = (m : Rat) from rfl]
      grind
    have bR : R ≤ 4 := by
      have b1 : (1 : Rat) ≤ (b : Rat) := by
        have := Rat.natCast_le_natCast.2 hb.1
        exact this
      rcases Rat.le_total (a := R) (b := 4) with h | h
      · exact h
      · have := Rat.mul_nonneg (show 0 ≤ R - 4 by grind) (show 0 ≤ (b : Rat) - 1 by grind)
        grind
    have bX := hn.1.x
    have bY := hn.1.y
    have k64 : (k : Rat) ≤ 63 := by
      have := Rat.natCast_le_natCast.2 (show k ≤ 63 by omega)
      exact this
    have k0 : (0 : Rat) ≤ (k : Rat) := Rat.natCast_nonneg
    have eXY : xyI b m (k + 1) = nextI b m k (xyI b m k) := rfl
    have eI1 : shR (nextI b m k (xyI b m k)).1 / 256 = shR (xyI b m k).1 / 256 + (m : Rat) / 256 * shR (phI (intF (tB b m k))).1 := by
      unfold nextI shR
      rw [Rat.intCast_add, Rat.intCast_mul, show ((m : Int) : Rat) = (m : Rat) from rfl]
      grind
    have eI2 : shR (nextI b m k (xyI b m k)).2 / 256 = shR (xyI b m k).2 / 256 + (m : Rat) / 256 * shR (phI (intF (tB b m k))).2 := by
      unfold nextI shR
      rw [Rat.intCast_add, Rat.intCast_mul, show ((m : Int) : Rat) = (m : Rat) from rfl]
      grind
    rw [eXY, eI1, eI2]
    have ek : ((k + 1 : Nat) : Rat) = (k : Rat) + 1 := Rat.natCast_add k 1
    rw [ek]
    -- the phasor is no longer than 2
    have pb := phI_bd (a := intF (tB b m k)) t2
    have st : ∀ {W : FV} {w v : Rat} {Z : FV} {z u : Rat}, Vl .f32 W w → -2 ≤ v → v ≤ 2 → -(1 / 1000000) ≤ w - v → w - v ≤ 1 / 1000000 → Vl .f32 Z z → -((k : Rat) / 700000) ≤ z - u → z - u ≤ (k : Rat) / 700000 → -(81 / 10) ≤ u → u ≤ 81 / 10 →
        ∃ r, Vl .f32 (fbin .add .f32 Z (fbin .mul .f32 W (stepF (quarterF m) 64))) r ∧ -(((k : Rat) + 1) / 700000) ≤ r - (u + (m : Rat) / 256 * v) ∧ r - (u + (m : Rat) / 256 * v) ≤ ((k : Rat) + 1) / 700000 := fun {W w v Z z u} vW v1 v2 w1 w2 vZ z1 z2 u1 u2 => by
      have m1 := mul_bnd (p := w - v) (q := (m : Rat) / 256) (a := 1 / 1000000) (b := 1 / 16) w1 w2 (by grind) (by grind)
      have m2 := mul_bnd (p := w) (q := (m : Rat) / 256) (a := 21 / 10) (b := 1 / 16) (by grind) (by grind) (by grind) (by grind)
      obtain ⟨a, va, ra⟩ := vl_mul vW vh (fin1000 (by grind) (by grind))
      have n1 := rnd_abs ra (21 / 160) (by grind) (by grind)
      obtain ⟨r, vr, rr⟩ := vl_add vZ va (fin1000 (by grind) (by grind))
      have n2 := rnd_abs rr (825 / 100) (by grind) (by grind)
      have key : w * ((m : Rat) / 256) = (m : Rat) / 256 * v + (w - v) * ((m : Rat) / 256) := by grind
      refine ⟨r, vr, ?_, ?_⟩ <;> grind
    obtain ⟨x', vx', a1, a2⟩ := st vc pb.1.1 pb.1.2 c1 c2 vx ex.1 ex.2 (by grind) (by grind)
    obtain ⟨y', vy', a3, a4⟩ := st vs pb.2.1 pb.2.2 s1 s2 vy ey.1 ey.2 (by grind) (by grind)
    exact ⟨x', y', vx', vy', ⟨a1, a2⟩, ⟨a3, a4⟩⟩
end
end Go.Ab
/- Spirals without bends, and with even ones: what FnSpirals asks of them. No conditions. -/
namespace Go.Ab
open Go.Proofs

theorem vl_round : Vl .f32 (fv .f32 1086918619) (13176795 / 2097152) := Vl.c (by decide +kernel)
theorem turn0_vl {s l : FV} {σ q : Rat} (hs : Vl .f32 s σ) (hl : Vl .f32 l q) (s0 : 0 ≤ σ ∧ σ ≤ 2) (l0 : 0 ≤ q ∧ q ≤ 4) : ∃ τ, Vl .f32 (turnF s (fv .f32 0) l) τ ∧ -(1 / 1000000) ≤ τ - σ * q * (2097152 / 13176795) ∧ τ - σ * q * (2097152 / 13176795) ≤ 1 / 1000000 := by
  have b1 := mul_bnd (p := σ) (q := q) (a := 2) (b := 4) (by grind) s0.2 (by grind) l0.2
  have b0 := Rat.mul_nonneg s0.1 l0.1
  obtain ⟨a, va, ra⟩ := vl_mul hs hl (fin1000 (by grind) (by grind))
  have n1 := rnd_abs ra 8 (by grind) (by grind)
  have v5 : Vl .f32 h5 (1 / 2) := Vl.c (by decide +kernel)
  have v0 : Vl .f32 (fv .f32 0) 0 := Vl.c (by decide +kernel)
  have z1 := zero_mul_ex (zero_mul_ex (mul_zero_ex v5 v0) hl) hl
  have vad := add_zero_ex va z1 (fin1000 (by grind) (by grind))
  have hF : (13176795 / 2097152 : Rat) ≠ 0 := by decide +kernel
  have e : a / (13176795 / 2097152 : Rat) = a * (2097152 / 13176795) := by grind
  have p126 : (1000 : Rat) ≤ p2 (ftop .f32 - 1) := by decide +kernel
  obtain ⟨τ, vτ, rτ⟩ := vl_div vad vl_round hF (by rw [e]; constructor <;> grind)
  rw [e] at rτ
  have n2 := rnd_abs rτ 2 (by grind) (by grind)
  refine ⟨τ, vτ, ?_, ?_⟩ <;> grind
section
variable {b m : Nat}
theorem quarterF_vl {n : Nat} (h : n ≤ 100) : Vl .f32 (quarterF n) ((n : Rat) / 4) := quarter_vl (x := (n : Int)) (by omega)
theorem nat_bd {n a c : Nat} (h : a ≤ n ∧ n ≤ c) : (a : Rat) ≤ (n : Rat) ∧ (n : Rat) ≤ (c : Rat) := ⟨Rat.natCast_le_natCast.2 h.1, Rat.natCast_le_natCast.2 h.2⟩
theorem pos_fin {x : FV} {q : Rat} (h : Vl .f32 x q) (hq : 0 < q) : aboveB x = true := by
  have v0 : Vl .f32 (fv .f32 0) 0 := Vl.c (by decide +kernel)
  have h1 : finB x = true := vl_fin h
  unfold aboveB
  rw [h1, vl_gtr h v0, decide_eq_true hq]
  rfl
theorem arc_ok (hb : 1 ≤ b ∧ b ≤ 8) (hm : 1 ≤ m ∧ m ≤ 16) : okS (quarterF b) (fv .f32 0) (quarterF m) 64 = true ∧ spOk (quarterF b) (fv .f32 0) (quarterF m) 64 = true := by
  have b8 := nat_bd hb
  have m16 := nat_bd hm
  have h1 : finB (quarterF b) = true := vl_fin (quarterF_vl (by omega))
  have h2 : aboveB (quarterF m) = true := pos_fin (quarterF_vl (by omega)) (by grind)
  have h3 : finB (fv .f32 0) = true := by decide +kernel
  obtain ⟨τ, vτ, _⟩ := turn0_vl (quarterF_vl (n := b) (by omega)) (quarterF_vl (n := m) (by omega)) (by constructor <;> grind) (by constructor <;> grind)
  refine ⟨by unfold okS; rw [h1, h2, h3]; rfl, ?_⟩
  unfold spOk
  have h4 : finB (turnF (quarterF b) (fv .f32 0) (quarterF m)) = true := vl_fin vτ
  rw [h4, Bool.and_true, List.all_eq_true]
  intro p hp
  unfold tabC at hp
  rw [List.mem_map] at hp
  obtain ⟨k, hk, rfl⟩ := hp
  have hk' : k ≤ 64 := by have := List.mem_range.1 hk; omega
  obtain ⟨x, y, vx, vy, _⟩ := arc_vl hb hm (R := 4 / (b : Rat)) (Rat.div_mul_cancel (by grind)) k hk'
  have f1 : finB (spZ (quarterF b) (fv .f32 0) (stepF (quarterF m) ((64 : Nat) : Int)) k).1 = true := vl_fin vx
  have f2 : finB (spZ (quarterF b) (fv .f32 0) (stepF (quarterF m) ((64 : Nat) : Int)) k).2 = true := vl_fin vy
  unfold finC
  rw [f1, f2]
  rfl
abbrev dA1 : FV := fv .f64 4562254508917369340
abbrev dA2 : FV := fv .f64 4581421828931458171
theorem vl_dA1 : ∃ q, Vl .f64 dA1 q ∧ 1 / 1024 ≤ q ∧ q ≤ 1 / 900 := ⟨_, Vl.c (q := 1152921504606847 / 1152921504606846976) (by decide +kernel), by decide +kernel, by decide +kernel⟩
theorem vl_dA2 : ∃ q, Vl .f64 dA2 q ∧ 199 / 10000 ≤ q ∧ q ≤ 201 / 10000 := ⟨_, Vl.c (q := 5764607523034235 / 288230376151711744) (by decide +kernel), by decide +kernel, by decide +kernel⟩
/-- The turn at the end. -/
theorem arc_turn (hb : 1 ≤ b ∧ b ≤ 8) (hm : 1 ≤ m ∧ m ≤ 16) : cmpB .gtr (fcmp .f64 (gapF (fconv .f32 .f64 (turnF (quarterF b) (fv .f32 0) (quarterF m))) (fbin .quo .f64 (fbin .mul .f64 (fconv .f32 .f64 (quarterF b)) (fconv .f32 .f64 (quarterF m))) (fv .f64 4618760256396512830))) dA1) = false := by
  have b8 := nat_bd hb
  have m16 := nat_bd hm
  have vb := quarterF_vl (n := b) (by omega)
  have vm := quarterF_vl (n := m) (by omega)
  obtain ⟨τ, vτ, t1, t2⟩ := turn0_vl vb vm (by constructor <;> grind) (by constructor <;> grind)
  have bb := mul_bnd (p := (b : Rat) / 4) (q := (m : Rat) / 4) (a := 2) (b := 4) (by grind) (by grind) (by grind) (by grind)
  obtain ⟨a, va, ra⟩ := vl_mul (vl_wide vb) (vl_wide vm) (fit16 (by grind) (by grind))
  have n1 := near64 ra (by grind) (by grind)
  have vF : Vl .f64 (fv .f64 4618760256396512830) (3537118984562463 / 562949953421312) := Vl.c (by decide +kernel)
  have e : a / (3537118984562463 / 562949953421312 : Rat) = a * (562949953421312 / 3537118984562463) := by grind
  have p126 : (1000 : Rat) ≤ p2 (ftop .f64 - 1) := by decide +kernel
  obtain ⟨d, vd, rd⟩ := vl_div va vF (by decide +kernel) (by rw [e]; constructor <;> grind)
  rw [e] at rd
  have n2 := near64 rd (by grind) (by grind)
  obtain ⟨q, hq, q1, _⟩ := vl_dA1
  exact gap_le (vl_wide vτ) vd hq (B := 1 / 1024) (.inl ⟨1, -10, by decide, by decide, by decide +kernel⟩) (by decide +kernel) (by grind) (by grind) q1
/-- Points of an arc are as far from the middle as they should. -/
theorem arc_at (hb : 1 ≤ b ∧ b ≤ 8) (hm : 1 ≤ m ∧ m ≤ 16) {k : Nat} (hk : k ≤ 64) :
    let p := spZ (quarterF b) (fv .f32 0) (stepF (quarterF m) 64) k
    let x := fbin .sub .f32 p.1 (fv .f32 0)
    let y := fbin .sub .f32 p.2 (fbin .quo .f32 (fv .f32 1065353216) (quarterF b))
    ConvOk .f64 .f32 (fsqrt (powF x y)) ∧ cmpB .gtr (fcmp .f64 (gapF (fconv .f32 .f64 (longF x y)) (fbin .quo .f64 (fv .f64 4607182418800017408) (fconv .f32 .f64 (quarterF b)))) dA2) = false := by
  intro p x y
  have b8 := nat_bd hb
  have vb := quarterF_vl (n := b) (by omega)
  have hR : 4 / (b : Rat) * (b : Rat) = 4 := Rat.div_mul_cancel (by grind)
  generalize hRe : 4 / (b : Rat) = R at *
  obtain ⟨u, v, vu, vv, eu, ev⟩ := arc_vl hb hm hR k hk
  have hgo := goA_out 64 0 (goB_all hb hm)
  have hn := nearC_le hb hR (hgo.1 k (Nat.zero_le _) (by omega))
  generalize shR (xyI b m k).1 / 256 = X at *
  generalize shR (xyI b m k).2 / 256 = Y at *
  have k64 : (k : Rat) ≤ 64 := Rat.natCast_le_natCast.2 hk
  have R4 : R ≤ 4 := by
    rcases Rat.le_total (a := R) (b := 4) with h | h
    · exact h
    · have := Rat.mul_nonneg (show 0 ≤ R - 4 by grind) (show 0 ≤ (b : Rat) - 1 by grind)
      grind
  have R0 : 0 ≤ R := by
    rcases Rat.le_total (a := 0) (b := R) with h | h
    · exact h
    · have := Rat.mul_nonneg (show 0 ≤ -R by grind) (show 0 ≤ (b : Rat) by grind)
      grind
  have R5 : 1 / 2 ≤ R := by
    have := Rat.mul_nonneg R0 (show 0 ≤ 8 - (b : Rat) by grind)
    grind
  have bX := hn.1.x
  have bY := hn.1.y
  have v0 : Vl .f32 (fv .f32 0) 0 := Vl.c (by decide +kernel)
  have v1 : Vl .f32 (fv .f32 1065353216) 1 := Vl.c (by decide +kernel)
  have w1 : Vl .f64 (fv .f64 4607182418800017408) 1 := Vl.c (by decide +kernel)
  have eR : (1 : Rat) / ((b : Rat) / 4) = R := by rw [← hRe]; grind
  have b4 : (b : Rat) / 4 ≠ 0 := by grind
  have p126 : (1000 : Rat) ≤ p2 (ftop .f32 - 1) := by decide +kernel
  have q126 : (1000 : Rat) ≤ p2 (ftop .f64 - 1) := by decide +kernel
  obtain ⟨r, vr, rr⟩ := vl_div v1 vb b4 (by rw [eR]; constructor <;> grind)
  rw [eR] at rr
  have n1 := rnd_abs rr 4 (by grind) (by grind)
  obtain ⟨r6, vr6, rr6⟩ := vl_div w1 (vl_wide vb) b4 (by rw [eR]; constructor <;> grind)
  rw [eR] at rr6
  have n6 := near64 rr6 (by grind) (by grind)
  obtain ⟨dx, vdx, rdx⟩ := vl_sub vu v0 (fin1000 (by grind) (by grind))
  have n2 := rnd_abs rdx 5 (by grind) (by grind)
  obtain ⟨dy, vdy, rdy⟩ := vl_sub vv vr (fin1000 (by grind) (by grind))
  have n3 := rnd_abs rdy 5 (by grind) (by grind)
  have ee := Le2.of_abs (x := dx - X) (y := dy - (Y - R)) (a := 1 / 10000) (b := 1 / 10000) (by grind) (by grind) (by grind) (by grind)
  have h1 := hn.1.add ee
  have ex1 : X + (dx - X) = dx := by grind
  have ey1 : Y - R + (dy - (Y - R)) = dy := by grind
  rw [ex1, ey1] at h1
  obtain ⟨L, vL, hc, L0, hup⟩ := long_up vdx vdy h1 (by grind)
  have hlo : R - 77 / 5000 ≤ L := by
    have hlen : (R - 381 / 25000) * (R - 381 / 25000) ≤ dx * dx + dy * dy := by
      rcases Rat.le_total (a := (R - 381 / 25000) * (R - 381 / 25000)) (b := dx * dx + dy * dy) with h | h
      · exact h
      · exfalso
        have h5 : Le2 dx dy (R - 381 / 25000) := ⟨by grind, h⟩
        have h6 := h5.add ee.neg
        have ex2 : dx + -(dx - X) = X := by grind
        have ey2 : dy + -(dy - (Y - R)) = Y - R := by grind
        rw [ex2, ey2] at h6
        have h7 := h6.sq
        have h8 := hn.2
        have h9 : (R - 381 / 25000 + (1 / 10000 + 1 / 10000)) * (R - 381 / 25000 + (1 / 10000 + 1 / 10000)) < (R - 3 / 200) * (R - 3 / 200) := by
          have := Rat.mul_pos (show 0 < R - 3 / 200 by grind) (show (0 : Rat) < 1 / 25000 by decide +kernel)
          grind
        grind
    have := long_lo vdx vdy (by have := h1.x; constructor <;> grind) (by have := h1.y; constructor <;> grind) (by grind) hlen vL
    grind
  refine ⟨hc, ?_⟩
  obtain ⟨q, hq, q1, _⟩ := vl_dA2
  exact gap_le (vl_wide vL) vr6 hq (B := 5 / 256) (.inl ⟨5, -8, by decide, by decide, by decide +kernel⟩) (by decide +kernel) (by grind) (by grind) (by grind)
/-- With no bend: straight ahead. -/
theorem phI_0 : (-(1 / 1000000) ≤ shR (phI 0).1 - 1 ∧ shR (phI 0).1 - 1 ≤ 1 / 1000000) ∧ (-(1 / 1000000) ≤ shR (phI 0).2 ∧ shR (phI 0).2 ≤ 1 / 1000000) := by decide +kernel
theorem line_vl {n : Nat} (hn : 1 ≤ n ∧ n ≤ 32) (hm : 1 ≤ m ∧ m ≤ 16) {q : Rat} (hq : q * (n : Rat) = (m : Rat) / 4) : ∀ k : Nat, k ≤ n → ∃ x y, Vl .f32 (spZ (fv .f32 0) (fv .f32 0) (stepF (quarterF m) (n : Int)) k).1 x ∧ Vl .f32 (spZ (fv .f32 0) (fv .f32 0) (stepF (quarterF m) (n : Int)) k).2 y ∧
    (-((k : Rat) / 80000) ≤ x - (k : Rat) * q ∧ x - (k : Rat) * q ≤ (k : Rat) / 80000) ∧ (-((k : Rat) / 80000) ≤ y ∧ y ≤ (k : Rat) / 80000)
  | 0, _ => ⟨0, 0, Vl.c (k := .f32) (b := 0) (q := 0) (by decide +kernel), Vl.c (k := .f32) (b := 0) (q := 0) (by decide +kernel), by
    rw [show ((0 : Nat) : Rat) = 0 from rfl, Rat.zero_mul]
    decide +kernel, by
    rw [show ((0 : Nat) : Rat) = 0 from rfl]
    decide +kernel⟩
  | k + 1, hk => by
    obtain ⟨x, y, vx, vy, ex, ey⟩ := line_vl hn hm hq k (by omega)
    have m16 := nat_bd hm
    have n32 := nat_bd hn
    have k32 : (k : Rat) + 1 ≤ (n : Rat) := by
      have := Rat.natCast_le_natCast.2 hk
      rw [Rat.natCast_add] at this
      exact this
    have k0 : (0 : Rat) ≤ (k : Rat) := Rat.natCast_nonneg
    have vm := quarterF_vl (n := m) (by omega)
    have vn : Vl .f32 (some (FloatKind.f32.nearest (n : Int))) (n : Rat) := vl_ofInt .f32 (n : Int) (by
      have : FloatKind.f32.format.fractionBits = 23 := rfl
      rw [this]
      omega)
    have n0 : (n : Rat) ≠ 0 := by grind
    have q0 : 0 ≤ q := by
      rcases Rat.le_total (a := 0) (b := q) with h | h
      · exact h
      · have := Rat.mul_nonneg (show 0 ≤ -q by grind) (show 0 ≤ (n : Rat) by grind)
        grind
    have q4 : q ≤ 4 := by
      rcases Rat.le_total (a := q) (b := 4) with h | h
      · exact h
      · have := Rat.mul_nonneg (show 0 ≤ q - 4 by grind) (show 0 ≤ (n : Rat) - 1 by grind)
        grind
    have kq : (k : Rat) * q ≤ 4 := by
      have := Rat.mul_le_mul_of_nonneg_right (show (k : Rat) ≤ (n : Rat) by grind) q0
      grind
    have kq0 := Rat.mul_nonneg k0 q0
    have eq1 : (m : Rat) / 4 / (n : Rat) = q := by
      rw [← hq]
      grind
    have p126 : (1000 : Rat) ≤ p2 (ftop .f32 - 1) := by decide +kernel
    obtain ⟨h, vh, rh⟩ := vl_div vm vn n0 (by rw [eq1]; constructor <;> grind)
    rw [eq1] at rh
    have nh := rnd_abs rh 4 (by grind) (by grind)
    have v0 : Vl .f32 (fv .f32 0) 0 := Vl.c (by decide +kernel)
    have vn2 : Vl .f32 (some (FloatKind.f32.nearest (k : Int))) (k : Rat) := vl_ofInt .f32 (k : Int) (by
      have : FloatKind.f32.format.fractionBits = 23 := rfl
      rw [this]
      omega)
    have v5 : Vl .f32 h5 (1 / 2) := Vl.c (by decide +kernel)
    have vh' : Vl .f32 (stepF (quarterF m) (n : Int)) h := vh
    obtain ⟨a, va, ra⟩ := vl_add vn2 v5 (fin1000 (by grind) (by grind))
    have na := rnd_abs ra 33 (by grind) (by grind)
    have bl := mul_bnd (p := a) (q := h) (a := 40) (b := 5) (by grind) (by grind) (by grind) (by grind)
    obtain ⟨l, vl1, rl⟩ := vl_mul va vh' (fin1000 (by grind) (by grind))
    have v1 := zero_mul_ex v0 vl1
    have v2 := zero_mul_ex (zero_mul_ex (mul_zero_ex v5 v0) vl1) vl1
    have v3 := add_zero_ex v1 v2 (fin1000 (by decide +kernel) (by decide +kernel))
    have v4 : Vl .f32 (turnF (fv .f32 0) (fv .f32 0) (placeF (stepF (quarterF m) (n : Int)) k)) 0 := zero_div_ex v3 vl_round (by decide +kernel)
    have vt := vl_wide v4
    rw [← shR_0] at vt
    obtain ⟨⟨c, vc, c1, c2⟩, ⟨s, vs, s1, s2⟩⟩ := phas_acc vt (Int.le_refl 0) (by decide)
    obtain ⟨⟨i1, i2⟩, ⟨i3, i4⟩⟩ := phI_0
    generalize shR (phI 0).1 = A at *
    generalize shR (phI 0).2 = B at *
    have ek : ((k + 1 : Nat) : Rat) = (k : Rat) + 1 := Rat.natCast_add k 1
    rw [ek]
    have b1 := mul_bnd (p := c - 1) (q := h) (a := 1 / 500000) (b := 5) (by grind) (by grind) (by grind) (by grind)
    have b2 := mul_bnd (p := s) (q := h) (a := 1 / 500000) (b := 41 / 10) (by grind) (by grind) (by grind) (by grind)
    have b1' := mul_bnd (p := c - 1) (q := h) (a := 1 / 500000) (b := 41 / 10) (by grind) (by grind) (by grind) (by grind)
    have eC : c * h = h + (c - 1) * h := by grind
    obtain ⟨X, vX, rX⟩ := vl_mul vc vh' (fin1000 (by rw [eC]; grind) (by rw [eC]; grind))
    have nX := rnd_abs rX (42 / 10) (by rw [eC]; grind) (by rw [eC]; grind)
    obtain ⟨Y, vY, rY⟩ := vl_mul vs vh' (fin1000 (by grind) (by grind))
    have nY := rnd_abs rY (1 / 1000) (by grind) (by grind)
    obtain ⟨x', vx', rx'⟩ := vl_add vx vX (fin1000 (by grind) (by grind))
    have nx := rnd_abs rx' (85 / 10) (by grind) (by grind)
    obtain ⟨y', vy', ry'⟩ := vl_add vy vY (fin1000 (by grind) (by grind))
    have ny := rnd_abs ry' (1 / 1000) (by grind) (by grind)
    exact ⟨x', y', vx', vy', by constructor <;> grind, by constructor <;> grind⟩
theorem line_ok {n : Nat} (hn : 1 ≤ n ∧ n ≤ 32) (hm : 1 ≤ m ∧ m ≤ 16) : okS (fv .f32 0) (fv .f32 0) (quarterF m) (n : Int) = true ∧ spOk (fv .f32 0) (fv .f32 0) (quarterF m) n = true ∧ cmpB .eql (fcmp .f32 (turnF (fv .f32 0) (fv .f32 0) (quarterF m)) (fv .f32 0)) = true := by
  have m16 := nat_bd hm
  have n32 := nat_bd hn
  have vm := quarterF_vl (n := m) (by omega)
  have h2 : aboveB (quarterF m) = true := pos_fin vm (by grind)
  have h3 : finB (fv .f32 0) = true := by decide +kernel
  have v0 : Vl .f32 (fv .f32 0) 0 := Vl.c (by decide +kernel)
  have v5 : Vl .f32 h5 (1 / 2) := Vl.c (by decide +kernel)
  have v1 := zero_mul_ex v0 vm
  have v2 := zero_mul_ex (zero_mul_ex (mul_zero_ex v5 v0) vm) vm
  have v3 := add_zero_ex v1 v2 (fin1000 (by decide +kernel) (by decide +kernel))
  have v4 : Vl .f32 (turnF (fv .f32 0) (fv .f32 0) (quarterF m)) 0 := zero_div_ex v3 vl_round (by decide +kernel)
  refine ⟨?_, ?_, ?_⟩
  · unfold okS
    rw [h2, h3, decide_eq_true (by omega), decide_eq_true (by omega)]
    rfl
  · unfold spOk
    have h4 : finB (turnF (fv .f32 0) (fv .f32 0) (quarterF m)) = true := vl_fin v4
    rw [h4, Bool.and_true, List.all_eq_true]
    intro p hp
    unfold tabC at hp
    rw [List.mem_map] at hp
    obtain ⟨k, hk, rfl⟩ := hp
    have hk' : k ≤ n := by have := List.mem_range.1 hk; omega
    obtain ⟨x, y, vx, vy, _⟩ := line_vl hn hm (q := (m : Rat) / 4 / (n : Rat)) (Rat.div_mul_cancel (by grind)) k hk'
    have f1 : finB (spZ (fv .f32 0) (fv .f32 0) (stepF (quarterF m) (n : Int)) k).1 = true := vl_fin vx
    have f2 : finB (spZ (fv .f32 0) (fv .f32 0) (stepF (quarterF m) (n : Int)) k).2 = true := vl_fin vy
    unfold finC
    rw [f1, f2]
    rfl
  · rw [vl_eql v4 v0]
    rfl
/-- The end of a line. -/
theorem line_end {n : Nat} (hn : 1 ≤ n ∧ n ≤ 32) (hm : 1 ≤ m ∧ m ≤ 16) :
    let p := spZ (fv .f32 0) (fv .f32 0) (stepF (quarterF m) (n : Int)) n
    let x := fbin .sub .f32 p.1 (quarterF m)
    let y := fbin .sub .f32 p.2 (fv .f32 0)
    ConvOk .f64 .f32 (fsqrt (powF x y)) ∧ cmpB .gtr (fcmp .f64 (fconv .f32 .f64 (longF x y)) dA1) = false := by
  intro p x y
  have m16 := nat_bd hm
  have n32 := nat_bd hn
  have vm := quarterF_vl (n := m) (by omega)
  have v0 : Vl .f32 (fv .f32 0) 0 := Vl.c (by decide +kernel)
  have hq : (m : Rat) / 4 / (n : Rat) * (n : Rat) = (m : Rat) / 4 := Rat.div_mul_cancel (by grind)
  obtain ⟨u, v, vu, vv, eu, ev⟩ := line_vl hn hm hq n (Nat.le_refl _)
  rw [Rat.mul_comm, hq] at eu
  obtain ⟨dx, vdx, rdx⟩ := vl_sub vu vm (fin1000 (by grind) (by grind))
  have n2 := rnd_abs rdx (1 / 1000) (by grind) (by grind)
  obtain ⟨dy, vdy, rdy⟩ := vl_sub vv v0 (fin1000 (by grind) (by grind))
  have n3 := rnd_abs rdy (1 / 1000) (by grind) (by grind)
  have ee := Le2.of_abs (x := dx) (y := dy) (a := 9 / 20000) (b := 9 / 20000) (by grind) (by grind) (by grind) (by grind)
  obtain ⟨L, vL, hc, L0, hup⟩ := long_up vdx vdy ee (by decide +kernel)
  refine ⟨hc, ?_⟩
  obtain ⟨q, hq, q1, _⟩ := vl_dA1
  rw [vl_gtr (vl_wide vL) hq]
  exact decide_eq_false (Rat.not_lt.2 (by grind))
end
end Go.Ab
