/- Numbers scaled by powers of two are rounded alike; a half is a half; a root fits. No conditions. -/
import Derived.Test.YtljgokghchhjaaaFc
namespace Go.Ab

theorem log2_pow {m : Nat} (hm : m ≠ 0) (k : Nat) : (m * 2 ^ k).log2 = m.log2 + k := by
  have hp : 0 < 2 ^ k := Nat.two_pow_pos k
  have hne : m * 2 ^ k ≠ 0 := Nat.mul_ne_zero hm (by omega)
  apply Nat.le_antisymm
  · have : m * 2 ^ k < 2 ^ (m.log2 + 1 + k) := by
      rw [Nat.pow_add]
      exact Nat.mul_lt_mul_of_pos_right Nat.lt_log2_self hp
    have := (Nat.log2_lt hne).2 this
    omega
  · apply (Nat.le_log2 hne).2
    rw [Nat.pow_add]
    exact Nat.mul_le_mul_right _ (Nat.log2_self_le hm)

theorem cut_scale (neg : Bool) {m : Nat} (hm : m ≠ 0) (d k : Nat) : Ieee.Toward.even.cut neg (m * 2 ^ k) (d + k) = Ieee.Toward.even.cut neg m d := by
  unfold Ieee.Toward.cut
  have hg : min (d + k) ((m * 2 ^ k).log2 + 2) = min d (m.log2 + 2) + k := by rw [log2_pow hm]; omega
  simp only [hg, Nat.one_shiftLeft, Nat.pow_add]
  have hG : 0 < 2 ^ min d (m.log2 + 2) := Nat.two_pow_pos _
  have hK : 0 < 2 ^ k := Nat.two_pow_pos _
  generalize 2 ^ min d (m.log2 + 2) = G at *
  generalize 2 ^ k = K at *
  rw [Nat.mul_div_mul_right _ _ hK, Nat.mul_mod_mul_right]
  have e1 : (G * K < 2 * (m % G * K)) = (G < 2 * (m % G)) := by
    rw [← Nat.mul_assoc]
    exact propext ⟨fun h => Nat.lt_of_mul_lt_mul_right h, fun h => Nat.mul_lt_mul_of_pos_right h hK⟩
  have e2 : (G * K == 2 * (m % G * K)) = (G == 2 * (m % G)) := by
    rw [← Nat.mul_assoc, Bool.eq_iff_iff, beq_iff_eq, beq_iff_eq]
    exact ⟨fun h => Nat.eq_of_mul_eq_mul_right hK h, fun h => congrArg (· * K) h⟩
  simp only [e1, e2]

theorem nearest_scale (f : Ieee.Format) (neg : Bool) (m k : Nat) (e : Int) : f.nearest neg (m * 2 ^ k) e = f.nearest neg m (e + k) := by
  by_cases hm : m = 0
  · subst hm; unfold Ieee.Format.nearest; simp
  have hne : m * 2 ^ k ≠ 0 := Nat.mul_ne_zero hm (Nat.pos_iff_ne_zero.1 (Nat.two_pow_pos k))
  unfold Ieee.Format.nearest
  rw [if_neg hm, if_neg hne]
  have hl : max (e + (m * 2 ^ k).log2 - f.fractionBits) f.leastPlace = max (e + k + m.log2 - f.fractionBits) f.leastPlace := by rw [log2_pow hm]; omega
  rw [hl]
  generalize max (e + k + m.log2 - f.fractionBits) f.leastPlace = last
  dsimp only
  congr 3
  rcases Int.le_total last e with h1 | h1
  · have a1 : (e - last).toNat + k = (e + k - last).toNat := by omega
    have a2 : (last - e).toNat = 0 := by omega
    have a3 : (last - (e + k)).toNat = 0 := by omega
    rw [a2, a3, cut_zero, cut_zero, ← a1, Nat.shiftLeft_eq, Nat.shiftLeft_eq, Nat.pow_add, Nat.mul_assoc, Nat.mul_comm (2 ^ k)]
  · rcases Int.le_total (e + k) last with h2 | h2
    · have a1 : (e - last).toNat = 0 := by omega
      have a2 : (e + k - last).toNat = 0 := by omega
      have a3 : (last - e).toNat = (last - (e + k)).toNat + k := by omega
      rw [a1, a2, a3, Nat.shiftLeft_zero, Nat.shiftLeft_zero, cut_scale neg hm]
    · have a1 : (e - last).toNat = 0 := by omega
      have a2 : (last - (e + k)).toNat = 0 := by omega
      have a3 : k = (e + k - last).toNat + (last - e).toNat := by omega
      have hm' : m * 2 ^ (e + k - last).toNat ≠ 0 := Nat.mul_ne_zero hm (Nat.pos_iff_ne_zero.1 (Nat.two_pow_pos _))
      have h := cut_scale neg hm' 0 (last - e).toNat
      rw [Nat.zero_add, Nat.mul_assoc, ← Nat.pow_add, ← a3] at h
      rw [a1, a2, Nat.shiftLeft_zero, Nat.shiftLeft_eq, h]

/-- Half of a number is the number times one half. -/
theorem half_eq (x : FV) : fbin .quo .f32 x (fv .f32 1073741824) = fbin .mul .f32 (fv .f32 1056964608) x := by
  have h2 : fv .f32 1073741824 = some 1073741824 := by decide +kernel
  have h5 : fv .f32 1056964608 = some 1056964608 := by decide +kernel
  rw [h2, h5]
  cases x with
  | none => rfl
  | some b =>
    show FloatKind.f32.format.div b 1073741824 = FloatKind.f32.format.mul 1056964608 b
    have r2 : FloatKind.f32.format.read 1073741824 = .number false 8388608 (-22) := by decide +kernel
    have r5 : FloatKind.f32.format.read 1056964608 = .number false 8388608 (-24) := by decide +kernel
    unfold Ieee.Format.div Ieee.Format.mul
    rw [r2, r5]
    cases hb : FloatKind.f32.format.read b with
    | nan s t => rfl
    | infinity s => cases s <;> rfl
    | number s m i =>
      obtain ⟨hm, _, _⟩ := single_number hb
      have hfb : FloatKind.f32.format.fractionBits + 2 = 25 := rfl
      simp only [Ieee.Datum.quotient, Ieee.Datum.product, hfb, if_neg (by decide : ¬ (8388608 : Nat) = 0), Option.map_some, Option.some.injEq, Ieee.Format.write, Bool.xor_false, Bool.false_xor]
      have hlog : Nat.log2 8388608 = 23 := by decide +kernel
      rw [hlog]
      by_cases h0 : m = 0
      · subst h0; simp [Ieee.Format.nearest]
      have hl : m.log2 ≤ 23 := log2_le_of_lt h0 hm
      generalize hmore : 25 + 23 - m.log2 = more
      have hm25 : 25 ≤ more := by omega
      have hp : (8388608 : Nat) = 2 ^ 23 := by decide
      have hsplit : m <<< more = m * 2 ^ (more - 23) * 2 ^ 23 := by
        rw [Nat.shiftLeft_eq, Nat.mul_assoc, ← Nat.pow_add]
        congr 2; omega
      have hdiv : m <<< more / 8388608 = m * 2 ^ (more - 23) := by rw [hsplit, hp, Nat.mul_div_cancel _ (by decide)]
      have hmod : m <<< more % 8388608 = 0 := by rw [hsplit, hp, Nat.mul_mod_left]
      rw [hdiv, hmod]
      have e1 : 2 * (m * 2 ^ (more - 23)) + ((0 : Nat) != 0).toNat = m * 2 ^ (more - 22) := by
        have : more - 22 = (more - 23) + 1 := by omega
        rw [this, Nat.pow_succ]
        simp only [bne_self_eq_false, Bool.toNat_false, Nat.add_zero]
        rw [Nat.mul_comm 2, Nat.mul_assoc]
      have e2 : 8388608 * m = m * 2 ^ 23 := by rw [hp, Nat.mul_comm]
      rw [e1, e2, nearest_scale, nearest_scale]
      congr 1
      have : ((more - 22 : Nat) : Int) = (more : Int) - 22 := by omega
      rw [this]
      omega
/-! How great a number is. -/
theorem cut_le (neg : Bool) (n d b : Nat) (h : n < 2 ^ (b + 1 + d)) : Ieee.Toward.even.cut neg n d ≤ 2 ^ (b + 1) := by
  unfold Ieee.Toward.cut
  dsimp only
  have hx : ∀ x : Bool, x.toNat ≤ 1 := fun x => by cases x <;> simp
  have hp : 0 < 2 ^ (b + 1) := Nat.two_pow_pos _
  refine Nat.le_trans (Nat.add_le_add_left (hx _) _) ?_
  rw [Nat.one_shiftLeft]
  rcases Nat.le_total d (n.log2 + 2) with hm | hm
  · rw [Nat.min_eq_left hm]
    have : n / 2 ^ d < 2 ^ (b + 1) := by
      rw [Nat.div_lt_iff_lt_mul (Nat.two_pow_pos _), ← Nat.pow_add]
      exact h
    omega
  · rw [Nat.min_eq_right hm]
    have : n / 2 ^ (n.log2 + 2) = 0 := Nat.div_eq_of_lt (Nat.lt_of_lt_of_le Nat.lt_log2_self (Nat.pow_le_pow_right (by decide) (by omega)))
    omega

theorem nearest_lo (f : Ieee.Format) (s : Bool) (m : Nat) (e k : Int) (hk : m = 0 ∨ (m.log2 : Int) + e ≤ k) (hlo : f.leastPlace + f.fractionBits ≤ k) (hhi : k - f.fractionBits - f.leastPlace + 2 < 2 ^ f.exponentBits - 1) :
    ∃ s' m' e', f.read (f.nearest s m e) = .number s' m' e' ∧ (m' = 0 ∨ (m'.log2 : Int) + e' ≤ k + 1) := by
  have key : ∀ rung : Nat, (rung : Int) ≤ (k - f.fractionBits - f.leastPlace + 2) * 2 ^ f.fractionBits → ∃ s' m' e', f.read (f.word s rung) = .number s' m' e' ∧ (m' = 0 ∨ (m'.log2 : Int) + e' ≤ k + 1) := by
    intro rung hr
    have hb : f.binade = 2 ^ f.fractionBits := rfl
    have hB : 0 < 2 ^ f.fractionBits := Nat.two_pow_pos _
    have hi : (f.infRung : Int) = (2 ^ f.exponentBits - 1) * 2 ^ f.fractionBits := by
      unfold Ieee.Format.infRung
      rw [hb]
      have : 1 ≤ 2 ^ f.exponentBits := Nat.one_le_two_pow
      push_cast [Int.natCast_sub this]
      rfl
    have hlt : rung < f.infRung := by
      have h1 : (k - f.fractionBits - f.leastPlace + 2) * 2 ^ f.fractionBits < (2 ^ f.exponentBits - 1) * 2 ^ f.fractionBits := Int.mul_lt_mul_of_pos_right hhi (by exact_mod_cast hB)
      have : (rung : Int) < f.infRung := by rw [hi]; omega
      exact_mod_cast this
    have hsw : rung < f.signWeight := Nat.lt_trans hlt f.infRung_lt
    unfold Ieee.Format.read
    simp only [word_mod f s hsw]
    by_cases h1 : rung < f.binade
    · rw [if_pos h1]
      refine ⟨_, _, _, rfl, ?_⟩
      by_cases h0 : rung = 0
      · exact .inl h0
      · right
        have : rung.log2 < f.fractionBits := (Nat.log2_lt h0).2 h1
        omega
    · rw [if_neg h1, if_pos hlt]
      refine ⟨_, _, _, rfl, .inr ?_⟩
      have hmod : rung % f.binade < f.binade := Nat.mod_lt _ (by rw [hb]; exact hB)
      have hl : (f.binade + rung % f.binade).log2 = f.fractionBits := by
        apply Nat.le_antisymm
        · have : (f.binade + rung % f.binade).log2 < f.fractionBits + 1 := (Nat.log2_lt (by omega)).2 (by rw [Nat.pow_succ, ← hb]; omega)
          omega
        · exact (Nat.le_log2 (by rw [hb]; omega)).2 (by rw [hb]; omega)
      rw [hl]
      have hq : ((rung / f.binade : Nat) : Int) ≤ k - f.fractionBits - f.leastPlace + 2 := by
        have h2 : (rung / f.binade) * f.binade ≤ rung := Nat.div_mul_le_self _ _
        have h3 : ((rung / f.binade : Nat) : Int) * 2 ^ f.fractionBits ≤ (k - f.fractionBits - f.leastPlace + 2) * 2 ^ f.fractionBits := by
          refine Int.le_trans ?_ hr
          rw [hb] at h2
          exact_mod_cast h2
        exact Int.le_of_mul_le_mul_right h3 (by exact_mod_cast hB)
      have hq1 : 1 ≤ rung / f.binade := (Nat.le_div_iff_mul_le (by rw [hb]; exact hB)).2 (by omega)
      have : ((rung / f.binade - 1 : Nat) : Int) = ((rung / f.binade : Nat) : Int) - 1 := by omega
      rw [this]
      omega
  unfold Ieee.Format.nearest
  by_cases hm : m = 0
  · rw [if_pos hm]
    refine key 0 ?_
    have : (0 : Int) ≤ (k - f.fractionBits - f.leastPlace + 2) * 2 ^ f.fractionBits := Int.mul_nonneg (by omega) (Int.le_of_lt (by exact_mod_cast Nat.two_pow_pos f.fractionBits))
    exact_mod_cast this
  rw [if_neg hm]
  dsimp only
  have hk' : (m.log2 : Int) + e ≤ k := hk.resolve_left hm
  have hlast : max (e + m.log2 - f.fractionBits) f.leastPlace ≤ k - f.fractionBits := by omega
  have hlast2 : e + m.log2 - f.fractionBits ≤ max (e + m.log2 - f.fractionBits) f.leastPlace := Int.le_max_left _ _
  have hlast3 : f.leastPlace ≤ max (e + m.log2 - f.fractionBits) f.leastPlace := Int.le_max_right _ _
  generalize max (e + (m.log2 : Int) - f.fractionBits) f.leastPlace = last at *
  have hcut : Ieee.Toward.even.cut s (m <<< (e - last).toNat) (last - e).toNat ≤ 2 ^ (f.fractionBits + 1) := by
    refine cut_le _ _ _ _ ?_
    rw [Nat.shiftLeft_eq]
    have h1 : m < 2 ^ (m.log2 + 1) := Nat.lt_log2_self
    have h2 : m * 2 ^ (e - last).toNat < 2 ^ (m.log2 + 1) * 2 ^ (e - last).toNat := Nat.mul_lt_mul_of_pos_right h1 (Nat.two_pow_pos _)
    rw [← Nat.pow_add] at h2
    exact Nat.lt_of_lt_of_le h2 (Nat.pow_le_pow_right (by decide) (by omega))
  generalize Ieee.Toward.even.cut s (m <<< (e - last).toNat) (last - e).toNat = kept at *
  refine key _ (Int.le_trans (Int.ofNat_le.2 (Nat.min_le_left _ _)) ?_)
  have hb : f.binade = 2 ^ f.fractionBits := rfl
  rw [hb]
  have h1 : (((last - f.leastPlace).toNat * 2 ^ f.fractionBits + kept : Nat) : Int) ≤ (last - f.leastPlace + 2) * 2 ^ f.fractionBits := by
    have e1 : (((last - f.leastPlace).toNat : Nat) : Int) = last - f.leastPlace := by omega
    rw [Int.natCast_add, Int.natCast_mul, e1, Int.add_mul]
    refine Int.add_le_add_left ?_ _
    rw [Nat.pow_succ, Nat.mul_comm] at hcut
    exact_mod_cast hcut
  refine Int.le_trans h1 (Int.mul_le_mul_of_nonneg_right (by omega) (Int.le_of_lt (by exact_mod_cast Nat.two_pow_pos f.fractionBits)))

/-- An infinity, or not too great. -/
def LoI (fk : FloatKind) (k : Int) (x : FV) : Prop := ∀ b, x = some b → (∃ s, fk.decode b = .infinity s) ∨ ∃ s m e, fk.decode b = .number s m e ∧ (m = 0 ∨ (m.log2 : Int) + e ≤ k)
theorem read_inf (fk : FloatKind) (s : Bool) : ∃ s', fk.decode (fk.encode (.infinity s)) = .infinity s' := by
  refine ⟨s, ?_⟩
  cases fk <;> cases s <;> decide +kernel
theorem LoI.mono {fk : FloatKind} {k k' : Int} {x : FV} (h : LoI fk k x) (hk : k ≤ k') : LoI fk k' x := fun b hb => (h b hb).imp id fun ⟨s, m, e, hd, hm⟩ => ⟨s, m, e, hd, hm.imp id fun h => by omega⟩
theorem loi_wide (x : FV) : LoI .f64 128 (fconv .f32 .f64 x) := by
  intro b hb
  cases x with
  | none => cases hb
  | some a =>
    simp only [fconv, Option.bind_some, floatToFloatBits, if_neg (by decide : ¬ FloatKind.f32 = FloatKind.f64)] at hb
    cases hd : FloatKind.f32.decode a with
    | nan s t => rw [hd] at hb; cases hb
    | infinity s => rw [hd] at hb; cases hb; exact .inl (read_inf .f64 s)
    | number s m e =>
      rw [hd] at hb
      simp only at hb
      split at hb
      · cases hb
      · cases hb
        right
        obtain ⟨h1, _, h3⟩ := single_number hd
        have hl : m = 0 ∨ (m.log2 : Int) + e ≤ 127 := by
          by_cases h0 : m = 0
          · exact .inl h0
          · have := log2_le_of_lt (k := 23) h0 h1
            right; omega
        exact nearest_lo Ieee.double s m e 127 hl (by decide) (by decide)
theorem loi_narrow {k : Int} {x : FV} (h : LoI .f64 k x) (hk : k ≤ 120) : ConvOk .f64 .f32 x := by
  cases x with
  | none => exact .inl rfl
  | some b =>
    right
    simp only [fconv, Option.bind_some, floatToFloatBits, if_neg (by decide : ¬ FloatKind.f64 = FloatKind.f32)]
    rcases h b rfl with ⟨s, hd⟩ | ⟨s, m, e, hd, hm⟩
    · rw [hd]; simp
    · rw [hd]
      obtain ⟨s', m', e', hr, _⟩ := nearest_lo Ieee.single s m e 120 (hm.imp id fun h => by omega) (by decide) (by decide)
      have : (FloatKind.f32.decode (FloatKind.f32.encode (.number s m e))).isInfinity = false := by
        have hr' : FloatKind.f32.decode (FloatKind.f32.encode (.number s m e)) = .number s' m' e' := hr
        rw [hr']; rfl
      simp [this]

/-! Roots. -/
def fsqrt (x : FV) : FV := x.bind fun b => FloatKind.f64.format.sqrt b
theorem rootFrom_lt (n : Nat) : ∀ (todo root : Nat), Ieee.Datum.rootFrom n todo root < root + 2 ^ todo
  | 0, root => by simp [Ieee.Datum.rootFrom]
  | todo + 1, root => by
    unfold Ieee.Datum.rootFrom
    have h1 := rootFrom_lt n todo
    have hp : 2 ^ (todo + 1) = 2 ^ todo + 2 ^ todo := by rw [Nat.pow_succ]; omega
    have h0 := Nat.two_pow_pos todo
    rw [Nat.one_shiftLeft]
    dsimp only
    split
    · have := h1 (root + 2 ^ todo); omega
    · have := h1 root; omega
theorem loi_sqrt {x : FV} (h : LoI .f64 128 x) : LoI .f64 68 (fsqrt x) := by
  intro r hr
  cases x with
  | none => cases hr
  | some b =>
    simp only [fsqrt, Option.bind_some, Ieee.Format.sqrt] at hr
    rcases h b rfl with ⟨s, hd⟩ | ⟨s, m, i, hd, hm⟩
    · have hd' : FloatKind.f64.format.read b = .infinity s := hd
      rw [hd'] at hr
      cases s with
      | true => cases hr
      | false => cases hr; exact .inl (read_inf .f64 false)
    · have hd' : FloatKind.f64.format.read b = .number s m i := hd
      rw [hd'] at hr
      simp only [Ieee.Datum.root] at hr
      by_cases h0 : m = 0
      · rw [if_pos h0] at hr
        cases hr
        right
        subst h0
        obtain ⟨s', m', e', h1, h2⟩ := nearest_lo Ieee.double s 0 i 67 (.inl rfl) (by decide) (by decide)
        exact ⟨s', m', e', h1, h2⟩
      · rw [if_neg h0] at hr
        cases s with
        | true => cases hr
        | false =>
          simp only [Bool.false_eq_true, if_false, Option.map_some, Option.some.injEq] at hr
          have hk : (m.log2 : Int) + i ≤ 128 := hm.resolve_left h0
          generalize hmore : 2 * (FloatKind.f64.format.fractionBits + 2) - m.log2 + ((i - ((2 * (FloatKind.f64.format.fractionBits + 2) - m.log2 : Nat) : Int)) % 2).toNat = more at hr
          have hw := rootFrom_lt (m <<< more) ((m <<< more).log2 / 2 + 1) 0
          generalize Ieee.Datum.rootFrom (m <<< more) ((m <<< more).log2 / 2 + 1) 0 = whole at *
          have hlog : (m <<< more).log2 = m.log2 + more := by rw [Nat.shiftLeft_eq, log2_pow h0]
          rw [hlog] at hw
          right
          have hb1 : ∀ x : Bool, x.toNat ≤ 1 := fun x => by cases x <;> simp
          have hmag : 2 * whole + (whole * whole != m <<< more).toNat < 2 ^ ((m.log2 + more) / 2 + 2) := by
            have := hb1 (whole * whole != m <<< more)
            have hp : 2 ^ ((m.log2 + more) / 2 + 2) = 2 * 2 ^ ((m.log2 + more) / 2 + 1) := by rw [Nat.pow_succ 2 ((m.log2 + more) / 2 + 1)]; omega
            omega
          generalize 2 * whole + (whole * whole != m <<< more).toNat = mag at *
          obtain ⟨s', m', e', h1, h2⟩ := nearest_lo Ieee.double false mag ((i - more) / 2 - 1) 67 (by
            by_cases hz : mag = 0
            · exact .inl hz
            · right
              have : mag.log2 < (m.log2 + more) / 2 + 2 := (Nat.log2_lt hz).2 hmag
              omega) (by decide) (by decide)
          refine ⟨s', m', e', ?_, h2⟩
          rw [← hr]
          exact h1
end Go.Ab
