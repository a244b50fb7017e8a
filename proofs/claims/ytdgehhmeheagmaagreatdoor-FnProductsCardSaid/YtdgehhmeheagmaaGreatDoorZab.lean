/- Part 2 of the texts on which the law leans, joined: A slice's literal of one-cell elements, in a frame that is known: what it reads as. No conditions. -/
import Derived.KernelRfl
import Derived.Great.BuildSlice
import Derived.Test.YtdgehhmeheagmaaGreatDoorZaa
namespace Go.Ab
theorem log2_pow {m : Nat} (hm : m ≠ 0) (k : Nat) : (m * 2 ^ k).log2 = m.log2 + k := by
  have hp : 0 < 2 ^ k := Nat.two_pow_pos k
  have hne : m * 2 ^ k ≠ 0 := Nat.mul_ne_zero hm (by omega)
  apply Nat.le_antisymm
  · have : m * 2 ^ k < 2 ^ (m.log2 + 1 + k) := by
      rw [Nat.pow_add]
      exact Nat.mul_lt_mul_of_pos_right Nat.lt_log2_self hp
    have := (Nat.log2_lt hne).2 this
    omega
  · apply (Nat.le_log2 hne).2
    rw [Nat.pow_add]
    exact Nat.mul_le_mul_right _ (Nat.log2_self_le hm)

theorem cut_scale (neg : Bool) {m : Nat} (hm : m ≠ 0) (d k : Nat) : Ieee.Toward.even.cut neg (m * 2 ^ k) (d + k) = Ieee.Toward.even.cut neg m d := by
  unfold Ieee.Toward.cut
  have hg : min (d + k) ((m * 2 ^ k).log2 + 2) = min d (m.log2 + 2) + k := by rw [log2_pow hm]; omega
  simp only [hg, Nat.one_shiftLeft, Nat.pow_add]
  have hG : 0 < 2 ^ min d (m.log2 + 2) := Nat.two_pow_pos _
  have hK : 0 < 2 ^ k := Nat.two_pow_pos _
  generalize 2 ^ min d (m.log2 + 2) = G at *
  generalize 2 ^ k = K at *
  rw [Nat.mul_div_mul_right _ _ hK, Nat.mul_mod_mul_right]
  have e1 : (G * K < 2 * (m % G * K)) = (G < 2 * (m % G)) := by
    rw [← Nat.mul_assoc]
    exact propext ⟨fun h => Nat.lt_of_mul_lt_mul_right h, fun h => Nat.mul_lt_mul_of_pos_right h hK⟩
  have e2 : (G * K == 2 * (m % G * K)) = (G == 2 * (m % G)) := by
    rw [← Nat.mul_assoc, Bool.eq_iff_iff, beq_iff_eq, beq_iff_eq]
    exact ⟨fun h => Nat.eq_of_mul_eq_mul_right hK h, fun h => congrArg (· * K) h⟩
  simp only [e1, e2]

theorem nearest_scale (f : Ieee.Format) (neg : Bool) (m k : Nat) (e : Int) : f.nearest neg (m * 2 ^ k) e = f.nearest neg m (e + k) := by
  by_cases hm : m = 0
  · subst hm; unfold Ieee.Format.nearest; simp
  have hne : m * 2 ^ k ≠ 0 := Nat.mul_ne_zero hm (Nat.pos_iff_ne_zero.1 (Nat.two_pow_pos k))
  unfold Ieee.Format.nearest
  rw [if_neg hm, if_neg hne]
  have hl : max (e + (m * 2 ^ k).log2 - f.fractionBits) f.leastPlace = max (e + k + m.log2 - f.fractionBits) f.leastPlace := by rw [log2_pow hm]; omega
  rw [hl]
  generalize max (e + k + m.log2 - f.fractionBits) f.leastPlace = last
  dsimp only
  congr 3
  rcases Int.le_total last e with h1 | h1
  · have a1 : (e - last).toNat + k = (e + k - last).toNat := by omega
    have a2 : (last - e).toNat = 0 := by omega
    have a3 : (last - (e + k)).toNat = 0 := by omega
    rw [a2, a3, cut_zero, cut_zero, ← a1, Nat.shiftLeft_eq, Nat.shiftLeft_eq, Nat.pow_add, Nat.mul_assoc, Nat.mul_comm (2 ^ k)]
  · rcases Int.le_total (e + k) last with h2 | h2
    · have a1 : (e - last).toNat = 0 := by omega
      have a2 : (e + k - last).toNat = 0 := by omega
      have a3 : (last - e).toNat = (last - (e + k)).toNat + k := by omega
      rw [a1, a2, a3, Nat.shiftLeft_zero, Nat.shiftLeft_zero, cut_scale neg hm]
    · have a1 : (e - last).toNat = 0 := by omega
      have a2 : (last - (e + k)).toNat = 0 := by omega
      have a3 : k = (e + k - last).toNat + (last - e).toNat := by omega
      have hm' : m * 2 ^ (e + k - last).toNat ≠ 0 := Nat.mul_ne_zero hm (Nat.pos_iff_ne_zero.1 (Nat.two_pow_pos _))
      have h := cut_scale neg hm' 0 (last - e).toNat
      rw [Nat.zero_add, Nat.mul_assoc, ← Nat.pow_add, ← a3] at h
      rw [a1, a2, Nat.shiftLeft_zero, Nat.shiftLeft_eq, h]

theorem cut_le (neg : Bool) (n d b : Nat) (h : n < 2 ^ (b + 1 + d)) : Ieee.Toward.even.cut neg n d ≤ 2 ^ (b + 1) := by
  unfold Ieee.Toward.cut
  dsimp only
  have hx : ∀ x : Bool, x.toNat ≤ 1 := fun x => by cases x <;> simp
  have hp : 0 < 2 ^ (b + 1) := Nat.two_pow_pos _
  refine Nat.le_trans (Nat.add_le_add_left (hx _) _) ?_
  rw [Nat.one_shiftLeft]
  rcases Nat.le_total d (n.log2 + 2) with hm | hm
  · rw [Nat.min_eq_left hm]
    have : n / 2 ^ d < 2 ^ (b + 1) := by
      rw [Nat.div_lt_iff_lt_mul (Nat.two_pow_pos _), ← Nat.pow_add]
      exact h
    omega
  · rw [Nat.min_eq_right hm]
    have : n / 2 ^ (n.log2 + 2) = 0 := Nat.div_eq_of_lt (Nat.lt_of_lt_of_le Nat.lt_log2_self (Nat.pow_le_pow_right (by decide) (by omega)))
    omega

theorem nearest_lo (f : Ieee.Format) (s : Bool) (m : Nat) (e k : Int) (hk : m = 0 ∨ (m.log2 : Int) + e ≤ k) (hlo : f.leastPlace + f.fractionBits ≤ k) (hhi : k - f.fractionBits - f.leastPlace + 2 < 2 ^ f.exponentBits - 1) :
    ∃ s' m' e', f.read (f.nearest s m e) = .number s' m' e' ∧ (m' = 0 ∨ (m'.log2 : Int) + e' ≤ k + 1) := by
  have key : ∀ rung : Nat, (rung : Int) ≤ (k - f.fractionBits - f.leastPlace + 2) * 2 ^ f.fractionBits → ∃ s' m' e', f.read (f.word s rung) = .number s' m' e' ∧ (m' = 0 ∨ (m'.log2 : Int) + e' ≤ k + 1) := by
    intro rung hr
    have hb : f.binade = 2 ^ f.fractionBits := rfl
    have hB : 0 < 2 ^ f.fractionBits := Nat.two_pow_pos _
    have hi : (f.infRung : Int) = (2 ^ f.exponentBits - 1) * 2 ^ f.fractionBits := by
      unfold Ieee.Format.infRung
      rw [hb]
      have : 1 ≤ 2 ^ f.exponentBits := Nat.one_le_two_pow
      push_cast [Int.natCast_sub this]
      rfl
    have hlt : rung < f.infRung := by
      have h1 : (k - f.fractionBits - f.leastPlace + 2) * 2 ^ f.fractionBits < (2 ^ f.exponentBits - 1) * 2 ^ f.fractionBits := Int.mul_lt_mul_of_pos_right hhi (by exact_mod_cast hB)
      have : (rung : Int) < f.infRung := by rw [hi]; omega
      exact_mod_cast this
    have hsw : rung < f.signWeight := Nat.lt_trans hlt f.infRung_lt
    unfold Ieee.Format.read
    simp only [word_mod f s hsw]
    by_cases h1 : rung < f.binade
    · rw [if_pos h1]
      refine ⟨_, _, _, rfl, ?_⟩
      by_cases h0 : rung = 0
      · exact .inl h0
      · right
        have : rung.log2 < f.fractionBits := (Nat.log2_lt h0).2 h1
        omega
    · rw [if_neg h1, if_pos hlt]
      refine ⟨_, _, _, rfl, .inr ?_⟩
      have hmod : rung % f.binade < f.binade := Nat.mod_lt _ (by rw [hb]; exact hB)
      have hl : (f.binade + rung % f.binade).log2 = f.fractionBits := by
        apply Nat.le_antisymm
        · have : (f.binade + rung % f.binade).log2 < f.fractionBits + 1 := (Nat.log2_lt (by omega)).2 (by rw [Nat.pow_succ, ← hb]; omega)
          omega
        · exact (Nat.le_log2 (by rw [hb]; omega)).2 (by rw [hb]; omega)
      rw [hl]
      have hq : ((rung / f.binade : Nat) : Int) ≤ k - f.fractionBits - f.leastPlace + 2 := by
        have h2 : (rung / f.binade) * f.binade ≤ rung := Nat.div_mul_le_self _ _
        have h3 : ((rung / f.binade : Nat) : Int) * 2 ^ f.fractionBits ≤ (k - f.fractionBits - f.leastPlace + 2) * 2 ^ f.fractionBits := by
          refine Int.le_trans ?_ hr
          rw [hb] at h2
          exact_mod_cast h2
        exact Int.le_of_mul_le_mul_right h3 (by exact_mod_cast hB)
      have hq1 : 1 ≤ rung / f.binade := (Nat.le_div_iff_mul_le (by rw [hb]; exact hB)).2 (by omega)
      have : ((rung / f.binade - 1 : Nat) : Int) = ((rung / f.binade : Nat) : Int) - 1 := by omega
      rw [this]
      omega
  unfold Ieee.Format.nearest
  by_cases hm : m = 0
  · rw [if_pos hm]
    refine key 0 ?_
    have : (0 : Int) ≤ (k - f.fractionBits - f.leastPlace + 2) * 2 ^ f.fractionBits := Int.mul_nonneg (by omega) (Int.le_of_lt (by exact_mod_cast Nat.two_pow_pos f.fractionBits))
    exact_mod_cast this
  rw [if_neg hm]
  dsimp only
  have hk' : (m.log2 : Int) + e ≤ k := hk.resolve_left hm
  have hlast : max (e + m.log2 - f.fractionBits) f.leastPlace ≤ k - f.fractionBits := by omega
  have hlast2 : e + m.log2 - f.fractionBits ≤ max (e + m.log2 - f.fractionBits) f.leastPlace := Int.le_max_left _ _
  have hlast3 : f.leastPlace ≤ max (e + m.log2 - f.fractionBits) f.leastPlace := Int.le_max_right _ _
  generalize max (e + (m.log2 : Int) - f.fractionBits) f.leastPlace = last at *
  have hcut : Ieee.Toward.even.cut s (m <<< (e - last).toNat) (last - e).toNat ≤ 2 ^ (f.fractionBits + 1) := by
    refine cut_le _ _ _ _ ?_
    rw [Nat.shiftLeft_eq]
    have h1 : m < 2 ^ (m.log2 + 1) := Nat.lt_log2_self
    have h2 : m * 2 ^ (e - last).toNat < 2 ^ (m.log2 + 1) * 2 ^ (e - last).toNat := Nat.mul_lt_mul_of_pos_right h1 (Nat.two_pow_pos _)
    rw [← Nat.pow_add] at h2
    exact Nat.lt_of_lt_of_le h2 (Nat.pow_le_pow_right (by decide) (by omega))
  generalize Ieee.Toward.even.cut s (m <<< (e - last).toNat) (last - e).toNat = kept at *
  refine key _ (Int.le_trans (Int.ofNat_le.2 (Nat.min_le_left _ _)) ?_)
  have hb : f.binade = 2 ^ f.fractionBits := rfl
  rw [hb]
  have h1 : (((last - f.leastPlace).toNat * 2 ^ f.fractionBits + kept : Nat) : Int) ≤ (last - f.leastPlace + 2) * 2 ^ f.fractionBits := by
    have e1 : (((last - f.leastPlace).toNat : Nat) : Int) = last - f.leastPlace := by omega
    rw [Int.natCast_add, Int.natCast_mul, e1, Int.add_mul]
    refine Int.add_le_add_left ?_ _
    rw [Nat.pow_succ, Nat.mul_comm] at hcut
    exact_mod_cast hcut
  refine Int.le_trans h1 (Int.mul_le_mul_of_nonneg_right (by omega) (Int.le_of_lt (by exact_mod_cast Nat.two_pow_pos f.fractionBits)))

/-- An infinity, or not too great. -/
def LoI (fk : FloatKind) (k : Int) (x : FV) : Prop := ∀ b, x = some b → (∃ s, fk.decode b = .infinity s) ∨ ∃ s m e, fk.decode b = .number s m e ∧ (m = 0 ∨ (m.log2 : Int) + e ≤ k)
theorem read_inf (fk : FloatKind) (s : Bool) : ∃ s', fk.decode (fk.encode (.infinity s)) = .infinity s' := by
  refine ⟨s, ?_⟩
  cases fk <;> cases s <;> decide +kernel
theorem loi_wide (x : FV) : LoI .f64 128 (fconv .f32 .f64 x) := by
  intro b hb
  cases x with
  | none => cases hb
  | some a =>
    simp only [fconv, Option.bind_some, floatToFloatBits, if_neg (by decide : ¬ FloatKind.f32 = FloatKind.f64)] at hb
    cases hd : FloatKind.f32.decode a with
    | nan s t => rw [hd] at hb; cases hb
    | infinity s => rw [hd] at hb; cases hb; exact .inl (read_inf .f64 s)
    | number s m e =>
      rw [hd] at hb
      simp only at hb
      split at hb
      · cases hb
      · cases hb
        right
        obtain ⟨h1, _, h3⟩ := single_number hd
        have hl : m = 0 ∨ (m.log2 : Int) + e ≤ 127 := by
          by_cases h0 : m = 0
          · exact .inl h0
          · have := log2_le_of_lt (k := 23) h0 h1
            right; omega
        exact nearest_lo Ieee.double s m e 127 hl (by decide) (by decide)
theorem loi_narrow {k : Int} {x : FV} (h : LoI .f64 k x) (hk : k ≤ 120) : ConvOk .f64 .f32 x := by
  cases x with
  | none => exact .inl rfl
  | some b =>
    right
    simp only [fconv, Option.bind_some, floatToFloatBits, if_neg (by decide : ¬ FloatKind.f64 = FloatKind.f32)]
    rcases h b rfl with ⟨s, hd⟩ | ⟨s, m, e, hd, hm⟩
    · rw [hd]; simp
    · rw [hd]
      obtain ⟨s', m', e', hr, _⟩ := nearest_lo Ieee.single s m e 120 (hm.imp id fun h => by omega) (by decide) (by decide)
      have : (FloatKind.f32.decode (FloatKind.f32.encode (.number s m e))).isInfinity = false := by
        have hr' : FloatKind.f32.decode (FloatKind.f32.encode (.number s m e)) = .number s' m' e' := hr
        rw [hr']; rfl
      simp [this]

def fsqrt (x : FV) : FV := x.bind fun b => FloatKind.f64.format.sqrt b
theorem rootFrom_lt (n : Nat) : ∀ (todo root : Nat), Ieee.Datum.rootFrom n todo root < root + 2 ^ todo
  | 0, root => by simp [Ieee.Datum.rootFrom]
  | todo + 1, root => by
    unfold Ieee.Datum.rootFrom
    have h1 := rootFrom_lt n todo
    have hp : 2 ^ (todo + 1) = 2 ^ todo + 2 ^ todo := by rw [Nat.pow_succ]; omega
    have h0 := Nat.two_pow_pos todo
    rw [Nat.one_shiftLeft]
    dsimp only
    split
    · have := h1 (root + 2 ^ todo); omega
    · have := h1 root; omega
theorem loi_sqrt {x : FV} (h : LoI .f64 128 x) : LoI .f64 68 (fsqrt x) := by
  intro r hr
  cases x with
  | none => cases hr
  | some b =>
    simp only [fsqrt, Option.bind_some, Ieee.Format.sqrt] at hr
    rcases h b rfl with ⟨s, hd⟩ | ⟨s, m, i, hd, hm⟩
    · have hd' : FloatKind.f64.format.read b = .infinity s := hd
      rw [hd'] at hr
      cases s with
      | true => cases hr
      | false => cases hr; exact .inl (read_inf .f64 false)
    · have hd' : FloatKind.f64.format.read b = .number s m i := hd
      rw [hd'] at hr
      simp only [Ieee.Datum.root] at hr
      by_cases h0 : m = 0
      · rw [if_pos h0] at hr
        cases hr
        right
        subst h0
        obtain ⟨s', m', e', h1, h2⟩ := nearest_lo Ieee.double s 0 i 67 (.inl rfl) (by decide) (by decide)
        exact ⟨s', m', e', h1, h2⟩
      · rw [if_neg h0] at hr
        cases s with
        | true => cases hr
        | false =>
          simp only [Bool.false_eq_true, if_false, Option.map_some, Option.some.injEq] at hr
          have hk : (m.log2 : Int) + i ≤ 128 := hm.resolve_left h0
          generalize hmore : 2 * (FloatKind.f64.format.fractionBits + 2) - m.log2 + ((i - ((2 * (FloatKind.f64.format.fractionBits + 2) - m.log2 : Nat) : Int)) % 2).toNat = more at hr
          have hw := rootFrom_lt (m <<< more) ((m <<< more).log2 / 2 + 1) 0
          generalize Ieee.Datum.rootFrom (m <<< more) ((m <<< more).log2 / 2 + 1) 0 = whole at *
          have hlog : (m <<< more).log2 = m.log2 + more := by rw [Nat.shiftLeft_eq, log2_pow h0]
          rw [hlog] at hw
          right
          have hb1 : ∀ x : Bool, x.toNat ≤ 1 := fun x => by cases x <;> simp
          have hmag : 2 * whole + (whole * whole != m <<< more).toNat < 2 ^ ((m.log2 + more) / 2 + 2) := by
            have := hb1 (whole * whole != m <<< more)
            have hp : 2 ^ ((m.log2 + more) / 2 + 2) = 2 * 2 ^ ((m.log2 + more) / 2 + 1) := by rw [Nat.pow_succ 2 ((m.log2 + more) / 2 + 1)]; omega
            omega
          generalize 2 * whole + (whole * whole != m <<< more).toNat = mag at *
          obtain ⟨s', m', e', h1, h2⟩ := nearest_lo Ieee.double false mag ((i - more) / 2 - 1) 67 (by
            by_cases hz : mag = 0
            · exact .inl hz
            · right
              have : mag.log2 < (m.log2 + more) / 2 + 2 := (Nat.log2_lt hz).2 hmag
              omega) (by decide) (by decide)
          refine ⟨s', m', e', ?_, h2⟩
          rw [← hr]
          exact h1
end Go.Ab
namespace Go.Ab
open Go.Proofs
/-- Function number f has no body; the model carries it out. -/
class ExtFn (P : Program) (f : FuncId) (r : outParam (Array Value → Sem Value)) : Prop where
  h : ∃ fn, P.funcs[f]? = some fn ∧ fn.body = none ∧ (fn.name == "runtime.NumGoroutine") = false ∧ Extern.findNext fn = none ∧ Extern.find fn = some r
theorem run_ext {P : Program} {f : FuncId} {r : Array Value → Sem Value} [h : ExtFn P f r] {args : Array Value} {w w' : World} {v : Value} (hr : (r args).run P w = .ok v w') : (callFunc f args).run P w = .ok (.value v) w' := by
  obtain ⟨fn, hf, hb, hn, h1, h2⟩ := h.h
  have h3 : ¬ fn.name = "runtime.NumGoroutine" := by simpa using hn
  have hm : ∀ (m : Mark) (w : World), Sem.run P (Sem.mark m (Sem.pure ())) w = .ok () w := fun _ _ => rfl
  simp [callFunc, hf, hb, h3, h1, h2, mark, hr, hm]
theorem sqrt_not_nan {b r : Nat} (h : FloatKind.f64.format.sqrt b = some r) : (FloatKind.f64.decode r).isNaN = false ∧ r < 2 ^ FloatKind.f64.format.width := by
  unfold Ieee.Format.sqrt at h
  cases hd : (FloatKind.f64.format.read b).root (FloatKind.f64.format.fractionBits + 2) with
  | none => simp [hd] at h
  | some d =>
    simp only [hd, Option.map_some, Option.some.injEq] at h
    subst h
    refine ⟨write_not_nan _ d ?_, FloatKind.f64.format.write_lt d⟩
    cases hx : FloatKind.f64.format.read b with
    | nan s t => rw [hx] at hd; cases hd
    | infinity s =>
      rw [hx] at hd
      cases s <;> simp [Ieee.Datum.root] at hd
      subst hd; rfl
    | number s m i =>
      rw [hx] at hd
      simp only [Ieee.Datum.root] at hd
      split at hd
      · cases hd; rfl
      · split at hd
        · cases hd
        · cases hd; rfl
theorem run_sqrt (P : Program) (w : World) (b : Nat) : ∃ r w', (Extern.MathSqrt.sqrt #[.float .f64 b]).run P w = .ok (.float .f64 r) w' ∧ Quiet w w' ∧ fv .f64 r = fsqrt (fv .f64 b) ∧ r < 2 ^ FloatKind.f64.format.width := by
  have hfv : fsqrt (fv .f64 b) = FloatKind.f64.format.sqrt b := by
    cases hn : (FloatKind.f64.decode b).isNaN with
    | false => rw [fv_some hn]; rfl
    | true =>
      obtain ⟨s, t, e⟩ := isNaN_cases hn
      have e' : FloatKind.f64.format.read b = .nan s t := e
      rw [fv_nan hn]
      simp [fsqrt, Ieee.Format.sqrt, e', Ieee.Datum.root]
  rw [hfv]
  have hs : Extern.MathSqrt.sqrt #[.float .f64 b] = (match FloatKind.f64.format.sqrt b with
    | some r => pure (.float .f64 r)
    | none => do pure (.float .f64 (← choose (.nanBits .f64 b b)))) := rfl
  rw [hs]
  cases h : FloatKind.f64.format.sqrt b with
  | some r => exact ⟨r, w, by simp, .inl rfl, fv_some (sqrt_not_nan h).1, (sqrt_not_nan h).2⟩
  | none =>
    have hc := nanBits_cut .f64 b b (w.tape w.drawn (.nanBits .f64 b b))
    exact ⟨_, { w with drawn := w.drawn + 1 }, by simp [choose, Sem.run, Question.forced], .inr rfl, hc.1, hc.2⟩
theorem opj_sqrt {P : Program} {S : World → Prop} {e : Env} {c : FuncId} [hc : ExtFn P c Extern.MathSqrt.sqrt] {F X : Operand} {x : FV} {dst : Option Tmp} {ts : Array TypeId} {ty : TypeId} {pos : String} {after : Array Edge} {guard : Option (Nat × Bool)}
    (hF : e.ev F = some (.raw (.func (.func c) #[] #[]))) (hX : e.ev X = some (.f .f64 x)) : OpJ P S e ⟨dst, .call { callee := .value F, args := #[X], argTypes := ts }, ty, pos, after, guard⟩ (.f .f64 (fsqrt x)) :=
  opj_value fun a w _ h => by
    have h1 := (h F (by simp [Op.operands, Call.operands]) _ hF).inv_raw
    obtain ⟨b, h2, e2, hb⟩ := (h X (by simp [Op.operands, Call.operands]) _ hX).inv_f
    obtain ⟨r, w', hr, hq, hv, hl⟩ := run_sqrt P w b
    refine ⟨.float .f64 r, w', ?_, Ext.of_quiet hq, Rel.f' hl (by rw [hv, e2])⟩
    have := run_ext (h := hc) hr
    simp [execOp, resolve, h1, h2, Deferred.ofValue, invoke, this]
instance extSqrt : ExtFn Tryz.prog 54 Extern.MathSqrt.sqrt := ⟨⟨(Tryz.prog.funcs[54]?).getD default, by kernel_rfl, by kernel_rfl, by kernel_rfl, by kernel_rfl, by kernel_rfl⟩⟩
instance hbSqrt : HasBody Tryz.prog 33 := ⟨⟨Tryz.f33, Tryz.func33, rfl, by kernel_rfl⟩⟩
attribute [local irreducible] WS RS Done OpJ Then InBlock Round Ret Env.sub FnH
theorem mathSqrt_fn (x : FV) : Fn Tryz.prog 33 (fun _ => [.f .f64 x]) (.f .f64 (fsqrt x)) := by
  refine fn_intro Tryz.func33 rfl Tryz.ntmps33 (fun _ => Nat.le_of_ble_eq_true rfl) fun w0 => ?_
  repeat first | refine zai rfl rfl ?_ | refine zaj rfl rfl rfl rfl ?_ | refine zaa rfl (zay rfl) ?_ | refine zaa rfl (zaz rfl) ?_ | (refine zac ?_; first | refine zaa rfl (zba rfl rfl rfl) ?_ | refine zaa rfl (zbb rfl rfl (by omega)) ?_ | refine zaa rfl (zbc rfl rfl (by omega)) ?_ | refine zaa rfl (zbd rfl rfl rfl) ?_ | refine zaa rfl (zbe rfl rfl) ?_ | refine zaa rfl (zbf rfl rfl) ?_ | refine zaa rfl (zbg rfl rfl) ?_ | refine zaa rfl (zbh rfl rfl) ?_ | refine zaa rfl (zbi rfl rfl) ?_ | refine zaa rfl (zbj rfl rfl) ?_ | refine zaa rfl (zbk rfl rfl) ?_ | refine zaa rfl (zbl rfl rfl) ?_) | (refine zad ?_; first | refine zaa rfl (zbm rfl) ?_ | refine zaa rfl (zbn rfl) ?_ | refine zaa rfl (zbp rfl) ?_ | refine zaa rfl (zbq rfl) ?_ | refine zaa rfl (zbr rfl rfl) ?_) | refine zaa rfl (zbu rfl rfl) ?_ | refine zaa rfl (zbv rfl rfl (by omega) (by omega)) ?_ | refine zaa rfl (zbw rfl rfl (by omega) (by omega)) ?_ | refine zaa rfl (zbx rfl) ?_ | refine zaa rfl (zby rfl) ?_ | refine zaa rfl (zbz rfl rfl) ?_ | refine zaa rfl (zca rfl rfl) ?_ | refine zaa rfl (zcb rfl rfl) ?_ | refine zaa rfl (zcc rfl) ?_ | refine zah ?_ | (refine zcr ?_; first | refine zcs ?_ | refine zct ?_ | refine zcu ?_ | refine zcv ?_ | refine zcw ?_ | refine zcx ?_ | refine zcy rfl ?_ | refine zcz ?_ | refine zda ?_) | (refine zdb ?_; first | refine zdc ?_ | refine zdd ?_ | refine zde ?_ | refine zdf ?_ | refine zdg ?_ | refine zdh ?_ | refine zdi rfl ?_ | refine zdj rfl ?_) | refine zaa rfl (opj_sqrt rfl rfl) ?_
  exact done_ret1 rfl () rfl trivial (List.nil_sublist _)
def rootF (x : FV) : FV := fconv .f64 .f32 (fsqrt (fconv .f32 .f64 x))
theorem root_ok (x : FV) : ConvOk .f64 .f32 (fsqrt (fconv .f32 .f64 x)) := loi_narrow (loi_sqrt (loi_wide x)) (by decide)
theorem l01Narrow_fn (x : FV) (h : ConvOk .f64 .f32 x) : Fn Tryz.prog 55 (fun _ => [.f .f64 x]) (.f .f32 (fconv .f64 .f32 x)) := by
  refine fn_intro Tryz.func55 rfl Tryz.ntmps55 (fun _ => Nat.le_of_ble_eq_true rfl) fun w0 => ?_
  repeat first | refine zai rfl rfl ?_ | refine zaj rfl rfl rfl rfl ?_ | refine zaa rfl (zay rfl) ?_ | refine zaa rfl (zaz rfl) ?_ | (refine zac ?_; first | refine zaa rfl (zba rfl rfl rfl) ?_ | refine zaa rfl (zbb rfl rfl (by omega)) ?_ | refine zaa rfl (zbc rfl rfl (by omega)) ?_ | refine zaa rfl (zbd rfl rfl rfl) ?_ | refine zaa rfl (zbe rfl rfl) ?_ | refine zaa rfl (zbf rfl rfl) ?_ | refine zaa rfl (zbg rfl rfl) ?_ | refine zaa rfl (zbh rfl rfl) ?_ | refine zaa rfl (zbi rfl rfl) ?_ | refine zaa rfl (zbj rfl rfl) ?_ | refine zaa rfl (zbk rfl rfl) ?_ | refine zaa rfl (zbl rfl rfl) ?_) | (refine zad ?_; first | refine zaa rfl (zbm rfl) ?_ | refine zaa rfl (zbn rfl) ?_ | refine zaa rfl (zbp rfl) ?_ | refine zaa rfl (zbq rfl) ?_ | refine zaa rfl (zbr rfl rfl) ?_) | refine zaa rfl (zbu rfl rfl) ?_ | refine zaa rfl (zbv rfl rfl (by omega) (by omega)) ?_ | refine zaa rfl (zbw rfl rfl (by omega) (by omega)) ?_ | refine zaa rfl (zbx rfl) ?_ | refine zaa rfl (zby rfl) ?_ | refine zaa rfl (zbz rfl rfl) ?_ | refine zaa rfl (zca rfl rfl) ?_ | refine zaa rfl (zcb rfl rfl) ?_ | refine zaa rfl (zcc rfl) ?_ | refine zah ?_ | (refine zcr ?_; first | refine zcs ?_ | refine zct ?_ | refine zcu ?_ | refine zcv ?_ | refine zcw ?_ | refine zcx ?_ | refine zcy rfl ?_ | refine zcz ?_ | refine zda ?_) | (refine zdb ?_; first | refine zdc ?_ | refine zdd ?_ | refine zde ?_ | refine zdf ?_ | refine zdg ?_ | refine zdh ?_ | refine zdi rfl ?_ | refine zdj rfl ?_) | refine zaa rfl (opj_fconv rfl h) ?_
  exact done_ret1 rfl () rfl trivial (List.nil_sublist _)
theorem l01Sqrt_fn (x : FV) : Fn Tryz.prog 34 (fun _ => [.f .f32 x]) (.f .f32 (rootF x)) := by
  refine fn_intro Tryz.func34 rfl Tryz.ntmps34 (fun _ => Nat.le_of_ble_eq_true rfl) fun w0 => ?_
  have hN := l01Narrow_fn _ (root_ok x)
  repeat first | refine zai rfl rfl ?_ | refine zaj rfl rfl rfl rfl ?_ | refine zaa rfl (zay rfl) ?_ | refine zaa rfl (zaz rfl) ?_ | (refine zac ?_; first | refine zaa rfl (zba rfl rfl rfl) ?_ | refine zaa rfl (zbb rfl rfl (by omega)) ?_ | refine zaa rfl (zbc rfl rfl (by omega)) ?_ | refine zaa rfl (zbd rfl rfl rfl) ?_ | refine zaa rfl (zbe rfl rfl) ?_ | refine zaa rfl (zbf rfl rfl) ?_ | refine zaa rfl (zbg rfl rfl) ?_ | refine zaa rfl (zbh rfl rfl) ?_ | refine zaa rfl (zbi rfl rfl) ?_ | refine zaa rfl (zbj rfl rfl) ?_ | refine zaa rfl (zbk rfl rfl) ?_ | refine zaa rfl (zbl rfl rfl) ?_) | (refine zad ?_; first | refine zaa rfl (zbm rfl) ?_ | refine zaa rfl (zbn rfl) ?_ | refine zaa rfl (zbp rfl) ?_ | refine zaa rfl (zbq rfl) ?_ | refine zaa rfl (zbr rfl rfl) ?_ | refine zaa rfl (zci rfl rfl (mathSqrt_fn _) (by (repeat (first | exact Takes.nil | refine Takes.sl ?_ | refine Takes.own (by (repeat (first | exact mh | refine mt ?_)); done) (by simp) (by omega) (by simp only [maxLen]; omega) ?_ | refine Takes.same ?_)); done)) ?_ | (refine zaa rfl (zci rfl rfl (hN) ?_) ?_; (focus ((repeat (first | exact Takes.nil | refine Takes.sl ?_ | refine Takes.own (by (repeat (first | exact mh | refine mt ?_)); done) (by simp) (by omega) (by simp only [maxLen]; omega) ?_ | refine Takes.same ?_)); done)))) | refine zaa rfl (zbu rfl rfl) ?_ | refine zaa rfl (zbv rfl rfl (by omega) (by omega)) ?_ | refine zaa rfl (zbw rfl rfl (by omega) (by omega)) ?_ | refine zaa rfl (zbx rfl) ?_ | refine zaa rfl (zby rfl) ?_ | refine zaa rfl (zbz rfl rfl) ?_ | refine zaa rfl (zca rfl rfl) ?_ | refine zaa rfl (zcb rfl rfl) ?_ | refine zaa rfl (zcc rfl) ?_ | refine zah ?_ | (refine zcr ?_; first | refine zcs ?_ | refine zct ?_ | refine zcu ?_ | refine zcv ?_ | refine zcw ?_ | refine zcx ?_ | refine zcy rfl ?_ | refine zcz ?_ | refine zda ?_) | (refine zdb ?_; first | refine zdc ?_ | refine zdd ?_ | refine zde ?_ | refine zdf ?_ | refine zdg ?_ | refine zdh ?_ | refine zdi rfl ?_ | refine zdj rfl ?_)
  exact done_ret1 rfl () rfl trivial (List.nil_sublist _)
end Go.Ab
namespace Go.Ab
open Go.Proofs
/-- A 32-bit float. -/
def Ok32 (x : FV) : Prop := ∃ b, b < 2 ^ 32 ∧ x = fv .f32 b
theorem Ok32.some {b : Nat} (h : Ok32 (some b)) : b < 2 ^ 32 ∧ (FloatKind.f32.decode b).isNaN = false := by
  obtain ⟨c, hc, he⟩ := h
  unfold fv at he
  split at he
  · cases he
  · rename_i hn; cases he; exact ⟨hc, by simpa using hn⟩
def sameB : FV → FV → Bool
  | none, none => true
  | some a, some b => a == b
  | _, _ => false

theorem sign_read {a : Nat} (ha : a < 2 ^ 32) : (a / FloatKind.f32.format.signWeight % 2 == 1) = decide (2 ^ 31 ≤ a) := by
  have : FloatKind.f32.format.signWeight = 2 ^ 31 := rfl
  rw [this]
  by_cases h : 2 ^ 31 ≤ a
  · have : a / 2 ^ 31 = 1 := by omega
    rw [this]; simp [h]
  · have : a / 2 ^ 31 = 0 := by omega
    rw [this]; simp [h]
theorem read_neg {a : Nat} (ha : a < 2 ^ 32) : (FloatKind.f32.format.read a).neg = decide (2 ^ 31 ≤ a) := by
  rw [← sign_read ha]
  unfold Ieee.Format.read
  dsimp only
  split
  · rfl
  · split
    · rfl
    · split <;> rfl
theorem word_sign (s : Bool) (r : Nat) (hr : r < 2 ^ 63) : decide (2 ^ 63 ≤ Ieee.double.word s r) = s := by
  have : Ieee.double.signWeight = 2 ^ 63 := rfl
  unfold Ieee.Format.word
  rw [this]
  cases s <;> simp <;> omega
theorem nearest_sign (s : Bool) (m : Nat) (e : Int) : decide (2 ^ 63 ≤ Ieee.double.nearest s m e) = s := by
  have hi : Ieee.double.infRung < 2 ^ 63 := Ieee.double.infRung_lt
  unfold Ieee.Format.nearest
  split
  · exact word_sign s 0 (by decide)
  · exact word_sign s _ (Nat.lt_of_le_of_lt (Nat.min_le_right _ _) hi)
theorem wide_sign {a w : Nat} (ha : a < 2 ^ 32) (h : fconv .f32 .f64 (some a) = some w) : decide (2 ^ 63 ≤ w) = decide (2 ^ 31 ≤ a) := by
  rw [← read_neg ha]
  simp only [fconv, Option.bind_some, floatToFloatBits, if_neg (by decide : ¬ FloatKind.f32 = FloatKind.f64)] at h
  cases hd : FloatKind.f32.decode a with
  | nan s t => rw [hd] at h; cases h
  | infinity s =>
    have hd' : FloatKind.f32.format.read a = .infinity s := hd
    rw [hd] at h; rw [hd']
    cases h
    exact word_sign s _ Ieee.double.infRung_lt
  | number s m e =>
    have hd' : FloatKind.f32.format.read a = .number s m e := hd
    rw [hd] at h; rw [hd']
    simp only at h
    split at h
    · cases h
    · cases h; exact nearest_sign s m e

theorem icmp {x y : Int} (h : compare x y = .eq) : x = y := by
  simp only [compare, compareOfLessAndEq] at h
  split at h
  · cases h
  · split at h
    · assumption
    · cases h
def canon (r : Nat) : Nat × Int := if r < 2 ^ 23 then (r, -149) else (2 ^ 23 + r % 2 ^ 23, (-149 : Int) + ((r / 2 ^ 23 - 1 : Nat) : Int))
theorem canon_lo {r : Nat} (h : r < 2 ^ 23) : canon r = (r, -149) := if_pos h
theorem canon_hi {r : Nat} (h : ¬ r < 2 ^ 23) : canon r = (2 ^ 23 + r % 2 ^ 23, (-149 : Int) + ((r / 2 ^ 23 - 1 : Nat) : Int)) := if_neg h
theorem rung_eq {r q : Nat} (hr : r < 255 * 2 ^ 23) (hq : q < 255 * 2 ^ 23)
    (key : (canon r).1 * 2 ^ ((canon r).2 - min (canon r).2 (canon q).2).toNat = (canon q).1 * 2 ^ ((canon q).2 - min (canon r).2 (canon q).2).toNat) : r = q := by
  by_cases h1 : r < 2 ^ 23
  · by_cases h2 : q < 2 ^ 23
    · simp only [canon_lo h1, canon_lo h2] at key
      simpa using key
    · simp only [canon_lo h1, canon_hi h2] at key
      exfalso
      have hd1 : 1 ≤ q / 2 ^ 23 := by omega
      have hmin : min (-149 : Int) ((-149 : Int) + ((q / 2 ^ 23 - 1 : Nat) : Int)) = -149 := by omega
      rw [hmin] at key
      have : (-149 - -149 : Int).toNat = 0 := by decide
      rw [this, Nat.pow_zero, Nat.mul_one] at key
      have h3 : 2 ^ 23 + q % 2 ^ 23 ≤ (2 ^ 23 + q % 2 ^ 23) * 2 ^ ((-149 : Int) + ((q / 2 ^ 23 - 1 : Nat) : Int) - -149 : Int).toNat := Nat.le_mul_of_pos_right _ (Nat.two_pow_pos _)
      omega
  · by_cases h2 : q < 2 ^ 23
    · simp only [canon_hi h1, canon_lo h2] at key
      exfalso
      have hd1 : 1 ≤ r / 2 ^ 23 := by omega
      have hmin : min ((-149 : Int) + ((r / 2 ^ 23 - 1 : Nat) : Int) : Int) (-149) = -149 := by omega
      rw [hmin] at key
      have : (-149 - -149 : Int).toNat = 0 := by decide
      rw [this, Nat.pow_zero, Nat.mul_one] at key
      have h3 : 2 ^ 23 + r % 2 ^ 23 ≤ (2 ^ 23 + r % 2 ^ 23) * 2 ^ ((-149 : Int) + ((r / 2 ^ 23 - 1 : Nat) : Int) - -149 : Int).toNat := Nat.le_mul_of_pos_right _ (Nat.two_pow_pos _)
      omega
    · simp only [canon_hi h1, canon_hi h2] at key
      have hr1 : 1 ≤ r / 2 ^ 23 := by omega
      have hq1 : 1 ≤ q / 2 ^ 23 := by omega
      have hrm : r % 2 ^ 23 < 2 ^ 23 := Nat.mod_lt _ (by decide)
      have hqm : q % 2 ^ 23 < 2 ^ 23 := Nat.mod_lt _ (by decide)
      have hrd := Nat.div_add_mod r (2 ^ 23)
      have hqd := Nat.div_add_mod q (2 ^ 23)
      generalize r / 2 ^ 23 = a at *
      generalize q / 2 ^ 23 = b at *
      generalize r % 2 ^ 23 = c at *
      generalize q % 2 ^ 23 = d at *
      rcases Nat.lt_trichotomy a b with hab | hab | hab
      · exfalso
        have e1 : (((-149 : Int) + ((a - 1 : Nat) : Int) : Int) - min ((-149 : Int) + ((a - 1 : Nat) : Int)) ((-149 : Int) + ((b - 1 : Nat) : Int))).toNat = 0 := by omega
        have e2 : (((-149 : Int) + ((b - 1 : Nat) : Int) : Int) - min ((-149 : Int) + ((a - 1 : Nat) : Int)) ((-149 : Int) + ((b - 1 : Nat) : Int))).toNat = (b - a - 1) + 1 := by omega
        rw [e1, e2, Nat.pow_zero, Nat.mul_one, Nat.pow_succ 2 (b - a - 1), ← Nat.mul_assoc] at key
        have h3 : 2 ^ 23 + d ≤ (2 ^ 23 + d) * 2 ^ (b - a - 1) := Nat.le_mul_of_pos_right _ (Nat.two_pow_pos _)
        omega
      · subst hab
        have e1 : (((-149 : Int) + ((a - 1 : Nat) : Int) : Int) - min ((-149 : Int) + ((a - 1 : Nat) : Int)) ((-149 : Int) + ((a - 1 : Nat) : Int))).toNat = 0 := by omega
        rw [e1, Nat.pow_zero, Nat.mul_one, Nat.mul_one] at key
        omega
      · exfalso
        have e1 : (((-149 : Int) + ((b - 1 : Nat) : Int) : Int) - min ((-149 : Int) + ((a - 1 : Nat) : Int)) ((-149 : Int) + ((b - 1 : Nat) : Int))).toNat = 0 := by omega
        have e2 : (((-149 : Int) + ((a - 1 : Nat) : Int) : Int) - min ((-149 : Int) + ((a - 1 : Nat) : Int)) ((-149 : Int) + ((b - 1 : Nat) : Int))).toNat = (a - b - 1) + 1 := by omega
        rw [e1, e2, Nat.pow_zero, Nat.mul_one, Nat.pow_succ 2 (a - b - 1), ← Nat.mul_assoc] at key
        have h3 : 2 ^ 23 + c ≤ (2 ^ 23 + c) * 2 ^ (a - b - 1) := Nat.le_mul_of_pos_right _ (Nat.two_pow_pos _)
        omega
/-- Equal and of one sign: the same bits. -/
theorem bits_eq {a b : Nat} (ha : a < 2 ^ 32) (hb : b < 2 ^ 32) (h : FloatKind.f32.format.order a b = some .eq) (hs : decide (2 ^ 31 ≤ a) = decide (2 ^ 31 ≤ b)) : a = b := by
  have hsw : FloatKind.f32.format.signWeight = 2 ^ 31 := rfl
  have hbi : FloatKind.f32.format.binade = 2 ^ 23 := rfl
  have hir : FloatKind.f32.format.infRung = 255 * 2 ^ 23 := by decide
  have hlp : FloatKind.f32.format.leastPlace = -149 := by decide
  have hsgn : (a / 2 ^ 31 % 2 == 1) = (b / 2 ^ 31 % 2 == 1) := by
    have h1 := sign_read ha; have h2 := sign_read hb
    rw [hsw] at h1 h2
    rw [h1, h2, hs]
  suffices a % 2 ^ 31 = b % 2 ^ 31 by
    by_cases h1 : 2 ^ 31 ≤ a
    · have : 2 ^ 31 ≤ b := by simpa [h1] using hs
      omega
    · have : ¬ 2 ^ 31 ≤ b := by simpa [h1] using hs
      omega
  unfold Ieee.Format.order Ieee.Format.read at h
  simp only [hsw, hbi, hir, hlp, hsgn] at h
  generalize (b / 2 ^ 31 % 2 == 1) = sg at h
  generalize a % 2 ^ 31 = r at *
  generalize b % 2 ^ 31 = q at *
  have hcmp : ∀ x y : Nat, compare (Ieee.signed sg x 0) (Ieee.signed sg y 0) = .eq → x = y := by
    intro x y hc
    have := icmp hc
    unfold Ieee.signed at this
    cases sg <;> simp at this <;> omega
  have hnum : ∀ (ma mb : Nat) (ea eb : Int), Ieee.Datum.order (.number sg ma ea) (.number sg mb eb) = some .eq → ma * 2 ^ (ea - min ea eb).toNat = mb * 2 ^ (eb - min ea eb).toNat := by
    intro ma mb ea eb ho
    simp only [Ieee.Datum.order, Option.some.injEq] at ho
    have := icmp ho
    unfold Ieee.signed at this
    rw [Nat.shiftLeft_eq, Nat.shiftLeft_eq] at this
    cases sg
    · simp only [Bool.false_eq_true, if_false] at this
      exact_mod_cast this
    · simp only [if_true, Int.neg_inj] at this
      exact_mod_cast this
  by_cases hr : r < 255 * 2 ^ 23
  · by_cases hq : q < 255 * 2 ^ 23
    · refine rung_eq hr hq (hnum _ _ _ _ ?_)
      rw [← h]
      congr 1
      · by_cases h1 : r < 2 ^ 23
        · rw [canon_lo h1, if_pos h1]
        · rw [canon_hi h1, if_neg h1, if_pos hr]
      · by_cases h1 : q < 2 ^ 23
        · rw [canon_lo h1, if_pos h1]
        · rw [canon_hi h1, if_neg h1, if_pos hq]
    · exfalso
      rw [if_neg (by omega : ¬ q < 2 ^ 23), if_neg hq] at h
      by_cases h1 : r < 2 ^ 23
      · rw [if_pos h1] at h
        split at h <;> cases sg <;> simp [Ieee.Datum.order] at h
      · rw [if_neg h1, if_pos hr] at h
        split at h <;> cases sg <;> simp [Ieee.Datum.order] at h
  · rw [if_neg (by omega : ¬ r < 2 ^ 23), if_neg hr] at h
    by_cases hr2 : r = 255 * 2 ^ 23
    · rw [if_pos hr2] at h
      by_cases hq1 : q < 2 ^ 23
      · rw [if_pos hq1] at h; cases sg <;> simp [Ieee.Datum.order] at h
      · rw [if_neg hq1] at h
        by_cases hq : q < 255 * 2 ^ 23
        · rw [if_pos hq] at h; cases sg <;> simp [Ieee.Datum.order] at h
        · rw [if_neg hq] at h
          by_cases hq2 : q = 255 * 2 ^ 23
          · omega
          · rw [if_neg hq2] at h; simp [Ieee.Datum.order] at h
    · rw [if_neg hr2] at h
      simp [Ieee.Datum.order] at h
end Go.Ab
namespace Go.Ab
open Go.Proofs
theorem opj_iint {P : Program} {S : World → Prop} {e : Env} {src dt : TypeId} {X : Operand} {k0 k k' : IntKind} {n : Int} {dst : Option Tmp} {ty : TypeId} {pos : String} {after : Array Edge} {guard : Option (Nat × Bool)} [hs : TyU P src (.int k0)] [hd : TyU P dt (.int k')] (hx : e.ev X = some (.raw (.int k n))) :
    OpJ P S e ⟨dst, .convert src dt X, ty, pos, after, guard⟩ (.raw (.int k' (k'.wrap n))) :=
  opj_value fun a w _ h => by
    have h1 := (h X (by simp [Op.operands]) _ hx).inv_raw
    exact ⟨_, w, by simp [execOp, h1, convert, run_underlying hs.h, run_underlying hd.h, Conv.intToInt], Ext.refl _, .raw⟩
theorem fv_inv {k : FloatKind} {b c : Nat} (h : fv k b = some c) : b = c := by
  unfold fv at h
  split at h <;> cases h
  rfl
theorem opj_bits32 {P : Program} {S : World → Prop} {e : Env} {c : FuncId} [hc : ExtFn P c Extern.MathFloatBits.float32bits] {F X : Operand} {b : Nat} {dst : Option Tmp} {ts : Array TypeId} {ty : TypeId} {pos : String} {after : Array Edge} {guard : Option (Nat × Bool)}
    (hF : e.ev F = some (.raw (.func (.func c) #[] #[]))) (hX : e.ev X = some (.f .f32 (some b))) : OpJ P S e ⟨dst, .call { callee := .value F, args := #[X], argTypes := ts }, ty, pos, after, guard⟩ (.raw (.int .u32 b)) :=
  opj_value fun a w _ h => by
    have h1 := (h F (by simp [Op.operands, Call.operands]) _ hF).inv_raw
    obtain ⟨b', h2, e2, hb⟩ := (h X (by simp [Op.operands, Call.operands]) _ hX).inv_f
    obtain rfl := fv_inv e2
    refine ⟨.int .u32 b', w, ?_, Ext.refl _, .raw⟩
    have hr : (Extern.MathFloatBits.float32bits #[.float .f32 b']).run P w = .ok (.int .u32 b') w := rfl
    have := run_ext (h := hc) hr
    simp [execOp, resolve, h1, h2, Deferred.ofValue, invoke, this]
theorem opj_bits64 {P : Program} {S : World → Prop} {e : Env} {c : FuncId} [hc : ExtFn P c Extern.MathFloatBits.float64bits] {F X : Operand} {x : FV} {b : Nat} {dst : Option Tmp} {ts : Array TypeId} {ty : TypeId} {pos : String} {after : Array Edge} {guard : Option (Nat × Bool)}
    (hF : e.ev F = some (.raw (.func (.func c) #[] #[]))) (hX : e.ev X = some (.f .f64 x)) (hx : x = some b) : OpJ P S e ⟨dst, .call { callee := .value F, args := #[X], argTypes := ts }, ty, pos, after, guard⟩ (.raw (.int .u64 b)) :=
  opj_value fun a w _ h => by
    have h1 := (h F (by simp [Op.operands, Call.operands]) _ hF).inv_raw
    obtain ⟨b', h2, e2, hb⟩ := (h X (by simp [Op.operands, Call.operands]) _ hX).inv_f
    rw [hx] at e2
    obtain rfl := fv_inv e2
    refine ⟨.int .u64 b', w, ?_, Ext.refl _, .raw⟩
    have hr : (Extern.MathFloatBits.float64bits #[.float .f64 b']).run P w = .ok (.int .u64 b') w := rfl
    have := run_ext (h := hc) hr
    simp [execOp, resolve, h1, h2, Deferred.ofValue, invoke, this]
instance extB32 : ExtFn Tryz.prog 45 Extern.MathFloatBits.float32bits := ⟨⟨(Tryz.prog.funcs[45]?).getD default, by kernel_rfl, by kernel_rfl, by kernel_rfl, by kernel_rfl, by kernel_rfl⟩⟩
instance extB64 : ExtFn Tryz.prog 75 Extern.MathFloatBits.float64bits := ⟨⟨(Tryz.prog.funcs[75]?).getD default, by kernel_rfl, by kernel_rfl, by kernel_rfl, by kernel_rfl, by kernel_rfl⟩⟩
theorem wrap_neg {b : Nat} (hb : b < 2 ^ 64) : decide (IntKind.i64.wrap b < 0) = decide (2 ^ 63 ≤ b) := by
  have h1 : IntKind.i64.bits = 64 := rfl
  have h2 : IntKind.i64.signed = true := rfl
  unfold IntKind.wrap
  simp only [h1, h2, Bool.true_and, decide_eq_true_eq]
  have hm : (b : Int) % 2 ^ 64 = b := Int.emod_eq_of_lt (by omega) (by omega)
  rw [hm]
  have e1 : (2 : Int) ^ (64 - 1) = 9223372036854775808 := by decide
  have e2 : (2 : Int) ^ 64 = 18446744073709551616 := by decide
  rw [e1, e2]
  by_cases h : 2 ^ 63 ≤ b
  · rw [if_pos (by omega)]; simp only [h, decide_true]; exact decide_eq_true (by omega)
  · rw [if_neg (by omega)]; simp only [h, decide_false]; exact decide_eq_false (by omega)
theorem wrap_small {b : Nat} (hb : b < 2 ^ 32) : IntKind.i64.wrap b = b := IntWalk.i64_in _ (by omega)
attribute [local irreducible] WS RS Done OpJ Then InBlock Round Ret Env.sub FnH
theorem signbit_fn (x : FV) (b : Nat) (hx : x = some b) (hb : b < 2 ^ 64) : Fn Tryz.prog 64 (fun _ => [.f .f64 x]) (.raw (.bool (decide (2 ^ 63 ≤ b)))) := by
  refine fn_intro Tryz.func64 rfl Tryz.ntmps64 (fun _ => Nat.le_of_ble_eq_true rfl) fun w0 => ?_
  repeat first | refine zai rfl rfl ?_ | refine zaj rfl rfl rfl rfl ?_ | refine zaa rfl (zay rfl) ?_ | refine zaa rfl (zaz rfl) ?_ | (refine zac ?_; first | refine zaa rfl (zba rfl rfl rfl) ?_ | refine zaa rfl (zbb rfl rfl (by omega)) ?_ | refine zaa rfl (zbc rfl rfl (by omega)) ?_ | refine zaa rfl (zbd rfl rfl rfl) ?_ | refine zaa rfl (zbe rfl rfl) ?_ | refine zaa rfl (zbf rfl rfl) ?_ | refine zaa rfl (zbg rfl rfl) ?_ | refine zaa rfl (zbh rfl rfl) ?_ | refine zaa rfl (zbi rfl rfl) ?_ | refine zaa rfl (zbj rfl rfl) ?_ | refine zaa rfl (zbk rfl rfl) ?_ | refine zaa rfl (zbl rfl rfl) ?_) | (refine zad ?_; first | refine zaa rfl (zbm rfl) ?_ | refine zaa rfl (zbn rfl) ?_ | refine zaa rfl (zbp rfl) ?_ | refine zaa rfl (zbq rfl) ?_ | refine zaa rfl (zbr rfl rfl) ?_) | refine zaa rfl (zbu rfl rfl) ?_ | refine zaa rfl (zbv rfl rfl (by omega) (by omega)) ?_ | refine zaa rfl (zbw rfl rfl (by omega) (by omega)) ?_ | refine zaa rfl (zbx rfl) ?_ | refine zaa rfl (zby rfl) ?_ | refine zaa rfl (zbz rfl rfl) ?_ | refine zaa rfl (zca rfl rfl) ?_ | refine zaa rfl (zcb rfl rfl) ?_ | refine zaa rfl (zcc rfl) ?_ | refine zah ?_ | (refine zcr ?_; first | refine zcs ?_ | refine zct ?_ | refine zcu ?_ | refine zcv ?_ | refine zcw ?_ | refine zcx ?_ | refine zcy rfl ?_ | refine zcz ?_ | refine zda ?_) | (refine zdb ?_; first | refine zdc ?_ | refine zdd ?_ | refine zde ?_ | refine zdf ?_ | refine zdg ?_ | refine zdh ?_ | refine zdi rfl ?_ | refine zdj rfl ?_) | refine zaa rfl (opj_bits64 rfl rfl hx) ?_ | refine zaa rfl (opj_iint rfl) ?_
  exact done_ret1B rfl () rfl rfl (wrap_neg hb) trivial (List.nil_sublist _)
theorem wide_some' {a : Nat} (h : (FloatKind.f32.decode a).isNaN = false) (ha : a < 2 ^ 32) : ∃ w, fconv .f32 .f64 (some a) = some w ∧ w < 2 ^ 64 := by
  have h1 := wide_some a h
  cases hw : fconv .f32 .f64 (some a) with
  | none => exact absurd hw h1
  | some w => exact ⟨w, rfl, floatToFloatBits_lt (s := .f32) (d := .f64) (b := a) ha hw⟩
theorem self_eq {a : Nat} (h : (FloatKind.f32.decode a).isNaN = false) : fcmp .f32 (some a) (some a) = some .eq := order_refl h
theorem cmp_same {a b : Nat} (ha : Ok32 (some a)) (hb : Ok32 (some b)) {wa wb : Nat} (h1 : fconv .f32 .f64 (some a) = some wa) (h2 : fconv .f32 .f64 (some b) = some wb) :
    (cmpB .eql (fcmp .f32 (some a) (some b)) && (decide (2 ^ 63 ≤ wa) == decide (2 ^ 63 ≤ wb))) = (a == b) := by
  rw [wide_sign ha.some.1 h1, wide_sign hb.some.1 h2]
  by_cases hab : a = b
  · subst hab
    rw [self_eq ha.some.2]
    simp [cmpB]
  · have hne : (a == b) = false := by simpa using hab
    rw [hne]
    rw [Bool.and_eq_false_iff]
    by_cases hc : fcmp .f32 (some a) (some b) = some .eq
    · right
      have : ¬ decide (2 ^ 31 ≤ a) = decide (2 ^ 31 ≤ b) := fun h => hab (bits_eq ha.some.1 hb.some.1 hc h)
      simpa using this
    · left
      show (fcmp .f32 (some a) (some b) == some .eq) = false
      cases hx : fcmp .f32 (some a) (some b) with
      | none => rfl
      | some o => cases o <;> first | rfl | exact absurd hx hc

theorem sameNumber_fn (x y : FV) (hx : Ok32 x) (hy : Ok32 y) : Fn Tryz.prog 49 (fun _ => [.f .f32 x, .f .f32 y]) (.raw (.bool (sameB x y))) := by
  cases x with
  | none =>
    cases y with
    | none =>
      refine fn_intro Tryz.func49 rfl Tryz.ntmps49 (fun _ => Nat.le_of_ble_eq_true rfl) fun w0 => ?_
      repeat first | refine zai rfl rfl ?_ | refine zaj rfl rfl rfl rfl ?_ | refine zaa rfl (zay rfl) ?_ | refine zaa rfl (zaz rfl) ?_ | (refine zac ?_; first | refine zaa rfl (zba rfl rfl rfl) ?_ | refine zaa rfl (zbb rfl rfl (by omega)) ?_ | refine zaa rfl (zbc rfl rfl (by omega)) ?_ | refine zaa rfl (zbd rfl rfl rfl) ?_ | refine zaa rfl (zbe rfl rfl) ?_ | refine zaa rfl (zbf rfl rfl) ?_ | refine zaa rfl (zbg rfl rfl) ?_ | refine zaa rfl (zbh rfl rfl) ?_ | refine zaa rfl (zbi rfl rfl) ?_ | refine zaa rfl (zbj rfl rfl) ?_ | refine zaa rfl (zbk rfl rfl) ?_ | refine zaa rfl (zbl rfl rfl) ?_) | (refine zad ?_; first | refine zaa rfl (zbm rfl) ?_ | refine zaa rfl (zbn rfl) ?_ | refine zaa rfl (zbp rfl) ?_ | refine zaa rfl (zbq rfl) ?_ | refine zaa rfl (zbr rfl rfl) ?_) | refine zaa rfl (zbu rfl rfl) ?_ | refine zaa rfl (zbv rfl rfl (by omega) (by omega)) ?_ | refine zaa rfl (zbw rfl rfl (by omega) (by omega)) ?_ | refine zaa rfl (zbx rfl) ?_ | refine zaa rfl (zby rfl) ?_ | refine zaa rfl (zbz rfl rfl) ?_ | refine zaa rfl (zca rfl rfl) ?_ | refine zaa rfl (zcb rfl rfl) ?_ | refine zaa rfl (zcc rfl) ?_ | refine zah ?_ | (refine zcr ?_; first | refine zcs ?_ | refine zct ?_ | refine zcu ?_ | refine zcv ?_ | refine zcw ?_ | refine zcx ?_ | refine zcy rfl ?_ | refine zcz ?_ | refine zda ?_) | (refine zdb ?_; first | refine zdc ?_ | refine zdd ?_ | refine zde ?_ | refine zdf ?_ | refine zdg ?_ | refine zdh ?_ | refine zdi rfl ?_ | refine zdj rfl ?_)
      exact done_ret1 rfl () rfl trivial (List.nil_sublist _)
    | some b =>
      have hs : cmpB .neq (fcmp .f32 (some b) (some b)) = false := by rw [self_eq hy.some.2]; rfl
      refine fn_intro Tryz.func49 rfl Tryz.ntmps49 (fun _ => Nat.le_of_ble_eq_true rfl) fun w0 => ?_
      repeat first | refine zai rfl rfl ?_ | refine zaj rfl rfl rfl rfl ?_ | refine zaa rfl (zay rfl) ?_ | refine zaa rfl (zaz rfl) ?_ | (refine zac ?_; first | refine zaa rfl (zba rfl rfl rfl) ?_ | refine zaa rfl (zbb rfl rfl (by omega)) ?_ | refine zaa rfl (zbc rfl rfl (by omega)) ?_ | refine zaa rfl (zbd rfl rfl rfl) ?_ | refine zaa rfl (zbe rfl rfl) ?_ | refine zaa rfl (zbf rfl rfl) ?_ | refine zaa rfl (zbg rfl rfl) ?_ | refine zaa rfl (zbh rfl rfl) ?_ | refine zaa rfl (zbi rfl rfl) ?_ | refine zaa rfl (zbj rfl rfl) ?_ | refine zaa rfl (zbk rfl rfl) ?_ | refine zaa rfl (zbl rfl rfl) ?_) | (refine zad ?_; first | refine zaa rfl (zbm rfl) ?_ | refine zaa rfl (zbn rfl) ?_ | refine zaa rfl (zbp rfl) ?_ | refine zaa rfl (zbq rfl) ?_ | refine zaa rfl (zbr rfl rfl) ?_) | refine zaa rfl (zbu rfl rfl) ?_ | refine zaa rfl (zbv rfl rfl (by omega) (by omega)) ?_ | refine zaa rfl (zbw rfl rfl (by omega) (by omega)) ?_ | refine zaa rfl (zbx rfl) ?_ | refine zaa rfl (zby rfl) ?_ | refine zaa rfl (zbz rfl rfl) ?_ | refine zaa rfl (zca rfl rfl) ?_ | refine zaa rfl (zcb rfl rfl) ?_ | refine zaa rfl (zcc rfl) ?_ | refine zah ?_ | (refine zcr ?_; first | refine zcs ?_ | refine zct ?_ | refine zcu ?_ | refine zcv ?_ | refine zcw ?_ | refine zcx ?_ | refine zcy rfl ?_ | refine zcz ?_ | refine zda ?_) | (refine zdb ?_; first | refine zdc ?_ | refine zdd ?_ | refine zde ?_ | refine zdf ?_ | refine zdg ?_ | refine zdh ?_ | refine zdi rfl ?_ | refine zdj rfl ?_)
      refine done_ret1B rfl () rfl rfl ?_ trivial (List.nil_sublist _)
      exact hs
  | some a =>
    have hsa : cmpB .neq (fcmp .f32 (some a) (some a)) = false := by rw [self_eq hx.some.2]; rfl
    cases y with
    | none =>
      refine fn_intro Tryz.func49 rfl Tryz.ntmps49 (fun _ => Nat.le_of_ble_eq_true rfl) fun w0 => ?_
      repeat first | refine zai rfl rfl ?_ | refine zaj rfl rfl rfl rfl ?_ | refine zaa rfl (zay rfl) ?_ | refine zaa rfl (zaz rfl) ?_ | (refine zac ?_; first | refine zaa rfl (zba rfl rfl rfl) ?_ | refine zaa rfl (zbb rfl rfl (by omega)) ?_ | refine zaa rfl (zbc rfl rfl (by omega)) ?_ | refine zaa rfl (zbd rfl rfl rfl) ?_ | refine zaa rfl (zbe rfl rfl) ?_ | refine zaa rfl (zbf rfl rfl) ?_ | refine zaa rfl (zbg rfl rfl) ?_ | refine zaa rfl (zbh rfl rfl) ?_ | refine zaa rfl (zbi rfl rfl) ?_ | refine zaa rfl (zbj rfl rfl) ?_ | refine zaa rfl (zbk rfl rfl) ?_ | refine zaa rfl (zbl rfl rfl) ?_) | (refine zad ?_; first | refine zaa rfl (zbm rfl) ?_ | refine zaa rfl (zbn rfl) ?_ | refine zaa rfl (zbp rfl) ?_ | refine zaa rfl (zbq rfl) ?_ | refine zaa rfl (zbr rfl rfl) ?_) | refine zaa rfl (zbu rfl rfl) ?_ | refine zaa rfl (zbv rfl rfl (by omega) (by omega)) ?_ | refine zaa rfl (zbw rfl rfl (by omega) (by omega)) ?_ | refine zaa rfl (zbx rfl) ?_ | refine zaa rfl (zby rfl) ?_ | refine zaa rfl (zbz rfl rfl) ?_ | refine zaa rfl (zca rfl rfl) ?_ | refine zaa rfl (zcb rfl rfl) ?_ | refine zaa rfl (zcc rfl) ?_ | refine zah ?_ | (refine zcr ?_; first | refine zcs ?_ | refine zct ?_ | refine zcu ?_ | refine zcv ?_ | refine zcw ?_ | refine zcx ?_ | refine zcy rfl ?_ | refine zcz ?_ | refine zda ?_) | (refine zdb ?_; first | refine zdc ?_ | refine zdd ?_ | refine zde ?_ | refine zdf ?_ | refine zdg ?_ | refine zdh ?_ | refine zdi rfl ?_ | refine zdj rfl ?_)
      simp only [hsa]
      repeat first | refine zai rfl rfl ?_ | refine zaj rfl rfl rfl rfl ?_ | refine zaa rfl (zay rfl) ?_ | refine zaa rfl (zaz rfl) ?_ | (refine zac ?_; first | refine zaa rfl (zba rfl rfl rfl) ?_ | refine zaa rfl (zbb rfl rfl (by omega)) ?_ | refine zaa rfl (zbc rfl rfl (by omega)) ?_ | refine zaa rfl (zbd rfl rfl rfl) ?_ | refine zaa rfl (zbe rfl rfl) ?_ | refine zaa rfl (zbf rfl rfl) ?_ | refine zaa rfl (zbg rfl rfl) ?_ | refine zaa rfl (zbh rfl rfl) ?_ | refine zaa rfl (zbi rfl rfl) ?_ | refine zaa rfl (zbj rfl rfl) ?_ | refine zaa rfl (zbk rfl rfl) ?_ | refine zaa rfl (zbl rfl rfl) ?_) | (refine zad ?_; first | refine zaa rfl (zbm rfl) ?_ | refine zaa rfl (zbn rfl) ?_ | refine zaa rfl (zbp rfl) ?_ | refine zaa rfl (zbq rfl) ?_ | refine zaa rfl (zbr rfl rfl) ?_) | refine zaa rfl (zbu rfl rfl) ?_ | refine zaa rfl (zbv rfl rfl (by omega) (by omega)) ?_ | refine zaa rfl (zbw rfl rfl (by omega) (by omega)) ?_ | refine zaa rfl (zbx rfl) ?_ | refine zaa rfl (zby rfl) ?_ | refine zaa rfl (zbz rfl rfl) ?_ | refine zaa rfl (zca rfl rfl) ?_ | refine zaa rfl (zcb rfl rfl) ?_ | refine zaa rfl (zcc rfl) ?_ | refine zah ?_ | (refine zcr ?_; first | refine zcs ?_ | refine zct ?_ | refine zcu ?_ | refine zcv ?_ | refine zcw ?_ | refine zcx ?_ | refine zcy rfl ?_ | refine zcz ?_ | refine zda ?_) | (refine zdb ?_; first | refine zdc ?_ | refine zdd ?_ | refine zde ?_ | refine zdf ?_ | refine zdg ?_ | refine zdh ?_ | refine zdi rfl ?_ | refine zdj rfl ?_)
      simp only [hsa]
      repeat first | refine zai rfl rfl ?_ | refine zaj rfl rfl rfl rfl ?_ | refine zaa rfl (zay rfl) ?_ | refine zaa rfl (zaz rfl) ?_ | (refine zac ?_; first | refine zaa rfl (zba rfl rfl rfl) ?_ | refine zaa rfl (zbb rfl rfl (by omega)) ?_ | refine zaa rfl (zbc rfl rfl (by omega)) ?_ | refine zaa rfl (zbd rfl rfl rfl) ?_ | refine zaa rfl (zbe rfl rfl) ?_ | refine zaa rfl (zbf rfl rfl) ?_ | refine zaa rfl (zbg rfl rfl) ?_ | refine zaa rfl (zbh rfl rfl) ?_ | refine zaa rfl (zbi rfl rfl) ?_ | refine zaa rfl (zbj rfl rfl) ?_ | refine zaa rfl (zbk rfl rfl) ?_ | refine zaa rfl (zbl rfl rfl) ?_) | (refine zad ?_; first | refine zaa rfl (zbm rfl) ?_ | refine zaa rfl (zbn rfl) ?_ | refine zaa rfl (zbp rfl) ?_ | refine zaa rfl (zbq rfl) ?_ | refine zaa rfl (zbr rfl rfl) ?_) | refine zaa rfl (zbu rfl rfl) ?_ | refine zaa rfl (zbv rfl rfl (by omega) (by omega)) ?_ | refine zaa rfl (zbw rfl rfl (by omega) (by omega)) ?_ | refine zaa rfl (zbx rfl) ?_ | refine zaa rfl (zby rfl) ?_ | refine zaa rfl (zbz rfl rfl) ?_ | refine zaa rfl (zca rfl rfl) ?_ | refine zaa rfl (zcb rfl rfl) ?_ | refine zaa rfl (zcc rfl) ?_ | refine zah ?_ | (refine zcr ?_; first | refine zcs ?_ | refine zct ?_ | refine zcu ?_ | refine zcv ?_ | refine zcw ?_ | refine zcx ?_ | refine zcy rfl ?_ | refine zcz ?_ | refine zda ?_) | (refine zdb ?_; first | refine zdc ?_ | refine zdd ?_ | refine zde ?_ | refine zdf ?_ | refine zdg ?_ | refine zdh ?_ | refine zdi rfl ?_ | refine zdj rfl ?_)
      exact done_ret1 rfl () rfl trivial (List.nil_sublist _)
    | some b =>
      have hsb : cmpB .neq (fcmp .f32 (some b) (some b)) = false := by rw [self_eq hy.some.2]; rfl
      obtain ⟨wa, h1, hwa⟩ := wide_some' hx.some.2 hx.some.1
      obtain ⟨wb, h2, hwb⟩ := wide_some' hy.some.2 hy.some.1
      have hc := cmp_same hx hy h1 h2
      have hSa := signbit_fn _ wa h1 hwa
      have hSb := signbit_fn _ wb h2 hwb
      refine fn_intro Tryz.func49 rfl Tryz.ntmps49 (fun _ => Nat.le_of_ble_eq_true rfl) fun w0 => ?_
      repeat first | refine zai rfl rfl ?_ | refine zaj rfl rfl rfl rfl ?_ | refine zaa rfl (zay rfl) ?_ | refine zaa rfl (zaz rfl) ?_ | (refine zac ?_; first | refine zaa rfl (zba rfl rfl rfl) ?_ | refine zaa rfl (zbb rfl rfl (by omega)) ?_ | refine zaa rfl (zbc rfl rfl (by omega)) ?_ | refine zaa rfl (zbd rfl rfl rfl) ?_ | refine zaa rfl (zbe rfl rfl) ?_ | refine zaa rfl (zbf rfl rfl) ?_ | refine zaa rfl (zbg rfl rfl) ?_ | refine zaa rfl (zbh rfl rfl) ?_ | refine zaa rfl (zbi rfl rfl) ?_ | refine zaa rfl (zbj rfl rfl) ?_ | refine zaa rfl (zbk rfl rfl) ?_ | refine zaa rfl (zbl rfl rfl) ?_) | (refine zad ?_; first | refine zaa rfl (zbm rfl) ?_ | refine zaa rfl (zbn rfl) ?_ | refine zaa rfl (zbp rfl) ?_ | refine zaa rfl (zbq rfl) ?_ | refine zaa rfl (zbr rfl rfl) ?_) | refine zaa rfl (zbu rfl rfl) ?_ | refine zaa rfl (zbv rfl rfl (by omega) (by omega)) ?_ | refine zaa rfl (zbw rfl rfl (by omega) (by omega)) ?_ | refine zaa rfl (zbx rfl) ?_ | refine zaa rfl (zby rfl) ?_ | refine zaa rfl (zbz rfl rfl) ?_ | refine zaa rfl (zca rfl rfl) ?_ | refine zaa rfl (zcb rfl rfl) ?_ | refine zaa rfl (zcc rfl) ?_ | refine zah ?_ | (refine zcr ?_; first | refine zcs ?_ | refine zct ?_ | refine zcu ?_ | refine zcv ?_ | refine zcw ?_ | refine zcx ?_ | refine zcy rfl ?_ | refine zcz ?_ | refine zda ?_) | (refine zdb ?_; first | refine zdc ?_ | refine zdd ?_ | refine zde ?_ | refine zdf ?_ | refine zdg ?_ | refine zdh ?_ | refine zdi rfl ?_ | refine zdj rfl ?_)
      simp only [hsa]
      repeat first | refine zai rfl rfl ?_ | refine zaj rfl rfl rfl rfl ?_ | refine zaa rfl (zay rfl) ?_ | refine zaa rfl (zaz rfl) ?_ | (refine zac ?_; first | refine zaa rfl (zba rfl rfl rfl) ?_ | refine zaa rfl (zbb rfl rfl (by omega)) ?_ | refine zaa rfl (zbc rfl rfl (by omega)) ?_ | refine zaa rfl (zbd rfl rfl rfl) ?_ | refine zaa rfl (zbe rfl rfl) ?_ | refine zaa rfl (zbf rfl rfl) ?_ | refine zaa rfl (zbg rfl rfl) ?_ | refine zaa rfl (zbh rfl rfl) ?_ | refine zaa rfl (zbi rfl rfl) ?_ | refine zaa rfl (zbj rfl rfl) ?_ | refine zaa rfl (zbk rfl rfl) ?_ | refine zaa rfl (zbl rfl rfl) ?_) | (refine zad ?_; first | refine zaa rfl (zbm rfl) ?_ | refine zaa rfl (zbn rfl) ?_ | refine zaa rfl (zbp rfl) ?_ | refine zaa rfl (zbq rfl) ?_ | refine zaa rfl (zbr rfl rfl) ?_) | refine zaa rfl (zbu rfl rfl) ?_ | refine zaa rfl (zbv rfl rfl (by omega) (by omega)) ?_ | refine zaa rfl (zbw rfl rfl (by omega) (by omega)) ?_ | refine zaa rfl (zbx rfl) ?_ | refine zaa rfl (zby rfl) ?_ | refine zaa rfl (zbz rfl rfl) ?_ | refine zaa rfl (zca rfl rfl) ?_ | refine zaa rfl (zcb rfl rfl) ?_ | refine zaa rfl (zcc rfl) ?_ | refine zah ?_ | (refine zcr ?_; first | refine zcs ?_ | refine zct ?_ | refine zcu ?_ | refine zcv ?_ | refine zcw ?_ | refine zcx ?_ | refine zcy rfl ?_ | refine zcz ?_ | refine zda ?_) | (refine zdb ?_; first | refine zdc ?_ | refine zdd ?_ | refine zde ?_ | refine zdf ?_ | refine zdg ?_ | refine zdh ?_ | refine zdi rfl ?_ | refine zdj rfl ?_)
      simp only [hsb]
      repeat first | refine zai rfl rfl ?_ | refine zaj rfl rfl rfl rfl ?_ | refine zaa rfl (zay rfl) ?_ | refine zaa rfl (zaz rfl) ?_ | (refine zac ?_; first | refine zaa rfl (zba rfl rfl rfl) ?_ | refine zaa rfl (zbb rfl rfl (by omega)) ?_ | refine zaa rfl (zbc rfl rfl (by omega)) ?_ | refine zaa rfl (zbd rfl rfl rfl) ?_ | refine zaa rfl (zbe rfl rfl) ?_ | refine zaa rfl (zbf rfl rfl) ?_ | refine zaa rfl (zbg rfl rfl) ?_ | refine zaa rfl (zbh rfl rfl) ?_ | refine zaa rfl (zbi rfl rfl) ?_ | refine zaa rfl (zbj rfl rfl) ?_ | refine zaa rfl (zbk rfl rfl) ?_ | refine zaa rfl (zbl rfl rfl) ?_) | (refine zad ?_; first | refine zaa rfl (zbm rfl) ?_ | refine zaa rfl (zbn rfl) ?_ | refine zaa rfl (zbp rfl) ?_ | refine zaa rfl (zbq rfl) ?_ | refine zaa rfl (zbr rfl rfl) ?_) | refine zaa rfl (zbu rfl rfl) ?_ | refine zaa rfl (zbv rfl rfl (by omega) (by omega)) ?_ | refine zaa rfl (zbw rfl rfl (by omega) (by omega)) ?_ | refine zaa rfl (zbx rfl) ?_ | refine zaa rfl (zby rfl) ?_ | refine zaa rfl (zbz rfl rfl) ?_ | refine zaa rfl (zca rfl rfl) ?_ | refine zaa rfl (zcb rfl rfl) ?_ | refine zaa rfl (zcc rfl) ?_ | refine zah ?_ | (refine zcr ?_; first | refine zcs ?_ | refine zct ?_ | refine zcu ?_ | refine zcv ?_ | refine zcw ?_ | refine zcx ?_ | refine zcy rfl ?_ | refine zcz ?_ | refine zda ?_) | (refine zdb ?_; first | refine zdc ?_ | refine zdd ?_ | refine zde ?_ | refine zdf ?_ | refine zdg ?_ | refine zdh ?_ | refine zdi rfl ?_ | refine zdj rfl ?_)
      cases hE : cmpB .eql (fcmp .f32 (some a) (some b))
      · repeat first | refine zai rfl rfl ?_ | refine zaj rfl rfl rfl rfl ?_ | refine zaa rfl (zay rfl) ?_ | refine zaa rfl (zaz rfl) ?_ | (refine zac ?_; first | refine zaa rfl (zba rfl rfl rfl) ?_ | refine zaa rfl (zbb rfl rfl (by omega)) ?_ | refine zaa rfl (zbc rfl rfl (by omega)) ?_ | refine zaa rfl (zbd rfl rfl rfl) ?_ | refine zaa rfl (zbe rfl rfl) ?_ | refine zaa rfl (zbf rfl rfl) ?_ | refine zaa rfl (zbg rfl rfl) ?_ | refine zaa rfl (zbh rfl rfl) ?_ | refine zaa rfl (zbi rfl rfl) ?_ | refine zaa rfl (zbj rfl rfl) ?_ | refine zaa rfl (zbk rfl rfl) ?_ | refine zaa rfl (zbl rfl rfl) ?_) | (refine zad ?_; first | refine zaa rfl (zbm rfl) ?_ | refine zaa rfl (zbn rfl) ?_ | refine zaa rfl (zbp rfl) ?_ | refine zaa rfl (zbq rfl) ?_ | refine zaa rfl (zbr rfl rfl) ?_) | refine zaa rfl (zbu rfl rfl) ?_ | refine zaa rfl (zbv rfl rfl (by omega) (by omega)) ?_ | refine zaa rfl (zbw rfl rfl (by omega) (by omega)) ?_ | refine zaa rfl (zbx rfl) ?_ | refine zaa rfl (zby rfl) ?_ | refine zaa rfl (zbz rfl rfl) ?_ | refine zaa rfl (zca rfl rfl) ?_ | refine zaa rfl (zcb rfl rfl) ?_ | refine zaa rfl (zcc rfl) ?_ | refine zah ?_ | (refine zcr ?_; first | refine zcs ?_ | refine zct ?_ | refine zcu ?_ | refine zcv ?_ | refine zcw ?_ | refine zcx ?_ | refine zcy rfl ?_ | refine zcz ?_ | refine zda ?_) | (refine zdb ?_; first | refine zdc ?_ | refine zdd ?_ | refine zde ?_ | refine zdf ?_ | refine zdg ?_ | refine zdh ?_ | refine zdi rfl ?_ | refine zdj rfl ?_)
        refine done_ret1B rfl () rfl rfl ?_ trivial (List.nil_sublist _)
        show _ = (a == b)
        rw [← hc, hE]; rfl
      · repeat first | refine zai rfl rfl ?_ | refine zaj rfl rfl rfl rfl ?_ | refine zaa rfl (zay rfl) ?_ | refine zaa rfl (zaz rfl) ?_ | (refine zac ?_; first | refine zaa rfl (zba rfl rfl rfl) ?_ | refine zaa rfl (zbb rfl rfl (by omega)) ?_ | refine zaa rfl (zbc rfl rfl (by omega)) ?_ | refine zaa rfl (zbd rfl rfl rfl) ?_ | refine zaa rfl (zbe rfl rfl) ?_ | refine zaa rfl (zbf rfl rfl) ?_ | refine zaa rfl (zbg rfl rfl) ?_ | refine zaa rfl (zbh rfl rfl) ?_ | refine zaa rfl (zbi rfl rfl) ?_ | refine zaa rfl (zbj rfl rfl) ?_ | refine zaa rfl (zbk rfl rfl) ?_ | refine zaa rfl (zbl rfl rfl) ?_) | (refine zad ?_; first | refine zaa rfl (zbm rfl) ?_ | refine zaa rfl (zbn rfl) ?_ | refine zaa rfl (zbp rfl) ?_ | refine zaa rfl (zbq rfl) ?_ | refine zaa rfl (zbr rfl rfl) ?_ | (refine zaa rfl (zci rfl rfl (hSa) ?_) ?_; (focus ((repeat (first | exact Takes.nil | refine Takes.sl ?_ | refine Takes.own (by (repeat (first | exact mh | refine mt ?_)); done) (by simp) (by omega) (by simp only [maxLen]; omega) ?_ | refine Takes.same ?_)); done))) | (refine zaa rfl (zci rfl rfl (hSb) ?_) ?_; (focus ((repeat (first | exact Takes.nil | refine Takes.sl ?_ | refine Takes.own (by (repeat (first | exact mh | refine mt ?_)); done) (by simp) (by omega) (by simp only [maxLen]; omega) ?_ | refine Takes.same ?_)); done)))) | refine zaa rfl (zbu rfl rfl) ?_ | refine zaa rfl (zbv rfl rfl (by omega) (by omega)) ?_ | refine zaa rfl (zbw rfl rfl (by omega) (by omega)) ?_ | refine zaa rfl (zbx rfl) ?_ | refine zaa rfl (zby rfl) ?_ | refine zaa rfl (zbz rfl rfl) ?_ | refine zaa rfl (zca rfl rfl) ?_ | refine zaa rfl (zcb rfl rfl) ?_ | refine zaa rfl (zcc rfl) ?_ | refine zah ?_ | (refine zcr ?_; first | refine zcs ?_ | refine zct ?_ | refine zcu ?_ | refine zcv ?_ | refine zcw ?_ | refine zcx ?_ | refine zcy rfl ?_ | refine zcz ?_ | refine zda ?_) | (refine zdb ?_; first | refine zdc ?_ | refine zdd ?_ | refine zde ?_ | refine zdf ?_ | refine zdg ?_ | refine zdh ?_ | refine zdi rfl ?_ | refine zdj rfl ?_)
        refine done_ret1B rfl () rfl rfl ?_ trivial (List.nil_sublist _)
        show _ = (a == b)
        rw [← hc, hE]; rfl
def bitsF : FV → Int
  | none => 2143289344
  | some b => b
theorem l01Bits_fn (x : FV) (hx : Ok32 x) : Fn Tryz.prog 53 (fun _ => [.f .f32 x]) (.raw (.int .i64 (bitsF x))) := by
  cases x with
  | none =>
    refine fn_intro Tryz.func53 rfl Tryz.ntmps53 (fun _ => Nat.le_of_ble_eq_true rfl) fun w0 => ?_
    repeat first | refine zai rfl rfl ?_ | refine zaj rfl rfl rfl rfl ?_ | refine zaa rfl (zay rfl) ?_ | refine zaa rfl (zaz rfl) ?_ | (refine zac ?_; first | refine zaa rfl (zba rfl rfl rfl) ?_ | refine zaa rfl (zbb rfl rfl (by omega)) ?_ | refine zaa rfl (zbc rfl rfl (by omega)) ?_ | refine zaa rfl (zbd rfl rfl rfl) ?_ | refine zaa rfl (zbe rfl rfl) ?_ | refine zaa rfl (zbf rfl rfl) ?_ | refine zaa rfl (zbg rfl rfl) ?_ | refine zaa rfl (zbh rfl rfl) ?_ | refine zaa rfl (zbi rfl rfl) ?_ | refine zaa rfl (zbj rfl rfl) ?_ | refine zaa rfl (zbk rfl rfl) ?_ | refine zaa rfl (zbl rfl rfl) ?_) | (refine zad ?_; first | refine zaa rfl (zbm rfl) ?_ | refine zaa rfl (zbn rfl) ?_ | refine zaa rfl (zbp rfl) ?_ | refine zaa rfl (zbq rfl) ?_ | refine zaa rfl (zbr rfl rfl) ?_) | refine zaa rfl (zbu rfl rfl) ?_ | refine zaa rfl (zbv rfl rfl (by omega) (by omega)) ?_ | refine zaa rfl (zbw rfl rfl (by omega) (by omega)) ?_ | refine zaa rfl (zbx rfl) ?_ | refine zaa rfl (zby rfl) ?_ | refine zaa rfl (zbz rfl rfl) ?_ | refine zaa rfl (zca rfl rfl) ?_ | refine zaa rfl (zcb rfl rfl) ?_ | refine zaa rfl (zcc rfl) ?_ | refine zah ?_ | (refine zcr ?_; first | refine zcs ?_ | refine zct ?_ | refine zcu ?_ | refine zcv ?_ | refine zcw ?_ | refine zcx ?_ | refine zcy rfl ?_ | refine zcz ?_ | refine zda ?_) | (refine zdb ?_; first | refine zdc ?_ | refine zdd ?_ | refine zde ?_ | refine zdf ?_ | refine zdg ?_ | refine zdh ?_ | refine zdi rfl ?_ | refine zdj rfl ?_)
    exact done_ret1 rfl () rfl trivial (List.nil_sublist _)
  | some a =>
    have hs : cmpB .neq (fcmp .f32 (some a) (some a)) = false := by rw [self_eq hx.some.2]; rfl
    refine fn_intro Tryz.func53 rfl Tryz.ntmps53 (fun _ => Nat.le_of_ble_eq_true rfl) fun w0 => ?_
    repeat first | refine zai rfl rfl ?_ | refine zaj rfl rfl rfl rfl ?_ | refine zaa rfl (zay rfl) ?_ | refine zaa rfl (zaz rfl) ?_ | (refine zac ?_; first | refine zaa rfl (zba rfl rfl rfl) ?_ | refine zaa rfl (zbb rfl rfl (by omega)) ?_ | refine zaa rfl (zbc rfl rfl (by omega)) ?_ | refine zaa rfl (zbd rfl rfl rfl) ?_ | refine zaa rfl (zbe rfl rfl) ?_ | refine zaa rfl (zbf rfl rfl) ?_ | refine zaa rfl (zbg rfl rfl) ?_ | refine zaa rfl (zbh rfl rfl) ?_ | refine zaa rfl (zbi rfl rfl) ?_ | refine zaa rfl (zbj rfl rfl) ?_ | refine zaa rfl (zbk rfl rfl) ?_ | refine zaa rfl (zbl rfl rfl) ?_) | (refine zad ?_; first | refine zaa rfl (zbm rfl) ?_ | refine zaa rfl (zbn rfl) ?_ | refine zaa rfl (zbp rfl) ?_ | refine zaa rfl (zbq rfl) ?_ | refine zaa rfl (zbr rfl rfl) ?_) | refine zaa rfl (zbu rfl rfl) ?_ | refine zaa rfl (zbv rfl rfl (by omega) (by omega)) ?_ | refine zaa rfl (zbw rfl rfl (by omega) (by omega)) ?_ | refine zaa rfl (zbx rfl) ?_ | refine zaa rfl (zby rfl) ?_ | refine zaa rfl (zbz rfl rfl) ?_ | refine zaa rfl (zca rfl rfl) ?_ | refine zaa rfl (zcb rfl rfl) ?_ | refine zaa rfl (zcc rfl) ?_ | refine zah ?_ | (refine zcr ?_; first | refine zcs ?_ | refine zct ?_ | refine zcu ?_ | refine zcv ?_ | refine zcw ?_ | refine zcx ?_ | refine zcy rfl ?_ | refine zcz ?_ | refine zda ?_) | (refine zdb ?_; first | refine zdc ?_ | refine zdd ?_ | refine zde ?_ | refine zdf ?_ | refine zdg ?_ | refine zdh ?_ | refine zdi rfl ?_ | refine zdj rfl ?_)
    refine ws_cond rfl (fun hc => by rw [hs] at hc; cases hc) (fun _ => ?_)
    repeat first | refine zai rfl rfl ?_ | refine zaj rfl rfl rfl rfl ?_ | refine zaa rfl (zay rfl) ?_ | refine zaa rfl (zaz rfl) ?_ | (refine zac ?_; first | refine zaa rfl (zba rfl rfl rfl) ?_ | refine zaa rfl (zbb rfl rfl (by omega)) ?_ | refine zaa rfl (zbc rfl rfl (by omega)) ?_ | refine zaa rfl (zbd rfl rfl rfl) ?_ | refine zaa rfl (zbe rfl rfl) ?_ | refine zaa rfl (zbf rfl rfl) ?_ | refine zaa rfl (zbg rfl rfl) ?_ | refine zaa rfl (zbh rfl rfl) ?_ | refine zaa rfl (zbi rfl rfl) ?_ | refine zaa rfl (zbj rfl rfl) ?_ | refine zaa rfl (zbk rfl rfl) ?_ | refine zaa rfl (zbl rfl rfl) ?_) | (refine zad ?_; first | refine zaa rfl (zbm rfl) ?_ | refine zaa rfl (zbn rfl) ?_ | refine zaa rfl (zbp rfl) ?_ | refine zaa rfl (zbq rfl) ?_ | refine zaa rfl (zbr rfl rfl) ?_) | refine zaa rfl (zbu rfl rfl) ?_ | refine zaa rfl (zbv rfl rfl (by omega) (by omega)) ?_ | refine zaa rfl (zbw rfl rfl (by omega) (by omega)) ?_ | refine zaa rfl (zbx rfl) ?_ | refine zaa rfl (zby rfl) ?_ | refine zaa rfl (zbz rfl rfl) ?_ | refine zaa rfl (zca rfl rfl) ?_ | refine zaa rfl (zcb rfl rfl) ?_ | refine zaa rfl (zcc rfl) ?_ | refine zah ?_ | (refine zcr ?_; first | refine zcs ?_ | refine zct ?_ | refine zcu ?_ | refine zcv ?_ | refine zcw ?_ | refine zcx ?_ | refine zcy rfl ?_ | refine zcz ?_ | refine zda ?_) | (refine zdb ?_; first | refine zdc ?_ | refine zdd ?_ | refine zde ?_ | refine zdf ?_ | refine zdg ?_ | refine zdh ?_ | refine zdi rfl ?_ | refine zdj rfl ?_) | refine zaa rfl (opj_bits32 rfl rfl) ?_ | refine zaa rfl (opj_iint rfl) ?_
    rw [wrap_small hx.some.1]
    exact done_ret1 rfl () rfl trivial (List.nil_sublist _)
theorem bits_same {x y : FV} (hx : Ok32 x) (hy : Ok32 y) : decide (bitsF x = bitsF y) = sameB x y := by
  have hn : (FloatKind.f32.decode 2143289344).isNaN = true := by decide +kernel
  cases x with
  | none =>
    cases y with
    | none => rfl
    | some b =>
      have : ¬ (2143289344 : Int) = b := fun h => by
        have : b = 2143289344 := by omega
        subst this
        rw [hy.some.2] at hn; cases hn
      show decide _ = false
      exact decide_eq_false this
  | some a =>
    cases y with
    | none =>
      have : ¬ (a : Int) = 2143289344 := fun h => by
        have : a = 2143289344 := by omega
        subst this
        rw [hx.some.2] at hn; cases hn
      show decide _ = false
      exact decide_eq_false this
    | some b =>
      simp only [bitsF, sameB]
      by_cases h : a = b
      · subst h; simp
      · have : ¬ (a : Int) = b := by omega
        simp [h, this]
theorem l01Same_fn (x y : FV) (hx : Ok32 x) (hy : Ok32 y) : Fn Tryz.prog 32 (fun _ => [.f .f32 x, .f .f32 y]) (.raw (.bool (sameB x y))) := by
  have h1 := l01Bits_fn x hx
  have h2 := l01Bits_fn y hy
  refine fn_intro Tryz.func32 rfl Tryz.ntmps32 (fun _ => Nat.le_of_ble_eq_true rfl) fun w0 => ?_
  repeat first | refine zai rfl rfl ?_ | refine zaj rfl rfl rfl rfl ?_ | refine zaa rfl (zay rfl) ?_ | refine zaa rfl (zaz rfl) ?_ | (refine zac ?_; first | refine zaa rfl (zba rfl rfl rfl) ?_ | refine zaa rfl (zbb rfl rfl (by omega)) ?_ | refine zaa rfl (zbc rfl rfl (by omega)) ?_ | refine zaa rfl (zbd rfl rfl rfl) ?_ | refine zaa rfl (zbe rfl rfl) ?_ | refine zaa rfl (zbf rfl rfl) ?_ | refine zaa rfl (zbg rfl rfl) ?_ | refine zaa rfl (zbh rfl rfl) ?_ | refine zaa rfl (zbi rfl rfl) ?_ | refine zaa rfl (zbj rfl rfl) ?_ | refine zaa rfl (zbk rfl rfl) ?_ | refine zaa rfl (zbl rfl rfl) ?_) | (refine zad ?_; first | refine zaa rfl (zbm rfl) ?_ | refine zaa rfl (zbn rfl) ?_ | refine zaa rfl (zbp rfl) ?_ | refine zaa rfl (zbq rfl) ?_ | refine zaa rfl (zbr rfl rfl) ?_ | (refine zaa rfl (zci rfl rfl (h1) ?_) ?_; (focus ((repeat (first | exact Takes.nil | refine Takes.sl ?_ | refine Takes.own (by (repeat (first | exact mh | refine mt ?_)); done) (by simp) (by omega) (by simp only [maxLen]; omega) ?_ | refine Takes.same ?_)); done))) | (refine zaa rfl (zci rfl rfl (h2) ?_) ?_; (focus ((repeat (first | exact Takes.nil | refine Takes.sl ?_ | refine Takes.own (by (repeat (first | exact mh | refine mt ?_)); done) (by simp) (by omega) (by simp only [maxLen]; omega) ?_ | refine Takes.same ?_)); done)))) | refine zaa rfl (zbu rfl rfl) ?_ | refine zaa rfl (zbv rfl rfl (by omega) (by omega)) ?_ | refine zaa rfl (zbw rfl rfl (by omega) (by omega)) ?_ | refine zaa rfl (zbx rfl) ?_ | refine zaa rfl (zby rfl) ?_ | refine zaa rfl (zbz rfl rfl) ?_ | refine zaa rfl (zca rfl rfl) ?_ | refine zaa rfl (zcb rfl rfl) ?_ | refine zaa rfl (zcc rfl) ?_ | refine zah ?_ | (refine zcr ?_; first | refine zcs ?_ | refine zct ?_ | refine zcu ?_ | refine zcv ?_ | refine zcw ?_ | refine zcx ?_ | refine zcy rfl ?_ | refine zcz ?_ | refine zda ?_) | (refine zdb ?_; first | refine zdc ?_ | refine zdd ?_ | refine zde ?_ | refine zdf ?_ | refine zdg ?_ | refine zdh ?_ | refine zdi rfl ?_ | refine zdj rfl ?_)
  exact done_ret1B rfl () rfl rfl (bits_same hx hy) trivial (List.nil_sublist _)
end Go.Ab
namespace Go.Ab
def p2 (e : Int) : Rat := (2 : Rat) ^ e
theorem p2_pos (e : Int) : 0 < p2 e := Rat.zpow_pos (by decide)
theorem p2_add (a b : Int) : p2 (a + b) = p2 a * p2 b := Rat.zpow_add (by decide) a b
theorem p2_zero : p2 0 = 1 := rfl
theorem p2_nat (n : Nat) : p2 n = ((2 ^ n : Nat) : Rat) := by
  show (2 : Rat) ^ (n : Int) = _
  rw [Rat.zpow_natCast, Rat.natCast_pow]
  rfl
theorem p2_one : p2 1 = 2 := by
  have := p2_nat 1
  simpa using this
theorem p2_split {a b : Int} (h : a ≤ b) : p2 b = ((2 ^ (b - a).toNat : Nat) : Rat) * p2 a := by
  rw [← p2_nat, ← p2_add]
  congr 1
  omega
theorem one_le_two_pow (n : Nat) : (1 : Rat) ≤ ((2 ^ n : Nat) : Rat) := by
  have h : 1 ≤ 2 ^ n := Nat.one_le_two_pow
  exact_mod_cast (Rat.natCast_le_natCast.2 h)
theorem p2_le {a b : Int} (h : a ≤ b) : p2 a ≤ p2 b := by
  rw [p2_split h]
  have h1 := one_le_two_pow (b - a).toNat
  have h2 := Rat.mul_le_mul_of_nonneg_right h1 (Rat.le_of_lt (p2_pos a))
  rwa [Rat.one_mul] at h2
theorem p2_mul_neg (a : Int) : p2 a * p2 (-a) = 1 := by
  rw [← p2_add, Int.add_right_neg, p2_zero]
theorem mul_shl (m n : Nat) (e : Int) : ((m <<< n : Nat) : Rat) * p2 e = (m : Rat) * p2 (e + n) := by
  rw [Nat.shiftLeft_eq, Rat.natCast_mul, ← p2_nat, Rat.mul_assoc, ← p2_add]
  congr 2
  omega

def sgn (s : Bool) : Rat := if s then -1 else 1
def vl (s : Bool) (m : Nat) (e : Int) : Rat := sgn s * ((m : Rat) * p2 e)
theorem vl_neg (s : Bool) (m : Nat) (e : Int) : vl (!s) m e = - vl s m e := by
  unfold vl sgn
  cases s <;> simp <;> grind
theorem vl_signed (s : Bool) (m k : Nat) (e : Int) : ((Ieee.signed s m k : Int) : Rat) * p2 e = vl s m (e + k) := by
  unfold Ieee.signed vl sgn
  have h := mul_shl m k e
  cases s
  · simp only [Bool.false_eq_true, if_false]
    rw [Rat.one_mul, ← h]
    rfl
  · simp only [if_true]
    rw [Rat.intCast_neg, ← h]
    show -((m <<< k : Nat) : Rat) * p2 e = _
    grind
theorem vl_int (n : Int) (e : Int) : (n : Rat) * p2 e = vl (decide (n < 0)) n.natAbs e := by
  unfold vl sgn
  rcases (show n < 0 ∨ 0 ≤ n from by omega) with h | h
  · rw [decide_eq_true h, if_pos rfl]
    have : ((n.natAbs : Nat) : Rat) = -(n : Rat) := by
      rw [← Rat.intCast_natCast, ← Rat.intCast_neg]
      congr 1
      omega
    rw [this]
    grind
  · rw [decide_eq_false (by omega), if_neg (by decide)]
    have : ((n.natAbs : Nat) : Rat) = (n : Rat) := by
      rw [← Rat.intCast_natCast]
      congr 1
      omega
    rw [this, Rat.one_mul]
/-- The same value, whatever the sign of a nought. -/
theorem vl_zero (s : Bool) (e : Int) : vl s 0 e = 0 := by
  unfold vl
  rw [show ((0 : Nat) : Rat) = 0 from rfl, Rat.zero_mul, Rat.mul_zero]

theorem cut_err (neg : Bool) (n d : Nat) : 2 * n ≤ 2 * (Ieee.Toward.even.cut neg n d * 2 ^ d) + 2 ^ d ∧ 2 * (Ieee.Toward.even.cut neg n d * 2 ^ d) ≤ 2 * n + 2 ^ d := by
  unfold Ieee.Toward.cut
  dsimp only
  rw [Nat.one_shiftLeft]
  rcases Nat.le_total d (n.log2 + 2) with hm | hm
  · rw [Nat.min_eq_left hm]
    have hG : 0 < 2 ^ d := Nat.two_pow_pos _
    generalize 2 ^ d = G at *
    have h1 := Nat.div_add_mod n G
    have h2 := Nat.mod_lt n hG
    generalize n / G = q at *
    generalize n % G = r at *
    rw [Nat.mul_comm] at h1
    have hx : ∀ b : Bool, (q + b.toNat) * G = q * G + b.toNat * G := fun b => Nat.add_mul _ _ _
    rw [hx]
    generalize q * G = qg at *
    cases hb : (decide (G < 2 * r) || (G == 2 * r && q % 2 == 1)) with
    | true =>
      simp only [Bool.toNat_true, Nat.one_mul]
      have : G ≤ 2 * r := by
        rw [Bool.or_eq_true, Bool.and_eq_true] at hb
        rcases hb with hb | hb
        · have := of_decide_eq_true hb; omega
        · have := beq_iff_eq.1 hb.1; omega
      omega
    | false =>
      simp only [Bool.toNat_false, Nat.zero_mul]
      have : 2 * r ≤ G := by
        rw [Bool.or_eq_false_iff] at hb
        have := of_decide_eq_false hb.1
        omega
      omega
  · rw [Nat.min_eq_right hm]
    have h1 : n < 2 ^ (n.log2 + 1) := Nat.lt_log2_self
    have h2 : 2 ^ (n.log2 + 2) = 2 * 2 ^ (n.log2 + 1) := by rw [Nat.pow_succ]; omega
    have h3 : 2 ^ (n.log2 + 2) ≤ 2 ^ d := Nat.pow_le_pow_right (by decide) hm
    have h4 : n / 2 ^ (n.log2 + 2) = 0 := Nat.div_eq_of_lt (by omega)
    have h5 : n % 2 ^ (n.log2 + 2) = n := Nat.mod_eq_of_lt (by omega)
    rw [h4, h5]
    have h6 : (decide (2 ^ (n.log2 + 2) < 2 * n) || (2 ^ (n.log2 + 2) == 2 * n && 0 % 2 == 1)) = false := by
      rw [decide_eq_false (by omega)]
      simp
    rw [h6]
    simp only [Bool.toNat_false, Nat.add_zero, Nat.zero_mul]
    omega

/-- The place of the last digit that is kept. -/
def lastP (f : Ieee.Format) (m : Nat) (e : Int) : Int := max (e + m.log2 - f.fractionBits) f.leastPlace
theorem read_rung (f : Ieee.Format) (s : Bool) (a kept : Nat) (hk : kept ≤ 2 ^ (f.fractionBits + 1)) (ha : 0 < a → 2 ^ f.fractionBits ≤ kept) (hlt : a * f.binade + kept < f.infRung) :
    ∃ m' e', f.read (f.word s (a * f.binade + kept)) = .number s m' e' ∧ (m' : Rat) * p2 e' = (kept : Rat) * p2 (f.leastPlace + a) := by
  have hb : f.binade = 2 ^ f.fractionBits := rfl
  have hB : 0 < f.binade := Nat.two_pow_pos _
  have hsw : a * f.binade + kept < f.signWeight := Nat.lt_trans hlt f.infRung_lt
  have hsg : (f.word s (a * f.binade + kept) / f.signWeight % 2 == 1) = s := by
    unfold Ieee.Format.word
    cases s
    · simp only [Bool.false_eq_true, if_false]
      rw [Nat.div_eq_of_lt hsw]
      rfl
    · simp only [if_true]
      have hpos : 0 < f.signWeight := Nat.two_pow_pos _
      rw [Nat.add_comm, Nat.add_div_right _ hpos, Nat.div_eq_of_lt hsw]
      rfl
  unfold Ieee.Format.read
  simp only [word_mod f s hsw, hsg]
  rw [← hb] at ha
  have hk2 : kept ≤ 2 * f.binade := by rw [hb]; rw [Nat.pow_succ] at hk; omega
  clear hk
  by_cases h1 : a * f.binade + kept < f.binade
  · rw [if_pos h1]
    have h0 : a = 0 := by
      rcases Nat.eq_zero_or_pos a with h | h
      · exact h
      · have := Nat.mul_le_mul_right f.binade h
        omega
    subst h0
    refine ⟨_, _, rfl, ?_⟩
    rw [Nat.zero_mul, Nat.zero_add]
    congr 2
    omega
  · rw [if_neg h1, if_pos hlt]
    refine ⟨_, _, rfl, ?_⟩
    rcases Nat.lt_or_ge kept (2 * f.binade) with h2 | h2
    · have h3 : f.binade ≤ kept := by
        rcases Nat.eq_zero_or_pos a with h | h
        · subst h; omega
        · exact ha h
      obtain ⟨r, rfl⟩ : ∃ r, kept = f.binade + r := ⟨kept - f.binade, by omega⟩
      have e1 : a * f.binade + (f.binade + r) = r + f.binade * (a + 1) := by rw [Nat.mul_add, Nat.mul_one, Nat.mul_comm]; omega
      have hr : r < f.binade := by omega
      rw [e1, Nat.add_mul_mod_self_left, Nat.mod_eq_of_lt hr, Nat.add_mul_div_left _ _ hB, Nat.div_eq_of_lt hr]
      congr 2
      omega
    · have h3 : kept = 2 * f.binade := by omega
      subst h3
      have e1 : a * f.binade + 2 * f.binade = f.binade * (a + 2) := by rw [Nat.mul_add, Nat.mul_comm f.binade 2, Nat.mul_comm]
      rw [e1, Nat.mul_mod_right, Nat.mul_div_right _ hB]
      have e2 : ((a + 2 - 1 : Nat) : Int) = (a : Int) + 1 := by omega
      rw [e2, Nat.add_zero, Rat.natCast_mul, ← Int.add_assoc, p2_add _ 1, p2_one]
      have : ((2 : Nat) : Rat) = 2 := rfl
      rw [this]
      grind

/-- Where the nearest word lies, by the grid of its last place. -/
theorem nearest_grid (f : Ieee.Format) (s : Bool) (m : Nat) (e : Int) (hm : m ≠ 0) (hhi : lastP f m e - f.leastPlace + 2 < 2 ^ f.exponentBits - 1) :
    ∃ m' e' kept, f.read (f.nearest s m e) = .number s m' e' ∧ (m' : Rat) * p2 e' = ((kept : Nat) : Rat) * p2 (lastP f m e) ∧
      2 * ((m : Rat) * p2 e) ≤ 2 * ((kept : Rat) * p2 (lastP f m e)) + p2 (lastP f m e) ∧ 2 * ((kept : Rat) * p2 (lastP f m e)) ≤ 2 * ((m : Rat) * p2 e) + p2 (lastP f m e) := by
  unfold Ieee.Format.nearest
  rw [if_neg hm]
  dsimp only
  have hl : max (e + (m.log2 : Int) - f.fractionBits) f.leastPlace = lastP f m e := rfl
  rw [hl]
  have hlast2 : e + m.log2 - f.fractionBits ≤ lastP f m e := Int.le_max_left _ _
  have hlast3 : f.leastPlace ≤ lastP f m e := Int.le_max_right _ _
  have hlast4 : lastP f m e = f.leastPlace ∨ lastP f m e = e + m.log2 - f.fractionBits := by unfold lastP; omega
  generalize lastP f m e = last at *
  have herr := cut_err s (m <<< (e - last).toNat) (last - e).toNat
  have hcut : Ieee.Toward.even.cut s (m <<< (e - last).toNat) (last - e).toNat ≤ 2 ^ (f.fractionBits + 1) := by
    refine cut_le _ _ _ _ ?_
    rw [Nat.shiftLeft_eq]
    have h1 : m < 2 ^ (m.log2 + 1) := Nat.lt_log2_self
    have h2 : m * 2 ^ (e - last).toNat < 2 ^ (m.log2 + 1) * 2 ^ (e - last).toNat := Nat.mul_lt_mul_of_pos_right h1 (Nat.two_pow_pos _)
    rw [← Nat.pow_add] at h2
    exact Nat.lt_of_lt_of_le h2 (Nat.pow_le_pow_right (by decide) (by omega))
  have hlow : f.leastPlace < last → 2 ^ f.fractionBits ≤ Ieee.Toward.even.cut s (m <<< (e - last).toNat) (last - e).toNat := by
    intro hlt
    have hle : last = e + m.log2 - f.fractionBits := by omega
    have h1 : 2 ^ m.log2 ≤ m := Nat.log2_self_le hm
    have h2 : 2 ^ (f.fractionBits + (last - e).toNat) ≤ m <<< (e - last).toNat := by
      rw [Nat.shiftLeft_eq]
      have h3 : 2 ^ m.log2 * 2 ^ (e - last).toNat ≤ m * 2 ^ (e - last).toNat := Nat.mul_le_mul_right _ h1
      rw [← Nat.pow_add] at h3
      refine Nat.le_trans (Nat.pow_le_pow_right (by decide) ?_) h3
      omega
    rw [Nat.pow_add] at h2
    generalize m <<< (e - last).toNat = n at *
    generalize Ieee.Toward.even.cut s n (last - e).toNat = kept at *
    have hG : 0 < 2 ^ (last - e).toNat := Nat.two_pow_pos _
    generalize 2 ^ (last - e).toNat = G at *
    generalize 2 ^ f.fractionBits = B at *
    rcases Nat.lt_or_ge kept B with h | h
    · exfalso
      have h4 : (kept + 1) * G ≤ B * G := Nat.mul_le_mul_right _ h
      rw [Nat.add_mul, Nat.one_mul] at h4
      omega
    · exact h
  generalize hkept : Ieee.Toward.even.cut s (m <<< (e - last).toNat) (last - e).toNat = kept at *
  have hb : f.binade = 2 ^ f.fractionBits := rfl
  have hi : (f.infRung : Int) = (2 ^ f.exponentBits - 1) * 2 ^ f.fractionBits := by
    unfold Ieee.Format.infRung
    rw [hb]
    have : 1 ≤ 2 ^ f.exponentBits := Nat.one_le_two_pow
    push_cast [Int.natCast_sub this]
    rfl
  have hB : 0 < 2 ^ f.fractionBits := Nat.two_pow_pos _
  have hrung : (last - f.leastPlace).toNat * f.binade + kept < f.infRung := by
    have h1 : (((last - f.leastPlace).toNat * f.binade + kept : Nat) : Int) ≤ (last - f.leastPlace + 2) * 2 ^ f.fractionBits := by
      have e1 : (((last - f.leastPlace).toNat : Nat) : Int) = last - f.leastPlace := by omega
      rw [hb, Int.natCast_add, Int.natCast_mul, e1, Int.add_mul]
      have h2 : (kept : Int) ≤ 2 * 2 ^ f.fractionBits := by
        rw [Nat.pow_succ, Nat.mul_comm] at hcut
        exact_mod_cast hcut
      have h3 : (((2 ^ f.fractionBits : Nat)) : Int) = 2 ^ f.fractionBits := by push_cast; rfl
      rw [h3]
      omega
    have h2 : (last - f.leastPlace + 2) * 2 ^ f.fractionBits < (2 ^ f.exponentBits - 1) * 2 ^ f.fractionBits := Int.mul_lt_mul_of_pos_right hhi (by exact_mod_cast hB)
    have : (((last - f.leastPlace).toNat * f.binade + kept : Nat) : Int) < f.infRung := by rw [hi]; omega
    exact_mod_cast this
  rw [Nat.min_eq_left (Nat.le_of_lt hrung)]
  obtain ⟨m', e', h1, h2⟩ := read_rung f s (last - f.leastPlace).toNat kept hcut (fun h => hlow (by omega)) hrung
  have e1 : f.leastPlace + ((last - f.leastPlace).toNat : Int) = last := by omega
  rw [e1] at h2
  refine ⟨m', e', kept, h1, h2, ?_⟩
  -- the error, in units of the place
  clear h1 h2 hrung hi hB hb hcut hlow hlast4 hlast2 hhi
  rcases Int.le_total last e with hle | hle
  · have a2 : (last - e).toNat = 0 := by omega
    rw [a2, cut_zero] at hkept
    subst hkept
    rw [mul_shl]
    have : last + ((e - last).toNat : Int) = e := by omega
    rw [this]
    have := p2_pos last
    constructor <;> grind
  · have a1 : (e - last).toNat = 0 := by omega
    rw [a1, Nat.shiftLeft_zero] at herr
    have hs := p2_split hle
    generalize 2 ^ (last - e).toNat = G at *
    have hp := p2_pos e
    obtain ⟨h1, h2⟩ := herr
    have h1' : (2 * (m : Rat)) ≤ 2 * ((kept : Rat) * (G : Rat)) + G := by exact_mod_cast Rat.natCast_le_natCast.2 h1
    have h2' : 2 * ((kept : Rat) * (G : Rat)) ≤ 2 * (m : Rat) + G := by exact_mod_cast Rat.natCast_le_natCast.2 h2
    have h3 := Rat.mul_le_mul_of_nonneg_right h1' (Rat.le_of_lt hp)
    have h4 := Rat.mul_le_mul_of_nonneg_right h2' (Rat.le_of_lt hp)
    rw [hs]
    constructor <;> grind

def feps : FloatKind → Rat
  | .f32 => p2 (-23)
  | .f64 => p2 (-52)
def ftiny : FloatKind → Rat
  | .f32 => p2 (-149)
  | .f64 => p2 (-1074)
def ftop : FloatKind → Int
  | .f32 => 127
  | .f64 => 1023
/-- What can be written. -/
def RepN (k : FloatKind) (B : Rat) : Prop := ∃ (M : Nat) (E : Int), M ≤ 2 ^ (k.format.fractionBits + 1) ∧ k.format.leastPlace ≤ E ∧ B = (M : Rat) * p2 E
def Rep (k : FloatKind) (B : Rat) : Prop := RepN k B ∨ RepN k (-B)
/-- r is q rounded. -/
structure Rnd (k : FloatKind) (q r : Rat) : Prop where
  near : ∀ a, -a ≤ q → q ≤ a → q ≤ r + (a * feps k + ftiny k) ∧ r ≤ q + (a * feps k + ftiny k)
  side : ∀ B, Rep k B → (q ≤ B → r ≤ B) ∧ (B ≤ q → B ≤ r)

theorem nat_le_of_rat {a b : Nat} (h : 2 * (a : Rat) ≤ 2 * (b : Rat) + 1) : a ≤ b := by
  have h1 : ((2 * a : Nat) : Rat) ≤ ((2 * b + 1 : Nat) : Rat) := by
    rw [Rat.natCast_mul, Rat.natCast_add, Rat.natCast_mul]
    exact h
  have h2 := Rat.natCast_le_natCast.1 h1
  omega
theorem grid_le {kept N : Nat} {q P : Rat} (hP : 0 < P) (h : 2 * ((kept : Rat) * P) ≤ 2 * q + P) (hq : q ≤ (N : Rat) * P) : kept ≤ N := by
  refine nat_le_of_rat ?_
  have h1 : (2 * (kept : Rat)) * P ≤ (2 * (N : Rat) + 1) * P := by grind
  exact Rat.le_of_mul_le_mul_right h1 hP
theorem grid_ge {kept N : Nat} {q P : Rat} (hP : 0 < P) (h : 2 * q ≤ 2 * ((kept : Rat) * P) + P) (hq : (N : Rat) * P ≤ q) : N ≤ kept := by
  refine nat_le_of_rat ?_
  have h1 : (2 * (N : Rat)) * P ≤ (2 * (kept : Rat) + 1) * P := by grind
  exact Rat.le_of_mul_le_mul_right h1 hP
theorem mul_p2_le {a b : Nat} (h : a ≤ b) (e : Int) : (a : Rat) * p2 e ≤ (b : Rat) * p2 e :=
  Rat.mul_le_mul_of_nonneg_right (Rat.natCast_le_natCast.2 h) (Rat.le_of_lt (p2_pos e))
theorem p2_shl (n : Nat) (e : Int) : ((2 ^ n : Nat) : Rat) * p2 e = p2 (n + e) := by rw [← p2_nat, ← p2_add]
/-- The highest digit. -/
theorem log_le (m : Nat) (hm : m ≠ 0) (e : Int) : p2 (e + m.log2) ≤ (m : Rat) * p2 e := by
  have h := mul_p2_le (Nat.log2_self_le hm) e
  rw [p2_shl, Int.add_comm] at h
  exact h
theorem p2_lt_of_lt {a b : Int} (h : p2 a < p2 b) : a < b := by
  rcases (show a < b ∨ b ≤ a from by omega) with h1 | h1
  · exact h1
  · exact absurd (p2_le h1) (Rat.not_le.2 h)
theorem grid_side (f : Ieee.Format) (m : Nat) (e : Int) (hm : m ≠ 0) (kept : Nat) (h1 : 2 * ((m : Rat) * p2 e) ≤ 2 * ((kept : Rat) * p2 (lastP f m e)) + p2 (lastP f m e)) (h2 : 2 * ((kept : Rat) * p2 (lastP f m e)) ≤ 2 * ((m : Rat) * p2 e) + p2 (lastP f m e))
    {M : Nat} {E : Int} (hM : M ≤ 2 ^ (f.fractionBits + 1)) (hE : f.leastPlace ≤ E) :
    ((m : Rat) * p2 e ≤ (M : Rat) * p2 E → (kept : Rat) * p2 (lastP f m e) ≤ (M : Rat) * p2 E) ∧ ((M : Rat) * p2 E ≤ (m : Rat) * p2 e → (M : Rat) * p2 E ≤ (kept : Rat) * p2 (lastP f m e)) := by
  have hP := p2_pos (lastP f m e)
  rcases Int.le_total (lastP f m e) E with hle | hle
  · have hB : (M : Rat) * p2 E = ((M * 2 ^ (E - lastP f m e).toNat : Nat) : Rat) * p2 (lastP f m e) := by
      rw [p2_split hle, Rat.natCast_mul, Rat.mul_assoc]
    rw [hB]
    exact ⟨fun h => mul_p2_le (grid_le hP h2 h) _, fun h => mul_p2_le (grid_ge hP h1 h) _⟩
  · rcases (show E < lastP f m e ∨ lastP f m e ≤ E from by omega) with hlt | hge
    · have hl : lastP f m e = e + m.log2 - f.fractionBits := by
        have : lastP f m e = f.leastPlace ∨ lastP f m e = e + m.log2 - f.fractionBits := by unfold lastP; omega
        omega
      have hlow := log_le m hm e
      have e1 : e + (m.log2 : Int) = (f.fractionBits : Int) + lastP f m e := by omega
      rw [e1, ← p2_shl] at hlow
      have hMB : (M : Rat) * p2 E ≤ ((2 ^ f.fractionBits : Nat) : Rat) * p2 (lastP f m e) := by
        refine Rat.le_trans (mul_p2_le hM E) ?_
        rw [p2_shl, p2_shl]
        exact p2_le (by omega)
      refine ⟨fun h => ?_, fun h => Rat.le_trans hMB (mul_p2_le (grid_ge hP h1 hlow) _)⟩
      have heq : (M : Rat) * p2 E = ((2 ^ f.fractionBits : Nat) : Rat) * p2 (lastP f m e) := Rat.le_antisymm hMB (Rat.le_trans hlow h)
      rw [heq] at h ⊢
      exact mul_p2_le (grid_le hP h2 h) _
    · have : E = lastP f m e := by omega
      subst this
      exact ⟨fun h => mul_p2_le (grid_le hP h2 h) _, fun h => mul_p2_le (grid_ge hP h1 h) _⟩
theorem last_bound (f : Ieee.Format) (m : Nat) (e : Int) (hm : m ≠ 0) : p2 (lastP f m e) ≤ ((m : Rat) * p2 e) * p2 (-(f.fractionBits : Int)) + p2 f.leastPlace := by
  have hlow := log_le m hm e
  have h0 := p2_pos (-(f.fractionBits : Int))
  have h1 := Rat.mul_le_mul_of_nonneg_right hlow (Rat.le_of_lt h0)
  rw [← p2_add] at h1
  have hlp := p2_pos f.leastPlace
  have : lastP f m e = f.leastPlace ∨ lastP f m e = e + m.log2 + -(f.fractionBits : Int) := by unfold lastP; omega
  rcases this with h | h
  · rw [h]
    have := p2_pos (e + m.log2 + -(f.fractionBits : Int))
    grind
  · rw [h]
    grind
theorem rnd_sign {k : FloatKind} {s : Bool} {q r : Rat} (h0 : 0 ≤ q) (hr : 0 ≤ r) (hn : q ≤ r + (q * feps k + ftiny k) ∧ r ≤ q + (q * feps k + ftiny k)) (he : 0 ≤ feps k)
    (hs : ∀ B, RepN k B → (q ≤ B → r ≤ B) ∧ (B ≤ q → B ≤ r)) : Rnd k (sgn s * q) (sgn s * r) := by
  have hneg : ∀ B, RepN k B → 0 ≤ B := fun B ⟨M, E, _, _, hB⟩ => by
    rw [hB]
    exact Rat.mul_nonneg Rat.natCast_nonneg (Rat.le_of_lt (p2_pos E))
  refine ⟨fun a h1 h2 => ?_, fun B hB => ?_⟩
  · have ha : q ≤ a := by cases s <;> simp only [sgn] at h1 h2 <;> grind
    have hm := Rat.mul_le_mul_of_nonneg_right ha he
    obtain ⟨h3, h4⟩ := hn
    cases s <;> simp only [sgn] <;> constructor <;> grind
  · rcases hB with hB | hB
    · have h3 := hs B hB
      have h4 := hneg B hB
      cases s
      · simp only [sgn, Bool.false_eq_true, if_false, Rat.one_mul]
        exact h3
      · simp only [sgn, if_true]
        refine ⟨fun h => by grind, fun h => ?_⟩
        have hB0 : B = 0 := by grind
        have hq0 : q = 0 := by grind
        have := (hs 0 ⟨0, k.format.leastPlace, Nat.zero_le _, Int.le_refl _, by rw [show ((0 : Nat) : Rat) = 0 from rfl, Rat.zero_mul]⟩).1 (by grind)
        grind
    · have h3 := hs (-B) hB
      have h4 := hneg (-B) hB
      cases s
      · simp only [sgn, Bool.false_eq_true, if_false, Rat.one_mul]
        refine ⟨fun h => ?_, fun h => by grind⟩
        have := (hs 0 ⟨0, k.format.leastPlace, Nat.zero_le _, Int.le_refl _, by rw [show ((0 : Nat) : Rat) = 0 from rfl, Rat.zero_mul]⟩).1 (by grind)
        grind
      · simp only [sgn, if_true]
        refine ⟨fun h => ?_, fun h => ?_⟩
        · have := h3.2 (by grind)
          grind
        · have := h3.1 (by grind)
          grind
theorem eps_eq (k : FloatKind) : feps k = p2 (-(k.format.fractionBits : Int)) := by cases k <;> rfl
theorem tiny_eq (k : FloatKind) : ftiny k = p2 k.format.leastPlace := by cases k <;> decide +kernel
theorem eps_pos (k : FloatKind) : 0 < feps k := by rw [eps_eq]; exact p2_pos _
theorem tiny_pos (k : FloatKind) : 0 < ftiny k := by rw [tiny_eq]; exact p2_pos _
theorem top_ok {k : FloatKind} {m : Nat} {e : Int} (hm : m ≠ 0) (h : (m : Rat) * p2 e < p2 (ftop k)) : lastP k.format m e - k.format.leastPlace + 2 < 2 ^ k.format.exponentBits - 1 := by
  have h1 := p2_lt_of_lt (Std.lt_of_le_of_lt (log_le m hm e) h)
  cases k
  · have a1 : FloatKind.f32.format.leastPlace = -149 := by decide
    have a2 : FloatKind.f32.format.fractionBits = 23 := rfl
    have a3 : FloatKind.f32.format.exponentBits = 8 := rfl
    unfold lastP
    rw [a1, a2, a3]
    simp only [ftop] at h1
    omega
  · have a1 : FloatKind.f64.format.leastPlace = -1074 := by decide
    have a2 : FloatKind.f64.format.fractionBits = 52 := rfl
    have a3 : FloatKind.f64.format.exponentBits = 11 := rfl
    unfold lastP
    rw [a1, a2, a3]
    simp only [ftop] at h1
    omega
/-- What is written is what is rounded. -/
theorem nearest_rnd' (k : FloatKind) (s : Bool) (m : Nat) (e : Int) (h : (m : Rat) * p2 e < p2 (ftop k)) :
    ∃ m' e', k.decode (k.format.nearest s m e) = .number s m' e' ∧ Rnd k (vl s m e) (vl s m' e') ∧ (∀ B, RepN k B → ((m : Rat) * p2 e ≤ B → (m' : Rat) * p2 e' ≤ B) ∧ (B ≤ (m : Rat) * p2 e → B ≤ (m' : Rat) * p2 e')) ∧
      2 * ((m : Rat) * p2 e) ≤ 2 * ((m' : Rat) * p2 e') + ((m : Rat) * p2 e * feps k + ftiny k) ∧ 2 * ((m' : Rat) * p2 e') ≤ 2 * ((m : Rat) * p2 e) + ((m : Rat) * p2 e * feps k + ftiny k) := by
  by_cases hm : m = 0
  · subst hm
    have h0 : k.decode (k.format.nearest s 0 e) = .number s 0 k.format.leastPlace := by
      unfold Ieee.Format.nearest
      rw [if_pos rfl]
      have hlt : (0 : Nat) < k.format.signWeight := Nat.two_pow_pos _
      have hsg : (k.format.word s 0 / k.format.signWeight % 2 == 1) = s := by
        unfold Ieee.Format.word
        cases s
        · simp only [Bool.false_eq_true, if_false, Nat.zero_div]; rfl
        · simp only [if_true, Nat.add_zero, Nat.div_self hlt]; rfl
      unfold FloatKind.decode Ieee.Format.read
      simp only [word_mod k.format s hlt, hsg]
      rw [if_pos (show 0 < k.format.binade from Nat.two_pow_pos _)]
    refine ⟨0, k.format.leastPlace, h0, ?_, fun B _ => ?_, ?_⟩
    · rw [vl_zero, vl_zero]
      refine ⟨fun a h1 h2 => ?_, fun B _ => ⟨id, id⟩⟩
      have h3 := Rat.mul_nonneg (show 0 ≤ a from h2) (Rat.le_of_lt (eps_pos k))
      have h4 := tiny_pos k
      constructor <;> grind
    · rw [show ((0 : Nat) : Rat) = 0 from rfl, Rat.zero_mul, Rat.zero_mul]
      exact ⟨id, id⟩
    · have h4 := tiny_pos k
      rw [show ((0 : Nat) : Rat) = 0 from rfl, Rat.zero_mul, Rat.zero_mul, Rat.zero_mul]
      constructor <;> grind
  · obtain ⟨m', e', kept, h1, h2, h3, h4⟩ := nearest_grid k.format s m e hm (top_ok hm h)
    have hside : ∀ B, RepN k B → ((m : Rat) * p2 e ≤ B → (m' : Rat) * p2 e' ≤ B) ∧ (B ≤ (m : Rat) * p2 e → B ≤ (m' : Rat) * p2 e') := fun B ⟨M, E, hM, hE, hB⟩ => by
      rw [h2, hB]
      exact grid_side k.format m e hm kept h3 h4 hM hE
    have hl := last_bound k.format m e hm
    rw [← eps_eq, ← tiny_eq] at hl
    have hP := p2_pos (lastP k.format m e)
    refine ⟨m', e', h1, ?_, hside, ?_⟩
    · refine rnd_sign (Rat.mul_nonneg Rat.natCast_nonneg (Rat.le_of_lt (p2_pos e))) (Rat.mul_nonneg Rat.natCast_nonneg (Rat.le_of_lt (p2_pos e'))) ?_ (Rat.le_of_lt (eps_pos k)) hside
      rw [h2]
      constructor <;> grind
    · rw [h2]
      constructor <;> grind
theorem nearest_rnd (k : FloatKind) (s : Bool) (m : Nat) (e : Int) (h : (m : Rat) * p2 e < p2 (ftop k)) :
    ∃ m' e', k.decode (k.format.nearest s m e) = .number s m' e' ∧ Rnd k (vl s m e) (vl s m' e') ∧ ∀ B, RepN k B → ((m : Rat) * p2 e ≤ B → (m' : Rat) * p2 e' ≤ B) ∧ (B ≤ (m : Rat) * p2 e → B ≤ (m' : Rat) * p2 e') := by
  obtain ⟨m', e', h1, h2, h3, _⟩ := nearest_rnd' k s m e h
  exact ⟨m', e', h1, h2, h3⟩
end Go.Ab
namespace Go.Ab
/-- A float that is a number of some value. -/
def Vl (k : FloatKind) (x : FV) (q : Rat) : Prop := ∃ b s m e, x = some b ∧ k.decode b = .number s m e ∧ vl s m e = q
theorem Vl.of {k : FloatKind} {b : Nat} {s : Bool} {m : Nat} {e : Int} (h : k.decode b = .number s m e) : Vl k (some b) (vl s m e) := ⟨b, s, m, e, rfl, h, rfl⟩
theorem Vl.fvc {k : FloatKind} {b : Nat} {s : Bool} {m : Nat} {e : Int} {q : Rat} (h : k.decode b = .number s m e) (hq : vl s m e = q) : Vl k (fv k b) q := by
  have : fv k b = some b := fv_some (by rw [h]; rfl)
  rw [this, ← hq]
  exact .of h
/-- Whether a word is a number of some value. -/
def vlc (k : FloatKind) (b : Nat) (q : Rat) : Bool := match k.decode b with
  | .number s m e => decide (vl s m e = q)
  | _ => false
theorem Vl.cs {k : FloatKind} {b : Nat} {q : Rat} (h : vlc k b q = true) : Vl k (.some b) q := by
  unfold vlc at h
  split at h
  · rename_i s m e hd
    exact ⟨b, s, m, e, rfl, hd, of_decide_eq_true h⟩
  · cases h
theorem Vl.c {k : FloatKind} {b : Nat} {q : Rat} (h : vlc k b q = true) : Vl k (fv k b) q := by
  obtain ⟨b', s, m, e, hb, hd, hq⟩ := Vl.cs h
  cases hb
  exact Vl.fvc hd hq
theorem Vl.some {k : FloatKind} {x : FV} {q : Rat} (h : Vl k x q) : x ≠ none := by
  obtain ⟨b, _, _, _, rfl, _, _⟩ := h
  exact Option.some_ne_none b
/-- Not too great to be written. -/
def Fit (k : FloatKind) (q : Rat) : Prop := -p2 (ftop k) < q ∧ q < p2 (ftop k)
theorem Fit.mag {k : FloatKind} {s : Bool} {m : Nat} {e : Int} (h : Fit k (vl s m e)) : (m : Rat) * p2 e < p2 (ftop k) := by
  obtain ⟨h1, h2⟩ := h
  unfold vl sgn at h1 h2
  cases s <;> grind
theorem write_vl (k : FloatKind) (s : Bool) (m : Nat) (e : Int) (h : Fit k (vl s m e)) : ∃ r, Vl k (some (k.format.nearest s m e)) r ∧ Rnd k (vl s m e) r := by
  obtain ⟨m', e', h1, h2, _⟩ := nearest_rnd k s m e h.mag
  exact ⟨_, .of h1, h2⟩
/-- What has a value of its own. -/
theorem rnd_rep {k : FloatKind} {q r : Rat} (h : Rnd k q r) (hq : Rep k q) : r = q :=
  Rat.le_antisymm ((h.side q hq).1 Rat.le_refl) ((h.side q hq).2 Rat.le_refl)
theorem rep_int (k : FloatKind) (n : Int) (h : n.natAbs ≤ 2 ^ (k.format.fractionBits + 1)) : Rep k (n : Rat) := by
  have hlp : k.format.leastPlace ≤ 0 := by cases k <;> decide
  rcases Int.le_total 0 n with h0 | h0
  · refine .inl ⟨n.natAbs, 0, h, hlp, ?_⟩
    rw [p2_zero, Rat.mul_one, ← Rat.intCast_natCast]
    congr 1
    omega
  · refine .inr ⟨n.natAbs, 0, h, hlp, ?_⟩
    rw [p2_zero, Rat.mul_one, ← Rat.intCast_natCast, ← Rat.intCast_neg]
    congr 1
    omega

theorem sum_vl (s t : Bool) (m n : Nat) (i j : Int) : ∃ u M, Ieee.Datum.sum (.number s m i) (.number t n j) = some (.number u M (min i j)) ∧ vl u M (min i j) = vl s m i + vl t n j := by
  simp only [Ieee.Datum.sum]
  refine ⟨_, _, rfl, ?_⟩
  have e1 := vl_signed s m (i - min i j).toNat (min i j)
  have e2 := vl_signed t n (j - min i j).toNat (min i j)
  have a1 : min i j + ((i - min i j).toNat : Int) = i := by omega
  have a2 : min i j + ((j - min i j).toNat : Int) = j := by omega
  rw [a1] at e1
  rw [a2] at e2
  rw [← e1, ← e2, ← Rat.add_mul, ← Rat.intCast_add, vl_int]
  split
  · rename_i h0
    rw [h0]
    show vl _ 0 _ = vl _ 0 _
    rw [vl_zero, vl_zero]
  · rfl
theorem vl_add {k : FloatKind} {x y : FV} {p q : Rat} (hx : Vl k x p) (hy : Vl k y q) (hf : Fit k (p + q)) : ∃ r, Vl k (fbin .add k x y) r ∧ Rnd k (p + q) r := by
  obtain ⟨a, s, m, i, rfl, ha, rfl⟩ := hx
  obtain ⟨b, t, n, j, rfl, hb, rfl⟩ := hy
  obtain ⟨u, M, h1, h2⟩ := sum_vl s t m n i j
  rw [← h2] at hf ⊢
  have : fbin .add k (some a) (some b) = some (k.format.nearest u M (min i j)) := by
    have ha' : k.format.read a = .number s m i := ha
    have hb' : k.format.read b = .number t n j := hb
    simp [fbin, floatBits, Ieee.Format.add, ha', hb', h1, Ieee.Format.write]
  rw [this]
  exact write_vl k u M _ hf
theorem vl_sub {k : FloatKind} {x y : FV} {p q : Rat} (hx : Vl k x p) (hy : Vl k y q) (hf : Fit k (p - q)) : ∃ r, Vl k (fbin .sub k x y) r ∧ Rnd k (p - q) r := by
  obtain ⟨a, s, m, i, rfl, ha, rfl⟩ := hx
  obtain ⟨b, t, n, j, rfl, hb, rfl⟩ := hy
  obtain ⟨u, M, h1, h2⟩ := sum_vl s (!t) m n i j
  have h3 : vl s m i - vl t n j = vl s m i + vl (!t) n j := by rw [vl_neg, Rat.sub_eq_add_neg]
  rw [h3, ← h2] at hf ⊢
  have : fbin .sub k (some a) (some b) = some (k.format.nearest u M (min i j)) := by
    have ha' : k.format.read a = .number s m i := ha
    have hb' : k.format.read b = .number t n j := hb
    simp [fbin, floatBits, Ieee.Format.sub, ha', hb', Ieee.Datum.opposite, h1, Ieee.Format.write]
  rw [this]
  exact write_vl k u M _ hf
theorem mul_vl (s t : Bool) (m n : Nat) (i j : Int) : vl (s ^^ t) (m * n) (i + j) = vl s m i * vl t n j := by
  unfold vl
  rw [Rat.natCast_mul, p2_add]
  have : sgn (s ^^ t) = sgn s * sgn t := by cases s <;> cases t <;> decide +kernel
  rw [this]
  grind
theorem vl_mul {k : FloatKind} {x y : FV} {p q : Rat} (hx : Vl k x p) (hy : Vl k y q) (hf : Fit k (p * q)) : ∃ r, Vl k (fbin .mul k x y) r ∧ Rnd k (p * q) r := by
  obtain ⟨a, s, m, i, rfl, ha, rfl⟩ := hx
  obtain ⟨b, t, n, j, rfl, hb, rfl⟩ := hy
  rw [← mul_vl] at hf ⊢
  have : fbin .mul k (some a) (some b) = some (k.format.nearest (s ^^ t) (m * n) (i + j)) := by
    have ha' : k.format.read a = .number s m i := ha
    have hb' : k.format.read b = .number t n j := hb
    simp [fbin, floatBits, Ieee.Format.mul, ha', hb', Ieee.Datum.product, Ieee.Format.write]
  rw [this]
  exact write_vl k _ _ _ hf
/-- A quotient with its sticky digit, as it lies beside the true one. -/
theorem quo_sticky (m n fb : Nat) (i j : Int) (hm : m ≠ 0) (hn : n ≠ 0) : ∀ more, fb + 2 + n.log2 ≤ m.log2 + more → ∀ A : Rat, A * ((n : Rat) * p2 j) = (m : Rat) * p2 i →
    ∃ F st : Nat, 2 * (m <<< more / n) + (m <<< more % n != 0).toNat = 2 * F + st ∧ (st = 0 ∨ st = 1) ∧ 2 ^ (fb + 1) ≤ F ∧
      ((st = 0 ∧ A = 2 * ((F : Rat) * p2 (i - j - more - 1))) ∨ (st = 1 ∧ 2 * ((F : Rat) * p2 (i - j - more - 1)) < A ∧ A < 2 * ((F : Rat) * p2 (i - j - more - 1)) + 2 * p2 (i - j - more - 1))) := by
  intro more hmore A hA
  have hD := mul_shl m more (i - more)
  have hDn : 2 ^ (fb + 1) * n ≤ m <<< more := by
    rw [Nat.shiftLeft_eq]
    have h1 : n < 2 ^ (n.log2 + 1) := Nat.lt_log2_self
    have h2 : 2 ^ (fb + 1) * n ≤ 2 ^ (fb + 1) * 2 ^ (n.log2 + 1) := Nat.mul_le_mul_left _ (Nat.le_of_lt h1)
    rw [← Nat.pow_add] at h2
    have h3 : 2 ^ m.log2 * 2 ^ more ≤ m * 2 ^ more := Nat.mul_le_mul_right _ (Nat.log2_self_le hm)
    rw [← Nat.pow_add] at h3
    exact Nat.le_trans h2 (Nat.le_trans (Nat.pow_le_pow_right (by decide) (by omega)) h3)
  generalize m <<< more = D at *
  have hn0 : 0 < n := by omega
  have hF : 2 ^ (fb + 1) ≤ D / n := (Nat.le_div_iff_mul_le hn0).2 hDn
  have h3 := Nat.div_add_mod D n
  have h4 := Nat.mod_lt D hn0
  generalize D / n = F at *
  generalize D % n = r at *
  have e1 : i - (more : Int) + more = i := by omega
  rw [e1] at hD
  have hu : p2 (i - more) = 2 * p2 (i - j - more - 1) * p2 j := by
    rw [← p2_one, ← p2_add, ← p2_add]
    congr 1
    omega
  have hj := p2_pos j
  have hup := p2_pos (i - j - more - 1)
  generalize p2 (i - j - more - 1) = u at *
  have hN : (0 : Rat) < n := by
    rw [show (0 : Rat) = ((0 : Nat) : Rat) from rfl]
    exact Rat.natCast_lt_natCast.2 hn0
  have hDr : (D : Rat) = (n : Rat) * F + r := by rw [← h3, Rat.natCast_add, Rat.natCast_mul]
  have hnj : 0 < (n : Rat) * p2 j := Rat.mul_pos hN hj
  -- A n = D 2u
  have hAn : A * ((n : Rat) * p2 j) = ((n : Rat) * F + r) * (2 * u * p2 j) := by rw [hA, ← hD, hu, hDr]
  have hAn2 : (A * (n : Rat)) * p2 j = (((n : Rat) * F + r) * (2 * u)) * p2 j := by grind
  have hAn3 : A * (n : Rat) = ((n : Rat) * F + r) * (2 * u) := by
    apply Rat.le_antisymm
    · exact Rat.le_of_mul_le_mul_right (by rw [hAn2]; exact Rat.le_refl) hj
    · exact Rat.le_of_mul_le_mul_right (by rw [hAn2]; exact Rat.le_refl) hj
  rcases Nat.eq_zero_or_pos r with h0 | h0
  · subst h0
    refine ⟨F, 0, by simp, .inl rfl, hF, .inl ⟨rfl, ?_⟩⟩
    rw [show ((0 : Nat) : Rat) = 0 from rfl, Rat.add_zero] at hAn3
    apply Rat.le_antisymm
    · exact Rat.le_of_mul_le_mul_right (c := (n : Rat)) (by grind) hN
    · exact Rat.le_of_mul_le_mul_right (c := (n : Rat)) (by grind) hN
  · have hr0 : (0 : Rat) < r := by
      rw [show (0 : Rat) = ((0 : Nat) : Rat) from rfl]
      exact Rat.natCast_lt_natCast.2 h0
    have hrn : (r : Rat) < n := Rat.natCast_lt_natCast.2 h4
    have hne : (r != 0).toNat = 1 := by
      have : (r != 0) = true := by simp; omega
      rw [this]; rfl
    refine ⟨F, 1, by rw [hne], .inr rfl, hF, .inr ⟨rfl, ?_, ?_⟩⟩
    · refine Rat.lt_of_mul_lt_mul_right (c := (n : Rat)) ?_ (Rat.le_of_lt hN)
      rw [hAn3]
      have := Rat.mul_pos hr0 hup
      grind
    · refine Rat.lt_of_mul_lt_mul_right (c := (n : Rat)) ?_ (Rat.le_of_lt hN)
      rw [hAn3]
      have := Rat.mul_lt_mul_of_pos_right hrn hup
      grind
theorem sticky_side {k : FloatKind} {A u : Rat} {F st : Nat} {e : Int} (hu : u = p2 e) (hst : st = 0 ∨ st = 1) (hF : 2 ^ (k.format.fractionBits + 1) ≤ F)
    (hA : (st = 0 ∧ A = 2 * ((F : Rat) * u)) ∨ (st = 1 ∧ 2 * ((F : Rat) * u) < A ∧ A < 2 * ((F : Rat) * u) + 2 * u)) {B : Rat} (hB : RepN k B) :
    (A ≤ B → ((2 * F + st : Nat) : Rat) * u ≤ B) ∧ (B ≤ A → B ≤ ((2 * F + st : Nat) : Rat) * u) := by
  have hup : 0 < u := by rw [hu]; exact p2_pos e
  have hc : ((2 * F + st : Nat) : Rat) * u = 2 * ((F : Rat) * u) + (st : Rat) * u := by
    rw [Rat.natCast_add, Rat.natCast_mul]
    show (2 * (F : Rat) + st) * u = _
    grind
  rw [hc]
  rcases hA with ⟨h0, h1⟩ | ⟨h0, h1, h2⟩
  · subst h0
    rw [show ((0 : Nat) : Rat) = 0 from rfl, Rat.zero_mul, Rat.add_zero, ← h1]
    exact ⟨id, id⟩
  · subst h0
    rw [show ((1 : Nat) : Rat) = 1 from rfl, Rat.one_mul]
    obtain ⟨M, E, hM, hE, hBe⟩ := hB
    rcases (show e + 1 ≤ E ∨ E ≤ e from by omega) with hle | hle
    · have hB2 : B = 2 * (((M * 2 ^ (E - (e + 1)).toNat : Nat) : Rat) * u) := by
        rw [hBe, p2_split hle, p2_add, p2_one, Rat.natCast_mul, hu]
        grind
      generalize M * 2 ^ (E - (e + 1)).toNat = N at *
      refine ⟨fun h => ?_, fun h => ?_⟩
      · have h3 : (F : Rat) * u < (N : Rat) * u := by grind
        have h4 : F < N := Rat.natCast_lt_natCast.1 ((Rat.mul_lt_mul_right hup).1 h3)
        have h5 : ((F + 1 : Nat) : Rat) * u ≤ (N : Rat) * u := Rat.mul_le_mul_of_nonneg_right (Rat.natCast_le_natCast.2 h4) (Rat.le_of_lt hup)
        rw [Rat.natCast_add, show ((1 : Nat) : Rat) = 1 from rfl] at h5
        grind
      · have h3 : (N : Rat) * u < ((F + 1 : Nat) : Rat) * u := by
          rw [Rat.natCast_add, show ((1 : Nat) : Rat) = 1 from rfl]
          grind
        have h4 : N < F + 1 := Rat.natCast_lt_natCast.1 ((Rat.mul_lt_mul_right hup).1 h3)
        have h5 : (N : Rat) * u ≤ (F : Rat) * u := Rat.mul_le_mul_of_nonneg_right (Rat.natCast_le_natCast.2 (by omega)) (Rat.le_of_lt hup)
        grind
    · have h3 : B ≤ (F : Rat) * u := by
        rw [hBe, hu]
        refine Rat.le_trans (Rat.mul_le_mul_of_nonneg_left (p2_le hle) Rat.natCast_nonneg) (mul_p2_le (Nat.le_trans hM hF) e)
      have h4 : 0 < (F : Rat) * u := by
        refine Rat.mul_pos ?_ hup
        rw [show (0 : Rat) = ((0 : Nat) : Rat) from rfl]
        exact Rat.natCast_lt_natCast.2 (Nat.lt_of_lt_of_le (Nat.two_pow_pos _) hF)
      exact ⟨fun h => by grind, fun h => by grind⟩
theorem vl_div {k : FloatKind} {x y : FV} {p q : Rat} (hx : Vl k x p) (hy : Vl k y q) (hq : q ≠ 0) (hf : -p2 (ftop k - 1) ≤ p / q ∧ p / q ≤ p2 (ftop k - 1)) : ∃ r, Vl k (fbin .quo k x y) r ∧ Rnd k (p / q) r := by
  obtain ⟨a, s, m, i, rfl, ha, rfl⟩ := hx
  obtain ⟨b, t, n, j, rfl, hb, rfl⟩ := hy
  have hn : n ≠ 0 := fun h => by
    subst h
    exact hq (vl_zero t j)
  have hn0 : (0 : Rat) < n := by
    rw [show (0 : Rat) = ((0 : Nat) : Rat) from rfl]
    exact Rat.natCast_lt_natCast.2 (by omega)
  have hnj : 0 < (n : Rat) * p2 j := Rat.mul_pos hn0 (p2_pos j)
  have hsg : vl s m i / vl t n j = sgn (s ^^ t) * (((m : Rat) * p2 i) / ((n : Rat) * p2 j)) := by
    have h1 : vl s m i / vl t n j * vl t n j = vl s m i := Rat.div_mul_cancel hq
    have h2 : ((m : Rat) * p2 i) / ((n : Rat) * p2 j) * ((n : Rat) * p2 j) = (m : Rat) * p2 i := Rat.div_mul_cancel (Rat.ne_of_gt hnj)
    have h3 : sgn (s ^^ t) * (((m : Rat) * p2 i) / ((n : Rat) * p2 j)) * vl t n j = vl s m i := by
      have h4 : sgn (s ^^ t) * sgn t = sgn s := by cases s <;> cases t <;> decide +kernel
      have h5 : sgn (s ^^ t) * (((m : Rat) * p2 i) / ((n : Rat) * p2 j)) * vl t n j = (sgn (s ^^ t) * sgn t) * (((m : Rat) * p2 i) / ((n : Rat) * p2 j) * ((n : Rat) * p2 j)) := by
        unfold vl
        generalize ((m : Rat) * p2 i) / ((n : Rat) * p2 j) = A
        grind
      rw [h5, h4, h2]
      rfl
    generalize vl s m i / vl t n j = X at *
    generalize sgn (s ^^ t) * (((m : Rat) * p2 i) / ((n : Rat) * p2 j)) = Y at *
    have h6 : (X - Y) * vl t n j = 0 := by grind
    rcases Rat.mul_eq_zero.1 h6 with h7 | h7
    · grind
    · exact absurd h7 hq
  rw [hsg] at hf ⊢
  have hA : ((m : Rat) * p2 i) / ((n : Rat) * p2 j) * ((n : Rat) * p2 j) = (m : Rat) * p2 i := Rat.div_mul_cancel (Rat.ne_of_gt hnj)
  generalize ((m : Rat) * p2 i) / ((n : Rat) * p2 j) = A at *
  have hA0 : 0 ≤ A := by
    rcases Rat.le_total (a := 0) (b := A) with h | h
    · exact h
    · have h1 := Rat.mul_nonneg (Rat.natCast_nonneg (a := m)) (Rat.le_of_lt (p2_pos i))
      rw [← hA] at h1
      have h2 := Rat.mul_nonneg (show 0 ≤ -A by grind) (Rat.le_of_lt hnj)
      have h3 : A * ((n : Rat) * p2 j) = 0 := by grind
      rcases Rat.mul_eq_zero.1 h3 with h4 | h4
      · grind
      · grind
  have hAf : A ≤ p2 (ftop k - 1) := by
    obtain ⟨h1, h2⟩ := hf
    cases hst : (s ^^ t) <;> rw [hst] at h1 h2 <;> simp only [sgn] at h1 h2 <;> grind
  have hfb : fbin .quo k (some a) (some b) = some (k.format.nearest (s ^^ t) (2 * (m <<< (k.format.fractionBits + 2 + n.log2 - m.log2) / n) + (m <<< (k.format.fractionBits + 2 + n.log2 - m.log2) % n != 0).toNat) (i - j - (k.format.fractionBits + 2 + n.log2 - m.log2 : Nat) - 1)) := by
    have ha' : k.format.read a = .number s m i := ha
    have hb' : k.format.read b = .number t n j := hb
    simp [fbin, floatBits, Ieee.Format.div, ha', hb', Ieee.Datum.quotient, hn, Ieee.Format.write]
  rw [hfb]
  have htop : p2 (ftop k - 1) < p2 (ftop k) := by cases k <;> decide +kernel
  by_cases hm : m = 0
  · subst hm
    have hA1 : A = 0 := by
      rw [show ((0 : Nat) : Rat) = 0 from rfl, Rat.zero_mul] at hA
      rcases Rat.mul_eq_zero.1 hA with h4 | h4
      · exact h4
      · exact absurd h4 (Rat.ne_of_gt hnj)
    subst hA1
    have e0 : 2 * (0 <<< (k.format.fractionBits + 2 + n.log2 - Nat.log2 0) / n) + (0 <<< (k.format.fractionBits + 2 + n.log2 - Nat.log2 0) % n != 0).toNat = 0 := by
      rw [Nat.zero_shiftLeft, Nat.zero_div, Nat.zero_mod]; rfl
    rw [e0]
    generalize i - j - (k.format.fractionBits + 2 + n.log2 - Nat.log2 0 : Nat) - 1 = e
    have h1 := write_vl k (s ^^ t) 0 e (by rw [vl_zero]; cases k <;> exact ⟨by decide +kernel, by decide +kernel⟩)
    rw [vl_zero] at h1
    rw [Rat.mul_zero]
    exact h1
  · obtain ⟨F, st, h1, h2, h3, h4⟩ := quo_sticky m n k.format.fractionBits i j hm hn (k.format.fractionBits + 2 + n.log2 - m.log2) (by omega) A hA
    rw [h1]
    generalize i - j - (k.format.fractionBits + 2 + n.log2 - m.log2 : Nat) - 1 = e at *
    have hsd := fun {B} (hB : RepN k B) => sticky_side (k := k) rfl h2 h3 h4 (B := B) hB
    have hrt : RepN k (p2 (ftop k - 1)) := ⟨1, ftop k - 1, Nat.one_le_two_pow, by cases k <;> decide, by rw [show ((1 : Nat) : Rat) = 1 from rfl, Rat.one_mul]⟩
    have hA' := (hsd hrt).1 hAf
    obtain ⟨m', e', g1, g2, g3, g4, g5⟩ := nearest_rnd' k (s ^^ t) (2 * F + st) e (Std.lt_of_le_of_lt hA' htop)
    refine ⟨_, .of g1, ?_⟩
    have hup := p2_pos e
    have hFu : feps k * ((F : Rat) * p2 e) ≥ 2 * p2 e := by
      have h5 := mul_p2_le h3 e
      rw [p2_shl] at h5
      have h6 := Rat.mul_le_mul_of_nonneg_left h5 (Rat.le_of_lt (eps_pos k))
      rw [eps_eq, ← p2_add] at h6
      have h7 : -(k.format.fractionBits : Int) + (((k.format.fractionBits + 1 : Nat) : Int) + e) = 1 + e := by omega
      rw [h7, p2_add, p2_one] at h6
      rw [eps_eq]
      exact h6
    have hc : ((2 * F + st : Nat) : Rat) * p2 e = 2 * ((F : Rat) * p2 e) + (st : Rat) * p2 e := by
      rw [Rat.natCast_add, Rat.natCast_mul]
      show (2 * (F : Rat) + st) * p2 e = _
      grind
    have he1 : feps k ≤ 1 / 4 := by cases k <;> decide +kernel
    have he0 := eps_pos k
    have ht := tiny_pos k
    refine rnd_sign hA0 (Rat.mul_nonneg Rat.natCast_nonneg (Rat.le_of_lt (p2_pos e'))) ?_ (Rat.le_of_lt he0) (fun B hB => ⟨fun h => (g3 B hB).1 ((hsd hB).1 h), fun h => (g3 B hB).2 ((hsd hB).2 h)⟩)
    generalize (m' : Rat) * p2 e' = R at *
    generalize ((2 * F + st : Nat) : Rat) * p2 e = A' at *
    generalize (F : Rat) * p2 e = FU at *
    generalize p2 e = u at *
    generalize ftiny k = T at *
    generalize feps k = E at *
    rcases h4 with ⟨h0, h5⟩ | ⟨h0, h5, h6⟩
    · subst h0
      rw [show ((0 : Nat) : Rat) = 0 from rfl, Rat.zero_mul, Rat.add_zero, ← h5] at hc
      subst hc
      have := Rat.mul_nonneg hA0 (Rat.le_of_lt he0)
      constructor <;> grind
    · subst h0
      rw [show ((1 : Nat) : Rat) = 1 from rfl, Rat.one_mul] at hc
      -- u ≤ E * FU / 2 ≤ E * A / 4
      have a1 : E * (2 * FU) ≤ E * A := Rat.mul_le_mul_of_nonneg_left (Rat.le_of_lt h5) (Rat.le_of_lt he0)
      have a2 : A' * E ≤ (A + u) * E := Rat.mul_le_mul_of_nonneg_right (by grind) (Rat.le_of_lt he0)
      have a3 : u * E ≤ u * (1 / 4) := Rat.mul_le_mul_of_nonneg_left he1 (Rat.le_of_lt hup)
      constructor <;> grind
theorem int_mul_lt {a b : Int} (e : Int) : (a : Rat) * p2 e < (b : Rat) * p2 e ↔ a < b := by
  rw [Rat.mul_lt_mul_right (p2_pos e)]
  exact Rat.intCast_lt_intCast
theorem vl_cmp {k : FloatKind} {x y : FV} {p q : Rat} (hx : Vl k x p) (hy : Vl k y q) : ∃ a b : Int, fcmp k x y = some (compare a b) ∧ (p < q ↔ a < b) ∧ (q < p ↔ b < a) := by
  obtain ⟨a, s, m, i, rfl, ha, rfl⟩ := hx
  obtain ⟨b, t, n, j, rfl, hb, rfl⟩ := hy
  have ha' : k.format.read a = .number s m i := ha
  have hb' : k.format.read b = .number t n j := hb
  refine ⟨_, _, by simp [fcmp, Ieee.Format.order, ha', hb', Ieee.Datum.order]; rfl, ?_, ?_⟩
  all_goals
    have e1 := vl_signed s m (i - min i j).toNat (min i j)
    have e2 := vl_signed t n (j - min i j).toNat (min i j)
    have a1 : min i j + ((i - min i j).toNat : Int) = i := by omega
    have a2 : min i j + ((j - min i j).toNat : Int) = j := by omega
    rw [a1] at e1
    rw [a2] at e2
    rw [← e1, ← e2, int_mul_lt]
theorem vl_eql {k : FloatKind} {x y : FV} {p q : Rat} (hx : Vl k x p) (hy : Vl k y q) : cmpB .eql (fcmp k x y) = decide (p = q) := by
  obtain ⟨a, b, h, h1, h2⟩ := vl_cmp hx hy
  rw [h]
  rcases Int.lt_trichotomy a b with h3 | h3 | h3
  · have : ¬ p = q := Rat.ne_of_lt (h1.2 h3)
    simp [cmpB, this, Int.compare_eq_lt.2 h3]
  · have : p = q := Rat.le_antisymm (Rat.not_lt.1 fun h4 => by have := h2.1 h4; omega) (Rat.not_lt.1 fun h4 => by have := h1.1 h4; omega)
    subst h3; simp [cmpB, this]
  · have : ¬ p = q := fun e => Rat.ne_of_lt (h2.2 h3) e.symm
    simp [cmpB, this, Int.compare_eq_gt.2 h3]
theorem vl_neq {k : FloatKind} {x y : FV} {p q : Rat} (hx : Vl k x p) (hy : Vl k y q) : cmpB .neq (fcmp k x y) = decide (p ≠ q) := by
  have h := vl_eql hx hy
  have : cmpB .neq (fcmp k x y) = !cmpB .eql (fcmp k x y) := rfl
  rw [this, h]
  by_cases h : p = q <;> simp [h]
theorem single_fit {b : Nat} {s : Bool} {m : Nat} {e : Int} (h : FloatKind.f32.decode b = .number s m e) : (m : Rat) * p2 e < p2 128 := by
  obtain ⟨h1, h2, h3⟩ := single_number h
  have h4 : (m : Rat) < ((2 ^ 24 : Nat) : Rat) := Rat.natCast_lt_natCast.2 h1
  have h5 := Rat.mul_lt_mul_of_pos_right h4 (p2_pos e)
  rw [p2_shl] at h5
  exact Std.lt_of_lt_of_le h5 (p2_le (by omega))
theorem vl_wide {x : FV} {p : Rat} (hx : Vl .f32 x p) : Vl .f64 (fconv .f32 .f64 x) p := by
  obtain ⟨b, s, m, e, rfl, hd, rfl⟩ := hx
  obtain ⟨h1, h2, h3⟩ := single_number hd
  have h4 := single_fit hd
  obtain ⟨m', e', h5, h6, h7⟩ := nearest_rnd .f64 s m e (Std.lt_of_lt_of_le h4 (p2_le (by decide)))
  have hrep : RepN .f64 ((m : Rat) * p2 e) := ⟨m, e, Nat.le_trans (Nat.le_of_lt h1) (by decide), Int.le_trans (by decide) h2, rfl⟩
  have heq : (m' : Rat) * p2 e' = (m : Rat) * p2 e := Rat.le_antisymm ((h7 _ hrep).1 Rat.le_refl) ((h7 _ hrep).2 Rat.le_refl)
  have hc : fconv .f32 .f64 (some b) = some (FloatKind.f64.format.nearest s m e) := by
    have h8 : FloatKind.f64.encode (.number s m e) = FloatKind.f64.format.nearest s m e := rfl
    simp only [fconv, Option.bind_some, floatToFloatBits, if_neg (by decide : ¬ FloatKind.f32 = FloatKind.f64), hd, h8]
    rw [if_neg]
    rw [h5]
    simp [Ieee.Datum.isInfinity]
  rw [hc]
  refine ⟨_, s, m', e', rfl, h5, ?_⟩
  unfold vl
  rw [heq]
theorem vl_narrow {x : FV} {p : Rat} (hx : Vl .f64 x p) (hf : Fit .f32 p) : ∃ r, Vl .f32 (fconv .f64 .f32 x) r ∧ Rnd .f32 p r := by
  obtain ⟨b, s, m, e, rfl, hd, rfl⟩ := hx
  obtain ⟨m', e', h5, h6, h7⟩ := nearest_rnd .f32 s m e hf.mag
  have hc : fconv .f64 .f32 (some b) = some (FloatKind.f32.format.nearest s m e) := by
    have h8 : FloatKind.f32.encode (.number s m e) = FloatKind.f32.format.nearest s m e := rfl
    simp only [fconv, Option.bind_some, floatToFloatBits, if_neg (by decide : ¬ FloatKind.f64 = FloatKind.f32), hd, h8]
    rw [if_neg]
    rw [h5]
    simp [Ieee.Datum.isInfinity]
  rw [hc]
  exact ⟨_, .of h5, h6⟩
theorem vl_narrow_ok {x : FV} {p : Rat} (hx : Vl .f64 x p) (hf : Fit .f32 p) : ConvOk .f64 .f32 x := by
  obtain ⟨r, h, _⟩ := vl_narrow hx hf
  exact .inr h.some
theorem vl_ofInt (k : FloatKind) (n : Int) (h : n.natAbs ≤ 2 ^ (k.format.fractionBits + 1)) : Vl k (some (k.nearest n)) (n : Rat) := by
  have hv := vl_int n 0
  rw [p2_zero, Rat.mul_one] at hv
  have hrep := rep_int k n h
  have hb : (((2 ^ (k.format.fractionBits + 1) : Nat)) : Rat) < p2 (ftop k) := by cases k <;> decide +kernel
  have hfit : (n.natAbs : Rat) * p2 0 < p2 (ftop k) := by
    rw [p2_zero, Rat.mul_one]
    exact Std.lt_of_le_of_lt (Rat.natCast_le_natCast.2 h) hb
  obtain ⟨m', e', h5, h6, _⟩ := nearest_rnd k (decide (n < 0)) n.natAbs 0 hfit
  rw [← hv] at h6
  have := rnd_rep h6 hrep
  exact ⟨_, _, m', e', rfl, h5, this⟩
/-- The whole number towards nought. -/
theorem vl_trunc {k : FloatKind} {b : Nat} {q : Rat} (hx : Vl k (some b) q) : ∃ n : Int, (k.decode b).toInt .zero = some n ∧ ((0 ≤ q ∧ (n : Rat) ≤ q ∧ q < n + 1) ∨ (q ≤ 0 ∧ q ≤ n ∧ (n : Rat) - 1 < q)) := by
  obtain ⟨b', s, m, e, hb, hd, rfl⟩ := hx
  cases hb
  rw [hd]
  simp only [Ieee.Datum.toInt, Ieee.Datum.integral]
  have hcut : ∀ n d, Ieee.Toward.zero.cut s n d = n / 2 ^ d := fun n d => by
    unfold Ieee.Toward.cut
    dsimp only
    rw [Nat.one_shiftLeft, Bool.toNat_false, Nat.add_zero]
    rcases Nat.le_total d (n.log2 + 2) with h | h
    · rw [Nat.min_eq_left h]
    · rw [Nat.min_eq_right h]
      have h1 : n < 2 ^ (n.log2 + 1) := Nat.lt_log2_self
      have h2 : 2 ^ (n.log2 + 1) ≤ 2 ^ (n.log2 + 2) := Nat.pow_le_pow_right (by decide) (by omega)
      have h3 : 2 ^ (n.log2 + 2) ≤ 2 ^ d := Nat.pow_le_pow_right (by decide) h
      rw [Nat.div_eq_of_lt (by omega), Nat.div_eq_of_lt (by omega)]
  rw [hcut]
  have hN : ∃ N : Nat, (m <<< e.toNat) / 2 ^ (-e).toNat = N ∧ (N : Rat) ≤ (m : Rat) * p2 e ∧ (m : Rat) * p2 e < N + 1 := by
    refine ⟨_, rfl, ?_⟩
    rcases Int.le_total 0 e with h | h
    · have : (-e).toNat = 0 := by omega
      rw [this, Nat.pow_zero, Nat.div_one]
      have h1 := mul_shl m e.toNat 0
      rw [p2_zero, Rat.mul_one] at h1
      rw [h1]
      have h2 : (0 : Int) + (e.toNat : Int) = e := by omega
      rw [h2]
      constructor <;> grind
    · have : e.toNat = 0 := by omega
      rw [this, Nat.shiftLeft_zero]
      have hs := p2_mul_neg e
      have h2 : p2 (-e) = ((2 ^ (-e).toNat : Nat) : Rat) := by
        rw [← p2_nat]
        congr 1
        omega
      rw [h2] at hs
      have hG : 0 < 2 ^ (-e).toNat := Nat.two_pow_pos _
      generalize 2 ^ (-e).toNat = G at *
      have h3 := Nat.div_add_mod m G
      have h4 := Nat.mod_lt m hG
      generalize m / G = N at *
      generalize m % G = r at *
      have hp := p2_pos e
      have hm : (m : Rat) = (G : Rat) * N + r := by
        rw [← h3, Rat.natCast_add, Rat.natCast_mul]
      have hr0 : (0 : Rat) ≤ r := Rat.natCast_nonneg
      have hr : (r : Rat) < G := Rat.natCast_lt_natCast.2 h4
      have a1 : (r : Rat) * p2 e < G * p2 e := Rat.mul_lt_mul_of_pos_right hr hp
      have a2 : 0 ≤ (r : Rat) * p2 e := Rat.mul_nonneg hr0 (Rat.le_of_lt hp)
      have a3 : (m : Rat) * p2 e = N + (r : Rat) * p2 e := by
        rw [hm, Rat.add_mul, Rat.mul_comm (G : Rat) (N : Rat), Rat.mul_assoc, Rat.mul_comm (G : Rat), hs, Rat.mul_one]
      rw [Rat.mul_comm (G : Rat), hs] at a1
      rw [a3]
      constructor <;> grind
  obtain ⟨N, hN1, hN2, hN3⟩ := hN
  rw [hN1]
  have hn : ((Ieee.signed s N 0 : Int) : Rat) = sgn s * N := by
    have := vl_signed s N 0 0
    rw [p2_zero, Rat.mul_one] at this
    rw [this]
    unfold vl
    show sgn s * ((N : Rat) * p2 0) = _
    rw [p2_zero, Rat.mul_one]
  have h0 : (0 : Rat) ≤ (m : Rat) * p2 e := Rat.mul_nonneg Rat.natCast_nonneg (Rat.le_of_lt (p2_pos e))
  refine ⟨_, rfl, ?_⟩
  rw [hn]
  unfold vl sgn
  cases s
  · left
    simp only [Bool.false_eq_true, if_false, Rat.one_mul]
    exact ⟨h0, hN2, hN3⟩
  · right
    simp only [if_true]
    refine ⟨?_, ?_, ?_⟩ <;> grind
/-- The other sign. -/
def negBits (k : FloatKind) (b : Nat) : Nat := b ^^^ 2 ^ (k.format.exponentBits + k.format.fractionBits)
def fneg (k : FloatKind) (x : FV) : FV := x.map (negBits k)
theorem negBits_mod (k : FloatKind) (b : Nat) : negBits k b % k.format.signWeight = b % k.format.signWeight := by
  show (b ^^^ k.format.signWeight) % 2 ^ (k.format.exponentBits + k.format.fractionBits) = b % 2 ^ (k.format.exponentBits + k.format.fractionBits)
  rw [Nat.xor_mod_two_pow]
  show _ ^^^ 2 ^ (k.format.exponentBits + k.format.fractionBits) % 2 ^ (k.format.exponentBits + k.format.fractionBits) = _
  rw [Nat.mod_self, Nat.xor_zero]
theorem negBits_sign (k : FloatKind) (b : Nat) : (negBits k b / k.format.signWeight % 2 == 1) = !(b / k.format.signWeight % 2 == 1) := by
  have h : ∀ x : Nat, (x / k.format.signWeight % 2 == 1) = x.testBit (k.format.exponentBits + k.format.fractionBits) := fun x => by
    rw [Nat.testBit_eq_decide_div_mod_eq]
    show (x / 2 ^ _ % 2 == 1) = _
    rw [Bool.eq_iff_iff, beq_iff_eq, decide_eq_true_iff]
  rw [h, h]
  unfold negBits
  rw [Nat.testBit_xor, Nat.testBit_two_pow_self, Bool.xor_true]
theorem read_negBits (k : FloatKind) (b : Nat) : k.decode (negBits k b) = (k.decode b).opposite := by
  unfold FloatKind.decode Ieee.Format.read
  simp only [negBits_mod, negBits_sign]
  split
  · rfl
  · split
    · rfl
    · split <;> rfl
theorem fv_negBits (k : FloatKind) (b : Nat) : fv k (negBits k b) = fneg k (fv k b) := by
  unfold fv
  rw [read_negBits]
  have : (k.decode b).opposite.isNaN = (k.decode b).isNaN := by cases k.decode b <;> rfl
  rw [this]
  split <;> rfl
theorem vl_fneg {k : FloatKind} {x : FV} {q : Rat} (h : Vl k x q) : Vl k (fneg k x) (-q) := by
  obtain ⟨b, s, m, e, rfl, hd, rfl⟩ := h
  refine ⟨negBits k b, !s, m, e, rfl, ?_, vl_neg s m e⟩
  rw [read_negBits, hd]
  rfl
theorem negBits_lt (k : FloatKind) {b : Nat} (h : b < 2 ^ k.format.width) : negBits k b < 2 ^ k.format.width := by
  unfold negBits
  refine Nat.xor_lt_two_pow h (Nat.pow_lt_pow_right (by decide) ?_)
  show _ < 1 + k.format.exponentBits + k.format.fractionBits
  omega
end Go.Ab
namespace Go.Ab
section
variable {P : Program} {S : World → Prop} {e : Env}
/-- A slice whose block is new. -/
def AV.lit (xs : List AV) : AV := .p fun w v => Rd w 1 v xs
theorem mono_lit (xs : List AV) : Mono fun w v => Rd w 1 v xs := fun _ _ _ hw h => h.ext hw
theorem fill_row : ∀ (vs : List Value) (k : Nat) (cs : Array Value), (∀ v ∈ vs, v.cells = #[v]) → k + vs.length ≤ cs.size →
    Instr.fill (fun i => some (i * 1, 1)) cs ((List.range' k vs.length).zip vs) = some (cs.toList.take k ++ vs ++ cs.toList.drop (k + vs.length)).toArray
  | [], k, cs, _, _ => by simp [Instr.fill]
  | v :: vs, k, cs, h, hk => by
    have h1 := h v (by simp)
    simp only [List.length_cons] at hk
    have hlt : k < cs.size := by omega
    rw [List.length_cons, List.range'_succ, List.zip_cons_cons]
    unfold Instr.fill
    simp only [h1, Nat.mul_one]
    have hc : (#[v] : Array Value).size ≠ 1 ∨ k + (#[v] : Array Value).size > cs.size ↔ False := by simp; omega
    rw [if_neg (by simp; omega)]
    have hz : (#[v] : Array Value).zipIdx.foldl (fun cs' (x : Value × Nat) => cs'.setIfInBounds (k + x.2) x.1) cs = cs.setIfInBounds k v := by simp
    have ih := fill_row vs (k + 1) (cs.setIfInBounds k v) (fun u hu => h u (by simp [hu])) (by simp; omega)
    simp only [Nat.mul_one] at ih
    show Instr.fill _ ((#[v] : Array Value).zipIdx.foldl (fun cs' (x : Value × Nat) => cs'.setIfInBounds (k + x.2) x.1) cs) _ = _
    rw [hz, ih]
    congr 1
    apply Array.toList_inj.1
    simp only [Array.toList_setIfInBounds]
    have hl : k < cs.toList.length := by simpa using hlt
    have a1 : (cs.toList.set k v).take (k + 1) = cs.toList.take k ++ [v] := by
      rw [List.set_eq_take_append_cons_drop, if_pos hl]
      have : (cs.toList.take k).length = k := by simp; omega
      rw [List.take_append, this]
      simp [List.take_of_length_le, this]
    have a2 : (cs.toList.set k v).drop (k + 1 + vs.length) = cs.toList.drop (k + (vs.length + 1)) := by
      rw [List.drop_set_of_lt (by omega)]
      congr 1; omega
    rw [a1, a2]
    simp
/-- It lies in one cell. -/
def isOne (x : AV) : Bool := oneAV x
theorem isOne_cells {w : World} {x : AV} {v : Value} (h : isOne x = true) (hr : Rel w x v) : v.cells = #[v] := (oneAV_spec h hr).1
theorem isOne_ev {w : World} {x : AV} {v : Value} (h : isOne x = true) (hr : Rel w x v) : Ev x v := hr.ev (oneAV_spec h hr).2.2
theorem opj_lit {t el : TypeId} {z : Value} {b n : Nat} {parts : Array (Nat × Operand)} {Xs : List Operand} {xs : List AV} {dst : Option Tmp} {ty : TypeId} {pos : String} {after : Array Edge} {guard : Option (Nat × Bool)} [hu : TyU P t (.slice el)] [hi : TyI P el z 1 b]
    (hp : parts.toList = (List.range' 0 Xs.length).zip Xs) (hn : n = Xs.length) (hx : evL e Xs = some xs) (h1 : xs.all isOne = true) (h0 : Nat.blt 0 n = true) (hb : Nat.ble n 1000 = true) :
    OpJ P S e ⟨dst, .buildSlice t n parts, ty, pos, after, guard⟩ (AV.lit xs) :=
  opj_value fun a w _ ho => by
    subst hn
    have h0' := Nat.le_of_ble_eq_true h0
    have hb' := Nat.le_of_ble_eq_true hb
    obtain ⟨i, hi1, hz1, hs1, hb1⟩ := hi.h
    have hops : ∀ X ∈ Xs, X ∈ (Op.operands (.buildSlice t Xs.length parts)).toList := fun X hX => by
      simp only [Op.operands, List.mem_map]
      rw [hp]
      obtain ⟨k, hk, rfl⟩ := List.mem_iff_getElem.1 hX
      refine ⟨(k, Xs[k]), ?_, rfl⟩
      rw [List.mem_iff_getElem]
      exact ⟨k, by simp; omega, by simp⟩
    have hrl : RelL w xs (Xs.map a.eval) := evL_rel hx fun X hX => ho X (hops X hX)
    have hlen : (Xs.map a.eval).length = xs.length := hrl.length
    have hlx : xs.length = Xs.length := by simpa using hlen.symm
    have hcells : ∀ v ∈ Xs.map a.eval, v.cells = #[v] := fun v hv => by
      obtain ⟨k, hk, rfl⟩ := List.mem_iff_getElem.1 hv
      obtain ⟨u, hu', hr⟩ := hrl.get (i := k) (a := xs[k]'(by omega)) (by simp)
      rw [List.getElem?_eq_getElem hk] at hu'
      cases hu'
      exact isOne_cells (List.all_eq_true.1 h1 _ (List.getElem_mem _)) hr
    have hrun := run_buildSlice (P := P) w t el Xs.length (parts.map fun (i, x) => (i, a.eval x)) (Xs.map a.eval).toArray i z hu.h hi1 hz1 (by rw [hs1]; omega) (by rw [hs1]; omega) (by
      rw [hs1, Array.toList_map, hp]
      have hf := fill_row (Xs.map a.eval) 0 ((Array.range (Xs.length * 1)).map (z.cells[· % z.cells.size]!)) hcells (by simp)
      have e1 : ((List.range' 0 Xs.length).zip Xs).map (fun (x : Nat × Operand) => (x.1, a.eval x.2)) = (List.range' 0 (Xs.map a.eval).length).zip (Xs.map a.eval) := by
        rw [List.length_map, List.zip_map_right]
        rfl
      rw [show (fun (x : Nat × Operand) => match x with | (i, x) => (i, a.eval x)) = fun (x : Nat × Operand) => (x.1, a.eval x.2) from rfl, e1, hf]
      simp)
    refine ⟨.slice (some ⟨w.heap.size, 0, none⟩) Xs.length Xs.length, w.alloc (.cells (Xs.map a.eval).toArray el), by simp [execOp, hrun], Ext.alloc _ _, .p (mono_lit xs) ?_⟩
    refine ⟨some ⟨w.heap.size, 0, none⟩, _, _, rfl, by omega, Nat.le_refl _, by simp only [maxLen]; omega, fun k x hk => ⟨_, rfl, rfl, ?_⟩⟩
    obtain ⟨u, hu', hr⟩ := hrl.get hk
    refine ⟨u, ?_, isOne_ev (List.all_eq_true.1 h1 _ (List.mem_of_getElem? hk)) hr⟩
    have hb := heap_alloc_new w (.cells (Xs.map a.eval).toArray el)
    unfold World.cell?
    simp only [hb, Nat.zero_add]
    rw [← hu']
    simp
end
end Go.Ab
