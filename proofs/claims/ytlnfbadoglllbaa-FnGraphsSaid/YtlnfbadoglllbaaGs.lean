/- Graphs of quarters: slopes that make no waves are no steeper than three times the slopes beside them. No conditions. -/
import Derived.Test.YtlnfbadoglllbaaGp
import Derived.Test.YtlnfbadoglllbaaRt
import Derived.Test.YtlnfbadoglllbaaSlope
namespace Go.Ab
variable {n : Nat} {f g : Int → FV} {a b : Int → Int}

theorem vl_k0 : Vl .f32 k0 0 := Vl.c (by decide +kernel)
theorem vl_k2 : Vl .f32 k2 2 := Vl.c (by decide +kernel)
theorem vl_k3 : Vl .f32 k3 3 := Vl.c (by decide +kernel)
theorem vl_k9 : Vl .f32 k9 9 := Vl.c (by decide +kernel)
theorem tiny_le : ftiny .f32 ≤ 1 / 1000000000000000000000000000000 := by decide +kernel
theorem rnd_rel {q r : Rat} (h : Rnd .f32 q r) (a : Rat) (h1 : -a ≤ q) (h2 : q ≤ a) : q - (a / 8388608 + 1 / 1000000000000000000000000000000) ≤ r ∧ r ≤ q + (a / 8388608 + 1 / 1000000000000000000000000000000) := by
  have h3 := h.near a h1 h2
  have e1 : feps .f32 = 1 / 8388608 := by decide +kernel
  have e2 := tiny_le
  rw [e1] at h3
  obtain ⟨h4, h5⟩ := h3
  constructor <;> grind
/-- The slope's value. -/
theorem GD.sig (h : GD n f g a b) {i : Int} (h1 : 1 ≤ i) (h2 : i < n) : ∃ s, Vl .f32 (sT f g i) s ∧ -100 ≤ s ∧ s ≤ 100 ∧ ((stp b i = 0 ∧ s = 0) ∨ (0 < stp b i ∧ 1 / 8 ≤ s ∧ s * stp a i ≤ stp b i * (1 + 1 / 1000000)) ∨ (stp b i < 0 ∧ s ≤ -(1 / 8) ∧ stp b i * (1 + 1 / 1000000) ≤ s * stp a i)) := by
  obtain ⟨s, hs, s1, s2, hr⟩ := h.s_vl h1 h2
  refine ⟨s, hs, s1, s2, ?_⟩
  have hm := h.slp_mul h1 h2
  have hst := h.step h1 h2
  have h8 : Rep .f32 (1 / 8) := (dy_rep 1 3 (by decide) (by decide) (by decide +kernel)).1
  have h8' : Rep .f32 (-(1 / 8)) := (dy_rep (-1) 3 (by decide) (by decide) (by decide +kernel)).1
  have hd : stp b i = 0 ∨ 1 / 4 ≤ stp b i ∨ stp b i ≤ -(1 / 4) := by
    unfold stp
    rcases (show b i - b (i - 1) = 0 ∨ 1 ≤ b i - b (i - 1) ∨ b i - b (i - 1) ≤ -1 from by omega) with h3 | h3 | h3
    · left; rw [h3]; decide +kernel
    · right; left
      have := int_le h3
      rw [show ((1 : Int) : Rat) = 1 from rfl] at this
      grind
    · right; right
      have := int_le h3
      rw [show ((-1 : Int) : Rat) = -1 from rfl] at this
      grind
  rcases hd with h3 | h3 | h3
  · left
    have h4 : slp a b i = 0 := by
      rw [h3] at hm
      rcases Rat.mul_eq_zero.1 hm with h5 | h5 <;> grind
    rw [h4] at hr
    exact ⟨h3, rnd_rep hr (rep_zero _)⟩
  · right; left
    have h4 : 1 / 8 ≤ slp a b i := le_div_of (by grind) (by grind)
    obtain ⟨h5, h6⟩ := rnd_rel hr (slp a b i) (by grind) Rat.le_refl
    refine ⟨by grind, (hr.side _ h8).2 h4, ?_⟩
    have h7 : s ≤ slp a b i * (1 + 1 / 1000000) := by grind
    have h8 := Rat.mul_le_mul_of_nonneg_right h7 (show 0 ≤ stp a i by grind)
    grind
  · right; right
    have h4 : slp a b i ≤ -(1 / 8) := div_le_of (by grind) (by grind)
    obtain ⟨h5, h6⟩ := rnd_rel hr (-slp a b i) (by grind) (by grind)
    refine ⟨by grind, (hr.side _ h8').1 h4, ?_⟩
    have h7 : slp a b i * (1 + 1 / 1000000) ≤ s := by grind
    have h8 := Rat.mul_le_mul_of_nonneg_right h7 (show 0 ≤ stp a i by grind)
    grind
/-- One of two numbers made smaller: its sign, and how great it is. -/
def Less (v v' : Rat) : Prop := (0 ≤ v → 0 ≤ v' ∧ v' ≤ v * (1 + 1 / 100000) + 1 / 1000000000000000000000000) ∧ (v ≤ 0 → v' ≤ 0 ∧ v * (1 + 1 / 100000) - 1 / 1000000000000000000000000 ≤ v') ∧ (v = 0 → v' = 0)
theorem Less.refl (v : Rat) : Less v v := ⟨fun h => ⟨h, by grind⟩, fun h => ⟨h, by grind⟩, id⟩
theorem less_zero (v : Rat) : Less v 0 := ⟨fun h => ⟨Rat.le_refl, by grind⟩, fun h => ⟨Rat.le_refl, by grind⟩, fun _ => rfl⟩
/-- A quotient and its part of a scaled pair. -/
theorem scal {V S T : FV} {v s t c : Rat} (hV : Vl .f32 V v) (hS : Vl .f32 S s) (hT : Vl .f32 T t) (v1 : -200 ≤ v) (v2 : v ≤ 200) (s1 : -100 ≤ s) (s2 : s ≤ 100) (hs : 1 / 8 ≤ s ∨ s ≤ -(1 / 8)) (t0 : 0 ≤ t) (t1 : t ≤ 1) (hc : 0 ≤ c ∧ c ≤ 2000)
    {q : Rat} (hq : Vl .f32 (fbin .quo .f32 V S) q) (hqr : Rnd .f32 (v / s) q) (hta : -c ≤ t * q ∧ t * q ≤ c) :
    ∃ v', Vl .f32 (fbin .mul .f32 (fbin .mul .f32 T (fbin .quo .f32 V S)) S) v' ∧ Less v v' ∧ (0 < s → -((c + 1 / 1000) * s) ≤ v' ∧ v' ≤ (c + 1 / 1000) * s) ∧ (s < 0 → (c + 1 / 1000) * s ≤ v' ∧ v' ≤ -((c + 1 / 1000) * s)) := by
  have hs0 : s ≠ 0 := by rcases hs with h | h <;> grind
  have hvs : v / s * s = v := Rat.div_mul_cancel hs0
  generalize v / s = w at *
  have hw : -1600 ≤ w ∧ w ≤ 1600 := by
    rcases hs with h | h
    · constructor
      · rcases Rat.le_total (a := -1600) (b := w) with h3 | h3
        · exact h3
        · have := Rat.mul_nonneg (show 0 ≤ -1600 - w by grind) (show 0 ≤ s - 1 / 8 by grind); grind
      · rcases Rat.le_total (a := w) (b := 1600) with h3 | h3
        · exact h3
        · have := Rat.mul_nonneg (show 0 ≤ w - 1600 by grind) (show 0 ≤ s - 1 / 8 by grind); grind
    · constructor
      · rcases Rat.le_total (a := -1600) (b := w) with h3 | h3
        · exact h3
        · have := Rat.mul_nonneg (show 0 ≤ -1600 - w by grind) (show 0 ≤ -(1 / 8) - s by grind); grind
      · rcases Rat.le_total (a := w) (b := 1600) with h3 | h3
        · exact h3
        · have := Rat.mul_nonneg (show 0 ≤ w - 1600 by grind) (show 0 ≤ -(1 / 8) - s by grind); grind
  have hqb : -1600 ≤ q ∧ q ≤ 1600 := rnd_btw hqr (int_rep (-1600) (by decide)).1 (int_rep 1600 (by decide)).1 hw.1 hw.2
  have h24 : p2 24 = 16777216 := by decide +kernel
  have htq := mul_bnd (p := t) (q := q) (a := 1) (b := 1600) (by grind) t1 (by grind) hqb.2
  obtain ⟨x, hx, hxr⟩ := vl_mul hT hq (fit_24 (by grind) (by grind))
  have hxs := hxr.side 0 (rep_zero _)
  have hxq := hxr.side q (vl_rep hq)
  have hxn := rnd_rel hxr c hta.1 hta.2
  have hxb : -1600 ≤ x ∧ x ≤ 1600 := rnd_btw hxr (int_rep (-1600) (by decide)).1 (int_rep 1600 (by decide)).1 (by grind) (by grind)
  have hxsb := mul_bnd (p := x) (q := s) (a := 1600) (b := 100) (by grind) hxb.2 (by grind) s2
  obtain ⟨v', hv', hvr⟩ := vl_mul hx hS (fit_24 (by grind) (by grind))
  have hvs0 := hvr.side 0 (rep_zero _)
  have hqs := hqr.side 0 (rep_zero _)
  refine ⟨v', hv', ⟨fun h => ?_, fun h => ?_, fun h => ?_⟩, fun h => ?_, fun h => ?_⟩
  · -- v is not below nought
    rcases hs with hs | hs
    · have w0 : 0 ≤ w := by
        rcases Rat.le_total (a := 0) (b := w) with h3 | h3
        · exact h3
        · have := Rat.mul_nonneg (show 0 ≤ -w by grind) (show 0 ≤ s - 1 / 8 by grind); grind
      have q0 := hqs.2 w0
      have hqn := rnd_rel hqr w (by grind) Rat.le_refl
      have tq0 := Rat.mul_nonneg t0 q0
      have x0 := hxs.2 tq0
      have tq1 := Rat.mul_nonneg (show 0 ≤ 1 - t by grind) q0
      have x1 := hxq.1 (by grind)
      have xs0 := Rat.mul_nonneg x0 (show 0 ≤ s by grind)
      have z0 := hvs0.2 xs0
      have m1 := Rat.mul_nonneg (show 0 ≤ w * (1 + 1 / 8388608) + 1 / 1000000000000000000000000000000 - x by grind) (show 0 ≤ s by grind)
      have z1 := rnd_rel hvr (x * s) (by grind) Rat.le_refl
      exact ⟨z0, by grind⟩
    · have w0 : w ≤ 0 := by
        rcases Rat.le_total (a := w) (b := 0) with h3 | h3
        · exact h3
        · have := Rat.mul_nonneg h3 (show 0 ≤ -(1 / 8) - s by grind); grind
      have q0 := hqs.1 w0
      have hqn := rnd_rel hqr (-w) (by grind) (by grind)
      have tq0 := Rat.mul_nonneg t0 (show 0 ≤ -q by grind)
      have x0 := hxs.1 (by grind)
      have tq1 := Rat.mul_nonneg (show 0 ≤ 1 - t by grind) (show 0 ≤ -q by grind)
      have x1 := hxq.2 (by grind)
      have xs0 := Rat.mul_nonneg (show 0 ≤ -x by grind) (show 0 ≤ -s by grind)
      have z0 := hvs0.2 (by grind)
      have m1 := Rat.mul_nonneg (show 0 ≤ x - (w * (1 + 1 / 8388608) - 1 / 1000000000000000000000000000000) by grind) (show 0 ≤ -s by grind)
      have z1 := rnd_rel hvr (x * s) (by grind) Rat.le_refl
      exact ⟨z0, by grind⟩
  · rcases hs with hs | hs
    · have w0 : w ≤ 0 := by
        rcases Rat.le_total (a := w) (b := 0) with h3 | h3
        · exact h3
        · have := Rat.mul_nonneg h3 (show 0 ≤ s - 1 / 8 by grind); grind
      have q0 := hqs.1 w0
      have hqn := rnd_rel hqr (-w) (by grind) (by grind)
      have tq0 := Rat.mul_nonneg t0 (show 0 ≤ -q by grind)
      have x0 := hxs.1 (by grind)
      have tq1 := Rat.mul_nonneg (show 0 ≤ 1 - t by grind) (show 0 ≤ -q by grind)
      have x1 := hxq.2 (by grind)
      have xs0 := Rat.mul_nonneg (show 0 ≤ -x by grind) (show 0 ≤ s by grind)
      have z0 := hvs0.1 (by grind)
      have m1 := Rat.mul_nonneg (show 0 ≤ x - (w * (1 + 1 / 8388608) - 1 / 1000000000000000000000000000000) by grind) (show 0 ≤ s by grind)
      have z1 := rnd_rel hvr (-(x * s)) (by grind) (by grind)
      exact ⟨z0, by grind⟩
    · have w0 : 0 ≤ w := by
        rcases Rat.le_total (a := 0) (b := w) with h3 | h3
        · exact h3
        · have := Rat.mul_nonneg (show 0 ≤ -w by grind) (show 0 ≤ -(1 / 8) - s by grind); grind
      have q0 := hqs.2 w0
      have hqn := rnd_rel hqr w (by grind) Rat.le_refl
      have tq0 := Rat.mul_nonneg t0 q0
      have x0 := hxs.2 tq0
      have tq1 := Rat.mul_nonneg (show 0 ≤ 1 - t by grind) q0
      have x1 := hxq.1 (by grind)
      have xs0 := Rat.mul_nonneg x0 (show 0 ≤ -s by grind)
      have z0 := hvs0.1 (by grind)
      have m1 := Rat.mul_nonneg (show 0 ≤ w * (1 + 1 / 8388608) + 1 / 1000000000000000000000000000000 - x by grind) (show 0 ≤ -s by grind)
      have z1 := rnd_rel hvr (-(x * s)) (by grind) (by grind)
      exact ⟨z0, by grind⟩
  · have w0 : w = 0 := by
      rw [h] at hvs
      rcases Rat.mul_eq_zero.1 hvs with h3 | h3
      · exact h3
      · exact absurd h3 hs0
    rw [w0] at hqr
    have q0 := rnd_rep hqr (rep_zero _)
    rw [q0, Rat.mul_zero] at hxr
    have x0 := rnd_rep hxr (rep_zero _)
    rw [x0, Rat.zero_mul] at hvr
    exact rnd_rep hvr (rep_zero _)
  · have s8 : 1 / 8 ≤ s := by rcases hs with h3 | h3 <;> grind
    have m1 := Rat.mul_nonneg (show 0 ≤ (c + (c / 8388608 + 1 / 1000000000000000000000000000000)) - x by grind) (show 0 ≤ s by grind)
    have m2 := Rat.mul_nonneg (show 0 ≤ (c + (c / 8388608 + 1 / 1000000000000000000000000000000)) + x by grind) (show 0 ≤ s by grind)
    have z1 := rnd_rel hvr ((c + (c / 8388608 + 1 / 1000000000000000000000000000000)) * s) (by grind) (by grind)
    have m3 := Rat.mul_nonneg (show 0 ≤ 2000 - c by grind) (show 0 ≤ s by grind)
    constructor <;> grind
  · have s8 : s ≤ -(1 / 8) := by rcases hs with h3 | h3 <;> grind
    have m1 := Rat.mul_nonneg (show 0 ≤ (c + (c / 8388608 + 1 / 1000000000000000000000000000000)) - x by grind) (show 0 ≤ -s by grind)
    have m2 := Rat.mul_nonneg (show 0 ≤ (c + (c / 8388608 + 1 / 1000000000000000000000000000000)) + x by grind) (show 0 ≤ -s by grind)
    have z1 := rnd_rel hvr (-((c + (c / 8388608 + 1 / 1000000000000000000000000000000)) * s)) (by grind) (by grind)
    have m3 := Rat.mul_nonneg (show 0 ≤ 2000 - c by grind) (show 0 ≤ -s by grind)
    constructor <;> grind
/-- Bounded by a multiple of a slope. -/
def Bd (K v s : Rat) : Prop := (0 ≤ s → -(K * s) ≤ v ∧ v ≤ K * s) ∧ (s ≤ 0 → K * s ≤ v ∧ v ≤ -(K * s))
theorem abs_three {a : Rat} (h : a * a ≤ 9 + 1 / 10000) : -(3 + 1 / 10000) ≤ a ∧ a ≤ 3 + 1 / 10000 := by
  constructor
  · rcases Rat.le_total (a := -(3 + 1 / 10000)) (b := a) with h1 | h1
    · exact h1
    · have := Rat.mul_nonneg (show 0 ≤ -(3 + 1 / 10000) - a by grind) (show 0 ≤ -(3 + 1 / 10000) - a by grind)
      grind
  · rcases Rat.le_total (a := a) (b := 3 + 1 / 10000) with h1 | h1
    · exact h1
    · have := Rat.mul_nonneg (show 0 ≤ a - (3 + 1 / 10000) by grind) (show 0 ≤ a - (3 + 1 / 10000) by grind)
      grind
/-- Of a small quotient. -/
theorem quo_bd {v s q : Rat} (hs : 1 / 8 ≤ s ∨ s ≤ -(1 / 8)) (hqr : Rnd .f32 (v / s) q) (hw : -1600 ≤ v / s ∧ v / s ≤ 1600) (h1 : -(3 + 1 / 10000) ≤ q) (h2 : q ≤ 3 + 1 / 10000) : Bd (3 + 15 / 10000) v s := by
  have hs0 : s ≠ 0 := by rcases hs with h | h <;> grind
  have hvs : v / s * s = v := Rat.div_mul_cancel hs0
  have hn := rnd_rel hqr 1600 hw.1 hw.2
  generalize v / s = w at *
  have w1 : -(3 + 15 / 10000) ≤ w := by grind
  have w2 : w ≤ 3 + 15 / 10000 := by grind
  refine ⟨fun h => ?_, fun h => ?_⟩
  · have m1 := Rat.mul_nonneg (show 0 ≤ (3 + 15 / 10000) - w by grind) h
    have m2 := Rat.mul_nonneg (show 0 ≤ (3 + 15 / 10000) + w by grind) h
    constructor <;> grind
  · have m1 := Rat.mul_nonneg (show 0 ≤ (3 + 15 / 10000) - w by grind) (show 0 ≤ -s by grind)
    have m2 := Rat.mul_nonneg (show 0 ≤ (3 + 15 / 10000) + w by grind) (show 0 ≤ -s by grind)
    constructor <;> grind
theorem div_bd {v s : Rat} (v1 : -200 ≤ v) (v2 : v ≤ 200) (hs : 1 / 8 ≤ s ∨ s ≤ -(1 / 8)) : -1600 ≤ v / s ∧ v / s ≤ 1600 := by
  have hs0 : s ≠ 0 := by rcases hs with h | h <;> grind
  have hvs : v / s * s = v := Rat.div_mul_cancel hs0
  generalize v / s = w at *
  rcases hs with h | h
  · constructor
    · rcases Rat.le_total (a := -1600) (b := w) with h3 | h3
      · exact h3
      · have := Rat.mul_nonneg (show 0 ≤ -1600 - w by grind) (show 0 ≤ s - 1 / 8 by grind); grind
    · rcases Rat.le_total (a := w) (b := 1600) with h3 | h3
      · exact h3
      · have := Rat.mul_nonneg (show 0 ≤ w - 1600 by grind) (show 0 ≤ s - 1 / 8 by grind); grind
  · constructor
    · rcases Rat.le_total (a := -1600) (b := w) with h3 | h3
      · exact h3
      · have := Rat.mul_nonneg (show 0 ≤ -1600 - w by grind) (show 0 ≤ -(1 / 8) - s by grind); grind
    · rcases Rat.le_total (a := w) (b := 1600) with h3 | h3
      · exact h3
      · have := Rat.mul_nonneg (show 0 ≤ w - 1600 by grind) (show 0 ≤ -(1 / 8) - s by grind); grind
theorem scal_bd {v' s c : Rat} (hc : c = 3 + 1 / 10000) (h1 : 0 < s → -((c + 1 / 1000) * s) ≤ v' ∧ v' ≤ (c + 1 / 1000) * s) (h2 : s < 0 → (c + 1 / 1000) * s ≤ v' ∧ v' ≤ -((c + 1 / 1000) * s)) (hs : s ≠ 0) : Bd (3 + 15 / 10000) v' s := by
  subst hc
  refine ⟨fun h => ?_, fun h => ?_⟩
  · have h3 := h1 (by grind)
    constructor <;> grind
  · have h3 := h2 (by grind)
    constructor <;> grind
/-- A round: both numbers are made smaller, and are then no greater than thrice the slope. -/
theorem pair_step {s F : Int → FV} {i : Int} {σ v w : Rat} (hS : Vl .f32 (s i) σ) (s1 : -100 ≤ σ) (s2 : σ ≤ 100) (hs : σ = 0 ∨ 1 / 8 ≤ σ ∨ σ ≤ -(1 / 8)) (hV : Vl .f32 (F (i - 1)) v) (hW : Vl .f32 (F i) w) (v1 : -200 ≤ v) (v2 : v ≤ 200) (w1 : -200 ≤ w) (w2 : w ≤ 200) :
    ∃ v' w', Vl .f32 (sstp s i F (i - 1)) v' ∧ Vl .f32 (sstp s i F i) w' ∧ Less v v' ∧ Less w w' ∧ Bd (3 + 15 / 10000) v' σ ∧ Bd (3 + 15 / 10000) w' σ := by
  rcases hs with h0 | hs
  · have he : cmpB .eql (fcmp .f32 (s i) k0) = true := by rw [vl_eql hS vl_k0]; exact decide_eq_true h0
    rw [sstp_zero s he]
    refine ⟨0, 0, ?_, ?_, less_zero v, less_zero w, ?_, ?_⟩
    · rw [putx_ne _ _ _ (by omega), putx_at]; exact vl_k0
    · rw [putx_at]; exact vl_k0
    · subst h0; exact ⟨fun _ => ⟨by grind, by grind⟩, fun _ => ⟨by grind, by grind⟩⟩
    · subst h0; exact ⟨fun _ => ⟨by grind, by grind⟩, fun _ => ⟨by grind, by grind⟩⟩
  have hs0 : σ ≠ 0 := by rcases hs with h | h <;> grind
  have he : cmpB .eql (fcmp .f32 (s i) k0) = false := by rw [vl_eql hS vl_k0]; exact decide_eq_false hs0
  have hva := div_bd v1 v2 hs
  have hwb := div_bd w1 w2 hs
  obtain ⟨a, ha, a1, a2, har⟩ := div_i hV hS hs0 (-1600) 1600 (by decide) (by decide) hva.1 hva.2
  obtain ⟨b, hb, b1, b2, hbr⟩ := div_i hW hS hs0 (-1600) 1600 (by decide) (by decide) hwb.1 hwb.2
  rw [show ((-1600 : Int) : Rat) = -1600 from rfl] at a1 b1
  rw [show ((1600 : Int) : Rat) = 1600 from rfl] at a2 b2
  have haa := mul_bnd (p := a) (q := a) (a := 1600) (b := 1600) a1 a2 a1 a2
  have hbb := mul_bnd (p := b) (q := b) (a := 1600) (b := 1600) b1 b2 b1 b2
  have haa0 : 0 ≤ a * a := by rcases Rat.le_total (a := 0) (b := a) with h | h; exact Rat.mul_nonneg h h; (have := Rat.mul_nonneg (show 0 ≤ -a by grind) (show 0 ≤ -a by grind)); grind
  have hbb0 : 0 ≤ b * b := by rcases Rat.le_total (a := 0) (b := b) with h | h; exact Rat.mul_nonneg h h; (have := Rat.mul_nonneg (show 0 ≤ -b by grind) (show 0 ≤ -b by grind)); grind
  obtain ⟨A, hA, A1, A2, hAr⟩ := mul_i ha ha 0 2560000 (by decide) (by decide) (by rw [show ((0 : Int) : Rat) = 0 from rfl]; exact haa0) (by rw [show ((2560000 : Int) : Rat) = 2560000 from rfl]; grind)
  obtain ⟨B, hB, B1, B2, hBr⟩ := mul_i hb hb 0 2560000 (by decide) (by decide) (by rw [show ((0 : Int) : Rat) = 0 from rfl]; exact hbb0) (by rw [show ((2560000 : Int) : Rat) = 2560000 from rfl]; grind)
  rw [show ((0 : Int) : Rat) = 0 from rfl] at A1 B1
  rw [show ((2560000 : Int) : Rat) = 2560000 from rfl] at A2 B2
  obtain ⟨r, hr, r1, r2, hrr⟩ := add_i hA hB 0 5120000 (by decide) (by decide) (by rw [show ((0 : Int) : Rat) = 0 from rfl]; grind) (by rw [show ((5120000 : Int) : Rat) = 5120000 from rfl]; grind)
  rw [show ((5120000 : Int) : Rat) = 5120000 from rfl] at r2
  have rA : A ≤ r := (hrr.side A (vl_rep hA)).2 (by grind)
  have rB : B ≤ r := (hrr.side B (vl_rep hB)).2 (by grind)
  have nA := rnd_rel hAr (a * a) (by grind) Rat.le_refl
  have nB := rnd_rel hBr (b * b) (by grind) Rat.le_refl
  have hr' : Vl .f32 (cfR s F i) r := hr
  have hg : cmpB .gtr (fcmp .f32 (cfR s F i) k9) = decide (9 < r) := vl_gtr hr' vl_k9
  by_cases h9 : 9 < r
  · rw [decide_eq_true h9] at hg
    rw [sstp_big s he hg]
    have p100 : p2 (-100) ≤ r := by
      have : p2 (-100) ≤ 1 := by decide +kernel
      grind
    have p100' : r ≤ p2 100 := by
      have : (5120000 : Rat) ≤ p2 100 := by decide +kernel
      grind
    obtain ⟨R, hR, hR0, hRs, hRn, hRn2⟩ := vl_root hr' p100 p100'
    have r3 : RepN .f32 3 := ⟨3, 0, by decide, by decide, by decide +kernel⟩
    have r3000 : RepN .f32 3000 := ⟨3000, 0, by decide, by decide, by decide +kernel⟩
    have R3 : 3 ≤ R := (hRs 3 r3).2 (by grind)
    have R4 : R ≤ 3000 := (hRs 3000 r3000).1 (by grind)
    have e21 : p2 (-21) = 1 / 2097152 := by decide +kernel
    rw [e21] at hRn
    have h3R : 3 / R * R = 3 := Rat.div_mul_cancel (by grind)
    have q0 : 0 ≤ 3 / R := le_div_of hR0 (by grind)
    have q1 : 3 / R ≤ 1 := div_le_of hR0 (by grind)
    obtain ⟨t, ht, t0, t1, htr⟩ := div_i vl_k3 hR (by grind) 0 1 (by decide) (by decide) q0 q1
    rw [show ((0 : Int) : Rat) = 0 from rfl] at t0
    rw [show ((1 : Int) : Rat) = 1 from rfl] at t1
    have tn := rnd_rel htr (3 / R) (by grind) Rat.le_refl
    have tR : t * R ≤ 3 + 1 / 1000000 := by
      have := Rat.mul_nonneg (show 0 ≤ 3 / R + (3 / R / 8388608 + 1 / 1000000000000000000000000000000) - t by grind) (show 0 ≤ R by grind)
      grind
    have ht' : Vl .f32 (cfT s F i) t := ht
    have hRR := Rat.mul_pos hR0 hR0
    have big : ∀ x X : Rat, 0 ≤ x * x → x * x - (x * x / 8388608 + 1 / 1000000000000000000000000000000) ≤ X → X ≤ r → -(3 + 1 / 10000) ≤ t * x ∧ t * x ≤ 3 + 1 / 10000 := fun x X hx0 hx hX => by
      have g1 : x * x ≤ R * (1 + 1 / 1000000) * (R * (1 + 1 / 1000000)) := by grind
      have g2 : x ≤ R * (1 + 1 / 1000000) := by
        rcases Rat.le_total (a := 0) (b := x) with h | h
        · exact sq_le_of h (by grind) g1
        · grind
      have g3 : -x ≤ R * (1 + 1 / 1000000) := by
        rcases Rat.le_total (a := 0) (b := x) with h | h
        · grind
        · exact sq_le_of (by grind) (by grind) (by grind)
      have m1 := Rat.mul_nonneg t0 (show 0 ≤ R * (1 + 1 / 1000000) - x by grind)
      have m2 := Rat.mul_nonneg t0 (show 0 ≤ R * (1 + 1 / 1000000) + x by grind)
      constructor <;> grind
    obtain ⟨v', hv', hvl, hv3, hv4⟩ := scal (c := 3 + 1 / 10000) hV hS ht' v1 v2 s1 s2 hs t0 t1 (by constructor <;> grind) ha har (big a A haa0 nA.1 rA)
    obtain ⟨w', hw', hwl, hw3, hw4⟩ := scal (c := 3 + 1 / 10000) hW hS ht' w1 w2 s1 s2 hs t0 t1 (by constructor <;> grind) hb hbr (big b B hbb0 nB.1 rB)
    refine ⟨v', w', ?_, ?_, hvl, hwl, scal_bd rfl hv3 hv4 hs0, scal_bd rfl hw3 hw4 hs0⟩
    · rw [putx_ne _ _ _ (by omega), putx_at]; exact hv'
    · rw [putx_at]; exact hw'
  · rw [decide_eq_false h9] at hg
    rw [sstp_same s he hg]
    have r9 : r ≤ 9 := Rat.not_lt.1 h9
    have ka := abs_three (a := a) (by grind)
    have kb := abs_three (a := b) (by grind)
    exact ⟨v, w, hV, hW, Less.refl v, Less.refl w, quo_bd hs har hva ka.1 ka.2, quo_bd hs hbr hwb kb.1 kb.2⟩
theorem sstp_ne (s F : Int → FV) {i t : Int} (h1 : t ≠ i) (h2 : t ≠ i - 1) : sstp s i F t = F t := by
  unfold sstp
  split
  · rw [putx_ne _ _ _ h1, putx_ne _ _ _ h2]
  · split
    · rw [putx_ne _ _ _ h1, putx_ne _ _ _ h2]
    · rfl
def Sgn (v d : Rat) : Prop := (0 ≤ d → 0 ≤ v) ∧ (d ≤ 0 → v ≤ 0)
theorem Sgn.less {v v' d : Rat} (h : Sgn v d) (hl : Less v v') : Sgn v' d := ⟨fun h0 => (hl.1 (h.1 h0)).1, fun h0 => (hl.2.1 (h.2 h0)).1⟩
theorem Bd.less {v v' s : Rat} (h : Bd (3 + 15 / 10000) v s) (hs : s = 0 ∨ 1 / 8 ≤ s ∨ s ≤ -(1 / 8)) (hl : Less v v') : Bd (3 + 20 / 10000) v' s := by
  obtain ⟨h1, h2⟩ := h
  rcases hs with h0 | hs | hs
  · subst h0
    have h3 := h1 Rat.le_refl
    have hv : v = 0 := by grind
    have := hl.2.2 hv
    subst this
    exact ⟨fun _ => ⟨by grind, by grind⟩, fun _ => ⟨by grind, by grind⟩⟩
  · have h3 := h1 (by grind)
    have hv : -((3 + 20 / 10000) * s) ≤ v' ∧ v' ≤ (3 + 20 / 10000) * s := by
      rcases Rat.le_total (a := 0) (b := v) with h | h
      · have := hl.1 h; constructor <;> grind
      · have := hl.2.1 h; constructor <;> grind
    exact ⟨fun _ => hv, fun h => by grind⟩
  · have h3 := h2 (by grind)
    have hv : (3 + 20 / 10000) * s ≤ v' ∧ v' ≤ -((3 + 20 / 10000) * s) := by
      rcases Rat.le_total (a := 0) (b := v) with h | h
      · have := hl.1 h; constructor <;> grind
      · have := hl.2.1 h; constructor <;> grind
    exact ⟨fun h => by grind, fun _ => hv⟩
theorem Bd.weak {v s : Rat} (h : Bd (3 + 15 / 10000) v s) : Bd (3 + 20 / 10000) v s :=
  ⟨fun h0 => by have := h.1 h0; constructor <;> grind, fun h0 => by have := h.2 h0; constructor <;> grind⟩
/-- What stands behind k rounds. -/
structure Wav (n : Nat) (f g : Int → FV) (b : Int → Int) (k : Nat) (F : Int → FV) : Prop where
  all : ∀ t : Int, 0 ≤ t → t < n → ∃ v, Vl .f32 (F t) v ∧ -(100 + (k : Rat)) ≤ v ∧ v ≤ 100 + (k : Rat) ∧ ∀ i : Int, (i = t ∨ i = t + 1) → 1 ≤ i → i < n → Sgn v (stp b i)
  done : ∀ i : Int, 1 ≤ i → i ≤ k → ∀ v w σ, Vl .f32 (F (i - 1)) v → Vl .f32 (F i) w → Vl .f32 (sT f g i) σ → Bd (3 + 20 / 10000) v σ ∧ Bd (3 + 20 / 10000) w σ
  last : 1 ≤ k → ∀ w σ, Vl .f32 (F k) w → Vl .f32 (sT f g k) σ → Bd (3 + 15 / 10000) w σ
theorem less_grow {v v' c : Rat} (h : Less v v') (h1 : -c ≤ v) (h2 : v ≤ c) (hc : c ≤ 200) : -(c + 1) ≤ v' ∧ v' ≤ c + 1 := by
  rcases Rat.le_total (a := 0) (b := v) with h0 | h0
  · have := h.1 h0; constructor <;> grind
  · have := h.2.1 h0; constructor <;> grind
theorem GD.sig8 (h : GD n f g a b) {i : Int} (h1 : 1 ≤ i) (h2 : i < n) {s : Rat} (hs : Vl .f32 (sT f g i) s) : -100 ≤ s ∧ s ≤ 100 ∧ (s = 0 ∨ 1 / 8 ≤ s ∨ s ≤ -(1 / 8)) := by
  obtain ⟨s', hs', s1, s2, hc⟩ := h.sig h1 h2
  obtain rfl := hs.unique hs'
  refine ⟨s1, s2, ?_⟩
  rcases hc with ⟨_, h3⟩ | ⟨_, h3, _⟩ | ⟨_, h3, _⟩
  · exact .inl h3
  · exact .inr (.inl h3)
  · exact .inr (.inr h3)
theorem GD.wav_step (h : GD n f g a b) {k : Nat} {F : Int → FV} (hk : (k : Int) + 1 < n) (hF : Wav n f g b k F) : Wav n f g b (k + 1) (sstp (sT f g) ((k : Int) + 1) F) := by
  have hn := h.hn
  have hkr : (k : Rat) ≤ 6 := by
    have : (k : Rat) ≤ ((6 : Nat) : Rat) := Rat.natCast_le_natCast.2 (by omega)
    exact this
  have hk0 : (0 : Rat) ≤ (k : Rat) := Rat.natCast_nonneg
  have hk1 : ((k + 1 : Nat) : Rat) = (k : Rat) + 1 := by rw [Rat.natCast_add]; rfl
  obtain ⟨s, hs, s1, s2, hsc⟩ := h.sig (i := (k : Int) + 1) (by omega) hk
  have hs8 := (h.sig8 (i := (k : Int) + 1) (by omega) hk hs).2.2
  obtain ⟨v, hv, v1, v2, vs⟩ := hF.all (k : Int) (by omega) (by omega)
  obtain ⟨w, hw, w1, w2, ws⟩ := hF.all ((k : Int) + 1) (by omega) (by omega)
  have hv0 : Vl .f32 (F ((k : Int) + 1 - 1)) v := by rwa [show (k : Int) + 1 - 1 = k from by omega]
  obtain ⟨v', w', hv', hw', lv, lw, bv, bw⟩ := pair_step (s := sT f g) (F := F) hs s1 s2 hs8 hv0 hw (by grind) (by grind) (by grind) (by grind)
  rw [show (k : Int) + 1 - 1 = k from by omega] at hv'
  have gv := less_grow lv v1 v2 (by grind)
  have gw := less_grow lw w1 w2 (by grind)
  refine ⟨fun t h0 h1 => ?_, fun i h1 h2 x y σ hx hy hσ => ?_, fun _ y σ hy hσ => ?_⟩
  · rw [hk1]
    by_cases e1 : t = (k : Int) + 1
    · subst e1
      exact ⟨w', hw', by grind, by grind, fun i hi a1 a2 => (ws i hi a1 a2).less lw⟩
    · by_cases e2 : t = (k : Int)
      · subst e2
        exact ⟨v', hv', by grind, by grind, fun i hi a1 a2 => (vs i hi a1 a2).less lv⟩
      · rw [sstp_ne _ _ e1 (by omega)]
        obtain ⟨u, hu, u1, u2, us⟩ := hF.all t h0 h1
        exact ⟨u, hu, by grind, by grind, us⟩
  · by_cases e1 : i = (k : Int) + 1
    · subst e1
      rw [show (k : Int) + 1 - 1 = k from by omega] at hx
      obtain rfl := hx.unique hv'
      obtain rfl := hy.unique hw'
      obtain rfl := hσ.unique hs
      exact ⟨bv.weak, bw.weak⟩
    · have hik : i ≤ k := by omega
      rw [sstp_ne _ _ (by omega) (by omega)] at hx
      by_cases e2 : i = (k : Int)
      · subst e2
        obtain rfl := hy.unique hv'
        have hB := hF.last (by omega) v σ hv hσ
        have h8 := (h.sig8 (i := (k : Int)) (by omega) (by omega) hσ).2.2
        exact ⟨(hF.done (k : Int) (by omega) (by omega) x v σ hx hv hσ).1, hB.less h8 lv⟩
      · rw [sstp_ne _ _ (by omega) (by omega)] at hy
        exact hF.done i h1 hik x y σ hx hy hσ
  · rw [show ((k + 1 : Nat) : Int) = (k : Int) + 1 from by omega] at hy hσ
    obtain rfl := hy.unique hw'
    obtain rfl := hσ.unique hs
    exact bw
theorem GD.sgn_s (h : GD n f g a b) {i : Int} (h1 : 1 ≤ i) (h2 : i < n) {s : Rat} (hs : Vl .f32 (sT f g i) s) : Sgn s (stp b i) := by
  obtain ⟨s', hs', s1, s2, hc⟩ := h.sig h1 h2
  obtain rfl := hs.unique hs'
  rcases hc with ⟨h3, h4⟩ | ⟨h3, h4, _⟩ | ⟨h3, h4, _⟩
  · exact ⟨fun _ => by grind, fun _ => by grind⟩
  · exact ⟨fun _ => by grind, fun _ => by grind⟩
  · exact ⟨fun _ => by grind, fun _ => by grind⟩
theorem GD.wav_zero (h : GD n f g a b) : Wav n f g b 0 (stA (sT f g) n ((n : Int) - 1)) := by
  have hn := h.hn
  have e0 : ((0 : Nat) : Rat) = 0 := rfl
  refine ⟨fun t h0 h1 => ?_, fun i h1 h2 => by omega, fun h1 => by omega⟩
  rw [e0, Rat.add_zero]
  unfold stA
  by_cases c1 : t = (n : Int) - 1
  · rw [if_pos c1]
    obtain ⟨s, hs, s1, s2, _⟩ := h.sig (i := (n : Int) - 1) (by omega) (by omega)
    refine ⟨s, hs, s1, s2, fun i hi a1 a2 => ?_⟩
    have : i = (n : Int) - 1 := by omega
    subst this
    exact h.sgn_s a1 a2 hs
  rw [if_neg c1]
  by_cases c2 : t = 0
  · rw [if_pos c2]
    obtain ⟨s, hs, s1, s2, _⟩ := h.sig (i := 1) (by omega) (by omega)
    refine ⟨s, hs, s1, s2, fun i hi a1 a2 => ?_⟩
    have : i = 1 := by omega
    subst this
    exact h.sgn_s a1 a2 hs
  rw [if_neg c2]
  obtain ⟨s, hs, s1, s2, _⟩ := h.sig (i := t) (by omega) (by omega)
  obtain ⟨u, hu, u1, u2, _⟩ := h.sig (i := t + 1) (by omega) (by omega)
  have gs := h.sgn_s (i := t) (by omega) (by omega) hs
  have gu := h.sgn_s (i := t + 1) (by omega) (by omega) hu
  have hsu := mul_bnd (p := s) (q := u) (a := 100) (b := 100) s1 s2 u1 u2
  obtain ⟨m, hm, _, _, hmr⟩ := mul_i hs hu (-10000) 10000 (by decide) (by decide) (by rw [show ((-10000 : Int) : Rat) = -10000 from rfl]; grind) (by rw [show ((10000 : Int) : Rat) = 10000 from rfl]; grind)
  have hg : gtb (sT f g) t = decide (0 < m) := vl_gtr hm vl_k0
  by_cases hm0 : 0 < m
  · rw [if_pos ⟨by omega, by rw [hg]; exact decide_eq_true hm0⟩]
    have hpos : 0 < s * u := Rat.not_le.1 fun h3 => by
      have := (hmr.side 0 (rep_zero _)).1 h3
      grind
    obtain ⟨x, hx, x1, x2, hxr⟩ := add_i hs hu (-200) 200 (by decide) (by decide) (by rw [show ((-200 : Int) : Rat) = -200 from rfl]; grind) (by rw [show ((200 : Int) : Rat) = 200 from rfl]; grind)
    rw [show ((-200 : Int) : Rat) = -200 from rfl] at x1
    rw [show ((200 : Int) : Rat) = 200 from rfl] at x2
    have h2 : x / 2 * 2 = x := Rat.div_mul_cancel (by decide +kernel)
    obtain ⟨y, hy, y1, y2, hyr⟩ := div_i hx vl_k2 (by decide +kernel) (-100) 100 (by decide) (by decide) (by rw [show ((-100 : Int) : Rat) = -100 from rfl]; grind) (by rw [show ((100 : Int) : Rat) = 100 from rfl]; grind)
    refine ⟨y, hy, y1, y2, fun i hi a1 a2 => ?_⟩
    have xs := hxr.side 0 (rep_zero _)
    have ys := hyr.side 0 (rep_zero _)
    have both : (0 < s ∧ 0 < u ∧ 0 ≤ y) ∨ (s < 0 ∧ u < 0 ∧ y ≤ 0) := by
      rcases Rat.le_total (a := 0) (b := s) with p1 | p1
      · rcases Rat.le_total (a := 0) (b := u) with p2 | p2
        · left
          have n1 : s ≠ 0 := fun e => by rw [e, Rat.zero_mul] at hpos; grind
          have n2 : u ≠ 0 := fun e => by rw [e, Rat.mul_zero] at hpos; grind
          have := xs.2 (by grind)
          exact ⟨by grind, by grind, ys.2 (by grind)⟩
        · have := Rat.mul_nonneg p1 (show 0 ≤ -u by grind); grind
      · rcases Rat.le_total (a := 0) (b := u) with p2 | p2
        · have := Rat.mul_nonneg (show 0 ≤ -s by grind) p2; grind
        · right
          have n1 : s ≠ 0 := fun e => by rw [e, Rat.zero_mul] at hpos; grind
          have n2 : u ≠ 0 := fun e => by rw [e, Rat.mul_zero] at hpos; grind
          have := xs.1 (by grind)
          exact ⟨by grind, by grind, ys.1 (by grind)⟩
    rcases hi with rfl | rfl
    · rcases both with ⟨q1, q2, q3⟩ | ⟨q1, q2, q3⟩
      · exact ⟨fun _ => q3, fun h3 => by have := gs.2 h3; grind⟩
      · exact ⟨fun h3 => by have := gs.1 h3; grind, fun _ => q3⟩
    · rcases both with ⟨q1, q2, q3⟩ | ⟨q1, q2, q3⟩
      · exact ⟨fun _ => q3, fun h3 => by have := gu.2 h3; grind⟩
      · exact ⟨fun h3 => by have := gu.1 h3; grind, fun _ => q3⟩
  · rw [if_neg (by rw [hg, decide_eq_false hm0]; simp)]
    exact ⟨0, vl_k0, by grind, by grind, fun _ _ _ _ => ⟨fun _ => Rat.le_refl, fun _ => Rat.le_refl⟩⟩
theorem GD.wav (h : GD n f g a b) : ∀ k : Nat, (k : Int) < n → Wav n f g b k (sres (sT f g) n k)
  | 0, _ => h.wav_zero
  | k + 1, hk => h.wav_step (by omega) (h.wav k (by omega))
/-- The slopes at a span's ends. -/
theorem GD.slopes (h : GD n f g a b) {i : Int} (h1 : 1 ≤ i) (h2 : i < n) : ∃ v w, Vl .f32 (slopT n f g (i - 1)) v ∧ Vl .f32 (slopT n f g i) w ∧ -107 ≤ v ∧ v ≤ 107 ∧ -107 ≤ w ∧ w ≤ 107 ∧
    (0 ≤ stp b i → 0 ≤ v * stp a i ∧ v * stp a i ≤ (3 + 1 / 100) * stp b i ∧ 0 ≤ w * stp a i ∧ w * stp a i ≤ (3 + 1 / 100) * stp b i) ∧
    (stp b i ≤ 0 → v * stp a i ≤ 0 ∧ (3 + 1 / 100) * stp b i ≤ v * stp a i ∧ w * stp a i ≤ 0 ∧ (3 + 1 / 100) * stp b i ≤ w * stp a i) := by
  have hn := h.hn
  have hw := h.wav (n - 1) (by omega)
  have he : slopT n f g = sres (sT f g) n (n - 1) := by
    unfold slopT sresI
    rw [show ((n : Int) - 1).toNat = n - 1 from by omega]
  rw [he]
  obtain ⟨v, hv, v1, v2, vs⟩ := hw.all (i - 1) (by omega) (by omega)
  obtain ⟨w, hww, w1, w2, ws⟩ := hw.all i (by omega) h2
  have hk : ((n - 1 : Nat) : Rat) ≤ 6 := by
    have : ((n - 1 : Nat) : Rat) ≤ ((6 : Nat) : Rat) := Rat.natCast_le_natCast.2 (by omega)
    exact this
  obtain ⟨s, hs, s1, s2, hc⟩ := h.sig h1 h2
  obtain ⟨bv, bw⟩ := hw.done i h1 (by omega) v w s hv hww hs
  have gv := vs i (.inr (by omega)) h1 h2
  have gw := ws i (.inl rfl) h1 h2
  have hst := h.step h1 h2
  refine ⟨v, w, hv, hww, by grind, by grind, by grind, by grind, fun hd => ?_, fun hd => ?_⟩
  · have z1 := gv.1 hd
    have z2 := gw.1 hd
    have p1 := Rat.mul_nonneg z1 (show 0 ≤ stp a i by grind)
    have p2 := Rat.mul_nonneg z2 (show 0 ≤ stp a i by grind)
    rcases hc with ⟨c1, c2⟩ | ⟨c1, c2, c3⟩ | ⟨c1, c2, c3⟩
    · have k1 := bv.1 (by grind)
      have k2 := bw.1 (by grind)
      have v0 : v = 0 := by grind
      have w0 : w = 0 := by grind
      have v00 : v * stp a i = 0 := by rw [v0, Rat.zero_mul]
      have w00 : w * stp a i = 0 := by rw [w0, Rat.zero_mul]
      refine ⟨p1, ?_, p2, ?_⟩ <;> grind
    · have k1 := bv.1 (by grind)
      have k2 := bw.1 (by grind)
      have m1 := Rat.mul_nonneg (show 0 ≤ (3 + 20 / 10000) * s - v by grind) (show 0 ≤ stp a i by grind)
      have m2 := Rat.mul_nonneg (show 0 ≤ (3 + 20 / 10000) * s - w by grind) (show 0 ≤ stp a i by grind)
      refine ⟨p1, ?_, p2, ?_⟩ <;> grind
    · grind
  · have z1 := gv.2 hd
    have z2 := gw.2 hd
    have p1 := Rat.mul_nonneg (show 0 ≤ -v by grind) (show 0 ≤ stp a i by grind)
    have p2 := Rat.mul_nonneg (show 0 ≤ -w by grind) (show 0 ≤ stp a i by grind)
    rcases hc with ⟨c1, c2⟩ | ⟨c1, c2, c3⟩ | ⟨c1, c2, c3⟩
    · have k1 := bv.1 (by grind)
      have k2 := bw.1 (by grind)
      have v0 : v = 0 := by grind
      have w0 : w = 0 := by grind
      have v00 : v * stp a i = 0 := by rw [v0, Rat.zero_mul]
      have w00 : w * stp a i = 0 := by rw [w0, Rat.zero_mul]
      refine ⟨?_, ?_, ?_, ?_⟩ <;> grind
    · grind
    · have k1 := bv.2 (by grind)
      have k2 := bw.2 (by grind)
      have m1 := Rat.mul_nonneg (show 0 ≤ v - (3 + 20 / 10000) * s by grind) (show 0 ≤ stp a i by grind)
      have m2 := Rat.mul_nonneg (show 0 ≤ w - (3 + 20 / 10000) * s by grind) (show 0 ≤ stp a i by grind)
      refine ⟨?_, ?_, ?_, ?_⟩ <;> grind
theorem GD.slop_fin (h : GD n f g a b) : (tab n (slopT n f g)).all finB = true := tab_all_fin fun t h0 h1 => by
  have hn := h.hn
  rcases (show 1 ≤ t ∨ t = 0 from by omega) with h2 | h2
  · obtain ⟨_, w, _, hw, _⟩ := h.slopes h2 h1
    exact ⟨w, hw⟩
  · subst h2
    obtain ⟨v, _, hv, _⟩ := h.slopes (i := 1) (by omega) (by omega)
    exact ⟨v, hv⟩
end Go.Ab
