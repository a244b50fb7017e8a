/- The law FnQuiet: quiet lists are no rougher, keep their sum, and lines stay as they are, nearly. No conditions. -/
import Derived.Test.YtlnfbadoglllbaaQt
import Derived.Test.YtlnfbadoglllbaaQlD
import Derived.Test.YtlnfbadoglllbaaRt
namespace Go.Ab
open Go.Proofs
variable {R : World → Prop} [RStab R]
/-! Plain. -/
abbrev dC1 : FV := fv .f64 4562254508917369340
abbrev dC2 : FV := fv .f64 4576918229304087675
abbrev dC3 : FV := fv .f64 4587366580439587226
theorem vl_dC1 : ∃ q, Vl .f64 dC1 q ∧ 1 / 1024 ≤ q ∧ q ≤ 1 / 900 := ⟨_, Vl.c (q := 1152921504606847 / 1152921504606846976) (by decide +kernel), by decide +kernel, by decide +kernel⟩
theorem vl_dC2 : ∃ q, Vl .f64 dC2 q ∧ 99 / 10000 ≤ q ∧ q ≤ 101 / 10000 := ⟨_, Vl.c (q := 5764607523034235 / 576460752303423488) (by decide +kernel), by decide +kernel, by decide +kernel⟩
theorem vl_dC3 : ∃ q, Vl .f64 dC3 q ∧ 49 / 1000 ≤ q ∧ q ≤ 51 / 1000 := ⟨_, Vl.c (q := 3602879701896397 / 72057594037927936) (by decide +kernel), by decide +kernel, by decide +kernel⟩
theorem wF0 : wF 0 = fv .f32 0 := by decide +kernel
theorem wF_ok {k : Nat} (hk : k ≤ 16) : finB (wF k) = true ∧ cmpB .geq (fcmp .f32 (wF k) q0) = true := by
  have h : ((List.range 17).all fun k => finB (wF k) && cmpB .geq (fcmp .f32 (wF k) q0)) = true := by decide +kernel
  have := (List.all_eq_true.1 h) k (by simp; omega)
  simpa using this
theorem fin_tab {n : Nat} {f : Int → FV} {x : Nat → Rat} (hf : ∀ r : Nat, r < n → Vl .f32 (f r) (x r)) : (tab n f).all finB = true := by
  rw [List.all_eq_true]
  intro y hy
  unfold tab at hy
  rw [List.mem_map] at hy
  obtain ⟨i, hi, rfl⟩ := hy
  exact vl_fin (hf i (by simpa using hi))
theorem quiet_tab {n : Nat} {f : Int → FV} {x : Nat → Rat} (hn : 3 ≤ n ∧ n ≤ 14) (hf : ∀ r : Nat, r < n → Vl .f32 (f r) (x r)) : quietB (tab n f) = true := by
  unfold quietB
  rw [fin_tab hf, tab_length]
  simp
  omega
theorem okQ_ok {n k : Nat} {f : Int → FV} {x : Nat → Rat} (hn : 3 ≤ n ∧ n ≤ 14) (hk : k ≤ 16) (hf : ∀ r : Nat, r < n → Vl .f32 (f r) (x r)) : okQ (wF k) n f = true := by
  unfold okQ
  rw [quiet_tab hn hf, (wF_ok hk).1, (wF_ok hk).2]
  rfl
theorem rough_T {n : Nat} {f : Int → FV} {x : Nat → Rat} {s : Rat} (hn : 3 ≤ n ∧ n ≤ 14) (hf : ∀ r : Nat, r < n → Vl .f32 (f r) (x r)) (hs : Vl .f32 (roughTo (tab n f) (n - 2)) s) :
    roughT (tab n f) = .tup [.f .f32 (roughTo (tab n f) (n - 2)), .raw (.bool true)] := by
  rw [roughT_quiet (quiet_tab hn hf), tab_length]
  have h := vl_fin hs
  unfold numF
  have h' : finB (roughTo (tab n f) (n - 2)) = true := h
  rw [h', if_pos rfl]
section
variable {n k : Nat} {f : Int → FV} {a : Nat → Int}
theorem quarters {a : Int} (h : -16 ≤ a ∧ a ≤ 16) : -4 ≤ (a : Rat) / 4 ∧ (a : Rat) / 4 ≤ 4 := by
  have h1 : ((-16 : Int) : Rat) ≤ (a : Rat) := Rat.intCast_le_intCast.2 h.1
  have h2 : (a : Rat) ≤ ((16 : Int) : Rat) := Rat.intCast_le_intCast.2 h.2
  rw [show ((-16 : Int) : Rat) = -16 from rfl] at h1
  rw [show ((16 : Int) : Rat) = 16 from rfl] at h2
  constructor <;> grind
theorem sq_225 (hn : n ≤ 14) (ha : ∀ r, r < n → -16 ≤ a r ∧ a r ≤ 16) : sm n (fun r => (a r : Rat) / 4 * ((a r : Rat) / 4)) ≤ 225 := by
  have h := sm_le (f := fun r => (a r : Rat) / 4 * ((a r : Rat) / 4)) (g := fun _ => 16) n fun r hr => by
    obtain ⟨h1, h2⟩ := quarters (ha r hr)
    have := (mul_bnd h1 h2 h1 h2).2
    grind
  rw [sm_const] at h
  have h2 := Rat.mul_le_mul_of_nonneg_right (nat_le_rat hn) (show (0 : Rat) ≤ 16 by decide +kernel)
  have h7 : ((14 : Nat) : Rat) = 14 := rfl
  rw [h7] at h2
  grind
/-- What QuietList tells of drawn numbers. -/
theorem q_main (hn : 3 ≤ n ∧ n ≤ 14) (hk : k ≤ 16) (hf : ∀ r : Nat, r < n → Vl .f32 (f r) ((a r : Rat) / 4)) (ha : ∀ r, r < n → -16 ≤ a r ∧ a r ≤ 16) :
    (∃ x : Nat → Rat, ∀ r : Nat, r < n → Vl .f32 (quietR (wF k) n f r) (x r)) ∧
    (∃ R1 R2, roughT (tab n f) = .tup [.f .f32 R1, .raw (.bool true)] ∧ roughT (tab n (quietR (wF k) n f)) = .tup [.f .f32 R2, .raw (.bool true)] ∧ cmpB .gtr (fcmp .f64 (fconv .f32 .f64 R2) (fbin .add .f64 (fconv .f32 .f64 R1) dC2)) = false) ∧
    cmpB .lss (fcmp .f64 (gapF (sumW f n) (sumW (quietR (wF k) n f) n)) dC3) = true := by
  have hb : ∀ r, r < n → -8 ≤ (a r : Rat) / 4 ∧ (a r : Rat) / 4 ≤ 8 := fun r hr => by
    have := quarters (ha r hr)
    constructor <;> grind
  have hx0 : ∀ r, r < n → -16 ≤ (a r : Rat) / 4 ∧ (a r : Rat) / 4 ≤ 16 := fun r hr => by
    have := quarters (ha r hr)
    constructor <;> grind
  obtain ⟨x, ρ, vx, bx, hA, hρ⟩ := solved hn hk hf hb (sq_225 hn.2 ha)
  obtain ⟨N, n0, n1, eN, vN⟩ := rough_ex hn hf ha (n - 2) (Nat.le_refl _)
  have nN : (N : Rat) / 16 ≤ 4000 := by
    have : (N : Rat) ≤ ((49152 : Int) : Rat) := Rat.intCast_le_intCast.2 (by omega)
    rw [show ((49152 : Int) : Rat) = 49152 from rfl] at this
    grind
  have nN0 : 0 ≤ (N : Rat) / 16 := by
    have : ((0 : Int) : Rat) ≤ (N : Rat) := Rat.intCast_le_intCast.2 n0
    rw [show ((0 : Int) : Rat) = 0 from rfl] at this
    grind
  have hR : ∃ s, Vl .f32 (roughTo (tab n (quietR (wF k) n f)) (n - 2)) s ∧ s ≤ (N : Rat) / 16 + 1 / 200 := by
    rcases (show k = 0 ∨ 1 ≤ k from by omega) with rfl | h1
    · obtain ⟨M, _, _, eM, vM⟩ := rough_ex hn (solved0 hn hf hb) ha (n - 2) (Nat.le_refl _)
      refine ⟨_, vM, ?_⟩
      rw [← eM, eN]
      grind
    · have hW : 1 / 2 ≤ (k : Rat) / 2 := by
        have : ((1 : Nat) : Rat) ≤ (k : Rat) := nat_le_rat h1
        rw [show ((1 : Nat) : Rat) = 1 from rfl] at this
        grind
      have h2 := rough_le hn hW hA hρ
      have h3 := rough_most hn hW hA hρ (sq_225 hn.2 ha)
      obtain ⟨s, vs, s0, s1⟩ := rough_vl hn vx bx h3 (n - 2) (Nat.le_refl _)
      refine ⟨s, vs, ?_⟩
      have h4 : ((n - 2 : Nat) : Rat) ≤ 12 := nat_le_rat (m := 12) (by omega)
      have h5 : sm (n - 2) (fun r => dd2 x r * dd2 x r) = tT n x := rfl
      have h6 : tT n (fun r => (a r : Rat) / 4) = (N : Rat) / 16 := eN
      rw [h5] at s1
      rw [h6] at h2
      grind
  obtain ⟨s, vs, hs⟩ := hR
  refine ⟨⟨x, vx⟩, ⟨_, _, rough_T hn hf vN, rough_T hn vx vs, ?_⟩, ?_⟩
  · obtain ⟨c, hc, c1, c2⟩ := vl_dC2
    have fit : Fit .f64 ((N : Rat) / 16 + c) := by
      have : (5000 : Rat) < p2 (ftop .f64) := by decide +kernel
      constructor <;> grind
    obtain ⟨r, hr, hrr⟩ := vl_add (vl_wide vN) hc fit
    have hne := hrr.near 5000 (by grind) (by grind)
    have e1 : (5000 : Rat) * feps .f64 + ftiny .f64 ≤ 1 / 100000 := by decide +kernel
    rw [vl_gtr (vl_wide vs) hr]
    exact decide_eq_false (Rat.not_lt.2 (by grind))
  · obtain ⟨s1, v1, a1, a2, _⟩ := sumW_vl hn.2 hf hx0 n (Nat.le_refl _)
    obtain ⟨s2, v2, a3, a4, _⟩ := sumW_vl hn.2 vx bx n (Nat.le_refl _)
    have h := sum_le hn hA hρ
    have h14 : (n : Rat) ≤ 14 := nat_le_rat (m := 14) hn.2
    obtain ⟨c, hc, c1, c2⟩ := vl_dC3
    exact gap_lt v1 v2 hc (B := 3 / 64) (.inl ⟨3, -6, by decide, by decide, by decide +kernel⟩) (by decide +kernel) (by grind) (by grind) (by grind)
/-- With no weight. -/
theorem q_same (hn : 3 ≤ n ∧ n ≤ 14) (hf : ∀ r : Nat, r < n → Vl .f32 (f r) ((a r : Rat) / 4)) (ha : ∀ r, r < n → -16 ≤ a r ∧ a r ≤ 16) :
    (∀ r : Nat, r < n → Vl .f32 (quietR (fv .f32 0) n f r) ((a r : Rat) / 4)) ∧ ∀ r : Nat, r < n → cmpB .gtr (fcmp .f64 (gapF (fconv .f32 .f64 (quietR (fv .f32 0) n f r)) (fconv .f32 .f64 (f r))) dC1) = false := by
  have hb : ∀ r, r < n → -8 ≤ (a r : Rat) / 4 ∧ (a r : Rat) / 4 ≤ 8 := fun r hr => by
    have := quarters (ha r hr)
    constructor <;> grind
  have h := solved0 hn hf hb
  rw [wF0] at h
  refine ⟨h, fun r hr => ?_⟩
  obtain ⟨q, hq, h1, _⟩ := vl_dC1
  exact gap_le (vl_wide (h r hr)) (vl_wide (hf r hr)) hq (rep_zero _) (by decide +kernel) (by grind) (by grind) (by grind)
theorem line_225 (hn : n ≤ 14) : sm n (fun r => (((2 * (r : Int) - 4 : Int)) : Rat) / 4 * ((((2 * (r : Int) - 4 : Int)) : Rat) / 4)) ≤ 225 := by
  refine Rat.le_trans (sm_term_le (fun _ => sq_nonneg _) hn) ?_
  decide +kernel
/-- Lines. -/
theorem q_line (hn : 3 ≤ n ∧ n ≤ 14) (hk : k ≤ 16) (hf : ∀ r : Nat, r < n → Vl .f32 (f r) (((2 * (r : Int) - 4 : Int) : Rat) / 4)) :
    (∃ x : Nat → Rat, ∀ r : Nat, r < n → Vl .f32 (quietR (wF k) n f r) (x r)) ∧ ∀ r : Nat, r < n → cmpB .gtr (fcmp .f64 (gapF (fconv .f32 .f64 (quietR (wF k) n f r)) (fconv .f32 .f64 (f r))) dC2) = false := by
  have hb : ∀ r : Nat, r < n → -8 ≤ ((2 * (r : Int) - 4 : Int) : Rat) / 4 ∧ ((2 * (r : Int) - 4 : Int) : Rat) / 4 ≤ 8 := fun r hr => by
    have h1 : ((-32 : Int) : Rat) ≤ ((2 * (r : Int) - 4 : Int) : Rat) := Rat.intCast_le_intCast.2 (by omega)
    have h2 : ((2 * (r : Int) - 4 : Int) : Rat) ≤ ((32 : Int) : Rat) := Rat.intCast_le_intCast.2 (by omega)
    rw [show ((-32 : Int) : Rat) = -32 from rfl] at h1
    rw [show ((32 : Int) : Rat) = 32 from rfl] at h2
    constructor <;> grind
  obtain ⟨x, ρ, vx, bx, hA, hρ⟩ := solved hn hk hf hb (line_225 hn.2)
  refine ⟨⟨x, vx⟩, fun r hr => ?_⟩
  have hW : (0 : Rat) ≤ (k : Rat) / 2 := by
    have : (0 : Rat) ≤ (k : Rat) := Rat.natCast_nonneg
    grind
  have h := still_le hn hW hA hρ (fun r _ => by
    unfold dd2
    simp only []
    have e1 : (2 * ((r + 1 : Nat) : Int) - 4 : Int) = (2 * (r : Int) - 4) + 2 := by omega
    have e2 : (2 * ((r + 2 : Nat) : Int) - 4 : Int) = (2 * (r : Int) - 4) + 4 := by omega
    rw [e1, e2, Rat.intCast_add, Rat.intCast_add, show ((2 : Int) : Rat) = 2 from rfl, show ((4 : Int) : Rat) = 4 from rfl]
    grind) hr
  obtain ⟨c, hc, c1, c2⟩ := vl_dC2
  have hv := hf r hr
  have h' : (x r - ((2 * (r : Int) - 4 : Int) : Rat) / 4) * (x r - ((2 * (r : Int) - 4 : Int) : Rat) / 4) ≤ 14 / 202500 := h
  clear h
  have h := h'
  clear h'
  generalize ((2 * (r : Int) - 4 : Int) : Rat) / 4 = b at *
  have k1 : x r - b ≤ 9 / 1024 := by
    rcases Rat.le_total (a := 0) (b := x r - b) with h0 | h0
    · exact sq_le_of h0 (by decide +kernel) (Rat.le_trans h (by decide +kernel))
    · exact Rat.le_trans h0 (by decide +kernel)
  have k2 : b - x r ≤ 9 / 1024 := by
    rcases Rat.le_total (a := 0) (b := b - x r) with h0 | h0
    · exact sq_le_of h0 (by decide +kernel) (Rat.le_trans (by grind) (Rat.le_trans h (by decide +kernel)))
    · exact Rat.le_trans h0 (by decide +kernel)
  exact gap_le (vl_wide (vx r hr)) (vl_wide hv) hc (B := 9 / 1024) (.inl ⟨9, -10, by decide, by decide, by decide +kernel⟩) (by decide +kernel) k1 k2 (by grind)
theorem line_at {j : Int} (h : 0 ≤ j ∧ j ≤ 100) : Vl .f32 (fbin .sub .f32 (fbin .quo .f32 (some (FloatKind.f32.nearest j)) (fv .f32 1073741824)) (fv .f32 1065353216)) (((2 * j - 4 : Int) : Rat) / 4) := by
  have h1 : Vl .f32 (some (FloatKind.f32.nearest j)) (j : Rat) := vl_ofInt .f32 j (by have : FloatKind.f32.format.fractionBits = 23 := rfl; rw [this]; omega)
  have e : ((2 * j : Int) : Rat) = 2 * (j : Rat) := by rw [Rat.intCast_mul]; rfl
  have c4 : ((2 ^ 2 : Nat) : Rat) = 4 := rfl
  have h2 : Vl .f32 (fbin .quo .f32 (some (FloatKind.f32.nearest j)) (fv .f32 1073741824)) (((2 * j : Int) : Rat) / 4) := by
    refine div_ex h1 vl_two (by decide +kernel) (by rw [e]; grind) (2 * j) 2 (by omega) (by decide) ?_
    rw [c4]
    exact Rat.div_mul_cancel (by decide +kernel)
  have v1 : Vl .f32 (fv .f32 1065353216) 1 := Vl.c (by decide +kernel)
  have m2 := sub_ex h2 v1 (2 * j - 4) 2 (by omega) (by decide) (by rw [c4, Rat.intCast_sub, show ((4 : Int) : Rat) = 4 from rfl]; grind)
  have e2 : ((2 * j : Int) : Rat) / 4 - 1 = ((2 * j - 4 : Int) : Rat) / 4 := by rw [Rat.intCast_sub, show ((4 : Int) : Rat) = 4 from rfl]; grind
  rwa [e2] at m2
end
end Go.Ab
