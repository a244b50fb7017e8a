/- Roughness and sums of lists of small numbers, as they are reckoned. No conditions. -/
import Derived.Test.YtlnfbadoglllbaaQs
import Derived.Test.YtlnfbadoglllbaaBy
namespace Go.Ab

theorem vl_two : Vl .f32 (fv .f32 1073741824) 2 := Vl.c (by decide +kernel)
theorem fit100 {q : Rat} (h1 : -1000 ≤ q) (h2 : q ≤ 1000) : Fit .f32 q := by
  have : (1000 : Rat) < p2 (ftop .f32) := by decide +kernel
  constructor <;> grind
theorem tab_getI {n : Nat} (f : Int → FV) {i : Int} (h : 0 ≤ i ∧ i < n) : (tab n f).getD i.toNat default = f i := by
  have : (tab n f)[i.toNat]? = some (f i) := by
    unfold tab
    rw [List.getElem?_map, List.getElem?_range (by omega)]
    simp only [Option.map_some]
    congr 2
    omega
  simp [List.getD, this]
/-- A second difference. -/
def dF (f : Int → FV) (j : Nat) : FV := fbin .add .f32 (fbin .sub .f32 (f j) (fbin .mul .f32 (fv .f32 1073741824) (f ((j + 1 : Nat) : Int)))) (f ((j + 2 : Nat) : Int))
theorem rough_tab {n : Nat} (f : Int → FV) {j : Nat} (h : j + 2 < n) : roughTo (tab n f) (j + 1) = fbin .add .f32 (roughTo (tab n f) j) (fbin .mul .f32 (dF f j) (dF f j)) := by
  rw [roughTo_succ, tab_getI f (by omega), tab_getI f (by omega), tab_getI f (by omega)]
  unfold dF
  rw [show (j : Int) + 1 - 1 = j from by omega, show ((j + 1 : Nat) : Int) = (j : Int) + 1 from by omega, show ((j + 2 : Nat) : Int) = (j : Int) + 1 + 1 from by omega]
section
variable {n : Nat} {f : Int → FV} {x : Nat → Rat}
theorem dF_vl (hf : ∀ r : Nat, r < n → Vl .f32 (f r) (x r)) (hx : ∀ r, r < n → -16 ≤ x r ∧ x r ≤ 16) {j : Nat} (hj : j + 2 < n) :
    ∃ d, Vl .f32 (dF f j) d ∧ -(150 / 8388608) ≤ d - dd2 x j ∧ d - dd2 x j ≤ 150 / 8388608 := by
  have v0 := hf j (by omega)
  have v1 := hf (j + 1) (by omega)
  have v2 := hf (j + 2) (by omega)
  have b0 := hx j (by omega)
  have b1 := hx (j + 1) (by omega)
  have b2 := hx (j + 2) (by omega)
  obtain ⟨a, va, ra⟩ := vl_mul vl_two v1 (fit100 (by grind) (by grind))
  have c1 := rnd_fwd (A := 32) ra (by grind) (by grind)
  obtain ⟨b, vb, rb⟩ := vl_sub v0 va (fit100 (by grind) (by grind))
  have c2 := rnd_fwd (A := 49) rb (by grind) (by grind)
  obtain ⟨d, vd, rd⟩ := vl_add vb v2 (fit100 (by grind) (by grind))
  have c3 := rnd_fwd (A := 66) rd (by grind) (by grind)
  refine ⟨d, vd, ?_, ?_⟩ <;> unfold dd2 <;> grind
theorem sm_term_le {f : Nat → Rat} {j n : Nat} (h : ∀ i, 0 ≤ f i) (hj : j ≤ n) : sm j f ≤ sm n f := by
  induction n with
  | zero =>
    obtain rfl : j = 0 := by omega
    exact Rat.le_refl
  | succ n ih =>
    rcases (show j = n + 1 ∨ j ≤ n from by omega) with rfl | h1
    · exact Rat.le_refl
    · have := ih h1
      have := h n
      rw [sm]
      grind
theorem rough_vl (hn : 3 ≤ n ∧ n ≤ 14) (hf : ∀ r : Nat, r < n → Vl .f32 (f r) (x r)) (hx : ∀ r, r < n → -16 ≤ x r ∧ x r ≤ 16) (hT : tT n x ≤ 120) : ∀ j : Nat, j ≤ n - 2 →
    ∃ s, Vl .f32 (roughTo (tab n f) j) s ∧ 0 ≤ s ∧ s ≤ (1 + 1 / 50000) * sm j (fun r => dd2 x r * dd2 x r) + (j : Rat) / 20000
  | 0, _ => ⟨0, Vl.c (by decide +kernel), by decide +kernel, by
    rw [sm]
    decide +kernel⟩
  | j + 1, hj => by
    obtain ⟨s, vs, s0, s1⟩ := rough_vl hn hf hx hT j (by omega)
    obtain ⟨d, vd, d1, d2⟩ := dF_vl hf hx (j := j) (by omega)
    have t1 : sm (j + 1) (fun r => dd2 x r * dd2 x r) ≤ tT n x := sm_term_le (fun _ => sq_nonneg _) hj
    have t0 : 0 ≤ sm j (fun r => dd2 x r * dd2 x r) := sm_nonneg _ fun _ _ => sq_nonneg _
    rw [sm] at t1 ⊢
    generalize sm j (fun r => dd2 x r * dd2 x r) = S at *
    generalize dd2 x j = D at *
    obtain ⟨h, rfl⟩ : ∃ h, d = D + h := ⟨d - D, by grind⟩
    have h1 : -(150 / 8388608) ≤ h := by grind
    have h2 : h ≤ 150 / 8388608 := by grind
    have hh := (mul_bnd h1 h2 h1 h2).2
    have k0 := sq_nonneg D
    have k1 := sq_nonneg (D - 1)
    have k2 := sq_nonneg (D + 1)
    have dh : D * h ≤ (D * D + 1) / 2 * (150 / 8388608) := by
      have a1 := Rat.mul_nonneg k1 (show 0 ≤ 150 / 8388608 + h by grind)
      have a2 := Rat.mul_nonneg k2 (show 0 ≤ 150 / 8388608 - h by grind)
      grind
    have e1 : (D + h) * (D + h) ≤ D * D * (1 + 9 / 500000) + 9 / 500000 := by grind
    have e0 := sq_nonneg (D + h)
    have jn : (j : Rat) ≤ 12 := nat_le_rat (m := 12) (by omega)
    have j0 : (0 : Rat) ≤ (j : Rat) := Rat.natCast_nonneg
    obtain ⟨z, vz, rz⟩ := vl_mul vd vd (fit100 (by grind) (by grind))
    have z0 := (rz.side 0 (rep_zero _)).2 e0
    have z1 := rnd_fwd rz (A := (D + h) * (D + h)) (by grind) (by grind)
    obtain ⟨s', vs', rs'⟩ := vl_add vs vz (fit100 (by grind) (by grind))
    have s2 := (rs'.side 0 (rep_zero _)).2 (by grind)
    have s3 := rnd_fwd rs' (A := s + z) (by grind) (by grind)
    refine ⟨s', ?_, s2, ?_⟩
    · rw [rough_tab f (by omega)]
      exact vs'
    · have : ((j + 1 : Nat) : Rat) = (j : Rat) + 1 := Rat.natCast_add j 1
      rw [this]
      generalize (D + h) * (D + h) = q at *
      generalize D * D = DD at *
      grind
/-- The roughness of quarters, exactly. -/
theorem rough_ex {a : Nat → Int} (hn : 3 ≤ n ∧ n ≤ 14) (hf : ∀ r : Nat, r < n → Vl .f32 (f r) ((a r : Rat) / 4)) (ha : ∀ r, r < n → -16 ≤ a r ∧ a r ≤ 16) : ∀ j : Nat, j ≤ n - 2 →
    ∃ N : Int, 0 ≤ N ∧ N ≤ 4096 * j ∧ sm j (fun r => dd2 (fun r => (a r : Rat) / 4) r * dd2 (fun r => (a r : Rat) / 4) r) = (N : Rat) / 16 ∧ Vl .f32 (roughTo (tab n f) j) ((N : Rat) / 16)
  | 0, _ => ⟨0, by omega, by omega, by rw [sm]; decide +kernel, Vl.c (by decide +kernel)⟩
  | j + 1, hj => by
    obtain ⟨N, n0, n1, n2, vN⟩ := rough_ex hn hf ha j (by omega)
    have v0 := hf j (by omega)
    have v1 := hf (j + 1) (by omega)
    have v2 := hf (j + 2) (by omega)
    have b0 := ha j (by omega)
    have b1 := ha (j + 1) (by omega)
    have b2 := ha (j + 2) (by omega)
    have c4 : ((2 ^ 2 : Nat) : Rat) = 4 := rfl
    have w1 : Vl .f32 (fbin .mul .f32 (fv .f32 1073741824) (f ((j + 1 : Nat) : Int))) (((2 * a (j + 1) : Int) : Rat) / 4) := by
      have h := mul_ex vl_two v1 (2 * a (j + 1)) 2 (by omega) (by decide) (by rw [c4, Rat.intCast_mul, show ((2 : Int) : Rat) = 2 from rfl]; grind)
      have e : (2 : Rat) * ((a (j + 1) : Rat) / 4) = ((2 * a (j + 1) : Int) : Rat) / 4 := by rw [Rat.intCast_mul, show ((2 : Int) : Rat) = 2 from rfl]; grind
      rwa [e] at h
    have w2 : Vl .f32 (fbin .sub .f32 (f j) (fbin .mul .f32 (fv .f32 1073741824) (f ((j + 1 : Nat) : Int)))) (((a j - 2 * a (j + 1) : Int) : Rat) / 4) := by
      have h := sub_ex v0 w1 (a j - 2 * a (j + 1)) 2 (by omega) (by decide) (by rw [c4, Rat.intCast_sub]; grind)
      have e : (a j : Rat) / 4 - ((2 * a (j + 1) : Int) : Rat) / 4 = ((a j - 2 * a (j + 1) : Int) : Rat) / 4 := by rw [Rat.intCast_sub]; grind
      rwa [e] at h
    obtain ⟨D, hD⟩ : ∃ D, D = a j - 2 * a (j + 1) + a (j + 2) := ⟨_, rfl⟩
    have w3 : Vl .f32 (dF f j) ((D : Rat) / 4) := by
      have h := add_ex w2 v2 D 2 (by omega) (by decide) (by rw [c4, hD, Rat.intCast_add (a j - 2 * a (j + 1))]; grind)
      have e : ((a j - 2 * a (j + 1) : Int) : Rat) / 4 + (a (j + 2) : Rat) / 4 = (D : Rat) / 4 := by rw [hD, Rat.intCast_add (a j - 2 * a (j + 1))]; grind
      rwa [e] at h
    have hDD : 0 ≤ D * D ∧ D * D ≤ 4096 := by
      have h1 : -64 ≤ D := by omega
      have h2 : D ≤ 64 := by omega
      constructor
      · rcases Int.le_total 0 D with h | h
        · exact Int.mul_nonneg h h
        · have := Int.mul_nonneg (show 0 ≤ -D by omega) (show 0 ≤ -D by omega)
          grind
      · have e1 := Int.mul_nonneg (show 0 ≤ 64 - D by omega) (show 0 ≤ 64 + D by omega)
        grind
    have c16 : ((2 ^ 4 : Nat) : Rat) = 16 := rfl
    have w4 : Vl .f32 (fbin .mul .f32 (dF f j) (dF f j)) (((D * D : Int) : Rat) / 16) := by
      have h := mul_ex w3 w3 (D * D) 4 (by omega) (by decide) (by rw [c16, Rat.intCast_mul]; grind)
      have e : (D : Rat) / 4 * ((D : Rat) / 4) = ((D * D : Int) : Rat) / 16 := by rw [Rat.intCast_mul]; grind
      rwa [e] at h
    have w5 := add_ex vN w4 (N + D * D) 4 (by omega) (by decide) (by rw [c16, Rat.intCast_add]; grind)
    have e5 : (N : Rat) / 16 + ((D * D : Int) : Rat) / 16 = ((N + D * D : Int) : Rat) / 16 := by rw [Rat.intCast_add]; grind
    rw [e5] at w5
    refine ⟨N + D * D, by omega, by omega, ?_, ?_⟩
    · rw [sm, n2, ← e5]
      have : dd2 (fun r => (a r : Rat) / 4) j = (D : Rat) / 4 := by
        unfold dd2
        rw [hD, Rat.intCast_add, Rat.intCast_sub, Rat.intCast_mul, show ((2 : Int) : Rat) = 2 from rfl]
        grind
      rw [this, Rat.intCast_mul]
      grind
    · rw [rough_tab f (by omega)]
      exact w5
/-! Sums in double precision. -/
def sumW (f : Int → FV) : Nat → FV
  | 0 => fv .f64 0
  | j + 1 => fbin .add .f64 (sumW f j) (fconv .f32 .f64 (f j))
theorem sumW_vl (hn : n ≤ 14) (hf : ∀ r : Nat, r < n → Vl .f32 (f r) (x r)) (hx : ∀ r, r < n → -16 ≤ x r ∧ x r ≤ 16) : ∀ j : Nat, j ≤ n →
    ∃ s, Vl .f64 (sumW f j) s ∧ -((j : Rat) / 10000) ≤ s - sm j x ∧ s - sm j x ≤ (j : Rat) / 10000 ∧ -(16 * (j : Rat)) ≤ sm j x ∧ sm j x ≤ 16 * (j : Rat)
  | 0, _ => ⟨0, Vl.c (by decide +kernel), by rw [sm]; decide +kernel, by rw [sm]; decide +kernel, by rw [sm]; decide +kernel, by rw [sm]; decide +kernel⟩
  | j + 1, hj => by
    obtain ⟨s, vs, s1, s2, s3, s4⟩ := sumW_vl hn hf hx j (by omega)
    have v := vl_wide (hf j (by omega))
    have b := hx j (by omega)
    have jn : (j : Rat) ≤ 13 := nat_le_rat (m := 13) (by omega)
    have j0 : (0 : Rat) ≤ (j : Rat) := Rat.natCast_nonneg
    have fit : ∀ {q : Rat}, -1000 ≤ q → q ≤ 1000 → Fit .f64 q := fun {q} h1 h2 => by
      have : (1000 : Rat) < p2 (ftop .f64) := by decide +kernel
      constructor <;> grind
    obtain ⟨r, vr, rr⟩ := vl_add vs v (fit (by grind) (by grind))
    have h := rr.near 300 (by grind) (by grind)
    have e : (300 : Rat) * feps .f64 + ftiny .f64 ≤ 1 / 10000 := by decide +kernel
    have : ((j + 1 : Nat) : Rat) = (j : Rat) + 1 := Rat.natCast_add j 1
    rw [this, sm]
    exact ⟨r, vr, by grind, by grind, by grind, by grind⟩
end
theorem gap_lt {x y c : FV} {p q C B : Rat} (hx : Vl .f64 x p) (hy : Vl .f64 y q) (hc : Vl .f64 c C) (hB : Rep .f64 B) (hBf : B ≤ 1000) (h1 : p - q ≤ B) (h2 : q - p ≤ B) (h3 : B < C) : cmpB .lss (fcmp .f64 (gapF x y) c) = true := by
  have h1000 : (1000 : Rat) < p2 (ftop .f64) := by decide +kernel
  have hfit : ∀ z : Rat, z ≤ B → -B ≤ z → Fit .f64 z := fun z a1 a2 => by constructor <;> grind
  unfold gapF
  rw [vl_lss hx hy]
  by_cases h : p < q
  · rw [if_pos (decide_eq_true h)]
    obtain ⟨r, hr, hrr⟩ := vl_sub hy hx (hfit _ h2 (by grind))
    rw [vl_lss hr hc]
    have := (hrr.side B hB).1 h2
    exact decide_eq_true (by grind)
  · rw [if_neg (by rw [decide_eq_false h]; simp)]
    obtain ⟨r, hr, hrr⟩ := vl_sub hx hy (hfit _ h1 (by grind))
    rw [vl_lss hr hc]
    have := (hrr.side B hB).1 h1
    exact decide_eq_true (by grind)
end Go.Ab
