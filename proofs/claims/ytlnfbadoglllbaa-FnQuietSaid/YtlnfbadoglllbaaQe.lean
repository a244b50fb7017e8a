/- Sums of numbers, and the energy of lists: plain. No conditions. -/
import Derived.Test.YtlnfbadoglllbaaEx
namespace Go.Ab

def sm : Nat → (Nat → Rat) → Rat
  | 0, _ => 0
  | n + 1, f => sm n f + f n
theorem sm_congr {f g : Nat → Rat} : ∀ n, (∀ i, i < n → f i = g i) → sm n f = sm n g
  | 0, _ => rfl
  | n + 1, h => by rw [sm, sm, sm_congr n fun i hi => h i (by omega), h n (by omega)]
theorem sm_le {f g : Nat → Rat} : ∀ n, (∀ i, i < n → f i ≤ g i) → sm n f ≤ sm n g
  | 0, _ => Rat.le_refl
  | n + 1, h => by
    have h1 := sm_le n fun i hi => h i (by omega)
    have h2 := h n (by omega)
    rw [sm, sm]
    grind
theorem sm_add (f g : Nat → Rat) : ∀ n, sm n (fun i => f i + g i) = sm n f + sm n g
  | 0 => (Rat.add_zero 0).symm
  | n + 1 => by rw [sm, sm, sm, sm_add f g n]; grind
theorem sm_mul (c : Rat) (f : Nat → Rat) : ∀ n, sm n (fun i => c * f i) = c * sm n f
  | 0 => by simp [sm]
  | n + 1 => by rw [sm, sm, sm_mul c f n]; grind
theorem sm_const (c : Rat) : ∀ n : Nat, sm n (fun _ => c) = (n : Rat) * c
  | 0 => by simp [sm]
  | n + 1 => by
    rw [sm, sm_const c n]
    have : ((n + 1 : Nat) : Rat) = (n : Rat) + 1 := Rat.natCast_add n 1
    rw [this]
    grind
theorem sm_nonneg {f : Nat → Rat} (n : Nat) (h : ∀ i, i < n → 0 ≤ f i) : 0 ≤ sm n f := by
  have := sm_le (f := fun _ => 0) (g := f) n h
  rw [sm_const] at this
  grind
theorem sq_nonneg (a : Rat) : 0 ≤ a * a := by
  rcases Rat.le_total (a := 0) (b := a) with h | h
  · exact Rat.mul_nonneg h h
  · have := Rat.mul_nonneg (show 0 ≤ -a by grind) (show 0 ≤ -a by grind)
    grind
theorem sm_term {f : Nat → Rat} {n m : Nat} (h : ∀ i, i < n → 0 ≤ f i) (hm : m < n) : f m ≤ sm n f := by
  induction n with
  | zero => omega
  | succ n ih =>
    rw [sm]
    rcases (show m = n ∨ m < n from by omega) with rfl | h1
    · have := sm_nonneg m fun i hi => h i (by omega)
      grind
    · have h2 := ih (fun i hi => h i (by omega)) h1
      have h3 := h n (by omega)
      grind
theorem nat_le_rat {n m : Nat} (h : n ≤ m) : (n : Rat) ≤ (m : Rat) := Rat.natCast_le_natCast.2 h
/-! Second differences. -/
def dd2 (x : Nat → Rat) (i : Nat) : Rat := x i - 2 * x (i + 1) + x (i + 2)
def hH (n : Nat) (x : Nat → Rat) (i : Nat) : Rat := if 2 ≤ i ∧ i < n then dd2 x (i - 2) else 0
def aA (W : Rat) (n : Nat) (x : Nat → Rat) (r : Nat) : Rat := x r + W * (hH n x (r + 2) - 2 * hH n x (r + 1) + hH n x r)
def tT (n : Nat) (x : Nat → Rat) : Rat := sm (n - 2) fun r => dd2 x r * dd2 x r
theorem parts (H v : Nat → Rat) (h0 : H 0 = 0) (h1 : H 1 = 0) : ∀ m, sm m (fun r => v r * (H (r + 2) - 2 * H (r + 1) + H r)) = sm m (fun r => dd2 v r * H (r + 2)) + 2 * v m * H (m + 1) - v m * H m - v (m + 1) * H (m + 1)
  | 0 => by
    simp only [sm, Nat.zero_add, h0, h1]
    grind
  | m + 1 => by
    have ih := parts H v h0 h1 m
    rw [sm, sm, ih]
    simp only [dd2, show m + 1 + 1 = m + 2 from rfl, show m + 1 + 2 = m + 3 from rfl]
    grind
theorem parts_h {n : Nat} (hn : 3 ≤ n) (x v : Nat → Rat) : sm n (fun r => v r * (hH n x (r + 2) - 2 * hH n x (r + 1) + hH n x r)) = sm (n - 2) (fun r => dd2 v r * dd2 x r) := by
  have e0 : hH n x 0 = 0 := if_neg (by omega)
  have e1 : hH n x 1 = 0 := if_neg (by omega)
  have e2 : hH n x n = 0 := if_neg (by omega)
  have e3 : hH n x (n + 1) = 0 := if_neg (by omega)
  rw [parts (hH n x) v e0 e1 n, e2, e3]
  obtain ⟨m, rfl⟩ : ∃ m, n = m + 2 := ⟨n - 2, by omega⟩
  rw [sm, sm, show m + 1 + 2 = m + 2 + 1 from rfl, e3, e2]
  have : sm m (fun r => dd2 v r * hH (m + 2) x (r + 2)) = sm (m + 2 - 2) (fun r => dd2 v r * dd2 x r) := by
    show sm m _ = sm m _
    refine sm_congr m fun i hi => ?_
    rw [hH, if_pos (by omega)]
    rfl
  rw [this]
  grind
/-- The form of the square. -/
theorem form {n : Nat} (hn : 3 ≤ n) (W : Rat) (x v : Nat → Rat) : sm n (fun r => v r * aA W n x r) = sm n (fun r => v r * x r) + W * sm (n - 2) (fun r => dd2 v r * dd2 x r) := by
  rw [← parts_h hn, ← sm_mul, ← sm_add]
  refine sm_congr n fun i _ => ?_
  unfold aA
  grind
section
variable {n : Nat} {W : Rat} {x b ρ : Nat → Rat} {K : Rat}
theorem tT_nonneg (n : Nat) (x : Nat → Rat) : 0 ≤ tT n x := sm_nonneg _ fun _ _ => sq_nonneg _
/-- What is solved for is no longer than what it is solved from. -/
theorem long_le (hn : 3 ≤ n ∧ n ≤ 14) (hW : 0 ≤ W) (hx : ∀ r, r < n → aA W n x r = b r + ρ r) (hρ : ∀ r, r < n → x r * ρ r ≤ K) : sm n (fun r => x r * x r) ≤ sm n (fun r => b r * b r) + 28 * K ∨ K < 0 := by
  rcases Rat.le_total (a := 0) (b := K) with hK | hK
  · left
    have h1 := form hn.1 W x x
    have h2 : sm n (fun r => x r * aA W n x r) ≤ sm n (fun r => (1 / 2) * (x r * x r) + ((1 / 2) * (b r * b r) + K)) := sm_le n fun r hr => by
      have := hx r hr
      have h3 := hρ r hr
      have h4 := sq_nonneg (x r - b r)
      rw [this]
      grind
    rw [sm_add, sm_add, sm_mul, sm_mul, sm_const] at h2
    have h5 := Rat.mul_nonneg hW (tT_nonneg n x)
    unfold tT at h5
    have h6 := Rat.mul_le_mul_of_nonneg_right (nat_le_rat hn.2) hK
    have h7 : ((14 : Nat) : Rat) = 14 := rfl
    rw [h7] at h6
    grind
  · rcases (show K = 0 ∨ K < 0 from by grind) with h | h
    · subst h
      left
      have h1 := form hn.1 W x x
      have h2 : sm n (fun r => x r * aA W n x r) ≤ sm n (fun r => (1 / 2) * (x r * x r) + (1 / 2) * (b r * b r)) := sm_le n fun r hr => by
        have := hx r hr
        have h3 := hρ r hr
        have h4 := sq_nonneg (x r - b r)
        rw [this]
        grind
      rw [sm_add, sm_mul, sm_mul] at h2
      have h5 := Rat.mul_nonneg hW (tT_nonneg n x)
      unfold tT at h5
      grind
    · exact .inr h
theorem rho_sq (hn : n ≤ 14) (hρ : ∀ r, r < n → -(1 / 450) ≤ ρ r ∧ ρ r ≤ 1 / 450) : sm n (fun r => ρ r * ρ r) ≤ 14 / 202500 := by
  have h1 : sm n (fun r => ρ r * ρ r) ≤ sm n (fun _ => 1 / 202500) := sm_le n fun r hr => by
    obtain ⟨h1, h2⟩ := hρ r hr
    have := (mul_bnd h1 h2 h1 h2).2
    grind
  rw [sm_const] at h1
  have h2 := Rat.mul_le_mul_of_nonneg_right (nat_le_rat hn) (show (0 : Rat) ≤ 1 / 202500 by decide +kernel)
  have h7 : ((14 : Nat) : Rat) = 14 := rfl
  rw [h7] at h2
  grind
/-- Lines stay. -/
theorem still_le (hn : 3 ≤ n ∧ n ≤ 14) (hW : 0 ≤ W) (hx : ∀ r, r < n → aA W n x r = b r + ρ r) (hρ : ∀ r, r < n → -(1 / 450) ≤ ρ r ∧ ρ r ≤ 1 / 450) (hb : ∀ r, r + 2 < n → dd2 b r = 0) {m : Nat} (hm : m < n) : (x m - b m) * (x m - b m) ≤ 14 / 202500 := by
  have h0 := rho_sq hn.2 hρ
  have h1 := form hn.1 W x (fun r => x r - b r)
  have h2 : sm (n - 2) (fun r => dd2 (fun r => x r - b r) r * dd2 x r) = tT n x := sm_congr _ fun r hr => by
    have := hb r (by omega)
    unfold dd2 at *
    grind
  rw [h2] at h1
  have h3 : sm n (fun r => (x r - b r) * aA W n x r) ≤ sm n (fun r => (1 / 2) * ((x r - b r) * (x r - b r)) + ((1 / 2) * (ρ r * ρ r) + (x r - b r) * b r)) := sm_le n fun r hr => by
    have h4 := sq_nonneg (x r - b r - ρ r)
    rw [hx r hr]
    grind
  rw [sm_add, sm_add, sm_mul, sm_mul] at h3
  have h5 : sm n (fun r => (x r - b r) * x r) = sm n (fun r => (x r - b r) * (x r - b r)) + sm n (fun r => (x r - b r) * b r) := by
    rw [← sm_add]
    exact sm_congr n fun r _ => by grind
  rw [h5] at h1
  have h6 := Rat.mul_nonneg hW (tT_nonneg n x)
  have h7 := sm_term (f := fun r => (x r - b r) * (x r - b r)) (fun i _ => sq_nonneg _) hm
  grind
/-- Sums stay. -/
theorem sum_eq (hn : 3 ≤ n) (hx : ∀ r, r < n → aA W n x r = b r + ρ r) : sm n x = sm n b + sm n ρ := by
  have h1 := form hn W x (fun _ => 1)
  have h2 : sm (n - 2) (fun r => dd2 (fun _ => (1 : Rat)) r * dd2 x r) = 0 := by
    rw [sm_congr (g := fun _ => 0) _ fun r _ => by unfold dd2; grind, sm_const]
    grind
  rw [h2, sm_congr (g := x) n fun r _ => Rat.one_mul _] at h1
  rw [← sm_add, ← sm_congr n hx, sm_congr (f := aA W n x) (g := fun r => 1 * aA W n x r) n fun r _ => (Rat.one_mul _).symm, h1]
  grind
theorem sum_le (hn : 3 ≤ n ∧ n ≤ 14) (hx : ∀ r, r < n → aA W n x r = b r + ρ r) (hρ : ∀ r, r < n → -(1 / 450) ≤ ρ r ∧ ρ r ≤ 1 / 450) : -(14 / 450) ≤ sm n x - sm n b ∧ sm n x - sm n b ≤ 14 / 450 := by
  have h1 := sum_eq hn.1 hx
  have h2 := sm_le (f := ρ) (g := fun _ => 1 / 450) n fun r hr => (hρ r hr).2
  have h3 := sm_le (f := fun _ => -(1 / 450)) (g := ρ) n fun r hr => (hρ r hr).1
  rw [sm_const] at h2 h3
  have h4 := Rat.mul_le_mul_of_nonneg_right (nat_le_rat hn.2) (show (0 : Rat) ≤ 1 / 450 by decide +kernel)
  have h7 : ((14 : Nat) : Rat) = 14 := rfl
  rw [h7] at h4
  constructor <;> grind
/-- Quiet lists are no rougher. -/
theorem rough_le (hn : 3 ≤ n ∧ n ≤ 14) (hW : 1 / 2 ≤ W) (hx : ∀ r, r < n → aA W n x r = b r + ρ r) (hρ : ∀ r, r < n → -(1 / 450) ≤ ρ r ∧ ρ r ≤ 1 / 450) : tT n x ≤ tT n b + 14 / 202500 := by
  have h0 := rho_sq hn.2 hρ
  have h1 := form hn.1 W x (fun r => b r - x r)
  have h2 : sm n (fun r => (b r - x r) * aA W n x r) = sm n (fun r => (b r - x r) * x r) + sm n (fun r => (b r - x r) * (b r - x r) + (b r - x r) * ρ r) := by
    rw [← sm_add]
    exact sm_congr n fun r hr => by rw [hx r hr]; grind
  have h3 : sm n (fun _ => (0 : Rat)) ≤ sm n (fun r => ((b r - x r) * (b r - x r) + (b r - x r) * ρ r) + (1 / 4) * (ρ r * ρ r)) := sm_le n fun r _ => by
    have := sq_nonneg (b r - x r + (1 / 2) * ρ r)
    grind
  rw [sm_add, sm_mul, sm_const] at h3
  have h4 : sm (n - 2) (fun r => 2 * (dd2 (fun r => b r - x r) r * dd2 x r)) ≤ tT n b + (-1) * tT n x := by
    unfold tT
    rw [← sm_mul, ← sm_add]
    refine sm_le _ fun r _ => ?_
    have := sq_nonneg (dd2 b r - dd2 x r)
    have e : dd2 (fun r => b r - x r) r = dd2 b r - dd2 x r := by unfold dd2; grind
    rw [e]
    grind
  rw [sm_mul] at h4
  generalize sm (n - 2) (fun r => dd2 (fun r => b r - x r) r * dd2 x r) = G at *
  generalize sm n (fun r => (b r - x r) * (b r - x r) + (b r - x r) * ρ r) = F at *
  have h5 : W * G = F := by grind
  have h6 : -(1 / 4) * (14 / 202500) ≤ W * G := by grind
  have h7 : -(1 / 2) * (14 / 202500) ≤ G := by
    rcases Rat.le_total (a := 0) (b := G) with h | h
    · grind
    · have := Rat.mul_le_mul_of_nonneg_right hW (show 0 ≤ -G by grind)
      grind
  grind
theorem rough_most (hn : 3 ≤ n ∧ n ≤ 14) (hW : 1 / 2 ≤ W) (hx : ∀ r, r < n → aA W n x r = b r + ρ r) (hρ : ∀ r, r < n → -(1 / 450) ≤ ρ r ∧ ρ r ≤ 1 / 450) (hb : sm n (fun r => b r * b r) ≤ 225) : tT n x ≤ 120 := by
  have h0 := rho_sq hn.2 hρ
  have h1 := form hn.1 W x x
  have h2 : sm n (fun r => x r * aA W n x r) ≤ sm n (fun r => x r * x r + ((13 / 50) * (b r * b r) + 20 * (ρ r * ρ r))) := sm_le n fun r hr => by
    have h3 := sq_nonneg (x r - (25 / 49) * b r)
    have h5 := sq_nonneg (x r - 25 * ρ r)
    have h6 := sq_nonneg (b r)
    have h7 := sq_nonneg (ρ r)
    rw [hx r hr]
    grind
  rw [sm_add, sm_add, sm_mul, sm_mul] at h2
  have h3 : sm (n - 2) (fun r => dd2 x r * dd2 x r) = tT n x := rfl
  rw [h3] at h1
  have h4 := Rat.mul_le_mul_of_nonneg_right hW (tT_nonneg n x)
  grind
end
end Go.Ab
