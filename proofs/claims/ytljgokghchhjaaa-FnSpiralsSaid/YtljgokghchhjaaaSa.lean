/- Arcs of even bends, reckoned with whole numbers. No conditions. -/
import Derived.Test.YtljgokghchhjaaaSiA
import Derived.Test.YtljgokghchhjaaaAc
namespace Go.Ab

def quarterF (n : Nat) : FV := fbin .quo .f32 (some (FloatKind.f32.nearest (n : Int))) (fv .f32 1082130432)
/-- A number as a whole count of shares. -/
def intF (x : FV) : Int := match x with
  | some b => match FloatKind.f32.decode b with
    | .number s m e => if s then -((m : Int) * 2 ^ (e + 40).toNat) else (m : Int) * 2 ^ (e + 40).toNat
    | _ => 0
  | none => 0
def okI (x : FV) : Bool := match x with
  | some b => match FloatKind.f32.decode b with
    | .number _ _ e => decide (0 ≤ e + 40)
    | _ => false
  | none => false
theorem intF_vl {x : FV} (h : okI x = true) : Vl .f32 x (shR (intF x)) := by
  unfold okI at h
  cases x with
  | none => cases h
  | some b =>
    simp only at h
    cases hd : FloatKind.f32.decode b with
    | number s m e =>
      rw [hd] at h
      simp only at h
      have h0 := of_decide_eq_true h
      have hv := Vl.of (k := .f32) hd
      have e1 : p2 e = p2 (e + 40) * (1 / 1099511627776) := by
        have : p2 (-40) = 1 / 1099511627776 := by decide +kernel
        rw [← this, ← p2_add]
        exact congrArg p2 (by omega)
      have e2 : p2 (e + 40) = ((2 ^ (e + 40).toNat : Nat) : Rat) := by
        rw [← p2_nat]
        exact congrArg p2 (by omega)
      have e3 : (((m : Int) * 2 ^ (e + 40).toNat : Int) : Rat) = (m : Rat) * ((2 ^ (e + 40).toNat : Nat) : Rat) := by
        rw [Rat.intCast_mul]
        congr 1
      have : vl s m e = shR (intF (some b)) := by
        simp only [intF, hd]
        unfold vl sgn shR
        cases s
        · simp only [Bool.false_eq_true, if_false]
          rw [e3, e1, e2]
          grind
        · simp only [if_true]
          rw [Rat.intCast_neg, e3, e1, e2]
          grind
      rw [← this]
      exact hv
    | infinity s => rw [hd] at h; cases h
    | nan s t => rw [hd] at h; cases h
/-- The turn at a step. -/
def tB (b m k : Nat) : FV := turnF (quarterF b) (fv .f32 0) (placeF (stepF (quarterF m) 64) k)
def nextI (b m k : Nat) (p : Int × Int) : Int × Int := (p.1 + m * (phI (intF (tB b m k))).1, p.2 + m * (phI (intF (tB b m k))).2)
def xyI (b m : Nat) : Nat → Int × Int
  | 0 => (0, 0)
  | k + 1 => nextI b m k (xyI b m k)
def nearC (b : Nat) (p : Int × Int) : Bool :=
  decide ((1024 * sS - b * (384 * sS / 100)) * (1024 * sS - b * (384 * sS / 100)) ≤ (b * p.1) * (b * p.1) + (b * p.2 - 1024 * sS) * (b * p.2 - 1024 * sS))
  && decide ((b * p.1) * (b * p.1) + (b * p.2 - 1024 * sS) * (b * p.2 - 1024 * sS) ≤ (1024 * sS + b * (384 * sS / 100)) * (1024 * sS + b * (384 * sS / 100)))
def okT (b m k : Nat) : Bool := okI (tB b m k) && decide (0 ≤ intF (tB b m k)) && decide (intF (tB b m k) < 4 * sS)
def goA (b m : Nat) : Nat → Nat → Int × Int → Bool
  | 0, _, p => nearC b p
  | f + 1, k, p => nearC b p && okT b m k && goA b m f (k + 1) (nextI b m k p)
theorem goA_out {b m : Nat} : ∀ (f k : Nat), goA b m f k (xyI b m k) = true → (∀ j, k ≤ j → j ≤ k + f → nearC b (xyI b m j) = true) ∧ ∀ j, k ≤ j → j < k + f → okT b m j = true
  | 0, k, h => ⟨fun j h1 h2 => by
    have e : j = k := by omega
    rw [e]
    exact h, fun j h1 h2 => by omega⟩
  | f + 1, k, h => by
    simp only [goA, Bool.and_eq_true] at h
    obtain ⟨⟨h1, h2⟩, h3⟩ := h
    have ih := goA_out f (k + 1) h3
    refine ⟨fun j j1 j2 => ?_, fun j j1 j2 => ?_⟩
    · rcases (show j = k ∨ k + 1 ≤ j from by omega) with rfl | h4
      · exact h1
      · exact ih.1 j h4 (by omega)
    · rcases (show j = k ∨ k + 1 ≤ j from by omega) with rfl | h4
      · exact h2
      · exact ih.2 j h4 (by omega)
def goB (b : Nat) : Bool := (List.range 16).all fun m => goA b (m + 1) 64 0 (0, 0)
end Go.Ab
