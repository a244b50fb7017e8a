/- How much a curve bends at the points of a graph, as lists are filled on the way. No conditions. -/
import Derived.Test.YtlnfbadoglllbaaSteps
import Derived.KernelRfl
namespace Go.Ab
open Go.Proofs
attribute [local irreducible] WS RS Done OpJ Then InBlock Round Ret Env.sub FnH

abbrev c2 : FV := fv .f32 1073741824
abbrev c6 : FV := fv .f32 1086324736
abbrev c0 : FV := fv .f32 0
def mr (h s : Int → FV) : Nat → FV × FV
  | 0 => (fbin .mul .f32 c2 (fbin .add .f32 (h 1) (h 2)), fbin .mul .f32 c6 (fbin .sub .f32 (s 2) (s 1)))
  | k + 1 => (fbin .sub .f32 (fbin .mul .f32 c2 (fbin .add .f32 (h ((k : Int) + 2)) (h ((k : Int) + 2 + 1)))) (fbin .mul .f32 (fbin .quo .f32 (h ((k : Int) + 2)) (mr h s k).1) (h ((k : Int) + 2))),
      fbin .sub .f32 (fbin .mul .f32 c6 (fbin .sub .f32 (s ((k : Int) + 2 + 1)) (s ((k : Int) + 2)))) (fbin .mul .f32 (fbin .quo .f32 (h ((k : Int) + 2)) (mr h s k).1) (mr h s k).2))
def midF (h s : Int → FV) (t : Int) : FV := (mr h s (t - 1).toNat).1
def rgtF (h s : Int → FV) (t : Int) : FV := (mr h s (t - 1).toNat).2
section
variable (h s : Int → FV) (n : Nat)
theorem midF_one : midF h s 1 = fbin .mul .f32 c2 (fbin .add .f32 (h 1) (h 2)) := rfl
theorem rgtF_one : rgtF h s 1 = fbin .mul .f32 c6 (fbin .sub .f32 (s 2) (s 1)) := rfl
theorem mr_step {i : Int} (hi : 1 < i) : midF h s i = fbin .sub .f32 (fbin .mul .f32 c2 (fbin .add .f32 (h i) (h (i + 1)))) (fbin .mul .f32 (fbin .quo .f32 (h i) (midF h s (i - 1))) (h i)) ∧
    rgtF h s i = fbin .sub .f32 (fbin .mul .f32 c6 (fbin .sub .f32 (s (i + 1)) (s i))) (fbin .mul .f32 (fbin .quo .f32 (h i) (midF h s (i - 1))) (rgtF h s (i - 1))) := by
  obtain ⟨k, rfl⟩ : ∃ k : Nat, i = (k : Int) + 2 := ⟨(i - 2).toNat, by omega⟩
  have e1 : ((k : Int) + 2 - 1).toNat = k + 1 := by omega
  have e2 : ((k : Int) + 2 - 1 - 1).toNat = k := by omega
  unfold midF rgtF
  rw [e1, e2]
  exact ⟨rfl, rfl⟩
def oN : Nat → FV
  | 0 => fbin .quo .f32 (rgtF h s ((n : Int) - 2)) (midF h s ((n : Int) - 2))
  | j + 1 => fbin .quo .f32 (fbin .sub .f32 (rgtF h s ((n : Int) - 3 - j)) (fbin .mul .f32 (h ((n : Int) - 3 - j + 1)) (oN j))) (midF h s ((n : Int) - 3 - j))
def oF (t : Int) : FV := oN h s n ((n : Int) - 2 - t).toNat
theorem oF_top : oF h s n ((n : Int) - 2) = fbin .quo .f32 (rgtF h s ((n : Int) - 2)) (midF h s ((n : Int) - 2)) := by
  unfold oF
  rw [show ((n : Int) - 2 - ((n : Int) - 2)).toNat = 0 from by omega]
  rfl
theorem oF_step {i : Int} (hi : i < (n : Int) - 2) : oF h s n i = fbin .quo .f32 (fbin .sub .f32 (rgtF h s i) (fbin .mul .f32 (h (i + 1)) (oF h s n (i + 1)))) (midF h s i) := by
  obtain ⟨k, rfl⟩ : ∃ k : Nat, i = (n : Int) - 3 - k := ⟨((n : Int) - 3 - i).toNat, by omega⟩
  have e1 : ((n : Int) - 2 - ((n : Int) - 3 - k)).toNat = k + 1 := by omega
  have e2 : ((n : Int) - 2 - ((n : Int) - 3 - k + 1)).toNat = k := by omega
  unfold oF
  rw [e1, e2]
  rfl
/-- What the lists hold on the way. -/
def midT (i t : Int) : FV := if 1 ≤ t ∧ t < i then midF h s t else c0
def rgtT (i t : Int) : FV := if 1 ≤ t ∧ t < i then rgtF h s t else c0
def outT (i t : Int) : FV := if i < t ∧ t < (n : Int) - 1 then oF h s n t else c0
def rgt2 (i t : Int) : FV := if i < t ∧ t < (n : Int) - 2 then fbin .sub .f32 (rgtF h s t) (fbin .mul .f32 (h (t + 1)) (oF h s n (t + 1))) else rgtT h s ((n : Int) - 1) t
def put (i : Int) (x : FV) (f : Int → FV) (t : Int) : FV := if t = i then x else f t
end
theorem put_at (i : Int) (x : FV) (f : Int → FV) : put i x f i = x := if_pos rfl
theorem put_ne (i : Int) (x : FV) (f : Int → FV) {t : Int} (h : t ≠ i) : put i x f t = f t := if_neg h
def bendT (n : Nat) (f g : Int → FV) : Int → FV := outT (hT f) (sT f g) n 0
end Go.Ab
