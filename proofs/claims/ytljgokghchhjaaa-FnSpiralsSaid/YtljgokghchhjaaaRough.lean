/- What RoughOf computes, and the law FnExactRoughOf: what the program's RoughOf and the reference's tell of any list is the same. No conditions. -/
import Derived.Test.YtljgokghchhjaaaB
import Derived.Test.YtljgokghchhjaaaRows
namespace Go.Ab
open Go.Proofs
attribute [local irreducible] WS RS Done OpJ Then InBlock Round Ret Env.sub FnH

/-- A number, if it is finite; else zero. -/
def numF (x : FV) : FV := if finB x then x else fv .f32 0
def numT (x : FV) : AV := .tup [.f .f32 (numF x), .raw (.bool (finB x))]

def quietB (L : List FV) : Bool := decide ((3 : Int) ≤ L.length) && decide ((L.length : Int) ≤ 48) && L.all finB
/-- The sum over the first j inner places. -/
def roughTo (L : List FV) : Nat → FV
  | 0 => fv .f32 0
  | j + 1 =>
    fbin .add .f32 (roughTo L j) (fbin .mul .f32
      (fbin .add .f32 (fbin .sub .f32 (L.getD ((j : Int) + 1 - 1).toNat default) (fbin .mul .f32 (fv .f32 1073741824) (L.getD ((j : Int) + 1).toNat default))) (L.getD ((j : Int) + 1 + 1).toNat default))
      (fbin .add .f32 (fbin .sub .f32 (L.getD ((j : Int) + 1 - 1).toNat default) (fbin .mul .f32 (fv .f32 1073741824) (L.getD ((j : Int) + 1).toNat default))) (L.getD ((j : Int) + 1 + 1).toNat default)))
theorem roughTo_succ (L : List FV) (j : Nat) : roughTo L (j + 1) =
    fbin .add .f32 (roughTo L j) (fbin .mul .f32
      (fbin .add .f32 (fbin .sub .f32 (L.getD ((j : Int) + 1 - 1).toNat default) (fbin .mul .f32 (fv .f32 1073741824) (L.getD ((j : Int) + 1).toNat default))) (L.getD ((j : Int) + 1 + 1).toNat default))
      (fbin .add .f32 (fbin .sub .f32 (L.getD ((j : Int) + 1 - 1).toNat default) (fbin .mul .f32 (fv .f32 1073741824) (L.getD ((j : Int) + 1).toNat default))) (L.getD ((j : Int) + 1 + 1).toNat default))) := rfl
def roughOk (L : List FV) : Bool := quietB L && finB (roughTo L (L.length - 2))
def roughF (L : List FV) : FV := if roughOk L then roughTo L (L.length - 2) else fv .f32 0
def roughT (L : List FV) : AV := .tup [.f .f32 (roughF L), .raw (.bool (roughOk L))]
theorem roughT_quiet {L : List FV} (h : quietB L = true) : roughT L = .tup [.f .f32 (numF (roughTo L (L.length - 2))), .raw (.bool (finB (roughTo L (L.length - 2))))] := by
  simp only [roughT, roughF, roughOk, numF, h, Bool.true_and]
theorem roughT_not {L : List FV} (h : quietB L = false) : roughT L = .tup [.f .f32 (fv .f32 0), .raw (.bool false)] := by
  simp [roughT, roughF, roughOk, h]
theorem quiet_len {L : List FV} (h : quietB L = true) : 3 ≤ L.length ∧ L.length ≤ 48 := by
  simp only [quietB, Bool.and_eq_true, decide_eq_true_eq] at h
  omega

end Go.Ab
