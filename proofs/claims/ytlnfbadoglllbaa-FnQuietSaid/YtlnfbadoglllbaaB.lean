/- Copies of lists of 32-bit floats, and that a list is the same as itself. No conditions. -/
import Derived.Test.YtlnfbadoglllbaaA
namespace Go.Ab
open Go.Proofs
attribute [local irreducible] WS RS Done OpJ Then InBlock Round Ret Env.sub FnH

theorem copy_step {α : Type} [Inhabited α] (L : List α) (z : α) {k : Nat} (hk : k < L.length) :
    (L.take k ++ List.replicate (L.length - k) z).set ((k : Int).toNat * 1) (L.getD (k : Int).toNat default) = L.take (k + 1) ++ List.replicate (L.length - (k + 1)) z := by
  have hl : (L.take k).length = k := by simp; omega
  have hr : L.length - k = (L.length - (k + 1)) + 1 := by omega
  have e1 : (k : Int).toNat * 1 = k := by omega
  have e2 : (k : Int).toNat = k := by omega
  rw [e1, e2, hr, List.replicate_succ, List.set_append_right k _ (Nat.le_of_eq hl), hl, Nat.sub_self, List.set_cons_zero]
  have hg : L.getD k default = L[k] := by simp [List.getD, hk]
  rw [hg, List.take_succ_eq_append_getElem hk, List.append_assoc]
  rfl
theorem copy_end {α : Type} (L : List α) (z : α) : L.take L.length ++ List.replicate (L.length - L.length) z = L := by simp

end Go.Ab
