/- Marks on lists of 32-bit floats, and that they are held. No conditions. -/
import Derived.Test.YtljgokghchhjaaaDrw
import Derived.Test.YtljgokghchhjaaaB
namespace Go.Ab
open Go.Proofs
attribute [local irreducible] WS RS Done OpJ Then InBlock Round Ret Env.sub FnH

/-- A whole number as a 32-bit float. -/
def fint (x : Int) : FV := some (FloatKind.f32.nearest x)
theorem fint_eq (x : Int) : cmpB .neq (fcmp .f32 (fint x) (fint x)) = false := by
  have : fcmp .f32 (fint x) (fint x) = some .eq := order_refl (nearest_f_ok .f32 x)
  rw [this]; rfl
theorem entF_congr {g n c : Nat} {T : TypeId} {f f' : Int → FV} (h : ∀ t : Int, 0 ≤ t → t < n → f t = f' t) : entF g T n f c = entF g T n f' c := by
  unfold entF; rw [tab_congr h]
theorem getD_tab {n : Nat} {f : Int → FV} {i : Int} (h0 : 0 ≤ i) (h : i < n) : (tab n f).getD i.toNat default = f i := at_tab h0 h
theorem rd_nil (w : World) (sz : Nat) : Rd w sz (.slice none 0 0) [] := ⟨none, 0, 0, rfl, by simp, Nat.le_refl _, by simp [maxLen], fun i x h => by simp at h⟩

end Go.Ab
