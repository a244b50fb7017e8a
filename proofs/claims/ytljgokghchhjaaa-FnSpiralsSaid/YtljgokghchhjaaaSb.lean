/- Arcs of even bends, all of them reckoned. No conditions. -/
import Derived.Test.YtljgokghchhjaaaSa
namespace Go.Ab

theorem goB_1 : goB 1 = true := by decide +kernel
theorem goB_2 : goB 2 = true := by decide +kernel
theorem goB_3 : goB 3 = true := by decide +kernel
theorem goB_4 : goB 4 = true := by decide +kernel
theorem goB_5 : goB 5 = true := by decide +kernel
theorem goB_6 : goB 6 = true := by decide +kernel
theorem goB_7 : goB 7 = true := by decide +kernel
theorem goB_8 : goB 8 = true := by decide +kernel
theorem goB_all {b m : Nat} (hb : 1 ≤ b ∧ b ≤ 8) (hm : 1 ≤ m ∧ m ≤ 16) : goA b m 64 0 (0, 0) = true := by
  have h : goB b = true := by
    obtain ⟨c, rfl⟩ : ∃ c, b = c + 1 := ⟨b - 1, by omega⟩
    match c, hb with
    | 0, _ => exact goB_1
    | 1, _ => exact goB_2
    | 2, _ => exact goB_3
    | 3, _ => exact goB_4
    | 4, _ => exact goB_5
    | 5, _ => exact goB_6
    | 6, _ => exact goB_7
    | 7, _ => exact goB_8
    | c + 8, h => omega
  obtain ⟨j, rfl⟩ : ∃ j, m = j + 1 := ⟨m - 1, by omega⟩
  exact (List.all_eq_true.1 h) j (by simp; omega)
end Go.Ab
