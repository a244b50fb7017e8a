/- What a row asks of the whole program: what was lifted. No conditions. -/
import Derived.Test.YtnajffjobgeenaaRows
import Derived.KernelRfl
namespace Go.Ab
open Go.Proofs
theorem k_lifts : Try.prog.liftsFinal = Go.Proofs.Ytnajffjobgeenaa.Rows.fnExactIsMaskRow.lifted := by kernel_rfl
end Go.Ab
