/- What a row asks of the whole program: how it is made. No conditions. -/
import Derived.Test.YtnajffjobgeenaaRows
import Derived.KernelRfl
namespace Go.Ab
open Go.Proofs
theorem k_make : Try.prog.make = some Go.Proofs.Ytnajffjobgeenaa.Rows.fnExactIsMaskRow.make := by kernel_rfl
end Go.Ab
