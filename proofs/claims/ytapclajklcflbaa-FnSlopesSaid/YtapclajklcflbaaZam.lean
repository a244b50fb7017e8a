/- What a row asks of the whole program: that its start may be entered. No conditions. -/
import Derived.Test.YtapclajklcflbaaRows
import Derived.KernelRfl
import Derived.Test.YtapclajklcflbaaZal
namespace Go.Ab
open Go.Proofs
theorem k_enter : Try.prog.mayEnter = true := by kernel_rfl
end Go.Ab
