/- What a row asks of the whole program: that its start may be entered. No conditions. -/
import Derived.Test.YtijihljfpeajlaaRows
import Derived.KernelRfl
import Derived.Test.YtijihljfpeajlaaZao
namespace Go.Ab
open Go.Proofs
theorem k_enter : Try.prog.mayEnter = true := by kernel_rfl
end Go.Ab
