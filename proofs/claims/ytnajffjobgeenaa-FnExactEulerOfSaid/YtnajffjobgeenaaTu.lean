/- Further types of the seat, as the calculus asks for them: printed by a program of ours. No conditions. -/
import Derived.Test.YtnajffjobgeenaaTy
import Derived.KernelRfl
namespace Go.Ab
open Go.Proofs

instance ty164 : TyU Try.prog 164 (.map 118 3) := ⟨by kernel_rfl⟩
instance ti164 : TyI Try.prog 164 (.map none) 1 8 := ⟨⟨(Try.prog.info? 164).getD default, by kernel_rfl, by kernel_rfl, by kernel_rfl, by kernel_rfl⟩⟩
end Go.Ab
