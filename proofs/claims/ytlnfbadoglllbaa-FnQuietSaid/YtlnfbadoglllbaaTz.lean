/- Where the fields of structs lie: printed by a program of ours. No conditions. -/
import Derived.Test.YtlnfbadoglllbaaStr
import Derived.Test.YtlnfbadoglllbaaTy
import Derived.KernelRfl
namespace Go.Ab
open Go.Proofs
instance tf58_0 : TyF Try.prog 58 0 0 := ⟨⟨Try.prog.fieldsOf 57, (Try.prog.fieldsOf 57)[0]?.getD default, (Try.prog.info? ((Try.prog.fieldsOf 57)[0]?.getD default).type).getD default, by kernel_rfl, by kernel_rfl, by kernel_rfl, by kernel_rfl, by kernel_rfl⟩⟩
instance tf58_1 : TyF Try.prog 58 1 1 := ⟨⟨Try.prog.fieldsOf 57, (Try.prog.fieldsOf 57)[1]?.getD default, (Try.prog.info? ((Try.prog.fieldsOf 57)[1]?.getD default).type).getD default, by kernel_rfl, by kernel_rfl, by kernel_rfl, by kernel_rfl, by kernel_rfl⟩⟩
instance tf58_2 : TyF Try.prog 58 2 2 := ⟨⟨Try.prog.fieldsOf 57, (Try.prog.fieldsOf 57)[2]?.getD default, (Try.prog.info? ((Try.prog.fieldsOf 57)[2]?.getD default).type).getD default, by kernel_rfl, by kernel_rfl, by kernel_rfl, by kernel_rfl, by kernel_rfl⟩⟩
end Go.Ab
