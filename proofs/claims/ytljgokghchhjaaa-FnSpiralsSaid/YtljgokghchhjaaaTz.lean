/- Where the fields of structs lie: printed by a program of ours. No conditions. -/
import Derived.Test.YtljgokghchhjaaaStr
import Derived.Test.YtljgokghchhjaaaTy
import Derived.KernelRfl
namespace Go.Ab
open Go.Proofs
instance tf46_0 : TyF Try.prog 46 0 0 := ⟨⟨Try.prog.fieldsOf 45, (Try.prog.fieldsOf 45)[0]?.getD default, (Try.prog.info? ((Try.prog.fieldsOf 45)[0]?.getD default).type).getD default, by kernel_rfl, by kernel_rfl, by kernel_rfl, by kernel_rfl, by kernel_rfl⟩⟩
instance tf46_1 : TyF Try.prog 46 1 1 := ⟨⟨Try.prog.fieldsOf 45, (Try.prog.fieldsOf 45)[1]?.getD default, (Try.prog.info? ((Try.prog.fieldsOf 45)[1]?.getD default).type).getD default, by kernel_rfl, by kernel_rfl, by kernel_rfl, by kernel_rfl, by kernel_rfl⟩⟩
instance tf90_0 : TyF Try.prog 90 0 0 := ⟨⟨Try.prog.fieldsOf 89, (Try.prog.fieldsOf 89)[0]?.getD default, (Try.prog.info? ((Try.prog.fieldsOf 89)[0]?.getD default).type).getD default, by kernel_rfl, by kernel_rfl, by kernel_rfl, by kernel_rfl, by kernel_rfl⟩⟩
instance tf90_1 : TyF Try.prog 90 1 1 := ⟨⟨Try.prog.fieldsOf 89, (Try.prog.fieldsOf 89)[1]?.getD default, (Try.prog.info? ((Try.prog.fieldsOf 89)[1]?.getD default).type).getD default, by kernel_rfl, by kernel_rfl, by kernel_rfl, by kernel_rfl, by kernel_rfl⟩⟩
instance tf90_2 : TyF Try.prog 90 2 2 := ⟨⟨Try.prog.fieldsOf 89, (Try.prog.fieldsOf 89)[2]?.getD default, (Try.prog.info? ((Try.prog.fieldsOf 89)[2]?.getD default).type).getD default, by kernel_rfl, by kernel_rfl, by kernel_rfl, by kernel_rfl, by kernel_rfl⟩⟩
end Go.Ab
