/- Where the fields of structs lie: printed by a program of ours. No conditions. -/
import Derived.Test.YtnajffjobgeenaaStr
import Derived.Test.YtnajffjobgeenaaTy
import Derived.KernelRfl
namespace Go.Ab
open Go.Proofs
instance tf41_0 : TyF Try.prog 41 0 0 := ⟨⟨Try.prog.fieldsOf 40, (Try.prog.fieldsOf 40)[0]?.getD default, (Try.prog.info? ((Try.prog.fieldsOf 40)[0]?.getD default).type).getD default, by kernel_rfl, by kernel_rfl, by kernel_rfl, by kernel_rfl, by kernel_rfl⟩⟩
instance tf41_1 : TyF Try.prog 41 1 1 := ⟨⟨Try.prog.fieldsOf 40, (Try.prog.fieldsOf 40)[1]?.getD default, (Try.prog.info? ((Try.prog.fieldsOf 40)[1]?.getD default).type).getD default, by kernel_rfl, by kernel_rfl, by kernel_rfl, by kernel_rfl, by kernel_rfl⟩⟩
instance tf47_0 : TyF Try.prog 47 0 0 := ⟨⟨Try.prog.fieldsOf 46, (Try.prog.fieldsOf 46)[0]?.getD default, (Try.prog.info? ((Try.prog.fieldsOf 46)[0]?.getD default).type).getD default, by kernel_rfl, by kernel_rfl, by kernel_rfl, by kernel_rfl, by kernel_rfl⟩⟩
instance tf47_1 : TyF Try.prog 47 1 1 := ⟨⟨Try.prog.fieldsOf 46, (Try.prog.fieldsOf 46)[1]?.getD default, (Try.prog.info? ((Try.prog.fieldsOf 46)[1]?.getD default).type).getD default, by kernel_rfl, by kernel_rfl, by kernel_rfl, by kernel_rfl, by kernel_rfl⟩⟩
instance tf65_0 : TyF Try.prog 65 0 0 := ⟨⟨Try.prog.fieldsOf 64, (Try.prog.fieldsOf 64)[0]?.getD default, (Try.prog.info? ((Try.prog.fieldsOf 64)[0]?.getD default).type).getD default, by kernel_rfl, by kernel_rfl, by kernel_rfl, by kernel_rfl, by kernel_rfl⟩⟩
instance tf65_1 : TyF Try.prog 65 1 1 := ⟨⟨Try.prog.fieldsOf 64, (Try.prog.fieldsOf 64)[1]?.getD default, (Try.prog.info? ((Try.prog.fieldsOf 64)[1]?.getD default).type).getD default, by kernel_rfl, by kernel_rfl, by kernel_rfl, by kernel_rfl, by kernel_rfl⟩⟩
instance tf65_2 : TyF Try.prog 65 2 2 := ⟨⟨Try.prog.fieldsOf 64, (Try.prog.fieldsOf 64)[2]?.getD default, (Try.prog.info? ((Try.prog.fieldsOf 64)[2]?.getD default).type).getD default, by kernel_rfl, by kernel_rfl, by kernel_rfl, by kernel_rfl, by kernel_rfl⟩⟩
instance tf95_0 : TyF Try.prog 95 0 0 := ⟨⟨Try.prog.fieldsOf 94, (Try.prog.fieldsOf 94)[0]?.getD default, (Try.prog.info? ((Try.prog.fieldsOf 94)[0]?.getD default).type).getD default, by kernel_rfl, by kernel_rfl, by kernel_rfl, by kernel_rfl, by kernel_rfl⟩⟩
instance tf139_0 : TyF Try.prog 139 0 0 := ⟨⟨Try.prog.fieldsOf 94, (Try.prog.fieldsOf 94)[0]?.getD default, (Try.prog.info? ((Try.prog.fieldsOf 94)[0]?.getD default).type).getD default, by kernel_rfl, by kernel_rfl, by kernel_rfl, by kernel_rfl, by kernel_rfl⟩⟩
instance tf141_0 : TyF Try.prog 141 0 0 := ⟨⟨Try.prog.fieldsOf 64, (Try.prog.fieldsOf 64)[0]?.getD default, (Try.prog.info? ((Try.prog.fieldsOf 64)[0]?.getD default).type).getD default, by kernel_rfl, by kernel_rfl, by kernel_rfl, by kernel_rfl, by kernel_rfl⟩⟩
instance tf141_1 : TyF Try.prog 141 1 1 := ⟨⟨Try.prog.fieldsOf 64, (Try.prog.fieldsOf 64)[1]?.getD default, (Try.prog.info? ((Try.prog.fieldsOf 64)[1]?.getD default).type).getD default, by kernel_rfl, by kernel_rfl, by kernel_rfl, by kernel_rfl, by kernel_rfl⟩⟩
instance tf141_2 : TyF Try.prog 141 2 2 := ⟨⟨Try.prog.fieldsOf 64, (Try.prog.fieldsOf 64)[2]?.getD default, (Try.prog.info? ((Try.prog.fieldsOf 64)[2]?.getD default).type).getD default, by kernel_rfl, by kernel_rfl, by kernel_rfl, by kernel_rfl, by kernel_rfl⟩⟩
instance tf166_0 : TyF Try.prog 166 0 0 := ⟨⟨Try.prog.fieldsOf 165, (Try.prog.fieldsOf 165)[0]?.getD default, (Try.prog.info? ((Try.prog.fieldsOf 165)[0]?.getD default).type).getD default, by kernel_rfl, by kernel_rfl, by kernel_rfl, by kernel_rfl, by kernel_rfl⟩⟩
instance tf166_1 : TyF Try.prog 166 1 1 := ⟨⟨Try.prog.fieldsOf 165, (Try.prog.fieldsOf 165)[1]?.getD default, (Try.prog.info? ((Try.prog.fieldsOf 165)[1]?.getD default).type).getD default, by kernel_rfl, by kernel_rfl, by kernel_rfl, by kernel_rfl, by kernel_rfl⟩⟩
instance tf166_2 : TyF Try.prog 166 2 2 := ⟨⟨Try.prog.fieldsOf 165, (Try.prog.fieldsOf 165)[2]?.getD default, (Try.prog.info? ((Try.prog.fieldsOf 165)[2]?.getD default).type).getD default, by kernel_rfl, by kernel_rfl, by kernel_rfl, by kernel_rfl, by kernel_rfl⟩⟩
instance tf166_3 : TyF Try.prog 166 3 3 := ⟨⟨Try.prog.fieldsOf 165, (Try.prog.fieldsOf 165)[3]?.getD default, (Try.prog.info? ((Try.prog.fieldsOf 165)[3]?.getD default).type).getD default, by kernel_rfl, by kernel_rfl, by kernel_rfl, by kernel_rfl, by kernel_rfl⟩⟩
end Go.Ab
