/- Facts on slices whose elements have one cell. Printed by a program. -/
import Derived.Test.YtebjpeonbfhdhaaGreatSxT
import Derived.Test.YtebjpeonbfhdhaaGreatSx14
namespace Go.Proofs.YtebjpeonbfhdhaaGreat.T
open Go Go.Sx Go.Proofs
theorem mk35 : MK Tryz.prog 35 223 24 (.slice none 0 0) := MK.of Tryz.underlying35 (by kernel_rfl) rfl rfl
theorem mk68 : MK Tryz.prog 68 3 8 (.int .i64 0) := MK.of Tryz.underlying68 (by kernel_rfl) rfl rfl
theorem mk114 : MK Tryz.prog 114 4 1 (.bool false) := MK.of Tryz.underlying114 (by kernel_rfl) rfl rfl
theorem mk136 : MK Tryz.prog 136 5 1 (.int .u8 0) := MK.of Tryz.underlying136 (by kernel_rfl) rfl rfl
theorem mk158 : MK Tryz.prog 158 9 16 (.string ⟨#[]⟩) := MK.of Tryz.underlying158 (by kernel_rfl) rfl rfl
theorem mk177 : MK Tryz.prog 177 2 8 (.int .i64 0) := MK.of Tryz.underlying177 (by kernel_rfl) rfl rfl
end Go.Proofs.YtebjpeonbfhdhaaGreat.T
