/- Facts on the program's types: sizes, zero values, fields' places. Printed by a program. -/
import Derived.Test.YtebjpeonbfhdhaaGreatSx7
import Derived.Test.YtebjpeonbfhdhaaGreatProg
import Derived.KernelRfl
set_option linter.unusedSimpArgs false
namespace Go.Proofs.YtebjpeonbfhdhaaGreat.T
open Go Go.Sx Go.Proofs
set_option maxRecDepth 100000
theorem un2 : UN Tryz.prog 2 (.int .i64) := Tryz.underlying2
theorem sz2 : SZ Tryz.prog 2 1 := SZ.of (by kernel_rfl)
theorem zv2 : ZV Tryz.prog 2 [.int .i64 0] := ZV.of (v := .int .i64 0) (by kernel_rfl) rfl
theorem ld2 : LD1 Tryz.prog 2 := LD1.of Tryz.underlying2 rfl
theorem un3 : UN Tryz.prog 3 (.int .i64) := Tryz.underlying3
theorem sz3 : SZ Tryz.prog 3 1 := SZ.of (by kernel_rfl)
theorem zv3 : ZV Tryz.prog 3 [.int .i64 0] := ZV.of (v := .int .i64 0) (by kernel_rfl) rfl
theorem ld3 : LD1 Tryz.prog 3 := LD1.of Tryz.underlying3 rfl
theorem un4 : UN Tryz.prog 4 .bool := Tryz.underlying4
theorem sz4 : SZ Tryz.prog 4 1 := SZ.of (by kernel_rfl)
theorem zv4 : ZV Tryz.prog 4 [.bool false] := ZV.of (v := .bool false) (by kernel_rfl) rfl
theorem ld4 : LD1 Tryz.prog 4 := LD1.of Tryz.underlying4 rfl
theorem un5 : UN Tryz.prog 5 (.int .u8) := Tryz.underlying5
theorem sz5 : SZ Tryz.prog 5 1 := SZ.of (by kernel_rfl)
theorem zv5 : ZV Tryz.prog 5 [.int .u8 0] := ZV.of (v := .int .u8 0) (by kernel_rfl) rfl
theorem ld5 : LD1 Tryz.prog 5 := LD1.of Tryz.underlying5 rfl
theorem un9 : UN Tryz.prog 9 .string := Tryz.underlying9
theorem sz9 : SZ Tryz.prog 9 1 := SZ.of (by kernel_rfl)
theorem zv9 : ZV Tryz.prog 9 [.string ⟨#[]⟩] := ZV.of (v := .string ⟨#[]⟩) (by kernel_rfl) rfl
theorem ld9 : LD1 Tryz.prog 9 := LD1.of Tryz.underlying9 rfl
theorem sz23 : SZ Tryz.prog 23 6 := SZ.of (by kernel_rfl)
theorem zv23 : ZV Tryz.prog 23 [.int .i64 0, .int .i64 0, .int .i64 0, .int .i64 0, .int .i64 0, .int .i64 0] := ZV.of (v := .agg #[.int .i64 0, .int .i64 0, .int .i64 0, .int .i64 0, .int .i64 0, .int .i64 0]) (by kernel_rfl) rfl
theorem ld23 : LDA Tryz.prog 23 6 := LDA.of Tryz.underlying23 rfl sz23
theorem un24 : UN Tryz.prog 24 (.slice 56) := Tryz.underlying24
theorem sz24 : SZ Tryz.prog 24 1 := SZ.of (by kernel_rfl)
theorem zv24 : ZV Tryz.prog 24 [.slice none 0 0] := ZV.of (v := .slice none 0 0) (by kernel_rfl) rfl
theorem ld24 : LD1 Tryz.prog 24 := LD1.of Tryz.underlying24 rfl
theorem sz26 : SZ Tryz.prog 26 4 := SZ.of (by kernel_rfl)
theorem zv26 : ZV Tryz.prog 26 [.string ⟨#[]⟩, .int .i64 0, .int .i64 0, .slice none 0 0] := ZV.of (v := .agg #[.string ⟨#[]⟩, .int .i64 0, .int .i64 0, .slice none 0 0]) (by kernel_rfl) rfl
theorem ld26 : LDA Tryz.prog 26 4 := LDA.of Tryz.underlying26 rfl sz26
theorem un27 : UN Tryz.prog 27 (.slice 46) := Tryz.underlying27
theorem sz27 : SZ Tryz.prog 27 1 := SZ.of (by kernel_rfl)
theorem zv27 : ZV Tryz.prog 27 [.slice none 0 0] := ZV.of (v := .slice none 0 0) (by kernel_rfl) rfl
theorem ld27 : LD1 Tryz.prog 27 := LD1.of Tryz.underlying27 rfl
theorem sz29 : SZ Tryz.prog 29 13 := SZ.of (by kernel_rfl)
theorem zv29 : ZV Tryz.prog 29 [.int .i64 0, .int .i64 0, .int .i64 0, .int .i64 0, .int .i64 0, .int .i64 0, .string ⟨#[]⟩, .int .i64 0, .int .i64 0, .slice none 0 0, .int .i64 0, .slice none 0 0, .int .i64 0] := ZV.of (v := .agg #[.int .i64 0, .int .i64 0, .int .i64 0, .int .i64 0, .int .i64 0, .int .i64 0, .string ⟨#[]⟩, .int .i64 0, .int .i64 0, .slice none 0 0, .int .i64 0, .slice none 0 0, .int .i64 0]) (by kernel_rfl) rfl
theorem ld29 : LDA Tryz.prog 29 13 := LDA.of Tryz.underlying29 rfl sz29
theorem un32 : UN Tryz.prog 32 (.pointer 107) := Tryz.underlying32
theorem sz32 : SZ Tryz.prog 32 1 := SZ.of (by kernel_rfl)
theorem zv32 : ZV Tryz.prog 32 [.pointer none] := ZV.of (v := .pointer none) (by kernel_rfl) rfl
theorem ld32 : LD1 Tryz.prog 32 := LD1.of Tryz.underlying32 rfl
theorem sz34 : SZ Tryz.prog 34 3 := SZ.of (by kernel_rfl)
theorem zv34 : ZV Tryz.prog 34 [.int .i64 0, .int .i64 0, .int .i64 0] := ZV.of (v := .agg #[.int .i64 0, .int .i64 0, .int .i64 0]) (by kernel_rfl) rfl
theorem ld34 : LDA Tryz.prog 34 3 := LDA.of Tryz.underlying34 rfl sz34
theorem un35 : UN Tryz.prog 35 (.slice 223) := Tryz.underlying35
theorem sz35 : SZ Tryz.prog 35 1 := SZ.of (by kernel_rfl)
theorem zv35 : ZV Tryz.prog 35 [.slice none 0 0] := ZV.of (v := .slice none 0 0) (by kernel_rfl) rfl
theorem ld35 : LD1 Tryz.prog 35 := LD1.of Tryz.underlying35 rfl
theorem sz37 : SZ Tryz.prog 37 4 := SZ.of (by kernel_rfl)
theorem zv37 : ZV Tryz.prog 37 [.int .i64 0, .string ⟨#[]⟩, .int .i64 0, .slice none 0 0] := ZV.of (v := .agg #[.int .i64 0, .string ⟨#[]⟩, .int .i64 0, .slice none 0 0]) (by kernel_rfl) rfl
theorem ld37 : LDA Tryz.prog 37 4 := LDA.of Tryz.underlying37 rfl sz37
theorem sz39 : SZ Tryz.prog 39 5 := SZ.of (by kernel_rfl)
theorem zv39 : ZV Tryz.prog 39 [.string ⟨#[]⟩, .string ⟨#[]⟩, .string ⟨#[]⟩, .int .i64 0, .int .i64 0] := ZV.of (v := .agg #[.string ⟨#[]⟩, .string ⟨#[]⟩, .string ⟨#[]⟩, .int .i64 0, .int .i64 0]) (by kernel_rfl) rfl
theorem ld39 : LDA Tryz.prog 39 5 := LDA.of Tryz.underlying39 rfl sz39
theorem sz41 : SZ Tryz.prog 41 28 := SZ.of (by kernel_rfl)
theorem zv41 : ZV Tryz.prog 41 [.int .i64 0, .int .i64 0, .int .i64 0, .int .i64 0, .int .i64 0, .int .i64 0, .string ⟨#[]⟩, .int .i64 0, .int .i64 0, .slice none 0 0, .int .i64 0, .int .i64 0, .int .i64 0, .int .i64 0, .int .i64 0, .int .i64 0, .string ⟨#[]⟩, .int .i64 0, .string ⟨#[]⟩, .int .i64 0, .slice none 0 0, .string ⟨#[]⟩, .string ⟨#[]⟩, .string ⟨#[]⟩, .int .i64 0, .int .i64 0, .bool false, .int .i64 0] := ZV.of (v := .agg #[.int .i64 0, .int .i64 0, .int .i64 0, .int .i64 0, .int .i64 0, .int .i64 0, .string ⟨#[]⟩, .int .i64 0, .int .i64 0, .slice none 0 0, .int .i64 0, .int .i64 0, .int .i64 0, .int .i64 0, .int .i64 0, .int .i64 0, .string ⟨#[]⟩, .int .i64 0, .string ⟨#[]⟩, .int .i64 0, .slice none 0 0, .string ⟨#[]⟩, .string ⟨#[]⟩, .string ⟨#[]⟩, .int .i64 0, .int .i64 0, .bool false, .int .i64 0]) (by kernel_rfl) rfl
theorem ld41 : LDA Tryz.prog 41 28 := LDA.of Tryz.underlying41 rfl sz41
theorem sz46 : SZ Tryz.prog 46 4 := SZ.of (by kernel_rfl)
theorem zv46 : ZV Tryz.prog 46 [.int .i64 0, .string ⟨#[]⟩, .int .i64 0, .int .i64 0] := ZV.of (v := .agg #[.int .i64 0, .string ⟨#[]⟩, .int .i64 0, .int .i64 0]) (by kernel_rfl) rfl
theorem ld46 : LDA Tryz.prog 46 4 := LDA.of Tryz.underlying46 rfl sz46
theorem sz51 : SZ Tryz.prog 51 6 := SZ.of (by kernel_rfl)
theorem zv51 : ZV Tryz.prog 51 [.int .i64 0, .int .i64 0, .int .i64 0, .int .i64 0, .int .i64 0, .int .i64 0] := ZV.of (v := .agg #[.int .i64 0, .int .i64 0, .int .i64 0, .int .i64 0, .int .i64 0, .int .i64 0]) (by kernel_rfl) rfl
theorem ld51 : LDA Tryz.prog 51 6 := LDA.of Tryz.underlying51 rfl sz51
theorem un54 : UN Tryz.prog 54 (.slice 99) := Tryz.underlying54
theorem sz54 : SZ Tryz.prog 54 1 := SZ.of (by kernel_rfl)
theorem zv54 : ZV Tryz.prog 54 [.slice none 0 0] := ZV.of (v := .slice none 0 0) (by kernel_rfl) rfl
theorem ld54 : LD1 Tryz.prog 54 := LD1.of Tryz.underlying54 rfl
theorem sz56 : SZ Tryz.prog 56 7 := SZ.of (by kernel_rfl)
theorem zv56 : ZV Tryz.prog 56 [.int .i64 0, .string ⟨#[]⟩, .int .i64 0, .int .i64 0, .slice none 0 0, .int .i64 0, .int .i64 0] := ZV.of (v := .agg #[.int .i64 0, .string ⟨#[]⟩, .int .i64 0, .int .i64 0, .slice none 0 0, .int .i64 0, .int .i64 0]) (by kernel_rfl) rfl
theorem ld56 : LDA Tryz.prog 56 7 := LDA.of Tryz.underlying56 rfl sz56
theorem un68 : UN Tryz.prog 68 (.slice 3) := Tryz.underlying68
theorem sz68 : SZ Tryz.prog 68 1 := SZ.of (by kernel_rfl)
theorem zv68 : ZV Tryz.prog 68 [.slice none 0 0] := ZV.of (v := .slice none 0 0) (by kernel_rfl) rfl
theorem ld68 : LD1 Tryz.prog 68 := LD1.of Tryz.underlying68 rfl
theorem un73 : UN Tryz.prog 73 (.slice 118) := Tryz.underlying73
theorem sz73 : SZ Tryz.prog 73 1 := SZ.of (by kernel_rfl)
theorem zv73 : ZV Tryz.prog 73 [.slice none 0 0] := ZV.of (v := .slice none 0 0) (by kernel_rfl) rfl
theorem ld73 : LD1 Tryz.prog 73 := LD1.of Tryz.underlying73 rfl
theorem un74 : UN Tryz.prog 74 (.int .i64) := Tryz.underlying74
theorem sz74 : SZ Tryz.prog 74 1 := SZ.of (by kernel_rfl)
theorem zv74 : ZV Tryz.prog 74 [.int .i64 0] := ZV.of (v := .int .i64 0) (by kernel_rfl) rfl
theorem ld74 : LD1 Tryz.prog 74 := LD1.of Tryz.underlying74 rfl
theorem un77 : UN Tryz.prog 77 (.slice 121) := Tryz.underlying77
theorem sz77 : SZ Tryz.prog 77 1 := SZ.of (by kernel_rfl)
theorem zv77 : ZV Tryz.prog 77 [.slice none 0 0] := ZV.of (v := .slice none 0 0) (by kernel_rfl) rfl
theorem ld77 : LD1 Tryz.prog 77 := LD1.of Tryz.underlying77 rfl
theorem un82 : UN Tryz.prog 82 (.slice 51) := Tryz.underlying82
theorem sz82 : SZ Tryz.prog 82 1 := SZ.of (by kernel_rfl)
theorem zv82 : ZV Tryz.prog 82 [.slice none 0 0] := ZV.of (v := .slice none 0 0) (by kernel_rfl) rfl
theorem ld82 : LD1 Tryz.prog 82 := LD1.of Tryz.underlying82 rfl
theorem sz99 : SZ Tryz.prog 99 2 := SZ.of (by kernel_rfl)
theorem zv99 : ZV Tryz.prog 99 [.string ⟨#[]⟩, .int .i64 0] := ZV.of (v := .agg #[.string ⟨#[]⟩, .int .i64 0]) (by kernel_rfl) rfl
theorem ld99 : LDA Tryz.prog 99 2 := LDA.of Tryz.underlying99 rfl sz99
theorem sz102 : SZ Tryz.prog 102 3 := SZ.of (by kernel_rfl)
theorem zv102 : ZV Tryz.prog 102 [.int .i64 0, .int .i64 0, .int .i64 0] := ZV.of (v := .agg #[.int .i64 0, .int .i64 0, .int .i64 0]) (by kernel_rfl) rfl
theorem ld102 : LDA Tryz.prog 102 3 := LDA.of Tryz.underlying102 rfl sz102
theorem un103 : UN Tryz.prog 103 (.pointer 138) := Tryz.underlying103
theorem sz103 : SZ Tryz.prog 103 1 := SZ.of (by kernel_rfl)
theorem zv103 : ZV Tryz.prog 103 [.pointer none] := ZV.of (v := .pointer none) (by kernel_rfl) rfl
theorem ld103 : LD1 Tryz.prog 103 := LD1.of Tryz.underlying103 rfl
theorem un104 : UN Tryz.prog 104 (.pointer 161) := Tryz.underlying104
theorem sz104 : SZ Tryz.prog 104 1 := SZ.of (by kernel_rfl)
theorem zv104 : ZV Tryz.prog 104 [.pointer none] := ZV.of (v := .pointer none) (by kernel_rfl) rfl
theorem ld104 : LD1 Tryz.prog 104 := LD1.of Tryz.underlying104 rfl
theorem un105 : UN Tryz.prog 105 (.pointer 140) := Tryz.underlying105
theorem sz105 : SZ Tryz.prog 105 1 := SZ.of (by kernel_rfl)
theorem zv105 : ZV Tryz.prog 105 [.pointer none] := ZV.of (v := .pointer none) (by kernel_rfl) rfl
theorem ld105 : LD1 Tryz.prog 105 := LD1.of Tryz.underlying105 rfl
theorem sz107 : SZ Tryz.prog 107 21 := SZ.of (by kernel_rfl)
theorem zv107 : ZV Tryz.prog 107 [.int .i64 0, .int .i64 0, .int .i64 0, .int .i64 0, .int .i64 0, .int .i64 0, .string ⟨#[]⟩, .int .i64 0, .int .i64 0, .slice none 0 0, .int .i64 0, .int .i64 0, .int .i64 0, .int .i64 0, .int .i64 0, .int .i64 0, .pointer none, .pointer none, .pointer none, .bool false, .int .i64 0] := ZV.of (v := .agg #[.int .i64 0, .int .i64 0, .int .i64 0, .int .i64 0, .int .i64 0, .int .i64 0, .string ⟨#[]⟩, .int .i64 0, .int .i64 0, .slice none 0 0, .int .i64 0, .int .i64 0, .int .i64 0, .int .i64 0, .int .i64 0, .int .i64 0, .pointer none, .pointer none, .pointer none, .bool false, .int .i64 0]) (by kernel_rfl) rfl
theorem ld107 : LDA Tryz.prog 107 21 := LDA.of Tryz.underlying107 rfl sz107
theorem un114 : UN Tryz.prog 114 (.slice 4) := Tryz.underlying114
theorem sz114 : SZ Tryz.prog 114 1 := SZ.of (by kernel_rfl)
theorem zv114 : ZV Tryz.prog 114 [.slice none 0 0] := ZV.of (v := .slice none 0 0) (by kernel_rfl) rfl
theorem ld114 : LD1 Tryz.prog 114 := LD1.of Tryz.underlying114 rfl
theorem sz118 : SZ Tryz.prog 118 9 := SZ.of (by kernel_rfl)
theorem zv118 : ZV Tryz.prog 118 [.int .i64 0, .string ⟨#[]⟩, .int .i64 0, .int .i64 0, .int .i64 0, .int .i64 0, .int .i64 0, .int .i64 0, .bool false] := ZV.of (v := .agg #[.int .i64 0, .string ⟨#[]⟩, .int .i64 0, .int .i64 0, .int .i64 0, .int .i64 0, .int .i64 0, .int .i64 0, .bool false]) (by kernel_rfl) rfl
theorem ld118 : LDA Tryz.prog 118 9 := LDA.of Tryz.underlying118 rfl sz118
theorem sz121 : SZ Tryz.prog 121 9 := SZ.of (by kernel_rfl)
theorem zv121 : ZV Tryz.prog 121 [.int .i64 0, .string ⟨#[]⟩, .int .i64 0, .int .i64 0, .int .i64 0, .int .i64 0, .int .i64 0, .int .i64 0, .bool false] := ZV.of (v := .agg #[.int .i64 0, .string ⟨#[]⟩, .int .i64 0, .int .i64 0, .int .i64 0, .int .i64 0, .int .i64 0, .int .i64 0, .bool false]) (by kernel_rfl) rfl
theorem ld121 : LDA Tryz.prog 121 9 := LDA.of Tryz.underlying121 rfl sz121
theorem un136 : UN Tryz.prog 136 (.slice 5) := Tryz.underlying136
theorem sz136 : SZ Tryz.prog 136 1 := SZ.of (by kernel_rfl)
theorem zv136 : ZV Tryz.prog 136 [.slice none 0 0] := ZV.of (v := .slice none 0 0) (by kernel_rfl) rfl
theorem ld136 : LD1 Tryz.prog 136 := LD1.of Tryz.underlying136 rfl
theorem sz138 : SZ Tryz.prog 138 3 := SZ.of (by kernel_rfl)
theorem zv138 : ZV Tryz.prog 138 [.slice none 0 0, .int .i64 0, .int .i64 0] := ZV.of (v := .agg #[.slice none 0 0, .int .i64 0, .int .i64 0]) (by kernel_rfl) rfl
theorem ld138 : LDA Tryz.prog 138 3 := LDA.of Tryz.underlying138 rfl sz138
theorem sz140 : SZ Tryz.prog 140 5 := SZ.of (by kernel_rfl)
theorem zv140 : ZV Tryz.prog 140 [.int .i64 0, .string ⟨#[]⟩, .int .i64 0, .int .i64 0, .int .i64 0] := ZV.of (v := .agg #[.int .i64 0, .string ⟨#[]⟩, .int .i64 0, .int .i64 0, .int .i64 0]) (by kernel_rfl) rfl
theorem ld140 : LDA Tryz.prog 140 5 := LDA.of Tryz.underlying140 rfl sz140
theorem un158 : UN Tryz.prog 158 (.slice 9) := Tryz.underlying158
theorem sz158 : SZ Tryz.prog 158 1 := SZ.of (by kernel_rfl)
theorem zv158 : ZV Tryz.prog 158 [.slice none 0 0] := ZV.of (v := .slice none 0 0) (by kernel_rfl) rfl
theorem ld158 : LD1 Tryz.prog 158 := LD1.of Tryz.underlying158 rfl
theorem un159 : UN Tryz.prog 159 (.pointer 216) := Tryz.underlying159
theorem sz159 : SZ Tryz.prog 159 1 := SZ.of (by kernel_rfl)
theorem zv159 : ZV Tryz.prog 159 [.pointer none] := ZV.of (v := .pointer none) (by kernel_rfl) rfl
theorem ld159 : LD1 Tryz.prog 159 := LD1.of Tryz.underlying159 rfl
theorem sz161 : SZ Tryz.prog 161 5 := SZ.of (by kernel_rfl)
theorem zv161 : ZV Tryz.prog 161 [.int .i64 0, .slice none 0 0, .int .i64 0, .slice none 0 0, .pointer none] := ZV.of (v := .agg #[.int .i64 0, .slice none 0 0, .int .i64 0, .slice none 0 0, .pointer none]) (by kernel_rfl) rfl
theorem ld161 : LDA Tryz.prog 161 5 := LDA.of Tryz.underlying161 rfl sz161
theorem un177 : UN Tryz.prog 177 (.slice 2) := Tryz.underlying177
theorem sz177 : SZ Tryz.prog 177 1 := SZ.of (by kernel_rfl)
theorem zv177 : ZV Tryz.prog 177 [.slice none 0 0] := ZV.of (v := .slice none 0 0) (by kernel_rfl) rfl
theorem ld177 : LD1 Tryz.prog 177 := LD1.of Tryz.underlying177 rfl
theorem sz179 : SZ Tryz.prog 179 5 := SZ.of (by kernel_rfl)
theorem zv179 : ZV Tryz.prog 179 [.bool false, .bool false, .int .i64 0, .int .i64 0, .int .i64 0] := ZV.of (v := .agg #[.bool false, .bool false, .int .i64 0, .int .i64 0, .int .i64 0]) (by kernel_rfl) rfl
theorem ld179 : LDA Tryz.prog 179 5 := LDA.of Tryz.underlying179 rfl sz179
theorem un189 : UN Tryz.prog 189 (.int .u64) := Tryz.underlying189
theorem sz189 : SZ Tryz.prog 189 1 := SZ.of (by kernel_rfl)
theorem zv189 : ZV Tryz.prog 189 [.int .u64 0] := ZV.of (v := .int .u64 0) (by kernel_rfl) rfl
theorem ld189 : LD1 Tryz.prog 189 := LD1.of Tryz.underlying189 rfl
theorem sz191 : SZ Tryz.prog 191 5 := SZ.of (by kernel_rfl)
theorem zv191 : ZV Tryz.prog 191 [.bool false, .bool false, .int .i64 0, .int .i64 0, .int .i64 0] := ZV.of (v := .agg #[.bool false, .bool false, .int .i64 0, .int .i64 0, .int .i64 0]) (by kernel_rfl) rfl
theorem ld191 : LDA Tryz.prog 191 5 := LDA.of Tryz.underlying191 rfl sz191
theorem un203 : UN Tryz.prog 203 (.int .i64) := Tryz.underlying203
theorem sz203 : SZ Tryz.prog 203 1 := SZ.of (by kernel_rfl)
theorem zv203 : ZV Tryz.prog 203 [.int .i64 0] := ZV.of (v := .int .i64 0) (by kernel_rfl) rfl
theorem ld203 : LD1 Tryz.prog 203 := LD1.of Tryz.underlying203 rfl
theorem un210 : UN Tryz.prog 210 (.int .u32) := Tryz.underlying210
theorem sz210 : SZ Tryz.prog 210 1 := SZ.of (by kernel_rfl)
theorem zv210 : ZV Tryz.prog 210 [.int .u32 0] := ZV.of (v := .int .u32 0) (by kernel_rfl) rfl
theorem ld210 : LD1 Tryz.prog 210 := LD1.of Tryz.underlying210 rfl
theorem un212 : UN Tryz.prog 212 (.int .u64) := Tryz.underlying212
theorem sz212 : SZ Tryz.prog 212 1 := SZ.of (by kernel_rfl)
theorem zv212 : ZV Tryz.prog 212 [.int .u64 0] := ZV.of (v := .int .u64 0) (by kernel_rfl) rfl
theorem ld212 : LD1 Tryz.prog 212 := LD1.of Tryz.underlying212 rfl
theorem un214 : UN Tryz.prog 214 (.slice 222) := Tryz.underlying214
theorem sz214 : SZ Tryz.prog 214 1 := SZ.of (by kernel_rfl)
theorem zv214 : ZV Tryz.prog 214 [.slice none 0 0] := ZV.of (v := .slice none 0 0) (by kernel_rfl) rfl
theorem ld214 : LD1 Tryz.prog 214 := LD1.of Tryz.underlying214 rfl
theorem sz216 : SZ Tryz.prog 216 2 := SZ.of (by kernel_rfl)
theorem zv216 : ZV Tryz.prog 216 [.slice none 0 0, .int .i64 0] := ZV.of (v := .agg #[.slice none 0 0, .int .i64 0]) (by kernel_rfl) rfl
theorem ld216 : LDA Tryz.prog 216 2 := LDA.of Tryz.underlying216 rfl sz216
theorem un217 : UN Tryz.prog 217 (.pointer 257) := Tryz.underlying217
theorem sz217 : SZ Tryz.prog 217 1 := SZ.of (by kernel_rfl)
theorem zv217 : ZV Tryz.prog 217 [.pointer none] := ZV.of (v := .pointer none) (by kernel_rfl) rfl
theorem ld217 : LD1 Tryz.prog 217 := LD1.of Tryz.underlying217 rfl
theorem sz222 : SZ Tryz.prog 222 2 := SZ.of (by kernel_rfl)
theorem zv222 : ZV Tryz.prog 222 [.pointer none, .int .u64 0] := ZV.of (v := .agg #[.pointer none, .int .u64 0]) (by kernel_rfl) rfl
theorem ld222 : LDA Tryz.prog 222 2 := LDA.of Tryz.underlying222 rfl sz222
theorem un223 : UN Tryz.prog 223 (.slice 251) := Tryz.underlying223
theorem sz223 : SZ Tryz.prog 223 1 := SZ.of (by kernel_rfl)
theorem zv223 : ZV Tryz.prog 223 [.slice none 0 0] := ZV.of (v := .slice none 0 0) (by kernel_rfl) rfl
theorem ld223 : LD1 Tryz.prog 223 := LD1.of Tryz.underlying223 rfl
theorem un230 : UN Tryz.prog 230 (.int .u64) := Tryz.underlying230
theorem sz230 : SZ Tryz.prog 230 1 := SZ.of (by kernel_rfl)
theorem zv230 : ZV Tryz.prog 230 [.int .u64 0] := ZV.of (v := .int .u64 0) (by kernel_rfl) rfl
theorem ld230 : LD1 Tryz.prog 230 := LD1.of Tryz.underlying230 rfl
theorem un249 : UN Tryz.prog 249 (.array 4 212) := Tryz.underlying249
theorem sz249 : SZ Tryz.prog 249 4 := SZ.of (by kernel_rfl)
theorem zv249 : ZV Tryz.prog 249 [.int .u64 0, .int .u64 0, .int .u64 0, .int .u64 0] := ZV.of (v := .agg #[.int .u64 0, .int .u64 0, .int .u64 0, .int .u64 0]) (by kernel_rfl) rfl
theorem ld249 : LDA Tryz.prog 249 4 := LDA.of Tryz.underlying249 rfl sz249
theorem sz251 : SZ Tryz.prog 251 5 := SZ.of (by kernel_rfl)
theorem zv251 : ZV Tryz.prog 251 [.bool false, .int .u64 0, .int .u64 0, .int .u64 0, .int .u64 0] := ZV.of (v := .agg #[.bool false, .int .u64 0, .int .u64 0, .int .u64 0, .int .u64 0]) (by kernel_rfl) rfl
theorem ld251 : LDA Tryz.prog 251 5 := LDA.of Tryz.underlying251 rfl sz251
theorem un255 : UN Tryz.prog 255 (.array 256 212) := Tryz.underlying255
theorem sz255 : SZ Tryz.prog 255 256 := SZ.of (by kernel_rfl)
theorem zv255 : ZV Tryz.prog 255 [.int .u64 0, .int .u64 0, .int .u64 0, .int .u64 0, .int .u64 0, .int .u64 0, .int .u64 0, .int .u64 0, .int .u64 0, .int .u64 0, .int .u64 0, .int .u64 0, .int .u64 0, .int .u64 0, .int .u64 0, .int .u64 0, .int .u64 0, .int .u64 0, .int .u64 0, .int .u64 0, .int .u64 0, .int .u64 0, .int .u64 0, .int .u64 0, .int .u64 0, .int .u64 0, .int .u64 0, .int .u64 0, .int .u64 0, .int .u64 0, .int .u64 0, .int .u64 0, .int .u64 0, .int .u64 0, .int .u64 0, .int .u64 0, .int .u64 0, .int .u64 0, .int .u64 0, .int .u64 0, .int .u64 0, .int .u64 0, .int .u64 0, .int .u64 0, .int .u64 0, .int .u64 0, .int .u64 0, .int .u64 0, .int .u64 0, .int .u64 0, .int .u64 0, .int .u64 0, .int .u64 0, .int .u64 0, .int .u64 0, .int .u64 0, .int .u64 0, .int .u64 0, .int .u64 0, .int .u64 0, .int .u64 0, .int .u64 0, .int .u64 0, .int .u64 0, .int .u64 0, .int .u64 0, .int .u64 0, .int .u64 0, .int .u64 0, .int .u64 0, .int .u64 0, .int .u64 0, .int .u64 0, .int .u64 0, .int .u64 0, .int .u64 0, .int .u64 0, .int .u64 0, .int .u64 0, .int .u64 0, .int .u64 0, .int .u64 0, .int .u64 0, .int .u64 0, .int .u64 0, .int .u64 0, .int .u64 0, .int .u64 0, .int .u64 0, .int .u64 0, .int .u64 0, .int .u64 0, .int .u64 0, .int .u64 0, .int .u64 0, .int .u64 0, .int .u64 0, .int .u64 0, .int .u64 0, .int .u64 0, .int .u64 0, .int .u64 0, .int .u64 0, .int .u64 0, .int .u64 0, .int .u64 0, .int .u64 0, .int .u64 0, .int .u64 0, .int .u64 0, .int .u64 0, .int .u64 0, .int .u64 0, .int .u64 0, .int .u64 0, .int .u64 0, .int .u64 0, .int .u64 0, .int .u64 0, .int .u64 0, .int .u64 0, .int .u64 0, .int .u64 0, .int .u64 0, .int .u64 0, .int .u64 0, .int .u64 0, .int .u64 0, .int .u64 0, .int .u64 0, .int .u64 0, .int .u64 0, .int .u64 0, .int .u64 0, .int .u64 0, .int .u64 0, .int .u64 0, .int .u64 0, .int .u64 0, .int .u64 0, .int .u64 0, .int .u64 0, .int .u64 0, .int .u64 0, .int .u64 0, .int .u64 0, .int .u64 0, .int .u64 0, .int .u64 0, .int .u64 0, .int .u64 0, .int .u64 0, .int .u64 0, .int .u64 0, .int .u64 0, .int .u64 0, .int .u64 0, .int .u64 0, .int .u64 0, .int .u64 0, .int .u64 0, .int .u64 0, .int .u64 0, .int .u64 0, .int .u64 0, .int .u64 0, .int .u64 0, .int .u64 0, .int .u64 0, .int .u64 0, .int .u64 0, .int .u64 0, .int .u64 0, .int .u64 0, .int .u64 0, .int .u64 0, .int .u64 0, .int .u64 0, .int .u64 0, .int .u64 0, .int .u64 0, .int .u64 0, .int .u64 0, .int .u64 0, .int .u64 0, .int .u64 0, .int .u64 0, .int .u64 0, .int .u64 0, .int .u64 0, .int .u64 0, .int .u64 0, .int .u64 0, .int .u64 0, .int .u64 0, .int .u64 0, .int .u64 0, .int .u64 0, .int .u64 0, .int .u64 0, .int .u64 0, .int .u64 0, .int .u64 0, .int .u64 0, .int .u64 0, .int .u64 0, .int .u64 0, .int .u64 0, .int .u64 0, .int .u64 0, .int .u64 0, .int .u64 0, .int .u64 0, .int .u64 0, .int .u64 0, .int .u64 0, .int .u64 0, .int .u64 0, .int .u64 0, .int .u64 0, .int .u64 0, .int .u64 0, .int .u64 0, .int .u64 0, .int .u64 0, .int .u64 0, .int .u64 0, .int .u64 0, .int .u64 0, .int .u64 0, .int .u64 0, .int .u64 0, .int .u64 0, .int .u64 0, .int .u64 0, .int .u64 0, .int .u64 0, .int .u64 0, .int .u64 0, .int .u64 0, .int .u64 0, .int .u64 0, .int .u64 0, .int .u64 0, .int .u64 0, .int .u64 0, .int .u64 0, .int .u64 0, .int .u64 0, .int .u64 0, .int .u64 0, .int .u64 0, .int .u64 0, .int .u64 0, .int .u64 0, .int .u64 0] := ZV.of (v := .agg #[.int .u64 0, .int .u64 0, .int .u64 0, .int .u64 0, .int .u64 0, .int .u64 0, .int .u64 0, .int .u64 0, .int .u64 0, .int .u64 0, .int .u64 0, .int .u64 0, .int .u64 0, .int .u64 0, .int .u64 0, .int .u64 0, .int .u64 0, .int .u64 0, .int .u64 0, .int .u64 0, .int .u64 0, .int .u64 0, .int .u64 0, .int .u64 0, .int .u64 0, .int .u64 0, .int .u64 0, .int .u64 0, .int .u64 0, .int .u64 0, .int .u64 0, .int .u64 0, .int .u64 0, .int .u64 0, .int .u64 0, .int .u64 0, .int .u64 0, .int .u64 0, .int .u64 0, .int .u64 0, .int .u64 0, .int .u64 0, .int .u64 0, .int .u64 0, .int .u64 0, .int .u64 0, .int .u64 0, .int .u64 0, .int .u64 0, .int .u64 0, .int .u64 0, .int .u64 0, .int .u64 0, .int .u64 0, .int .u64 0, .int .u64 0, .int .u64 0, .int .u64 0, .int .u64 0, .int .u64 0, .int .u64 0, .int .u64 0, .int .u64 0, .int .u64 0, .int .u64 0, .int .u64 0, .int .u64 0, .int .u64 0, .int .u64 0, .int .u64 0, .int .u64 0, .int .u64 0, .int .u64 0, .int .u64 0, .int .u64 0, .int .u64 0, .int .u64 0, .int .u64 0, .int .u64 0, .int .u64 0, .int .u64 0, .int .u64 0, .int .u64 0, .int .u64 0, .int .u64 0, .int .u64 0, .int .u64 0, .int .u64 0, .int .u64 0, .int .u64 0, .int .u64 0, .int .u64 0, .int .u64 0, .int .u64 0, .int .u64 0, .int .u64 0, .int .u64 0, .int .u64 0, .int .u64 0, .int .u64 0, .int .u64 0, .int .u64 0, .int .u64 0, .int .u64 0, .int .u64 0, .int .u64 0, .int .u64 0, .int .u64 0, .int .u64 0, .int .u64 0, .int .u64 0, .int .u64 0, .int .u64 0, .int .u64 0, .int .u64 0, .int .u64 0, .int .u64 0, .int .u64 0, .int .u64 0, .int .u64 0, .int .u64 0, .int .u64 0, .int .u64 0, .int .u64 0, .int .u64 0, .int .u64 0, .int .u64 0, .int .u64 0, .int .u64 0, .int .u64 0, .int .u64 0, .int .u64 0, .int .u64 0, .int .u64 0, .int .u64 0, .int .u64 0, .int .u64 0, .int .u64 0, .int .u64 0, .int .u64 0, .int .u64 0, .int .u64 0, .int .u64 0, .int .u64 0, .int .u64 0, .int .u64 0, .int .u64 0, .int .u64 0, .int .u64 0, .int .u64 0, .int .u64 0, .int .u64 0, .int .u64 0, .int .u64 0, .int .u64 0, .int .u64 0, .int .u64 0, .int .u64 0, .int .u64 0, .int .u64 0, .int .u64 0, .int .u64 0, .int .u64 0, .int .u64 0, .int .u64 0, .int .u64 0, .int .u64 0, .int .u64 0, .int .u64 0, .int .u64 0, .int .u64 0, .int .u64 0, .int .u64 0, .int .u64 0, .int .u64 0, .int .u64 0, .int .u64 0, .int .u64 0, .int .u64 0, .int .u64 0, .int .u64 0, .int .u64 0, .int .u64 0, .int .u64 0, .int .u64 0, .int .u64 0, .int .u64 0, .int .u64 0, .int .u64 0, .int .u64 0, .int .u64 0, .int .u64 0, .int .u64 0, .int .u64 0, .int .u64 0, .int .u64 0, .int .u64 0, .int .u64 0, .int .u64 0, .int .u64 0, .int .u64 0, .int .u64 0, .int .u64 0, .int .u64 0, .int .u64 0, .int .u64 0, .int .u64 0, .int .u64 0, .int .u64 0, .int .u64 0, .int .u64 0, .int .u64 0, .int .u64 0, .int .u64 0, .int .u64 0, .int .u64 0, .int .u64 0, .int .u64 0, .int .u64 0, .int .u64 0, .int .u64 0, .int .u64 0, .int .u64 0, .int .u64 0, .int .u64 0, .int .u64 0, .int .u64 0, .int .u64 0, .int .u64 0, .int .u64 0, .int .u64 0, .int .u64 0, .int .u64 0, .int .u64 0, .int .u64 0, .int .u64 0, .int .u64 0, .int .u64 0, .int .u64 0, .int .u64 0, .int .u64 0, .int .u64 0, .int .u64 0, .int .u64 0, .int .u64 0, .int .u64 0, .int .u64 0, .int .u64 0, .int .u64 0, .int .u64 0, .int .u64 0, .int .u64 0, .int .u64 0, .int .u64 0, .int .u64 0, .int .u64 0]) (by kernel_rfl) rfl
theorem ld255 : LDA Tryz.prog 255 256 := LDA.of Tryz.underlying255 rfl sz255
theorem sz257 : SZ Tryz.prog 257 258 := SZ.of (by kernel_rfl)
theorem zv257 : ZV Tryz.prog 257 [.int .i64 0, .int .u64 0, .int .u64 0, .int .u64 0, .int .u64 0, .int .u64 0, .int .u64 0, .int .u64 0, .int .u64 0, .int .u64 0, .int .u64 0, .int .u64 0, .int .u64 0, .int .u64 0, .int .u64 0, .int .u64 0, .int .u64 0, .int .u64 0, .int .u64 0, .int .u64 0, .int .u64 0, .int .u64 0, .int .u64 0, .int .u64 0, .int .u64 0, .int .u64 0, .int .u64 0, .int .u64 0, .int .u64 0, .int .u64 0, .int .u64 0, .int .u64 0, .int .u64 0, .int .u64 0, .int .u64 0, .int .u64 0, .int .u64 0, .int .u64 0, .int .u64 0, .int .u64 0, .int .u64 0, .int .u64 0, .int .u64 0, .int .u64 0, .int .u64 0, .int .u64 0, .int .u64 0, .int .u64 0, .int .u64 0, .int .u64 0, .int .u64 0, .int .u64 0, .int .u64 0, .int .u64 0, .int .u64 0, .int .u64 0, .int .u64 0, .int .u64 0, .int .u64 0, .int .u64 0, .int .u64 0, .int .u64 0, .int .u64 0, .int .u64 0, .int .u64 0, .int .u64 0, .int .u64 0, .int .u64 0, .int .u64 0, .int .u64 0, .int .u64 0, .int .u64 0, .int .u64 0, .int .u64 0, .int .u64 0, .int .u64 0, .int .u64 0, .int .u64 0, .int .u64 0, .int .u64 0, .int .u64 0, .int .u64 0, .int .u64 0, .int .u64 0, .int .u64 0, .int .u64 0, .int .u64 0, .int .u64 0, .int .u64 0, .int .u64 0, .int .u64 0, .int .u64 0, .int .u64 0, .int .u64 0, .int .u64 0, .int .u64 0, .int .u64 0, .int .u64 0, .int .u64 0, .int .u64 0, .int .u64 0, .int .u64 0, .int .u64 0, .int .u64 0, .int .u64 0, .int .u64 0, .int .u64 0, .int .u64 0, .int .u64 0, .int .u64 0, .int .u64 0, .int .u64 0, .int .u64 0, .int .u64 0, .int .u64 0, .int .u64 0, .int .u64 0, .int .u64 0, .int .u64 0, .int .u64 0, .int .u64 0, .int .u64 0, .int .u64 0, .int .u64 0, .int .u64 0, .int .u64 0, .int .u64 0, .int .u64 0, .int .u64 0, .int .u64 0, .int .u64 0, .int .u64 0, .int .u64 0, .int .u64 0, .int .u64 0, .int .u64 0, .int .u64 0, .int .u64 0, .int .u64 0, .int .u64 0, .int .u64 0, .int .u64 0, .int .u64 0, .int .u64 0, .int .u64 0, .int .u64 0, .int .u64 0, .int .u64 0, .int .u64 0, .int .u64 0, .int .u64 0, .int .u64 0, .int .u64 0, .int .u64 0, .int .u64 0, .int .u64 0, .int .u64 0, .int .u64 0, .int .u64 0, .int .u64 0, .int .u64 0, .int .u64 0, .int .u64 0, .int .u64 0, .int .u64 0, .int .u64 0, .int .u64 0, .int .u64 0, .int .u64 0, .int .u64 0, .int .u64 0, .int .u64 0, .int .u64 0, .int .u64 0, .int .u64 0, .int .u64 0, .int .u64 0, .int .u64 0, .int .u64 0, .int .u64 0, .int .u64 0, .int .u64 0, .int .u64 0, .int .u64 0, .int .u64 0, .int .u64 0, .int .u64 0, .int .u64 0, .int .u64 0, .int .u64 0, .int .u64 0, .int .u64 0, .int .u64 0, .int .u64 0, .int .u64 0, .int .u64 0, .int .u64 0, .int .u64 0, .int .u64 0, .int .u64 0, .int .u64 0, .int .u64 0, .int .u64 0, .int .u64 0, .int .u64 0, .int .u64 0, .int .u64 0, .int .u64 0, .int .u64 0, .int .u64 0, .int .u64 0, .int .u64 0, .int .u64 0, .int .u64 0, .int .u64 0, .int .u64 0, .int .u64 0, .int .u64 0, .int .u64 0, .int .u64 0, .int .u64 0, .int .u64 0, .int .u64 0, .int .u64 0, .int .u64 0, .int .u64 0, .int .u64 0, .int .u64 0, .int .u64 0, .int .u64 0, .int .u64 0, .int .u64 0, .int .u64 0, .int .u64 0, .int .u64 0, .int .u64 0, .int .u64 0, .int .u64 0, .int .u64 0, .int .u64 0, .int .u64 0, .int .u64 0, .int .u64 0, .int .u64 0, .int .u64 0, .int .u64 0, .int .u64 0, .int .u64 0, .int .u64 0, .int .u64 0, .int .u64 0, .int .u64 0, .int .u64 0, .int .u64 0, .int .u64 0, .int .u64 0, .int .u64 0, .int .u64 0] := ZV.of (v := .agg #[.int .i64 0, .int .u64 0, .int .u64 0, .int .u64 0, .int .u64 0, .int .u64 0, .int .u64 0, .int .u64 0, .int .u64 0, .int .u64 0, .int .u64 0, .int .u64 0, .int .u64 0, .int .u64 0, .int .u64 0, .int .u64 0, .int .u64 0, .int .u64 0, .int .u64 0, .int .u64 0, .int .u64 0, .int .u64 0, .int .u64 0, .int .u64 0, .int .u64 0, .int .u64 0, .int .u64 0, .int .u64 0, .int .u64 0, .int .u64 0, .int .u64 0, .int .u64 0, .int .u64 0, .int .u64 0, .int .u64 0, .int .u64 0, .int .u64 0, .int .u64 0, .int .u64 0, .int .u64 0, .int .u64 0, .int .u64 0, .int .u64 0, .int .u64 0, .int .u64 0, .int .u64 0, .int .u64 0, .int .u64 0, .int .u64 0, .int .u64 0, .int .u64 0, .int .u64 0, .int .u64 0, .int .u64 0, .int .u64 0, .int .u64 0, .int .u64 0, .int .u64 0, .int .u64 0, .int .u64 0, .int .u64 0, .int .u64 0, .int .u64 0, .int .u64 0, .int .u64 0, .int .u64 0, .int .u64 0, .int .u64 0, .int .u64 0, .int .u64 0, .int .u64 0, .int .u64 0, .int .u64 0, .int .u64 0, .int .u64 0, .int .u64 0, .int .u64 0, .int .u64 0, .int .u64 0, .int .u64 0, .int .u64 0, .int .u64 0, .int .u64 0, .int .u64 0, .int .u64 0, .int .u64 0, .int .u64 0, .int .u64 0, .int .u64 0, .int .u64 0, .int .u64 0, .int .u64 0, .int .u64 0, .int .u64 0, .int .u64 0, .int .u64 0, .int .u64 0, .int .u64 0, .int .u64 0, .int .u64 0, .int .u64 0, .int .u64 0, .int .u64 0, .int .u64 0, .int .u64 0, .int .u64 0, .int .u64 0, .int .u64 0, .int .u64 0, .int .u64 0, .int .u64 0, .int .u64 0, .int .u64 0, .int .u64 0, .int .u64 0, .int .u64 0, .int .u64 0, .int .u64 0, .int .u64 0, .int .u64 0, .int .u64 0, .int .u64 0, .int .u64 0, .int .u64 0, .int .u64 0, .int .u64 0, .int .u64 0, .int .u64 0, .int .u64 0, .int .u64 0, .int .u64 0, .int .u64 0, .int .u64 0, .int .u64 0, .int .u64 0, .int .u64 0, .int .u64 0, .int .u64 0, .int .u64 0, .int .u64 0, .int .u64 0, .int .u64 0, .int .u64 0, .int .u64 0, .int .u64 0, .int .u64 0, .int .u64 0, .int .u64 0, .int .u64 0, .int .u64 0, .int .u64 0, .int .u64 0, .int .u64 0, .int .u64 0, .int .u64 0, .int .u64 0, .int .u64 0, .int .u64 0, .int .u64 0, .int .u64 0, .int .u64 0, .int .u64 0, .int .u64 0, .int .u64 0, .int .u64 0, .int .u64 0, .int .u64 0, .int .u64 0, .int .u64 0, .int .u64 0, .int .u64 0, .int .u64 0, .int .u64 0, .int .u64 0, .int .u64 0, .int .u64 0, .int .u64 0, .int .u64 0, .int .u64 0, .int .u64 0, .int .u64 0, .int .u64 0, .int .u64 0, .int .u64 0, .int .u64 0, .int .u64 0, .int .u64 0, .int .u64 0, .int .u64 0, .int .u64 0, .int .u64 0, .int .u64 0, .int .u64 0, .int .u64 0, .int .u64 0, .int .u64 0, .int .u64 0, .int .u64 0, .int .u64 0, .int .u64 0, .int .u64 0, .int .u64 0, .int .u64 0, .int .u64 0, .int .u64 0, .int .u64 0, .int .u64 0, .int .u64 0, .int .u64 0, .int .u64 0, .int .u64 0, .int .u64 0, .int .u64 0, .int .u64 0, .int .u64 0, .int .u64 0, .int .u64 0, .int .u64 0, .int .u64 0, .int .u64 0, .int .u64 0, .int .u64 0, .int .u64 0, .int .u64 0, .int .u64 0, .int .u64 0, .int .u64 0, .int .u64 0, .int .u64 0, .int .u64 0, .int .u64 0, .int .u64 0, .int .u64 0, .int .u64 0, .int .u64 0, .int .u64 0, .int .u64 0, .int .u64 0, .int .u64 0, .int .u64 0, .int .u64 0, .int .u64 0, .int .u64 0, .int .u64 0, .int .u64 0, .int .u64 0, .int .u64 0, .int .u64 0, .int .u64 0, .int .u64 0, .int .u64 0, .int .u64 0, .int .u64 0, .int .u64 0, .int .u64 0, .int .u64 0, .int .u64 0, .int .u64 0]) (by kernel_rfl) rfl
theorem ld257 : LDA Tryz.prog 257 258 := LDA.of Tryz.underlying257 rfl sz257
theorem sz276 : SZ Tryz.prog 276 3 := SZ.of (by kernel_rfl)
theorem zv276 : ZV Tryz.prog 276 [.string ⟨#[]⟩, .int .i64 0, .int .i64 0] := ZV.of (v := .agg #[.string ⟨#[]⟩, .int .i64 0, .int .i64 0]) (by kernel_rfl) rfl
theorem ld276 : LDA Tryz.prog 276 3 := LDA.of Tryz.underlying276 rfl sz276
theorem pl23 : PL Tryz.prog 23 [.int .i64 0, .int .i64 0, .int .i64 0, .int .i64 0, .int .i64 0, .int .i64 0] [(0, 1), (1, 1), (2, 1), (3, 1), (4, 1), (5, 1)] := PL.of zv23 Tryz.underlying23 (by kernel_rfl)
theorem pl26 : PL Tryz.prog 26 [.string ⟨#[]⟩, .int .i64 0, .int .i64 0, .slice none 0 0] [(0, 1), (1, 1), (2, 1), (3, 1)] := PL.of zv26 Tryz.underlying26 (by kernel_rfl)
theorem pl34 : PL Tryz.prog 34 [.int .i64 0, .int .i64 0, .int .i64 0] [(0, 1), (1, 1), (2, 1)] := PL.of zv34 Tryz.underlying34 (by kernel_rfl)
theorem pl37 : PL Tryz.prog 37 [.int .i64 0, .string ⟨#[]⟩, .int .i64 0, .slice none 0 0] [(0, 1), (1, 1), (2, 1), (3, 1)] := PL.of zv37 Tryz.underlying37 (by kernel_rfl)
theorem pl39 : PL Tryz.prog 39 [.string ⟨#[]⟩, .string ⟨#[]⟩, .string ⟨#[]⟩, .int .i64 0, .int .i64 0] [(0, 1), (1, 1), (2, 1), (3, 1), (4, 1)] := PL.of zv39 Tryz.underlying39 (by kernel_rfl)
theorem pl41 : PL Tryz.prog 41 [.int .i64 0, .int .i64 0, .int .i64 0, .int .i64 0, .int .i64 0, .int .i64 0, .string ⟨#[]⟩, .int .i64 0, .int .i64 0, .slice none 0 0, .int .i64 0, .int .i64 0, .int .i64 0, .int .i64 0, .int .i64 0, .int .i64 0, .string ⟨#[]⟩, .int .i64 0, .string ⟨#[]⟩, .int .i64 0, .slice none 0 0, .string ⟨#[]⟩, .string ⟨#[]⟩, .string ⟨#[]⟩, .int .i64 0, .int .i64 0, .bool false, .int .i64 0] [(0, 6), (6, 4), (10, 1), (11, 1), (12, 1), (13, 3), (16, 1), (17, 4), (21, 5), (26, 1), (27, 1)] := PL.of zv41 Tryz.underlying41 (by kernel_rfl)
theorem pl46 : PL Tryz.prog 46 [.int .i64 0, .string ⟨#[]⟩, .int .i64 0, .int .i64 0] [(0, 1), (1, 1), (2, 1), (3, 1)] := PL.of zv46 Tryz.underlying46 (by kernel_rfl)
theorem pl51 : PL Tryz.prog 51 [.int .i64 0, .int .i64 0, .int .i64 0, .int .i64 0, .int .i64 0, .int .i64 0] [(0, 1), (1, 1), (2, 1), (3, 1), (4, 1), (5, 1)] := PL.of zv51 Tryz.underlying51 (by kernel_rfl)
theorem pl56 : PL Tryz.prog 56 [.int .i64 0, .string ⟨#[]⟩, .int .i64 0, .int .i64 0, .slice none 0 0, .int .i64 0, .int .i64 0] [(0, 1), (1, 1), (2, 1), (3, 1), (4, 1), (5, 1), (6, 1)] := PL.of zv56 Tryz.underlying56 (by kernel_rfl)
theorem pl99 : PL Tryz.prog 99 [.string ⟨#[]⟩, .int .i64 0] [(0, 1), (1, 1)] := PL.of zv99 Tryz.underlying99 (by kernel_rfl)
theorem pl102 : PL Tryz.prog 102 [.int .i64 0, .int .i64 0, .int .i64 0] [(0, 1), (1, 1), (2, 1)] := PL.of zv102 Tryz.underlying102 (by kernel_rfl)
theorem pl107 : PL Tryz.prog 107 [.int .i64 0, .int .i64 0, .int .i64 0, .int .i64 0, .int .i64 0, .int .i64 0, .string ⟨#[]⟩, .int .i64 0, .int .i64 0, .slice none 0 0, .int .i64 0, .int .i64 0, .int .i64 0, .int .i64 0, .int .i64 0, .int .i64 0, .pointer none, .pointer none, .pointer none, .bool false, .int .i64 0] [(0, 6), (6, 4), (10, 1), (11, 1), (12, 1), (13, 3), (16, 1), (17, 1), (18, 1), (19, 1), (20, 1)] := PL.of zv107 Tryz.underlying107 (by kernel_rfl)
theorem pl121 : PL Tryz.prog 121 [.int .i64 0, .string ⟨#[]⟩, .int .i64 0, .int .i64 0, .int .i64 0, .int .i64 0, .int .i64 0, .int .i64 0, .bool false] [(0, 1), (1, 1), (2, 6), (8, 1)] := PL.of zv121 Tryz.underlying121 (by kernel_rfl)
theorem pl138 : PL Tryz.prog 138 [.slice none 0 0, .int .i64 0, .int .i64 0] [(0, 1), (1, 1), (2, 1)] := PL.of zv138 Tryz.underlying138 (by kernel_rfl)
theorem pl140 : PL Tryz.prog 140 [.int .i64 0, .string ⟨#[]⟩, .int .i64 0, .int .i64 0, .int .i64 0] [(0, 1), (1, 1), (2, 1), (3, 1), (4, 1)] := PL.of zv140 Tryz.underlying140 (by kernel_rfl)
theorem pl161 : PL Tryz.prog 161 [.int .i64 0, .slice none 0 0, .int .i64 0, .slice none 0 0, .pointer none] [(0, 1), (1, 1), (2, 1), (3, 1), (4, 1)] := PL.of zv161 Tryz.underlying161 (by kernel_rfl)
theorem pl191 : PL Tryz.prog 191 [.bool false, .bool false, .int .i64 0, .int .i64 0, .int .i64 0] [(0, 1), (1, 1), (2, 1), (3, 1), (4, 1)] := PL.of zv191 Tryz.underlying191 (by kernel_rfl)
theorem pl216 : PL Tryz.prog 216 [.slice none 0 0, .int .i64 0] [(0, 1), (1, 1)] := PL.of zv216 Tryz.underlying216 (by kernel_rfl)
theorem pl222 : PL Tryz.prog 222 [.pointer none, .int .u64 0] [(0, 1), (1, 1)] := PL.of zv222 Tryz.underlying222 (by kernel_rfl)
theorem pl251 : PL Tryz.prog 251 [.bool false, .int .u64 0, .int .u64 0, .int .u64 0, .int .u64 0] [(0, 1), (1, 4)] := PL.of zv251 Tryz.underlying251 (by kernel_rfl)
theorem pl257 : PL Tryz.prog 257 [.int .i64 0, .int .u64 0, .int .u64 0, .int .u64 0, .int .u64 0, .int .u64 0, .int .u64 0, .int .u64 0, .int .u64 0, .int .u64 0, .int .u64 0, .int .u64 0, .int .u64 0, .int .u64 0, .int .u64 0, .int .u64 0, .int .u64 0, .int .u64 0, .int .u64 0, .int .u64 0, .int .u64 0, .int .u64 0, .int .u64 0, .int .u64 0, .int .u64 0, .int .u64 0, .int .u64 0, .int .u64 0, .int .u64 0, .int .u64 0, .int .u64 0, .int .u64 0, .int .u64 0, .int .u64 0, .int .u64 0, .int .u64 0, .int .u64 0, .int .u64 0, .int .u64 0, .int .u64 0, .int .u64 0, .int .u64 0, .int .u64 0, .int .u64 0, .int .u64 0, .int .u64 0, .int .u64 0, .int .u64 0, .int .u64 0, .int .u64 0, .int .u64 0, .int .u64 0, .int .u64 0, .int .u64 0, .int .u64 0, .int .u64 0, .int .u64 0, .int .u64 0, .int .u64 0, .int .u64 0, .int .u64 0, .int .u64 0, .int .u64 0, .int .u64 0, .int .u64 0, .int .u64 0, .int .u64 0, .int .u64 0, .int .u64 0, .int .u64 0, .int .u64 0, .int .u64 0, .int .u64 0, .int .u64 0, .int .u64 0, .int .u64 0, .int .u64 0, .int .u64 0, .int .u64 0, .int .u64 0, .int .u64 0, .int .u64 0, .int .u64 0, .int .u64 0, .int .u64 0, .int .u64 0, .int .u64 0, .int .u64 0, .int .u64 0, .int .u64 0, .int .u64 0, .int .u64 0, .int .u64 0, .int .u64 0, .int .u64 0, .int .u64 0, .int .u64 0, .int .u64 0, .int .u64 0, .int .u64 0, .int .u64 0, .int .u64 0, .int .u64 0, .int .u64 0, .int .u64 0, .int .u64 0, .int .u64 0, .int .u64 0, .int .u64 0, .int .u64 0, .int .u64 0, .int .u64 0, .int .u64 0, .int .u64 0, .int .u64 0, .int .u64 0, .int .u64 0, .int .u64 0, .int .u64 0, .int .u64 0, .int .u64 0, .int .u64 0, .int .u64 0, .int .u64 0, .int .u64 0, .int .u64 0, .int .u64 0, .int .u64 0, .int .u64 0, .int .u64 0, .int .u64 0, .int .u64 0, .int .u64 0, .int .u64 0, .int .u64 0, .int .u64 0, .int .u64 0, .int .u64 0, .int .u64 0, .int .u64 0, .int .u64 0, .int .u64 0, .int .u64 0, .int .u64 0, .int .u64 0, .int .u64 0, .int .u64 0, .int .u64 0, .int .u64 0, .int .u64 0, .int .u64 0, .int .u64 0, .int .u64 0, .int .u64 0, .int .u64 0, .int .u64 0, .int .u64 0, .int .u64 0, .int .u64 0, .int .u64 0, .int .u64 0, .int .u64 0, .int .u64 0, .int .u64 0, .int .u64 0, .int .u64 0, .int .u64 0, .int .u64 0, .int .u64 0, .int .u64 0, .int .u64 0, .int .u64 0, .int .u64 0, .int .u64 0, .int .u64 0, .int .u64 0, .int .u64 0, .int .u64 0, .int .u64 0, .int .u64 0, .int .u64 0, .int .u64 0, .int .u64 0, .int .u64 0, .int .u64 0, .int .u64 0, .int .u64 0, .int .u64 0, .int .u64 0, .int .u64 0, .int .u64 0, .int .u64 0, .int .u64 0, .int .u64 0, .int .u64 0, .int .u64 0, .int .u64 0, .int .u64 0, .int .u64 0, .int .u64 0, .int .u64 0, .int .u64 0, .int .u64 0, .int .u64 0, .int .u64 0, .int .u64 0, .int .u64 0, .int .u64 0, .int .u64 0, .int .u64 0, .int .u64 0, .int .u64 0, .int .u64 0, .int .u64 0, .int .u64 0, .int .u64 0, .int .u64 0, .int .u64 0, .int .u64 0, .int .u64 0, .int .u64 0, .int .u64 0, .int .u64 0, .int .u64 0, .int .u64 0, .int .u64 0, .int .u64 0, .int .u64 0, .int .u64 0, .int .u64 0, .int .u64 0, .int .u64 0, .int .u64 0, .int .u64 0, .int .u64 0, .int .u64 0, .int .u64 0, .int .u64 0, .int .u64 0, .int .u64 0, .int .u64 0, .int .u64 0, .int .u64 0, .int .u64 0, .int .u64 0, .int .u64 0, .int .u64 0, .int .u64 0, .int .u64 0, .int .u64 0, .int .u64 0, .int .u64 0, .int .u64 0, .int .u64 0, .int .u64 0, .int .u64 0, .int .u64 0, .int .u64 0] [(0, 1), (1, 1), (2, 256)] := PL.of zv257 Tryz.underlying257 (by kernel_rfl)
theorem pl276 : PL Tryz.prog 276 [.string ⟨#[]⟩, .int .i64 0, .int .i64 0] [(0, 1), (1, 1), (2, 1)] := PL.of zv276 Tryz.underlying276 (by kernel_rfl)
theorem fa23_0 : FA Tryz.prog 23 0 0 := fun w ad => by simp [go_sem]
theorem fa23_1 : FA Tryz.prog 23 1 1 := fun w ad => by simp [go_sem]
theorem fa23_2 : FA Tryz.prog 23 2 2 := fun w ad => by simp [go_sem]
theorem fa23_3 : FA Tryz.prog 23 3 3 := fun w ad => by simp [go_sem]
theorem fa23_4 : FA Tryz.prog 23 4 4 := fun w ad => by simp [go_sem]
theorem fa23_5 : FA Tryz.prog 23 5 5 := fun w ad => by simp [go_sem]
theorem fa26_0 : FA Tryz.prog 26 0 0 := fun w ad => by simp [go_sem]
theorem fa26_1 : FA Tryz.prog 26 1 1 := fun w ad => by simp [go_sem]
theorem fa26_2 : FA Tryz.prog 26 2 2 := fun w ad => by simp [go_sem]
theorem fa26_3 : FA Tryz.prog 26 3 3 := fun w ad => by simp [go_sem]
theorem fa29_0 : FA Tryz.prog 29 0 0 := fun w ad => by simp [go_sem]
theorem fa29_1 : FA Tryz.prog 29 1 6 := fun w ad => by simp [go_sem]
theorem fa29_2 : FA Tryz.prog 29 2 10 := fun w ad => by simp [go_sem]
theorem fa29_3 : FA Tryz.prog 29 3 11 := fun w ad => by simp [go_sem]
theorem fa29_4 : FA Tryz.prog 29 4 12 := fun w ad => by simp [go_sem]
theorem fa34_0 : FA Tryz.prog 34 0 0 := fun w ad => by simp [go_sem]
theorem fa34_1 : FA Tryz.prog 34 1 1 := fun w ad => by simp [go_sem]
theorem fa34_2 : FA Tryz.prog 34 2 2 := fun w ad => by simp [go_sem]
theorem fa37_0 : FA Tryz.prog 37 0 0 := fun w ad => by simp [go_sem]
theorem fa37_1 : FA Tryz.prog 37 1 1 := fun w ad => by simp [go_sem]
theorem fa37_2 : FA Tryz.prog 37 2 2 := fun w ad => by simp [go_sem]
theorem fa37_3 : FA Tryz.prog 37 3 3 := fun w ad => by simp [go_sem]
theorem fa39_0 : FA Tryz.prog 39 0 0 := fun w ad => by simp [go_sem]
theorem fa39_1 : FA Tryz.prog 39 1 1 := fun w ad => by simp [go_sem]
theorem fa39_2 : FA Tryz.prog 39 2 2 := fun w ad => by simp [go_sem]
theorem fa39_3 : FA Tryz.prog 39 3 3 := fun w ad => by simp [go_sem]
theorem fa39_4 : FA Tryz.prog 39 4 4 := fun w ad => by simp [go_sem]
theorem fa41_0 : FA Tryz.prog 41 0 0 := fun w ad => by simp [go_sem]
theorem fa41_1 : FA Tryz.prog 41 1 6 := fun w ad => by simp [go_sem]
theorem fa41_2 : FA Tryz.prog 41 2 10 := fun w ad => by simp [go_sem]
theorem fa41_3 : FA Tryz.prog 41 3 11 := fun w ad => by simp [go_sem]
theorem fa41_4 : FA Tryz.prog 41 4 12 := fun w ad => by simp [go_sem]
theorem fa41_5 : FA Tryz.prog 41 5 13 := fun w ad => by simp [go_sem]
theorem fa41_6 : FA Tryz.prog 41 6 16 := fun w ad => by simp [go_sem]
theorem fa41_7 : FA Tryz.prog 41 7 17 := fun w ad => by simp [go_sem]
theorem fa41_8 : FA Tryz.prog 41 8 21 := fun w ad => by simp [go_sem]
theorem fa41_9 : FA Tryz.prog 41 9 26 := fun w ad => by simp [go_sem]
theorem fa41_10 : FA Tryz.prog 41 10 27 := fun w ad => by simp [go_sem]
theorem fa46_0 : FA Tryz.prog 46 0 0 := fun w ad => by simp [go_sem]
theorem fa46_1 : FA Tryz.prog 46 1 1 := fun w ad => by simp [go_sem]
theorem fa46_2 : FA Tryz.prog 46 2 2 := fun w ad => by simp [go_sem]
theorem fa46_3 : FA Tryz.prog 46 3 3 := fun w ad => by simp [go_sem]
theorem fa51_0 : FA Tryz.prog 51 0 0 := fun w ad => by simp [go_sem]
theorem fa51_1 : FA Tryz.prog 51 1 1 := fun w ad => by simp [go_sem]
theorem fa51_2 : FA Tryz.prog 51 2 2 := fun w ad => by simp [go_sem]
theorem fa51_3 : FA Tryz.prog 51 3 3 := fun w ad => by simp [go_sem]
theorem fa51_4 : FA Tryz.prog 51 4 4 := fun w ad => by simp [go_sem]
theorem fa51_5 : FA Tryz.prog 51 5 5 := fun w ad => by simp [go_sem]
theorem fa56_0 : FA Tryz.prog 56 0 0 := fun w ad => by simp [go_sem]
theorem fa56_1 : FA Tryz.prog 56 1 1 := fun w ad => by simp [go_sem]
theorem fa56_2 : FA Tryz.prog 56 2 2 := fun w ad => by simp [go_sem]
theorem fa56_3 : FA Tryz.prog 56 3 3 := fun w ad => by simp [go_sem]
theorem fa56_4 : FA Tryz.prog 56 4 4 := fun w ad => by simp [go_sem]
theorem fa56_5 : FA Tryz.prog 56 5 5 := fun w ad => by simp [go_sem]
theorem fa56_6 : FA Tryz.prog 56 6 6 := fun w ad => by simp [go_sem]
theorem fa99_0 : FA Tryz.prog 99 0 0 := fun w ad => by simp [go_sem]
theorem fa99_1 : FA Tryz.prog 99 1 1 := fun w ad => by simp [go_sem]
theorem fa102_0 : FA Tryz.prog 102 0 0 := fun w ad => by simp [go_sem]
theorem fa102_1 : FA Tryz.prog 102 1 1 := fun w ad => by simp [go_sem]
theorem fa102_2 : FA Tryz.prog 102 2 2 := fun w ad => by simp [go_sem]
theorem fa107_0 : FA Tryz.prog 107 0 0 := fun w ad => by simp [go_sem]
theorem fa107_1 : FA Tryz.prog 107 1 6 := fun w ad => by simp [go_sem]
theorem fa107_2 : FA Tryz.prog 107 2 10 := fun w ad => by simp [go_sem]
theorem fa107_3 : FA Tryz.prog 107 3 11 := fun w ad => by simp [go_sem]
theorem fa107_4 : FA Tryz.prog 107 4 12 := fun w ad => by simp [go_sem]
theorem fa107_5 : FA Tryz.prog 107 5 13 := fun w ad => by simp [go_sem]
theorem fa107_6 : FA Tryz.prog 107 6 16 := fun w ad => by simp [go_sem]
theorem fa107_7 : FA Tryz.prog 107 7 17 := fun w ad => by simp [go_sem]
theorem fa107_8 : FA Tryz.prog 107 8 18 := fun w ad => by simp [go_sem]
theorem fa107_9 : FA Tryz.prog 107 9 19 := fun w ad => by simp [go_sem]
theorem fa107_10 : FA Tryz.prog 107 10 20 := fun w ad => by simp [go_sem]
theorem fa118_0 : FA Tryz.prog 118 0 0 := fun w ad => by simp [go_sem]
theorem fa118_1 : FA Tryz.prog 118 1 1 := fun w ad => by simp [go_sem]
theorem fa118_2 : FA Tryz.prog 118 2 2 := fun w ad => by simp [go_sem]
theorem fa118_3 : FA Tryz.prog 118 3 8 := fun w ad => by simp [go_sem]
theorem fa121_0 : FA Tryz.prog 121 0 0 := fun w ad => by simp [go_sem]
theorem fa121_1 : FA Tryz.prog 121 1 1 := fun w ad => by simp [go_sem]
theorem fa121_2 : FA Tryz.prog 121 2 2 := fun w ad => by simp [go_sem]
theorem fa121_3 : FA Tryz.prog 121 3 8 := fun w ad => by simp [go_sem]
theorem fa138_0 : FA Tryz.prog 138 0 0 := fun w ad => by simp [go_sem]
theorem fa138_1 : FA Tryz.prog 138 1 1 := fun w ad => by simp [go_sem]
theorem fa138_2 : FA Tryz.prog 138 2 2 := fun w ad => by simp [go_sem]
theorem fa140_0 : FA Tryz.prog 140 0 0 := fun w ad => by simp [go_sem]
theorem fa140_1 : FA Tryz.prog 140 1 1 := fun w ad => by simp [go_sem]
theorem fa140_2 : FA Tryz.prog 140 2 2 := fun w ad => by simp [go_sem]
theorem fa140_3 : FA Tryz.prog 140 3 3 := fun w ad => by simp [go_sem]
theorem fa140_4 : FA Tryz.prog 140 4 4 := fun w ad => by simp [go_sem]
theorem fa161_0 : FA Tryz.prog 161 0 0 := fun w ad => by simp [go_sem]
theorem fa161_1 : FA Tryz.prog 161 1 1 := fun w ad => by simp [go_sem]
theorem fa161_2 : FA Tryz.prog 161 2 2 := fun w ad => by simp [go_sem]
theorem fa161_3 : FA Tryz.prog 161 3 3 := fun w ad => by simp [go_sem]
theorem fa161_4 : FA Tryz.prog 161 4 4 := fun w ad => by simp [go_sem]
theorem fa179_0 : FA Tryz.prog 179 0 0 := fun w ad => by simp [go_sem]
theorem fa179_1 : FA Tryz.prog 179 1 1 := fun w ad => by simp [go_sem]
theorem fa179_2 : FA Tryz.prog 179 2 2 := fun w ad => by simp [go_sem]
theorem fa179_3 : FA Tryz.prog 179 3 3 := fun w ad => by simp [go_sem]
theorem fa179_4 : FA Tryz.prog 179 4 4 := fun w ad => by simp [go_sem]
theorem fa191_0 : FA Tryz.prog 191 0 0 := fun w ad => by simp [go_sem]
theorem fa191_1 : FA Tryz.prog 191 1 1 := fun w ad => by simp [go_sem]
theorem fa191_2 : FA Tryz.prog 191 2 2 := fun w ad => by simp [go_sem]
theorem fa191_3 : FA Tryz.prog 191 3 3 := fun w ad => by simp [go_sem]
theorem fa191_4 : FA Tryz.prog 191 4 4 := fun w ad => by simp [go_sem]
theorem fa216_0 : FA Tryz.prog 216 0 0 := fun w ad => by simp [go_sem]
theorem fa216_1 : FA Tryz.prog 216 1 1 := fun w ad => by simp [go_sem]
theorem fa222_0 : FA Tryz.prog 222 0 0 := fun w ad => by simp [go_sem]
theorem fa222_1 : FA Tryz.prog 222 1 1 := fun w ad => by simp [go_sem]
theorem fa251_0 : FA Tryz.prog 251 0 0 := fun w ad => by simp [go_sem]
theorem fa251_1 : FA Tryz.prog 251 1 1 := fun w ad => by simp [go_sem]
theorem fa257_0 : FA Tryz.prog 257 0 0 := fun w ad => by simp [go_sem]
theorem fa257_1 : FA Tryz.prog 257 1 1 := fun w ad => by simp [go_sem]
theorem fa257_2 : FA Tryz.prog 257 2 2 := fun w ad => by simp [go_sem]
theorem fa276_0 : FA Tryz.prog 276 0 0 := fun w ad => by simp [go_sem]
theorem fa276_1 : FA Tryz.prog 276 1 1 := fun w ad => by simp [go_sem]
theorem fa276_2 : FA Tryz.prog 276 2 2 := fun w ad => by simp [go_sem]
theorem ti24 : TI Tryz.prog 24 56 7 80 := TI.of Tryz.underlying24 (v := .agg #[.int .i64 0, .string ⟨#[]⟩, .int .i64 0, .int .i64 0, .slice none 0 0, .int .i64 0, .int .i64 0]) (by kernel_rfl) rfl (by decide)
theorem ti27 : TI Tryz.prog 27 46 4 40 := TI.of Tryz.underlying27 (v := .agg #[.int .i64 0, .string ⟨#[]⟩, .int .i64 0, .int .i64 0]) (by kernel_rfl) rfl (by decide)
theorem ti35 : TI Tryz.prog 35 223 1 24 := TI.of Tryz.underlying35 (v := .slice none 0 0) (by kernel_rfl) rfl (by decide)
theorem ti54 : TI Tryz.prog 54 99 2 24 := TI.of Tryz.underlying54 (v := .agg #[.string ⟨#[]⟩, .int .i64 0]) (by kernel_rfl) rfl (by decide)
theorem ti68 : TI Tryz.prog 68 3 1 8 := TI.of Tryz.underlying68 (v := .int .i64 0) (by kernel_rfl) rfl (by decide)
theorem ti73 : TI Tryz.prog 73 118 9 80 := TI.of Tryz.underlying73 (v := .agg #[.int .i64 0, .string ⟨#[]⟩, .int .i64 0, .int .i64 0, .int .i64 0, .int .i64 0, .int .i64 0, .int .i64 0, .bool false]) (by kernel_rfl) rfl (by decide)
theorem ti77 : TI Tryz.prog 77 121 9 80 := TI.of Tryz.underlying77 (v := .agg #[.int .i64 0, .string ⟨#[]⟩, .int .i64 0, .int .i64 0, .int .i64 0, .int .i64 0, .int .i64 0, .int .i64 0, .bool false]) (by kernel_rfl) rfl (by decide)
theorem ti82 : TI Tryz.prog 82 51 6 48 := TI.of Tryz.underlying82 (v := .agg #[.int .i64 0, .int .i64 0, .int .i64 0, .int .i64 0, .int .i64 0, .int .i64 0]) (by kernel_rfl) rfl (by decide)
theorem ti114 : TI Tryz.prog 114 4 1 1 := TI.of Tryz.underlying114 (v := .bool false) (by kernel_rfl) rfl (by decide)
theorem ti136 : TI Tryz.prog 136 5 1 1 := TI.of Tryz.underlying136 (v := .int .u8 0) (by kernel_rfl) rfl (by decide)
theorem ti158 : TI Tryz.prog 158 9 1 16 := TI.of Tryz.underlying158 (v := .string ⟨#[]⟩) (by kernel_rfl) rfl (by decide)
theorem ti214 : TI Tryz.prog 214 222 2 16 := TI.of Tryz.underlying214 (v := .agg #[.pointer none, .int .u64 0]) (by kernel_rfl) rfl (by decide)
theorem ti223 : TI Tryz.prog 223 251 5 40 := TI.of Tryz.underlying223 (v := .agg #[.bool false, .int .u64 0, .int .u64 0, .int .u64 0, .int .u64 0]) (by kernel_rfl) rfl (by decide)
end Go.Proofs.YtebjpeonbfhdhaaGreat.T
namespace Go.Proofs.YtebjpeonbfhdhaaGreat
open Go.Proofs
theorem mixed : Tryz.prog.follows .mixedOrders = true := by kernel_rfl
end Go.Proofs.YtebjpeonbfhdhaaGreat
