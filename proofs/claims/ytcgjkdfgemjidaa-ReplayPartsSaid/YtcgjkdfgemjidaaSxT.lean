/- Facts on the program's types: sizes, zero values, fields' places. Printed by a program. -/
import Derived.Test.YtcgjkdfgemjidaaSx7
import Derived.Test.YtcgjkdfgemjidaaProg
import Derived.KernelRfl
set_option linter.unusedSimpArgs false
namespace Go.Proofs.Ytcgjkdfgemjidaa.T
open Go Go.Sx Go.Proofs
set_option maxRecDepth 100000
theorem un2 : UN Try.prog 2 (.int .i64) := Try.underlying2
theorem sz2 : SZ Try.prog 2 1 := SZ.of (by kernel_rfl)
theorem zv2 : ZV Try.prog 2 [.int .i64 0] := ZV.of (v := .int .i64 0) (by kernel_rfl) rfl
theorem ld2 : LD1 Try.prog 2 := LD1.of Try.underlying2 rfl
theorem un3 : UN Try.prog 3 (.int .i64) := Try.underlying3
theorem sz3 : SZ Try.prog 3 1 := SZ.of (by kernel_rfl)
theorem zv3 : ZV Try.prog 3 [.int .i64 0] := ZV.of (v := .int .i64 0) (by kernel_rfl) rfl
theorem ld3 : LD1 Try.prog 3 := LD1.of Try.underlying3 rfl
theorem un4 : UN Try.prog 4 .bool := Try.underlying4
theorem sz4 : SZ Try.prog 4 1 := SZ.of (by kernel_rfl)
theorem zv4 : ZV Try.prog 4 [.bool false] := ZV.of (v := .bool false) (by kernel_rfl) rfl
theorem ld4 : LD1 Try.prog 4 := LD1.of Try.underlying4 rfl
theorem un9 : UN Try.prog 9 .string := Try.underlying9
theorem sz9 : SZ Try.prog 9 1 := SZ.of (by kernel_rfl)
theorem zv9 : ZV Try.prog 9 [.string ⟨#[]⟩] := ZV.of (v := .string ⟨#[]⟩) (by kernel_rfl) rfl
theorem ld9 : LD1 Try.prog 9 := LD1.of Try.underlying9 rfl
theorem un22 : UN Try.prog 22 (.slice 33) := Try.underlying22
theorem sz22 : SZ Try.prog 22 1 := SZ.of (by kernel_rfl)
theorem zv22 : ZV Try.prog 22 [.slice none 0 0] := ZV.of (v := .slice none 0 0) (by kernel_rfl) rfl
theorem ld22 : LD1 Try.prog 22 := LD1.of Try.underlying22 rfl
theorem un29 : UN Try.prog 29 (.int .i64) := Try.underlying29
theorem sz29 : SZ Try.prog 29 1 := SZ.of (by kernel_rfl)
theorem zv29 : ZV Try.prog 29 [.int .i64 0] := ZV.of (v := .int .i64 0) (by kernel_rfl) rfl
theorem ld29 : LD1 Try.prog 29 := LD1.of Try.underlying29 rfl
theorem sz31 : SZ Try.prog 31 6 := SZ.of (by kernel_rfl)
theorem zv31 : ZV Try.prog 31 [.int .i64 0, .int .i64 0, .int .i64 0, .int .i64 0, .int .i64 0, .int .i64 0] := ZV.of (v := .agg #[.int .i64 0, .int .i64 0, .int .i64 0, .int .i64 0, .int .i64 0, .int .i64 0]) (by kernel_rfl) rfl
theorem ld31 : LDA Try.prog 31 6 := LDA.of Try.underlying31 rfl sz31
theorem sz33 : SZ Try.prog 33 12 := SZ.of (by kernel_rfl)
theorem zv33 : ZV Try.prog 33 [.int .i64 0, .int .i64 0, .int .i64 0, .int .i64 0, .string ⟨#[]⟩, .int .i64 0, .int .i64 0, .int .i64 0, .int .i64 0, .int .i64 0, .int .i64 0, .int .i64 0] := ZV.of (v := .agg #[.int .i64 0, .int .i64 0, .int .i64 0, .int .i64 0, .string ⟨#[]⟩, .int .i64 0, .int .i64 0, .int .i64 0, .int .i64 0, .int .i64 0, .int .i64 0, .int .i64 0]) (by kernel_rfl) rfl
theorem ld33 : LDA Try.prog 33 12 := LDA.of Try.underlying33 rfl sz33
theorem un35 : UN Try.prog 35 (.slice 41) := Try.underlying35
theorem sz35 : SZ Try.prog 35 1 := SZ.of (by kernel_rfl)
theorem zv35 : ZV Try.prog 35 [.slice none 0 0] := ZV.of (v := .slice none 0 0) (by kernel_rfl) rfl
theorem ld35 : LD1 Try.prog 35 := LD1.of Try.underlying35 rfl
theorem un37 : UN Try.prog 37 (.slice 3) := Try.underlying37
theorem sz37 : SZ Try.prog 37 1 := SZ.of (by kernel_rfl)
theorem zv37 : ZV Try.prog 37 [.slice none 0 0] := ZV.of (v := .slice none 0 0) (by kernel_rfl) rfl
theorem ld37 : LD1 Try.prog 37 := LD1.of Try.underlying37 rfl
theorem un38 : UN Try.prog 38 (.slice 43) := Try.underlying38
theorem sz38 : SZ Try.prog 38 1 := SZ.of (by kernel_rfl)
theorem zv38 : ZV Try.prog 38 [.slice none 0 0] := ZV.of (v := .slice none 0 0) (by kernel_rfl) rfl
theorem ld38 : LD1 Try.prog 38 := LD1.of Try.underlying38 rfl
theorem un39 : UN Try.prog 39 (.slice 45) := Try.underlying39
theorem sz39 : SZ Try.prog 39 1 := SZ.of (by kernel_rfl)
theorem zv39 : ZV Try.prog 39 [.slice none 0 0] := ZV.of (v := .slice none 0 0) (by kernel_rfl) rfl
theorem ld39 : LD1 Try.prog 39 := LD1.of Try.underlying39 rfl
theorem sz41 : SZ Try.prog 41 6 := SZ.of (by kernel_rfl)
theorem zv41 : ZV Try.prog 41 [.int .i64 0, .slice none 0 0, .slice none 0 0, .slice none 0 0, .int .i64 0, .bool false] := ZV.of (v := .agg #[.int .i64 0, .slice none 0 0, .slice none 0 0, .slice none 0 0, .int .i64 0, .bool false]) (by kernel_rfl) rfl
theorem ld41 : LDA Try.prog 41 6 := LDA.of Try.underlying41 rfl sz41
theorem sz43 : SZ Try.prog 43 3 := SZ.of (by kernel_rfl)
theorem zv43 : ZV Try.prog 43 [.int .i64 0, .string ⟨#[]⟩, .bool false] := ZV.of (v := .agg #[.int .i64 0, .string ⟨#[]⟩, .bool false]) (by kernel_rfl) rfl
theorem ld43 : LDA Try.prog 43 3 := LDA.of Try.underlying43 rfl sz43
theorem sz45 : SZ Try.prog 45 4 := SZ.of (by kernel_rfl)
theorem zv45 : ZV Try.prog 45 [.int .i64 0, .bool false, .bool false, .int .i64 0] := ZV.of (v := .agg #[.int .i64 0, .bool false, .bool false, .int .i64 0]) (by kernel_rfl) rfl
theorem ld45 : LDA Try.prog 45 4 := LDA.of Try.underlying45 rfl sz45
theorem un47 : UN Try.prog 47 (.map 3 4) := Try.underlying47
theorem sz47 : SZ Try.prog 47 1 := SZ.of (by kernel_rfl)
theorem zv47 : ZV Try.prog 47 [.map none] := ZV.of (v := .map none) (by kernel_rfl) rfl
theorem ld47 : LD1 Try.prog 47 := LD1.of Try.underlying47 rfl
theorem sz49 : SZ Try.prog 49 2 := SZ.of (by kernel_rfl)
theorem zv49 : ZV Try.prog 49 [.int .i64 0, .map none] := ZV.of (v := .agg #[.int .i64 0, .map none]) (by kernel_rfl) rfl
theorem ld49 : LDA Try.prog 49 2 := LDA.of Try.underlying49 rfl sz49
theorem un50 : UN Try.prog 50 (.slice 22) := Try.underlying50
theorem sz50 : SZ Try.prog 50 1 := SZ.of (by kernel_rfl)
theorem zv50 : ZV Try.prog 50 [.slice none 0 0] := ZV.of (v := .slice none 0 0) (by kernel_rfl) rfl
theorem ld50 : LD1 Try.prog 50 := LD1.of Try.underlying50 rfl
theorem un62 : UN Try.prog 62 (.slice 2) := Try.underlying62
theorem sz62 : SZ Try.prog 62 1 := SZ.of (by kernel_rfl)
theorem zv62 : ZV Try.prog 62 [.slice none 0 0] := ZV.of (v := .slice none 0 0) (by kernel_rfl) rfl
theorem ld62 : LD1 Try.prog 62 := LD1.of Try.underlying62 rfl
theorem pl33 : PL Try.prog 33 [.int .i64 0, .int .i64 0, .int .i64 0, .int .i64 0, .string ⟨#[]⟩, .int .i64 0, .int .i64 0, .int .i64 0, .int .i64 0, .int .i64 0, .int .i64 0, .int .i64 0] [(0, 1), (1, 1), (2, 1), (3, 1), (4, 1), (5, 1), (6, 6)] := PL.of zv33 Try.underlying33 (by kernel_rfl)
theorem pl41 : PL Try.prog 41 [.int .i64 0, .slice none 0 0, .slice none 0 0, .slice none 0 0, .int .i64 0, .bool false] [(0, 1), (1, 1), (2, 1), (3, 1), (4, 1), (5, 1)] := PL.of zv41 Try.underlying41 (by kernel_rfl)
theorem pl43 : PL Try.prog 43 [.int .i64 0, .string ⟨#[]⟩, .bool false] [(0, 1), (1, 1), (2, 1)] := PL.of zv43 Try.underlying43 (by kernel_rfl)
theorem pl45 : PL Try.prog 45 [.int .i64 0, .bool false, .bool false, .int .i64 0] [(0, 1), (1, 1), (2, 1), (3, 1)] := PL.of zv45 Try.underlying45 (by kernel_rfl)
theorem pl49 : PL Try.prog 49 [.int .i64 0, .map none] [(0, 1), (1, 1)] := PL.of zv49 Try.underlying49 (by kernel_rfl)
theorem fa31_5 : FA Try.prog 31 5 5 := fun w ad => by simp [go_sem]
theorem fa33_0 : FA Try.prog 33 0 0 := fun w ad => by simp [go_sem]
theorem fa33_1 : FA Try.prog 33 1 1 := fun w ad => by simp [go_sem]
theorem fa33_2 : FA Try.prog 33 2 2 := fun w ad => by simp [go_sem]
theorem fa33_3 : FA Try.prog 33 3 3 := fun w ad => by simp [go_sem]
theorem fa33_4 : FA Try.prog 33 4 4 := fun w ad => by simp [go_sem]
theorem fa33_6 : FA Try.prog 33 6 6 := fun w ad => by simp [go_sem]
theorem fa41_0 : FA Try.prog 41 0 0 := fun w ad => by simp [go_sem]
theorem fa41_1 : FA Try.prog 41 1 1 := fun w ad => by simp [go_sem]
theorem fa41_2 : FA Try.prog 41 2 2 := fun w ad => by simp [go_sem]
theorem fa41_3 : FA Try.prog 41 3 3 := fun w ad => by simp [go_sem]
theorem fa41_4 : FA Try.prog 41 4 4 := fun w ad => by simp [go_sem]
theorem fa41_5 : FA Try.prog 41 5 5 := fun w ad => by simp [go_sem]
theorem fa43_1 : FA Try.prog 43 1 1 := fun w ad => by simp [go_sem]
theorem fa43_2 : FA Try.prog 43 2 2 := fun w ad => by simp [go_sem]
theorem fa45_1 : FA Try.prog 45 1 1 := fun w ad => by simp [go_sem]
theorem fa49_0 : FA Try.prog 49 0 0 := fun w ad => by simp [go_sem]
theorem fa49_1 : FA Try.prog 49 1 1 := fun w ad => by simp [go_sem]
theorem ti22 : TI Try.prog 22 33 12 104 := TI.of Try.underlying22 (v := .agg #[.int .i64 0, .int .i64 0, .int .i64 0, .int .i64 0, .string ⟨#[]⟩, .int .i64 0, .int .i64 0, .int .i64 0, .int .i64 0, .int .i64 0, .int .i64 0, .int .i64 0]) (by kernel_rfl) rfl (by decide)
theorem ti35 : TI Try.prog 35 41 6 96 := TI.of Try.underlying35 (v := .agg #[.int .i64 0, .slice none 0 0, .slice none 0 0, .slice none 0 0, .int .i64 0, .bool false]) (by kernel_rfl) rfl (by decide)
theorem ti37 : TI Try.prog 37 3 1 8 := TI.of Try.underlying37 (v := .int .i64 0) (by kernel_rfl) rfl (by decide)
theorem ti38 : TI Try.prog 38 43 3 32 := TI.of Try.underlying38 (v := .agg #[.int .i64 0, .string ⟨#[]⟩, .bool false]) (by kernel_rfl) rfl (by decide)
theorem ti39 : TI Try.prog 39 45 4 24 := TI.of Try.underlying39 (v := .agg #[.int .i64 0, .bool false, .bool false, .int .i64 0]) (by kernel_rfl) rfl (by decide)
theorem ti50 : TI Try.prog 50 22 1 24 := TI.of Try.underlying50 (v := .slice none 0 0) (by kernel_rfl) rfl (by decide)
theorem ti62 : TI Try.prog 62 2 1 8 := TI.of Try.underlying62 (v := .int .i64 0) (by kernel_rfl) rfl (by decide)
end Go.Proofs.Ytcgjkdfgemjidaa.T
namespace Go.Proofs.Ytcgjkdfgemjidaa
open Go.Proofs
theorem mixed : Try.prog.follows .mixedOrders = true := by kernel_rfl
end Go.Proofs.Ytcgjkdfgemjidaa
