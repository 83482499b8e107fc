import Derived.Test.YtebjpeonbfhdhaaGreatSxC
import Derived.Test.YtebjpeonbfhdhaaGreatData
import Derived.Test.YtebjpeonbfhdhaaGreatSx9
set_option linter.unusedVariables false
namespace Go.Proofs.YtebjpeonbfhdhaaGreat
open Go Go.Sx Go.Proofs
set_option maxRecDepth 100000

theorem eq_Step (x y : Step) : EQk Tryz.prog 2 51 (.agg x.cs.toArray) (.agg y.cs.toArray) (decide (x = y)) := by
  have h := EQk.struct (P := Tryz.prog) (k := 1) (xs := x.cs) (ys := y.cs) Tryz.underlying51 (by kernel_rfl) (FQ.cons (by decide) (PA.one T.un2 rfl rfl) (PA.one T.un2 rfl rfl) (EQ.int T.un2) (FQ.cons (by decide) (PA.one T.un3 rfl rfl) (PA.one T.un3 rfl rfl) (EQ.int T.un3) (FQ.cons (by decide) (PA.one T.un3 rfl rfl) (PA.one T.un3 rfl rfl) (EQ.int T.un3) (FQ.cons (by decide) (PA.one T.un3 rfl rfl) (PA.one T.un3 rfl rfl) (EQ.int T.un3) (FQ.cons (by decide) (PA.one T.un3 rfl rfl) (PA.one T.un3 rfl rfl) (EQ.int T.un3) (FQ.cons (by decide) (PA.one T.un3 rfl rfl) (PA.one T.un3 rfl rfl) (EQ.int T.un3) FQ.nil))))))
  refine Eq.mp (congrArg _ ?_) h
  rw [Bool.eq_iff_iff]
  cases x; cases y
  simp [Step.mk.injEq]

theorem eq_Arm (x y : Arm) : EQk Tryz.prog 2 99 (.agg x.cs.toArray) (.agg y.cs.toArray) (decide (x = y)) := by
  have h := EQk.struct (P := Tryz.prog) (k := 1) (xs := x.cs) (ys := y.cs) Tryz.underlying99 (by kernel_rfl) (FQ.cons (by decide) (PA.one T.un9 rfl rfl) (PA.one T.un9 rfl rfl) (EQ.str T.un9) (FQ.cons (by decide) (PA.one T.un3 rfl rfl) (PA.one T.un3 rfl rfl) (EQ.int T.un3) FQ.nil))
  refine Eq.mp (congrArg _ ?_) h
  rw [Bool.eq_iff_iff]
  cases x; cases y
  simp [Arm.mk.injEq]

end Go.Proofs.YtebjpeonbfhdhaaGreat
