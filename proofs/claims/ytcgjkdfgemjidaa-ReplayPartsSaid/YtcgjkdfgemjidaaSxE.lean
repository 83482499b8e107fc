import Derived.Test.YtcgjkdfgemjidaaSxC
import Derived.Test.YtcgjkdfgemjidaaData
import Derived.Test.YtcgjkdfgemjidaaSx9
set_option linter.unusedVariables false
namespace Go.Proofs.Ytcgjkdfgemjidaa
open Go Go.Sx Go.Proofs
set_option maxRecDepth 100000

theorem eq_Step (x y : Step) : EQk Try.prog 2 31 (.agg x.cs.toArray) (.agg y.cs.toArray) (decide (x = y)) := by
  have h := EQk.struct (P := Try.prog) (k := 1) (xs := x.cs) (ys := y.cs) Try.underlying31 (by kernel_rfl) (FQ.cons (by decide) (PA.one T.un2 rfl rfl) (PA.one T.un2 rfl rfl) (EQ.int T.un2) (FQ.cons (by decide) (PA.one T.un3 rfl rfl) (PA.one T.un3 rfl rfl) (EQ.int T.un3) (FQ.cons (by decide) (PA.one T.un3 rfl rfl) (PA.one T.un3 rfl rfl) (EQ.int T.un3) (FQ.cons (by decide) (PA.one T.un3 rfl rfl) (PA.one T.un3 rfl rfl) (EQ.int T.un3) (FQ.cons (by decide) (PA.one T.un3 rfl rfl) (PA.one T.un3 rfl rfl) (EQ.int T.un3) (FQ.cons (by decide) (PA.one T.un3 rfl rfl) (PA.one T.un3 rfl rfl) (EQ.int T.un3) FQ.nil))))))
  refine Eq.mp (congrArg _ ?_) h
  rw [Bool.eq_iff_iff]
  cases x; cases y
  simp [Step.mk.injEq]

theorem eq_Event (x y : Event) : EQk Try.prog 3 33 (.agg x.cs.toArray) (.agg y.cs.toArray) (decide (x = y)) := by
  have h := EQk.struct (P := Try.prog) (k := 2) (xs := x.cs) (ys := y.cs) Try.underlying33 (by kernel_rfl) (FQ.cons (by decide) (PA.one T.un3 rfl rfl) (PA.one T.un3 rfl rfl) (EQk.up (EQ.int T.un3)) (FQ.cons (by decide) (PA.one T.un3 rfl rfl) (PA.one T.un3 rfl rfl) (EQk.up (EQ.int T.un3)) (FQ.cons (by decide) (PA.one T.un3 rfl rfl) (PA.one T.un3 rfl rfl) (EQk.up (EQ.int T.un3)) (FQ.cons (by decide) (PA.one T.un2 rfl rfl) (PA.one T.un2 rfl rfl) (EQk.up (EQ.int T.un2)) (FQ.cons (by decide) (PA.one T.un9 rfl rfl) (PA.one T.un9 rfl rfl) (EQk.up (EQ.str T.un9)) (FQ.cons (by decide) (PA.one T.un29 rfl rfl) (PA.one T.un29 rfl rfl) (EQk.up (EQ.int T.un29)) (FQ.cons (by decide) (PA.agg (n := 6) x.step.cs Try.underlying31 rfl T.sz31 rfl) (PA.agg (n := 6) y.step.cs Try.underlying31 rfl T.sz31 rfl) (eq_Step x.step y.step) FQ.nil)))))))
  refine Eq.mp (congrArg _ ?_) h
  rw [Bool.eq_iff_iff]
  cases x; cases y
  simp [Event.mk.injEq]

end Go.Proofs.Ytcgjkdfgemjidaa
