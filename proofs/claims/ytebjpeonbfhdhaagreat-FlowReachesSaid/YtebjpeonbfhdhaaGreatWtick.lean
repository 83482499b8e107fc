import Derived.Test.YtebjpeonbfhdhaaGreatSxC
import Derived.Test.YtebjpeonbfhdhaaGreatSx12
import Derived.Test.YtebjpeonbfhdhaaGreatSp1
set_option linter.unusedVariables false
set_option linter.unusedSimpArgs false
namespace Go.Proofs.YtebjpeonbfhdhaaGreat
open Go Go.Sx Go.Proofs
set_option maxRecDepth 100000
attribute [local irreducible] Go.Sx.opsW Go.Sx.cW Go.Code.wp Go.Sx.At

/-- repartee/tick.own -/
theorem tick_own (t : Int) : Does Tryz.prog 138 [.int .i64 t] [] (fun v => pur (v = .int .i64 (tOwn t))) := by
  refine Does.enter Tryz.func138 rfl rfl ?_
  intro E
  refine At.seq ?_
  refine At.region ?_
  refine At.ev (ev_assign rfl) rfl ?_
  refine At.nil ?_
  refine At.thenN ?_
  refine At.seq ?_
  refine At.region ?_
  refine At.ev (ev_move rfl) rfl ?_
  refine At.ev (ev_max rfl rfl) rfl ?_
  refine At.ev (ev_assign rfl) rfl ?_
  refine At.nil ?_
  refine At.thenN ?_
  refine At.retC ?_
  refine At.ret (rs := [.tmp 2]) rfl (Res.tmp rfl Res.nil) ?_
  exact Imp.pur rfl (Imp.nil _)

/-- repartee/tick.Own -/
theorem tick_Own (t : Int) : Does Tryz.prog 94 [.int .i64 t] [] (fun v => pur (v = .int .i64 (tOwn t))) := by
  refine Does.enter Tryz.func94 rfl rfl ?_
  intro E
  refine At.seq ?_
  refine At.region ?_
  refine At.ev (ev_assign rfl) rfl ?_
  refine At.nil ?_
  refine At.thenN ?_
  refine At.seq ?_
  refine At.region ?_
  refine At.ev (ev_move rfl) rfl ?_
  refine At.callq (goes_func cf138 rfl) (Qc.pure (tick_own _)) rfl ?_
  refine At.ev (ev_assign rfl) rfl ?_
  refine At.nil ?_
  refine At.thenN ?_
  refine At.retC ?_
  refine At.ret (rs := [.tmp 2]) rfl (Res.tmp rfl Res.nil) ?_
  exact Imp.pur rfl (Imp.nil _)

/-- repartee/tick.Due -/
theorem tick_Due (a n : Int) : Does Tryz.prog 150 [.int .i64 a, .int .i64 n] [] (fun v => pur (v = .bool (tDue a n))) := by
  refine Does.enter Tryz.func150 rfl rfl ?_
  intro E
  refine At.seq ?_
  refine At.region ?_
  refine At.ev (ev_assign rfl) rfl ?_
  refine At.nil ?_
  refine At.thenN ?_
  refine At.seq ?_
  refine At.region ?_
  refine At.ev (ev_move rfl) rfl ?_
  refine At.ev (ev_nei rfl rfl) rfl ?_
  refine At.ev (ev_move rfl) rfl ?_
  refine At.evg rfl rfl (fun hg => (ev_move rfl)) rfl rfl ?_
  refine At.callg rfl rfl (fun hg => goes_func cf138 rfl) (fun hg => (Qc.pure (tick_own _))) rfl rfl ?_
  refine At.evg rfl rfl (fun hg => (ev_move rfl)) rfl rfl ?_
  refine At.callg rfl rfl (fun hg => goes_func cf138 rfl) (fun hg => (Qc.pure (tick_own _))) rfl rfl ?_
  refine At.evg rfl rfl (fun hg => (ev_leq rfl rfl)) rfl rfl ?_
  refine At.ev (ev_pickG rfl rfl rfl rfl) rfl ?_
  refine At.ev (ev_assign rfl) rfl ?_
  refine At.nil ?_
  refine At.thenN ?_
  refine At.retC ?_
  refine At.ret (rs := [.tmp 4]) rfl (Res.tmp rfl Res.nil) ?_
  exact Imp.pur rfl (Imp.nil _)

/-- repartee/tick.Add -/
theorem tick_Add (t d : Int) (ht : i64 t) (hd : i64 d) : Does Tryz.prog 165 [.int .i64 t, .int .i64 d] [] (fun v => pur (v = .int .i64 (tAdd t d))) := by
  refine Does.enter Tryz.func165 rfl rfl ?_
  intro E
  have b1 := tOwn_b ht
  have b2 := tOwn_b hd
  refine At.seq ?_
  refine At.region ?_
  refine At.ev (ev_assign rfl) rfl ?_
  refine At.nil ?_
  refine At.thenN ?_
  refine At.seq ?_
  refine At.region ?_
  refine At.ev (ev_move rfl) rfl ?_
  refine At.callq (goes_func cf138 rfl) (Qc.pure (tick_own _)) rfl ?_
  refine At.ev (ev_move rfl) rfl ?_
  refine At.callq (goes_func cf138 rfl) (Qc.pure (tick_own _)) rfl ?_
  refine At.ev (ev_assign rfl) rfl ?_
  refine At.ev (ev_assign rfl) rfl ?_
  refine At.nil ?_
  refine At.thenN ?_
  refine At.seq ?_
  refine At.seq ?_
  refine At.region ?_
  refine At.ev (ev_move rfl) rfl ?_
  refine At.ev (ev_move rfl) rfl ?_
  refine At.ev (ev_sub rfl rfl (by omega)) rfl ?_
  refine At.ev (ev_geq rfl rfl) rfl ?_
  refine At.nil ?_
  refine At.thenN ?_
  refine At.condD rfl ?_ ?_
  · intro h0
    refine At.seq ?_
    refine At.region ?_
    refine At.ev (ev_assign rfl) rfl ?_
    refine At.nil ?_
    refine At.thenN ?_
    refine At.retC ?_
    refine At.thenR ?_
    refine At.ret (rs := [.tmp 4]) rfl (Res.tmp rfl Res.nil) ?_
    exact Imp.pur (by unfold tAdd; exact congrArg (Value.int .i64) (if_pos h0).symm) (Imp.nil _)
  · intro h0
    refine At.skip ?_
    refine At.thenN ?_
    refine At.seq ?_
    refine At.region ?_
    refine At.ev (ev_move rfl) rfl ?_
    refine At.ev (ev_move rfl) rfl ?_
    refine At.ev (ev_add rfl rfl (by omega)) rfl ?_
    refine At.ev (ev_assign rfl) rfl ?_
    refine At.nil ?_
    refine At.thenN ?_
    refine At.retC ?_
    refine At.ret (rs := [.tmp 4]) rfl (Res.tmp rfl Res.nil) ?_
    exact Imp.pur (by unfold tAdd; exact congrArg (Value.int .i64) (if_neg h0).symm) (Imp.nil _)

/-- repartee/due.behind -/
theorem due_behind (a n : Int) (ha : i64 a) (hn : i64 n) : Does Tryz.prog 139 [.int .i64 a, .int .i64 n] [] (fun v => pur (v = .int .i64 (dBehind a n))) := by
  refine Does.enter Tryz.func139 rfl rfl ?_
  intro E
  refine At.seq ?_
  refine At.region ?_
  refine At.ev (ev_assign rfl) rfl ?_
  refine At.nil ?_
  refine At.thenN ?_
  refine At.seq ?_
  refine At.seq ?_
  refine At.region ?_
  refine At.ev (ev_move rfl) rfl ?_
  refine At.ev (ev_eqi rfl rfl) rfl ?_
  refine At.nil ?_
  refine At.thenN ?_
  refine At.condD rfl ?_ ?_
  · intro h0
    refine At.seq ?_
    refine At.region ?_
    refine At.ev (ev_assign rfl) rfl ?_
    refine At.nil ?_
    refine At.thenN ?_
    refine At.retC ?_
    refine At.thenR ?_
    refine At.ret (rs := [.tmp 4]) rfl (Res.tmp rfl Res.nil) ?_
    exact Imp.pur (by unfold dBehind; exact congrArg (Value.int .i64) (if_pos h0).symm) (Imp.nil _)
  · intro h0
    refine At.skip ?_
    refine At.thenN ?_
    refine At.seq ?_
    refine At.region ?_
    refine At.ev (ev_move rfl) rfl ?_
    refine At.ev (ev_move rfl) rfl ?_
    refine At.callq (goes_func cf165 rfl) (Qc.pure (tick_Add _ _ (by assumption) (by assumption))) rfl ?_
    refine At.ev (ev_assign rfl) rfl ?_
    refine At.nil ?_
    refine At.thenN ?_
    refine At.retC ?_
    refine At.ret (rs := [.tmp 4]) rfl (Res.tmp rfl Res.nil) ?_
    exact Imp.pur (by unfold dBehind; exact congrArg (Value.int .i64) (if_neg h0).symm) (Imp.nil _)

end Go.Proofs.YtebjpeonbfhdhaaGreat
