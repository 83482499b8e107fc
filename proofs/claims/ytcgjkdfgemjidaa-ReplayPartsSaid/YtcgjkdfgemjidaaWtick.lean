import Derived.Test.YtcgjkdfgemjidaaSxC
import Derived.Test.YtcgjkdfgemjidaaSp1
set_option linter.unusedVariables false
set_option linter.unusedSimpArgs false
namespace Go.Proofs.Ytcgjkdfgemjidaa
open Go Go.Sx Go.Proofs
set_option maxRecDepth 100000

/-- repartee/tick.own -/
theorem tick_own (t : Int) : Does Try.prog 17 [.int .i64 t] [] (fun v => pur (v = .int .i64 (tOwn t))) := by
  refine Does.enter Try.func17 rfl rfl ?_
  intro E
  refine At.seq ?_
  refine At.region ?_
  refine At.ev (ev_assign rfl) rfl ?_
  refine At.nil ?_
  refine At.thenN ?_
  refine At.seq ?_
  refine At.region ?_
  refine At.ev (ev_move rfl) rfl ?_
  refine At.ev (ev_max rfl rfl) rfl ?_
  refine At.ev (ev_assign rfl) rfl ?_
  refine At.nil ?_
  refine At.thenN ?_
  refine At.retC ?_
  refine At.ret (rs := [.tmp 2]) rfl (Res.tmp rfl Res.nil) ?_
  exact Imp.pur rfl (Imp.nil _)

/-- repartee/tick.Add -/
theorem tick_Add (t d : Int) (ht : i64 t) (hd : i64 d) : Does Try.prog 19 [.int .i64 t, .int .i64 d] [] (fun v => pur (v = .int .i64 (tAdd t d))) := by
  refine Does.enter Try.func19 rfl rfl ?_
  intro E
  have b1 := tOwn_b ht
  have b2 := tOwn_b hd
  refine At.seq ?_
  refine At.region ?_
  refine At.ev (ev_assign rfl) rfl ?_
  refine At.nil ?_
  refine At.thenN ?_
  refine At.seq ?_
  refine At.region ?_
  refine At.ev (ev_move rfl) rfl ?_
  refine At.callq (goes_func cf17 rfl) (Qc.pure (tick_own _)) rfl ?_
  refine At.ev (ev_move rfl) rfl ?_
  refine At.callq (goes_func cf17 rfl) (Qc.pure (tick_own _)) rfl ?_
  refine At.ev (ev_assign rfl) rfl ?_
  refine At.ev (ev_assign rfl) rfl ?_
  refine At.nil ?_
  refine At.thenN ?_
  refine At.seq ?_
  refine At.seq ?_
  refine At.region ?_
  refine At.ev (ev_move rfl) rfl ?_
  refine At.ev (ev_move rfl) rfl ?_
  refine At.ev (ev_sub rfl rfl (by omega)) rfl ?_
  refine At.ev (ev_geq rfl rfl) rfl ?_
  refine At.nil ?_
  refine At.thenN ?_
  refine At.condD rfl ?_ ?_
  · intro h0
    refine At.seq ?_
    refine At.region ?_
    refine At.ev (ev_assign rfl) rfl ?_
    refine At.nil ?_
    refine At.thenN ?_
    refine At.retC ?_
    refine At.thenR ?_
    refine At.ret (rs := [.tmp 4]) rfl (Res.tmp rfl Res.nil) ?_
    exact Imp.pur (by unfold tAdd; exact congrArg (Value.int .i64) (if_pos h0).symm) (Imp.nil _)
  · intro h0
    refine At.skip ?_
    refine At.thenN ?_
    refine At.seq ?_
    refine At.region ?_
    refine At.ev (ev_move rfl) rfl ?_
    refine At.ev (ev_move rfl) rfl ?_
    refine At.ev (ev_add rfl rfl (by omega)) rfl ?_
    refine At.ev (ev_assign rfl) rfl ?_
    refine At.nil ?_
    refine At.thenN ?_
    refine At.retC ?_
    refine At.ret (rs := [.tmp 4]) rfl (Res.tmp rfl Res.nil) ?_
    exact Imp.pur (by unfold tAdd; exact congrArg (Value.int .i64) (if_neg h0).symm) (Imp.nil _)

/-- repartee/tick.Left -/
theorem tick_Left (a n : Int) (ha : i64 a) (hn : i64 n) : Does Try.prog 14 [.int .i64 a, .int .i64 n] [] (fun v => pur (v = .int .i64 (tLeft a n))) := by
  refine Does.enter Try.func14 rfl rfl ?_
  intro E
  have b1 := tOwn_b ha
  have b2 := tOwn_b hn
  refine At.seq ?_
  refine At.region ?_
  refine At.ev (ev_assign rfl) rfl ?_
  refine At.nil ?_
  refine At.thenN ?_
  refine At.seq ?_
  refine At.region ?_
  refine At.ev (ev_move rfl) rfl ?_
  refine At.callq (goes_func cf17 rfl) (Qc.pure (tick_own _)) rfl ?_
  refine At.ev (ev_move rfl) rfl ?_
  refine At.callq (goes_func cf17 rfl) (Qc.pure (tick_own _)) rfl ?_
  refine At.ev (ev_assign rfl) rfl ?_
  refine At.ev (ev_assign rfl) rfl ?_
  refine At.nil ?_
  refine At.thenN ?_
  refine At.seq ?_
  refine At.block ?_
  refine At.seq ?_
  refine At.region ?_
  refine At.ev (ev_move rfl) rfl ?_
  refine At.ev (ev_eqi rfl rfl) rfl ?_
  refine At.ev (ev_assign rfl) rfl ?_
  refine At.nil ?_
  refine At.thenN ?_
  refine At.cond rfl ?_ ?_
  · intro h0
    simp only [decide_eq_true_eq, decide_eq_false_iff_not, Bool.not_eq_true', Bool.not_eq_false', Bool.cond_false_right, Bool.cond_true_left, Bool.and_eq_true, Bool.or_eq_true, Bool.and_eq_false_iff, Bool.or_eq_false_iff, Bool.not_true, Bool.not_false] at h0
    refine At.seq ?_
    refine At.region ?_
    refine At.ev (ev_assign rfl) rfl ?_
    refine At.nil ?_
    refine At.thenN ?_
    refine At.retC ?_
    refine At.blkR ?_
    refine At.thenR ?_
    refine At.ret (rs := [.tmp 4]) rfl (Res.tmp rfl Res.nil) ?_
    exact Imp.pur (by unfold tLeft; exact congrArg (Value.int .i64) (if_pos h0).symm) (Imp.nil _)
  · intro h0
    simp only [decide_eq_true_eq, decide_eq_false_iff_not, Bool.not_eq_true', Bool.not_eq_false', Bool.cond_false_right, Bool.cond_true_left, Bool.and_eq_true, Bool.or_eq_true, Bool.and_eq_false_iff, Bool.or_eq_false_iff, Bool.not_true, Bool.not_false] at h0
    refine At.seq ?_
    refine At.region ?_
    refine At.ev (ev_move rfl) rfl ?_
    refine At.ev (ev_move rfl) rfl ?_
    refine At.ev (ev_leq rfl rfl) rfl ?_
    refine At.ev (ev_assign rfl) rfl ?_
    refine At.nil ?_
    refine At.thenN ?_
    refine At.cond rfl ?_ ?_
    · intro h1
      simp only [decide_eq_true_eq, decide_eq_false_iff_not, Bool.not_eq_true', Bool.not_eq_false', Bool.cond_false_right, Bool.cond_true_left, Bool.and_eq_true, Bool.or_eq_true, Bool.and_eq_false_iff, Bool.or_eq_false_iff, Bool.not_true, Bool.not_false] at h1
      refine At.seq ?_
      refine At.region ?_
      refine At.ev (ev_assign rfl) rfl ?_
      refine At.nil ?_
      refine At.thenN ?_
      refine At.retC ?_
      refine At.blkR ?_
      refine At.thenR ?_
      refine At.ret (rs := [.tmp 4]) rfl (Res.tmp rfl Res.nil) ?_
      exact Imp.pur (by unfold tLeft; rw [if_neg h0, if_pos h1]; rfl) (Imp.nil _)
    · intro h1
      simp only [decide_eq_true_eq, decide_eq_false_iff_not, Bool.not_eq_true', Bool.not_eq_false', Bool.cond_false_right, Bool.cond_true_left, Bool.and_eq_true, Bool.or_eq_true, Bool.and_eq_false_iff, Bool.or_eq_false_iff, Bool.not_true, Bool.not_false] at h1
      refine At.skip ?_
      refine At.blkN ?_
      refine At.thenN ?_
      refine At.seq ?_
      refine At.region ?_
      refine At.ev (ev_move rfl) rfl ?_
      refine At.ev (ev_move rfl) rfl ?_
      refine At.ev (ev_sub rfl rfl (by omega)) rfl ?_
      refine At.ev (ev_assign rfl) rfl ?_
      refine At.nil ?_
      refine At.thenN ?_
      refine At.retC ?_
      refine At.ret (rs := [.tmp 4]) rfl (Res.tmp rfl Res.nil) ?_
      exact Imp.pur (by unfold tLeft; rw [if_neg h0, if_neg h1]; rfl) (Imp.nil _)

end Go.Proofs.Ytcgjkdfgemjidaa
