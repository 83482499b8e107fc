import Derived.Test.YtebjpeonbfhdhaaGreatWl
import Derived.Test.YtebjpeonbfhdhaaGreatSp15
set_option linter.unusedVariables false
set_option linter.unusedSimpArgs false
namespace Go.Proofs.YtebjpeonbfhdhaaGreat
open Go Go.Sx Go.Proofs
set_option maxRecDepth 100000
set_option maxHeartbeats 2000000

attribute [local irreducible] Go.Sx.opsW Go.Sx.cW Go.Code.wp Go.Sx.At

/-- repartee/reparteelaw24.lives -/
theorem law24_lives : Does Tryz.prog 31 [] [] (fun v => pur (v = .bool true)) := by
  refine Does.enter Tryz.func31 rfl rfl ?_
  intro E
  refine At.seq ?_
  refine At.region ?_
  refine At.ev (ev_assign rfl) rfl ?_
  refine At.nil ?_
  refine At.thenN ?_
  refine At.seq ?_
  refine At.region ?_
  refine At.ev (ev_build T.pl56 rfl ⟨rfl, rfl, trivial⟩ ⟨rfl, by decide, rfl, by decide, trivial⟩) rfl ?_
  refine At.ev (ev_build T.pl56 rfl ⟨rfl, trivial⟩ ⟨rfl, by decide, trivial⟩) rfl ?_
  refine At.ev (ev_build T.pl56 rfl ⟨rfl, rfl, trivial⟩ ⟨rfl, by decide, rfl, by decide, trivial⟩) rfl ?_
  refine At.bsl lpc T.un24 T.sz56 T.zv56 rfl ?_
  intro bo
  refine At.ownB (b := bo) (n := 3) 7 (by repeat (first | with_reducible exact At1.head _ _ | apply At1.tail)) rfl rfl ?_
  refine At.perI (φ := relLP lpo lpc) (fun R => lp_rel R) ?_
  refine At.sealS (n := 3) (α := Op) lpo rfl (fun _ _ => ?_)
  refine At.toRel lp (lp.cs (some ⟨bo, 0, none⟩) 3) [rdSl (some ⟨bo, 0, none⟩) lpo] (fun R h => Prog.rel lp_ok (by decide) (h (rdSl (some ⟨bo, 0, none⟩) lpo) (by simp))) ?_
  refine At.ev (ev_build T.pl26 rfl ⟨rfl, rfl, rfl, trivial⟩ ⟨rfl, by decide, rfl, by decide, rfl, by decide, trivial⟩) rfl ?_
  refine At.new T.zv26 ?_
  intro bp
  refine At.stA T.sz26 rfl rfl rfl ?_ (cs' := (lp.cs (some ⟨bo, 0, none⟩) 3))
  refine At.nil ?_
  refine At.thenN ?_
  refine At.seq ?_
  refine At.drawH (.q1 0 (.br 1 (.br 2 (.br 3 (.q0 4 (.br 5 (.br 6 (.q0 7 (.q0 8 (.q0 9 (.br 10 (.br 11 (.br 12 (.q0 13 (.q0 14 (.q0 15 (.br 16 (.br 17 (.br 18 (.q0 19 (.q0 20 (.q0 21 (.nil)))) (.stop)) (.stop)) (.br 17 (.br 16 (.br 18 (.q0 19 (.q0 20 (.q0 21 (.nil)))) (.stop)) (.stop)) (.stop)))))) (.stop)) (.stop)) (.br 11 (.br 10 (.br 12 (.q0 13 (.q0 14 (.q0 15 (.br 16 (.br 17 (.br 18 (.q0 19 (.q0 20 (.q0 21 (.nil)))) (.stop)) (.stop)) (.br 17 (.br 16 (.br 18 (.q0 19 (.q0 20 (.q0 21 (.nil)))) (.stop)) (.stop)) (.stop)))))) (.stop)) (.stop)) (.stop)))))) (.stop)) (.stop))) (.stop)) (.stop)) (.br 2 (.br 1 (.br 3 (.q0 4 (.br 5 (.br 6 (.q0 7 (.q0 8 (.q0 9 (.br 10 (.br 11 (.br 12 (.q0 13 (.q0 14 (.q0 15 (.br 16 (.br 17 (.br 18 (.q0 19 (.q0 20 (.q0 21 (.nil)))) (.stop)) (.stop)) (.br 17 (.br 16 (.br 18 (.q0 19 (.q0 20 (.q0 21 (.nil)))) (.stop)) (.stop)) (.stop)))))) (.stop)) (.stop)) (.br 11 (.br 10 (.br 12 (.q0 13 (.q0 14 (.q0 15 (.br 16 (.br 17 (.br 18 (.q0 19 (.q0 20 (.q0 21 (.nil)))) (.stop)) (.stop)) (.br 17 (.br 16 (.br 18 (.q0 19 (.q0 20 (.q0 21 (.nil)))) (.stop)) (.stop)) (.stop)))))) (.stop)) (.stop)) (.stop)))))) (.stop)) (.stop))) (.stop)) (.stop)) (.stop)))) (fun j => !([1, 3, 5, 6, 10, 11, 12, 16, 17, 18] : List Nat).contains j) mixed (by kernel_rfl) (by kernel_rfl) (NoP.thn NoP.body) ?_
  refine At.c1 rfl (Imp.refl _) (ldA T.ld26 rfl) rfl ?_
  refine At.c2 rfl ?_ ?_
  · intro w0
    refine At.do (goes_func cf35 rfl) (flow_Reach lp (lp.cs (some ⟨bo, 0, none⟩) 3)) ?_
    intro _
    refine At.rowI ?_
    intro aor cr e _ _
    subst e
    refine At.nil ?_
    refine At.cn (fun h => absurd h (by decide)) ?_
    refine At.c2 rfl ?_ ?_
    · intro w0
      refine At.bsl [.int .i64 0, .int .i64 2, .int .i64 3] T.un68 T.sz3 T.zv3 rfl ?_
      intro bq
      refine At.nil ?_
      refine At.cn (fun _ => ?_) ?_
      · first | exact Imp.refl _ | exact fun _ _ h => h.drop | exact fun _ _ h => h.drop.drop | exact fun _ _ h => h.drop.drop.drop | exact fun _ _ h => h.drop.drop.drop.drop | (repeat (first | exact Imp.nil _ | (with_reducible apply Imp.per; · repeat (first | with_reducible exact Mem.head _ _ | apply Mem.tail)) | (with_reducible apply Imp.one; · repeat (first | with_reducible exact At1.head _ _ | apply At1.tail))))
      refine At.c2 rfl ?_ ?_
      · intro w0
        refine At.ownB (b := bq) (n := 3) 1 (by repeat (first | with_reducible exact At1.head _ _ | apply At1.tail)) rfl rfl ?_
        refine At.ownEq (n := 3) (cs := [.int .i64 0, .int .i64 2, .int .i64 3]) (n' := ([0, 2, 3] : List Int).length) (cs' := ints [0, 2, 3]) (hn := rfl) (he := rfl) (h := ?_)
        refine At.sealI (n := ([0, 2, 3] : List Int).length) [0, 2, 3] rfl (by intro z hz; simp at hz; unfold i64; omega) (fun _ _ => ?_)
        refine At.sealI (ao := aor) (reachP lp) rfl (by intro z hz; rw [lp_reach] at hz; simp at hz; unfold i64; omega) (fun _ _ => ?_)
        refine At.callq (goes_func cf32 rfl) (Qc.cast (Qc.stay2 (r04_Same aor (some ⟨bq, 0, none⟩) cr 3 (reachP lp) [0, 2, 3])) (congrArg Value.bool (by rw [lp_reach]; rfl) : _ = Value.bool true)) rfl ?_
        refine At.nil ?_
        refine At.cn (fun h => absurd h (by decide)) ?_
        refine At.c0 rfl (ev_move rfl) rfl ?_
        refine At.c2 rfl ?_ ?_
        · intro w0
          refine At.split rfl rfl rfl (fun _ => ?_) (fun h => absurd h (by first | decide | simp))
          refine At.ev (ldA T.ld26 rfl) rfl ?_
          refine At.nil ?_
          refine At.cn (fun h => absurd h (by decide)) ?_
          refine At.c2 rfl ?_ ?_
          · intro w0
            refine At.ungd (s := 11) (b := true) (i := 12) rfl rfl ?_
            refine At.split rfl rfl rfl (fun _ => ?_) (fun h => absurd h (by first | decide | simp))
            refine At.callq (goes_func cf37 rfl) (Qc.cast (Qc.stay (flow_Loops lp (lp.cs (some ⟨bo, 0, none⟩) 3))) (congrArg Value.bool lp_loops)) rfl ?_
            refine At.nil ?_
            refine At.cn (fun h => absurd h (by decide)) ?_
            refine At.c0g rfl rfl rfl (fun hg => (Ev.cast (v' := .bool true) (ev_not rfl) rfl)) rfl rfl ?_
            refine At.c0 rfl (ev_pickT rfl rfl rfl) rfl ?_
            refine At.c0 rfl (ev_move rfl) rfl ?_
            refine At.c2 rfl ?_ ?_
            · intro w0
              refine At.split rfl rfl rfl (fun _ => ?_) (fun h => absurd h (by first | decide | simp))
              refine At.callq (goes_func cf61 rfl) (Qc.pure (law22_Usual)) rfl ?_
              refine At.nil ?_
              refine At.cn (fun h => absurd h (by decide)) ?_
              refine At.c2 rfl ?_ ?_
              · intro w0
                refine At.split rfl rfl rfl (fun _ => ?_) (fun h => absurd h (by first | decide | simp))
                refine At.ev (ldA T.ld26 rfl) rfl ?_
                refine At.nil ?_
                refine At.cn (fun h => absurd h (by decide)) ?_
                refine At.c2 rfl ?_ ?_
                · intro w0
                  refine At.ungd (s := 16) (b := true) (i := 17) rfl rfl ?_
                  refine At.ungd (s := 16) (b := true) (i := 18) rfl rfl ?_
                  refine At.split rfl rfl rfl (fun _ => ?_) (fun h => absurd h (by first | decide | simp))
                  refine At.callq (goes_func cf28 rfl) (Qc.cast (Qc.stay (flow_Steps usual lp (lp.cs (some ⟨bo, 0, none⟩) 3))) (congrArg (Value.int .i64) lp_steps)) rfl ?_
                  refine At.nil ?_
                  refine At.cn (fun h => absurd h (by decide)) ?_
                  refine At.c0g rfl rfl rfl (fun hg => (Ev.cast (v' := .bool true) (ev_eqi rfl rfl) rfl)) rfl rfl ?_
                  refine At.c0 rfl (ev_pickT rfl rfl rfl) rfl ?_
                  refine At.c0 rfl (ev_move rfl) rfl ?_
                  refine At.c2 rfl ?_ ?_
                  · intro w0
                    refine At.split rfl rfl rfl (fun _ => ?_) (fun h => absurd h (by first | decide | simp))
                    refine At.callq (goes_func cf61 rfl) (Qc.pure (law22_Usual)) rfl ?_
                    refine At.nil ?_
                    refine At.cn (fun h => absurd h (by decide)) ?_
                    refine At.c2 rfl ?_ ?_
                    · intro w0
                      refine At.split rfl rfl rfl (fun _ => ?_) (fun h => absurd h (by first | decide | simp))
                      refine At.ev (ldA T.ld26 rfl) rfl ?_
                      refine At.nil ?_
                      refine At.cn (fun h => absurd h (by decide)) ?_
                      refine At.c2 rfl ?_ ?_
                      · intro w0
                        refine At.ungd (s := 22) (b := true) (i := 23) rfl rfl ?_
                        refine At.ungd (s := 22) (b := true) (i := 24) rfl rfl ?_
                        refine At.split rfl rfl rfl (fun _ => ?_) (fun h => absurd h (by first | decide | simp))
                        refine At.callq (goes_func cf29 rfl) (Qc.cast (Qc.stay (flow_Most usual lp (lp.cs (some ⟨bo, 0, none⟩) 3))) (congrArg (Value.int .i64) lp_most)) rfl ?_
                        refine At.nil ?_
                        refine At.cn (fun h => absurd h (by decide)) ?_
                        refine At.c0g rfl rfl rfl (fun hg => (Ev.cast (v' := .bool true) (ev_eqi rfl rfl) rfl)) rfl rfl ?_
                        refine At.c0 rfl (ev_pickT rfl rfl rfl) rfl ?_
                        refine At.c0 rfl (ev_assign rfl) rfl ?_
                        refine At.cnil ?_
                        refine At.thenN ?_
                        refine At.retC ?_
                        refine At.ret (rs := [.tmp 0]) rfl (Res.tmp rfl Res.nil) ?_
                        exact Imp.pur rfl (Imp.nil _)
                      exact At.cstop
                    exact At.cstop
                  refine At.c2 rfl ?_ ?_
                  · intro w0
                    refine At.split rfl rfl rfl (fun _ => ?_) (fun h => absurd h (by first | decide | simp))
                    refine At.ev (ldA T.ld26 rfl) rfl ?_
                    refine At.nil ?_
                    refine At.cn (fun h => absurd h (by decide)) ?_
                    refine At.c2 rfl ?_ ?_
                    · intro w0
                      refine At.split rfl rfl rfl (fun _ => ?_) (fun h => absurd h (by first | decide | simp))
                      refine At.callq (goes_func cf61 rfl) (Qc.pure (law22_Usual)) rfl ?_
                      refine At.nil ?_
                      refine At.cn (fun h => absurd h (by decide)) ?_
                      refine At.c2 rfl ?_ ?_
                      · intro w0
                        refine At.ungd (s := 22) (b := true) (i := 23) rfl rfl ?_
                        refine At.ungd (s := 22) (b := true) (i := 24) rfl rfl ?_
                        refine At.split rfl rfl rfl (fun _ => ?_) (fun h => absurd h (by first | decide | simp))
                        refine At.callq (goes_func cf29 rfl) (Qc.cast (Qc.stay (flow_Most usual lp (lp.cs (some ⟨bo, 0, none⟩) 3))) (congrArg (Value.int .i64) lp_most)) rfl ?_
                        refine At.nil ?_
                        refine At.cn (fun h => absurd h (by decide)) ?_
                        refine At.c0g rfl rfl rfl (fun hg => (Ev.cast (v' := .bool true) (ev_eqi rfl rfl) rfl)) rfl rfl ?_
                        refine At.c0 rfl (ev_pickT rfl rfl rfl) rfl ?_
                        refine At.c0 rfl (ev_assign rfl) rfl ?_
                        refine At.cnil ?_
                        refine At.thenN ?_
                        refine At.retC ?_
                        refine At.ret (rs := [.tmp 0]) rfl (Res.tmp rfl Res.nil) ?_
                        exact Imp.pur rfl (Imp.nil _)
                      exact At.cstop
                    exact At.cstop
                  exact At.cstop
                exact At.cstop
              exact At.cstop
            refine At.c2 rfl ?_ ?_
            · intro w0
              refine At.split rfl rfl rfl (fun _ => ?_) (fun h => absurd h (by first | decide | simp))
              refine At.ev (ldA T.ld26 rfl) rfl ?_
              refine At.nil ?_
              refine At.cn (fun h => absurd h (by decide)) ?_
              refine At.c2 rfl ?_ ?_
              · intro w0
                refine At.split rfl rfl rfl (fun _ => ?_) (fun h => absurd h (by first | decide | simp))
                refine At.callq (goes_func cf61 rfl) (Qc.pure (law22_Usual)) rfl ?_
                refine At.nil ?_
                refine At.cn (fun h => absurd h (by decide)) ?_
                refine At.c2 rfl ?_ ?_
                · intro w0
                  refine At.ungd (s := 16) (b := true) (i := 17) rfl rfl ?_
                  refine At.ungd (s := 16) (b := true) (i := 18) rfl rfl ?_
                  refine At.split rfl rfl rfl (fun _ => ?_) (fun h => absurd h (by first | decide | simp))
                  refine At.callq (goes_func cf28 rfl) (Qc.cast (Qc.stay (flow_Steps usual lp (lp.cs (some ⟨bo, 0, none⟩) 3))) (congrArg (Value.int .i64) lp_steps)) rfl ?_
                  refine At.nil ?_
                  refine At.cn (fun h => absurd h (by decide)) ?_
                  refine At.c0g rfl rfl rfl (fun hg => (Ev.cast (v' := .bool true) (ev_eqi rfl rfl) rfl)) rfl rfl ?_
                  refine At.c0 rfl (ev_pickT rfl rfl rfl) rfl ?_
                  refine At.c0 rfl (ev_move rfl) rfl ?_
                  refine At.c2 rfl ?_ ?_
                  · intro w0
                    refine At.split rfl rfl rfl (fun _ => ?_) (fun h => absurd h (by first | decide | simp))
                    refine At.callq (goes_func cf61 rfl) (Qc.pure (law22_Usual)) rfl ?_
                    refine At.nil ?_
                    refine At.cn (fun h => absurd h (by decide)) ?_
                    refine At.c2 rfl ?_ ?_
                    · intro w0
                      refine At.split rfl rfl rfl (fun _ => ?_) (fun h => absurd h (by first | decide | simp))
                      refine At.ev (ldA T.ld26 rfl) rfl ?_
                      refine At.nil ?_
                      refine At.cn (fun h => absurd h (by decide)) ?_
                      refine At.c2 rfl ?_ ?_
                      · intro w0
                        refine At.ungd (s := 22) (b := true) (i := 23) rfl rfl ?_
                        refine At.ungd (s := 22) (b := true) (i := 24) rfl rfl ?_
                        refine At.split rfl rfl rfl (fun _ => ?_) (fun h => absurd h (by first | decide | simp))
                        refine At.callq (goes_func cf29 rfl) (Qc.cast (Qc.stay (flow_Most usual lp (lp.cs (some ⟨bo, 0, none⟩) 3))) (congrArg (Value.int .i64) lp_most)) rfl ?_
                        refine At.nil ?_
                        refine At.cn (fun h => absurd h (by decide)) ?_
                        refine At.c0g rfl rfl rfl (fun hg => (Ev.cast (v' := .bool true) (ev_eqi rfl rfl) rfl)) rfl rfl ?_
                        refine At.c0 rfl (ev_pickT rfl rfl rfl) rfl ?_
                        refine At.c0 rfl (ev_assign rfl) rfl ?_
                        refine At.cnil ?_
                        refine At.thenN ?_
                        refine At.retC ?_
                        refine At.ret (rs := [.tmp 0]) rfl (Res.tmp rfl Res.nil) ?_
                        exact Imp.pur rfl (Imp.nil _)
                      exact At.cstop
                    exact At.cstop
                  refine At.c2 rfl ?_ ?_
                  · intro w0
                    refine At.split rfl rfl rfl (fun _ => ?_) (fun h => absurd h (by first | decide | simp))
                    refine At.ev (ldA T.ld26 rfl) rfl ?_
                    refine At.nil ?_
                    refine At.cn (fun h => absurd h (by decide)) ?_
                    refine At.c2 rfl ?_ ?_
                    · intro w0
                      refine At.split rfl rfl rfl (fun _ => ?_) (fun h => absurd h (by first | decide | simp))
                      refine At.callq (goes_func cf61 rfl) (Qc.pure (law22_Usual)) rfl ?_
                      refine At.nil ?_
                      refine At.cn (fun h => absurd h (by decide)) ?_
                      refine At.c2 rfl ?_ ?_
                      · intro w0
                        refine At.ungd (s := 22) (b := true) (i := 23) rfl rfl ?_
                        refine At.ungd (s := 22) (b := true) (i := 24) rfl rfl ?_
                        refine At.split rfl rfl rfl (fun _ => ?_) (fun h => absurd h (by first | decide | simp))
                        refine At.callq (goes_func cf29 rfl) (Qc.cast (Qc.stay (flow_Most usual lp (lp.cs (some ⟨bo, 0, none⟩) 3))) (congrArg (Value.int .i64) lp_most)) rfl ?_
                        refine At.nil ?_
                        refine At.cn (fun h => absurd h (by decide)) ?_
                        refine At.c0g rfl rfl rfl (fun hg => (Ev.cast (v' := .bool true) (ev_eqi rfl rfl) rfl)) rfl rfl ?_
                        refine At.c0 rfl (ev_pickT rfl rfl rfl) rfl ?_
                        refine At.c0 rfl (ev_assign rfl) rfl ?_
                        refine At.cnil ?_
                        refine At.thenN ?_
                        refine At.retC ?_
                        refine At.ret (rs := [.tmp 0]) rfl (Res.tmp rfl Res.nil) ?_
                        exact Imp.pur rfl (Imp.nil _)
                      exact At.cstop
                    exact At.cstop
                  exact At.cstop
                exact At.cstop
              exact At.cstop
            exact At.cstop
          exact At.cstop
        exact At.cstop
      exact At.cstop
    exact At.cstop
  refine At.c2 rfl ?_ ?_
  · intro w0
    refine At.bsl [.int .i64 0, .int .i64 2, .int .i64 3] T.un68 T.sz3 T.zv3 rfl ?_
    intro bq
    refine At.nil ?_
    refine At.cn (fun _ => ?_) ?_
    · first | exact Imp.refl _ | exact fun _ _ h => h.drop | exact fun _ _ h => h.drop.drop | exact fun _ _ h => h.drop.drop.drop | exact fun _ _ h => h.drop.drop.drop.drop | (repeat (first | exact Imp.nil _ | (with_reducible apply Imp.per; · repeat (first | with_reducible exact Mem.head _ _ | apply Mem.tail)) | (with_reducible apply Imp.one; · repeat (first | with_reducible exact At1.head _ _ | apply At1.tail))))
    refine At.c2 rfl ?_ ?_
    · intro w0
      refine At.do (goes_func cf35 rfl) (flow_Reach lp (lp.cs (some ⟨bo, 0, none⟩) 3)) ?_
      intro _
      refine At.rowI ?_
      intro aor cr e _ _
      subst e
      refine At.nil ?_
      refine At.cn (fun h => absurd h (by decide)) ?_
      refine At.c2 rfl ?_ ?_
      · intro w0
        refine At.ownB (b := bq) (n := 3) 1 (by repeat (first | with_reducible exact At1.head _ _ | apply At1.tail)) rfl rfl ?_
        refine At.ownEq (n := 3) (cs := [.int .i64 0, .int .i64 2, .int .i64 3]) (n' := ([0, 2, 3] : List Int).length) (cs' := ints [0, 2, 3]) (hn := rfl) (he := rfl) (h := ?_)
        refine At.sealI (n := ([0, 2, 3] : List Int).length) [0, 2, 3] rfl (by intro z hz; simp at hz; unfold i64; omega) (fun _ _ => ?_)
        refine At.sealI (ao := aor) (reachP lp) rfl (by intro z hz; rw [lp_reach] at hz; simp at hz; unfold i64; omega) (fun _ _ => ?_)
        refine At.callq (goes_func cf32 rfl) (Qc.cast (Qc.stay2 (r04_Same aor (some ⟨bq, 0, none⟩) cr 3 (reachP lp) [0, 2, 3])) (congrArg Value.bool (by rw [lp_reach]; rfl) : _ = Value.bool true)) rfl ?_
        refine At.nil ?_
        refine At.cn (fun h => absurd h (by decide)) ?_
        refine At.c0 rfl (ev_move rfl) rfl ?_
        refine At.c2 rfl ?_ ?_
        · intro w0
          refine At.split rfl rfl rfl (fun _ => ?_) (fun h => absurd h (by first | decide | simp))
          refine At.ev (ldA T.ld26 rfl) rfl ?_
          refine At.nil ?_
          refine At.cn (fun h => absurd h (by decide)) ?_
          refine At.c2 rfl ?_ ?_
          · intro w0
            refine At.ungd (s := 11) (b := true) (i := 12) rfl rfl ?_
            refine At.split rfl rfl rfl (fun _ => ?_) (fun h => absurd h (by first | decide | simp))
            refine At.callq (goes_func cf37 rfl) (Qc.cast (Qc.stay (flow_Loops lp (lp.cs (some ⟨bo, 0, none⟩) 3))) (congrArg Value.bool lp_loops)) rfl ?_
            refine At.nil ?_
            refine At.cn (fun h => absurd h (by decide)) ?_
            refine At.c0g rfl rfl rfl (fun hg => (Ev.cast (v' := .bool true) (ev_not rfl) rfl)) rfl rfl ?_
            refine At.c0 rfl (ev_pickT rfl rfl rfl) rfl ?_
            refine At.c0 rfl (ev_move rfl) rfl ?_
            refine At.c2 rfl ?_ ?_
            · intro w0
              refine At.split rfl rfl rfl (fun _ => ?_) (fun h => absurd h (by first | decide | simp))
              refine At.callq (goes_func cf61 rfl) (Qc.pure (law22_Usual)) rfl ?_
              refine At.nil ?_
              refine At.cn (fun h => absurd h (by decide)) ?_
              refine At.c2 rfl ?_ ?_
              · intro w0
                refine At.split rfl rfl rfl (fun _ => ?_) (fun h => absurd h (by first | decide | simp))
                refine At.ev (ldA T.ld26 rfl) rfl ?_
                refine At.nil ?_
                refine At.cn (fun h => absurd h (by decide)) ?_
                refine At.c2 rfl ?_ ?_
                · intro w0
                  refine At.ungd (s := 16) (b := true) (i := 17) rfl rfl ?_
                  refine At.ungd (s := 16) (b := true) (i := 18) rfl rfl ?_
                  refine At.split rfl rfl rfl (fun _ => ?_) (fun h => absurd h (by first | decide | simp))
                  refine At.callq (goes_func cf28 rfl) (Qc.cast (Qc.stay (flow_Steps usual lp (lp.cs (some ⟨bo, 0, none⟩) 3))) (congrArg (Value.int .i64) lp_steps)) rfl ?_
                  refine At.nil ?_
                  refine At.cn (fun h => absurd h (by decide)) ?_
                  refine At.c0g rfl rfl rfl (fun hg => (Ev.cast (v' := .bool true) (ev_eqi rfl rfl) rfl)) rfl rfl ?_
                  refine At.c0 rfl (ev_pickT rfl rfl rfl) rfl ?_
                  refine At.c0 rfl (ev_move rfl) rfl ?_
                  refine At.c2 rfl ?_ ?_
                  · intro w0
                    refine At.split rfl rfl rfl (fun _ => ?_) (fun h => absurd h (by first | decide | simp))
                    refine At.callq (goes_func cf61 rfl) (Qc.pure (law22_Usual)) rfl ?_
                    refine At.nil ?_
                    refine At.cn (fun h => absurd h (by decide)) ?_
                    refine At.c2 rfl ?_ ?_
                    · intro w0
                      refine At.split rfl rfl rfl (fun _ => ?_) (fun h => absurd h (by first | decide | simp))
                      refine At.ev (ldA T.ld26 rfl) rfl ?_
                      refine At.nil ?_
                      refine At.cn (fun h => absurd h (by decide)) ?_
                      refine At.c2 rfl ?_ ?_
                      · intro w0
                        refine At.ungd (s := 22) (b := true) (i := 23) rfl rfl ?_
                        refine At.ungd (s := 22) (b := true) (i := 24) rfl rfl ?_
                        refine At.split rfl rfl rfl (fun _ => ?_) (fun h => absurd h (by first | decide | simp))
                        refine At.callq (goes_func cf29 rfl) (Qc.cast (Qc.stay (flow_Most usual lp (lp.cs (some ⟨bo, 0, none⟩) 3))) (congrArg (Value.int .i64) lp_most)) rfl ?_
                        refine At.nil ?_
                        refine At.cn (fun h => absurd h (by decide)) ?_
                        refine At.c0g rfl rfl rfl (fun hg => (Ev.cast (v' := .bool true) (ev_eqi rfl rfl) rfl)) rfl rfl ?_
                        refine At.c0 rfl (ev_pickT rfl rfl rfl) rfl ?_
                        refine At.c0 rfl (ev_assign rfl) rfl ?_
                        refine At.cnil ?_
                        refine At.thenN ?_
                        refine At.retC ?_
                        refine At.ret (rs := [.tmp 0]) rfl (Res.tmp rfl Res.nil) ?_
                        exact Imp.pur rfl (Imp.nil _)
                      exact At.cstop
                    exact At.cstop
                  refine At.c2 rfl ?_ ?_
                  · intro w0
                    refine At.split rfl rfl rfl (fun _ => ?_) (fun h => absurd h (by first | decide | simp))
                    refine At.ev (ldA T.ld26 rfl) rfl ?_
                    refine At.nil ?_
                    refine At.cn (fun h => absurd h (by decide)) ?_
                    refine At.c2 rfl ?_ ?_
                    · intro w0
                      refine At.split rfl rfl rfl (fun _ => ?_) (fun h => absurd h (by first | decide | simp))
                      refine At.callq (goes_func cf61 rfl) (Qc.pure (law22_Usual)) rfl ?_
                      refine At.nil ?_
                      refine At.cn (fun h => absurd h (by decide)) ?_
                      refine At.c2 rfl ?_ ?_
                      · intro w0
                        refine At.ungd (s := 22) (b := true) (i := 23) rfl rfl ?_
                        refine At.ungd (s := 22) (b := true) (i := 24) rfl rfl ?_
                        refine At.split rfl rfl rfl (fun _ => ?_) (fun h => absurd h (by first | decide | simp))
                        refine At.callq (goes_func cf29 rfl) (Qc.cast (Qc.stay (flow_Most usual lp (lp.cs (some ⟨bo, 0, none⟩) 3))) (congrArg (Value.int .i64) lp_most)) rfl ?_
                        refine At.nil ?_
                        refine At.cn (fun h => absurd h (by decide)) ?_
                        refine At.c0g rfl rfl rfl (fun hg => (Ev.cast (v' := .bool true) (ev_eqi rfl rfl) rfl)) rfl rfl ?_
                        refine At.c0 rfl (ev_pickT rfl rfl rfl) rfl ?_
                        refine At.c0 rfl (ev_assign rfl) rfl ?_
                        refine At.cnil ?_
                        refine At.thenN ?_
                        refine At.retC ?_
                        refine At.ret (rs := [.tmp 0]) rfl (Res.tmp rfl Res.nil) ?_
                        exact Imp.pur rfl (Imp.nil _)
                      exact At.cstop
                    exact At.cstop
                  exact At.cstop
                exact At.cstop
              exact At.cstop
            refine At.c2 rfl ?_ ?_
            · intro w0
              refine At.split rfl rfl rfl (fun _ => ?_) (fun h => absurd h (by first | decide | simp))
              refine At.ev (ldA T.ld26 rfl) rfl ?_
              refine At.nil ?_
              refine At.cn (fun h => absurd h (by decide)) ?_
              refine At.c2 rfl ?_ ?_
              · intro w0
                refine At.split rfl rfl rfl (fun _ => ?_) (fun h => absurd h (by first | decide | simp))
                refine At.callq (goes_func cf61 rfl) (Qc.pure (law22_Usual)) rfl ?_
                refine At.nil ?_
                refine At.cn (fun h => absurd h (by decide)) ?_
                refine At.c2 rfl ?_ ?_
                · intro w0
                  refine At.ungd (s := 16) (b := true) (i := 17) rfl rfl ?_
                  refine At.ungd (s := 16) (b := true) (i := 18) rfl rfl ?_
                  refine At.split rfl rfl rfl (fun _ => ?_) (fun h => absurd h (by first | decide | simp))
                  refine At.callq (goes_func cf28 rfl) (Qc.cast (Qc.stay (flow_Steps usual lp (lp.cs (some ⟨bo, 0, none⟩) 3))) (congrArg (Value.int .i64) lp_steps)) rfl ?_
                  refine At.nil ?_
                  refine At.cn (fun h => absurd h (by decide)) ?_
                  refine At.c0g rfl rfl rfl (fun hg => (Ev.cast (v' := .bool true) (ev_eqi rfl rfl) rfl)) rfl rfl ?_
                  refine At.c0 rfl (ev_pickT rfl rfl rfl) rfl ?_
                  refine At.c0 rfl (ev_move rfl) rfl ?_
                  refine At.c2 rfl ?_ ?_
                  · intro w0
                    refine At.split rfl rfl rfl (fun _ => ?_) (fun h => absurd h (by first | decide | simp))
                    refine At.callq (goes_func cf61 rfl) (Qc.pure (law22_Usual)) rfl ?_
                    refine At.nil ?_
                    refine At.cn (fun h => absurd h (by decide)) ?_
                    refine At.c2 rfl ?_ ?_
                    · intro w0
                      refine At.split rfl rfl rfl (fun _ => ?_) (fun h => absurd h (by first | decide | simp))
                      refine At.ev (ldA T.ld26 rfl) rfl ?_
                      refine At.nil ?_
                      refine At.cn (fun h => absurd h (by decide)) ?_
                      refine At.c2 rfl ?_ ?_
                      · intro w0
                        refine At.ungd (s := 22) (b := true) (i := 23) rfl rfl ?_
                        refine At.ungd (s := 22) (b := true) (i := 24) rfl rfl ?_
                        refine At.split rfl rfl rfl (fun _ => ?_) (fun h => absurd h (by first | decide | simp))
                        refine At.callq (goes_func cf29 rfl) (Qc.cast (Qc.stay (flow_Most usual lp (lp.cs (some ⟨bo, 0, none⟩) 3))) (congrArg (Value.int .i64) lp_most)) rfl ?_
                        refine At.nil ?_
                        refine At.cn (fun h => absurd h (by decide)) ?_
                        refine At.c0g rfl rfl rfl (fun hg => (Ev.cast (v' := .bool true) (ev_eqi rfl rfl) rfl)) rfl rfl ?_
                        refine At.c0 rfl (ev_pickT rfl rfl rfl) rfl ?_
                        refine At.c0 rfl (ev_assign rfl) rfl ?_
                        refine At.cnil ?_
                        refine At.thenN ?_
                        refine At.retC ?_
                        refine At.ret (rs := [.tmp 0]) rfl (Res.tmp rfl Res.nil) ?_
                        exact Imp.pur rfl (Imp.nil _)
                      exact At.cstop
                    exact At.cstop
                  refine At.c2 rfl ?_ ?_
                  · intro w0
                    refine At.split rfl rfl rfl (fun _ => ?_) (fun h => absurd h (by first | decide | simp))
                    refine At.ev (ldA T.ld26 rfl) rfl ?_
                    refine At.nil ?_
                    refine At.cn (fun h => absurd h (by decide)) ?_
                    refine At.c2 rfl ?_ ?_
                    · intro w0
                      refine At.split rfl rfl rfl (fun _ => ?_) (fun h => absurd h (by first | decide | simp))
                      refine At.callq (goes_func cf61 rfl) (Qc.pure (law22_Usual)) rfl ?_
                      refine At.nil ?_
                      refine At.cn (fun h => absurd h (by decide)) ?_
                      refine At.c2 rfl ?_ ?_
                      · intro w0
                        refine At.ungd (s := 22) (b := true) (i := 23) rfl rfl ?_
                        refine At.ungd (s := 22) (b := true) (i := 24) rfl rfl ?_
                        refine At.split rfl rfl rfl (fun _ => ?_) (fun h => absurd h (by first | decide | simp))
                        refine At.callq (goes_func cf29 rfl) (Qc.cast (Qc.stay (flow_Most usual lp (lp.cs (some ⟨bo, 0, none⟩) 3))) (congrArg (Value.int .i64) lp_most)) rfl ?_
                        refine At.nil ?_
                        refine At.cn (fun h => absurd h (by decide)) ?_
                        refine At.c0g rfl rfl rfl (fun hg => (Ev.cast (v' := .bool true) (ev_eqi rfl rfl) rfl)) rfl rfl ?_
                        refine At.c0 rfl (ev_pickT rfl rfl rfl) rfl ?_
                        refine At.c0 rfl (ev_assign rfl) rfl ?_
                        refine At.cnil ?_
                        refine At.thenN ?_
                        refine At.retC ?_
                        refine At.ret (rs := [.tmp 0]) rfl (Res.tmp rfl Res.nil) ?_
                        exact Imp.pur rfl (Imp.nil _)
                      exact At.cstop
                    exact At.cstop
                  exact At.cstop
                exact At.cstop
              exact At.cstop
            exact At.cstop
          exact At.cstop
        exact At.cstop
      exact At.cstop
    exact At.cstop
  exact At.cstop

/-- repartee/reparteelaw24.FlowCounts -/
theorem law24_FlowCounts (s : Setup) (p : Prog) (cs : List Value) : Does Tryz.prog 5 [.agg s.cs.toArray, .agg cs.toArray] [per (relP p cs)] (fun v => pur (v = .bool true)) := by
  refine Does.enter Tryz.func5 rfl rfl ?_
  intro E
  refine openProg (x := p) (by repeat (first | with_reducible exact Mem.head _ _ | apply Mem.tail)) ?_
  intro hp ap0 cp0 hcp0 e
  subst e
  refine At.seq ?_
  refine At.region ?_
  refine At.boxA rfl ?_
  intro bs
  refine At.boxA rfl ?_
  intro bp
  refine At.ev (ev_assign rfl) rfl ?_
  refine At.nil ?_
  refine At.thenN ?_
  refine At.seq ?_
  refine At.region ?_
  refine At.ev (ldA T.ld26 rfl) rfl ?_
  refine At.do (goes_func cf26 rfl) (law13_Few p (p.cs ap0 cp0) 10 (by decide)) ?_
  intro _
  refine At.ag ?_
  rintro csn rfl
  refine openProg (x := p.few 10) (by repeat (first | with_reducible exact Mem.head _ _ | apply Mem.tail)) ?_
  intro hq ap cp hcp e
  subst e
  refine At.stA T.sz26 rfl rfl rfl ?_ (cs' := ((p.few 10).cs ap cp))
  refine At.nil ?_
  refine At.thenN ?_
  refine At.seq ?_
  refine At.region ?_
  refine At.ev (ldA T.ld23 rfl) rfl ?_
  refine At.ev (ldA T.ld26 rfl) rfl ?_
  refine At.callq (goes_func cf27 rfl) (Qc.stay (r24_Steps _ _ _)) rfl ?_
  refine At.ev (ev_assign rfl) rfl ?_
  refine At.nil ?_
  refine At.thenN ?_
  refine At.seq ?_
  refine At.drawH (.q1 0 (.q1 1 (.q0 4 (.br 2 (.br 3 (.q0 5 (.q0 6 (.q0 11 (.q0 12 (.q0 13 (.q0 17 (.br 7 (.br 8 (.br 9 (.br 10 (.br 14 (.q0 15 (.q0 16 (.br 18 (.q0 19 (.q0 20 (.q0 21 (.q0 22 (.br 23 (.q0 24 (.q0 25 (.nil))) (.stop)))))) (.stop)))) (.br 18 (.br 14 (.q0 15 (.q0 16 (.q0 19 (.q0 20 (.q0 21 (.q0 22 (.br 23 (.q0 24 (.q0 25 (.nil))) (.stop)))))))) (.stop)) (.stop))) (.br 14 (.q0 15 (.q0 16 (.br 10 (.br 18 (.q0 19 (.q0 20 (.q0 21 (.q0 22 (.br 23 (.q0 24 (.q0 25 (.nil))) (.stop)))))) (.stop)) (.stop)))) (.stop))) (.br 14 (.q0 15 (.q0 16 (.br 9 (.br 10 (.br 18 (.q0 19 (.q0 20 (.q0 21 (.q0 22 (.br 23 (.q0 24 (.q0 25 (.nil))) (.stop)))))) (.stop)) (.stop)) (.stop)))) (.stop))) (.br 14 (.q0 15 (.q0 16 (.br 8 (.br 9 (.br 10 (.br 18 (.q0 19 (.q0 20 (.q0 21 (.q0 22 (.br 23 (.q0 24 (.q0 25 (.nil))) (.stop)))))) (.stop)) (.stop)) (.stop)) (.stop)))) (.stop))) (.br 8 (.br 7 (.br 9 (.br 10 (.br 14 (.q0 15 (.q0 16 (.br 18 (.q0 19 (.q0 20 (.q0 21 (.q0 22 (.br 23 (.q0 24 (.q0 25 (.nil))) (.stop)))))) (.stop)))) (.br 18 (.br 14 (.q0 15 (.q0 16 (.q0 19 (.q0 20 (.q0 21 (.q0 22 (.br 23 (.q0 24 (.q0 25 (.nil))) (.stop)))))))) (.stop)) (.stop))) (.br 14 (.q0 15 (.q0 16 (.br 10 (.br 18 (.q0 19 (.q0 20 (.q0 21 (.q0 22 (.br 23 (.q0 24 (.q0 25 (.nil))) (.stop)))))) (.stop)) (.stop)))) (.stop))) (.br 14 (.q0 15 (.q0 16 (.br 9 (.br 10 (.br 18 (.q0 19 (.q0 20 (.q0 21 (.q0 22 (.br 23 (.q0 24 (.q0 25 (.nil))) (.stop)))))) (.stop)) (.stop)) (.stop)))) (.stop))) (.br 9 (.br 7 (.br 10 (.br 14 (.q0 15 (.q0 16 (.br 18 (.q0 19 (.q0 20 (.q0 21 (.q0 22 (.br 23 (.q0 24 (.q0 25 (.nil))) (.stop)))))) (.stop)))) (.br 18 (.br 14 (.q0 15 (.q0 16 (.q0 19 (.q0 20 (.q0 21 (.q0 22 (.br 23 (.q0 24 (.q0 25 (.nil))) (.stop)))))))) (.stop)) (.stop))) (.br 14 (.q0 15 (.q0 16 (.br 10 (.br 18 (.q0 19 (.q0 20 (.q0 21 (.q0 22 (.br 23 (.q0 24 (.q0 25 (.nil))) (.stop)))))) (.stop)) (.stop)))) (.stop))) (.br 14 (.q0 15 (.q0 16 (.br 7 (.br 10 (.br 18 (.q0 19 (.q0 20 (.q0 21 (.q0 22 (.br 23 (.q0 24 (.q0 25 (.nil))) (.stop)))))) (.stop)) (.stop)) (.stop)))) (.stop))) (.br 14 (.q0 15 (.q0 16 (.br 7 (.br 9 (.br 10 (.br 18 (.q0 19 (.q0 20 (.q0 21 (.q0 22 (.br 23 (.q0 24 (.q0 25 (.nil))) (.stop)))))) (.stop)) (.stop)) (.stop)) (.br 9 (.br 7 (.br 10 (.br 18 (.q0 19 (.q0 20 (.q0 21 (.q0 22 (.br 23 (.q0 24 (.q0 25 (.nil))) (.stop)))))) (.stop)) (.stop)) (.stop)) (.stop))))) (.stop)))) (.br 14 (.q0 15 (.q0 16 (.br 7 (.br 8 (.br 9 (.br 10 (.br 18 (.q0 19 (.q0 20 (.q0 21 (.q0 22 (.br 23 (.q0 24 (.q0 25 (.nil))) (.stop)))))) (.stop)) (.stop)) (.stop)) (.stop)) (.br 8 (.br 7 (.br 9 (.br 10 (.br 18 (.q0 19 (.q0 20 (.q0 21 (.q0 22 (.br 23 (.q0 24 (.q0 25 (.nil))) (.stop)))))) (.stop)) (.stop)) (.stop)) (.br 9 (.br 7 (.br 10 (.br 18 (.q0 19 (.q0 20 (.q0 21 (.q0 22 (.br 23 (.q0 24 (.q0 25 (.nil))) (.stop)))))) (.stop)) (.stop)) (.stop)) (.stop))) (.stop))))) (.stop)))))))))) (.stop)) (.stop))))) (fun j => !([3, 7, 8, 9, 10, 14, 18, 23] : List Nat).contains j) mixed (by kernel_rfl) (by kernel_rfl) (NoP.thn NoP.body) ?_
  refine At.c1 rfl (Imp.refl _) (ldA T.ld23 rfl) rfl ?_
  refine At.c1 rfl (Imp.refl _) (ldA T.ld26 rfl) rfl ?_
  refine At.c0 rfl (ev_move rfl) rfl ?_
  refine At.c2 rfl ?_ ?_
  · intro w0
    refine At.do (goes_func cf26 rfl) (law13_Few (p.few 10) ((p.few 10).cs ap cp) 10 (by decide)) ?_
    intro _
    refine At.ag ?_
    rintro csn rfl
    rw [Prog.few_few]
    refine At.nil ?_
    refine At.cn (fun _ => ?_) ?_
    · first | exact Imp.refl _ | exact fun _ _ h => h.drop | exact fun _ _ h => h.drop.drop | exact fun _ _ h => h.drop.drop.drop | exact fun _ _ h => h.drop.drop.drop.drop | (repeat (first | exact Imp.nil _ | (with_reducible apply Imp.per; · repeat (first | with_reducible exact Mem.head _ _ | apply Mem.tail)) | (with_reducible apply Imp.one; · repeat (first | with_reducible exact At1.head _ _ | apply At1.tail))))
    refine At.c2 rfl ?_ ?_
    · intro w0
      refine At.callq (goes_func cf28 rfl) (Qc.cast (Qc.stay (flow_Steps s (p.few 10) csn)) (congrArg (Value.int .i64) (steps_eq s (p.few 10)))) rfl ?_
      refine At.nil ?_
      refine At.cn (fun h => absurd h (by decide)) ?_
      refine At.c0 rfl (Ev.cast (v' := .bool true) (ev_eqi rfl rfl) (by simp)) rfl ?_
      refine At.c0 rfl (ev_move rfl) rfl ?_
      refine At.c0g rfl rfl rfl (fun hg => (ev_move rfl)) rfl rfl ?_
      have hnb := stepsP_b s (p.few 10)
      rw [steps_eq] at hnb
      refine At.c0g rfl rfl rfl (fun hg => (ev_mul rfl rfl (by first | omega | decide | (simp at hg; omega) | (simp at hl hg; omega) | (simp at hg ⊢; omega)))) rfl rfl ?_
      refine At.c0g rfl rfl rfl (fun hg => (ev_fa T.fa26_2 rfl)) rfl rfl ?_
      refine At.c0g rfl rfl rfl (fun hg => (ev_move rfl)) rfl rfl ?_
      refine At.c2 rfl ?_ ?_
      · intro w0
        refine At.split rfl rfl rfl (fun _ => ?_) (fun h => absurd h (by first | decide | simp))
        refine At.ev (ldA T.ld23 rfl) rfl ?_
        refine At.nil ?_
        refine At.cn (fun h => absurd h (by decide)) ?_
        refine At.c2 rfl ?_ ?_
        · intro w0
          refine At.split rfl rfl rfl (fun _ => ?_) (fun h => absurd h (by first | decide | simp))
          refine At.ev (ldA T.ld26 rfl) rfl ?_
          refine At.nil ?_
          refine At.cn (fun h => absurd h (by decide)) ?_
          refine At.c2 rfl ?_ ?_
          · intro w0
            refine At.ungd (s := 17) (b := true) (i := 19) rfl rfl ?_
            refine At.split rfl rfl rfl (fun _ => ?_) (fun h => absurd h (by first | decide | simp))
            refine At.do (goes_func cf26 rfl) (law13_Few (p.few 10) ((p.few 10).cs ap cp) 10 (by decide)) ?_
            intro _
            refine At.ag ?_
            rintro csm rfl
            rw [Prog.few_few]
            refine At.nil ?_
            refine At.cn (fun h => absurd h (by decide)) ?_
            refine At.c2 rfl ?_ ?_
            · intro w0
              refine At.ungd (s := 17) (b := true) (i := 18) rfl rfl ?_
              refine At.ungd (s := 17) (b := true) (i := 20) rfl rfl ?_
              refine At.split rfl rfl rfl (fun _ => ?_) (fun h => absurd h (by first | decide | simp))
              refine At.callq (goes_func cf29 rfl) (Qc.cast (Qc.stay (flow_Most s (p.few 10) csm)) (congrArg (Value.int .i64) (flow_sum s (p.few 10)))) rfl ?_
              refine At.nil ?_
              refine At.cn (fun h => absurd h (by decide)) ?_
              refine At.c2 rfl ?_ ?_
              · intro w0
                refine At.ungd (s := 17) (b := true) (i := 24) rfl rfl ?_
                refine At.split rfl rfl rfl (fun _ => ?_) (fun h => absurd h (by first | decide | simp))
                refine At.ev (ld T.ld3 rfl) rfl ?_
                refine At.nil ?_
                refine At.cn (fun h => absurd h (by decide)) ?_
                refine At.c0g rfl rfl rfl (fun hg => (ev_addw rfl rfl)) rfl rfl ?_
                refine At.c0g rfl rfl rfl (fun hg => (ev_mulw rfl rfl)) rfl rfl ?_
                refine At.c2 rfl ?_ ?_
                · intro w0
                  refine At.ungd (s := 17) (b := true) (i := 28) rfl rfl ?_
                  refine At.split rfl rfl rfl (fun _ => ?_) (fun h => absurd h (by first | decide | simp))
                  refine At.callq (goes_func cf30 rfl) (Qc.pure (law24_one _)) rfl ?_
                  refine At.nil ?_
                  refine At.cn (fun h => absurd h (by decide)) ?_
                  refine At.c0g rfl rfl rfl (fun hg => (ev_mulw rfl rfl)) rfl rfl ?_
                  refine At.c0g rfl rfl rfl (fun hg => (Ev.cast (v' := .bool true) (ev_eqi rfl rfl) (by simp))) rfl rfl ?_
                  refine At.c0 rfl (ev_pickT rfl rfl rfl) rfl ?_
                  refine At.c0 rfl (ev_move rfl) rfl ?_
                  refine At.c2 rfl ?_ ?_
                  · intro w0
                    refine At.split rfl rfl rfl (fun _ => ?_) (fun h => absurd h (by first | decide | simp))
                    refine At.callq (goes_func cf31 rfl) (Qc.pure (law24_lives)) rfl ?_
                    refine At.nil ?_
                    refine At.cn (fun h => absurd h (by decide)) ?_
                    refine At.c0 rfl (ev_pickT rfl rfl rfl) rfl ?_
                    refine At.c0 rfl (ev_assign rfl) rfl ?_
                    refine At.cnil ?_
                    refine At.thenN ?_
                    refine At.retC ?_
                    refine At.ret (rs := [.tmp 4]) rfl (Res.tmp rfl Res.nil) ?_
                    exact Imp.pur rfl (Imp.nil _)
                  exact At.cstop
                exact At.cstop
              refine At.c2 rfl ?_ ?_
              · intro w0
                refine At.ungd (s := 17) (b := true) (i := 28) rfl rfl ?_
                refine At.split rfl rfl rfl (fun _ => ?_) (fun h => absurd h (by first | decide | simp))
                refine At.callq (goes_func cf30 rfl) (Qc.pure (law24_one _)) rfl ?_
                refine At.nil ?_
                refine At.cn (fun h => absurd h (by decide)) ?_
                refine At.c2 rfl ?_ ?_
                · intro w0
                  refine At.ungd (s := 17) (b := true) (i := 24) rfl rfl ?_
                  refine At.split rfl rfl rfl (fun _ => ?_) (fun h => absurd h (by first | decide | simp))
                  refine At.ev (ld T.ld3 rfl) rfl ?_
                  refine At.nil ?_
                  refine At.cn (fun h => absurd h (by decide)) ?_
                  refine At.c0g rfl rfl rfl (fun hg => (ev_addw rfl rfl)) rfl rfl ?_
                  refine At.c0g rfl rfl rfl (fun hg => (ev_mulw rfl rfl)) rfl rfl ?_
                  refine At.c0g rfl rfl rfl (fun hg => (ev_mulw rfl rfl)) rfl rfl ?_
                  refine At.c0g rfl rfl rfl (fun hg => (Ev.cast (v' := .bool true) (ev_eqi rfl rfl) (by simp))) rfl rfl ?_
                  refine At.c0 rfl (ev_pickT rfl rfl rfl) rfl ?_
                  refine At.c0 rfl (ev_move rfl) rfl ?_
                  refine At.c2 rfl ?_ ?_
                  · intro w0
                    refine At.split rfl rfl rfl (fun _ => ?_) (fun h => absurd h (by first | decide | simp))
                    refine At.callq (goes_func cf31 rfl) (Qc.pure (law24_lives)) rfl ?_
                    refine At.nil ?_
                    refine At.cn (fun h => absurd h (by decide)) ?_
                    refine At.c0 rfl (ev_pickT rfl rfl rfl) rfl ?_
                    refine At.c0 rfl (ev_assign rfl) rfl ?_
                    refine At.cnil ?_
                    refine At.thenN ?_
                    refine At.retC ?_
                    refine At.ret (rs := [.tmp 4]) rfl (Res.tmp rfl Res.nil) ?_
                    exact Imp.pur rfl (Imp.nil _)
                  exact At.cstop
                exact At.cstop
              exact At.cstop
            refine At.c2 rfl ?_ ?_
            · intro w0
              refine At.ungd (s := 17) (b := true) (i := 24) rfl rfl ?_
              refine At.split rfl rfl rfl (fun _ => ?_) (fun h => absurd h (by first | decide | simp))
              refine At.ev (ld T.ld3 rfl) rfl ?_
              refine At.nil ?_
              refine At.cn (fun h => absurd h (by decide)) ?_
              refine At.c0g rfl rfl rfl (fun hg => (ev_addw rfl rfl)) rfl rfl ?_
              refine At.c0g rfl rfl rfl (fun hg => (ev_mulw rfl rfl)) rfl rfl ?_
              refine At.c2 rfl ?_ ?_
              · intro w0
                refine At.ungd (s := 17) (b := true) (i := 18) rfl rfl ?_
                refine At.ungd (s := 17) (b := true) (i := 20) rfl rfl ?_
                refine At.split rfl rfl rfl (fun _ => ?_) (fun h => absurd h (by first | decide | simp))
                refine At.callq (goes_func cf29 rfl) (Qc.cast (Qc.stay (flow_Most s (p.few 10) csm)) (congrArg (Value.int .i64) (flow_sum s (p.few 10)))) rfl ?_
                refine At.nil ?_
                refine At.cn (fun h => absurd h (by decide)) ?_
                refine At.c2 rfl ?_ ?_
                · intro w0
                  refine At.ungd (s := 17) (b := true) (i := 28) rfl rfl ?_
                  refine At.split rfl rfl rfl (fun _ => ?_) (fun h => absurd h (by first | decide | simp))
                  refine At.callq (goes_func cf30 rfl) (Qc.pure (law24_one _)) rfl ?_
                  refine At.nil ?_
                  refine At.cn (fun h => absurd h (by decide)) ?_
                  refine At.c0g rfl rfl rfl (fun hg => (ev_mulw rfl rfl)) rfl rfl ?_
                  refine At.c0g rfl rfl rfl (fun hg => (Ev.cast (v' := .bool true) (ev_eqi rfl rfl) (by simp))) rfl rfl ?_
                  refine At.c0 rfl (ev_pickT rfl rfl rfl) rfl ?_
                  refine At.c0 rfl (ev_move rfl) rfl ?_
                  refine At.c2 rfl ?_ ?_
                  · intro w0
                    refine At.split rfl rfl rfl (fun _ => ?_) (fun h => absurd h (by first | decide | simp))
                    refine At.callq (goes_func cf31 rfl) (Qc.pure (law24_lives)) rfl ?_
                    refine At.nil ?_
                    refine At.cn (fun h => absurd h (by decide)) ?_
                    refine At.c0 rfl (ev_pickT rfl rfl rfl) rfl ?_
                    refine At.c0 rfl (ev_assign rfl) rfl ?_
                    refine At.cnil ?_
                    refine At.thenN ?_
                    refine At.retC ?_
                    refine At.ret (rs := [.tmp 4]) rfl (Res.tmp rfl Res.nil) ?_
                    exact Imp.pur rfl (Imp.nil _)
                  exact At.cstop
                exact At.cstop
              exact At.cstop
            exact At.cstop
          refine At.c2 rfl ?_ ?_
          · intro w0
            refine At.ungd (s := 17) (b := true) (i := 24) rfl rfl ?_
            refine At.split rfl rfl rfl (fun _ => ?_) (fun h => absurd h (by first | decide | simp))
            refine At.ev (ld T.ld3 rfl) rfl ?_
            refine At.nil ?_
            refine At.cn (fun h => absurd h (by decide)) ?_
            refine At.c0g rfl rfl rfl (fun hg => (ev_addw rfl rfl)) rfl rfl ?_
            refine At.c0g rfl rfl rfl (fun hg => (ev_mulw rfl rfl)) rfl rfl ?_
            refine At.c2 rfl ?_ ?_
            · intro w0
              refine At.ungd (s := 17) (b := true) (i := 19) rfl rfl ?_
              refine At.split rfl rfl rfl (fun _ => ?_) (fun h => absurd h (by first | decide | simp))
              refine At.do (goes_func cf26 rfl) (law13_Few (p.few 10) ((p.few 10).cs ap cp) 10 (by decide)) ?_
              intro _
              refine At.ag ?_
              rintro csm rfl
              rw [Prog.few_few]
              refine At.nil ?_
              refine At.cn (fun h => absurd h (by decide)) ?_
              refine At.c2 rfl ?_ ?_
              · intro w0
                refine At.ungd (s := 17) (b := true) (i := 18) rfl rfl ?_
                refine At.ungd (s := 17) (b := true) (i := 20) rfl rfl ?_
                refine At.split rfl rfl rfl (fun _ => ?_) (fun h => absurd h (by first | decide | simp))
                refine At.callq (goes_func cf29 rfl) (Qc.cast (Qc.stay (flow_Most s (p.few 10) csm)) (congrArg (Value.int .i64) (flow_sum s (p.few 10)))) rfl ?_
                refine At.nil ?_
                refine At.cn (fun h => absurd h (by decide)) ?_
                refine At.c2 rfl ?_ ?_
                · intro w0
                  refine At.ungd (s := 17) (b := true) (i := 28) rfl rfl ?_
                  refine At.split rfl rfl rfl (fun _ => ?_) (fun h => absurd h (by first | decide | simp))
                  refine At.callq (goes_func cf30 rfl) (Qc.pure (law24_one _)) rfl ?_
                  refine At.nil ?_
                  refine At.cn (fun h => absurd h (by decide)) ?_
                  refine At.c0g rfl rfl rfl (fun hg => (ev_mulw rfl rfl)) rfl rfl ?_
                  refine At.c0g rfl rfl rfl (fun hg => (Ev.cast (v' := .bool true) (ev_eqi rfl rfl) (by simp))) rfl rfl ?_
                  refine At.c0 rfl (ev_pickT rfl rfl rfl) rfl ?_
                  refine At.c0 rfl (ev_move rfl) rfl ?_
                  refine At.c2 rfl ?_ ?_
                  · intro w0
                    refine At.split rfl rfl rfl (fun _ => ?_) (fun h => absurd h (by first | decide | simp))
                    refine At.callq (goes_func cf31 rfl) (Qc.pure (law24_lives)) rfl ?_
                    refine At.nil ?_
                    refine At.cn (fun h => absurd h (by decide)) ?_
                    refine At.c0 rfl (ev_pickT rfl rfl rfl) rfl ?_
                    refine At.c0 rfl (ev_assign rfl) rfl ?_
                    refine At.cnil ?_
                    refine At.thenN ?_
                    refine At.retC ?_
                    refine At.ret (rs := [.tmp 4]) rfl (Res.tmp rfl Res.nil) ?_
                    exact Imp.pur rfl (Imp.nil _)
                  exact At.cstop
                exact At.cstop
              exact At.cstop
            exact At.cstop
          exact At.cstop
        refine At.c2 rfl ?_ ?_
        · intro w0
          refine At.ungd (s := 17) (b := true) (i := 24) rfl rfl ?_
          refine At.split rfl rfl rfl (fun _ => ?_) (fun h => absurd h (by first | decide | simp))
          refine At.ev (ld T.ld3 rfl) rfl ?_
          refine At.nil ?_
          refine At.cn (fun h => absurd h (by decide)) ?_
          refine At.c0g rfl rfl rfl (fun hg => (ev_addw rfl rfl)) rfl rfl ?_
          refine At.c0g rfl rfl rfl (fun hg => (ev_mulw rfl rfl)) rfl rfl ?_
          refine At.c2 rfl ?_ ?_
          · intro w0
            refine At.split rfl rfl rfl (fun _ => ?_) (fun h => absurd h (by first | decide | simp))
            refine At.ev (ldA T.ld26 rfl) rfl ?_
            refine At.nil ?_
            refine At.cn (fun h => absurd h (by decide)) ?_
            refine At.c2 rfl ?_ ?_
            · intro w0
              refine At.ungd (s := 17) (b := true) (i := 19) rfl rfl ?_
              refine At.split rfl rfl rfl (fun _ => ?_) (fun h => absurd h (by first | decide | simp))
              refine At.do (goes_func cf26 rfl) (law13_Few (p.few 10) ((p.few 10).cs ap cp) 10 (by decide)) ?_
              intro _
              refine At.ag ?_
              rintro csm rfl
              rw [Prog.few_few]
              refine At.nil ?_
              refine At.cn (fun h => absurd h (by decide)) ?_
              refine At.c2 rfl ?_ ?_
              · intro w0
                refine At.ungd (s := 17) (b := true) (i := 18) rfl rfl ?_
                refine At.ungd (s := 17) (b := true) (i := 20) rfl rfl ?_
                refine At.split rfl rfl rfl (fun _ => ?_) (fun h => absurd h (by first | decide | simp))
                refine At.callq (goes_func cf29 rfl) (Qc.cast (Qc.stay (flow_Most s (p.few 10) csm)) (congrArg (Value.int .i64) (flow_sum s (p.few 10)))) rfl ?_
                refine At.nil ?_
                refine At.cn (fun h => absurd h (by decide)) ?_
                refine At.c2 rfl ?_ ?_
                · intro w0
                  refine At.ungd (s := 17) (b := true) (i := 28) rfl rfl ?_
                  refine At.split rfl rfl rfl (fun _ => ?_) (fun h => absurd h (by first | decide | simp))
                  refine At.callq (goes_func cf30 rfl) (Qc.pure (law24_one _)) rfl ?_
                  refine At.nil ?_
                  refine At.cn (fun h => absurd h (by decide)) ?_
                  refine At.c0g rfl rfl rfl (fun hg => (ev_mulw rfl rfl)) rfl rfl ?_
                  refine At.c0g rfl rfl rfl (fun hg => (Ev.cast (v' := .bool true) (ev_eqi rfl rfl) (by simp))) rfl rfl ?_
                  refine At.c0 rfl (ev_pickT rfl rfl rfl) rfl ?_
                  refine At.c0 rfl (ev_move rfl) rfl ?_
                  refine At.c2 rfl ?_ ?_
                  · intro w0
                    refine At.split rfl rfl rfl (fun _ => ?_) (fun h => absurd h (by first | decide | simp))
                    refine At.callq (goes_func cf31 rfl) (Qc.pure (law24_lives)) rfl ?_
                    refine At.nil ?_
                    refine At.cn (fun h => absurd h (by decide)) ?_
                    refine At.c0 rfl (ev_pickT rfl rfl rfl) rfl ?_
                    refine At.c0 rfl (ev_assign rfl) rfl ?_
                    refine At.cnil ?_
                    refine At.thenN ?_
                    refine At.retC ?_
                    refine At.ret (rs := [.tmp 4]) rfl (Res.tmp rfl Res.nil) ?_
                    exact Imp.pur rfl (Imp.nil _)
                  exact At.cstop
                exact At.cstop
              exact At.cstop
            exact At.cstop
          exact At.cstop
        exact At.cstop
      refine At.c2 rfl ?_ ?_
      · intro w0
        refine At.split rfl rfl rfl (fun _ => ?_) (fun h => absurd h (by first | decide | simp))
        refine At.ev (ldA T.ld26 rfl) rfl ?_
        refine At.nil ?_
        refine At.cn (fun h => absurd h (by decide)) ?_
        refine At.c2 rfl ?_ ?_
        · intro w0
          refine At.split rfl rfl rfl (fun _ => ?_) (fun h => absurd h (by first | decide | simp))
          refine At.ev (ldA T.ld23 rfl) rfl ?_
          refine At.nil ?_
          refine At.cn (fun h => absurd h (by decide)) ?_
          refine At.c2 rfl ?_ ?_
          · intro w0
            refine At.ungd (s := 17) (b := true) (i := 19) rfl rfl ?_
            refine At.split rfl rfl rfl (fun _ => ?_) (fun h => absurd h (by first | decide | simp))
            refine At.do (goes_func cf26 rfl) (law13_Few (p.few 10) ((p.few 10).cs ap cp) 10 (by decide)) ?_
            intro _
            refine At.ag ?_
            rintro csm rfl
            rw [Prog.few_few]
            refine At.nil ?_
            refine At.cn (fun h => absurd h (by decide)) ?_
            refine At.c2 rfl ?_ ?_
            · intro w0
              refine At.ungd (s := 17) (b := true) (i := 18) rfl rfl ?_
              refine At.ungd (s := 17) (b := true) (i := 20) rfl rfl ?_
              refine At.split rfl rfl rfl (fun _ => ?_) (fun h => absurd h (by first | decide | simp))
              refine At.callq (goes_func cf29 rfl) (Qc.cast (Qc.stay (flow_Most s (p.few 10) csm)) (congrArg (Value.int .i64) (flow_sum s (p.few 10)))) rfl ?_
              refine At.nil ?_
              refine At.cn (fun h => absurd h (by decide)) ?_
              refine At.c2 rfl ?_ ?_
              · intro w0
                refine At.ungd (s := 17) (b := true) (i := 24) rfl rfl ?_
                refine At.split rfl rfl rfl (fun _ => ?_) (fun h => absurd h (by first | decide | simp))
                refine At.ev (ld T.ld3 rfl) rfl ?_
                refine At.nil ?_
                refine At.cn (fun h => absurd h (by decide)) ?_
                refine At.c0g rfl rfl rfl (fun hg => (ev_addw rfl rfl)) rfl rfl ?_
                refine At.c0g rfl rfl rfl (fun hg => (ev_mulw rfl rfl)) rfl rfl ?_
                refine At.c2 rfl ?_ ?_
                · intro w0
                  refine At.ungd (s := 17) (b := true) (i := 28) rfl rfl ?_
                  refine At.split rfl rfl rfl (fun _ => ?_) (fun h => absurd h (by first | decide | simp))
                  refine At.callq (goes_func cf30 rfl) (Qc.pure (law24_one _)) rfl ?_
                  refine At.nil ?_
                  refine At.cn (fun h => absurd h (by decide)) ?_
                  refine At.c0g rfl rfl rfl (fun hg => (ev_mulw rfl rfl)) rfl rfl ?_
                  refine At.c0g rfl rfl rfl (fun hg => (Ev.cast (v' := .bool true) (ev_eqi rfl rfl) (by simp))) rfl rfl ?_
                  refine At.c0 rfl (ev_pickT rfl rfl rfl) rfl ?_
                  refine At.c0 rfl (ev_move rfl) rfl ?_
                  refine At.c2 rfl ?_ ?_
                  · intro w0
                    refine At.split rfl rfl rfl (fun _ => ?_) (fun h => absurd h (by first | decide | simp))
                    refine At.callq (goes_func cf31 rfl) (Qc.pure (law24_lives)) rfl ?_
                    refine At.nil ?_
                    refine At.cn (fun h => absurd h (by decide)) ?_
                    refine At.c0 rfl (ev_pickT rfl rfl rfl) rfl ?_
                    refine At.c0 rfl (ev_assign rfl) rfl ?_
                    refine At.cnil ?_
                    refine At.thenN ?_
                    refine At.retC ?_
                    refine At.ret (rs := [.tmp 4]) rfl (Res.tmp rfl Res.nil) ?_
                    exact Imp.pur rfl (Imp.nil _)
                  exact At.cstop
                exact At.cstop
              refine At.c2 rfl ?_ ?_
              · intro w0
                refine At.ungd (s := 17) (b := true) (i := 28) rfl rfl ?_
                refine At.split rfl rfl rfl (fun _ => ?_) (fun h => absurd h (by first | decide | simp))
                refine At.callq (goes_func cf30 rfl) (Qc.pure (law24_one _)) rfl ?_
                refine At.nil ?_
                refine At.cn (fun h => absurd h (by decide)) ?_
                refine At.c2 rfl ?_ ?_
                · intro w0
                  refine At.ungd (s := 17) (b := true) (i := 24) rfl rfl ?_
                  refine At.split rfl rfl rfl (fun _ => ?_) (fun h => absurd h (by first | decide | simp))
                  refine At.ev (ld T.ld3 rfl) rfl ?_
                  refine At.nil ?_
                  refine At.cn (fun h => absurd h (by decide)) ?_
                  refine At.c0g rfl rfl rfl (fun hg => (ev_addw rfl rfl)) rfl rfl ?_
                  refine At.c0g rfl rfl rfl (fun hg => (ev_mulw rfl rfl)) rfl rfl ?_
                  refine At.c0g rfl rfl rfl (fun hg => (ev_mulw rfl rfl)) rfl rfl ?_
                  refine At.c0g rfl rfl rfl (fun hg => (Ev.cast (v' := .bool true) (ev_eqi rfl rfl) (by simp))) rfl rfl ?_
                  refine At.c0 rfl (ev_pickT rfl rfl rfl) rfl ?_
                  refine At.c0 rfl (ev_move rfl) rfl ?_
                  refine At.c2 rfl ?_ ?_
                  · intro w0
                    refine At.split rfl rfl rfl (fun _ => ?_) (fun h => absurd h (by first | decide | simp))
                    refine At.callq (goes_func cf31 rfl) (Qc.pure (law24_lives)) rfl ?_
                    refine At.nil ?_
                    refine At.cn (fun h => absurd h (by decide)) ?_
                    refine At.c0 rfl (ev_pickT rfl rfl rfl) rfl ?_
                    refine At.c0 rfl (ev_assign rfl) rfl ?_
                    refine At.cnil ?_
                    refine At.thenN ?_
                    refine At.retC ?_
                    refine At.ret (rs := [.tmp 4]) rfl (Res.tmp rfl Res.nil) ?_
                    exact Imp.pur rfl (Imp.nil _)
                  exact At.cstop
                exact At.cstop
              exact At.cstop
            refine At.c2 rfl ?_ ?_
            · intro w0
              refine At.ungd (s := 17) (b := true) (i := 24) rfl rfl ?_
              refine At.split rfl rfl rfl (fun _ => ?_) (fun h => absurd h (by first | decide | simp))
              refine At.ev (ld T.ld3 rfl) rfl ?_
              refine At.nil ?_
              refine At.cn (fun h => absurd h (by decide)) ?_
              refine At.c0g rfl rfl rfl (fun hg => (ev_addw rfl rfl)) rfl rfl ?_
              refine At.c0g rfl rfl rfl (fun hg => (ev_mulw rfl rfl)) rfl rfl ?_
              refine At.c2 rfl ?_ ?_
              · intro w0
                refine At.ungd (s := 17) (b := true) (i := 18) rfl rfl ?_
                refine At.ungd (s := 17) (b := true) (i := 20) rfl rfl ?_
                refine At.split rfl rfl rfl (fun _ => ?_) (fun h => absurd h (by first | decide | simp))
                refine At.callq (goes_func cf29 rfl) (Qc.cast (Qc.stay (flow_Most s (p.few 10) csm)) (congrArg (Value.int .i64) (flow_sum s (p.few 10)))) rfl ?_
                refine At.nil ?_
                refine At.cn (fun h => absurd h (by decide)) ?_
                refine At.c2 rfl ?_ ?_
                · intro w0
                  refine At.ungd (s := 17) (b := true) (i := 28) rfl rfl ?_
                  refine At.split rfl rfl rfl (fun _ => ?_) (fun h => absurd h (by first | decide | simp))
                  refine At.callq (goes_func cf30 rfl) (Qc.pure (law24_one _)) rfl ?_
                  refine At.nil ?_
                  refine At.cn (fun h => absurd h (by decide)) ?_
                  refine At.c0g rfl rfl rfl (fun hg => (ev_mulw rfl rfl)) rfl rfl ?_
                  refine At.c0g rfl rfl rfl (fun hg => (Ev.cast (v' := .bool true) (ev_eqi rfl rfl) (by simp))) rfl rfl ?_
                  refine At.c0 rfl (ev_pickT rfl rfl rfl) rfl ?_
                  refine At.c0 rfl (ev_move rfl) rfl ?_
                  refine At.c2 rfl ?_ ?_
                  · intro w0
                    refine At.split rfl rfl rfl (fun _ => ?_) (fun h => absurd h (by first | decide | simp))
                    refine At.callq (goes_func cf31 rfl) (Qc.pure (law24_lives)) rfl ?_
                    refine At.nil ?_
                    refine At.cn (fun h => absurd h (by decide)) ?_
                    refine At.c0 rfl (ev_pickT rfl rfl rfl) rfl ?_
                    refine At.c0 rfl (ev_assign rfl) rfl ?_
                    refine At.cnil ?_
                    refine At.thenN ?_
                    refine At.retC ?_
                    refine At.ret (rs := [.tmp 4]) rfl (Res.tmp rfl Res.nil) ?_
                    exact Imp.pur rfl (Imp.nil _)
                  exact At.cstop
                exact At.cstop
              exact At.cstop
            exact At.cstop
          refine At.c2 rfl ?_ ?_
          · intro w0
            refine At.ungd (s := 17) (b := true) (i := 24) rfl rfl ?_
            refine At.split rfl rfl rfl (fun _ => ?_) (fun h => absurd h (by first | decide | simp))
            refine At.ev (ld T.ld3 rfl) rfl ?_
            refine At.nil ?_
            refine At.cn (fun h => absurd h (by decide)) ?_
            refine At.c0g rfl rfl rfl (fun hg => (ev_addw rfl rfl)) rfl rfl ?_
            refine At.c0g rfl rfl rfl (fun hg => (ev_mulw rfl rfl)) rfl rfl ?_
            refine At.c2 rfl ?_ ?_
            · intro w0
              refine At.ungd (s := 17) (b := true) (i := 19) rfl rfl ?_
              refine At.split rfl rfl rfl (fun _ => ?_) (fun h => absurd h (by first | decide | simp))
              refine At.do (goes_func cf26 rfl) (law13_Few (p.few 10) ((p.few 10).cs ap cp) 10 (by decide)) ?_
              intro _
              refine At.ag ?_
              rintro csm rfl
              rw [Prog.few_few]
              refine At.nil ?_
              refine At.cn (fun h => absurd h (by decide)) ?_
              refine At.c2 rfl ?_ ?_
              · intro w0
                refine At.ungd (s := 17) (b := true) (i := 18) rfl rfl ?_
                refine At.ungd (s := 17) (b := true) (i := 20) rfl rfl ?_
                refine At.split rfl rfl rfl (fun _ => ?_) (fun h => absurd h (by first | decide | simp))
                refine At.callq (goes_func cf29 rfl) (Qc.cast (Qc.stay (flow_Most s (p.few 10) csm)) (congrArg (Value.int .i64) (flow_sum s (p.few 10)))) rfl ?_
                refine At.nil ?_
                refine At.cn (fun h => absurd h (by decide)) ?_
                refine At.c2 rfl ?_ ?_
                · intro w0
                  refine At.ungd (s := 17) (b := true) (i := 28) rfl rfl ?_
                  refine At.split rfl rfl rfl (fun _ => ?_) (fun h => absurd h (by first | decide | simp))
                  refine At.callq (goes_func cf30 rfl) (Qc.pure (law24_one _)) rfl ?_
                  refine At.nil ?_
                  refine At.cn (fun h => absurd h (by decide)) ?_
                  refine At.c0g rfl rfl rfl (fun hg => (ev_mulw rfl rfl)) rfl rfl ?_
                  refine At.c0g rfl rfl rfl (fun hg => (Ev.cast (v' := .bool true) (ev_eqi rfl rfl) (by simp))) rfl rfl ?_
                  refine At.c0 rfl (ev_pickT rfl rfl rfl) rfl ?_
                  refine At.c0 rfl (ev_move rfl) rfl ?_
                  refine At.c2 rfl ?_ ?_
                  · intro w0
                    refine At.split rfl rfl rfl (fun _ => ?_) (fun h => absurd h (by first | decide | simp))
                    refine At.callq (goes_func cf31 rfl) (Qc.pure (law24_lives)) rfl ?_
                    refine At.nil ?_
                    refine At.cn (fun h => absurd h (by decide)) ?_
                    refine At.c0 rfl (ev_pickT rfl rfl rfl) rfl ?_
                    refine At.c0 rfl (ev_assign rfl) rfl ?_
                    refine At.cnil ?_
                    refine At.thenN ?_
                    refine At.retC ?_
                    refine At.ret (rs := [.tmp 4]) rfl (Res.tmp rfl Res.nil) ?_
                    exact Imp.pur rfl (Imp.nil _)
                  exact At.cstop
                exact At.cstop
              exact At.cstop
            exact At.cstop
          exact At.cstop
        refine At.c2 rfl ?_ ?_
        · intro w0
          refine At.ungd (s := 17) (b := true) (i := 19) rfl rfl ?_
          refine At.split rfl rfl rfl (fun _ => ?_) (fun h => absurd h (by first | decide | simp))
          refine At.do (goes_func cf26 rfl) (law13_Few (p.few 10) ((p.few 10).cs ap cp) 10 (by decide)) ?_
          intro _
          refine At.ag ?_
          rintro csm rfl
          rw [Prog.few_few]
          refine At.nil ?_
          refine At.cn (fun h => absurd h (by decide)) ?_
          refine At.c2 rfl ?_ ?_
          · intro w0
            refine At.split rfl rfl rfl (fun _ => ?_) (fun h => absurd h (by first | decide | simp))
            refine At.ev (ldA T.ld23 rfl) rfl ?_
            refine At.nil ?_
            refine At.cn (fun h => absurd h (by decide)) ?_
            refine At.c2 rfl ?_ ?_
            · intro w0
              refine At.ungd (s := 17) (b := true) (i := 18) rfl rfl ?_
              refine At.ungd (s := 17) (b := true) (i := 20) rfl rfl ?_
              refine At.split rfl rfl rfl (fun _ => ?_) (fun h => absurd h (by first | decide | simp))
              refine At.callq (goes_func cf29 rfl) (Qc.cast (Qc.stay (flow_Most s (p.few 10) csm)) (congrArg (Value.int .i64) (flow_sum s (p.few 10)))) rfl ?_
              refine At.nil ?_
              refine At.cn (fun h => absurd h (by decide)) ?_
              refine At.c2 rfl ?_ ?_
              · intro w0
                refine At.ungd (s := 17) (b := true) (i := 24) rfl rfl ?_
                refine At.split rfl rfl rfl (fun _ => ?_) (fun h => absurd h (by first | decide | simp))
                refine At.ev (ld T.ld3 rfl) rfl ?_
                refine At.nil ?_
                refine At.cn (fun h => absurd h (by decide)) ?_
                refine At.c0g rfl rfl rfl (fun hg => (ev_addw rfl rfl)) rfl rfl ?_
                refine At.c0g rfl rfl rfl (fun hg => (ev_mulw rfl rfl)) rfl rfl ?_
                refine At.c2 rfl ?_ ?_
                · intro w0
                  refine At.ungd (s := 17) (b := true) (i := 28) rfl rfl ?_
                  refine At.split rfl rfl rfl (fun _ => ?_) (fun h => absurd h (by first | decide | simp))
                  refine At.callq (goes_func cf30 rfl) (Qc.pure (law24_one _)) rfl ?_
                  refine At.nil ?_
                  refine At.cn (fun h => absurd h (by decide)) ?_
                  refine At.c0g rfl rfl rfl (fun hg => (ev_mulw rfl rfl)) rfl rfl ?_
                  refine At.c0g rfl rfl rfl (fun hg => (Ev.cast (v' := .bool true) (ev_eqi rfl rfl) (by simp))) rfl rfl ?_
                  refine At.c0 rfl (ev_pickT rfl rfl rfl) rfl ?_
                  refine At.c0 rfl (ev_move rfl) rfl ?_
                  refine At.c2 rfl ?_ ?_
                  · intro w0
                    refine At.split rfl rfl rfl (fun _ => ?_) (fun h => absurd h (by first | decide | simp))
                    refine At.callq (goes_func cf31 rfl) (Qc.pure (law24_lives)) rfl ?_
                    refine At.nil ?_
                    refine At.cn (fun h => absurd h (by decide)) ?_
                    refine At.c0 rfl (ev_pickT rfl rfl rfl) rfl ?_
                    refine At.c0 rfl (ev_assign rfl) rfl ?_
                    refine At.cnil ?_
                    refine At.thenN ?_
                    refine At.retC ?_
                    refine At.ret (rs := [.tmp 4]) rfl (Res.tmp rfl Res.nil) ?_
                    exact Imp.pur rfl (Imp.nil _)
                  exact At.cstop
                exact At.cstop
              refine At.c2 rfl ?_ ?_
              · intro w0
                refine At.ungd (s := 17) (b := true) (i := 28) rfl rfl ?_
                refine At.split rfl rfl rfl (fun _ => ?_) (fun h => absurd h (by first | decide | simp))
                refine At.callq (goes_func cf30 rfl) (Qc.pure (law24_one _)) rfl ?_
                refine At.nil ?_
                refine At.cn (fun h => absurd h (by decide)) ?_
                refine At.c2 rfl ?_ ?_
                · intro w0
                  refine At.ungd (s := 17) (b := true) (i := 24) rfl rfl ?_
                  refine At.split rfl rfl rfl (fun _ => ?_) (fun h => absurd h (by first | decide | simp))
                  refine At.ev (ld T.ld3 rfl) rfl ?_
                  refine At.nil ?_
                  refine At.cn (fun h => absurd h (by decide)) ?_
                  refine At.c0g rfl rfl rfl (fun hg => (ev_addw rfl rfl)) rfl rfl ?_
                  refine At.c0g rfl rfl rfl (fun hg => (ev_mulw rfl rfl)) rfl rfl ?_
                  refine At.c0g rfl rfl rfl (fun hg => (ev_mulw rfl rfl)) rfl rfl ?_
                  refine At.c0g rfl rfl rfl (fun hg => (Ev.cast (v' := .bool true) (ev_eqi rfl rfl) (by simp))) rfl rfl ?_
                  refine At.c0 rfl (ev_pickT rfl rfl rfl) rfl ?_
                  refine At.c0 rfl (ev_move rfl) rfl ?_
                  refine At.c2 rfl ?_ ?_
                  · intro w0
                    refine At.split rfl rfl rfl (fun _ => ?_) (fun h => absurd h (by first | decide | simp))
                    refine At.callq (goes_func cf31 rfl) (Qc.pure (law24_lives)) rfl ?_
                    refine At.nil ?_
                    refine At.cn (fun h => absurd h (by decide)) ?_
                    refine At.c0 rfl (ev_pickT rfl rfl rfl) rfl ?_
                    refine At.c0 rfl (ev_assign rfl) rfl ?_
                    refine At.cnil ?_
                    refine At.thenN ?_
                    refine At.retC ?_
                    refine At.ret (rs := [.tmp 4]) rfl (Res.tmp rfl Res.nil) ?_
                    exact Imp.pur rfl (Imp.nil _)
                  exact At.cstop
                exact At.cstop
              exact At.cstop
            refine At.c2 rfl ?_ ?_
            · intro w0
              refine At.ungd (s := 17) (b := true) (i := 24) rfl rfl ?_
              refine At.split rfl rfl rfl (fun _ => ?_) (fun h => absurd h (by first | decide | simp))
              refine At.ev (ld T.ld3 rfl) rfl ?_
              refine At.nil ?_
              refine At.cn (fun h => absurd h (by decide)) ?_
              refine At.c0g rfl rfl rfl (fun hg => (ev_addw rfl rfl)) rfl rfl ?_
              refine At.c0g rfl rfl rfl (fun hg => (ev_mulw rfl rfl)) rfl rfl ?_
              refine At.c2 rfl ?_ ?_
              · intro w0
                refine At.ungd (s := 17) (b := true) (i := 18) rfl rfl ?_
                refine At.ungd (s := 17) (b := true) (i := 20) rfl rfl ?_
                refine At.split rfl rfl rfl (fun _ => ?_) (fun h => absurd h (by first | decide | simp))
                refine At.callq (goes_func cf29 rfl) (Qc.cast (Qc.stay (flow_Most s (p.few 10) csm)) (congrArg (Value.int .i64) (flow_sum s (p.few 10)))) rfl ?_
                refine At.nil ?_
                refine At.cn (fun h => absurd h (by decide)) ?_
                refine At.c2 rfl ?_ ?_
                · intro w0
                  refine At.ungd (s := 17) (b := true) (i := 28) rfl rfl ?_
                  refine At.split rfl rfl rfl (fun _ => ?_) (fun h => absurd h (by first | decide | simp))
                  refine At.callq (goes_func cf30 rfl) (Qc.pure (law24_one _)) rfl ?_
                  refine At.nil ?_
                  refine At.cn (fun h => absurd h (by decide)) ?_
                  refine At.c0g rfl rfl rfl (fun hg => (ev_mulw rfl rfl)) rfl rfl ?_
                  refine At.c0g rfl rfl rfl (fun hg => (Ev.cast (v' := .bool true) (ev_eqi rfl rfl) (by simp))) rfl rfl ?_
                  refine At.c0 rfl (ev_pickT rfl rfl rfl) rfl ?_
                  refine At.c0 rfl (ev_move rfl) rfl ?_
                  refine At.c2 rfl ?_ ?_
                  · intro w0
                    refine At.split rfl rfl rfl (fun _ => ?_) (fun h => absurd h (by first | decide | simp))
                    refine At.callq (goes_func cf31 rfl) (Qc.pure (law24_lives)) rfl ?_
                    refine At.nil ?_
                    refine At.cn (fun h => absurd h (by decide)) ?_
                    refine At.c0 rfl (ev_pickT rfl rfl rfl) rfl ?_
                    refine At.c0 rfl (ev_assign rfl) rfl ?_
                    refine At.cnil ?_
                    refine At.thenN ?_
                    refine At.retC ?_
                    refine At.ret (rs := [.tmp 4]) rfl (Res.tmp rfl Res.nil) ?_
                    exact Imp.pur rfl (Imp.nil _)
                  exact At.cstop
                exact At.cstop
              exact At.cstop
            exact At.cstop
          refine At.c2 rfl ?_ ?_
          · intro w0
            refine At.ungd (s := 17) (b := true) (i := 24) rfl rfl ?_
            refine At.split rfl rfl rfl (fun _ => ?_) (fun h => absurd h (by first | decide | simp))
            refine At.ev (ld T.ld3 rfl) rfl ?_
            refine At.nil ?_
            refine At.cn (fun h => absurd h (by decide)) ?_
            refine At.c0g rfl rfl rfl (fun hg => (ev_addw rfl rfl)) rfl rfl ?_
            refine At.c0g rfl rfl rfl (fun hg => (ev_mulw rfl rfl)) rfl rfl ?_
            refine At.c2 rfl ?_ ?_
            · intro w0
              refine At.split rfl rfl rfl (fun _ => ?_) (fun h => absurd h (by first | decide | simp))
              refine At.ev (ldA T.ld23 rfl) rfl ?_
              refine At.nil ?_
              refine At.cn (fun h => absurd h (by decide)) ?_
              refine At.c2 rfl ?_ ?_
              · intro w0
                refine At.ungd (s := 17) (b := true) (i := 18) rfl rfl ?_
                refine At.ungd (s := 17) (b := true) (i := 20) rfl rfl ?_
                refine At.split rfl rfl rfl (fun _ => ?_) (fun h => absurd h (by first | decide | simp))
                refine At.callq (goes_func cf29 rfl) (Qc.cast (Qc.stay (flow_Most s (p.few 10) csm)) (congrArg (Value.int .i64) (flow_sum s (p.few 10)))) rfl ?_
                refine At.nil ?_
                refine At.cn (fun h => absurd h (by decide)) ?_
                refine At.c2 rfl ?_ ?_
                · intro w0
                  refine At.ungd (s := 17) (b := true) (i := 28) rfl rfl ?_
                  refine At.split rfl rfl rfl (fun _ => ?_) (fun h => absurd h (by first | decide | simp))
                  refine At.callq (goes_func cf30 rfl) (Qc.pure (law24_one _)) rfl ?_
                  refine At.nil ?_
                  refine At.cn (fun h => absurd h (by decide)) ?_
                  refine At.c0g rfl rfl rfl (fun hg => (ev_mulw rfl rfl)) rfl rfl ?_
                  refine At.c0g rfl rfl rfl (fun hg => (Ev.cast (v' := .bool true) (ev_eqi rfl rfl) (by simp))) rfl rfl ?_
                  refine At.c0 rfl (ev_pickT rfl rfl rfl) rfl ?_
                  refine At.c0 rfl (ev_move rfl) rfl ?_
                  refine At.c2 rfl ?_ ?_
                  · intro w0
                    refine At.split rfl rfl rfl (fun _ => ?_) (fun h => absurd h (by first | decide | simp))
                    refine At.callq (goes_func cf31 rfl) (Qc.pure (law24_lives)) rfl ?_
                    refine At.nil ?_
                    refine At.cn (fun h => absurd h (by decide)) ?_
                    refine At.c0 rfl (ev_pickT rfl rfl rfl) rfl ?_
                    refine At.c0 rfl (ev_assign rfl) rfl ?_
                    refine At.cnil ?_
                    refine At.thenN ?_
                    refine At.retC ?_
                    refine At.ret (rs := [.tmp 4]) rfl (Res.tmp rfl Res.nil) ?_
                    exact Imp.pur rfl (Imp.nil _)
                  exact At.cstop
                exact At.cstop
              exact At.cstop
            exact At.cstop
          exact At.cstop
        refine At.c2 rfl ?_ ?_
        · intro w0
          refine At.ungd (s := 17) (b := true) (i := 24) rfl rfl ?_
          refine At.split rfl rfl rfl (fun _ => ?_) (fun h => absurd h (by first | decide | simp))
          refine At.ev (ld T.ld3 rfl) rfl ?_
          refine At.nil ?_
          refine At.cn (fun h => absurd h (by decide)) ?_
          refine At.c0g rfl rfl rfl (fun hg => (ev_addw rfl rfl)) rfl rfl ?_
          refine At.c0g rfl rfl rfl (fun hg => (ev_mulw rfl rfl)) rfl rfl ?_
          refine At.c2 rfl ?_ ?_
          · intro w0
            refine At.split rfl rfl rfl (fun _ => ?_) (fun h => absurd h (by first | decide | simp))
            refine At.ev (ldA T.ld23 rfl) rfl ?_
            refine At.nil ?_
            refine At.cn (fun h => absurd h (by decide)) ?_
            refine At.c2 rfl ?_ ?_
            · intro w0
              refine At.ungd (s := 17) (b := true) (i := 19) rfl rfl ?_
              refine At.split rfl rfl rfl (fun _ => ?_) (fun h => absurd h (by first | decide | simp))
              refine At.do (goes_func cf26 rfl) (law13_Few (p.few 10) ((p.few 10).cs ap cp) 10 (by decide)) ?_
              intro _
              refine At.ag ?_
              rintro csm rfl
              rw [Prog.few_few]
              refine At.nil ?_
              refine At.cn (fun h => absurd h (by decide)) ?_
              refine At.c2 rfl ?_ ?_
              · intro w0
                refine At.ungd (s := 17) (b := true) (i := 18) rfl rfl ?_
                refine At.ungd (s := 17) (b := true) (i := 20) rfl rfl ?_
                refine At.split rfl rfl rfl (fun _ => ?_) (fun h => absurd h (by first | decide | simp))
                refine At.callq (goes_func cf29 rfl) (Qc.cast (Qc.stay (flow_Most s (p.few 10) csm)) (congrArg (Value.int .i64) (flow_sum s (p.few 10)))) rfl ?_
                refine At.nil ?_
                refine At.cn (fun h => absurd h (by decide)) ?_
                refine At.c2 rfl ?_ ?_
                · intro w0
                  refine At.ungd (s := 17) (b := true) (i := 28) rfl rfl ?_
                  refine At.split rfl rfl rfl (fun _ => ?_) (fun h => absurd h (by first | decide | simp))
                  refine At.callq (goes_func cf30 rfl) (Qc.pure (law24_one _)) rfl ?_
                  refine At.nil ?_
                  refine At.cn (fun h => absurd h (by decide)) ?_
                  refine At.c0g rfl rfl rfl (fun hg => (ev_mulw rfl rfl)) rfl rfl ?_
                  refine At.c0g rfl rfl rfl (fun hg => (Ev.cast (v' := .bool true) (ev_eqi rfl rfl) (by simp))) rfl rfl ?_
                  refine At.c0 rfl (ev_pickT rfl rfl rfl) rfl ?_
                  refine At.c0 rfl (ev_move rfl) rfl ?_
                  refine At.c2 rfl ?_ ?_
                  · intro w0
                    refine At.split rfl rfl rfl (fun _ => ?_) (fun h => absurd h (by first | decide | simp))
                    refine At.callq (goes_func cf31 rfl) (Qc.pure (law24_lives)) rfl ?_
                    refine At.nil ?_
                    refine At.cn (fun h => absurd h (by decide)) ?_
                    refine At.c0 rfl (ev_pickT rfl rfl rfl) rfl ?_
                    refine At.c0 rfl (ev_assign rfl) rfl ?_
                    refine At.cnil ?_
                    refine At.thenN ?_
                    refine At.retC ?_
                    refine At.ret (rs := [.tmp 4]) rfl (Res.tmp rfl Res.nil) ?_
                    exact Imp.pur rfl (Imp.nil _)
                  exact At.cstop
                exact At.cstop
              exact At.cstop
            exact At.cstop
          refine At.c2 rfl ?_ ?_
          · intro w0
            refine At.ungd (s := 17) (b := true) (i := 19) rfl rfl ?_
            refine At.split rfl rfl rfl (fun _ => ?_) (fun h => absurd h (by first | decide | simp))
            refine At.do (goes_func cf26 rfl) (law13_Few (p.few 10) ((p.few 10).cs ap cp) 10 (by decide)) ?_
            intro _
            refine At.ag ?_
            rintro csm rfl
            rw [Prog.few_few]
            refine At.nil ?_
            refine At.cn (fun h => absurd h (by decide)) ?_
            refine At.c2 rfl ?_ ?_
            · intro w0
              refine At.split rfl rfl rfl (fun _ => ?_) (fun h => absurd h (by first | decide | simp))
              refine At.ev (ldA T.ld23 rfl) rfl ?_
              refine At.nil ?_
              refine At.cn (fun h => absurd h (by decide)) ?_
              refine At.c2 rfl ?_ ?_
              · intro w0
                refine At.ungd (s := 17) (b := true) (i := 18) rfl rfl ?_
                refine At.ungd (s := 17) (b := true) (i := 20) rfl rfl ?_
                refine At.split rfl rfl rfl (fun _ => ?_) (fun h => absurd h (by first | decide | simp))
                refine At.callq (goes_func cf29 rfl) (Qc.cast (Qc.stay (flow_Most s (p.few 10) csm)) (congrArg (Value.int .i64) (flow_sum s (p.few 10)))) rfl ?_
                refine At.nil ?_
                refine At.cn (fun h => absurd h (by decide)) ?_
                refine At.c2 rfl ?_ ?_
                · intro w0
                  refine At.ungd (s := 17) (b := true) (i := 28) rfl rfl ?_
                  refine At.split rfl rfl rfl (fun _ => ?_) (fun h => absurd h (by first | decide | simp))
                  refine At.callq (goes_func cf30 rfl) (Qc.pure (law24_one _)) rfl ?_
                  refine At.nil ?_
                  refine At.cn (fun h => absurd h (by decide)) ?_
                  refine At.c0g rfl rfl rfl (fun hg => (ev_mulw rfl rfl)) rfl rfl ?_
                  refine At.c0g rfl rfl rfl (fun hg => (Ev.cast (v' := .bool true) (ev_eqi rfl rfl) (by simp))) rfl rfl ?_
                  refine At.c0 rfl (ev_pickT rfl rfl rfl) rfl ?_
                  refine At.c0 rfl (ev_move rfl) rfl ?_
                  refine At.c2 rfl ?_ ?_
                  · intro w0
                    refine At.split rfl rfl rfl (fun _ => ?_) (fun h => absurd h (by first | decide | simp))
                    refine At.callq (goes_func cf31 rfl) (Qc.pure (law24_lives)) rfl ?_
                    refine At.nil ?_
                    refine At.cn (fun h => absurd h (by decide)) ?_
                    refine At.c0 rfl (ev_pickT rfl rfl rfl) rfl ?_
                    refine At.c0 rfl (ev_assign rfl) rfl ?_
                    refine At.cnil ?_
                    refine At.thenN ?_
                    refine At.retC ?_
                    refine At.ret (rs := [.tmp 4]) rfl (Res.tmp rfl Res.nil) ?_
                    exact Imp.pur rfl (Imp.nil _)
                  exact At.cstop
                exact At.cstop
              exact At.cstop
            exact At.cstop
          exact At.cstop
        exact At.cstop
      refine At.c2 rfl ?_ ?_
      · intro w0
        refine At.ungd (s := 17) (b := true) (i := 24) rfl rfl ?_
        refine At.split rfl rfl rfl (fun _ => ?_) (fun h => absurd h (by first | decide | simp))
        refine At.ev (ld T.ld3 rfl) rfl ?_
        refine At.nil ?_
        refine At.cn (fun h => absurd h (by decide)) ?_
        refine At.c0g rfl rfl rfl (fun hg => (ev_addw rfl rfl)) rfl rfl ?_
        refine At.c0g rfl rfl rfl (fun hg => (ev_mulw rfl rfl)) rfl rfl ?_
        refine At.c2 rfl ?_ ?_
        · intro w0
          refine At.split rfl rfl rfl (fun _ => ?_) (fun h => absurd h (by first | decide | simp))
          refine At.ev (ldA T.ld23 rfl) rfl ?_
          refine At.nil ?_
          refine At.cn (fun h => absurd h (by decide)) ?_
          refine At.c2 rfl ?_ ?_
          · intro w0
            refine At.split rfl rfl rfl (fun _ => ?_) (fun h => absurd h (by first | decide | simp))
            refine At.ev (ldA T.ld26 rfl) rfl ?_
            refine At.nil ?_
            refine At.cn (fun h => absurd h (by decide)) ?_
            refine At.c2 rfl ?_ ?_
            · intro w0
              refine At.ungd (s := 17) (b := true) (i := 19) rfl rfl ?_
              refine At.split rfl rfl rfl (fun _ => ?_) (fun h => absurd h (by first | decide | simp))
              refine At.do (goes_func cf26 rfl) (law13_Few (p.few 10) ((p.few 10).cs ap cp) 10 (by decide)) ?_
              intro _
              refine At.ag ?_
              rintro csm rfl
              rw [Prog.few_few]
              refine At.nil ?_
              refine At.cn (fun h => absurd h (by decide)) ?_
              refine At.c2 rfl ?_ ?_
              · intro w0
                refine At.ungd (s := 17) (b := true) (i := 18) rfl rfl ?_
                refine At.ungd (s := 17) (b := true) (i := 20) rfl rfl ?_
                refine At.split rfl rfl rfl (fun _ => ?_) (fun h => absurd h (by first | decide | simp))
                refine At.callq (goes_func cf29 rfl) (Qc.cast (Qc.stay (flow_Most s (p.few 10) csm)) (congrArg (Value.int .i64) (flow_sum s (p.few 10)))) rfl ?_
                refine At.nil ?_
                refine At.cn (fun h => absurd h (by decide)) ?_
                refine At.c2 rfl ?_ ?_
                · intro w0
                  refine At.ungd (s := 17) (b := true) (i := 28) rfl rfl ?_
                  refine At.split rfl rfl rfl (fun _ => ?_) (fun h => absurd h (by first | decide | simp))
                  refine At.callq (goes_func cf30 rfl) (Qc.pure (law24_one _)) rfl ?_
                  refine At.nil ?_
                  refine At.cn (fun h => absurd h (by decide)) ?_
                  refine At.c0g rfl rfl rfl (fun hg => (ev_mulw rfl rfl)) rfl rfl ?_
                  refine At.c0g rfl rfl rfl (fun hg => (Ev.cast (v' := .bool true) (ev_eqi rfl rfl) (by simp))) rfl rfl ?_
                  refine At.c0 rfl (ev_pickT rfl rfl rfl) rfl ?_
                  refine At.c0 rfl (ev_move rfl) rfl ?_
                  refine At.c2 rfl ?_ ?_
                  · intro w0
                    refine At.split rfl rfl rfl (fun _ => ?_) (fun h => absurd h (by first | decide | simp))
                    refine At.callq (goes_func cf31 rfl) (Qc.pure (law24_lives)) rfl ?_
                    refine At.nil ?_
                    refine At.cn (fun h => absurd h (by decide)) ?_
                    refine At.c0 rfl (ev_pickT rfl rfl rfl) rfl ?_
                    refine At.c0 rfl (ev_assign rfl) rfl ?_
                    refine At.cnil ?_
                    refine At.thenN ?_
                    refine At.retC ?_
                    refine At.ret (rs := [.tmp 4]) rfl (Res.tmp rfl Res.nil) ?_
                    exact Imp.pur rfl (Imp.nil _)
                  exact At.cstop
                exact At.cstop
              exact At.cstop
            exact At.cstop
          exact At.cstop
        refine At.c2 rfl ?_ ?_
        · intro w0
          refine At.split rfl rfl rfl (fun _ => ?_) (fun h => absurd h (by first | decide | simp))
          refine At.ev (ldA T.ld26 rfl) rfl ?_
          refine At.nil ?_
          refine At.cn (fun h => absurd h (by decide)) ?_
          refine At.c2 rfl ?_ ?_
          · intro w0
            refine At.split rfl rfl rfl (fun _ => ?_) (fun h => absurd h (by first | decide | simp))
            refine At.ev (ldA T.ld23 rfl) rfl ?_
            refine At.nil ?_
            refine At.cn (fun h => absurd h (by decide)) ?_
            refine At.c2 rfl ?_ ?_
            · intro w0
              refine At.ungd (s := 17) (b := true) (i := 19) rfl rfl ?_
              refine At.split rfl rfl rfl (fun _ => ?_) (fun h => absurd h (by first | decide | simp))
              refine At.do (goes_func cf26 rfl) (law13_Few (p.few 10) ((p.few 10).cs ap cp) 10 (by decide)) ?_
              intro _
              refine At.ag ?_
              rintro csm rfl
              rw [Prog.few_few]
              refine At.nil ?_
              refine At.cn (fun h => absurd h (by decide)) ?_
              refine At.c2 rfl ?_ ?_
              · intro w0
                refine At.ungd (s := 17) (b := true) (i := 18) rfl rfl ?_
                refine At.ungd (s := 17) (b := true) (i := 20) rfl rfl ?_
                refine At.split rfl rfl rfl (fun _ => ?_) (fun h => absurd h (by first | decide | simp))
                refine At.callq (goes_func cf29 rfl) (Qc.cast (Qc.stay (flow_Most s (p.few 10) csm)) (congrArg (Value.int .i64) (flow_sum s (p.few 10)))) rfl ?_
                refine At.nil ?_
                refine At.cn (fun h => absurd h (by decide)) ?_
                refine At.c2 rfl ?_ ?_
                · intro w0
                  refine At.ungd (s := 17) (b := true) (i := 28) rfl rfl ?_
                  refine At.split rfl rfl rfl (fun _ => ?_) (fun h => absurd h (by first | decide | simp))
                  refine At.callq (goes_func cf30 rfl) (Qc.pure (law24_one _)) rfl ?_
                  refine At.nil ?_
                  refine At.cn (fun h => absurd h (by decide)) ?_
                  refine At.c0g rfl rfl rfl (fun hg => (ev_mulw rfl rfl)) rfl rfl ?_
                  refine At.c0g rfl rfl rfl (fun hg => (Ev.cast (v' := .bool true) (ev_eqi rfl rfl) (by simp))) rfl rfl ?_
                  refine At.c0 rfl (ev_pickT rfl rfl rfl) rfl ?_
                  refine At.c0 rfl (ev_move rfl) rfl ?_
                  refine At.c2 rfl ?_ ?_
                  · intro w0
                    refine At.split rfl rfl rfl (fun _ => ?_) (fun h => absurd h (by first | decide | simp))
                    refine At.callq (goes_func cf31 rfl) (Qc.pure (law24_lives)) rfl ?_
                    refine At.nil ?_
                    refine At.cn (fun h => absurd h (by decide)) ?_
                    refine At.c0 rfl (ev_pickT rfl rfl rfl) rfl ?_
                    refine At.c0 rfl (ev_assign rfl) rfl ?_
                    refine At.cnil ?_
                    refine At.thenN ?_
                    refine At.retC ?_
                    refine At.ret (rs := [.tmp 4]) rfl (Res.tmp rfl Res.nil) ?_
                    exact Imp.pur rfl (Imp.nil _)
                  exact At.cstop
                exact At.cstop
              exact At.cstop
            exact At.cstop
          refine At.c2 rfl ?_ ?_
          · intro w0
            refine At.ungd (s := 17) (b := true) (i := 19) rfl rfl ?_
            refine At.split rfl rfl rfl (fun _ => ?_) (fun h => absurd h (by first | decide | simp))
            refine At.do (goes_func cf26 rfl) (law13_Few (p.few 10) ((p.few 10).cs ap cp) 10 (by decide)) ?_
            intro _
            refine At.ag ?_
            rintro csm rfl
            rw [Prog.few_few]
            refine At.nil ?_
            refine At.cn (fun h => absurd h (by decide)) ?_
            refine At.c2 rfl ?_ ?_
            · intro w0
              refine At.split rfl rfl rfl (fun _ => ?_) (fun h => absurd h (by first | decide | simp))
              refine At.ev (ldA T.ld23 rfl) rfl ?_
              refine At.nil ?_
              refine At.cn (fun h => absurd h (by decide)) ?_
              refine At.c2 rfl ?_ ?_
              · intro w0
                refine At.ungd (s := 17) (b := true) (i := 18) rfl rfl ?_
                refine At.ungd (s := 17) (b := true) (i := 20) rfl rfl ?_
                refine At.split rfl rfl rfl (fun _ => ?_) (fun h => absurd h (by first | decide | simp))
                refine At.callq (goes_func cf29 rfl) (Qc.cast (Qc.stay (flow_Most s (p.few 10) csm)) (congrArg (Value.int .i64) (flow_sum s (p.few 10)))) rfl ?_
                refine At.nil ?_
                refine At.cn (fun h => absurd h (by decide)) ?_
                refine At.c2 rfl ?_ ?_
                · intro w0
                  refine At.ungd (s := 17) (b := true) (i := 28) rfl rfl ?_
                  refine At.split rfl rfl rfl (fun _ => ?_) (fun h => absurd h (by first | decide | simp))
                  refine At.callq (goes_func cf30 rfl) (Qc.pure (law24_one _)) rfl ?_
                  refine At.nil ?_
                  refine At.cn (fun h => absurd h (by decide)) ?_
                  refine At.c0g rfl rfl rfl (fun hg => (ev_mulw rfl rfl)) rfl rfl ?_
                  refine At.c0g rfl rfl rfl (fun hg => (Ev.cast (v' := .bool true) (ev_eqi rfl rfl) (by simp))) rfl rfl ?_
                  refine At.c0 rfl (ev_pickT rfl rfl rfl) rfl ?_
                  refine At.c0 rfl (ev_move rfl) rfl ?_
                  refine At.c2 rfl ?_ ?_
                  · intro w0
                    refine At.split rfl rfl rfl (fun _ => ?_) (fun h => absurd h (by first | decide | simp))
                    refine At.callq (goes_func cf31 rfl) (Qc.pure (law24_lives)) rfl ?_
                    refine At.nil ?_
                    refine At.cn (fun h => absurd h (by decide)) ?_
                    refine At.c0 rfl (ev_pickT rfl rfl rfl) rfl ?_
                    refine At.c0 rfl (ev_assign rfl) rfl ?_
                    refine At.cnil ?_
                    refine At.thenN ?_
                    refine At.retC ?_
                    refine At.ret (rs := [.tmp 4]) rfl (Res.tmp rfl Res.nil) ?_
                    exact Imp.pur rfl (Imp.nil _)
                  exact At.cstop
                exact At.cstop
              exact At.cstop
            exact At.cstop
          exact At.cstop
        exact At.cstop
      exact At.cstop
    exact At.cstop
  exact At.cstop

end Go.Proofs.YtebjpeonbfhdhaaGreat
