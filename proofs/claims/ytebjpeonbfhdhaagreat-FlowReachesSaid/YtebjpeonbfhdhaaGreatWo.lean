import Derived.Test.YtebjpeonbfhdhaaGreatWn
set_option linter.unusedVariables false
set_option linter.unusedSimpArgs false
namespace Go.Proofs.YtebjpeonbfhdhaaGreat
open Go Go.Sx Go.Proofs
set_option maxRecDepth 100000
set_option maxHeartbeats 2000000

attribute [local irreducible] Go.Sx.opsW Go.Sx.cW Go.Code.wp Go.Sx.At

/-- repartee/reparteelaw24.FlowReaches -/
theorem law24_FlowReaches (p : Prog) (cs : List Value) (n : Int) (hn : i64 n) : Does Tryz.prog 6 [.agg cs.toArray, .int .i64 n] [per (relP p cs)] (fun v => pur (v = .bool true)) := by
  refine Does.enter Tryz.func6 rfl rfl ?_
  intro E
  refine openProg (x := p) (by repeat (first | with_reducible exact Mem.head _ _ | apply Mem.tail)) ?_
  intro hp ap0 cp0 hcp0 e
  subst e
  refine At.seq ?_
  refine At.region ?_
  refine At.boxA rfl ?_
  intro bp
  refine At.ev (ev_assign rfl) rfl ?_
  refine At.nil ?_
  refine At.thenN ?_
  refine At.seq ?_
  refine At.region ?_
  refine At.ev (ldA T.ld26 rfl) rfl ?_
  refine At.do (goes_func cf26 rfl) (law13_Few p (p.cs ap0 cp0) 10 (by decide)) ?_
  intro _
  refine At.ag ?_
  rintro csn rfl
  refine openProg (x := p.few 10) (by repeat (first | with_reducible exact Mem.head _ _ | apply Mem.tail)) ?_
  intro hq ap cp hcp e
  subst e
  refine At.stA T.sz26 rfl rfl rfl ?_ (cs' := ((p.few 10).cs ap cp))
  refine At.nil ?_
  refine At.thenN ?_
  refine At.seq ?_
  refine At.drawH (.q1 0 (.q0 2 (.q1 4 (.q0 5 (.br 1 (.br 3 (.br 6 (.br 7 (.q0 8 (.br 9 (.br 10 (.br 11 (.br 12 (.br 13 (.br 14 (.q0 15 (.q0 16 (.br 17 (.br 18 (.br 19 (.br 20 (.br 21 (.q0 22 (.q0 23 (.q0 24 (.br 25 (.q0 26 (.q0 27 (.nil))) (.stop))))) (.stop)) (.stop)) (.br 20 (.br 19 (.br 21 (.q0 22 (.q0 23 (.q0 24 (.br 25 (.q0 26 (.q0 27 (.nil))) (.stop))))) (.stop)) (.stop)) (.stop))) (.br 20 (.br 18 (.br 19 (.br 21 (.q0 22 (.q0 23 (.q0 24 (.br 25 (.q0 26 (.q0 27 (.nil))) (.stop))))) (.stop)) (.stop)) (.stop)) (.stop))) (.br 20 (.br 17 (.br 18 (.br 19 (.br 21 (.q0 22 (.q0 23 (.q0 24 (.br 25 (.q0 26 (.q0 27 (.nil))) (.stop))))) (.stop)) (.stop)) (.stop)) (.stop)) (.stop))))) (.stop)) (.stop)) (.stop)) (.br 12 (.br 11 (.br 13 (.br 14 (.q0 15 (.q0 16 (.br 17 (.br 18 (.br 19 (.br 20 (.br 21 (.q0 22 (.q0 23 (.q0 24 (.br 25 (.q0 26 (.q0 27 (.nil))) (.stop))))) (.stop)) (.stop)) (.br 20 (.br 19 (.br 21 (.q0 22 (.q0 23 (.q0 24 (.br 25 (.q0 26 (.q0 27 (.nil))) (.stop))))) (.stop)) (.stop)) (.stop))) (.br 20 (.br 18 (.br 19 (.br 21 (.q0 22 (.q0 23 (.q0 24 (.br 25 (.q0 26 (.q0 27 (.nil))) (.stop))))) (.stop)) (.stop)) (.stop)) (.stop))) (.br 20 (.br 17 (.br 18 (.br 19 (.br 21 (.q0 22 (.q0 23 (.q0 24 (.br 25 (.q0 26 (.q0 27 (.nil))) (.stop))))) (.stop)) (.stop)) (.stop)) (.stop)) (.stop))))) (.stop)) (.stop)) (.stop)) (.stop))) (.br 12 (.br 10 (.br 11 (.br 13 (.br 14 (.q0 15 (.q0 16 (.br 17 (.br 18 (.br 19 (.br 20 (.br 21 (.q0 22 (.q0 23 (.q0 24 (.br 25 (.q0 26 (.q0 27 (.nil))) (.stop))))) (.stop)) (.stop)) (.br 20 (.br 19 (.br 21 (.q0 22 (.q0 23 (.q0 24 (.br 25 (.q0 26 (.q0 27 (.nil))) (.stop))))) (.stop)) (.stop)) (.stop))) (.br 20 (.br 18 (.br 19 (.br 21 (.q0 22 (.q0 23 (.q0 24 (.br 25 (.q0 26 (.q0 27 (.nil))) (.stop))))) (.stop)) (.stop)) (.stop)) (.stop))) (.br 20 (.br 17 (.br 18 (.br 19 (.br 21 (.q0 22 (.q0 23 (.q0 24 (.br 25 (.q0 26 (.q0 27 (.nil))) (.stop))))) (.stop)) (.stop)) (.stop)) (.stop)) (.stop))))) (.stop)) (.stop)) (.stop)) (.stop)) (.stop))) (.br 12 (.br 9 (.br 10 (.br 11 (.br 13 (.br 14 (.q0 15 (.q0 16 (.br 17 (.br 18 (.br 19 (.br 20 (.br 21 (.q0 22 (.q0 23 (.q0 24 (.br 25 (.q0 26 (.q0 27 (.nil))) (.stop))))) (.stop)) (.stop)) (.br 20 (.br 19 (.br 21 (.q0 22 (.q0 23 (.q0 24 (.br 25 (.q0 26 (.q0 27 (.nil))) (.stop))))) (.stop)) (.stop)) (.stop))) (.br 20 (.br 18 (.br 19 (.br 21 (.q0 22 (.q0 23 (.q0 24 (.br 25 (.q0 26 (.q0 27 (.nil))) (.stop))))) (.stop)) (.stop)) (.stop)) (.stop))) (.br 20 (.br 17 (.br 18 (.br 19 (.br 21 (.q0 22 (.q0 23 (.q0 24 (.br 25 (.q0 26 (.q0 27 (.nil))) (.stop))))) (.stop)) (.stop)) (.stop)) (.stop)) (.stop))))) (.stop)) (.stop)) (.stop)) (.stop)) (.stop)) (.stop)))) (.stop)) (.stop)) (.stop)) (.stop)))))) (fun j => !([6, 7, 9, 10, 11, 12, 13, 14, 17, 18, 19, 20, 21, 25] : List Nat).contains j) mixed (by kernel_rfl) (by kernel_rfl) (NoP.thn NoP.body) ?_
  refine At.c1 rfl (Imp.refl _) (ldA T.ld26 rfl) rfl ?_
  refine At.c0 rfl (ev_move rfl) rfl ?_
  refine At.c1 rfl (Imp.refl _) (ldA T.ld26 rfl) rfl ?_
  refine At.c0 rfl (ev_move rfl) rfl ?_
  refine At.c2 rfl ?_ ?_
  · intro w0
    refine At.do (goes_func cf26 rfl) (law13_Few (p.few 10) ((p.few 10).cs ap cp) 10 (by decide)) ?_
    intro _
    refine At.ag ?_
    rintro cs1 rfl
    rw [Prog.few_few]
    refine At.nil ?_
    refine At.cn (fun _ => ?_) ?_
    · first | exact Imp.refl _ | exact fun _ _ h => h.drop | exact fun _ _ h => h.drop.drop | exact fun _ _ h => h.drop.drop.drop | exact fun _ _ h => h.drop.drop.drop.drop | (repeat (first | exact Imp.nil _ | (with_reducible apply Imp.per; · repeat (first | with_reducible exact Mem.head _ _ | apply Mem.tail)) | (with_reducible apply Imp.one; · repeat (first | with_reducible exact At1.head _ _ | apply At1.tail))))
    refine At.c2 rfl ?_ ?_
    · intro w0
      refine At.do (goes_func cf33 rfl) (flow_Next (p.few 10) cs1 n) ?_
      intro _
      refine At.rowI ?_
      intro aon cn e _ _
      subst e
      refine At.nil ?_
      refine At.cn (fun _ => ?_) ?_
      · first | exact Imp.refl _ | exact fun _ _ h => h.drop | exact fun _ _ h => h.drop.drop | exact fun _ _ h => h.drop.drop.drop | exact fun _ _ h => h.drop.drop.drop.drop | (repeat (first | exact Imp.nil _ | (with_reducible apply Imp.per; · repeat (first | with_reducible exact Mem.head _ _ | apply Mem.tail)) | (with_reducible apply Imp.one; · repeat (first | with_reducible exact At1.head _ _ | apply At1.tail))))
      refine At.c2 rfl ?_ ?_
      · intro w0
        refine At.do (goes_func cf34 rfl) (r24_Next (p.few 10) ((p.few 10).cs ap cp) n (by assumption)) ?_
        intro v
        refine At.sl ?_
        rintro aor cr rfl hcr
        refine At.nil ?_
        refine At.cn (fun h => absurd h (by decide)) ?_
        refine At.c2 rfl ?_ ?_
        · intro w0
          refine At.sealI (ao := aon) (nextG (p.few 10) n) rfl (nextG_i64 _ _) (fun _ _ => ?_)
          refine At.callq (goes_func cf32 rfl) (Qc.cast (Qc.stay2 (r04_Same aon aor cn cr (nextG (p.few 10) n) (nextG (p.few 10) n))) (congrArg Value.bool (by simp) : _ = Value.bool true)) rfl ?_
          refine At.nil ?_
          refine At.cn (fun h => absurd h (by decide)) ?_
          refine At.c0 rfl (ev_move rfl) rfl ?_
          refine At.c2 rfl ?_ ?_
          · intro w0
            refine At.split rfl rfl rfl (fun _ => ?_) (fun h => absurd h (by first | decide | simp))
            refine At.ev (ldA T.ld26 rfl) rfl ?_
            refine At.nil ?_
            refine At.cn (fun h => absurd h (by decide)) ?_
            refine At.c2 rfl ?_ ?_
            · intro w0
              refine At.ungd (s := 15) (b := true) (i := 16) rfl rfl ?_
              refine At.split rfl rfl rfl (fun _ => ?_) (fun h => absurd h (by first | decide | simp))
              refine At.do (goes_func cf26 rfl) (law13_Few (p.few 10) ((p.few 10).cs ap cp) 10 (by decide)) ?_
              intro _
              refine At.ag ?_
              rintro cs2 rfl
              rw [Prog.few_few]
              refine At.nil ?_
              refine At.cn (fun h => absurd h (by decide)) ?_
              refine At.c2 rfl ?_ ?_
              · intro w0
                refine At.ungd (s := 15) (b := true) (i := 17) rfl rfl ?_
                refine At.split rfl rfl rfl (fun _ => ?_) (fun h => absurd h (by first | decide | simp))
                refine At.do (goes_func cf35 rfl) (flow_Reach (p.few 10) cs2) ?_
                intro _
                refine At.rowI ?_
                intro aoh ch e _ _
                subst e
                refine At.nil ?_
                refine At.cn (fun h => absurd h (by decide)) ?_
                refine At.c2 rfl ?_ ?_
                · intro w0
                  refine At.split rfl rfl rfl (fun _ => ?_) (fun h => absurd h (by first | decide | simp))
                  refine At.ev (ldA T.ld26 rfl) rfl ?_
                  refine At.nil ?_
                  refine At.cn (fun h => absurd h (by decide)) ?_
                  refine At.c2 rfl ?_ ?_
                  · intro w0
                    refine At.ungd (s := 15) (b := true) (i := 19) rfl rfl ?_
                    refine At.split rfl rfl rfl (fun _ => ?_) (fun h => absurd h (by first | decide | simp))
                    refine At.do (goes_func cf36 rfl) (r24_Reach (p.few 10) ((p.few 10).cs ap cp)) ?_
                    intro v
                    rw [reach_two]
                    refine At.sl ?_
                    rintro aoq cq rfl hcq
                    refine At.nil ?_
                    refine At.cn (fun h => absurd h (by decide)) ?_
                    refine At.c2 rfl ?_ ?_
                    · intro w0
                      refine At.sealI (ao := aoh) (reachP (p.few 10)) rfl (reachP_i64 _) (fun _ _ => ?_)
                      refine At.ungd (s := 15) (b := true) (i := 18) rfl rfl ?_
                      refine At.ungd (s := 15) (b := true) (i := 20) rfl rfl ?_
                      refine At.split rfl rfl rfl (fun _ => ?_) (fun h => absurd h (by first | decide | simp))
                      refine At.callq (goes_func cf32 rfl) (Qc.cast (Qc.stay2 (r04_Same aoh aoq ch cq (reachP (p.few 10)) (reachP (p.few 10)))) (congrArg Value.bool (by simp) : _ = Value.bool true)) rfl ?_
                      refine At.nil ?_
                      refine At.cn (fun h => absurd h (by decide)) ?_
                      refine At.c0 rfl (ev_pickT rfl rfl rfl) rfl ?_
                      refine At.c0 rfl (ev_move rfl) rfl ?_
                      refine At.c2 rfl ?_ ?_
                      · intro w0
                        refine At.split rfl rfl rfl (fun _ => ?_) (fun h => absurd h (by first | decide | simp))
                        refine At.ev (ldA T.ld26 rfl) rfl ?_
                        refine At.nil ?_
                        refine At.cn (fun h => absurd h (by decide)) ?_
                        refine At.c2 rfl ?_ ?_
                        · intro w0
                          refine At.ungd (s := 23) (b := true) (i := 24) rfl rfl ?_
                          refine At.split rfl rfl rfl (fun _ => ?_) (fun h => absurd h (by first | decide | simp))
                          refine At.do (goes_func cf26 rfl) (law13_Few (p.few 10) ((p.few 10).cs ap cp) 10 (by decide)) ?_
                          intro _
                          refine At.ag ?_
                          rintro cs3 rfl
                          rw [Prog.few_few]
                          refine At.nil ?_
                          refine At.cn (fun h => absurd h (by decide)) ?_
                          refine At.c2 rfl ?_ ?_
                          · intro w0
                            refine At.ungd (s := 23) (b := true) (i := 25) rfl rfl ?_
                            refine At.split rfl rfl rfl (fun _ => ?_) (fun h => absurd h (by first | decide | simp))
                            refine At.callq (goes_func cf37 rfl) (Qc.stay (flow_Loops (p.few 10) cs3)) rfl ?_
                            refine At.nil ?_
                            refine At.cn (fun h => absurd h (by decide)) ?_
                            refine At.c2 rfl ?_ ?_
                            · intro w0
                              refine At.split rfl rfl rfl (fun _ => ?_) (fun h => absurd h (by first | decide | simp))
                              refine At.ev (ldA T.ld26 rfl) rfl ?_
                              refine At.nil ?_
                              refine At.cn (fun h => absurd h (by decide)) ?_
                              refine At.c2 rfl ?_ ?_
                              · intro w0
                                refine At.ungd (s := 23) (b := true) (i := 27) rfl rfl ?_
                                refine At.split rfl rfl rfl (fun _ => ?_) (fun h => absurd h (by first | decide | simp))
                                refine At.callq (goes_func cf38 rfl) (Qc.stay (r24_Loops (p.few 10) ((p.few 10).cs ap cp))) rfl ?_
                                refine At.nil ?_
                                refine At.cn (fun h => absurd h (by decide)) ?_
                                refine At.c0g rfl rfl rfl (fun hg => (Ev.cast (v' := .bool true) (ev_eq rfl rfl (EQ.bool T.un4) rfl) (by simp))) rfl rfl ?_
                                refine At.c0 rfl (ev_pickT rfl rfl rfl) rfl ?_
                                refine At.c0 rfl (ev_move rfl) rfl ?_
                                refine At.c2 rfl ?_ ?_
                                · intro w0
                                  refine At.split rfl rfl rfl (fun _ => ?_) (fun h => absurd h (by first | decide | simp))
                                  refine At.callq (goes_func cf31 rfl) (Qc.pure (law24_lives)) rfl ?_
                                  refine At.nil ?_
                                  refine At.cn (fun h => absurd h (by decide)) ?_
                                  refine At.c0 rfl (ev_pickT rfl rfl rfl) rfl ?_
                                  refine At.c0 rfl (ev_assign rfl) rfl ?_
                                  refine At.cnil ?_
                                  refine At.thenN ?_
                                  refine At.retC ?_
                                  refine At.ret (rs := [.tmp 4]) rfl (Res.tmp rfl Res.nil) ?_
                                  exact Imp.pur rfl (Imp.nil _)
                                exact At.cstop
                              exact At.cstop
                            exact At.cstop
                          refine At.c2 rfl ?_ ?_
                          · intro w0
                            refine At.split rfl rfl rfl (fun _ => ?_) (fun h => absurd h (by first | decide | simp))
                            refine At.ev (ldA T.ld26 rfl) rfl ?_
                            refine At.nil ?_
                            refine At.cn (fun h => absurd h (by decide)) ?_
                            refine At.c2 rfl ?_ ?_
                            · intro w0
                              refine At.ungd (s := 23) (b := true) (i := 25) rfl rfl ?_
                              refine At.split rfl rfl rfl (fun _ => ?_) (fun h => absurd h (by first | decide | simp))
                              refine At.callq (goes_func cf37 rfl) (Qc.stay (flow_Loops (p.few 10) cs3)) rfl ?_
                              refine At.nil ?_
                              refine At.cn (fun h => absurd h (by decide)) ?_
                              refine At.c2 rfl ?_ ?_
                              · intro w0
                                refine At.ungd (s := 23) (b := true) (i := 27) rfl rfl ?_
                                refine At.split rfl rfl rfl (fun _ => ?_) (fun h => absurd h (by first | decide | simp))
                                refine At.callq (goes_func cf38 rfl) (Qc.stay (r24_Loops (p.few 10) ((p.few 10).cs ap cp))) rfl ?_
                                refine At.nil ?_
                                refine At.cn (fun h => absurd h (by decide)) ?_
                                refine At.c0g rfl rfl rfl (fun hg => (Ev.cast (v' := .bool true) (ev_eq rfl rfl (EQ.bool T.un4) rfl) (by simp))) rfl rfl ?_
                                refine At.c0 rfl (ev_pickT rfl rfl rfl) rfl ?_
                                refine At.c0 rfl (ev_move rfl) rfl ?_
                                refine At.c2 rfl ?_ ?_
                                · intro w0
                                  refine At.split rfl rfl rfl (fun _ => ?_) (fun h => absurd h (by first | decide | simp))
                                  refine At.callq (goes_func cf31 rfl) (Qc.pure (law24_lives)) rfl ?_
                                  refine At.nil ?_
                                  refine At.cn (fun h => absurd h (by decide)) ?_
                                  refine At.c0 rfl (ev_pickT rfl rfl rfl) rfl ?_
                                  refine At.c0 rfl (ev_assign rfl) rfl ?_
                                  refine At.cnil ?_
                                  refine At.thenN ?_
                                  refine At.retC ?_
                                  refine At.ret (rs := [.tmp 4]) rfl (Res.tmp rfl Res.nil) ?_
                                  exact Imp.pur rfl (Imp.nil _)
                                exact At.cstop
                              exact At.cstop
                            exact At.cstop
                          exact At.cstop
                        refine At.c2 rfl ?_ ?_
                        · intro w0
                          refine At.split rfl rfl rfl (fun _ => ?_) (fun h => absurd h (by first | decide | simp))
                          refine At.ev (ldA T.ld26 rfl) rfl ?_
                          refine At.nil ?_
                          refine At.cn (fun h => absurd h (by decide)) ?_
                          refine At.c2 rfl ?_ ?_
                          · intro w0
                            refine At.ungd (s := 23) (b := true) (i := 24) rfl rfl ?_
                            refine At.split rfl rfl rfl (fun _ => ?_) (fun h => absurd h (by first | decide | simp))
                            refine At.do (goes_func cf26 rfl) (law13_Few (p.few 10) ((p.few 10).cs ap cp) 10 (by decide)) ?_
                            intro _
                            refine At.ag ?_
                            rintro cs3 rfl
                            rw [Prog.few_few]
                            refine At.nil ?_
                            refine At.cn (fun h => absurd h (by decide)) ?_
                            refine At.c2 rfl ?_ ?_
                            · intro w0
                              refine At.ungd (s := 23) (b := true) (i := 25) rfl rfl ?_
                              refine At.split rfl rfl rfl (fun _ => ?_) (fun h => absurd h (by first | decide | simp))
                              refine At.callq (goes_func cf37 rfl) (Qc.stay (flow_Loops (p.few 10) cs3)) rfl ?_
                              refine At.nil ?_
                              refine At.cn (fun h => absurd h (by decide)) ?_
                              refine At.c2 rfl ?_ ?_
                              · intro w0
                                refine At.ungd (s := 23) (b := true) (i := 27) rfl rfl ?_
                                refine At.split rfl rfl rfl (fun _ => ?_) (fun h => absurd h (by first | decide | simp))
                                refine At.callq (goes_func cf38 rfl) (Qc.stay (r24_Loops (p.few 10) ((p.few 10).cs ap cp))) rfl ?_
                                refine At.nil ?_
                                refine At.cn (fun h => absurd h (by decide)) ?_
                                refine At.c0g rfl rfl rfl (fun hg => (Ev.cast (v' := .bool true) (ev_eq rfl rfl (EQ.bool T.un4) rfl) (by simp))) rfl rfl ?_
                                refine At.c0 rfl (ev_pickT rfl rfl rfl) rfl ?_
                                refine At.c0 rfl (ev_move rfl) rfl ?_
                                refine At.c2 rfl ?_ ?_
                                · intro w0
                                  refine At.split rfl rfl rfl (fun _ => ?_) (fun h => absurd h (by first | decide | simp))
                                  refine At.callq (goes_func cf31 rfl) (Qc.pure (law24_lives)) rfl ?_
                                  refine At.nil ?_
                                  refine At.cn (fun h => absurd h (by decide)) ?_
                                  refine At.c0 rfl (ev_pickT rfl rfl rfl) rfl ?_
                                  refine At.c0 rfl (ev_assign rfl) rfl ?_
                                  refine At.cnil ?_
                                  refine At.thenN ?_
                                  refine At.retC ?_
                                  refine At.ret (rs := [.tmp 4]) rfl (Res.tmp rfl Res.nil) ?_
                                  exact Imp.pur rfl (Imp.nil _)
                                exact At.cstop
                              exact At.cstop
                            exact At.cstop
                          exact At.cstop
                        exact At.cstop
                      refine At.c2 rfl ?_ ?_
                      · intro w0
                        refine At.split rfl rfl rfl (fun _ => ?_) (fun h => absurd h (by first | decide | simp))
                        refine At.ev (ldA T.ld26 rfl) rfl ?_
                        refine At.nil ?_
                        refine At.cn (fun h => absurd h (by decide)) ?_
                        refine At.c2 rfl ?_ ?_
                        · intro w0
                          refine At.split rfl rfl rfl (fun _ => ?_) (fun h => absurd h (by first | decide | simp))
                          refine At.ev (ldA T.ld26 rfl) rfl ?_
                          refine At.nil ?_
                          refine At.cn (fun h => absurd h (by decide)) ?_
                          refine At.c2 rfl ?_ ?_
                          · intro w0
                            refine At.ungd (s := 23) (b := true) (i := 24) rfl rfl ?_
                            refine At.split rfl rfl rfl (fun _ => ?_) (fun h => absurd h (by first | decide | simp))
                            refine At.do (goes_func cf26 rfl) (law13_Few (p.few 10) ((p.few 10).cs ap cp) 10 (by decide)) ?_
                            intro _
                            refine At.ag ?_
                            rintro cs3 rfl
                            rw [Prog.few_few]
                            refine At.nil ?_
                            refine At.cn (fun h => absurd h (by decide)) ?_
                            refine At.c2 rfl ?_ ?_
                            · intro w0
                              refine At.ungd (s := 23) (b := true) (i := 25) rfl rfl ?_
                              refine At.split rfl rfl rfl (fun _ => ?_) (fun h => absurd h (by first | decide | simp))
                              refine At.callq (goes_func cf37 rfl) (Qc.stay (flow_Loops (p.few 10) cs3)) rfl ?_
                              refine At.nil ?_
                              refine At.cn (fun h => absurd h (by decide)) ?_
                              refine At.c2 rfl ?_ ?_
                              · intro w0
                                refine At.ungd (s := 23) (b := true) (i := 27) rfl rfl ?_
                                refine At.split rfl rfl rfl (fun _ => ?_) (fun h => absurd h (by first | decide | simp))
                                refine At.callq (goes_func cf38 rfl) (Qc.stay (r24_Loops (p.few 10) ((p.few 10).cs ap cp))) rfl ?_
                                refine At.nil ?_
                                refine At.cn (fun h => absurd h (by decide)) ?_
                                refine At.c0g rfl rfl rfl (fun hg => (Ev.cast (v' := .bool true) (ev_eq rfl rfl (EQ.bool T.un4) rfl) (by simp))) rfl rfl ?_
                                refine At.c0 rfl (ev_pickT rfl rfl rfl) rfl ?_
                                refine At.c0 rfl (ev_move rfl) rfl ?_
                                refine At.c2 rfl ?_ ?_
                                · intro w0
                                  refine At.split rfl rfl rfl (fun _ => ?_) (fun h => absurd h (by first | decide | simp))
                                  refine At.callq (goes_func cf31 rfl) (Qc.pure (law24_lives)) rfl ?_
                                  refine At.nil ?_
                                  refine At.cn (fun h => absurd h (by decide)) ?_
                                  refine At.c0 rfl (ev_pickT rfl rfl rfl) rfl ?_
                                  refine At.c0 rfl (ev_assign rfl) rfl ?_
                                  refine At.cnil ?_
                                  refine At.thenN ?_
                                  refine At.retC ?_
                                  refine At.ret (rs := [.tmp 4]) rfl (Res.tmp rfl Res.nil) ?_
                                  exact Imp.pur rfl (Imp.nil _)
                                exact At.cstop
                              exact At.cstop
                            exact At.cstop
                          exact At.cstop
                        exact At.cstop
                      exact At.cstop
                    exact At.cstop
                  exact At.cstop
                exact At.cstop
              refine At.c2 rfl ?_ ?_
              · intro w0
                refine At.split rfl rfl rfl (fun _ => ?_) (fun h => absurd h (by first | decide | simp))
                refine At.ev (ldA T.ld26 rfl) rfl ?_
                refine At.nil ?_
                refine At.cn (fun h => absurd h (by decide)) ?_
                refine At.c2 rfl ?_ ?_
                · intro w0
                  refine At.ungd (s := 15) (b := true) (i := 17) rfl rfl ?_
                  refine At.split rfl rfl rfl (fun _ => ?_) (fun h => absurd h (by first | decide | simp))
                  refine At.do (goes_func cf35 rfl) (flow_Reach (p.few 10) cs2) ?_
                  intro _
                  refine At.rowI ?_
                  intro aoh ch e _ _
                  subst e
                  refine At.nil ?_
                  refine At.cn (fun h => absurd h (by decide)) ?_
                  refine At.c2 rfl ?_ ?_
                  · intro w0
                    refine At.ungd (s := 15) (b := true) (i := 19) rfl rfl ?_
                    refine At.split rfl rfl rfl (fun _ => ?_) (fun h => absurd h (by first | decide | simp))
                    refine At.do (goes_func cf36 rfl) (r24_Reach (p.few 10) ((p.few 10).cs ap cp)) ?_
                    intro v
                    rw [reach_two]
                    refine At.sl ?_
                    rintro aoq cq rfl hcq
                    refine At.nil ?_
                    refine At.cn (fun h => absurd h (by decide)) ?_
                    refine At.c2 rfl ?_ ?_
                    · intro w0
                      refine At.sealI (ao := aoh) (reachP (p.few 10)) rfl (reachP_i64 _) (fun _ _ => ?_)
                      refine At.ungd (s := 15) (b := true) (i := 18) rfl rfl ?_
                      refine At.ungd (s := 15) (b := true) (i := 20) rfl rfl ?_
                      refine At.split rfl rfl rfl (fun _ => ?_) (fun h => absurd h (by first | decide | simp))
                      refine At.callq (goes_func cf32 rfl) (Qc.cast (Qc.stay2 (r04_Same aoh aoq ch cq (reachP (p.few 10)) (reachP (p.few 10)))) (congrArg Value.bool (by simp) : _ = Value.bool true)) rfl ?_
                      refine At.nil ?_
                      refine At.cn (fun h => absurd h (by decide)) ?_
                      refine At.c0 rfl (ev_pickT rfl rfl rfl) rfl ?_
                      refine At.c0 rfl (ev_move rfl) rfl ?_
                      refine At.c2 rfl ?_ ?_
                      · intro w0
                        refine At.split rfl rfl rfl (fun _ => ?_) (fun h => absurd h (by first | decide | simp))
                        refine At.ev (ldA T.ld26 rfl) rfl ?_
                        refine At.nil ?_
                        refine At.cn (fun h => absurd h (by decide)) ?_
                        refine At.c2 rfl ?_ ?_
                        · intro w0
                          refine At.ungd (s := 23) (b := true) (i := 24) rfl rfl ?_
                          refine At.split rfl rfl rfl (fun _ => ?_) (fun h => absurd h (by first | decide | simp))
                          refine At.do (goes_func cf26 rfl) (law13_Few (p.few 10) ((p.few 10).cs ap cp) 10 (by decide)) ?_
                          intro _
                          refine At.ag ?_
                          rintro cs3 rfl
                          rw [Prog.few_few]
                          refine At.nil ?_
                          refine At.cn (fun h => absurd h (by decide)) ?_
                          refine At.c2 rfl ?_ ?_
                          · intro w0
                            refine At.ungd (s := 23) (b := true) (i := 25) rfl rfl ?_
                            refine At.split rfl rfl rfl (fun _ => ?_) (fun h => absurd h (by first | decide | simp))
                            refine At.callq (goes_func cf37 rfl) (Qc.stay (flow_Loops (p.few 10) cs3)) rfl ?_
                            refine At.nil ?_
                            refine At.cn (fun h => absurd h (by decide)) ?_
                            refine At.c2 rfl ?_ ?_
                            · intro w0
                              refine At.split rfl rfl rfl (fun _ => ?_) (fun h => absurd h (by first | decide | simp))
                              refine At.ev (ldA T.ld26 rfl) rfl ?_
                              refine At.nil ?_
                              refine At.cn (fun h => absurd h (by decide)) ?_
                              refine At.c2 rfl ?_ ?_
                              · intro w0
                                refine At.ungd (s := 23) (b := true) (i := 27) rfl rfl ?_
                                refine At.split rfl rfl rfl (fun _ => ?_) (fun h => absurd h (by first | decide | simp))
                                refine At.callq (goes_func cf38 rfl) (Qc.stay (r24_Loops (p.few 10) ((p.few 10).cs ap cp))) rfl ?_
                                refine At.nil ?_
                                refine At.cn (fun h => absurd h (by decide)) ?_
                                refine At.c0g rfl rfl rfl (fun hg => (Ev.cast (v' := .bool true) (ev_eq rfl rfl (EQ.bool T.un4) rfl) (by simp))) rfl rfl ?_
                                refine At.c0 rfl (ev_pickT rfl rfl rfl) rfl ?_
                                refine At.c0 rfl (ev_move rfl) rfl ?_
                                refine At.c2 rfl ?_ ?_
                                · intro w0
                                  refine At.split rfl rfl rfl (fun _ => ?_) (fun h => absurd h (by first | decide | simp))
                                  refine At.callq (goes_func cf31 rfl) (Qc.pure (law24_lives)) rfl ?_
                                  refine At.nil ?_
                                  refine At.cn (fun h => absurd h (by decide)) ?_
                                  refine At.c0 rfl (ev_pickT rfl rfl rfl) rfl ?_
                                  refine At.c0 rfl (ev_assign rfl) rfl ?_
                                  refine At.cnil ?_
                                  refine At.thenN ?_
                                  refine At.retC ?_
                                  refine At.ret (rs := [.tmp 4]) rfl (Res.tmp rfl Res.nil) ?_
                                  exact Imp.pur rfl (Imp.nil _)
                                exact At.cstop
                              exact At.cstop
                            exact At.cstop
                          refine At.c2 rfl ?_ ?_
                          · intro w0
                            refine At.split rfl rfl rfl (fun _ => ?_) (fun h => absurd h (by first | decide | simp))
                            refine At.ev (ldA T.ld26 rfl) rfl ?_
                            refine At.nil ?_
                            refine At.cn (fun h => absurd h (by decide)) ?_
                            refine At.c2 rfl ?_ ?_
                            · intro w0
                              refine At.ungd (s := 23) (b := true) (i := 25) rfl rfl ?_
                              refine At.split rfl rfl rfl (fun _ => ?_) (fun h => absurd h (by first | decide | simp))
                              refine At.callq (goes_func cf37 rfl) (Qc.stay (flow_Loops (p.few 10) cs3)) rfl ?_
                              refine At.nil ?_
                              refine At.cn (fun h => absurd h (by decide)) ?_
                              refine At.c2 rfl ?_ ?_
                              · intro w0
                                refine At.ungd (s := 23) (b := true) (i := 27) rfl rfl ?_
                                refine At.split rfl rfl rfl (fun _ => ?_) (fun h => absurd h (by first | decide | simp))
                                refine At.callq (goes_func cf38 rfl) (Qc.stay (r24_Loops (p.few 10) ((p.few 10).cs ap cp))) rfl ?_
                                refine At.nil ?_
                                refine At.cn (fun h => absurd h (by decide)) ?_
                                refine At.c0g rfl rfl rfl (fun hg => (Ev.cast (v' := .bool true) (ev_eq rfl rfl (EQ.bool T.un4) rfl) (by simp))) rfl rfl ?_
                                refine At.c0 rfl (ev_pickT rfl rfl rfl) rfl ?_
                                refine At.c0 rfl (ev_move rfl) rfl ?_
                                refine At.c2 rfl ?_ ?_
                                · intro w0
                                  refine At.split rfl rfl rfl (fun _ => ?_) (fun h => absurd h (by first | decide | simp))
                                  refine At.callq (goes_func cf31 rfl) (Qc.pure (law24_lives)) rfl ?_
                                  refine At.nil ?_
                                  refine At.cn (fun h => absurd h (by decide)) ?_
                                  refine At.c0 rfl (ev_pickT rfl rfl rfl) rfl ?_
                                  refine At.c0 rfl (ev_assign rfl) rfl ?_
                                  refine At.cnil ?_
                                  refine At.thenN ?_
                                  refine At.retC ?_
                                  refine At.ret (rs := [.tmp 4]) rfl (Res.tmp rfl Res.nil) ?_
                                  exact Imp.pur rfl (Imp.nil _)
                                exact At.cstop
                              exact At.cstop
                            exact At.cstop
                          exact At.cstop
                        refine At.c2 rfl ?_ ?_
                        · intro w0
                          refine At.split rfl rfl rfl (fun _ => ?_) (fun h => absurd h (by first | decide | simp))
                          refine At.ev (ldA T.ld26 rfl) rfl ?_
                          refine At.nil ?_
                          refine At.cn (fun h => absurd h (by decide)) ?_
                          refine At.c2 rfl ?_ ?_
                          · intro w0
                            refine At.ungd (s := 23) (b := true) (i := 24) rfl rfl ?_
                            refine At.split rfl rfl rfl (fun _ => ?_) (fun h => absurd h (by first | decide | simp))
                            refine At.do (goes_func cf26 rfl) (law13_Few (p.few 10) ((p.few 10).cs ap cp) 10 (by decide)) ?_
                            intro _
                            refine At.ag ?_
                            rintro cs3 rfl
                            rw [Prog.few_few]
                            refine At.nil ?_
                            refine At.cn (fun h => absurd h (by decide)) ?_
                            refine At.c2 rfl ?_ ?_
                            · intro w0
                              refine At.ungd (s := 23) (b := true) (i := 25) rfl rfl ?_
                              refine At.split rfl rfl rfl (fun _ => ?_) (fun h => absurd h (by first | decide | simp))
                              refine At.callq (goes_func cf37 rfl) (Qc.stay (flow_Loops (p.few 10) cs3)) rfl ?_
                              refine At.nil ?_
                              refine At.cn (fun h => absurd h (by decide)) ?_
                              refine At.c2 rfl ?_ ?_
                              · intro w0
                                refine At.ungd (s := 23) (b := true) (i := 27) rfl rfl ?_
                                refine At.split rfl rfl rfl (fun _ => ?_) (fun h => absurd h (by first | decide | simp))
                                refine At.callq (goes_func cf38 rfl) (Qc.stay (r24_Loops (p.few 10) ((p.few 10).cs ap cp))) rfl ?_
                                refine At.nil ?_
                                refine At.cn (fun h => absurd h (by decide)) ?_
                                refine At.c0g rfl rfl rfl (fun hg => (Ev.cast (v' := .bool true) (ev_eq rfl rfl (EQ.bool T.un4) rfl) (by simp))) rfl rfl ?_
                                refine At.c0 rfl (ev_pickT rfl rfl rfl) rfl ?_
                                refine At.c0 rfl (ev_move rfl) rfl ?_
                                refine At.c2 rfl ?_ ?_
                                · intro w0
                                  refine At.split rfl rfl rfl (fun _ => ?_) (fun h => absurd h (by first | decide | simp))
                                  refine At.callq (goes_func cf31 rfl) (Qc.pure (law24_lives)) rfl ?_
                                  refine At.nil ?_
                                  refine At.cn (fun h => absurd h (by decide)) ?_
                                  refine At.c0 rfl (ev_pickT rfl rfl rfl) rfl ?_
                                  refine At.c0 rfl (ev_assign rfl) rfl ?_
                                  refine At.cnil ?_
                                  refine At.thenN ?_
                                  refine At.retC ?_
                                  refine At.ret (rs := [.tmp 4]) rfl (Res.tmp rfl Res.nil) ?_
                                  exact Imp.pur rfl (Imp.nil _)
                                exact At.cstop
                              exact At.cstop
                            exact At.cstop
                          exact At.cstop
                        exact At.cstop
                      refine At.c2 rfl ?_ ?_
                      · intro w0
                        refine At.split rfl rfl rfl (fun _ => ?_) (fun h => absurd h (by first | decide | simp))
                        refine At.ev (ldA T.ld26 rfl) rfl ?_
                        refine At.nil ?_
                        refine At.cn (fun h => absurd h (by decide)) ?_
                        refine At.c2 rfl ?_ ?_
                        · intro w0
                          refine At.split rfl rfl rfl (fun _ => ?_) (fun h => absurd h (by first | decide | simp))
                          refine At.ev (ldA T.ld26 rfl) rfl ?_
                          refine At.nil ?_
                          refine At.cn (fun h => absurd h (by decide)) ?_
                          refine At.c2 rfl ?_ ?_
                          · intro w0
                            refine At.ungd (s := 23) (b := true) (i := 24) rfl rfl ?_
                            refine At.split rfl rfl rfl (fun _ => ?_) (fun h => absurd h (by first | decide | simp))
                            refine At.do (goes_func cf26 rfl) (law13_Few (p.few 10) ((p.few 10).cs ap cp) 10 (by decide)) ?_
                            intro _
                            refine At.ag ?_
                            rintro cs3 rfl
                            rw [Prog.few_few]
                            refine At.nil ?_
                            refine At.cn (fun h => absurd h (by decide)) ?_
                            refine At.c2 rfl ?_ ?_
                            · intro w0
                              refine At.ungd (s := 23) (b := true) (i := 25) rfl rfl ?_
                              refine At.split rfl rfl rfl (fun _ => ?_) (fun h => absurd h (by first | decide | simp))
                              refine At.callq (goes_func cf37 rfl) (Qc.stay (flow_Loops (p.few 10) cs3)) rfl ?_
                              refine At.nil ?_
                              refine At.cn (fun h => absurd h (by decide)) ?_
                              refine At.c2 rfl ?_ ?_
                              · intro w0
                                refine At.ungd (s := 23) (b := true) (i := 27) rfl rfl ?_
                                refine At.split rfl rfl rfl (fun _ => ?_) (fun h => absurd h (by first | decide | simp))
                                refine At.callq (goes_func cf38 rfl) (Qc.stay (r24_Loops (p.few 10) ((p.few 10).cs ap cp))) rfl ?_
                                refine At.nil ?_
                                refine At.cn (fun h => absurd h (by decide)) ?_
                                refine At.c0g rfl rfl rfl (fun hg => (Ev.cast (v' := .bool true) (ev_eq rfl rfl (EQ.bool T.un4) rfl) (by simp))) rfl rfl ?_
                                refine At.c0 rfl (ev_pickT rfl rfl rfl) rfl ?_
                                refine At.c0 rfl (ev_move rfl) rfl ?_
                                refine At.c2 rfl ?_ ?_
                                · intro w0
                                  refine At.split rfl rfl rfl (fun _ => ?_) (fun h => absurd h (by first | decide | simp))
                                  refine At.callq (goes_func cf31 rfl) (Qc.pure (law24_lives)) rfl ?_
                                  refine At.nil ?_
                                  refine At.cn (fun h => absurd h (by decide)) ?_
                                  refine At.c0 rfl (ev_pickT rfl rfl rfl) rfl ?_
                                  refine At.c0 rfl (ev_assign rfl) rfl ?_
                                  refine At.cnil ?_
                                  refine At.thenN ?_
                                  refine At.retC ?_
                                  refine At.ret (rs := [.tmp 4]) rfl (Res.tmp rfl Res.nil) ?_
                                  exact Imp.pur rfl (Imp.nil _)
                                exact At.cstop
                              exact At.cstop
                            exact At.cstop
                          exact At.cstop
                        exact At.cstop
                      exact At.cstop
                    exact At.cstop
                  exact At.cstop
                exact At.cstop
              exact At.cstop
            refine At.c2 rfl ?_ ?_
            · intro w0
              refine At.split rfl rfl rfl (fun _ => ?_) (fun h => absurd h (by first | decide | simp))
              refine At.ev (ldA T.ld26 rfl) rfl ?_
              refine At.nil ?_
              refine At.cn (fun h => absurd h (by decide)) ?_
              refine At.c2 rfl ?_ ?_
              · intro w0
                refine At.ungd (s := 15) (b := true) (i := 16) rfl rfl ?_
                refine At.split rfl rfl rfl (fun _ => ?_) (fun h => absurd h (by first | decide | simp))
                refine At.do (goes_func cf26 rfl) (law13_Few (p.few 10) ((p.few 10).cs ap cp) 10 (by decide)) ?_
                intro _
                refine At.ag ?_
                rintro cs2 rfl
                rw [Prog.few_few]
                refine At.nil ?_
                refine At.cn (fun h => absurd h (by decide)) ?_
                refine At.c2 rfl ?_ ?_
                · intro w0
                  refine At.ungd (s := 15) (b := true) (i := 17) rfl rfl ?_
                  refine At.split rfl rfl rfl (fun _ => ?_) (fun h => absurd h (by first | decide | simp))
                  refine At.do (goes_func cf35 rfl) (flow_Reach (p.few 10) cs2) ?_
                  intro _
                  refine At.rowI ?_
                  intro aoh ch e _ _
                  subst e
                  refine At.nil ?_
                  refine At.cn (fun h => absurd h (by decide)) ?_
                  refine At.c2 rfl ?_ ?_
                  · intro w0
                    refine At.ungd (s := 15) (b := true) (i := 19) rfl rfl ?_
                    refine At.split rfl rfl rfl (fun _ => ?_) (fun h => absurd h (by first | decide | simp))
                    refine At.do (goes_func cf36 rfl) (r24_Reach (p.few 10) ((p.few 10).cs ap cp)) ?_
                    intro v
                    rw [reach_two]
                    refine At.sl ?_
                    rintro aoq cq rfl hcq
                    refine At.nil ?_
                    refine At.cn (fun h => absurd h (by decide)) ?_
                    refine At.c2 rfl ?_ ?_
                    · intro w0
                      refine At.sealI (ao := aoh) (reachP (p.few 10)) rfl (reachP_i64 _) (fun _ _ => ?_)
                      refine At.ungd (s := 15) (b := true) (i := 18) rfl rfl ?_
                      refine At.ungd (s := 15) (b := true) (i := 20) rfl rfl ?_
                      refine At.split rfl rfl rfl (fun _ => ?_) (fun h => absurd h (by first | decide | simp))
                      refine At.callq (goes_func cf32 rfl) (Qc.cast (Qc.stay2 (r04_Same aoh aoq ch cq (reachP (p.few 10)) (reachP (p.few 10)))) (congrArg Value.bool (by simp) : _ = Value.bool true)) rfl ?_
                      refine At.nil ?_
                      refine At.cn (fun h => absurd h (by decide)) ?_
                      refine At.c0 rfl (ev_pickT rfl rfl rfl) rfl ?_
                      refine At.c0 rfl (ev_move rfl) rfl ?_
                      refine At.c2 rfl ?_ ?_
                      · intro w0
                        refine At.split rfl rfl rfl (fun _ => ?_) (fun h => absurd h (by first | decide | simp))
                        refine At.ev (ldA T.ld26 rfl) rfl ?_
                        refine At.nil ?_
                        refine At.cn (fun h => absurd h (by decide)) ?_
                        refine At.c2 rfl ?_ ?_
                        · intro w0
                          refine At.ungd (s := 23) (b := true) (i := 24) rfl rfl ?_
                          refine At.split rfl rfl rfl (fun _ => ?_) (fun h => absurd h (by first | decide | simp))
                          refine At.do (goes_func cf26 rfl) (law13_Few (p.few 10) ((p.few 10).cs ap cp) 10 (by decide)) ?_
                          intro _
                          refine At.ag ?_
                          rintro cs3 rfl
                          rw [Prog.few_few]
                          refine At.nil ?_
                          refine At.cn (fun h => absurd h (by decide)) ?_
                          refine At.c2 rfl ?_ ?_
                          · intro w0
                            refine At.ungd (s := 23) (b := true) (i := 25) rfl rfl ?_
                            refine At.split rfl rfl rfl (fun _ => ?_) (fun h => absurd h (by first | decide | simp))
                            refine At.callq (goes_func cf37 rfl) (Qc.stay (flow_Loops (p.few 10) cs3)) rfl ?_
                            refine At.nil ?_
                            refine At.cn (fun h => absurd h (by decide)) ?_
                            refine At.c2 rfl ?_ ?_
                            · intro w0
                              refine At.split rfl rfl rfl (fun _ => ?_) (fun h => absurd h (by first | decide | simp))
                              refine At.ev (ldA T.ld26 rfl) rfl ?_
                              refine At.nil ?_
                              refine At.cn (fun h => absurd h (by decide)) ?_
                              refine At.c2 rfl ?_ ?_
                              · intro w0
                                refine At.ungd (s := 23) (b := true) (i := 27) rfl rfl ?_
                                refine At.split rfl rfl rfl (fun _ => ?_) (fun h => absurd h (by first | decide | simp))
                                refine At.callq (goes_func cf38 rfl) (Qc.stay (r24_Loops (p.few 10) ((p.few 10).cs ap cp))) rfl ?_
                                refine At.nil ?_
                                refine At.cn (fun h => absurd h (by decide)) ?_
                                refine At.c0g rfl rfl rfl (fun hg => (Ev.cast (v' := .bool true) (ev_eq rfl rfl (EQ.bool T.un4) rfl) (by simp))) rfl rfl ?_
                                refine At.c0 rfl (ev_pickT rfl rfl rfl) rfl ?_
                                refine At.c0 rfl (ev_move rfl) rfl ?_
                                refine At.c2 rfl ?_ ?_
                                · intro w0
                                  refine At.split rfl rfl rfl (fun _ => ?_) (fun h => absurd h (by first | decide | simp))
                                  refine At.callq (goes_func cf31 rfl) (Qc.pure (law24_lives)) rfl ?_
                                  refine At.nil ?_
                                  refine At.cn (fun h => absurd h (by decide)) ?_
                                  refine At.c0 rfl (ev_pickT rfl rfl rfl) rfl ?_
                                  refine At.c0 rfl (ev_assign rfl) rfl ?_
                                  refine At.cnil ?_
                                  refine At.thenN ?_
                                  refine At.retC ?_
                                  refine At.ret (rs := [.tmp 4]) rfl (Res.tmp rfl Res.nil) ?_
                                  exact Imp.pur rfl (Imp.nil _)
                                exact At.cstop
                              exact At.cstop
                            exact At.cstop
                          refine At.c2 rfl ?_ ?_
                          · intro w0
                            refine At.split rfl rfl rfl (fun _ => ?_) (fun h => absurd h (by first | decide | simp))
                            refine At.ev (ldA T.ld26 rfl) rfl ?_
                            refine At.nil ?_
                            refine At.cn (fun h => absurd h (by decide)) ?_
                            refine At.c2 rfl ?_ ?_
                            · intro w0
                              refine At.ungd (s := 23) (b := true) (i := 25) rfl rfl ?_
                              refine At.split rfl rfl rfl (fun _ => ?_) (fun h => absurd h (by first | decide | simp))
                              refine At.callq (goes_func cf37 rfl) (Qc.stay (flow_Loops (p.few 10) cs3)) rfl ?_
                              refine At.nil ?_
                              refine At.cn (fun h => absurd h (by decide)) ?_
                              refine At.c2 rfl ?_ ?_
                              · intro w0
                                refine At.ungd (s := 23) (b := true) (i := 27) rfl rfl ?_
                                refine At.split rfl rfl rfl (fun _ => ?_) (fun h => absurd h (by first | decide | simp))
                                refine At.callq (goes_func cf38 rfl) (Qc.stay (r24_Loops (p.few 10) ((p.few 10).cs ap cp))) rfl ?_
                                refine At.nil ?_
                                refine At.cn (fun h => absurd h (by decide)) ?_
                                refine At.c0g rfl rfl rfl (fun hg => (Ev.cast (v' := .bool true) (ev_eq rfl rfl (EQ.bool T.un4) rfl) (by simp))) rfl rfl ?_
                                refine At.c0 rfl (ev_pickT rfl rfl rfl) rfl ?_
                                refine At.c0 rfl (ev_move rfl) rfl ?_
                                refine At.c2 rfl ?_ ?_
                                · intro w0
                                  refine At.split rfl rfl rfl (fun _ => ?_) (fun h => absurd h (by first | decide | simp))
                                  refine At.callq (goes_func cf31 rfl) (Qc.pure (law24_lives)) rfl ?_
                                  refine At.nil ?_
                                  refine At.cn (fun h => absurd h (by decide)) ?_
                                  refine At.c0 rfl (ev_pickT rfl rfl rfl) rfl ?_
                                  refine At.c0 rfl (ev_assign rfl) rfl ?_
                                  refine At.cnil ?_
                                  refine At.thenN ?_
                                  refine At.retC ?_
                                  refine At.ret (rs := [.tmp 4]) rfl (Res.tmp rfl Res.nil) ?_
                                  exact Imp.pur rfl (Imp.nil _)
                                exact At.cstop
                              exact At.cstop
                            exact At.cstop
                          exact At.cstop
                        refine At.c2 rfl ?_ ?_
                        · intro w0
                          refine At.split rfl rfl rfl (fun _ => ?_) (fun h => absurd h (by first | decide | simp))
                          refine At.ev (ldA T.ld26 rfl) rfl ?_
                          refine At.nil ?_
                          refine At.cn (fun h => absurd h (by decide)) ?_
                          refine At.c2 rfl ?_ ?_
                          · intro w0
                            refine At.ungd (s := 23) (b := true) (i := 24) rfl rfl ?_
                            refine At.split rfl rfl rfl (fun _ => ?_) (fun h => absurd h (by first | decide | simp))
                            refine At.do (goes_func cf26 rfl) (law13_Few (p.few 10) ((p.few 10).cs ap cp) 10 (by decide)) ?_
                            intro _
                            refine At.ag ?_
                            rintro cs3 rfl
                            rw [Prog.few_few]
                            refine At.nil ?_
                            refine At.cn (fun h => absurd h (by decide)) ?_
                            refine At.c2 rfl ?_ ?_
                            · intro w0
                              refine At.ungd (s := 23) (b := true) (i := 25) rfl rfl ?_
                              refine At.split rfl rfl rfl (fun _ => ?_) (fun h => absurd h (by first | decide | simp))
                              refine At.callq (goes_func cf37 rfl) (Qc.stay (flow_Loops (p.few 10) cs3)) rfl ?_
                              refine At.nil ?_
                              refine At.cn (fun h => absurd h (by decide)) ?_
                              refine At.c2 rfl ?_ ?_
                              · intro w0
                                refine At.ungd (s := 23) (b := true) (i := 27) rfl rfl ?_
                                refine At.split rfl rfl rfl (fun _ => ?_) (fun h => absurd h (by first | decide | simp))
                                refine At.callq (goes_func cf38 rfl) (Qc.stay (r24_Loops (p.few 10) ((p.few 10).cs ap cp))) rfl ?_
                                refine At.nil ?_
                                refine At.cn (fun h => absurd h (by decide)) ?_
                                refine At.c0g rfl rfl rfl (fun hg => (Ev.cast (v' := .bool true) (ev_eq rfl rfl (EQ.bool T.un4) rfl) (by simp))) rfl rfl ?_
                                refine At.c0 rfl (ev_pickT rfl rfl rfl) rfl ?_
                                refine At.c0 rfl (ev_move rfl) rfl ?_
                                refine At.c2 rfl ?_ ?_
                                · intro w0
                                  refine At.split rfl rfl rfl (fun _ => ?_) (fun h => absurd h (by first | decide | simp))
                                  refine At.callq (goes_func cf31 rfl) (Qc.pure (law24_lives)) rfl ?_
                                  refine At.nil ?_
                                  refine At.cn (fun h => absurd h (by decide)) ?_
                                  refine At.c0 rfl (ev_pickT rfl rfl rfl) rfl ?_
                                  refine At.c0 rfl (ev_assign rfl) rfl ?_
                                  refine At.cnil ?_
                                  refine At.thenN ?_
                                  refine At.retC ?_
                                  refine At.ret (rs := [.tmp 4]) rfl (Res.tmp rfl Res.nil) ?_
                                  exact Imp.pur rfl (Imp.nil _)
                                exact At.cstop
                              exact At.cstop
                            exact At.cstop
                          exact At.cstop
                        exact At.cstop
                      refine At.c2 rfl ?_ ?_
                      · intro w0
                        refine At.split rfl rfl rfl (fun _ => ?_) (fun h => absurd h (by first | decide | simp))
                        refine At.ev (ldA T.ld26 rfl) rfl ?_
                        refine At.nil ?_
                        refine At.cn (fun h => absurd h (by decide)) ?_
                        refine At.c2 rfl ?_ ?_
                        · intro w0
                          refine At.split rfl rfl rfl (fun _ => ?_) (fun h => absurd h (by first | decide | simp))
                          refine At.ev (ldA T.ld26 rfl) rfl ?_
                          refine At.nil ?_
                          refine At.cn (fun h => absurd h (by decide)) ?_
                          refine At.c2 rfl ?_ ?_
                          · intro w0
                            refine At.ungd (s := 23) (b := true) (i := 24) rfl rfl ?_
                            refine At.split rfl rfl rfl (fun _ => ?_) (fun h => absurd h (by first | decide | simp))
                            refine At.do (goes_func cf26 rfl) (law13_Few (p.few 10) ((p.few 10).cs ap cp) 10 (by decide)) ?_
                            intro _
                            refine At.ag ?_
                            rintro cs3 rfl
                            rw [Prog.few_few]
                            refine At.nil ?_
                            refine At.cn (fun h => absurd h (by decide)) ?_
                            refine At.c2 rfl ?_ ?_
                            · intro w0
                              refine At.ungd (s := 23) (b := true) (i := 25) rfl rfl ?_
                              refine At.split rfl rfl rfl (fun _ => ?_) (fun h => absurd h (by first | decide | simp))
                              refine At.callq (goes_func cf37 rfl) (Qc.stay (flow_Loops (p.few 10) cs3)) rfl ?_
                              refine At.nil ?_
                              refine At.cn (fun h => absurd h (by decide)) ?_
                              refine At.c2 rfl ?_ ?_
                              · intro w0
                                refine At.ungd (s := 23) (b := true) (i := 27) rfl rfl ?_
                                refine At.split rfl rfl rfl (fun _ => ?_) (fun h => absurd h (by first | decide | simp))
                                refine At.callq (goes_func cf38 rfl) (Qc.stay (r24_Loops (p.few 10) ((p.few 10).cs ap cp))) rfl ?_
                                refine At.nil ?_
                                refine At.cn (fun h => absurd h (by decide)) ?_
                                refine At.c0g rfl rfl rfl (fun hg => (Ev.cast (v' := .bool true) (ev_eq rfl rfl (EQ.bool T.un4) rfl) (by simp))) rfl rfl ?_
                                refine At.c0 rfl (ev_pickT rfl rfl rfl) rfl ?_
                                refine At.c0 rfl (ev_move rfl) rfl ?_
                                refine At.c2 rfl ?_ ?_
                                · intro w0
                                  refine At.split rfl rfl rfl (fun _ => ?_) (fun h => absurd h (by first | decide | simp))
                                  refine At.callq (goes_func cf31 rfl) (Qc.pure (law24_lives)) rfl ?_
                                  refine At.nil ?_
                                  refine At.cn (fun h => absurd h (by decide)) ?_
                                  refine At.c0 rfl (ev_pickT rfl rfl rfl) rfl ?_
                                  refine At.c0 rfl (ev_assign rfl) rfl ?_
                                  refine At.cnil ?_
                                  refine At.thenN ?_
                                  refine At.retC ?_
                                  refine At.ret (rs := [.tmp 4]) rfl (Res.tmp rfl Res.nil) ?_
                                  exact Imp.pur rfl (Imp.nil _)
                                exact At.cstop
                              exact At.cstop
                            exact At.cstop
                          exact At.cstop
                        exact At.cstop
                      exact At.cstop
                    exact At.cstop
                  exact At.cstop
                exact At.cstop
              exact At.cstop
            exact At.cstop
          refine At.c2 rfl ?_ ?_
          · intro w0
            refine At.split rfl rfl rfl (fun _ => ?_) (fun h => absurd h (by first | decide | simp))
            refine At.ev (ldA T.ld26 rfl) rfl ?_
            refine At.nil ?_
            refine At.cn (fun h => absurd h (by decide)) ?_
            refine At.c2 rfl ?_ ?_
            · intro w0
              refine At.split rfl rfl rfl (fun _ => ?_) (fun h => absurd h (by first | decide | simp))
              refine At.ev (ldA T.ld26 rfl) rfl ?_
              refine At.nil ?_
              refine At.cn (fun h => absurd h (by decide)) ?_
              refine At.c2 rfl ?_ ?_
              · intro w0
                refine At.ungd (s := 15) (b := true) (i := 16) rfl rfl ?_
                refine At.split rfl rfl rfl (fun _ => ?_) (fun h => absurd h (by first | decide | simp))
                refine At.do (goes_func cf26 rfl) (law13_Few (p.few 10) ((p.few 10).cs ap cp) 10 (by decide)) ?_
                intro _
                refine At.ag ?_
                rintro cs2 rfl
                rw [Prog.few_few]
                refine At.nil ?_
                refine At.cn (fun h => absurd h (by decide)) ?_
                refine At.c2 rfl ?_ ?_
                · intro w0
                  refine At.ungd (s := 15) (b := true) (i := 17) rfl rfl ?_
                  refine At.split rfl rfl rfl (fun _ => ?_) (fun h => absurd h (by first | decide | simp))
                  refine At.do (goes_func cf35 rfl) (flow_Reach (p.few 10) cs2) ?_
                  intro _
                  refine At.rowI ?_
                  intro aoh ch e _ _
                  subst e
                  refine At.nil ?_
                  refine At.cn (fun h => absurd h (by decide)) ?_
                  refine At.c2 rfl ?_ ?_
                  · intro w0
                    refine At.ungd (s := 15) (b := true) (i := 19) rfl rfl ?_
                    refine At.split rfl rfl rfl (fun _ => ?_) (fun h => absurd h (by first | decide | simp))
                    refine At.do (goes_func cf36 rfl) (r24_Reach (p.few 10) ((p.few 10).cs ap cp)) ?_
                    intro v
                    rw [reach_two]
                    refine At.sl ?_
                    rintro aoq cq rfl hcq
                    refine At.nil ?_
                    refine At.cn (fun h => absurd h (by decide)) ?_
                    refine At.c2 rfl ?_ ?_
                    · intro w0
                      refine At.sealI (ao := aoh) (reachP (p.few 10)) rfl (reachP_i64 _) (fun _ _ => ?_)
                      refine At.ungd (s := 15) (b := true) (i := 18) rfl rfl ?_
                      refine At.ungd (s := 15) (b := true) (i := 20) rfl rfl ?_
                      refine At.split rfl rfl rfl (fun _ => ?_) (fun h => absurd h (by first | decide | simp))
                      refine At.callq (goes_func cf32 rfl) (Qc.cast (Qc.stay2 (r04_Same aoh aoq ch cq (reachP (p.few 10)) (reachP (p.few 10)))) (congrArg Value.bool (by simp) : _ = Value.bool true)) rfl ?_
                      refine At.nil ?_
                      refine At.cn (fun h => absurd h (by decide)) ?_
                      refine At.c0 rfl (ev_pickT rfl rfl rfl) rfl ?_
                      refine At.c0 rfl (ev_move rfl) rfl ?_
                      refine At.c2 rfl ?_ ?_
                      · intro w0
                        refine At.split rfl rfl rfl (fun _ => ?_) (fun h => absurd h (by first | decide | simp))
                        refine At.ev (ldA T.ld26 rfl) rfl ?_
                        refine At.nil ?_
                        refine At.cn (fun h => absurd h (by decide)) ?_
                        refine At.c2 rfl ?_ ?_
                        · intro w0
                          refine At.ungd (s := 23) (b := true) (i := 24) rfl rfl ?_
                          refine At.split rfl rfl rfl (fun _ => ?_) (fun h => absurd h (by first | decide | simp))
                          refine At.do (goes_func cf26 rfl) (law13_Few (p.few 10) ((p.few 10).cs ap cp) 10 (by decide)) ?_
                          intro _
                          refine At.ag ?_
                          rintro cs3 rfl
                          rw [Prog.few_few]
                          refine At.nil ?_
                          refine At.cn (fun h => absurd h (by decide)) ?_
                          refine At.c2 rfl ?_ ?_
                          · intro w0
                            refine At.ungd (s := 23) (b := true) (i := 25) rfl rfl ?_
                            refine At.split rfl rfl rfl (fun _ => ?_) (fun h => absurd h (by first | decide | simp))
                            refine At.callq (goes_func cf37 rfl) (Qc.stay (flow_Loops (p.few 10) cs3)) rfl ?_
                            refine At.nil ?_
                            refine At.cn (fun h => absurd h (by decide)) ?_
                            refine At.c2 rfl ?_ ?_
                            · intro w0
                              refine At.split rfl rfl rfl (fun _ => ?_) (fun h => absurd h (by first | decide | simp))
                              refine At.ev (ldA T.ld26 rfl) rfl ?_
                              refine At.nil ?_
                              refine At.cn (fun h => absurd h (by decide)) ?_
                              refine At.c2 rfl ?_ ?_
                              · intro w0
                                refine At.ungd (s := 23) (b := true) (i := 27) rfl rfl ?_
                                refine At.split rfl rfl rfl (fun _ => ?_) (fun h => absurd h (by first | decide | simp))
                                refine At.callq (goes_func cf38 rfl) (Qc.stay (r24_Loops (p.few 10) ((p.few 10).cs ap cp))) rfl ?_
                                refine At.nil ?_
                                refine At.cn (fun h => absurd h (by decide)) ?_
                                refine At.c0g rfl rfl rfl (fun hg => (Ev.cast (v' := .bool true) (ev_eq rfl rfl (EQ.bool T.un4) rfl) (by simp))) rfl rfl ?_
                                refine At.c0 rfl (ev_pickT rfl rfl rfl) rfl ?_
                                refine At.c0 rfl (ev_move rfl) rfl ?_
                                refine At.c2 rfl ?_ ?_
                                · intro w0
                                  refine At.split rfl rfl rfl (fun _ => ?_) (fun h => absurd h (by first | decide | simp))
                                  refine At.callq (goes_func cf31 rfl) (Qc.pure (law24_lives)) rfl ?_
                                  refine At.nil ?_
                                  refine At.cn (fun h => absurd h (by decide)) ?_
                                  refine At.c0 rfl (ev_pickT rfl rfl rfl) rfl ?_
                                  refine At.c0 rfl (ev_assign rfl) rfl ?_
                                  refine At.cnil ?_
                                  refine At.thenN ?_
                                  refine At.retC ?_
                                  refine At.ret (rs := [.tmp 4]) rfl (Res.tmp rfl Res.nil) ?_
                                  exact Imp.pur rfl (Imp.nil _)
                                exact At.cstop
                              exact At.cstop
                            exact At.cstop
                          refine At.c2 rfl ?_ ?_
                          · intro w0
                            refine At.split rfl rfl rfl (fun _ => ?_) (fun h => absurd h (by first | decide | simp))
                            refine At.ev (ldA T.ld26 rfl) rfl ?_
                            refine At.nil ?_
                            refine At.cn (fun h => absurd h (by decide)) ?_
                            refine At.c2 rfl ?_ ?_
                            · intro w0
                              refine At.ungd (s := 23) (b := true) (i := 25) rfl rfl ?_
                              refine At.split rfl rfl rfl (fun _ => ?_) (fun h => absurd h (by first | decide | simp))
                              refine At.callq (goes_func cf37 rfl) (Qc.stay (flow_Loops (p.few 10) cs3)) rfl ?_
                              refine At.nil ?_
                              refine At.cn (fun h => absurd h (by decide)) ?_
                              refine At.c2 rfl ?_ ?_
                              · intro w0
                                refine At.ungd (s := 23) (b := true) (i := 27) rfl rfl ?_
                                refine At.split rfl rfl rfl (fun _ => ?_) (fun h => absurd h (by first | decide | simp))
                                refine At.callq (goes_func cf38 rfl) (Qc.stay (r24_Loops (p.few 10) ((p.few 10).cs ap cp))) rfl ?_
                                refine At.nil ?_
                                refine At.cn (fun h => absurd h (by decide)) ?_
                                refine At.c0g rfl rfl rfl (fun hg => (Ev.cast (v' := .bool true) (ev_eq rfl rfl (EQ.bool T.un4) rfl) (by simp))) rfl rfl ?_
                                refine At.c0 rfl (ev_pickT rfl rfl rfl) rfl ?_
                                refine At.c0 rfl (ev_move rfl) rfl ?_
                                refine At.c2 rfl ?_ ?_
                                · intro w0
                                  refine At.split rfl rfl rfl (fun _ => ?_) (fun h => absurd h (by first | decide | simp))
                                  refine At.callq (goes_func cf31 rfl) (Qc.pure (law24_lives)) rfl ?_
                                  refine At.nil ?_
                                  refine At.cn (fun h => absurd h (by decide)) ?_
                                  refine At.c0 rfl (ev_pickT rfl rfl rfl) rfl ?_
                                  refine At.c0 rfl (ev_assign rfl) rfl ?_
                                  refine At.cnil ?_
                                  refine At.thenN ?_
                                  refine At.retC ?_
                                  refine At.ret (rs := [.tmp 4]) rfl (Res.tmp rfl Res.nil) ?_
                                  exact Imp.pur rfl (Imp.nil _)
                                exact At.cstop
                              exact At.cstop
                            exact At.cstop
                          exact At.cstop
                        refine At.c2 rfl ?_ ?_
                        · intro w0
                          refine At.split rfl rfl rfl (fun _ => ?_) (fun h => absurd h (by first | decide | simp))
                          refine At.ev (ldA T.ld26 rfl) rfl ?_
                          refine At.nil ?_
                          refine At.cn (fun h => absurd h (by decide)) ?_
                          refine At.c2 rfl ?_ ?_
                          · intro w0
                            refine At.ungd (s := 23) (b := true) (i := 24) rfl rfl ?_
                            refine At.split rfl rfl rfl (fun _ => ?_) (fun h => absurd h (by first | decide | simp))
                            refine At.do (goes_func cf26 rfl) (law13_Few (p.few 10) ((p.few 10).cs ap cp) 10 (by decide)) ?_
                            intro _
                            refine At.ag ?_
                            rintro cs3 rfl
                            rw [Prog.few_few]
                            refine At.nil ?_
                            refine At.cn (fun h => absurd h (by decide)) ?_
                            refine At.c2 rfl ?_ ?_
                            · intro w0
                              refine At.ungd (s := 23) (b := true) (i := 25) rfl rfl ?_
                              refine At.split rfl rfl rfl (fun _ => ?_) (fun h => absurd h (by first | decide | simp))
                              refine At.callq (goes_func cf37 rfl) (Qc.stay (flow_Loops (p.few 10) cs3)) rfl ?_
                              refine At.nil ?_
                              refine At.cn (fun h => absurd h (by decide)) ?_
                              refine At.c2 rfl ?_ ?_
                              · intro w0
                                refine At.ungd (s := 23) (b := true) (i := 27) rfl rfl ?_
                                refine At.split rfl rfl rfl (fun _ => ?_) (fun h => absurd h (by first | decide | simp))
                                refine At.callq (goes_func cf38 rfl) (Qc.stay (r24_Loops (p.few 10) ((p.few 10).cs ap cp))) rfl ?_
                                refine At.nil ?_
                                refine At.cn (fun h => absurd h (by decide)) ?_
                                refine At.c0g rfl rfl rfl (fun hg => (Ev.cast (v' := .bool true) (ev_eq rfl rfl (EQ.bool T.un4) rfl) (by simp))) rfl rfl ?_
                                refine At.c0 rfl (ev_pickT rfl rfl rfl) rfl ?_
                                refine At.c0 rfl (ev_move rfl) rfl ?_
                                refine At.c2 rfl ?_ ?_
                                · intro w0
                                  refine At.split rfl rfl rfl (fun _ => ?_) (fun h => absurd h (by first | decide | simp))
                                  refine At.callq (goes_func cf31 rfl) (Qc.pure (law24_lives)) rfl ?_
                                  refine At.nil ?_
                                  refine At.cn (fun h => absurd h (by decide)) ?_
                                  refine At.c0 rfl (ev_pickT rfl rfl rfl) rfl ?_
                                  refine At.c0 rfl (ev_assign rfl) rfl ?_
                                  refine At.cnil ?_
                                  refine At.thenN ?_
                                  refine At.retC ?_
                                  refine At.ret (rs := [.tmp 4]) rfl (Res.tmp rfl Res.nil) ?_
                                  exact Imp.pur rfl (Imp.nil _)
                                exact At.cstop
                              exact At.cstop
                            exact At.cstop
                          exact At.cstop
                        exact At.cstop
                      refine At.c2 rfl ?_ ?_
                      · intro w0
                        refine At.split rfl rfl rfl (fun _ => ?_) (fun h => absurd h (by first | decide | simp))
                        refine At.ev (ldA T.ld26 rfl) rfl ?_
                        refine At.nil ?_
                        refine At.cn (fun h => absurd h (by decide)) ?_
                        refine At.c2 rfl ?_ ?_
                        · intro w0
                          refine At.split rfl rfl rfl (fun _ => ?_) (fun h => absurd h (by first | decide | simp))
                          refine At.ev (ldA T.ld26 rfl) rfl ?_
                          refine At.nil ?_
                          refine At.cn (fun h => absurd h (by decide)) ?_
                          refine At.c2 rfl ?_ ?_
                          · intro w0
                            refine At.ungd (s := 23) (b := true) (i := 24) rfl rfl ?_
                            refine At.split rfl rfl rfl (fun _ => ?_) (fun h => absurd h (by first | decide | simp))
                            refine At.do (goes_func cf26 rfl) (law13_Few (p.few 10) ((p.few 10).cs ap cp) 10 (by decide)) ?_
                            intro _
                            refine At.ag ?_
                            rintro cs3 rfl
                            rw [Prog.few_few]
                            refine At.nil ?_
                            refine At.cn (fun h => absurd h (by decide)) ?_
                            refine At.c2 rfl ?_ ?_
                            · intro w0
                              refine At.ungd (s := 23) (b := true) (i := 25) rfl rfl ?_
                              refine At.split rfl rfl rfl (fun _ => ?_) (fun h => absurd h (by first | decide | simp))
                              refine At.callq (goes_func cf37 rfl) (Qc.stay (flow_Loops (p.few 10) cs3)) rfl ?_
                              refine At.nil ?_
                              refine At.cn (fun h => absurd h (by decide)) ?_
                              refine At.c2 rfl ?_ ?_
                              · intro w0
                                refine At.ungd (s := 23) (b := true) (i := 27) rfl rfl ?_
                                refine At.split rfl rfl rfl (fun _ => ?_) (fun h => absurd h (by first | decide | simp))
                                refine At.callq (goes_func cf38 rfl) (Qc.stay (r24_Loops (p.few 10) ((p.few 10).cs ap cp))) rfl ?_
                                refine At.nil ?_
                                refine At.cn (fun h => absurd h (by decide)) ?_
                                refine At.c0g rfl rfl rfl (fun hg => (Ev.cast (v' := .bool true) (ev_eq rfl rfl (EQ.bool T.un4) rfl) (by simp))) rfl rfl ?_
                                refine At.c0 rfl (ev_pickT rfl rfl rfl) rfl ?_
                                refine At.c0 rfl (ev_move rfl) rfl ?_
                                refine At.c2 rfl ?_ ?_
                                · intro w0
                                  refine At.split rfl rfl rfl (fun _ => ?_) (fun h => absurd h (by first | decide | simp))
                                  refine At.callq (goes_func cf31 rfl) (Qc.pure (law24_lives)) rfl ?_
                                  refine At.nil ?_
                                  refine At.cn (fun h => absurd h (by decide)) ?_
                                  refine At.c0 rfl (ev_pickT rfl rfl rfl) rfl ?_
                                  refine At.c0 rfl (ev_assign rfl) rfl ?_
                                  refine At.cnil ?_
                                  refine At.thenN ?_
                                  refine At.retC ?_
                                  refine At.ret (rs := [.tmp 4]) rfl (Res.tmp rfl Res.nil) ?_
                                  exact Imp.pur rfl (Imp.nil _)
                                exact At.cstop
                              exact At.cstop
                            exact At.cstop
                          exact At.cstop
                        exact At.cstop
                      exact At.cstop
                    exact At.cstop
                  exact At.cstop
                exact At.cstop
              exact At.cstop
            exact At.cstop
          exact At.cstop
        exact At.cstop
      exact At.cstop
    exact At.cstop
  exact At.cstop

end Go.Proofs.YtebjpeonbfhdhaaGreat
