import Derived.Test.YtebjpeonbfhdhaaGreatSxE
import Derived.Test.YtebjpeonbfhdhaaGreatSx12
import Derived.Test.YtebjpeonbfhdhaaGreatWtick
import Derived.Test.YtebjpeonbfhdhaaGreatSp4
set_option linter.unusedVariables false
set_option linter.unusedSimpArgs false
namespace Go.Proofs.YtebjpeonbfhdhaaGreat
open Go Go.Sx Go.Proofs
set_option maxRecDepth 100000
attribute [local irreducible] Go.Sx.opsW Go.Sx.cW Go.Code.wp Go.Sx.At

/-- repartee/reparteelaw02.Cut -/
theorem law02_Cut (s : ByteArray) (m : Nat) : Does Tryz.prog 62 [.string s, .int .i64 m] [] (fun v => pur (v = .string (bCut s m))) := by
  refine Does.enter Tryz.func62 rfl rfl ?_
  intro E
  refine At.seq ?_
  refine At.region ?_
  refine At.ev (ev_assign rfl) rfl ?_
  refine At.nil ?_
  refine At.thenN ?_
  refine At.seq ?_
  refine At.seq ?_
  refine At.region ?_
  refine At.ev (ev_move rfl) rfl ?_
  refine At.ev (ev_lens T.un9 rfl) rfl ?_
  refine At.ev (ev_move rfl) rfl ?_
  refine At.ev (ev_gtr rfl rfl) rfl ?_
  refine At.nil ?_
  refine At.thenN ?_
  refine At.condD rfl ?_ ?_
  · intro h0
    refine At.seq ?_
    refine At.region ?_
    refine At.ev (ev_move rfl) rfl ?_
    refine At.ev (ev_move rfl) rfl ?_
    refine At.ev (ev_cut T.un9 rfl rfl rfl (by omega) (by omega)) rfl ?_
    refine At.ev (ev_assign rfl) rfl ?_
    refine At.nil ?_
    refine At.thenN ?_
    refine At.retC ?_
    refine At.thenR ?_
    refine At.ret (rs := [.tmp 4]) rfl (Res.tmp rfl Res.nil) ?_
    exact Imp.pur (by unfold bCut; rw [if_pos (by omega)]; rfl) (Imp.nil _)
  · intro h0
    refine At.skip ?_
    refine At.thenN ?_
    refine At.seq ?_
    refine At.region ?_
    refine At.ev (ev_move rfl) rfl ?_
    refine At.ev (ev_assign rfl) rfl ?_
    refine At.nil ?_
    refine At.thenN ?_
    refine At.retC ?_
    refine At.ret (rs := [.tmp 4]) rfl (Res.tmp rfl Res.nil) ?_
    exact Imp.pur (by unfold bCut; rw [if_neg (by omega)]; rfl) (Imp.nil _)

/-- repartee/reparteelaw13.op -/
theorem law13_op (o : Op) (cs : List Value) : Does Tryz.prog 71 [.agg cs.toArray] [per (relP o cs)] (fun v => ag v o.few) := by
  refine Does.enter Tryz.func71 rfl rfl ?_
  intro E
  refine openOp (by repeat (first | with_reducible exact Mem.head _ _ | apply Mem.tail)) ?_
  intro ho a4 c4 hc4 e
  subst e
  refine At.lenb (α := Arm) (xs := o.arms) (by repeat (first | with_reducible exact Mem.head _ _ | apply Mem.tail)) ?_
  unfold big
  intro hla
  refine At.seq ?_
  refine At.region ?_
  refine At.boxA rfl ?_
  intro b
  refine At.norm (b := b) [.int .i64 o.kind, .string o.text, .int .i64 o.n, .int .i64 o.to, .slice a4 o.arms.length c4, .int .i64 o.onTimeout, .int .i64 o.onEof] (by repeat (first | with_reducible exact At1.head _ _ | apply At1.tail)) (by rfl) ?_
  refine At.new T.zv56 ?_
  intro bz
  refine At.nil ?_
  refine At.thenN ?_
  refine At.seq ?_
  refine At.region ?_
  refine At.ev (ev_fa T.fa56_4 rfl) rfl ?_
  refine At.ev (ld T.ld54 rfl) rfl ?_
  refine At.ev (ev_assign rfl) rfl ?_
  refine At.nil ?_
  refine At.thenN ?_
  refine At.seq ?_
  refine At.region ?_
  refine At.bsl [] T.un54 T.sz99 T.zv99 rfl ?_
  intro be
  refine At.own0 2 (by repeat (first | with_reducible exact At1.head _ _ | apply At1.tail)) ?_
  refine At.perI (φ := relLP ((o.arms.take 0).map Arm.few) []) (fun R => rfl) ?_
  refine At.ev (ev_fa T.fa56_1 rfl) rfl ?_
  refine At.ev (ld T.ld9 rfl) rfl ?_
  refine At.callq (goes_func cf62 rfl) (Qc.pure (law02_Cut _ _)) rfl ?_
  refine At.ev (ev_fa T.fa56_4 rfl) rfl ?_
  refine At.st1 T.sz54 rfl rfl (add_lit _ _ _) ?_
  refine At.ev (ev_fa T.fa56_1 rfl) rfl ?_
  refine At.st1 T.sz9 rfl rfl (add_lit _ _ _) ?_
  refine At.nil ?_
  refine At.thenN ?_
  refine At.seq ?_
  refine At.seq ?_
  refine At.region ?_
  refine At.ev (ev_assign rfl) rfl ?_
  refine At.nil ?_
  refine At.thenN ?_
  refine At.block ?_
  refine At.loopF4 [(4, 4), (13, 39)] (fun (k : Nat) (ao : Option Addr) (c : Nat) (cs : List Value) => o.arms.length - k) (fun (k : Nat) (ao : Option Addr) (c : Nat) (cs : List Value) => k ≤ o.arms.length ∧ k ≤ 10) (fun (k : Nat) (ao : Option Addr) (c : Nat) (cs : List Value) => [(4, .val (.int .i64 k))]) (fun (k : Nat) (ao : Option Addr) (c : Nat) (cs : List Value) => [blk b [.int .i64 o.kind, .string (bCut o.text 300), .int .i64 o.n, .int .i64 o.to, .slice ao k c, .int .i64 o.onTimeout, .int .i64 o.onEof] 56, own (.slice ao k c) 99 2 k cs, per (relLP ((o.arms.take k).map Arm.few) cs)]) (0) (_) (_) (_) (by simp) ⟨rfl, trivial⟩ ?_
  intro k ao c cs hk
  refine At.cat3 ?_
  refine At.seq ?_
  refine At.seq ?_
  refine At.region ?_
  refine At.ev (ev_move rfl) rfl ?_
  refine At.ev (ev_move rfl) rfl ?_
  refine At.ev (ev_lenl T.un54 rfl) rfl ?_
  refine At.ev (ev_lss rfl rfl) rfl ?_
  refine At.ev (ev_move rfl) rfl ?_
  refine At.evg rfl rfl (fun hg => (ev_move rfl)) rfl rfl ?_
  refine At.evg rfl rfl (fun hg => (ev_lss rfl rfl)) rfl rfl ?_
  refine At.ev (ev_pickG rfl rfl rfl rfl) rfl ?_
  refine At.nil ?_
  refine At.thenN ?_
  refine At.cond rfl ?_ ?_
  · intro h0
    try simp only [decide_eq_true_eq, decide_eq_false_iff_not, Bool.not_eq_true', Bool.not_eq_false', Bool.cond_false_right, Bool.cond_true_left, Bool.and_eq_true, Bool.or_eq_true, Bool.and_eq_false_iff, Bool.or_eq_false_iff, Bool.not_true, Bool.not_false] at h0
    have hlt : k < o.arms.length := by omega
    refine At.get (α := Arm) (xs := o.arms) (by repeat (first | with_reducible exact Mem.head _ _ | apply Mem.tail)) k hlt 2 rfl ?_
    intro adx x csx eq hx
    cases eq
    refine openArm (x := x) (by repeat (first | with_reducible exact Mem.head _ _ | apply Mem.tail)) ?_
    intro hox  eq
    subst eq
    refine At.skip ?_
    refine At.thenN ?_
    refine At.seq ?_
    refine At.block ?_
    refine At.drawH (.q0 0 (.q1 1 (.q0 2 (.q0 3 (.q0 4 (.q0 5 (.q1 6 (.q0 8 (.q0 9 (.q0 10 (.q0 11 (.q1 12 (.br 7 (.q0 13 (.br 14 (.br 15 (.q0 16 (.br 17 (.nil) (.stop))) (.stop)) (.stop))) (.stop)))))))))))))) (fun j => !([15, 17] : List Nat).contains j) mixed (by kernel_rfl) (by kernel_rfl) (NoP.blk (NoP.thn (NoP.thn (NoP.blk (NoP.thn NoP.body))))) ?_
    refine At.c0 rfl (ev_fa T.fa56_4 rfl) rfl ?_
    refine At.c1 rfl (Imp.refl _) (ld T.ld54 rfl) rfl ?_
    refine At.c0 rfl (ev_move rfl) rfl ?_
    refine At.c0 rfl (ev_move rfl) rfl ?_
    refine At.c0 rfl (ev_ian T.un54 T.sz99 rfl rfl (by omega)) rfl ?_
    refine At.c0 rfl (ev_fa T.fa99_0 rfl) rfl ?_
    refine At.c1 rfl (Imp.refl _) (ld T.ld9 rfl) rfl ?_
    refine At.c0 rfl (ev_move rfl) rfl ?_
    refine At.c0 rfl (ev_move rfl) rfl ?_
    refine At.c0 rfl (ev_ian T.un54 T.sz99 rfl rfl (by omega)) rfl ?_
    refine At.c0 rfl (ev_fa T.fa99_1 rfl) rfl ?_
    refine At.c1 rfl (Imp.refl _) (ld T.ld3 rfl) rfl ?_
    refine At.c2 rfl ?_ ?_
    · intro w0
      refine At.callq (goes_func cf62 rfl) (Qc.pure (law02_Cut _ _)) rfl ?_
      refine At.nil ?_
      refine At.cn (fun _ => ?_) ?_
      · first | exact Imp.refl _ | exact fun _ _ h => h.drop | exact fun _ _ h => h.drop.drop | exact fun _ _ h => h.drop.drop.drop | exact fun _ _ h => h.drop.drop.drop.drop | (repeat (first | exact Imp.nil _ | (with_reducible apply Imp.per; · repeat (first | with_reducible exact Mem.head _ _ | apply Mem.tail)) | (with_reducible apply Imp.one; · repeat (first | with_reducible exact At1.head _ _ | apply At1.tail))))
      refine At.c0 rfl (ev_build T.pl99 rfl ⟨rfl, rfl, trivial⟩ ⟨rfl, by decide, rfl, by decide, trivial⟩) rfl ?_
      refine At.c2 rfl ?_ ?_
      · intro w0
        refine At.bsl x.few.cs T.un54 T.sz99 T.zv99 rfl ?_
        intro b2
        refine At.nil ?_
        refine At.cn (fun _ => ?_) ?_
        · first | exact Imp.refl _ | exact fun _ _ h => h.drop | exact fun _ _ h => h.drop.drop | exact fun _ _ h => h.drop.drop.drop | exact fun _ _ h => h.drop.drop.drop.drop | (repeat (first | exact Imp.nil _ | (with_reducible apply Imp.per; · repeat (first | with_reducible exact Mem.head _ _ | apply Mem.tail)) | (with_reducible apply Imp.one; · repeat (first | with_reducible exact At1.head _ _ | apply At1.tail))))
        refine At.c2 rfl ?_ ?_
        · intro w0
          refine At.app2 T.ti54 T.un54 rfl rfl ?_
          intro ao2 c2 hcc2 hmc2
          refine At.nil ?_
          refine At.cn (fun h => absurd h (by decide)) ?_
          refine At.c0 rfl (ev_fa T.fa56_4 rfl) rfl ?_
          refine At.c2 rfl ?_ ?_
          · intro w0
            refine At.st1 T.sz54 rfl rfl (add_lit _ _ _) ?_
            refine At.nil ?_
            refine At.cn (fun h => absurd h (by decide)) ?_
            refine At.cnil ?_
            refine At.blkN ?_
            refine At.thenN ?_
            refine At.region ?_
            refine At.ev (ev_move rfl) rfl ?_
            refine At.ev (ev_add rfl rfl (by omega)) rfl ?_
            refine At.ev (ev_assign rfl) rfl ?_
            refine At.nil ?_
            refine At.thenN ?_
            refine At.snoc (xs := (o.arms.take k).map Arm.few) x.few (fun R => Arm.rel (Arm.few_ok hox)) (by repeat (first | with_reducible exact Mem.head _ _ | apply Mem.tail)) ?_
            rw [← map_snoc Arm.few hx]
            refine At.againF4 (k + 1) (ao2) (c2) (cs ++ x.few.cs) (by omega) (by omega) ⟨rfl, trivial⟩
          exact At.cstop
        exact At.cstop
      exact At.cstop
    exact At.cstop
  · intro h0
    try simp only [decide_eq_true_eq, decide_eq_false_iff_not, Bool.not_eq_true', Bool.not_eq_false', Bool.cond_false_right, Bool.cond_true_left, Bool.and_eq_true, Bool.or_eq_true, Bool.and_eq_false_iff, Bool.or_eq_false_iff, Bool.not_true, Bool.not_false] at h0
    have hfe := map_all Arm.few hk.1 hk.2 (by omega)
    have hkl := (map_len Arm.few hk.1).symm
    refine At.sealS ((o.arms.take k).map Arm.few) hkl ?_
    intro hc2 _
    rw [hfe, show (o.arms.take 10).map Arm.few = o.few.arms from rfl] at hkl ⊢
    obtain rfl : k = o.few.arms.length := hkl
    refine At.toRel o.few (o.few.cs ao c) [rdSl ao o.few.arms] (fun R h => Op.rel (Op.few_ok ho) hc2 (h _ (by simp))) ?_
    refine At.exit ?_
    refine At.thenX ?_
    refine At.thenX ?_
    refine At.blkX ?_
    refine At.thenN ?_
    refine At.seq ?_
    refine At.region ?_
    refine At.ev (ldA T.ld56 rfl) rfl ?_
    refine At.stA T.sz56 rfl rfl rfl ?_
    refine At.nil ?_
    refine At.thenN ?_
    refine At.retC ?_
    refine At.ret (rs := [.cell 2 56]) rfl (Res.cell rfl (load_whole T.ld56 rfl (by repeat (first | with_reducible exact Mem.head _ _ | apply Mem.tail))) Res.nil) ?_
    refine Imp.ag (x := o.few) (cs := o.few.cs ao c) (by repeat (first | with_reducible exact Mem.head _ _ | apply Mem.tail)) (Imp.nil _)

/-- repartee/reparteelaw13.Few -/
theorem law13_Few (p : Prog) (cs : List Value) (m : Nat) (hm : m ≤ 100) : Does Tryz.prog 26 [.agg cs.toArray, .int .i64 m] [per (relP p cs)] (fun v => ag v (p.few m)) := by
  refine Does.enter Tryz.func26 rfl rfl ?_
  intro E
  refine openProg (by repeat (first | with_reducible exact Mem.head _ _ | apply Mem.tail)) ?_
  intro ho a4 c4 hc4 e
  subst e
  refine At.lenb (α := Op) (xs := p.ops) (by repeat (first | with_reducible exact Mem.head _ _ | apply Mem.tail)) ?_
  unfold big
  intro hla
  refine At.seq ?_
  refine At.region ?_
  refine At.boxA rfl ?_
  intro b
  refine At.norm (b := b) [.string p.name, .int .i64 p.deadline, .int .i64 p.jumps, .slice a4 p.ops.length c4] (by repeat (first | with_reducible exact At1.head _ _ | apply At1.tail)) (by rfl) ?_
  refine At.new T.zv26 ?_
  intro bz
  refine At.nil ?_
  refine At.thenN ?_
  refine At.seq ?_
  refine At.region ?_
  refine At.ev (ev_fa T.fa26_3 rfl) rfl ?_
  refine At.ev (ld T.ld24 rfl) rfl ?_
  refine At.ev (ev_assign rfl) rfl ?_
  refine At.nil ?_
  refine At.thenN ?_
  refine At.seq ?_
  refine At.region ?_
  refine At.bsl [] T.un24 T.sz56 T.zv56 rfl ?_
  intro be
  refine At.own0 7 (by repeat (first | with_reducible exact At1.head _ _ | apply At1.tail)) ?_
  refine At.perI (φ := relLP ((p.ops.take 0).map Op.few) []) (fun R => rfl) ?_
  refine At.ev (ev_fa T.fa26_0 rfl) rfl ?_
  refine At.ev (ld T.ld9 rfl) rfl ?_
  refine At.callq (goes_func cf62 rfl) (Qc.pure (law02_Cut _ _)) rfl ?_
  refine At.ev (ev_fa T.fa26_3 rfl) rfl ?_
  refine At.st1 T.sz24 rfl rfl (add_lit _ _ _) ?_
  refine At.ev (ev_fa T.fa26_0 rfl) rfl ?_
  refine At.st1 T.sz9 rfl rfl (add_lit _ _ _) ?_
  refine At.nil ?_
  refine At.thenN ?_
  refine At.seq ?_
  refine At.seq ?_
  refine At.region ?_
  refine At.ev (ev_assign rfl) rfl ?_
  refine At.nil ?_
  refine At.thenN ?_
  refine At.block ?_
  refine At.loopF4 [(6, 6), (15, 35)] (fun (k : Nat) (ao : Option Addr) (c : Nat) (cs : List Value) => p.ops.length - k) (fun (k : Nat) (ao : Option Addr) (c : Nat) (cs : List Value) => k ≤ p.ops.length ∧ k ≤ m) (fun (k : Nat) (ao : Option Addr) (c : Nat) (cs : List Value) => [(6, .val (.int .i64 k))]) (fun (k : Nat) (ao : Option Addr) (c : Nat) (cs : List Value) => [blk b [.string (bCut p.name 20), .int .i64 p.deadline, .int .i64 p.jumps, .slice ao k c] 26, own (.slice ao k c) 56 7 k cs, per (relLP ((p.ops.take k).map Op.few) cs)]) (0) (_) (_) (_) (by simp) ⟨rfl, trivial⟩ ?_
  intro k ao c cs hk
  refine At.cat3 ?_
  refine At.seq ?_
  refine At.seq ?_
  refine At.region ?_
  refine At.ev (ev_move rfl) rfl ?_
  refine At.ev (ev_move rfl) rfl ?_
  refine At.ev (ev_lenl T.un24 rfl) rfl ?_
  refine At.ev (ev_lss rfl rfl) rfl ?_
  refine At.ev (ev_move rfl) rfl ?_
  refine At.evg rfl rfl (fun hg => (ev_move rfl)) rfl rfl ?_
  refine At.evg rfl rfl (fun hg => (ev_move rfl)) rfl rfl ?_
  refine At.evg rfl rfl (fun hg => (ev_lss rfl rfl)) rfl rfl ?_
  refine At.ev (ev_pickG rfl rfl rfl rfl) rfl ?_
  refine At.nil ?_
  refine At.thenN ?_
  refine At.cond rfl ?_ ?_
  · intro h0
    try simp only [decide_eq_true_eq, decide_eq_false_iff_not, Bool.not_eq_true', Bool.not_eq_false', Bool.cond_false_right, Bool.cond_true_left, Bool.and_eq_true, Bool.or_eq_true, Bool.and_eq_false_iff, Bool.or_eq_false_iff, Bool.not_true, Bool.not_false] at h0
    have hlt : k < p.ops.length := by omega
    refine At.get (α := Op) (xs := p.ops) (by repeat (first | with_reducible exact Mem.head _ _ | apply Mem.tail)) k hlt 7 rfl ?_
    intro adx x csx eq hx
    cases eq
    refine At.skip ?_
    refine At.thenN ?_
    refine At.seq ?_
    refine At.block ?_
    refine At.drawH (.q0 0 (.q1 1 (.q0 2 (.q0 3 (.q0 4 (.q1 5 (.br 6 (.br 7 (.br 8 (.q0 9 (.br 10 (.nil) (.stop))) (.stop)) (.stop)) (.stop)))))))) (fun j => !([8, 10] : List Nat).contains j) mixed (by kernel_rfl) (by kernel_rfl) (NoP.blk (NoP.thn (NoP.thn (NoP.blk (NoP.thn NoP.body))))) ?_
    refine At.c0 rfl (ev_fa T.fa26_3 rfl) rfl ?_
    refine At.c1 rfl (Imp.refl _) (ld T.ld24 rfl) rfl ?_
    refine At.c0 rfl (ev_move rfl) rfl ?_
    refine At.c0 rfl (ev_move rfl) rfl ?_
    refine At.c0 rfl (ev_ian T.un24 T.sz56 rfl rfl (by omega)) rfl ?_
    refine At.have (fun w hs => Rep.len (hs.per (φ := relP x csx) (by repeat (first | with_reducible exact Mem.head _ _ | apply Mem.tail)))) ?_
    intro hlx
    refine At.c1 rfl (Imp.refl _) (ldA (cs := csx) (n := 7) T.ld56 rfl (hn := hlx)) rfl ?_
    refine At.c2 rfl ?_ ?_
    · intro w0
      refine At.do (goes_func cf71 rfl) (law13_op x csx) ?_
      intro _
      refine At.ag ?_
      rintro csn rfl
      refine openOp (x := x.few) (by repeat (first | with_reducible exact Mem.head _ _ | apply Mem.tail)) ?_
      intro hofx an cn hcn e
      subst e
      refine At.nil ?_
      refine At.cn (fun _ => ?_) ?_
      · first | exact Imp.refl _ | exact fun _ _ h => h.drop | exact fun _ _ h => h.drop.drop | exact fun _ _ h => h.drop.drop.drop | exact fun _ _ h => h.drop.drop.drop.drop | (repeat (first | exact Imp.nil _ | (with_reducible apply Imp.per; · repeat (first | with_reducible exact Mem.head _ _ | apply Mem.tail)) | (with_reducible apply Imp.one; · repeat (first | with_reducible exact At1.head _ _ | apply At1.tail))))
      refine At.c2 rfl ?_ ?_
      · intro w0
        refine At.bsl (x.few.cs an cn) T.un24 T.sz56 T.zv56 rfl ?_
        intro b2
        refine At.nil ?_
        refine At.cn (fun _ => ?_) ?_
        · first | exact Imp.refl _ | exact fun _ _ h => h.drop | exact fun _ _ h => h.drop.drop | exact fun _ _ h => h.drop.drop.drop | exact fun _ _ h => h.drop.drop.drop.drop | (repeat (first | exact Imp.nil _ | (with_reducible apply Imp.per; · repeat (first | with_reducible exact Mem.head _ _ | apply Mem.tail)) | (with_reducible apply Imp.one; · repeat (first | with_reducible exact At1.head _ _ | apply At1.tail))))
        refine At.c2 rfl ?_ ?_
        · intro w0
          refine At.app2 T.ti24 T.un24 rfl rfl ?_
          intro ao2 c2 hcc2 hmc2
          refine At.nil ?_
          refine At.cn (fun h => absurd h (by decide)) ?_
          refine At.c0 rfl (ev_fa T.fa26_3 rfl) rfl ?_
          refine At.c2 rfl ?_ ?_
          · intro w0
            refine At.st1 T.sz24 rfl rfl (add_lit _ _ _) ?_
            refine At.nil ?_
            refine At.cn (fun h => absurd h (by decide)) ?_
            refine At.cnil ?_
            refine At.blkN ?_
            refine At.thenN ?_
            refine At.region ?_
            refine At.ev (ev_move rfl) rfl ?_
            refine At.ev (ev_add rfl rfl (by omega)) rfl ?_
            refine At.ev (ev_assign rfl) rfl ?_
            refine At.nil ?_
            refine At.thenN ?_
            refine At.relLP_snoc (xs := (p.ops.take k).map Op.few) (x := x.few) (c := x.few.cs an cn) (by repeat (first | with_reducible exact Mem.head _ _ | apply Mem.tail)) (by repeat (first | with_reducible exact Mem.head _ _ | apply Mem.tail)) ?_
            rw [← map_snoc Op.few hx]
            refine At.againF4 (k + 1) (ao2) (c2) (cs ++ x.few.cs an cn) (by omega) (by omega) ⟨rfl, trivial⟩
          exact At.cstop
        exact At.cstop
      exact At.cstop
    exact At.cstop
  · intro h0
    try simp only [decide_eq_true_eq, decide_eq_false_iff_not, Bool.not_eq_true', Bool.not_eq_false', Bool.cond_false_right, Bool.cond_true_left, Bool.and_eq_true, Bool.or_eq_true, Bool.and_eq_false_iff, Bool.or_eq_false_iff, Bool.not_true, Bool.not_false] at h0
    have hfe := map_all Op.few hk.1 hk.2 (by omega)
    have hkl := (map_len Op.few hk.1).symm
    refine At.sealS ((p.ops.take k).map Op.few) hkl ?_
    intro hc2 _
    rw [hfe, show (p.ops.take m).map Op.few = (p.few m).ops from rfl] at hkl ⊢
    obtain rfl : k = (p.few m).ops.length := hkl
    refine At.toRel (p.few m) ((p.few m).cs ao c) [rdSl ao (p.few m).ops] (fun R h => Prog.rel (Prog.few_ok ho) hc2 (h _ (by simp))) ?_
    refine At.exit ?_
    refine At.thenX ?_
    refine At.thenX ?_
    refine At.blkX ?_
    refine At.thenN ?_
    refine At.seq ?_
    refine At.region ?_
    refine At.ev (ldA T.ld26 rfl) rfl ?_
    refine At.stA T.sz26 rfl rfl rfl ?_
    refine At.nil ?_
    refine At.thenN ?_
    refine At.retC ?_
    refine At.ret (rs := [.cell 4 26]) rfl (Res.cell rfl (load_whole T.ld26 rfl (by repeat (first | with_reducible exact Mem.head _ _ | apply Mem.tail))) Res.nil) ?_
    refine Imp.ag (x := p.few m) (cs := (p.few m).cs ao c) (by repeat (first | with_reducible exact Mem.head _ _ | apply Mem.tail)) (Imp.nil _)

/-- repartee/cost.in -/
theorem cost_in (n m : Int) : Does Tryz.prog 163 [.int .i64 n, .int .i64 m] [] (fun v => pur (v = .bool (inB n m))) := by
  refine Does.enter Tryz.func163 rfl rfl ?_
  intro E
  refine At.seq ?_
  refine At.region ?_
  refine At.ev (ev_assign rfl) rfl ?_
  refine At.nil ?_
  refine At.thenN ?_
  refine At.seq ?_
  refine At.region ?_
  refine At.ev (ev_move rfl) rfl ?_
  refine At.ev (ev_geq rfl rfl) rfl ?_
  refine At.ev (ev_move rfl) rfl ?_
  refine At.evg rfl rfl (fun hg => (ev_move rfl)) rfl rfl ?_
  refine At.evg rfl rfl (fun hg => (ev_move rfl)) rfl rfl ?_
  refine At.evg rfl rfl (fun hg => (ev_leq rfl rfl)) rfl rfl ?_
  refine At.ev (ev_pickG rfl rfl rfl rfl) rfl ?_
  refine At.ev (ev_assign rfl) rfl ?_
  refine At.nil ?_
  refine At.thenN ?_
  refine At.retC ?_
  refine At.ret (rs := [.tmp 4]) rfl (Res.tmp rfl Res.nil) ?_
  exact Imp.pur (congrArg Value.bool (by rw [Bool.eq_iff_iff]; simp [inB]; try omega)) (Imp.nil _)

/-- repartee/cost.good -/
theorem cost_good (s : Setup) : Does Tryz.prog 127 [.agg s.cs.toArray] [] (fun v => pur (v = .bool s.good)) := by
  refine Does.enter Tryz.func127 rfl rfl ?_
  intro E
  refine At.seq ?_
  refine At.region ?_
  refine At.boxA rfl ?_
  intro b
  refine At.norm (b := b) [.int .i64 s.live, .int .i64 s.ring, .int .i64 s.win, .int .i64 s.out, .int .i64 s.quantum, .int .i64 s.visits] (by repeat (first | with_reducible exact At1.head _ _ | apply At1.tail)) (by rfl) ?_
  refine At.ev (ev_assign rfl) rfl ?_
  refine At.nil ?_
  refine At.thenN ?_
  refine At.seq ?_
  refine At.region ?_
  refine At.ev (ev_fa T.fa23_1 rfl) rfl ?_
  refine At.ev (ld T.ld3 rfl) rfl ?_
  refine At.callq (goes_func cf163 rfl) (Qc.pure (cost_in _ _)) rfl ?_
  refine At.ev (ev_move rfl) rfl ?_
  refine At.evg rfl rfl (fun hg => (ev_fa T.fa23_2 rfl)) rfl rfl ?_
  refine At.evg rfl rfl (fun hg => (ld T.ld3 rfl)) rfl rfl ?_
  refine At.callg rfl rfl (fun hg => goes_func cf163 rfl) (fun hg => (Qc.pure (cost_in _ _))) rfl rfl ?_
  refine At.ev (ev_pickG rfl rfl rfl rfl) rfl ?_
  refine At.ev (ev_move rfl) rfl ?_
  refine At.evg rfl rfl (fun hg => (ev_fa T.fa23_3 rfl)) rfl rfl ?_
  refine At.evg rfl rfl (fun hg => (ld T.ld3 rfl)) rfl rfl ?_
  refine At.callg rfl rfl (fun hg => goes_func cf163 rfl) (fun hg => (Qc.pure (cost_in _ _))) rfl rfl ?_
  refine At.ev (ev_pickG rfl rfl rfl rfl) rfl ?_
  refine At.ev (ev_assign rfl) rfl ?_
  refine At.nil ?_
  refine At.thenN ?_
  refine At.seq ?_
  refine At.region ?_
  refine At.ev (ev_move rfl) rfl ?_
  refine At.ev (ev_move rfl) rfl ?_
  refine At.evg rfl rfl (fun hg => (ev_fa T.fa23_0 rfl)) rfl rfl ?_
  refine At.evg rfl rfl (fun hg => (ld T.ld3 rfl)) rfl rfl ?_
  refine At.callg rfl rfl (fun hg => goes_func cf163 rfl) (fun hg => (Qc.pure (cost_in _ _))) rfl rfl ?_
  refine At.ev (ev_pickG rfl rfl rfl rfl) rfl ?_
  refine At.ev (ev_move rfl) rfl ?_
  refine At.evg rfl rfl (fun hg => (ev_fa T.fa23_4 rfl)) rfl rfl ?_
  refine At.evg rfl rfl (fun hg => (ld T.ld3 rfl)) rfl rfl ?_
  refine At.callg rfl rfl (fun hg => goes_func cf163 rfl) (fun hg => (Qc.pure (cost_in _ _))) rfl rfl ?_
  refine At.ev (ev_pickG rfl rfl rfl rfl) rfl ?_
  refine At.ev (ev_move rfl) rfl ?_
  refine At.evg rfl rfl (fun hg => (ev_fa T.fa23_5 rfl)) rfl rfl ?_
  refine At.evg rfl rfl (fun hg => (ld T.ld3 rfl)) rfl rfl ?_
  refine At.callg rfl rfl (fun hg => goes_func cf163 rfl) (fun hg => (Qc.pure (cost_in _ _))) rfl rfl ?_
  refine At.ev (ev_pickG rfl rfl rfl rfl) rfl ?_
  refine At.ev (ev_assign rfl) rfl ?_
  refine At.nil ?_
  refine At.thenN ?_
  refine At.retC ?_
  refine At.ret (rs := [.tmp 2]) rfl (Res.tmp rfl Res.nil) ?_
  exact Imp.pur (congrArg Value.bool (by rw [Bool.eq_iff_iff]; simp [Setup.good, inB]; try omega)) (Imp.nil _)

/-- repartee/cost.Good -/
theorem cost_Good (s : Setup) : Does Tryz.prog 92 [.agg s.cs.toArray] [] (fun v => pur (v = .bool s.good)) := by
  refine Does.enter Tryz.func92 rfl rfl ?_
  intro E
  refine At.seq ?_
  refine At.region ?_
  refine At.boxA rfl ?_
  intro b0
  refine At.ev (ev_assign rfl) rfl ?_
  refine At.nil ?_
  refine At.thenN ?_
  refine At.seq ?_
  refine At.region ?_
  refine At.ev (ldA T.ld23 rfl) rfl ?_
  refine At.callq (goes_func cf127 rfl) (Qc.pure (cost_good _)) rfl ?_
  refine At.ev (ev_assign rfl) rfl ?_
  refine At.nil ?_
  refine At.thenN ?_
  refine At.retC ?_
  refine At.ret (rs := [.tmp 2]) rfl (Res.tmp rfl Res.nil) ?_
  exact Imp.pur rfl (Imp.nil _)

/-- repartee/prog.in[int64] -/
theorem prog_in_int64 (n a b : Int) : Does Tryz.prog 157 [.int .i64 n, .int .i64 a, .int .i64 b] [] (fun v => pur (v = .bool (decide (a ≤ n ∧ n ≤ b)))) := by
  refine Does.enter Tryz.func157 rfl rfl ?_
  intro E
  refine At.seq ?_
  refine At.region ?_
  refine At.ev (ev_assign rfl) rfl ?_
  refine At.nil ?_
  refine At.thenN ?_
  refine At.seq ?_
  refine At.region ?_
  refine At.ev (ev_move rfl) rfl ?_
  refine At.ev (ev_move rfl) rfl ?_
  refine At.ev (ev_geq rfl rfl) rfl ?_
  refine At.ev (ev_move rfl) rfl ?_
  refine At.evg rfl rfl (fun hg => (ev_move rfl)) rfl rfl ?_
  refine At.evg rfl rfl (fun hg => (ev_move rfl)) rfl rfl ?_
  refine At.evg rfl rfl (fun hg => (ev_leq rfl rfl)) rfl rfl ?_
  refine At.ev (ev_pickG rfl rfl rfl rfl) rfl ?_
  refine At.ev (ev_assign rfl) rfl ?_
  refine At.nil ?_
  refine At.thenN ?_
  refine At.retC ?_
  refine At.ret (rs := [.tmp 6]) rfl (Res.tmp rfl Res.nil) ?_
  exact Imp.pur (congrArg Value.bool (by rw [Bool.eq_iff_iff]; simp []; try omega)) (Imp.nil _)

/-- repartee/prog.in[int] -/
theorem prog_in_int (n a b : Int) : Does Tryz.prog 158 [.int .i64 n, .int .i64 a, .int .i64 b] [] (fun v => pur (v = .bool (decide (a ≤ n ∧ n ≤ b)))) := by
  refine Does.enter Tryz.func158 rfl rfl ?_
  intro E
  refine At.seq ?_
  refine At.region ?_
  refine At.ev (ev_assign rfl) rfl ?_
  refine At.nil ?_
  refine At.thenN ?_
  refine At.seq ?_
  refine At.region ?_
  refine At.ev (ev_move rfl) rfl ?_
  refine At.ev (ev_move rfl) rfl ?_
  refine At.ev (ev_geq rfl rfl) rfl ?_
  refine At.ev (ev_move rfl) rfl ?_
  refine At.evg rfl rfl (fun hg => (ev_move rfl)) rfl rfl ?_
  refine At.evg rfl rfl (fun hg => (ev_move rfl)) rfl rfl ?_
  refine At.evg rfl rfl (fun hg => (ev_leq rfl rfl)) rfl rfl ?_
  refine At.ev (ev_pickG rfl rfl rfl rfl) rfl ?_
  refine At.ev (ev_assign rfl) rfl ?_
  refine At.nil ?_
  refine At.thenN ?_
  refine At.retC ?_
  refine At.ret (rs := [.tmp 6]) rfl (Res.tmp rfl Res.nil) ?_
  exact Imp.pur (congrArg Value.bool (by rw [Bool.eq_iff_iff]; simp []; try omega)) (Imp.nil _)

/-- repartee/reparteeref12.Name -/
theorem ref12_Name (s : ByteArray) (hs : s.size ≤ big) : Does Tryz.prog 154 [.string s] [] (fun v => pur (v = .bool (isName s))) := by
  refine Does.enter Tryz.func154 rfl rfl ?_
  intro E
  unfold big at hs
  refine At.seq ?_
  refine At.region ?_
  refine At.ev (ev_assign rfl) rfl ?_
  refine At.nil ?_
  refine At.thenN ?_
  refine At.seq ?_
  refine At.seq ?_
  refine At.region ?_
  refine At.ev (ev_assign rfl) rfl ?_
  refine At.nil ?_
  refine At.thenN ?_
  refine At.block ?_
  refine At.loopF1 [(2, 41)] (fun (k : Nat) => s.size - k) (fun (k : Nat) => k ≤ s.size ∧ allB nameB s k = true ∧ (0 < k → 97 ≤ bt s 0)) (fun (k : Nat) => [(3, .val (.int .i64 k))]) (fun (k : Nat) => []) (0) (⟨by omega, rfl, by omega⟩) ⟨rfl, trivial⟩ ?_
  intro k hk
  refine At.cat0 ?_
  refine At.seq ?_
  refine At.seq ?_
  refine At.region ?_
  refine At.ev (ev_move rfl) rfl ?_
  refine At.ev (ev_move rfl) rfl ?_
  refine At.ev (ev_lens T.un9 rfl) rfl ?_
  refine At.ev (ev_lss rfl rfl) rfl ?_
  refine At.nil ?_
  refine At.thenN ?_
  refine At.condD rfl ?_ ?_
  · intro h0
    have hlt : k < s.size := by omega
    have hb := allB_succ nameB s k
    refine At.skip ?_
    refine At.thenN ?_
    refine At.seq ?_
    refine At.block ?_
    refine At.seq ?_
    refine At.drawH (.q0 0 (.q0 1 (.q0 2 (.q0 3 (.q0 4 (.q0 5 (.q0 6 (.q0 7 (.q0 8 (.q0 9 (.q0 10 (.q0 11 (.q0 12 (.q0 13 (.q0 14 (.q0 15 (.q0 16 (.q0 17 (.q0 18 (.q0 19 (.q0 20 (.q0 21 (.nil))))))))))))))))))))))) (fun j => !([] : List Nat).contains j) mixed (by kernel_rfl) (by kernel_rfl) (NoP.thn (NoP.blk (NoP.thn (NoP.thn (NoP.blk (NoP.thn NoP.body)))))) ?_
    refine At.c0 rfl (ev_move rfl) rfl ?_
    refine At.c0 rfl (ev_move rfl) rfl ?_
    refine At.c0 rfl (ev_ix T.un9 rfl rfl (by omega) (by omega)) rfl ?_
    refine At.c0 rfl (ev_geq rfl rfl) rfl ?_
    refine At.c0 rfl (ev_move rfl) rfl ?_
    refine At.c0g rfl rfl rfl (fun hg => (ev_move rfl)) rfl rfl ?_
    refine At.c0g rfl rfl rfl (fun hg => (ev_move rfl)) rfl rfl ?_
    refine At.c0g rfl rfl rfl (fun hg => (ev_ix T.un9 rfl rfl (by first | omega | decide | (simp at hg; omega) | (simp at hl hg; omega) | (simp at hg ⊢; omega)) (by first | omega | decide | (simp at hg; omega) | (simp at hl hg; omega) | (simp at hg ⊢; omega)))) rfl rfl ?_
    refine At.c0g rfl rfl rfl (fun hg => (ev_leq rfl rfl)) rfl rfl ?_
    refine At.c0 rfl (ev_pickG rfl rfl rfl rfl) rfl ?_
    refine At.c0 rfl (ev_move rfl) rfl ?_
    refine At.c0 rfl (ev_move rfl) rfl ?_
    refine At.c0 rfl (ev_ix T.un9 rfl rfl (by omega) (by omega)) rfl ?_
    refine At.c0 rfl (ev_geq rfl rfl) rfl ?_
    refine At.c0 rfl (ev_move rfl) rfl ?_
    refine At.c0g rfl rfl rfl (fun hg => (ev_move rfl)) rfl rfl ?_
    refine At.c0g rfl rfl rfl (fun hg => (ev_move rfl)) rfl rfl ?_
    refine At.c0g rfl rfl rfl (fun hg => (ev_ix T.un9 rfl rfl (by first | omega | decide | (simp at hg; omega) | (simp at hl hg; omega) | (simp at hg ⊢; omega)) (by first | omega | decide | (simp at hg; omega) | (simp at hl hg; omega) | (simp at hg ⊢; omega)))) rfl rfl ?_
    refine At.c0g rfl rfl rfl (fun hg => (ev_leq rfl rfl)) rfl rfl ?_
    refine At.c0 rfl (ev_pickG rfl rfl rfl rfl) rfl ?_
    refine At.c0 rfl (ev_assign rfl) rfl ?_
    refine At.c0 rfl (ev_assign rfl) rfl ?_
    refine At.cnil ?_
    refine At.thenN ?_
    refine At.seq ?_
    refine At.region ?_
    refine At.ev (ev_move rfl) rfl ?_
    refine At.ev (ev_not rfl) rfl ?_
    refine At.ev (ev_move rfl) rfl ?_
    refine At.evg rfl rfl (fun hg => (ev_move rfl)) rfl rfl ?_
    refine At.evg rfl rfl (fun hg => (ev_not rfl)) rfl rfl ?_
    refine At.evg rfl rfl (fun hg => (ev_move rfl)) rfl rfl ?_
    refine At.evG rfl (Lv.nest rfl (Lv.base rfl)) (fun hl hg => (ev_move rfl)) rfl rfl ?_
    refine At.evG rfl (Lv.nest rfl (Lv.base rfl)) (fun hl hg => (ev_eqi rfl rfl)) rfl rfl ?_
    refine At.evg rfl rfl (fun hg => (ev_pickG rfl rfl rfl rfl)) rfl rfl ?_
    refine At.ev (ev_pickG rfl rfl rfl rfl) rfl ?_
    refine At.nil ?_
    refine At.thenN ?_
    refine At.cond rfl ?_ ?_
    · intro h1
      try simp only [decide_eq_true_eq, decide_eq_false_iff_not, Bool.not_eq_true', Bool.not_eq_false', Bool.cond_false_right, Bool.cond_true_left, Bool.and_eq_true, Bool.or_eq_true, Bool.and_eq_false_iff, Bool.or_eq_false_iff, Bool.not_true, Bool.not_false] at h1
      have hf : isName s = false := by
        by_cases h97 : 97 ≤ bt s 0
        · rw [isName, allB_false hlt (by rcases Nat.eq_zero_or_pos k with e | e <;> (try subst e) <;> simp [nameB] <;> simp at h1 <;> omega), Bool.and_false]
        · simp [isName, h97]
      refine At.seq ?_
      refine At.region ?_
      refine At.ev (ev_assign rfl) rfl ?_
      refine At.nil ?_
      refine At.thenN ?_
      refine At.retC ?_
      refine At.blkR ?_
      refine At.thenR ?_
      refine At.thenR ?_
      refine At.blkR ?_
      refine At.thenR ?_
      refine At.ret (rs := [.tmp 2]) rfl (Res.tmp rfl Res.nil) ?_
      rw [← hf]; exact Imp.pur rfl (Imp.nil _)
    · intro h1
      try simp only [decide_eq_true_eq, decide_eq_false_iff_not, Bool.not_eq_true', Bool.not_eq_false', Bool.cond_false_right, Bool.cond_true_left, Bool.and_eq_true, Bool.or_eq_true, Bool.and_eq_false_iff, Bool.or_eq_false_iff, Bool.not_true, Bool.not_false] at h1
      have h1' : nameB (bt s k) = true ∧ 97 ≤ bt s 0 := by
        by_cases hk0 : k = 0
        · subst hk0; simp [nameB]; simp at h1; omega
        · have h9 := hk.2.2 (by omega)
          simp [nameB]; simp at h1; omega
      refine At.skip ?_
      refine At.blkN ?_
      refine At.thenN ?_
      refine At.region ?_
      refine At.ev (ev_move rfl) rfl ?_
      refine At.ev (ev_add rfl rfl (by omega)) rfl ?_
      refine At.ev (ev_assign rfl) rfl ?_
      refine At.nil ?_
      refine At.thenN ?_
      refine At.againF1 (k + 1) (by omega) (⟨by omega, by rw [hb, hk.2.1, h1'.1]; rfl, fun _ => h1'.2⟩) ⟨rfl, trivial⟩
  · intro h0
    refine At.exit ?_
    refine At.thenX ?_
    refine At.thenX ?_
    refine At.blkX ?_
    refine At.thenN ?_
    refine At.seq ?_
    refine At.region ?_
    refine At.ev (ev_move rfl) rfl ?_
    refine At.ev (ev_lens T.un9 rfl) rfl ?_
    refine At.ev (ev_gtr rfl rfl) rfl ?_
    refine At.ev (ev_move rfl) rfl ?_
    refine At.evg rfl rfl (fun hg => (ev_move rfl)) rfl rfl ?_
    refine At.evg rfl rfl (fun hg => (ev_lens T.un9 rfl)) rfl rfl ?_
    refine At.evg rfl rfl (fun hg => (ev_lss rfl rfl)) rfl rfl ?_
    refine At.ev (ev_pickG rfl rfl rfl rfl) rfl ?_
    refine At.ev (ev_assign rfl) rfl ?_
    refine At.nil ?_
    refine At.thenN ?_
    refine At.retC ?_
    refine At.ret (rs := [.tmp 2]) rfl (Res.tmp rfl Res.nil) ?_
    have hks : k = s.size := by omega
    subst hks
    obtain ⟨_, hk2, hk3⟩ := hk
    exact Imp.pur (congrArg Value.bool (by rw [Bool.eq_iff_iff]; simp [isName, hk2]; omega)) (Imp.nil _)

/-- repartee/lex.Name -/
theorem lex_Name (s : ByteArray) (hs : s.size ≤ big) : Does Tryz.prog 156 [.string s] [] (fun v => pur (v = .bool (isName s))) := by
  refine Does.enter Tryz.func156 rfl rfl ?_
  intro E
  unfold big at hs
  refine At.seq ?_
  refine At.region ?_
  refine At.ev (ev_assign rfl) rfl ?_
  refine At.nil ?_
  refine At.thenN ?_
  refine At.seq ?_
  refine At.seq ?_
  refine At.region ?_
  refine At.ev (ev_move rfl) rfl ?_
  refine At.ev (ev_eqs rfl rfl) rfl ?_
  refine At.ev (ev_move rfl) rfl ?_
  refine At.evg rfl rfl (fun hg => (ev_move rfl)) rfl rfl ?_
  refine At.evg rfl rfl (fun hg => (ev_lens T.un9 rfl)) rfl rfl ?_
  refine At.evg rfl rfl (fun hg => (ev_gtr rfl rfl)) rfl rfl ?_
  refine At.ev (ev_pickG rfl rfl rfl rfl) rfl ?_
  refine At.ev (ev_move rfl) rfl ?_
  refine At.evg rfl rfl (fun hg => (ev_move rfl)) rfl rfl ?_
  refine At.evg rfl rfl (fun hg => (ev_ix T.un9 rfl rfl (by omega) (by simp at hg; rcases Nat.eq_zero_or_pos s.size with e | e; exact absurd ((size_zero s).1 e) hg.1; omega))) rfl rfl ?_
  refine At.evg rfl rfl (fun hg => (ev_lss rfl rfl)) rfl rfl ?_
  refine At.ev (ev_pickG rfl rfl rfl rfl) rfl ?_
  refine At.nil ?_
  refine At.thenN ?_
  refine At.cond rfl ?_ ?_
  · intro h0
    try simp only [decide_eq_true_eq, decide_eq_false_iff_not, Bool.not_eq_true', Bool.not_eq_false', Bool.cond_false_right, Bool.cond_true_left, Bool.and_eq_true, Bool.or_eq_true, Bool.and_eq_false_iff, Bool.or_eq_false_iff, Bool.not_true, Bool.not_false] at h0
    simp only [← size_zero] at h0
    refine At.seq ?_
    refine At.region ?_
    refine At.ev (ev_assign rfl) rfl ?_
    refine At.nil ?_
    refine At.thenN ?_
    refine At.retC ?_
    refine At.thenR ?_
    refine At.ret (rs := [.tmp 2]) rfl (Res.tmp rfl Res.nil) ?_
    have hf : isName s = false := by
      simp [isName]; intro h1 h2 h3; omega
    rw [← hf]; exact Imp.pur rfl (Imp.nil _)
  · intro h0
    try simp only [decide_eq_true_eq, decide_eq_false_iff_not, Bool.not_eq_true', Bool.not_eq_false', Bool.cond_false_right, Bool.cond_true_left, Bool.and_eq_true, Bool.or_eq_true, Bool.and_eq_false_iff, Bool.or_eq_false_iff, Bool.not_true, Bool.not_false] at h0
    simp only [← size_zero] at h0
    refine At.skip ?_
    refine At.thenN ?_
    refine At.seq ?_
    refine At.seq ?_
    refine At.region ?_
    refine At.ev (ev_move rfl) rfl ?_
    refine At.ev (ev_lens T.un9 rfl) rfl ?_
    refine At.ev (ev_move rfl) rfl ?_
    refine At.nil ?_
    refine At.thenN ?_
    refine At.block ?_
    refine At.loopF1 [(2, 3), (18, 43)] (fun (k : Nat) => s.size - k) (fun (k : Nat) => k ≤ s.size ∧ allB nameB s k = true) (fun (k : Nat) => [(18, .val (.int .i64 k))]) (fun (k : Nat) => []) (0) (⟨by omega, rfl⟩) ⟨rfl, trivial⟩ ?_
    intro k hk
    refine At.cat0 ?_
    refine At.seq ?_
    refine At.region ?_
    refine At.ev (ev_lss rfl rfl) rfl ?_
    refine At.nil ?_
    refine At.thenN ?_
    refine At.seq ?_
    refine At.condD rfl ?_ ?_
    · intro h1
      have hlt : k < s.size := by omega
      have hb := allB_succ nameB s k
      refine At.skip ?_
      refine At.thenN ?_
      refine At.seq ?_
      refine At.block ?_
      refine At.seq ?_
      refine At.region ?_
      refine At.ev (ev_move rfl) rfl ?_
      refine At.ev (ev_assign rfl) rfl ?_
      refine At.nil ?_
      refine At.thenN ?_
      refine At.seq ?_
      refine At.region ?_
      refine At.ev (ev_move rfl) rfl ?_
      refine At.ev (ev_move rfl) rfl ?_
      refine At.ev (ev_ix T.un9 rfl rfl (by omega) (by omega)) rfl ?_
      refine At.ev (ev_lss rfl rfl) rfl ?_
      refine At.ev (ev_move rfl) rfl ?_
      refine At.evg rfl rfl (fun hg => (ev_move rfl)) rfl rfl ?_
      refine At.evg rfl rfl (fun hg => (ev_move rfl)) rfl rfl ?_
      refine At.evg rfl rfl (fun hg => (ev_ix T.un9 rfl rfl (by first | omega | decide | (simp at hg; omega) | (simp at hl hg; omega) | (simp at hg ⊢; omega)) (by first | omega | decide | (simp at hg; omega) | (simp at hl hg; omega) | (simp at hg ⊢; omega)))) rfl rfl ?_
      refine At.evg rfl rfl (fun hg => (ev_gtr rfl rfl)) rfl rfl ?_
      refine At.ev (ev_pickG rfl rfl rfl rfl) rfl ?_
      refine At.ev (ev_move rfl) rfl ?_
      refine At.evg rfl rfl (fun hg => (ev_move rfl)) rfl rfl ?_
      refine At.evg rfl rfl (fun hg => (ev_move rfl)) rfl rfl ?_
      refine At.evg rfl rfl (fun hg => (ev_ix T.un9 rfl rfl (by first | omega | decide | (simp at hg; omega) | (simp at hl hg; omega) | (simp at hg ⊢; omega)) (by first | omega | decide | (simp at hg; omega) | (simp at hl hg; omega) | (simp at hg ⊢; omega)))) rfl rfl ?_
      refine At.evg rfl rfl (fun hg => (ev_lss rfl rfl)) rfl rfl ?_
      refine At.evg rfl rfl (fun hg => (ev_move rfl)) rfl rfl ?_
      refine At.evG rfl (Lv.nest rfl (Lv.base rfl)) (fun hl hg => (ev_move rfl)) rfl rfl ?_
      refine At.evG rfl (Lv.nest rfl (Lv.base rfl)) (fun hl hg => (ev_move rfl)) rfl rfl ?_
      refine At.evG rfl (Lv.nest rfl (Lv.base rfl)) (fun hl hg => (ev_ix T.un9 rfl rfl (by first | omega | decide | (simp at hg; omega) | (simp at hl hg; omega) | (simp at hg ⊢; omega)) (by first | omega | decide | (simp at hg; omega) | (simp at hl hg; omega) | (simp at hg ⊢; omega)))) rfl rfl ?_
      refine At.evG rfl (Lv.nest rfl (Lv.base rfl)) (fun hl hg => (ev_gtr rfl rfl)) rfl rfl ?_
      refine At.evg rfl rfl (fun hg => (ev_pickG rfl rfl rfl rfl)) rfl rfl ?_
      refine At.ev (ev_pickG rfl rfl rfl rfl) rfl ?_
      refine At.nil ?_
      refine At.thenN ?_
      refine At.cond rfl ?_ ?_
      · intro h2
        try simp only [decide_eq_true_eq, decide_eq_false_iff_not, Bool.not_eq_true', Bool.not_eq_false', Bool.cond_false_right, Bool.cond_true_left, Bool.and_eq_true, Bool.or_eq_true, Bool.and_eq_false_iff, Bool.or_eq_false_iff, Bool.not_true, Bool.not_false] at h2
        refine At.seq ?_
        refine At.region ?_
        refine At.ev (ev_assign rfl) rfl ?_
        refine At.nil ?_
        refine At.thenN ?_
        refine At.retC ?_
        refine At.blkR ?_
        refine At.thenR ?_
        refine At.thenR ?_
        refine At.blkR ?_
        refine At.thenR ?_
        refine At.ret (rs := [.tmp 2]) rfl (Res.tmp rfl Res.nil) ?_
        have hf : isName s = false := by rw [isName, allB_false hlt (by simp [nameB]; omega), Bool.and_false]
        rw [← hf]; exact Imp.pur rfl (Imp.nil _)
      · intro h2
        try simp only [decide_eq_true_eq, decide_eq_false_iff_not, Bool.not_eq_true', Bool.not_eq_false', Bool.cond_false_right, Bool.cond_true_left, Bool.and_eq_true, Bool.or_eq_true, Bool.and_eq_false_iff, Bool.or_eq_false_iff, Bool.not_true, Bool.not_false] at h2
        refine At.skip ?_
        refine At.blkN ?_
        refine At.thenN ?_
        refine At.region ?_
        refine At.ev (ev_add rfl rfl (by omega)) rfl ?_
        refine At.ev (ev_move rfl) rfl ?_
        refine At.nil ?_
        refine At.thenN ?_
        refine At.againF1 (k + 1) (by omega) (⟨by omega, by rw [hb, hk.2]; simp [nameB]; omega⟩) ⟨rfl, trivial⟩
    · intro h1
      refine At.exit ?_
      refine At.thenX ?_
      refine At.thenX ?_
      refine At.blkX ?_
      refine At.thenN ?_
      refine At.seq ?_
      refine At.region ?_
      refine At.ev (ev_assign rfl) rfl ?_
      refine At.nil ?_
      refine At.thenN ?_
      refine At.retC ?_
      refine At.ret (rs := [.tmp 2]) rfl (Res.tmp rfl Res.nil) ?_
      have hks : k = s.size := by omega
      subst hks
      obtain ⟨_, hk2⟩ := hk
      have hf : isName s = true := by simp [isName, hk2]; omega
      rw [← hf]; exact Imp.pur rfl (Imp.nil _)

/-- repartee/reparteeref13.bare -/
theorem ref13_bare (o : Op) (cs : List Value) : Does Tryz.prog 173 [.agg cs.toArray] [per (relP o cs)] (fun v => pur (v = .bool o.bareB)) := by
  refine Does.enter Tryz.func173 rfl rfl ?_
  intro E
  refine openOp (by repeat (first | with_reducible exact Mem.head _ _ | apply Mem.tail)) ?_
  intro ho a4 c4 hc4 e
  subst e
  refine At.lenb (α := Arm) (xs := o.arms) (by repeat (first | with_reducible exact Mem.head _ _ | apply Mem.tail)) ?_
  unfold big
  intro hla
  refine At.seq ?_
  refine At.region ?_
  refine At.boxA rfl ?_
  intro b
  refine At.norm (b := b) [.int .i64 o.kind, .string o.text, .int .i64 o.n, .int .i64 o.to, .slice a4 o.arms.length c4, .int .i64 o.onTimeout, .int .i64 o.onEof] (by repeat (first | with_reducible exact At1.head _ _ | apply At1.tail)) (by rfl) ?_
  refine At.ev (ev_assign rfl) rfl ?_
  refine At.nil ?_
  refine At.thenN ?_
  refine At.seq ?_
  refine At.seq ?_
  refine At.region ?_
  refine At.ev (ev_fa T.fa56_0 rfl) rfl ?_
  refine At.ev (ld T.ld3 rfl) rfl ?_
  refine At.ev (ev_nei rfl rfl) rfl ?_
  refine At.ev (ev_move rfl) rfl ?_
  refine At.evg rfl rfl (fun hg => (ev_fa T.fa56_1 rfl)) rfl rfl ?_
  refine At.evg rfl rfl (fun hg => (ld T.ld9 rfl)) rfl rfl ?_
  refine At.evg rfl rfl (fun hg => (ev_nes rfl rfl)) rfl rfl ?_
  refine At.ev (ev_pickG rfl rfl rfl rfl) rfl ?_
  refine At.ev (ev_move rfl) rfl ?_
  refine At.evg rfl rfl (fun hg => (ev_fa T.fa56_0 rfl)) rfl rfl ?_
  refine At.evg rfl rfl (fun hg => (ld T.ld3 rfl)) rfl rfl ?_
  refine At.evg rfl rfl (fun hg => (ev_nei rfl rfl)) rfl rfl ?_
  refine At.evg rfl rfl (fun hg => (ev_move rfl)) rfl rfl ?_
  refine At.evG rfl (Lv.nest rfl (Lv.base rfl)) (fun hl hg => (ev_fa T.fa56_0 rfl)) rfl rfl ?_
  refine At.evG rfl (Lv.nest rfl (Lv.base rfl)) (fun hl hg => (ld T.ld3 rfl)) rfl rfl ?_
  refine At.evG rfl (Lv.nest rfl (Lv.base rfl)) (fun hl hg => (ev_nei rfl rfl)) rfl rfl ?_
  refine At.evg rfl rfl (fun hg => (ev_pickG rfl rfl rfl rfl)) rfl rfl ?_
  refine At.evg rfl rfl (fun hg => (ev_move rfl)) rfl rfl ?_
  refine At.evG rfl (Lv.nest rfl (Lv.base rfl)) (fun hl hg => (ev_fa T.fa56_2 rfl)) rfl rfl ?_
  refine At.evG rfl (Lv.nest rfl (Lv.base rfl)) (fun hl hg => (ld T.ld2 rfl)) rfl rfl ?_
  refine At.evG rfl (Lv.nest rfl (Lv.base rfl)) (fun hl hg => (ev_nei rfl rfl)) rfl rfl ?_
  refine At.evg rfl rfl (fun hg => (ev_pickG rfl rfl rfl rfl)) rfl rfl ?_
  refine At.ev (ev_pickG rfl rfl rfl rfl) rfl ?_
  refine At.ev (ev_move rfl) rfl ?_
  refine At.evg rfl rfl (fun hg => (ev_fa T.fa56_0 rfl)) rfl rfl ?_
  refine At.evg rfl rfl (fun hg => (ld T.ld3 rfl)) rfl rfl ?_
  refine At.evg rfl rfl (fun hg => (ev_nei rfl rfl)) rfl rfl ?_
  refine At.evg rfl rfl (fun hg => (ev_move rfl)) rfl rfl ?_
  refine At.evG rfl (Lv.nest rfl (Lv.base rfl)) (fun hl hg => (ev_fa T.fa56_3 rfl)) rfl rfl ?_
  refine At.evG rfl (Lv.nest rfl (Lv.base rfl)) (fun hl hg => (ld T.ld3 rfl)) rfl rfl ?_
  refine At.evG rfl (Lv.nest rfl (Lv.base rfl)) (fun hl hg => (ev_nei rfl rfl)) rfl rfl ?_
  refine At.evg rfl rfl (fun hg => (ev_pickG rfl rfl rfl rfl)) rfl rfl ?_
  refine At.ev (ev_pickG rfl rfl rfl rfl) rfl ?_
  refine At.nil ?_
  refine At.thenN ?_
  refine At.cond rfl ?_ ?_
  · intro h0
    try simp only [decide_eq_true_eq, decide_eq_false_iff_not, Bool.not_eq_true', Bool.not_eq_false', Bool.cond_false_right, Bool.cond_true_left, Bool.and_eq_true, Bool.or_eq_true, Bool.and_eq_false_iff, Bool.or_eq_false_iff, Bool.not_true, Bool.not_false] at h0
    refine At.seq ?_
    refine At.region ?_
    refine At.ev (ev_assign rfl) rfl ?_
    refine At.nil ?_
    refine At.thenN ?_
    refine At.retC ?_
    refine At.thenR ?_
    refine At.ret (rs := [.tmp 2]) rfl (Res.tmp rfl Res.nil) ?_
    have hf : o.bareB = false := by
      simp only [Op.bareB, Bool.not_eq_false', decide_eq_true_eq]
      rcases h0 with (h | h) | h
      · exact .inl h
      · exact .inr (.inl ⟨h.1.1, h.1.2, h.2⟩)
      · exact .inr (.inr (.inl h))
    rw [← hf]; exact Imp.pur rfl (Imp.nil _)
  · intro h0
    try simp only [decide_eq_true_eq, decide_eq_false_iff_not, Bool.not_eq_true', Bool.not_eq_false', Bool.cond_false_right, Bool.cond_true_left, Bool.and_eq_true, Bool.or_eq_true, Bool.and_eq_false_iff, Bool.or_eq_false_iff, Bool.not_true, Bool.not_false] at h0
    refine At.skip ?_
    refine At.thenN ?_
    refine At.seq ?_
    refine At.region ?_
    refine At.ev (ev_fa T.fa56_0 rfl) rfl ?_
    refine At.ev (ld T.ld3 rfl) rfl ?_
    refine At.ev (ev_eqi rfl rfl) rfl ?_
    refine At.ev (ev_move rfl) rfl ?_
    refine At.evg rfl rfl (fun hg => (ev_fa T.fa56_4 rfl)) rfl rfl ?_
    refine At.evg rfl rfl (fun hg => (ld T.ld54 rfl)) rfl rfl ?_
    refine At.evg rfl rfl (fun hg => (ev_lenl T.un54 rfl)) rfl rfl ?_
    refine At.evg rfl rfl (fun hg => (ev_eqi rfl rfl)) rfl rfl ?_
    refine At.evg rfl rfl (fun hg => (ev_move rfl)) rfl rfl ?_
    refine At.evG rfl (Lv.nest rfl (Lv.base rfl)) (fun hl hg => (ev_fa T.fa56_5 rfl)) rfl rfl ?_
    refine At.evG rfl (Lv.nest rfl (Lv.base rfl)) (fun hl hg => (ld T.ld3 rfl)) rfl rfl ?_
    refine At.evG rfl (Lv.nest rfl (Lv.base rfl)) (fun hl hg => (ev_eqi rfl rfl)) rfl rfl ?_
    refine At.evg rfl rfl (fun hg => (ev_pickG rfl rfl rfl rfl)) rfl rfl ?_
    refine At.evg rfl rfl (fun hg => (ev_move rfl)) rfl rfl ?_
    refine At.evG rfl (Lv.nest rfl (Lv.base rfl)) (fun hl hg => (ev_fa T.fa56_6 rfl)) rfl rfl ?_
    refine At.evG rfl (Lv.nest rfl (Lv.base rfl)) (fun hl hg => (ld T.ld3 rfl)) rfl rfl ?_
    refine At.evG rfl (Lv.nest rfl (Lv.base rfl)) (fun hl hg => (ev_eqi rfl rfl)) rfl rfl ?_
    refine At.evg rfl rfl (fun hg => (ev_pickG rfl rfl rfl rfl)) rfl rfl ?_
    refine At.ev (ev_pickG rfl rfl rfl rfl) rfl ?_
    refine At.ev (ev_assign rfl) rfl ?_
    refine At.nil ?_
    refine At.thenN ?_
    refine At.retC ?_
    refine At.ret (rs := [.tmp 2]) rfl (Res.tmp rfl Res.nil) ?_
    refine Imp.pur (congrArg Value.bool ?_) (Imp.nil _)
    rw [Bool.eq_iff_iff]
    by_cases h2 : o.kind = 2 <;> by_cases h3 : o.arms = [] <;> by_cases h4 : o.onTimeout = 0 <;> by_cases h5 : o.onEof = 0 <;> simp_all [Op.bareB]

/-- repartee/reparteeref13.Comes -/
theorem ref13_Comes (p : Prog) (cs : List Value) (to : Int) : Does Tryz.prog 175 [.agg cs.toArray, .int .i64 to] [per (relP p cs)] (fun v => pur (v = .bool (p.comes to))) := by
  refine Does.enter Tryz.func175 rfl rfl ?_
  intro E
  refine openProg (by repeat (first | with_reducible exact Mem.head _ _ | apply Mem.tail)) ?_
  intro hp a3 c3 hc3 e
  subst e
  refine At.lenb (α := Op) (xs := p.ops) (by repeat (first | with_reducible exact Mem.head _ _ | apply Mem.tail)) ?_
  unfold big
  intro hlp
  refine At.seq ?_
  refine At.region ?_
  refine At.boxA rfl ?_
  intro b
  refine At.norm (b := b) [.string p.name, .int .i64 p.deadline, .int .i64 p.jumps, .slice a3 p.ops.length c3] (by repeat (first | with_reducible exact At1.head _ _ | apply At1.tail)) (by rfl) ?_
  refine At.ev (ev_assign rfl) rfl ?_
  refine At.nil ?_
  refine At.thenN ?_
  refine At.seq ?_
  refine At.region ?_
  refine At.ev (ev_move rfl) rfl ?_
  refine At.ev (ev_geq rfl rfl) rfl ?_
  refine At.ev (ev_move rfl) rfl ?_
  refine At.evg rfl rfl (fun hg => (ev_move rfl)) rfl rfl ?_
  refine At.evg rfl rfl (fun hg => (ev_fa T.fa26_3 rfl)) rfl rfl ?_
  refine At.evg rfl rfl (fun hg => (ld T.ld24 rfl)) rfl rfl ?_
  refine At.evg rfl rfl (fun hg => (ev_lenl T.un24 rfl)) rfl rfl ?_
  refine At.evg rfl rfl (fun hg => (ev_leq rfl rfl)) rfl rfl ?_
  refine At.ev (ev_pickG rfl rfl rfl rfl) rfl ?_
  refine At.ev (ev_assign rfl) rfl ?_
  refine At.nil ?_
  refine At.thenN ?_
  refine At.retC ?_
  refine At.ret (rs := [.tmp 4]) rfl (Res.tmp rfl Res.nil) ?_
  exact Imp.pur (congrArg Value.bool (by rw [Bool.eq_iff_iff]; simp [Prog.comes]; try omega)) (Imp.nil _)

/-- repartee/prog.comes -/
theorem prog_comes (p : Prog) (cs : List Value) (to : Int) : Does Tryz.prog 179 [.agg cs.toArray, .int .i64 to] [per (relP p cs)] (fun v => pur (v = .bool (p.comes to))) := by
  refine Does.enter Tryz.func179 rfl rfl ?_
  intro E
  refine openProg (by repeat (first | with_reducible exact Mem.head _ _ | apply Mem.tail)) ?_
  intro hp a3 c3 hc3 e
  subst e
  refine At.lenb (α := Op) (xs := p.ops) (by repeat (first | with_reducible exact Mem.head _ _ | apply Mem.tail)) ?_
  unfold big
  intro hlp
  refine At.seq ?_
  refine At.region ?_
  refine At.boxA rfl ?_
  intro b
  refine At.norm (b := b) [.string p.name, .int .i64 p.deadline, .int .i64 p.jumps, .slice a3 p.ops.length c3] (by repeat (first | with_reducible exact At1.head _ _ | apply At1.tail)) (by rfl) ?_
  refine At.ev (ev_assign rfl) rfl ?_
  refine At.nil ?_
  refine At.thenN ?_
  refine At.seq ?_
  refine At.region ?_
  refine At.ev (ev_move rfl) rfl ?_
  refine At.ev (ev_geq rfl rfl) rfl ?_
  refine At.ev (ev_move rfl) rfl ?_
  refine At.evg rfl rfl (fun hg => (ev_move rfl)) rfl rfl ?_
  refine At.evg rfl rfl (fun hg => (ev_fa T.fa26_3 rfl)) rfl rfl ?_
  refine At.evg rfl rfl (fun hg => (ld T.ld24 rfl)) rfl rfl ?_
  refine At.evg rfl rfl (fun hg => (ev_lenl T.un24 rfl)) rfl rfl ?_
  refine At.evg rfl rfl (fun hg => (ev_leq rfl rfl)) rfl rfl ?_
  refine At.ev (ev_pickG rfl rfl rfl rfl) rfl ?_
  refine At.ev (ev_assign rfl) rfl ?_
  refine At.nil ?_
  refine At.thenN ?_
  refine At.retC ?_
  refine At.ret (rs := [.tmp 4]) rfl (Res.tmp rfl Res.nil) ?_
  exact Imp.pur (congrArg Value.bool (by rw [Bool.eq_iff_iff]; simp [Prog.comes]; try omega)) (Imp.nil _)

end Go.Proofs.YtebjpeonbfhdhaaGreat
