import Derived.Test.YtebjpeonbfhdhaaGreatWd
import Derived.Test.YtebjpeonbfhdhaaGreatSp7
set_option linter.unusedVariables false
set_option linter.unusedSimpArgs false
namespace Go.Proofs.YtebjpeonbfhdhaaGreat
open Go Go.Sx Go.Proofs
set_option maxRecDepth 100000
attribute [local irreducible] Go.Sx.opsW Go.Sx.cW Go.Code.wp Go.Sx.At

/-- repartee/prog.bare -/
theorem prog_bare (o : Op) (cs : List Value) : Does Tryz.prog 177 [.agg cs.toArray] [per (relP o cs)] (fun v => ag v o.bareO) := by
  refine Does.enter Tryz.func177 rfl rfl ?_
  intro E
  refine openOp (x := o) (by repeat (first | with_reducible exact Mem.head _ _ | apply Mem.tail)) ?_
  intro ho0 a0 c0 hc0 e
  subst e
  
  refine At.seq ?_
  refine At.region ?_
  refine At.boxA rfl ?_
  intro b1
  refine At.new T.zv56 ?_
  intro b2
  refine At.nil ?_
  refine At.thenN ?_
  refine At.seq ?_
  refine At.region ?_
  refine At.ev (ev_fa T.fa56_0 rfl) rfl ?_
  refine At.ev (ld T.ld3 rfl) rfl ?_
  refine At.ev (ev_build T.pl56 rfl ⟨rfl, trivial⟩ ⟨rfl, by decide, trivial⟩) rfl ?_
  refine At.new T.zv56 ?_
  intro b3
  refine At.stA T.sz56 rfl rfl rfl ?_
  refine At.norm (b := b3) [.int .i64 o.kind, .string ⟨#[]⟩, .int .i64 0, .int .i64 0, .slice none 0 0, .int .i64 0, .int .i64 0] (by repeat (first | with_reducible exact At1.head _ _ | apply At1.tail)) (by rfl) ?_
  refine At.nil ?_
  refine At.thenN ?_
  refine At.seq ?_
  refine At.seq ?_
  refine At.region ?_
  refine At.ev (ev_fa T.fa56_0 rfl) rfl ?_
  refine At.ev (ld T.ld3 rfl) rfl ?_
  refine At.nil ?_
  refine At.thenN ?_
  refine At.block ?_
  refine At.seq ?_
  refine At.region ?_
  refine At.ev (ev_eqi rfl rfl) rfl ?_
  refine At.ev (ev_assign rfl) rfl ?_
  refine At.nil ?_
  refine At.thenN ?_
  refine At.joinQ2 [(11, 37)] (fun (ao : Option Addr) (co : Nat) => True) (fun (ao : Option Addr) (co : Nat) => []) (fun (ao : Option Addr) (co : Nat) => [blk b3 (o.bareO.cs ao co) 56, per (relP o.bareO (o.bareO.cs ao co))]) [blk b3 [.int .i64 o.kind, .string ⟨#[]⟩, .int .i64 0, .int .i64 0, .slice none 0 0, .int .i64 0, .int .i64 0] 56] ?_ ?_
  · skip
    refine At.cond rfl ?_ ?_
    · intro h0
      try simp only [decide_eq_true_eq, decide_eq_false_iff_not, Bool.not_eq_true', Bool.not_eq_false', Bool.cond_false_right, Bool.cond_true_left, Bool.and_eq_true, Bool.or_eq_true, Bool.and_eq_false_iff, Bool.or_eq_false_iff, Bool.not_true, Bool.not_false] at h0
      refine At.region ?_
      refine At.ev (ev_fa T.fa56_1 rfl) rfl ?_
      refine At.ev (ld T.ld9 rfl) rfl ?_
      refine At.ev (ev_fa T.fa56_1 rfl) rfl ?_
      refine At.st1 T.sz9 rfl rfl (add_lit _ _ _) ?_
      refine At.nil ?_
      refine At.perI (φ := rdSl none ([] : List Arm)) (fun R => rdSl_nil none) ?_
      have hba : o.bareO.arms = [] := by unfold Op.bareO; simp [h0]
      refine At.toRel o.bareO (o.bareO.cs none 0) [rdSl none ([] : List Arm)] (fun R h => Op.rel (Op.bareO_ok ho0) (by rw [hba]; first | exact hc0 | simp) (by rw [hba]; exact h _ (by simp))) ?_
      refine At.norm (b := b3) (o.bareO.cs none 0) (by repeat (first | with_reducible exact At1.head _ _ | apply At1.tail)) (by unfold Op.bareO; simp [h0, Op.cs]) ?_
      refine At.thenN ?_
      refine At.meet2 (none) (0) (trivial) trivial
    · intro h0
      try simp only [decide_eq_true_eq, decide_eq_false_iff_not, Bool.not_eq_true', Bool.not_eq_false', Bool.cond_false_right, Bool.cond_true_left, Bool.and_eq_true, Bool.or_eq_true, Bool.and_eq_false_iff, Bool.or_eq_false_iff, Bool.not_true, Bool.not_false] at h0
      refine At.seq ?_
      refine At.region ?_
      refine At.ev (ev_eqi rfl rfl) rfl ?_
      refine At.ev (ev_assign rfl) rfl ?_
      refine At.nil ?_
      refine At.thenN ?_
      refine At.cond rfl ?_ ?_
      · intro h1
        try simp only [decide_eq_true_eq, decide_eq_false_iff_not, Bool.not_eq_true', Bool.not_eq_false', Bool.cond_false_right, Bool.cond_true_left, Bool.and_eq_true, Bool.or_eq_true, Bool.and_eq_false_iff, Bool.or_eq_false_iff, Bool.not_true, Bool.not_false] at h1
        refine At.draw (.q0 0 (.q1 1 (.q0 2 (.q1 3 (.q0 4 (.q1 5 (.q0 6 (.q1 7 (.q0 8 (.br 9 (.q0 10 (.br 11 (.q0 12 (.br 13 (.q0 14 (.br 15 (.nil) (.stop))) (.stop))) (.stop))) (.stop))))))))))) (fun j => !([15] : List Nat).contains j) ([blk b1 (o.cs a0 c0) 56]) mixed (by kernel_rfl) (by kernel_rfl) (NoP.thn (NoP.blk (NoP.thn NoP.body))) ?_
        refine At.c0 rfl (ev_fa T.fa56_2 rfl) rfl ?_
        refine At.c1 rfl (by (repeat (first | exact Imp.nil _ | (with_reducible apply Imp.per; · repeat (first | with_reducible exact Mem.head _ _ | apply Mem.tail)) | (with_reducible apply Imp.one; · repeat (first | with_reducible exact At1.head _ _ | apply At1.tail))))) (ld T.ld2 rfl) rfl ?_
        refine At.c0 rfl (ev_fa T.fa56_4 rfl) rfl ?_
        refine At.c1 rfl (by (repeat (first | exact Imp.nil _ | (with_reducible apply Imp.per; · repeat (first | with_reducible exact Mem.head _ _ | apply Mem.tail)) | (with_reducible apply Imp.one; · repeat (first | with_reducible exact At1.head _ _ | apply At1.tail))))) (ld T.ld54 rfl) rfl ?_
        refine At.c0 rfl (ev_fa T.fa56_5 rfl) rfl ?_
        refine At.c1 rfl (by (repeat (first | exact Imp.nil _ | (with_reducible apply Imp.per; · repeat (first | with_reducible exact Mem.head _ _ | apply Mem.tail)) | (with_reducible apply Imp.one; · repeat (first | with_reducible exact At1.head _ _ | apply At1.tail))))) (ld T.ld3 rfl) rfl ?_
        refine At.c0 rfl (ev_fa T.fa56_6 rfl) rfl ?_
        refine At.c1 rfl (by (repeat (first | exact Imp.nil _ | (with_reducible apply Imp.per; · repeat (first | with_reducible exact Mem.head _ _ | apply Mem.tail)) | (with_reducible apply Imp.one; · repeat (first | with_reducible exact At1.head _ _ | apply At1.tail))))) (ld T.ld3 rfl) rfl ?_
        refine At.c0 rfl (ev_fa T.fa56_2 rfl) rfl ?_
        refine At.c2 rfl ?_ ?_
        · intro w0
          refine At.st1 T.sz2 rfl rfl (add_lit _ _ _) ?_
          refine At.nil ?_
          refine At.cn (fun _ => ?_) ?_
          · first | exact Imp.refl _ | exact fun _ _ h => h.drop | exact fun _ _ h => h.drop.drop | exact fun _ _ h => h.drop.drop.drop | exact fun _ _ h => h.drop.drop.drop.drop | (repeat (first | exact Imp.nil _ | (with_reducible apply Imp.per; · repeat (first | with_reducible exact Mem.head _ _ | apply Mem.tail)) | (with_reducible apply Imp.one; · repeat (first | with_reducible exact At1.head _ _ | apply At1.tail))))
          refine At.c0 rfl (ev_fa T.fa56_4 rfl) rfl ?_
          refine At.c2 rfl ?_ ?_
          · intro w0
            refine At.st1 T.sz54 rfl rfl (add_lit _ _ _) ?_
            refine At.nil ?_
            refine At.cn (fun _ => ?_) ?_
            · first | exact Imp.refl _ | exact fun _ _ h => h.drop | exact fun _ _ h => h.drop.drop | exact fun _ _ h => h.drop.drop.drop | exact fun _ _ h => h.drop.drop.drop.drop | (repeat (first | exact Imp.nil _ | (with_reducible apply Imp.per; · repeat (first | with_reducible exact Mem.head _ _ | apply Mem.tail)) | (with_reducible apply Imp.one; · repeat (first | with_reducible exact At1.head _ _ | apply At1.tail))))
            refine At.c0 rfl (ev_fa T.fa56_5 rfl) rfl ?_
            refine At.c2 rfl ?_ ?_
            · intro w0
              refine At.st1 T.sz3 rfl rfl (add_lit _ _ _) ?_
              refine At.nil ?_
              refine At.cn (fun _ => ?_) ?_
              · first | exact Imp.refl _ | exact fun _ _ h => h.drop | exact fun _ _ h => h.drop.drop | exact fun _ _ h => h.drop.drop.drop | exact fun _ _ h => h.drop.drop.drop.drop | (repeat (first | exact Imp.nil _ | (with_reducible apply Imp.per; · repeat (first | with_reducible exact Mem.head _ _ | apply Mem.tail)) | (with_reducible apply Imp.one; · repeat (first | with_reducible exact At1.head _ _ | apply At1.tail))))
              refine At.c0 rfl (ev_fa T.fa56_6 rfl) rfl ?_
              refine At.c2 rfl ?_ ?_
              · intro w0
                refine At.st1 T.sz3 rfl rfl (add_lit _ _ _) ?_
                refine At.nil ?_
                refine At.cn (fun h => absurd h (by decide)) ?_
                refine At.cnil ?_
                have hba : o.bareO.arms = o.arms := by unfold Op.bareO; simp [h1]
                refine At.toRel o.bareO (o.bareO.cs a0 c0) [rdSl a0 (o.arms : List Arm)] (fun R h => Op.rel (Op.bareO_ok ho0) (by rw [hba]; first | exact hc0 | simp) (by rw [hba]; exact h _ (by simp))) ?_
                refine At.norm (b := b3) (o.bareO.cs a0 c0) (by repeat (first | with_reducible exact At1.head _ _ | apply At1.tail)) (by unfold Op.bareO; simp [h1, Op.cs]) ?_
                refine At.thenN ?_
                refine At.meet2 (a0) (c0) (trivial) trivial
              exact At.cstop
            exact At.cstop
          exact At.cstop
        exact At.cstop
      · intro h1
        try simp only [decide_eq_true_eq, decide_eq_false_iff_not, Bool.not_eq_true', Bool.not_eq_false', Bool.cond_false_right, Bool.cond_true_left, Bool.and_eq_true, Bool.or_eq_true, Bool.and_eq_false_iff, Bool.or_eq_false_iff, Bool.not_true, Bool.not_false] at h1
        refine At.seq ?_
        refine At.region ?_
        refine At.ev (ev_eqi rfl rfl) rfl ?_
        refine At.ev (ev_assign rfl) rfl ?_
        refine At.nil ?_
        refine At.thenN ?_
        refine At.cond rfl ?_ ?_
        · intro h2
          try simp only [decide_eq_true_eq, decide_eq_false_iff_not, Bool.not_eq_true', Bool.not_eq_false', Bool.cond_false_right, Bool.cond_true_left, Bool.and_eq_true, Bool.or_eq_true, Bool.and_eq_false_iff, Bool.or_eq_false_iff, Bool.not_true, Bool.not_false] at h2
          refine At.region ?_
          refine At.ev (ev_fa T.fa56_3 rfl) rfl ?_
          refine At.ev (ld T.ld3 rfl) rfl ?_
          refine At.ev (ev_fa T.fa56_3 rfl) rfl ?_
          refine At.st1 T.sz3 rfl rfl (add_lit _ _ _) ?_
          refine At.nil ?_
          refine At.perI (φ := rdSl none ([] : List Arm)) (fun R => rdSl_nil none) ?_
          have hba : o.bareO.arms = [] := by unfold Op.bareO; simp [h2]
          refine At.toRel o.bareO (o.bareO.cs none 0) [rdSl none ([] : List Arm)] (fun R h => Op.rel (Op.bareO_ok ho0) (by rw [hba]; first | exact hc0 | simp) (by rw [hba]; exact h _ (by simp))) ?_
          refine At.norm (b := b3) (o.bareO.cs none 0) (by repeat (first | with_reducible exact At1.head _ _ | apply At1.tail)) (by unfold Op.bareO; simp [h2, Op.cs]) ?_
          refine At.thenN ?_
          refine At.meet2 (none) (0) (trivial) trivial
        · intro h2
          try simp only [decide_eq_true_eq, decide_eq_false_iff_not, Bool.not_eq_true', Bool.not_eq_false', Bool.cond_false_right, Bool.cond_true_left, Bool.and_eq_true, Bool.or_eq_true, Bool.and_eq_false_iff, Bool.or_eq_false_iff, Bool.not_true, Bool.not_false] at h2
          refine At.seq ?_
          refine At.region ?_
          refine At.ev (ev_eqi rfl rfl) rfl ?_
          refine At.ev (ev_assign rfl) rfl ?_
          refine At.nil ?_
          refine At.thenN ?_
          refine At.cond rfl ?_ ?_
          · intro h3
            try simp only [decide_eq_true_eq, decide_eq_false_iff_not, Bool.not_eq_true', Bool.not_eq_false', Bool.cond_false_right, Bool.cond_true_left, Bool.and_eq_true, Bool.or_eq_true, Bool.and_eq_false_iff, Bool.or_eq_false_iff, Bool.not_true, Bool.not_false] at h3
            refine At.region ?_
            refine At.ev (ev_fa T.fa56_2 rfl) rfl ?_
            refine At.ev (ld T.ld2 rfl) rfl ?_
            refine At.ev (ev_fa T.fa56_2 rfl) rfl ?_
            refine At.st1 T.sz2 rfl rfl (add_lit _ _ _) ?_
            refine At.nil ?_
            refine At.perI (φ := rdSl none ([] : List Arm)) (fun R => rdSl_nil none) ?_
            have hba : o.bareO.arms = [] := by unfold Op.bareO; simp [h3]
            refine At.toRel o.bareO (o.bareO.cs none 0) [rdSl none ([] : List Arm)] (fun R h => Op.rel (Op.bareO_ok ho0) (by rw [hba]; first | exact hc0 | simp) (by rw [hba]; exact h _ (by simp))) ?_
            refine At.norm (b := b3) (o.bareO.cs none 0) (by repeat (first | with_reducible exact At1.head _ _ | apply At1.tail)) (by unfold Op.bareO; simp [h3, Op.cs]) ?_
            refine At.thenN ?_
            refine At.meet2 (none) (0) (trivial) trivial
          · intro h3
            try simp only [decide_eq_true_eq, decide_eq_false_iff_not, Bool.not_eq_true', Bool.not_eq_false', Bool.cond_false_right, Bool.cond_true_left, Bool.and_eq_true, Bool.or_eq_true, Bool.and_eq_false_iff, Bool.or_eq_false_iff, Bool.not_true, Bool.not_false] at h3
            refine At.perI (φ := rdSl none ([] : List Arm)) (fun R => rdSl_nil none) ?_
            have hba : o.bareO.arms = [] := by unfold Op.bareO; simp [h0, h1, h2, h3]
            refine At.toRel o.bareO (o.bareO.cs none 0) [rdSl none ([] : List Arm)] (fun R h => Op.rel (Op.bareO_ok ho0) (by rw [hba]; first | exact hc0 | simp) (by rw [hba]; exact h _ (by simp))) ?_
            refine At.norm (b := b3) (o.bareO.cs none 0) (by repeat (first | with_reducible exact At1.head _ _ | apply At1.tail)) (by unfold Op.bareO; simp [h0, h1, h2, h3, Op.cs]) ?_
            refine At.skip ?_
            refine At.thenN ?_
            refine At.meet2 (none) (0) (trivial) trivial
  intro ao co hj
  refine At.cat2 ?_
  refine At.blkN ?_
  refine At.thenN ?_
  refine At.seq ?_
  refine At.region ?_
  refine At.ev (ldA T.ld56 rfl) rfl ?_
  refine At.stA T.sz56 rfl rfl rfl ?_
  refine At.nil ?_
  refine At.thenN ?_
  refine At.retC ?_
  refine At.ret (rs := [.cell 2 56]) rfl (Res.cell rfl (load_whole T.ld56 rfl (by repeat (first | with_reducible exact Mem.head _ _ | apply Mem.tail))) Res.nil) ?_
  exact Imp.ag (x := o.bareO) (cs := o.bareO.cs ao co) (by repeat (first | with_reducible exact Mem.head _ _ | apply Mem.tail)) (Imp.nil _)

/-- slices.Equal[[]repartee/api.Arm,repartee/api.Arm] -/
theorem eqArms (ao bo : Option Addr) (c d : Nat) (a b : List Arm) : Does Tryz.prog 199 [.slice ao a.length c, .slice bo b.length d] [per (rdSl ao a), per (rdSl bo b)] (fun v => pur (v = .bool (decide (a = b)))) := by
  refine Does.enter Tryz.func199 rfl rfl ?_
  intro E
  refine At.lenb (α := Arm) (xs := a) (by repeat (first | with_reducible exact Mem.head _ _ | apply Mem.tail)) ?_
  unfold big
  intro hla
  refine At.lenb (α := Arm) (xs := b) (by repeat (first | with_reducible exact Mem.head _ _ | apply Mem.tail)) ?_
  unfold big
  intro hlb
  refine At.seq ?_
  refine At.region ?_
  refine At.ev (ev_assign rfl) rfl ?_
  refine At.nil ?_
  refine At.thenN ?_
  refine At.seq ?_
  refine At.seq ?_
  refine At.region ?_
  refine At.ev (ev_move rfl) rfl ?_
  refine At.ev (ev_lenl T.un54 rfl) rfl ?_
  refine At.ev (ev_move rfl) rfl ?_
  refine At.ev (ev_lenl T.un54 rfl) rfl ?_
  refine At.ev (ev_nei rfl rfl) rfl ?_
  refine At.nil ?_
  refine At.thenN ?_
  refine At.condDn rfl ?_ ?_
  · intro h0
    refine At.seq ?_
    refine At.region ?_
    refine At.ev (ev_assign rfl) rfl ?_
    refine At.nil ?_
    refine At.thenN ?_
    refine At.retC ?_
    refine At.thenR ?_
    refine At.ret (rs := [.tmp 4]) rfl (Res.tmp rfl Res.nil) ?_
    exact Imp.pur (by rw [show decide (a = b) = false from decide_eq_false (fun e => h0 (by rw [e]))]; rfl) (Imp.nil _)
  · intro h0
    refine At.skip ?_
    refine At.thenN ?_
    refine At.seq ?_
    refine At.seq ?_
    refine At.region ?_
    refine At.ev (ev_move rfl) rfl ?_
    refine At.ev (ev_lenl T.un54 rfl) rfl ?_
    refine At.ev (ev_move rfl) rfl ?_
    refine At.nil ?_
    refine At.thenN ?_
    refine At.block ?_
    refine At.loopF1 [(4, 5), (13, 25)] (fun (k : Nat) => a.length - k) (fun (k : Nat) => k ≤ a.length ∧ k ≤ b.length ∧ a.take k = b.take k) (fun (k : Nat) => [(13, .val (.int .i64 k))]) (fun (k : Nat) => []) (0) (⟨by omega, by omega, by simp⟩) ⟨rfl, trivial⟩ ?_
    intro k hk
    refine At.cat0 ?_
    obtain ⟨hk1, hk2, hkt⟩ := hk
    refine At.seq ?_
    refine At.region ?_
    refine At.ev (ev_lss rfl rfl) rfl ?_
    refine At.nil ?_
    refine At.thenN ?_
    refine At.seq ?_
    refine At.condD rfl ?_ ?_
    · intro h1
      have hlt : k < a.length := by omega
      have hlt2 : k < b.length := by omega
      refine At.get (α := Arm) (xs := a) (by repeat (first | with_reducible exact Mem.head _ _ | apply Mem.tail)) k hlt 2 rfl ?_
      intro adx x csx eq hx
      cases eq
      refine openArm (x := x) (by repeat (first | with_reducible exact Mem.head _ _ | apply Mem.tail)) ?_
      intro hox  eq
      subst eq
      refine At.get (α := Arm) (xs := b) (by repeat (first | with_reducible exact Mem.head _ _ | apply Mem.tail)) k hlt2 2 rfl ?_
      intro ady y csy eq hy
      cases eq
      refine openArm (x := y) (by repeat (first | with_reducible exact Mem.head _ _ | apply Mem.tail)) ?_
      intro hoy  eq
      subst eq
      refine At.skip ?_
      refine At.thenN ?_
      refine At.seq ?_
      refine At.block ?_
      refine At.seq ?_
      refine At.region ?_
      refine At.ev (ev_move rfl) rfl ?_
      refine At.ev (ev_assign rfl) rfl ?_
      refine At.nil ?_
      refine At.thenN ?_
      refine At.seq ?_
      refine At.drawH (.q0 0 (.q0 1 (.q0 2 (.q1 3 (.q0 4 (.q0 5 (.q0 6 (.q1 7 (.q0 8 (.nil)))))))))) (fun j => !([] : List Nat).contains j) mixed (by kernel_rfl) (by kernel_rfl) (NoP.thn (NoP.blk (NoP.thn (NoP.thn (NoP.blk (NoP.thn NoP.body)))))) ?_
      refine At.c0 rfl (ev_move rfl) rfl ?_
      refine At.c0 rfl (ev_move rfl) rfl ?_
      refine At.c0 rfl (ev_ian T.un54 T.sz99 rfl rfl (by omega)) rfl ?_
      refine At.c1 rfl (Imp.refl _) (ldA T.ld99 rfl) rfl ?_
      refine At.c0 rfl (ev_move rfl) rfl ?_
      refine At.c0 rfl (ev_move rfl) rfl ?_
      refine At.c0 rfl (ev_ian T.un54 T.sz99 rfl rfl (by omega)) rfl ?_
      refine At.c1 rfl (Imp.refl _) (ldA T.ld99 rfl) rfl ?_
      refine At.c0 rfl (ev_neS rfl rfl (eq_Arm _ _) rfl (by kernel_rfl)) rfl ?_
      refine At.cnil ?_
      refine At.thenN ?_
      refine At.cond rfl ?_ ?_
      · intro h2
        try simp only [decide_eq_true_eq, decide_eq_false_iff_not, Bool.not_eq_true', Bool.not_eq_false', Bool.cond_false_right, Bool.cond_true_left, Bool.and_eq_true, Bool.or_eq_true, Bool.and_eq_false_iff, Bool.or_eq_false_iff, Bool.not_true, Bool.not_false] at h2
        refine At.seq ?_
        refine At.region ?_
        refine At.ev (ev_assign rfl) rfl ?_
        refine At.nil ?_
        refine At.thenN ?_
        refine At.retC ?_
        refine At.blkR ?_
        refine At.thenR ?_
        refine At.thenR ?_
        refine At.blkR ?_
        refine At.thenR ?_
        refine At.ret (rs := [.tmp 4]) rfl (Res.tmp rfl Res.nil) ?_
        exact Imp.pur (by rw [show decide (a = b) = false from decide_eq_false (fun e => h2 (by subst e; rw [hx] at hy; injection hy))]; rfl) (Imp.nil _)
      · intro h2
        try simp only [decide_eq_true_eq, decide_eq_false_iff_not, Bool.not_eq_true', Bool.not_eq_false', Bool.cond_false_right, Bool.cond_true_left, Bool.and_eq_true, Bool.or_eq_true, Bool.and_eq_false_iff, Bool.or_eq_false_iff, Bool.not_true, Bool.not_false] at h2
        refine At.skip ?_
        refine At.blkN ?_
        refine At.thenN ?_
        refine At.region ?_
        refine At.ev (ev_add rfl rfl (by omega)) rfl ?_
        refine At.ev (ev_move rfl) rfl ?_
        refine At.nil ?_
        refine At.thenN ?_
        refine At.againF1 (k + 1) (by omega) (⟨by omega, by omega, take_snoc_eq hkt hx hy h2⟩) ⟨rfl, trivial⟩
    · intro h1
      refine At.exit ?_
      refine At.thenX ?_
      refine At.thenX ?_
      refine At.blkX ?_
      refine At.thenN ?_
      refine At.seq ?_
      refine At.region ?_
      refine At.ev (ev_assign rfl) rfl ?_
      refine At.nil ?_
      refine At.thenN ?_
      refine At.retC ?_
      refine At.ret (rs := [.tmp 4]) rfl (Res.tmp rfl Res.nil) ?_
      exact Imp.pur (by rw [show decide (a = b) = true from decide_eq_true (by rw [← List.take_of_length_le (i := k) (l := a) (by omega), hkt, List.take_of_length_le (by omega)])]; rfl) (Imp.nil _)

/-- repartee/prog.sameOp -/
theorem prog_sameOp (a b : Op) (cs ds : List Value) : Does Tryz.prog 176 [.agg cs.toArray, .agg ds.toArray] [per (relP a cs), per (relP b ds)] (fun v => pur (v = .bool (decide (a = b)))) := by
  refine Does.enter Tryz.func176 rfl rfl ?_
  intro E
  refine openOp (x := a) (by repeat (first | with_reducible exact Mem.head _ _ | apply Mem.tail)) ?_
  intro ho0 a0 c0 hc0 e
  subst e
  refine openOp (x := b) (by repeat (first | with_reducible exact Mem.head _ _ | apply Mem.tail)) ?_
  intro ho1 a1 c1 hc1 e
  subst e
  
  refine At.seq ?_
  refine At.region ?_
  refine At.boxA rfl ?_
  intro b0
  refine At.boxA rfl ?_
  intro b1
  refine At.ev (ev_assign rfl) rfl ?_
  refine At.nil ?_
  refine At.thenN ?_
  refine At.seq ?_
  refine At.region ?_
  refine At.ev (ev_fa T.fa56_0 rfl) rfl ?_
  refine At.ev (ld T.ld3 rfl) rfl ?_
  refine At.ev (ev_fa T.fa56_0 rfl) rfl ?_
  refine At.ev (ld T.ld3 rfl) rfl ?_
  refine At.ev (ev_eqi rfl rfl) rfl ?_
  refine At.ev (ev_move rfl) rfl ?_
  refine At.evg rfl rfl (fun hg => (ev_fa T.fa56_1 rfl)) rfl rfl ?_
  refine At.evg rfl rfl (fun hg => (ld T.ld9 rfl)) rfl rfl ?_
  refine At.evg rfl rfl (fun hg => (ev_fa T.fa56_1 rfl)) rfl rfl ?_
  refine At.evg rfl rfl (fun hg => (ld T.ld9 rfl)) rfl rfl ?_
  refine At.evg rfl rfl (fun hg => (ev_eqs rfl rfl)) rfl rfl ?_
  refine At.ev (ev_pickG rfl rfl rfl rfl) rfl ?_
  refine At.ev (ev_move rfl) rfl ?_
  refine At.evg rfl rfl (fun hg => (ev_fa T.fa56_2 rfl)) rfl rfl ?_
  refine At.evg rfl rfl (fun hg => (ld T.ld2 rfl)) rfl rfl ?_
  refine At.evg rfl rfl (fun hg => (ev_fa T.fa56_2 rfl)) rfl rfl ?_
  refine At.evg rfl rfl (fun hg => (ld T.ld2 rfl)) rfl rfl ?_
  refine At.evg rfl rfl (fun hg => (ev_eqi rfl rfl)) rfl rfl ?_
  refine At.ev (ev_pickG rfl rfl rfl rfl) rfl ?_
  refine At.ev (ev_move rfl) rfl ?_
  refine At.evg rfl rfl (fun hg => (ev_fa T.fa56_3 rfl)) rfl rfl ?_
  refine At.evg rfl rfl (fun hg => (ld T.ld3 rfl)) rfl rfl ?_
  refine At.evg rfl rfl (fun hg => (ev_fa T.fa56_3 rfl)) rfl rfl ?_
  refine At.evg rfl rfl (fun hg => (ld T.ld3 rfl)) rfl rfl ?_
  refine At.evg rfl rfl (fun hg => (ev_eqi rfl rfl)) rfl rfl ?_
  refine At.ev (ev_pickG rfl rfl rfl rfl) rfl ?_
  refine At.ev (ev_move rfl) rfl ?_
  refine At.evg rfl rfl (fun hg => (ev_fa T.fa56_5 rfl)) rfl rfl ?_
  refine At.evg rfl rfl (fun hg => (ld T.ld3 rfl)) rfl rfl ?_
  refine At.evg rfl rfl (fun hg => (ev_fa T.fa56_5 rfl)) rfl rfl ?_
  refine At.evg rfl rfl (fun hg => (ld T.ld3 rfl)) rfl rfl ?_
  refine At.evg rfl rfl (fun hg => (ev_eqi rfl rfl)) rfl rfl ?_
  refine At.ev (ev_pickG rfl rfl rfl rfl) rfl ?_
  refine At.ev (ev_move rfl) rfl ?_
  refine At.evg rfl rfl (fun hg => (ev_fa T.fa56_6 rfl)) rfl rfl ?_
  refine At.evg rfl rfl (fun hg => (ld T.ld3 rfl)) rfl rfl ?_
  refine At.evg rfl rfl (fun hg => (ev_fa T.fa56_6 rfl)) rfl rfl ?_
  refine At.evg rfl rfl (fun hg => (ld T.ld3 rfl)) rfl rfl ?_
  refine At.evg rfl rfl (fun hg => (ev_eqi rfl rfl)) rfl rfl ?_
  refine At.ev (ev_pickG rfl rfl rfl rfl) rfl ?_
  refine At.ev (ev_assign rfl) rfl ?_
  refine At.nil ?_
  refine At.thenN ?_
  refine At.seq ?_
  refine At.region ?_
  refine At.ev (ev_move rfl) rfl ?_
  refine At.ev (ev_move rfl) rfl ?_
  refine At.evg rfl rfl (fun hg => (ev_fa T.fa56_4 rfl)) rfl rfl ?_
  refine At.evg rfl rfl (fun hg => (ld T.ld54 rfl)) rfl rfl ?_
  refine At.evg rfl rfl (fun hg => (ev_fa T.fa56_4 rfl)) rfl rfl ?_
  refine At.evg rfl rfl (fun hg => (ld T.ld54 rfl)) rfl rfl ?_
  refine At.callg rfl rfl (fun hg => goes_func cf199 rfl) (fun hg => (Qc.stay2 (eqArms _ _ _ _ _ _))) rfl rfl ?_
  refine At.ev (ev_pickG rfl rfl rfl rfl) rfl ?_
  refine At.ev (ev_assign rfl) rfl ?_
  refine At.nil ?_
  refine At.thenN ?_
  refine At.retC ?_
  refine At.ret (rs := [.tmp 4]) rfl (Res.tmp rfl Res.nil) ?_
  refine Imp.pur (congrArg Value.bool ?_) (Imp.nil _)
  rw [Bool.eq_iff_iff]
  cases a; cases b
  simp [and_assoc, and_left_comm, and_comm]

/-- repartee/prog.armed -/
theorem prog_armed (p : Prog) (m : Arm) (cs : List Value) (hm : m.ok) : Does Tryz.prog 200 [.agg cs.toArray, .agg m.cs.toArray] [per (relP p cs)] (fun v => pur (v = .int .i64 (armErr patErr p m))) := by
  refine Does.enter Tryz.func200 rfl rfl ?_
  intro E
  refine openProg (x := p) (by repeat (first | with_reducible exact Mem.head _ _ | apply Mem.tail)) ?_
  intro hp ap cp hcp e
  subst e
  have hm1 := hm.1
  refine At.seq ?_
  refine At.region ?_
  refine At.boxA rfl ?_
  intro b0
  refine At.boxA rfl ?_
  intro b1
  refine At.ev (ev_assign rfl) rfl ?_
  refine At.nil ?_
  refine At.thenN ?_
  refine At.seq ?_
  refine At.seq ?_
  refine At.region ?_
  refine At.ev (ev_fa T.fa99_0 rfl) rfl ?_
  refine At.ev (ld T.ld9 rfl) rfl ?_
  refine At.ev (ev_lens T.un9 rfl) rfl ?_
  refine At.ev (ev_gtr rfl rfl) rfl ?_
  refine At.nil ?_
  refine At.thenN ?_
  refine At.condD rfl ?_ ?_
  · intro h0
    refine At.seq ?_
    refine At.region ?_
    refine At.ev (ev_assign rfl) rfl ?_
    refine At.nil ?_
    refine At.thenN ?_
    refine At.retC ?_
    refine At.thenR ?_
    refine At.ret (rs := [.tmp 4]) rfl (Res.tmp rfl Res.nil) ?_
    exact Imp.pur (by unfold armErr; rw [if_pos (by omega)]; rfl) (Imp.nil _)
  · intro h0
    refine At.skip ?_
    refine At.thenN ?_
    refine At.seq ?_
    refine At.seq ?_
    refine At.region ?_
    refine At.ev (ev_fa T.fa99_0 rfl) rfl ?_
    refine At.ev (ld T.ld9 rfl) rfl ?_
    refine At.do (goes_func cf216 rfl) (arms_Check m.pattern hm1) ?_
    intro _
    refine At.ex ?_
    intro pa
    refine At.pur ?_
    rintro rfl
    refine At.ev (ev_move rfl) rfl ?_
    refine At.ev (ev_ext rfl rfl) rfl ?_
    refine At.ev (ev_ext rfl rfl) rfl ?_
    refine At.ev (ev_assign rfl) rfl ?_
    refine At.ev (ev_assign rfl) rfl ?_
    refine At.nil ?_
    refine At.thenN ?_
    refine At.seq ?_
    refine At.region ?_
    refine At.ev (ev_move rfl) rfl ?_
    refine At.ev (ev_nei rfl rfl) rfl ?_
    refine At.nil ?_
    refine At.thenN ?_
    refine At.condDn rfl ?_ ?_
    · intro h1
      refine At.seq ?_
      refine At.region ?_
      refine At.ev (ev_move rfl) rfl ?_
      refine At.ev (ev_assign rfl) rfl ?_
      refine At.nil ?_
      refine At.thenN ?_
      refine At.retC ?_
      refine At.thenR ?_
      refine At.ret (rs := [.tmp 4]) rfl (Res.tmp rfl Res.nil) ?_
      exact Imp.pur (by unfold armErr; rw [if_neg (by omega), if_pos h1]; rfl) (Imp.nil _)
    · intro h1
      refine At.skip ?_
      refine At.thenN ?_
      refine At.seq ?_
      refine At.seq ?_
      refine At.region ?_
      refine At.ev (ldA T.ld26 rfl) rfl ?_
      refine At.ev (ev_fa T.fa99_1 rfl) rfl ?_
      refine At.ev (ld T.ld3 rfl) rfl ?_
      refine At.callq (goes_func cf179 rfl) (Qc.stay (prog_comes _ _ _)) rfl ?_
      refine At.ev (ev_not rfl) rfl ?_
      refine At.nil ?_
      refine At.thenN ?_
      refine At.cond rfl ?_ ?_
      · intro h2
        try simp only [decide_eq_true_eq, decide_eq_false_iff_not, Bool.not_eq_true', Bool.not_eq_false', Bool.cond_false_right, Bool.cond_true_left, Bool.and_eq_true, Bool.or_eq_true, Bool.and_eq_false_iff, Bool.or_eq_false_iff, Bool.not_true, Bool.not_false] at h2
        refine At.seq ?_
        refine At.region ?_
        refine At.ev (ev_assign rfl) rfl ?_
        refine At.nil ?_
        refine At.thenN ?_
        refine At.retC ?_
        refine At.thenR ?_
        refine At.ret (rs := [.tmp 4]) rfl (Res.tmp rfl Res.nil) ?_
        exact Imp.pur (by unfold armErr; rw [if_neg (by omega), if_neg (by simp [h1]), if_neg (by simp [h2])]; rfl) (Imp.nil _)
      · intro h2
        try simp only [decide_eq_true_eq, decide_eq_false_iff_not, Bool.not_eq_true', Bool.not_eq_false', Bool.cond_false_right, Bool.cond_true_left, Bool.and_eq_true, Bool.or_eq_true, Bool.and_eq_false_iff, Bool.or_eq_false_iff, Bool.not_true, Bool.not_false] at h2
        refine At.skip ?_
        refine At.thenN ?_
        refine At.seq ?_
        refine At.region ?_
        refine At.ev (ev_assign rfl) rfl ?_
        refine At.nil ?_
        refine At.thenN ?_
        refine At.retC ?_
        refine At.ret (rs := [.tmp 4]) rfl (Res.tmp rfl Res.nil) ?_
        exact Imp.pur (by unfold armErr; rw [if_neg (by omega), if_neg (by simp [h1]), if_pos h2]; rfl) (Imp.nil _)

/-- repartee/prog.expect -/
theorem prog_expect (p : Prog) (o : Op) (cs ds : List Value) : Does Tryz.prog 178 [.agg cs.toArray, .agg ds.toArray] [per (relP p cs), per (relP o ds)] (fun v => pur (v = .int .i64 (expErr patErr p o))) := by
  refine Does.enter Tryz.func178 rfl rfl ?_
  intro E
  refine openProg (x := p) (by repeat (first | with_reducible exact Mem.head _ _ | apply Mem.tail)) ?_
  intro hp ap cp hcp e
  subst e
  refine openOp (x := o) (by repeat (first | with_reducible exact Mem.head _ _ | apply Mem.tail)) ?_
  intro ho0 a0 c0 hc0 e
  subst e
  refine At.lenb (α := Arm) (xs := o.arms) (by repeat (first | with_reducible exact Mem.head _ _ | apply Mem.tail)) ?_
  unfold big
  intro hl0
  refine At.seq ?_
  refine At.region ?_
  refine At.boxA rfl ?_
  intro b0
  refine At.boxA rfl ?_
  intro b1
  refine At.ev (ev_assign rfl) rfl ?_
  refine At.nil ?_
  refine At.thenN ?_
  refine At.seq ?_
  refine At.block ?_
  refine At.seq ?_
  refine At.region ?_
  refine At.ev (ev_fa T.fa56_2 rfl) rfl ?_
  refine At.ev (ld T.ld2 rfl) rfl ?_
  refine At.ev (ev_nei rfl rfl) rfl ?_
  refine At.ev (ev_move rfl) rfl ?_
  refine At.evg rfl rfl (fun hg => (ev_fa T.fa56_2 rfl)) rfl rfl ?_
  refine At.evg rfl rfl (fun hg => (ld T.ld2 rfl)) rfl rfl ?_
  refine At.callg rfl rfl (fun hg => goes_func cf157 rfl) (fun hg => (Qc.pure (prog_in_int64 _ _ _))) rfl rfl ?_
  refine At.evg rfl rfl (fun hg => (ev_not rfl)) rfl rfl ?_
  refine At.ev (ev_pickG rfl rfl rfl rfl) rfl ?_
  refine At.ev (ev_assign rfl) rfl ?_
  refine At.nil ?_
  refine At.thenN ?_
  refine At.cond rfl ?_ ?_
  · intro h0
    try simp only [decide_eq_true_eq, decide_eq_false_iff_not, Bool.not_eq_true', Bool.not_eq_false', Bool.cond_false_right, Bool.cond_true_left, Bool.and_eq_true, Bool.or_eq_true, Bool.and_eq_false_iff, Bool.or_eq_false_iff, Bool.not_true, Bool.not_false] at h0
    have h0' : o.n ≠ never ∧ (o.n < 0 ∨ 1000000000000 < o.n) := by simp [never] at h0 ⊢; omega
    refine At.seq ?_
    refine At.region ?_
    refine At.ev (ev_assign rfl) rfl ?_
    refine At.nil ?_
    refine At.thenN ?_
    refine At.retC ?_
    refine At.blkR ?_
    refine At.thenR ?_
    refine At.ret (rs := [.tmp 4]) rfl (Res.tmp rfl Res.nil) ?_
    exact Imp.pur (by unfold expErr; rw [if_pos h0']; rfl) (Imp.nil _)
  · intro h0
    try simp only [decide_eq_true_eq, decide_eq_false_iff_not, Bool.not_eq_true', Bool.not_eq_false', Bool.cond_false_right, Bool.cond_true_left, Bool.and_eq_true, Bool.or_eq_true, Bool.and_eq_false_iff, Bool.or_eq_false_iff, Bool.not_true, Bool.not_false] at h0
    have h0' : ¬ (o.n ≠ never ∧ (o.n < 0 ∨ 1000000000000 < o.n)) := by simp [never] at h0 ⊢; omega
    refine At.seq ?_
    refine At.region ?_
    refine At.ev (ev_fa T.fa56_4 rfl) rfl ?_
    refine At.ev (ld T.ld54 rfl) rfl ?_
    refine At.ev (ev_lenl T.un54 rfl) rfl ?_
    refine At.ev (ev_gtr rfl rfl) rfl ?_
    refine At.ev (ev_assign rfl) rfl ?_
    refine At.nil ?_
    refine At.thenN ?_
    refine At.cond rfl ?_ ?_
    · intro h1
      try simp only [decide_eq_true_eq, decide_eq_false_iff_not, Bool.not_eq_true', Bool.not_eq_false', Bool.cond_false_right, Bool.cond_true_left, Bool.and_eq_true, Bool.or_eq_true, Bool.and_eq_false_iff, Bool.or_eq_false_iff, Bool.not_true, Bool.not_false] at h1
      have h1' : 8 < o.arms.length := by omega
      refine At.seq ?_
      refine At.region ?_
      refine At.ev (ev_assign rfl) rfl ?_
      refine At.nil ?_
      refine At.thenN ?_
      refine At.retC ?_
      refine At.blkR ?_
      refine At.thenR ?_
      refine At.ret (rs := [.tmp 4]) rfl (Res.tmp rfl Res.nil) ?_
      exact Imp.pur (by unfold expErr; rw [if_neg h0', if_pos h1']; rfl) (Imp.nil _)
    · intro h1
      try simp only [decide_eq_true_eq, decide_eq_false_iff_not, Bool.not_eq_true', Bool.not_eq_false', Bool.cond_false_right, Bool.cond_true_left, Bool.and_eq_true, Bool.or_eq_true, Bool.and_eq_false_iff, Bool.or_eq_false_iff, Bool.not_true, Bool.not_false] at h1
      have h1' : ¬ 8 < o.arms.length := by omega
      refine At.skip ?_
      refine At.blkN ?_
      refine At.thenN ?_
      refine At.seq ?_
      refine At.seq ?_
      refine At.region ?_
      refine At.ev (ev_fa T.fa56_4 rfl) rfl ?_
      refine At.ev (ld T.ld54 rfl) rfl ?_
      refine At.ev (ev_lenl T.un54 rfl) rfl ?_
      refine At.ev (ev_move rfl) rfl ?_
      refine At.nil ?_
      refine At.thenN ?_
      refine At.block ?_
      refine At.loopF1 [(4, 4), (6, 7), (28, 38)] (fun (k : Nat) => o.arms.length - k) (fun (k : Nat) => k ≤ o.arms.length ∧ errOf (armErr patErr p) (o.arms.take k) = 0) (fun (k : Nat) => [(28, .val (.int .i64 k))]) (fun (k : Nat) => []) (0) (⟨by omega, rfl⟩) ⟨rfl, trivial⟩ ?_
      intro k hk
      refine At.cat0 ?_
      refine At.seq ?_
      refine At.region ?_
      refine At.ev (ev_lss rfl rfl) rfl ?_
      refine At.nil ?_
      refine At.thenN ?_
      refine At.seq ?_
      refine At.condD rfl ?_ ?_
      · intro h2
        have hlt : k < o.arms.length := by omega
        refine At.get (α := Arm) (xs := o.arms) (by repeat (first | with_reducible exact Mem.head _ _ | apply Mem.tail)) k hlt 2 rfl ?_
        intro adx x csx eq hx
        cases eq
        refine openArm (x := x) (by repeat (first | with_reducible exact Mem.head _ _ | apply Mem.tail)) ?_
        intro hox  eq
        subst eq
        refine At.skip ?_
        refine At.thenN ?_
        refine At.seq ?_
        refine At.block ?_
        refine At.seq ?_
        refine At.region ?_
        refine At.ev (ev_ian T.un54 T.sz99 rfl rfl (by omega)) rfl ?_
        refine At.ev (ldA T.ld99 rfl) rfl ?_
        refine At.new T.zv99 ?_
        intro b2
        refine At.stA T.sz99 rfl rfl rfl ?_ (cs' := x.cs)
        refine At.nil ?_
        refine At.thenN ?_
        refine At.seq ?_
        refine At.region ?_
        refine At.ev (ldA T.ld26 rfl) rfl ?_
        refine At.ev (ldA T.ld99 rfl) rfl ?_
        refine At.callq (goes_func cf200 rfl) (Qc.stay (prog_armed _ _ _ (by assumption))) rfl ?_
        refine At.ev (ev_assign rfl) rfl ?_
        refine At.nil ?_
        refine At.thenN ?_
        refine At.seq ?_
        refine At.region ?_
        refine At.ev (ev_move rfl) rfl ?_
        refine At.ev (ev_nei rfl rfl) rfl ?_
        refine At.nil ?_
        refine At.thenN ?_
        refine At.condDn rfl ?_ ?_
        · intro h3
          refine At.seq ?_
          refine At.region ?_
          refine At.ev (ev_move rfl) rfl ?_
          refine At.ev (ev_assign rfl) rfl ?_
          refine At.nil ?_
          refine At.thenN ?_
          refine At.retC ?_
          refine At.blkR ?_
          refine At.thenR ?_
          refine At.thenR ?_
          refine At.blkR ?_
          refine At.thenR ?_
          refine At.ret (rs := [.tmp 4]) rfl (Res.tmp rfl Res.nil) ?_
          have he := errOf_hit hx hk.2 h3
          exact Imp.pur (by unfold expErr; rw [if_neg h0', if_neg h1', if_pos (by rw [he]; exact h3), he]; rfl) (Imp.nil _)
        · intro h3
          refine At.skip ?_
          refine At.blkN ?_
          refine At.thenN ?_
          refine At.region ?_
          refine At.ev (ev_add rfl rfl (by omega)) rfl ?_
          refine At.ev (ev_move rfl) rfl ?_
          refine At.nil ?_
          refine At.thenN ?_
          refine At.againF1 (k + 1) (by omega) (⟨by omega, by rw [errOf_snoc hx hk.2]; exact h3⟩) ⟨rfl, trivial⟩
      · intro h2
        have he : errOf (armErr patErr p) o.arms = 0 := by have := hk.2; rwa [List.take_of_length_le (by omega)] at this
        refine At.exit ?_
        refine At.thenX ?_
        refine At.thenX ?_
        refine At.blkX ?_
        refine At.thenN ?_
        refine At.seq ?_
        refine At.seq ?_
        refine At.region ?_
        refine At.ev (ev_fa T.fa56_5 rfl) rfl ?_
        refine At.ev (ld T.ld3 rfl) rfl ?_
        refine At.ev (ev_fa T.fa56_6 rfl) rfl ?_
        refine At.ev (ld T.ld3 rfl) rfl ?_
        refine At.bsl [.int .i64 o.onTimeout, .int .i64 o.onEof] T.un68 T.sz3 T.zv3 rfl ?_
        intro bl
        refine At.ev (ev_lenl T.un68 rfl) rfl ?_
        refine At.ev (ev_move rfl) rfl ?_
        refine At.nil ?_
        refine At.thenN ?_
        refine At.block ?_
        refine At.loopF1 [(4, 4), (9, 9), (45, 57)] (fun (k : Nat) => 2 - k) (fun (k : Nat) => k ≤ 2 ∧ ∀ j < k, ¬ toBad p (toAt o j)) (fun (k : Nat) => [(45, .val (.int .i64 k))]) (fun (k : Nat) => []) (0) (⟨by omega, fun j hj => absurd hj (by omega)⟩) ⟨rfl, trivial⟩ ?_
        intro k hk
        refine At.cat0 ?_
        refine At.seq ?_
        refine At.region ?_
        refine At.ev (ev_lss rfl rfl) rfl ?_
        refine At.nil ?_
        refine At.thenN ?_
        refine At.seq ?_
        refine At.condD rfl ?_ ?_
        · intro h4
          refine At.skip ?_
          refine At.thenN ?_
          refine At.seq ?_
          refine At.block ?_
          refine At.seq ?_
          refine At.region ?_
          refine At.ev (ev_ian T.un68 T.sz3 rfl rfl (by omega)) rfl ?_
          refine At.ev (ld T.ld3 rfl (v := .int .i64 (toAt o k)) (hc := Cell.blk (b := bl) (cs := [.int .i64 o.onTimeout, .int .i64 o.onEof]) (t := 3) (by repeat (first | with_reducible exact Mem.head _ _ | apply Mem.tail)) (by rcases (show k = 0 ∨ k = 1 by omega) with e | e <;> subst e <;> rfl))) rfl ?_
          refine At.ev (ev_assign rfl) rfl ?_
          refine At.nil ?_
          refine At.thenN ?_
          refine At.seq ?_
          refine At.region ?_
          refine At.ev (ev_move rfl) rfl ?_
          refine At.ev (ev_nei rfl rfl) rfl ?_
          refine At.ev (ev_move rfl) rfl ?_
          refine At.evg rfl rfl (fun hg => (ldA T.ld26 rfl)) rfl rfl ?_
          refine At.evg rfl rfl (fun hg => (ev_move rfl)) rfl rfl ?_
          refine At.callg rfl rfl (fun hg => goes_func cf179 rfl) (fun hg => (Qc.stay (prog_comes _ _ _))) rfl rfl ?_
          refine At.evg rfl rfl (fun hg => (ev_not rfl)) rfl rfl ?_
          refine At.ev (ev_pickG rfl rfl rfl rfl) rfl ?_
          refine At.nil ?_
          refine At.thenN ?_
          refine At.cond rfl ?_ ?_
          · intro h5
            try simp only [decide_eq_true_eq, decide_eq_false_iff_not, Bool.not_eq_true', Bool.not_eq_false', Bool.cond_false_right, Bool.cond_true_left, Bool.and_eq_true, Bool.or_eq_true, Bool.and_eq_false_iff, Bool.or_eq_false_iff, Bool.not_true, Bool.not_false] at h5
            have hb : (o.onTimeout ≠ -1 ∧ p.comes o.onTimeout = false) ∨ (o.onEof ≠ -1 ∧ p.comes o.onEof = false) := by
              rcases (show k = 0 ∨ k = 1 by omega) with e | e <;> subst e
              · exact .inl h5
              · exact .inr h5
            refine At.seq ?_
            refine At.region ?_
            refine At.ev (ev_assign rfl) rfl ?_
            refine At.nil ?_
            refine At.thenN ?_
            refine At.retC ?_
            refine At.blkR ?_
            refine At.thenR ?_
            refine At.thenR ?_
            refine At.blkR ?_
            refine At.thenR ?_
            refine At.ret (rs := [.tmp 4]) rfl (Res.tmp rfl Res.nil) ?_
            exact Imp.pur (by unfold expErr; rw [if_neg h0', if_neg h1', if_neg (by simp [he]), if_pos hb]; rfl) (Imp.nil _)
          · intro h5
            try simp only [decide_eq_true_eq, decide_eq_false_iff_not, Bool.not_eq_true', Bool.not_eq_false', Bool.cond_false_right, Bool.cond_true_left, Bool.and_eq_true, Bool.or_eq_true, Bool.and_eq_false_iff, Bool.or_eq_false_iff, Bool.not_true, Bool.not_false] at h5
            refine At.skip ?_
            refine At.blkN ?_
            refine At.thenN ?_
            refine At.region ?_
            refine At.ev (ev_add rfl rfl (by omega)) rfl ?_
            refine At.ev (ev_move rfl) rfl ?_
            refine At.nil ?_
            refine At.thenN ?_
            refine At.againF1 (k + 1) (by omega) (⟨by omega, fun j hj => by
                by_cases e : j = k
                · subst e; intro h; rcases h5 with h6 | h6
                  · exact h.1 h6
                  · rw [h.2] at h6; cases h6
                · exact hk.2 j (by omega)⟩) ⟨rfl, trivial⟩
        · intro h4
          have hb : ¬ ((o.onTimeout ≠ -1 ∧ p.comes o.onTimeout = false) ∨ (o.onEof ≠ -1 ∧ p.comes o.onEof = false)) := by
            rintro (h | h)
            · exact hk.2 0 (by omega) h
            · exact hk.2 1 (by omega) h
          refine At.exit ?_
          refine At.thenX ?_
          refine At.thenX ?_
          refine At.blkX ?_
          refine At.thenN ?_
          refine At.seq ?_
          refine At.region ?_
          refine At.ev (ev_assign rfl) rfl ?_
          refine At.nil ?_
          refine At.thenN ?_
          refine At.retC ?_
          refine At.ret (rs := [.tmp 4]) rfl (Res.tmp rfl Res.nil) ?_
          exact Imp.pur (by unfold expErr; rw [if_neg h0', if_neg h1', if_neg (by simp [he]), if_neg hb]; rfl) (Imp.nil _)

/-- repartee/prog.op -/
theorem prog_op (p : Prog) (o : Op) (cs ds : List Value) : Does Tryz.prog 159 [.agg cs.toArray, .agg ds.toArray] [per (relP p cs), per (relP o ds)] (fun v => pur (v = .int .i64 (opErr patErr p o))) := by
  refine Does.enter Tryz.func159 rfl rfl ?_
  intro E
  refine openProg (x := p) (by repeat (first | with_reducible exact Mem.head _ _ | apply Mem.tail)) ?_
  intro hp ap cp hcp e
  subst e
  refine openOp (x := o) (by repeat (first | with_reducible exact Mem.head _ _ | apply Mem.tail)) ?_
  intro ho0 a0 c0 hc0 e
  subst e
  have hob := Op.bareB_eq o
  refine At.seq ?_
  refine At.region ?_
  refine At.boxA rfl ?_
  intro b0
  refine At.boxA rfl ?_
  intro b1
  refine At.ev (ev_assign rfl) rfl ?_
  refine At.nil ?_
  refine At.thenN ?_
  refine At.seq ?_
  refine At.block ?_
  refine At.seq ?_
  refine At.region ?_
  refine At.ev (ev_fa T.fa56_0 rfl) rfl ?_
  refine At.ev (ld T.ld3 rfl) rfl ?_
  refine At.ev (ev_lss rfl rfl) rfl ?_
  refine At.ev (ev_move rfl) rfl ?_
  refine At.evg rfl rfl (fun hg => (ev_fa T.fa56_0 rfl)) rfl rfl ?_
  refine At.evg rfl rfl (fun hg => (ld T.ld3 rfl)) rfl rfl ?_
  refine At.evg rfl rfl (fun hg => (ev_gtr rfl rfl)) rfl rfl ?_
  refine At.ev (ev_pickG rfl rfl rfl rfl) rfl ?_
  refine At.ev (ev_assign rfl) rfl ?_
  refine At.nil ?_
  refine At.thenN ?_
  refine At.cond rfl ?_ ?_
  · intro h0
    try simp only [decide_eq_true_eq, decide_eq_false_iff_not, Bool.not_eq_true', Bool.not_eq_false', Bool.cond_false_right, Bool.cond_true_left, Bool.and_eq_true, Bool.or_eq_true, Bool.and_eq_false_iff, Bool.or_eq_false_iff, Bool.not_true, Bool.not_false] at h0
    have h0' : o.kind < 1 ∨ 6 < o.kind := by omega
    refine At.seq ?_
    refine At.region ?_
    refine At.ev (ev_assign rfl) rfl ?_
    refine At.nil ?_
    refine At.thenN ?_
    refine At.retC ?_
    refine At.blkR ?_
    refine At.thenR ?_
    refine At.ret (rs := [.tmp 4]) rfl (Res.tmp rfl Res.nil) ?_
    exact Imp.pur (by unfold opErr; rw [if_pos h0']; rfl) (Imp.nil _)
  · intro h0
    try simp only [decide_eq_true_eq, decide_eq_false_iff_not, Bool.not_eq_true', Bool.not_eq_false', Bool.cond_false_right, Bool.cond_true_left, Bool.and_eq_true, Bool.or_eq_true, Bool.and_eq_false_iff, Bool.or_eq_false_iff, Bool.not_true, Bool.not_false] at h0
    have h0' : ¬ (o.kind < 1 ∨ 6 < o.kind) := by omega
    refine At.seq ?_
    refine At.drawH (.q1 0 (.q1 1 (.br 2 (.br 3 (.q0 4 (.q0 5 (.nil))) (.stop)) (.stop)))) (fun j => !([3] : List Nat).contains j) mixed (by kernel_rfl) (by kernel_rfl) (NoP.thn (NoP.blk (NoP.thn NoP.body))) ?_
    refine At.c1 rfl (Imp.refl _) (ldA T.ld56 rfl) rfl ?_
    refine At.c1 rfl (Imp.refl _) (ldA T.ld56 rfl) rfl ?_
    refine At.c2 rfl ?_ ?_
    · intro w0
      refine At.do (goes_func cf177 rfl) (prog_bare o (o.cs a0 c0)) ?_
      intro _
      refine At.ag ?_
      rintro csb rfl
      refine At.nil ?_
      refine At.cn (fun _ => ?_) ?_
      · first | exact Imp.refl _ | exact fun _ _ h => h.drop | exact fun _ _ h => h.drop.drop | exact fun _ _ h => h.drop.drop.drop | exact fun _ _ h => h.drop.drop.drop.drop | (repeat (first | exact Imp.nil _ | (with_reducible apply Imp.per; · repeat (first | with_reducible exact Mem.head _ _ | apply Mem.tail)) | (with_reducible apply Imp.one; · repeat (first | with_reducible exact At1.head _ _ | apply At1.tail))))
      refine At.c2 rfl ?_ ?_
      · intro w0
        refine At.callq (goes_func cf176 rfl) (Qc.stay2 (prog_sameOp o o.bareO (o.cs a0 c0) csb)) rfl ?_
        refine At.nil ?_
        refine At.cn (fun h => absurd h (by decide)) ?_
        rw [hob]
        refine At.c0 rfl (ev_not rfl) rfl ?_
        refine At.c0 rfl (ev_assign rfl) rfl ?_
        refine At.cnil ?_
        refine At.thenN ?_
        refine At.cond rfl ?_ ?_
        · intro h1
          try simp only [decide_eq_true_eq, decide_eq_false_iff_not, Bool.not_eq_true', Bool.not_eq_false', Bool.cond_false_right, Bool.cond_true_left, Bool.and_eq_true, Bool.or_eq_true, Bool.and_eq_false_iff, Bool.or_eq_false_iff, Bool.not_true, Bool.not_false] at h1
          have h1' : o.bareB = false := by simpa using h1
          refine At.seq ?_
          refine At.region ?_
          refine At.ev (ev_assign rfl) rfl ?_
          refine At.nil ?_
          refine At.thenN ?_
          refine At.retC ?_
          refine At.blkR ?_
          refine At.thenR ?_
          refine At.ret (rs := [.tmp 4]) rfl (Res.tmp rfl Res.nil) ?_
          exact Imp.pur (by unfold opErr; rw [if_neg h0', if_pos h1']; rfl) (Imp.nil _)
        · intro h1
          try simp only [decide_eq_true_eq, decide_eq_false_iff_not, Bool.not_eq_true', Bool.not_eq_false', Bool.cond_false_right, Bool.cond_true_left, Bool.and_eq_true, Bool.or_eq_true, Bool.and_eq_false_iff, Bool.or_eq_false_iff, Bool.not_true, Bool.not_false] at h1
          have h1' : ¬ o.bareB = false := by simpa using h1
          refine At.skip ?_
          refine At.blkN ?_
          refine At.thenN ?_
          refine At.seq ?_
          refine At.seq ?_
          refine At.region ?_
          refine At.ev (ev_fa T.fa56_0 rfl) rfl ?_
          refine At.ev (ld T.ld3 rfl) rfl ?_
          refine At.nil ?_
          refine At.thenN ?_
          refine At.block ?_
          refine At.seq ?_
          refine At.region ?_
          refine At.ev (ev_eqi rfl rfl) rfl ?_
          refine At.ev (ev_assign rfl) rfl ?_
          refine At.nil ?_
          refine At.thenN ?_
          refine At.cond rfl ?_ ?_
          · intro h2
            try simp only [decide_eq_true_eq, decide_eq_false_iff_not, Bool.not_eq_true', Bool.not_eq_false', Bool.cond_false_right, Bool.cond_true_left, Bool.and_eq_true, Bool.or_eq_true, Bool.and_eq_false_iff, Bool.or_eq_false_iff, Bool.not_true, Bool.not_false] at h2
            refine At.seq ?_
            refine At.seq ?_
            refine At.region ?_
            refine At.ev (ev_fa T.fa56_1 rfl) rfl ?_
            refine At.ev (ld T.ld9 rfl) rfl ?_
            refine At.ev (ev_eqs rfl rfl) rfl ?_
            refine At.nil ?_
            refine At.thenN ?_
            refine At.condD rfl ?_ ?_
            · intro h3
              rw [← size_zero] at h3
              refine At.seq ?_
              refine At.region ?_
              refine At.ev (ev_assign rfl) rfl ?_
              refine At.nil ?_
              refine At.thenN ?_
              refine At.retC ?_
              refine At.thenR ?_
              refine At.blkR ?_
              refine At.thenR ?_
              refine At.ret (rs := [.tmp 4]) rfl (Res.tmp rfl Res.nil) ?_
              exact Imp.pur (by unfold opErr; rw [if_neg h0', if_neg h1', if_pos ⟨h2, (size_zero _).1 h3⟩]; rfl) (Imp.nil _)
            · intro h3
              rw [← size_zero] at h3
              refine At.skip ?_
              refine At.thenN ?_
              refine At.seq ?_
              refine At.region ?_
              refine At.ev (ev_fa T.fa56_1 rfl) rfl ?_
              refine At.ev (ld T.ld9 rfl) rfl ?_
              refine At.ev (ev_lens T.un9 rfl) rfl ?_
              refine At.ev (ev_gtr rfl rfl) rfl ?_
              refine At.nil ?_
              refine At.thenN ?_
              refine At.condD rfl ?_ ?_
              · intro h4
                refine At.seq ?_
                refine At.region ?_
                refine At.ev (ev_assign rfl) rfl ?_
                refine At.nil ?_
                refine At.thenN ?_
                refine At.retC ?_
                refine At.blkR ?_
                refine At.thenR ?_
                refine At.ret (rs := [.tmp 4]) rfl (Res.tmp rfl Res.nil) ?_
                exact Imp.pur (by unfold opErr; rw [if_neg h0', if_neg h1', if_neg (fun h => h3 ((size_zero _).2 h.2)), if_pos ⟨h2, by omega⟩]; rfl) (Imp.nil _)
              · intro h4
                have h4' : ¬ (o.kind = 1 ∧ 256 < o.text.size) := by omega
                refine At.skip ?_
                refine At.blkN ?_
                refine At.thenN ?_
                refine At.seq ?_
                refine At.region ?_
                refine At.ev (ev_assign rfl) rfl ?_
                refine At.nil ?_
                refine At.thenN ?_
                refine At.retC ?_
                refine At.ret (rs := [.tmp 4]) rfl (Res.tmp rfl Res.nil) ?_
                exact Imp.pur (by unfold opErr; rw [if_neg h0', if_neg h1', if_neg (fun h => h3 ((size_zero _).2 h.2)), if_neg h4', if_neg (by omega), if_neg (by omega), if_neg (by omega)]; rfl) (Imp.nil _)
          · intro h2
            try simp only [decide_eq_true_eq, decide_eq_false_iff_not, Bool.not_eq_true', Bool.not_eq_false', Bool.cond_false_right, Bool.cond_true_left, Bool.and_eq_true, Bool.or_eq_true, Bool.and_eq_false_iff, Bool.or_eq_false_iff, Bool.not_true, Bool.not_false] at h2
            refine At.seq ?_
            refine At.region ?_
            refine At.ev (ev_eqi rfl rfl) rfl ?_
            refine At.ev (ev_assign rfl) rfl ?_
            refine At.nil ?_
            refine At.thenN ?_
            refine At.cond rfl ?_ ?_
            · intro h5
              try simp only [decide_eq_true_eq, decide_eq_false_iff_not, Bool.not_eq_true', Bool.not_eq_false', Bool.cond_false_right, Bool.cond_true_left, Bool.and_eq_true, Bool.or_eq_true, Bool.and_eq_false_iff, Bool.or_eq_false_iff, Bool.not_true, Bool.not_false] at h5
              refine At.seq ?_
              refine At.region ?_
              refine At.ev (ldA T.ld26 rfl) rfl ?_
              refine At.ev (ldA T.ld56 rfl) rfl ?_
              refine At.callq (goes_func cf178 rfl) (Qc.stay2 (prog_expect _ _ _ _)) rfl ?_
              refine At.ev (ev_assign rfl) rfl ?_
              refine At.nil ?_
              refine At.thenN ?_
              refine At.retC ?_
              refine At.blkR ?_
              refine At.thenR ?_
              refine At.ret (rs := [.tmp 4]) rfl (Res.tmp rfl Res.nil) ?_
              exact Imp.pur (by unfold opErr; rw [if_neg h0', if_neg h1', if_neg (by omega), if_neg (by omega), if_pos h5]; rfl) (Imp.nil _)
            · intro h5
              try simp only [decide_eq_true_eq, decide_eq_false_iff_not, Bool.not_eq_true', Bool.not_eq_false', Bool.cond_false_right, Bool.cond_true_left, Bool.and_eq_true, Bool.or_eq_true, Bool.and_eq_false_iff, Bool.or_eq_false_iff, Bool.not_true, Bool.not_false] at h5
              refine At.seq ?_
              refine At.region ?_
              refine At.ev (ev_eqi rfl rfl) rfl ?_
              refine At.ev (ev_assign rfl) rfl ?_
              refine At.nil ?_
              refine At.thenN ?_
              refine At.cond rfl ?_ ?_
              · intro h6
                try simp only [decide_eq_true_eq, decide_eq_false_iff_not, Bool.not_eq_true', Bool.not_eq_false', Bool.cond_false_right, Bool.cond_true_left, Bool.and_eq_true, Bool.or_eq_true, Bool.and_eq_false_iff, Bool.or_eq_false_iff, Bool.not_true, Bool.not_false] at h6
                refine At.seq ?_
                refine At.region ?_
                refine At.ev (ldA T.ld26 rfl) rfl ?_
                refine At.ev (ev_fa T.fa56_3 rfl) rfl ?_
                refine At.ev (ld T.ld3 rfl) rfl ?_
                refine At.callq (goes_func cf179 rfl) (Qc.stay (prog_comes _ _ _)) rfl ?_
                refine At.ev (ev_not rfl) rfl ?_
                refine At.nil ?_
                refine At.thenN ?_
                refine At.cond rfl ?_ ?_
                · intro h7
                  try simp only [decide_eq_true_eq, decide_eq_false_iff_not, Bool.not_eq_true', Bool.not_eq_false', Bool.cond_false_right, Bool.cond_true_left, Bool.and_eq_true, Bool.or_eq_true, Bool.and_eq_false_iff, Bool.or_eq_false_iff, Bool.not_true, Bool.not_false] at h7
                  refine At.seq ?_
                  refine At.region ?_
                  refine At.ev (ev_assign rfl) rfl ?_
                  refine At.nil ?_
                  refine At.thenN ?_
                  refine At.retC ?_
                  refine At.blkR ?_
                  refine At.thenR ?_
                  refine At.ret (rs := [.tmp 4]) rfl (Res.tmp rfl Res.nil) ?_
                  exact Imp.pur (by unfold opErr; rw [if_neg h0', if_neg h1', if_neg (by omega), if_neg (by omega), if_neg h5, if_pos ⟨h6, by simpa using h7⟩]; rfl) (Imp.nil _)
                · intro h7
                  try simp only [decide_eq_true_eq, decide_eq_false_iff_not, Bool.not_eq_true', Bool.not_eq_false', Bool.cond_false_right, Bool.cond_true_left, Bool.and_eq_true, Bool.or_eq_true, Bool.and_eq_false_iff, Bool.or_eq_false_iff, Bool.not_true, Bool.not_false] at h7
                  refine At.skip ?_
                  refine At.blkN ?_
                  refine At.thenN ?_
                  refine At.seq ?_
                  refine At.region ?_
                  refine At.ev (ev_assign rfl) rfl ?_
                  refine At.nil ?_
                  refine At.thenN ?_
                  refine At.retC ?_
                  refine At.ret (rs := [.tmp 4]) rfl (Res.tmp rfl Res.nil) ?_
                  exact Imp.pur (by unfold opErr; rw [if_neg h0', if_neg h1', if_neg (by omega), if_neg (by omega), if_neg h5, if_neg (by simp [h7]), if_neg (by omega)]; rfl) (Imp.nil _)
              · intro h6
                try simp only [decide_eq_true_eq, decide_eq_false_iff_not, Bool.not_eq_true', Bool.not_eq_false', Bool.cond_false_right, Bool.cond_true_left, Bool.and_eq_true, Bool.or_eq_true, Bool.and_eq_false_iff, Bool.or_eq_false_iff, Bool.not_true, Bool.not_false] at h6
                refine At.seq ?_
                refine At.region ?_
                refine At.ev (ev_eqi rfl rfl) rfl ?_
                refine At.ev (ev_assign rfl) rfl ?_
                refine At.nil ?_
                refine At.thenN ?_
                refine At.cond rfl ?_ ?_
                · intro h8
                  try simp only [decide_eq_true_eq, decide_eq_false_iff_not, Bool.not_eq_true', Bool.not_eq_false', Bool.cond_false_right, Bool.cond_true_left, Bool.and_eq_true, Bool.or_eq_true, Bool.and_eq_false_iff, Bool.or_eq_false_iff, Bool.not_true, Bool.not_false] at h8
                  refine At.seq ?_
                  refine At.region ?_
                  refine At.ev (ev_fa T.fa56_2 rfl) rfl ?_
                  refine At.ev (ld T.ld2 rfl) rfl ?_
                  refine At.callq (goes_func cf157 rfl) (Qc.pure (prog_in_int64 _ _ _)) rfl ?_
                  refine At.ev (ev_not rfl) rfl ?_
                  refine At.nil ?_
                  refine At.thenN ?_
                  refine At.cond rfl ?_ ?_
                  · intro h9
                    try simp only [decide_eq_true_eq, decide_eq_false_iff_not, Bool.not_eq_true', Bool.not_eq_false', Bool.cond_false_right, Bool.cond_true_left, Bool.and_eq_true, Bool.or_eq_true, Bool.and_eq_false_iff, Bool.or_eq_false_iff, Bool.not_true, Bool.not_false] at h9
                    have h9' : o.n < 0 ∨ 1000000000000 < o.n := by (try simp at h9); omega
                    refine At.seq ?_
                    refine At.region ?_
                    refine At.ev (ev_assign rfl) rfl ?_
                    refine At.nil ?_
                    refine At.thenN ?_
                    refine At.retC ?_
                    refine At.blkR ?_
                    refine At.thenR ?_
                    refine At.ret (rs := [.tmp 4]) rfl (Res.tmp rfl Res.nil) ?_
                    exact Imp.pur (by unfold opErr; rw [if_neg h0', if_neg h1', if_neg (by omega), if_neg (by omega), if_neg h5, if_neg (fun h => h6 h.1), if_pos ⟨h8, h9'⟩]; rfl) (Imp.nil _)
                  · intro h9
                    try simp only [decide_eq_true_eq, decide_eq_false_iff_not, Bool.not_eq_true', Bool.not_eq_false', Bool.cond_false_right, Bool.cond_true_left, Bool.and_eq_true, Bool.or_eq_true, Bool.and_eq_false_iff, Bool.or_eq_false_iff, Bool.not_true, Bool.not_false] at h9
                    have h9' : ¬ (o.n < 0 ∨ 1000000000000 < o.n) := by (try simp at h9); omega
                    refine At.skip ?_
                    refine At.blkN ?_
                    refine At.thenN ?_
                    refine At.seq ?_
                    refine At.region ?_
                    refine At.ev (ev_assign rfl) rfl ?_
                    refine At.nil ?_
                    refine At.thenN ?_
                    refine At.retC ?_
                    refine At.ret (rs := [.tmp 4]) rfl (Res.tmp rfl Res.nil) ?_
                    exact Imp.pur (by unfold opErr; rw [if_neg h0', if_neg h1', if_neg (by omega), if_neg (by omega), if_neg h5, if_neg (fun h => h6 h.1), if_neg (fun h => h9' h.2)]; rfl) (Imp.nil _)
                · intro h8
                  try simp only [decide_eq_true_eq, decide_eq_false_iff_not, Bool.not_eq_true', Bool.not_eq_false', Bool.cond_false_right, Bool.cond_true_left, Bool.and_eq_true, Bool.or_eq_true, Bool.and_eq_false_iff, Bool.or_eq_false_iff, Bool.not_true, Bool.not_false] at h8
                  refine At.skip ?_
                  refine At.blkN ?_
                  refine At.thenN ?_
                  refine At.seq ?_
                  refine At.region ?_
                  refine At.ev (ev_assign rfl) rfl ?_
                  refine At.nil ?_
                  refine At.thenN ?_
                  refine At.retC ?_
                  refine At.ret (rs := [.tmp 4]) rfl (Res.tmp rfl Res.nil) ?_
                  exact Imp.pur (by unfold opErr; rw [if_neg h0', if_neg h1', if_neg (by omega), if_neg (by omega), if_neg h5, if_neg (fun h => h6 h.1), if_neg (fun h => h8 h.1)]; rfl) (Imp.nil _)
      exact At.cstop
    exact At.cstop

/-- repartee/prog.wrong -/
theorem prog_wrong (p : Prog) (cs : List Value) : Does Tryz.prog 122 [.agg cs.toArray] [per (relP p cs)] (fun v => ex fun i : Int => pur (v = .tuple #[.int .i64 i, .int .i64 (wrongE patErr p)])) := by
  refine Does.enter Tryz.func122 rfl rfl ?_
  intro E
  refine openProg (x := p) (by repeat (first | with_reducible exact Mem.head _ _ | apply Mem.tail)) ?_
  intro hp ap cp hcp e
  subst e
  have hnm := hp.1
  refine At.lenb (α := Op) (xs := p.ops) (by repeat (first | with_reducible exact Mem.head _ _ | apply Mem.tail)) ?_
  unfold big
  intro hlo
  refine At.seq ?_
  refine At.region ?_
  refine At.boxA rfl ?_
  intro b0
  refine At.ev (ev_assign rfl) rfl ?_
  refine At.ev (ev_assign rfl) rfl ?_
  refine At.nil ?_
  refine At.thenN ?_
  refine At.seq ?_
  refine At.block ?_
  refine At.seq ?_
  refine At.region ?_
  refine At.ev (ev_fa T.fa26_0 rfl) rfl ?_
  refine At.ev (ld T.ld9 rfl) rfl ?_
  refine At.callq (goes_func cf156 rfl) (Qc.pure (lex_Name _ (by assumption))) rfl ?_
  refine At.ev (ev_not rfl) rfl ?_
  refine At.ev (ev_assign rfl) rfl ?_
  refine At.nil ?_
  refine At.thenN ?_
  refine At.cond rfl ?_ ?_
  · intro h0
    try simp only [decide_eq_true_eq, decide_eq_false_iff_not, Bool.not_eq_true', Bool.not_eq_false', Bool.cond_false_right, Bool.cond_true_left, Bool.and_eq_true, Bool.or_eq_true, Bool.and_eq_false_iff, Bool.or_eq_false_iff, Bool.not_true, Bool.not_false] at h0
    refine At.seq ?_
    refine At.region ?_
    refine At.ev (ev_assign rfl) rfl ?_
    refine At.ev (ev_assign rfl) rfl ?_
    refine At.nil ?_
    refine At.thenN ?_
    refine At.retC ?_
    refine At.blkR ?_
    refine At.thenR ?_
    refine At.ret (rs := [.tmp 2, .tmp 3]) rfl (Res.tmp rfl (Res.tmp rfl Res.nil)) ?_
    exact Imp.ex (-1) (Imp.pur (by unfold wrongE; rw [if_pos h0]; rfl) (Imp.nil _))
  · intro h0
    try simp only [decide_eq_true_eq, decide_eq_false_iff_not, Bool.not_eq_true', Bool.not_eq_false', Bool.cond_false_right, Bool.cond_true_left, Bool.and_eq_true, Bool.or_eq_true, Bool.and_eq_false_iff, Bool.or_eq_false_iff, Bool.not_true, Bool.not_false] at h0
    refine At.seq ?_
    refine At.seq ?_
    refine At.region ?_
    refine At.ev (ev_fa T.fa26_1 rfl) rfl ?_
    refine At.ev (ld T.ld2 rfl) rfl ?_
    refine At.ev (ev_nei rfl rfl) rfl ?_
    refine At.ev (ev_move rfl) rfl ?_
    refine At.evg rfl rfl (fun hg => (ev_fa T.fa26_1 rfl)) rfl rfl ?_
    refine At.evg rfl rfl (fun hg => (ld T.ld2 rfl)) rfl rfl ?_
    refine At.callg rfl rfl (fun hg => goes_func cf157 rfl) (fun hg => (Qc.pure (prog_in_int64 _ _ _))) rfl rfl ?_
    refine At.evg rfl rfl (fun hg => (ev_not rfl)) rfl rfl ?_
    refine At.ev (ev_pickG rfl rfl rfl rfl) rfl ?_
    refine At.ev (ev_assign rfl) rfl ?_
    refine At.nil ?_
    refine At.thenN ?_
    refine At.joinQ1 [(12, 12), (22, 25)] (fun (b : Bool) => b = decide ((p.deadline ≠ never ∧ (p.deadline < 1 ∨ 1000000000000 < p.deadline)) ∨ p.jumps < 0 ∨ 1000 < p.jumps)) (fun (b : Bool) => [(12, .val (.bool b))]) (fun (b : Bool) => []) [] ?_ ?_
    · skip
      refine At.cond rfl ?_ ?_
      · intro h1
        try simp only [decide_eq_true_eq, decide_eq_false_iff_not, Bool.not_eq_true', Bool.not_eq_false', Bool.cond_false_right, Bool.cond_true_left, Bool.and_eq_true, Bool.or_eq_true, Bool.and_eq_false_iff, Bool.or_eq_false_iff, Bool.not_true, Bool.not_false] at h1
        refine At.skip ?_
        refine At.thenN ?_
        refine At.meet1 (_) (by rw [Bool.eq_iff_iff]; simp [never] at h1 ⊢; omega) ⟨rfl, trivial⟩
      · intro h1
        try simp only [decide_eq_true_eq, decide_eq_false_iff_not, Bool.not_eq_true', Bool.not_eq_false', Bool.cond_false_right, Bool.cond_true_left, Bool.and_eq_true, Bool.or_eq_true, Bool.and_eq_false_iff, Bool.or_eq_false_iff, Bool.not_true, Bool.not_false] at h1
        refine At.region ?_
        refine At.ev (ev_fa T.fa26_2 rfl) rfl ?_
        refine At.ev (ld T.ld3 rfl) rfl ?_
        refine At.callq (goes_func cf158 rfl) (Qc.pure (prog_in_int _ _ _)) rfl ?_
        refine At.ev (ev_not rfl) rfl ?_
        refine At.ev (ev_assign rfl) rfl ?_
        refine At.nil ?_
        refine At.thenN ?_
        refine At.meet1 (_) (by rw [Bool.eq_iff_iff]; simp [never] at h1 ⊢; omega) ⟨rfl, trivial⟩
    intro b hj
    refine At.cat0 ?_
    refine At.thenN ?_
    refine At.cond rfl ?_ ?_
    · intro h2
      try simp only [decide_eq_true_eq, decide_eq_false_iff_not, Bool.not_eq_true', Bool.not_eq_false', Bool.cond_false_right, Bool.cond_true_left, Bool.and_eq_true, Bool.or_eq_true, Bool.and_eq_false_iff, Bool.or_eq_false_iff, Bool.not_true, Bool.not_false] at h2
      simp only [hj, decide_eq_true_eq] at h2
      refine At.seq ?_
      refine At.region ?_
      refine At.ev (ev_assign rfl) rfl ?_
      refine At.ev (ev_assign rfl) rfl ?_
      refine At.nil ?_
      refine At.thenN ?_
      refine At.retC ?_
      refine At.blkR ?_
      refine At.thenR ?_
      refine At.ret (rs := [.tmp 2, .tmp 3]) rfl (Res.tmp rfl (Res.tmp rfl Res.nil)) ?_
      exact Imp.ex (-1) (Imp.pur (by unfold wrongE; rw [if_neg (by simp [h0]), if_pos h2]; rfl) (Imp.nil _))
    · intro h2
      try simp only [decide_eq_true_eq, decide_eq_false_iff_not, Bool.not_eq_true', Bool.not_eq_false', Bool.cond_false_right, Bool.cond_true_left, Bool.and_eq_true, Bool.or_eq_true, Bool.and_eq_false_iff, Bool.or_eq_false_iff, Bool.not_true, Bool.not_false] at h2
      simp only [hj, decide_eq_false_iff_not] at h2
      refine At.seq ?_
      refine At.region ?_
      refine At.ev (ev_fa T.fa26_3 rfl) rfl ?_
      refine At.ev (ld T.ld24 rfl) rfl ?_
      refine At.ev (ev_lenl T.un24 rfl) rfl ?_
      refine At.ev (ev_gtr rfl rfl) rfl ?_
      refine At.ev (ev_assign rfl) rfl ?_
      refine At.nil ?_
      refine At.thenN ?_
      refine At.cond rfl ?_ ?_
      · intro h3
        try simp only [decide_eq_true_eq, decide_eq_false_iff_not, Bool.not_eq_true', Bool.not_eq_false', Bool.cond_false_right, Bool.cond_true_left, Bool.and_eq_true, Bool.or_eq_true, Bool.and_eq_false_iff, Bool.or_eq_false_iff, Bool.not_true, Bool.not_false] at h3
        have h3' : 200 < p.ops.length := by omega
        refine At.seq ?_
        refine At.region ?_
        refine At.ev (ev_assign rfl) rfl ?_
        refine At.ev (ev_assign rfl) rfl ?_
        refine At.nil ?_
        refine At.thenN ?_
        refine At.retC ?_
        refine At.blkR ?_
        refine At.thenR ?_
        refine At.ret (rs := [.tmp 2, .tmp 3]) rfl (Res.tmp rfl (Res.tmp rfl Res.nil)) ?_
        exact Imp.ex (-1) (Imp.pur (by unfold wrongE; rw [if_neg (by simp [h0]), if_neg h2, if_pos h3']; rfl) (Imp.nil _))
      · intro h3
        try simp only [decide_eq_true_eq, decide_eq_false_iff_not, Bool.not_eq_true', Bool.not_eq_false', Bool.cond_false_right, Bool.cond_true_left, Bool.and_eq_true, Bool.or_eq_true, Bool.and_eq_false_iff, Bool.or_eq_false_iff, Bool.not_true, Bool.not_false] at h3
        have h3' : ¬ 200 < p.ops.length := by omega
        refine At.skip ?_
        refine At.blkN ?_
        refine At.thenN ?_
        refine At.seq ?_
        refine At.seq ?_
        refine At.region ?_
        refine At.ev (ev_fa T.fa26_3 rfl) rfl ?_
        refine At.ev (ld T.ld24 rfl) rfl ?_
        refine At.ev (ev_lenl T.un24 rfl) rfl ?_
        refine At.ev (ev_move rfl) rfl ?_
        refine At.nil ?_
        refine At.thenN ?_
        refine At.block ?_
        refine At.loopF1 [(2, 6), (34, 46)] (fun (k : Nat) => p.ops.length - k) (fun (k : Nat) => k ≤ p.ops.length ∧ errOf (opErr patErr p) (p.ops.take k) = 0) (fun (k : Nat) => [(34, .val (.int .i64 k))]) (fun (k : Nat) => []) (0) (⟨by omega, rfl⟩) ⟨rfl, trivial⟩ ?_
        intro k hk
        refine At.cat0 ?_
        refine At.seq ?_
        refine At.region ?_
        refine At.ev (ev_lss rfl rfl) rfl ?_
        refine At.nil ?_
        refine At.thenN ?_
        refine At.seq ?_
        refine At.condD rfl ?_ ?_
        · intro h4
          have hlt : k < p.ops.length := by omega
          refine At.get (α := Op) (xs := p.ops) (by repeat (first | with_reducible exact Mem.head _ _ | apply Mem.tail)) k hlt 7 rfl ?_
          intro adx x csx eq hx
          cases eq
          refine openOp (x := x) (by repeat (first | with_reducible exact Mem.head _ _ | apply Mem.tail)) ?_
          intro hox ax cx hcx e
          subst e
          
          refine At.skip ?_
          refine At.thenN ?_
          refine At.seq ?_
          refine At.block ?_
          refine At.seq ?_
          refine At.region ?_
          refine At.ev (ev_move rfl) rfl ?_
          refine At.ev (ev_ian T.un24 T.sz56 rfl rfl (by omega)) rfl ?_
          refine At.ev (ldA T.ld56 rfl) rfl ?_
          refine At.new T.zv56 ?_
          intro b1
          refine At.ev (ev_assign rfl) rfl ?_
          refine At.stA T.sz56 rfl rfl rfl ?_ (cs' := (x.cs ax cx))
          refine At.nil ?_
          refine At.thenN ?_
          refine At.seq ?_
          refine At.region ?_
          refine At.ev (ldA T.ld26 rfl) rfl ?_
          refine At.ev (ldA T.ld56 rfl) rfl ?_
          refine At.callq (goes_func cf159 rfl) (Qc.stay2 (prog_op _ _ _ _)) rfl ?_
          refine At.ev (ev_assign rfl) rfl ?_
          refine At.nil ?_
          refine At.thenN ?_
          refine At.seq ?_
          refine At.region ?_
          refine At.ev (ev_move rfl) rfl ?_
          refine At.ev (ev_nei rfl rfl) rfl ?_
          refine At.nil ?_
          refine At.thenN ?_
          refine At.condDn rfl ?_ ?_
          · intro h5
            refine At.seq ?_
            refine At.region ?_
            refine At.ev (ev_move rfl) rfl ?_
            refine At.ev (ev_move rfl) rfl ?_
            refine At.ev (ev_assign rfl) rfl ?_
            refine At.ev (ev_assign rfl) rfl ?_
            refine At.nil ?_
            refine At.thenN ?_
            refine At.retC ?_
            refine At.blkR ?_
            refine At.thenR ?_
            refine At.thenR ?_
            refine At.blkR ?_
            refine At.thenR ?_
            refine At.ret (rs := [.tmp 2, .tmp 3]) rfl (Res.tmp rfl (Res.tmp rfl Res.nil)) ?_
            have he := errOf_hit hx hk.2 h5
            exact Imp.ex (k) (Imp.pur (by unfold wrongE; rw [if_neg (by simp [h0]), if_neg h2, if_neg h3', he]; rfl) (Imp.nil _))
          · intro h5
            refine At.skip ?_
            refine At.blkN ?_
            refine At.thenN ?_
            refine At.region ?_
            refine At.ev (ev_add rfl rfl (by omega)) rfl ?_
            refine At.ev (ev_move rfl) rfl ?_
            refine At.nil ?_
            refine At.thenN ?_
            refine At.againF1 (k + 1) (by omega) (⟨by omega, by rw [errOf_snoc hx hk.2]; exact h5⟩) ⟨rfl, trivial⟩
        · intro h4
          refine At.exit ?_
          refine At.thenX ?_
          refine At.thenX ?_
          refine At.blkX ?_
          refine At.thenN ?_
          refine At.seq ?_
          refine At.region ?_
          refine At.ev (ev_assign rfl) rfl ?_
          refine At.ev (ev_assign rfl) rfl ?_
          refine At.nil ?_
          refine At.thenN ?_
          refine At.retC ?_
          refine At.ret (rs := [.tmp 2, .tmp 3]) rfl (Res.tmp rfl (Res.tmp rfl Res.nil)) ?_
          have he : errOf (opErr patErr p) p.ops = 0 := by have := hk.2; rwa [List.take_of_length_le (by omega)] at this
          exact Imp.ex (0) (Imp.pur (by unfold wrongE; rw [if_neg (by simp [h0]), if_neg h2, if_neg h3', he]; rfl) (Imp.nil _))

/-- repartee/prog.Good -/
theorem prog_Good (p : Prog) (cs : List Value) : Does Tryz.prog 74 [.agg cs.toArray] [per (relP p cs)] (fun v => pur (v = .bool (goodP patErr p))) := by
  refine Does.enter Tryz.func74 rfl rfl ?_
  intro E
  refine openProg (x := p) (by repeat (first | with_reducible exact Mem.head _ _ | apply Mem.tail)) ?_
  intro hp ap cp hcp e
  subst e
  
  refine At.seq ?_
  refine At.region ?_
  refine At.boxA rfl ?_
  intro b0
  refine At.ev (ev_assign rfl) rfl ?_
  refine At.nil ?_
  refine At.thenN ?_
  refine At.seq ?_
  refine At.region ?_
  refine At.ev (ldA T.ld26 rfl) rfl ?_
  refine At.do (goes_func cf122 rfl) (prog_wrong _ _) ?_
  intro _
  refine At.ex ?_
  intro wi
  refine At.pur ?_
  rintro rfl
  refine At.ev (ev_move rfl) rfl ?_
  refine At.ev (ev_ext rfl rfl) rfl ?_
  refine At.ev (ev_ext rfl rfl) rfl ?_
  refine At.ev (ev_assign rfl) rfl ?_
  refine At.ev (ev_assign rfl) rfl ?_
  refine At.nil ?_
  refine At.thenN ?_
  refine At.seq ?_
  refine At.region ?_
  refine At.ev (ev_move rfl) rfl ?_
  refine At.ev (ev_eqi rfl rfl) rfl ?_
  refine At.ev (ev_assign rfl) rfl ?_
  refine At.nil ?_
  refine At.thenN ?_
  refine At.retC ?_
  refine At.ret (rs := [.tmp 2]) rfl (Res.tmp rfl Res.nil) ?_
  exact Imp.pur (rfl) (Imp.nil _)

end Go.Proofs.YtebjpeonbfhdhaaGreat
