import Derived.Test.YtebjpeonbfhdhaaGreatWh
import Derived.Test.YtebjpeonbfhdhaaGreatSp10
set_option linter.unusedVariables false
set_option linter.unusedSimpArgs false
namespace Go.Proofs.YtebjpeonbfhdhaaGreat
open Go Go.Sx Go.Proofs
set_option maxRecDepth 100000
set_option maxHeartbeats 2000000

attribute [local irreducible] Go.Sx.opsW Go.Sx.cW Go.Code.wp Go.Sx.At

/-- repartee/reparteeref18.Good -/
theorem r18_Good (s : Setup) : Does Tryz.prog 60 [.agg s.cs.toArray] [] (fun v => pur (v = .bool s.good)) := by
  refine Does.enter Tryz.func60 rfl rfl ?_
  intro E
  refine At.seq ?_
  refine At.region ?_
  refine At.boxA rfl ?_
  intro b0
  refine At.ev (ev_assign rfl) rfl ?_
  refine At.nil ?_
  refine At.thenN ?_
  refine At.seq ?_
  refine At.region ?_
  refine At.ev (ev_fa T.fa23_0 rfl) rfl ?_
  refine At.ev (ld T.ld3 rfl) rfl ?_
  refine At.ev (ev_fa T.fa23_1 rfl) rfl ?_
  refine At.ev (ld T.ld3 rfl) rfl ?_
  refine At.ev (ev_fa T.fa23_2 rfl) rfl ?_
  refine At.ev (ld T.ld3 rfl) rfl ?_
  refine At.ev (ev_fa T.fa23_3 rfl) rfl ?_
  refine At.ev (ld T.ld3 rfl) rfl ?_
  refine At.ev (ev_fa T.fa23_4 rfl) rfl ?_
  refine At.ev (ld T.ld3 rfl) rfl ?_
  refine At.ev (ev_fa T.fa23_5 rfl) rfl ?_
  refine At.ev (ld T.ld3 rfl) rfl ?_
  refine At.bsl [.int .i64 s.live, .int .i64 s.ring, .int .i64 s.win, .int .i64 s.out, .int .i64 s.quantum, .int .i64 s.visits] T.un68 T.sz3 T.zv3 rfl ?_
  intro bl
  refine At.bsl [.int .i64 1024, .int .i64 4096, .int .i64 4096, .int .i64 4096, .int .i64 1000000, .int .i64 64] T.un68 T.sz3 T.zv3 rfl ?_
  intro bm
  refine At.ev (ev_assign rfl) rfl ?_
  refine At.ev (ev_assign rfl) rfl ?_
  refine At.nil ?_
  refine At.thenN ?_
  refine At.seq ?_
  refine At.seq ?_
  refine At.region ?_
  refine At.ev (ev_assign rfl) rfl ?_
  refine At.nil ?_
  refine At.thenN ?_
  refine At.block ?_
  refine At.loopF1 [(2, 2), (5, 5), (20, 41)] (fun (k : Nat) => 6 - k) (fun (k : Nat) => k ≤ 6 ∧ ∀ j < k, 1 ≤ s6 s j ∧ s6 s j ≤ m6 j) (fun (k : Nat) => [(5, .val (.int .i64 k))]) (fun (k : Nat) => []) (0) (⟨by omega, fun j hj => absurd hj (by omega)⟩) ⟨rfl, trivial⟩ ?_
  intro k hk
  refine At.cat0 ?_
  refine At.seq ?_
  refine At.seq ?_
  refine At.region ?_
  refine At.ev (ev_move rfl) rfl ?_
  refine At.ev (ev_move rfl) rfl ?_
  refine At.ev (ev_lenl T.un68 rfl) rfl ?_
  refine At.ev (ev_lss rfl rfl) rfl ?_
  refine At.nil ?_
  refine At.thenN ?_
  refine At.condD rfl ?_ ?_
  · intro h0
    have hlt : k < 6 := by omega
    refine At.skip ?_
    refine At.thenN ?_
    refine At.seq ?_
    refine At.block ?_
    refine At.seq ?_
    refine At.drawH (.q0 0 (.q0 1 (.q0 2 (.q1 3 (.q0 4 (.q0 5 (.q0 6 (.q0 7 (.q0 8 (.q1 9 (.q0 10 (.q0 11 (.q0 12 (.q1 13 (.q0 14 (.q0 15 (.nil))))))))))))))))) (fun j => !([] : List Nat).contains j) mixed (by kernel_rfl) (by kernel_rfl) (NoP.thn (NoP.blk (NoP.thn (NoP.thn (NoP.blk (NoP.thn NoP.body)))))) ?_
    refine At.c0 rfl (ev_move rfl) rfl ?_
    refine At.c0 rfl (ev_move rfl) rfl ?_
    refine At.c0 rfl (ev_ian T.un68 T.sz3 rfl rfl (by omega)) rfl ?_
    refine At.c1 rfl (Imp.refl _) (ld T.ld3 rfl (v := .int .i64 (s6 s k)) (hc := Cell.blk (b := bl) (cs := [.int .i64 s.live, .int .i64 s.ring, .int .i64 s.win, .int .i64 s.out, .int .i64 s.quantum, .int .i64 s.visits]) (t := 3) (by repeat (first | with_reducible exact Mem.head _ _ | apply Mem.tail)) (by rcases (show k = 0 ∨ k = 1 ∨ k = 2 ∨ k = 3 ∨ k = 4 ∨ k = 5 by omega) with e | e | e | e | e | e <;> subst e <;> rfl))) rfl ?_
    refine At.c0 rfl (ev_lss rfl rfl) rfl ?_
    refine At.c0 rfl (ev_move rfl) rfl ?_
    refine At.c0g rfl rfl rfl (fun hg => (ev_move rfl)) rfl rfl ?_
    refine At.c0g rfl rfl rfl (fun hg => (ev_move rfl)) rfl rfl ?_
    refine At.c0g rfl rfl rfl (fun hg => (ev_ianO T.un68 T.sz3 rfl rfl (by first | rfl | exact (hIf0 (by first | omega | decide | (simp at hg; omega) | (simp at hl hg; omega) | (simp at hg ⊢; omega))).1 | exact (hIf1 (by first | omega | decide | (simp at hg; omega) | (simp at hl hg; omega) | (simp at hg ⊢; omega))).1 | exact (hIf2 (by first | omega | decide | (simp at hg; omega) | (simp at hl hg; omega) | (simp at hg ⊢; omega))).1) (by first | omega | decide | (simp at hg; omega) | (simp at hl hg; omega) | (simp at hg ⊢; omega)))) rfl rfl ?_
    refine At.c1g rfl (Imp.refl _) rfl rfl (fun hg => (ld T.ld3 rfl (v := .int .i64 (s6 s k)) (hc := Cell.blk (b := bl) (cs := [.int .i64 s.live, .int .i64 s.ring, .int .i64 s.win, .int .i64 s.out, .int .i64 s.quantum, .int .i64 s.visits]) (t := 3) (by repeat (first | with_reducible exact Mem.head _ _ | apply Mem.tail)) (by rcases (show k = 0 ∨ k = 1 ∨ k = 2 ∨ k = 3 ∨ k = 4 ∨ k = 5 by omega) with e | e | e | e | e | e <;> subst e <;> rfl)))) rfl rfl ?_
    refine At.c0g rfl rfl rfl (fun hg => (ev_move rfl)) rfl rfl ?_
    refine At.c0g rfl rfl rfl (fun hg => (ev_move rfl)) rfl rfl ?_
    refine At.c0g rfl rfl rfl (fun hg => (ev_ianO T.un68 T.sz3 rfl rfl (by first | rfl | exact (hIf0 (by first | omega | decide | (simp at hg; omega) | (simp at hl hg; omega) | (simp at hg ⊢; omega))).1 | exact (hIf1 (by first | omega | decide | (simp at hg; omega) | (simp at hl hg; omega) | (simp at hg ⊢; omega))).1 | exact (hIf2 (by first | omega | decide | (simp at hg; omega) | (simp at hl hg; omega) | (simp at hg ⊢; omega))).1) (by first | omega | decide | (simp at hg; omega) | (simp at hl hg; omega) | (simp at hg ⊢; omega)))) rfl rfl ?_
    refine At.c1g rfl (Imp.refl _) rfl rfl (fun hg => (ld T.ld3 rfl (v := .int .i64 (m6 k)) (hc := Cell.blk (b := bm) (cs := [.int .i64 1024, .int .i64 4096, .int .i64 4096, .int .i64 4096, .int .i64 1000000, .int .i64 64]) (t := 3) (by repeat (first | with_reducible exact Mem.head _ _ | apply Mem.tail)) (by rcases (show k = 0 ∨ k = 1 ∨ k = 2 ∨ k = 3 ∨ k = 4 ∨ k = 5 by omega) with e | e | e | e | e | e <;> subst e <;> rfl)))) rfl rfl ?_
    refine At.c0g rfl rfl rfl (fun hg => (ev_gtr rfl rfl)) rfl rfl ?_
    refine At.c0 rfl (ev_pickG rfl rfl rfl rfl) rfl ?_
    refine At.cnil ?_
    refine At.thenN ?_
    refine At.cond rfl ?_ ?_
    · intro h1
      try simp only [decide_eq_true_eq, decide_eq_false_iff_not, Bool.not_eq_true', Bool.not_eq_false', Bool.cond_false_right, Bool.cond_true_left, Bool.and_eq_true, Bool.or_eq_true, Bool.and_eq_false_iff, Bool.or_eq_false_iff, Bool.not_true, Bool.not_false] at h1
      have hf : s.good = false := by
        rw [← Bool.not_eq_true, good_iff6]; intro h; have := h k hlt; omega
      refine At.seq ?_
      refine At.region ?_
      refine At.ev (ev_assign rfl) rfl ?_
      refine At.nil ?_
      refine At.thenN ?_
      refine At.retC ?_
      refine At.blkR ?_
      refine At.thenR ?_
      refine At.thenR ?_
      refine At.blkR ?_
      refine At.thenR ?_
      refine At.ret (rs := [.tmp 2]) rfl (Res.tmp rfl Res.nil) ?_
      exact Imp.pur (by rw [hf]; rfl) (Imp.nil _)
    · intro h1
      try simp only [decide_eq_true_eq, decide_eq_false_iff_not, Bool.not_eq_true', Bool.not_eq_false', Bool.cond_false_right, Bool.cond_true_left, Bool.and_eq_true, Bool.or_eq_true, Bool.and_eq_false_iff, Bool.or_eq_false_iff, Bool.not_true, Bool.not_false] at h1
      refine At.skip ?_
      refine At.blkN ?_
      refine At.thenN ?_
      refine At.region ?_
      refine At.ev (ev_move rfl) rfl ?_
      refine At.ev (ev_add rfl rfl (by omega)) rfl ?_
      refine At.ev (ev_assign rfl) rfl ?_
      refine At.nil ?_
      refine At.thenN ?_
      refine At.againF1 (k + 1) (by omega) (⟨by omega, fun j hj => by
          by_cases e : j = k
          · subst e; omega
          · exact hk.2 j (by omega)⟩) ⟨rfl, trivial⟩
  · intro h0
    have hf : s.good = true := (good_iff6 s).2 fun j hj => hk.2 j (by omega)
    refine At.exit ?_
    refine At.thenX ?_
    refine At.thenX ?_
    refine At.blkX ?_
    refine At.thenN ?_
    refine At.seq ?_
    refine At.region ?_
    refine At.ev (ev_assign rfl) rfl ?_
    refine At.nil ?_
    refine At.thenN ?_
    refine At.retC ?_
    refine At.ret (rs := [.tmp 2]) rfl (Res.tmp rfl Res.nil) ?_
    exact Imp.pur (by rw [hf]; rfl) (Imp.nil _)

/-- repartee/flow.steps -/
theorem flow_steps (s : Setup) (p : Prog) (cs : List Value) : Does Tryz.prog 73 [.agg s.cs.toArray, .agg cs.toArray] [per (relP p cs)] (fun v => pur (v = .int .i64 (stepsP s p))) := by
  refine Does.enter Tryz.func73 rfl rfl ?_
  intro E
  refine openProg (x := p) (by repeat (first | with_reducible exact Mem.head _ _ | apply Mem.tail)) ?_
  intro hp ap cp hcp e
  subst e
  
  refine At.seq ?_
  refine At.region ?_
  refine At.boxA rfl ?_
  intro bs
  refine At.boxA rfl ?_
  intro b1
  refine At.ev (ev_assign rfl) rfl ?_
  refine At.nil ?_
  refine At.thenN ?_
  refine At.seq ?_
  refine At.seq ?_
  refine At.region ?_
  refine At.ev (ldA T.ld23 rfl) rfl ?_
  refine At.callq (goes_func cf92 rfl) (Qc.pure (cost_Good _)) rfl ?_
  refine At.ev (ev_not rfl) rfl ?_
  refine At.ev (ev_move rfl) rfl ?_
  refine At.evg rfl rfl (fun hg => (ldA T.ld26 rfl)) rfl rfl ?_
  refine At.callg rfl rfl (fun hg => goes_func cf74 rfl) (fun hg => (Qc.stay (prog_Good p (p.cs ap cp)))) rfl rfl ?_
  refine At.evg rfl rfl (fun hg => (ev_not rfl)) rfl rfl ?_
  refine At.ev (ev_pickG rfl rfl rfl rfl) rfl ?_
  refine At.nil ?_
  refine At.thenN ?_
  refine At.cond rfl ?_ ?_
  · intro h0
    try simp only [decide_eq_true_eq, decide_eq_false_iff_not, Bool.not_eq_true', Bool.not_eq_false', Bool.cond_false_right, Bool.cond_true_left, Bool.and_eq_true, Bool.or_eq_true, Bool.and_eq_false_iff, Bool.or_eq_false_iff, Bool.not_true, Bool.not_false] at h0
    refine At.seq ?_
    refine At.region ?_
    refine At.ev (ev_assign rfl) rfl ?_
    refine At.nil ?_
    refine At.thenN ?_
    refine At.retC ?_
    refine At.thenR ?_
    refine At.ret (rs := [.tmp 4]) rfl (Res.tmp rfl Res.nil) ?_
    exact Imp.pur (by unfold stepsP; rw [if_neg (fun h => by rcases h0 with h1 | h1; exact absurd h.1 (by simp [h1]); exact absurd h.2 (by simp [h1]))]; rfl) (Imp.nil _)
  · intro h0
    try simp only [decide_eq_true_eq, decide_eq_false_iff_not, Bool.not_eq_true', Bool.not_eq_false', Bool.cond_false_right, Bool.cond_true_left, Bool.and_eq_true, Bool.or_eq_true, Bool.and_eq_false_iff, Bool.or_eq_false_iff, Bool.not_true, Bool.not_false] at h0
    have hg : s.good = true ∧ goodP patErr p = true := by simpa using h0
    have hgo := Setup.good_out hg.1
    obtain ⟨hg1, hg2, hg3, hg4⟩ := goodP_ops hg.2
    
    refine At.skip ?_
    refine At.thenN ?_
    refine At.seq ?_
    refine At.region ?_
    refine At.ev (ev_assign rfl) rfl ?_
    refine At.nil ?_
    refine At.thenN ?_
    refine At.seq ?_
    refine At.seq ?_
    refine At.region ?_
    refine At.ev (ev_fa T.fa26_3 rfl) rfl ?_
    refine At.ev (ld T.ld24 rfl) rfl ?_
    refine At.ev (ev_lenl T.un24 rfl) rfl ?_
    refine At.ev (ev_move rfl) rfl ?_
    refine At.nil ?_
    refine At.thenN ?_
    refine At.block ?_
    refine At.loopF1 [(5, 5), (7, 7), (19, 40)] (fun (k : Nat) => p.ops.length - k) (fun (k : Nat) => k ≤ p.ops.length) (fun (k : Nat) => [(5, .val (.int .i64 (1 + sumF (opSteps s) (p.ops.take k)))), (19, .val (.int .i64 k))]) (fun (k : Nat) => []) (0) (by omega) ⟨rfl, rfl, trivial⟩ ?_
    intro k hk
    refine At.cat0 ?_
    refine At.seq ?_
    refine At.region ?_
    refine At.ev (ev_lss rfl rfl) rfl ?_
    refine At.nil ?_
    refine At.thenN ?_
    refine At.seq ?_
    refine At.condD rfl ?_ ?_
    · intro h1
      have hlt : k < p.ops.length := by omega
      refine At.get (α := Op) (xs := p.ops) (by repeat (first | with_reducible exact Mem.head _ _ | apply Mem.tail)) k hlt 7 rfl ?_
      intro adx x csx eq hx
      cases eq
      refine openOp (x := x) (by repeat (first | with_reducible exact Mem.head _ _ | apply Mem.tail)) ?_
      intro hox ax cx hcx e
      subst e
      
      have hxo := hg4 x (List.mem_of_getElem? hx)
      have hxt := opErr_text hxo
      have hxb := opSteps_b hg.1 hxo
      have hsn := sumF_snoc (f := opSteps s) hx
      have hsb := sumF_bound (f := opSteps s) (B := 257) (l := p.ops.take k) (fun o ho => opSteps_b hg.1 (hg4 o (List.mem_of_mem_take ho)))
      have hlk := List.length_take_le k p.ops
      refine At.skip ?_
      refine At.thenN ?_
      refine At.seq ?_
      refine At.block ?_
      refine At.seq ?_
      refine At.region ?_
      refine At.ev (ev_ian T.un24 T.sz56 rfl rfl (by omega)) rfl ?_
      refine At.ev (ldA T.ld56 rfl) rfl ?_
      refine At.new T.zv56 ?_
      intro b2
      refine At.stA T.sz56 rfl rfl rfl ?_ (cs' := (x.cs ax cx))
      refine At.nil ?_
      refine At.thenN ?_
      refine At.seq ?_
      refine At.region ?_
      refine At.ev (ev_move rfl) rfl ?_
      refine At.ev (ev_add rfl rfl (by omega)) rfl ?_
      refine At.ev (ev_assign rfl) rfl ?_
      refine At.nil ?_
      refine At.thenN ?_
      refine At.seq ?_
      refine At.region ?_
      refine At.ev (ev_fa T.fa56_0 rfl) rfl ?_
      refine At.ev (ld T.ld3 rfl) rfl ?_
      refine At.ev (ev_eqi rfl rfl) rfl ?_
      refine At.nil ?_
      refine At.thenN ?_
      refine At.joinQ1 [(5, 5), (28, 39)] (fun (u : Unit) => True) (fun (u : Unit) => [(5, .val (.int .i64 (1 + sumF (opSteps s) (p.ops.take (k + 1)))))]) (fun (u : Unit) => []) [] ?_ ?_
      · skip
        refine At.condD rfl ?_ ?_
        · intro h2
          have hx1 := hxt.1 h2
          have hcq := ceilQ_b (n := x.text.size) (o := s.out) (by omega) hgo.1
          have hst : opSteps s x = 1 + ceilQ x.text.size s.out := by unfold opSteps; rw [if_pos h2]
          refine At.region ?_
          refine At.ev (ev_move rfl) rfl ?_
          refine At.ev (ev_fa T.fa56_1 rfl) rfl ?_
          refine At.ev (ld T.ld9 rfl) rfl ?_
          refine At.ev (ev_lens T.un9 rfl) rfl ?_
          refine At.ev (ev_fa T.fa23_3 rfl) rfl ?_
          refine At.ev (ld T.ld3 rfl) rfl ?_
          refine At.ev (ev_add rfl rfl (by omega)) rfl ?_
          refine At.ev (ev_sub rfl rfl (by omega)) rfl ?_
          refine At.ev (ev_fa T.fa23_3 rfl) rfl ?_
          refine At.ev (ld T.ld3 rfl) rfl ?_
          refine At.ev (ev_quo rfl rfl (by omega) (by omega) (by omega)) rfl ?_
          rw [show ((x.text.size : Int) + s.out - 1) / s.out = ceilQ x.text.size s.out from rfl]
          refine At.ev (ev_add rfl rfl (by omega)) rfl ?_
          refine At.ev (ev_assign rfl) rfl ?_
          refine At.nil ?_
          refine At.thenN ?_
          refine At.meet1 (()) (trivial) ⟨by rw [hsn, hst, show (1 : Int) + (sumF (opSteps s) (List.take k p.ops) + (1 + ceilQ x.text.size s.out)) = 1 + sumF (opSteps s) (List.take k p.ops) + 1 + ceilQ x.text.size s.out by omega]; rfl, trivial⟩
        · intro h2
          refine At.skip ?_
          refine At.thenN ?_
          have hst : opSteps s x = 1 := by unfold opSteps; rw [if_neg h2]; rfl
          refine At.meet1 (()) (trivial) ⟨by rw [hsn, hst, ← Int.add_assoc]; rfl, trivial⟩
      intro u hj
      refine At.cat0 ?_
      refine At.blkN ?_
      refine At.thenN ?_
      refine At.region ?_
      refine At.ev (ev_add rfl rfl (by omega)) rfl ?_
      refine At.ev (ev_move rfl) rfl ?_
      refine At.nil ?_
      refine At.thenN ?_
      refine At.againF1 (k + 1) (by omega) (by omega) ⟨rfl, rfl, trivial⟩
    · intro h1
      refine At.exit ?_
      refine At.thenX ?_
      refine At.thenX ?_
      refine At.blkX ?_
      refine At.thenN ?_
      refine At.seq ?_
      refine At.region ?_
      refine At.ev (ev_move rfl) rfl ?_
      refine At.ev (ev_assign rfl) rfl ?_
      refine At.nil ?_
      refine At.thenN ?_
      refine At.retC ?_
      refine At.ret (rs := [.tmp 4]) rfl (Res.tmp rfl Res.nil) ?_
      obtain rfl : k = p.ops.length := by omega
      exact Imp.pur (by unfold stepsP; rw [if_pos hg, List.take_length]; rfl) (Imp.nil _)

/-- repartee/flow.Steps -/
theorem flow_Steps (s : Setup) (p : Prog) (cs : List Value) : Does Tryz.prog 28 [.agg s.cs.toArray, .agg cs.toArray] [per (relP p cs)] (fun v => pur (v = .int .i64 (stepsP s p))) := by
  refine Does.enter Tryz.func28 rfl rfl ?_
  intro E
  refine openProg (x := p) (by repeat (first | with_reducible exact Mem.head _ _ | apply Mem.tail)) ?_
  intro hp ap cp hcp e
  subst e
  
  refine At.seq ?_
  refine At.region ?_
  refine At.boxA rfl ?_
  intro bs
  refine At.boxA rfl ?_
  intro b1
  refine At.ev (ev_assign rfl) rfl ?_
  refine At.nil ?_
  refine At.thenN ?_
  refine At.seq ?_
  refine At.region ?_
  refine At.ev (ldA T.ld23 rfl) rfl ?_
  refine At.ev (ldA T.ld26 rfl) rfl ?_
  refine At.callq (goes_func cf73 rfl) (Qc.stay (flow_steps _ _ _)) rfl ?_
  refine At.ev (ev_assign rfl) rfl ?_
  refine At.nil ?_
  refine At.thenN ?_
  refine At.retC ?_
  refine At.ret (rs := [.tmp 4]) rfl (Res.tmp rfl Res.nil) ?_
  exact Imp.pur rfl (Imp.nil _)

/-- repartee/flow.Most -/
theorem flow_Most (s : Setup) (p : Prog) (cs : List Value) : Does Tryz.prog 29 [.agg s.cs.toArray, .agg cs.toArray] [per (relP p cs)] (fun v => pur (v = .int .i64 (mostP s p))) := by
  refine Does.enter Tryz.func29 rfl rfl ?_
  intro E
  refine openProg (x := p) (by repeat (first | with_reducible exact Mem.head _ _ | apply Mem.tail)) ?_
  intro hp ap cp hcp e
  subst e
  
  refine At.seq ?_
  refine At.region ?_
  refine At.boxA rfl ?_
  intro bs
  refine At.boxA rfl ?_
  intro b1
  refine At.ev (ev_assign rfl) rfl ?_
  refine At.nil ?_
  refine At.thenN ?_
  refine At.seq ?_
  refine At.region ?_
  refine At.ev (ldA T.ld23 rfl) rfl ?_
  refine At.ev (ldA T.ld26 rfl) rfl ?_
  refine At.callq (goes_func cf73 rfl) (Qc.stay (flow_steps _ _ _)) rfl ?_
  refine At.ev (ev_assign rfl) rfl ?_
  refine At.nil ?_
  refine At.thenN ?_
  refine At.seq ?_
  refine At.seq ?_
  refine At.region ?_
  refine At.ev (ev_move rfl) rfl ?_
  refine At.ev (ev_eqi rfl rfl) rfl ?_
  refine At.nil ?_
  refine At.thenN ?_
  refine At.condD rfl ?_ ?_
  · intro h0
    refine At.seq ?_
    refine At.region ?_
    refine At.ev (ev_assign rfl) rfl ?_
    refine At.nil ?_
    refine At.thenN ?_
    refine At.retC ?_
    refine At.thenR ?_
    refine At.ret (rs := [.tmp 4]) rfl (Res.tmp rfl Res.nil) ?_
    exact Imp.pur (by unfold mostP; rw [if_pos h0]; rfl) (Imp.nil _)
  · intro h0
    have hsb := stepsP_b s p
    have hg : s.good = true ∧ goodP patErr p = true := by
      by_cases h : s.good = true ∧ goodP patErr p = true
      · exact h
      · exact absurd (by unfold stepsP; rw [if_neg h]) h0
    obtain ⟨_, hg2, hg3, _⟩ := goodP_ops hg.2
    have hmul : 0 ≤ 2 * stepsP s p * (p.jumps + 1) ∧ 2 * stepsP s p * (p.jumps + 1) ≤ 120000 * 1001 := ⟨Int.mul_nonneg (by omega) (by omega), Int.mul_le_mul (by omega) (by omega) (by omega) (by omega)⟩
    refine At.skip ?_
    refine At.thenN ?_
    refine At.seq ?_
    refine At.region ?_
    refine At.ev (ev_move rfl) rfl ?_
    refine At.ev (ev_mul rfl rfl (by omega)) rfl ?_
    refine At.ev (ev_fa T.fa26_2 rfl) rfl ?_
    refine At.ev (ld T.ld3 rfl) rfl ?_
    refine At.ev (ev_add rfl rfl (by omega)) rfl ?_
    refine At.ev (ev_mul rfl rfl (by omega)) rfl ?_
    refine At.ev (ev_assign rfl) rfl ?_
    refine At.nil ?_
    refine At.thenN ?_
    refine At.retC ?_
    refine At.ret (rs := [.tmp 4]) rfl (Res.tmp rfl Res.nil) ?_
    exact Imp.pur (by unfold mostP; rw [if_neg h0]; rfl) (Imp.nil _)

/-- repartee/reparteeref24.Steps -/
theorem r24_Steps (s : Setup) (p : Prog) (cs : List Value) : Does Tryz.prog 27 [.agg s.cs.toArray, .agg cs.toArray] [per (relP p cs)] (fun v => pur (v = .int .i64 (stepsR s p))) := by
  refine Does.enter Tryz.func27 rfl rfl ?_
  intro E
  refine openProg (x := p) (by repeat (first | with_reducible exact Mem.head _ _ | apply Mem.tail)) ?_
  intro hp ap cp hcp e
  subst e
  refine At.lenb (α := Op) (xs := p.ops) (by repeat (first | with_reducible exact Mem.head _ _ | apply Mem.tail)) ?_
  unfold big
  intro hlo
  refine At.seq ?_
  refine At.region ?_
  refine At.boxA rfl ?_
  intro bs
  refine At.boxA rfl ?_
  intro b1
  refine At.ev (ev_assign rfl) rfl ?_
  refine At.nil ?_
  refine At.thenN ?_
  refine At.seq ?_
  refine At.seq ?_
  refine At.region ?_
  refine At.ev (ldA T.ld23 rfl) rfl ?_
  refine At.callq (goes_func cf60 rfl) (Qc.pure (r18_Good _)) rfl ?_
  refine At.ev (ev_not rfl) rfl ?_
  refine At.ev (ev_move rfl) rfl ?_
  refine At.evg rfl rfl (fun hg => (ldA T.ld26 rfl)) rfl rfl ?_
  refine At.callg rfl rfl (fun hg => goes_func cf72 rfl) (fun hg => (Qc.stay (r13_Good p (p.cs ap cp)))) rfl rfl ?_
  refine At.evg rfl rfl (fun hg => (ev_not rfl)) rfl rfl ?_
  refine At.ev (ev_pickG rfl rfl rfl rfl) rfl ?_
  refine At.nil ?_
  refine At.thenN ?_
  refine At.cond rfl ?_ ?_
  · intro h0
    try simp only [decide_eq_true_eq, decide_eq_false_iff_not, Bool.not_eq_true', Bool.not_eq_false', Bool.cond_false_right, Bool.cond_true_left, Bool.and_eq_true, Bool.or_eq_true, Bool.and_eq_false_iff, Bool.or_eq_false_iff, Bool.not_true, Bool.not_false] at h0
    refine At.seq ?_
    refine At.region ?_
    refine At.ev (ev_assign rfl) rfl ?_
    refine At.nil ?_
    refine At.thenN ?_
    refine At.retC ?_
    refine At.thenR ?_
    refine At.ret (rs := [.tmp 4]) rfl (Res.tmp rfl Res.nil) ?_
    exact Imp.pur (by unfold stepsR; rw [if_neg (fun h => by rcases h0 with h1 | h1; exact absurd h.1 (by simp [h1]); exact absurd h.2 (by simp [h1]))]; rfl) (Imp.nil _)
  · intro h0
    try simp only [decide_eq_true_eq, decide_eq_false_iff_not, Bool.not_eq_true', Bool.not_eq_false', Bool.cond_false_right, Bool.cond_true_left, Bool.and_eq_true, Bool.or_eq_true, Bool.and_eq_false_iff, Bool.or_eq_false_iff, Bool.not_true, Bool.not_false] at h0
    have hg : s.good = true ∧ goodP patErr p = true := by simpa using h0
    have hgo := Setup.good_out hg.1
    obtain ⟨hg1, hg2, hg3, hg4⟩ := goodP_ops hg.2
    obtain ⟨B, hB⟩ : ∃ B, B = fun o : Op => ceilQ o.text.size s.out := ⟨_, rfl⟩
    have hBb : ∀ o ∈ p.ops, 0 ≤ B o ∧ B o ≤ 256 := by
      intro o ho; have ht := opErr_text (hg4 o ho); have hc := ceilQ_b (n := o.text.size) (o := s.out) (by omega) hgo.1
      rw [hB]; dsimp only; by_cases hk : o.kind = 1
      · have := ht.1 hk; omega
      · have := ht.2 hk; omega
    refine At.skip ?_
    refine At.thenN ?_
    refine At.seq ?_
    refine At.region ?_
    refine At.ev (ev_fa T.fa26_3 rfl) rfl ?_
    refine At.ev (ld T.ld24 rfl) rfl ?_
    refine At.ev (ev_lenl T.un24 rfl) rfl ?_
    refine At.ev (ev_add rfl rfl (by omega)) rfl ?_
    refine At.ev (ev_assign rfl) rfl ?_
    refine At.nil ?_
    refine At.thenN ?_
    refine At.seq ?_
    refine At.seq ?_
    refine At.region ?_
    refine At.ev (ev_assign rfl) rfl ?_
    refine At.nil ?_
    refine At.thenN ?_
    refine At.block ?_
    refine At.loopF1 [(5, 7), (20, 41)] (fun (k : Nat) => p.ops.length - k) (fun (k : Nat) => k ≤ p.ops.length) (fun (k : Nat) => [(5, .val (.int .i64 (1 + p.ops.length + sumF B (p.ops.take k)))), (6, .val (.int .i64 k))]) (fun (k : Nat) => []) (0) (by omega) ⟨by simp [sumF]; rfl, rfl, trivial⟩ ?_
    intro k hk
    refine At.cat0 ?_
    refine At.seq ?_
    refine At.seq ?_
    refine At.region ?_
    refine At.ev (ev_move rfl) rfl ?_
    refine At.ev (ev_fa T.fa26_3 rfl) rfl ?_
    refine At.ev (ld T.ld24 rfl) rfl ?_
    refine At.ev (ev_lenl T.un24 rfl) rfl ?_
    refine At.ev (ev_lss rfl rfl) rfl ?_
    refine At.nil ?_
    refine At.thenN ?_
    refine At.condD rfl ?_ ?_
    · intro h1
      have hlt : k < p.ops.length := by omega
      refine At.get (α := Op) (xs := p.ops) (by repeat (first | with_reducible exact Mem.head _ _ | apply Mem.tail)) k hlt 7 rfl ?_
      intro adx x csx eq hx
      cases eq
      refine openOp (x := x) (by repeat (first | with_reducible exact Mem.head _ _ | apply Mem.tail)) ?_
      intro hox ax cx hcx e
      subst e
      
      have hxo := hg4 x (List.mem_of_getElem? hx)
      have hxt := opErr_text hxo
      have hxb := hBb x (List.mem_of_getElem? hx)
      have hBx : B x = ceilQ x.text.size s.out := by rw [hB]
      have hsn := sumF_snoc (f := B) hx
      have hsb := sumF_bound (f := B) (B := 256) (l := p.ops.take k) (fun o ho => hBb o (List.mem_of_mem_take ho))
      have hlk := List.length_take_le k p.ops
      have hsz : (x.text.size : Int) ≤ 256 := by
        by_cases hk9 : x.kind = 1
        · have := hxt.1 hk9; omega
        · have := hxt.2 hk9; omega
      refine At.skip ?_
      refine At.thenN ?_
      refine At.seq ?_
      refine At.block ?_
      refine At.seq ?_
      refine At.region ?_
      refine At.ev (ev_fa T.fa26_3 rfl) rfl ?_
      refine At.ev (ld T.ld24 rfl) rfl ?_
      refine At.ev (ev_move rfl) rfl ?_
      refine At.ev (ev_ian T.un24 T.sz56 rfl rfl (by omega)) rfl ?_
      refine At.ev (ev_fa T.fa56_1 rfl) rfl ?_
      refine At.ev (ld T.ld9 rfl) rfl ?_
      refine At.ev (ev_lens T.un9 rfl) rfl ?_
      refine At.ev (ev_assign rfl) rfl ?_
      refine At.nil ?_
      refine At.thenN ?_
      refine At.block ?_
      refine At.loopF1 [(5, 5), (7, 7), (34, 41)] (fun (j : Nat) => (B x).toNat - j) (fun (j : Nat) => j ≤ B x) (fun (j : Nat) => [(5, .val (.int .i64 (1 + p.ops.length + sumF B (p.ops.take k) + j))), (7, .val (.int .i64 (x.text.size - j * s.out)))]) (fun (j : Nat) => []) (0) (by omega) ⟨by simp; rfl, by simp; rfl, trivial⟩ ?_
      intro j hj
      refine At.cat0 ?_
      refine At.seq ?_
      refine At.seq ?_
      refine At.region ?_
      refine At.ev (ev_move rfl) rfl ?_
      refine At.ev (ev_gtr rfl rfl) rfl ?_
      refine At.nil ?_
      refine At.thenN ?_
      refine At.condD rfl ?_ ?_
      · intro h2
        have hjo : 0 ≤ (j : Int) * s.out := Int.mul_nonneg (by omega) (by omega)
        have hjl : (j : Int) < B x := by rw [hBx]; exact (ceilQ_lt hgo.1).2 h2
        have hmo : (j : Int) * s.out + s.out = ((j + 1 : Nat) : Int) * s.out := by push_cast; rw [Int.add_mul, Int.one_mul]
        refine At.skip ?_
        refine At.thenN ?_
        refine At.seq ?_
        refine At.block ?_
        refine At.region ?_
        refine At.ev (ev_move rfl) rfl ?_
        refine At.ev (ev_add rfl rfl (by omega)) rfl ?_
        refine At.ev (ev_assign rfl) rfl ?_
        refine At.nil ?_
        refine At.blkN ?_
        refine At.thenN ?_
        refine At.region ?_
        refine At.ev (ev_move rfl) rfl ?_
        refine At.ev (ev_fa T.fa23_3 rfl) rfl ?_
        refine At.ev (ld T.ld3 rfl) rfl ?_
        refine At.ev (ev_sub rfl rfl (by omega)) rfl ?_
        refine At.ev (ev_assign rfl) rfl ?_
        refine At.nil ?_
        refine At.thenN ?_
        refine At.againF1 (j + 1) (by omega) (by omega) ⟨by rw [show (1 : Int) + p.ops.length + sumF B (List.take k p.ops) + ((j + 1 : Nat) : Int) = 1 + p.ops.length + sumF B (List.take k p.ops) + j + 1 by omega]; rfl, by rw [← hmo, show (x.text.size : Int) - (j * s.out + s.out) = x.text.size - j * s.out - s.out by omega]; rfl, trivial⟩
      · intro h2
        have hjl : ¬ (j : Int) < B x := by rw [hBx]; exact fun h => h2 ((ceilQ_lt hgo.1).1 h)
        have hje : (j : Int) = B x := by omega
        refine At.exit ?_
        refine At.thenX ?_
        refine At.thenX ?_
        refine At.blkX ?_
        refine At.blkN ?_
        refine At.thenN ?_
        refine At.region ?_
        refine At.ev (ev_move rfl) rfl ?_
        refine At.ev (ev_add rfl rfl (by omega)) rfl ?_
        refine At.ev (ev_assign rfl) rfl ?_
        refine At.nil ?_
        refine At.thenN ?_
        refine At.againF1 (k + 1) (by omega) (by omega) ⟨by rw [hsn, ← hje, ← Int.add_assoc]; rfl, rfl, trivial⟩
    · intro h1
      refine At.exit ?_
      refine At.thenX ?_
      refine At.thenX ?_
      refine At.blkX ?_
      refine At.thenN ?_
      refine At.seq ?_
      refine At.region ?_
      refine At.ev (ev_move rfl) rfl ?_
      refine At.ev (ev_assign rfl) rfl ?_
      refine At.nil ?_
      refine At.thenN ?_
      refine At.retC ?_
      refine At.ret (rs := [.tmp 4]) rfl (Res.tmp rfl Res.nil) ?_
      obtain rfl : k = p.ops.length := by omega
      exact Imp.pur (by unfold stepsR; rw [if_pos hg, List.take_length, hB]; rfl) (Imp.nil _)

/-- repartee/reparteelaw24.one -/
theorem law24_one (n : Int) : Does Tryz.prog 30 [.int .i64 n] [] (fun v => pur (v = .int .i64 (if 0 < n then 1 else 0))) := by
  refine Does.enter Tryz.func30 rfl rfl ?_
  intro E
  refine At.seq ?_
  refine At.region ?_
  refine At.ev (ev_assign rfl) rfl ?_
  refine At.nil ?_
  refine At.thenN ?_
  refine At.seq ?_
  refine At.seq ?_
  refine At.region ?_
  refine At.ev (ev_move rfl) rfl ?_
  refine At.ev (ev_gtr rfl rfl) rfl ?_
  refine At.nil ?_
  refine At.thenN ?_
  refine At.condD rfl ?_ ?_
  · intro h0
    refine At.seq ?_
    refine At.region ?_
    refine At.ev (ev_assign rfl) rfl ?_
    refine At.nil ?_
    refine At.thenN ?_
    refine At.retC ?_
    refine At.thenR ?_
    refine At.ret (rs := [.tmp 2]) rfl (Res.tmp rfl Res.nil) ?_
    exact Imp.pur (by rw [if_pos h0]; rfl) (Imp.nil _)
  · intro h0
    refine At.skip ?_
    refine At.thenN ?_
    refine At.seq ?_
    refine At.region ?_
    refine At.ev (ev_assign rfl) rfl ?_
    refine At.nil ?_
    refine At.thenN ?_
    refine At.retC ?_
    refine At.ret (rs := [.tmp 2]) rfl (Res.tmp rfl Res.nil) ?_
    exact Imp.pur (by rw [if_neg h0]; rfl) (Imp.nil _)

/-- repartee/reparteelaw22.Usual -/
theorem law22_Usual : Does Tryz.prog 61 [] [] (fun v => pur (v = .agg (⟨4, 8, 16, 3, 5, 1⟩ : Setup).cs.toArray)) := by
  refine Does.enter Tryz.func61 rfl rfl ?_
  intro E
  refine At.seq ?_
  refine At.region ?_
  refine At.new T.zv23 ?_
  intro b0
  refine At.nil ?_
  refine At.thenN ?_
  refine At.seq ?_
  refine At.region ?_
  refine At.ev (ev_build T.pl23 rfl ⟨rfl, rfl, rfl, rfl, rfl, rfl, trivial⟩ ⟨rfl, by decide, rfl, by decide, rfl, by decide, rfl, by decide, rfl, by decide, rfl, by decide, trivial⟩) rfl ?_
  refine At.stA T.sz23 rfl rfl rfl ?_
  refine At.nil ?_
  refine At.thenN ?_
  refine At.retC ?_
  refine At.ret (rs := [.cell 0 23]) rfl (Res.cell rfl (load_whole T.ld23 rfl (by repeat (first | with_reducible exact Mem.head _ _ | apply Mem.tail))) Res.nil) ?_
  exact Imp.pur rfl (Imp.nil _)

end Go.Proofs.YtebjpeonbfhdhaaGreat
