import Derived.Test.YtebjpeonbfhdhaaGreatWg
import Derived.Test.YtebjpeonbfhdhaaGreatSp9
set_option linter.unusedVariables false
set_option linter.unusedSimpArgs false
namespace Go.Proofs.YtebjpeonbfhdhaaGreat
open Go Go.Sx Go.Proofs
set_option maxRecDepth 100000
set_option maxHeartbeats 2000000

attribute [local irreducible] Go.Sx.opsW Go.Sx.cW Go.Code.wp Go.Sx.At

/-- repartee/reparteeref08.Least -/
theorem r08_Least (ao : Option Addr) (c : Nat) (l : List Item) : Does Tryz.prog 212 [.slice ao l.length c] [per (rdSl ao l)] (fun v => pur (v = .int .i64 (leastI l))) := by
  refine Does.enter Tryz.func212 rfl rfl ?_
  intro E
  refine At.lenb (α := Item) (xs := l) (by repeat (first | with_reducible exact Mem.head _ _ | apply Mem.tail)) ?_
  unfold big
  intro hll
  refine At.seq ?_
  refine At.region ?_
  refine At.ev (ev_assign rfl) rfl ?_
  refine At.nil ?_
  refine At.thenN ?_
  refine At.seq ?_
  refine At.region ?_
  refine At.ev (ev_assign rfl) rfl ?_
  refine At.nil ?_
  refine At.thenN ?_
  refine At.seq ?_
  refine At.seq ?_
  refine At.region ?_
  refine At.ev (ev_assign rfl) rfl ?_
  refine At.nil ?_
  refine At.thenN ?_
  refine At.block ?_
  refine At.loopF1 [(3, 18)] (fun (k : Nat) => l.length - k) (fun (k : Nat) => k ≤ l.length) (fun (k : Nat) => [(3, .val (.int .i64 (leastI (l.take k)))), (4, .val (.int .i64 k))]) (fun (k : Nat) => []) (0) (by omega) ⟨rfl, rfl, trivial⟩ ?_
  intro k hk
  refine At.cat0 ?_
  refine At.seq ?_
  refine At.seq ?_
  refine At.region ?_
  refine At.ev (ev_move rfl) rfl ?_
  refine At.ev (ev_move rfl) rfl ?_
  refine At.ev (ev_lenl T.un223 rfl) rfl ?_
  refine At.ev (ev_lss rfl rfl) rfl ?_
  refine At.nil ?_
  refine At.thenN ?_
  refine At.condD rfl ?_ ?_
  · intro h0
    have hlt : k < l.length := by omega
    refine At.get (α := Item) (xs := l) (by repeat (first | with_reducible exact Mem.head _ _ | apply Mem.tail)) k hlt 5 rfl ?_
    intro adx x csx eq hx
    cases eq
    refine openItem (x := x) (by repeat (first | with_reducible exact Mem.head _ _ | apply Mem.tail)) ?_
    intro hox  eq
    subst eq
    have hls := leastI_snoc hx
    have hle := leastI_le (l.take k)
    have hle2 := List.length_take_le k l
    refine At.skip ?_
    refine At.thenN ?_
    refine At.seq ?_
    refine At.block ?_
    refine At.seq ?_
    refine At.region ?_
    refine At.ev (ev_move rfl) rfl ?_
    refine At.ev (ev_move rfl) rfl ?_
    refine At.ev (ev_ian T.un223 T.sz251 rfl rfl (by omega)) rfl ?_
    refine At.ev (ev_fa T.fa251_0 rfl) rfl ?_
    refine At.ev (ld T.ld4 rfl) rfl ?_
    refine At.ev (ev_not rfl) rfl ?_
    refine At.nil ?_
    refine At.thenN ?_
    refine At.joinQ1 [(3, 3), (17, 18)] (fun (u : Unit) => True) (fun (u : Unit) => [(3, .val (.int .i64 (leastI (l.take (k + 1)))))]) (fun (u : Unit) => []) [] ?_ ?_
    · skip
      refine At.cond rfl ?_ ?_
      · intro h1
        try simp only [decide_eq_true_eq, decide_eq_false_iff_not, Bool.not_eq_true', Bool.not_eq_false', Bool.cond_false_right, Bool.cond_true_left, Bool.and_eq_true, Bool.or_eq_true, Bool.and_eq_false_iff, Bool.or_eq_false_iff, Bool.not_true, Bool.not_false] at h1
        refine At.region ?_
        refine At.ev (ev_move rfl) rfl ?_
        refine At.ev (ev_add rfl rfl (by omega)) rfl ?_
        refine At.ev (ev_assign rfl) rfl ?_
        refine At.nil ?_
        refine At.thenN ?_
        refine At.meet1 (()) (trivial) ⟨by rw [hls, h1]; rfl, trivial⟩
      · intro h1
        try simp only [decide_eq_true_eq, decide_eq_false_iff_not, Bool.not_eq_true', Bool.not_eq_false', Bool.cond_false_right, Bool.cond_true_left, Bool.and_eq_true, Bool.or_eq_true, Bool.and_eq_false_iff, Bool.or_eq_false_iff, Bool.not_true, Bool.not_false] at h1
        refine At.skip ?_
        refine At.thenN ?_
        refine At.meet1 (()) (trivial) ⟨by rw [hls, h1]; rfl, trivial⟩
    intro u hj
    refine At.cat0 ?_
    refine At.blkN ?_
    refine At.thenN ?_
    refine At.region ?_
    refine At.ev (ev_move rfl) rfl ?_
    refine At.ev (ev_add rfl rfl (by omega)) rfl ?_
    refine At.ev (ev_assign rfl) rfl ?_
    refine At.nil ?_
    refine At.thenN ?_
    refine At.againF1 (k + 1) (by omega) (by omega) ⟨rfl, rfl, trivial⟩
  · intro h0
    obtain rfl : k = l.length := by omega
    refine At.exit ?_
    refine At.thenX ?_
    refine At.thenX ?_
    refine At.blkX ?_
    refine At.thenN ?_
    refine At.seq ?_
    refine At.region ?_
    refine At.ev (ev_move rfl) rfl ?_
    refine At.ev (ev_assign rfl) rfl ?_
    refine At.nil ?_
    refine At.thenN ?_
    refine At.retC ?_
    refine At.ret (rs := [.tmp 2]) rfl (Res.tmp rfl Res.nil) ?_
    exact Imp.pur (by rw [List.take_length]; rfl) (Imp.nil _)

/-- repartee/reparteeref10.Check -/
theorem r10_Check (p : ByteArray) (hs : p.size ≤ big) : Does Tryz.prog 194 [.string p] [] (fun v => itemsA v (chkR p)) := by
  refine Does.enter Tryz.func194 rfl rfl ?_
  intro E
  refine At.seq ?_
  refine At.region ?_
  refine At.ev (ev_assign rfl) rfl ?_
  refine At.ev (ev_assign rfl) rfl ?_
  refine At.ev (ev_assign rfl) rfl ?_
  refine At.nil ?_
  refine At.thenN ?_
  refine At.seq ?_
  refine At.region ?_
  refine At.ev (ev_move rfl) rfl ?_
  refine At.do (goes_func cf211 rfl) (r07_Parse p hs) ?_
  intro _
  refine At.ex ?_
  intro v0
  refine At.star ?_
  refine At.pur ?_
  rintro rfl
  refine At.sl ?_
  intro ao c e hc
  subst e
  refine At.ev (ev_move rfl) rfl ?_
  refine At.ev (ev_ext rfl rfl) rfl ?_
  refine At.ev (ev_ext rfl rfl) rfl ?_
  refine At.ev (ev_ext rfl rfl) rfl ?_
  refine At.ev (ev_assign rfl) rfl ?_
  refine At.ev (ev_assign rfl) rfl ?_
  refine At.ev (ev_assign rfl) rfl ?_
  refine At.nil ?_
  refine At.thenN ?_
  refine At.seq ?_
  refine At.seq ?_
  refine At.region ?_
  refine At.ev (ev_move rfl) rfl ?_
  refine At.ev (ev_eqi rfl rfl) rfl ?_
  refine At.ev (ev_move rfl) rfl ?_
  refine At.evg rfl rfl (fun hg => (ev_move rfl)) rfl rfl ?_
  refine At.callg rfl rfl (fun hg => goes_func cf212 rfl) (fun hg => (Qc.stay (r08_Least ao c (gParse p).1))) rfl rfl ?_
  refine At.evg rfl rfl (fun hg => (ev_eqi rfl rfl)) rfl rfl ?_
  refine At.ev (ev_pickG rfl rfl rfl rfl) rfl ?_
  refine At.nil ?_
  refine At.thenN ?_
  refine At.cond rfl ?_ ?_
  · intro h0
    try simp only [decide_eq_true_eq, decide_eq_false_iff_not, Bool.not_eq_true', Bool.not_eq_false', Bool.cond_false_right, Bool.cond_true_left, Bool.and_eq_true, Bool.or_eq_true, Bool.and_eq_false_iff, Bool.or_eq_false_iff, Bool.not_true, Bool.not_false] at h0
    have hr : chkR p = ([], 0, 9) := by unfold chkR; rw [if_pos ⟨h0.1, (leastI_zero _).1 (by have := h0.2; omega)⟩]
    refine At.seq ?_
    refine At.region ?_
    refine At.ev (ev_assign rfl) rfl ?_
    refine At.ev (ev_assign rfl) rfl ?_
    refine At.ev (ev_assign rfl) rfl ?_
    refine At.nil ?_
    refine At.thenN ?_
    refine At.retC ?_
    refine At.thenR ?_
    refine At.ret (rs := [.tmp 2, .tmp 3, .tmp 4]) rfl (Res.tmp rfl (Res.tmp rfl (Res.tmp rfl Res.nil))) ?_
    rw [hr]; exact Imp.items0 rfl
  · intro h0
    try simp only [decide_eq_true_eq, decide_eq_false_iff_not, Bool.not_eq_true', Bool.not_eq_false', Bool.cond_false_right, Bool.cond_true_left, Bool.and_eq_true, Bool.or_eq_true, Bool.and_eq_false_iff, Bool.or_eq_false_iff, Bool.not_true, Bool.not_false] at h0
    have hr : chkR p = gParse p := by unfold chkR; rw [if_neg (fun h => by rcases h0 with h1 | h1; exact h1 h.1; exact h1 (by rw [(leastI_zero _).2 h.2]; rfl))]
    refine At.skip ?_
    refine At.thenN ?_
    refine At.seq ?_
    refine At.region ?_
    refine At.ev (ev_move rfl) rfl ?_
    refine At.ev (ev_move rfl) rfl ?_
    refine At.ev (ev_move rfl) rfl ?_
    refine At.ev (ev_assign rfl) rfl ?_
    refine At.ev (ev_assign rfl) rfl ?_
    refine At.ev (ev_assign rfl) rfl ?_
    refine At.nil ?_
    refine At.thenN ?_
    refine At.retC ?_
    refine At.ret (rs := [.tmp 2, .tmp 3, .tmp 4]) rfl (Res.tmp rfl (Res.tmp rfl (Res.tmp rfl Res.nil))) ?_
    rw [hr]; exact Imp.items (e := gParse p) (by repeat (first | with_reducible exact Mem.head _ _ | apply Mem.tail)) hc rfl

/-- repartee/reparteeref13.expect -/
theorem r13_expect (p : Prog) (o : Op) (cs ds : List Value) : Does Tryz.prog 174 [.agg cs.toArray, .agg ds.toArray] [per (relP p cs), per (relP o ds)] (fun v => pur (v = .int .i64 (expErr patErr p o))) := by
  refine Does.enter Tryz.func174 rfl rfl ?_
  intro E
  refine openProg (x := p) (by repeat (first | with_reducible exact Mem.head _ _ | apply Mem.tail)) ?_
  intro hp ap cp hcp e
  subst e
  refine openOp (x := o) (by repeat (first | with_reducible exact Mem.head _ _ | apply Mem.tail)) ?_
  intro ho0 a0 c0 hc0 e
  subst e
  refine At.lenb (α := Arm) (xs := o.arms) (by repeat (first | with_reducible exact Mem.head _ _ | apply Mem.tail)) ?_
  unfold big
  intro hl0
  refine At.seq ?_
  refine At.region ?_
  refine At.boxA rfl ?_
  intro b0
  refine At.boxA rfl ?_
  intro b1
  refine At.ev (ev_assign rfl) rfl ?_
  refine At.nil ?_
  refine At.thenN ?_
  refine At.seq ?_
  refine At.seq ?_
  refine At.region ?_
  refine At.ev (ev_fa T.fa56_2 rfl) rfl ?_
  refine At.ev (ld T.ld2 rfl) rfl ?_
  refine At.ev (ev_nei rfl rfl) rfl ?_
  refine At.ev (ev_move rfl) rfl ?_
  refine At.evg rfl rfl (fun hg => (ev_fa T.fa56_2 rfl)) rfl rfl ?_
  refine At.evg rfl rfl (fun hg => (ld T.ld2 rfl)) rfl rfl ?_
  refine At.evg rfl rfl (fun hg => (ev_lss rfl rfl)) rfl rfl ?_
  refine At.evg rfl rfl (fun hg => (ev_move rfl)) rfl rfl ?_
  refine At.evG rfl (Lv.nest rfl (Lv.base rfl)) (fun hl hg => (ev_fa T.fa56_2 rfl)) rfl rfl ?_
  refine At.evG rfl (Lv.nest rfl (Lv.base rfl)) (fun hl hg => (ld T.ld2 rfl)) rfl rfl ?_
  refine At.evG rfl (Lv.nest rfl (Lv.base rfl)) (fun hl hg => (ev_gtr rfl rfl)) rfl rfl ?_
  refine At.evg rfl rfl (fun hg => (ev_pickG rfl rfl rfl rfl)) rfl rfl ?_
  refine At.ev (ev_pickG rfl rfl rfl rfl) rfl ?_
  refine At.nil ?_
  refine At.thenN ?_
  refine At.cond rfl ?_ ?_
  · intro h0
    try simp only [decide_eq_true_eq, decide_eq_false_iff_not, Bool.not_eq_true', Bool.not_eq_false', Bool.cond_false_right, Bool.cond_true_left, Bool.and_eq_true, Bool.or_eq_true, Bool.and_eq_false_iff, Bool.or_eq_false_iff, Bool.not_true, Bool.not_false] at h0
    have h0' : o.n ≠ never ∧ (o.n < 0 ∨ 1000000000000 < o.n) := by simp [never] at h0 ⊢; omega
    refine At.seq ?_
    refine At.region ?_
    refine At.ev (ev_assign rfl) rfl ?_
    refine At.nil ?_
    refine At.thenN ?_
    refine At.retC ?_
    refine At.thenR ?_
    refine At.ret (rs := [.tmp 4]) rfl (Res.tmp rfl Res.nil) ?_
    exact Imp.pur (by unfold expErr; rw [if_pos h0']; rfl) (Imp.nil _)
  · intro h0
    try simp only [decide_eq_true_eq, decide_eq_false_iff_not, Bool.not_eq_true', Bool.not_eq_false', Bool.cond_false_right, Bool.cond_true_left, Bool.and_eq_true, Bool.or_eq_true, Bool.and_eq_false_iff, Bool.or_eq_false_iff, Bool.not_true, Bool.not_false] at h0
    have h0' : ¬ (o.n ≠ never ∧ (o.n < 0 ∨ 1000000000000 < o.n)) := by simp [never] at h0 ⊢; omega
    refine At.skip ?_
    refine At.thenN ?_
    refine At.seq ?_
    refine At.seq ?_
    refine At.region ?_
    refine At.ev (ev_fa T.fa56_4 rfl) rfl ?_
    refine At.ev (ld T.ld54 rfl) rfl ?_
    refine At.ev (ev_lenl T.un54 rfl) rfl ?_
    refine At.ev (ev_gtr rfl rfl) rfl ?_
    refine At.nil ?_
    refine At.thenN ?_
    refine At.condD rfl ?_ ?_
    · intro h1
      have h1' : 8 < o.arms.length := by omega
      refine At.seq ?_
      refine At.region ?_
      refine At.ev (ev_assign rfl) rfl ?_
      refine At.nil ?_
      refine At.thenN ?_
      refine At.retC ?_
      refine At.thenR ?_
      refine At.ret (rs := [.tmp 4]) rfl (Res.tmp rfl Res.nil) ?_
      exact Imp.pur (by unfold expErr; rw [if_neg h0', if_pos h1']; rfl) (Imp.nil _)
    · intro h1
      have h1' : ¬ 8 < o.arms.length := by omega
      refine At.skip ?_
      refine At.thenN ?_
      refine At.seq ?_
      refine At.seq ?_
      refine At.region ?_
      refine At.ev (ev_assign rfl) rfl ?_
      refine At.nil ?_
      refine At.thenN ?_
      refine At.block ?_
      refine At.loopF1 [(4, 8), (26, 63)] (fun (k : Nat) => o.arms.length - k) (fun (k : Nat) => k ≤ o.arms.length ∧ errOf (armErr patErr p) (o.arms.take k) = 0) (fun (k : Nat) => [(5, .val (.int .i64 k))]) (fun (k : Nat) => []) (0) (⟨by omega, rfl⟩) ⟨rfl, trivial⟩ ?_
      intro k hk
      refine At.cat0 ?_
      refine At.seq ?_
      refine At.seq ?_
      refine At.region ?_
      refine At.ev (ev_move rfl) rfl ?_
      refine At.ev (ev_fa T.fa56_4 rfl) rfl ?_
      refine At.ev (ld T.ld54 rfl) rfl ?_
      refine At.ev (ev_lenl T.un54 rfl) rfl ?_
      refine At.ev (ev_lss rfl rfl) rfl ?_
      refine At.nil ?_
      refine At.thenN ?_
      refine At.condD rfl ?_ ?_
      · intro h2
        have hlt : k < o.arms.length := by omega
        refine At.get (α := Arm) (xs := o.arms) (by repeat (first | with_reducible exact Mem.head _ _ | apply Mem.tail)) k hlt 2 rfl ?_
        intro adx x csx eq hx
        cases eq
        refine openArm (x := x) (by repeat (first | with_reducible exact Mem.head _ _ | apply Mem.tail)) ?_
        intro hox  eq
        subst eq
        have hx1 := hox.1
        refine At.skip ?_
        refine At.thenN ?_
        refine At.seq ?_
        refine At.block ?_
        refine At.seq ?_
        refine At.seq ?_
        refine At.region ?_
        refine At.ev (ev_fa T.fa56_4 rfl) rfl ?_
        refine At.ev (ld T.ld54 rfl) rfl ?_
        refine At.ev (ev_move rfl) rfl ?_
        refine At.ev (ev_ian T.un54 T.sz99 rfl rfl (by omega)) rfl ?_
        refine At.ev (ev_fa T.fa99_0 rfl) rfl ?_
        refine At.ev (ld T.ld9 rfl) rfl ?_
        refine At.ev (ev_lens T.un9 rfl) rfl ?_
        refine At.ev (ev_gtr rfl rfl) rfl ?_
        refine At.nil ?_
        refine At.thenN ?_
        refine At.condD rfl ?_ ?_
        · intro h3
          have hae : armErr patErr p x = 4 := by unfold armErr; rw [if_pos (by omega)]
          refine At.seq ?_
          refine At.region ?_
          refine At.ev (ev_assign rfl) rfl ?_
          refine At.nil ?_
          refine At.thenN ?_
          refine At.retC ?_
          refine At.thenR ?_
          refine At.blkR ?_
          refine At.thenR ?_
          refine At.thenR ?_
          refine At.blkR ?_
          refine At.thenR ?_
          refine At.ret (rs := [.tmp 4]) rfl (Res.tmp rfl Res.nil) ?_
          have he := errOf_hit hx hk.2 (by rw [hae]; decide)
          exact Imp.pur (by unfold expErr; rw [if_neg h0', if_neg h1', if_pos (by rw [he, hae]; decide), he, hae]; rfl) (Imp.nil _)
        · intro h3
          refine At.skip ?_
          refine At.thenN ?_
          refine At.seq ?_
          refine At.seq ?_
          refine At.region ?_
          refine At.ev (ev_fa T.fa56_4 rfl) rfl ?_
          refine At.ev (ld T.ld54 rfl) rfl ?_
          refine At.ev (ev_move rfl) rfl ?_
          refine At.ev (ev_ian T.un54 T.sz99 rfl rfl (by omega)) rfl ?_
          refine At.ev (ev_fa T.fa99_0 rfl) rfl ?_
          refine At.ev (ld T.ld9 rfl) rfl ?_
          refine At.do (goes_func cf194 rfl) (r10_Check x.pattern hx1) ?_
          intro _
          refine At.ex ?_
          intro v0
          refine At.star ?_
          refine At.pur ?_
          rintro rfl
          refine At.sl ?_
          intro ao c e hc
          subst e
          rw [chkR_e]
          refine At.ev (ev_move rfl) rfl ?_
          refine At.ev (ev_ext rfl rfl) rfl ?_
          refine At.ev (ev_ext rfl rfl) rfl ?_
          refine At.ev (ev_ext rfl rfl) rfl ?_
          refine At.ev (ev_assign rfl) rfl ?_
          refine At.ev (ev_assign rfl) rfl ?_
          refine At.ev (ev_assign rfl) rfl ?_
          refine At.nil ?_
          refine At.thenN ?_
          refine At.seq ?_
          refine At.region ?_
          refine At.ev (ev_move rfl) rfl ?_
          refine At.ev (ev_nei rfl rfl) rfl ?_
          refine At.nil ?_
          refine At.thenN ?_
          refine At.condDn rfl ?_ ?_
          · intro h4
            have hae : armErr patErr p x = patErr x.pattern := by unfold armErr; rw [if_neg (by omega), if_pos h4]
            refine At.seq ?_
            refine At.region ?_
            refine At.ev (ev_move rfl) rfl ?_
            refine At.ev (ev_assign rfl) rfl ?_
            refine At.nil ?_
            refine At.thenN ?_
            refine At.retC ?_
            refine At.thenR ?_
            refine At.blkR ?_
            refine At.thenR ?_
            refine At.thenR ?_
            refine At.blkR ?_
            refine At.thenR ?_
            refine At.ret (rs := [.tmp 4]) rfl (Res.tmp rfl Res.nil) ?_
            have he := errOf_hit hx hk.2 (by rw [hae]; exact h4)
            exact Imp.pur (by unfold expErr; rw [if_neg h0', if_neg h1', if_pos (by rw [he, hae]; exact h4), he, hae]; rfl) (Imp.nil _)
          · intro h4
            refine At.skip ?_
            refine At.thenN ?_
            refine At.seq ?_
            refine At.drawH (.q1 0 (.q0 1 (.q1 2 (.q0 3 (.q0 4 (.q0 5 (.q1 6 (.br 7 (.q0 8 (.nil)) (.stop))))))))) (fun j => !([7] : List Nat).contains j) mixed (by kernel_rfl) (by kernel_rfl) (NoP.thn (NoP.blk (NoP.thn (NoP.thn (NoP.blk (NoP.thn NoP.body)))))) ?_
            refine At.c1 rfl (Imp.refl _) (ldA T.ld26 rfl) rfl ?_
            refine At.c0 rfl (ev_fa T.fa56_4 rfl) rfl ?_
            refine At.c1 rfl (Imp.refl _) (ld T.ld54 rfl) rfl ?_
            refine At.c0 rfl (ev_move rfl) rfl ?_
            refine At.c0 rfl (ev_ian T.un54 T.sz99 rfl rfl (by omega)) rfl ?_
            refine At.c0 rfl (ev_fa T.fa99_1 rfl) rfl ?_
            refine At.c1 rfl (Imp.refl _) (ld T.ld3 rfl) rfl ?_
            refine At.c2 rfl ?_ ?_
            · intro w0
              refine At.callq (goes_func cf175 rfl) (Qc.stay (ref13_Comes p (p.cs ap cp) x.to)) rfl ?_
              refine At.nil ?_
              refine At.cn (fun h => absurd h (by decide)) ?_
              refine At.c0 rfl (ev_not rfl) rfl ?_
              refine At.cnil ?_
              refine At.thenN ?_
              refine At.cond rfl ?_ ?_
              · intro h5
                try simp only [decide_eq_true_eq, decide_eq_false_iff_not, Bool.not_eq_true', Bool.not_eq_false', Bool.cond_false_right, Bool.cond_true_left, Bool.and_eq_true, Bool.or_eq_true, Bool.and_eq_false_iff, Bool.or_eq_false_iff, Bool.not_true, Bool.not_false] at h5
                have hae : armErr patErr p x = 13 := by unfold armErr; rw [if_neg (by omega), if_neg (by simp [h4]), if_neg (by simp [h5])]
                refine At.seq ?_
                refine At.region ?_
                refine At.ev (ev_assign rfl) rfl ?_
                refine At.nil ?_
                refine At.thenN ?_
                refine At.retC ?_
                refine At.blkR ?_
                refine At.thenR ?_
                refine At.thenR ?_
                refine At.blkR ?_
                refine At.thenR ?_
                refine At.ret (rs := [.tmp 4]) rfl (Res.tmp rfl Res.nil) ?_
                have he := errOf_hit hx hk.2 (by rw [hae]; decide)
                exact Imp.pur (by unfold expErr; rw [if_neg h0', if_neg h1', if_pos (by rw [he, hae]; decide), he, hae]; rfl) (Imp.nil _)
              · intro h5
                try simp only [decide_eq_true_eq, decide_eq_false_iff_not, Bool.not_eq_true', Bool.not_eq_false', Bool.cond_false_right, Bool.cond_true_left, Bool.and_eq_true, Bool.or_eq_true, Bool.and_eq_false_iff, Bool.or_eq_false_iff, Bool.not_true, Bool.not_false] at h5
                have hae : armErr patErr p x = 0 := by unfold armErr; rw [if_neg (by omega), if_neg (by simp [h4]), if_pos h5]
                refine At.skip ?_
                refine At.blkN ?_
                refine At.thenN ?_
                refine At.region ?_
                refine At.ev (ev_move rfl) rfl ?_
                refine At.ev (ev_add rfl rfl (by omega)) rfl ?_
                refine At.ev (ev_assign rfl) rfl ?_
                refine At.nil ?_
                refine At.thenN ?_
                refine At.againF1 (k + 1) (by omega) (⟨by omega, by rw [errOf_snoc hx hk.2]; exact hae⟩) ⟨rfl, trivial⟩
            exact At.cstop
      · intro h2
        have he : errOf (armErr patErr p) o.arms = 0 := by have := hk.2; rwa [List.take_of_length_le (by omega)] at this
        refine At.exit ?_
        refine At.thenX ?_
        refine At.thenX ?_
        refine At.blkX ?_
        refine At.thenN ?_
        refine At.seq ?_
        refine At.seq ?_
        refine At.region ?_
        refine At.ev (ev_fa T.fa56_5 rfl) rfl ?_
        refine At.ev (ld T.ld3 rfl) rfl ?_
        refine At.ev (ev_nei rfl rfl) rfl ?_
        refine At.ev (ev_move rfl) rfl ?_
        refine At.evg rfl rfl (fun hg => (ldA T.ld26 rfl)) rfl rfl ?_
        refine At.evg rfl rfl (fun hg => (ev_fa T.fa56_5 rfl)) rfl rfl ?_
        refine At.evg rfl rfl (fun hg => (ld T.ld3 rfl)) rfl rfl ?_
        refine At.callg rfl rfl (fun hg => goes_func cf175 rfl) (fun hg => (Qc.stay (ref13_Comes _ _ _))) rfl rfl ?_
        refine At.evg rfl rfl (fun hg => (ev_not rfl)) rfl rfl ?_
        refine At.ev (ev_pickG rfl rfl rfl rfl) rfl ?_
        refine At.ev (ev_move rfl) rfl ?_
        refine At.evg rfl rfl (fun hg => (ev_fa T.fa56_6 rfl)) rfl rfl ?_
        refine At.evg rfl rfl (fun hg => (ld T.ld3 rfl)) rfl rfl ?_
        refine At.evg rfl rfl (fun hg => (ev_nei rfl rfl)) rfl rfl ?_
        refine At.evg rfl rfl (fun hg => (ev_move rfl)) rfl rfl ?_
        refine At.evG rfl (Lv.nest rfl (Lv.base rfl)) (fun hl hg => (ldA T.ld26 rfl)) rfl rfl ?_
        refine At.evG rfl (Lv.nest rfl (Lv.base rfl)) (fun hl hg => (ev_fa T.fa56_6 rfl)) rfl rfl ?_
        refine At.evG rfl (Lv.nest rfl (Lv.base rfl)) (fun hl hg => (ld T.ld3 rfl)) rfl rfl ?_
        refine At.callG rfl (Lv.nest rfl (Lv.base rfl)) (fun hl hg => goes_func cf175 rfl) (fun hl hg => (Qc.stay (ref13_Comes _ _ _))) rfl rfl ?_
        refine At.evG rfl (Lv.nest rfl (Lv.base rfl)) (fun hl hg => (ev_not rfl)) rfl rfl ?_
        refine At.evg rfl rfl (fun hg => (ev_pickG rfl rfl rfl rfl)) rfl rfl ?_
        refine At.ev (ev_pickG rfl rfl rfl rfl) rfl ?_
        refine At.nil ?_
        refine At.thenN ?_
        refine At.cond rfl ?_ ?_
        · intro h6
          try simp only [decide_eq_true_eq, decide_eq_false_iff_not, Bool.not_eq_true', Bool.not_eq_false', Bool.cond_false_right, Bool.cond_true_left, Bool.and_eq_true, Bool.or_eq_true, Bool.and_eq_false_iff, Bool.or_eq_false_iff, Bool.not_true, Bool.not_false] at h6
          refine At.seq ?_
          refine At.region ?_
          refine At.ev (ev_assign rfl) rfl ?_
          refine At.nil ?_
          refine At.thenN ?_
          refine At.retC ?_
          refine At.thenR ?_
          refine At.ret (rs := [.tmp 4]) rfl (Res.tmp rfl Res.nil) ?_
          exact Imp.pur (by unfold expErr; rw [if_neg h0', if_neg h1', if_neg (by simp [he]), if_pos h6]; rfl) (Imp.nil _)
        · intro h6
          try simp only [decide_eq_true_eq, decide_eq_false_iff_not, Bool.not_eq_true', Bool.not_eq_false', Bool.cond_false_right, Bool.cond_true_left, Bool.and_eq_true, Bool.or_eq_true, Bool.and_eq_false_iff, Bool.or_eq_false_iff, Bool.not_true, Bool.not_false] at h6
          refine At.skip ?_
          refine At.thenN ?_
          refine At.seq ?_
          refine At.region ?_
          refine At.ev (ev_assign rfl) rfl ?_
          refine At.nil ?_
          refine At.thenN ?_
          refine At.retC ?_
          refine At.ret (rs := [.tmp 4]) rfl (Res.tmp rfl Res.nil) ?_
          exact Imp.pur (by unfold expErr; rw [if_neg h0', if_neg h1', if_neg (by simp [he]), if_neg (fun h => by rcases h with h | h <;> simp_all)]; rfl) (Imp.nil _)

/-- repartee/reparteeref13.op -/
theorem r13_op (p : Prog) (o : Op) (cs ds : List Value) : Does Tryz.prog 155 [.agg cs.toArray, .agg ds.toArray] [per (relP p cs), per (relP o ds)] (fun v => pur (v = .int .i64 (opErr patErr p o))) := by
  refine Does.enter Tryz.func155 rfl rfl ?_
  intro E
  refine openProg (x := p) (by repeat (first | with_reducible exact Mem.head _ _ | apply Mem.tail)) ?_
  intro hp ap cp hcp e
  subst e
  refine openOp (x := o) (by repeat (first | with_reducible exact Mem.head _ _ | apply Mem.tail)) ?_
  intro ho0 a0 c0 hc0 e
  subst e
  
  refine At.seq ?_
  refine At.region ?_
  refine At.boxA rfl ?_
  intro b0
  refine At.boxA rfl ?_
  intro b1
  refine At.ev (ev_assign rfl) rfl ?_
  refine At.nil ?_
  refine At.thenN ?_
  refine At.seq ?_
  refine At.seq ?_
  refine At.region ?_
  refine At.ev (ev_fa T.fa56_0 rfl) rfl ?_
  refine At.ev (ld T.ld3 rfl) rfl ?_
  refine At.ev (ev_lss rfl rfl) rfl ?_
  refine At.ev (ev_move rfl) rfl ?_
  refine At.evg rfl rfl (fun hg => (ev_fa T.fa56_0 rfl)) rfl rfl ?_
  refine At.evg rfl rfl (fun hg => (ld T.ld3 rfl)) rfl rfl ?_
  refine At.evg rfl rfl (fun hg => (ev_gtr rfl rfl)) rfl rfl ?_
  refine At.ev (ev_pickG rfl rfl rfl rfl) rfl ?_
  refine At.nil ?_
  refine At.thenN ?_
  refine At.cond rfl ?_ ?_
  · intro h0
    try simp only [decide_eq_true_eq, decide_eq_false_iff_not, Bool.not_eq_true', Bool.not_eq_false', Bool.cond_false_right, Bool.cond_true_left, Bool.and_eq_true, Bool.or_eq_true, Bool.and_eq_false_iff, Bool.or_eq_false_iff, Bool.not_true, Bool.not_false] at h0
    have h0' : o.kind < 1 ∨ 6 < o.kind := by omega
    refine At.seq ?_
    refine At.region ?_
    refine At.ev (ev_assign rfl) rfl ?_
    refine At.nil ?_
    refine At.thenN ?_
    refine At.retC ?_
    refine At.thenR ?_
    refine At.ret (rs := [.tmp 4]) rfl (Res.tmp rfl Res.nil) ?_
    exact Imp.pur (by unfold opErr; rw [if_pos h0']; rfl) (Imp.nil _)
  · intro h0
    try simp only [decide_eq_true_eq, decide_eq_false_iff_not, Bool.not_eq_true', Bool.not_eq_false', Bool.cond_false_right, Bool.cond_true_left, Bool.and_eq_true, Bool.or_eq_true, Bool.and_eq_false_iff, Bool.or_eq_false_iff, Bool.not_true, Bool.not_false] at h0
    have h0' : ¬ (o.kind < 1 ∨ 6 < o.kind) := by omega
    refine At.skip ?_
    refine At.thenN ?_
    refine At.seq ?_
    refine At.seq ?_
    refine At.region ?_
    refine At.ev (ldA T.ld56 rfl) rfl ?_
    refine At.callq (goes_func cf173 rfl) (Qc.stay (ref13_bare _ _)) rfl ?_
    refine At.ev (ev_not rfl) rfl ?_
    refine At.nil ?_
    refine At.thenN ?_
    refine At.cond rfl ?_ ?_
    · intro h1
      try simp only [decide_eq_true_eq, decide_eq_false_iff_not, Bool.not_eq_true', Bool.not_eq_false', Bool.cond_false_right, Bool.cond_true_left, Bool.and_eq_true, Bool.or_eq_true, Bool.and_eq_false_iff, Bool.or_eq_false_iff, Bool.not_true, Bool.not_false] at h1
      have h1' : o.bareB = false := by simpa using h1
      refine At.seq ?_
      refine At.region ?_
      refine At.ev (ev_assign rfl) rfl ?_
      refine At.nil ?_
      refine At.thenN ?_
      refine At.retC ?_
      refine At.thenR ?_
      refine At.ret (rs := [.tmp 4]) rfl (Res.tmp rfl Res.nil) ?_
      exact Imp.pur (by unfold opErr; rw [if_neg h0', if_pos h1']; rfl) (Imp.nil _)
    · intro h1
      try simp only [decide_eq_true_eq, decide_eq_false_iff_not, Bool.not_eq_true', Bool.not_eq_false', Bool.cond_false_right, Bool.cond_true_left, Bool.and_eq_true, Bool.or_eq_true, Bool.and_eq_false_iff, Bool.or_eq_false_iff, Bool.not_true, Bool.not_false] at h1
      have h1' : ¬ o.bareB = false := by simpa using h1
      refine At.skip ?_
      refine At.thenN ?_
      refine At.seq ?_
      refine At.seq ?_
      refine At.region ?_
      refine At.ev (ev_fa T.fa56_0 rfl) rfl ?_
      refine At.ev (ld T.ld3 rfl) rfl ?_
      refine At.ev (ev_eqi rfl rfl) rfl ?_
      refine At.ev (ev_move rfl) rfl ?_
      refine At.evg rfl rfl (fun hg => (ev_fa T.fa56_1 rfl)) rfl rfl ?_
      refine At.evg rfl rfl (fun hg => (ld T.ld9 rfl)) rfl rfl ?_
      refine At.evg rfl rfl (fun hg => (ev_eqs rfl rfl)) rfl rfl ?_
      refine At.ev (ev_pickG rfl rfl rfl rfl) rfl ?_
      refine At.nil ?_
      refine At.thenN ?_
      refine At.cond rfl ?_ ?_
      · intro h2
        try simp only [decide_eq_true_eq, decide_eq_false_iff_not, Bool.not_eq_true', Bool.not_eq_false', Bool.cond_false_right, Bool.cond_true_left, Bool.and_eq_true, Bool.or_eq_true, Bool.and_eq_false_iff, Bool.or_eq_false_iff, Bool.not_true, Bool.not_false] at h2
        refine At.seq ?_
        refine At.region ?_
        refine At.ev (ev_assign rfl) rfl ?_
        refine At.nil ?_
        refine At.thenN ?_
        refine At.retC ?_
        refine At.thenR ?_
        refine At.ret (rs := [.tmp 4]) rfl (Res.tmp rfl Res.nil) ?_
        exact Imp.pur (by unfold opErr; rw [if_neg h0', if_neg h1', if_pos h2]; rfl) (Imp.nil _)
      · intro h2
        try simp only [decide_eq_true_eq, decide_eq_false_iff_not, Bool.not_eq_true', Bool.not_eq_false', Bool.cond_false_right, Bool.cond_true_left, Bool.and_eq_true, Bool.or_eq_true, Bool.and_eq_false_iff, Bool.or_eq_false_iff, Bool.not_true, Bool.not_false] at h2
        have h2' : ¬ (o.kind = 1 ∧ o.text = ⟨#[]⟩) := fun h => by rcases h2 with h3 | h3; exact h3 h.1; exact h3 h.2
        refine At.skip ?_
        refine At.thenN ?_
        refine At.seq ?_
        refine At.seq ?_
        refine At.region ?_
        refine At.ev (ev_fa T.fa56_0 rfl) rfl ?_
        refine At.ev (ld T.ld3 rfl) rfl ?_
        refine At.ev (ev_eqi rfl rfl) rfl ?_
        refine At.ev (ev_move rfl) rfl ?_
        refine At.evg rfl rfl (fun hg => (ev_fa T.fa56_1 rfl)) rfl rfl ?_
        refine At.evg rfl rfl (fun hg => (ld T.ld9 rfl)) rfl rfl ?_
        refine At.evg rfl rfl (fun hg => (ev_lens T.un9 rfl)) rfl rfl ?_
        refine At.evg rfl rfl (fun hg => (ev_gtr rfl rfl)) rfl rfl ?_
        refine At.ev (ev_pickG rfl rfl rfl rfl) rfl ?_
        refine At.nil ?_
        refine At.thenN ?_
        refine At.cond rfl ?_ ?_
        · intro h3
          try simp only [decide_eq_true_eq, decide_eq_false_iff_not, Bool.not_eq_true', Bool.not_eq_false', Bool.cond_false_right, Bool.cond_true_left, Bool.and_eq_true, Bool.or_eq_true, Bool.and_eq_false_iff, Bool.or_eq_false_iff, Bool.not_true, Bool.not_false] at h3
          refine At.seq ?_
          refine At.region ?_
          refine At.ev (ev_assign rfl) rfl ?_
          refine At.nil ?_
          refine At.thenN ?_
          refine At.retC ?_
          refine At.thenR ?_
          refine At.ret (rs := [.tmp 4]) rfl (Res.tmp rfl Res.nil) ?_
          exact Imp.pur (by unfold opErr; rw [if_neg h0', if_neg h1', if_neg h2', if_pos (by omega)]; rfl) (Imp.nil _)
        · intro h3
          try simp only [decide_eq_true_eq, decide_eq_false_iff_not, Bool.not_eq_true', Bool.not_eq_false', Bool.cond_false_right, Bool.cond_true_left, Bool.and_eq_true, Bool.or_eq_true, Bool.and_eq_false_iff, Bool.or_eq_false_iff, Bool.not_true, Bool.not_false] at h3
          have h3' : ¬ (o.kind = 1 ∧ 256 < o.text.size) := by omega
          refine At.skip ?_
          refine At.thenN ?_
          refine At.seq ?_
          refine At.seq ?_
          refine At.region ?_
          refine At.ev (ev_fa T.fa56_0 rfl) rfl ?_
          refine At.ev (ld T.ld3 rfl) rfl ?_
          refine At.ev (ev_eqi rfl rfl) rfl ?_
          refine At.nil ?_
          refine At.thenN ?_
          refine At.condD rfl ?_ ?_
          · intro h4
            refine At.seq ?_
            refine At.region ?_
            refine At.ev (ldA T.ld26 rfl) rfl ?_
            refine At.ev (ldA T.ld56 rfl) rfl ?_
            refine At.callq (goes_func cf174 rfl) (Qc.stay2 (r13_expect _ _ _ _)) rfl ?_
            refine At.ev (ev_assign rfl) rfl ?_
            refine At.nil ?_
            refine At.thenN ?_
            refine At.retC ?_
            refine At.thenR ?_
            refine At.ret (rs := [.tmp 4]) rfl (Res.tmp rfl Res.nil) ?_
            exact Imp.pur (by unfold opErr; rw [if_neg h0', if_neg h1', if_neg h2', if_neg h3', if_pos h4]; rfl) (Imp.nil _)
          · intro h4
            refine At.skip ?_
            refine At.thenN ?_
            refine At.seq ?_
            refine At.seq ?_
            refine At.region ?_
            refine At.ev (ev_fa T.fa56_0 rfl) rfl ?_
            refine At.ev (ld T.ld3 rfl) rfl ?_
            refine At.ev (ev_eqi rfl rfl) rfl ?_
            refine At.ev (ev_move rfl) rfl ?_
            refine At.evg rfl rfl (fun hg => (ldA T.ld26 rfl)) rfl rfl ?_
            refine At.evg rfl rfl (fun hg => (ev_fa T.fa56_3 rfl)) rfl rfl ?_
            refine At.evg rfl rfl (fun hg => (ld T.ld3 rfl)) rfl rfl ?_
            refine At.callg rfl rfl (fun hg => goes_func cf175 rfl) (fun hg => (Qc.stay (ref13_Comes _ _ _))) rfl rfl ?_
            refine At.evg rfl rfl (fun hg => (ev_not rfl)) rfl rfl ?_
            refine At.ev (ev_pickG rfl rfl rfl rfl) rfl ?_
            refine At.nil ?_
            refine At.thenN ?_
            refine At.cond rfl ?_ ?_
            · intro h5
              try simp only [decide_eq_true_eq, decide_eq_false_iff_not, Bool.not_eq_true', Bool.not_eq_false', Bool.cond_false_right, Bool.cond_true_left, Bool.and_eq_true, Bool.or_eq_true, Bool.and_eq_false_iff, Bool.or_eq_false_iff, Bool.not_true, Bool.not_false] at h5
              refine At.seq ?_
              refine At.region ?_
              refine At.ev (ev_assign rfl) rfl ?_
              refine At.nil ?_
              refine At.thenN ?_
              refine At.retC ?_
              refine At.thenR ?_
              refine At.ret (rs := [.tmp 4]) rfl (Res.tmp rfl Res.nil) ?_
              exact Imp.pur (by unfold opErr; rw [if_neg h0', if_neg h1', if_neg h2', if_neg h3', if_neg h4, if_pos (by simpa using h5)]; rfl) (Imp.nil _)
            · intro h5
              try simp only [decide_eq_true_eq, decide_eq_false_iff_not, Bool.not_eq_true', Bool.not_eq_false', Bool.cond_false_right, Bool.cond_true_left, Bool.and_eq_true, Bool.or_eq_true, Bool.and_eq_false_iff, Bool.or_eq_false_iff, Bool.not_true, Bool.not_false] at h5
              have h5' : ¬ (o.kind = 3 ∧ p.comes o.to = false) := fun h => by rcases h5 with h6 | h6; exact h6 h.1; rw [h.2] at h6; cases h6
              refine At.skip ?_
              refine At.thenN ?_
              refine At.seq ?_
              refine At.seq ?_
              refine At.region ?_
              refine At.ev (ev_fa T.fa56_0 rfl) rfl ?_
              refine At.ev (ld T.ld3 rfl) rfl ?_
              refine At.ev (ev_eqi rfl rfl) rfl ?_
              refine At.ev (ev_move rfl) rfl ?_
              refine At.evg rfl rfl (fun hg => (ev_fa T.fa56_2 rfl)) rfl rfl ?_
              refine At.evg rfl rfl (fun hg => (ld T.ld2 rfl)) rfl rfl ?_
              refine At.evg rfl rfl (fun hg => (ev_lss rfl rfl)) rfl rfl ?_
              refine At.evg rfl rfl (fun hg => (ev_move rfl)) rfl rfl ?_
              refine At.evG rfl (Lv.nest rfl (Lv.base rfl)) (fun hl hg => (ev_fa T.fa56_2 rfl)) rfl rfl ?_
              refine At.evG rfl (Lv.nest rfl (Lv.base rfl)) (fun hl hg => (ld T.ld2 rfl)) rfl rfl ?_
              refine At.evG rfl (Lv.nest rfl (Lv.base rfl)) (fun hl hg => (ev_gtr rfl rfl)) rfl rfl ?_
              refine At.evg rfl rfl (fun hg => (ev_pickG rfl rfl rfl rfl)) rfl rfl ?_
              refine At.ev (ev_pickG rfl rfl rfl rfl) rfl ?_
              refine At.nil ?_
              refine At.thenN ?_
              refine At.cond rfl ?_ ?_
              · intro h6
                try simp only [decide_eq_true_eq, decide_eq_false_iff_not, Bool.not_eq_true', Bool.not_eq_false', Bool.cond_false_right, Bool.cond_true_left, Bool.and_eq_true, Bool.or_eq_true, Bool.and_eq_false_iff, Bool.or_eq_false_iff, Bool.not_true, Bool.not_false] at h6
                refine At.seq ?_
                refine At.region ?_
                refine At.ev (ev_assign rfl) rfl ?_
                refine At.nil ?_
                refine At.thenN ?_
                refine At.retC ?_
                refine At.thenR ?_
                refine At.ret (rs := [.tmp 4]) rfl (Res.tmp rfl Res.nil) ?_
                exact Imp.pur (by unfold opErr; rw [if_neg h0', if_neg h1', if_neg h2', if_neg h3', if_neg h4, if_neg h5', if_pos (by omega)]; rfl) (Imp.nil _)
              · intro h6
                try simp only [decide_eq_true_eq, decide_eq_false_iff_not, Bool.not_eq_true', Bool.not_eq_false', Bool.cond_false_right, Bool.cond_true_left, Bool.and_eq_true, Bool.or_eq_true, Bool.and_eq_false_iff, Bool.or_eq_false_iff, Bool.not_true, Bool.not_false] at h6
                refine At.skip ?_
                refine At.thenN ?_
                refine At.seq ?_
                refine At.region ?_
                refine At.ev (ev_assign rfl) rfl ?_
                refine At.nil ?_
                refine At.thenN ?_
                refine At.retC ?_
                refine At.ret (rs := [.tmp 4]) rfl (Res.tmp rfl Res.nil) ?_
                exact Imp.pur (by unfold opErr; rw [if_neg h0', if_neg h1', if_neg h2', if_neg h3', if_neg h4, if_neg h5', if_neg (by omega)]; rfl) (Imp.nil _)

/-- repartee/reparteeref13.Wrong -/
theorem r13_Wrong (p : Prog) (cs : List Value) : Does Tryz.prog 121 [.agg cs.toArray] [per (relP p cs)] (fun v => ex fun i : Int => pur (v = .tuple #[.int .i64 i, .int .i64 (wrongE patErr p)])) := by
  refine Does.enter Tryz.func121 rfl rfl ?_
  intro E
  refine openProg (x := p) (by repeat (first | with_reducible exact Mem.head _ _ | apply Mem.tail)) ?_
  intro hp ap cp hcp e
  subst e
  have hnm := hp.1
  refine At.lenb (α := Op) (xs := p.ops) (by repeat (first | with_reducible exact Mem.head _ _ | apply Mem.tail)) ?_
  unfold big
  intro hlo
  refine At.seq ?_
  refine At.region ?_
  refine At.boxA rfl ?_
  intro b0
  refine At.ev (ev_assign rfl) rfl ?_
  refine At.ev (ev_assign rfl) rfl ?_
  refine At.nil ?_
  refine At.thenN ?_
  refine At.seq ?_
  refine At.seq ?_
  refine At.region ?_
  refine At.ev (ev_fa T.fa26_0 rfl) rfl ?_
  refine At.ev (ld T.ld9 rfl) rfl ?_
  refine At.callq (goes_func cf154 rfl) (Qc.pure (ref12_Name _ (by assumption))) rfl ?_
  refine At.ev (ev_not rfl) rfl ?_
  refine At.nil ?_
  refine At.thenN ?_
  refine At.cond rfl ?_ ?_
  · intro h0
    try simp only [decide_eq_true_eq, decide_eq_false_iff_not, Bool.not_eq_true', Bool.not_eq_false', Bool.cond_false_right, Bool.cond_true_left, Bool.and_eq_true, Bool.or_eq_true, Bool.and_eq_false_iff, Bool.or_eq_false_iff, Bool.not_true, Bool.not_false] at h0
    refine At.seq ?_
    refine At.region ?_
    refine At.ev (ev_assign rfl) rfl ?_
    refine At.ev (ev_assign rfl) rfl ?_
    refine At.nil ?_
    refine At.thenN ?_
    refine At.retC ?_
    refine At.thenR ?_
    refine At.ret (rs := [.tmp 2, .tmp 3]) rfl (Res.tmp rfl (Res.tmp rfl Res.nil)) ?_
    exact Imp.ex (-1) (Imp.pur (by unfold wrongE; rw [if_pos (by simpa using h0)]; rfl) (Imp.nil _))
  · intro h0
    try simp only [decide_eq_true_eq, decide_eq_false_iff_not, Bool.not_eq_true', Bool.not_eq_false', Bool.cond_false_right, Bool.cond_true_left, Bool.and_eq_true, Bool.or_eq_true, Bool.and_eq_false_iff, Bool.or_eq_false_iff, Bool.not_true, Bool.not_false] at h0
    refine At.skip ?_
    refine At.thenN ?_
    refine At.seq ?_
    refine At.seq ?_
    refine At.region ?_
    refine At.ev (ev_fa T.fa26_1 rfl) rfl ?_
    refine At.ev (ld T.ld2 rfl) rfl ?_
    refine At.ev (ev_nei rfl rfl) rfl ?_
    refine At.ev (ev_move rfl) rfl ?_
    refine At.evg rfl rfl (fun hg => (ev_fa T.fa26_1 rfl)) rfl rfl ?_
    refine At.evg rfl rfl (fun hg => (ld T.ld2 rfl)) rfl rfl ?_
    refine At.evg rfl rfl (fun hg => (ev_lss rfl rfl)) rfl rfl ?_
    refine At.evg rfl rfl (fun hg => (ev_move rfl)) rfl rfl ?_
    refine At.evG rfl (Lv.nest rfl (Lv.base rfl)) (fun hl hg => (ev_fa T.fa26_1 rfl)) rfl rfl ?_
    refine At.evG rfl (Lv.nest rfl (Lv.base rfl)) (fun hl hg => (ld T.ld2 rfl)) rfl rfl ?_
    refine At.evG rfl (Lv.nest rfl (Lv.base rfl)) (fun hl hg => (ev_gtr rfl rfl)) rfl rfl ?_
    refine At.evg rfl rfl (fun hg => (ev_pickG rfl rfl rfl rfl)) rfl rfl ?_
    refine At.ev (ev_pickG rfl rfl rfl rfl) rfl ?_
    refine At.ev (ev_move rfl) rfl ?_
    refine At.evg rfl rfl (fun hg => (ev_fa T.fa26_2 rfl)) rfl rfl ?_
    refine At.evg rfl rfl (fun hg => (ld T.ld3 rfl)) rfl rfl ?_
    refine At.evg rfl rfl (fun hg => (ev_lss rfl rfl)) rfl rfl ?_
    refine At.ev (ev_pickG rfl rfl rfl rfl) rfl ?_
    refine At.ev (ev_move rfl) rfl ?_
    refine At.evg rfl rfl (fun hg => (ev_fa T.fa26_2 rfl)) rfl rfl ?_
    refine At.evg rfl rfl (fun hg => (ld T.ld3 rfl)) rfl rfl ?_
    refine At.evg rfl rfl (fun hg => (ev_gtr rfl rfl)) rfl rfl ?_
    refine At.ev (ev_pickG rfl rfl rfl rfl) rfl ?_
    refine At.nil ?_
    refine At.thenN ?_
    refine At.cond rfl ?_ ?_
    · intro h1
      try simp only [decide_eq_true_eq, decide_eq_false_iff_not, Bool.not_eq_true', Bool.not_eq_false', Bool.cond_false_right, Bool.cond_true_left, Bool.and_eq_true, Bool.or_eq_true, Bool.and_eq_false_iff, Bool.or_eq_false_iff, Bool.not_true, Bool.not_false] at h1
      have h1' : (p.deadline ≠ never ∧ (p.deadline < 1 ∨ 1000000000000 < p.deadline)) ∨ p.jumps < 0 ∨ 1000 < p.jumps := by simp [never] at h1 ⊢; omega
      refine At.seq ?_
      refine At.region ?_
      refine At.ev (ev_assign rfl) rfl ?_
      refine At.ev (ev_assign rfl) rfl ?_
      refine At.nil ?_
      refine At.thenN ?_
      refine At.retC ?_
      refine At.thenR ?_
      refine At.ret (rs := [.tmp 2, .tmp 3]) rfl (Res.tmp rfl (Res.tmp rfl Res.nil)) ?_
      exact Imp.ex (-1) (Imp.pur (by unfold wrongE; rw [if_neg (by simp [h0]), if_pos h1']; rfl) (Imp.nil _))
    · intro h1
      try simp only [decide_eq_true_eq, decide_eq_false_iff_not, Bool.not_eq_true', Bool.not_eq_false', Bool.cond_false_right, Bool.cond_true_left, Bool.and_eq_true, Bool.or_eq_true, Bool.and_eq_false_iff, Bool.or_eq_false_iff, Bool.not_true, Bool.not_false] at h1
      have h1' : ¬ ((p.deadline ≠ never ∧ (p.deadline < 1 ∨ 1000000000000 < p.deadline)) ∨ p.jumps < 0 ∨ 1000 < p.jumps) := by simp [never] at h1 ⊢; omega
      refine At.skip ?_
      refine At.thenN ?_
      refine At.seq ?_
      refine At.seq ?_
      refine At.region ?_
      refine At.ev (ev_fa T.fa26_3 rfl) rfl ?_
      refine At.ev (ld T.ld24 rfl) rfl ?_
      refine At.ev (ev_lenl T.un24 rfl) rfl ?_
      refine At.ev (ev_gtr rfl rfl) rfl ?_
      refine At.nil ?_
      refine At.thenN ?_
      refine At.condD rfl ?_ ?_
      · intro h2
        have h3' : 200 < p.ops.length := by omega
        refine At.seq ?_
        refine At.region ?_
        refine At.ev (ev_assign rfl) rfl ?_
        refine At.ev (ev_assign rfl) rfl ?_
        refine At.nil ?_
        refine At.thenN ?_
        refine At.retC ?_
        refine At.thenR ?_
        refine At.ret (rs := [.tmp 2, .tmp 3]) rfl (Res.tmp rfl (Res.tmp rfl Res.nil)) ?_
        exact Imp.ex (-1) (Imp.pur (by unfold wrongE; rw [if_neg (by simp [h0]), if_neg h1', if_pos h3']; rfl) (Imp.nil _))
      · intro h2
        have h3' : ¬ 200 < p.ops.length := by omega
        refine At.skip ?_
        refine At.thenN ?_
        refine At.seq ?_
        refine At.seq ?_
        refine At.region ?_
        refine At.ev (ev_assign rfl) rfl ?_
        refine At.nil ?_
        refine At.thenN ?_
        refine At.block ?_
        refine At.loopF1 [(2, 5), (37, 54)] (fun (k : Nat) => p.ops.length - k) (fun (k : Nat) => k ≤ p.ops.length ∧ errOf (opErr patErr p) (p.ops.take k) = 0) (fun (k : Nat) => [(4, .val (.int .i64 k))]) (fun (k : Nat) => []) (0) (⟨by omega, rfl⟩) ⟨rfl, trivial⟩ ?_
        intro k hk
        refine At.cat0 ?_
        refine At.seq ?_
        refine At.seq ?_
        refine At.region ?_
        refine At.ev (ev_move rfl) rfl ?_
        refine At.ev (ev_fa T.fa26_3 rfl) rfl ?_
        refine At.ev (ld T.ld24 rfl) rfl ?_
        refine At.ev (ev_lenl T.un24 rfl) rfl ?_
        refine At.ev (ev_lss rfl rfl) rfl ?_
        refine At.nil ?_
        refine At.thenN ?_
        refine At.condD rfl ?_ ?_
        · intro h3
          have hlt : k < p.ops.length := by omega
          refine At.get (α := Op) (xs := p.ops) (by repeat (first | with_reducible exact Mem.head _ _ | apply Mem.tail)) k hlt 7 rfl ?_
          intro adx x csx eq hx
          cases eq
          refine openOp (x := x) (by repeat (first | with_reducible exact Mem.head _ _ | apply Mem.tail)) ?_
          intro hox ax cx hcx e
          subst e
          
          refine At.skip ?_
          refine At.thenN ?_
          refine At.seq ?_
          refine At.block ?_
          refine At.seq ?_
          refine At.drawH (.q1 0 (.q0 1 (.q1 2 (.q0 3 (.q0 4 (.q1 5 (.br 6 (.q0 7 (.nil)) (.stop)))))))) (fun j => !([6] : List Nat).contains j) mixed (by kernel_rfl) (by kernel_rfl) (NoP.thn (NoP.blk (NoP.thn (NoP.thn (NoP.blk (NoP.thn NoP.body)))))) ?_
          refine At.c1 rfl (Imp.refl _) (ldA T.ld26 rfl) rfl ?_
          refine At.c0 rfl (ev_fa T.fa26_3 rfl) rfl ?_
          refine At.c1 rfl (Imp.refl _) (ld T.ld24 rfl) rfl ?_
          refine At.c0 rfl (ev_move rfl) rfl ?_
          refine At.c0 rfl (ev_ian T.un24 T.sz56 rfl rfl (by omega)) rfl ?_
          refine At.c1 rfl (Imp.refl _) (ldA T.ld56 rfl) rfl ?_
          refine At.c2 rfl ?_ ?_
          · intro w0
            refine At.callq (goes_func cf155 rfl) (Qc.stay2 (r13_op p x (p.cs (some adx) cp) (x.cs ax cx))) rfl ?_
            refine At.nil ?_
            refine At.cn (fun h => absurd h (by decide)) ?_
            refine At.c0 rfl (ev_assign rfl) rfl ?_
            refine At.cnil ?_
            refine At.thenN ?_
            refine At.seq ?_
            refine At.region ?_
            refine At.ev (ev_move rfl) rfl ?_
            refine At.ev (ev_nei rfl rfl) rfl ?_
            refine At.nil ?_
            refine At.thenN ?_
            refine At.condDn rfl ?_ ?_
            · intro h4
              refine At.seq ?_
              refine At.region ?_
              refine At.ev (ev_move rfl) rfl ?_
              refine At.ev (ev_move rfl) rfl ?_
              refine At.ev (ev_assign rfl) rfl ?_
              refine At.ev (ev_assign rfl) rfl ?_
              refine At.nil ?_
              refine At.thenN ?_
              refine At.retC ?_
              refine At.blkR ?_
              refine At.thenR ?_
              refine At.thenR ?_
              refine At.blkR ?_
              refine At.thenR ?_
              refine At.ret (rs := [.tmp 2, .tmp 3]) rfl (Res.tmp rfl (Res.tmp rfl Res.nil)) ?_
              have he := errOf_hit hx hk.2 h4
              exact Imp.ex (k) (Imp.pur (by unfold wrongE; rw [if_neg (by simp [h0]), if_neg h1', if_neg h3', he]; rfl) (Imp.nil _))
            · intro h4
              refine At.skip ?_
              refine At.blkN ?_
              refine At.thenN ?_
              refine At.region ?_
              refine At.ev (ev_move rfl) rfl ?_
              refine At.ev (ev_add rfl rfl (by omega)) rfl ?_
              refine At.ev (ev_assign rfl) rfl ?_
              refine At.nil ?_
              refine At.thenN ?_
              refine At.againF1 (k + 1) (by omega) (⟨by omega, by rw [errOf_snoc hx hk.2]; exact h4⟩) ⟨rfl, trivial⟩
          exact At.cstop
        · intro h3
          refine At.exit ?_
          refine At.thenX ?_
          refine At.thenX ?_
          refine At.blkX ?_
          refine At.thenN ?_
          refine At.seq ?_
          refine At.region ?_
          refine At.ev (ev_assign rfl) rfl ?_
          refine At.ev (ev_assign rfl) rfl ?_
          refine At.nil ?_
          refine At.thenN ?_
          refine At.retC ?_
          refine At.ret (rs := [.tmp 2, .tmp 3]) rfl (Res.tmp rfl (Res.tmp rfl Res.nil)) ?_
          have he : errOf (opErr patErr p) p.ops = 0 := by have := hk.2; rwa [List.take_of_length_le (by omega)] at this
          exact Imp.ex (0) (Imp.pur (by unfold wrongE; rw [if_neg (by simp [h0]), if_neg h1', if_neg h3', he]; rfl) (Imp.nil _))

/-- repartee/reparteeref13.Good -/
theorem r13_Good (p : Prog) (cs : List Value) : Does Tryz.prog 72 [.agg cs.toArray] [per (relP p cs)] (fun v => pur (v = .bool (goodP patErr p))) := by
  refine Does.enter Tryz.func72 rfl rfl ?_
  intro E
  refine openProg (x := p) (by repeat (first | with_reducible exact Mem.head _ _ | apply Mem.tail)) ?_
  intro hp ap cp hcp e
  subst e
  
  refine At.seq ?_
  refine At.region ?_
  refine At.boxA rfl ?_
  intro b0
  refine At.ev (ev_assign rfl) rfl ?_
  refine At.nil ?_
  refine At.thenN ?_
  refine At.seq ?_
  refine At.region ?_
  refine At.ev (ldA T.ld26 rfl) rfl ?_
  refine At.do (goes_func cf121 rfl) (r13_Wrong _ _) ?_
  intro _
  refine At.ex ?_
  intro wi
  refine At.pur ?_
  rintro rfl
  refine At.ev (ev_move rfl) rfl ?_
  refine At.ev (ev_ext rfl rfl) rfl ?_
  refine At.ev (ev_ext rfl rfl) rfl ?_
  refine At.ev (ev_assign rfl) rfl ?_
  refine At.ev (ev_assign rfl) rfl ?_
  refine At.nil ?_
  refine At.thenN ?_
  refine At.seq ?_
  refine At.region ?_
  refine At.ev (ev_move rfl) rfl ?_
  refine At.ev (ev_eqi rfl rfl) rfl ?_
  refine At.ev (ev_assign rfl) rfl ?_
  refine At.nil ?_
  refine At.thenN ?_
  refine At.retC ?_
  refine At.ret (rs := [.tmp 2]) rfl (Res.tmp rfl Res.nil) ?_
  exact Imp.pur (rfl) (Imp.nil _)

end Go.Proofs.YtebjpeonbfhdhaaGreat
