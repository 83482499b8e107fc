import Derived.Test.YtebjpeonbfhdhaaGreatWm
import Derived.Test.YtebjpeonbfhdhaaGreatSp16
import Derived.Test.YtebjpeonbfhdhaaGreatSx16
set_option linter.unusedVariables false
set_option linter.unusedSimpArgs false
namespace Go.Proofs.YtebjpeonbfhdhaaGreat
open Go Go.Sx Go.Proofs
set_option maxRecDepth 100000
set_option maxHeartbeats 2000000

attribute [local irreducible] Go.Sx.opsW Go.Sx.cW Go.Code.wp Go.Sx.At

/-- repartee/flow.Next -/
theorem flow_Next (p : Prog) (cs : List Value) (a : Int) : Does Tryz.prog 33 [.agg cs.toArray, .int .i64 a] [per (relP p cs)] (fun v => rowI v (nextG p a)) := by
  refine Does.enter Tryz.func33 rfl rfl ?_
  intro E
  refine openProg (x := p) (by repeat (first | with_reducible exact Mem.head _ _ | apply Mem.tail)) ?_
  intro hp ap cp hcp e
  subst e
  
  refine At.seq ?_
  refine At.region ?_
  refine At.boxA rfl ?_
  intro b0
  refine At.ev (ev_assign rfl) rfl ?_
  refine At.nil ?_
  refine At.thenN ?_
  refine At.seq ?_
  refine At.seq ?_
  refine At.region ?_
  refine At.ev (ldA T.ld26 rfl) rfl ?_
  refine At.callq (goes_func cf74 rfl) (Qc.stay (prog_Good p (p.cs ap cp))) rfl ?_
  refine At.ev (ev_not rfl) rfl ?_
  refine At.nil ?_
  refine At.thenN ?_
  refine At.cond rfl ?_ ?_
  · intro h0
    try simp only [decide_eq_true_eq, decide_eq_false_iff_not, Bool.not_eq_true', Bool.not_eq_false', Bool.cond_false_right, Bool.cond_true_left, Bool.and_eq_true, Bool.or_eq_true, Bool.and_eq_false_iff, Bool.or_eq_false_iff, Bool.not_true, Bool.not_false] at h0
    have hr0 : nextG p a = [] := by unfold nextG; rw [if_neg (by simp [h0])]
    refine At.seq ?_
    refine At.region ?_
    refine At.ev (ev_assign rfl) rfl ?_
    refine At.nil ?_
    refine At.thenN ?_
    refine At.retC ?_
    refine At.thenR ?_
    refine At.ret (rs := [.tmp 4]) rfl (Res.tmp rfl Res.nil) ?_
    rw [hr0]; exact Imp.own_nil 3 1 |>.trans (Imp.one (.head _ _) (Imp.nil _))
  · intro h0
    try simp only [decide_eq_true_eq, decide_eq_false_iff_not, Bool.not_eq_true', Bool.not_eq_false', Bool.cond_false_right, Bool.cond_true_left, Bool.and_eq_true, Bool.or_eq_true, Bool.and_eq_false_iff, Bool.or_eq_false_iff, Bool.not_true, Bool.not_false] at h0
    have hg : goodP patErr p = true := by simpa using h0
    refine At.skip ?_
    refine At.thenN ?_
    refine At.seq ?_
    refine At.region ?_
    refine At.ev (ldA T.ld26 rfl) rfl ?_
    refine At.ev (ev_move rfl) rfl ?_
    refine At.do (goes_func cf75 rfl) (flow_next _ _ _ (by assumption)) ?_
    intro _
    refine At.rowI ?_
    intro aon cn e _ _
    subst e
    refine At.ev (ev_assign rfl) rfl ?_
    refine At.nil ?_
    refine At.thenN ?_
    refine At.retC ?_
    refine At.ret (rs := [.tmp 4]) rfl (Res.tmp rfl Res.nil) ?_
    rw [nextG_good hg]; exact Imp.one (.head _ _) (Imp.nil _)

/-- repartee/reparteeref13.Add -/
theorem r13_Add (ao : Option Addr) (c : Nat) (l : List Int) (n : Int) (hc : l.length ≤ c) (hll : l.length ≤ 1000) (hn : i64 n) : Does Tryz.prog 76 [.slice ao l.length c, .int .i64 n] [per (rdSl ao l)] (fun v => sl v (addI l n)) := by
  refine Does.enter Tryz.func76 rfl rfl ?_
  intro E
  refine At.i64s (ao := ao) (xs := l) (by repeat (first | with_reducible exact Mem.head _ _ | apply Mem.tail)) ?_
  intro hi
  refine At.seq ?_
  refine At.region ?_
  refine At.ev (ev_assign rfl) rfl ?_
  refine At.nil ?_
  refine At.thenN ?_
  refine At.seq ?_
  refine At.region ?_
  refine At.ev (ev_assign rfl) rfl ?_
  refine At.nil ?_
  refine At.thenN ?_
  refine At.seq ?_
  refine At.block ?_
  refine At.loopF1 [(5, 19)] (fun (k : Nat) => l.length - k) (fun (k : Nat) => k ≤ l.length ∧ ∀ x ∈ l.take k, x < n) (fun (k : Nat) => [(5, .val (.int .i64 k))]) (fun (k : Nat) => []) (0) (⟨by omega, by simp⟩) ⟨rfl, trivial⟩ ?_
  intro k hk
  refine At.cat0 ?_
  obtain ⟨hk1, hk2⟩ := hk
  refine At.getIf (α := Int) (xs := l) (by repeat (first | with_reducible exact Mem.head _ _ | apply Mem.tail)) k 1 rfl ?_
  intro adx x hIf0
  refine At.seq ?_
  refine At.seq ?_
  refine At.region ?_
  refine At.ev (ev_move rfl) rfl ?_
  refine At.ev (ev_move rfl) rfl ?_
  refine At.ev (ev_lenl T.un68 rfl) rfl ?_
  refine At.ev (ev_lss rfl rfl) rfl ?_
  refine At.ev (ev_move rfl) rfl ?_
  refine At.evg rfl rfl (fun hg => (ev_move rfl)) rfl rfl ?_
  refine At.evg rfl rfl (fun hg => (ev_move rfl)) rfl rfl ?_
  refine At.evg rfl rfl (fun hg => (ev_ianO T.un68 T.sz3 rfl rfl (by first | rfl | exact (hIf0 (by first | omega | decide | (simp at hg; omega) | (simp at hl hg; omega) | (simp at hg ⊢; omega))).1 | exact (hIf1 (by first | omega | decide | (simp at hg; omega) | (simp at hl hg; omega) | (simp at hg ⊢; omega))).1 | exact (hIf2 (by first | omega | decide | (simp at hg; omega) | (simp at hl hg; omega) | (simp at hg ⊢; omega))).1) (by first | omega | decide | (simp at hg; omega) | (simp at hl hg; omega) | (simp at hg ⊢; omega)))) rfl rfl ?_
  refine At.evg rfl rfl (fun hg => (ld T.ld3 rfl)) rfl rfl ?_
  refine At.evg rfl rfl (fun hg => (ev_move rfl)) rfl rfl ?_
  refine At.evg rfl rfl (fun hg => (ev_lss rfl rfl)) rfl rfl ?_
  refine At.ev (ev_pickG rfl rfl rfl rfl) rfl ?_
  refine At.nil ?_
  refine At.thenN ?_
  refine At.cond rfl ?_ ?_
  · intro h0
    try simp only [decide_eq_true_eq, decide_eq_false_iff_not, Bool.not_eq_true', Bool.not_eq_false', Bool.cond_false_right, Bool.cond_true_left, Bool.and_eq_true, Bool.or_eq_true, Bool.and_eq_false_iff, Bool.or_eq_false_iff, Bool.not_true, Bool.not_false] at h0
    have hlt : k < l.length := by omega
    have hx := (hIf0 hlt).2.1
    refine At.skip ?_
    refine At.thenN ?_
    refine At.block ?_
    refine At.region ?_
    refine At.ev (ev_move rfl) rfl ?_
    refine At.ev (ev_add rfl rfl (by omega)) rfl ?_
    refine At.ev (ev_assign rfl) rfl ?_
    refine At.nil ?_
    refine At.blkN ?_
    refine At.thenN ?_
    refine At.againF1 (k + 1) (by omega) (⟨by omega, fun y hy => by
        rw [List.take_add_one, hx] at hy
        rcases List.mem_append.1 hy with hy | hy
        · exact hk2 y hy
        · simp at hy; omega⟩) ⟨rfl, trivial⟩
  · intro h0
    try simp only [decide_eq_true_eq, decide_eq_false_iff_not, Bool.not_eq_true', Bool.not_eq_false', Bool.cond_false_right, Bool.cond_true_left, Bool.and_eq_true, Bool.or_eq_true, Bool.and_eq_false_iff, Bool.or_eq_false_iff, Bool.not_true, Bool.not_false] at h0
    have hstop : ∀ y, l[k]? = some y → n ≤ y := fun y hy => by
      have hlt := (List.getElem?_eq_some_iff.1 hy).1
      have := (hIf0 hlt).2.1
      rw [hy] at this; injection this with this; subst this; omega
    have hat := insU_at hk2 hk1 hstop
    refine At.exit ?_
    refine At.thenX ?_
    refine At.thenX ?_
    refine At.blkX ?_
    refine At.thenN ?_
    refine At.seq ?_
    refine At.seq ?_
    refine At.region ?_
    refine At.ev (ev_move rfl) rfl ?_
    refine At.ev (ev_lss rfl rfl) rfl ?_
    refine At.ev (ev_move rfl) rfl ?_
    refine At.evg rfl rfl (fun hg => (ev_move rfl)) rfl rfl ?_
    refine At.evg rfl rfl (fun hg => (ev_move rfl)) rfl rfl ?_
    refine At.evg rfl rfl (fun hg => (ev_lenl T.un68 rfl)) rfl rfl ?_
    refine At.evg rfl rfl (fun hg => (ev_lss rfl rfl)) rfl rfl ?_
    refine At.evg rfl rfl (fun hg => (ev_move rfl)) rfl rfl ?_
    refine At.evG rfl (Lv.nest rfl (Lv.base rfl)) (fun hl hg => (ev_move rfl)) rfl rfl ?_
    refine At.evG rfl (Lv.nest rfl (Lv.base rfl)) (fun hl hg => (ev_move rfl)) rfl rfl ?_
    refine At.evG rfl (Lv.nest rfl (Lv.base rfl)) (fun hl hg => (ev_ianO T.un68 T.sz3 rfl rfl (by first | rfl | exact (hIf0 (by first | omega | decide | (simp at hg; omega) | (simp at hl hg; omega) | (simp at hg ⊢; omega))).1 | exact (hIf1 (by first | omega | decide | (simp at hg; omega) | (simp at hl hg; omega) | (simp at hg ⊢; omega))).1 | exact (hIf2 (by first | omega | decide | (simp at hg; omega) | (simp at hl hg; omega) | (simp at hg ⊢; omega))).1) (by first | omega | decide | (simp at hg; omega) | (simp at hl hg; omega) | (simp at hg ⊢; omega)))) rfl rfl ?_
    refine At.evG rfl (Lv.nest rfl (Lv.base rfl)) (fun hl hg => (ld T.ld3 rfl)) rfl rfl ?_
    refine At.evG rfl (Lv.nest rfl (Lv.base rfl)) (fun hl hg => (ev_move rfl)) rfl rfl ?_
    refine At.evG rfl (Lv.nest rfl (Lv.base rfl)) (fun hl hg => (ev_eqi rfl rfl)) rfl rfl ?_
    refine At.evg rfl rfl (fun hg => (ev_pickG rfl rfl rfl rfl)) rfl rfl ?_
    refine At.ev (ev_pickG rfl rfl rfl rfl) rfl ?_
    refine At.nil ?_
    refine At.thenN ?_
    refine At.cond rfl ?_ ?_
    · intro h1
      try simp only [decide_eq_true_eq, decide_eq_false_iff_not, Bool.not_eq_true', Bool.not_eq_false', Bool.cond_false_right, Bool.cond_true_left, Bool.and_eq_true, Bool.or_eq_true, Bool.and_eq_false_iff, Bool.or_eq_false_iff, Bool.not_true, Bool.not_false] at h1
      have hre : addI l n = l := by
        unfold addI
        by_cases h9 : n < 0
        · rw [if_pos h9]
        · rw [if_neg h9, hat, if_pos (by
            rcases h1 with h1 | h1
            · exact absurd h1 h9
            · rw [(hIf0 (by omega)).2.1, h1.2])]
      refine At.seq ?_
      refine At.region ?_
      refine At.ev (ev_move rfl) rfl ?_
      refine At.ev (ev_assign rfl) rfl ?_
      refine At.nil ?_
      refine At.thenN ?_
      refine At.retC ?_
      refine At.thenR ?_
      refine At.ret (rs := [.tmp 4]) rfl (Res.tmp rfl Res.nil) ?_
      rw [hre]; exact Imp.sl (by repeat (first | with_reducible exact Mem.head _ _ | apply Mem.tail)) hc (Imp.nil _)
    · intro h1
      try simp only [decide_eq_true_eq, decide_eq_false_iff_not, Bool.not_eq_true', Bool.not_eq_false', Bool.cond_false_right, Bool.cond_true_left, Bool.and_eq_true, Bool.or_eq_true, Bool.and_eq_false_iff, Bool.or_eq_false_iff, Bool.not_true, Bool.not_false] at h1
      have hre : addI l n = l.take k ++ ([n] ++ l.drop k) := by
        unfold addI
        rw [if_neg (by omega), hat, if_neg (fun h9 => by
          have hlt := (List.getElem?_eq_some_iff.1 h9).1
          have := (hIf0 hlt).2.1
          rw [h9] at this; injection this with this; omega)]
      refine At.skip ?_
      refine At.thenN ?_
      refine At.seq ?_
      refine At.drawH (.q0 1 (.q0 2 (.q0 3 (.q0 5 (.q0 8 (.q0 9 (.q0 10 (.br 0 (.br 4 (.br 6 (.br 7 (.br 11 (.q0 12 (.nil)) (.stop)) (.stop)) (.stop)) (.br 6 (.br 4 (.br 7 (.br 11 (.q0 12 (.nil)) (.stop)) (.stop)) (.stop)) (.stop))) (.br 6 (.br 0 (.br 4 (.br 7 (.br 11 (.q0 12 (.nil)) (.stop)) (.stop)) (.stop)) (.stop)) (.stop)))))))))) (fun j => !([0, 4, 6, 7, 11] : List Nat).contains j) mixed (by kernel_rfl) (by kernel_rfl) (NoP.thn NoP.body) ?_
      refine At.c0 rfl (ev_move rfl) rfl ?_
      refine At.c0 rfl (ev_move rfl) rfl ?_
      refine At.c0 rfl (ev_slsl (l := 0) (h := k) (n' := k) (c' := c) T.un68 T.sz3 rfl rfl rfl (by omega) (Or.inr (by omega)) rfl rfl) rfl ?_
      refine At.c0 rfl (ev_move rfl) rfl ?_
      refine At.c0 rfl (ev_move rfl) rfl ?_
      refine At.c0 rfl (ev_move rfl) rfl ?_
      refine At.c0 rfl (ev_slsl (l := k) (h := l.length) (n' := l.length - k) (c' := c - k) T.un68 T.sz3 rfl rfl rfl (by omega) (Or.inl rfl) rfl rfl) rfl ?_
      refine At.c2 rfl ?_ ?_
      · intro w0
        refine At.bsl [] T.un68 T.sz3 T.zv3 rfl ?_
        intro be
        refine At.nil ?_
        refine At.cn (fun h => absurd h (by decide)) ?_
        refine At.c2 rfl ?_ ?_
        · intro w0
          refine At.own0 (b := be) 1 (by repeat (first | with_reducible exact At1.head _ _ | apply At1.tail)) ?_
          refine At.appS T.ti68 rfl rfl (src_rd (xs := l) (k := 0) (m := k) T.un68 (by repeat (first | with_reducible exact Mem.head _ _ | apply Mem.tail)) (by omega) (slAt_rd hc (by omega))) ?_
          intro ao1 c1 _ _
          refine At.nil ?_
          refine At.cn (fun h => absurd h (by decide)) ?_
          refine At.c2 rfl ?_ ?_
          · intro w0
            refine At.bsl [.int .i64 n] T.un68 T.sz3 T.zv3 rfl ?_
            intro bn
            refine At.nil ?_
            refine At.cn (fun h => absurd h (by decide)) ?_
            refine At.c2 rfl ?_ ?_
            · intro w0
              refine At.app2 T.ti68 T.un68 rfl rfl ?_
              intro ao2 c2 hcc2 hmc2
              refine At.nil ?_
              refine At.cn (fun h => absurd h (by decide)) ?_
              refine At.c2 rfl ?_ ?_
              · intro w0
                refine At.appS T.ti68 rfl rfl (src_rd (xs := l) (k := k) (m := l.length - k) T.un68 (by repeat (first | with_reducible exact Mem.head _ _ | apply Mem.tail)) (by omega) (slAt_rd hc (by omega))) ?_
                intro ao3 c3 _ _
                refine At.nil ?_
                refine At.cn (fun h => absurd h (by decide)) ?_
                refine At.c0 rfl (ev_assign rfl) rfl ?_
                refine At.cnil ?_
                have hal := addI_len l n
                have hlen : 0 + k + 1 + (l.length - k) = (addI l n).length := by rw [hre]; simp; omega
                refine At.ownEq (n' := (addI l n).length) (cs' := ints (addI l n)) (hn := hlen) (he := by rw [hre, List.drop_zero, show (l.drop k).take (l.length - k) = l.drop k from List.take_of_length_le (by simp), ints_append, ints_append, List.nil_append, List.append_assoc]; rfl) (h := ?_)
                refine At.sealI (addI l n) rfl (addI_ge hi hn) (fun hcc _ => ?_)
                refine At.thenN ?_
                refine At.retC ?_
                refine At.ret (rs := [.tmp 4]) rfl (Res.tmp rfl Res.nil) ?_
                rw [hlen]; exact Imp.sl (by repeat (first | with_reducible exact Mem.head _ _ | apply Mem.tail)) hcc (Imp.nil _)
              exact At.cstop
            exact At.cstop
          exact At.cstop
        refine At.c2 rfl ?_ ?_
        · intro w0
          refine At.bsl [.int .i64 n] T.un68 T.sz3 T.zv3 rfl ?_
          intro bn
          refine At.nil ?_
          refine At.cn (fun h => absurd h (by decide)) ?_
          refine At.c2 rfl ?_ ?_
          · intro w0
            refine At.own0 (b := be) 1 (by repeat (first | with_reducible exact At1.head _ _ | apply At1.tail)) ?_
            refine At.appS T.ti68 rfl rfl (src_rd (xs := l) (k := 0) (m := k) T.un68 (by repeat (first | with_reducible exact Mem.head _ _ | apply Mem.tail)) (by omega) (slAt_rd hc (by omega))) ?_
            intro ao1 c1 _ _
            refine At.nil ?_
            refine At.cn (fun h => absurd h (by decide)) ?_
            refine At.c2 rfl ?_ ?_
            · intro w0
              refine At.app2 T.ti68 T.un68 rfl rfl ?_
              intro ao2 c2 hcc2 hmc2
              refine At.nil ?_
              refine At.cn (fun h => absurd h (by decide)) ?_
              refine At.c2 rfl ?_ ?_
              · intro w0
                refine At.appS T.ti68 rfl rfl (src_rd (xs := l) (k := k) (m := l.length - k) T.un68 (by repeat (first | with_reducible exact Mem.head _ _ | apply Mem.tail)) (by omega) (slAt_rd hc (by omega))) ?_
                intro ao3 c3 _ _
                refine At.nil ?_
                refine At.cn (fun h => absurd h (by decide)) ?_
                refine At.c0 rfl (ev_assign rfl) rfl ?_
                refine At.cnil ?_
                have hal := addI_len l n
                have hlen : 0 + k + 1 + (l.length - k) = (addI l n).length := by rw [hre]; simp; omega
                refine At.ownEq (n' := (addI l n).length) (cs' := ints (addI l n)) (hn := hlen) (he := by rw [hre, List.drop_zero, show (l.drop k).take (l.length - k) = l.drop k from List.take_of_length_le (by simp), ints_append, ints_append, List.nil_append, List.append_assoc]; rfl) (h := ?_)
                refine At.sealI (addI l n) rfl (addI_ge hi hn) (fun hcc _ => ?_)
                refine At.thenN ?_
                refine At.retC ?_
                refine At.ret (rs := [.tmp 4]) rfl (Res.tmp rfl Res.nil) ?_
                rw [hlen]; exact Imp.sl (by repeat (first | with_reducible exact Mem.head _ _ | apply Mem.tail)) hcc (Imp.nil _)
              exact At.cstop
            exact At.cstop
          exact At.cstop
        exact At.cstop
      refine At.c2 rfl ?_ ?_
      · intro w0
        refine At.bsl [.int .i64 n] T.un68 T.sz3 T.zv3 rfl ?_
        intro bn
        refine At.nil ?_
        refine At.cn (fun h => absurd h (by decide)) ?_
        refine At.c2 rfl ?_ ?_
        · intro w0
          refine At.bsl [] T.un68 T.sz3 T.zv3 rfl ?_
          intro be
          refine At.nil ?_
          refine At.cn (fun h => absurd h (by decide)) ?_
          refine At.c2 rfl ?_ ?_
          · intro w0
            refine At.own0 (b := be) 1 (by repeat (first | with_reducible exact At1.head _ _ | apply At1.tail)) ?_
            refine At.appS T.ti68 rfl rfl (src_rd (xs := l) (k := 0) (m := k) T.un68 (by repeat (first | with_reducible exact Mem.head _ _ | apply Mem.tail)) (by omega) (slAt_rd hc (by omega))) ?_
            intro ao1 c1 _ _
            refine At.nil ?_
            refine At.cn (fun h => absurd h (by decide)) ?_
            refine At.c2 rfl ?_ ?_
            · intro w0
              refine At.app2 T.ti68 T.un68 rfl rfl ?_
              intro ao2 c2 hcc2 hmc2
              refine At.nil ?_
              refine At.cn (fun h => absurd h (by decide)) ?_
              refine At.c2 rfl ?_ ?_
              · intro w0
                refine At.appS T.ti68 rfl rfl (src_rd (xs := l) (k := k) (m := l.length - k) T.un68 (by repeat (first | with_reducible exact Mem.head _ _ | apply Mem.tail)) (by omega) (slAt_rd hc (by omega))) ?_
                intro ao3 c3 _ _
                refine At.nil ?_
                refine At.cn (fun h => absurd h (by decide)) ?_
                refine At.c0 rfl (ev_assign rfl) rfl ?_
                refine At.cnil ?_
                have hal := addI_len l n
                have hlen : 0 + k + 1 + (l.length - k) = (addI l n).length := by rw [hre]; simp; omega
                refine At.ownEq (n' := (addI l n).length) (cs' := ints (addI l n)) (hn := hlen) (he := by rw [hre, List.drop_zero, show (l.drop k).take (l.length - k) = l.drop k from List.take_of_length_le (by simp), ints_append, ints_append, List.nil_append, List.append_assoc]; rfl) (h := ?_)
                refine At.sealI (addI l n) rfl (addI_ge hi hn) (fun hcc _ => ?_)
                refine At.thenN ?_
                refine At.retC ?_
                refine At.ret (rs := [.tmp 4]) rfl (Res.tmp rfl Res.nil) ?_
                rw [hlen]; exact Imp.sl (by repeat (first | with_reducible exact Mem.head _ _ | apply Mem.tail)) hcc (Imp.nil _)
              exact At.cstop
            exact At.cstop
          exact At.cstop
        exact At.cstop
      exact At.cstop

/-- repartee/reparteeref24.Next -/
theorem r24_Next (p : Prog) (cs : List Value) (a : Int) (ha : i64 a) : Does Tryz.prog 34 [.agg cs.toArray, .int .i64 a] [per (relP p cs)] (fun v => sl v (nextG p a)) := by
  refine Does.enter Tryz.func34 rfl rfl ?_
  intro E
  refine openProg (x := p) (by repeat (first | with_reducible exact Mem.head _ _ | apply Mem.tail)) ?_
  intro hp ap cp hcp e
  subst e
  refine At.lenb (α := Op) (xs := p.ops) (by repeat (first | with_reducible exact Mem.head _ _ | apply Mem.tail)) ?_
  unfold big
  intro hlo
  refine At.seq ?_
  refine At.region ?_
  refine At.boxA rfl ?_
  intro b0
  refine At.ev (ev_assign rfl) rfl ?_
  refine At.nil ?_
  refine At.thenN ?_
  refine At.seq ?_
  refine At.region ?_
  refine At.bsl [] T.un68 T.sz3 T.zv3 rfl ?_
  intro be
  refine At.own0 (b := be) 1 (by repeat (first | with_reducible exact At1.head _ _ | apply At1.tail)) ?_
  refine At.ownEq (n := 0) (cs := []) (n' := ([] : List Int).length) (cs' := ints []) (hn := rfl) (he := rfl) (h := ?_)
  refine At.sealI (n := ([] : List Int).length) ([] : List Int) rfl (by simp) (fun _ _ => ?_)
  refine At.ev (ev_assign rfl) rfl ?_
  refine At.nil ?_
  refine At.thenN ?_
  refine At.seq ?_
  refine At.seq ?_
  refine At.region ?_
  refine At.ev (ldA T.ld26 rfl) rfl ?_
  refine At.callq (goes_func cf72 rfl) (Qc.stay (r13_Good p (p.cs ap cp))) rfl ?_
  refine At.ev (ev_not rfl) rfl ?_
  refine At.ev (ev_move rfl) rfl ?_
  refine At.evg rfl rfl (fun hg => (ev_move rfl)) rfl rfl ?_
  refine At.evg rfl rfl (fun hg => (ev_lss rfl rfl)) rfl rfl ?_
  refine At.ev (ev_pickG rfl rfl rfl rfl) rfl ?_
  refine At.ev (ev_move rfl) rfl ?_
  refine At.evg rfl rfl (fun hg => (ev_move rfl)) rfl rfl ?_
  refine At.evg rfl rfl (fun hg => (ev_fa T.fa26_3 rfl)) rfl rfl ?_
  refine At.evg rfl rfl (fun hg => (ld T.ld24 rfl)) rfl rfl ?_
  refine At.evg rfl rfl (fun hg => (ev_lenl T.un24 rfl)) rfl rfl ?_
  refine At.evg rfl rfl (fun hg => (ev_geq rfl rfl)) rfl rfl ?_
  refine At.ev (ev_pickG rfl rfl rfl rfl) rfl ?_
  refine At.nil ?_
  refine At.thenN ?_
  refine At.cond rfl ?_ ?_
  · intro h0
    try simp only [decide_eq_true_eq, decide_eq_false_iff_not, Bool.not_eq_true', Bool.not_eq_false', Bool.cond_false_right, Bool.cond_true_left, Bool.and_eq_true, Bool.or_eq_true, Bool.and_eq_false_iff, Bool.or_eq_false_iff, Bool.not_true, Bool.not_false] at h0
    have hr0 : nextG p a = [] := by
      unfold nextG
      by_cases hg : goodP patErr p = true
      · rw [if_pos hg]; unfold nextP; rw [if_pos (by rcases h0 with (h0 | h0) | h0; exact absurd hg (by simp [h0]); exact .inl h0; exact .inr h0)]
      · rw [if_neg hg]
    refine At.seq ?_
    refine At.region ?_
    refine At.ev (ev_move rfl) rfl ?_
    refine At.ev (ev_assign rfl) rfl ?_
    refine At.nil ?_
    refine At.thenN ?_
    refine At.retC ?_
    refine At.thenR ?_
    refine At.ret (rs := [.tmp 4]) rfl (Res.tmp rfl Res.nil) ?_
    rw [hr0]; exact Imp.sl (xs := ([] : List Int)) (by repeat (first | with_reducible exact Mem.head _ _ | apply Mem.tail)) (by simp) (Imp.nil _)
  · intro h0
    try simp only [decide_eq_true_eq, decide_eq_false_iff_not, Bool.not_eq_true', Bool.not_eq_false', Bool.cond_false_right, Bool.cond_true_left, Bool.and_eq_true, Bool.or_eq_true, Bool.and_eq_false_iff, Bool.or_eq_false_iff, Bool.not_true, Bool.not_false] at h0
    have hg : goodP patErr p = true := by
      by_cases hg : goodP patErr p = true
      · exact hg
      · exact absurd h0.1.1 (by simp [hg])
    have ha0 : 0 ≤ a := by omega
    obtain ⟨k, rfl⟩ : ∃ k : Nat, a = k := ⟨a.toNat, by omega⟩
    have hlt : k < p.ops.length := by omega
    have hgo := (goodP_ops hg).1
    refine At.get (α := Op) (xs := p.ops) (by repeat (first | with_reducible exact Mem.head _ _ | apply Mem.tail)) k hlt 7 rfl ?_
    intro adx x csx eq hx
    cases eq
    refine openOp (x := x) (by repeat (first | with_reducible exact Mem.head _ _ | apply Mem.tail)) ?_
    intro hox ax cx hcx e
    subst e
    
    refine At.lenb (α := Arm) (xs := x.arms) (by repeat (first | with_reducible exact Mem.head _ _ | apply Mem.tail)) ?_
    unfold big
    intro hlx
    have hxe := (goodP_ops hg).2.2.2 x (List.mem_of_getElem? hx)
    have h8 : x.arms.length ≤ 8 := by
      by_cases h2 : x.kind = 2
      · exact (opErr_next hxe).1 h2
      · rw [opErr_arms hxe h2]; simp
    obtain ⟨_, _, _, hx3, hx5, hx6⟩ := hox
    refine At.skip ?_
    refine At.thenN ?_
    refine At.seq ?_
    refine At.region ?_
    refine At.ev (ev_fa T.fa26_3 rfl) rfl ?_
    refine At.ev (ld T.ld24 rfl) rfl ?_
    refine At.ev (ev_move rfl) rfl ?_
    refine At.ev (ev_ian T.un24 T.sz56 rfl rfl (by omega)) rfl ?_
    refine At.ev (ldA T.ld56 rfl) rfl ?_
    refine At.new T.zv56 ?_
    intro bx
    refine At.stA T.sz56 rfl rfl rfl ?_ (cs' := (x.cs ax cx))
    refine At.nil ?_
    refine At.thenN ?_
    refine At.seq ?_
    refine At.seq ?_
    refine At.region ?_
    refine At.ev (ev_fa T.fa56_0 rfl) rfl ?_
    refine At.ev (ld T.ld3 rfl) rfl ?_
    refine At.ev (ev_eqi rfl rfl) rfl ?_
    refine At.ev (ev_move rfl) rfl ?_
    refine At.evg rfl rfl (fun hg => (ev_fa T.fa56_0 rfl)) rfl rfl ?_
    refine At.evg rfl rfl (fun hg => (ld T.ld3 rfl)) rfl rfl ?_
    refine At.evg rfl rfl (fun hg => (ev_eqi rfl rfl)) rfl rfl ?_
    refine At.ev (ev_pickG rfl rfl rfl rfl) rfl ?_
    refine At.nil ?_
    refine At.thenN ?_
    refine At.joinQ3 [(5, 5), (37, 40)] (fun (l1 : List Int) (ao1 : Option Addr) (c1 : Nat) => l1 = addAll [] (if x.kind = 1 ∨ x.kind = 4 then [(k : Int) + 1] else []) ∧ l1.length ≤ c1 ∧ l1.length ≤ 1) (fun (l1 : List Int) (ao1 : Option Addr) (c1 : Nat) => [(5, .val (.slice ao1 l1.length c1))]) (fun (l1 : List Int) (ao1 : Option Addr) (c1 : Nat) => [per (rdSl ao1 l1)]) [] ?_ ?_
    · skip
      refine At.cond rfl ?_ ?_
      · intro h1
        try simp only [decide_eq_true_eq, decide_eq_false_iff_not, Bool.not_eq_true', Bool.not_eq_false', Bool.cond_false_right, Bool.cond_true_left, Bool.and_eq_true, Bool.or_eq_true, Bool.and_eq_false_iff, Bool.or_eq_false_iff, Bool.not_true, Bool.not_false] at h1
        refine At.region ?_
        refine At.ev (ev_move rfl) rfl ?_
        refine At.ev (ev_move rfl) rfl ?_
        refine At.ev (ev_add rfl rfl (by omega)) rfl ?_
        refine At.do (goes_func cf76 rfl) (r13_Add (some ⟨be, 0, none⟩) 0 ([] : List Int) _ (by simp) (by simp) (by unfold i64; omega)) ?_
        intro v
        refine At.sl ?_
        rintro aoa ca rfl hca
        refine At.ev (ev_assign rfl) rfl ?_
        refine At.nil ?_
        refine At.thenN ?_
        refine At.meet3 (addI [] ((k : Int) + 1)) (aoa) (ca) (⟨by rw [if_pos (by omega)]; rfl, hca, addI_len [] _⟩) ⟨rfl, trivial⟩
      · intro h1
        try simp only [decide_eq_true_eq, decide_eq_false_iff_not, Bool.not_eq_true', Bool.not_eq_false', Bool.cond_false_right, Bool.cond_true_left, Bool.and_eq_true, Bool.or_eq_true, Bool.and_eq_false_iff, Bool.or_eq_false_iff, Bool.not_true, Bool.not_false] at h1
        refine At.skip ?_
        refine At.thenN ?_
        refine At.meet3 ([]) (some ⟨be, 0, none⟩) (0) (⟨by rw [if_neg (by omega)]; rfl, by simp, by simp⟩) ⟨rfl, trivial⟩
    intro l1 ao1 c1 hj1
    refine At.cat1 ?_
    obtain ⟨e1, hc1, hl1⟩ := hj1
    refine At.thenN ?_
    refine At.seq ?_
    refine At.seq ?_
    refine At.region ?_
    refine At.ev (ev_fa T.fa56_0 rfl) rfl ?_
    refine At.ev (ld T.ld3 rfl) rfl ?_
    refine At.ev (ev_eqi rfl rfl) rfl ?_
    refine At.nil ?_
    refine At.thenN ?_
    refine At.joinQ3 [(5, 5), (44, 47)] (fun (l2 : List Int) (ao2 : Option Addr) (c2 : Nat) => l2 = addAll l1 (if x.kind = 3 then [x.to] else []) ∧ l2.length ≤ c2 ∧ l2.length ≤ 2) (fun (l2 : List Int) (ao2 : Option Addr) (c2 : Nat) => [(5, .val (.slice ao2 l2.length c2))]) (fun (l2 : List Int) (ao2 : Option Addr) (c2 : Nat) => [per (rdSl ao2 l2)]) [] ?_ ?_
    · skip
      refine At.condD rfl ?_ ?_
      · intro h2
        refine At.region ?_
        refine At.ev (ev_move rfl) rfl ?_
        refine At.ev (ev_fa T.fa56_3 rfl) rfl ?_
        refine At.ev (ld T.ld3 rfl) rfl ?_
        refine At.do (goes_func cf76 rfl) (r13_Add ao1 c1 l1 _ (by assumption) (by omega) (by assumption)) ?_
        intro v
        refine At.sl ?_
        rintro aoa ca rfl hca
        refine At.ev (ev_assign rfl) rfl ?_
        refine At.nil ?_
        refine At.thenN ?_
        refine At.meet3 (addI l1 x.to) (aoa) (ca) (⟨by rw [if_pos h2]; rfl, hca, by have := addI_len l1 x.to; omega⟩) ⟨rfl, trivial⟩
      · intro h2
        refine At.skip ?_
        refine At.thenN ?_
        refine At.meet3 (l1) (ao1) (c1) (⟨by rw [if_neg h2]; rfl, hc1, by omega⟩) ⟨rfl, trivial⟩
    intro l2 ao2 c2 hj2
    refine At.cat1 ?_
    obtain ⟨e2, hc2, hl2⟩ := hj2
    refine At.thenN ?_
    refine At.seq ?_
    refine At.seq ?_
    refine At.region ?_
    refine At.ev (ev_fa T.fa56_0 rfl) rfl ?_
    refine At.ev (ld T.ld3 rfl) rfl ?_
    refine At.ev (ev_eqi rfl rfl) rfl ?_
    refine At.nil ?_
    refine At.thenN ?_
    refine At.joinQ3 [(5, 5), (51, 57)] (fun (l3 : List Int) (ao3 : Option Addr) (c3 : Nat) => l3 = addAll l2 (if x.kind = 2 then [x.onTimeout, x.onEof] else []) ∧ l3.length ≤ c3 ∧ l3.length ≤ 4) (fun (l3 : List Int) (ao3 : Option Addr) (c3 : Nat) => [(5, .val (.slice ao3 l3.length c3))]) (fun (l3 : List Int) (ao3 : Option Addr) (c3 : Nat) => [per (rdSl ao3 l3)]) [] ?_ ?_
    · skip
      refine At.condD rfl ?_ ?_
      · intro h3
        refine At.drawH (.q0 0 (.q0 1 (.q1 2 (.q0 4 (.q1 5 (.br 3 (.br 6 (.q0 7 (.nil)) (.stop)) (.stop))))))) (fun j => !([6] : List Nat).contains j) mixed (by kernel_rfl) (by kernel_rfl) (NoP.thn (NoP.thn NoP.body)) ?_
        refine At.c0 rfl (ev_move rfl) rfl ?_
        refine At.c0 rfl (ev_fa T.fa56_5 rfl) rfl ?_
        refine At.c1 rfl (Imp.refl _) (ld T.ld3 rfl) rfl ?_
        refine At.c0 rfl (ev_fa T.fa56_6 rfl) rfl ?_
        refine At.c1 rfl (Imp.refl _) (ld T.ld3 rfl) rfl ?_
        refine At.c2 rfl ?_ ?_
        · intro w0
          refine At.do (goes_func cf76 rfl) (r13_Add ao2 c2 l2 _ (by assumption) (by omega) (by assumption)) ?_
          intro v
          refine At.sl ?_
          rintro aob cb rfl hcb
          have hal := addI_len l2 x.onTimeout
          refine At.nil ?_
          refine At.cn (fun _ => ?_) ?_
          · first | exact Imp.refl _ | exact fun _ _ h => h.drop | exact fun _ _ h => h.drop.drop | exact fun _ _ h => h.drop.drop.drop | exact fun _ _ h => h.drop.drop.drop.drop | (repeat (first | exact Imp.nil _ | (with_reducible apply Imp.per; · repeat (first | with_reducible exact Mem.head _ _ | apply Mem.tail)) | (with_reducible apply Imp.one; · repeat (first | with_reducible exact At1.head _ _ | apply At1.tail))))
          refine At.c2 rfl ?_ ?_
          · intro w0
            refine At.do (goes_func cf76 rfl) (r13_Add aob cb (addI l2 x.onTimeout) _ (by assumption) (by omega) (by assumption)) ?_
            intro v
            refine At.sl ?_
            rintro aoa ca rfl hca
            refine At.nil ?_
            refine At.cn (fun h => absurd h (by decide)) ?_
            refine At.c0 rfl (ev_assign rfl) rfl ?_
            refine At.cnil ?_
            refine At.thenN ?_
            refine At.meet3 (addI (addI l2 x.onTimeout) x.onEof) (aoa) (ca) (⟨by rw [if_pos h3]; rfl, hca, by have := addI_len l2 x.onTimeout; have := addI_len (addI l2 x.onTimeout) x.onEof; omega⟩) ⟨rfl, trivial⟩
          exact At.cstop
        exact At.cstop
      · intro h3
        refine At.skip ?_
        refine At.thenN ?_
        refine At.meet3 (l2) (ao2) (c2) (⟨by rw [if_neg h3]; rfl, hc2, by omega⟩) ⟨rfl, trivial⟩
    intro l3 ao3 c3 hj3
    refine At.cat1 ?_
    obtain ⟨e3, hc3, hl3⟩ := hj3
    refine At.thenN ?_
    refine At.seq ?_
    refine At.seq ?_
    refine At.region ?_
    refine At.ev (ev_assign rfl) rfl ?_
    refine At.nil ?_
    refine At.thenN ?_
    refine At.block ?_
    refine At.loopF4 [(5, 5), (7, 7), (58, 72)] (fun (j : Nat) (l : List Int) (ao : Option Addr) (c : Nat) => x.arms.length - j) (fun (j : Nat) (l : List Int) (ao : Option Addr) (c : Nat) => j ≤ x.arms.length ∧ l = addAll l3 ((x.arms.map (·.to)).take j) ∧ l.length ≤ c ∧ l.length ≤ 4 + j) (fun (j : Nat) (l : List Int) (ao : Option Addr) (c : Nat) => [(5, .val (.slice ao l.length c)), (7, .val (.int .i64 j))]) (fun (j : Nat) (l : List Int) (ao : Option Addr) (c : Nat) => [per (rdSl ao l)]) (0) (l3) (ao3) (c3) (⟨by omega, by simp [addAll], hc3, by omega⟩) ⟨rfl, rfl, trivial⟩ ?_
    intro j l ao c hk
    refine At.cat1 ?_
    obtain ⟨hk1, hk2, hk3, hk4⟩ := hk
    refine At.seq ?_
    refine At.seq ?_
    refine At.region ?_
    refine At.ev (ev_move rfl) rfl ?_
    refine At.ev (ev_fa T.fa56_4 rfl) rfl ?_
    refine At.ev (ld T.ld54 rfl) rfl ?_
    refine At.ev (ev_lenl T.un54 rfl) rfl ?_
    refine At.ev (ev_lss rfl rfl) rfl ?_
    refine At.nil ?_
    refine At.thenN ?_
    refine At.condD rfl ?_ ?_
    · intro h4
      have hlj : j < x.arms.length := by omega
      refine At.get (α := Arm) (xs := x.arms) (by repeat (first | with_reducible exact Mem.head _ _ | apply Mem.tail)) j hlj 2 rfl ?_
      intro ady y csy eq hy
      cases eq
      refine openArm (x := y) (by repeat (first | with_reducible exact Mem.head _ _ | apply Mem.tail)) ?_
      intro hoy  eq
      subst eq
      refine At.skip ?_
      refine At.thenN ?_
      refine At.seq ?_
      refine At.block ?_
      refine At.region ?_
      refine At.ev (ev_move rfl) rfl ?_
      refine At.ev (ev_fa T.fa56_4 rfl) rfl ?_
      refine At.ev (ld T.ld54 rfl) rfl ?_
      refine At.ev (ev_move rfl) rfl ?_
      refine At.ev (ev_ian T.un54 T.sz99 rfl rfl (by omega)) rfl ?_
      refine At.ev (ev_fa T.fa99_1 rfl) rfl ?_
      refine At.ev (ld T.ld3 rfl) rfl ?_
      refine At.do (goes_func cf76 rfl) (r13_Add ao c l _ (by assumption) (by omega) (hoy.2)) ?_
      intro v
      refine At.sl ?_
      rintro aoa ca rfl hca
      refine At.ev (ev_assign rfl) rfl ?_
      refine At.nil ?_
      refine At.blkN ?_
      refine At.thenN ?_
      refine At.region ?_
      refine At.ev (ev_move rfl) rfl ?_
      refine At.ev (ev_add rfl rfl (by omega)) rfl ?_
      refine At.ev (ev_assign rfl) rfl ?_
      refine At.nil ?_
      refine At.thenN ?_
      refine At.againF4 (j + 1) (addI l y.to) (aoa) (ca) (by omega) (⟨by omega, by rw [hk2]; exact addAll_step (by simp [hy]), hca, by have := addI_len l y.to; omega⟩) ⟨rfl, rfl, trivial⟩
    · intro h4
      obtain rfl : j = x.arms.length := by omega
      have hfin : l = nextG p k := by
        rw [hk2, List.take_of_length_le (by simp), nextG_good hg, ← next_two hg hx, ← nextB_parts, ← e1, ← e2, ← e3]
      refine At.exit ?_
      refine At.thenX ?_
      refine At.thenX ?_
      refine At.blkX ?_
      refine At.thenN ?_
      refine At.seq ?_
      refine At.region ?_
      refine At.ev (ev_move rfl) rfl ?_
      refine At.ev (ev_assign rfl) rfl ?_
      refine At.nil ?_
      refine At.thenN ?_
      refine At.retC ?_
      refine At.ret (rs := [.tmp 4]) rfl (Res.tmp rfl Res.nil) ?_
      rw [← hfin]; exact Imp.sl (by repeat (first | with_reducible exact Mem.head _ _ | apply Mem.tail)) hk3 (Imp.nil _)

/-- repartee/reparteeref24.from -/
theorem r24_from (p : Prog) (cs : List Value) (ao0 : Option Addr) (c0 : Nat) (l : List Int) (hg : goodP patErr p = true) (hi : Inc l) (hr : ∀ z ∈ l, 0 ≤ z ∧ z ≤ p.ops.length) (hc : l.length ≤ c0) : Does Tryz.prog 78 [.agg cs.toArray, .slice ao0 l.length c0] [per (relP p cs), per (rdSl ao0 l)] (fun v => sl v (fromP p (p.ops.length + 1) l)) := by
  refine Does.enter Tryz.func78 rfl rfl ?_
  intro E
  refine openProg (x := p) (by repeat (first | with_reducible exact Mem.head _ _ | apply Mem.tail)) ?_
  intro hp ap cp hcp e
  subst e
  have hgo := (goodP_ops hg).1
  refine At.seq ?_
  refine At.region ?_
  refine At.boxA rfl ?_
  intro b0
  refine At.ev (ev_assign rfl) rfl ?_
  refine At.nil ?_
  refine At.thenN ?_
  refine At.seq ?_
  refine At.seq ?_
  refine At.region ?_
  refine At.ev (ev_assign rfl) rfl ?_
  refine At.nil ?_
  refine At.thenN ?_
  refine At.block ?_
  refine At.loopF4 [(1, 1), (5, 42)] (fun (i : Nat) (li : List Int) (ao : Option Addr) (c : Nat) => p.ops.length + 1 - i) (fun (i : Nat) (li : List Int) (ao : Option Addr) (c : Nat) => i ≤ p.ops.length + 1 ∧ li = fromP p i l ∧ li.length ≤ c) (fun (i : Nat) (li : List Int) (ao : Option Addr) (c : Nat) => [(5, .val (.int .i64 i)), (1, .val (.slice ao li.length c))]) (fun (i : Nat) (li : List Int) (ao : Option Addr) (c : Nat) => [per (rdSl ao li)]) (0) (l) (ao0) (c0) (⟨by omega, rfl, hc⟩) ⟨rfl, rfl, trivial⟩ ?_
  intro i li ao c hk
  refine At.cat1 ?_
  obtain ⟨hk1, hk2, hk3⟩ := hk
  have hili : Inc li := by rw [hk2]; exact fromP_inc hi i
  have hrli : ∀ z ∈ li, 0 ≤ z ∧ z ≤ p.ops.length := by rw [hk2]; exact fromP_range hg hr i
  have hbli := Inc.len0 hili hrli
  refine At.seq ?_
  refine At.seq ?_
  refine At.region ?_
  refine At.ev (ev_move rfl) rfl ?_
  refine At.ev (ev_fa T.fa26_3 rfl) rfl ?_
  refine At.ev (ld T.ld24 rfl) rfl ?_
  refine At.ev (ev_lenl T.un24 rfl) rfl ?_
  refine At.ev (ev_leq rfl rfl) rfl ?_
  refine At.nil ?_
  refine At.thenN ?_
  refine At.condD rfl ?_ ?_
  · intro h0
    refine At.skip ?_
    refine At.thenN ?_
    refine At.seq ?_
    refine At.block ?_
    refine At.seq ?_
    refine At.region ?_
    refine At.ev (ev_move rfl) rfl ?_
    refine At.ev (ev_assign rfl) rfl ?_
    refine At.nil ?_
    refine At.thenN ?_
    refine At.seq ?_
    refine At.seq ?_
    refine At.region ?_
    refine At.ev (ev_assign rfl) rfl ?_
    refine At.nil ?_
    refine At.thenN ?_
    refine At.block ?_
    refine At.loopF4 [(6, 9), (18, 41)] (fun (k : Nat) (m : List Int) (ao2 : Option Addr) (c2 : Nat) => li.length - k) (fun (k : Nat) (m : List Int) (ao2 : Option Addr) (c2 : Nat) => k ≤ li.length ∧ m = addAll li ((li.take k).flatMap (nextP p)) ∧ m.length ≤ c2) (fun (k : Nat) (m : List Int) (ao2 : Option Addr) (c2 : Nat) => [(6, .val (.slice ao2 m.length c2)), (7, .val (.int .i64 k))]) (fun (k : Nat) (m : List Int) (ao2 : Option Addr) (c2 : Nat) => [per (rdSl ao2 m)]) (0) (li) (ao) (c) (⟨by omega, by simp [addAll], hk3⟩) ⟨rfl, rfl, trivial⟩ ?_
    intro k m ao2 c2 hq
    refine At.cat1 ?_
    obtain ⟨hq1, hq2, hq3⟩ := hq
    have him : Inc m := by rw [hq2]; exact addAll_inc _ hili
    have hrm : ∀ z ∈ m, 0 ≤ z ∧ z ≤ p.ops.length := by rw [hq2]; exact addAll_rng hrli (flat_rng hg _)
    have hbm := Inc.len0 him hrm
    refine At.seq ?_
    refine At.seq ?_
    refine At.region ?_
    refine At.ev (ev_move rfl) rfl ?_
    refine At.ev (ev_move rfl) rfl ?_
    refine At.ev (ev_lenl T.un68 rfl) rfl ?_
    refine At.ev (ev_lss rfl rfl) rfl ?_
    refine At.nil ?_
    refine At.thenN ?_
    refine At.condD rfl ?_ ?_
    · intro h1
      have hlk : k < li.length := by omega
      refine At.get (α := Int) (xs := li) (by repeat (first | with_reducible exact Mem.head _ _ | apply Mem.tail)) k hlk 1 rfl ?_
      intro ady y csy eq hy
      cases eq
      refine At.have (φ := csy = [.int .i64 y]) (fun w hs => (hs.per (φ := relP y csy) (by repeat (first | with_reducible exact Mem.head _ _ | apply Mem.tail))).1) ?_
      intro ey
      subst ey
      have hyr := hrli y (List.mem_of_getElem? hy)
      refine At.skip ?_
      refine At.thenN ?_
      refine At.seq ?_
      refine At.block ?_
      refine At.seq ?_
      refine At.drawH (.q1 0 (.q0 1 (.q0 2 (.q0 3 (.q1 4 (.br 5 (.q0 6 (.nil)) (.stop))))))) (fun j => !([5] : List Nat).contains j) mixed (by kernel_rfl) (by kernel_rfl) (NoP.thn (NoP.blk (NoP.thn (NoP.thn (NoP.blk (NoP.thn (NoP.blk (NoP.thn (NoP.thn (NoP.blk (NoP.thn NoP.body))))))))))) ?_
      refine At.c1 rfl (Imp.refl _) (ldA T.ld26 rfl) rfl ?_
      refine At.c0 rfl (ev_move rfl) rfl ?_
      refine At.c0 rfl (ev_move rfl) rfl ?_
      refine At.c0 rfl (ev_ian T.un68 T.sz3 rfl rfl (by omega)) rfl ?_
      refine At.c1 rfl (Imp.refl _) (ld T.ld3 rfl) rfl ?_
      refine At.c2 rfl ?_ ?_
      · intro w0
        refine At.do (goes_func cf34 rfl) (r24_Next p (p.cs ap cp) y (by unfold i64; omega)) ?_
        intro v
        refine At.sl ?_
        rintro aon cn rfl hcn
        rw [nextG_good hg]
        have hnl := nextP_len hg y
        refine At.nil ?_
        refine At.cn (fun h => absurd h (by decide)) ?_
        refine At.c0 rfl (ev_assign rfl) rfl ?_
        refine At.cnil ?_
        refine At.thenN ?_
        refine At.seq ?_
        refine At.region ?_
        refine At.ev (ev_assign rfl) rfl ?_
        refine At.nil ?_
        refine At.thenN ?_
        refine At.block ?_
        refine At.loopF4 [(6, 6), (9, 9), (30, 41)] (fun (j : Nat) (m2 : List Int) (ao3 : Option Addr) (c3 : Nat) => (nextP p y).length - j) (fun (j : Nat) (m2 : List Int) (ao3 : Option Addr) (c3 : Nat) => j ≤ (nextP p y).length ∧ m2 = addAll m ((nextP p y).take j) ∧ m2.length ≤ c3) (fun (j : Nat) (m2 : List Int) (ao3 : Option Addr) (c3 : Nat) => [(6, .val (.slice ao3 m2.length c3)), (9, .val (.int .i64 j))]) (fun (j : Nat) (m2 : List Int) (ao3 : Option Addr) (c3 : Nat) => [per (rdSl ao3 m2)]) (0) (m) (ao2) (c2) (⟨by omega, by simp [addAll], hq3⟩) ⟨rfl, rfl, trivial⟩ ?_
        intro j m2 ao3 c3 hs
        refine At.cat1 ?_
        obtain ⟨hs1, hs2, hs3⟩ := hs
        have him2 : Inc m2 := by rw [hs2]; exact addAll_inc _ him
        have hrm2 : ∀ z ∈ m2, 0 ≤ z ∧ z ≤ p.ops.length := by rw [hs2]; exact addAll_rng hrm (fun z hz => nextP_range hg y z (List.mem_of_mem_take hz))
        have hbm2 := Inc.len0 him2 hrm2
        refine At.seq ?_
        refine At.seq ?_
        refine At.region ?_
        refine At.ev (ev_move rfl) rfl ?_
        refine At.ev (ev_move rfl) rfl ?_
        refine At.ev (ev_lenl T.un68 rfl) rfl ?_
        refine At.ev (ev_lss rfl rfl) rfl ?_
        refine At.nil ?_
        refine At.thenN ?_
        refine At.condD rfl ?_ ?_
        · intro h2
          have hlj : j < (nextP p y).length := by omega
          refine At.get (α := Int) (xs := (nextP p y)) (by repeat (first | with_reducible exact Mem.head _ _ | apply Mem.tail)) j hlj 1 rfl ?_
          intro adz z csz eq hz
          cases eq
          refine At.have (φ := csz = [.int .i64 z]) (fun w hs => (hs.per (φ := relP z csz) (by repeat (first | with_reducible exact Mem.head _ _ | apply Mem.tail))).1) ?_
          intro ez
          subst ez
          have hzr := nextP_range hg y z (List.mem_of_getElem? hz)
          refine At.skip ?_
          refine At.thenN ?_
          refine At.seq ?_
          refine At.block ?_
          refine At.region ?_
          refine At.ev (ev_move rfl) rfl ?_
          refine At.ev (ev_move rfl) rfl ?_
          refine At.ev (ev_move rfl) rfl ?_
          refine At.ev (ev_ian T.un68 T.sz3 rfl rfl (by omega)) rfl ?_
          refine At.ev (ld T.ld3 rfl) rfl ?_
          refine At.do (goes_func cf76 rfl) (r13_Add ao3 c3 m2 _ (by assumption) (by omega) (by unfold i64; omega)) ?_
          intro v
          refine At.sl ?_
          rintro aoa ca rfl hca
          refine At.ev (ev_assign rfl) rfl ?_
          refine At.nil ?_
          refine At.blkN ?_
          refine At.thenN ?_
          refine At.region ?_
          refine At.ev (ev_move rfl) rfl ?_
          refine At.ev (ev_add rfl rfl (by omega)) rfl ?_
          refine At.ev (ev_assign rfl) rfl ?_
          refine At.nil ?_
          refine At.thenN ?_
          refine At.againF4 (j + 1) (addI m2 z) (aoa) (ca) (by omega) (⟨by omega, by rw [hs2]; exact addAll_step hz, hca⟩) ⟨rfl, rfl, trivial⟩
        · intro h2
          obtain rfl : j = (nextP p y).length := by omega
          refine At.exit ?_
          refine At.thenX ?_
          refine At.thenX ?_
          refine At.blkX ?_
          refine At.blkN ?_
          refine At.thenN ?_
          refine At.region ?_
          refine At.ev (ev_move rfl) rfl ?_
          refine At.ev (ev_add rfl rfl (by omega)) rfl ?_
          refine At.ev (ev_assign rfl) rfl ?_
          refine At.nil ?_
          refine At.thenN ?_
          refine At.againF4 (k + 1) (m2) (ao3) (c3) (by omega) (⟨by omega, by rw [hs2, List.take_length, hq2]; exact flat_step hy, hs3⟩) ⟨rfl, rfl, trivial⟩
      exact At.cstop
    · intro h1
      obtain rfl : k = li.length := by omega
      refine At.exit ?_
      refine At.thenX ?_
      refine At.thenX ?_
      refine At.blkX ?_
      refine At.thenN ?_
      refine At.region ?_
      refine At.ev (ev_move rfl) rfl ?_
      refine At.ev (ev_assign rfl) rfl ?_
      refine At.nil ?_
      refine At.blkN ?_
      refine At.thenN ?_
      refine At.region ?_
      refine At.ev (ev_move rfl) rfl ?_
      refine At.ev (ev_add rfl rfl (by omega)) rfl ?_
      refine At.ev (ev_assign rfl) rfl ?_
      refine At.nil ?_
      refine At.thenN ?_
      refine At.againF4 (i + 1) (m) (ao2) (c2) (by omega) (⟨by omega, by rw [hq2, List.take_length, hk2]; rfl, hq3⟩) ⟨rfl, rfl, trivial⟩
  · intro h0
    obtain rfl : i = p.ops.length + 1 := by omega
    refine At.exit ?_
    refine At.thenX ?_
    refine At.thenX ?_
    refine At.blkX ?_
    refine At.thenN ?_
    refine At.seq ?_
    refine At.region ?_
    refine At.ev (ev_move rfl) rfl ?_
    refine At.ev (ev_assign rfl) rfl ?_
    refine At.nil ?_
    refine At.thenN ?_
    refine At.retC ?_
    refine At.ret (rs := [.tmp 4]) rfl (Res.tmp rfl Res.nil) ?_
    rw [← hk2]; exact Imp.sl (by repeat (first | with_reducible exact Mem.head _ _ | apply Mem.tail)) hk3 (Imp.nil _)

/-- repartee/reparteeref24.Reach -/
theorem r24_Reach (p : Prog) (cs : List Value) : Does Tryz.prog 36 [.agg cs.toArray] [per (relP p cs)] (fun v => sl v (reachR p)) := by
  refine Does.enter Tryz.func36 rfl rfl ?_
  intro E
  refine openProg (x := p) (by repeat (first | with_reducible exact Mem.head _ _ | apply Mem.tail)) ?_
  intro hp ap cp hcp e
  subst e
  
  refine At.seq ?_
  refine At.region ?_
  refine At.boxA rfl ?_
  intro b0
  refine At.ev (ev_assign rfl) rfl ?_
  refine At.nil ?_
  refine At.thenN ?_
  refine At.seq ?_
  refine At.seq ?_
  refine At.region ?_
  refine At.ev (ldA T.ld26 rfl) rfl ?_
  refine At.callq (goes_func cf72 rfl) (Qc.stay (r13_Good p (p.cs ap cp))) rfl ?_
  refine At.ev (ev_not rfl) rfl ?_
  refine At.nil ?_
  refine At.thenN ?_
  refine At.cond rfl ?_ ?_
  · intro h0
    try simp only [decide_eq_true_eq, decide_eq_false_iff_not, Bool.not_eq_true', Bool.not_eq_false', Bool.cond_false_right, Bool.cond_true_left, Bool.and_eq_true, Bool.or_eq_true, Bool.and_eq_false_iff, Bool.or_eq_false_iff, Bool.not_true, Bool.not_false] at h0
    have hr0 : reachR p = [] := by unfold reachR; rw [if_neg (by simp [h0])]
    refine At.seq ?_
    refine At.region ?_
    refine At.ev (ev_assign rfl) rfl ?_
    refine At.nil ?_
    refine At.thenN ?_
    refine At.retC ?_
    refine At.thenR ?_
    refine At.ret (rs := [.tmp 2]) rfl (Res.tmp rfl Res.nil) ?_
    rw [hr0]; exact Imp.slNil (Imp.nil _)
  · intro h0
    try simp only [decide_eq_true_eq, decide_eq_false_iff_not, Bool.not_eq_true', Bool.not_eq_false', Bool.cond_false_right, Bool.cond_true_left, Bool.and_eq_true, Bool.or_eq_true, Bool.and_eq_false_iff, Bool.or_eq_false_iff, Bool.not_true, Bool.not_false] at h0
    have hg : goodP patErr p = true := by simpa using h0
    have hrr : reachR p = fromP p (p.ops.length + 1) [0] := if_pos hg
    refine At.skip ?_
    refine At.thenN ?_
    refine At.seq ?_
    refine At.region ?_
    refine At.ev (ldA T.ld26 rfl) rfl ?_
    refine At.bsl [.int .i64 0] T.un68 T.sz3 T.zv3 rfl ?_
    intro bl
    refine At.ownB (n := 1) 1 (by repeat (first | with_reducible exact At1.head _ _ | apply At1.tail)) rfl rfl ?_
    refine At.ownEq (n := 1) (cs := [.int .i64 0]) (n' := ([0] : List Int).length) (cs' := ints [0]) (hn := rfl) (he := rfl) (h := ?_)
    refine At.sealI (n := ([0] : List Int).length) [0] rfl (by intro z hz; simp at hz; unfold i64; omega) (fun _ _ => ?_)
    refine At.do (goes_func cf78 rfl) (r24_from p (p.cs ap cp) (some ⟨bl, 0, none⟩) 1 [0] hg (inc_one 0) (zero_range p) (by simp)) ?_
    intro v
    refine At.sl ?_
    rintro aof cf rfl hcf
    refine At.ev (ev_assign rfl) rfl ?_
    refine At.nil ?_
    refine At.thenN ?_
    refine At.retC ?_
    refine At.ret (rs := [.tmp 2]) rfl (Res.tmp rfl Res.nil) ?_
    rw [hrr]; exact Imp.sl (by repeat (first | with_reducible exact Mem.head _ _ | apply Mem.tail)) hcf (Imp.nil _)

/-- repartee/reparteeref24.Loops -/
theorem r24_Loops (p : Prog) (cs : List Value) : Does Tryz.prog 38 [.agg cs.toArray] [per (relP p cs)] (fun v => pur (v = .bool (loopsP p))) := by
  refine Does.enter Tryz.func38 rfl rfl ?_
  intro E
  refine openProg (x := p) (by repeat (first | with_reducible exact Mem.head _ _ | apply Mem.tail)) ?_
  intro hp ap cp hcp e
  subst e
  
  refine At.seq ?_
  refine At.region ?_
  refine At.boxA rfl ?_
  intro b0
  refine At.ev (ev_assign rfl) rfl ?_
  refine At.nil ?_
  refine At.thenN ?_
  refine At.seq ?_
  refine At.region ?_
  refine At.ev (ldA T.ld26 rfl) rfl ?_
  refine At.do (goes_func cf36 rfl) (r24_Reach p (p.cs ap cp)) ?_
  intro v
  refine At.sl ?_
  rintro aoq cq rfl hcq
  refine At.ev (ev_assign rfl) rfl ?_
  refine At.nil ?_
  refine At.thenN ?_
  refine At.seq ?_
  refine At.seq ?_
  refine At.region ?_
  refine At.ev (ev_assign rfl) rfl ?_
  refine At.nil ?_
  refine At.thenN ?_
  refine At.block ?_
  refine At.lenb (α := Int) (xs := reachR p) (by repeat (first | with_reducible exact Mem.head _ _ | apply Mem.tail)) ?_
  unfold big
  intro hlr
  refine At.loopF1 [(2, 2), (4, 6), (9, 37)] (fun (i : Nat) => (reachR p).length - i) (fun (i : Nat) => i ≤ (reachR p).length ∧ ∀ z ∈ (reachR p).take i, z ∉ fromP p (p.ops.length + 1) (nextP p z)) (fun (i : Nat) => [(4, .val (.int .i64 i))]) (fun (i : Nat) => []) (0) (⟨by omega, by simp⟩) ⟨rfl, trivial⟩ ?_
  intro i hk
  refine At.cat0 ?_
  obtain ⟨hk1, hk2⟩ := hk
  refine At.seq ?_
  refine At.seq ?_
  refine At.region ?_
  refine At.ev (ev_move rfl) rfl ?_
  refine At.ev (ev_move rfl) rfl ?_
  refine At.ev (ev_lenl T.un68 rfl) rfl ?_
  refine At.ev (ev_lss rfl rfl) rfl ?_
  refine At.nil ?_
  refine At.thenN ?_
  refine At.condD rfl ?_ ?_
  · intro h0
    have hli : i < (reachR p).length := by omega
    refine At.get (α := Int) (xs := (reachR p)) (by repeat (first | with_reducible exact Mem.head _ _ | apply Mem.tail)) i hli 1 rfl ?_
    intro ady y csy eq hy
    cases eq
    refine At.have (φ := csy = [.int .i64 y]) (fun w hs => (hs.per (φ := relP y csy) (by repeat (first | with_reducible exact Mem.head _ _ | apply Mem.tail))).1) ?_
    intro ey
    subst ey
    have hg := reachR_good (List.mem_of_getElem? hy)
    have hrr : reachR p = fromP p (p.ops.length + 1) [0] := if_pos hg
    have hgo := (goodP_ops hg).1
    have hyr := fromP_range hg (zero_range p) _ y (by rw [← hrr]; exact List.mem_of_getElem? hy)
    refine At.skip ?_
    refine At.thenN ?_
    refine At.seq ?_
    refine At.block ?_
    refine At.seq ?_
    refine At.drawH (.q1 0 (.q1 1 (.q0 2 (.q0 3 (.q0 4 (.q1 5 (.br 6 (.br 7 (.q0 8 (.nil)) (.stop)) (.stop)))))))) (fun j => !([7] : List Nat).contains j) mixed (by kernel_rfl) (by kernel_rfl) (NoP.thn (NoP.blk (NoP.thn (NoP.thn (NoP.blk (NoP.thn NoP.body)))))) ?_
    refine At.c1 rfl (Imp.refl _) (ldA T.ld26 rfl) rfl ?_
    refine At.c1 rfl (Imp.refl _) (ldA T.ld26 rfl) rfl ?_
    refine At.c0 rfl (ev_move rfl) rfl ?_
    refine At.c0 rfl (ev_move rfl) rfl ?_
    refine At.c0 rfl (ev_ian T.un68 T.sz3 rfl rfl (by omega)) rfl ?_
    refine At.c1 rfl (Imp.refl _) (ld T.ld3 rfl) rfl ?_
    refine At.c2 rfl ?_ ?_
    · intro w0
      refine At.do (goes_func cf34 rfl) (r24_Next p (p.cs ap cp) y (by unfold i64; omega)) ?_
      intro v
      refine At.sl ?_
      rintro aon cn rfl hcn
      rw [nextG_good hg]
      refine At.nil ?_
      refine At.cn (fun _ => ?_) ?_
      · first | exact Imp.refl _ | exact fun _ _ h => h.drop | exact fun _ _ h => h.drop.drop | exact fun _ _ h => h.drop.drop.drop | exact fun _ _ h => h.drop.drop.drop.drop | (repeat (first | exact Imp.nil _ | (with_reducible apply Imp.per; · repeat (first | with_reducible exact Mem.head _ _ | apply Mem.tail)) | (with_reducible apply Imp.one; · repeat (first | with_reducible exact At1.head _ _ | apply At1.tail))))
      refine At.c2 rfl ?_ ?_
      · intro w0
        refine At.do (goes_func cf78 rfl) (r24_from p (p.cs ap cp) aon cn (nextP p y) hg (nextP_inc p y) (nextP_range hg y) (by rw [← nextG_good hg]; exact hcn)) ?_
        intro v
        refine At.sl ?_
        rintro aof cf rfl hcf
        refine At.nil ?_
        refine At.cn (fun h => absurd h (by decide)) ?_
        refine At.c0 rfl (ev_assign rfl) rfl ?_
        refine At.cnil ?_
        have hbm := Inc.len0 (fromP_inc (nextP_inc p y) (p.ops.length + 1)) (fromP_range hg (nextP_range hg y) (p.ops.length + 1))
        refine At.thenN ?_
        refine At.seq ?_
        refine At.region ?_
        refine At.ev (ev_assign rfl) rfl ?_
        refine At.nil ?_
        refine At.thenN ?_
        refine At.block ?_
        refine At.loopF1 [(2, 2), (6, 6), (23, 37)] (fun (k : Nat) => (fromP p (p.ops.length + 1) (nextP p y)).length - k) (fun (k : Nat) => k ≤ (fromP p (p.ops.length + 1) (nextP p y)).length ∧ ∀ z ∈ (fromP p (p.ops.length + 1) (nextP p y)).take k, z ≠ y) (fun (k : Nat) => [(6, .val (.int .i64 k))]) (fun (k : Nat) => []) (0) (⟨by omega, by simp⟩) ⟨rfl, trivial⟩ ?_
        intro k hq
        refine At.cat0 ?_
        obtain ⟨hq1, hq2⟩ := hq
        refine At.seq ?_
        refine At.seq ?_
        refine At.region ?_
        refine At.ev (ev_move rfl) rfl ?_
        refine At.ev (ev_move rfl) rfl ?_
        refine At.ev (ev_lenl T.un68 rfl) rfl ?_
        refine At.ev (ev_lss rfl rfl) rfl ?_
        refine At.nil ?_
        refine At.thenN ?_
        refine At.condD rfl ?_ ?_
        · intro h1
          have hlk : k < (fromP p (p.ops.length + 1) (nextP p y)).length := by omega
          refine At.get (α := Int) (xs := (fromP p (p.ops.length + 1) (nextP p y))) (by repeat (first | with_reducible exact Mem.head _ _ | apply Mem.tail)) k hlk 1 rfl ?_
          intro adz z csz eq hz
          cases eq
          refine At.have (φ := csz = [.int .i64 z]) (fun w hs => (hs.per (φ := relP z csz) (by repeat (first | with_reducible exact Mem.head _ _ | apply Mem.tail))).1) ?_
          intro ez
          subst ez
          refine At.skip ?_
          refine At.thenN ?_
          refine At.seq ?_
          refine At.block ?_
          refine At.seq ?_
          refine At.drawH (.q0 0 (.q0 1 (.q0 2 (.q1 3 (.q0 4 (.q0 5 (.q0 6 (.q1 7 (.q0 8 (.nil)))))))))) (fun j => !([] : List Nat).contains j) mixed (by kernel_rfl) (by kernel_rfl) (NoP.thn (NoP.blk (NoP.thn (NoP.thn (NoP.blk (NoP.blk (NoP.thn (NoP.thn (NoP.blk (NoP.thn NoP.body)))))))))) ?_
          refine At.c0 rfl (ev_move rfl) rfl ?_
          refine At.c0 rfl (ev_move rfl) rfl ?_
          refine At.c0 rfl (ev_ian T.un68 T.sz3 rfl rfl (by omega)) rfl ?_
          refine At.c1 rfl (Imp.refl _) (ld T.ld3 rfl) rfl ?_
          refine At.c0 rfl (ev_move rfl) rfl ?_
          refine At.c0 rfl (ev_move rfl) rfl ?_
          refine At.c0 rfl (ev_ian T.un68 T.sz3 rfl rfl (by omega)) rfl ?_
          refine At.c1 rfl (Imp.refl _) (ld T.ld3 rfl) rfl ?_
          refine At.c0 rfl (ev_eqi rfl rfl) rfl ?_
          refine At.cnil ?_
          refine At.thenN ?_
          refine At.condD rfl ?_ ?_
          · intro h2
            have hzm := List.mem_of_getElem? hz
            rw [h2] at hzm
            have hb := loops_two (p := p) (b := true) ⟨fun _ => ⟨y, List.mem_of_getElem? hy, hzm⟩, fun _ => rfl⟩
            refine At.seq ?_
            refine At.region ?_
            refine At.ev (ev_assign rfl) rfl ?_
            refine At.nil ?_
            refine At.thenN ?_
            refine At.retC ?_
            refine At.blkR ?_
            refine At.thenR ?_
            refine At.thenR ?_
            refine At.blkR ?_
            refine At.blkR ?_
            refine At.thenR ?_
            refine At.thenR ?_
            refine At.blkR ?_
            refine At.thenR ?_
            refine At.ret (rs := [.tmp 2]) rfl (Res.tmp rfl Res.nil) ?_
            rw [← hb]; exact Imp.pur rfl (Imp.nil _)
          · intro h2
            refine At.skip ?_
            refine At.blkN ?_
            refine At.thenN ?_
            refine At.region ?_
            refine At.ev (ev_move rfl) rfl ?_
            refine At.ev (ev_add rfl rfl (by omega)) rfl ?_
            refine At.ev (ev_assign rfl) rfl ?_
            refine At.nil ?_
            refine At.thenN ?_
            refine At.againF1 (k + 1) (by omega) (⟨by omega, fun u hu => by
                rw [List.take_add_one, hz] at hu
                rcases List.mem_append.1 hu with hu | hu
                · exact hq2 u hu
                · simp at hu; omega⟩) ⟨rfl, trivial⟩
        · intro h1
          obtain rfl : k = (fromP p (p.ops.length + 1) (nextP p y)).length := by omega
          rw [List.take_length] at hq2
          refine At.exit ?_
          refine At.thenX ?_
          refine At.thenX ?_
          refine At.blkX ?_
          refine At.blkN ?_
          refine At.thenN ?_
          refine At.region ?_
          refine At.ev (ev_move rfl) rfl ?_
          refine At.ev (ev_add rfl rfl (by omega)) rfl ?_
          refine At.ev (ev_assign rfl) rfl ?_
          refine At.nil ?_
          refine At.thenN ?_
          refine At.againF1 (i + 1) (by omega) (⟨by omega, fun u hu => by
              rw [List.take_add_one, hy] at hu
              rcases List.mem_append.1 hu with hu | hu
              · exact hk2 u hu
              · simp at hu; subst hu; exact fun h => hq2 _ h rfl⟩) ⟨rfl, trivial⟩
      exact At.cstop
    exact At.cstop
  · intro h0
    obtain rfl : i = (reachR p).length := by omega
    rw [List.take_length] at hk2
    have hb := loops_two (p := p) (b := false) ⟨fun h => (by cases h), fun ⟨z, h1, h2⟩ => absurd h2 (hk2 z h1)⟩
    refine At.exit ?_
    refine At.thenX ?_
    refine At.thenX ?_
    refine At.blkX ?_
    refine At.thenN ?_
    refine At.seq ?_
    refine At.region ?_
    refine At.ev (ev_assign rfl) rfl ?_
    refine At.nil ?_
    refine At.thenN ?_
    refine At.retC ?_
    refine At.ret (rs := [.tmp 2]) rfl (Res.tmp rfl Res.nil) ?_
    rw [← hb]; exact Imp.pur rfl (Imp.nil _)

end Go.Proofs.YtebjpeonbfhdhaaGreat
