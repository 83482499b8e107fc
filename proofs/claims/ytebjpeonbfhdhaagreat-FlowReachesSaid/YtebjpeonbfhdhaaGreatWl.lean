import Derived.Test.YtebjpeonbfhdhaaGreatWk
import Derived.Test.YtebjpeonbfhdhaaGreatSp14
import Derived.Test.YtebjpeonbfhdhaaGreatSx15
set_option linter.unusedVariables false
set_option linter.unusedSimpArgs false
namespace Go.Proofs.YtebjpeonbfhdhaaGreat
open Go Go.Sx Go.Proofs
set_option maxRecDepth 100000
set_option maxHeartbeats 2000000

attribute [local irreducible] Go.Sx.opsW Go.Sx.cW Go.Code.wp Go.Sx.At

/-- repartee/flow.Reach -/
theorem flow_Reach (p : Prog) (cs : List Value) : Does Tryz.prog 35 [.agg cs.toArray] [per (relP p cs)] (fun v => rowI v (reachP p)) := by
  refine Does.enter Tryz.func35 rfl rfl ?_
  intro E
  refine openProg (x := p) (by repeat (first | with_reducible exact Mem.head _ _ | apply Mem.tail)) ?_
  intro hp ap cp hcp e
  subst e
  
  refine At.seq ?_
  refine At.region ?_
  refine At.boxA rfl ?_
  intro b0
  refine At.ev (ev_assign rfl) rfl ?_
  refine At.nil ?_
  refine At.thenN ?_
  refine At.seq ?_
  refine At.region ?_
  refine At.ev (ev_assign rfl) rfl ?_
  refine At.nil ?_
  refine At.thenN ?_
  refine At.seq ?_
  refine At.seq ?_
  refine At.region ?_
  refine At.ev (ldA T.ld26 rfl) rfl ?_
  refine At.callq (goes_func cf74 rfl) (Qc.stay (prog_Good p (p.cs ap cp))) rfl ?_
  refine At.ev (ev_not rfl) rfl ?_
  refine At.nil ?_
  refine At.thenN ?_
  refine At.cond rfl ?_ ?_
  · intro h0
    try simp only [decide_eq_true_eq, decide_eq_false_iff_not, Bool.not_eq_true', Bool.not_eq_false', Bool.cond_false_right, Bool.cond_true_left, Bool.and_eq_true, Bool.or_eq_true, Bool.and_eq_false_iff, Bool.or_eq_false_iff, Bool.not_true, Bool.not_false] at h0
    have hr0 : reachP p = [] := by unfold reachP; rw [if_neg (by simp [h0])]
    refine At.seq ?_
    refine At.region ?_
    refine At.ev (ev_assign rfl) rfl ?_
    refine At.nil ?_
    refine At.thenN ?_
    refine At.retC ?_
    refine At.thenR ?_
    refine At.ret (rs := [.tmp 2]) rfl (Res.tmp rfl Res.nil) ?_
    rw [hr0]; exact Imp.own_nil 3 1 |>.trans (Imp.one (.head _ _) (Imp.nil _))
  · intro h0
    try simp only [decide_eq_true_eq, decide_eq_false_iff_not, Bool.not_eq_true', Bool.not_eq_false', Bool.cond_false_right, Bool.cond_true_left, Bool.and_eq_true, Bool.or_eq_true, Bool.and_eq_false_iff, Bool.or_eq_false_iff, Bool.not_true, Bool.not_false] at h0
    have hg : goodP patErr p = true := by simpa using h0
    have hg2 := (goodP_ops hg).1
    refine At.skip ?_
    refine At.thenN ?_
    refine At.seq ?_
    refine At.seq ?_
    refine At.region ?_
    refine At.ev (ldA T.ld26 rfl) rfl ?_
    refine At.bsl [.int .i64 0] T.un68 T.sz3 T.zv3 rfl ?_
    intro b1
    refine At.ownB (n := 1) 1 (by repeat (first | with_reducible exact At1.head _ _ | apply At1.tail)) rfl rfl ?_
    refine At.ownEq (n := 1) (cs := [.int .i64 0]) (n' := ([0] : List Int).length) (cs' := ints [0]) (hn := rfl) (he := rfl) (h := ?_)
    refine At.do (goes_func cf77 rfl) (flow_walk p (p.cs ap cp) _ 1 [0] hg (zero_range p) (by decide)) ?_
    intro _
    refine At.ownV (.head _ _) fun aw cw e _ _ => ?_
    subst e
    have hwl := walkP_len p [0]
    refine At.ev (ev_lenl T.un114 rfl) rfl ?_
    refine At.ev (ev_move rfl) rfl ?_
    refine At.nil ?_
    refine At.thenN ?_
    refine At.block ?_
    refine At.ownNil (t := 3) 1 ?_
    refine At.ownEq (n := 0) (cs := []) (n' := ([] : List Int).length) (cs' := ints []) (hn := rfl) (he := rfl) (h := ?_)
    refine At.loopF4 [(3, 5), (13, 23)] (fun (k : Nat) (o : List Int) (ao : Option Addr) (c : Nat) => p.ops.length + 1 - k) (fun (k : Nat) (o : List Int) (ao : Option Addr) (c : Nat) => k ≤ p.ops.length + 1 ∧ o = reachK (walkP p [0]) k) (fun (k : Nat) (o : List Int) (ao : Option Addr) (c : Nat) => [(3, .val (.slice ao o.length c)), (13, .val (.int .i64 k))]) (fun (k : Nat) (o : List Int) (ao : Option Addr) (c : Nat) => [own (.slice ao o.length c) 3 1 o.length (ints o)]) (0) ([]) (none) (0) (⟨by omega, rfl⟩) ⟨rfl, rfl, trivial⟩ ?_
    intro k o ao c hk
    refine At.cat1 ?_
    obtain ⟨hk1, hk2⟩ := hk
    have hol := reachK_len (walkP p [0]) k
    rw [← hk2] at hol
    refine At.seq ?_
    refine At.region ?_
    refine At.ev (ev_lss rfl rfl) rfl ?_
    refine At.nil ?_
    refine At.thenN ?_
    refine At.seq ?_
    refine At.condD rfl ?_ ?_
    · intro h1
      refine At.ownAd (ao := aw) (n := p.ops.length + 1) (c := cw) (t := 4) (sz := 1) (cs := bools (walkP p [0])) (hm := by repeat (first | with_reducible exact Mem.head _ _ | apply Mem.tail)) (hn := by omega) (h := ?_)
      intro bw ew _
      subst ew
      refine At.skip ?_
      refine At.thenN ?_
      refine At.seq ?_
      refine At.block ?_
      refine At.seq ?_
      refine At.region ?_
      refine At.ev (ev_move rfl) rfl ?_
      refine At.ev (ev_ia (i := (k : Int)) (n := p.ops.length + 1) T.un114 T.sz4 rfl rfl (by omega) (by omega)) rfl ?_
      refine At.ev (ld T.ld4 rfl (v := .bool ((walkP p [0]).getD k false)) (hc := Cell.own (by repeat (first | with_reducible exact Mem.head _ _ | apply Mem.tail)) (by rw [Nat.mul_one, Int.toNat_natCast]; exact bools_getD (by omega)))) rfl ?_
      refine At.ev (ev_assign rfl) rfl ?_
      refine At.ev (ev_assign rfl) rfl ?_
      refine At.nil ?_
      refine At.thenN ?_
      refine At.seq ?_
      refine At.region ?_
      refine At.ev (ev_move rfl) rfl ?_
      refine At.nil ?_
      refine At.thenN ?_
      refine At.joinQ3 [(3, 3), (19, 22)] (fun (o2 : List Int) (ao2 : Option Addr) (c2 : Nat) => o2 = reachK (walkP p [0]) (k + 1)) (fun (o2 : List Int) (ao2 : Option Addr) (c2 : Nat) => [(3, .val (.slice ao2 o2.length c2))]) (fun (o2 : List Int) (ao2 : Option Addr) (c2 : Nat) => [own (.slice ao2 o2.length c2) 3 1 o2.length (ints o2)]) [own (.slice ao o.length c) 3 1 o.length (ints o)] ?_ ?_
      · skip
        refine At.cond rfl ?_ ?_
        · intro h2
          try simp only [decide_eq_true_eq, decide_eq_false_iff_not, Bool.not_eq_true', Bool.not_eq_false', Bool.cond_false_right, Bool.cond_true_left, Bool.and_eq_true, Bool.or_eq_true, Bool.and_eq_false_iff, Bool.or_eq_false_iff, Bool.not_true, Bool.not_false] at h2
          refine At.region ?_
          refine At.ev (ev_move rfl) rfl ?_
          refine At.ev (ev_move rfl) rfl ?_
          refine At.bsl [.int .i64 k] T.un68 T.sz3 T.zv3 rfl ?_
          intro b2
          refine At.app2 T.ti68 T.un68 rfl rfl ?_
          intro ao3 c3 hcc3 hmc3
          refine At.ev (ev_assign rfl) rfl ?_
          refine At.nil ?_
          refine At.thenN ?_
          refine At.ownEq (n' := (o ++ [(k : Int)]).length) (cs' := ints (o ++ [(k : Int)])) (hn := by simp) (he := by rw [ints_append]; rfl) (h := ?_)
          refine At.meet3 (o ++ [(k : Int)]) (ao3) (c3) (by rw [hk2]; exact reachK_t h2) ⟨by simp; rfl, trivial⟩
        · intro h2
          try simp only [decide_eq_true_eq, decide_eq_false_iff_not, Bool.not_eq_true', Bool.not_eq_false', Bool.cond_false_right, Bool.cond_true_left, Bool.and_eq_true, Bool.or_eq_true, Bool.and_eq_false_iff, Bool.or_eq_false_iff, Bool.not_true, Bool.not_false] at h2
          refine At.skip ?_
          refine At.thenN ?_
          refine At.meet3 (o) (ao) (c) (by rw [hk2]; exact reachK_f h2) ⟨rfl, trivial⟩
      intro o2 ao2 c2 hj
      refine At.cat1 ?_
      refine At.blkN ?_
      refine At.thenN ?_
      refine At.region ?_
      refine At.ev (ev_add rfl rfl (by omega)) rfl ?_
      refine At.ev (ev_move rfl) rfl ?_
      refine At.nil ?_
      refine At.thenN ?_
      refine At.againF4 (k + 1) (o2) (ao2) (c2) (by omega) (⟨by omega, hj⟩) ⟨rfl, rfl, trivial⟩
    · intro h1
      obtain rfl : k = p.ops.length + 1 := by omega
      rw [← reachP_good hg] at hk2
      subst hk2
      refine At.exit ?_
      refine At.thenX ?_
      refine At.thenX ?_
      refine At.blkX ?_
      refine At.thenN ?_
      refine At.seq ?_
      refine At.region ?_
      refine At.ev (ev_move rfl) rfl ?_
      refine At.ev (ev_assign rfl) rfl ?_
      refine At.nil ?_
      refine At.thenN ?_
      refine At.retC ?_
      refine At.ret (rs := [.tmp 2]) rfl (Res.tmp rfl Res.nil) ?_
      exact Imp.one (.head _ _) (Imp.nil _)

/-- repartee/flow.Loops -/
theorem flow_Loops (p : Prog) (cs : List Value) : Does Tryz.prog 37 [.agg cs.toArray] [per (relP p cs)] (fun v => pur (v = .bool (loopsP p))) := by
  refine Does.enter Tryz.func37 rfl rfl ?_
  intro E
  refine openProg (x := p) (by repeat (first | with_reducible exact Mem.head _ _ | apply Mem.tail)) ?_
  intro hp ap cp hcp e
  subst e
  
  refine At.seq ?_
  refine At.region ?_
  refine At.boxA rfl ?_
  intro b0
  refine At.ev (ev_assign rfl) rfl ?_
  refine At.nil ?_
  refine At.thenN ?_
  refine At.seq ?_
  refine At.seq ?_
  refine At.region ?_
  refine At.ev (ldA T.ld26 rfl) rfl ?_
  refine At.callq (goes_func cf74 rfl) (Qc.stay (prog_Good p (p.cs ap cp))) rfl ?_
  refine At.ev (ev_not rfl) rfl ?_
  refine At.nil ?_
  refine At.thenN ?_
  refine At.cond rfl ?_ ?_
  · intro h0
    try simp only [decide_eq_true_eq, decide_eq_false_iff_not, Bool.not_eq_true', Bool.not_eq_false', Bool.cond_false_right, Bool.cond_true_left, Bool.and_eq_true, Bool.or_eq_true, Bool.and_eq_false_iff, Bool.or_eq_false_iff, Bool.not_true, Bool.not_false] at h0
    refine At.seq ?_
    refine At.region ?_
    refine At.ev (ev_assign rfl) rfl ?_
    refine At.nil ?_
    refine At.thenN ?_
    refine At.retC ?_
    refine At.thenR ?_
    refine At.ret (rs := [.tmp 2]) rfl (Res.tmp rfl Res.nil) ?_
    exact Imp.pur (by unfold loopsP; rw [show goodP patErr p = false by simpa using h0]; rfl) (Imp.nil _)
  · intro h0
    try simp only [decide_eq_true_eq, decide_eq_false_iff_not, Bool.not_eq_true', Bool.not_eq_false', Bool.cond_false_right, Bool.cond_true_left, Bool.and_eq_true, Bool.or_eq_true, Bool.and_eq_false_iff, Bool.or_eq_false_iff, Bool.not_true, Bool.not_false] at h0
    have hg : goodP patErr p = true := by simpa using h0
    have hg2 := (goodP_ops hg).1
    refine At.skip ?_
    refine At.thenN ?_
    refine At.seq ?_
    refine At.seq ?_
    refine At.region ?_
    refine At.ev (ldA T.ld26 rfl) rfl ?_
    refine At.bsl [.int .i64 0] T.un68 T.sz3 T.zv3 rfl ?_
    intro b1
    refine At.ownB (n := 1) 1 (by repeat (first | with_reducible exact At1.head _ _ | apply At1.tail)) rfl rfl ?_
    refine At.ownEq (n := 1) (cs := [.int .i64 0]) (n' := ([0] : List Int).length) (cs' := ints [0]) (hn := rfl) (he := rfl) (h := ?_)
    refine At.do (goes_func cf77 rfl) (flow_walk p (p.cs ap cp) _ 1 [0] hg (zero_range p) (by decide)) ?_
    intro _
    refine At.ownV (.head _ _) fun aw cw e _ _ => ?_
    subst e
    have hwl := walkP_len p [0]
    refine At.ev (ev_lenl T.un114 rfl) rfl ?_
    refine At.ev (ev_move rfl) rfl ?_
    refine At.nil ?_
    refine At.thenN ?_
    refine At.block ?_
    refine At.loopF1 [(2, 4), (12, 28)] (fun (k : Nat) => p.ops.length + 1 - k) (fun (k : Nat) => k ≤ p.ops.length + 1 ∧ ∀ j < k, loopK p j = false) (fun (k : Nat) => [(12, .val (.int .i64 k))]) (fun (k : Nat) => []) (0) (⟨by omega, fun j hj => absurd hj (by omega)⟩) ⟨rfl, trivial⟩ ?_
    intro k hk
    refine At.cat0 ?_
    obtain ⟨hk1, hk2⟩ := hk
    refine At.seq ?_
    refine At.region ?_
    refine At.ev (ev_lss rfl rfl) rfl ?_
    refine At.nil ?_
    refine At.thenN ?_
    refine At.seq ?_
    refine At.condD rfl ?_ ?_
    · intro h1
      refine At.ownAd (ao := aw) (n := p.ops.length + 1) (c := cw) (t := 4) (sz := 1) (cs := bools (walkP p [0])) (hm := by repeat (first | with_reducible exact Mem.head _ _ | apply Mem.tail)) (hn := by omega) (h := ?_)
      intro bw ew _
      subst ew
      refine At.skip ?_
      refine At.thenN ?_
      refine At.seq ?_
      refine At.block ?_
      refine At.seq ?_
      refine At.region ?_
      refine At.ev (ev_move rfl) rfl ?_
      refine At.ev (ev_ia (i := (k : Int)) (n := p.ops.length + 1) T.un114 T.sz4 rfl rfl (by omega) (by omega)) rfl ?_
      refine At.ev (ld T.ld4 rfl (v := .bool ((walkP p [0]).getD k false)) (hc := Cell.own (by repeat (first | with_reducible exact Mem.head _ _ | apply Mem.tail)) (by rw [Nat.mul_one, Int.toNat_natCast]; exact bools_getD (by omega)))) rfl ?_
      refine At.ev (ev_assign rfl) rfl ?_
      refine At.ev (ev_assign rfl) rfl ?_
      refine At.nil ?_
      refine At.thenN ?_
      refine At.seq ?_
      obtain ⟨sb, hsb⟩ : ∃ sb, sb = (walkP p [0]).getD k false := ⟨_, rfl⟩
      rw [← hsb]
      cases sb
      · skip
        refine At.drawH (.q0 0 (.q0 1 (.q1 2 (.q1 3 (.q0 4 (.q0 7 (.br 5 (.br 6 (.q0 8 (.br 9 (.q0 10 (.nil)) (.stop))) (.stop)) (.stop)))))))) (fun j => !([6, 9] : List Nat).contains j) mixed (by kernel_rfl) (by kernel_rfl) (NoP.thn (NoP.blk (NoP.thn (NoP.thn (NoP.blk (NoP.thn NoP.body)))))) ?_
        refine At.c0 rfl (ev_move rfl) rfl ?_
        refine At.c0 rfl (ev_move rfl) rfl ?_
        refine At.c1g (v := undef) rfl (Imp.refl _) rfl rfl (fun hg => absurd hg (by decide)) rfl rfl ?_
        refine At.c1g (v := undef) rfl (Imp.refl _) rfl rfl (fun hg => absurd hg (by decide)) rfl rfl ?_
        refine At.c0g (v := undef) rfl rfl rfl (fun hg => absurd hg (by decide)) rfl rfl ?_
        refine At.c0g (v := undef) rfl rfl rfl (fun hg => absurd hg (by decide)) rfl rfl ?_
        refine At.c2 rfl ?_ ?_
        · intro w0
          refine At.split rfl rfl rfl (fun h => absurd h (by decide)) (fun _ => ?_)
          refine At.nil ?_
          refine At.cn (fun _ => ?_) ?_
          · first | exact Imp.refl _ | exact fun _ _ h => h.drop | exact fun _ _ h => h.drop.drop | exact fun _ _ h => h.drop.drop.drop | exact fun _ _ h => h.drop.drop.drop.drop | (repeat (first | exact Imp.nil _ | (with_reducible apply Imp.per; · repeat (first | with_reducible exact Mem.head _ _ | apply Mem.tail)) | (with_reducible apply Imp.one; · repeat (first | with_reducible exact At1.head _ _ | apply At1.tail))))
          refine At.c2 rfl ?_ ?_
          · intro w0
            refine At.split rfl rfl rfl (fun h => absurd h (by decide)) (fun _ => ?_)
            refine At.nil ?_
            refine At.cn (fun h => absurd h (by decide)) ?_
            refine At.c0g (v := undef) rfl rfl rfl (fun hg => absurd hg (by decide)) rfl rfl ?_
            refine At.c2 rfl ?_ ?_
            · intro w0
              refine At.split rfl rfl rfl (fun h => absurd h (by decide)) (fun _ => ?_)
              refine At.nil ?_
              refine At.cn (fun h => absurd h (by decide)) ?_
              refine At.c0 rfl (ev_pickF rfl rfl rfl) rfl ?_
              refine At.cnil ?_
              refine At.thenN ?_
              refine At.cond rfl ?_ ?_
              · intro h2
                try simp only [decide_eq_true_eq, decide_eq_false_iff_not, Bool.not_eq_true', Bool.not_eq_false', Bool.cond_false_right, Bool.cond_true_left, Bool.and_eq_true, Bool.or_eq_true, Bool.and_eq_false_iff, Bool.or_eq_false_iff, Bool.not_true, Bool.not_false] at h2
                exact absurd h2 (by decide)
              · intro h2
                try simp only [decide_eq_true_eq, decide_eq_false_iff_not, Bool.not_eq_true', Bool.not_eq_false', Bool.cond_false_right, Bool.cond_true_left, Bool.and_eq_true, Bool.or_eq_true, Bool.and_eq_false_iff, Bool.or_eq_false_iff, Bool.not_true, Bool.not_false] at h2
                refine At.skip ?_
                refine At.blkN ?_
                refine At.thenN ?_
                refine At.region ?_
                refine At.ev (ev_add rfl rfl (by omega)) rfl ?_
                refine At.ev (ev_move rfl) rfl ?_
                refine At.nil ?_
                refine At.thenN ?_
                refine At.againF1 (k + 1) (by omega) (⟨by omega, fun j hj => by
                    by_cases e : j = k
                    · subst e; unfold loopK; rw [← hsb]; rfl
                    · exact hk2 j (by omega)⟩) ⟨rfl, trivial⟩
            exact At.cstop
          exact At.cstop
        exact At.cstop
      · skip
        refine At.drawH (.q0 0 (.q0 1 (.q1 2 (.q1 3 (.q0 4 (.q0 7 (.br 5 (.br 6 (.q0 8 (.br 9 (.q0 10 (.nil)) (.stop))) (.stop)) (.stop)))))))) (fun j => !([6, 9] : List Nat).contains j) mixed (by kernel_rfl) (by kernel_rfl) (NoP.thn (NoP.blk (NoP.thn (NoP.thn (NoP.blk (NoP.thn NoP.body)))))) ?_
        refine At.c0 rfl (ev_move rfl) rfl ?_
        refine At.c0 rfl (ev_move rfl) rfl ?_
        refine At.c1g rfl (Imp.refl _) rfl rfl (fun hg => (ldA T.ld26 rfl)) rfl rfl ?_
        refine At.c1g rfl (Imp.refl _) rfl rfl (fun hg => (ldA T.ld26 rfl)) rfl rfl ?_
        refine At.c0g rfl rfl rfl (fun hg => (ev_move rfl)) rfl rfl ?_
        refine At.c0g rfl rfl rfl (fun hg => (ev_move rfl)) rfl rfl ?_
        refine At.c2 rfl ?_ ?_
        · intro w0
          refine At.ungd (s := 18) (b := true) (i := 20) rfl rfl ?_
          refine At.ungd (s := 18) (b := true) (i := 21) rfl rfl ?_
          refine At.split rfl rfl rfl (fun _ => ?_) (fun h => absurd h (by decide))
          refine At.do (goes_func cf75 rfl) (flow_next p (p.cs ap cp) k hg) ?_
          intro _
          refine At.rowI ?_
          intro aon cn e _ _
          subst e
          refine At.nil ?_
          refine At.cn (fun _ => ?_) ?_
          · first | exact Imp.refl _ | exact fun _ _ h => h.drop | exact fun _ _ h => h.drop.drop | exact fun _ _ h => h.drop.drop.drop | exact fun _ _ h => h.drop.drop.drop.drop | (repeat (first | exact Imp.nil _ | (with_reducible apply Imp.per; · repeat (first | with_reducible exact Mem.head _ _ | apply Mem.tail)) | (with_reducible apply Imp.one; · repeat (first | with_reducible exact At1.head _ _ | apply At1.tail))))
          refine At.c2 rfl ?_ ?_
          · intro w0
            refine At.ungd (s := 18) (b := true) (i := 19) rfl rfl ?_
            refine At.ungd (s := 18) (b := true) (i := 22) rfl rfl ?_
            refine At.split rfl rfl rfl (fun _ => ?_) (fun h => absurd h (by decide))
            refine At.do (goes_func cf77 rfl) (flow_walk p (p.cs ap cp) aon cn (nextP p k) hg (nextP_range hg k) (by have := nextP_len hg k; omega)) ?_
            intro _
            refine At.ownV (.head _ _) fun ax cx e _ _ => ?_
            subst e
            have hxl := walkP_len p (nextP p k)
            refine At.ownAd (ao := ax) (n := p.ops.length + 1) (c := cx) (t := 4) (sz := 1) (cs := bools (walkP p (nextP p k))) (hm := by repeat (first | with_reducible exact Mem.head _ _ | apply Mem.tail)) (hn := by omega) (h := ?_)
            intro bx ex _
            subst ex
            refine At.nil ?_
            refine At.cn (fun h => absurd h (by decide)) ?_
            refine At.c0g rfl rfl rfl (fun hg => (ev_ia (i := (k : Int)) (n := p.ops.length + 1) T.un114 T.sz4 rfl rfl (by omega) (by omega))) rfl rfl ?_
            refine At.c2 rfl ?_ ?_
            · intro w0
              refine At.ungd (s := 18) (b := true) (i := 25) rfl rfl ?_
              refine At.split rfl rfl rfl (fun _ => ?_) (fun h => absurd h (by decide))
              refine At.ev (ld T.ld4 rfl (v := .bool ((walkP p (nextP p k)).getD k false)) (hc := Cell.own (by repeat (first | with_reducible exact Mem.head _ _ | apply Mem.tail)) (by rw [Nat.mul_one, Int.toNat_natCast]; exact bools_getD (by omega)))) rfl ?_
              refine At.nil ?_
              refine At.cn (fun h => absurd h (by decide)) ?_
              refine At.c0 rfl (ev_pickT rfl rfl rfl) rfl ?_
              refine At.cnil ?_
              refine At.thenN ?_
              refine At.cond rfl ?_ ?_
              · intro h2
                try simp only [decide_eq_true_eq, decide_eq_false_iff_not, Bool.not_eq_true', Bool.not_eq_false', Bool.cond_false_right, Bool.cond_true_left, Bool.and_eq_true, Bool.or_eq_true, Bool.and_eq_false_iff, Bool.or_eq_false_iff, Bool.not_true, Bool.not_false] at h2
                have hlk : loopK p k = true := by unfold loopK; rw [← hsb, h2]; rfl
                refine At.seq ?_
                refine At.region ?_
                refine At.ev (ev_assign rfl) rfl ?_
                refine At.nil ?_
                refine At.thenN ?_
                refine At.retC ?_
                refine At.blkR ?_
                refine At.thenR ?_
                refine At.thenR ?_
                refine At.blkR ?_
                refine At.thenR ?_
                refine At.ret (rs := [.tmp 2]) rfl (Res.tmp rfl Res.nil) ?_
                exact Imp.pur (by rw [loopsP_good hg (b := true) (by simp; exact ⟨k, by omega, hlk⟩)]; rfl) (Imp.nil _)
              · intro h2
                try simp only [decide_eq_true_eq, decide_eq_false_iff_not, Bool.not_eq_true', Bool.not_eq_false', Bool.cond_false_right, Bool.cond_true_left, Bool.and_eq_true, Bool.or_eq_true, Bool.and_eq_false_iff, Bool.or_eq_false_iff, Bool.not_true, Bool.not_false] at h2
                refine At.skip ?_
                refine At.blkN ?_
                refine At.thenN ?_
                refine At.region ?_
                refine At.ev (ev_add rfl rfl (by omega)) rfl ?_
                refine At.ev (ev_move rfl) rfl ?_
                refine At.nil ?_
                refine At.thenN ?_
                refine At.againF1 (k + 1) (by omega) (⟨by omega, fun j hj => by
                    by_cases e : j = k
                    · subst e; unfold loopK; rw [h2, Bool.and_false]
                    · exact hk2 j (by omega)⟩) ⟨rfl, trivial⟩
            exact At.cstop
          exact At.cstop
        exact At.cstop
    · intro h1
      obtain rfl : k = p.ops.length + 1 := by omega
      refine At.exit ?_
      refine At.thenX ?_
      refine At.thenX ?_
      refine At.blkX ?_
      refine At.thenN ?_
      refine At.seq ?_
      refine At.region ?_
      refine At.ev (ev_assign rfl) rfl ?_
      refine At.nil ?_
      refine At.thenN ?_
      refine At.retC ?_
      refine At.ret (rs := [.tmp 2]) rfl (Res.tmp rfl Res.nil) ?_
      exact Imp.pur (by rw [loopsP_good hg (b := false) (by simp; intro j hj; exact hk2 j (by omega))]; rfl) (Imp.nil _)

/-- repartee/reparteeref04.Same -/
theorem r04_Same (ao bo : Option Addr) (c d : Nat) (a b : List Int) : Does Tryz.prog 32 [.slice ao a.length c, .slice bo b.length d] [per (rdSl ao a), per (rdSl bo b)] (fun v => pur (v = .bool (decide (a = b)))) := by
  refine Does.enter Tryz.func32 rfl rfl ?_
  intro E
  refine At.lenb (α := Int) (xs := a) (by repeat (first | with_reducible exact Mem.head _ _ | apply Mem.tail)) ?_
  unfold big
  intro hla
  refine At.lenb (α := Int) (xs := b) (by repeat (first | with_reducible exact Mem.head _ _ | apply Mem.tail)) ?_
  unfold big
  intro hlb
  refine At.seq ?_
  refine At.region ?_
  refine At.ev (ev_assign rfl) rfl ?_
  refine At.nil ?_
  refine At.thenN ?_
  refine At.seq ?_
  refine At.seq ?_
  refine At.region ?_
  refine At.ev (ev_move rfl) rfl ?_
  refine At.ev (ev_lenl T.un68 rfl) rfl ?_
  refine At.ev (ev_move rfl) rfl ?_
  refine At.ev (ev_lenl T.un68 rfl) rfl ?_
  refine At.ev (ev_nei rfl rfl) rfl ?_
  refine At.nil ?_
  refine At.thenN ?_
  refine At.condDn rfl ?_ ?_
  · intro h0
    refine At.seq ?_
    refine At.region ?_
    refine At.ev (ev_assign rfl) rfl ?_
    refine At.nil ?_
    refine At.thenN ?_
    refine At.retC ?_
    refine At.thenR ?_
    refine At.ret (rs := [.tmp 4]) rfl (Res.tmp rfl Res.nil) ?_
    exact Imp.pur (by rw [show decide (a = b) = false from decide_eq_false (fun e => h0 (by rw [e]))]; rfl) (Imp.nil _)
  · intro h0
    refine At.skip ?_
    refine At.thenN ?_
    refine At.seq ?_
    refine At.seq ?_
    refine At.region ?_
    refine At.ev (ev_assign rfl) rfl ?_
    refine At.nil ?_
    refine At.thenN ?_
    refine At.block ?_
    refine At.loopF1 [(4, 5), (11, 25)] (fun (k : Nat) => a.length - k) (fun (k : Nat) => k ≤ a.length ∧ k ≤ b.length ∧ a.take k = b.take k) (fun (k : Nat) => [(5, .val (.int .i64 k))]) (fun (k : Nat) => []) (0) (⟨by omega, by omega, by simp⟩) ⟨rfl, trivial⟩ ?_
    intro k hk
    refine At.cat0 ?_
    obtain ⟨hk1, hk2, hkt⟩ := hk
    refine At.seq ?_
    refine At.seq ?_
    refine At.region ?_
    refine At.ev (ev_move rfl) rfl ?_
    refine At.ev (ev_move rfl) rfl ?_
    refine At.ev (ev_lenl T.un68 rfl) rfl ?_
    refine At.ev (ev_lss rfl rfl) rfl ?_
    refine At.nil ?_
    refine At.thenN ?_
    refine At.condD rfl ?_ ?_
    · intro h1
      have hlt : k < a.length := by omega
      have hlt2 : k < b.length := by omega
      refine At.get (α := Int) (xs := a) (by repeat (first | with_reducible exact Mem.head _ _ | apply Mem.tail)) k hlt 1 rfl ?_
      intro adx x csx eq hx
      cases eq
      refine At.have (φ := csx = [.int .i64 x]) (fun w hs => (hs.per (φ := relP x csx) (by repeat (first | with_reducible exact Mem.head _ _ | apply Mem.tail))).1) ?_
      intro ex
      subst ex
      refine At.get (α := Int) (xs := b) (by repeat (first | with_reducible exact Mem.head _ _ | apply Mem.tail)) k hlt2 1 rfl ?_
      intro ady y csy eq hy
      cases eq
      refine At.have (φ := csy = [.int .i64 y]) (fun w hs => (hs.per (φ := relP y csy) (by repeat (first | with_reducible exact Mem.head _ _ | apply Mem.tail))).1) ?_
      intro ey
      subst ey
      refine At.skip ?_
      refine At.thenN ?_
      refine At.seq ?_
      refine At.block ?_
      refine At.seq ?_
      refine At.drawH (.q0 0 (.q0 1 (.q0 2 (.q1 3 (.q0 4 (.q0 5 (.q0 6 (.q1 7 (.q0 8 (.nil)))))))))) (fun j => !([] : List Nat).contains j) mixed (by kernel_rfl) (by kernel_rfl) (NoP.thn (NoP.blk (NoP.thn (NoP.thn (NoP.blk (NoP.thn NoP.body)))))) ?_
      refine At.c0 rfl (ev_move rfl) rfl ?_
      refine At.c0 rfl (ev_move rfl) rfl ?_
      refine At.c0 rfl (ev_ian T.un68 T.sz3 rfl rfl (by omega)) rfl ?_
      refine At.c1 rfl (Imp.refl _) (ld T.ld3 rfl) rfl ?_
      refine At.c0 rfl (ev_move rfl) rfl ?_
      refine At.c0 rfl (ev_move rfl) rfl ?_
      refine At.c0 rfl (ev_ian T.un68 T.sz3 rfl rfl (by omega)) rfl ?_
      refine At.c1 rfl (Imp.refl _) (ld T.ld3 rfl) rfl ?_
      refine At.c0 rfl (ev_nei rfl rfl) rfl ?_
      refine At.cnil ?_
      refine At.thenN ?_
      refine At.condDn rfl ?_ ?_
      · intro h2
        refine At.seq ?_
        refine At.region ?_
        refine At.ev (ev_assign rfl) rfl ?_
        refine At.nil ?_
        refine At.thenN ?_
        refine At.retC ?_
        refine At.blkR ?_
        refine At.thenR ?_
        refine At.thenR ?_
        refine At.blkR ?_
        refine At.thenR ?_
        refine At.ret (rs := [.tmp 4]) rfl (Res.tmp rfl Res.nil) ?_
        exact Imp.pur (by rw [show decide (a = b) = false from decide_eq_false (fun e => h2 (by subst e; rw [hx] at hy; injection hy))]; rfl) (Imp.nil _)
      · intro h2
        refine At.skip ?_
        refine At.blkN ?_
        refine At.thenN ?_
        refine At.region ?_
        refine At.ev (ev_move rfl) rfl ?_
        refine At.ev (ev_add rfl rfl (by omega)) rfl ?_
        refine At.ev (ev_assign rfl) rfl ?_
        refine At.nil ?_
        refine At.thenN ?_
        refine At.againF1 (k + 1) (by omega) (⟨by omega, by omega, take_snoc_eq hkt hx hy h2⟩) ⟨rfl, trivial⟩
    · intro h1
      refine At.exit ?_
      refine At.thenX ?_
      refine At.thenX ?_
      refine At.blkX ?_
      refine At.thenN ?_
      refine At.seq ?_
      refine At.region ?_
      refine At.ev (ev_assign rfl) rfl ?_
      refine At.nil ?_
      refine At.thenN ?_
      refine At.retC ?_
      refine At.ret (rs := [.tmp 4]) rfl (Res.tmp rfl Res.nil) ?_
      exact Imp.pur (by rw [show decide (a = b) = true from decide_eq_true (by rw [← List.take_of_length_le (i := k) (l := a) (by omega), hkt, List.take_of_length_le (by omega)])]; rfl) (Imp.nil _)

end Go.Proofs.YtebjpeonbfhdhaaGreat
