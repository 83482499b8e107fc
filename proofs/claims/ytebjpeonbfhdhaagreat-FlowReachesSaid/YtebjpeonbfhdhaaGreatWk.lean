import Derived.Test.YtebjpeonbfhdhaaGreatWj
import Derived.Test.YtebjpeonbfhdhaaGreatSp13
set_option linter.unusedVariables false
set_option linter.unusedSimpArgs false
namespace Go.Proofs.YtebjpeonbfhdhaaGreat
open Go Go.Sx Go.Proofs
set_option maxRecDepth 100000
set_option maxHeartbeats 2000000

theorem At.ownEq {E : En} {N : Nat} {K : Kl} {Hs m : List Asn} {G : Act → World → Prop} {ao : Option Addr} {c t sz n : Nat} {cs : List Value} (hm : At1 Hs (own (.slice ao n c) t sz n cs) m := by repeat (first | with_reducible exact Go.Sx.At1.head _ _ | apply Go.Sx.At1.tail)) (n' : Nat) (cs' : List Value) (hn : n = n') (he : cs = cs') (h : At E N K (own (.slice ao n' c) t sz n' cs' :: m) G) : At E N K Hs G := by
  subst hn; subst he; exact At.front hm h
def rowI (v : Value) (l : List Int) : Asn := own v 3 1 l.length (ints l)
theorem At.rowI {E : En} {N : Nat} {K : Kl} {l : List Asn} {G : Act → World → Prop} {v : Value} {xs : List Int} (h : ∀ ao c, v = .slice ao xs.length c → xs.length ≤ c → c ≤ maxLen → At E N K (own (.slice ao xs.length c) 3 1 xs.length (ints xs) :: l) G) : At E N K (rowI v xs :: l) G :=
  At.ownV (.head _ _) fun ao c e h1 h2 => by subst e; exact h ao c rfl h1 h2
attribute [local irreducible] Go.Sx.opsW Go.Sx.cW Go.Code.wp Go.Sx.At

/-- repartee/flow.next -/
theorem flow_next (p : Prog) (cs : List Value) (a : Int) (hg : goodP patErr p = true) : Does Tryz.prog 75 [.agg cs.toArray, .int .i64 a] [per (relP p cs)] (fun v => rowI v (nextP p a)) := by
  refine Does.enter Tryz.func75 rfl rfl ?_
  intro E
  refine openProg (x := p) (by repeat (first | with_reducible exact Mem.head _ _ | apply Mem.tail)) ?_
  intro hp ap cp hcp e
  subst e
  refine At.lenb (α := Op) (xs := p.ops) (by repeat (first | with_reducible exact Mem.head _ _ | apply Mem.tail)) ?_
  unfold big
  intro hlo
  refine At.seq ?_
  refine At.region ?_
  refine At.boxA rfl ?_
  intro b0
  refine At.ev (ev_assign rfl) rfl ?_
  refine At.nil ?_
  refine At.thenN ?_
  refine At.seq ?_
  refine At.seq ?_
  refine At.region ?_
  refine At.ev (ev_move rfl) rfl ?_
  refine At.ev (ev_lss rfl rfl) rfl ?_
  refine At.ev (ev_move rfl) rfl ?_
  refine At.evg rfl rfl (fun hg => (ev_move rfl)) rfl rfl ?_
  refine At.evg rfl rfl (fun hg => (ev_fa T.fa26_3 rfl)) rfl rfl ?_
  refine At.evg rfl rfl (fun hg => (ld T.ld24 rfl)) rfl rfl ?_
  refine At.evg rfl rfl (fun hg => (ev_lenl T.un24 rfl)) rfl rfl ?_
  refine At.evg rfl rfl (fun hg => (ev_geq rfl rfl)) rfl rfl ?_
  refine At.ev (ev_pickG rfl rfl rfl rfl) rfl ?_
  refine At.nil ?_
  refine At.thenN ?_
  refine At.cond rfl ?_ ?_
  · intro h0
    try simp only [decide_eq_true_eq, decide_eq_false_iff_not, Bool.not_eq_true', Bool.not_eq_false', Bool.cond_false_right, Bool.cond_true_left, Bool.and_eq_true, Bool.or_eq_true, Bool.and_eq_false_iff, Bool.or_eq_false_iff, Bool.not_true, Bool.not_false] at h0
    have hr0 : nextP p a = [] := by unfold nextP; rw [if_pos (by omega)]
    refine At.seq ?_
    refine At.region ?_
    refine At.ev (ev_assign rfl) rfl ?_
    refine At.nil ?_
    refine At.thenN ?_
    refine At.retC ?_
    refine At.thenR ?_
    refine At.ret (rs := [.tmp 4]) rfl (Res.tmp rfl Res.nil) ?_
    rw [hr0]; exact Imp.own_nil 3 1 |>.trans (Imp.one (.head _ _) (Imp.nil _))
  · intro h0
    try simp only [decide_eq_true_eq, decide_eq_false_iff_not, Bool.not_eq_true', Bool.not_eq_false', Bool.cond_false_right, Bool.cond_true_left, Bool.and_eq_true, Bool.or_eq_true, Bool.and_eq_false_iff, Bool.or_eq_false_iff, Bool.not_true, Bool.not_false] at h0
    have ha0 : 0 ≤ a := by omega
    have ha1 : a < p.ops.length := by omega
    obtain ⟨k, rfl⟩ : ∃ k : Nat, a = k := ⟨a.toNat, by omega⟩
    have hlt : k < p.ops.length := by omega
    refine At.get (α := Op) (xs := p.ops) (by repeat (first | with_reducible exact Mem.head _ _ | apply Mem.tail)) k hlt 7 rfl ?_
    intro adx x csx eq hx
    cases eq
    refine openOp (x := x) (by repeat (first | with_reducible exact Mem.head _ _ | apply Mem.tail)) ?_
    intro hox ax cx hcx e
    subst e
    
    refine At.lenb (α := Arm) (xs := x.arms) (by repeat (first | with_reducible exact Mem.head _ _ | apply Mem.tail)) ?_
    unfold big
    intro hlx
    have hgx : p.ops.getD (k : Int).toNat default = x := by simp [List.getD_eq_getElem?_getD, hx]
    have hxo := (goodP_ops hg).2.2.2 x (List.mem_of_getElem? hx)
    obtain ⟨r, hrr⟩ : ∃ r, r = nextRaw x k := ⟨_, rfl⟩
    have hrl := nextRaw_len hxo k
    rw [← hrr] at hrl
    have hrn : nextP p k = compI (isort (nonneg r)) := by unfold nextP; rw [if_neg (by omega), hgx, hrr]
    have hnl : (nonneg r).length ≤ r.length := List.length_filter_le _ _
    have hbb := hp
    refine At.skip ?_
    refine At.thenN ?_
    refine At.seq ?_
    refine At.region ?_
    refine At.ev (ev_fa T.fa26_3 rfl) rfl ?_
    refine At.ev (ld T.ld24 rfl) rfl ?_
    refine At.ev (ev_move rfl) rfl ?_
    refine At.ev (ev_ian T.un24 T.sz56 rfl rfl (by omega)) rfl ?_
    refine At.ev (ldA T.ld56 rfl) rfl ?_
    refine At.new T.zv56 ?_
    intro bx
    refine At.stA T.sz56 rfl rfl rfl ?_ (cs' := (x.cs ax cx))
    refine At.nil ?_
    refine At.thenN ?_
    refine At.seq ?_
    refine At.region ?_
    refine At.ev (ev_assign rfl) rfl ?_
    refine At.nil ?_
    refine At.thenN ?_
    refine At.seq ?_
    refine At.seq ?_
    refine At.region ?_
    refine At.ev (ev_fa T.fa56_0 rfl) rfl ?_
    refine At.ev (ld T.ld3 rfl) rfl ?_
    refine At.nil ?_
    refine At.ownNil (t := 3) 1 ?_
    refine At.thenN ?_
    refine At.block ?_
    refine At.seq ?_
    refine At.seq ?_
    refine At.region ?_
    refine At.ev (ev_eqi rfl rfl) rfl ?_
    refine At.ev (ev_assign rfl) rfl ?_
    refine At.nil ?_
    refine At.thenN ?_
    refine At.joinQ1 [(25, 25), (27, 27)] (fun (b : Bool) => b = decide (x.kind = 1 ∨ x.kind = 4)) (fun (b : Bool) => [(25, .val (.bool b))]) (fun (b : Bool) => []) [] ?_ ?_
    · skip
      refine At.cond rfl ?_ ?_
      · intro h1
        try simp only [decide_eq_true_eq, decide_eq_false_iff_not, Bool.not_eq_true', Bool.not_eq_false', Bool.cond_false_right, Bool.cond_true_left, Bool.and_eq_true, Bool.or_eq_true, Bool.and_eq_false_iff, Bool.or_eq_false_iff, Bool.not_true, Bool.not_false] at h1
        refine At.skip ?_
        refine At.thenN ?_
        refine At.meet1 (_) (by symm; simp; omega) ⟨rfl, trivial⟩
      · intro h1
        try simp only [decide_eq_true_eq, decide_eq_false_iff_not, Bool.not_eq_true', Bool.not_eq_false', Bool.cond_false_right, Bool.cond_true_left, Bool.and_eq_true, Bool.or_eq_true, Bool.and_eq_false_iff, Bool.or_eq_false_iff, Bool.not_true, Bool.not_false] at h1
        refine At.region ?_
        refine At.ev (ev_eqi rfl rfl) rfl ?_
        refine At.ev (ev_assign rfl) rfl ?_
        refine At.nil ?_
        refine At.thenN ?_
        refine At.meet1 (_) (by rw [Bool.eq_iff_iff]; simp; omega) ⟨rfl, trivial⟩
    intro b hb
    refine At.cat0 ?_
    refine At.thenN ?_
    refine At.joinQ2 [(6, 6), (8, 8), (28, 61)] (fun (ao : Option Addr) (c : Nat) => True) (fun (ao : Option Addr) (c : Nat) => [(6, .val (.slice ao r.length c))]) (fun (ao : Option Addr) (c : Nat) => [own (.slice ao r.length c) 3 1 r.length (ints r)]) [own (.slice none 0 0) 3 1 0 []] ?_ ?_
    · skip
      refine At.cond rfl ?_ ?_
      · intro h2
        try simp only [decide_eq_true_eq, decide_eq_false_iff_not, Bool.not_eq_true', Bool.not_eq_false', Bool.cond_false_right, Bool.cond_true_left, Bool.and_eq_true, Bool.or_eq_true, Bool.and_eq_false_iff, Bool.or_eq_false_iff, Bool.not_true, Bool.not_false] at h2
        simp only [hb, decide_eq_true_eq] at h2
        have hr : r = [(k : Int) + 1] := by rw [hrr]; unfold nextRaw; rw [if_pos h2]
        refine At.region ?_
        refine At.ev (ev_move rfl) rfl ?_
        refine At.ev (ev_move rfl) rfl ?_
        refine At.ev (ev_add rfl rfl (by omega)) rfl ?_
        refine At.bsl [.int .i64 ((k : Int) + 1)] T.un68 T.sz3 T.zv3 rfl ?_
        intro b2
        refine At.app2 T.ti68 T.un68 rfl rfl ?_
        intro ao1 c1 hcc1 hmc1
        refine At.ev (ev_assign rfl) rfl ?_
        refine At.nil ?_
        refine At.thenN ?_
        refine At.ownEq (n' := r.length) (cs' := ints r) (hn := by rw [hr]; simp) (he := by rw [hr]; simp [ints, List.map_take]) (h := ?_)
        refine At.meet2 (ao1) (c1) (trivial) ⟨by rw [hr]; rfl, trivial⟩
      · intro h2
        try simp only [decide_eq_true_eq, decide_eq_false_iff_not, Bool.not_eq_true', Bool.not_eq_false', Bool.cond_false_right, Bool.cond_true_left, Bool.and_eq_true, Bool.or_eq_true, Bool.and_eq_false_iff, Bool.or_eq_false_iff, Bool.not_true, Bool.not_false] at h2
        simp only [hb, decide_eq_false_iff_not] at h2
        refine At.seq ?_
        refine At.region ?_
        refine At.ev (ev_eqi rfl rfl) rfl ?_
        refine At.ev (ev_assign rfl) rfl ?_
        refine At.nil ?_
        refine At.thenN ?_
        refine At.cond rfl ?_ ?_
        · intro h3
          try simp only [decide_eq_true_eq, decide_eq_false_iff_not, Bool.not_eq_true', Bool.not_eq_false', Bool.cond_false_right, Bool.cond_true_left, Bool.and_eq_true, Bool.or_eq_true, Bool.and_eq_false_iff, Bool.or_eq_false_iff, Bool.not_true, Bool.not_false] at h3
          have hr : r = [x.to] := by rw [hrr]; unfold nextRaw; rw [if_neg h2, if_pos h3]
          refine At.region ?_
          refine At.ev (ev_move rfl) rfl ?_
          refine At.ev (ev_fa T.fa56_3 rfl) rfl ?_
          refine At.ev (ld T.ld3 rfl) rfl ?_
          refine At.bsl [.int .i64 x.to] T.un68 T.sz3 T.zv3 rfl ?_
          intro b3
          refine At.app2 T.ti68 T.un68 rfl rfl ?_
          intro ao1 c1 hcc1 hmc1
          refine At.ev (ev_assign rfl) rfl ?_
          refine At.nil ?_
          refine At.thenN ?_
          refine At.ownEq (n' := r.length) (cs' := ints r) (hn := by rw [hr]; simp) (he := by rw [hr]; simp [ints, List.map_take]) (h := ?_)
          refine At.meet2 (ao1) (c1) (trivial) ⟨by rw [hr]; rfl, trivial⟩
        · intro h3
          try simp only [decide_eq_true_eq, decide_eq_false_iff_not, Bool.not_eq_true', Bool.not_eq_false', Bool.cond_false_right, Bool.cond_true_left, Bool.and_eq_true, Bool.or_eq_true, Bool.and_eq_false_iff, Bool.or_eq_false_iff, Bool.not_true, Bool.not_false] at h3
          refine At.seq ?_
          refine At.region ?_
          refine At.ev (ev_eqi rfl rfl) rfl ?_
          refine At.ev (ev_assign rfl) rfl ?_
          refine At.nil ?_
          refine At.thenN ?_
          refine At.cond rfl ?_ ?_
          · intro h4
            try simp only [decide_eq_true_eq, decide_eq_false_iff_not, Bool.not_eq_true', Bool.not_eq_false', Bool.cond_false_right, Bool.cond_true_left, Bool.and_eq_true, Bool.or_eq_true, Bool.and_eq_false_iff, Bool.or_eq_false_iff, Bool.not_true, Bool.not_false] at h4
            have hr : r = x.arms.map (·.to) ++ [x.onTimeout, x.onEof] := by rw [hrr]; unfold nextRaw; rw [if_neg h2, if_neg h3, if_pos h4]
            have h8 := (opErr_next hxo).1 h4
            refine At.seq ?_
            refine At.seq ?_
            refine At.region ?_
            refine At.ev (ev_fa T.fa56_4 rfl) rfl ?_
            refine At.ev (ld T.ld54 rfl) rfl ?_
            refine At.ev (ev_lenl T.un54 rfl) rfl ?_
            refine At.ev (ev_move rfl) rfl ?_
            refine At.nil ?_
            refine At.thenN ?_
            refine At.block ?_
            refine At.ownN (ints ((x.arms.take 0).map (·.to))) (by repeat (first | with_reducible exact At1.head _ _ | apply At1.tail)) (by rfl) ?_
            refine At.loopF3 [(6, 6), (8, 8), (45, 54)] (fun (j : Nat) (ao : Option Addr) (c : Nat) => x.arms.length - j) (fun (j : Nat) (ao : Option Addr) (c : Nat) => j ≤ x.arms.length) (fun (j : Nat) (ao : Option Addr) (c : Nat) => [(6, .val (.slice ao j c)), (45, .val (.int .i64 j))]) (fun (j : Nat) (ao : Option Addr) (c : Nat) => [own (.slice ao j c) 3 1 j (ints ((x.arms.take j).map (·.to)))]) (0) (none) (0) (by omega) ⟨rfl, rfl, trivial⟩ ?_
            intro j ao c hj
            refine At.cat1 ?_
            refine At.seq ?_
            refine At.region ?_
            refine At.ev (ev_lss rfl rfl) rfl ?_
            refine At.nil ?_
            refine At.thenN ?_
            refine At.seq ?_
            refine At.condD rfl ?_ ?_
            · intro h5
              have hlj : j < x.arms.length := by omega
              refine At.get (α := Arm) (xs := x.arms) (by repeat (first | with_reducible exact Mem.head _ _ | apply Mem.tail)) j hlj 2 rfl ?_
              intro ady y csy eq hy
              cases eq
              refine openArm (x := y) (by repeat (first | with_reducible exact Mem.head _ _ | apply Mem.tail)) ?_
              intro hoy  eq
              subst eq
              refine At.skip ?_
              refine At.thenN ?_
              refine At.seq ?_
              refine At.block ?_
              refine At.seq ?_
              refine At.region ?_
              refine At.ev (ev_ian T.un54 T.sz99 rfl rfl (by omega)) rfl ?_
              refine At.ev (ldA T.ld99 rfl) rfl ?_
              refine At.new T.zv99 ?_
              intro by_
              refine At.stA T.sz99 rfl rfl rfl ?_ (cs' := y.cs)
              refine At.nil ?_
              refine At.thenN ?_
              refine At.region ?_
              refine At.ev (ev_move rfl) rfl ?_
              refine At.ev (ev_fa T.fa99_1 rfl) rfl ?_
              refine At.ev (ld T.ld3 rfl) rfl ?_
              refine At.bsl [.int .i64 y.to] T.un68 T.sz3 T.zv3 rfl ?_
              intro b5
              refine At.app2 T.ti68 T.un68 rfl rfl ?_
              intro ao2 c2 hcc2 hmc2
              refine At.ev (ev_assign rfl) rfl ?_
              refine At.nil ?_
              refine At.blkN ?_
              refine At.thenN ?_
              refine At.region ?_
              refine At.ev (ev_add rfl rfl (by omega)) rfl ?_
              refine At.ev (ev_move rfl) rfl ?_
              refine At.nil ?_
              refine At.thenN ?_
              refine At.ownN (ints ((x.arms.take (j + 1)).map (·.to))) (by repeat (first | with_reducible exact At1.head _ _ | apply At1.tail)) (by rw [map_snoc (·.to) hy, ints_append]; rfl) ?_
              refine At.againF3 (j + 1) (ao2) (c2) (by omega) (by omega) ⟨rfl, rfl, trivial⟩
            · intro h5
              obtain rfl : j = x.arms.length := by omega
              refine At.exit ?_
              refine At.thenX ?_
              refine At.thenX ?_
              refine At.blkX ?_
              refine At.thenN ?_
              refine At.region ?_
              refine At.ev (ev_move rfl) rfl ?_
              refine At.ev (ev_fa T.fa56_5 rfl) rfl ?_
              refine At.ev (ld T.ld3 rfl) rfl ?_
              refine At.ev (ev_fa T.fa56_6 rfl) rfl ?_
              refine At.ev (ld T.ld3 rfl) rfl ?_
              refine At.bsl [.int .i64 x.onTimeout, .int .i64 x.onEof] T.un68 T.sz3 T.zv3 rfl ?_
              intro b6
              refine At.app2 T.ti68 T.un68 rfl rfl ?_
              intro ao1 c1 hcc1 hmc1
              refine At.ev (ev_assign rfl) rfl ?_
              refine At.nil ?_
              refine At.thenN ?_
              refine At.ownEq (n' := r.length) (cs' := ints r) (hn := by rw [hr]; simp) (he := by rw [hr, List.take_length, ints_append]; rfl) (h := ?_)
              refine At.meet2 (ao1) (c1) (trivial) ⟨by rw [hr]; simp; rfl, trivial⟩
          · intro h4
            try simp only [decide_eq_true_eq, decide_eq_false_iff_not, Bool.not_eq_true', Bool.not_eq_false', Bool.cond_false_right, Bool.cond_true_left, Bool.and_eq_true, Bool.or_eq_true, Bool.and_eq_false_iff, Bool.or_eq_false_iff, Bool.not_true, Bool.not_false] at h4
            have hr : r = [] := by rw [hrr]; unfold nextRaw; rw [if_neg h2, if_neg h3, if_neg h4]
            refine At.skip ?_
            refine At.thenN ?_
            refine At.ownEq (n' := r.length) (cs' := ints r) (hn := by rw [hr]; rfl) (he := by rw [hr]; rfl) (h := ?_)
            refine At.meet2 (none) (0) (trivial) ⟨by rw [hr]; rfl, trivial⟩
    intro ao c hj
    refine At.cat1 ?_
    refine At.blkN ?_
    refine At.thenN ?_
    refine At.seq ?_
    refine At.region ?_
    refine At.ev (ev_move rfl) rfl ?_
    refine At.do (goes_func cf123 rfl) (delFuncN ao c r 124 (fun x => decide (x < 0)) cf124 flow_neg (by omega)) ?_
    intro _
    refine At.star ?_
    refine At.pur ?_
    rintro rfl
    rw [show r.filter (fun x => !decide (x < 0)) = nonneg r from rfl]
    refine At.ev (ev_assign rfl) rfl ?_
    refine At.nil ?_
    refine At.thenN ?_
    refine At.seq ?_
    refine At.region ?_
    refine At.ev (ev_move rfl) rfl ?_
    refine At.do (goes_func cf125 rfl) (sortInts ao c (nonneg r) (by omega)) ?_
    intro _
    refine At.ownEq (n' := (isort (nonneg r)).length) (cs' := ints (isort (nonneg r))) (hn := by rw [isort_len]) (he := rfl) (h := ?_)
    refine At.nil ?_
    refine At.thenN ?_
    refine At.seq ?_
    refine At.region ?_
    rw [show (nonneg r).length = (isort (nonneg r)).length by rw [isort_len]]
    refine At.ev (ev_move rfl) rfl ?_
    refine At.do (goes_func cf126 rfl) (compInts ao c (isort (nonneg r)) (by rw [isort_len]; omega)) ?_
    intro _
    refine At.star ?_
    refine At.pur ?_
    rintro rfl
    refine At.ev (ev_assign rfl) rfl ?_
    refine At.nil ?_
    refine At.thenN ?_
    refine At.retC ?_
    refine At.ret (rs := [.tmp 4]) rfl (Res.tmp rfl Res.nil) ?_
    rw [hrn]; exact Imp.one (.head _ _) (Imp.nil _)

/-- repartee/flow.walk -/
theorem flow_walk (p : Prog) (cs : List Value) (ao : Option Addr) (c : Nat) (l : List Int) (hg : goodP patErr p = true) (hl : ∀ z ∈ l, 0 ≤ z ∧ z ≤ p.ops.length) (hll : l.length ≤ 100) : Does Tryz.prog 77 [.agg cs.toArray, .slice ao l.length c] [per (relP p cs), own (.slice ao (l).length c) 3 1 (l).length (ints (l))] (fun v => own v 4 1 (p.ops.length + 1) (bools (walkP p l))) := by
  refine Does.enter Tryz.func77 rfl rfl ?_
  intro E
  refine openProg (x := p) (by repeat (first | with_reducible exact Mem.head _ _ | apply Mem.tail)) ?_
  intro hp ap cp hcp e
  subst e
  have hg2 := (goodP_ops hg).1
  refine At.seq ?_
  refine At.region ?_
  refine At.boxA rfl ?_
  intro b0
  refine At.ev (ev_assign rfl) rfl ?_
  refine At.nil ?_
  refine At.thenN ?_
  refine At.seq ?_
  refine At.region ?_
  refine At.ev (ev_fa T.fa26_3 rfl) rfl ?_
  refine At.ev (ld T.ld24 rfl) rfl ?_
  refine At.ev (ev_lenl T.un24 rfl) rfl ?_
  refine At.ev (ev_add rfl rfl (by omega)) rfl ?_
  refine At.mk (n := p.ops.length + 1) T.mk114 rfl (by omega) (by omega) ?_
  intro bs
  refine At.ev (ev_assign rfl) rfl ?_
  refine At.nil ?_
  refine At.thenN ?_
  refine At.seq ?_
  refine At.block ?_
  refine At.norm (b := bs) (bools (List.replicate (p.ops.length + 1) false)) (by repeat (first | with_reducible exact At1.head _ _ | apply At1.tail)) (by simp [bools]) ?_
  refine At.loopF5 [(1, 1), (6, 6), (12, 37)] (fun (n : Nat) (seen : List Bool) (st : List Int) (ao : Option Addr) (c : Nat) => n) (fun (n : Nat) (seen : List Bool) (st : List Int) (ao : Option Addr) (c : Nat) => walkF p n seen st = walkP p l ∧ 12 * unseen seen + st.length < n ∧ n ≤ 3000 ∧ seen.length = p.ops.length + 1 ∧ ∀ z ∈ st, 0 ≤ z ∧ z ≤ p.ops.length) (fun (n : Nat) (seen : List Bool) (st : List Int) (ao : Option Addr) (c : Nat) => [(1, .val (.slice ao st.length c))]) (fun (n : Nat) (seen : List Bool) (st : List Int) (ao : Option Addr) (c : Nat) => [blk bs (bools seen) 4, own (.slice ao (st).length c) 3 1 (st).length (ints (st))]) (12 * (p.ops.length + 1) + l.length + 1) (List.replicate (p.ops.length + 1) false) (l) (ao) (c) (⟨rfl, by have := unseen_le (List.replicate (p.ops.length + 1) false); simp at this; omega, by omega, by simp, hl⟩) ⟨rfl, trivial⟩ ?_
  intro n seen st ao c hk
  refine At.cat2 ?_
  obtain ⟨hk1, hk2, hk3, hk4, hk5⟩ := hk
  refine At.seq ?_
  refine At.seq ?_
  refine At.region ?_
  refine At.ev (ev_move rfl) rfl ?_
  refine At.ev (ev_lenl T.un68 rfl) rfl ?_
  refine At.ev (ev_gtr rfl rfl) rfl ?_
  refine At.nil ?_
  refine At.thenN ?_
  refine At.condD rfl ?_ ?_
  · intro h0
    obtain ⟨st2, a, rfl⟩ : ∃ st2 a, st = st2 ++ [a] := by
      rcases List.eq_nil_or_concat st with e | ⟨st2, a, e⟩
      · subst e; simp at h0
      · exact ⟨st2, a, by rw [e, List.concat_eq_append]⟩
    obtain ⟨m, rfl⟩ : ∃ m, n = m + 1 := ⟨n - 1, by omega⟩
    have hal : (st2 ++ [a]).length = st2.length + 1 := by simp
    have hra := hk5 a (by simp)
    have hr2 : ∀ z ∈ st2, 0 ≤ z ∧ z ≤ p.ops.length := fun z hz => hk5 z (by simp [hz])
    rw [walkF] at hk1
    simp only [List.getLast?_append, List.getLast?_singleton, Option.some_or, List.dropLast_concat] at hk1
    obtain ⟨sb, hsb⟩ : ∃ sb, seen[a.toNat]? = some sb := ⟨_, List.getElem?_eq_getElem (by omega)⟩
    have hgd : seen.getD a.toNat false = sb := by simp [List.getD_eq_getElem?_getD, hsb]
    rw [hgd] at hk1
    refine At.ownAd (ao := ao) (hn := by omega) (h := ?_)
    intro b e hnc
    subst e
    refine At.skip ?_
    refine At.thenN ?_
    refine At.block ?_
    refine At.seq ?_
    refine At.region ?_
    refine At.ev (ev_move rfl) rfl ?_
    refine At.ev (ev_move rfl) rfl ?_
    refine At.ev (ev_lenl T.un68 rfl) rfl ?_
    refine At.ev (ev_sub rfl rfl (by omega)) rfl ?_
    refine At.ev (ev_ia (i := (st2 ++ [a]).length - 1) (n := (st2 ++ [a]).length) T.un68 T.sz3 rfl rfl (by omega) (by omega)) rfl ?_
    refine At.ev (ld T.ld3 rfl (v := .int .i64 a) (hc := Cell.own (by repeat (first | with_reducible exact Mem.head _ _ | apply Mem.tail)) (by rw [Nat.mul_one, show (((st2 ++ [a]).length : Int) - 1).toNat = st2.length by omega]; exact ints_at (by simp)))) rfl ?_
    refine At.ev (ev_assign rfl) rfl ?_
    refine At.nil ?_
    refine At.thenN ?_
    refine At.seq ?_
    refine At.region ?_
    refine At.ev (ev_move rfl) rfl ?_
    refine At.ev (ev_move rfl) rfl ?_
    refine At.ev (ev_lenl T.un68 rfl) rfl ?_
    refine At.ev (ev_sub rfl rfl (by omega)) rfl ?_
    rw [show ((st2 ++ [a]).length : Int) - 1 = ((st2.length : Nat) : Int) by omega]
    refine At.ev (ev_slO (j := st2.length) T.un68 T.sz3 rfl rfl (by omega) (by repeat (first | with_reducible exact Mem.head _ _ | apply Mem.tail))) rfl ?_
    refine At.ev (ev_assign rfl) rfl ?_
    refine At.nil ?_
    refine At.ownTake (n := (st2 ++ [a]).length) (j := st2.length) (hj := by omega) (cs' := ints st2) (he := by simp [ints]) (h := ?_)
    refine At.thenN ?_
    refine At.seq ?_
    refine At.seq ?_
    refine At.region ?_
    refine At.ev (ev_move rfl) rfl ?_
    refine At.ev (ev_move rfl) rfl ?_
    refine At.ev (ev_ia (i := a) (n := p.ops.length + 1) T.un114 T.sz4 rfl rfl (by omega) (by omega)) rfl ?_
    refine At.ev (ld T.ld4 rfl (v := .bool sb) (hc := Cell.blk (by repeat (first | with_reducible exact Mem.head _ _ | apply Mem.tail)) (by rw [Nat.mul_one]; exact bools_at hsb))) rfl ?_
    refine At.nil ?_
    refine At.thenN ?_
    refine At.cond rfl ?_ ?_
    · intro h1
      try simp only [decide_eq_true_eq, decide_eq_false_iff_not, Bool.not_eq_true', Bool.not_eq_false', Bool.cond_false_right, Bool.cond_true_left, Bool.and_eq_true, Bool.or_eq_true, Bool.and_eq_false_iff, Bool.or_eq_false_iff, Bool.not_true, Bool.not_false] at h1
      rw [if_pos h1] at hk1
      refine At.exit ?_
      refine At.thenX ?_
      refine At.blkX ?_
      refine At.thenN ?_
      refine At.againF5 (m) (seen) (st2) (some ⟨b, 0, none⟩) (c) (by omega) (⟨hk1, by omega, by omega, hk4, hr2⟩) ⟨rfl, trivial⟩
    · intro h1
      try simp only [decide_eq_true_eq, decide_eq_false_iff_not, Bool.not_eq_true', Bool.not_eq_false', Bool.cond_false_right, Bool.cond_true_left, Bool.and_eq_true, Bool.or_eq_true, Bool.and_eq_false_iff, Bool.or_eq_false_iff, Bool.not_true, Bool.not_false] at h1
      rw [if_neg (by simp [h1])] at hk1
      rw [h1] at hsb
      have hus := unseen_set hsb
      have hnl := nextP_len hg a
      refine At.skip ?_
      refine At.thenN ?_
      refine At.seq ?_
      refine At.region ?_
      refine At.ev (ev_move rfl) rfl ?_
      refine At.ev (ev_move rfl) rfl ?_
      refine At.ev (ev_ia (i := a) (n := p.ops.length + 1) T.un114 T.sz4 rfl rfl (by omega) (by omega)) rfl ?_
      refine At.st1 T.sz4 rfl rfl (add_lit _ _ _) ?_ (cs' := bools (seen.set a.toNat true)) (he := by rw [Nat.mul_one, Nat.zero_add]; exact bools_set _ _ _) (hk := by rw [bools_len]; omega)
      refine At.nil ?_
      refine At.thenN ?_
      refine At.region ?_
      refine At.ev (ev_move rfl) rfl ?_
      refine At.ev (ldA T.ld26 rfl) rfl ?_
      refine At.ev (ev_move rfl) rfl ?_
      refine At.do (goes_func cf75 rfl) (flow_next _ _ _ (by assumption)) ?_
      intro _
      refine At.rowI ?_
      intro aon cn e _ _
      subst e
      refine At.appS T.ti68 rfl rfl (src_own T.un68 (by repeat (first | with_reducible exact Mem.head _ _ | apply Mem.tail)) (ints_ones _)) ?_
      intro ao2 c2 _ _
      refine At.ev (ev_assign rfl) rfl ?_
      refine At.nil ?_
      refine At.blkN ?_
      refine At.thenN ?_
      refine At.ownEq (n' := (st2 ++ nextP p a).length) (cs' := ints (st2 ++ nextP p a)) (hn := by simp) (he := by rw [ints_append]) (h := ?_)
      refine At.againF5 (m) (seen.set a.toNat true) (st2 ++ nextP p a) (ao2) (c2) (by omega) (⟨hk1, by simp only [List.length_append] at *; omega, by omega, by simpa using hk4, fun z hz => by rcases List.mem_append.1 hz with hz | hz; exact hr2 z hz; exact nextP_range hg a z hz⟩) ⟨by simp; rfl, trivial⟩
  · intro h0
    have hst : st = [] := List.eq_nil_of_length_eq_zero (by omega)
    subst hst
    have hfin : seen = walkP p l := by rw [← hk1]; cases n <;> rfl
    rw [hfin] at hk4 ⊢
    refine At.ownC (n := p.ops.length + 1) (cap := p.ops.length + 1) (sz := 1) (cs := bools (walkP p l)) (sp := []) (b := bs) (t := 4) (by rw [List.append_nil]; repeat (first | with_reducible exact At1.head _ _ | apply At1.tail)) (by rw [bools_len]; omega) (by simp [bools_len]; omega) (by omega) (by unfold maxLen; omega) ?_
    refine At.exit ?_
    refine At.thenX ?_
    refine At.thenX ?_
    refine At.blkX ?_
    refine At.thenN ?_
    refine At.seq ?_
    refine At.region ?_
    refine At.ev (ev_move rfl) rfl ?_
    refine At.ev (ev_assign rfl) rfl ?_
    refine At.nil ?_
    refine At.thenN ?_
    refine At.retC ?_
    refine At.ret (rs := [.tmp 4]) rfl (Res.tmp rfl Res.nil) ?_
    exact Imp.one (.head _ _) (Imp.nil _)

end Go.Proofs.YtebjpeonbfhdhaaGreat
