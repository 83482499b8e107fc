import Derived.Test.YtebjpeonbfhdhaaGreatWi
import Derived.Test.YtebjpeonbfhdhaaGreatSp11
import Derived.Test.YtebjpeonbfhdhaaGreatSxM
import Derived.Test.YtebjpeonbfhdhaaGreatSp12
set_option linter.unusedVariables false
set_option linter.unusedSimpArgs false
namespace Go.Proofs.YtebjpeonbfhdhaaGreat
open Go Go.Sx Go.Proofs
set_option maxRecDepth 100000
set_option maxHeartbeats 2000000

attribute [local irreducible] Go.Sx.opsW Go.Sx.cW Go.Code.wp Go.Sx.At

/-- repartee/flow.next$1 -/
theorem flow_neg (x : Int) : Does Tryz.prog 124 [.int .i64 x] [] (fun v => pur (v = .bool (decide (x < 0)))) := by
  refine Does.enter Tryz.func124 rfl rfl ?_
  intro E
  refine At.seq ?_
  refine At.region ?_
  refine At.ev (ev_assign rfl) rfl ?_
  refine At.nil ?_
  refine At.thenN ?_
  refine At.seq ?_
  refine At.region ?_
  refine At.ev (ev_move rfl) rfl ?_
  refine At.ev (ev_lss rfl rfl) rfl ?_
  refine At.ev (ev_assign rfl) rfl ?_
  refine At.nil ?_
  refine At.thenN ?_
  refine At.retC ?_
  refine At.ret (rs := [.tmp 2]) rfl (Res.tmp rfl Res.nil) ?_
  exact Imp.pur rfl (Imp.nil _)

/-- slices.IndexFunc[[]int,int] -/
theorem idxFuncN (ao : Option Addr) (c : Nat) (l : List Int) (m : Nat) (f : Int → Bool) (hcf : ∀ args w, (callFunc m args).run Tryz.prog w = .ok (.enter m args) w) (hf : ∀ x, Does Tryz.prog m [.int .i64 x] [] (fun v => pur (v = .bool (f x)))) (hl : l.length ≤ 1000000) : Does Tryz.prog 160 [.slice ao l.length c, .func (.func m) #[] #[]] [own (.slice ao (l).length c) 3 1 (l).length (ints (l))] (fun v => star (pur (v = .int .i64 (idxF f l))) (own (.slice ao (l).length c) 3 1 (l).length (ints (l)))) := by
  refine Does.enter Tryz.func160 rfl rfl ?_
  intro E
  refine At.seq ?_
  refine At.region ?_
  refine At.ev (ev_assign rfl) rfl ?_
  refine At.nil ?_
  refine At.thenN ?_
  refine At.seq ?_
  refine At.seq ?_
  refine At.region ?_
  refine At.ev (ev_move rfl) rfl ?_
  refine At.ev (ev_lenl T.un68 rfl) rfl ?_
  refine At.ev (ev_move rfl) rfl ?_
  refine At.nil ?_
  refine At.thenN ?_
  refine At.block ?_
  refine At.loopF1 [(4, 5), (8, 18)] (fun (k : Nat) => l.length - k) (fun (k : Nat) => k ≤ l.length ∧ (l.take k).any f = false) (fun (k : Nat) => [(8, .val (.int .i64 k))]) (fun (k : Nat) => []) (0) (⟨by omega, rfl⟩) ⟨rfl, trivial⟩ ?_
  intro k hk
  refine At.cat0 ?_
  refine At.seq ?_
  refine At.region ?_
  refine At.ev (ev_lss rfl rfl) rfl ?_
  refine At.nil ?_
  refine At.thenN ?_
  refine At.seq ?_
  refine At.condD rfl ?_ ?_
  · intro h0
    have hlt : k < l.length := by omega
    refine At.ownAd (ao := ao) (hn := by omega) (h := ?_)
    intro b e hnc
    subst e
    obtain ⟨x, hx⟩ : ∃ z, (l)[k]? = some z := ⟨_, List.getElem?_eq_getElem (hlt)⟩
    refine At.skip ?_
    refine At.thenN ?_
    refine At.seq ?_
    refine At.block ?_
    refine At.seq ?_
    refine At.region ?_
    refine At.ev (ev_move rfl) rfl ?_
    refine At.ev (ev_assign rfl) rfl ?_
    refine At.nil ?_
    refine At.thenN ?_
    refine At.seq ?_
    refine At.region ?_
    refine At.ev (ev_move rfl) rfl ?_
    refine At.ev (ev_move rfl) rfl ?_
    refine At.ev (ev_move rfl) rfl ?_
    refine At.ev (ev_ian T.un68 T.sz3 rfl rfl (by omega)) rfl ?_
    refine At.ev (ld T.ld3 rfl (hc := Cell.own (by repeat (first | with_reducible exact Mem.head _ _ | apply Mem.tail)) (by rw [Nat.mul_one]; exact ints_at hx))) rfl ?_
    refine At.do (goes_tmp hcf rfl rfl) (hf x) ?_
    intro _
    refine At.pur ?_
    rintro rfl
    refine At.nil ?_
    refine At.thenN ?_
    refine At.cond rfl ?_ ?_
    · intro h1
      try simp only [decide_eq_true_eq, decide_eq_false_iff_not, Bool.not_eq_true', Bool.not_eq_false', Bool.cond_false_right, Bool.cond_true_left, Bool.and_eq_true, Bool.or_eq_true, Bool.and_eq_false_iff, Bool.or_eq_false_iff, Bool.not_true, Bool.not_false] at h1
      refine At.seq ?_
      refine At.region ?_
      refine At.ev (ev_move rfl) rfl ?_
      refine At.ev (ev_assign rfl) rfl ?_
      refine At.nil ?_
      refine At.thenN ?_
      refine At.retC ?_
      refine At.blkR ?_
      refine At.thenR ?_
      refine At.thenR ?_
      refine At.blkR ?_
      refine At.thenR ?_
      refine At.ret (rs := [.tmp 4]) rfl (Res.tmp rfl Res.nil) ?_
      exact Imp.star (Imp.pur (by rw [idxF_hit hk.2 hx h1]; rfl) (Imp.one (by repeat (first | with_reducible exact At1.head _ _ | apply At1.tail)) (Imp.nil _)))
    · intro h1
      try simp only [decide_eq_true_eq, decide_eq_false_iff_not, Bool.not_eq_true', Bool.not_eq_false', Bool.cond_false_right, Bool.cond_true_left, Bool.and_eq_true, Bool.or_eq_true, Bool.and_eq_false_iff, Bool.or_eq_false_iff, Bool.not_true, Bool.not_false] at h1
      refine At.skip ?_
      refine At.blkN ?_
      refine At.thenN ?_
      refine At.region ?_
      refine At.ev (ev_add rfl rfl (by omega)) rfl ?_
      refine At.ev (ev_move rfl) rfl ?_
      refine At.nil ?_
      refine At.thenN ?_
      refine At.againF1 (k + 1) (by omega) (⟨by omega, any_snoc hk.2 hx (by simpa using h1)⟩) ⟨rfl, trivial⟩
  · intro h0
    refine At.exit ?_
    refine At.thenX ?_
    refine At.thenX ?_
    refine At.blkX ?_
    refine At.thenN ?_
    refine At.seq ?_
    refine At.region ?_
    refine At.ev (ev_assign rfl) rfl ?_
    refine At.nil ?_
    refine At.thenN ?_
    refine At.retC ?_
    refine At.ret (rs := [.tmp 4]) rfl (Res.tmp rfl Res.nil) ?_
    have e : k = l.length := by omega
    subst e
    exact Imp.star (Imp.pur (by rw [idxF_miss (by simpa using hk.2)]; rfl) (Imp.one (by repeat (first | with_reducible exact At1.head _ _ | apply At1.tail)) (Imp.nil _)))

/-- slices.DeleteFunc[[]int,int] -/
theorem delFuncN (ao : Option Addr) (c : Nat) (l : List Int) (m : Nat) (f : Int → Bool) (hcf : ∀ args w, (callFunc m args).run Tryz.prog w = .ok (.enter m args) w) (hf : ∀ x, Does Tryz.prog m [.int .i64 x] [] (fun v => pur (v = .bool (f x)))) (hl : l.length ≤ 1000000) : Does Tryz.prog 123 [.slice ao l.length c, .func (.func m) #[] #[]] [own (.slice ao (l).length c) 3 1 (l).length (ints (l))] (fun v => star (pur (v = .slice ao (l.filter (fun x => !f x)).length c)) (own (.slice ao (l.filter (fun x => !f x)).length c) 3 1 (l.filter (fun x => !f x)).length (ints (l.filter (fun x => !f x))))) := by
  refine Does.enter Tryz.func123 rfl rfl ?_
  intro E
  refine At.seq ?_
  refine At.region ?_
  refine At.ev (ev_assign rfl) rfl ?_
  refine At.nil ?_
  refine At.thenN ?_
  refine At.seq ?_
  refine At.region ?_
  refine At.ev (ev_move rfl) rfl ?_
  refine At.ev (ev_move rfl) rfl ?_
  refine At.callq (goes_func cf160 rfl) (Qc.own (idxFuncN ao c l m f hcf hf hl)) rfl ?_
  refine At.ev (ev_assign rfl) rfl ?_
  refine At.nil ?_
  refine At.thenN ?_
  refine At.seq ?_
  refine At.seq ?_
  refine At.region ?_
  refine At.ev (ev_move rfl) rfl ?_
  refine At.ev (ev_eqi rfl rfl) rfl ?_
  refine At.nil ?_
  refine At.thenN ?_
  refine At.condD rfl ?_ ?_
  · intro h0
    have hfl : l.filter (fun x => !f x) = l := idxF_none h0
    refine At.seq ?_
    refine At.region ?_
    refine At.ev (ev_move rfl) rfl ?_
    refine At.ev (ev_assign rfl) rfl ?_
    refine At.nil ?_
    refine At.thenN ?_
    refine At.retC ?_
    refine At.thenR ?_
    refine At.ret (rs := [.tmp 4]) rfl (Res.tmp rfl Res.nil) ?_
    rw [hfl]; exact Imp.star (Imp.pur rfl (Imp.one (by repeat (first | with_reducible exact At1.head _ _ | apply At1.tail)) (Imp.nil _)))
  · intro h0
    obtain ⟨i0, hi0, hi1, hi2⟩ := idxF_some h0
    rw [hi0]
    refine At.ownAd (ao := ao) (hn := by omega) (h := ?_)
    intro b e hnc
    subst e
    refine At.skip ?_
    refine At.thenN ?_
    refine At.seq ?_
    refine At.seq ?_
    refine At.region ?_
    refine At.ev (ev_move rfl) rfl ?_
    refine At.ev (ev_add rfl rfl (by omega)) rfl ?_
    refine At.ev (ev_assign rfl) rfl ?_
    refine At.nil ?_
    refine At.thenN ?_
    refine At.block ?_
    refine At.loopF3 [(5, 7), (16, 35)] (fun (i : Nat) (j : Nat) (s : List Int) => l.length - j) (fun (i : Nat) (j : Nat) (s : List Int) => i < j ∧ j ≤ l.length ∧ s.length = l.length ∧ s.take i = (l.take j).filter (fun x => !f x) ∧ s.drop j = l.drop j) (fun (i : Nat) (j : Nat) (s : List Int) => [(5, .val (.int .i64 i)), (6, .val (.int .i64 j))]) (fun (i : Nat) (j : Nat) (s : List Int) => [own (.slice (some ⟨b, 0, none⟩) l.length c) 3 1 l.length (ints s)]) (i0) (i0 + 1) (l) (⟨by omega, by omega, rfl, hi2, rfl⟩) ⟨rfl, by simp; rfl, trivial⟩ ?_
    intro i j s hk
    refine At.cat1 ?_
    obtain ⟨hk1, hk2, hk3, hk4, hk5⟩ := hk
    refine At.seq ?_
    refine At.seq ?_
    refine At.region ?_
    refine At.ev (ev_move rfl) rfl ?_
    refine At.ev (ev_move rfl) rfl ?_
    refine At.ev (ev_lenl T.un68 rfl) rfl ?_
    refine At.ev (ev_lss rfl rfl) rfl ?_
    refine At.nil ?_
    refine At.thenN ?_
    refine At.condD rfl ?_ ?_
    · intro h1
      have hlt : j < l.length := by omega
      obtain ⟨x, hx⟩ : ∃ z, (l)[j]? = some z := ⟨_, List.getElem?_eq_getElem (hlt)⟩
      have hsx : s[j]? = some x := by have := congrArg (fun z => z[0]?) hk5; simp at this; rw [this]; exact hx
      refine At.skip ?_
      refine At.thenN ?_
      refine At.seq ?_
      refine At.block ?_
      refine At.seq ?_
      refine At.region ?_
      refine At.ev (ev_move rfl) rfl ?_
      refine At.ev (ev_move rfl) rfl ?_
      refine At.ev (ev_ian T.un68 T.sz3 rfl rfl (by omega)) rfl ?_
      refine At.ev (ld T.ld3 rfl (hc := Cell.own (by repeat (first | with_reducible exact Mem.head _ _ | apply Mem.tail)) (by rw [Nat.mul_one]; exact ints_at hsx))) rfl ?_
      refine At.ev (ev_assign rfl) rfl ?_
      refine At.nil ?_
      refine At.thenN ?_
      refine At.seq ?_
      refine At.region ?_
      refine At.ev (ev_move rfl) rfl ?_
      refine At.ev (ev_move rfl) rfl ?_
      refine At.do (goes_tmp hcf rfl rfl) (hf x) ?_
      intro _
      refine At.pur ?_
      rintro rfl
      refine At.ev (ev_not rfl) rfl ?_
      refine At.nil ?_
      refine At.thenN ?_
      refine At.joinQ2 [(5, 5), (30, 35)] (fun (i2 : Nat) (s2 : List Int) => i2 ≤ j ∧ s2.length = l.length ∧ s2.take i2 = (l.take (j + 1)).filter (fun x => !f x) ∧ s2.drop (j + 1) = l.drop (j + 1)) (fun (i2 : Nat) (s2 : List Int) => [(5, .val (.int .i64 i2))]) (fun (i2 : Nat) (s2 : List Int) => [own (.slice (some ⟨b, 0, none⟩) l.length c) 3 1 l.length (ints s2)]) [own (.slice (some ⟨b, 0, none⟩) l.length c) 3 1 l.length (ints s)] ?_ ?_
      · skip
        refine At.cond rfl ?_ ?_
        · intro h2
          try simp only [decide_eq_true_eq, decide_eq_false_iff_not, Bool.not_eq_true', Bool.not_eq_false', Bool.cond_false_right, Bool.cond_true_left, Bool.and_eq_true, Bool.or_eq_true, Bool.and_eq_false_iff, Bool.or_eq_false_iff, Bool.not_true, Bool.not_false] at h2
          refine At.seq ?_
          refine At.region ?_
          refine At.ev (ev_move rfl) rfl ?_
          refine At.ev (ev_move rfl) rfl ?_
          refine At.ev (ev_move rfl) rfl ?_
          refine At.ev (ev_ian T.un68 T.sz3 rfl rfl (by omega)) rfl ?_
          refine At.stO (k := i) (cs' := ints (s.set i x)) T.sz3 rfl rfl (by rw [Nat.mul_one]) (hk := by rw [ints_len]; omega) (he := ints_set s i x) (h := ?_)
          refine At.nil ?_
          refine At.thenN ?_
          refine At.region ?_
          refine At.ev (ev_move rfl) rfl ?_
          refine At.ev (ev_add rfl rfl (by omega)) rfl ?_
          refine At.ev (ev_assign rfl) rfl ?_
          refine At.nil ?_
          refine At.thenN ?_
          refine At.meet2 (i + 1) (s.set i x) (⟨by omega, by simpa using hk3, del_keep hx (by simpa using h2) hk4 (by omega), del_drop hk5 (by omega)⟩) ⟨by simp; rfl, trivial⟩
        · intro h2
          try simp only [decide_eq_true_eq, decide_eq_false_iff_not, Bool.not_eq_true', Bool.not_eq_false', Bool.cond_false_right, Bool.cond_true_left, Bool.and_eq_true, Bool.or_eq_true, Bool.and_eq_false_iff, Bool.or_eq_false_iff, Bool.not_true, Bool.not_false] at h2
          refine At.skip ?_
          refine At.thenN ?_
          refine At.meet2 (i) (s) (⟨by omega, hk3, del_skip hx (by simpa using h2) hk4, drop_more hk5⟩) ⟨rfl, trivial⟩
      intro i2 s2 hj
      refine At.cat1 ?_
      refine At.blkN ?_
      refine At.thenN ?_
      refine At.region ?_
      refine At.ev (ev_move rfl) rfl ?_
      refine At.ev (ev_add rfl rfl (by omega)) rfl ?_
      refine At.ev (ev_assign rfl) rfl ?_
      refine At.nil ?_
      refine At.thenN ?_
      refine At.againF3 (i2) (j + 1) (s2) (by omega) (⟨by omega, by omega, hj.2.1, hj.2.2.1, hj.2.2.2⟩) ⟨rfl, rfl, trivial⟩
    · intro h1
      obtain rfl : j = l.length := by omega
      rw [List.take_length] at hk4
      refine At.exit ?_
      refine At.thenX ?_
      refine At.thenX ?_
      refine At.blkX ?_
      refine At.thenN ?_
      refine At.seq ?_
      refine At.region ?_
      refine At.ev (ev_move rfl) rfl ?_
      refine At.ev (ev_move rfl) rfl ?_
      refine At.ev (ev_slsl (l := i) (h := l.length) (n' := l.length - i) (c' := c - i) T.un68 T.sz3 rfl rfl rfl (by omega) (Or.inl rfl) rfl rfl) rfl ?_
      refine At.clearO (n := l.length) (c := c) (i := i) (cs := ints s) (cs' := ints (s.take i) ++ List.replicate (l.length - i) (.int .i64 0)) T.mk68 rfl (by omega) (by simp [ints, List.map_take]) ?_
      refine At.nil ?_
      refine At.thenN ?_
      refine At.seq ?_
      refine At.region ?_
      refine At.ev (ev_move rfl) rfl ?_
      refine At.ev (ev_move rfl) rfl ?_
      refine At.ev (ev_slO (j := i) T.un68 T.sz3 rfl rfl (by omega) (by repeat (first | with_reducible exact Mem.head _ _ | apply Mem.tail))) rfl ?_
      refine At.ev (ev_assign rfl) rfl ?_
      refine At.nil ?_
      refine At.ownTake (n := l.length) (j := i) (hj := by omega) (cs' := ints (s.take i)) (he := by rw [Nat.mul_one, List.take_left' (by simp [ints]; omega)]) (h := ?_)
      rw [hk4]
      obtain rfl : i = (l.filter (fun x => !f x)).length := by rw [← hk4]; simp; omega
      refine At.thenN ?_
      refine At.retC ?_
      refine At.ret (rs := [.tmp 4]) rfl (Res.tmp rfl Res.nil) ?_
      exact Imp.star (Imp.pur rfl (Imp.one (by repeat (first | with_reducible exact At1.head _ _ | apply At1.tail)) (Imp.nil _)))

/-- cmp.isNaN[int] -/
theorem cmp_isNaN (x : Int) : Does Tryz.prog 206 [.int .i64 x] [] (fun v => pur (v = .bool false)) := by
  refine Does.enter Tryz.func206 rfl rfl ?_
  intro E
  refine At.seq ?_
  refine At.region ?_
  refine At.ev (ev_assign rfl) rfl ?_
  refine At.nil ?_
  refine At.thenN ?_
  refine At.seq ?_
  refine At.region ?_
  refine At.ev (ev_move rfl) rfl ?_
  refine At.ev (ev_move rfl) rfl ?_
  refine At.ev (ev_nei rfl rfl) rfl ?_
  refine At.ev (ev_assign rfl) rfl ?_
  refine At.nil ?_
  refine At.thenN ?_
  refine At.retC ?_
  refine At.ret (rs := [.tmp 2]) rfl (Res.tmp rfl Res.nil) ?_
  exact Imp.pur (by simp [retv]) (Imp.nil _)

/-- cmp.Less[int] -/
theorem cmp_Less (x y : Int) : Does Tryz.prog 186 [.int .i64 x, .int .i64 y] [] (fun v => pur (v = .bool (decide (x < y)))) := by
  refine Does.enter Tryz.func186 rfl rfl ?_
  intro E
  refine At.seq ?_
  refine At.region ?_
  refine At.ev (ev_assign rfl) rfl ?_
  refine At.nil ?_
  refine At.thenN ?_
  refine At.seq ?_
  refine At.region ?_
  refine At.ev (ev_move rfl) rfl ?_
  refine At.callq (goes_func cf206 rfl) (Qc.pure (cmp_isNaN _)) rfl ?_
  refine At.ev (ev_move rfl) rfl ?_
  refine At.evg rfl rfl (fun hg => (ev_move rfl)) rfl rfl ?_
  refine At.callg rfl rfl (fun hg => goes_func cf206 rfl) (fun hg => (Qc.pure (cmp_isNaN _))) rfl rfl ?_
  refine At.evg rfl rfl (fun hg => (ev_not rfl)) rfl rfl ?_
  refine At.ev (ev_pickG rfl rfl rfl rfl) rfl ?_
  refine At.ev (ev_move rfl) rfl ?_
  refine At.evg rfl rfl (fun hg => (ev_move rfl)) rfl rfl ?_
  refine At.evg rfl rfl (fun hg => (ev_move rfl)) rfl rfl ?_
  refine At.evg rfl rfl (fun hg => (ev_lss rfl rfl)) rfl rfl ?_
  refine At.ev (ev_pickG rfl rfl rfl rfl) rfl ?_
  refine At.ev (ev_assign rfl) rfl ?_
  refine At.nil ?_
  refine At.thenN ?_
  refine At.retC ?_
  refine At.ret (rs := [.tmp 4]) rfl (Res.tmp rfl Res.nil) ?_
  exact Imp.pur (by simp [retv]) (Imp.nil _)

/-- math/bits.Len64 -/
theorem bits_Len64 (x : Int) (h0 : 0 ≤ x) (h1 : x ≤ 255) : Does Tryz.prog 190 [.int .u64 x] [] (fun v => ex fun r : Int => pur (v = .int .i64 r ∧ 0 ≤ r ∧ r ≤ 255)) := by
  refine Does.enter Tryz.func190 rfl rfl ?_
  intro E
  refine At.seq ?_
  refine At.region ?_
  refine At.ev (ev_assign rfl) rfl ?_
  refine At.nil ?_
  refine At.thenN ?_
  refine At.seq ?_
  refine At.seq ?_
  refine At.region ?_
  refine At.ev (ev_move rfl) rfl ?_
  refine At.ev (ev_geq rfl rfl) rfl ?_
  refine At.nil ?_
  refine At.thenN ?_
  refine At.condD rfl ?_ ?_
  · intro h0
    exact absurd h0 (by omega)
  · intro h0
    refine At.skip ?_
    refine At.thenN ?_
    refine At.seq ?_
    refine At.seq ?_
    refine At.region ?_
    refine At.ev (ev_move rfl) rfl ?_
    refine At.ev (ev_geq rfl rfl) rfl ?_
    refine At.nil ?_
    refine At.thenN ?_
    refine At.condD rfl ?_ ?_
    · intro h1
      exact absurd h1 (by omega)
    · intro h1
      refine At.skip ?_
      refine At.thenN ?_
      refine At.seq ?_
      refine At.seq ?_
      refine At.region ?_
      refine At.ev (ev_move rfl) rfl ?_
      refine At.ev (ev_geq rfl rfl) rfl ?_
      refine At.nil ?_
      refine At.thenN ?_
      refine At.condD rfl ?_ ?_
      · intro h2
        exact absurd h2 (by omega)
      · intro h2
        refine At.skip ?_
        refine At.thenN ?_
        refine At.seq ?_
        refine At.region ?_
        refine At.ev (ev_move rfl) rfl ?_
        refine At.ev (ev_move rfl) rfl ?_
        refine At.ev (ev_conv ⟨_, T.un212⟩ T.un5 rfl (IntWalk.u8_in _ (by omega))) rfl ?_
        refine At.ev (ev_ix (i := x) T.un9 rfl rfl (by omega) (Int.lt_of_lt_of_le (b := 256) (by omega) (of_decide_eq_true (by kernel_rfl)))) rfl ?_
        refine At.ev (ev_conv ⟨_, T.un5⟩ T.un3 rfl (bt_wrap _ _)) rfl ?_
        refine At.ev (ev_add (i := 0) rfl rfl (bt_add0 _ _)) rfl ?_
        refine At.ev (ev_assign rfl) rfl ?_
        refine At.nil ?_
        refine At.thenN ?_
        refine At.retC ?_
        refine At.ret (rs := [.tmp 2]) rfl (Res.tmp rfl Res.nil) ?_
        exact Imp.ex _ (Imp.pur ⟨rfl, bt_add1 _ _⟩ (Imp.nil _))

/-- math/bits.Len -/
theorem bits_Len (x : Int) (h0 : 0 ≤ x) (h1 : x ≤ 255) : Does Tryz.prog 162 [.int .u64 x] [] (fun v => ex fun r : Int => pur (v = .int .i64 r ∧ 0 ≤ r ∧ r ≤ 255)) := by
  refine Does.enter Tryz.func162 rfl rfl ?_
  intro E
  refine At.seq ?_
  refine At.region ?_
  refine At.ev (ev_assign rfl) rfl ?_
  refine At.nil ?_
  refine At.thenN ?_
  refine At.seq ?_
  refine At.cond rfl ?_ ?_
  · intro h0
    cases h0
  · intro h0
    refine At.skip ?_
    refine At.thenN ?_
    refine At.seq ?_
    refine At.region ?_
    refine At.ev (ev_move rfl) rfl ?_
    refine At.do (goes_func cf190 rfl) (bits_Len64 _ (by omega) (by omega)) ?_
    intro _
    refine At.ex ?_
    intro lr
    refine At.pur ?_
    rintro ⟨rfl, hlr0, hlr1⟩
    refine At.ev (ev_assign rfl) rfl ?_
    refine At.nil ?_
    refine At.thenN ?_
    refine At.retC ?_
    refine At.ret (rs := [.tmp 2]) rfl (Res.tmp rfl Res.nil) ?_
    exact Imp.ex lr (Imp.pur ⟨rfl, hlr0, hlr1⟩ (Imp.nil _))

/-- slices.insertionSortOrdered[int] -/
theorem insSort (ao : Option Addr) (c : Nat) (l : List Int) (hl : l.length ≤ 1000000) : Does Tryz.prog 180 [.slice ao l.length c, .int .i64 0, .int .i64 l.length] [own (.slice ao (l).length c) 3 1 (l).length (ints (l))] (fun _ => own (.slice ao l.length c) 3 1 l.length (ints (isort l))) := by
  refine Does.enter Tryz.func180 rfl rfl ?_
  intro E
  refine At.seq ?_
  refine At.region ?_
  refine At.ev (ev_move rfl) rfl ?_
  refine At.ev (ev_add rfl rfl (by omega)) rfl ?_
  refine At.ev (ev_assign rfl) rfl ?_
  refine At.nil ?_
  refine At.thenN ?_
  refine At.block ?_
  refine At.ownN (ints (isort (l.take 1) ++ l.drop 1)) (by repeat (first | with_reducible exact At1.head _ _ | apply At1.tail)) (by rw [isort_1]) ?_
  refine At.loopF1 [(6, 7), (10, 48)] (fun (i : Nat) => l.length - i) (fun (i : Nat) => 1 ≤ i ∧ (i ≤ l.length ∨ i = 1)) (fun (i : Nat) => [(6, .val (.int .i64 i))]) (fun (i : Nat) => [own (.slice ao l.length c) 3 1 l.length (ints (isort (l.take i) ++ l.drop i))]) (1) (⟨by omega, .inr rfl⟩) ⟨rfl, trivial⟩ ?_
  intro i hk
  refine At.cat1 ?_
  refine At.seq ?_
  refine At.seq ?_
  refine At.region ?_
  refine At.ev (ev_move rfl) rfl ?_
  refine At.ev (ev_move rfl) rfl ?_
  refine At.ev (ev_lss rfl rfl) rfl ?_
  refine At.nil ?_
  refine At.thenN ?_
  refine At.condD rfl ?_ ?_
  · intro h0
    have hlt : i < l.length := by omega
    refine At.ownAd (ao := ao) (hn := by omega) (h := ?_)
    intro b e hnc
    subst e
    obtain ⟨x, hx⟩ : ∃ z, (l)[i]? = some z := ⟨_, List.getElem?_eq_getElem (hlt)⟩
    have hil := isort_len (l.take i)
    have hir := isort_rises (l.take i)
    rw [List.length_take] at hil
    refine At.skip ?_
    refine At.thenN ?_
    refine At.seq ?_
    refine At.block ?_
    refine At.seq ?_
    refine At.region ?_
    refine At.ev (ev_move rfl) rfl ?_
    refine At.ev (ev_assign rfl) rfl ?_
    refine At.nil ?_
    refine At.thenN ?_
    refine At.block ?_
    refine At.ownN (ints (isort (l.take i) ++ x :: ([] ++ l.drop (i + 1)))) (by repeat (first | with_reducible exact At1.head _ _ | apply At1.tail)) (by rw [List.nil_append, ← drop_cons hx]) ?_
    refine At.loopF2 [(7, 7), (16, 48)] (fun (A : List Int) (B : List Int) => A.length) (fun (A : List Int) (B : List Int) => A ++ B = isort (l.take i) ∧ ∀ y ∈ B, x < y) (fun (A : List Int) (B : List Int) => [(7, .val (.int .i64 A.length))]) (fun (A : List Int) (B : List Int) => [own (.slice (some ⟨b, 0, none⟩) l.length c) 3 1 l.length (ints (A ++ x :: (B ++ l.drop (i + 1))))]) (isort (l.take i)) ([]) (⟨by simp, by simp⟩) ⟨by rw [hil, Nat.min_eq_left (by omega)]; rfl, trivial⟩ ?_
    intro A B hj
    refine At.cat1 ?_
    obtain ⟨hj1, hj2⟩ := hj
    have hAB : A.length + B.length = i := by rw [← List.length_append, hj1, hil]; omega
    refine At.seq ?_
    refine At.seq ?_
    refine At.drawH (.q0 0 (.q0 1 (.q0 2 (.q0 3 (.q0 4 (.q0 5 (.q0 6 (.q1 7 (.q0 8 (.q0 9 (.q0 10 (.q0 11 (.q1 12 (.br 13 (.q0 14 (.nil)) (.stop))))))))))))))) (fun j => !([13] : List Nat).contains j) mixed (by kernel_rfl) (by kernel_rfl) (NoP.thn (NoP.thn (NoP.thn (NoP.blk (NoP.blk (NoP.thn (NoP.thn (NoP.blk NoP.body)))))))) ?_
    refine At.c0 rfl (ev_move rfl) rfl ?_
    refine At.c0 rfl (ev_move rfl) rfl ?_
    refine At.c0 rfl (ev_gtr rfl rfl) rfl ?_
    refine At.c0 rfl (ev_move rfl) rfl ?_
    refine At.c0g rfl rfl rfl (fun hg => (ev_move rfl)) rfl rfl ?_
    refine At.c0g rfl rfl rfl (fun hg => (ev_move rfl)) rfl rfl ?_
    refine At.c0g rfl rfl rfl (fun hg => (ev_ianO T.un68 T.sz3 rfl rfl (by first | rfl | exact (hIf0 (by first | omega | decide | (simp at hg; omega) | (simp at hl hg; omega) | (simp at hg ⊢; omega))).1 | exact (hIf1 (by first | omega | decide | (simp at hg; omega) | (simp at hl hg; omega) | (simp at hg ⊢; omega))).1 | exact (hIf2 (by first | omega | decide | (simp at hg; omega) | (simp at hl hg; omega) | (simp at hg ⊢; omega))).1) (by first | omega | decide | (simp at hg; omega) | (simp at hl hg; omega) | (simp at hg ⊢; omega)))) rfl rfl ?_
    refine At.c1g rfl (Imp.refl _) rfl rfl (fun hg => (ld T.ld3 rfl (v := .int .i64 x) (hc := Cell.own (by repeat (first | with_reducible exact Mem.head _ _ | apply Mem.tail)) (by rw [Nat.mul_one]; exact ints_at (mid_x A _ x))))) rfl rfl ?_
    refine At.c0g rfl rfl rfl (fun hg => (ev_move rfl)) rfl rfl ?_
    refine At.c0g rfl rfl rfl (fun hg => (ev_move rfl)) rfl rfl ?_
    refine At.c0g rfl rfl rfl (fun hg => (ev_sub rfl rfl (by first | omega | decide | (simp at hg; omega) | (simp at hl hg; omega) | (simp at hg ⊢; omega)))) rfl rfl ?_
    refine At.c0g rfl rfl rfl (fun hg => (ev_ia (i := A.length - 1) (n := l.length) T.un68 T.sz3 rfl rfl (by first | omega | decide | (simp at hg; omega) | (simp at hl hg; omega) | (simp at hg ⊢; omega)) (by omega))) rfl rfl ?_
    refine At.c1g rfl (Imp.refl _) rfl rfl (fun hg => (ld T.ld3 rfl (v := .int .i64 (A.getLastD 0)) (hc := Cell.own (by repeat (first | with_reducible exact Mem.head _ _ | apply Mem.tail)) (by rw [Nat.mul_one, show ((A.length : Int) - 1).toNat = A.length - 1 by omega]; exact ints_at (mid_last A _ (by first | omega | decide | (simp at hg; omega) | (simp at hl hg; omega) | (simp at hg ⊢; omega))))))) rfl rfl ?_
    refine At.c2 rfl ?_ ?_
    · intro w0
      refine At.callg rfl rfl (fun hg => goes_func cf186 rfl) (fun hg => (Qc.pure (cmp_Less _ _))) rfl rfl ?_
      refine At.nil ?_
      refine At.cn (fun h => absurd h (by decide)) ?_
      refine At.c0 rfl (ev_pickG rfl rfl rfl rfl) rfl ?_
      refine At.cnil ?_
      refine At.thenN ?_
      refine At.cond rfl ?_ ?_
      · intro h1
        try simp only [decide_eq_true_eq, decide_eq_false_iff_not, Bool.not_eq_true', Bool.not_eq_false', Bool.cond_false_right, Bool.cond_true_left, Bool.and_eq_true, Bool.or_eq_true, Bool.and_eq_false_iff, Bool.or_eq_false_iff, Bool.not_true, Bool.not_false] at h1
        obtain ⟨A2, y, rfl⟩ : ∃ A2 y, A = A2 ++ [y] := by
          rcases List.eq_nil_or_concat A with e | ⟨A2, y, e⟩
          · subst e; simp at h1
          · exact ⟨A2, y, by rw [e, List.concat_eq_append]⟩
        have hal : (A2 ++ [y]).length = A2.length + 1 := by simp
        have hy : x < y := by have := h1.2; simpa using this
        refine At.skip ?_
        refine At.thenN ?_
        refine At.seq ?_
        refine At.block ?_
        refine At.drawH (.q0 0 (.q0 1 (.q0 2 (.q0 3 (.q0 4 (.q0 5 (.q0 6 (.q0 7 (.q0 8 (.q1 9 (.q0 10 (.q0 11 (.q0 12 (.q1 13 (.q0 14 (.br 15 (.q0 16 (.br 17 (.nil) (.stop))) (.stop))))))))))))))))) (fun j => !([15, 17] : List Nat).contains j) mixed (by kernel_rfl) (by kernel_rfl) (NoP.blk (NoP.thn (NoP.thn (NoP.blk (NoP.blk (NoP.thn (NoP.thn (NoP.blk NoP.body)))))))) ?_
        refine At.c0 rfl (ev_move rfl) rfl ?_
        refine At.c0 rfl (ev_move rfl) rfl ?_
        refine At.c0 rfl (ev_move rfl) rfl ?_
        refine At.c0 rfl (ev_move rfl) rfl ?_
        refine At.c0 rfl (ev_sub rfl rfl (by omega)) rfl ?_
        refine At.c0 rfl (ev_move rfl) rfl ?_
        refine At.c0 rfl (ev_move rfl) rfl ?_
        refine At.c0 rfl (ev_sub rfl rfl (by omega)) rfl ?_
        refine At.c0 rfl (ev_ia (i := (A2 ++ [y]).length - 1) (n := l.length) T.un68 T.sz3 rfl rfl (by omega) (by omega)) rfl ?_
        refine At.c1 rfl (Imp.refl _) (ld T.ld3 rfl (v := .int .i64 y) (hc := Cell.own (by repeat (first | with_reducible exact Mem.head _ _ | apply Mem.tail)) (by rw [Nat.mul_one, show (((A2 ++ [y]).length : Int) - 1).toNat = A2.length by omega]; exact ints_at (mid_pre A2 _ y)))) rfl ?_
        refine At.c0 rfl (ev_move rfl) rfl ?_
        refine At.c0 rfl (ev_move rfl) rfl ?_
        refine At.c0 rfl (ev_ian T.un68 T.sz3 rfl rfl (by omega)) rfl ?_
        refine At.c1 rfl (Imp.refl _) (ld T.ld3 rfl (v := .int .i64 x) (hc := Cell.own (by repeat (first | with_reducible exact Mem.head _ _ | apply Mem.tail)) (by rw [Nat.mul_one]; exact ints_at (mid_x (A2 ++ [y]) _ x)))) rfl ?_
        refine At.c0 rfl (ev_ian T.un68 T.sz3 rfl rfl (by omega)) rfl ?_
        refine At.c2 rfl ?_ ?_
        · intro w0
          refine At.stO (k := (A2 ++ [y]).length) (cs' := _) T.sz3 rfl rfl (by rw [Nat.mul_one]) (hk := by rw [ints_len]; simp) (he := ints_set _ _ _) (h := ?_)
          refine At.nil ?_
          refine At.cn (fun h => absurd h (by decide)) ?_
          refine At.c0 rfl (ev_ia (i := (A2 ++ [y]).length - 1) (n := l.length) T.un68 T.sz3 rfl rfl (by omega) (by omega)) rfl ?_
          refine At.c2 rfl ?_ ?_
          · intro w0
            refine At.stO (k := A2.length) (cs' := _) T.sz3 rfl rfl (by rw [Nat.mul_one, show (((A2 ++ [y]).length : Int) - 1).toNat = A2.length by omega]) (hk := by rw [ints_len]; simp <;> omega) (he := ints_set _ _ _) (h := ?_)
            refine At.nil ?_
            refine At.cn (fun h => absurd h (by decide)) ?_
            refine At.cnil ?_
            refine At.blkN ?_
            refine At.thenN ?_
            refine At.region ?_
            refine At.ev (ev_move rfl) rfl ?_
            refine At.ev (ev_sub rfl rfl (by omega)) rfl ?_
            refine At.ev (ev_assign rfl) rfl ?_
            refine At.nil ?_
            refine At.thenN ?_
            refine At.ownN (ints (A2 ++ x :: ((y :: B) ++ l.drop (i + 1)))) (by repeat (first | with_reducible exact At1.head _ _ | apply At1.tail)) (by first | (rw [swap1]; rfl) | (rw [swap2]; rfl)) ?_
            refine At.againF2 (A2) (y :: B) (by simp) (⟨by rw [← hj1]; simp, by intro z hz; rcases List.mem_cons.1 hz with rfl | hz; exact hy; exact hj2 z hz⟩) ⟨by simp; rfl, trivial⟩
          exact At.cstop
        exact At.cstop
      · intro h1
        try simp only [decide_eq_true_eq, decide_eq_false_iff_not, Bool.not_eq_true', Bool.not_eq_false', Bool.cond_false_right, Bool.cond_true_left, Bool.and_eq_true, Bool.or_eq_true, Bool.and_eq_false_iff, Bool.or_eq_false_iff, Bool.not_true, Bool.not_false] at h1
        have hins : insI x (isort (l.take i)) = A ++ x :: B := by
          rw [← hj1]; refine insI_mid ?_ hj2
          intro z hz
          rcases List.eq_nil_or_concat A with e | ⟨A2, y, e⟩
          · subst e; cases hz
          · subst e
            rw [List.concat_eq_append] at *
            refine rises_last (A := A2) (B := B) (by rw [hj1]; exact hir) ?_ z hz
            simp at h1; omega
        have hst : A ++ x :: (B ++ l.drop (i + 1)) = isort (l.take (i + 1)) ++ l.drop (i + 1) := by rw [List.take_add_one, hx]; simp only [Option.toList]; rw [isort_snoc, hins]; simp
        refine At.exit ?_
        refine At.thenX ?_
        refine At.thenX ?_
        refine At.blkX ?_
        refine At.blkN ?_
        refine At.thenN ?_
        refine At.region ?_
        refine At.ev (ev_move rfl) rfl ?_
        refine At.ev (ev_add rfl rfl (by omega)) rfl ?_
        refine At.ev (ev_assign rfl) rfl ?_
        refine At.nil ?_
        refine At.thenN ?_
        rw [hst]
        refine At.againF1 (i + 1) (by omega) (⟨by omega, .inl (by omega)⟩) ⟨rfl, trivial⟩
    exact At.cstop
  · intro h0
    have hst : isort (l.take i) ++ l.drop i = isort l := by rw [List.drop_of_length_le (by omega), List.take_of_length_le (by omega), List.append_nil]
    rw [hst]
    refine At.exit ?_
    refine At.thenX ?_
    refine At.thenX ?_
    refine At.blkX ?_
    refine At.retN (rs := []) rfl Res.nil ?_
    exact Imp.one (by repeat (first | with_reducible exact At1.head _ _ | apply At1.tail)) (Imp.nil _)

/-- slices.pdqsortOrdered[int] -/
theorem pdqSort (ao : Option Addr) (c : Nat) (l : List Int) (lim : Int) (hl : l.length ≤ 12) : Does Tryz.prog 161 [.slice ao l.length c, .int .i64 0, .int .i64 l.length, .int .i64 lim] [own (.slice ao (l).length c) 3 1 (l).length (ints (l))] (fun _ => own (.slice ao l.length c) 3 1 l.length (ints (isort l))) := by
  refine Does.enter Tryz.func161 rfl rfl ?_
  intro E
  refine At.seq ?_
  refine At.region ?_
  refine At.ev (ev_assign rfl) rfl ?_
  refine At.nil ?_
  refine At.thenN ?_
  refine At.seq ?_
  refine At.region ?_
  refine At.ev (ev_assign rfl) rfl ?_
  refine At.nil ?_
  refine At.thenN ?_
  refine At.block ?_
  refine At.loopF1 [(1, 3), (8, 133)] (fun (u : Unit) => 0) (fun (u : Unit) => True) (fun (u : Unit) => [(1, .val (.int .i64 0)), (2, .val (.int .i64 l.length)), (3, .val (.int .i64 lim))]) (fun (u : Unit) => [own (.slice ao (l).length c) 3 1 (l).length (ints (l))]) (()) (trivial) ⟨rfl, rfl, rfl, trivial⟩ ?_
  intro u hk
  refine At.cat1 ?_
  refine At.block ?_
  refine At.seq ?_
  refine At.region ?_
  refine At.ev (ev_move rfl) rfl ?_
  refine At.ev (ev_move rfl) rfl ?_
  refine At.ev (ev_sub rfl rfl (by omega)) rfl ?_
  refine At.ev (ev_assign rfl) rfl ?_
  refine At.nil ?_
  refine At.thenN ?_
  refine At.seq ?_
  refine At.seq ?_
  refine At.region ?_
  refine At.ev (ev_move rfl) rfl ?_
  refine At.ev (ev_leq rfl rfl) rfl ?_
  refine At.nil ?_
  refine At.thenN ?_
  refine At.condD rfl ?_ ?_
  · intro h0
    refine At.seq ?_
    refine At.region ?_
    refine At.ev (ev_move rfl) rfl ?_
    refine At.ev (ev_move rfl) rfl ?_
    refine At.ev (ev_move rfl) rfl ?_
    refine At.do (goes_func cf180 rfl) (insSort ao c l (by omega)) ?_
    intro _
    refine At.nil ?_
    refine At.thenN ?_
    refine At.retC ?_
    refine At.thenR ?_
    refine At.blkR ?_
    refine At.thenR ?_
    refine At.blkR ?_
    refine At.ret (rs := []) rfl Res.nil ?_
    exact Imp.one (by repeat (first | with_reducible exact At1.head _ _ | apply At1.tail)) (Imp.nil _)
  · intro h0
    exact absurd h0 (by omega)

/-- slices.Sort[[]int,int] -/
theorem sortInts (ao : Option Addr) (c : Nat) (l : List Int) (hl : l.length ≤ 12) : Does Tryz.prog 125 [.slice ao l.length c] [own (.slice ao (l).length c) 3 1 (l).length (ints (l))] (fun _ => own (.slice ao l.length c) 3 1 l.length (ints (isort l))) := by
  refine Does.enter Tryz.func125 rfl rfl ?_
  intro E
  refine At.seq ?_
  refine At.region ?_
  refine At.ev (ev_move rfl) rfl ?_
  refine At.ev (ev_lenl T.un68 rfl) rfl ?_
  refine At.ev (ev_assign rfl) rfl ?_
  refine At.nil ?_
  refine At.thenN ?_
  refine At.region ?_
  refine At.ev (ev_move rfl) rfl ?_
  refine At.ev (ev_move rfl) rfl ?_
  refine At.ev (ev_move rfl) rfl ?_
  refine At.ev (ev_conv ⟨_, T.un3⟩ T.un189 rfl (IntWalk.u64_in _ (by omega))) rfl ?_
  refine At.do (goes_func cf162 rfl) (bits_Len _ (by omega) (by omega)) ?_
  intro _
  refine At.ex ?_
  intro lr
  refine At.pur ?_
  rintro ⟨rfl, hlr0, hlr1⟩
  refine At.do (goes_func cf161 rfl) (pdqSort ao c l lr hl) ?_
  intro _
  refine At.nil ?_
  refine At.retN (rs := []) rfl Res.nil ?_
  exact Imp.one (by repeat (first | with_reducible exact At1.head _ _ | apply At1.tail)) (Imp.nil _)

/-- slices.Compact[[]int,int] -/
theorem compInts (ao : Option Addr) (c : Nat) (l : List Int) (hl : l.length ≤ 1000000) : Does Tryz.prog 126 [.slice ao l.length c] [own (.slice ao (l).length c) 3 1 (l).length (ints (l))] (fun v => star (pur (v = .slice ao (compI l).length c)) (own (.slice ao (compI l).length c) 3 1 (compI l).length (ints (compI l)))) := by
  refine Does.enter Tryz.func126 rfl rfl ?_
  intro E
  refine At.seq ?_
  refine At.region ?_
  refine At.ev (ev_assign rfl) rfl ?_
  refine At.nil ?_
  refine At.thenN ?_
  refine At.seq ?_
  refine At.seq ?_
  refine At.region ?_
  refine At.ev (ev_move rfl) rfl ?_
  refine At.ev (ev_lenl T.un68 rfl) rfl ?_
  refine At.ev (ev_lss rfl rfl) rfl ?_
  refine At.nil ?_
  refine At.thenN ?_
  refine At.condD rfl ?_ ?_
  · intro h0
    have hcl : compI l = l := compI_short (by omega)
    refine At.seq ?_
    refine At.region ?_
    refine At.ev (ev_move rfl) rfl ?_
    refine At.ev (ev_assign rfl) rfl ?_
    refine At.nil ?_
    refine At.thenN ?_
    refine At.retC ?_
    refine At.thenR ?_
    refine At.ret (rs := [.tmp 2]) rfl (Res.tmp rfl Res.nil) ?_
    rw [hcl]; exact Imp.star (Imp.pur rfl (Imp.one (by repeat (first | with_reducible exact At1.head _ _ | apply At1.tail)) (Imp.nil _)))
  · intro h0
    refine At.skip ?_
    refine At.thenN ?_
    refine At.seq ?_
    refine At.seq ?_
    refine At.region ?_
    refine At.ev (ev_assign rfl) rfl ?_
    refine At.nil ?_
    refine At.thenN ?_
    refine At.block ?_
    refine At.loopF1 [(2, 5), (10, 59)] (fun (k : Nat) => l.length - k) (fun (k : Nat) => 1 ≤ k ∧ k ≤ l.length ∧ ∀ i x y, i + 1 < k → l[i]? = some x → l[i + 1]? = some y → x ≠ y) (fun (k : Nat) => [(3, .val (.int .i64 k))]) (fun (k : Nat) => []) (1) (⟨by omega, by omega, fun i x y hi => by omega⟩) ⟨rfl, trivial⟩ ?_
    intro k hk
    refine At.cat0 ?_
    obtain ⟨hk1, hk2, hk3⟩ := hk
    refine At.seq ?_
    refine At.seq ?_
    refine At.region ?_
    refine At.ev (ev_move rfl) rfl ?_
    refine At.ev (ev_move rfl) rfl ?_
    refine At.ev (ev_lenl T.un68 rfl) rfl ?_
    refine At.ev (ev_lss rfl rfl) rfl ?_
    refine At.nil ?_
    refine At.thenN ?_
    refine At.condD rfl ?_ ?_
    · intro h1
      have hlt : k < l.length := by omega
      refine At.ownAd (ao := ao) (hn := by omega) (h := ?_)
      intro b e hnc
      subst e
      obtain ⟨x, hx⟩ : ∃ z, (l)[k]? = some z := ⟨_, List.getElem?_eq_getElem (hlt)⟩
      obtain ⟨y, hy⟩ : ∃ z, (l)[k - 1]? = some z := ⟨_, List.getElem?_eq_getElem (by omega)⟩
      refine At.skip ?_
      refine At.thenN ?_
      refine At.seq ?_
      refine At.block ?_
      refine At.seq ?_
      refine At.drawH (.q0 0 (.q0 1 (.q0 2 (.q1 3 (.q0 4 (.q0 5 (.q0 6 (.q0 7 (.q1 8 (.q0 9 (.nil))))))))))) (fun j => !([] : List Nat).contains j) mixed (by kernel_rfl) (by kernel_rfl) (NoP.thn (NoP.blk (NoP.thn (NoP.thn (NoP.blk (NoP.thn NoP.body)))))) ?_
      refine At.c0 rfl (ev_move rfl) rfl ?_
      refine At.c0 rfl (ev_move rfl) rfl ?_
      refine At.c0 rfl (ev_ian T.un68 T.sz3 rfl rfl (by omega)) rfl ?_
      refine At.c1 rfl (Imp.refl _) (ld T.ld3 rfl (hc := Cell.own (by repeat (first | with_reducible exact Mem.head _ _ | apply Mem.tail)) (by rw [Nat.mul_one]; exact ints_at hx))) rfl ?_
      refine At.c0 rfl (ev_move rfl) rfl ?_
      refine At.c0 rfl (ev_move rfl) rfl ?_
      refine At.c0 rfl (ev_sub rfl rfl (by omega)) rfl ?_
      refine At.c0 rfl (ev_ia (i := k - 1) (n := l.length) T.un68 T.sz3 rfl rfl (by omega) (by omega)) rfl ?_
      refine At.c1 rfl (Imp.refl _) (ld T.ld3 rfl (v := .int .i64 y) (hc := Cell.own (by repeat (first | with_reducible exact Mem.head _ _ | apply Mem.tail)) (by rw [Nat.mul_one, show ((k : Int) - 1).toNat = k - 1 by omega]; exact ints_at hy))) rfl ?_
      refine At.c0 rfl (ev_eqi rfl rfl) rfl ?_
      refine At.cnil ?_
      refine At.thenN ?_
      refine At.condD rfl ?_ ?_
      · intro h2
        have hdup := compI_dup hk1 hk3 hx hy h2
        refine At.seq ?_
        refine At.region ?_
        refine At.ev (ev_move rfl) rfl ?_
        refine At.ev (ev_move rfl) rfl ?_
        refine At.ev (ev_slsl (l := k) (h := l.length) (n' := l.length - k) (c' := c - k) T.un68 T.sz3 rfl rfl rfl (by omega) (Or.inl rfl) rfl rfl) rfl ?_
        rw [slAt_ne (show k < c by omega)]
        refine At.ev (ev_assign rfl) rfl ?_
        refine At.nil ?_
        refine At.thenN ?_
        refine At.seq ?_
        refine At.seq ?_
        refine At.region ?_
        refine At.ev (ev_assign rfl) rfl ?_
        refine At.nil ?_
        refine At.thenN ?_
        refine At.block ?_
        refine At.loopF3 [(3, 3), (5, 5), (29, 53)] (fun (q : Nat) (k9 : Nat) (s : List Int) => l.length - k - q) (fun (q : Nat) (k9 : Nat) (s : List Int) => 1 ≤ q ∧ k + q ≤ l.length ∧ k ≤ k9 ∧ k9 + 1 ≤ k + q ∧ s.length = l.length ∧ s.take k9 = compI (l.take (k + q)) ∧ s.drop (k + q - 1) = l.drop (k + q - 1)) (fun (q : Nat) (k9 : Nat) (s : List Int) => [(5, .val (.int .i64 q)), (3, .val (.int .i64 k9))]) (fun (q : Nat) (k9 : Nat) (s : List Int) => [own (.slice (some ⟨b, 0, none⟩) l.length c) 3 1 l.length (ints (s))]) (1) (k) (l) (⟨by omega, by omega, by omega, by omega, rfl, hdup.symm, rfl⟩) ⟨rfl, rfl, trivial⟩ ?_
        intro q k9 s hj
        refine At.cat1 ?_
        obtain ⟨hj1, hj2, hj3, hj4, hj5, hj6, hj7⟩ := hj
        refine At.seq ?_
        refine At.seq ?_
        refine At.region ?_
        refine At.ev (ev_move rfl) rfl ?_
        refine At.ev (ev_move rfl) rfl ?_
        refine At.ev (ev_lenl T.un68 rfl) rfl ?_
        refine At.ev (ev_lss rfl rfl) rfl ?_
        refine At.nil ?_
        refine At.thenN ?_
        refine At.condD rfl ?_ ?_
        · intro h3
          have hlt2 : k + q < l.length := by omega
          obtain ⟨u, hu⟩ : ∃ z, (l)[k + q]? = some z := ⟨_, List.getElem?_eq_getElem (hlt2)⟩
          obtain ⟨w, hw⟩ : ∃ z, (l)[k + q - 1]? = some z := ⟨_, List.getElem?_eq_getElem (by omega)⟩
          have hsw : s[k + q - 1]? = some w := by have := congrArg (fun z => z[0]?) hj7; simp at this; rw [this]; exact hw
          have hsu : s[k + q]? = some u := by have := congrArg (fun z => z[1]?) hj7; simp at this; rw [show k + q - 1 + 1 = k + q by omega] at this; rw [this]; exact hu
          have hcs := compI_step (l := l) (m := k + q) (by omega) hu hw
          have hdm : s.drop (k + q) = l.drop (k + q) := by have := drop_more hj7; rwa [show k + q - 1 + 1 = k + q by omega] at this
          refine At.skip ?_
          refine At.thenN ?_
          refine At.seq ?_
          refine At.block ?_
          refine At.seq ?_
          refine At.drawH (.q0 0 (.q0 1 (.q0 2 (.q1 3 (.q0 4 (.q0 5 (.q0 6 (.q0 7 (.q1 8 (.q0 9 (.nil))))))))))) (fun j => !([] : List Nat).contains j) mixed (by kernel_rfl) (by kernel_rfl) (NoP.thn (NoP.blk (NoP.thn (NoP.thn (NoP.blk (NoP.thn (NoP.blk (NoP.thn (NoP.thn (NoP.blk (NoP.thn NoP.body))))))))))) ?_
          refine At.c0 rfl (ev_move rfl) rfl ?_
          refine At.c0 rfl (ev_move rfl) rfl ?_
          refine At.c0 rfl (ev_ian T.un68 T.sz3 rfl rfl (by omega)) rfl ?_
          refine At.c1 rfl (Imp.refl _) (ld T.ld3 rfl (v := .int .i64 u) (hc := Cell.own2 (by repeat (first | with_reducible exact Mem.head _ _ | apply Mem.tail)) (by exact ints_at hsu))) rfl ?_
          refine At.c0 rfl (ev_move rfl) rfl ?_
          refine At.c0 rfl (ev_move rfl) rfl ?_
          refine At.c0 rfl (ev_sub rfl rfl (by omega)) rfl ?_
          refine At.c0 rfl (ev_ia (i := q - 1) (n := l.length - k) T.un68 T.sz3 rfl rfl (by omega) (by omega)) rfl ?_
          refine At.c1 rfl (Imp.refl _) (ld T.ld3 rfl (v := .int .i64 w) (hc := Cell.own2 (by repeat (first | with_reducible exact Mem.head _ _ | apply Mem.tail)) (by rw [show k + ((q : Int) - 1).toNat = k + q - 1 by omega]; exact ints_at hsw))) rfl ?_
          refine At.c0 rfl (ev_nei rfl rfl) rfl ?_
          refine At.cnil ?_
          refine At.thenN ?_
          refine At.joinQ2 [(3, 3), (45, 53)] (fun (k8 : Nat) (s2 : List Int) => k8 ≤ k + q ∧ k ≤ k8 ∧ s2.length = l.length ∧ s2.take k8 = compI (l.take (k + (q + 1))) ∧ s2.drop (k + q) = l.drop (k + q)) (fun (k8 : Nat) (s2 : List Int) => [(3, .val (.int .i64 k8))]) (fun (k8 : Nat) (s2 : List Int) => [own (.slice (some ⟨b, 0, none⟩) l.length c) 3 1 l.length (ints (s2))]) [own (.slice (some ⟨b, 0, none⟩) l.length c) 3 1 l.length (ints (s))] ?_ ?_
          · skip
            refine At.condDn rfl ?_ ?_
            · intro h4
              refine At.seq ?_
              refine At.region ?_
              refine At.ev (ev_move rfl) rfl ?_
              refine At.ev (ev_move rfl) rfl ?_
              refine At.ev (ev_move rfl) rfl ?_
              refine At.ev (ev_move rfl) rfl ?_
              refine At.ev (ev_ian T.un68 T.sz3 rfl rfl (by omega)) rfl ?_
              refine At.ev (ld T.ld3 rfl (v := .int .i64 u) (hc := Cell.own2 (by repeat (first | with_reducible exact Mem.head _ _ | apply Mem.tail)) (by exact ints_at hsu))) rfl ?_
              refine At.ev (ev_ian T.un68 T.sz3 rfl rfl (by omega)) rfl ?_
              refine At.stO (k := k9) (cs' := ints (s.set k9 u)) T.sz3 rfl rfl (by rw [Nat.mul_one]) (hk := by rw [ints_len]; omega) (he := ints_set s k9 u) (h := ?_)
              refine At.nil ?_
              refine At.thenN ?_
              refine At.region ?_
              refine At.ev (ev_move rfl) rfl ?_
              refine At.ev (ev_add rfl rfl (by omega)) rfl ?_
              refine At.ev (ev_assign rfl) rfl ?_
              refine At.nil ?_
              refine At.thenN ?_
              refine At.meet2 (k9 + 1) (s.set k9 u) (⟨by omega, by omega, by simpa using hj5, by rw [List.take_add_one, List.take_set_of_le (Nat.le_refl _), List.getElem?_set_self (by omega), hj6, ← Nat.add_assoc, hcs, if_neg h4]; rfl, by rw [List.drop_set_of_lt (by omega)]; exact hdm⟩) ⟨by simp; rfl, trivial⟩
            · intro h4
              refine At.skip ?_
              refine At.thenN ?_
              refine At.meet2 (k9) (s) (⟨by omega, by omega, hj5, by rw [hj6, ← Nat.add_assoc, hcs, if_pos h4], hdm⟩) ⟨rfl, trivial⟩
          intro k8 s2 hq
          refine At.cat1 ?_
          refine At.blkN ?_
          refine At.thenN ?_
          refine At.region ?_
          refine At.ev (ev_move rfl) rfl ?_
          refine At.ev (ev_add rfl rfl (by omega)) rfl ?_
          refine At.ev (ev_assign rfl) rfl ?_
          refine At.nil ?_
          refine At.thenN ?_
          refine At.againF3 (q + 1) (k8) (s2) (by omega) (⟨by omega, by omega, hq.2.1, by omega, hq.2.2.1, hq.2.2.2.1, by rw [show k + (q + 1) - 1 = k + q by omega]; exact hq.2.2.2.2⟩) ⟨rfl, rfl, trivial⟩
        · intro h3
          have hfin : s.take k9 = compI l := by rw [hj6, List.take_of_length_le (by omega)]
          refine At.exit ?_
          refine At.thenX ?_
          refine At.thenX ?_
          refine At.blkX ?_
          refine At.thenN ?_
          refine At.seq ?_
          refine At.region ?_
          refine At.ev (ev_move rfl) rfl ?_
          refine At.ev (ev_move rfl) rfl ?_
          refine At.ev (ev_slsl (l := k9) (h := l.length) (n' := l.length - k9) (c' := c - k9) T.un68 T.sz3 rfl rfl rfl (by omega) (Or.inl rfl) rfl rfl) rfl ?_
          refine At.clearO (n := l.length) (c := c) (i := k9) (cs := ints s) (cs' := ints (s.take k9) ++ List.replicate (l.length - k9) (.int .i64 0)) T.mk68 rfl (by omega) (by simp [ints, List.map_take]) ?_
          refine At.nil ?_
          refine At.thenN ?_
          refine At.seq ?_
          refine At.region ?_
          refine At.ev (ev_move rfl) rfl ?_
          refine At.ev (ev_move rfl) rfl ?_
          refine At.ev (ev_slO (j := k9) T.un68 T.sz3 rfl rfl (by omega) (by repeat (first | with_reducible exact Mem.head _ _ | apply Mem.tail))) rfl ?_
          refine At.ev (ev_assign rfl) rfl ?_
          refine At.nil ?_
          refine At.ownTake (n := l.length) (j := k9) (hj := by omega) (cs' := ints (s.take k9)) (he := by rw [Nat.mul_one, List.take_left' (by simp [ints]; omega)]) (h := ?_)
          rw [hfin]
          obtain rfl : k9 = (compI l).length := by rw [← hfin]; simp; omega
          refine At.thenN ?_
          refine At.retC ?_
          refine At.blkR ?_
          refine At.thenR ?_
          refine At.thenR ?_
          refine At.blkR ?_
          refine At.thenR ?_
          refine At.ret (rs := [.tmp 2]) rfl (Res.tmp rfl Res.nil) ?_
          exact Imp.star (Imp.pur rfl (Imp.one (by repeat (first | with_reducible exact At1.head _ _ | apply At1.tail)) (Imp.nil _)))
      · intro h2
        refine At.skip ?_
        refine At.blkN ?_
        refine At.thenN ?_
        refine At.region ?_
        refine At.ev (ev_move rfl) rfl ?_
        refine At.ev (ev_add rfl rfl (by omega)) rfl ?_
        refine At.ev (ev_assign rfl) rfl ?_
        refine At.nil ?_
        refine At.thenN ?_
        refine At.againF1 (k + 1) (by omega) (⟨by omega, by omega, fun i a z hi ha hz => by
            by_cases e : i + 1 = k
            · have e2 : i = k - 1 := by omega
              subst e2
              rw [hy] at ha; rw [show k - 1 + 1 = k by omega, hx] at hz
              cases ha; cases hz; exact fun h => h2 h.symm
            · exact hk3 i a z (by omega) ha hz⟩) ⟨rfl, trivial⟩
    · intro h1
      have hcl : compI l = l := compI_id fun i a z ha hz => hk3 i a z (by have := (List.getElem?_eq_some_iff.1 hz).1; omega) ha hz
      refine At.exit ?_
      refine At.thenX ?_
      refine At.thenX ?_
      refine At.blkX ?_
      refine At.thenN ?_
      refine At.seq ?_
      refine At.region ?_
      refine At.ev (ev_move rfl) rfl ?_
      refine At.ev (ev_assign rfl) rfl ?_
      refine At.nil ?_
      refine At.thenN ?_
      refine At.retC ?_
      refine At.ret (rs := [.tmp 2]) rfl (Res.tmp rfl Res.nil) ?_
      rw [hcl]; exact Imp.star (Imp.pur rfl (Imp.one (by repeat (first | with_reducible exact At1.head _ _ | apply At1.tail)) (Imp.nil _)))

end Go.Proofs.YtebjpeonbfhdhaaGreat
