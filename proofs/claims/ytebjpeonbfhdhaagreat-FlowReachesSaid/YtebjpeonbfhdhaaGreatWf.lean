import Derived.Test.YtebjpeonbfhdhaaGreatWe
import Derived.Test.YtebjpeonbfhdhaaGreatSp8
set_option linter.unusedVariables false
set_option linter.unusedSimpArgs false
namespace Go.Proofs.YtebjpeonbfhdhaaGreat
open Go Go.Sx Go.Proofs
set_option maxRecDepth 100000

section
variable {P : Program} {E : En} {N : Nat} {K : Kl} {g : Option (Nat × Bool)} {Hs : List Asn} {ty : TypeId} {Q : Exit → Act → World → Prop} {ops : Array Oper} {rest : List Oper} {pos : String} {af : Array Edge} {G : Act → World → Prop}
/-- A row of flags of its own. -/
def flA (v : Value) (cs : List Value) : Asn := ex fun q : Nat × Nat × List Value => star (pur (v = .slice (some ⟨q.1, 0, none⟩) 256 q.2.1)) (blk q.1 (cs ++ q.2.2) 4)
theorem At.flA {v : Value} {cs : List Value} {l : List Asn} (h : ∀ b c sp, v = .slice (some ⟨b, 0, none⟩) 256 c → At E N K (blk b (cs ++ sp) 4 :: l) G) : At E N K (flA v cs :: l) G :=
  At.ex fun ⟨b, c, sp⟩ => At.star (At.pur fun e => h b c sp e)
theorem Imp.flA {b c : Nat} {cs sp : List Value} {l m : List Asn} (hm : At1 l (blk b (cs ++ sp) 4) m) : Imp l [flA (.slice (some ⟨b, 0, none⟩) 256 c) cs] :=
  Imp.ex (b, c, sp) (Imp.star (Imp.pur rfl (Imp.one hm (Imp.nil _))))
theorem Cell.flag {s : SetD} {b t : Nat} {i : Int} {sp : List Value} (hm : Mem (blk b (flS s ++ sp) t) Hs) (h0 : 0 ≤ i) (h1 : i ≤ 255) : Cell Hs ((⟨b, 0, none⟩ : Addr).add (i.toNat * 1)) (.bool (s.has i)) := by
  rw [Nat.mul_one]
  have := fl_at (fun b => s.has (b : Int)) (b := i.toNat) (by omega) sp
  rw [Int.toNat_of_nonneg h0] at this
  exact Cell.blk hm this
theorem At.stFlag {x y : Operand} {t t' : TypeId} {ad : Addr} {b : Nat} {i : Int} {s : SetD} {sp : List Value} {m : List Asn} (hz : SZ P t 1) (hx : opv K none x = some (.pointer (some ad))) (hy : opv K none y = some (.bool true))
    (had : ad = (⟨b, 0, none⟩ : Addr).add (i.toNat * 1)) (h0 : 0 ≤ i) (h1 : i ≤ 255) (hm : At1 Hs (blk b (flS s ++ sp) t') m) (h : At E N K (blk b (flS (s.with_ i) ++ sp) t' :: m) (opsW P ops Q rest)) :
    At E N K Hs (opsW P ops Q (⟨none, .store t x y, ty, pos, af, none⟩ :: rest)) := by
  rw [Nat.mul_one, add_lit, Nat.zero_add] at had
  have e := flS_set s (b := i.toNat) (by omega) sp
  rw [Int.toNat_of_nonneg h0] at e
  exact At.st1 hz hx hy had h hm rfl rfl (by simp [flS, fl_len]; omega) e
theorem At.ownN {v : Value} {t sz n : Nat} {cs : List Value} (cs' : List Value) {m : List Asn} (hm : At1 Hs (own v t sz n cs) m) (he : cs = cs') (h : At E N K (own v t sz n cs' :: m) G) : At E N K Hs G := by
  subst he; exact At.front hm h
end

attribute [local irreducible] Go.Sx.opsW Go.Sx.cW Go.Code.wp Go.Sx.At

/-- repartee/reparteeref06.Has -/
theorem r06_Has (s : SetD) (b : Int) (h0 : 0 ≤ b) (h1 : b ≤ 255) : Does Tryz.prog 227 [.agg s.cs.toArray, .int .i64 b] [] (fun v => pur (v = .bool (s.has b))) := by
  refine Does.enter Tryz.func227 rfl rfl ?_
  intro E
  refine At.seq ?_
  refine At.region ?_
  refine At.boxA rfl ?_
  intro b0
  refine At.ev (ev_assign rfl) rfl ?_
  refine At.nil ?_
  refine At.thenN ?_
  refine At.seq ?_
  refine At.region ?_
  refine At.ev (ev_move rfl) rfl ?_
  refine At.ev (ev_quo rfl rfl (by omega) (by omega) (by omega)) rfl ?_
  refine At.ev (ev_iaa (n := 4) (i := b / 64) T.un249 T.sz212 rfl rfl (by omega) (by omega)) rfl ?_
  refine At.ev (ld T.ld212 rfl (hc := Cell.set4 (s := s) (by repeat (first | with_reducible exact Mem.head _ _ | apply Mem.tail)) (by omega))) rfl ?_
  refine At.ev (ev_assign rfl) rfl ?_
  refine At.nil ?_
  refine At.thenN ?_
  refine At.seq ?_
  refine At.seq ?_
  refine At.region ?_
  refine At.ev (ev_move rfl) rfl ?_
  refine At.ev (ev_rem rfl rfl (by omega) (by omega)) rfl ?_
  refine At.ev (ev_assign rfl) rfl ?_
  refine At.nil ?_
  refine At.thenN ?_
  refine At.block ?_
  refine At.loopF1 [(5, 6), (13, 18)] (fun (k : Nat) => (b % 64).toNat - k) (fun (k : Nat) => k ≤ (b % 64).toNat) (fun (k : Nat) => [(5, .val (uv (s.get (b / 64).toNat >>> k))), (6, .val (.int .i64 (b % 64 - k)))]) (fun (k : Nat) => []) (0) (by omega) ⟨by simp; rfl, by simp; rfl, trivial⟩ ?_
  intro k hk
  refine At.cat0 ?_
  refine At.seq ?_
  refine At.seq ?_
  refine At.region ?_
  refine At.ev (ev_move rfl) rfl ?_
  refine At.ev (ev_gtr rfl rfl) rfl ?_
  refine At.nil ?_
  refine At.thenN ?_
  refine At.condD rfl ?_ ?_
  · intro h0
    refine At.skip ?_
    refine At.thenN ?_
    refine At.seq ?_
    refine At.block ?_
    refine At.region ?_
    refine At.ev (ev_move rfl) rfl ?_
    refine At.ev (ev_quo64 (b := 2#64) rfl rfl (by decide)) rfl ?_
    refine At.ev (ev_assign rfl) rfl ?_
    refine At.nil ?_
    refine At.blkN ?_
    refine At.thenN ?_
    refine At.region ?_
    refine At.ev (ev_move rfl) rfl ?_
    refine At.ev (ev_sub rfl rfl (by omega)) rfl ?_
    refine At.ev (ev_assign rfl) rfl ?_
    refine At.nil ?_
    refine At.thenN ?_
    refine At.againF1 (k + 1) (by omega) (by omega) ⟨by rw [← shr_half]; rfl, by rw [show b % 64 - ((k + 1 : Nat) : Int) = b % 64 - k - 1 by omega]; rfl, trivial⟩
  · intro h0
    obtain rfl : k = (b % 64).toNat := by omega
    refine At.exit ?_
    refine At.thenX ?_
    refine At.thenX ?_
    refine At.blkX ?_
    refine At.thenN ?_
    refine At.seq ?_
    refine At.region ?_
    refine At.ev (ev_move rfl) rfl ?_
    refine At.ev (ev_rem64 (b := 2#64) rfl rfl (by decide)) rfl ?_
    refine At.ev (ev_eq64 (b := 1#64) rfl rfl) rfl ?_
    refine At.ev (ev_assign rfl) rfl ?_
    refine At.nil ?_
    refine At.thenN ?_
    refine At.retC ?_
    refine At.ret (rs := [.tmp 4]) rfl (Res.tmp rfl Res.nil) ?_
    exact Imp.pur (congrArg Value.bool (odd_bit _ _)) (Imp.nil _)

/-- repartee/reparteeref06.Flags -/
theorem r06_Flags (s : SetD) : Does Tryz.prog 244 [.agg s.cs.toArray] [] (fun v => flA v (flS s)) := by
  refine Does.enter Tryz.func244 rfl rfl ?_
  intro E
  refine At.seq ?_
  refine At.region ?_
  refine At.boxA rfl ?_
  intro b0
  refine At.ev (ev_assign rfl) rfl ?_
  refine At.nil ?_
  refine At.thenN ?_
  refine At.seq ?_
  refine At.region ?_
  refine At.bsl [] T.un114 T.sz4 T.zv4 rfl ?_
  intro be
  refine At.own0 1 (by repeat (first | with_reducible exact At1.head _ _ | apply At1.tail)) ?_
  refine At.ownN (flK s 0) (by repeat (first | with_reducible exact At1.head _ _ | apply At1.tail)) (by rfl) ?_
  refine At.ev (ev_assign rfl) rfl ?_
  refine At.nil ?_
  refine At.thenN ?_
  refine At.seq ?_
  refine At.seq ?_
  refine At.region ?_
  refine At.ev (ev_assign rfl) rfl ?_
  refine At.nil ?_
  refine At.thenN ?_
  refine At.block ?_
  refine At.loopF3 [(3, 4), (6, 15)] (fun (k : Nat) (ao : Option Addr) (c : Nat) => 256 - k) (fun (k : Nat) (ao : Option Addr) (c : Nat) => k ≤ 256) (fun (k : Nat) (ao : Option Addr) (c : Nat) => [(3, .val (.slice ao k c)), (4, .val (.int .i64 k))]) (fun (k : Nat) (ao : Option Addr) (c : Nat) => [own (.slice ao k c) 4 1 k (flK s k)]) (0) (_) (_) (by omega) ⟨rfl, rfl, trivial⟩ ?_
  intro k ao c hk
  refine At.cat1 ?_
  refine At.seq ?_
  refine At.seq ?_
  refine At.region ?_
  refine At.ev (ev_move rfl) rfl ?_
  refine At.ev (ev_lss rfl rfl) rfl ?_
  refine At.nil ?_
  refine At.thenN ?_
  refine At.condD rfl ?_ ?_
  · intro h0
    refine At.skip ?_
    refine At.thenN ?_
    refine At.seq ?_
    refine At.block ?_
    refine At.region ?_
    refine At.ev (ev_move rfl) rfl ?_
    refine At.ev (ldA T.ld249 rfl) rfl ?_
    refine At.ev (ev_move rfl) rfl ?_
    refine At.callq (goes_func cf227 rfl) (Qc.pure (r06_Has s k (by omega) (by omega))) rfl ?_
    refine At.bsl [.bool (s.has k)] T.un114 T.sz4 T.zv4 rfl ?_
    intro b2
    refine At.app2 T.ti114 T.un114 rfl rfl ?_
    intro ao2 c2 hcc2 hmc2
    rw [flK_succ]
    refine At.ev (ev_assign rfl) rfl ?_
    refine At.nil ?_
    refine At.blkN ?_
    refine At.thenN ?_
    refine At.region ?_
    refine At.ev (ev_move rfl) rfl ?_
    refine At.ev (ev_add rfl rfl (by omega)) rfl ?_
    refine At.ev (ev_assign rfl) rfl ?_
    refine At.nil ?_
    refine At.thenN ?_
    refine At.againF3 (k + 1) (ao2) (c2) (by omega) (by omega) ⟨rfl, rfl, trivial⟩
  · intro h0
    obtain rfl : k = 256 := by omega
    refine At.ownO (n := 256) (by repeat (first | with_reducible exact At1.head _ _ | apply At1.tail)) (by omega) ?_
    intro bo cap sp e _ _ _ _
    obtain ⟨rfl, rfl⟩ : ao = some ⟨bo, 0, none⟩ ∧ c = cap := by simpa using e
    rw [flK_all]
    refine At.exit ?_
    refine At.thenX ?_
    refine At.thenX ?_
    refine At.blkX ?_
    refine At.thenN ?_
    refine At.seq ?_
    refine At.region ?_
    refine At.ev (ev_move rfl) rfl ?_
    refine At.ev (ev_assign rfl) rfl ?_
    refine At.nil ?_
    refine At.thenN ?_
    refine At.retC ?_
    refine At.ret (rs := [.tmp 2]) rfl (Res.tmp rfl Res.nil) ?_
    exact Imp.flA (by repeat (first | with_reducible exact At1.head _ _ | apply At1.tail))

/-- repartee/reparteeref06.None -/
theorem r06_None : Does Tryz.prog 235 [] [] (fun v => flA v (flS SetD.none)) := by
  refine Does.enter Tryz.func235 rfl rfl ?_
  intro E
  refine At.seq ?_
  refine At.region ?_
  refine At.ev (ev_assign rfl) rfl ?_
  refine At.nil ?_
  refine At.thenN ?_
  refine At.seq ?_
  refine At.region ?_
  refine At.ev (ev_buildA0 T.zv249 T.un249 T.sz212) rfl ?_
  refine At.do (goes_func cf244 rfl) (r06_Flags SetD.none) ?_
  intro _
  refine At.flA ?_
  intro bf cf spf e
  subst e
  refine At.ev (ev_assign rfl) rfl ?_
  refine At.nil ?_
  refine At.thenN ?_
  refine At.retC ?_
  refine At.ret (rs := [.tmp 0]) rfl (Res.tmp rfl Res.nil) ?_
  exact Imp.flA (by repeat (first | with_reducible exact At1.head _ _ | apply At1.tail))

/-- repartee/reparteeref06.stop -/
theorem r06_stop (s : ByteArray) (a : Int) (ha : a ≤ s.size) : Does Tryz.prog 236 [.string s, .int .i64 a] [] (fun v => pur (v = .tuple #[.agg SetD.none.cs.toArray, .int .i64 (rdStop s a).1, .int .i64 (rdStop s a).2])) := by
  refine Does.enter Tryz.func236 rfl rfl ?_
  intro E
  refine At.seq ?_
  refine At.region ?_
  refine At.new T.zv249 ?_
  intro b0
  refine At.ev (ev_assign rfl) rfl ?_
  refine At.ev (ev_assign rfl) rfl ?_
  refine At.nil ?_
  refine At.thenN ?_
  refine At.seq ?_
  refine At.seq ?_
  refine At.region ?_
  refine At.ev (ev_move rfl) rfl ?_
  refine At.ev (ev_move rfl) rfl ?_
  refine At.ev (ev_lens T.un9 rfl) rfl ?_
  refine At.ev (ev_eqi rfl rfl) rfl ?_
  refine At.nil ?_
  refine At.thenN ?_
  refine At.condD rfl ?_ ?_
  · intro h0
    refine At.seq ?_
    refine At.region ?_
    refine At.ev (ev_buildA0 T.zv249 T.un249 T.sz212) rfl ?_
    refine At.ev (ev_move rfl) rfl ?_
    refine At.stA T.sz249 rfl rfl rfl ?_ (cs' := SetD.none.cs)
    refine At.ev (ev_assign rfl) rfl ?_
    refine At.ev (ev_assign rfl) rfl ?_
    refine At.nil ?_
    refine At.thenN ?_
    refine At.retC ?_
    refine At.thenR ?_
    refine At.ret (rs := [.cell 4 249, .tmp 5, .tmp 6]) rfl (Res.cell rfl (load_whole T.ld249 rfl (by repeat (first | with_reducible exact Mem.head _ _ | apply Mem.tail))) (Res.tmp rfl (Res.tmp rfl Res.nil))) ?_
    exact Imp.pur (by unfold rdStop; rw [if_pos (by omega), ← h0]; rfl) (Imp.nil _)
  · intro h0
    refine At.skip ?_
    refine At.thenN ?_
    refine At.seq ?_
    refine At.region ?_
    refine At.ev (ev_buildA0 T.zv249 T.un249 T.sz212) rfl ?_
    refine At.ev (ev_move rfl) rfl ?_
    refine At.stA T.sz249 rfl rfl rfl ?_ (cs' := SetD.none.cs)
    refine At.ev (ev_assign rfl) rfl ?_
    refine At.ev (ev_assign rfl) rfl ?_
    refine At.nil ?_
    refine At.thenN ?_
    refine At.retC ?_
    refine At.ret (rs := [.cell 4 249, .tmp 5, .tmp 6]) rfl (Res.cell rfl (load_whole T.ld249 rfl (by repeat (first | with_reducible exact Mem.head _ _ | apply Mem.tail))) (Res.tmp rfl (Res.tmp rfl Res.nil))) ?_
    exact Imp.pur (by unfold rdStop; rw [if_neg (by omega)]; rfl) (Imp.nil _)

/-- repartee/reparteeref06.one -/
theorem r06_one (u : ByteArray) (hs : u.size ≤ big) : Does Tryz.prog 237 [.string u] [] (fun v => pur (v = .tuple #[.int .i64 (oneR u).1, .int .i64 (oneR u).2.1, .bool (oneR u).2.2])) := by
  refine Does.enter Tryz.func237 rfl rfl ?_
  intro E
  have b0 := bt_range u 0
  have b1 := bt_range u 1
  refine At.seq ?_
  refine At.region ?_
  refine At.ev (ev_assign rfl) rfl ?_
  refine At.ev (ev_assign rfl) rfl ?_
  refine At.ev (ev_assign rfl) rfl ?_
  refine At.nil ?_
  refine At.thenN ?_
  refine At.seq ?_
  refine At.seq ?_
  refine At.region ?_
  refine At.ev (ev_move rfl) rfl ?_
  refine At.ev (ev_eqs rfl rfl) rfl ?_
  refine At.ev (ev_move rfl) rfl ?_
  refine At.evg rfl rfl (fun hg => (ev_move rfl)) rfl rfl ?_
  refine At.evg rfl rfl (fun hg => (ev_ix T.un9 rfl rfl (by omega) (by simp at hg; rcases Nat.eq_zero_or_pos u.size with e | e; exact absurd ((size_zero u).1 e) hg; omega))) rfl rfl ?_
  refine At.evg rfl rfl (fun hg => (ev_eqi rfl rfl)) rfl rfl ?_
  refine At.ev (ev_pickG rfl rfl rfl rfl) rfl ?_
  refine At.ev (ev_move rfl) rfl ?_
  refine At.evg rfl rfl (fun hg => (ev_move rfl)) rfl rfl ?_
  refine At.evg rfl rfl (fun hg => (ev_ix T.un9 rfl rfl (by omega) (by simp at hg; rcases Nat.eq_zero_or_pos u.size with e | e; exact absurd ((size_zero u).1 e) hg.1; omega))) rfl rfl ?_
  refine At.evg rfl rfl (fun hg => (ev_eqi rfl rfl)) rfl rfl ?_
  refine At.ev (ev_pickG rfl rfl rfl rfl) rfl ?_
  refine At.nil ?_
  refine At.thenN ?_
  refine At.cond rfl ?_ ?_
  · intro h0
    try simp only [decide_eq_true_eq, decide_eq_false_iff_not, Bool.not_eq_true', Bool.not_eq_false', Bool.cond_false_right, Bool.cond_true_left, Bool.and_eq_true, Bool.or_eq_true, Bool.and_eq_false_iff, Bool.or_eq_false_iff, Bool.not_true, Bool.not_false] at h0
    simp only [← size_zero] at h0
    have hr : oneR u = (0, 0, false) := by unfold oneR; rw [if_pos (by omega)]
    refine At.seq ?_
    refine At.region ?_
    refine At.ev (ev_assign rfl) rfl ?_
    refine At.ev (ev_assign rfl) rfl ?_
    refine At.ev (ev_assign rfl) rfl ?_
    refine At.nil ?_
    refine At.thenN ?_
    refine At.retC ?_
    refine At.thenR ?_
    refine At.ret (rs := [.tmp 2, .tmp 3, .tmp 4]) rfl (Res.tmp rfl (Res.tmp rfl (Res.tmp rfl Res.nil))) ?_
    exact Imp.pur (by rw [hr]; rfl) (Imp.nil _)
  · intro h0
    try simp only [decide_eq_true_eq, decide_eq_false_iff_not, Bool.not_eq_true', Bool.not_eq_false', Bool.cond_false_right, Bool.cond_true_left, Bool.and_eq_true, Bool.or_eq_true, Bool.and_eq_false_iff, Bool.or_eq_false_iff, Bool.not_true, Bool.not_false] at h0
    simp only [← size_zero] at h0
    have h0' : ¬ (u.size = 0 ∨ bt u 0 = 93 ∨ bt u 0 = 45) := by omega
    refine At.skip ?_
    refine At.thenN ?_
    refine At.seq ?_
    refine At.seq ?_
    refine At.region ?_
    refine At.ev (ev_move rfl) rfl ?_
    refine At.ev (ev_ix T.un9 rfl rfl (by omega) (by omega)) rfl ?_
    refine At.ev (ev_nei rfl rfl) rfl ?_
    refine At.nil ?_
    refine At.thenN ?_
    refine At.condDn rfl ?_ ?_
    · intro h1
      have hr : oneR u = (bt u 0, 1, true) := by unfold oneR; rw [if_neg h0', if_pos h1]
      refine At.seq ?_
      refine At.region ?_
      refine At.ev (ev_move rfl) rfl ?_
      refine At.ev (ev_ix T.un9 rfl rfl (by omega) (by omega)) rfl ?_
      refine At.ev (ev_conv ⟨_, T.un5⟩ T.un3 rfl (IntWalk.i64_in _ (by omega))) rfl ?_
      refine At.ev (ev_assign rfl) rfl ?_
      refine At.ev (ev_assign rfl) rfl ?_
      refine At.ev (ev_assign rfl) rfl ?_
      refine At.nil ?_
      refine At.thenN ?_
      refine At.retC ?_
      refine At.thenR ?_
      refine At.ret (rs := [.tmp 2, .tmp 3, .tmp 4]) rfl (Res.tmp rfl (Res.tmp rfl (Res.tmp rfl Res.nil))) ?_
      exact Imp.pur (by rw [hr]; rfl) (Imp.nil _)
    · intro h1
      refine At.skip ?_
      refine At.thenN ?_
      refine At.seq ?_
      refine At.seq ?_
      refine At.region ?_
      refine At.ev (ev_move rfl) rfl ?_
      refine At.ev (ev_lens T.un9 rfl) rfl ?_
      refine At.ev (ev_eqi rfl rfl) rfl ?_
      refine At.nil ?_
      refine At.thenN ?_
      refine At.condD rfl ?_ ?_
      · intro h2
        have hr : oneR u = (0, 1, false) := by unfold oneR; rw [if_neg h0', if_neg (by simp [h1]), if_pos h2]
        refine At.seq ?_
        refine At.region ?_
        refine At.ev (ev_assign rfl) rfl ?_
        refine At.ev (ev_assign rfl) rfl ?_
        refine At.ev (ev_assign rfl) rfl ?_
        refine At.nil ?_
        refine At.thenN ?_
        refine At.retC ?_
        refine At.thenR ?_
        refine At.ret (rs := [.tmp 2, .tmp 3, .tmp 4]) rfl (Res.tmp rfl (Res.tmp rfl (Res.tmp rfl Res.nil))) ?_
        exact Imp.pur (by rw [hr]; rfl) (Imp.nil _)
      · intro h2
        have hr : oneR u = (bt u 1, 2, true) := by unfold oneR; rw [if_neg h0', if_neg (by simp [h1]), if_neg h2]
        refine At.skip ?_
        refine At.thenN ?_
        refine At.seq ?_
        refine At.region ?_
        refine At.ev (ev_move rfl) rfl ?_
        refine At.ev (ev_ix T.un9 rfl rfl (by omega) (by omega)) rfl ?_
        refine At.ev (ev_conv ⟨_, T.un5⟩ T.un3 rfl (IntWalk.i64_in _ (by omega))) rfl ?_
        refine At.ev (ev_assign rfl) rfl ?_
        refine At.ev (ev_assign rfl) rfl ?_
        refine At.ev (ev_assign rfl) rfl ?_
        refine At.nil ?_
        refine At.thenN ?_
        refine At.retC ?_
        refine At.ret (rs := [.tmp 2, .tmp 3, .tmp 4]) rfl (Res.tmp rfl (Res.tmp rfl (Res.tmp rfl Res.nil))) ?_
        exact Imp.pur (by rw [hr]; rfl) (Imp.nil _)

/-- repartee/reparteeref06.Make -/
theorem r06_Make (s : SetD) (bf c : Nat) (sp : List Value) : Does Tryz.prog 238 [.slice (some ⟨bf, 0, none⟩) 256 c] [blk bf (flS s ++ sp) 4] (fun v => pur (v = .agg s.cs.toArray)) := by
  refine Does.enter Tryz.func238 rfl rfl ?_
  intro E
  refine At.seq ?_
  refine At.region ?_
  refine At.new T.zv249 ?_
  intro b0
  refine At.nil ?_
  refine At.thenN ?_
  refine At.seq ?_
  refine At.region ?_
  refine At.ev (ev_buildA0 T.zv249 T.un249 T.sz212) rfl ?_
  refine At.new T.zv249 ?_
  intro bx
  refine At.stA T.sz249 rfl rfl rfl ?_ (cs' := (mkW s 0).cs)
  refine At.nil ?_
  refine At.thenN ?_
  refine At.seq ?_
  refine At.seq ?_
  refine At.region ?_
  refine At.ev (ev_assign rfl) rfl ?_
  refine At.nil ?_
  refine At.thenN ?_
  refine At.block ?_
  refine At.loopF1 [(4, 5), (7, 33)] (fun (w : Nat) => 4 - w) (fun (w : Nat) => w ≤ 4) (fun (w : Nat) => [(4, .val (.int .i64 w))]) (fun (w : Nat) => [blk bx (mkW s w).cs 249]) (0) (by omega) ⟨rfl, trivial⟩ ?_
  intro w hk
  refine At.cat1 ?_
  refine At.seq ?_
  refine At.seq ?_
  refine At.region ?_
  refine At.ev (ev_move rfl) rfl ?_
  refine At.ev (ev_lss rfl rfl) rfl ?_
  refine At.nil ?_
  refine At.thenN ?_
  refine At.condD rfl ?_ ?_
  · intro h0
    have hlt : w < 4 := by omega
    refine At.skip ?_
    refine At.thenN ?_
    refine At.seq ?_
    refine At.block ?_
    refine At.seq ?_
    refine At.region ?_
    refine At.ev (ev_assign rfl) rfl ?_
    refine At.nil ?_
    refine At.thenN ?_
    refine At.block ?_
    rw [← mkX_0 s hlt]
    refine At.loopF1 [(5, 5), (11, 33)] (fun (k : Nat) => 64 - k) (fun (k : Nat) => k ≤ 64) (fun (k : Nat) => [(5, .val (.int .i64 (63 - k)))]) (fun (k : Nat) => [blk bx (mkX s w k).cs 249]) (0) (by omega) ⟨rfl, trivial⟩ ?_
    intro k hj
    refine At.cat1 ?_
    refine At.seq ?_
    refine At.seq ?_
    refine At.region ?_
    refine At.ev (ev_move rfl) rfl ?_
    refine At.ev (ev_geq rfl rfl) rfl ?_
    refine At.nil ?_
    refine At.thenN ?_
    refine At.condD rfl ?_ ?_
    · intro h1
      have hk2 : k < 64 := by omega
      refine At.skip ?_
      refine At.thenN ?_
      refine At.seq ?_
      refine At.block ?_
      refine At.seq ?_
      refine At.region ?_
      refine At.ev (ev_move rfl) rfl ?_
      refine At.ev (ev_move rfl) rfl ?_
      refine At.ev (ev_iaa (n := 4) (i := w) T.un249 T.sz212 rfl rfl (by omega) (by omega)) rfl ?_
      refine At.ev (ld T.ld212 rfl (hc := Cell.set4 (s := mkX s w k) (by repeat (first | with_reducible exact Mem.head _ _ | apply Mem.tail)) (by omega))) rfl ?_
      refine At.ev (ev_mul64 (a := 2#64) rfl rfl) rfl ?_
      refine At.ev (ev_iaa (n := 4) (i := w) T.un249 T.sz212 rfl rfl (by omega) (by omega)) rfl ?_
      refine At.st4 (s := mkX s w k) T.sz212 rfl rfl rfl (by omega) ?_
      rw [Int.toNat_natCast]
      refine At.nil ?_
      refine At.thenN ?_
      refine At.seq ?_
      refine At.region ?_
      refine At.ev (ev_move rfl) rfl ?_
      refine At.ev (ev_move rfl) rfl ?_
      refine At.ev (ev_mul rfl rfl (by omega)) rfl ?_
      refine At.ev (ev_move rfl) rfl ?_
      refine At.ev (ev_add rfl rfl (by omega)) rfl ?_
      refine At.ev (ev_ia (i := 64 * w + (63 - k)) (n := 256) T.un114 T.sz4 rfl rfl (by omega) (by omega)) rfl ?_
      refine At.ev (ld T.ld4 rfl (hc := Cell.flag (s := s) (by repeat (first | with_reducible exact Mem.head _ _ | apply Mem.tail)) (by omega) (by omega))) rfl ?_
      refine At.nil ?_
      refine At.thenN ?_
      refine At.joinQ1 [(28, 33)] (fun (u : Unit) => True) (fun (u : Unit) => []) (fun (u : Unit) => [blk bx (mkX s w (k + 1)).cs 249]) [blk bx ((mkX s w k).put w (2#64 * (mkX s w k).get w)).cs 249] ?_ ?_
      · skip
        refine At.cond rfl ?_ ?_
        · intro h2
          try simp only [decide_eq_true_eq, decide_eq_false_iff_not, Bool.not_eq_true', Bool.not_eq_false', Bool.cond_false_right, Bool.cond_true_left, Bool.and_eq_true, Bool.or_eq_true, Bool.and_eq_false_iff, Bool.or_eq_false_iff, Bool.not_true, Bool.not_false] at h2
          refine At.region ?_
          refine At.ev (ev_move rfl) rfl ?_
          refine At.ev (ev_move rfl) rfl ?_
          refine At.ev (ev_iaa (n := 4) (i := w) T.un249 T.sz212 rfl rfl (by omega) (by omega)) rfl ?_
          refine At.ev (ld T.ld212 rfl (hc := Cell.set4 (s := ((mkX s w k).put w (2#64 * (mkX s w k).get w))) (by repeat (first | with_reducible exact Mem.head _ _ | apply Mem.tail)) (by omega))) rfl ?_
          refine At.ev (ev_add64 (b := 1#64) rfl rfl) rfl ?_
          refine At.ev (ev_iaa (n := 4) (i := w) T.un249 T.sz212 rfl rfl (by omega) (by omega)) rfl ?_
          refine At.st4 (s := ((mkX s w k).put w (2#64 * (mkX s w k).get w))) T.sz212 rfl rfl rfl (by omega) ?_
          rw [Int.toNat_natCast, mkX_step s hlt hk2 h2]
          refine At.nil ?_
          refine At.thenN ?_
          refine At.meet1 (()) (trivial) trivial
        · intro h2
          try simp only [decide_eq_true_eq, decide_eq_false_iff_not, Bool.not_eq_true', Bool.not_eq_false', Bool.cond_false_right, Bool.cond_true_left, Bool.and_eq_true, Bool.or_eq_true, Bool.and_eq_false_iff, Bool.or_eq_false_iff, Bool.not_true, Bool.not_false] at h2
          refine At.skip ?_
          refine At.thenN ?_
          rw [mkX_keep s hlt hk2 h2]
          refine At.meet1 (()) (trivial) trivial
      intro u hj
      refine At.cat1 ?_
      refine At.blkN ?_
      refine At.thenN ?_
      refine At.region ?_
      refine At.ev (ev_move rfl) rfl ?_
      refine At.ev (ev_sub rfl rfl (by omega)) rfl ?_
      refine At.ev (ev_assign rfl) rfl ?_
      refine At.nil ?_
      refine At.thenN ?_
      refine At.againF1 (k + 1) (by omega) (by omega) ⟨by rw [show (63 : Int) - ((k + 1 : Nat) : Int) = 63 - k - 1 by omega]; rfl, trivial⟩
    · intro h1
      obtain rfl : k = 64 := by omega
      rw [mkX_all]
      refine At.exit ?_
      refine At.thenX ?_
      refine At.thenX ?_
      refine At.blkX ?_
      refine At.blkN ?_
      refine At.thenN ?_
      refine At.region ?_
      refine At.ev (ev_move rfl) rfl ?_
      refine At.ev (ev_add rfl rfl (by omega)) rfl ?_
      refine At.ev (ev_assign rfl) rfl ?_
      refine At.nil ?_
      refine At.thenN ?_
      refine At.againF1 (w + 1) (by omega) (by omega) ⟨rfl, trivial⟩
  · intro h0
    obtain rfl : w = 4 := by omega
    rw [mkW_all]
    refine At.exit ?_
    refine At.thenX ?_
    refine At.thenX ?_
    refine At.blkX ?_
    refine At.thenN ?_
    refine At.seq ?_
    refine At.region ?_
    refine At.ev (ldA T.ld249 rfl) rfl ?_
    refine At.stA T.sz249 rfl rfl rfl ?_
    refine At.nil ?_
    refine At.thenN ?_
    refine At.retC ?_
    refine At.ret (rs := [.cell 2 249]) rfl (Res.cell rfl (load_whole T.ld249 rfl (by repeat (first | with_reducible exact Mem.head _ _ | apply Mem.tail))) Res.nil) ?_
    exact Imp.pur rfl (Imp.nil _)

/-- repartee/reparteeref06.Not -/
theorem r06_Not (s : SetD) : Does Tryz.prog 239 [.agg s.cs.toArray] [] (fun v => pur (v = .agg s.not.cs.toArray)) := by
  refine Does.enter Tryz.func239 rfl rfl ?_
  intro E
  refine At.seq ?_
  refine At.region ?_
  refine At.boxA rfl ?_
  intro b0
  refine At.new T.zv249 ?_
  intro b1
  refine At.nil ?_
  refine At.thenN ?_
  refine At.seq ?_
  refine At.region ?_
  refine At.ev (ldA T.ld249 rfl) rfl ?_
  refine At.do (goes_func cf244 rfl) (r06_Flags s) ?_
  intro _
  refine At.flA ?_
  intro bf cf spf e
  subst e
  rw [← flN_0]
  refine At.ev (ev_assign rfl) rfl ?_
  refine At.nil ?_
  refine At.thenN ?_
  refine At.seq ?_
  refine At.seq ?_
  refine At.region ?_
  refine At.ev (ev_assign rfl) rfl ?_
  refine At.nil ?_
  refine At.thenN ?_
  refine At.block ?_
  refine At.loopF1 [(4, 4), (7, 18)] (fun (k : Nat) => 256 - k) (fun (k : Nat) => k ≤ 256) (fun (k : Nat) => [(4, .val (.int .i64 k))]) (fun (k : Nat) => [blk bf (flN s k ++ spf) 4]) (0) (by omega) ⟨rfl, trivial⟩ ?_
  intro k hk
  refine At.cat1 ?_
  refine At.seq ?_
  refine At.seq ?_
  refine At.region ?_
  refine At.ev (ev_move rfl) rfl ?_
  refine At.ev (ev_lss rfl rfl) rfl ?_
  refine At.nil ?_
  refine At.thenN ?_
  refine At.condD rfl ?_ ?_
  · intro h0
    have hlt : k < 256 := by omega
    refine At.skip ?_
    refine At.thenN ?_
    refine At.seq ?_
    refine At.block ?_
    refine At.region ?_
    refine At.ev (ev_move rfl) rfl ?_
    refine At.ev (ev_move rfl) rfl ?_
    refine At.ev (ev_move rfl) rfl ?_
    refine At.ev (ev_move rfl) rfl ?_
    refine At.ev (ev_ia (i := k) (n := 256) T.un114 T.sz4 rfl rfl (by omega) (by omega)) rfl ?_
    refine At.ev (ld T.ld4 rfl (v := .bool (s.has k)) (hc := Cell.blk (by repeat (first | with_reducible exact Mem.head _ _ | apply Mem.tail)) (by rw [Nat.mul_one, Int.toNat_natCast]; exact flN_at s hlt spf))) rfl ?_
    refine At.ev (ev_not rfl) rfl ?_
    refine At.ev (ev_ia (i := k) (n := 256) T.un114 T.sz4 rfl rfl (by omega) (by omega)) rfl ?_
    refine At.st1 T.sz4 rfl rfl (add_lit _ _ _) ?_ (cs' := flN s (k + 1) ++ spf) (he := by rw [Nat.mul_one, Int.toNat_natCast, Nat.zero_add]; exact flN_set s hlt spf) (hk := by simp [flN, fl_len]; omega)
    refine At.nil ?_
    refine At.blkN ?_
    refine At.thenN ?_
    refine At.region ?_
    refine At.ev (ev_move rfl) rfl ?_
    refine At.ev (ev_add rfl rfl (by omega)) rfl ?_
    refine At.ev (ev_assign rfl) rfl ?_
    refine At.nil ?_
    refine At.thenN ?_
    refine At.againF1 (k + 1) (by omega) (by omega) ⟨rfl, trivial⟩
  · intro h0
    obtain rfl : k = 256 := by omega
    rw [flN_all]
    refine At.exit ?_
    refine At.thenX ?_
    refine At.thenX ?_
    refine At.blkX ?_
    refine At.thenN ?_
    refine At.seq ?_
    refine At.region ?_
    refine At.ev (ev_move rfl) rfl ?_
    refine At.do (goes_func cf238 rfl) (r06_Make s.not bf cf spf) ?_
    intro _
    refine At.pur ?_
    rintro rfl
    refine At.stA T.sz249 rfl rfl rfl ?_ (cs' := s.not.cs)
    refine At.nil ?_
    refine At.thenN ?_
    refine At.retC ?_
    refine At.ret (rs := [.cell 2 249]) rfl (Res.cell rfl (load_whole T.ld249 rfl (by repeat (first | with_reducible exact Mem.head _ _ | apply Mem.tail))) Res.nil) ?_
    exact Imp.pur rfl (Imp.nil _)

/-- repartee/reparteeref06.Span -/
theorem r06_Span (a b : Int) (h0 : 0 ≤ a) (h1 : a ≤ 255) (hb : b ≤ 255) : Does Tryz.prog 225 [.int .i64 a, .int .i64 b] [] (fun v => pur (v = .agg (spanS a b).cs.toArray)) := by
  refine Does.enter Tryz.func225 rfl rfl ?_
  intro E
  have hb0 : -9223372036854775808 ≤ b ∨ True := .inr trivial
  refine At.seq ?_
  refine At.region ?_
  refine At.new T.zv249 ?_
  intro b0
  refine At.nil ?_
  refine At.thenN ?_
  refine At.seq ?_
  refine At.region ?_
  refine At.do (goes_func cf235 rfl) (r06_None) ?_
  intro _
  refine At.flA ?_
  intro bf cf spf e
  subst e
  rw [show SetD.none = spanN a 0 from rfl]
  refine At.ev (ev_assign rfl) rfl ?_
  refine At.nil ?_
  refine At.thenN ?_
  refine At.seq ?_
  refine At.seq ?_
  refine At.region ?_
  refine At.ev (ev_move rfl) rfl ?_
  refine At.ev (ev_assign rfl) rfl ?_
  refine At.nil ?_
  refine At.thenN ?_
  refine At.block ?_
  refine At.loopF1 [(6, 6), (9, 16)] (fun (k : Nat) => (b + 1 - a).toNat - k) (fun (k : Nat) => k ≤ (b + 1 - a).toNat) (fun (k : Nat) => [(6, .val (.int .i64 (a + k)))]) (fun (k : Nat) => [blk bf (flS (spanN a k) ++ spf) 4]) (0) (by omega) ⟨by simp; rfl, trivial⟩ ?_
  intro k hk
  refine At.cat1 ?_
  refine At.seq ?_
  refine At.seq ?_
  refine At.region ?_
  refine At.ev (ev_move rfl) rfl ?_
  refine At.ev (ev_move rfl) rfl ?_
  refine At.ev (ev_leq rfl rfl) rfl ?_
  refine At.nil ?_
  refine At.thenN ?_
  refine At.condD rfl ?_ ?_
  · intro h0
    refine At.skip ?_
    refine At.thenN ?_
    refine At.seq ?_
    refine At.block ?_
    refine At.region ?_
    refine At.ev (ev_move rfl) rfl ?_
    refine At.ev (ev_move rfl) rfl ?_
    refine At.ev (ev_ia (i := a + k) (n := 256) T.un114 T.sz4 rfl rfl (by omega) (by omega)) rfl ?_
    refine At.stFlag (i := a + k) (s := spanN a k) T.sz4 rfl rfl rfl (by omega) (by omega) (by repeat (first | with_reducible exact At1.head _ _ | apply At1.tail)) ?_
    rw [show (spanN a k).with_ (a + k) = spanN a (k + 1) from rfl]
    refine At.nil ?_
    refine At.blkN ?_
    refine At.thenN ?_
    refine At.region ?_
    refine At.ev (ev_move rfl) rfl ?_
    refine At.ev (ev_add rfl rfl (by omega)) rfl ?_
    refine At.ev (ev_assign rfl) rfl ?_
    refine At.nil ?_
    refine At.thenN ?_
    refine At.againF1 (k + 1) (by omega) (by omega) ⟨by rw [show a + ((k + 1 : Nat) : Int) = a + k + 1 by omega]; rfl, trivial⟩
  · intro h0
    obtain rfl : k = (b + 1 - a).toNat := by omega
    rw [show spanN a (b + 1 - a).toNat = spanS a b from rfl]
    refine At.exit ?_
    refine At.thenX ?_
    refine At.thenX ?_
    refine At.blkX ?_
    refine At.thenN ?_
    refine At.seq ?_
    refine At.region ?_
    refine At.ev (ev_move rfl) rfl ?_
    refine At.do (goes_func cf238 rfl) (r06_Make (spanS a b) bf cf spf) ?_
    intro _
    refine At.pur ?_
    rintro rfl
    refine At.stA T.sz249 rfl rfl rfl ?_ (cs' := (spanS a b).cs)
    refine At.nil ?_
    refine At.thenN ?_
    refine At.retC ?_
    refine At.ret (rs := [.cell 4 249]) rfl (Res.cell rfl (load_whole T.ld249 rfl (by repeat (first | with_reducible exact Mem.head _ _ | apply Mem.tail))) Res.nil) ?_
    exact Imp.pur rfl (Imp.nil _)

/-- repartee/reparteeref06.Read -/
theorem r06_Read (s : ByteArray) (hs : s.size ≤ big) : Does Tryz.prog 224 [.string s] [] (fun v => pur (v = .tuple #[.agg (rdEnd s).1.cs.toArray, .int .i64 (rdEnd s).2.1, .int .i64 (rdEnd s).2.2])) := by
  refine Does.enter Tryz.func224 rfl rfl ?_
  intro E
  have hbig : big = 9223372036854775807 := rfl
  have hs' := hs
  unfold big at hs'
  refine At.seq ?_
  refine At.region ?_
  refine At.new T.zv249 ?_
  intro bz
  refine At.ev (ev_assign rfl) rfl ?_
  refine At.ev (ev_assign rfl) rfl ?_
  refine At.nil ?_
  refine At.thenN ?_
  refine At.seq ?_
  refine At.region ?_
  refine At.do (goes_func cf235 rfl) (r06_None) ?_
  intro _
  refine At.flA ?_
  intro bf cf spf e
  subst e
  refine At.ev (ev_assign rfl) rfl ?_
  refine At.ev (ev_assign rfl) rfl ?_
  refine At.ev (ev_assign rfl) rfl ?_
  refine At.nil ?_
  refine At.thenN ?_
  refine At.seq ?_
  refine At.seq ?_
  refine At.region ?_
  refine At.ev (ev_move rfl) rfl ?_
  refine At.ev (ev_eqs rfl rfl) rfl ?_
  refine At.ev (ev_move rfl) rfl ?_
  refine At.evg rfl rfl (fun hg => (ev_move rfl)) rfl rfl ?_
  refine At.evg rfl rfl (fun hg => (ev_ix T.un9 rfl rfl (by omega) (by simp at hg; rcases Nat.eq_zero_or_pos s.size with e | e; exact absurd ((size_zero s).1 e) hg; omega))) rfl rfl ?_
  refine At.evg rfl rfl (fun hg => (ev_nei rfl rfl)) rfl rfl ?_
  refine At.ev (ev_pickG rfl rfl rfl rfl) rfl ?_
  refine At.nil ?_
  refine At.thenN ?_
  refine At.cond rfl ?_ ?_
  · intro h0
    try simp only [decide_eq_true_eq, decide_eq_false_iff_not, Bool.not_eq_true', Bool.not_eq_false', Bool.cond_false_right, Bool.cond_true_left, Bool.and_eq_true, Bool.or_eq_true, Bool.and_eq_false_iff, Bool.or_eq_false_iff, Bool.not_true, Bool.not_false] at h0
    simp only [← size_zero] at h0
    have hr : rdEnd s = (SetD.none, rdStop s 0) := by unfold rdEnd; rw [if_pos (by simp [rdIs]; omega)]
    refine At.seq ?_
    refine At.region ?_
    refine At.ev (ev_move rfl) rfl ?_
    refine At.callq (goes_func cf236 rfl) (Qc.pure (r06_stop s 0 (by omega))) rfl ?_
    refine At.ev (ev_ext rfl rfl) rfl ?_
    refine At.ev (ev_ext rfl rfl) rfl ?_
    refine At.ev (ev_ext rfl rfl) rfl ?_
    refine At.stA T.sz249 rfl rfl rfl ?_ (cs' := SetD.none.cs)
    refine At.ev (ev_assign rfl) rfl ?_
    refine At.ev (ev_assign rfl) rfl ?_
    refine At.nil ?_
    refine At.thenN ?_
    refine At.retC ?_
    refine At.thenR ?_
    refine At.ret (rs := [.cell 2 249, .tmp 3, .tmp 4]) rfl (Res.cell rfl (load_whole T.ld249 rfl (by repeat (first | with_reducible exact Mem.head _ _ | apply Mem.tail))) (Res.tmp rfl (Res.tmp rfl Res.nil))) ?_
    exact Imp.pur (by rw [hr]; rfl) (Imp.nil _)
  · intro h0
    try simp only [decide_eq_true_eq, decide_eq_false_iff_not, Bool.not_eq_true', Bool.not_eq_false', Bool.cond_false_right, Bool.cond_true_left, Bool.and_eq_true, Bool.or_eq_true, Bool.and_eq_false_iff, Bool.or_eq_false_iff, Bool.not_true, Bool.not_false] at h0
    simp only [← size_zero] at h0
    have hi0 : ¬ rdIs s 0 91 = false := by simp [rdIs]; omega
    refine At.skip ?_
    refine At.thenN ?_
    refine At.seq ?_
    refine At.seq ?_
    refine At.region ?_
    refine At.ev (ev_move rfl) rfl ?_
    refine At.ev (ev_lens T.un9 rfl) rfl ?_
    refine At.ev (ev_gtr rfl rfl) rfl ?_
    refine At.ev (ev_move rfl) rfl ?_
    refine At.evg rfl rfl (fun hg => (ev_move rfl)) rfl rfl ?_
    refine At.evg rfl rfl (fun hg => (ev_ix T.un9 rfl rfl (by first | omega | decide | (simp at hg; omega) | (simp at hl hg; omega) | (simp at hg ⊢; omega)) (by first | omega | decide | (simp at hg; omega) | (simp at hl hg; omega) | (simp at hg ⊢; omega)))) rfl rfl ?_
    refine At.evg rfl rfl (fun hg => (ev_eqi rfl rfl)) rfl rfl ?_
    refine At.ev (ev_pickG rfl rfl rfl rfl) rfl ?_
    refine At.nil ?_
    refine At.thenN ?_
    refine At.joinQ2 [(6, 7)] (fun (a0 : Int) (but : Bool) => but = rdIs s 1 94 ∧ a0 = (if rdIs s 1 94 = true then 2 else 1) ∧ 1 ≤ a0 ∧ a0 ≤ s.size) (fun (a0 : Int) (but : Bool) => [(6, .val (.int .i64 a0)), (7, .val (.bool but))]) (fun (a0 : Int) (but : Bool) => []) [] ?_ ?_
    · skip
      refine At.cond rfl ?_ ?_
      · intro h1
        try simp only [decide_eq_true_eq, decide_eq_false_iff_not, Bool.not_eq_true', Bool.not_eq_false', Bool.cond_false_right, Bool.cond_true_left, Bool.and_eq_true, Bool.or_eq_true, Bool.and_eq_false_iff, Bool.or_eq_false_iff, Bool.not_true, Bool.not_false] at h1
        refine At.region ?_
        refine At.ev (ev_assign rfl) rfl ?_
        refine At.ev (ev_assign rfl) rfl ?_
        refine At.nil ?_
        refine At.thenN ?_
        have h1' : rdIs s 1 94 = true := by simp [rdIs]; omega
        refine At.meet2 (2) (true) (⟨h1'.symm, by rw [if_pos h1'], by omega, by omega⟩) ⟨rfl, rfl, trivial⟩
      · intro h1
        try simp only [decide_eq_true_eq, decide_eq_false_iff_not, Bool.not_eq_true', Bool.not_eq_false', Bool.cond_false_right, Bool.cond_true_left, Bool.and_eq_true, Bool.or_eq_true, Bool.and_eq_false_iff, Bool.or_eq_false_iff, Bool.not_true, Bool.not_false] at h1
        refine At.skip ?_
        refine At.thenN ?_
        have h1' : rdIs s 1 94 = false := by simp [rdIs]; omega
        refine At.meet2 (1) (false) (⟨h1'.symm, by rw [if_neg (by simp [h1'])], by omega, by omega⟩) ⟨rfl, rfl, trivial⟩
    intro a0 but hj
    refine At.cat0 ?_
    obtain ⟨hbut, ha0, ha1, ha2⟩ := hj
    have hend : rdEnd s = (if (rdFrom s a0).bad ≠ 0 then (SetD.none, (rdFrom s a0).at_, (rdFrom s a0).bad) else (if but = true then (rdFrom s a0).out.not else (rdFrom s a0).out, (rdFrom s a0).at_ + 1, (rdFrom s a0).bad)) := by unfold rdEnd; rw [if_neg hi0]; simp only; rw [← ha0, hbut]
    obtain ⟨X, hX⟩ : ∃ X, X = rdFrom s a0 := ⟨_, rfl⟩
    rw [← hX] at hend
    refine At.thenN ?_
    refine At.seq ?_
    refine At.seq ?_
    refine At.region ?_
    refine At.ev (ev_assign rfl) rfl ?_
    refine At.nil ?_
    refine At.thenN ?_
    refine At.block ?_
    refine At.loopF4 [(3, 4), (6, 6), (8, 13), (36, 114)] (fun (n : Nat) (first : Bool) (out : SetD) (a : Int) => (s.size - a).toNat) (fun (n : Nat) (first : Bool) (out : SetD) (a : Int) => 0 ≤ a ∧ a ≤ s.size ∧ rdPre s X n first out a) (fun (n : Nat) (first : Bool) (out : SetD) (a : Int) => [(6, .val (.int .i64 a)), (8, .val (.bool first))]) (fun (n : Nat) (first : Bool) (out : SetD) (a : Int) => [blk bf (flS out ++ spf) 4]) (0) (true) (SetD.none) (a0) (⟨by omega, ha2, .inl ⟨rfl, rfl, hX⟩⟩) ⟨rfl, rfl, trivial⟩ ?_
    intro n first out a hk
    refine At.cat1 ?_
    obtain ⟨hk1, hk2, hk3⟩ := hk
    refine At.seq ?_
    refine At.seq ?_
    refine At.region ?_
    refine At.ev (ev_move rfl) rfl ?_
    refine At.ev (ev_move rfl) rfl ?_
    refine At.evg rfl rfl (fun hg => (ev_move rfl)) rfl rfl ?_
    refine At.evg rfl rfl (fun hg => (ev_move rfl)) rfl rfl ?_
    refine At.evg rfl rfl (fun hg => (ev_lens T.un9 rfl)) rfl rfl ?_
    refine At.evg rfl rfl (fun hg => (ev_eqi rfl rfl)) rfl rfl ?_
    refine At.ev (ev_pickG rfl rfl rfl rfl) rfl ?_
    refine At.ev (ev_move rfl) rfl ?_
    refine At.evg rfl rfl (fun hg => (ev_move rfl)) rfl rfl ?_
    refine At.evg rfl rfl (fun hg => (ev_move rfl)) rfl rfl ?_
    refine At.evg rfl rfl (fun hg => (ev_ix T.un9 rfl rfl (by first | omega | decide | (simp at hg; omega) | (simp at hl hg; omega) | (simp at hg ⊢; omega)) (by first | omega | decide | (simp at hg; omega) | (simp at hl hg; omega) | (simp at hg ⊢; omega)))) rfl rfl ?_
    refine At.evg rfl rfl (fun hg => (ev_nei rfl rfl)) rfl rfl ?_
    refine At.ev (ev_pickG rfl rfl rfl rfl) rfl ?_
    refine At.nil ?_
    refine At.thenN ?_
    refine At.cond rfl ?_ ?_
    · intro h2
      try simp only [decide_eq_true_eq, decide_eq_false_iff_not, Bool.not_eq_true', Bool.not_eq_false', Bool.cond_false_right, Bool.cond_true_left, Bool.and_eq_true, Bool.or_eq_true, Bool.and_eq_false_iff, Bool.or_eq_false_iff, Bool.not_true, Bool.not_false] at h2
      have hc : first = true ∨ rdIs s a 93 = false := by
        rcases h2 with (h | h) | h
        · exact .inl h
        · right; simp [rdIs]; omega
        · right; simp [rdIs]; omega
      obtain ⟨n1, hX1, hn1⟩ := rdPre_step hk3 hk1 hk2 hc
      have hq1 := bSub_size s a hk1 hk2
      have hq2 : (bSub s a s.size).size ≤ big := by omega
      have hos := one_sign s a 0 hk1 hk2
      have hob := oneR_b (bSub s a s.size)
      obtain ⟨f, hf⟩ : ∃ f, f = oneR (bSub s a s.size) := ⟨_, rfl⟩
      rw [← hf] at hos hob
      refine At.skip ?_
      refine At.thenN ?_
      refine At.seq ?_
      refine At.block ?_
      refine At.seq ?_
      refine At.region ?_
      refine At.ev (ev_move rfl) rfl ?_
      refine At.ev (ev_move rfl) rfl ?_
      refine At.ev (ev_cutI (i := a) (j := s.size) T.un9 rfl rfl rfl (by omega) (by omega) (by omega)) rfl ?_
      refine At.callq (goes_func cf237 rfl) (Qc.pure (r06_one (bSub s a s.size) hq2)) rfl ?_
      rw [← hf]
      refine At.ev (ev_move rfl) rfl ?_
      refine At.ev (ev_ext rfl rfl) rfl ?_
      refine At.ev (ev_ext rfl rfl) rfl ?_
      refine At.ev (ev_ext rfl rfl) rfl ?_
      refine At.ev (ev_assign rfl) rfl ?_
      refine At.ev (ev_assign rfl) rfl ?_
      refine At.ev (ev_assign rfl) rfl ?_
      refine At.nil ?_
      refine At.thenN ?_
      refine At.seq ?_
      refine At.region ?_
      refine At.ev (ev_move rfl) rfl ?_
      refine At.ev (ev_move rfl) rfl ?_
      refine At.ev (ev_add rfl rfl (by omega)) rfl ?_
      refine At.ev (ev_assign rfl) rfl ?_
      refine At.nil ?_
      refine At.thenN ?_
      refine At.seq ?_
      refine At.seq ?_
      refine At.region ?_
      refine At.ev (ev_move rfl) rfl ?_
      refine At.ev (ev_not rfl) rfl ?_
      refine At.nil ?_
      refine At.thenN ?_
      refine At.cond rfl ?_ ?_
      · intro h3
        try simp only [decide_eq_true_eq, decide_eq_false_iff_not, Bool.not_eq_true', Bool.not_eq_false', Bool.cond_false_right, Bool.cond_true_left, Bool.and_eq_true, Bool.or_eq_true, Bool.and_eq_false_iff, Bool.or_eq_false_iff, Bool.not_true, Bool.not_false] at h3
        rw [if_neg (by simp [h3])] at hos
        have hp2 : (rdPart s a 0).2 = rdStop s (a + f.2.1) := by unfold rdPart; rw [hos]; simp only; rw [if_pos (.inl (by unfold rdStop; split <;> simp))]
        have hX2 : X = ⟨out.or (rdPart s a 0).1, (rdPart s a 0).2.1, (rdPart s a 0).2.2⟩ := by rw [hX1]; exact rdLoop_bad (by simp only; rw [hp2]; unfold rdStop; split <;> simp)
        have hre : rdEnd s = (SetD.none, (rdPart s a 0).2.1, (rdPart s a 0).2.2) := by rw [hend, hX2, if_pos (by simp only; rw [hp2]; unfold rdStop; split <;> simp)]
        rw [hp2] at hre
        refine At.seq ?_
        refine At.region ?_
        refine At.ev (ev_move rfl) rfl ?_
        refine At.ev (ev_move rfl) rfl ?_
        refine At.callq (goes_func cf236 rfl) (Qc.pure (r06_stop s (a + f.2.1) (by omega))) rfl ?_
        refine At.ev (ev_ext rfl rfl) rfl ?_
        refine At.ev (ev_ext rfl rfl) rfl ?_
        refine At.ev (ev_ext rfl rfl) rfl ?_
        refine At.stA T.sz249 rfl rfl rfl ?_ (cs' := SetD.none.cs)
        refine At.ev (ev_assign rfl) rfl ?_
        refine At.ev (ev_assign rfl) rfl ?_
        refine At.nil ?_
        refine At.thenN ?_
        refine At.retC ?_
        refine At.thenR ?_
        refine At.blkR ?_
        refine At.thenR ?_
        refine At.thenR ?_
        refine At.blkR ?_
        refine At.thenR ?_
        refine At.ret (rs := [.cell 2 249, .tmp 3, .tmp 4]) rfl (Res.cell rfl (load_whole T.ld249 rfl (by repeat (first | with_reducible exact Mem.head _ _ | apply Mem.tail))) (Res.tmp rfl (Res.tmp rfl Res.nil))) ?_
        exact Imp.pur (by rw [hre]; rfl) (Imp.nil _)
      · intro h3
        try simp only [decide_eq_true_eq, decide_eq_false_iff_not, Bool.not_eq_true', Bool.not_eq_false', Bool.cond_false_right, Bool.cond_true_left, Bool.and_eq_true, Bool.or_eq_true, Bool.and_eq_false_iff, Bool.or_eq_false_iff, Bool.not_true, Bool.not_false] at h3
        rw [if_pos h3] at hos
        refine At.skip ?_
        refine At.thenN ?_
        refine At.seq ?_
        refine At.region ?_
        refine At.ev (ev_move rfl) rfl ?_
        refine At.ev (ev_assign rfl) rfl ?_
        refine At.nil ?_
        refine At.thenN ?_
        refine At.seq ?_
        refine At.seq ?_
        refine At.region ?_
        refine At.ev (ev_move rfl) rfl ?_
        refine At.ev (ev_move rfl) rfl ?_
        refine At.ev (ev_lens T.un9 rfl) rfl ?_
        refine At.ev (ev_lss rfl rfl) rfl ?_
        refine At.ev (ev_move rfl) rfl ?_
        refine At.evg rfl rfl (fun hg => (ev_move rfl)) rfl rfl ?_
        refine At.evg rfl rfl (fun hg => (ev_move rfl)) rfl rfl ?_
        refine At.evg rfl rfl (fun hg => (ev_ix T.un9 rfl rfl (by first | omega | decide | (simp at hg; omega) | (simp at hl hg; omega) | (simp at hg ⊢; omega)) (by first | omega | decide | (simp at hg; omega) | (simp at hl hg; omega) | (simp at hg ⊢; omega)))) rfl rfl ?_
        refine At.evg rfl rfl (fun hg => (ev_eqi rfl rfl)) rfl rfl ?_
        refine At.ev (ev_pickG rfl rfl rfl rfl) rfl ?_
        refine At.nil ?_
        refine At.thenN ?_
        refine At.joinQ2 [(3, 4), (6, 6), (10, 12), (79, 105)] (fun (hi : Int) (a2 : Int) => rdPart s a 0 = (spanS f.1 hi, a2, 0) ∧ 0 ≤ a2 ∧ a2 ≤ s.size ∧ f.1 ≤ hi ∧ hi ≤ 255) (fun (hi : Int) (a2 : Int) => [(12, .val (.int .i64 hi)), (6, .val (.int .i64 a2))]) (fun (hi : Int) (a2 : Int) => []) [] ?_ ?_
        · skip
          refine At.cond rfl ?_ ?_
          · intro h4
            try simp only [decide_eq_true_eq, decide_eq_false_iff_not, Bool.not_eq_true', Bool.not_eq_false', Bool.cond_false_right, Bool.cond_true_left, Bool.and_eq_true, Bool.or_eq_true, Bool.and_eq_false_iff, Bool.or_eq_false_iff, Bool.not_true, Bool.not_false] at h4
            have h4' : rdIs s (a + f.2.1) 45 = true := by simp [rdIs]; omega
            have hlt4 := rdIs_lt h4'
            have hq3 := bSub_size s (a + f.2.1 + 1) (by omega) (by omega)
            have hq4 : (bSub s (a + f.2.1 + 1) s.size).size ≤ big := by omega
            have hos2 := one_sign s (a + f.2.1 + 1) 0 (by omega) (by omega)
            have hob2 := oneR_b (bSub s (a + f.2.1 + 1) s.size)
            obtain ⟨t, ht⟩ : ∃ t, t = oneR (bSub s (a + f.2.1 + 1) s.size) := ⟨_, rfl⟩
            rw [← ht] at hos2 hob2
            have hrp : rdPart s a 0 = (if (rdSign s (a + f.2.1 + 1) 0).2.2 = 0 ∧ (rdSign s (a + f.2.1 + 1) 0).1 < f.1 then (spanS f.1 (rdSign s (a + f.2.1 + 1) 0).1, (rdSign s (a + f.2.1 + 1) 0).2.1 - 1, 12) else (spanS f.1 (rdSign s (a + f.2.1 + 1) 0).1, (rdSign s (a + f.2.1 + 1) 0).2)) := by unfold rdPart; rw [hos]; simp only; rw [if_neg (by simp [h4'])]
            refine At.seq ?_
            refine At.region ?_
            refine At.ev (ev_move rfl) rfl ?_
            refine At.ev (ev_move rfl) rfl ?_
            refine At.ev (ev_add rfl rfl (by omega)) rfl ?_
            refine At.ev (ev_cutI (i := a + f.2.1 + 1) (j := s.size) T.un9 rfl rfl rfl (by omega) (by omega) (by omega)) rfl ?_
            refine At.callq (goes_func cf237 rfl) (Qc.pure (r06_one (bSub s (a + f.2.1 + 1) s.size) hq4)) rfl ?_
            rw [← ht]
            refine At.ev (ev_move rfl) rfl ?_
            refine At.ev (ev_ext rfl rfl) rfl ?_
            refine At.ev (ev_ext rfl rfl) rfl ?_
            refine At.ev (ev_ext rfl rfl) rfl ?_
            refine At.ev (ev_assign rfl) rfl ?_
            refine At.ev (ev_assign rfl) rfl ?_
            refine At.ev (ev_assign rfl) rfl ?_
            refine At.nil ?_
            refine At.thenN ?_
            refine At.seq ?_
            refine At.region ?_
            refine At.ev (ev_move rfl) rfl ?_
            refine At.ev (ev_add rfl rfl (by omega)) rfl ?_
            refine At.ev (ev_move rfl) rfl ?_
            refine At.ev (ev_add rfl rfl (by omega)) rfl ?_
            refine At.ev (ev_assign rfl) rfl ?_
            refine At.nil ?_
            refine At.thenN ?_
            refine At.seq ?_
            refine At.seq ?_
            refine At.region ?_
            refine At.ev (ev_move rfl) rfl ?_
            refine At.ev (ev_not rfl) rfl ?_
            refine At.nil ?_
            refine At.thenN ?_
            refine At.cond rfl ?_ ?_
            · intro h5
              try simp only [decide_eq_true_eq, decide_eq_false_iff_not, Bool.not_eq_true', Bool.not_eq_false', Bool.cond_false_right, Bool.cond_true_left, Bool.and_eq_true, Bool.or_eq_true, Bool.and_eq_false_iff, Bool.or_eq_false_iff, Bool.not_true, Bool.not_false] at h5
              rw [if_neg (by simp [h5])] at hos2
              have hp2 : (rdPart s a 0).2 = rdStop s (a + f.2.1 + 1 + t.2.1) := by rw [hrp, hos2, if_neg (fun h => absurd h.1 (by unfold rdStop; split <;> simp))]
              have hX2 : X = ⟨out.or (rdPart s a 0).1, (rdPart s a 0).2.1, (rdPart s a 0).2.2⟩ := by rw [hX1]; exact rdLoop_bad (by simp only; rw [hp2]; unfold rdStop; split <;> simp)
              have hre : rdEnd s = (SetD.none, (rdPart s a 0).2.1, (rdPart s a 0).2.2) := by rw [hend, hX2, if_pos (by simp only; rw [hp2]; unfold rdStop; split <;> simp)]
              rw [hp2] at hre
              refine At.seq ?_
              refine At.region ?_
              refine At.ev (ev_move rfl) rfl ?_
              refine At.ev (ev_move rfl) rfl ?_
              refine At.callq (goes_func cf236 rfl) (Qc.pure (r06_stop s (a + f.2.1 + 1 + t.2.1) (by omega))) rfl ?_
              refine At.ev (ev_ext rfl rfl) rfl ?_
              refine At.ev (ev_ext rfl rfl) rfl ?_
              refine At.ev (ev_ext rfl rfl) rfl ?_
              refine At.stA T.sz249 rfl rfl rfl ?_ (cs' := SetD.none.cs)
              refine At.ev (ev_assign rfl) rfl ?_
              refine At.ev (ev_assign rfl) rfl ?_
              refine At.nil ?_
              refine At.thenN ?_
              refine At.retC ?_
              refine At.thenR ?_
              refine At.thenR ?_
              refine At.thenR ?_
              refine At.blkR ?_
              refine At.thenR ?_
              refine At.thenR ?_
              refine At.blkR ?_
              refine At.thenR ?_
              refine At.ret (rs := [.cell 2 249, .tmp 3, .tmp 4]) rfl (Res.cell rfl (load_whole T.ld249 rfl (by repeat (first | with_reducible exact Mem.head _ _ | apply Mem.tail))) (Res.tmp rfl (Res.tmp rfl Res.nil))) ?_
              exact Imp.pur (by rw [hre]; rfl) (Imp.nil _)
            · intro h5
              try simp only [decide_eq_true_eq, decide_eq_false_iff_not, Bool.not_eq_true', Bool.not_eq_false', Bool.cond_false_right, Bool.cond_true_left, Bool.and_eq_true, Bool.or_eq_true, Bool.and_eq_false_iff, Bool.or_eq_false_iff, Bool.not_true, Bool.not_false] at h5
              rw [if_pos h5] at hos2
              refine At.skip ?_
              refine At.thenN ?_
              refine At.seq ?_
              refine At.region ?_
              refine At.ev (ev_move rfl) rfl ?_
              refine At.ev (ev_move rfl) rfl ?_
              refine At.ev (ev_lss rfl rfl) rfl ?_
              refine At.nil ?_
              refine At.thenN ?_
              refine At.condD rfl ?_ ?_
              · intro h6
                have hp2 : (rdPart s a 0).2 = (a + f.2.1 + 1 + t.2.1 - 1, 12) := by rw [hrp, hos2, if_pos ⟨rfl, h6⟩]
                have hX2 : X = ⟨out.or (rdPart s a 0).1, (rdPart s a 0).2.1, (rdPart s a 0).2.2⟩ := by rw [hX1]; exact rdLoop_bad (by simp only; rw [hp2]; simp)
                have hre : rdEnd s = (SetD.none, (rdPart s a 0).2.1, (rdPart s a 0).2.2) := by rw [hend, hX2, if_pos (by simp only; rw [hp2]; simp)]
                rw [hp2] at hre
                refine At.seq ?_
                refine At.region ?_
                refine At.ev (ev_buildA0 T.zv249 T.un249 T.sz212) rfl ?_
                refine At.ev (ev_move rfl) rfl ?_
                refine At.ev (ev_sub rfl rfl (by omega)) rfl ?_
                refine At.stA T.sz249 rfl rfl rfl ?_ (cs' := SetD.none.cs)
                refine At.ev (ev_assign rfl) rfl ?_
                refine At.ev (ev_assign rfl) rfl ?_
                refine At.nil ?_
                refine At.thenN ?_
                refine At.retC ?_
                refine At.thenR ?_
                refine At.thenR ?_
                refine At.blkR ?_
                refine At.thenR ?_
                refine At.thenR ?_
                refine At.blkR ?_
                refine At.thenR ?_
                refine At.ret (rs := [.cell 2 249, .tmp 3, .tmp 4]) rfl (Res.cell rfl (load_whole T.ld249 rfl (by repeat (first | with_reducible exact Mem.head _ _ | apply Mem.tail))) (Res.tmp rfl (Res.tmp rfl Res.nil))) ?_
                exact Imp.pur (by rw [hre]; rfl) (Imp.nil _)
              · intro h6
                refine At.skip ?_
                refine At.thenN ?_
                refine At.meet2 (t.1) (a + f.2.1 + 1 + t.2.1) (⟨by rw [hrp, hos2, if_neg (fun h => h6 h.2)], by omega, by omega, by omega, by omega⟩) ⟨rfl, rfl, trivial⟩
          · intro h4
            try simp only [decide_eq_true_eq, decide_eq_false_iff_not, Bool.not_eq_true', Bool.not_eq_false', Bool.cond_false_right, Bool.cond_true_left, Bool.and_eq_true, Bool.or_eq_true, Bool.and_eq_false_iff, Bool.or_eq_false_iff, Bool.not_true, Bool.not_false] at h4
            refine At.skip ?_
            refine At.thenN ?_
            have h4' : rdIs s (a + f.2.1) 45 = false := by simp [rdIs]; omega
            refine At.meet2 (f.1) (a + f.2.1) (⟨by unfold rdPart; rw [hos]; simp only; rw [if_pos (.inr h4')], by omega, by omega, by omega, by omega⟩) ⟨rfl, rfl, trivial⟩
        intro hi a2 hj
        refine At.cat0 ?_
        obtain ⟨hp, hz1, hz2, hz3, hz4⟩ := hj
        rw [hp] at hX1 hn1
        simp only at hX1 hn1
        refine At.thenN ?_
        refine At.seq ?_
        refine At.region ?_
        refine At.ev (ev_move rfl) rfl ?_
        refine At.ev (ev_assign rfl) rfl ?_
        refine At.nil ?_
        refine At.thenN ?_
        refine At.block ?_
        rw [show out = orS out f.1 0 from rfl]
        refine At.loopF1 [(13, 13), (107, 114)] (fun (k : Nat) => (hi + 1 - f.1).toNat - k) (fun (k : Nat) => k ≤ (hi + 1 - f.1).toNat) (fun (k : Nat) => [(13, .val (.int .i64 (f.1 + k)))]) (fun (k : Nat) => [blk bf (flS (orS out f.1 k) ++ spf) 4]) (0) (by omega) ⟨by simp; rfl, trivial⟩ ?_
        intro k hj2
        refine At.cat1 ?_
        refine At.seq ?_
        refine At.seq ?_
        refine At.region ?_
        refine At.ev (ev_move rfl) rfl ?_
        refine At.ev (ev_move rfl) rfl ?_
        refine At.ev (ev_leq rfl rfl) rfl ?_
        refine At.nil ?_
        refine At.thenN ?_
        refine At.condD rfl ?_ ?_
        · intro h7
          refine At.skip ?_
          refine At.thenN ?_
          refine At.seq ?_
          refine At.block ?_
          refine At.region ?_
          refine At.ev (ev_move rfl) rfl ?_
          refine At.ev (ev_move rfl) rfl ?_
          refine At.ev (ev_ia (i := f.1 + k) (n := 256) T.un114 T.sz4 rfl rfl (by omega) (by omega)) rfl ?_
          refine At.stFlag (i := f.1 + k) (s := orS out f.1 k) T.sz4 rfl rfl rfl (by omega) (by omega) (by repeat (first | with_reducible exact At1.head _ _ | apply At1.tail)) ?_
          rw [show (orS out f.1 k).with_ (f.1 + k) = orS out f.1 (k + 1) from rfl]
          refine At.nil ?_
          refine At.blkN ?_
          refine At.thenN ?_
          refine At.region ?_
          refine At.ev (ev_move rfl) rfl ?_
          refine At.ev (ev_add rfl rfl (by omega)) rfl ?_
          refine At.ev (ev_assign rfl) rfl ?_
          refine At.nil ?_
          refine At.thenN ?_
          refine At.againF1 (k + 1) (by omega) (by omega) ⟨by rw [show f.1 + ((k + 1 : Nat) : Int) = f.1 + k + 1 by omega]; rfl, trivial⟩
        · intro h7
          obtain rfl : k = (hi + 1 - f.1).toNat := by omega
          rw [orS_all out f.1 hi (by omega) hz4]
          refine At.exit ?_
          refine At.thenX ?_
          refine At.thenX ?_
          refine At.blkX ?_
          refine At.blkN ?_
          refine At.thenN ?_
          refine At.region ?_
          refine At.ev (ev_assign rfl) rfl ?_
          refine At.nil ?_
          refine At.thenN ?_
          have hgt := (rdPart_b s a 0 hk1 hk2).2.2.1 (by rw [hp])
          rw [hp] at hgt
          simp only at hgt
          refine At.againF4 (n1) (false) (out.or (spanS f.1 hi)) (a2) (by omega) (⟨by omega, by omega, .inr ⟨rfl, hX1, hn1 (by simp)⟩⟩) ⟨rfl, rfl, trivial⟩
    · intro h2
      try simp only [decide_eq_true_eq, decide_eq_false_iff_not, Bool.not_eq_true', Bool.not_eq_false', Bool.cond_false_right, Bool.cond_true_left, Bool.and_eq_true, Bool.or_eq_true, Bool.and_eq_false_iff, Bool.or_eq_false_iff, Bool.not_true, Bool.not_false] at h2
      have hi9 : rdIs s a 93 = true := by simp [rdIs]; omega
      have hX3 : X = ⟨out, a, 0⟩ := by
        rcases hk3 with ⟨h, _⟩ | ⟨_, h, _⟩
        · rw [h2.1.1] at h; cases h
        · rw [h]; exact rdLoop_off (by simp [RdSt.on, hi9])
      have hlt9 := rdIs_lt hi9
      rw [hX3] at hend
      simp only at hend
      rw [if_neg (by simp)] at hend
      refine At.exit ?_
      refine At.thenX ?_
      refine At.thenX ?_
      refine At.blkX ?_
      refine At.thenN ?_
      refine At.seq ?_
      refine At.region ?_
      refine At.ev (ev_move rfl) rfl ?_
      refine At.do (goes_func cf238 rfl) (r06_Make out bf cf spf) ?_
      intro _
      refine At.pur ?_
      rintro rfl
      refine At.new T.zv249 ?_
      intro bo
      refine At.stA T.sz249 rfl rfl rfl ?_ (cs' := out.cs)
      refine At.nil ?_
      refine At.thenN ?_
      refine At.seq ?_
      refine At.seq ?_
      refine At.region ?_
      refine At.ev (ev_move rfl) rfl ?_
      refine At.nil ?_
      refine At.thenN ?_
      refine At.joinQ1 [(118, 119)] (fun (u : Unit) => True) (fun (u : Unit) => []) (fun (u : Unit) => [blk bo (if but = true then out.not else out).cs 249]) [blk bo out.cs 249] ?_ ?_
      · skip
        refine At.cond rfl ?_ ?_
        · intro h8
          try simp only [decide_eq_true_eq, decide_eq_false_iff_not, Bool.not_eq_true', Bool.not_eq_false', Bool.cond_false_right, Bool.cond_true_left, Bool.and_eq_true, Bool.or_eq_true, Bool.and_eq_false_iff, Bool.or_eq_false_iff, Bool.not_true, Bool.not_false] at h8
          refine At.region ?_
          refine At.ev (ldA T.ld249 rfl) rfl ?_
          refine At.callq (goes_func cf239 rfl) (Qc.pure (r06_Not _)) rfl ?_
          refine At.stA T.sz249 rfl rfl rfl ?_ (cs' := out.not.cs)
          refine At.nil ?_
          refine At.thenN ?_
          refine At.norm (b := bo) (if but = true then out.not else out).cs (by repeat (first | with_reducible exact At1.head _ _ | apply At1.tail)) (by rw [if_pos h8]) ?_
          refine At.meet1 (()) (trivial) trivial
        · intro h8
          try simp only [decide_eq_true_eq, decide_eq_false_iff_not, Bool.not_eq_true', Bool.not_eq_false', Bool.cond_false_right, Bool.cond_true_left, Bool.and_eq_true, Bool.or_eq_true, Bool.and_eq_false_iff, Bool.or_eq_false_iff, Bool.not_true, Bool.not_false] at h8
          refine At.skip ?_
          refine At.thenN ?_
          refine At.norm (b := bo) (if but = true then out.not else out).cs (by repeat (first | with_reducible exact At1.head _ _ | apply At1.tail)) (by rw [if_neg (by simp [h8])]) ?_
          refine At.meet1 (()) (trivial) trivial
      intro u hj
      refine At.cat1 ?_
      refine At.thenN ?_
      refine At.seq ?_
      refine At.region ?_
      refine At.ev (ldA T.ld249 rfl) rfl ?_
      refine At.ev (ev_move rfl) rfl ?_
      refine At.ev (ev_add rfl rfl (by omega)) rfl ?_
      refine At.stA T.sz249 rfl rfl rfl ?_ (he := by rw [hend]; rfl) (cs' := (rdEnd s).1.cs)
      refine At.ev (ev_assign rfl) rfl ?_
      refine At.ev (ev_assign rfl) rfl ?_
      refine At.nil ?_
      refine At.thenN ?_
      refine At.retC ?_
      refine At.ret (rs := [.cell 2 249, .tmp 3, .tmp 4]) rfl (Res.cell rfl (load_whole T.ld249 rfl (by repeat (first | with_reducible exact Mem.head _ _ | apply Mem.tail))) (Res.tmp rfl (Res.tmp rfl Res.nil))) ?_
      exact Imp.pur (by rw [hend]; rfl) (Imp.nil _)

end Go.Proofs.YtebjpeonbfhdhaaGreat
