import Derived.Test.YtebjpeonbfhdhaaGreatWa
import Derived.Test.YtebjpeonbfhdhaaGreatSp5
set_option linter.unusedVariables false
set_option linter.unusedSimpArgs false
namespace Go.Proofs.YtebjpeonbfhdhaaGreat
open Go Go.Sx Go.Proofs
set_option maxRecDepth 100000
attribute [local irreducible] Go.Sx.opsW Go.Sx.cW Go.Code.wp Go.Sx.At

/-- repartee/class.with -/
theorem class_with (s : SetD) (b : Int) (h0 : 0 ≤ b) (h1 : b ≤ 255) : Does Tryz.prog 245 [.agg s.cs.toArray, .int .u8 b] [] (fun v => pur (v = .agg (s.with_ b).cs.toArray)) := by
  refine Does.enter Tryz.func245 rfl rfl ?_
  intro E
  refine At.seq ?_
  refine At.region ?_
  refine At.boxA rfl ?_
  intro b0
  refine At.new T.zv249 ?_
  intro b1
  refine At.nil ?_
  refine At.thenN ?_
  refine At.seq ?_
  refine At.region ?_
  refine At.ev (ev_move rfl) rfl ?_
  refine At.ev (ev_quo8 (j := 64) rfl rfl (by omega) (by omega) (by omega)) rfl ?_
  refine At.ev (ev_iaa (n := 4) (i := b / 64) T.un249 T.sz212 rfl rfl (by omega) (by omega)) rfl ?_
  refine At.ev (ld T.ld212 rfl (hc := Cell.set4 (s := s) (by repeat (first | with_reducible exact Mem.head _ _ | apply Mem.tail)) (by omega))) rfl ?_
  refine At.ev (ev_move rfl) rfl ?_
  refine At.ev (ev_rem8 (j := 64) rfl rfl (by omega) (by omega)) rfl ?_
  refine At.ev (ev_shl64 (a := 1#64) (i := b % 64) rfl rfl (by omega) (by omega)) rfl ?_
  refine At.ev (ev_or64 rfl rfl) rfl ?_
  refine At.ev (ev_iaa (n := 4) (i := b / 64) T.un249 T.sz212 rfl rfl (by omega) (by omega)) rfl ?_
  refine At.st4 (s := s) T.sz212 rfl rfl rfl (by omega) ?_
  refine At.nil ?_
  refine At.thenN ?_
  refine At.seq ?_
  refine At.region ?_
  refine At.ev (ldA T.ld249 rfl) rfl ?_
  refine At.stA T.sz249 rfl rfl rfl ?_
  refine At.nil ?_
  refine At.thenN ?_
  refine At.retC ?_
  refine At.ret (rs := [.cell 4 249]) rfl (Res.cell rfl (load_whole T.ld249 rfl (by repeat (first | with_reducible exact Mem.head _ _ | apply Mem.tail))) Res.nil) ?_
  exact Imp.pur rfl (Imp.nil _)

/-- repartee/class.span -/
theorem class_span (a b : Int) (h0 : 0 ≤ a) (ha : a ≤ 255) (h1 : 0 ≤ b) (hb : b ≤ 255) : Does Tryz.prog 240 [.int .u8 a, .int .u8 b] [] (fun v => pur (v = .agg (spanS a b).cs.toArray)) := by
  refine Does.enter Tryz.func240 rfl rfl ?_
  intro E
  refine At.seq ?_
  refine At.region ?_
  refine At.new T.zv249 ?_
  intro b0
  refine At.nil ?_
  refine At.thenN ?_
  refine At.seq ?_
  refine At.region ?_
  refine At.new T.zv249 ?_
  intro bs
  refine At.norm (b := bs) ((spanN a 0).cs) (by repeat (first | with_reducible exact At1.head _ _ | apply At1.tail)) (by rfl) ?_
  refine At.nil ?_
  refine At.thenN ?_
  refine At.seq ?_
  refine At.seq ?_
  refine At.region ?_
  refine At.ev (ev_move rfl) rfl ?_
  refine At.ev (ev_conv ⟨_, T.un5⟩ T.un3 rfl (IntWalk.i64_in _ (by omega))) rfl ?_
  refine At.ev (ev_assign rfl) rfl ?_
  refine At.nil ?_
  refine At.thenN ?_
  refine At.block ?_
  refine At.loopF1 [(6, 6), (9, 18)] (fun (k : Nat) => (b + 1 - a).toNat - k) (fun (k : Nat) => k ≤ (b + 1 - a).toNat) (fun (k : Nat) => [(6, .val (.int .i64 (a + k)))]) (fun (k : Nat) => [blk bs (spanN a k).cs 249]) (0) (by omega) ⟨by simp; rfl, trivial⟩ ?_
  intro k hk
  refine At.cat1 ?_
  refine At.seq ?_
  refine At.seq ?_
  refine At.region ?_
  refine At.ev (ev_move rfl) rfl ?_
  refine At.ev (ev_move rfl) rfl ?_
  refine At.ev (ev_conv ⟨_, T.un5⟩ T.un3 rfl (IntWalk.i64_in _ (by omega))) rfl ?_
  refine At.ev (ev_leq rfl rfl) rfl ?_
  refine At.nil ?_
  refine At.thenN ?_
  refine At.condD rfl ?_ ?_
  · intro h0
    refine At.skip ?_
    refine At.thenN ?_
    refine At.seq ?_
    refine At.block ?_
    refine At.region ?_
    refine At.ev (ldA T.ld249 rfl) rfl ?_
    refine At.ev (ev_move rfl) rfl ?_
    refine At.ev (ev_conv ⟨_, T.un3⟩ T.un5 rfl (IntWalk.u8_in _ (by omega))) rfl ?_
    refine At.callq (goes_func cf245 rfl) (Qc.pure (class_with (spanN a k) (a + k) (by omega) (by omega))) rfl ?_
    refine At.stA T.sz249 rfl rfl rfl ?_ (cs' := (spanN a (k + 1)).cs)
    refine At.nil ?_
    refine At.blkN ?_
    refine At.thenN ?_
    refine At.region ?_
    refine At.ev (ev_move rfl) rfl ?_
    refine At.ev (ev_add rfl rfl (by omega)) rfl ?_
    refine At.ev (ev_assign rfl) rfl ?_
    refine At.nil ?_
    refine At.thenN ?_
    refine At.againF1 (k + 1) (by omega) (by omega) ⟨by rw [show a + ((k + 1 : Nat) : Int) = a + k + 1 by omega]; rfl, trivial⟩
  · intro h0
    obtain rfl : k = (b + 1 - a).toNat := by omega
    refine At.exit ?_
    refine At.thenX ?_
    refine At.thenX ?_
    refine At.blkX ?_
    refine At.thenN ?_
    refine At.seq ?_
    refine At.region ?_
    refine At.ev (ldA T.ld249 rfl) rfl ?_
    refine At.stA T.sz249 rfl rfl rfl ?_
    refine At.nil ?_
    refine At.thenN ?_
    refine At.retC ?_
    refine At.ret (rs := [.cell 4 249]) rfl (Res.cell rfl (load_whole T.ld249 rfl (by repeat (first | with_reducible exact Mem.head _ _ | apply Mem.tail))) Res.nil) ?_
    exact Imp.pur rfl (Imp.nil _)

/-- repartee/class.Span -/
theorem class_Span (a b : Int) (h0 : 0 ≤ a) (ha : a ≤ 255) (h1 : 0 ≤ b) (hb : b ≤ 255) : Does Tryz.prog 228 [.int .u8 a, .int .u8 b] [] (fun v => pur (v = .agg (spanS a b).cs.toArray)) := by
  refine Does.enter Tryz.func228 rfl rfl ?_
  intro E
  refine At.seq ?_
  refine At.region ?_
  refine At.new T.zv249 ?_
  intro b0
  refine At.nil ?_
  refine At.thenN ?_
  refine At.seq ?_
  refine At.region ?_
  refine At.ev (ev_move rfl) rfl ?_
  refine At.ev (ev_move rfl) rfl ?_
  refine At.callq (goes_func cf240 rfl) (Qc.pure (class_span _ _ (by omega) (by omega) (by omega) (by omega))) rfl ?_
  refine At.stA T.sz249 rfl rfl rfl ?_
  refine At.nil ?_
  refine At.thenN ?_
  refine At.retC ?_
  refine At.ret (rs := [.cell 4 249]) rfl (Res.cell rfl (load_whole T.ld249 rfl (by repeat (first | with_reducible exact Mem.head _ _ | apply Mem.tail))) Res.nil) ?_
  exact Imp.pur rfl (Imp.nil _)

/-- (*repartee/class.reader).is -/
theorem rd_is (b : Nat) (s : ByteArray) (a bad c : Int) (hs : s.size ≤ big) (h0 : 0 ≤ a) : Does Tryz.prog 246 [.pointer (some ⟨b, 0, none⟩), .int .u8 c] [blk b [.string s, .int .i64 a, .int .i64 bad] 276] (fun v => star (pur (v = .bool (rdIs s a c))) (blk b [.string s, .int .i64 a, .int .i64 bad] 276)) := by
  refine Does.enter Tryz.func246 rfl rfl ?_
  intro E
  have hs' := hs
  have hbig : big = 9223372036854775807 := rfl
  unfold big at hs'
  refine At.seq ?_
  refine At.region ?_
  refine At.ev (ev_assign rfl) rfl ?_
  refine At.nil ?_
  refine At.thenN ?_
  refine At.seq ?_
  refine At.drawH (.q0 0 (.q0 1 (.q0 2 (.q1 3 (.q0 4 (.q0 5 (.q0 6 (.q1 7 (.q0 8 (.q0 9 (.q0 10 (.q0 11 (.q0 12 (.q0 13 (.q1 14 (.q0 15 (.q0 16 (.q0 17 (.q1 18 (.q0 19 (.q0 20 (.q0 21 (.q0 22 (.q0 23 (.nil))))))))))))))))))))))))) (fun j => !([] : List Nat).contains j) mixed (by kernel_rfl) (by kernel_rfl) (NoP.thn NoP.body) ?_
  refine At.c0 rfl (ev_move rfl) rfl ?_
  refine At.c0 rfl (ev_nil rfl) rfl ?_
  refine At.c0 rfl (ev_fa T.fa276_1 rfl) rfl ?_
  refine At.c1 rfl (Imp.refl _) (ld T.ld3 rfl) rfl ?_
  refine At.c0 rfl (ev_move rfl) rfl ?_
  refine At.c0 rfl (ev_nil rfl) rfl ?_
  refine At.c0 rfl (ev_fa T.fa276_0 rfl) rfl ?_
  refine At.c1 rfl (Imp.refl _) (ld T.ld9 rfl) rfl ?_
  refine At.c0 rfl (ev_lens T.un9 rfl) rfl ?_
  refine At.c0 rfl (ev_lss rfl rfl) rfl ?_
  refine At.c0 rfl (ev_move rfl) rfl ?_
  refine At.c0g rfl rfl rfl (fun hg => (ev_move rfl)) rfl rfl ?_
  refine At.c0g rfl rfl rfl (fun hg => (ev_nil rfl)) rfl rfl ?_
  refine At.c0g rfl rfl rfl (fun hg => (ev_fa T.fa276_0 rfl)) rfl rfl ?_
  refine At.c1g rfl (Imp.refl _) rfl rfl (fun hg => (ld T.ld9 rfl)) rfl rfl ?_
  refine At.c0g rfl rfl rfl (fun hg => (ev_move rfl)) rfl rfl ?_
  refine At.c0g rfl rfl rfl (fun hg => (ev_nil rfl)) rfl rfl ?_
  refine At.c0g rfl rfl rfl (fun hg => (ev_fa T.fa276_1 rfl)) rfl rfl ?_
  refine At.c1g rfl (Imp.refl _) rfl rfl (fun hg => (ld T.ld3 rfl)) rfl rfl ?_
  refine At.c0g rfl rfl rfl (fun hg => (ev_ix T.un9 rfl rfl (by first | omega | decide | (simp at hg; omega) | (simp at hl hg; omega) | (simp at hg ⊢; omega)) (by first | omega | decide | (simp at hg; omega) | (simp at hl hg; omega) | (simp at hg ⊢; omega)))) rfl rfl ?_
  refine At.c0g rfl rfl rfl (fun hg => (ev_move rfl)) rfl rfl ?_
  refine At.c0g rfl rfl rfl (fun hg => (ev_eqi rfl rfl)) rfl rfl ?_
  refine At.c0 rfl (ev_pickG rfl rfl rfl rfl) rfl ?_
  refine At.c0 rfl (ev_assign rfl) rfl ?_
  refine At.cnil ?_
  refine At.thenN ?_
  refine At.retC ?_
  refine At.ret (rs := [.tmp 4]) rfl (Res.tmp rfl Res.nil) ?_
  refine Imp.star (Imp.pur (congrArg Value.bool ?_) (Imp.one (by repeat (first | with_reducible exact At1.head _ _ | apply At1.tail)) (Imp.nil _)))
  rw [Bool.eq_iff_iff]; simp [rdIs]

/-- (*repartee/class.reader).stop -/
theorem rd_stop (b : Nat) (s : ByteArray) (a bad : Int) (hs : s.size ≤ big) : Does Tryz.prog 247 [.pointer (some ⟨b, 0, none⟩)] [blk b [.string s, .int .i64 a, .int .i64 bad] 276] (fun v => blk b [.string s, .int .i64 (rdStop s a).1, .int .i64 (rdStop s a).2] 276) := by
  refine Does.enter Tryz.func247 rfl rfl ?_
  intro E
  have hs' := hs
  have hbig : big = 9223372036854775807 := rfl
  unfold big at hs'
  refine At.seq ?_
  refine At.region ?_
  refine At.ev (ev_move rfl) rfl ?_
  refine At.ev (ev_nil rfl) rfl ?_
  refine At.ev (ev_fa T.fa276_2 rfl) rfl ?_
  refine At.st1 T.sz74 rfl rfl (add_lit _ _ _) ?_
  refine At.nil ?_
  refine At.thenN ?_
  refine At.seq ?_
  refine At.drawH (.q0 0 (.q0 1 (.q0 2 (.q1 3 (.q0 4 (.q0 5 (.q0 6 (.q1 7 (.q0 8 (.q0 9 (.nil))))))))))) (fun j => !([] : List Nat).contains j) mixed (by kernel_rfl) (by kernel_rfl) (NoP.thn NoP.body) ?_
  refine At.c0 rfl (ev_move rfl) rfl ?_
  refine At.c0 rfl (ev_nil rfl) rfl ?_
  refine At.c0 rfl (ev_fa T.fa276_1 rfl) rfl ?_
  refine At.c1 rfl (Imp.refl _) (ld T.ld3 rfl) rfl ?_
  refine At.c0 rfl (ev_move rfl) rfl ?_
  refine At.c0 rfl (ev_nil rfl) rfl ?_
  refine At.c0 rfl (ev_fa T.fa276_0 rfl) rfl ?_
  refine At.c1 rfl (Imp.refl _) (ld T.ld9 rfl) rfl ?_
  refine At.c0 rfl (ev_lens T.un9 rfl) rfl ?_
  refine At.c0 rfl (ev_geq rfl rfl) rfl ?_
  refine At.cnil ?_
  refine At.thenN ?_
  refine At.condD rfl ?_ ?_
  · intro h0
    have hst : rdStop s a = ((s.size : Int), 3) := by unfold rdStop; rw [if_pos (by omega)]
    refine At.region ?_
    refine At.ev (ev_move rfl) rfl ?_
    refine At.ev (ev_move rfl) rfl ?_
    refine At.ev (ev_move rfl) rfl ?_
    refine At.ev (ev_nil rfl) rfl ?_
    refine At.ev (ev_fa T.fa276_0 rfl) rfl ?_
    refine At.ev (ld T.ld9 rfl) rfl ?_
    refine At.ev (ev_lens T.un9 rfl) rfl ?_
    refine At.ev (ev_nil rfl) rfl ?_
    refine At.ev (ev_fa T.fa276_1 rfl) rfl ?_
    refine At.st1 T.sz3 rfl rfl (add_lit _ _ _) ?_
    refine At.ev (ev_nil rfl) rfl ?_
    refine At.ev (ev_fa T.fa276_2 rfl) rfl ?_
    refine At.st1 T.sz74 rfl rfl (add_lit _ _ _) ?_
    refine At.nil ?_
    refine At.retN (rs := []) rfl Res.nil ?_
    rw [hst]; exact Imp.one (by repeat (first | with_reducible exact At1.head _ _ | apply At1.tail)) (Imp.nil _)
  · intro h0
    have hst : rdStop s a = (a, 2) := by unfold rdStop; rw [if_neg (by omega)]
    refine At.skip ?_
    refine At.retN (rs := []) rfl Res.nil ?_
    rw [hst]; exact Imp.one (by repeat (first | with_reducible exact At1.head _ _ | apply At1.tail)) (Imp.nil _)

/-- (*repartee/class.reader).sign -/
theorem rd_sign (b : Nat) (s : ByteArray) (a bad : Int) (hs : s.size ≤ big) (h00 : 0 ≤ a) (ha : a ≤ s.size) : Does Tryz.prog 251 [.pointer (some ⟨b, 0, none⟩)] [blk b [.string s, .int .i64 a, .int .i64 bad] 276] (fun v => star (pur (v = .int .u8 (rdSign s a bad).1)) (blk b [.string s, .int .i64 (rdSign s a bad).2.1, .int .i64 (rdSign s a bad).2.2] 276)) := by
  refine Does.enter Tryz.func251 rfl rfl ?_
  intro E
  have hs' := hs
  have hbig : big = 9223372036854775807 := rfl
  unfold big at hs'
  refine At.seq ?_
  refine At.region ?_
  refine At.ev (ev_assign rfl) rfl ?_
  refine At.nil ?_
  refine At.thenN ?_
  refine At.seq ?_
  refine At.seq ?_
  refine At.region ?_
  refine At.ev (ev_move rfl) rfl ?_
  refine At.callq (goes_func cf246 rfl) (Qc.own (rd_is b s a bad 37 (by assumption) (by omega))) rfl ?_
  refine At.nil ?_
  refine At.thenN ?_
  refine At.cond rfl ?_ ?_
  · intro h0
    try simp only [decide_eq_true_eq, decide_eq_false_iff_not, Bool.not_eq_true', Bool.not_eq_false', Bool.cond_false_right, Bool.cond_true_left, Bool.and_eq_true, Bool.or_eq_true, Bool.and_eq_false_iff, Bool.or_eq_false_iff, Bool.not_true, Bool.not_false] at h0
    have hlt := rdIs_lt h0
    refine At.seq ?_
    refine At.region ?_
    refine At.ev (ev_move rfl) rfl ?_
    refine At.ev (ev_nil rfl) rfl ?_
    refine At.ev (ev_fa T.fa276_1 rfl) rfl ?_
    refine At.ev (ld T.ld3 rfl) rfl ?_
    refine At.ev (ev_add rfl rfl (by omega)) rfl ?_
    refine At.ev (ev_nil rfl) rfl ?_
    refine At.ev (ev_fa T.fa276_1 rfl) rfl ?_
    refine At.st1 T.sz3 rfl rfl (add_lit _ _ _) ?_
    refine At.nil ?_
    refine At.thenN ?_
    refine At.seq ?_
    refine At.drawH (.q0 0 (.q0 1 (.q0 2 (.q1 3 (.q0 4 (.q0 5 (.q0 6 (.q1 7 (.q0 8 (.q0 9 (.nil))))))))))) (fun j => !([] : List Nat).contains j) mixed (by kernel_rfl) (by kernel_rfl) (NoP.thn (NoP.thn NoP.body)) ?_
    refine At.c0 rfl (ev_move rfl) rfl ?_
    refine At.c0 rfl (ev_nil rfl) rfl ?_
    refine At.c0 rfl (ev_fa T.fa276_1 rfl) rfl ?_
    refine At.c1 rfl (Imp.refl _) (ld T.ld3 rfl) rfl ?_
    refine At.c0 rfl (ev_move rfl) rfl ?_
    refine At.c0 rfl (ev_nil rfl) rfl ?_
    refine At.c0 rfl (ev_fa T.fa276_0 rfl) rfl ?_
    refine At.c1 rfl (Imp.refl _) (ld T.ld9 rfl) rfl ?_
    refine At.c0 rfl (ev_lens T.un9 rfl) rfl ?_
    refine At.c0 rfl (ev_geq rfl rfl) rfl ?_
    refine At.cnil ?_
    refine At.thenN ?_
    refine At.condD rfl ?_ ?_
    · intro h1
      have hr : rdSign s a bad = (0, rdStop s (a + 1)) := by unfold rdSign; rw [if_pos h0, if_pos (by omega)]
      refine At.seq ?_
      refine At.region ?_
      refine At.ev (ev_move rfl) rfl ?_
      refine At.do (goes_func cf247 rfl) (rd_stop b s (a + 1) bad hs) ?_
      intro _
      refine At.nil ?_
      refine At.thenN ?_
      refine At.seq ?_
      refine At.region ?_
      refine At.ev (ev_assign rfl) rfl ?_
      refine At.nil ?_
      refine At.thenN ?_
      refine At.retC ?_
      refine At.thenR ?_
      refine At.ret (rs := [.tmp 2]) rfl (Res.tmp rfl Res.nil) ?_
      rw [hr]
      exact Imp.star (Imp.pur rfl (Imp.one (by repeat (first | with_reducible exact At1.head _ _ | apply At1.tail)) (Imp.nil _)))
    · intro h1
      have hr : rdSign s a bad = (bt s (a + 1), a + 1 + 1, bad) := by unfold rdSign; rw [if_pos h0, if_neg (by omega)]
      refine At.skip ?_
      refine At.thenN ?_
      refine At.seq ?_
      refine At.region ?_
      refine At.ev (ev_move rfl) rfl ?_
      refine At.ev (ev_nil rfl) rfl ?_
      refine At.ev (ev_fa T.fa276_1 rfl) rfl ?_
      refine At.ev (ld T.ld3 rfl) rfl ?_
      refine At.ev (ev_add rfl rfl (by omega)) rfl ?_
      refine At.ev (ev_nil rfl) rfl ?_
      refine At.ev (ev_fa T.fa276_1 rfl) rfl ?_
      refine At.st1 T.sz3 rfl rfl (add_lit _ _ _) ?_
      refine At.nil ?_
      refine At.thenN ?_
      refine At.seq ?_
      refine At.drawH (.q0 0 (.q0 1 (.q0 2 (.q1 3 (.q0 4 (.q0 5 (.q0 6 (.q1 7 (.q0 8 (.q0 9 (.q0 10 (.nil)))))))))))) (fun j => !([] : List Nat).contains j) mixed (by kernel_rfl) (by kernel_rfl) (NoP.thn NoP.body) ?_
      refine At.c0 rfl (ev_move rfl) rfl ?_
      refine At.c0 rfl (ev_nil rfl) rfl ?_
      refine At.c0 rfl (ev_fa T.fa276_0 rfl) rfl ?_
      refine At.c1 rfl (Imp.refl _) (ld T.ld9 rfl) rfl ?_
      refine At.c0 rfl (ev_move rfl) rfl ?_
      refine At.c0 rfl (ev_nil rfl) rfl ?_
      refine At.c0 rfl (ev_fa T.fa276_1 rfl) rfl ?_
      refine At.c1 rfl (Imp.refl _) (ld T.ld3 rfl) rfl ?_
      skip
      refine At.c0 rfl (ev_sub rfl rfl (by omega)) rfl ?_
      refine At.c0 rfl (ev_ix T.un9 rfl rfl (by omega) (by omega)) rfl ?_
      refine At.c0 rfl (ev_assign rfl) rfl ?_
      refine At.cnil ?_
      refine At.thenN ?_
      refine At.retC ?_
      refine At.ret (rs := [.tmp 2]) rfl (Res.tmp rfl Res.nil) ?_
      rw [hr]
      try rw [show a + 1 + 1 - 1 = a + 1 by omega]
      try rw [show a + 1 - 1 = a by omega]
      exact Imp.star (Imp.pur rfl (Imp.one (by repeat (first | with_reducible exact At1.head _ _ | apply At1.tail)) (Imp.nil _)))
  · intro h0
    try simp only [decide_eq_true_eq, decide_eq_false_iff_not, Bool.not_eq_true', Bool.not_eq_false', Bool.cond_false_right, Bool.cond_true_left, Bool.and_eq_true, Bool.or_eq_true, Bool.and_eq_false_iff, Bool.or_eq_false_iff, Bool.not_true, Bool.not_false] at h0
    refine At.seq ?_
    refine At.drawH (.q0 0 (.q0 1 (.q0 2 (.q1 3 (.q0 4 (.q0 5 (.q0 6 (.q1 7 (.q0 8 (.q0 9 (.q0 10 (.q0 11 (.br 12 (.q0 13 (.q0 14 (.q0 15 (.br 16 (.q0 17 (.nil)) (.stop))))) (.stop)))))))))))))) (fun j => !([12, 16] : List Nat).contains j) mixed (by kernel_rfl) (by kernel_rfl) (NoP.thn (NoP.thn NoP.body)) ?_
    refine At.c0 rfl (ev_move rfl) rfl ?_
    refine At.c0 rfl (ev_nil rfl) rfl ?_
    refine At.c0 rfl (ev_fa T.fa276_1 rfl) rfl ?_
    refine At.c1 rfl (Imp.refl _) (ld T.ld3 rfl) rfl ?_
    refine At.c0 rfl (ev_move rfl) rfl ?_
    refine At.c0 rfl (ev_nil rfl) rfl ?_
    refine At.c0 rfl (ev_fa T.fa276_0 rfl) rfl ?_
    refine At.c1 rfl (Imp.refl _) (ld T.ld9 rfl) rfl ?_
    refine At.c0 rfl (ev_lens T.un9 rfl) rfl ?_
    refine At.c0 rfl (ev_geq rfl rfl) rfl ?_
    refine At.c0 rfl (ev_move rfl) rfl ?_
    refine At.c0g rfl rfl rfl (fun hg => (ev_move rfl)) rfl rfl ?_
    refine At.c2 rfl ?_ ?_
    · intro w0
      refine At.callg rfl rfl (fun hg => goes_func cf246 rfl) (fun hg => (Qc.own (rd_is b s a bad 93 (by assumption) (by omega)))) rfl rfl ?_
      refine At.nil ?_
      refine At.cn (fun h => absurd h (by decide)) ?_
      refine At.c0 rfl (ev_pickG rfl rfl rfl rfl) rfl ?_
      refine At.c0 rfl (ev_move rfl) rfl ?_
      refine At.c0g rfl rfl rfl (fun hg => (ev_move rfl)) rfl rfl ?_
      refine At.c2 rfl ?_ ?_
      · intro w0
        refine At.callg rfl rfl (fun hg => goes_func cf246 rfl) (fun hg => (Qc.own (rd_is b s a bad 45 (by assumption) (by omega)))) rfl rfl ?_
        refine At.nil ?_
        refine At.cn (fun h => absurd h (by decide)) ?_
        refine At.c0 rfl (ev_pickG rfl rfl rfl rfl) rfl ?_
        refine At.cnil ?_
        refine At.thenN ?_
        refine At.cond rfl ?_ ?_
        · intro h2
          try simp only [decide_eq_true_eq, decide_eq_false_iff_not, Bool.not_eq_true', Bool.not_eq_false', Bool.cond_false_right, Bool.cond_true_left, Bool.and_eq_true, Bool.or_eq_true, Bool.and_eq_false_iff, Bool.or_eq_false_iff, Bool.not_true, Bool.not_false] at h2
          have hr : rdSign s a bad = (0, rdStop s a) := by unfold rdSign; rw [if_neg (by simp [h0]), if_pos (by rcases h2 with (h | h) | h <;> simp [h])]
          refine At.seq ?_
          refine At.region ?_
          refine At.ev (ev_move rfl) rfl ?_
          refine At.do (goes_func cf247 rfl) (rd_stop b s a bad hs) ?_
          intro _
          refine At.nil ?_
          refine At.thenN ?_
          refine At.seq ?_
          refine At.region ?_
          refine At.ev (ev_assign rfl) rfl ?_
          refine At.nil ?_
          refine At.thenN ?_
          refine At.retC ?_
          refine At.thenR ?_
          refine At.ret (rs := [.tmp 2]) rfl (Res.tmp rfl Res.nil) ?_
          rw [hr]
          try rw [show a + 1 + 1 - 1 = a + 1 by omega]
          try rw [show a + 1 - 1 = a by omega]
          exact Imp.star (Imp.pur rfl (Imp.one (by repeat (first | with_reducible exact At1.head _ _ | apply At1.tail)) (Imp.nil _)))
        · intro h2
          try simp only [decide_eq_true_eq, decide_eq_false_iff_not, Bool.not_eq_true', Bool.not_eq_false', Bool.cond_false_right, Bool.cond_true_left, Bool.and_eq_true, Bool.or_eq_true, Bool.and_eq_false_iff, Bool.or_eq_false_iff, Bool.not_true, Bool.not_false] at h2
          have hr : rdSign s a bad = (bt s a, a + 1, bad) := by unfold rdSign; rw [if_neg (by simp [h0]), if_neg (by rcases h2 with ⟨⟨h, k⟩, l⟩; simp [k, l]; omega)]
          refine At.skip ?_
          refine At.thenN ?_
          refine At.seq ?_
          refine At.region ?_
          refine At.ev (ev_move rfl) rfl ?_
          refine At.ev (ev_nil rfl) rfl ?_
          refine At.ev (ev_fa T.fa276_1 rfl) rfl ?_
          refine At.ev (ld T.ld3 rfl) rfl ?_
          refine At.ev (ev_add rfl rfl (by omega)) rfl ?_
          refine At.ev (ev_nil rfl) rfl ?_
          refine At.ev (ev_fa T.fa276_1 rfl) rfl ?_
          refine At.st1 T.sz3 rfl rfl (add_lit _ _ _) ?_
          refine At.nil ?_
          refine At.thenN ?_
          refine At.seq ?_
          refine At.drawH (.q0 0 (.q0 1 (.q0 2 (.q1 3 (.q0 4 (.q0 5 (.q0 6 (.q1 7 (.q0 8 (.q0 9 (.q0 10 (.nil)))))))))))) (fun j => !([] : List Nat).contains j) mixed (by kernel_rfl) (by kernel_rfl) (NoP.thn NoP.body) ?_
          refine At.c0 rfl (ev_move rfl) rfl ?_
          refine At.c0 rfl (ev_nil rfl) rfl ?_
          refine At.c0 rfl (ev_fa T.fa276_0 rfl) rfl ?_
          refine At.c1 rfl (Imp.refl _) (ld T.ld9 rfl) rfl ?_
          refine At.c0 rfl (ev_move rfl) rfl ?_
          refine At.c0 rfl (ev_nil rfl) rfl ?_
          refine At.c0 rfl (ev_fa T.fa276_1 rfl) rfl ?_
          refine At.c1 rfl (Imp.refl _) (ld T.ld3 rfl) rfl ?_
          skip
          refine At.c0 rfl (ev_sub rfl rfl (by omega)) rfl ?_
          refine At.c0 rfl (ev_ix T.un9 rfl rfl (by omega) (by omega)) rfl ?_
          refine At.c0 rfl (ev_assign rfl) rfl ?_
          refine At.cnil ?_
          refine At.thenN ?_
          refine At.retC ?_
          refine At.ret (rs := [.tmp 2]) rfl (Res.tmp rfl Res.nil) ?_
          rw [hr]
          try rw [show a + 1 + 1 - 1 = a + 1 by omega]
          try rw [show a + 1 - 1 = a by omega]
          exact Imp.star (Imp.pur rfl (Imp.one (by repeat (first | with_reducible exact At1.head _ _ | apply At1.tail)) (Imp.nil _)))
      exact At.cstop
    exact At.cstop

/-- (*repartee/class.reader).part -/
theorem rd_part (b : Nat) (s : ByteArray) (a bad : Int) (hs : s.size ≤ big) (h00 : 0 ≤ a) (ha : a ≤ s.size) : Does Tryz.prog 248 [.pointer (some ⟨b, 0, none⟩)] [blk b [.string s, .int .i64 a, .int .i64 bad] 276] (fun v => star (pur (v = .agg (rdPart s a bad).1.cs.toArray)) (blk b [.string s, .int .i64 (rdPart s a bad).2.1, .int .i64 (rdPart s a bad).2.2] 276)) := by
  refine Does.enter Tryz.func248 rfl rfl ?_
  intro E
  have hs' := hs
  have hbig : big = 9223372036854775807 := rfl
  unfold big at hs'
  obtain ⟨f0, f1, f3, f4, f5, f6⟩ := rdSign_b s a bad h00 ha
  obtain ⟨f, hf⟩ : ∃ f, f = rdSign s a bad := ⟨_, rfl⟩
  rw [← hf] at f0 f1 f3 f4 f5 f6
  refine At.seq ?_
  refine At.region ?_
  refine At.new T.zv249 ?_
  intro b0
  refine At.nil ?_
  refine At.thenN ?_
  refine At.seq ?_
  refine At.region ?_
  refine At.ev (ev_move rfl) rfl ?_
  refine At.do (goes_func cf251 rfl) (rd_sign b s a bad hs h00 ha) ?_
  intro _
  refine At.star ?_
  refine At.pur ?_
  rintro rfl
  rw [← hf]
  refine At.ev (ev_assign rfl) rfl ?_
  refine At.nil ?_
  refine At.thenN ?_
  refine At.seq ?_
  refine At.seq ?_
  refine At.region ?_
  refine At.ev (ev_move rfl) rfl ?_
  refine At.ev (ev_nil rfl) rfl ?_
  refine At.ev (ev_fa T.fa276_2 rfl) rfl ?_
  refine At.ev (ld T.ld74 rfl) rfl ?_
  refine At.ev (ev_nei rfl rfl) rfl ?_
  refine At.ev (ev_move rfl) rfl ?_
  refine At.evg rfl rfl (fun hg => (ev_move rfl)) rfl rfl ?_
  refine At.callg rfl rfl (fun hg => goes_func cf246 rfl) (fun hg => (Qc.own (rd_is b s f.2.1 f.2.2 45 (by assumption) (by omega)))) rfl rfl ?_
  refine At.evg rfl rfl (fun hg => (ev_not rfl)) rfl rfl ?_
  refine At.ev (ev_pickG rfl rfl rfl rfl) rfl ?_
  refine At.nil ?_
  refine At.thenN ?_
  refine At.cond rfl ?_ ?_
  · intro h0
    try simp only [decide_eq_true_eq, decide_eq_false_iff_not, Bool.not_eq_true', Bool.not_eq_false', Bool.cond_false_right, Bool.cond_true_left, Bool.and_eq_true, Bool.or_eq_true, Bool.and_eq_false_iff, Bool.or_eq_false_iff, Bool.not_true, Bool.not_false] at h0
    have hr : rdPart s a bad = (spanS f.1 f.1, f.2) := by unfold rdPart; rw [← hf]; simp only; rw [if_pos (by rcases h0 with h | h; exact .inl h; exact .inr h)]
    refine At.seq ?_
    refine At.region ?_
    refine At.ev (ev_move rfl) rfl ?_
    refine At.ev (ev_move rfl) rfl ?_
    refine At.callq (goes_func cf240 rfl) (Qc.pure (class_span _ _ (by omega) (by omega) (by omega) (by omega))) rfl ?_
    refine At.stA T.sz249 rfl rfl rfl ?_
    refine At.nil ?_
    refine At.thenN ?_
    refine At.retC ?_
    refine At.thenR ?_
    refine At.ret (rs := [.cell 2 249]) rfl (Res.cell rfl (load_whole T.ld249 rfl (by repeat (first | with_reducible exact Mem.head _ _ | apply Mem.tail))) Res.nil) ?_
    rw [hr]
    exact Imp.star (Imp.pur rfl (Imp.one (by repeat (first | with_reducible exact At1.head _ _ | apply At1.tail)) (Imp.nil _)))
  · intro h0
    try simp only [decide_eq_true_eq, decide_eq_false_iff_not, Bool.not_eq_true', Bool.not_eq_false', Bool.cond_false_right, Bool.cond_true_left, Bool.and_eq_true, Bool.or_eq_true, Bool.and_eq_false_iff, Bool.or_eq_false_iff, Bool.not_true, Bool.not_false] at h0
    have hn : ¬ (f.2.2 ≠ 0 ∨ rdIs s f.2.1 45 = false) := by rintro (h | h) <;> simp_all
    have hlt : f.2.1 < s.size := by refine rdIs_lt (b := 45) ?_; simp only [not_or, Bool.not_eq_false] at hn; exact hn.2
    obtain ⟨t0, t1, t3, t4, t5, t6⟩ := rdSign_b s (f.2.1 + 1) f.2.2 (by omega) (by omega)
    obtain ⟨t, ht⟩ : ∃ t, t = rdSign s (f.2.1 + 1) f.2.2 := ⟨_, rfl⟩
    rw [← ht] at t0 t1 t3 t4 t5 t6
    refine At.skip ?_
    refine At.thenN ?_
    refine At.seq ?_
    refine At.region ?_
    refine At.ev (ev_move rfl) rfl ?_
    refine At.ev (ev_nil rfl) rfl ?_
    refine At.ev (ev_fa T.fa276_1 rfl) rfl ?_
    refine At.ev (ld T.ld3 rfl) rfl ?_
    refine At.ev (ev_add rfl rfl (by omega)) rfl ?_
    refine At.ev (ev_nil rfl) rfl ?_
    refine At.ev (ev_fa T.fa276_1 rfl) rfl ?_
    refine At.st1 T.sz3 rfl rfl (add_lit _ _ _) ?_
    refine At.nil ?_
    refine At.thenN ?_
    refine At.seq ?_
    refine At.region ?_
    refine At.ev (ev_move rfl) rfl ?_
    refine At.do (goes_func cf251 rfl) (rd_sign b s (f.2.1 + 1) f.2.2 hs (by omega) (by omega)) ?_
    intro _
    refine At.star ?_
    refine At.pur ?_
    rintro rfl
    rw [← ht]
    refine At.ev (ev_assign rfl) rfl ?_
    refine At.nil ?_
    refine At.thenN ?_
    refine At.seq ?_
    refine At.seq ?_
    refine At.region ?_
    refine At.ev (ev_move rfl) rfl ?_
    refine At.ev (ev_nil rfl) rfl ?_
    refine At.ev (ev_fa T.fa276_2 rfl) rfl ?_
    refine At.ev (ld T.ld74 rfl) rfl ?_
    refine At.ev (ev_eqi rfl rfl) rfl ?_
    refine At.ev (ev_move rfl) rfl ?_
    refine At.evg rfl rfl (fun hg => (ev_move rfl)) rfl rfl ?_
    refine At.evg rfl rfl (fun hg => (ev_move rfl)) rfl rfl ?_
    refine At.evg rfl rfl (fun hg => (ev_lss rfl rfl)) rfl rfl ?_
    refine At.ev (ev_pickG rfl rfl rfl rfl) rfl ?_
    refine At.nil ?_
    refine At.thenN ?_
    refine At.cond rfl ?_ ?_
    · intro h1
      try simp only [decide_eq_true_eq, decide_eq_false_iff_not, Bool.not_eq_true', Bool.not_eq_false', Bool.cond_false_right, Bool.cond_true_left, Bool.and_eq_true, Bool.or_eq_true, Bool.and_eq_false_iff, Bool.or_eq_false_iff, Bool.not_true, Bool.not_false] at h1
      have hr : rdPart s a bad = (spanS f.1 t.1, t.2.1 - 1, 12) := by unfold rdPart; rw [← hf]; simp only; rw [if_neg hn, ← ht, if_pos h1]
      refine At.seq ?_
      refine At.region ?_
      refine At.ev (ev_move rfl) rfl ?_
      refine At.ev (ev_nil rfl) rfl ?_
      refine At.ev (ev_fa T.fa276_1 rfl) rfl ?_
      refine At.ev (ld T.ld3 rfl) rfl ?_
      refine At.ev (ev_sub rfl rfl (by omega)) rfl ?_
      refine At.ev (ev_nil rfl) rfl ?_
      refine At.ev (ev_fa T.fa276_1 rfl) rfl ?_
      refine At.st1 T.sz3 rfl rfl (add_lit _ _ _) ?_
      refine At.nil ?_
      refine At.thenN ?_
      refine At.region ?_
      refine At.ev (ev_move rfl) rfl ?_
      refine At.ev (ev_nil rfl) rfl ?_
      refine At.ev (ev_fa T.fa276_2 rfl) rfl ?_
      refine At.st1 T.sz74 rfl rfl (add_lit _ _ _) ?_
      refine At.nil ?_
      refine At.thenN ?_
      refine At.seq ?_
      refine At.region ?_
      refine At.ev (ev_move rfl) rfl ?_
      refine At.ev (ev_move rfl) rfl ?_
      refine At.callq (goes_func cf240 rfl) (Qc.pure (class_span _ _ (by omega) (by omega) (by omega) (by omega))) rfl ?_
      refine At.stA T.sz249 rfl rfl rfl ?_
      refine At.nil ?_
      refine At.thenN ?_
      refine At.retC ?_
      refine At.ret (rs := [.cell 2 249]) rfl (Res.cell rfl (load_whole T.ld249 rfl (by repeat (first | with_reducible exact Mem.head _ _ | apply Mem.tail))) Res.nil) ?_
      rw [hr]
      exact Imp.star (Imp.pur rfl (Imp.one (by repeat (first | with_reducible exact At1.head _ _ | apply At1.tail)) (Imp.nil _)))
    · intro h1
      try simp only [decide_eq_true_eq, decide_eq_false_iff_not, Bool.not_eq_true', Bool.not_eq_false', Bool.cond_false_right, Bool.cond_true_left, Bool.and_eq_true, Bool.or_eq_true, Bool.and_eq_false_iff, Bool.or_eq_false_iff, Bool.not_true, Bool.not_false] at h1
      have hr : rdPart s a bad = (spanS f.1 t.1, t.2) := by unfold rdPart; rw [← hf]; simp only; rw [if_neg hn, ← ht, if_neg (by omega)]
      refine At.skip ?_
      refine At.thenN ?_
      refine At.seq ?_
      refine At.region ?_
      refine At.ev (ev_move rfl) rfl ?_
      refine At.ev (ev_move rfl) rfl ?_
      refine At.callq (goes_func cf240 rfl) (Qc.pure (class_span _ _ (by omega) (by omega) (by omega) (by omega))) rfl ?_
      refine At.stA T.sz249 rfl rfl rfl ?_
      refine At.nil ?_
      refine At.thenN ?_
      refine At.retC ?_
      refine At.ret (rs := [.cell 2 249]) rfl (Res.cell rfl (load_whole T.ld249 rfl (by repeat (first | with_reducible exact Mem.head _ _ | apply Mem.tail))) Res.nil) ?_
      rw [hr]
      exact Imp.star (Imp.pur rfl (Imp.one (by repeat (first | with_reducible exact At1.head _ _ | apply At1.tail)) (Imp.nil _)))

/-- repartee/class.or -/
theorem class_or (s t : SetD) : Does Tryz.prog 249 [.agg s.cs.toArray, .agg t.cs.toArray] [] (fun v => pur (v = .agg (s.or t).cs.toArray)) := by
  refine Does.enter Tryz.func249 rfl rfl ?_
  intro E
  refine At.seq ?_
  refine At.region ?_
  refine At.boxA rfl ?_
  intro b0
  refine At.boxA rfl ?_
  intro b1
  refine At.new T.zv249 ?_
  intro b2
  refine At.nil ?_
  refine At.thenN ?_
  refine At.seq ?_
  refine At.seq ?_
  refine At.region ?_
  refine At.ev (ev_move rfl) rfl ?_
  refine At.nil ?_
  refine At.thenN ?_
  refine At.block ?_
  refine At.norm (b := b0) ((orN s t 0).cs) (by repeat (first | with_reducible exact At1.head _ _ | apply At1.tail)) (by rfl) ?_
  refine At.loopF1 [(5, 17)] (fun (k : Nat) => 4 - k) (fun (k : Nat) => k ≤ 4) (fun (k : Nat) => [(6, .val (.int .i64 k))]) (fun (k : Nat) => [blk b0 (orN s t k).cs 249, blk b1 t.cs 249]) (0) (by simp) ⟨rfl, trivial⟩ ?_
  intro k hk
  refine At.cat2 ?_
  refine At.seq ?_
  refine At.region ?_
  refine At.ev (ev_lss rfl rfl) rfl ?_
  refine At.nil ?_
  refine At.thenN ?_
  refine At.seq ?_
  refine At.condD rfl ?_ ?_
  · intro h0
    refine At.skip ?_
    refine At.thenN ?_
    refine At.seq ?_
    refine At.block ?_
    refine At.seq ?_
    refine At.region ?_
    refine At.ev (ev_move rfl) rfl ?_
    refine At.ev (ev_assign rfl) rfl ?_
    refine At.nil ?_
    refine At.thenN ?_
    refine At.drawH (.q0 0 (.q0 1 (.q1 2 (.q0 3 (.q0 4 (.q1 5 (.q0 6 (.q0 7 (.br 8 (.nil) (.stop)))))))))) (fun j => !([8] : List Nat).contains j) mixed (by kernel_rfl) (by kernel_rfl) (NoP.blk (NoP.thn (NoP.thn (NoP.blk (NoP.thn NoP.body))))) ?_
    refine At.c0 rfl (ev_move rfl) rfl ?_
    refine At.c0 rfl (ev_iaa (n := 4) (i := k) T.un249 T.sz212 rfl rfl (by omega) (by omega)) rfl ?_
    refine At.c1 rfl (Imp.refl _) (ld T.ld212 rfl (hc := Cell.set4 (s := orN s t k) (by repeat (first | with_reducible exact Mem.head _ _ | apply Mem.tail)) (by omega))) rfl ?_
    refine At.c0 rfl (ev_move rfl) rfl ?_
    refine At.c0 rfl (ev_iaa (n := 4) (i := k) T.un249 T.sz212 rfl rfl (by omega) (by omega)) rfl ?_
    refine At.c1 rfl (Imp.refl _) (ld T.ld212 rfl (hc := Cell.set4 (s := t) (by repeat (first | with_reducible exact Mem.head _ _ | apply Mem.tail)) (by omega))) rfl ?_
    refine At.c0 rfl (ev_or64 rfl rfl) rfl ?_
    refine At.c0 rfl (ev_iaa (n := 4) (i := k) T.un249 T.sz212 rfl rfl (by omega) (by omega)) rfl ?_
    refine At.c2 rfl ?_ ?_
    · intro w0
      refine At.st4 (s := orN s t k) T.sz212 rfl rfl rfl (by omega) ?_
      rw [show (orN s t k).put (k : Int).toNat ((orN s t k).get (k : Int).toNat ||| t.get (k : Int).toNat) = orN s t (k + 1) from rfl]
      refine At.nil ?_
      refine At.cn (fun h => absurd h (by decide)) ?_
      refine At.cnil ?_
      refine At.blkN ?_
      refine At.thenN ?_
      refine At.region ?_
      refine At.ev (ev_add rfl rfl (by omega)) rfl ?_
      refine At.ev (ev_move rfl) rfl ?_
      refine At.nil ?_
      refine At.thenN ?_
      refine At.againF1 (k + 1) (by omega) (by omega) ⟨rfl, trivial⟩
    exact At.cstop
  · intro h0
    obtain rfl : k = 4 := by omega
    rw [orN_4]
    refine At.exit ?_
    refine At.thenX ?_
    refine At.thenX ?_
    refine At.blkX ?_
    refine At.thenN ?_
    refine At.seq ?_
    refine At.region ?_
    refine At.ev (ldA T.ld249 rfl) rfl ?_
    refine At.stA T.sz249 rfl rfl rfl ?_
    refine At.nil ?_
    refine At.thenN ?_
    refine At.retC ?_
    refine At.ret (rs := [.cell 4 249]) rfl (Res.cell rfl (load_whole T.ld249 rfl (by repeat (first | with_reducible exact Mem.head _ _ | apply Mem.tail))) Res.nil) ?_
    exact Imp.pur rfl (Imp.nil _)

/-- repartee/class.negate -/
theorem class_negate (s : SetD) : Does Tryz.prog 250 [.agg s.cs.toArray] [] (fun v => pur (v = .agg s.not.cs.toArray)) := by
  refine Does.enter Tryz.func250 rfl rfl ?_
  intro E
  refine At.seq ?_
  refine At.region ?_
  refine At.boxA rfl ?_
  intro b0
  refine At.new T.zv249 ?_
  intro b1
  refine At.nil ?_
  refine At.thenN ?_
  refine At.seq ?_
  refine At.seq ?_
  refine At.region ?_
  refine At.ev (ev_move rfl) rfl ?_
  refine At.nil ?_
  refine At.thenN ?_
  refine At.block ?_
  refine At.norm (b := b0) ((notN s 0).cs) (by repeat (first | with_reducible exact At1.head _ _ | apply At1.tail)) (by rfl) ?_
  refine At.loopF1 [(3, 13)] (fun (k : Nat) => 4 - k) (fun (k : Nat) => k ≤ 4) (fun (k : Nat) => [(4, .val (.int .i64 k))]) (fun (k : Nat) => [blk b0 (notN s k).cs 249]) (0) (by simp) ⟨rfl, trivial⟩ ?_
  intro k hk
  refine At.cat1 ?_
  refine At.seq ?_
  refine At.region ?_
  refine At.ev (ev_lss rfl rfl) rfl ?_
  refine At.nil ?_
  refine At.thenN ?_
  refine At.seq ?_
  refine At.condD rfl ?_ ?_
  · intro h0
    refine At.skip ?_
    refine At.thenN ?_
    refine At.seq ?_
    refine At.block ?_
    refine At.seq ?_
    refine At.region ?_
    refine At.ev (ev_move rfl) rfl ?_
    refine At.ev (ev_assign rfl) rfl ?_
    refine At.nil ?_
    refine At.thenN ?_
    refine At.region ?_
    refine At.ev (ev_move rfl) rfl ?_
    refine At.ev (ev_move rfl) rfl ?_
    refine At.ev (ev_iaa (n := 4) (i := k) T.un249 T.sz212 rfl rfl (by omega) (by omega)) rfl ?_
    refine At.ev (ld T.ld212 rfl (hc := Cell.set4 (s := notN s k) (by repeat (first | with_reducible exact Mem.head _ _ | apply Mem.tail)) (by omega))) rfl ?_
    refine At.ev (ev_not64 rfl) rfl ?_
    refine At.ev (ev_iaa (n := 4) (i := k) T.un249 T.sz212 rfl rfl (by omega) (by omega)) rfl ?_
    refine At.st4 (s := notN s k) T.sz212 rfl rfl rfl (by omega) ?_
    rw [show (notN s k).put (k : Int).toNat (~~~ (notN s k).get (k : Int).toNat) = notN s (k + 1) from rfl]
    refine At.nil ?_
    refine At.blkN ?_
    refine At.thenN ?_
    refine At.region ?_
    refine At.ev (ev_add rfl rfl (by omega)) rfl ?_
    refine At.ev (ev_move rfl) rfl ?_
    refine At.nil ?_
    refine At.thenN ?_
    refine At.againF1 (k + 1) (by omega) (by omega) ⟨rfl, trivial⟩
  · intro h0
    obtain rfl : k = 4 := by omega
    rw [notN_4]
    refine At.exit ?_
    refine At.thenX ?_
    refine At.thenX ?_
    refine At.blkX ?_
    refine At.thenN ?_
    refine At.seq ?_
    refine At.region ?_
    refine At.ev (ldA T.ld249 rfl) rfl ?_
    refine At.stA T.sz249 rfl rfl rfl ?_
    refine At.nil ?_
    refine At.thenN ?_
    refine At.retC ?_
    refine At.ret (rs := [.cell 2 249]) rfl (Res.cell rfl (load_whole T.ld249 rfl (by repeat (first | with_reducible exact Mem.head _ _ | apply Mem.tail))) Res.nil) ?_
    exact Imp.pur rfl (Imp.nil _)

/-- (*repartee/class.reader).whole -/
theorem rd_whole (b : Nat) (s : ByteArray) (hs : s.size ≤ big) : Does Tryz.prog 241 [.pointer (some ⟨b, 0, none⟩)] [blk b [.string s, .int .i64 0, .int .i64 0] 276] (fun v => star (pur (v = .agg (rdEnd s).1.cs.toArray)) (blk b [.string s, .int .i64 (rdEnd s).2.1, .int .i64 (rdEnd s).2.2] 276)) := by
  refine Does.enter Tryz.func241 rfl rfl ?_
  intro E
  have hs' := hs
  have hbig : big = 9223372036854775807 := rfl
  unfold big at hs'
  refine At.seq ?_
  refine At.region ?_
  refine At.new T.zv249 ?_
  intro b0
  refine At.nil ?_
  refine At.thenN ?_
  refine At.seq ?_
  refine At.seq ?_
  refine At.region ?_
  refine At.ev (ev_move rfl) rfl ?_
  refine At.callq (goes_func cf246 rfl) (Qc.own (rd_is b s 0 0 91 (by assumption) (by omega))) rfl ?_
  refine At.ev (ev_not rfl) rfl ?_
  refine At.nil ?_
  refine At.thenN ?_
  refine At.cond rfl ?_ ?_
  · intro h0
    try simp only [decide_eq_true_eq, decide_eq_false_iff_not, Bool.not_eq_true', Bool.not_eq_false', Bool.cond_false_right, Bool.cond_true_left, Bool.and_eq_true, Bool.or_eq_true, Bool.and_eq_false_iff, Bool.or_eq_false_iff, Bool.not_true, Bool.not_false] at h0
    have hr : rdEnd s = (SetD.none, rdStop s 0) := by unfold rdEnd; rw [if_pos h0]
    refine At.seq ?_
    refine At.region ?_
    refine At.ev (ev_move rfl) rfl ?_
    refine At.do (goes_func cf247 rfl) (rd_stop b s 0 0 hs) ?_
    intro _
    refine At.nil ?_
    refine At.thenN ?_
    refine At.seq ?_
    refine At.region ?_
    refine At.ev (ev_buildA0 T.zv249 T.un249 T.sz212) rfl ?_
    refine At.stA T.sz249 rfl rfl rfl ?_
    refine At.nil ?_
    refine At.thenN ?_
    refine At.retC ?_
    refine At.thenR ?_
    refine At.ret (rs := [.cell 2 249]) rfl (Res.cell rfl (load_whole T.ld249 rfl (by repeat (first | with_reducible exact Mem.head _ _ | apply Mem.tail))) Res.nil) ?_
    rw [hr]
    exact Imp.star (Imp.pur rfl (Imp.one (by repeat (first | with_reducible exact At1.head _ _ | apply At1.tail)) (Imp.nil _)))
  · intro h0
    try simp only [decide_eq_true_eq, decide_eq_false_iff_not, Bool.not_eq_true', Bool.not_eq_false', Bool.cond_false_right, Bool.cond_true_left, Bool.and_eq_true, Bool.or_eq_true, Bool.and_eq_false_iff, Bool.or_eq_false_iff, Bool.not_true, Bool.not_false] at h0
    have hlt := rdIs_lt h0
    refine At.skip ?_
    refine At.thenN ?_
    refine At.seq ?_
    refine At.region ?_
    refine At.ev (ev_move rfl) rfl ?_
    refine At.ev (ev_nil rfl) rfl ?_
    refine At.ev (ev_fa T.fa276_1 rfl) rfl ?_
    refine At.ev (ld T.ld3 rfl) rfl ?_
    refine At.ev (ev_add rfl rfl (by omega)) rfl ?_
    refine At.ev (ev_nil rfl) rfl ?_
    refine At.ev (ev_fa T.fa276_1 rfl) rfl ?_
    refine At.st1 T.sz3 rfl rfl (add_lit _ _ _) ?_
    refine At.nil ?_
    refine At.norm (b := b) [.string s, .int .i64 1, .int .i64 0] (by repeat (first | with_reducible exact At1.head _ _ | apply At1.tail)) (by rfl) ?_
    refine At.thenN ?_
    refine At.seq ?_
    refine At.region ?_
    refine At.ev (ev_move rfl) rfl ?_
    refine At.callq (goes_func cf246 rfl) (Qc.own (rd_is b s 1 0 94 (by assumption) (by omega))) rfl ?_
    refine At.ev (ev_assign rfl) rfl ?_
    refine At.nil ?_
    refine At.thenN ?_
    refine At.seq ?_
    refine At.seq ?_
    refine At.region ?_
    refine At.ev (ev_move rfl) rfl ?_
    refine At.nil ?_
    refine At.thenN ?_
    refine At.joinQ1 [(21, 27)] (fun (a : Int) => a = (if rdIs s 1 94 = true then 2 else 1) ∧ 1 ≤ a ∧ a ≤ s.size) (fun (a : Int) => []) (fun (a : Int) => [blk b [.string s, .int .i64 a, .int .i64 0] 276]) [blk b [.string s, .int .i64 1, .int .i64 0] 276] ?_ ?_
    · skip
      refine At.cond rfl ?_ ?_
      · intro h1
        try simp only [decide_eq_true_eq, decide_eq_false_iff_not, Bool.not_eq_true', Bool.not_eq_false', Bool.cond_false_right, Bool.cond_true_left, Bool.and_eq_true, Bool.or_eq_true, Bool.and_eq_false_iff, Bool.or_eq_false_iff, Bool.not_true, Bool.not_false] at h1
        have hl1 := rdIs_lt h1
        refine At.region ?_
        refine At.ev (ev_move rfl) rfl ?_
        refine At.ev (ev_nil rfl) rfl ?_
        refine At.ev (ev_fa T.fa276_1 rfl) rfl ?_
        refine At.ev (ld T.ld3 rfl) rfl ?_
        refine At.ev (ev_add rfl rfl (by omega)) rfl ?_
        refine At.ev (ev_nil rfl) rfl ?_
        refine At.ev (ev_fa T.fa276_1 rfl) rfl ?_
        refine At.st1 T.sz3 rfl rfl (add_lit _ _ _) ?_
        refine At.nil ?_
        refine At.norm (b := b) [.string s, .int .i64 2, .int .i64 0] (by repeat (first | with_reducible exact At1.head _ _ | apply At1.tail)) (by rfl) ?_
        refine At.thenN ?_
        refine At.meet1 (2) (⟨by rw [if_pos h1], by omega, by omega⟩) trivial
      · intro h1
        try simp only [decide_eq_true_eq, decide_eq_false_iff_not, Bool.not_eq_true', Bool.not_eq_false', Bool.cond_false_right, Bool.cond_true_left, Bool.and_eq_true, Bool.or_eq_true, Bool.and_eq_false_iff, Bool.or_eq_false_iff, Bool.not_true, Bool.not_false] at h1
        refine At.skip ?_
        refine At.thenN ?_
        refine At.meet1 (1) (⟨by rw [if_neg (by simp [h1])], by omega, by omega⟩) trivial
    intro a hj
    refine At.cat1 ?_
    refine At.thenN ?_
    refine At.seq ?_
    refine At.region ?_
    refine At.ev (ev_move rfl) rfl ?_
    obtain ⟨ha, ha1, ha2⟩ := hj
    refine At.do (goes_func cf248 rfl) (rd_part b s a 0 hs (by omega) ha2) ?_
    intro _
    refine At.star ?_
    refine At.pur ?_
    rintro rfl
    refine At.new T.zv249 ?_
    intro b4
    refine At.stA T.sz249 rfl rfl rfl ?_
    refine At.nil ?_
    refine At.thenN ?_
    refine At.seq ?_
    refine At.block ?_
    have hpb := rdPart_b s a 0 (by omega) ha2
    refine At.norm (b := b4) (rdPart s a 0).1.cs (by repeat (first | with_reducible exact At1.head _ _ | apply At1.tail)) (by rfl) ?_
    refine At.loopF2 [(30, 43)] (fun (n : Nat) (x : RdSt) => n) (fun (n : Nat) (x : RdSt) => x.ok s ∧ rdLoop s n x = rdFrom s a ∧ (x.bad = 0 → s.size - x.at_ < n)) (fun (n : Nat) (x : RdSt) => []) (fun (n : Nat) (x : RdSt) => [blk b [.string s, .int .i64 x.at_, .int .i64 x.bad] 276, blk b4 x.out.cs 249]) (s.size + 1) (⟨(rdPart s a 0).1, (rdPart s a 0).2.1, (rdPart s a 0).2.2⟩) (⟨⟨by simp only; omega, hpb.2.1, by simp only; omega⟩, rfl, fun _ => by simp only; omega⟩) trivial ?_
    intro n x hk
    refine At.cat2 ?_
    have hx1 := hk.1.1
    have hx2 := hk.1.2.1
    refine At.seq ?_
    refine At.seq ?_
    refine At.region ?_
    refine At.ev (ev_move rfl) rfl ?_
    refine At.ev (ev_nil rfl) rfl ?_
    refine At.ev (ev_fa T.fa276_2 rfl) rfl ?_
    refine At.ev (ld T.ld74 rfl) rfl ?_
    refine At.ev (ev_eqi rfl rfl) rfl ?_
    refine At.ev (ev_move rfl) rfl ?_
    refine At.evg rfl rfl (fun hg => (ev_move rfl)) rfl rfl ?_
    refine At.callg rfl rfl (fun hg => goes_func cf246 rfl) (fun hg => (Qc.own (rd_is b s x.at_ x.bad 93 (by assumption) hk.1.1))) rfl rfl ?_
    refine At.evg rfl rfl (fun hg => (ev_not rfl)) rfl rfl ?_
    refine At.ev (ev_pickG rfl rfl rfl rfl) rfl ?_
    refine At.nil ?_
    refine At.thenN ?_
    refine At.cond rfl ?_ ?_
    · intro h2
      try simp only [decide_eq_true_eq, decide_eq_false_iff_not, Bool.not_eq_true', Bool.not_eq_false', Bool.cond_false_right, Bool.cond_true_left, Bool.and_eq_true, Bool.or_eq_true, Bool.and_eq_false_iff, Bool.or_eq_false_iff, Bool.not_true, Bool.not_false] at h2
      have hon : x.on s = true := by simp [RdSt.on, h2]
      obtain ⟨m, rfl⟩ : ∃ m, n = m + 1 := ⟨n - 1, by have := hk.2.2 h2.1; have := hk.1.2.1; omega⟩
      have hnx := RdSt.next_ok hk.1 hon
      have hst : rdLoop s m (x.next s) = rdFrom s a := by rw [← hk.2.1, rdLoop, if_pos hon]
      refine At.skip ?_
      refine At.thenN ?_
      refine At.block ?_
      refine At.draw (.q1 0 (.q0 1 (.br 2 (.br 3 (.br 4 (.nil) (.stop)) (.stop)) (.stop)))) (fun j => !([3, 4] : List Nat).contains j) ([blk b4 x.out.cs 249]) mixed (by kernel_rfl) (by kernel_rfl) (NoP.blk (NoP.thn (NoP.blk (NoP.thn NoP.body)))) ?_
      refine At.c1 rfl (by (repeat (first | exact Imp.nil _ | (with_reducible apply Imp.per; · repeat (first | with_reducible exact Mem.head _ _ | apply Mem.tail)) | (with_reducible apply Imp.one; · repeat (first | with_reducible exact At1.head _ _ | apply At1.tail))))) (ldA T.ld249 rfl) rfl ?_
      refine At.c0 rfl (ev_move rfl) rfl ?_
      refine At.c2 rfl ?_ ?_
      · intro w0
        refine At.do (goes_func cf248 rfl) (rd_part b s x.at_ x.bad hs hk.1.1 hk.1.2.1) ?_
        intro _
        refine At.star ?_
        refine At.pur ?_
        rintro rfl
        refine At.nil ?_
        refine At.cn (fun _ => ?_) ?_
        · first | exact Imp.refl _ | exact fun _ _ h => h.drop | exact fun _ _ h => h.drop.drop | exact fun _ _ h => h.drop.drop.drop | exact fun _ _ h => h.drop.drop.drop.drop | (repeat (first | exact Imp.nil _ | (with_reducible apply Imp.per; · repeat (first | with_reducible exact Mem.head _ _ | apply Mem.tail)) | (with_reducible apply Imp.one; · repeat (first | with_reducible exact At1.head _ _ | apply At1.tail))))
        refine At.c2 rfl ?_ ?_
        · intro w0
          refine At.callq (goes_func cf249 rfl) (Qc.pure (class_or _ _)) rfl ?_
          refine At.nil ?_
          refine At.cn (fun h => absurd h (by decide)) ?_
          refine At.c2 rfl ?_ ?_
          · intro w0
            refine At.stA T.sz249 rfl rfl rfl ?_ (cs' := (x.next s).out.cs)
            refine At.nil ?_
            refine At.cn (fun h => absurd h (by decide)) ?_
            refine At.cnil ?_
            refine At.blkN ?_
            refine At.thenN ?_
            refine At.norm (b := b) [.string s, .int .i64 (x.next s).at_, .int .i64 (x.next s).bad] (by repeat (first | with_reducible exact At1.head _ _ | apply At1.tail)) (by rfl) ?_
            refine At.againF2 (m) (x.next s) (by omega) (⟨hnx.1, hst, fun h => by have := hnx.2 h; have := hk.2.2 h2.1; omega⟩) trivial
          exact At.cstop
        exact At.cstop
      exact At.cstop
    · intro h2
      try simp only [decide_eq_true_eq, decide_eq_false_iff_not, Bool.not_eq_true', Bool.not_eq_false', Bool.cond_false_right, Bool.cond_true_left, Bool.and_eq_true, Bool.or_eq_true, Bool.and_eq_false_iff, Bool.or_eq_false_iff, Bool.not_true, Bool.not_false] at h2
      have hon : x.on s = false := by simp [RdSt.on]; rcases h2 with h | h <;> simp [h]
      have hx : x = rdFrom s a := by rw [← hk.2.1]; cases n with | zero => rfl | succ n => rw [rdLoop, if_neg (by simp [hon])]
      have hre : rdEnd s = (if x.bad ≠ 0 then (SetD.none, x.at_, x.bad) else (if rdIs s 1 94 = true then x.out.not else x.out, x.at_ + 1, x.bad)) := by unfold rdEnd; rw [if_neg (by simp [h0])]; simp only; rw [← ha, ← hx]
      refine At.exit ?_
      refine At.thenX ?_
      refine At.thenX ?_
      refine At.blkX ?_
      refine At.thenN ?_
      refine At.seq ?_
      refine At.seq ?_
      refine At.region ?_
      refine At.ev (ev_move rfl) rfl ?_
      refine At.ev (ev_nil rfl) rfl ?_
      refine At.ev (ev_fa T.fa276_2 rfl) rfl ?_
      refine At.ev (ld T.ld74 rfl) rfl ?_
      refine At.ev (ev_nei rfl rfl) rfl ?_
      refine At.nil ?_
      refine At.thenN ?_
      refine At.condDn rfl ?_ ?_
      · intro h3
        rw [if_pos h3] at hre
        refine At.seq ?_
        refine At.region ?_
        refine At.ev (ev_buildA0 T.zv249 T.un249 T.sz212) rfl ?_
        refine At.stA T.sz249 rfl rfl rfl ?_
        refine At.nil ?_
        refine At.thenN ?_
        refine At.retC ?_
        refine At.thenR ?_
        refine At.ret (rs := [.cell 2 249]) rfl (Res.cell rfl (load_whole T.ld249 rfl (by repeat (first | with_reducible exact Mem.head _ _ | apply Mem.tail))) Res.nil) ?_
        rw [hre]
        exact Imp.star (Imp.pur rfl (Imp.one (by repeat (first | with_reducible exact At1.head _ _ | apply At1.tail)) (Imp.nil _)))
      · intro h3
        rw [if_neg (by simp [h3])] at hre
        have hl3 : x.at_ < s.size := by
          rcases h2 with h | h
          · exact absurd h3 h
          · exact rdIs_lt h
        refine At.skip ?_
        refine At.thenN ?_
        refine At.seq ?_
        refine At.region ?_
        refine At.ev (ev_move rfl) rfl ?_
        refine At.ev (ev_nil rfl) rfl ?_
        refine At.ev (ev_fa T.fa276_1 rfl) rfl ?_
        refine At.ev (ld T.ld3 rfl) rfl ?_
        refine At.ev (ev_add rfl rfl (by omega)) rfl ?_
        refine At.ev (ev_nil rfl) rfl ?_
        refine At.ev (ev_fa T.fa276_1 rfl) rfl ?_
        refine At.st1 T.sz3 rfl rfl (add_lit _ _ _) ?_
        refine At.nil ?_
        refine At.thenN ?_
        refine At.seq ?_
        refine At.seq ?_
        refine At.region ?_
        refine At.ev (ev_move rfl) rfl ?_
        refine At.nil ?_
        refine At.thenN ?_
        refine At.cond rfl ?_ ?_
        · intro h4
          try simp only [decide_eq_true_eq, decide_eq_false_iff_not, Bool.not_eq_true', Bool.not_eq_false', Bool.cond_false_right, Bool.cond_true_left, Bool.and_eq_true, Bool.or_eq_true, Bool.and_eq_false_iff, Bool.or_eq_false_iff, Bool.not_true, Bool.not_false] at h4
          rw [if_pos h4] at hre
          refine At.seq ?_
          refine At.region ?_
          refine At.ev (ldA T.ld249 rfl) rfl ?_
          refine At.callq (goes_func cf250 rfl) (Qc.pure (class_negate _)) rfl ?_
          refine At.stA T.sz249 rfl rfl rfl ?_
          refine At.nil ?_
          refine At.thenN ?_
          refine At.retC ?_
          refine At.thenR ?_
          refine At.ret (rs := [.cell 2 249]) rfl (Res.cell rfl (load_whole T.ld249 rfl (by repeat (first | with_reducible exact Mem.head _ _ | apply Mem.tail))) Res.nil) ?_
          rw [hre]
          exact Imp.star (Imp.pur rfl (Imp.one (by repeat (first | with_reducible exact At1.head _ _ | apply At1.tail)) (Imp.nil _)))
        · intro h4
          try simp only [decide_eq_true_eq, decide_eq_false_iff_not, Bool.not_eq_true', Bool.not_eq_false', Bool.cond_false_right, Bool.cond_true_left, Bool.and_eq_true, Bool.or_eq_true, Bool.and_eq_false_iff, Bool.or_eq_false_iff, Bool.not_true, Bool.not_false] at h4
          rw [if_neg (by simp [h4])] at hre
          refine At.skip ?_
          refine At.thenN ?_
          refine At.seq ?_
          refine At.region ?_
          refine At.ev (ldA T.ld249 rfl) rfl ?_
          refine At.stA T.sz249 rfl rfl rfl ?_
          refine At.nil ?_
          refine At.thenN ?_
          refine At.retC ?_
          refine At.ret (rs := [.cell 2 249]) rfl (Res.cell rfl (load_whole T.ld249 rfl (by repeat (first | with_reducible exact Mem.head _ _ | apply Mem.tail))) Res.nil) ?_
          rw [hre]
          exact Imp.star (Imp.pur rfl (Imp.one (by repeat (first | with_reducible exact At1.head _ _ | apply At1.tail)) (Imp.nil _)))

end Go.Proofs.YtebjpeonbfhdhaaGreat
