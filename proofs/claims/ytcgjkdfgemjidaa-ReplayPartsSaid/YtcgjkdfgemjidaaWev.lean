import Derived.Test.YtcgjkdfgemjidaaWtick
import Derived.Test.YtcgjkdfgemjidaaSxE
import Derived.Test.YtcgjkdfgemjidaaSp2
set_option linter.unusedVariables false
set_option linter.unusedSimpArgs false
namespace Go.Proofs.Ytcgjkdfgemjidaa
open Go Go.Sx Go.Proofs
set_option maxRecDepth 100000

/-- repartee/reparteelaw02.Cut -/
theorem law02_Cut (s : ByteArray) (m : Nat) : Does Try.prog 9 [.string s, .int .i64 m] [] (fun v => pur (v = .string (bCut s m))) := by
  refine Does.enter Try.func9 rfl rfl ?_
  intro E
  refine At.seq ?_
  refine At.region ?_
  refine At.ev (ev_assign rfl) rfl ?_
  refine At.nil ?_
  refine At.thenN ?_
  refine At.seq ?_
  refine At.seq ?_
  refine At.region ?_
  refine At.ev (ev_move rfl) rfl ?_
  refine At.ev (ev_lens T.un9 rfl) rfl ?_
  refine At.ev (ev_move rfl) rfl ?_
  refine At.ev (ev_gtr rfl rfl) rfl ?_
  refine At.nil ?_
  refine At.thenN ?_
  refine At.condD rfl ?_ ?_
  · intro h0
    refine At.seq ?_
    refine At.region ?_
    refine At.ev (ev_move rfl) rfl ?_
    refine At.ev (ev_move rfl) rfl ?_
    refine At.ev (ev_cut T.un9 rfl rfl rfl (by omega) (by omega)) rfl ?_
    refine At.ev (ev_assign rfl) rfl ?_
    refine At.nil ?_
    refine At.thenN ?_
    refine At.retC ?_
    refine At.thenR ?_
    refine At.ret (rs := [.tmp 4]) rfl (Res.tmp rfl Res.nil) ?_
    exact Imp.pur (by unfold bCut; rw [if_pos (by omega)]; rfl) (Imp.nil _)
  · intro h0
    refine At.skip ?_
    refine At.thenN ?_
    refine At.seq ?_
    refine At.region ?_
    refine At.ev (ev_move rfl) rfl ?_
    refine At.ev (ev_assign rfl) rfl ?_
    refine At.nil ?_
    refine At.thenN ?_
    refine At.retC ?_
    refine At.ret (rs := [.tmp 4]) rfl (Res.tmp rfl Res.nil) ?_
    exact Imp.pur (by unfold bCut; rw [if_neg (by omega)]; rfl) (Imp.nil _)

/-- repartee/reparteelaw30.Few -/
theorem law30_Few (ao : Option Addr) (c m : Nat) (l : List Event) (hm : m ≤ 100) : Does Try.prog 4 [.slice ao l.length c, .int .i64 m] [per (rdSl ao l)] (fun v => sl v (fewE l m)) := by
  refine Does.enter Try.func4 rfl rfl ?_
  intro E
  refine At.lenb (α := Event) (xs := l) (by repeat (first | with_reducible exact Mem.head _ _ | apply Mem.tail)) ?_
  unfold big
  intro hll
  refine At.seq ?_
  refine At.region ?_
  refine At.ev (ev_assign rfl) rfl ?_
  refine At.nil ?_
  refine At.thenN ?_
  refine At.seq ?_
  refine At.region ?_
  refine At.ch (ch_bslice T.un22 T.sz33 T.zv33 rfl rfl rfl (by exact trivial) _) rfl ?_
  rintro _ _ ⟨b0, rfl, rfl⟩
  refine At.norm (b := b0) [] (by repeat (first | with_reducible exact At1.head _ _ | apply At1.tail)) (by rfl) ?_
  refine At.own0 12 (by repeat (first | with_reducible exact At1.head _ _ | apply At1.tail)) ?_
  refine At.perI (φ := relLP (fewE l 0) []) (fun R => rfl) ?_
  refine At.ev (ev_assign rfl) rfl ?_
  refine At.nil ?_
  refine At.thenN ?_
  refine At.seq ?_
  refine At.seq ?_
  refine At.region ?_
  refine At.ev (ev_assign rfl) rfl ?_
  refine At.nil ?_
  refine At.thenN ?_
  refine At.block ?_
  refine At.loop (ι := Nat × Value × List Value) (fun i => l.length - i.1) (fun i => [(0, .val (.slice ao l.length c)), (1, .val (.int .i64 m)), (5, .val i.2.1), (6, .val (.int .i64 i.1))]) (fun i => [Sx.pur (i.1 ≤ l.length ∧ i.1 ≤ m), Sx.per (rdSl ao l), own i.2.1 33 12 i.1 i.2.2, Sx.per (relLP (fewE l i.1) i.2.2)]) (0, .slice (some ⟨b0, 0, none⟩) 0 0, []) ⟨rfl, rfl, rfl, rfl, trivial⟩ (Imp.pur ⟨by simp, by simp⟩ (Imp.per (by repeat (first | with_reducible exact Mem.head _ _ | apply Mem.tail)) (Imp.one (by repeat (first | with_reducible exact At1.head _ _ | apply At1.tail)) (Imp.per (by repeat (first | with_reducible exact Mem.head _ _ | apply Mem.tail)) (Imp.nil _))))) ?_
  rintro ⟨k, v, cs⟩
  refine At.pur ?_
  rintro ⟨hk, hkm⟩
  refine At.seq ?_
  refine At.seq ?_
  refine At.region ?_
  refine At.ev (ev_move rfl) rfl ?_
  refine At.ev (ev_move rfl) rfl ?_
  refine At.ev (ev_lenl T.un22 rfl) rfl ?_
  refine At.ev (ev_lss rfl rfl) rfl ?_
  refine At.ev (ev_move rfl) rfl ?_
  refine At.evg rfl rfl (fun hg => (ev_move rfl)) rfl rfl ?_
  refine At.evg rfl rfl (fun hg => (ev_move rfl)) rfl rfl ?_
  refine At.evg rfl rfl (fun hg => (ev_lss rfl rfl)) rfl rfl ?_
  refine At.ev (ev_pickG rfl rfl rfl rfl) rfl ?_
  refine At.nil ?_
  refine At.thenN ?_
  refine At.cond rfl ?_ ?_
  · intro h0
    simp only [decide_eq_true_eq, decide_eq_false_iff_not, Bool.not_eq_true', Bool.not_eq_false', Bool.cond_false_right, Bool.cond_true_left, Bool.and_eq_true, Bool.or_eq_true, Bool.and_eq_false_iff, Bool.or_eq_false_iff, Bool.not_true, Bool.not_false] at h0
    refine At.get (α := Event) (by repeat (first | with_reducible exact Mem.head _ _ | apply Mem.tail)) k (by omega) 12 rfl ?_
    intro adx x cs eq hx
    cases eq
    refine openEvent (x := x) (by repeat (first | with_reducible exact Mem.head _ _ | apply Mem.tail)) ?_
    intro hox eq
    subst eq
    have hlt : k < l.length := by omega
    refine At.skip ?_
    refine At.thenN ?_
    refine At.seq ?_
    refine At.block ?_
    refine At.seq ?_
    refine At.region ?_
    refine At.ev (ev_move rfl) rfl ?_
    refine At.ev (ev_move rfl) rfl ?_
    refine At.ev (ev_ian T.un22 T.sz33 rfl rfl (by omega)) rfl ?_
    refine At.ev (ev_loadA T.ld33 rfl rfl (by (first | exact Cells.blk0 (by repeat (first | with_reducible exact Mem.head _ _ | apply Mem.tail)) | exact Cells.per0 (by repeat (first | with_reducible exact Mem.head _ _ | apply Mem.tail)) | exact Cells.pin0 (by repeat (first | with_reducible exact Mem.head _ _ | apply Mem.tail)) (by first | omega | decide | (simp at hg; omega) | (simp at hl hg; omega) | (simp at hg ⊢; omega))))) rfl ?_
    refine At.ch (ch_alloc T.zv33 _) rfl ?_
    rintro _ _ ⟨b1, rfl, rfl⟩
    refine At.ch0 (ch_storeA (n := 12) T.sz33 rfl rfl rfl (by exact ⟨rfl, rfl, rfl, rfl, rfl, rfl, rfl, rfl, rfl, rfl, rfl, rfl, trivial⟩) (by repeat (first | with_reducible exact At1.head _ _ | apply At1.tail)) rfl (by rfl) _) ?_
    rintro _ _ rfl
    refine At.nil ?_
    refine At.thenN ?_
    refine At.seq ?_
    refine At.region ?_
    refine At.ev (ev_fa T.fa33_4 rfl) rfl ?_
    refine At.ev (ev_load T.ld9 rfl (by (first | exact Cell.blk (by repeat (first | with_reducible exact Mem.head _ _ | apply Mem.tail)) rfl | exact Cell.blk0 (by repeat (first | with_reducible exact Mem.head _ _ | apply Mem.tail)) rfl | exact Cell.per (by repeat (first | with_reducible exact Mem.head _ _ | apply Mem.tail)) rfl | exact Cell.per0 (by repeat (first | with_reducible exact Mem.head _ _ | apply Mem.tail)) rfl | exact Cell.pin (by repeat (first | with_reducible exact Mem.head _ _ | apply Mem.tail)) (by first | omega | decide | (simp at hg; omega) | (simp at hl hg; omega) | (simp at hg ⊢; omega)) rfl | exact Cell.pin0 (by repeat (first | with_reducible exact Mem.head _ _ | apply Mem.tail)) (by first | omega | decide | (simp at hg; omega) | (simp at hl hg; omega) | (simp at hg ⊢; omega)) rfl))) rfl ?_
    refine At.callq (goes_func cf9 rfl) (Qc.pure (law02_Cut _ _)) rfl ?_
    refine At.ev (ev_fa T.fa33_4 rfl) rfl ?_
    refine At.norm (b := b1) x.cs (by repeat (first | with_reducible exact At1.head _ _ | apply At1.tail)) (by rfl) ?_
    refine At.ch0 (ch_store1 T.sz9 rfl rfl (add_lit _ _ _) rfl rfl (by repeat (first | with_reducible exact At1.head _ _ | apply At1.tail)) (by rfl) _) ?_
    rintro _ _ rfl
    refine At.nil ?_
    refine At.thenN ?_
    refine At.region ?_
    refine At.norm (b := b1) x.few.cs (by repeat (first | with_reducible exact At1.head _ _ | apply At1.tail)) (by rfl) ?_
    refine At.ev (ev_move rfl) rfl ?_
    refine At.ev (ev_loadA T.ld33 rfl rfl (by (first | exact Cells.blk0 (by repeat (first | with_reducible exact Mem.head _ _ | apply Mem.tail)) | exact Cells.per0 (by repeat (first | with_reducible exact Mem.head _ _ | apply Mem.tail)) | exact Cells.pin0 (by repeat (first | with_reducible exact Mem.head _ _ | apply Mem.tail)) (by first | omega | decide | (simp at hg; omega) | (simp at hl hg; omega) | (simp at hg ⊢; omega))))) rfl ?_
    refine At.ch (ch_bslice T.un22 T.sz33 T.zv33 rfl rfl rfl (by exact ⟨rfl, by decide, trivial⟩) _) rfl ?_
    rintro _ _ ⟨b2, rfl, rfl⟩
    refine At.norm (b := b2) x.few.cs (by repeat (first | with_reducible exact At1.head _ _ | apply At1.tail)) (by rfl) ?_
    refine At.ch (ch_append T.ti22 rfl rfl (by repeat (first | with_reducible exact At1.head _ _ | apply At1.tail)) (src_blk T.un22 (by repeat (first | with_reducible exact Mem.head _ _ | apply Mem.tail)) (by exact ⟨rfl, rfl, rfl, rfl, rfl, rfl, rfl, rfl, rfl, rfl, rfl, rfl, trivial⟩) rfl) (by omega) (by unfold maxLen; omega) _) rfl ?_
    rintro v2 _ rfl
    refine At.snoc (xs := fewE l k) x.few (fun R => Event.rel (Event.few_ok hox)) (by repeat (first | with_reducible exact Mem.head _ _ | apply Mem.tail)) ?_
    rw [← fewE_snoc hx]
    refine At.ev (ev_assign rfl) rfl ?_
    refine At.nil ?_
    refine At.blkN ?_
    refine At.thenN ?_
    refine At.region ?_
    refine At.ev (ev_move rfl) rfl ?_
    refine At.ev (ev_add rfl rfl (by omega)) rfl ?_
    refine At.ev (ev_assign rfl) rfl ?_
    refine At.nil ?_
    refine At.thenN ?_
    refine At.again (k + 1, v2, cs ++ x.few.cs) (by simp only; omega) ⟨rfl, rfl, rfl, rfl, trivial⟩ (Imp.pur (by simp only; omega) (Imp.per (by repeat (first | with_reducible exact Mem.head _ _ | apply Mem.tail)) (Imp.one (by repeat (first | with_reducible exact At1.head _ _ | apply At1.tail)) (Imp.per (by repeat (first | with_reducible exact Mem.head _ _ | apply Mem.tail)) (Imp.nil _)))))
  · intro h0
    simp only [decide_eq_true_eq, decide_eq_false_iff_not, Bool.not_eq_true', Bool.not_eq_false', Bool.cond_false_right, Bool.cond_true_left, Bool.and_eq_true, Bool.or_eq_true, Bool.and_eq_false_iff, Bool.or_eq_false_iff, Bool.not_true, Bool.not_false] at h0
    have hfe : fewE l k = fewE l m := fewE_all hk hkm (by omega)
    refine At.sealE (sz := 12) (fewE l k) rfl (by repeat (first | with_reducible exact At1.head _ _ | apply At1.tail)) (by repeat (first | with_reducible exact Mem.head _ _ | apply Mem.tail)) (by rw [fewE_len]; omega) ?_
    rintro ao2 c2 rfl hc2 _
    rw [hfe] at hc2 ⊢
    refine At.exit ?_
    refine At.thenX ?_
    refine At.thenX ?_
    refine At.blkX ?_
    refine At.thenN ?_
    refine At.seq ?_
    refine At.region ?_
    refine At.ev (ev_move rfl) rfl ?_
    refine At.ev (ev_assign rfl) rfl ?_
    refine At.nil ?_
    refine At.thenN ?_
    refine At.retC ?_
    refine At.ret (rs := [.tmp 4]) rfl (Res.tmp rfl Res.nil) ?_
    exact Imp.sl (by repeat (first | with_reducible exact Mem.head _ _ | apply Mem.tail)) (by assumption) (Imp.nil _)

/-- repartee/replay.Apart -/
theorem replay_Apart (ao bo : Option Addr) (c d : Nat) (a b : List Event) : Does Try.prog 5 [.slice ao a.length c, .slice bo b.length d] [per (rdSl ao a), per (rdSl bo b)] (fun v => pur (v = .tuple #[.int .i64 (apartE a b).1, .bool (apartE a b).2])) := by
  refine Does.enter Try.func5 rfl rfl ?_
  intro E
  refine At.lenb (α := Event) (xs := a) (by repeat (first | with_reducible exact Mem.head _ _ | apply Mem.tail)) ?_
  unfold big
  intro hla
  refine At.lenb (α := Event) (xs := b) (by repeat (first | with_reducible exact Mem.head _ _ | apply Mem.tail)) ?_
  unfold big
  intro hlb
  refine At.seq ?_
  refine At.region ?_
  refine At.ev (ev_assign rfl) rfl ?_
  refine At.ev (ev_assign rfl) rfl ?_
  refine At.nil ?_
  refine At.thenN ?_
  refine At.seq ?_
  refine At.seq ?_
  refine At.region ?_
  refine At.ev (ev_move rfl) rfl ?_
  refine At.ev (ev_lenl T.un22 rfl) rfl ?_
  refine At.ev (ev_move rfl) rfl ?_
  refine At.ev (ev_lenl T.un22 rfl) rfl ?_
  refine At.ev (ev_min rfl rfl) rfl ?_
  rw [show min (a.length : Int) b.length = ((min a.length b.length : Nat) : Int) by omega]
  refine At.ev (ev_move rfl) rfl ?_
  refine At.nil ?_
  refine At.thenN ?_
  refine At.block ?_
  refine At.loop (ι := Nat) (fun k => a.length - k) (fun k => [(0, .val (.slice ao a.length c)), (1, .val (.slice bo b.length d)), (4, .val (.int .i64 0)), (5, .val (.bool false)), (11, .val (.int .i64 ((min a.length b.length : Nat) : Int))), (12, .val (.int .i64 k))]) (fun k => [Sx.pur (k ≤ a.length ∧ k ≤ b.length ∧ a.take k = b.take k), Sx.per (rdSl ao a), Sx.per (rdSl bo b)]) 0 ⟨rfl, rfl, rfl, rfl, rfl, rfl, trivial⟩ (Imp.pur ⟨by simp, by simp, by simp⟩ (Imp.per (by repeat (first | with_reducible exact Mem.head _ _ | apply Mem.tail)) (Imp.per (by repeat (first | with_reducible exact Mem.head _ _ | apply Mem.tail)) (Imp.nil _)))) ?_
  intro k
  refine At.pur ?_
  rintro ⟨hka, hkb, hkt⟩
  refine At.seq ?_
  refine At.region ?_
  refine At.ev (ev_lss rfl rfl) rfl ?_
  refine At.nil ?_
  refine At.thenN ?_
  refine At.seq ?_
  refine At.condD rfl ?_ ?_
  · intro h0
    have hlt : k < a.length := by omega
    have hlt2 : k < b.length := by omega
    refine At.get (α := Event) (by repeat (first | with_reducible exact Mem.head _ _ | apply Mem.tail)) k hlt 12 rfl ?_
    intro adx x cs eq hx
    cases eq
    refine openEvent (x := x) (by repeat (first | with_reducible exact Mem.head _ _ | apply Mem.tail)) ?_
    intro hox eq
    subst eq
    refine At.get (α := Event) (by repeat (first | with_reducible exact Mem.head _ _ | apply Mem.tail)) k hlt2 12 rfl ?_
    intro ady y cs eq hy
    cases eq
    refine openEvent (x := y) (by repeat (first | with_reducible exact Mem.head _ _ | apply Mem.tail)) ?_
    intro hoy eq
    subst eq
    refine At.skip ?_
    refine At.thenN ?_
    refine At.seq ?_
    refine At.block ?_
    refine At.seq ?_
    refine At.region ?_
    refine At.ev (ev_move rfl) rfl ?_
    refine At.ev (ev_assign rfl) rfl ?_
    refine At.nil ?_
    refine At.thenN ?_
    refine At.seq ?_
    refine At.drawH (.q0 0 (.q0 1 (.q0 2 (.q1 3 (.q0 4 (.q0 5 (.q0 6 (.q1 7 (.q0 8 (.nil)))))))))) (fun j => !([] : List Nat).contains j) mixed (by kernel_rfl) (by kernel_rfl) (NoP.thn (NoP.blk (NoP.thn (NoP.thn (NoP.blk (NoP.thn NoP.body)))))) ?_
    refine At.c0 rfl (ev_move rfl) rfl ?_
    refine At.c0 rfl (ev_move rfl) rfl ?_
    refine At.c0 rfl (ev_ian T.un22 T.sz33 rfl rfl (by omega)) rfl ?_
    refine At.c1 rfl (Imp.refl _) (ev_loadA T.ld33 rfl rfl (by (first | exact Cells.blk0 (by repeat (first | with_reducible exact Mem.head _ _ | apply Mem.tail)) | exact Cells.per0 (by repeat (first | with_reducible exact Mem.head _ _ | apply Mem.tail)) | exact Cells.pin0 (by repeat (first | with_reducible exact Mem.head _ _ | apply Mem.tail)) (by first | omega | decide | (simp at hg; omega) | (simp at hl hg; omega) | (simp at hg ⊢; omega))))) rfl ?_
    refine At.c0 rfl (ev_move rfl) rfl ?_
    refine At.c0 rfl (ev_move rfl) rfl ?_
    refine At.c0 rfl (ev_ian T.un22 T.sz33 rfl rfl (by omega)) rfl ?_
    refine At.c1 rfl (Imp.refl _) (ev_loadA T.ld33 rfl rfl (by (first | exact Cells.blk0 (by repeat (first | with_reducible exact Mem.head _ _ | apply Mem.tail)) | exact Cells.per0 (by repeat (first | with_reducible exact Mem.head _ _ | apply Mem.tail)) | exact Cells.pin0 (by repeat (first | with_reducible exact Mem.head _ _ | apply Mem.tail)) (by first | omega | decide | (simp at hg; omega) | (simp at hl hg; omega) | (simp at hg ⊢; omega))))) rfl ?_
    refine At.c0 rfl (ev_neS rfl rfl (eq_Event _ _) rfl (by kernel_rfl)) rfl ?_
    refine At.cnil ?_
    refine At.thenN ?_
    refine At.cond rfl ?_ ?_
    · intro h1
      simp only [decide_eq_true_eq, decide_eq_false_iff_not, Bool.not_eq_true', Bool.not_eq_false', Bool.cond_false_right, Bool.cond_true_left, Bool.and_eq_true, Bool.or_eq_true, Bool.and_eq_false_iff, Bool.or_eq_false_iff, Bool.not_true, Bool.not_false] at h1
      refine At.seq ?_
      refine At.region ?_
      refine At.ev (ev_move rfl) rfl ?_
      refine At.ev (ev_assign rfl) rfl ?_
      refine At.ev (ev_assign rfl) rfl ?_
      refine At.nil ?_
      refine At.thenN ?_
      refine At.retC ?_
      refine At.blkR ?_
      refine At.thenR ?_
      refine At.thenR ?_
      refine At.blkR ?_
      refine At.thenR ?_
      refine At.ret (rs := [.tmp 4, .tmp 5]) rfl (Res.tmp rfl (Res.tmp rfl Res.nil)) ?_
      exact Imp.pur (by rw [apartE, partAt_at hkt hx hy h1]; rfl) (Imp.nil _)
    · intro h1
      simp only [decide_eq_true_eq, decide_eq_false_iff_not, Bool.not_eq_true', Bool.not_eq_false', Bool.cond_false_right, Bool.cond_true_left, Bool.and_eq_true, Bool.or_eq_true, Bool.and_eq_false_iff, Bool.or_eq_false_iff, Bool.not_true, Bool.not_false] at h1
      refine At.skip ?_
      refine At.blkN ?_
      refine At.thenN ?_
      refine At.region ?_
      refine At.ev (ev_add rfl rfl (by omega)) rfl ?_
      refine At.ev (ev_move rfl) rfl ?_
      refine At.nil ?_
      refine At.thenN ?_
      refine At.again (k + 1) (by omega) ⟨rfl, rfl, rfl, rfl, rfl, rfl, trivial⟩ (Imp.pur ⟨by omega, by omega, take_snoc_eq hkt hx hy h1⟩ (Imp.per (by repeat (first | with_reducible exact Mem.head _ _ | apply Mem.tail)) (Imp.per (by repeat (first | with_reducible exact Mem.head _ _ | apply Mem.tail)) (Imp.nil _))))
  · intro h0
    refine At.exit ?_
    refine At.thenX ?_
    refine At.thenX ?_
    refine At.blkX ?_
    refine At.thenN ?_
    refine At.seq ?_
    refine At.seq ?_
    refine At.region ?_
    refine At.ev (ev_move rfl) rfl ?_
    refine At.ev (ev_lenl T.un22 rfl) rfl ?_
    refine At.ev (ev_move rfl) rfl ?_
    refine At.ev (ev_lenl T.un22 rfl) rfl ?_
    refine At.ev (ev_eqi rfl rfl) rfl ?_
    refine At.nil ?_
    refine At.thenN ?_
    refine At.condD rfl ?_ ?_
    · intro h2
      refine At.seq ?_
      refine At.region ?_
      refine At.ev (ev_assign rfl) rfl ?_
      refine At.ev (ev_assign rfl) rfl ?_
      refine At.nil ?_
      refine At.thenN ?_
      refine At.retC ?_
      refine At.thenR ?_
      refine At.ret (rs := [.tmp 4, .tmp 5]) rfl (Res.tmp rfl (Res.tmp rfl Res.nil)) ?_
      exact Imp.pur (by rw [apartE, partAt_eq.2 (by rw [← List.take_of_length_le (i := k) (l := a) (by omega), hkt, List.take_of_length_le (by omega)])]; rfl) (Imp.nil _)
    · intro h2
      refine At.skip ?_
      refine At.thenN ?_
      refine At.seq ?_
      refine At.region ?_
      refine At.ev (ev_move rfl) rfl ?_
      refine At.ev (ev_lenl T.un22 rfl) rfl ?_
      refine At.ev (ev_move rfl) rfl ?_
      refine At.ev (ev_lenl T.un22 rfl) rfl ?_
      refine At.ev (ev_min rfl rfl) rfl ?_
      refine At.ev (ev_assign rfl) rfl ?_
      refine At.ev (ev_assign rfl) rfl ?_
      refine At.nil ?_
      refine At.thenN ?_
      refine At.retC ?_
      refine At.ret (rs := [.tmp 4, .tmp 5]) rfl (Res.tmp rfl (Res.tmp rfl Res.nil)) ?_
      exact Imp.pur (by rw [apartE, partAt_end hkt (by omega) (by omega), show min (a.length : Int) b.length = k by omega]; rfl) (Imp.nil _)

/-- repartee/reparteeref29.Same -/
theorem ref29_Same (ao bo : Option Addr) (c d : Nat) (a b : List Event) : Does Try.prog 7 [.slice ao a.length c, .slice bo b.length d] [per (rdSl ao a), per (rdSl bo b)] (fun v => pur (v = .bool (decide (a = b)))) := by
  refine Does.enter Try.func7 rfl rfl ?_
  intro E
  refine At.lenb (α := Event) (xs := a) (by repeat (first | with_reducible exact Mem.head _ _ | apply Mem.tail)) ?_
  unfold big
  intro hla
  refine At.lenb (α := Event) (xs := b) (by repeat (first | with_reducible exact Mem.head _ _ | apply Mem.tail)) ?_
  unfold big
  intro hlb
  refine At.seq ?_
  refine At.region ?_
  refine At.ev (ev_assign rfl) rfl ?_
  refine At.nil ?_
  refine At.thenN ?_
  refine At.seq ?_
  refine At.seq ?_
  refine At.region ?_
  refine At.ev (ev_move rfl) rfl ?_
  refine At.ev (ev_lenl T.un22 rfl) rfl ?_
  refine At.ev (ev_move rfl) rfl ?_
  refine At.ev (ev_lenl T.un22 rfl) rfl ?_
  refine At.ev (ev_nei rfl rfl) rfl ?_
  refine At.nil ?_
  refine At.thenN ?_
  refine At.condDn rfl ?_ ?_
  · intro h0
    refine At.seq ?_
    refine At.region ?_
    refine At.ev (ev_assign rfl) rfl ?_
    refine At.nil ?_
    refine At.thenN ?_
    refine At.retC ?_
    refine At.thenR ?_
    refine At.ret (rs := [.tmp 4]) rfl (Res.tmp rfl Res.nil) ?_
    exact Imp.pur (by rw [show decide (a = b) = false from decide_eq_false (fun e => h0 (by rw [e]))]; rfl) (Imp.nil _)
  · intro h0
    refine At.skip ?_
    refine At.thenN ?_
    refine At.seq ?_
    refine At.seq ?_
    refine At.region ?_
    refine At.ev (ev_assign rfl) rfl ?_
    refine At.nil ?_
    refine At.thenN ?_
    refine At.block ?_
    refine At.loop (ι := Nat) (fun k => a.length - k) (fun k => [(0, .val (.slice ao a.length c)), (1, .val (.slice bo b.length d)), (4, .val (.bool false)), (5, .val (.int .i64 k))]) (fun k => [Sx.pur (k ≤ a.length ∧ k ≤ b.length ∧ a.take k = b.take k), Sx.per (rdSl ao a), Sx.per (rdSl bo b)]) 0 ⟨rfl, rfl, rfl, rfl, trivial⟩ (Imp.pur ⟨by simp, by simp, by simp⟩ (Imp.per (by repeat (first | with_reducible exact Mem.head _ _ | apply Mem.tail)) (Imp.per (by repeat (first | with_reducible exact Mem.head _ _ | apply Mem.tail)) (Imp.nil _)))) ?_
    intro k
    refine At.pur ?_
    rintro ⟨hka, hkb, hkt⟩
    refine At.seq ?_
    refine At.seq ?_
    refine At.region ?_
    refine At.ev (ev_move rfl) rfl ?_
    refine At.ev (ev_move rfl) rfl ?_
    refine At.ev (ev_lenl T.un22 rfl) rfl ?_
    refine At.ev (ev_lss rfl rfl) rfl ?_
    refine At.nil ?_
    refine At.thenN ?_
    refine At.condD rfl ?_ ?_
    · intro h1
      have hlt : k < a.length := by omega
      have hlt2 : k < b.length := by omega
      refine At.get (α := Event) (by repeat (first | with_reducible exact Mem.head _ _ | apply Mem.tail)) k hlt 12 rfl ?_
      intro adx x cs eq hx
      cases eq
      refine openEvent (x := x) (by repeat (first | with_reducible exact Mem.head _ _ | apply Mem.tail)) ?_
      intro hox eq
      subst eq
      refine At.get (α := Event) (by repeat (first | with_reducible exact Mem.head _ _ | apply Mem.tail)) k hlt2 12 rfl ?_
      intro ady y cs eq hy
      cases eq
      refine openEvent (x := y) (by repeat (first | with_reducible exact Mem.head _ _ | apply Mem.tail)) ?_
      intro hoy eq
      subst eq
      refine At.skip ?_
      refine At.thenN ?_
      refine At.seq ?_
      refine At.block ?_
      refine At.seq ?_
      refine At.drawH (.q0 0 (.q0 1 (.q0 2 (.q1 3 (.q0 4 (.q0 5 (.q0 6 (.q1 7 (.q0 8 (.nil)))))))))) (fun j => !([] : List Nat).contains j) mixed (by kernel_rfl) (by kernel_rfl) (NoP.thn (NoP.blk (NoP.thn (NoP.thn (NoP.blk (NoP.thn NoP.body)))))) ?_
      refine At.c0 rfl (ev_move rfl) rfl ?_
      refine At.c0 rfl (ev_move rfl) rfl ?_
      refine At.c0 rfl (ev_ian T.un22 T.sz33 rfl rfl (by omega)) rfl ?_
      refine At.c1 rfl (Imp.refl _) (ev_loadA T.ld33 rfl rfl (by (first | exact Cells.blk0 (by repeat (first | with_reducible exact Mem.head _ _ | apply Mem.tail)) | exact Cells.per0 (by repeat (first | with_reducible exact Mem.head _ _ | apply Mem.tail)) | exact Cells.pin0 (by repeat (first | with_reducible exact Mem.head _ _ | apply Mem.tail)) (by first | omega | decide | (simp at hg; omega) | (simp at hl hg; omega) | (simp at hg ⊢; omega))))) rfl ?_
      refine At.c0 rfl (ev_move rfl) rfl ?_
      refine At.c0 rfl (ev_move rfl) rfl ?_
      refine At.c0 rfl (ev_ian T.un22 T.sz33 rfl rfl (by omega)) rfl ?_
      refine At.c1 rfl (Imp.refl _) (ev_loadA T.ld33 rfl rfl (by (first | exact Cells.blk0 (by repeat (first | with_reducible exact Mem.head _ _ | apply Mem.tail)) | exact Cells.per0 (by repeat (first | with_reducible exact Mem.head _ _ | apply Mem.tail)) | exact Cells.pin0 (by repeat (first | with_reducible exact Mem.head _ _ | apply Mem.tail)) (by first | omega | decide | (simp at hg; omega) | (simp at hl hg; omega) | (simp at hg ⊢; omega))))) rfl ?_
      refine At.c0 rfl (ev_neS rfl rfl (eq_Event _ _) rfl (by kernel_rfl)) rfl ?_
      refine At.cnil ?_
      refine At.thenN ?_
      refine At.cond rfl ?_ ?_
      · intro h2
        simp only [decide_eq_true_eq, decide_eq_false_iff_not, Bool.not_eq_true', Bool.not_eq_false', Bool.cond_false_right, Bool.cond_true_left, Bool.and_eq_true, Bool.or_eq_true, Bool.and_eq_false_iff, Bool.or_eq_false_iff, Bool.not_true, Bool.not_false] at h2
        refine At.seq ?_
        refine At.region ?_
        refine At.ev (ev_assign rfl) rfl ?_
        refine At.nil ?_
        refine At.thenN ?_
        refine At.retC ?_
        refine At.blkR ?_
        refine At.thenR ?_
        refine At.thenR ?_
        refine At.blkR ?_
        refine At.thenR ?_
        refine At.ret (rs := [.tmp 4]) rfl (Res.tmp rfl Res.nil) ?_
        exact Imp.pur (by rw [show decide (a = b) = false from decide_eq_false (fun e => h2 (by subst e; rw [hx] at hy; injection hy))]; rfl) (Imp.nil _)
      · intro h2
        simp only [decide_eq_true_eq, decide_eq_false_iff_not, Bool.not_eq_true', Bool.not_eq_false', Bool.cond_false_right, Bool.cond_true_left, Bool.and_eq_true, Bool.or_eq_true, Bool.and_eq_false_iff, Bool.or_eq_false_iff, Bool.not_true, Bool.not_false] at h2
        refine At.skip ?_
        refine At.blkN ?_
        refine At.thenN ?_
        refine At.region ?_
        refine At.ev (ev_move rfl) rfl ?_
        refine At.ev (ev_add rfl rfl (by omega)) rfl ?_
        refine At.ev (ev_assign rfl) rfl ?_
        refine At.nil ?_
        refine At.thenN ?_
        refine At.again (k + 1) (by omega) ⟨rfl, rfl, rfl, rfl, trivial⟩ (Imp.pur ⟨by omega, by omega, take_snoc_eq hkt hx hy h2⟩ (Imp.per (by repeat (first | with_reducible exact Mem.head _ _ | apply Mem.tail)) (Imp.per (by repeat (first | with_reducible exact Mem.head _ _ | apply Mem.tail)) (Imp.nil _))))
    · intro h1
      refine At.exit ?_
      refine At.thenX ?_
      refine At.thenX ?_
      refine At.blkX ?_
      refine At.thenN ?_
      refine At.seq ?_
      refine At.region ?_
      refine At.ev (ev_assign rfl) rfl ?_
      refine At.nil ?_
      refine At.thenN ?_
      refine At.retC ?_
      refine At.ret (rs := [.tmp 4]) rfl (Res.tmp rfl Res.nil) ?_
      exact Imp.pur (by rw [show decide (a = b) = true from decide_eq_true (by rw [← List.take_of_length_le (i := k) (l := a) (by omega), hkt, List.take_of_length_le (by omega)])]; rfl) (Imp.nil _)

/-- repartee/reparteeref40.Apart -/
theorem ref40_Apart (ao bo : Option Addr) (c d : Nat) (a b : List Event) : Does Try.prog 6 [.slice ao a.length c, .slice bo b.length d] [per (rdSl ao a), per (rdSl bo b)] (fun v => pur (v = .int .i64 (apartR a b))) := by
  refine Does.enter Try.func6 rfl rfl ?_
  intro E
  refine At.lenb (α := Event) (xs := a) (by repeat (first | with_reducible exact Mem.head _ _ | apply Mem.tail)) ?_
  unfold big
  intro hla
  refine At.lenb (α := Event) (xs := b) (by repeat (first | with_reducible exact Mem.head _ _ | apply Mem.tail)) ?_
  unfold big
  intro hlb
  refine At.seq ?_
  refine At.region ?_
  refine At.ev (ev_assign rfl) rfl ?_
  refine At.nil ?_
  refine At.thenN ?_
  refine At.seq ?_
  refine At.seq ?_
  refine At.region ?_
  refine At.ev (ev_assign rfl) rfl ?_
  refine At.nil ?_
  refine At.thenN ?_
  refine At.block ?_
  refine At.loop (ι := Nat) (fun k => a.length - k) (fun k => [(0, .val (.slice ao a.length c)), (1, .val (.slice bo b.length d)), (4, .val (.int .i64 0)), (5, .val (.int .i64 k))]) (fun k => [Sx.pur (k ≤ a.length ∧ k ≤ b.length ∧ a.take k = b.take k), Sx.per (rdSl ao a), Sx.per (rdSl bo b)]) 0 ⟨rfl, rfl, rfl, rfl, trivial⟩ (Imp.pur ⟨by simp, by simp, by simp⟩ (Imp.per (by repeat (first | with_reducible exact Mem.head _ _ | apply Mem.tail)) (Imp.per (by repeat (first | with_reducible exact Mem.head _ _ | apply Mem.tail)) (Imp.nil _)))) ?_
  intro k
  refine At.pur ?_
  rintro ⟨hka, hkb, hkt⟩
  refine At.seq ?_
  refine At.seq ?_
  refine At.region ?_
  refine At.ev (ev_move rfl) rfl ?_
  refine At.ev (ev_move rfl) rfl ?_
  refine At.ev (ev_lenl T.un22 rfl) rfl ?_
  refine At.ev (ev_lss rfl rfl) rfl ?_
  refine At.ev (ev_move rfl) rfl ?_
  refine At.evg rfl rfl (fun hg => (ev_move rfl)) rfl rfl ?_
  refine At.evg rfl rfl (fun hg => (ev_move rfl)) rfl rfl ?_
  refine At.evg rfl rfl (fun hg => (ev_lenl T.un22 rfl)) rfl rfl ?_
  refine At.evg rfl rfl (fun hg => (ev_lss rfl rfl)) rfl rfl ?_
  refine At.ev (ev_pickG rfl rfl rfl rfl) rfl ?_
  refine At.nil ?_
  refine At.thenN ?_
  refine At.cond rfl ?_ ?_
  · intro h0
    simp only [decide_eq_true_eq, decide_eq_false_iff_not, Bool.not_eq_true', Bool.not_eq_false', Bool.cond_false_right, Bool.cond_true_left, Bool.and_eq_true, Bool.or_eq_true, Bool.and_eq_false_iff, Bool.or_eq_false_iff, Bool.not_true, Bool.not_false] at h0
    refine At.getIf (α := Event) (by repeat (first | with_reducible exact Mem.head _ _ | apply Mem.tail)) k 12 rfl ?_
    intro adx x hIf0
    refine At.getIf (α := Event) (xs := b) (by repeat (first | with_reducible exact Mem.head _ _ | apply Mem.tail)) k 12 rfl ?_
    intro ady y hIf1
    refine At.skip ?_
    refine At.thenN ?_
    refine At.seq ?_
    refine At.block ?_
    refine At.seq ?_
    refine At.drawH (.q0 0 (.q0 1 (.q0 2 (.q0 3 (.q0 4 (.q0 5 (.q0 6 (.q0 7 (.q0 8 (.q0 9 (.q0 10 (.q0 11 (.q0 12 (.q0 13 (.q1 14 (.q0 15 (.q0 16 (.q0 17 (.q1 18 (.q0 19 (.q0 20 (.nil)))))))))))))))))))))) (fun j => !([] : List Nat).contains j) mixed (by kernel_rfl) (by kernel_rfl) (NoP.thn (NoP.blk (NoP.thn (NoP.thn (NoP.blk (NoP.thn NoP.body)))))) ?_
    refine At.c0 rfl (ev_move rfl) rfl ?_
    refine At.c0 rfl (ev_move rfl) rfl ?_
    refine At.c0 rfl (ev_lenl T.un22 rfl) rfl ?_
    refine At.c0 rfl (ev_geq rfl rfl) rfl ?_
    refine At.c0 rfl (ev_move rfl) rfl ?_
    refine At.c0g rfl rfl rfl (fun hg => (ev_move rfl)) rfl rfl ?_
    refine At.c0g rfl rfl rfl (fun hg => (ev_move rfl)) rfl rfl ?_
    refine At.c0g rfl rfl rfl (fun hg => (ev_lenl T.un22 rfl)) rfl rfl ?_
    refine At.c0g rfl rfl rfl (fun hg => (ev_geq rfl rfl)) rfl rfl ?_
    refine At.c0 rfl (ev_pickG rfl rfl rfl rfl) rfl ?_
    refine At.c0 rfl (ev_move rfl) rfl ?_
    refine At.c0g rfl rfl rfl (fun hg => (ev_move rfl)) rfl rfl ?_
    refine At.c0g rfl rfl rfl (fun hg => (ev_move rfl)) rfl rfl ?_
    refine At.c0g rfl rfl rfl (fun hg => (ev_ianO T.un22 T.sz33 rfl rfl (by first | rfl | exact (hIf0 (by first | omega | decide | (simp at hg; omega) | (simp at hl hg; omega) | (simp at hg ⊢; omega))).1 | exact (hIf1 (by first | omega | decide | (simp at hg; omega) | (simp at hl hg; omega) | (simp at hg ⊢; omega))).1 | exact (hIf2 (by first | omega | decide | (simp at hg; omega) | (simp at hl hg; omega) | (simp at hg ⊢; omega))).1) (by first | omega | decide | (simp at hg; omega) | (simp at hl hg; omega) | (simp at hg ⊢; omega)))) rfl rfl ?_
    refine At.c1g rfl (Imp.refl _) rfl rfl (fun hg => (ev_loadA T.ld33 rfl rfl (by (first | exact Cells.blk0 (by repeat (first | with_reducible exact Mem.head _ _ | apply Mem.tail)) | exact Cells.per0 (by repeat (first | with_reducible exact Mem.head _ _ | apply Mem.tail)) | exact Cells.pin0 (by repeat (first | with_reducible exact Mem.head _ _ | apply Mem.tail)) (by first | omega | decide | (simp at hg; omega) | (simp at hl hg; omega) | (simp at hg ⊢; omega)))))) rfl rfl ?_
    refine At.c0g rfl rfl rfl (fun hg => (ev_move rfl)) rfl rfl ?_
    refine At.c0g rfl rfl rfl (fun hg => (ev_move rfl)) rfl rfl ?_
    refine At.c0g rfl rfl rfl (fun hg => (ev_ianO T.un22 T.sz33 rfl rfl (by first | rfl | exact (hIf0 (by first | omega | decide | (simp at hg; omega) | (simp at hl hg; omega) | (simp at hg ⊢; omega))).1 | exact (hIf1 (by first | omega | decide | (simp at hg; omega) | (simp at hl hg; omega) | (simp at hg ⊢; omega))).1 | exact (hIf2 (by first | omega | decide | (simp at hg; omega) | (simp at hl hg; omega) | (simp at hg ⊢; omega))).1) (by first | omega | decide | (simp at hg; omega) | (simp at hl hg; omega) | (simp at hg ⊢; omega)))) rfl rfl ?_
    refine At.c1g rfl (Imp.refl _) rfl rfl (fun hg => (ev_loadA T.ld33 rfl rfl (by (first | exact Cells.blk0 (by repeat (first | with_reducible exact Mem.head _ _ | apply Mem.tail)) | exact Cells.per0 (by repeat (first | with_reducible exact Mem.head _ _ | apply Mem.tail)) | exact Cells.pin0 (by repeat (first | with_reducible exact Mem.head _ _ | apply Mem.tail)) (by first | omega | decide | (simp at hg; omega) | (simp at hl hg; omega) | (simp at hg ⊢; omega)))))) rfl rfl ?_
    refine At.c0g rfl rfl rfl (fun hg => (ev_neS rfl rfl (eq_Event _ _) rfl (by kernel_rfl))) rfl rfl ?_
    refine At.c0 rfl (ev_pickG rfl rfl rfl rfl) rfl ?_
    refine At.cnil ?_
    refine At.thenN ?_
    refine At.cond rfl ?_ ?_
    · intro h1
      simp only [decide_eq_true_eq, decide_eq_false_iff_not, Bool.not_eq_true', Bool.not_eq_false', Bool.cond_false_right, Bool.cond_true_left, Bool.and_eq_true, Bool.or_eq_true, Bool.and_eq_false_iff, Bool.or_eq_false_iff, Bool.not_true, Bool.not_false] at h1
      have hp : partAt a b = some k := by
        rcases h1 with h1 | h1
        · exact partAt_end hkt (by omega) (by omega)
        · by_cases hin : k < a.length ∧ k < b.length
          · exact partAt_at hkt (hIf0 hin.1).2.1 (hIf1 hin.2).2.1 h1
          · exact partAt_end hkt (by omega) (by omega)
      refine At.seq ?_
      refine At.region ?_
      refine At.ev (ev_move rfl) rfl ?_
      refine At.ev (ev_assign rfl) rfl ?_
      refine At.nil ?_
      refine At.thenN ?_
      refine At.retC ?_
      refine At.blkR ?_
      refine At.thenR ?_
      refine At.thenR ?_
      refine At.blkR ?_
      refine At.thenR ?_
      refine At.ret (rs := [.tmp 4]) rfl (Res.tmp rfl Res.nil) ?_
      exact Imp.pur (by rw [apartR, hp]; rfl) (Imp.nil _)
    · intro h1
      simp only [decide_eq_true_eq, decide_eq_false_iff_not, Bool.not_eq_true', Bool.not_eq_false', Bool.cond_false_right, Bool.cond_true_left, Bool.and_eq_true, Bool.or_eq_true, Bool.and_eq_false_iff, Bool.or_eq_false_iff, Bool.not_true, Bool.not_false] at h1
      have hx := (hIf0 (by omega)).2.1
      have hy := (hIf1 (by omega)).2.1
      refine At.skip ?_
      refine At.blkN ?_
      refine At.thenN ?_
      refine At.region ?_
      refine At.ev (ev_move rfl) rfl ?_
      refine At.ev (ev_add rfl rfl (by omega)) rfl ?_
      refine At.ev (ev_assign rfl) rfl ?_
      refine At.nil ?_
      refine At.thenN ?_
      refine At.again (k + 1) (by omega) ⟨rfl, rfl, rfl, rfl, trivial⟩ (Imp.pur ⟨by omega, by omega, take_snoc_eq hkt hx hy h1.2⟩ (Imp.per (by repeat (first | with_reducible exact Mem.head _ _ | apply Mem.tail)) (Imp.per (by repeat (first | with_reducible exact Mem.head _ _ | apply Mem.tail)) (Imp.nil _))))
  · intro h0
    simp only [decide_eq_true_eq, decide_eq_false_iff_not, Bool.not_eq_true', Bool.not_eq_false', Bool.cond_false_right, Bool.cond_true_left, Bool.and_eq_true, Bool.or_eq_true, Bool.and_eq_false_iff, Bool.or_eq_false_iff, Bool.not_true, Bool.not_false] at h0
    refine At.exit ?_
    refine At.thenX ?_
    refine At.thenX ?_
    refine At.blkX ?_
    refine At.thenN ?_
    refine At.seq ?_
    refine At.region ?_
    refine At.ev (ev_assign rfl) rfl ?_
    refine At.nil ?_
    refine At.thenN ?_
    refine At.retC ?_
    refine At.ret (rs := [.tmp 4]) rfl (Res.tmp rfl Res.nil) ?_
    exact Imp.pur (by rw [apartR, partAt_eq.2 (by rw [← List.take_of_length_le (i := k) (l := a) (by omega), hkt, List.take_of_length_le (by omega)])]; rfl) (Imp.nil _)

end Go.Proofs.Ytcgjkdfgemjidaa
