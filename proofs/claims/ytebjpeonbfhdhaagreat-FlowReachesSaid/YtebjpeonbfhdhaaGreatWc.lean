import Derived.Test.YtebjpeonbfhdhaaGreatWb
import Derived.Test.YtebjpeonbfhdhaaGreatSp6
set_option linter.unusedVariables false
set_option linter.unusedSimpArgs false
namespace Go.Proofs.YtebjpeonbfhdhaaGreat
open Go Go.Sx Go.Proofs
set_option maxRecDepth 100000
attribute [local irreducible] Go.Sx.opsW Go.Sx.cW Go.Code.wp Go.Sx.At

/-- repartee/class.Read -/
theorem class_Read (s : ByteArray) (hs : s.size ≤ big) : Does Tryz.prog 229 [.string s] [] (fun v => pur (v = .tuple #[.agg (rdEnd s).1.cs.toArray, .int .i64 (rdEnd s).2.1, .int .i64 (rdEnd s).2.2])) := by
  refine Does.enter Tryz.func229 rfl rfl ?_
  intro E
  refine At.seq ?_
  refine At.region ?_
  refine At.new T.zv249 ?_
  intro bz
  refine At.norm (b := bz) (SetD.none.cs) (by repeat (first | with_reducible exact At1.head _ _ | apply At1.tail)) (by rfl) ?_
  refine At.ev (ev_assign rfl) rfl ?_
  refine At.ev (ev_assign rfl) rfl ?_
  refine At.nil ?_
  refine At.thenN ?_
  refine At.seq ?_
  refine At.region ?_
  refine At.ev (ev_move rfl) rfl ?_
  refine At.ev (ev_build T.pl276 rfl ⟨rfl, trivial⟩ ⟨rfl, by decide, trivial⟩) rfl ?_
  refine At.boxA rfl ?_
  intro b
  refine At.norm (b := b) [.string s, .int .i64 0, .int .i64 0] (by repeat (first | with_reducible exact At1.head _ _ | apply At1.tail)) (by rfl) ?_
  refine At.ev (ev_assign rfl) rfl ?_
  refine At.nil ?_
  refine At.thenN ?_
  refine At.seq ?_
  refine At.seq ?_
  refine At.region ?_
  refine At.ev (ev_move rfl) rfl ?_
  refine At.do (goes_func cf241 rfl) (rd_whole _ _ (by assumption)) ?_
  intro _
  refine At.star ?_
  refine At.pur ?_
  rintro rfl
  refine At.new T.zv249 ?_
  intro bo
  refine At.stA T.sz249 rfl rfl rfl ?_ (cs' := (rdEnd s).1.cs)
  refine At.nil ?_
  refine At.thenN ?_
  refine At.seq ?_
  refine At.region ?_
  refine At.ev (ev_move rfl) rfl ?_
  refine At.ev (ev_nil rfl) rfl ?_
  refine At.ev (ev_fa T.fa276_2 rfl) rfl ?_
  refine At.ev (ld T.ld74 rfl) rfl ?_
  refine At.ev (ev_eqi rfl rfl) rfl ?_
  refine At.nil ?_
  refine At.thenN ?_
  refine At.condD rfl ?_ ?_
  · intro h0
    refine At.seq ?_
    refine At.draw (.q1 0 (.q0 1 (.q0 2 (.q0 3 (.q1 4 (.br 5 (.q0 6 (.q0 7 (.nil))) (.stop))))))) (fun j => !([] : List Nat).contains j) ([blk bo (rdEnd s).1.cs 249, blk b [.string s, .int .i64 (rdEnd s).2.1, .int .i64 (rdEnd s).2.2] 276]) mixed (by kernel_rfl) (by kernel_rfl) (NoP.thn (NoP.thn NoP.body)) ?_
    refine At.c1 rfl (by (repeat (first | exact Imp.nil _ | (with_reducible apply Imp.per; · repeat (first | with_reducible exact Mem.head _ _ | apply Mem.tail)) | (with_reducible apply Imp.one; · repeat (first | with_reducible exact At1.head _ _ | apply At1.tail))))) (ldA T.ld249 rfl) rfl ?_
    refine At.c0 rfl (ev_move rfl) rfl ?_
    refine At.c0 rfl (ev_nil rfl) rfl ?_
    refine At.c0 rfl (ev_fa T.fa276_1 rfl) rfl ?_
    refine At.c1 rfl (by (repeat (first | exact Imp.nil _ | (with_reducible apply Imp.per; · repeat (first | with_reducible exact Mem.head _ _ | apply Mem.tail)) | (with_reducible apply Imp.one; · repeat (first | with_reducible exact At1.head _ _ | apply At1.tail))))) (ld T.ld3 rfl) rfl ?_
    refine At.c2 rfl ?_ ?_
    · intro w0
      refine At.stA T.sz249 rfl rfl rfl ?_ (cs' := (rdEnd s).1.cs)
      refine At.nil ?_
      refine At.cn (fun _ => ?_) ?_
      · first | exact Imp.refl _ | exact fun _ _ h => h.drop | exact fun _ _ h => h.drop.drop | exact fun _ _ h => h.drop.drop.drop | exact fun _ _ h => h.drop.drop.drop.drop | (repeat (first | exact Imp.nil _ | (with_reducible apply Imp.per; · repeat (first | with_reducible exact Mem.head _ _ | apply Mem.tail)) | (with_reducible apply Imp.one; · repeat (first | with_reducible exact At1.head _ _ | apply At1.tail))))
      refine At.c0 rfl (ev_assign rfl) rfl ?_
      refine At.c0 rfl (ev_assign rfl) rfl ?_
      refine At.cnil ?_
      refine At.thenN ?_
      refine At.retC ?_
      refine At.thenR ?_
      refine At.ret (rs := [.cell 2 249, .tmp 3, .tmp 4]) rfl (Res.cell rfl (load_whole T.ld249 rfl (by repeat (first | with_reducible exact Mem.head _ _ | apply Mem.tail))) (Res.tmp rfl (Res.tmp rfl Res.nil))) ?_
      exact Imp.pur (by rw [h0]; rfl) (Imp.nil _)
    exact At.cstop
  · intro h0
    refine At.skip ?_
    refine At.thenN ?_
    refine At.seq ?_
    refine At.draw (.q0 0 (.q0 1 (.q0 2 (.q0 3 (.q1 4 (.q0 5 (.q0 6 (.q0 7 (.q1 8 (.br 9 (.q0 10 (.q0 11 (.nil))) (.stop))))))))))) (fun j => !([] : List Nat).contains j) ([blk b [.string s, .int .i64 (rdEnd s).2.1, .int .i64 (rdEnd s).2.2] 276]) mixed (by kernel_rfl) (by kernel_rfl) (NoP.thn NoP.body) ?_
    refine At.c0 rfl (ev_buildA0 T.zv249 T.un249 T.sz212) rfl ?_
    refine At.c0 rfl (ev_move rfl) rfl ?_
    refine At.c0 rfl (ev_nil rfl) rfl ?_
    refine At.c0 rfl (ev_fa T.fa276_1 rfl) rfl ?_
    refine At.c1 rfl (by (repeat (first | exact Imp.nil _ | (with_reducible apply Imp.per; · repeat (first | with_reducible exact Mem.head _ _ | apply Mem.tail)) | (with_reducible apply Imp.one; · repeat (first | with_reducible exact At1.head _ _ | apply At1.tail))))) (ld T.ld3 rfl) rfl ?_
    refine At.c0 rfl (ev_move rfl) rfl ?_
    refine At.c0 rfl (ev_nil rfl) rfl ?_
    refine At.c0 rfl (ev_fa T.fa276_2 rfl) rfl ?_
    refine At.c1 rfl (by (repeat (first | exact Imp.nil _ | (with_reducible apply Imp.per; · repeat (first | with_reducible exact Mem.head _ _ | apply Mem.tail)) | (with_reducible apply Imp.one; · repeat (first | with_reducible exact At1.head _ _ | apply At1.tail))))) (ld T.ld74 rfl) rfl ?_
    refine At.c2 rfl ?_ ?_
    · intro w0
      refine At.stA T.sz249 rfl rfl rfl ?_ (cs' := SetD.none.cs)
      refine At.nil ?_
      refine At.cn (fun _ => ?_) ?_
      · first | exact Imp.refl _ | exact fun _ _ h => h.drop | exact fun _ _ h => h.drop.drop | exact fun _ _ h => h.drop.drop.drop | exact fun _ _ h => h.drop.drop.drop.drop | (repeat (first | exact Imp.nil _ | (with_reducible apply Imp.per; · repeat (first | with_reducible exact Mem.head _ _ | apply Mem.tail)) | (with_reducible apply Imp.one; · repeat (first | with_reducible exact At1.head _ _ | apply At1.tail))))
      refine At.c0 rfl (ev_assign rfl) rfl ?_
      refine At.c0 rfl (ev_assign rfl) rfl ?_
      refine At.cnil ?_
      refine At.thenN ?_
      refine At.retC ?_
      refine At.ret (rs := [.cell 2 249, .tmp 3, .tmp 4]) rfl (Res.cell rfl (load_whole T.ld249 rfl (by repeat (first | with_reducible exact Mem.head _ _ | apply Mem.tail))) (Res.tmp rfl (Res.tmp rfl Res.nil))) ?_
      exact Imp.pur (by rw [rdEnd_none h0]; rfl) (Imp.nil _)
    exact At.cstop

/-- repartee/glob.single -/
theorem glob_single (b : Int) (h0 : 0 ≤ b) (h1 : b ≤ 255) : Does Tryz.prog 230 [.int .u8 b] [] (fun v => pur (v = .agg (spanS b b).cs.toArray)) := by
  refine Does.enter Tryz.func230 rfl rfl ?_
  intro E
  refine At.seq ?_
  refine At.region ?_
  refine At.new T.zv249 ?_
  intro b0
  refine At.nil ?_
  refine At.thenN ?_
  refine At.seq ?_
  refine At.region ?_
  refine At.ev (ev_move rfl) rfl ?_
  refine At.ev (ev_move rfl) rfl ?_
  refine At.callq (goes_func cf228 rfl) (Qc.pure (class_Span _ _ (by omega) (by omega) (by omega) (by omega))) rfl ?_
  refine At.stA T.sz249 rfl rfl rfl ?_
  refine At.nil ?_
  refine At.thenN ?_
  refine At.retC ?_
  refine At.ret (rs := [.cell 2 249]) rfl (Res.cell rfl (load_whole T.ld249 rfl (by repeat (first | with_reducible exact Mem.head _ _ | apply Mem.tail))) Res.nil) ?_
  exact Imp.pur rfl (Imp.nil _)

/-- repartee/glob.item -/
theorem glob_item (p : ByteArray) (hs : p.size ≤ big) (hp : 0 < p.size) : Does Tryz.prog 219 [.string p] [] (fun v => pur (v = .tuple #[.agg (itemP p).1.cs.toArray, .int .i64 (itemP p).2.1, .int .i64 (itemP p).2.2])) := by
  refine Does.enter Tryz.func219 rfl rfl ?_
  intro E
  have b0 := bt_range p 0
  have b1 := bt_range p 1
  refine At.seq ?_
  refine At.region ?_
  refine At.new T.zv251 ?_
  intro bz
  refine At.ev (ev_assign rfl) rfl ?_
  refine At.ev (ev_assign rfl) rfl ?_
  refine At.nil ?_
  refine At.thenN ?_
  refine At.seq ?_
  refine At.seq ?_
  refine At.region ?_
  refine At.ev (ev_move rfl) rfl ?_
  refine At.ev (ev_ix T.un9 rfl rfl (by omega) (by omega)) rfl ?_
  refine At.nil ?_
  refine At.thenN ?_
  refine At.block ?_
  refine At.seq ?_
  refine At.region ?_
  refine At.ev (ev_eqi rfl rfl) rfl ?_
  refine At.ev (ev_assign rfl) rfl ?_
  refine At.nil ?_
  refine At.thenN ?_
  refine At.cond rfl ?_ ?_
  · intro h0
    try simp only [decide_eq_true_eq, decide_eq_false_iff_not, Bool.not_eq_true', Bool.not_eq_false', Bool.cond_false_right, Bool.cond_true_left, Bool.and_eq_true, Bool.or_eq_true, Bool.and_eq_false_iff, Bool.or_eq_false_iff, Bool.not_true, Bool.not_false] at h0
    have hr : itemP p = (⟨true, SetD.none⟩, 1, 0) := by unfold itemP; rw [if_pos h0]
    refine At.seq ?_
    refine At.region ?_
    refine At.ev (ev_build T.pl251 rfl ⟨rfl, trivial⟩ ⟨rfl, by decide, trivial⟩) rfl ?_
    refine At.stA T.sz251 rfl rfl rfl ?_ (cs' := (⟨true, SetD.none⟩ : Item).cs)
    refine At.ev (ev_assign rfl) rfl ?_
    refine At.ev (ev_assign rfl) rfl ?_
    refine At.nil ?_
    refine At.thenN ?_
    refine At.retC ?_
    refine At.blkR ?_
    refine At.thenR ?_
    refine At.ret (rs := [.cell 2 251, .tmp 3, .tmp 4]) rfl (Res.cell rfl (load_whole T.ld251 rfl (by repeat (first | with_reducible exact Mem.head _ _ | apply Mem.tail))) (Res.tmp rfl (Res.tmp rfl Res.nil))) ?_
    exact Imp.pur (by rw [hr]; rfl) (Imp.nil _)
  · intro h0
    try simp only [decide_eq_true_eq, decide_eq_false_iff_not, Bool.not_eq_true', Bool.not_eq_false', Bool.cond_false_right, Bool.cond_true_left, Bool.and_eq_true, Bool.or_eq_true, Bool.and_eq_false_iff, Bool.or_eq_false_iff, Bool.not_true, Bool.not_false] at h0
    refine At.seq ?_
    refine At.region ?_
    refine At.ev (ev_eqi rfl rfl) rfl ?_
    refine At.ev (ev_assign rfl) rfl ?_
    refine At.nil ?_
    refine At.thenN ?_
    refine At.cond rfl ?_ ?_
    · intro h1
      try simp only [decide_eq_true_eq, decide_eq_false_iff_not, Bool.not_eq_true', Bool.not_eq_false', Bool.cond_false_right, Bool.cond_true_left, Bool.and_eq_true, Bool.or_eq_true, Bool.and_eq_false_iff, Bool.or_eq_false_iff, Bool.not_true, Bool.not_false] at h1
      have hr : itemP p = (⟨false, spanS 0 255⟩, 1, 0) := by unfold itemP; rw [if_neg h0, if_pos h1]
      refine At.seq ?_
      refine At.region ?_
      refine At.callq (goes_func cf228 rfl) (Qc.pure (class_Span _ _ (by omega) (by omega) (by omega) (by omega))) rfl ?_
      refine At.ev (ev_build T.pl251 rfl ⟨rfl, trivial⟩ ⟨rfl, by decide, trivial⟩) rfl ?_
      refine At.stA T.sz251 rfl rfl rfl ?_ (cs' := (⟨false, spanS 0 255⟩ : Item).cs)
      refine At.ev (ev_assign rfl) rfl ?_
      refine At.ev (ev_assign rfl) rfl ?_
      refine At.nil ?_
      refine At.thenN ?_
      refine At.retC ?_
      refine At.blkR ?_
      refine At.thenR ?_
      refine At.ret (rs := [.cell 2 251, .tmp 3, .tmp 4]) rfl (Res.cell rfl (load_whole T.ld251 rfl (by repeat (first | with_reducible exact Mem.head _ _ | apply Mem.tail))) (Res.tmp rfl (Res.tmp rfl Res.nil))) ?_
      exact Imp.pur (by rw [hr]; rfl) (Imp.nil _)
    · intro h1
      try simp only [decide_eq_true_eq, decide_eq_false_iff_not, Bool.not_eq_true', Bool.not_eq_false', Bool.cond_false_right, Bool.cond_true_left, Bool.and_eq_true, Bool.or_eq_true, Bool.and_eq_false_iff, Bool.or_eq_false_iff, Bool.not_true, Bool.not_false] at h1
      refine At.seq ?_
      refine At.region ?_
      refine At.ev (ev_eqi rfl rfl) rfl ?_
      refine At.ev (ev_assign rfl) rfl ?_
      refine At.nil ?_
      refine At.thenN ?_
      refine At.cond rfl ?_ ?_
      · intro h2
        try simp only [decide_eq_true_eq, decide_eq_false_iff_not, Bool.not_eq_true', Bool.not_eq_false', Bool.cond_false_right, Bool.cond_true_left, Bool.and_eq_true, Bool.or_eq_true, Bool.and_eq_false_iff, Bool.or_eq_false_iff, Bool.not_true, Bool.not_false] at h2
        have hr : itemP p = (⟨false, (rdEnd p).1⟩, (rdEnd p).2.1, (rdEnd p).2.2) := by unfold itemP; rw [if_neg h0, if_neg h1, if_pos h2]
        refine At.seq ?_
        refine At.region ?_
        refine At.ev (ev_move rfl) rfl ?_
        refine At.callq (goes_func cf229 rfl) (Qc.pure (class_Read _ (by assumption))) rfl ?_
        refine At.ev (ev_move rfl) rfl ?_
        refine At.ev (ev_ext rfl rfl) rfl ?_
        refine At.ev (ev_ext rfl rfl) rfl ?_
        refine At.ev (ev_ext rfl rfl) rfl ?_
        refine At.new T.zv249 ?_
        intro bs
        refine At.stA T.sz249 rfl rfl rfl ?_ (cs' := (rdEnd p).1.cs)
        refine At.ev (ev_assign rfl) rfl ?_
        refine At.ev (ev_assign rfl) rfl ?_
        refine At.nil ?_
        refine At.thenN ?_
        refine At.seq ?_
        refine At.region ?_
        refine At.ev (ldA T.ld249 rfl) rfl ?_
        refine At.ev (ev_build T.pl251 rfl ⟨rfl, trivial⟩ ⟨rfl, by decide, trivial⟩) rfl ?_
        refine At.ev (ev_move rfl) rfl ?_
        refine At.ev (ev_move rfl) rfl ?_
        refine At.stA T.sz251 rfl rfl rfl ?_ (cs' := (⟨false, (rdEnd p).1⟩ : Item).cs)
        refine At.ev (ev_assign rfl) rfl ?_
        refine At.ev (ev_assign rfl) rfl ?_
        refine At.nil ?_
        refine At.thenN ?_
        refine At.retC ?_
        refine At.blkR ?_
        refine At.thenR ?_
        refine At.ret (rs := [.cell 2 251, .tmp 3, .tmp 4]) rfl (Res.cell rfl (load_whole T.ld251 rfl (by repeat (first | with_reducible exact Mem.head _ _ | apply Mem.tail))) (Res.tmp rfl (Res.tmp rfl Res.nil))) ?_
        exact Imp.pur (by rw [hr]; rfl) (Imp.nil _)
      · intro h2
        try simp only [decide_eq_true_eq, decide_eq_false_iff_not, Bool.not_eq_true', Bool.not_eq_false', Bool.cond_false_right, Bool.cond_true_left, Bool.and_eq_true, Bool.or_eq_true, Bool.and_eq_false_iff, Bool.or_eq_false_iff, Bool.not_true, Bool.not_false] at h2
        refine At.seq ?_
        refine At.region ?_
        refine At.ev (ev_eqi rfl rfl) rfl ?_
        refine At.ev (ev_assign rfl) rfl ?_
        refine At.nil ?_
        refine At.thenN ?_
        refine At.cond rfl ?_ ?_
        · intro h3
          try simp only [decide_eq_true_eq, decide_eq_false_iff_not, Bool.not_eq_true', Bool.not_eq_false', Bool.cond_false_right, Bool.cond_true_left, Bool.and_eq_true, Bool.or_eq_true, Bool.and_eq_false_iff, Bool.or_eq_false_iff, Bool.not_true, Bool.not_false] at h3
          have hr : itemP p = (⟨false, SetD.none⟩, 0, 2) := by unfold itemP; rw [if_neg h0, if_neg h1, if_neg h2, if_pos h3]
          refine At.seq ?_
          refine At.region ?_
          refine At.ev (ev_build T.pl251 rfl trivial trivial) rfl ?_
          refine At.stA T.sz251 rfl rfl rfl ?_ (cs' := (⟨false, SetD.none⟩ : Item).cs)
          refine At.ev (ev_assign rfl) rfl ?_
          refine At.ev (ev_assign rfl) rfl ?_
          refine At.nil ?_
          refine At.thenN ?_
          refine At.retC ?_
          refine At.blkR ?_
          refine At.thenR ?_
          refine At.ret (rs := [.cell 2 251, .tmp 3, .tmp 4]) rfl (Res.cell rfl (load_whole T.ld251 rfl (by repeat (first | with_reducible exact Mem.head _ _ | apply Mem.tail))) (Res.tmp rfl (Res.tmp rfl Res.nil))) ?_
          exact Imp.pur (by rw [hr]; rfl) (Imp.nil _)
        · intro h3
          try simp only [decide_eq_true_eq, decide_eq_false_iff_not, Bool.not_eq_true', Bool.not_eq_false', Bool.cond_false_right, Bool.cond_true_left, Bool.and_eq_true, Bool.or_eq_true, Bool.and_eq_false_iff, Bool.or_eq_false_iff, Bool.not_true, Bool.not_false] at h3
          refine At.seq ?_
          refine At.region ?_
          refine At.ev (ev_eqi rfl rfl) rfl ?_
          refine At.ev (ev_assign rfl) rfl ?_
          refine At.nil ?_
          refine At.thenN ?_
          refine At.cond rfl ?_ ?_
          · intro h4
            try simp only [decide_eq_true_eq, decide_eq_false_iff_not, Bool.not_eq_true', Bool.not_eq_false', Bool.cond_false_right, Bool.cond_true_left, Bool.and_eq_true, Bool.or_eq_true, Bool.and_eq_false_iff, Bool.or_eq_false_iff, Bool.not_true, Bool.not_false] at h4
            refine At.seq ?_
            refine At.seq ?_
            refine At.region ?_
            refine At.ev (ev_move rfl) rfl ?_
            refine At.ev (ev_lens T.un9 rfl) rfl ?_
            refine At.ev (ev_eqi rfl rfl) rfl ?_
            refine At.nil ?_
            refine At.thenN ?_
            refine At.condD rfl ?_ ?_
            · intro h5
              have hr : itemP p = (⟨false, SetD.none⟩, 1, 3) := by unfold itemP; rw [if_neg h0, if_neg h1, if_neg h2, if_neg h3, if_pos h4, if_pos h5]
              refine At.seq ?_
              refine At.region ?_
              refine At.ev (ev_build T.pl251 rfl trivial trivial) rfl ?_
              refine At.stA T.sz251 rfl rfl rfl ?_ (cs' := (⟨false, SetD.none⟩ : Item).cs)
              refine At.ev (ev_assign rfl) rfl ?_
              refine At.ev (ev_assign rfl) rfl ?_
              refine At.nil ?_
              refine At.thenN ?_
              refine At.retC ?_
              refine At.thenR ?_
              refine At.blkR ?_
              refine At.thenR ?_
              refine At.ret (rs := [.cell 2 251, .tmp 3, .tmp 4]) rfl (Res.cell rfl (load_whole T.ld251 rfl (by repeat (first | with_reducible exact Mem.head _ _ | apply Mem.tail))) (Res.tmp rfl (Res.tmp rfl Res.nil))) ?_
              exact Imp.pur (by rw [hr]; rfl) (Imp.nil _)
            · intro h5
              have hr : itemP p = (⟨false, spanS (bt p 1) (bt p 1)⟩, 2, 0) := by unfold itemP; rw [if_neg h0, if_neg h1, if_neg h2, if_neg h3, if_pos h4, if_neg h5]
              refine At.skip ?_
              refine At.thenN ?_
              refine At.seq ?_
              refine At.region ?_
              refine At.ev (ev_move rfl) rfl ?_
              refine At.ev (ev_ix T.un9 rfl rfl (by omega) (by omega)) rfl ?_
              refine At.callq (goes_func cf230 rfl) (Qc.pure (glob_single _ (by omega) (by omega))) rfl ?_
              refine At.ev (ev_build T.pl251 rfl ⟨rfl, trivial⟩ ⟨rfl, by decide, trivial⟩) rfl ?_
              refine At.stA T.sz251 rfl rfl rfl ?_ (cs' := (⟨false, spanS (bt p 1) (bt p 1)⟩ : Item).cs)
              refine At.ev (ev_assign rfl) rfl ?_
              refine At.ev (ev_assign rfl) rfl ?_
              refine At.nil ?_
              refine At.thenN ?_
              refine At.retC ?_
              refine At.blkR ?_
              refine At.thenR ?_
              refine At.ret (rs := [.cell 2 251, .tmp 3, .tmp 4]) rfl (Res.cell rfl (load_whole T.ld251 rfl (by repeat (first | with_reducible exact Mem.head _ _ | apply Mem.tail))) (Res.tmp rfl (Res.tmp rfl Res.nil))) ?_
              exact Imp.pur (by rw [hr]; rfl) (Imp.nil _)
          · intro h4
            try simp only [decide_eq_true_eq, decide_eq_false_iff_not, Bool.not_eq_true', Bool.not_eq_false', Bool.cond_false_right, Bool.cond_true_left, Bool.and_eq_true, Bool.or_eq_true, Bool.and_eq_false_iff, Bool.or_eq_false_iff, Bool.not_true, Bool.not_false] at h4
            have hr : itemP p = (⟨false, spanS (bt p 0) (bt p 0)⟩, 1, 0) := by unfold itemP; rw [if_neg h0, if_neg h1, if_neg h2, if_neg h3, if_neg h4]
            refine At.skip ?_
            refine At.blkN ?_
            refine At.thenN ?_
            refine At.seq ?_
            refine At.region ?_
            refine At.ev (ev_move rfl) rfl ?_
            refine At.ev (ev_ix T.un9 rfl rfl (by omega) (by omega)) rfl ?_
            refine At.callq (goes_func cf230 rfl) (Qc.pure (glob_single _ (by omega) (by omega))) rfl ?_
            refine At.ev (ev_build T.pl251 rfl ⟨rfl, trivial⟩ ⟨rfl, by decide, trivial⟩) rfl ?_
            refine At.stA T.sz251 rfl rfl rfl ?_ (cs' := (⟨false, spanS (bt p 0) (bt p 0)⟩ : Item).cs)
            refine At.ev (ev_assign rfl) rfl ?_
            refine At.ev (ev_assign rfl) rfl ?_
            refine At.nil ?_
            refine At.thenN ?_
            refine At.retC ?_
            refine At.ret (rs := [.cell 2 251, .tmp 3, .tmp 4]) rfl (Res.cell rfl (load_whole T.ld251 rfl (by repeat (first | with_reducible exact Mem.head _ _ | apply Mem.tail))) (Res.tmp rfl (Res.tmp rfl Res.nil))) ?_
            exact Imp.pur (by rw [hr]; rfl) (Imp.nil _)

/-- repartee/class.has -/
theorem class_has (s : SetD) (b : Int) (h0 : 0 ≤ b) (h1 : b ≤ 255) : Does Tryz.prog 234 [.agg s.cs.toArray, .int .u8 b] [] (fun v => pur (v = .bool (s.has b))) := by
  refine Does.enter Tryz.func234 rfl rfl ?_
  intro E
  refine At.seq ?_
  refine At.region ?_
  refine At.boxA rfl ?_
  intro b0
  refine At.ev (ev_assign rfl) rfl ?_
  refine At.nil ?_
  refine At.thenN ?_
  refine At.seq ?_
  refine At.region ?_
  refine At.ev (ev_move rfl) rfl ?_
  refine At.ev (ev_quo8 (j := 64) rfl rfl (by omega) (by omega) (by omega)) rfl ?_
  refine At.ev (ev_iaa (n := 4) (i := b / 64) T.un249 T.sz212 rfl rfl (by omega) (by omega)) rfl ?_
  refine At.ev (ld T.ld212 rfl (hc := Cell.set4 (s := s) (by repeat (first | with_reducible exact Mem.head _ _ | apply Mem.tail)) (by omega))) rfl ?_
  refine At.ev (ev_move rfl) rfl ?_
  refine At.ev (ev_rem8 (j := 64) rfl rfl (by omega) (by omega)) rfl ?_
  refine At.ev (ev_shr64 (i := b % 64) rfl rfl (by omega) (by omega)) rfl ?_
  refine At.ev (ev_and64 (b := 1#64) rfl rfl) rfl ?_
  refine At.ev (ev_eq64 (b := 1#64) rfl rfl) rfl ?_
  refine At.ev (ev_assign rfl) rfl ?_
  refine At.nil ?_
  refine At.thenN ?_
  refine At.retC ?_
  refine At.ret (rs := [.tmp 4]) rfl (Res.tmp rfl Res.nil) ?_
  exact Imp.pur (congrArg Value.bool (SetD.has_eq _ _)) (Imp.nil _)

/-- repartee/class.Has -/
theorem class_Has (s : SetD) (b : Int) (h0 : 0 ≤ b) (h1 : b ≤ 255) : Does Tryz.prog 222 [.agg s.cs.toArray, .int .u8 b] [] (fun v => pur (v = .bool (s.has b))) := by
  refine Does.enter Tryz.func222 rfl rfl ?_
  intro E
  refine At.seq ?_
  refine At.region ?_
  refine At.boxA rfl ?_
  intro b0
  refine At.ev (ev_assign rfl) rfl ?_
  refine At.nil ?_
  refine At.thenN ?_
  refine At.seq ?_
  refine At.region ?_
  refine At.ev (ldA T.ld249 rfl) rfl ?_
  refine At.ev (ev_move rfl) rfl ?_
  refine At.callq (goes_func cf234 rfl) (Qc.pure (class_has _ _ (by omega) (by omega))) rfl ?_
  refine At.ev (ev_assign rfl) rfl ?_
  refine At.nil ?_
  refine At.thenN ?_
  refine At.retC ?_
  refine At.ret (rs := [.tmp 4]) rfl (Res.tmp rfl Res.nil) ?_
  exact Imp.pur rfl (Imp.nil _)

/-- repartee/glob.good$1 -/
theorem glob_odd (x : Item) : Does Tryz.prog 242 [.agg x.cs.toArray] [] (fun v => pur (v = .bool ((fun x : Item => x.run && !decide (x.set = SetD.none)) x))) := by
  refine Does.enter Tryz.func242 rfl rfl ?_
  intro E
  refine At.seq ?_
  refine At.region ?_
  refine At.boxA rfl ?_
  intro b0
  refine At.ev (ev_assign rfl) rfl ?_
  refine At.nil ?_
  refine At.thenN ?_
  refine At.seq ?_
  refine At.region ?_
  refine At.ev (ev_fa T.fa251_0 rfl) rfl ?_
  refine At.ev (ld T.ld4 rfl) rfl ?_
  refine At.ev (ev_move rfl) rfl ?_
  refine At.evg rfl rfl (fun hg => (ev_fa T.fa251_1 rfl)) rfl rfl ?_
  refine At.evg rfl rfl (fun hg => (ldA (cs := x.set.cs) T.ld249 rfl (hc := Cells.blk (b := b0) (cs := x.cs) (t := 251) (k := 1) 4 (by repeat (first | with_reducible exact Mem.head _ _ | apply Mem.tail))))) rfl rfl ?_
  refine At.evg rfl rfl (fun hg => (ev_buildA0 T.zv249 T.un249 T.sz212)) rfl rfl ?_
  refine At.evg rfl rfl (fun hg => (ev_neS (us := x.set.cs) (vs := SetD.none.cs) rfl rfl (EQk.arr4 x.set SetD.none T.un249 T.un212 T.sz212) rfl (by kernel_rfl))) rfl rfl ?_
  refine At.ev (ev_pickG rfl rfl rfl rfl) rfl ?_
  refine At.ev (ev_assign rfl) rfl ?_
  refine At.nil ?_
  refine At.thenN ?_
  refine At.retC ?_
  refine At.ret (rs := [.tmp 2]) rfl (Res.tmp rfl Res.nil) ?_
  exact Imp.pur (congrArg Value.bool (by rw [Bool.eq_iff_iff]; simp []; try omega)) (Imp.nil _)

/-- repartee/lang.Empty$1 -/
theorem lang_notrun (x : Item) : Does Tryz.prog 233 [.agg x.cs.toArray] [] (fun v => pur (v = .bool (!x.run))) := by
  refine Does.enter Tryz.func233 rfl rfl ?_
  intro E
  refine At.seq ?_
  refine At.region ?_
  refine At.boxA rfl ?_
  intro b0
  refine At.ev (ev_assign rfl) rfl ?_
  refine At.nil ?_
  refine At.thenN ?_
  refine At.seq ?_
  refine At.region ?_
  refine At.ev (ev_fa T.fa251_0 rfl) rfl ?_
  refine At.ev (ld T.ld4 rfl) rfl ?_
  refine At.ev (ev_not rfl) rfl ?_
  refine At.ev (ev_assign rfl) rfl ?_
  refine At.nil ?_
  refine At.thenN ?_
  refine At.retC ?_
  refine At.ret (rs := [.tmp 2]) rfl (Res.tmp rfl Res.nil) ?_
  exact Imp.pur rfl (Imp.nil _)

/-- slices.IndexFunc[[]repartee/api.Item,repartee/api.Item] -/
theorem idxFuncI (ao : Option Addr) (c : Nat) (l : List Item) (m : Nat) (f : Item → Bool) (hcf : ∀ args w, (callFunc m args).run Tryz.prog w = .ok (.enter m args) w) (hf : ∀ x, Does Tryz.prog m [.agg (Item.cs x).toArray] [] (fun v => pur (v = .bool (f x)))) : Does Tryz.prog 243 [.slice ao l.length c, .func (.func m) #[] #[]] [per (rdSl ao l)] (fun v => pur (v = .int .i64 (idxF f l))) := by
  refine Does.enter Tryz.func243 rfl rfl ?_
  intro E
  refine At.lenb (α := Item) (xs := l) (by repeat (first | with_reducible exact Mem.head _ _ | apply Mem.tail)) ?_
  unfold big
  intro hll
  refine At.seq ?_
  refine At.region ?_
  refine At.ev (ev_assign rfl) rfl ?_
  refine At.nil ?_
  refine At.thenN ?_
  refine At.seq ?_
  refine At.seq ?_
  refine At.region ?_
  refine At.ev (ev_move rfl) rfl ?_
  refine At.ev (ev_lenl T.un223 rfl) rfl ?_
  refine At.ev (ev_move rfl) rfl ?_
  refine At.nil ?_
  refine At.thenN ?_
  refine At.block ?_
  refine At.loopF1 [(4, 5), (8, 18)] (fun (k : Nat) => l.length - k) (fun (k : Nat) => k ≤ l.length ∧ (l.take k).any f = false) (fun (k : Nat) => [(8, .val (.int .i64 k))]) (fun (k : Nat) => []) (0) (⟨by omega, rfl⟩) ⟨rfl, trivial⟩ ?_
  intro k hk
  refine At.cat0 ?_
  refine At.seq ?_
  refine At.region ?_
  refine At.ev (ev_lss rfl rfl) rfl ?_
  refine At.nil ?_
  refine At.thenN ?_
  refine At.seq ?_
  refine At.condD rfl ?_ ?_
  · intro h0
    have hlt : k < l.length := by omega
    refine At.get (α := Item) (xs := l) (by repeat (first | with_reducible exact Mem.head _ _ | apply Mem.tail)) k hlt 5 rfl ?_
    intro adx x csx eq hx
    cases eq
    refine openItem (x := x) (by repeat (first | with_reducible exact Mem.head _ _ | apply Mem.tail)) ?_
    intro hox  eq
    subst eq
    refine At.skip ?_
    refine At.thenN ?_
    refine At.seq ?_
    refine At.block ?_
    refine At.seq ?_
    refine At.region ?_
    refine At.ev (ev_move rfl) rfl ?_
    refine At.ev (ev_assign rfl) rfl ?_
    refine At.nil ?_
    refine At.thenN ?_
    refine At.seq ?_
    refine At.region ?_
    refine At.ev (ev_move rfl) rfl ?_
    refine At.ev (ev_move rfl) rfl ?_
    refine At.ev (ev_move rfl) rfl ?_
    refine At.ev (ev_ian T.un223 T.sz251 rfl rfl (by omega)) rfl ?_
    refine At.ev (ldA T.ld251 rfl) rfl ?_
    refine At.do (goes_tmp hcf rfl rfl) (hf x) ?_
    intro _
    refine At.pur ?_
    rintro rfl
    refine At.nil ?_
    refine At.thenN ?_
    refine At.cond rfl ?_ ?_
    · intro h1
      try simp only [decide_eq_true_eq, decide_eq_false_iff_not, Bool.not_eq_true', Bool.not_eq_false', Bool.cond_false_right, Bool.cond_true_left, Bool.and_eq_true, Bool.or_eq_true, Bool.and_eq_false_iff, Bool.or_eq_false_iff, Bool.not_true, Bool.not_false] at h1
      refine At.seq ?_
      refine At.region ?_
      refine At.ev (ev_move rfl) rfl ?_
      refine At.ev (ev_assign rfl) rfl ?_
      refine At.nil ?_
      refine At.thenN ?_
      refine At.retC ?_
      refine At.blkR ?_
      refine At.thenR ?_
      refine At.thenR ?_
      refine At.blkR ?_
      refine At.thenR ?_
      refine At.ret (rs := [.tmp 4]) rfl (Res.tmp rfl Res.nil) ?_
      exact Imp.pur (by rw [idxF_hit hk.2 hx h1]; rfl) (Imp.nil _)
    · intro h1
      try simp only [decide_eq_true_eq, decide_eq_false_iff_not, Bool.not_eq_true', Bool.not_eq_false', Bool.cond_false_right, Bool.cond_true_left, Bool.and_eq_true, Bool.or_eq_true, Bool.and_eq_false_iff, Bool.or_eq_false_iff, Bool.not_true, Bool.not_false] at h1
      refine At.skip ?_
      refine At.blkN ?_
      refine At.thenN ?_
      refine At.region ?_
      refine At.ev (ev_add rfl rfl (by omega)) rfl ?_
      refine At.ev (ev_move rfl) rfl ?_
      refine At.nil ?_
      refine At.thenN ?_
      refine At.againF1 (k + 1) (by omega) (⟨by omega, any_snoc hk.2 hx (by simpa using h1)⟩) ⟨rfl, trivial⟩
  · intro h0
    refine At.exit ?_
    refine At.thenX ?_
    refine At.thenX ?_
    refine At.blkX ?_
    refine At.thenN ?_
    refine At.seq ?_
    refine At.region ?_
    refine At.ev (ev_assign rfl) rfl ?_
    refine At.nil ?_
    refine At.thenN ?_
    refine At.retC ?_
    refine At.ret (rs := [.tmp 4]) rfl (Res.tmp rfl Res.nil) ?_
    have e : k = l.length := by omega
    subst e
    exact Imp.pur (by rw [idxF_miss (by simpa using hk.2)]; rfl) (Imp.nil _)

/-- slices.ContainsFunc[[]repartee/api.Item,repartee/api.Item] -/
theorem hasFuncI (ao : Option Addr) (c : Nat) (l : List Item) (m : Nat) (f : Item → Bool) (hcf : ∀ args w, (callFunc m args).run Tryz.prog w = .ok (.enter m args) w) (hf : ∀ x, Does Tryz.prog m [.agg (Item.cs x).toArray] [] (fun v => pur (v = .bool (f x)))) : Does Tryz.prog 232 [.slice ao l.length c, .func (.func m) #[] #[]] [per (rdSl ao l)] (fun v => pur (v = .bool (l.any f))) := by
  refine Does.enter Tryz.func232 rfl rfl ?_
  intro E
  refine At.seq ?_
  refine At.region ?_
  refine At.ev (ev_assign rfl) rfl ?_
  refine At.nil ?_
  refine At.thenN ?_
  refine At.seq ?_
  refine At.region ?_
  refine At.ev (ev_move rfl) rfl ?_
  refine At.ev (ev_move rfl) rfl ?_
  refine At.callq (goes_func cf243 rfl) (Qc.stay (idxFuncI _ _ _ _ f (by assumption) (by assumption))) rfl ?_
  refine At.ev (ev_geq rfl rfl) rfl ?_
  refine At.ev (ev_assign rfl) rfl ?_
  refine At.nil ?_
  refine At.thenN ?_
  refine At.retC ?_
  refine At.ret (rs := [.tmp 4]) rfl (Res.tmp rfl Res.nil) ?_
  exact Imp.pur (congrArg Value.bool (idxF_any f l)) (Imp.nil _)

/-- repartee/glob.good -/
theorem glob_good (ao : Option Addr) (c : Nat) (l : List Item) : Does Tryz.prog 231 [.slice ao l.length c] [per (rdSl ao l)] (fun v => pur (v = .bool (goodI l))) := by
  refine Does.enter Tryz.func231 rfl rfl ?_
  intro E
  refine At.seq ?_
  refine At.region ?_
  refine At.ev (ev_assign rfl) rfl ?_
  refine At.nil ?_
  refine At.thenN ?_
  refine At.seq ?_
  refine At.region ?_
  refine At.ev (ev_assign rfl) rfl ?_
  refine At.nil ?_
  refine At.thenN ?_
  refine At.seq ?_
  refine At.region ?_
  refine At.ev (ev_move rfl) rfl ?_
  refine At.ev (ev_lenl T.un223 rfl) rfl ?_
  refine At.ev (ev_leq rfl rfl) rfl ?_
  refine At.ev (ev_move rfl) rfl ?_
  refine At.evg rfl rfl (fun hg => (ev_move rfl)) rfl rfl ?_
  refine At.evg rfl rfl (fun hg => (ev_move rfl)) rfl rfl ?_
  refine At.callg rfl rfl (fun hg => goes_func cf232 rfl) (fun hg => (Qc.stay (hasFuncI _ _ _ _ (fun x : Item => x.run && !decide (x.set = SetD.none)) cf242 glob_odd))) rfl rfl ?_
  refine At.evg rfl rfl (fun hg => (ev_not rfl)) rfl rfl ?_
  refine At.ev (ev_pickG rfl rfl rfl rfl) rfl ?_
  refine At.ev (ev_assign rfl) rfl ?_
  refine At.nil ?_
  refine At.thenN ?_
  refine At.retC ?_
  refine At.ret (rs := [.tmp 2]) rfl (Res.tmp rfl Res.nil) ?_
  exact Imp.pur (congrArg Value.bool (by rw [Bool.eq_iff_iff]; simp [goodI]; try omega)) (Imp.nil _)

/-- repartee/glob.Good -/
theorem glob_Good (ao : Option Addr) (c : Nat) (l : List Item) : Does Tryz.prog 220 [.slice ao l.length c] [per (rdSl ao l)] (fun v => pur (v = .bool (goodI l))) := by
  refine Does.enter Tryz.func220 rfl rfl ?_
  intro E
  refine At.seq ?_
  refine At.region ?_
  refine At.ev (ev_assign rfl) rfl ?_
  refine At.nil ?_
  refine At.thenN ?_
  refine At.seq ?_
  refine At.region ?_
  refine At.ev (ev_move rfl) rfl ?_
  refine At.callq (goes_func cf231 rfl) (Qc.stay (glob_good _ _ _)) rfl ?_
  refine At.ev (ev_assign rfl) rfl ?_
  refine At.nil ?_
  refine At.thenN ?_
  refine At.retC ?_
  refine At.ret (rs := [.tmp 2]) rfl (Res.tmp rfl Res.nil) ?_
  exact Imp.pur rfl (Imp.nil _)

/-- repartee/lang.Empty -/
theorem lang_Empty (ao : Option Addr) (c : Nat) (l : List Item) : Does Tryz.prog 221 [.slice ao l.length c] [per (rdSl ao l)] (fun v => pur (v = .bool (l.all (·.run)))) := by
  refine Does.enter Tryz.func221 rfl rfl ?_
  intro E
  refine At.seq ?_
  refine At.region ?_
  refine At.ev (ev_assign rfl) rfl ?_
  refine At.nil ?_
  refine At.thenN ?_
  refine At.seq ?_
  refine At.region ?_
  refine At.ev (ev_move rfl) rfl ?_
  refine At.callq (goes_func cf232 rfl) (Qc.stay (hasFuncI _ _ _ _ (fun x : Item => !x.run) cf233 lang_notrun)) rfl ?_
  refine At.ev (ev_not rfl) rfl ?_
  refine At.ev (ev_assign rfl) rfl ?_
  refine At.nil ?_
  refine At.thenN ?_
  refine At.retC ?_
  refine At.ret (rs := [.tmp 2]) rfl (Res.tmp rfl Res.nil) ?_
  exact Imp.pur (congrArg Value.bool (by simp [List.all_eq_not_any_not])) (Imp.nil _)

end Go.Proofs.YtebjpeonbfhdhaaGreat
