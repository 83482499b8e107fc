import Derived.Test.YtcgjkdfgemjidaaWev
import Derived.Test.YtcgjkdfgemjidaaSp3
set_option linter.unusedVariables false
set_option linter.unusedSimpArgs false
namespace Go.Proofs.Ytcgjkdfgemjidaa
open Go Go.Sx Go.Proofs
set_option maxRecDepth 100000

/-- repartee/proj.Rounds -/
theorem proj_Rounds (ao : Option Addr) (c0 : Nat) (l : List Event) (hb : l.length ≤ 1000000) : Does Try.prog 12 [.slice ao l.length c0] [per (rdSl ao l)] (fun v => sl v (projRounds l)) := by
  refine Does.enter Try.func12 rfl rfl ?_
  intro E
  refine At.seq ?_
  refine At.region ?_
  refine At.ev (ev_assign rfl) rfl ?_
  refine At.nil ?_
  refine At.thenN ?_
  refine At.seq ?_
  refine At.region ?_
  refine At.ev (ev_assign rfl) rfl ?_
  refine At.nil ?_
  refine At.thenN ?_
  refine At.seq ?_
  refine At.seq ?_
  refine At.region ?_
  refine At.ownNil (t := 22) 1 ?_
  refine At.ev (ev_move rfl) rfl ?_
  refine At.ev (ev_lenl T.un22 rfl) rfl ?_
  refine At.ev (ev_move rfl) rfl ?_
  refine At.nil ?_
  refine At.thenN ?_
  refine At.block ?_
  refine At.loop (ι := Nat × Value × Option (Value × List Value × List Value × List (List Event) × List Event)) (fun i => l.length - i.1) (fun i => [(3, .val i.2.1), (7, .val (.slice ao l.length c0)), (8, .val (.int .i64 l.length)), (9, .val (.int .i64 i.1))])
    (fun i => match i.2.2 with
      | none => [Sx.pur (i.1 ≤ l.length ∧ prR (l.take i.1) = ([], none)), Sx.per (rdSl ao l), own i.2.1 22 1 0 []]
      | some (u, cs, ccs, d, c) => [Sx.pur (i.1 ≤ l.length ∧ prR (l.take i.1) = (d, some c) ∧ d.length ≤ i.1 ∧ c.length ≤ i.1), Sx.per (rdSl ao l), own i.2.1 22 1 (d.length + 1) (cs ++ [u]), Sx.per (relLP d cs), own u 33 12 c.length ccs, Sx.per (relLP c ccs)])
    (0, .slice none 0 0, none) ⟨rfl, rfl, rfl, rfl, trivial⟩ (Imp.pur ⟨by simp, rfl⟩ (Imp.per (by repeat (first | with_reducible exact Mem.head _ _ | apply Mem.tail)) (Imp.one (by repeat (first | with_reducible exact At1.head _ _ | apply At1.tail)) (Imp.nil _)))) ?_
  rintro ⟨k, v, o⟩
  refine At.seq ?_
  rcases o with _ | ⟨u, cs, ccs, d, c⟩
  · dsimp only
    refine At.pur ?_
    rintro ⟨hk, hp⟩
    refine At.region ?_
    refine At.ev (ev_lss rfl rfl) rfl ?_
    refine At.nil ?_
    refine At.thenN ?_
    refine At.seq ?_
    refine At.condD rfl ?_ ?_
    · intro h0
      refine At.get (α := Event) (by repeat (first | with_reducible exact Mem.head _ _ | apply Mem.tail)) k (by omega) 12 rfl ?_
      intro adx x cs eq hx
      cases eq
      refine openEvent (x := x) (by repeat (first | with_reducible exact Mem.head _ _ | apply Mem.tail)) ?_
      intro hox eq
      subst eq
      have hlt : k < l.length := by omega
      refine At.skip ?_
      refine At.thenN ?_
      refine At.seq ?_
      refine At.block ?_
      refine At.seq ?_
      refine At.region ?_
      refine At.ev (ev_ian T.un22 T.sz33 rfl rfl (by omega)) rfl ?_
      refine At.ev (ev_loadA T.ld33 rfl rfl (by (first | exact Cells.blk0 (by repeat (first | with_reducible exact Mem.head _ _ | apply Mem.tail)) | exact Cells.per0 (by repeat (first | with_reducible exact Mem.head _ _ | apply Mem.tail)) | exact Cells.pin0 (by repeat (first | with_reducible exact Mem.head _ _ | apply Mem.tail)) (by first | omega | decide | (simp at hg; omega) | (simp at hl hg; omega) | (simp at hg ⊢; omega))))) rfl ?_
      refine At.ch (ch_alloc T.zv33 _) rfl ?_
      rintro _ _ ⟨b5, rfl, rfl⟩
      refine At.ch0 (ch_storeA (n := 12) T.sz33 rfl rfl rfl (by exact ⟨rfl, rfl, rfl, rfl, rfl, rfl, rfl, rfl, rfl, rfl, rfl, rfl, trivial⟩) (by repeat (first | with_reducible exact At1.head _ _ | apply At1.tail)) rfl (by rfl) _) ?_
      rintro _ _ rfl
      refine At.nil ?_
      refine At.thenN ?_
      refine At.seq ?_
      refine At.seq ?_
      refine At.region ?_
      refine At.norm (b := b5) x.cs (by repeat (first | with_reducible exact At1.head _ _ | apply At1.tail)) (by rfl) ?_
      refine At.ev (ev_fa T.fa33_0 rfl) rfl ?_
      refine At.ev (ev_load T.ld3 rfl (by (first | exact Cell.blk (by repeat (first | with_reducible exact Mem.head _ _ | apply Mem.tail)) rfl | exact Cell.blk0 (by repeat (first | with_reducible exact Mem.head _ _ | apply Mem.tail)) rfl | exact Cell.per (by repeat (first | with_reducible exact Mem.head _ _ | apply Mem.tail)) rfl | exact Cell.per0 (by repeat (first | with_reducible exact Mem.head _ _ | apply Mem.tail)) rfl | exact Cell.pin (by repeat (first | with_reducible exact Mem.head _ _ | apply Mem.tail)) (by first | omega | decide | (simp at hg; omega) | (simp at hl hg; omega) | (simp at hg ⊢; omega)) rfl | exact Cell.pin0 (by repeat (first | with_reducible exact Mem.head _ _ | apply Mem.tail)) (by first | omega | decide | (simp at hg; omega) | (simp at hl hg; omega) | (simp at hg ⊢; omega)) rfl))) rfl ?_
      refine At.ev (ev_eqi rfl rfl) rfl ?_
      refine At.nil ?_
      refine At.thenN ?_
      refine At.condD rfl ?_ ?_
      · intro h1
        refine At.region ?_
        refine At.ev (ev_move rfl) rfl ?_
        refine At.ch (ch_bslice T.un50 T.sz22 T.zv22 rfl rfl rfl (by exact ⟨rfl, by decide, trivial⟩) _) rfl ?_
        rintro _ _ ⟨b6, rfl, rfl⟩
        refine At.norm (b := b6) [.slice none 0 0] (by repeat (first | with_reducible exact At1.head _ _ | apply At1.tail)) (by rfl) ?_
        refine At.ch (ch_append T.ti50 rfl rfl (by repeat (first | with_reducible exact At1.head _ _ | apply At1.tail)) (src_blk T.un50 (by repeat (first | with_reducible exact Mem.head _ _ | apply Mem.tail)) (by exact ⟨rfl, trivial⟩) rfl) (by omega) (by unfold maxLen; omega) _) rfl ?_
        rintro v2 _ rfl
        refine At.ownNil (t := 33) 12 ?_
        rw [show own (.slice none 0 0) 33 12 0 [] = own (.slice none 0 0) 33 12 ([] : List Event).length [] from rfl]
        have hz0 : ([] : List Event).length = 0 := rfl
        refine At.relLP_nil (α := Event) ?_
        refine At.perI (φ := relLP ([] : List (List Event)) []) (fun R => rfl) ?_
        rw [show (0 + 1 : Nat) = ([] : List (List Event)).length + 1 from rfl]
        refine At.ev (ev_assign rfl) rfl ?_
        refine At.nil ?_
        refine At.thenN ?_
        refine At.seq ?_
        refine At.region ?_
        refine At.ev (ev_move rfl) rfl ?_
        refine At.ev (ev_lenO T.un50 rfl (by repeat (first | with_reducible exact Mem.head _ _ | apply Mem.tail))) rfl ?_
        refine At.ev (ev_assign rfl) rfl ?_
        refine At.nil ?_
        refine At.thenN ?_
        refine At.seq ?_
        refine At.region ?_
        refine At.ev (ev_move rfl) rfl ?_
        refine At.ev (ev_gtr rfl rfl) rfl ?_
        refine At.nil ?_
        refine At.thenN ?_
        refine At.condD rfl ?_ ?_
        · intro h2
          refine At.ownO (t := 22) (by repeat (first | with_reducible exact At1.head _ _ | apply At1.tail)) (by omega) ?_
          intro b cap sp e hl1 hl2 hl3 hl4
          subst e
          have hcl : ([] : List Value).length = ([] : List (List Event)).length := by first | rfl | (simp at hl1 ⊢; omega) | (simp at hl1; omega) | (simp at hl1; simp [hl1])
          refine At.drawH (.q0 0 (.q0 1 (.q0 2 (.q0 3 (.q0 4 (.q0 5 (.q0 6 (.q1 7 (.q1 8 (.br 9 (.br 10 (.q0 11 (.br 12 (.nil) (.stop))) (.stop)) (.stop))))))))))) (fun j => !([10, 12] : List Nat).contains j) mixed (by kernel_rfl) (by kernel_rfl) (NoP.blk (NoP.thn (NoP.thn (NoP.blk (NoP.thn NoP.body))))) ?_
          refine At.c0 rfl (ev_move rfl) rfl ?_
          refine At.c0 rfl (ev_move rfl) rfl ?_
          refine At.c0 rfl (ev_sub rfl rfl (by omega)) rfl ?_
          refine At.c0 rfl (ev_move rfl) rfl ?_
          refine At.c0 rfl (ev_move rfl) rfl ?_
          refine At.c0 rfl (ev_sub rfl rfl (by omega)) rfl ?_
          rw [show ((([] : List (List Event)).length + 1 : Nat) : Int) - 1 = (([] : List (List Event)).length : Nat) by omega]
          refine At.c0 rfl (ev_ian T.un50 T.sz22 rfl rfl (by omega)) rfl ?_
          refine At.c1 rfl (Imp.refl _) (ev_load (v := (Value.slice none 0 0)) T.ld22 rfl (Cell.blk (by repeat (first | with_reducible exact Mem.head _ _ | apply Mem.tail)) (get_mid _ _ _ _ (by omega)))) rfl ?_
          refine At.c1 rfl (Imp.refl _) (ev_loadA T.ld33 rfl rfl (by (first | exact Cells.blk0 (by repeat (first | with_reducible exact Mem.head _ _ | apply Mem.tail)) | exact Cells.per0 (by repeat (first | with_reducible exact Mem.head _ _ | apply Mem.tail)) | exact Cells.pin0 (by repeat (first | with_reducible exact Mem.head _ _ | apply Mem.tail)) (by first | omega | decide | (simp at hg; omega) | (simp at hl hg; omega) | (simp at hg ⊢; omega))))) rfl ?_
          refine At.c2 rfl ?_ ?_
          · intro w0
            refine At.ch (ch_bslice T.un22 T.sz33 T.zv33 rfl rfl rfl (by exact ⟨rfl, by decide, trivial⟩) _) rfl ?_
            rintro _ _ ⟨b9, rfl, rfl⟩
            refine At.norm (b := b9) x.cs (by repeat (first | with_reducible exact At1.head _ _ | apply At1.tail)) (by rfl) ?_
            refine At.nil ?_
            refine At.cn (fun _ => ?_) ?_
            · first | exact Imp.refl _ | exact fun _ _ h => h.drop
            refine At.c2 rfl ?_ ?_
            · intro w0
              refine At.ch (ch_append T.ti22 rfl rfl (by repeat (first | with_reducible exact At1.head _ _ | apply At1.tail)) (src_blk T.un22 (by repeat (first | with_reducible exact Mem.head _ _ | apply Mem.tail)) (by exact ⟨rfl, rfl, rfl, rfl, rfl, rfl, rfl, rfl, rfl, rfl, rfl, rfl, trivial⟩) rfl) (by omega) (by unfold maxLen; omega) _) rfl ?_
              rintro u2 _ rfl
              refine At.snoc (xs := ([] : List Event)) x (fun R => Event.rel hox) (by repeat (first | with_reducible exact Mem.head _ _ | apply Mem.tail)) ?_
              rw [show ([] : List Event).length + 1 = (([] : List Event) ++ [x]).length by simp]
              refine At.ownV (t := 33) (by repeat (first | with_reducible exact Mem.head _ _ | apply Mem.tail)) ?_
              intro ao9 c9 e9 hc9 _
              subst e9
              refine At.nil ?_
              refine At.cn (fun h => absurd h (by decide)) ?_
              refine At.c0 rfl (ev_ian T.un50 T.sz22 rfl rfl (by omega)) rfl ?_
              refine At.c2 rfl ?_ ?_
              · intro w0
                refine At.ch0 (ch_store1p T.sz22 rfl rfl (add_lit _ _ _) rfl rfl (by repeat (first | with_reducible exact At1.head _ _ | apply At1.tail)) (by first | omega | (simp; omega) | simp) _) ?_
                rintro _ _ rfl
                refine At.nil ?_
                refine At.cn (fun h => absurd h (by decide)) ?_
                refine At.cnil ?_
                refine At.blkN ?_
                refine At.thenN ?_
                refine At.region ?_
                refine At.norm (b := b) ((([] : List Value) ++ [(Value.slice ao9 (([] : List Event) ++ [x]).length c9)]) ++ sp) (by repeat (first | with_reducible exact At1.head _ _ | apply At1.tail)) (set_mid _ _ _ _ _ (by omega)) ?_
                refine At.ownC (sz := 1) (n := ([] : List (List Event)).length + 1) (by repeat (first | with_reducible exact At1.head _ _ | apply At1.tail)) (by first | (simp at hl1 ⊢; done) | (simp at hl1 ⊢; omega)) (by first | (simp at hl2 ⊢; done) | (simp at hl2 ⊢; omega)) (by omega) hl4 ?_
                refine At.ev (ev_add rfl rfl (by omega)) rfl ?_
                refine At.ev (ev_move rfl) rfl ?_
                refine At.nil ?_
                refine At.thenN ?_
                refine At.again (k + 1, .slice (some ⟨b, 0, none⟩) (([] : List (List Event)).length + 1) cap, some ((Value.slice ao9 (([] : List Event) ++ [x]).length c9), ([] : List Value), ([] : List Value) ++ x.cs, ([] : List (List Event)), ([] : List Event) ++ [x])) (by simp only; omega) ⟨rfl, rfl, rfl, rfl, trivial⟩ (Imp.pur ⟨by simp only; omega, by rw [prR_snoc hx, hp]; simp [prStep, h1], by first | (simp; done) | (simp; omega), by first | (simp; done) | (simp; omega)⟩ (Imp.per (by repeat (first | with_reducible exact Mem.head _ _ | apply Mem.tail)) (Imp.one (by repeat (first | with_reducible exact At1.head _ _ | apply At1.tail)) (Imp.per (by repeat (first | with_reducible exact Mem.head _ _ | apply Mem.tail)) (Imp.one (by repeat (first | with_reducible exact At1.head _ _ | apply At1.tail)) (Imp.per (by repeat (first | with_reducible exact Mem.head _ _ | apply Mem.tail)) (Imp.nil _)))))))
              exact At.cstop
            exact At.cstop
          exact At.cstop
        · intro h2
          omega
      · intro h1
        refine At.skip ?_
        refine At.thenN ?_
        refine At.seq ?_
        refine At.region ?_
        refine At.ev (ev_move rfl) rfl ?_
        refine At.ev (ev_lenO T.un50 rfl (by repeat (first | with_reducible exact Mem.head _ _ | apply Mem.tail))) rfl ?_
        refine At.ev (ev_assign rfl) rfl ?_
        refine At.nil ?_
        refine At.thenN ?_
        refine At.seq ?_
        refine At.region ?_
        refine At.ev (ev_move rfl) rfl ?_
        refine At.ev (ev_gtr rfl rfl) rfl ?_
        refine At.nil ?_
        refine At.thenN ?_
        refine At.condD rfl ?_ ?_
        · intro h2
          omega
        · intro h2
          refine At.skip ?_
          refine At.blkN ?_
          refine At.thenN ?_
          refine At.region ?_
          refine At.ev (ev_add rfl rfl (by omega)) rfl ?_
          refine At.ev (ev_move rfl) rfl ?_
          refine At.nil ?_
          refine At.thenN ?_
          refine At.again (k + 1, v, none) (by simp only; omega) ⟨rfl, rfl, rfl, rfl, trivial⟩ (Imp.pur ⟨by simp only; omega, by rw [prR_snoc hx, hp]; simp [prStep, h1]⟩ (Imp.per (by repeat (first | with_reducible exact Mem.head _ _ | apply Mem.tail)) (Imp.one (by repeat (first | with_reducible exact At1.head _ _ | apply At1.tail)) (Imp.nil _))))
    · intro h0
      have hall : k = l.length := by omega
      subst hall
      rw [List.take_length] at hp
      have hr : projRounds l = [] := by rw [projRounds, hp]
      refine At.relLP_nil (α := List Event) ?_
      refine At.sealE (sz := 1) ([] : List (List Event)) rfl (by repeat (first | with_reducible exact At1.head _ _ | apply At1.tail)) (by repeat (first | with_reducible exact Mem.head _ _ | apply Mem.tail)) (by rfl) ?_
      rintro ao2 c2 rfl hc2 _
      rw [← hr] at hc2 ⊢
      refine At.exit ?_
      refine At.thenX ?_
      refine At.thenX ?_
      refine At.blkX ?_
      refine At.thenN ?_
      refine At.seq ?_
      refine At.region ?_
      refine At.ev (ev_move rfl) rfl ?_
      refine At.ev (ev_assign rfl) rfl ?_
      refine At.nil ?_
      refine At.thenN ?_
      refine At.retC ?_
      refine At.ret (rs := [.tmp 2]) rfl (Res.tmp rfl Res.nil) ?_
      exact Imp.sl (by repeat (first | with_reducible exact Mem.head _ _ | apply Mem.tail)) (by assumption) (Imp.nil _)
  · dsimp only
    refine At.pur ?_
    rintro ⟨hk, hp, hdk, hck⟩
    refine At.region ?_
    refine At.ev (ev_lss rfl rfl) rfl ?_
    refine At.nil ?_
    refine At.thenN ?_
    refine At.seq ?_
    refine At.condD rfl ?_ ?_
    · intro h0
      refine At.get (α := Event) (by repeat (first | with_reducible exact Mem.head _ _ | apply Mem.tail)) k (by omega) 12 rfl ?_
      intro adx x cs eq hx
      cases eq
      refine openEvent (x := x) (by repeat (first | with_reducible exact Mem.head _ _ | apply Mem.tail)) ?_
      intro hox eq
      subst eq
      have hlt : k < l.length := by omega
      refine At.skip ?_
      refine At.thenN ?_
      refine At.seq ?_
      refine At.block ?_
      refine At.seq ?_
      refine At.region ?_
      refine At.ev (ev_ian T.un22 T.sz33 rfl rfl (by omega)) rfl ?_
      refine At.ev (ev_loadA T.ld33 rfl rfl (by (first | exact Cells.blk0 (by repeat (first | with_reducible exact Mem.head _ _ | apply Mem.tail)) | exact Cells.per0 (by repeat (first | with_reducible exact Mem.head _ _ | apply Mem.tail)) | exact Cells.pin0 (by repeat (first | with_reducible exact Mem.head _ _ | apply Mem.tail)) (by first | omega | decide | (simp at hg; omega) | (simp at hl hg; omega) | (simp at hg ⊢; omega))))) rfl ?_
      refine At.ch (ch_alloc T.zv33 _) rfl ?_
      rintro _ _ ⟨b5, rfl, rfl⟩
      refine At.ch0 (ch_storeA (n := 12) T.sz33 rfl rfl rfl (by exact ⟨rfl, rfl, rfl, rfl, rfl, rfl, rfl, rfl, rfl, rfl, rfl, rfl, trivial⟩) (by repeat (first | with_reducible exact At1.head _ _ | apply At1.tail)) rfl (by rfl) _) ?_
      rintro _ _ rfl
      refine At.nil ?_
      refine At.thenN ?_
      refine At.seq ?_
      refine At.seq ?_
      refine At.region ?_
      refine At.norm (b := b5) x.cs (by repeat (first | with_reducible exact At1.head _ _ | apply At1.tail)) (by rfl) ?_
      refine At.ev (ev_fa T.fa33_0 rfl) rfl ?_
      refine At.ev (ev_load T.ld3 rfl (by (first | exact Cell.blk (by repeat (first | with_reducible exact Mem.head _ _ | apply Mem.tail)) rfl | exact Cell.blk0 (by repeat (first | with_reducible exact Mem.head _ _ | apply Mem.tail)) rfl | exact Cell.per (by repeat (first | with_reducible exact Mem.head _ _ | apply Mem.tail)) rfl | exact Cell.per0 (by repeat (first | with_reducible exact Mem.head _ _ | apply Mem.tail)) rfl | exact Cell.pin (by repeat (first | with_reducible exact Mem.head _ _ | apply Mem.tail)) (by first | omega | decide | (simp at hg; omega) | (simp at hl hg; omega) | (simp at hg ⊢; omega)) rfl | exact Cell.pin0 (by repeat (first | with_reducible exact Mem.head _ _ | apply Mem.tail)) (by first | omega | decide | (simp at hg; omega) | (simp at hl hg; omega) | (simp at hg ⊢; omega)) rfl))) rfl ?_
      refine At.ev (ev_eqi rfl rfl) rfl ?_
      refine At.nil ?_
      refine At.thenN ?_
      refine At.condD rfl ?_ ?_
      · intro h1
        refine At.region ?_
        refine At.sealE (sz := 12) c rfl (by repeat (first | with_reducible exact At1.head _ _ | apply At1.tail)) (by repeat (first | with_reducible exact Mem.head _ _ | apply Mem.tail)) rfl ?_
        rintro ao1 c1 rfl hc1 _
        refine At.relList (by repeat (first | with_reducible exact Mem.head _ _ | apply Mem.tail)) hc1 ?_
        refine At.snocP c (by repeat (first | with_reducible exact Mem.head _ _ | apply Mem.tail)) (by repeat (first | with_reducible exact Mem.head _ _ | apply Mem.tail)) ?_
        refine At.ev (ev_move rfl) rfl ?_
        refine At.ch (ch_bslice T.un50 T.sz22 T.zv22 rfl rfl rfl (by exact ⟨rfl, by decide, trivial⟩) _) rfl ?_
        rintro _ _ ⟨b6, rfl, rfl⟩
        refine At.norm (b := b6) [.slice none 0 0] (by repeat (first | with_reducible exact At1.head _ _ | apply At1.tail)) (by rfl) ?_
        refine At.ch (ch_append T.ti50 rfl rfl (by repeat (first | with_reducible exact At1.head _ _ | apply At1.tail)) (src_blk T.un50 (by repeat (first | with_reducible exact Mem.head _ _ | apply Mem.tail)) (by exact ⟨rfl, trivial⟩) rfl) (by omega) (by unfold maxLen; omega) _) rfl ?_
        rintro v2 _ rfl
        refine At.ownNil (t := 33) 12 ?_
        rw [show own (.slice none 0 0) 33 12 0 [] = own (.slice none 0 0) 33 12 ([] : List Event).length [] from rfl]
        have hz0 : ([] : List Event).length = 0 := rfl
        refine At.relLP_nil (α := Event) ?_
        have hz : (d ++ [c]).length = d.length + 1 := by simp
        rw [show d.length + 1 + 1 = (d ++ [c]).length + 1 by simp]
        refine At.ev (ev_assign rfl) rfl ?_
        refine At.nil ?_
        refine At.thenN ?_
        refine At.seq ?_
        refine At.region ?_
        refine At.ev (ev_move rfl) rfl ?_
        refine At.ev (ev_lenO T.un50 rfl (by repeat (first | with_reducible exact Mem.head _ _ | apply Mem.tail))) rfl ?_
        refine At.ev (ev_assign rfl) rfl ?_
        refine At.nil ?_
        refine At.thenN ?_
        refine At.seq ?_
        refine At.region ?_
        refine At.ev (ev_move rfl) rfl ?_
        refine At.ev (ev_gtr rfl rfl) rfl ?_
        refine At.nil ?_
        refine At.thenN ?_
        refine At.condD rfl ?_ ?_
        · intro h2
          refine At.ownO (t := 22) (by repeat (first | with_reducible exact At1.head _ _ | apply At1.tail)) (by omega) ?_
          intro b cap sp e hl1 hl2 hl3 hl4
          subst e
          have hcl : (cs ++ [Value.slice ao1 c.length c1]).length = (d ++ [c]).length := by first | rfl | (simp at hl1 ⊢; omega) | (simp at hl1; omega) | (simp at hl1; simp [hl1])
          refine At.drawH (.q0 0 (.q0 1 (.q0 2 (.q0 3 (.q0 4 (.q0 5 (.q0 6 (.q1 7 (.q1 8 (.br 9 (.br 10 (.q0 11 (.br 12 (.nil) (.stop))) (.stop)) (.stop))))))))))) (fun j => !([10, 12] : List Nat).contains j) mixed (by kernel_rfl) (by kernel_rfl) (NoP.blk (NoP.thn (NoP.thn (NoP.blk (NoP.thn NoP.body))))) ?_
          refine At.c0 rfl (ev_move rfl) rfl ?_
          refine At.c0 rfl (ev_move rfl) rfl ?_
          refine At.c0 rfl (ev_sub rfl rfl (by omega)) rfl ?_
          refine At.c0 rfl (ev_move rfl) rfl ?_
          refine At.c0 rfl (ev_move rfl) rfl ?_
          refine At.c0 rfl (ev_sub rfl rfl (by omega)) rfl ?_
          rw [show (((d ++ [c]).length + 1 : Nat) : Int) - 1 = ((d ++ [c]).length : Nat) by omega]
          refine At.c0 rfl (ev_ian T.un50 T.sz22 rfl rfl (by omega)) rfl ?_
          refine At.c1 rfl (Imp.refl _) (ev_load (v := (Value.slice none 0 0)) T.ld22 rfl (Cell.blk (by repeat (first | with_reducible exact Mem.head _ _ | apply Mem.tail)) (get_mid _ _ _ _ (by omega)))) rfl ?_
          refine At.c1 rfl (Imp.refl _) (ev_loadA T.ld33 rfl rfl (by (first | exact Cells.blk0 (by repeat (first | with_reducible exact Mem.head _ _ | apply Mem.tail)) | exact Cells.per0 (by repeat (first | with_reducible exact Mem.head _ _ | apply Mem.tail)) | exact Cells.pin0 (by repeat (first | with_reducible exact Mem.head _ _ | apply Mem.tail)) (by first | omega | decide | (simp at hg; omega) | (simp at hl hg; omega) | (simp at hg ⊢; omega))))) rfl ?_
          refine At.c2 rfl ?_ ?_
          · intro w0
            refine At.ch (ch_bslice T.un22 T.sz33 T.zv33 rfl rfl rfl (by exact ⟨rfl, by decide, trivial⟩) _) rfl ?_
            rintro _ _ ⟨b9, rfl, rfl⟩
            refine At.norm (b := b9) x.cs (by repeat (first | with_reducible exact At1.head _ _ | apply At1.tail)) (by rfl) ?_
            refine At.nil ?_
            refine At.cn (fun _ => ?_) ?_
            · first | exact Imp.refl _ | exact fun _ _ h => h.drop
            refine At.c2 rfl ?_ ?_
            · intro w0
              refine At.ch (ch_append T.ti22 rfl rfl (by repeat (first | with_reducible exact At1.head _ _ | apply At1.tail)) (src_blk T.un22 (by repeat (first | with_reducible exact Mem.head _ _ | apply Mem.tail)) (by exact ⟨rfl, rfl, rfl, rfl, rfl, rfl, rfl, rfl, rfl, rfl, rfl, rfl, trivial⟩) rfl) (by omega) (by unfold maxLen; omega) _) rfl ?_
              rintro u2 _ rfl
              refine At.snoc (xs := ([] : List Event)) x (fun R => Event.rel hox) (by repeat (first | with_reducible exact Mem.head _ _ | apply Mem.tail)) ?_
              rw [show ([] : List Event).length + 1 = (([] : List Event) ++ [x]).length by simp]
              refine At.ownV (t := 33) (by repeat (first | with_reducible exact Mem.head _ _ | apply Mem.tail)) ?_
              intro ao9 c9 e9 hc9 _
              subst e9
              refine At.nil ?_
              refine At.cn (fun h => absurd h (by decide)) ?_
              refine At.c0 rfl (ev_ian T.un50 T.sz22 rfl rfl (by omega)) rfl ?_
              refine At.c2 rfl ?_ ?_
              · intro w0
                refine At.ch0 (ch_store1p T.sz22 rfl rfl (add_lit _ _ _) rfl rfl (by repeat (first | with_reducible exact At1.head _ _ | apply At1.tail)) (by first | omega | (simp; omega) | simp) _) ?_
                rintro _ _ rfl
                refine At.nil ?_
                refine At.cn (fun h => absurd h (by decide)) ?_
                refine At.cnil ?_
                refine At.blkN ?_
                refine At.thenN ?_
                refine At.region ?_
                refine At.norm (b := b) (((cs ++ [Value.slice ao1 c.length c1]) ++ [(Value.slice ao9 (([] : List Event) ++ [x]).length c9)]) ++ sp) (by repeat (first | with_reducible exact At1.head _ _ | apply At1.tail)) (set_mid _ _ _ _ _ (by omega)) ?_
                refine At.ownC (sz := 1) (n := (d ++ [c]).length + 1) (by repeat (first | with_reducible exact At1.head _ _ | apply At1.tail)) (by first | (simp at hl1 ⊢; done) | (simp at hl1 ⊢; omega)) (by first | (simp at hl2 ⊢; done) | (simp at hl2 ⊢; omega)) (by omega) hl4 ?_
                refine At.ev (ev_add rfl rfl (by omega)) rfl ?_
                refine At.ev (ev_move rfl) rfl ?_
                refine At.nil ?_
                refine At.thenN ?_
                refine At.again (k + 1, .slice (some ⟨b, 0, none⟩) ((d ++ [c]).length + 1) cap, some ((Value.slice ao9 (([] : List Event) ++ [x]).length c9), (cs ++ [Value.slice ao1 c.length c1]), ([] : List Value) ++ x.cs, (d ++ [c]), ([] : List Event) ++ [x])) (by simp only; omega) ⟨rfl, rfl, rfl, rfl, trivial⟩ (Imp.pur ⟨by simp only; omega, by rw [prR_snoc hx, hp]; simp [prStep, h1], by first | (simp; done) | (simp; omega), by first | (simp; done) | (simp; omega)⟩ (Imp.per (by repeat (first | with_reducible exact Mem.head _ _ | apply Mem.tail)) (Imp.one (by repeat (first | with_reducible exact At1.head _ _ | apply At1.tail)) (Imp.per (by repeat (first | with_reducible exact Mem.head _ _ | apply Mem.tail)) (Imp.one (by repeat (first | with_reducible exact At1.head _ _ | apply At1.tail)) (Imp.per (by repeat (first | with_reducible exact Mem.head _ _ | apply Mem.tail)) (Imp.nil _)))))))
              exact At.cstop
            exact At.cstop
          exact At.cstop
        · intro h2
          omega
      · intro h1
        refine At.skip ?_
        refine At.thenN ?_
        refine At.seq ?_
        refine At.region ?_
        refine At.ev (ev_move rfl) rfl ?_
        refine At.ev (ev_lenO T.un50 rfl (by repeat (first | with_reducible exact Mem.head _ _ | apply Mem.tail))) rfl ?_
        refine At.ev (ev_assign rfl) rfl ?_
        refine At.nil ?_
        refine At.thenN ?_
        refine At.seq ?_
        refine At.region ?_
        refine At.ev (ev_move rfl) rfl ?_
        refine At.ev (ev_gtr rfl rfl) rfl ?_
        refine At.nil ?_
        refine At.thenN ?_
        refine At.condD rfl ?_ ?_
        · intro h2
          refine At.ownO (t := 22) (by repeat (first | with_reducible exact At1.head _ _ | apply At1.tail)) (by omega) ?_
          intro b cap sp e hl1 hl2 hl3 hl4
          subst e
          have hcl : cs.length = d.length := by first | rfl | (simp at hl1 ⊢; omega) | (simp at hl1; omega) | (simp at hl1; simp [hl1])
          refine At.drawH (.q0 0 (.q0 1 (.q0 2 (.q0 3 (.q0 4 (.q0 5 (.q0 6 (.q1 7 (.q1 8 (.br 9 (.br 10 (.q0 11 (.br 12 (.nil) (.stop))) (.stop)) (.stop))))))))))) (fun j => !([10, 12] : List Nat).contains j) mixed (by kernel_rfl) (by kernel_rfl) (NoP.blk (NoP.thn (NoP.thn (NoP.blk (NoP.thn NoP.body))))) ?_
          refine At.c0 rfl (ev_move rfl) rfl ?_
          refine At.c0 rfl (ev_move rfl) rfl ?_
          refine At.c0 rfl (ev_sub rfl rfl (by omega)) rfl ?_
          refine At.c0 rfl (ev_move rfl) rfl ?_
          refine At.c0 rfl (ev_move rfl) rfl ?_
          refine At.c0 rfl (ev_sub rfl rfl (by omega)) rfl ?_
          rw [show ((d.length + 1 : Nat) : Int) - 1 = (d.length : Nat) by omega]
          refine At.c0 rfl (ev_ian T.un50 T.sz22 rfl rfl (by omega)) rfl ?_
          refine At.c1 rfl (Imp.refl _) (ev_load (v := u) T.ld22 rfl (Cell.blk (by repeat (first | with_reducible exact Mem.head _ _ | apply Mem.tail)) (get_mid _ _ _ _ (by omega)))) rfl ?_
          refine At.c1 rfl (Imp.refl _) (ev_loadA T.ld33 rfl rfl (by (first | exact Cells.blk0 (by repeat (first | with_reducible exact Mem.head _ _ | apply Mem.tail)) | exact Cells.per0 (by repeat (first | with_reducible exact Mem.head _ _ | apply Mem.tail)) | exact Cells.pin0 (by repeat (first | with_reducible exact Mem.head _ _ | apply Mem.tail)) (by first | omega | decide | (simp at hg; omega) | (simp at hl hg; omega) | (simp at hg ⊢; omega))))) rfl ?_
          refine At.c2 rfl ?_ ?_
          · intro w0
            refine At.ch (ch_bslice T.un22 T.sz33 T.zv33 rfl rfl rfl (by exact ⟨rfl, by decide, trivial⟩) _) rfl ?_
            rintro _ _ ⟨b9, rfl, rfl⟩
            refine At.norm (b := b9) x.cs (by repeat (first | with_reducible exact At1.head _ _ | apply At1.tail)) (by rfl) ?_
            refine At.nil ?_
            refine At.cn (fun _ => ?_) ?_
            · first | exact Imp.refl _ | exact fun _ _ h => h.drop
            refine At.c2 rfl ?_ ?_
            · intro w0
              refine At.ch (ch_append T.ti22 rfl rfl (by repeat (first | with_reducible exact At1.head _ _ | apply At1.tail)) (src_blk T.un22 (by repeat (first | with_reducible exact Mem.head _ _ | apply Mem.tail)) (by exact ⟨rfl, rfl, rfl, rfl, rfl, rfl, rfl, rfl, rfl, rfl, rfl, rfl, trivial⟩) rfl) (by omega) (by unfold maxLen; omega) _) rfl ?_
              rintro u2 _ rfl
              refine At.snoc (xs := c) x (fun R => Event.rel hox) (by repeat (first | with_reducible exact Mem.head _ _ | apply Mem.tail)) ?_
              rw [show c.length + 1 = (c ++ [x]).length by simp]
              refine At.ownV (t := 33) (by repeat (first | with_reducible exact Mem.head _ _ | apply Mem.tail)) ?_
              intro ao9 c9 e9 hc9 _
              subst e9
              refine At.nil ?_
              refine At.cn (fun h => absurd h (by decide)) ?_
              refine At.c0 rfl (ev_ian T.un50 T.sz22 rfl rfl (by omega)) rfl ?_
              refine At.c2 rfl ?_ ?_
              · intro w0
                refine At.ch0 (ch_store1p T.sz22 rfl rfl (add_lit _ _ _) rfl rfl (by repeat (first | with_reducible exact At1.head _ _ | apply At1.tail)) (by first | omega | (simp; omega) | simp) _) ?_
                rintro _ _ rfl
                refine At.nil ?_
                refine At.cn (fun h => absurd h (by decide)) ?_
                refine At.cnil ?_
                refine At.blkN ?_
                refine At.thenN ?_
                refine At.region ?_
                refine At.norm (b := b) ((cs ++ [(Value.slice ao9 (c ++ [x]).length c9)]) ++ sp) (by repeat (first | with_reducible exact At1.head _ _ | apply At1.tail)) (set_mid _ _ _ _ _ (by omega)) ?_
                refine At.ownC (sz := 1) (n := d.length + 1) (by repeat (first | with_reducible exact At1.head _ _ | apply At1.tail)) (by first | (simp at hl1 ⊢; done) | (simp at hl1 ⊢; omega)) (by first | (simp at hl2 ⊢; done) | (simp at hl2 ⊢; omega)) (by omega) hl4 ?_
                refine At.ev (ev_add rfl rfl (by omega)) rfl ?_
                refine At.ev (ev_move rfl) rfl ?_
                refine At.nil ?_
                refine At.thenN ?_
                refine At.again (k + 1, .slice (some ⟨b, 0, none⟩) (d.length + 1) cap, some ((Value.slice ao9 (c ++ [x]).length c9), cs, ccs ++ x.cs, d, c ++ [x])) (by simp only; omega) ⟨rfl, rfl, rfl, rfl, trivial⟩ (Imp.pur ⟨by simp only; omega, by rw [prR_snoc hx, hp]; simp [prStep, h1], by first | (simp; done) | (simp; omega), by first | (simp; done) | (simp; omega)⟩ (Imp.per (by repeat (first | with_reducible exact Mem.head _ _ | apply Mem.tail)) (Imp.one (by repeat (first | with_reducible exact At1.head _ _ | apply At1.tail)) (Imp.per (by repeat (first | with_reducible exact Mem.head _ _ | apply Mem.tail)) (Imp.one (by repeat (first | with_reducible exact At1.head _ _ | apply At1.tail)) (Imp.per (by repeat (first | with_reducible exact Mem.head _ _ | apply Mem.tail)) (Imp.nil _)))))))
              exact At.cstop
            exact At.cstop
          exact At.cstop
        · intro h2
          omega
    · intro h0
      have hall : k = l.length := by omega
      subst hall
      rw [List.take_length] at hp
      have hr : projRounds l = d ++ [c] := by rw [projRounds, hp]
      refine At.sealE (sz := 12) c rfl (by repeat (first | with_reducible exact At1.head _ _ | apply At1.tail)) (by repeat (first | with_reducible exact Mem.head _ _ | apply Mem.tail)) rfl ?_
      rintro ao1 c1 rfl hc1 _
      refine At.relList (by repeat (first | with_reducible exact Mem.head _ _ | apply Mem.tail)) hc1 ?_
      refine At.snocP c (by repeat (first | with_reducible exact Mem.head _ _ | apply Mem.tail)) (by repeat (first | with_reducible exact Mem.head _ _ | apply Mem.tail)) ?_
      refine At.sealE (sz := 1) (d ++ [c]) rfl (by repeat (first | with_reducible exact At1.head _ _ | apply At1.tail)) (by repeat (first | with_reducible exact Mem.head _ _ | apply Mem.tail)) (by simp) ?_
      rintro ao2 c2 rfl hc2 _
      rw [← hr] at hc2 ⊢
      refine At.exit ?_
      refine At.thenX ?_
      refine At.thenX ?_
      refine At.blkX ?_
      refine At.thenN ?_
      refine At.seq ?_
      refine At.region ?_
      refine At.ev (ev_move rfl) rfl ?_
      refine At.ev (ev_assign rfl) rfl ?_
      refine At.nil ?_
      refine At.thenN ?_
      refine At.retC ?_
      refine At.ret (rs := [.tmp 2]) rfl (Res.tmp rfl Res.nil) ?_
      exact Imp.sl (by repeat (first | with_reducible exact Mem.head _ _ | apply Mem.tail)) (by assumption) (Imp.nil _)

end Go.Proofs.Ytcgjkdfgemjidaa
