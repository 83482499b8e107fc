import Derived.Test.YtcgjkdfgemjidaaWrp
set_option linter.unusedVariables false
set_option linter.unusedSimpArgs false
namespace Go.Proofs.Ytcgjkdfgemjidaa
open Go Go.Sx Go.Proofs
set_option maxRecDepth 100000

/-- A round that is being made. -/
def rnd (b : Nat) (r : Round) : Asn := ex fun p : (Value × Value × Value) × (List Value × List Value × List Value) =>
  stars [blk b [.int .i64 r.ticks, p.1.1, p.1.2.1, p.1.2.2, .int .i64 r.drain, .bool r.abort] 41, own p.1.1 3 1 r.opens.length p.2.1, Sx.per (relLP r.opens p.2.1),
    own p.1.2.1 43 3 r.offers.length p.2.2.1, Sx.per (relLP r.offers p.2.2.1), own p.1.2.2 45 4 r.reports.length p.2.2.2, Sx.per (relLP r.reports p.2.2.2)]

/-- repartee/replay.peer -/
theorem replay_peer0 (b : Nat) (r : Round) (x a : Event) (hox : x.ok) (hoa : a.ok) (hne : ¬ x.kind = 5) (hb2 : r.offers.length ≤ 1000000) (hb3 : r.reports.length ≤ 1000000) : Does Try.prog 16 [.pointer (some ⟨b, 0, none⟩), .agg x.cs.toArray, .agg a.cs.toArray] [rnd b r] (fun _ => rnd b (r.peer0 x)) := by
  refine Does.enter Try.func16 rfl rfl ?_
  intro E
  refine At.ex ?_
  rintro ⟨⟨v1, v2, v3⟩, c1, c2, c3⟩
  refine At.stars ?_
  dsimp only [List.cons_append, List.nil_append]
  refine At.seq ?_
  refine At.region ?_
  refine At.ch (ch_boxA rfl _) rfl ?_
  rintro _ _ ⟨bx, rfl, rfl⟩
  refine At.ch (ch_boxA rfl _) rfl ?_
  rintro _ _ ⟨ba, rfl, rfl⟩
  refine At.nil ?_
  refine At.thenN ?_
  refine At.seq ?_
  refine At.region ?_
  refine At.ev (ev_fa T.fa33_0 rfl) rfl ?_
  refine At.ev (ev_load T.ld3 rfl (by (first | exact Cell.blk (by repeat (first | with_reducible exact Mem.head _ _ | apply Mem.tail)) rfl | exact Cell.blk0 (by repeat (first | with_reducible exact Mem.head _ _ | apply Mem.tail)) rfl | exact Cell.per (by repeat (first | with_reducible exact Mem.head _ _ | apply Mem.tail)) rfl | exact Cell.per0 (by repeat (first | with_reducible exact Mem.head _ _ | apply Mem.tail)) rfl | exact Cell.pin (by repeat (first | with_reducible exact Mem.head _ _ | apply Mem.tail)) (by first | omega | decide | (simp at hg; omega) | (simp at hl hg; omega) | (simp at hg ⊢; omega)) rfl | exact Cell.pin0 (by repeat (first | with_reducible exact Mem.head _ _ | apply Mem.tail)) (by first | omega | decide | (simp at hg; omega) | (simp at hl hg; omega) | (simp at hg ⊢; omega)) rfl))) rfl ?_
  refine At.nil ?_
  refine At.thenN ?_
  refine At.block ?_
  refine At.seq ?_
  refine At.region ?_
  refine At.ev (ev_eqi rfl rfl) rfl ?_
  refine At.ev (ev_assign rfl) rfl ?_
  refine At.nil ?_
  refine At.thenN ?_
  refine At.cond rfl ?_ ?_
  · intro h0
    simp only [decide_eq_true_eq, decide_eq_false_iff_not, Bool.not_eq_true', Bool.not_eq_false', Bool.cond_false_right, Bool.cond_true_left, Bool.and_eq_true, Bool.or_eq_true, Bool.and_eq_false_iff, Bool.or_eq_false_iff, Bool.not_true, Bool.not_false] at h0
    refine At.seq ?_
    refine At.drawH (.q0 0 (.q0 1 (.q0 2 (.q0 3 (.q1 4 (.q0 5 (.q1 6 (.q0 7 (.q1 8 (.q0 9 (.br 10 (.br 11 (.q0 12 (.q0 13 (.br 14 (.nil) (.stop)))) (.stop)) (.stop)))))))))))) (fun j => !([11, 14] : List Nat).contains j) mixed (by kernel_rfl) (by kernel_rfl) (NoP.thn (NoP.blk NoP.body)) ?_
    refine At.c0 rfl (ev_move rfl) rfl ?_
    refine At.c0 rfl (ev_move rfl) rfl ?_
    refine At.c0 rfl (ev_nil rfl) rfl ?_
    refine At.c0 rfl (ev_fa T.fa41_2 rfl) rfl ?_
    refine At.c1 rfl (Imp.refl _) (ev_load T.ld38 rfl (by (first | exact Cell.blk (by repeat (first | with_reducible exact Mem.head _ _ | apply Mem.tail)) rfl | exact Cell.blk0 (by repeat (first | with_reducible exact Mem.head _ _ | apply Mem.tail)) rfl | exact Cell.per (by repeat (first | with_reducible exact Mem.head _ _ | apply Mem.tail)) rfl | exact Cell.per0 (by repeat (first | with_reducible exact Mem.head _ _ | apply Mem.tail)) rfl | exact Cell.pin (by repeat (first | with_reducible exact Mem.head _ _ | apply Mem.tail)) (by first | omega | decide | (simp at hg; omega) | (simp at hl hg; omega) | (simp at hg ⊢; omega)) rfl | exact Cell.pin0 (by repeat (first | with_reducible exact Mem.head _ _ | apply Mem.tail)) (by first | omega | decide | (simp at hg; omega) | (simp at hl hg; omega) | (simp at hg ⊢; omega)) rfl))) rfl ?_
    refine At.c0 rfl (ev_fa T.fa33_1 rfl) rfl ?_
    refine At.c1 rfl (Imp.refl _) (ev_load T.ld3 rfl (by (first | exact Cell.blk (by repeat (first | with_reducible exact Mem.head _ _ | apply Mem.tail)) rfl | exact Cell.blk0 (by repeat (first | with_reducible exact Mem.head _ _ | apply Mem.tail)) rfl | exact Cell.per (by repeat (first | with_reducible exact Mem.head _ _ | apply Mem.tail)) rfl | exact Cell.per0 (by repeat (first | with_reducible exact Mem.head _ _ | apply Mem.tail)) rfl | exact Cell.pin (by repeat (first | with_reducible exact Mem.head _ _ | apply Mem.tail)) (by first | omega | decide | (simp at hg; omega) | (simp at hl hg; omega) | (simp at hg ⊢; omega)) rfl | exact Cell.pin0 (by repeat (first | with_reducible exact Mem.head _ _ | apply Mem.tail)) (by first | omega | decide | (simp at hg; omega) | (simp at hl hg; omega) | (simp at hg ⊢; omega)) rfl))) rfl ?_
    refine At.c0 rfl (ev_fa T.fa33_4 rfl) rfl ?_
    refine At.c1 rfl (Imp.refl _) (ev_load T.ld9 rfl (by (first | exact Cell.blk (by repeat (first | with_reducible exact Mem.head _ _ | apply Mem.tail)) rfl | exact Cell.blk0 (by repeat (first | with_reducible exact Mem.head _ _ | apply Mem.tail)) rfl | exact Cell.per (by repeat (first | with_reducible exact Mem.head _ _ | apply Mem.tail)) rfl | exact Cell.per0 (by repeat (first | with_reducible exact Mem.head _ _ | apply Mem.tail)) rfl | exact Cell.pin (by repeat (first | with_reducible exact Mem.head _ _ | apply Mem.tail)) (by first | omega | decide | (simp at hg; omega) | (simp at hl hg; omega) | (simp at hg ⊢; omega)) rfl | exact Cell.pin0 (by repeat (first | with_reducible exact Mem.head _ _ | apply Mem.tail)) (by first | omega | decide | (simp at hg; omega) | (simp at hl hg; omega) | (simp at hg ⊢; omega)) rfl))) rfl ?_
    refine At.c0 rfl (ev_build T.pl43 rfl ⟨rfl, rfl, trivial⟩ ⟨rfl, by decide, rfl, by decide, trivial⟩) rfl ?_
    refine At.c2 rfl ?_ ?_
    · intro w0
      refine At.ch (ch_bslice T.un38 T.sz43 T.zv43 rfl rfl rfl (by exact ⟨rfl, by decide, trivial⟩) _) rfl ?_
      rintro _ _ ⟨bl3, rfl, rfl⟩
      refine At.norm (b := bl3) (⟨x.id, x.bytes, false⟩ : Offer).cs (by repeat (first | with_reducible exact At1.head _ _ | apply At1.tail)) (by rfl) ?_
      refine At.nil ?_
      refine At.cn (fun _ => ?_) ?_
      · first | exact Imp.refl _ | exact fun _ _ h => h.drop
      refine At.c2 rfl ?_ ?_
      · intro w0
        refine At.ch (ch_append T.ti38 rfl rfl (by repeat (first | with_reducible exact At1.head _ _ | apply At1.tail)) (src_blk T.un38 (by repeat (first | with_reducible exact Mem.head _ _ | apply Mem.tail)) (by exact ⟨rfl, rfl, rfl, trivial⟩) rfl) (by omega) (by unfold maxLen; omega) _) rfl ?_
        rintro v2n _ rfl
        refine At.snoc (xs := r.offers) (⟨x.id, x.bytes, false⟩ : Offer) (fun R => Offer.rel ⟨hox.2.1, hox.2.2.2.2.1⟩) (by repeat (first | with_reducible exact Mem.head _ _ | apply Mem.tail)) ?_
        rw [show r.offers.length + 1 = (r.offers ++ [(⟨x.id, x.bytes, false⟩ : Offer)]).length by simp]
        refine At.ownV (t := 43) (by repeat (first | with_reducible exact Mem.head _ _ | apply Mem.tail)) ?_
        intro ao3 ca3 e3 _ _
        subst e3
        refine At.nil ?_
        refine At.cn (fun h => absurd h (by decide)) ?_
        refine At.c0 rfl (ev_nil rfl) rfl ?_
        refine At.c0 rfl (ev_fa T.fa41_2 rfl) rfl ?_
        refine At.c2 rfl ?_ ?_
        · intro w0
          refine At.ch0 (ch_store1 T.sz38 rfl rfl (add_lit _ _ _) rfl rfl (by repeat (first | with_reducible exact At1.head _ _ | apply At1.tail)) (by rfl) _) ?_
          rintro _ _ rfl
          refine At.nil ?_
          refine At.cn (fun h => absurd h (by decide)) ?_
          refine At.cnil ?_
          refine At.thenN ?_
          refine At.drawH (.q0 0 (.q0 1 (.q0 2 (.q0 3 (.q1 4 (.q0 5 (.q1 6 (.q0 7 (.br 8 (.br 9 (.q0 10 (.q0 11 (.br 12 (.nil) (.stop)))) (.stop)) (.stop)))))))))) (fun j => !([9, 12] : List Nat).contains j) mixed (by kernel_rfl) (by kernel_rfl) (NoP.blk NoP.body) ?_
          refine At.norm (b := b) [.int .i64 r.ticks, v1, (Value.slice ao3 (r.offers ++ [(⟨x.id, x.bytes, false⟩ : Offer)]).length ca3), v3, .int .i64 r.drain, .bool r.abort] (by repeat (first | with_reducible exact At1.head _ _ | apply At1.tail)) (by rfl) ?_
          refine At.c0 rfl (ev_move rfl) rfl ?_
          refine At.c0 rfl (ev_move rfl) rfl ?_
          refine At.c0 rfl (ev_nil rfl) rfl ?_
          refine At.c0 rfl (ev_fa T.fa41_3 rfl) rfl ?_
          refine At.c1 rfl (Imp.refl _) (ev_load T.ld39 rfl (by (first | exact Cell.blk (by repeat (first | with_reducible exact Mem.head _ _ | apply Mem.tail)) rfl | exact Cell.blk0 (by repeat (first | with_reducible exact Mem.head _ _ | apply Mem.tail)) rfl | exact Cell.per (by repeat (first | with_reducible exact Mem.head _ _ | apply Mem.tail)) rfl | exact Cell.per0 (by repeat (first | with_reducible exact Mem.head _ _ | apply Mem.tail)) rfl | exact Cell.pin (by repeat (first | with_reducible exact Mem.head _ _ | apply Mem.tail)) (by first | omega | decide | (simp at hg; omega) | (simp at hl hg; omega) | (simp at hg ⊢; omega)) rfl | exact Cell.pin0 (by repeat (first | with_reducible exact Mem.head _ _ | apply Mem.tail)) (by first | omega | decide | (simp at hg; omega) | (simp at hl hg; omega) | (simp at hg ⊢; omega)) rfl))) rfl ?_
          refine At.c0 rfl (ev_fa T.fa33_1 rfl) rfl ?_
          refine At.c1 rfl (Imp.refl _) (ev_load T.ld3 rfl (by (first | exact Cell.blk (by repeat (first | with_reducible exact Mem.head _ _ | apply Mem.tail)) rfl | exact Cell.blk0 (by repeat (first | with_reducible exact Mem.head _ _ | apply Mem.tail)) rfl | exact Cell.per (by repeat (first | with_reducible exact Mem.head _ _ | apply Mem.tail)) rfl | exact Cell.per0 (by repeat (first | with_reducible exact Mem.head _ _ | apply Mem.tail)) rfl | exact Cell.pin (by repeat (first | with_reducible exact Mem.head _ _ | apply Mem.tail)) (by first | omega | decide | (simp at hg; omega) | (simp at hl hg; omega) | (simp at hg ⊢; omega)) rfl | exact Cell.pin0 (by repeat (first | with_reducible exact Mem.head _ _ | apply Mem.tail)) (by first | omega | decide | (simp at hg; omega) | (simp at hl hg; omega) | (simp at hg ⊢; omega)) rfl))) rfl ?_
          refine At.c0 rfl (ev_build T.pl45 rfl ⟨rfl, rfl, trivial⟩ ⟨rfl, by decide, rfl, by decide, trivial⟩) rfl ?_
          refine At.c2 rfl ?_ ?_
          · intro w0
            refine At.ch (ch_bslice T.un39 T.sz45 T.zv45 rfl rfl rfl (by exact ⟨rfl, by decide, trivial⟩) _) rfl ?_
            rintro _ _ ⟨bl4, rfl, rfl⟩
            refine At.norm (b := bl4) (⟨x.id, true, false, 0⟩ : Report).cs (by repeat (first | with_reducible exact At1.head _ _ | apply At1.tail)) (by rfl) ?_
            refine At.nil ?_
            refine At.cn (fun _ => ?_) ?_
            · first | exact Imp.refl _ | exact fun _ _ h => h.drop
            refine At.c2 rfl ?_ ?_
            · intro w0
              refine At.ch (ch_append T.ti39 rfl rfl (by repeat (first | with_reducible exact At1.head _ _ | apply At1.tail)) (src_blk T.un39 (by repeat (first | with_reducible exact Mem.head _ _ | apply Mem.tail)) (by exact ⟨rfl, rfl, rfl, rfl, trivial⟩) rfl) (by omega) (by unfold maxLen; omega) _) rfl ?_
              rintro v3n _ rfl
              refine At.snoc (xs := r.reports) (⟨x.id, true, false, 0⟩ : Report) (fun R => Report.rel ⟨hox.2.1, i64_lit 0 (by decide)⟩) (by repeat (first | with_reducible exact Mem.head _ _ | apply Mem.tail)) ?_
              rw [show r.reports.length + 1 = (r.reports ++ [(⟨x.id, true, false, 0⟩ : Report)]).length by simp]
              refine At.ownV (t := 45) (by repeat (first | with_reducible exact Mem.head _ _ | apply Mem.tail)) ?_
              intro ao4 ca4 e4 _ _
              subst e4
              refine At.nil ?_
              refine At.cn (fun h => absurd h (by decide)) ?_
              refine At.c0 rfl (ev_nil rfl) rfl ?_
              refine At.c0 rfl (ev_fa T.fa41_3 rfl) rfl ?_
              refine At.c2 rfl ?_ ?_
              · intro w0
                refine At.ch0 (ch_store1 T.sz39 rfl rfl (add_lit _ _ _) rfl rfl (by repeat (first | with_reducible exact At1.head _ _ | apply At1.tail)) (by rfl) _) ?_
                rintro _ _ rfl
                refine At.nil ?_
                refine At.cn (fun h => absurd h (by decide)) ?_
                refine At.cnil ?_
                refine At.norm (b := b) [.int .i64 r.ticks, v1, (Value.slice ao3 (r.offers ++ [(⟨x.id, x.bytes, false⟩ : Offer)]).length ca3), (Value.slice ao4 (r.reports ++ [(⟨x.id, true, false, 0⟩ : Report)]).length ca4), .int .i64 r.drain, .bool r.abort] (by repeat (first | with_reducible exact At1.head _ _ | apply At1.tail)) (by rfl) ?_
                refine At.blkN ?_
                refine At.retN (rs := []) rfl Res.nil ?_
                rw [show r.peer0 x = { r with offers := r.offers ++ [⟨x.id, x.bytes, false⟩], reports := r.reports ++ [⟨x.id, true, false, 0⟩] } by unfold Round.peer0; rw [if_pos h0]]
                exact Imp.ex ((v1, (Value.slice ao3 (r.offers ++ [(⟨x.id, x.bytes, false⟩ : Offer)]).length ca3), (Value.slice ao4 (r.reports ++ [(⟨x.id, true, false, 0⟩ : Report)]).length ca4)), c1, (c2 ++ (⟨x.id, x.bytes, false⟩ : Offer).cs), (c3 ++ (⟨x.id, true, false, 0⟩ : Report).cs)) (Imp.stars (by dsimp only [List.cons_append, List.nil_append]; exact Imp.one (by repeat (first | with_reducible exact At1.head _ _ | apply At1.tail)) (Imp.one (by repeat (first | with_reducible exact At1.head _ _ | apply At1.tail)) (Imp.per (by repeat (first | with_reducible exact Mem.head _ _ | apply Mem.tail)) (Imp.one (by repeat (first | with_reducible exact At1.head _ _ | apply At1.tail)) (Imp.per (by repeat (first | with_reducible exact Mem.head _ _ | apply Mem.tail)) (Imp.one (by repeat (first | with_reducible exact At1.head _ _ | apply At1.tail)) (Imp.per (by repeat (first | with_reducible exact Mem.head _ _ | apply Mem.tail)) (Imp.nil _)))))))))
              exact At.cstop
            exact At.cstop
          exact At.cstop
        exact At.cstop
      exact At.cstop
    exact At.cstop
  · intro h0
    simp only [decide_eq_true_eq, decide_eq_false_iff_not, Bool.not_eq_true', Bool.not_eq_false', Bool.cond_false_right, Bool.cond_true_left, Bool.and_eq_true, Bool.or_eq_true, Bool.and_eq_false_iff, Bool.or_eq_false_iff, Bool.not_true, Bool.not_false] at h0
    refine At.seq ?_
    refine At.region ?_
    refine At.ev (ev_eqi rfl rfl) rfl ?_
    refine At.ev (ev_assign rfl) rfl ?_
    refine At.nil ?_
    refine At.thenN ?_
    refine At.cond rfl ?_ ?_
    · intro h1
      simp only [decide_eq_true_eq, decide_eq_false_iff_not, Bool.not_eq_true', Bool.not_eq_false', Bool.cond_false_right, Bool.cond_true_left, Bool.and_eq_true, Bool.or_eq_true, Bool.and_eq_false_iff, Bool.or_eq_false_iff, Bool.not_true, Bool.not_false] at h1
      exact absurd h1 hne
    · intro h1
      simp only [decide_eq_true_eq, decide_eq_false_iff_not, Bool.not_eq_true', Bool.not_eq_false', Bool.cond_false_right, Bool.cond_true_left, Bool.and_eq_true, Bool.or_eq_true, Bool.and_eq_false_iff, Bool.or_eq_false_iff, Bool.not_true, Bool.not_false] at h1
      refine At.seq ?_
      refine At.region ?_
      refine At.ev (ev_eqi rfl rfl) rfl ?_
      refine At.ev (ev_assign rfl) rfl ?_
      refine At.nil ?_
      refine At.thenN ?_
      refine At.cond rfl ?_ ?_
      · intro h3
        simp only [decide_eq_true_eq, decide_eq_false_iff_not, Bool.not_eq_true', Bool.not_eq_false', Bool.cond_false_right, Bool.cond_true_left, Bool.and_eq_true, Bool.or_eq_true, Bool.and_eq_false_iff, Bool.or_eq_false_iff, Bool.not_true, Bool.not_false] at h3
        refine At.drawH (.q0 0 (.q0 1 (.q0 2 (.q0 3 (.q1 4 (.q0 5 (.q1 6 (.q0 7 (.q1 8 (.q0 9 (.br 10 (.br 11 (.q0 12 (.q0 13 (.br 14 (.nil) (.stop)))) (.stop)) (.stop)))))))))))) (fun j => !([11, 14] : List Nat).contains j) mixed (by kernel_rfl) (by kernel_rfl) (NoP.blk NoP.body) ?_
        refine At.c0 rfl (ev_move rfl) rfl ?_
        refine At.c0 rfl (ev_move rfl) rfl ?_
        refine At.c0 rfl (ev_nil rfl) rfl ?_
        refine At.c0 rfl (ev_fa T.fa41_3 rfl) rfl ?_
        refine At.c1 rfl (Imp.refl _) (ev_load T.ld39 rfl (by (first | exact Cell.blk (by repeat (first | with_reducible exact Mem.head _ _ | apply Mem.tail)) rfl | exact Cell.blk0 (by repeat (first | with_reducible exact Mem.head _ _ | apply Mem.tail)) rfl | exact Cell.per (by repeat (first | with_reducible exact Mem.head _ _ | apply Mem.tail)) rfl | exact Cell.per0 (by repeat (first | with_reducible exact Mem.head _ _ | apply Mem.tail)) rfl | exact Cell.pin (by repeat (first | with_reducible exact Mem.head _ _ | apply Mem.tail)) (by first | omega | decide | (simp at hg; omega) | (simp at hl hg; omega) | (simp at hg ⊢; omega)) rfl | exact Cell.pin0 (by repeat (first | with_reducible exact Mem.head _ _ | apply Mem.tail)) (by first | omega | decide | (simp at hg; omega) | (simp at hl hg; omega) | (simp at hg ⊢; omega)) rfl))) rfl ?_
        refine At.c0 rfl (ev_fa T.fa33_1 rfl) rfl ?_
        refine At.c1 rfl (Imp.refl _) (ev_load T.ld3 rfl (by (first | exact Cell.blk (by repeat (first | with_reducible exact Mem.head _ _ | apply Mem.tail)) rfl | exact Cell.blk0 (by repeat (first | with_reducible exact Mem.head _ _ | apply Mem.tail)) rfl | exact Cell.per (by repeat (first | with_reducible exact Mem.head _ _ | apply Mem.tail)) rfl | exact Cell.per0 (by repeat (first | with_reducible exact Mem.head _ _ | apply Mem.tail)) rfl | exact Cell.pin (by repeat (first | with_reducible exact Mem.head _ _ | apply Mem.tail)) (by first | omega | decide | (simp at hg; omega) | (simp at hl hg; omega) | (simp at hg ⊢; omega)) rfl | exact Cell.pin0 (by repeat (first | with_reducible exact Mem.head _ _ | apply Mem.tail)) (by first | omega | decide | (simp at hg; omega) | (simp at hl hg; omega) | (simp at hg ⊢; omega)) rfl))) rfl ?_
        refine At.c0 rfl (ev_fa T.fa33_2 rfl) rfl ?_
        refine At.c1 rfl (Imp.refl _) (ev_load T.ld3 rfl (by (first | exact Cell.blk (by repeat (first | with_reducible exact Mem.head _ _ | apply Mem.tail)) rfl | exact Cell.blk0 (by repeat (first | with_reducible exact Mem.head _ _ | apply Mem.tail)) rfl | exact Cell.per (by repeat (first | with_reducible exact Mem.head _ _ | apply Mem.tail)) rfl | exact Cell.per0 (by repeat (first | with_reducible exact Mem.head _ _ | apply Mem.tail)) rfl | exact Cell.pin (by repeat (first | with_reducible exact Mem.head _ _ | apply Mem.tail)) (by first | omega | decide | (simp at hg; omega) | (simp at hl hg; omega) | (simp at hg ⊢; omega)) rfl | exact Cell.pin0 (by repeat (first | with_reducible exact Mem.head _ _ | apply Mem.tail)) (by first | omega | decide | (simp at hg; omega) | (simp at hl hg; omega) | (simp at hg ⊢; omega)) rfl))) rfl ?_
        refine At.c0 rfl (ev_build T.pl45 rfl ⟨rfl, rfl, rfl, trivial⟩ ⟨rfl, by decide, rfl, by decide, rfl, by decide, trivial⟩) rfl ?_
        refine At.c2 rfl ?_ ?_
        · intro w0
          refine At.ch (ch_bslice T.un39 T.sz45 T.zv45 rfl rfl rfl (by exact ⟨rfl, by decide, trivial⟩) _) rfl ?_
          rintro _ _ ⟨bl11, rfl, rfl⟩
          refine At.norm (b := bl11) (⟨x.id, false, true, x.n⟩ : Report).cs (by repeat (first | with_reducible exact At1.head _ _ | apply At1.tail)) (by rfl) ?_
          refine At.nil ?_
          refine At.cn (fun _ => ?_) ?_
          · first | exact Imp.refl _ | exact fun _ _ h => h.drop
          refine At.c2 rfl ?_ ?_
          · intro w0
            refine At.ch (ch_append T.ti39 rfl rfl (by repeat (first | with_reducible exact At1.head _ _ | apply At1.tail)) (src_blk T.un39 (by repeat (first | with_reducible exact Mem.head _ _ | apply Mem.tail)) (by exact ⟨rfl, rfl, rfl, rfl, trivial⟩) rfl) (by omega) (by unfold maxLen; omega) _) rfl ?_
            rintro v3n _ rfl
            refine At.snoc (xs := r.reports) (⟨x.id, false, true, x.n⟩ : Report) (fun R => Report.rel ⟨hox.2.1, hox.2.2.1⟩) (by repeat (first | with_reducible exact Mem.head _ _ | apply Mem.tail)) ?_
            rw [show r.reports.length + 1 = (r.reports ++ [(⟨x.id, false, true, x.n⟩ : Report)]).length by simp]
            refine At.ownV (t := 45) (by repeat (first | with_reducible exact Mem.head _ _ | apply Mem.tail)) ?_
            intro ao11 ca11 e11 _ _
            subst e11
            refine At.nil ?_
            refine At.cn (fun h => absurd h (by decide)) ?_
            refine At.c0 rfl (ev_nil rfl) rfl ?_
            refine At.c0 rfl (ev_fa T.fa41_3 rfl) rfl ?_
            refine At.c2 rfl ?_ ?_
            · intro w0
              refine At.ch0 (ch_store1 T.sz39 rfl rfl (add_lit _ _ _) rfl rfl (by repeat (first | with_reducible exact At1.head _ _ | apply At1.tail)) (by rfl) _) ?_
              rintro _ _ rfl
              refine At.nil ?_
              refine At.cn (fun h => absurd h (by decide)) ?_
              refine At.cnil ?_
              refine At.norm (b := b) [.int .i64 r.ticks, v1, v2, (Value.slice ao11 (r.reports ++ [(⟨x.id, false, true, x.n⟩ : Report)]).length ca11), .int .i64 r.drain, .bool r.abort] (by repeat (first | with_reducible exact At1.head _ _ | apply At1.tail)) (by rfl) ?_
              refine At.blkN ?_
              refine At.retN (rs := []) rfl Res.nil ?_
              rw [show r.peer0 x = { r with reports := r.reports ++ [⟨x.id, false, true, x.n⟩] } by unfold Round.peer0; rw [if_neg h0, if_pos h3]]
              exact Imp.ex ((v1, v2, (Value.slice ao11 (r.reports ++ [(⟨x.id, false, true, x.n⟩ : Report)]).length ca11)), c1, c2, (c3 ++ (⟨x.id, false, true, x.n⟩ : Report).cs)) (Imp.stars (by dsimp only [List.cons_append, List.nil_append]; exact Imp.one (by repeat (first | with_reducible exact At1.head _ _ | apply At1.tail)) (Imp.one (by repeat (first | with_reducible exact At1.head _ _ | apply At1.tail)) (Imp.per (by repeat (first | with_reducible exact Mem.head _ _ | apply Mem.tail)) (Imp.one (by repeat (first | with_reducible exact At1.head _ _ | apply At1.tail)) (Imp.per (by repeat (first | with_reducible exact Mem.head _ _ | apply Mem.tail)) (Imp.one (by repeat (first | with_reducible exact At1.head _ _ | apply At1.tail)) (Imp.per (by repeat (first | with_reducible exact Mem.head _ _ | apply Mem.tail)) (Imp.nil _)))))))))
            exact At.cstop
          exact At.cstop
        exact At.cstop
      · intro h3
        simp only [decide_eq_true_eq, decide_eq_false_iff_not, Bool.not_eq_true', Bool.not_eq_false', Bool.cond_false_right, Bool.cond_true_left, Bool.and_eq_true, Bool.or_eq_true, Bool.and_eq_false_iff, Bool.or_eq_false_iff, Bool.not_true, Bool.not_false] at h3
        refine At.skip ?_
        refine At.blkN ?_
        refine At.retN (rs := []) rfl Res.nil ?_
        rw [show r.peer0 x = r by unfold Round.peer0; rw [if_neg h0, if_neg h3]]
        exact Imp.ex ((v1, v2, v3), c1, c2, c3) (Imp.stars (by dsimp only [List.cons_append, List.nil_append]; exact Imp.one (by repeat (first | with_reducible exact At1.head _ _ | apply At1.tail)) (Imp.one (by repeat (first | with_reducible exact At1.head _ _ | apply At1.tail)) (Imp.per (by repeat (first | with_reducible exact Mem.head _ _ | apply Mem.tail)) (Imp.one (by repeat (first | with_reducible exact At1.head _ _ | apply At1.tail)) (Imp.per (by repeat (first | with_reducible exact Mem.head _ _ | apply Mem.tail)) (Imp.one (by repeat (first | with_reducible exact At1.head _ _ | apply At1.tail)) (Imp.per (by repeat (first | with_reducible exact Mem.head _ _ | apply Mem.tail)) (Imp.nil _)))))))))

end Go.Proofs.Ytcgjkdfgemjidaa
