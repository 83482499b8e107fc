import Derived.Test.YtcgjkdfgemjidaaWrt
set_option linter.unusedVariables false
set_option linter.unusedSimpArgs false
namespace Go.Proofs.Ytcgjkdfgemjidaa
open Go Go.Sx Go.Proofs
set_option maxRecDepth 100000

/-- repartee/reparteelaw40.lives -/
theorem law40_lives  : Does Try.prog 8 [] [] (fun v => Sx.pur (v = .bool true)) := by
  refine Does.enter Try.func8 rfl rfl ?_
  intro E
  refine At.seq ?_
  refine At.region ?_
  refine At.ev (ev_assign rfl) rfl ?_
  refine At.nil ?_
  refine At.thenN ?_
  refine At.seq ?_
  refine At.region ?_
  refine At.ev (ev_build T.pl33 rfl ⟨rfl, rfl, trivial⟩ ⟨rfl, by decide, rfl, by decide, trivial⟩) rfl ?_
  refine At.ev (ev_build T.pl33 rfl ⟨rfl, trivial⟩ ⟨rfl, by decide, trivial⟩) rfl ?_
  refine At.ev (ev_build T.pl33 rfl ⟨rfl, rfl, trivial⟩ ⟨rfl, by decide, rfl, by decide, trivial⟩) rfl ?_
  refine At.ev (ev_build T.pl33 rfl ⟨rfl, rfl, rfl, trivial⟩ ⟨rfl, by decide, rfl, by decide, rfl, by decide, trivial⟩) rfl ?_
  refine At.ch (ch_bslice T.un22 T.sz33 T.zv33 rfl rfl rfl (by exact ⟨rfl, by decide, rfl, by decide, rfl, by decide, rfl, by decide, trivial⟩) _) rfl ?_
  rintro _ _ ⟨b, rfl, rfl⟩
  refine At.norm (b := b) (ev1.cs ++ ev2.cs ++ ev3.cs ++ ev4.cs) (by repeat (first | with_reducible exact At1.head _ _ | apply At1.tail)) (by rfl) ?_
  refine At.perI (φ := relLP evs (ev1.cs ++ ev2.cs ++ ev3.cs ++ ev4.cs)) evs_rel ?_
  refine At.sealB evs (by repeat (first | with_reducible exact At1.head _ _ | apply At1.tail)) (by repeat (first | with_reducible exact Mem.head _ _ | apply Mem.tail)) (by decide) ?_
  refine At.call (goes_func cf10 rfl) (replay_Rounds0 (some ⟨b, 0, none⟩) 4 evs (by decide) evs_ok) (by (repeat (first | exact Split.nil _ | (with_reducible apply Split.per; · repeat (first | with_reducible exact Mem.head _ _ | apply Mem.tail)) | (with_reducible apply Split.own; · repeat (first | with_reducible exact At1.head _ _ | apply At1.tail))))) rfl ?_
  intro v
  refine At.sl ?_
  rw [evs_rounds]
  rintro ao1 c1 rfl hc1
  refine At.ev (ev_assign rfl) rfl ?_
  refine At.nil ?_
  refine At.thenN ?_
  refine At.seq ?_
  refine At.region ?_
  refine At.get (α := Round) (by repeat (first | with_reducible exact Mem.head _ _ | apply Mem.tail)) 0 (by decide) 6 rfl ?_
  intro ad0 x0 cx0 eq hx0
  cases eq
  cases hx0
  refine openRound (by repeat (first | with_reducible exact Mem.head _ _ | apply Mem.tail)) ?_
  intro ok0 a01 d01 a02 d02 a03 d03 l01 l02 l03 eq
  subst eq
  refine At.get (α := Round) (by repeat (first | with_reducible exact Mem.head _ _ | apply Mem.tail)) 1 (by decide) 6 rfl ?_
  intro ad1 x1 cx1 eq hx1
  cases eq
  cases hx1
  refine openRound (by repeat (first | with_reducible exact Mem.head _ _ | apply Mem.tail)) ?_
  intro ok1 a11 d11 a12 d12 a13 d13 l11 l12 l13 eq
  subst eq
  refine At.get (α := Offer) (xs := rd2.offers) (by repeat (first | with_reducible exact Mem.head _ _ | apply Mem.tail)) 0 (by decide) 3 rfl ?_
  intro ado xo cso eq hxo
  cases eq
  cases hxo
  refine openOffer (by repeat (first | with_reducible exact Mem.head _ _ | apply Mem.tail)) ?_
  intro oko eq
  subst eq
  refine At.get (α := Report) (xs := rd2.reports) (by repeat (first | with_reducible exact Mem.head _ _ | apply Mem.tail)) 0 (by decide) 4 rfl ?_
  intro adr xr csr eq hxr
  cases eq
  cases hxr
  refine openReport (by repeat (first | with_reducible exact Mem.head _ _ | apply Mem.tail)) ?_
  intro okr eq
  subst eq
  refine At.ev (ev_move rfl) rfl ?_
  refine At.ev (ev_lenl T.un35 rfl) rfl ?_
  refine At.ev (ev_eqi rfl rfl) rfl ?_
  refine At.ev (ev_move rfl) rfl ?_
  refine At.evg rfl rfl (fun hg => (ev_move rfl)) rfl rfl ?_
  refine At.evg rfl rfl (fun hg => (ev_ianO (i := 0) T.un35 T.sz41 rfl rfl (by first | rfl | exact (hIf0 (by first | omega | decide | (simp at hg; omega) | (simp at hl hg; omega) | (simp at hg ⊢; omega))).1 | exact (hIf1 (by first | omega | decide | (simp at hg; omega) | (simp at hl hg; omega) | (simp at hg ⊢; omega))).1 | exact (hIf2 (by first | omega | decide | (simp at hg; omega) | (simp at hl hg; omega) | (simp at hg ⊢; omega))).1) (by first | omega | decide | (simp at hg; omega) | (simp at hl hg; omega) | (simp at hg ⊢; omega)))) rfl rfl ?_
  refine At.evg rfl rfl (fun hg => (ev_fa T.fa41_0 rfl)) rfl rfl ?_
  refine At.evg rfl rfl (fun hg => (ev_load T.ld2 rfl (by (first | exact Cell.blk (by repeat (first | with_reducible exact Mem.head _ _ | apply Mem.tail)) rfl | exact Cell.blk0 (by repeat (first | with_reducible exact Mem.head _ _ | apply Mem.tail)) rfl | exact Cell.per (by repeat (first | with_reducible exact Mem.head _ _ | apply Mem.tail)) rfl | exact Cell.per0 (by repeat (first | with_reducible exact Mem.head _ _ | apply Mem.tail)) rfl | exact Cell.pin (by repeat (first | with_reducible exact Mem.head _ _ | apply Mem.tail)) (by first | omega | decide | (simp at hg; omega) | (simp at hl hg; omega) | (simp at hg ⊢; omega)) rfl | exact Cell.pin0 (by repeat (first | with_reducible exact Mem.head _ _ | apply Mem.tail)) (by first | omega | decide | (simp at hg; omega) | (simp at hl hg; omega) | (simp at hg ⊢; omega)) rfl)))) rfl rfl ?_
  refine At.evg rfl rfl (fun hg => (ev_eqi rfl rfl)) rfl rfl ?_
  refine At.ev (ev_pickG rfl rfl rfl rfl) rfl ?_
  refine At.ev (ev_move rfl) rfl ?_
  refine At.evg rfl rfl (fun hg => (ev_move rfl)) rfl rfl ?_
  refine At.evg rfl rfl (fun hg => (ev_ianO (i := 0) T.un35 T.sz41 rfl rfl (by first | rfl | exact (hIf0 (by first | omega | decide | (simp at hg; omega) | (simp at hl hg; omega) | (simp at hg ⊢; omega))).1 | exact (hIf1 (by first | omega | decide | (simp at hg; omega) | (simp at hl hg; omega) | (simp at hg ⊢; omega))).1 | exact (hIf2 (by first | omega | decide | (simp at hg; omega) | (simp at hl hg; omega) | (simp at hg ⊢; omega))).1) (by first | omega | decide | (simp at hg; omega) | (simp at hl hg; omega) | (simp at hg ⊢; omega)))) rfl rfl ?_
  refine At.evg rfl rfl (fun hg => (ev_fa T.fa41_1 rfl)) rfl rfl ?_
  refine At.evg rfl rfl (fun hg => (ev_load T.ld37 rfl (by (first | exact Cell.blk (by repeat (first | with_reducible exact Mem.head _ _ | apply Mem.tail)) rfl | exact Cell.blk0 (by repeat (first | with_reducible exact Mem.head _ _ | apply Mem.tail)) rfl | exact Cell.per (by repeat (first | with_reducible exact Mem.head _ _ | apply Mem.tail)) rfl | exact Cell.per0 (by repeat (first | with_reducible exact Mem.head _ _ | apply Mem.tail)) rfl | exact Cell.pin (by repeat (first | with_reducible exact Mem.head _ _ | apply Mem.tail)) (by first | omega | decide | (simp at hg; omega) | (simp at hl hg; omega) | (simp at hg ⊢; omega)) rfl | exact Cell.pin0 (by repeat (first | with_reducible exact Mem.head _ _ | apply Mem.tail)) (by first | omega | decide | (simp at hg; omega) | (simp at hl hg; omega) | (simp at hg ⊢; omega)) rfl)))) rfl rfl ?_
  refine At.evg rfl rfl (fun hg => (ev_lenl T.un37 rfl)) rfl rfl ?_
  refine At.evg rfl rfl (fun hg => (ev_eqi rfl rfl)) rfl rfl ?_
  refine At.ev (ev_pickG rfl rfl rfl rfl) rfl ?_
  refine At.ev (ev_move rfl) rfl ?_
  refine At.evg rfl rfl (fun hg => (ev_move rfl)) rfl rfl ?_
  refine At.evg rfl rfl (fun hg => (ev_ianO (i := 1) T.un35 T.sz41 rfl rfl (by first | rfl | exact (hIf0 (by first | omega | decide | (simp at hg; omega) | (simp at hl hg; omega) | (simp at hg ⊢; omega))).1 | exact (hIf1 (by first | omega | decide | (simp at hg; omega) | (simp at hl hg; omega) | (simp at hg ⊢; omega))).1 | exact (hIf2 (by first | omega | decide | (simp at hg; omega) | (simp at hl hg; omega) | (simp at hg ⊢; omega))).1) (by first | omega | decide | (simp at hg; omega) | (simp at hl hg; omega) | (simp at hg ⊢; omega)))) rfl rfl ?_
  refine At.evg rfl rfl (fun hg => (ev_fa T.fa41_0 rfl)) rfl rfl ?_
  refine At.evg rfl rfl (fun hg => (ev_load T.ld2 rfl (by (first | exact Cell.blk (by repeat (first | with_reducible exact Mem.head _ _ | apply Mem.tail)) rfl | exact Cell.blk0 (by repeat (first | with_reducible exact Mem.head _ _ | apply Mem.tail)) rfl | exact Cell.per (by repeat (first | with_reducible exact Mem.head _ _ | apply Mem.tail)) rfl | exact Cell.per0 (by repeat (first | with_reducible exact Mem.head _ _ | apply Mem.tail)) rfl | exact Cell.pin (by repeat (first | with_reducible exact Mem.head _ _ | apply Mem.tail)) (by first | omega | decide | (simp at hg; omega) | (simp at hl hg; omega) | (simp at hg ⊢; omega)) rfl | exact Cell.pin0 (by repeat (first | with_reducible exact Mem.head _ _ | apply Mem.tail)) (by first | omega | decide | (simp at hg; omega) | (simp at hl hg; omega) | (simp at hg ⊢; omega)) rfl)))) rfl rfl ?_
  refine At.evg rfl rfl (fun hg => (ev_eqi rfl rfl)) rfl rfl ?_
  refine At.ev (ev_pickG rfl rfl rfl rfl) rfl ?_
  refine At.ev (ev_move rfl) rfl ?_
  refine At.evg rfl rfl (fun hg => (ev_move rfl)) rfl rfl ?_
  refine At.evg rfl rfl (fun hg => (ev_ianO (i := 1) T.un35 T.sz41 rfl rfl (by first | rfl | exact (hIf0 (by first | omega | decide | (simp at hg; omega) | (simp at hl hg; omega) | (simp at hg ⊢; omega))).1 | exact (hIf1 (by first | omega | decide | (simp at hg; omega) | (simp at hl hg; omega) | (simp at hg ⊢; omega))).1 | exact (hIf2 (by first | omega | decide | (simp at hg; omega) | (simp at hl hg; omega) | (simp at hg ⊢; omega))).1) (by first | omega | decide | (simp at hg; omega) | (simp at hl hg; omega) | (simp at hg ⊢; omega)))) rfl rfl ?_
  refine At.evg rfl rfl (fun hg => (ev_fa T.fa41_2 rfl)) rfl rfl ?_
  refine At.evg rfl rfl (fun hg => (ev_load T.ld38 rfl (by (first | exact Cell.blk (by repeat (first | with_reducible exact Mem.head _ _ | apply Mem.tail)) rfl | exact Cell.blk0 (by repeat (first | with_reducible exact Mem.head _ _ | apply Mem.tail)) rfl | exact Cell.per (by repeat (first | with_reducible exact Mem.head _ _ | apply Mem.tail)) rfl | exact Cell.per0 (by repeat (first | with_reducible exact Mem.head _ _ | apply Mem.tail)) rfl | exact Cell.pin (by repeat (first | with_reducible exact Mem.head _ _ | apply Mem.tail)) (by first | omega | decide | (simp at hg; omega) | (simp at hl hg; omega) | (simp at hg ⊢; omega)) rfl | exact Cell.pin0 (by repeat (first | with_reducible exact Mem.head _ _ | apply Mem.tail)) (by first | omega | decide | (simp at hg; omega) | (simp at hl hg; omega) | (simp at hg ⊢; omega)) rfl)))) rfl rfl ?_
  refine At.evg rfl rfl (fun hg => (ev_lenl T.un38 rfl)) rfl rfl ?_
  refine At.evg rfl rfl (fun hg => (ev_eqi rfl rfl)) rfl rfl ?_
  refine At.ev (ev_pickG rfl rfl rfl rfl) rfl ?_
  refine At.ev (ev_move rfl) rfl ?_
  refine At.evg rfl rfl (fun hg => (ev_move rfl)) rfl rfl ?_
  refine At.evg rfl rfl (fun hg => (ev_ianO (i := 1) T.un35 T.sz41 rfl rfl (by first | rfl | exact (hIf0 (by first | omega | decide | (simp at hg; omega) | (simp at hl hg; omega) | (simp at hg ⊢; omega))).1 | exact (hIf1 (by first | omega | decide | (simp at hg; omega) | (simp at hl hg; omega) | (simp at hg ⊢; omega))).1 | exact (hIf2 (by first | omega | decide | (simp at hg; omega) | (simp at hl hg; omega) | (simp at hg ⊢; omega))).1) (by first | omega | decide | (simp at hg; omega) | (simp at hl hg; omega) | (simp at hg ⊢; omega)))) rfl rfl ?_
  refine At.evg rfl rfl (fun hg => (ev_fa T.fa41_2 rfl)) rfl rfl ?_
  refine At.evg rfl rfl (fun hg => (ev_load T.ld38 rfl (by (first | exact Cell.blk (by repeat (first | with_reducible exact Mem.head _ _ | apply Mem.tail)) rfl | exact Cell.blk0 (by repeat (first | with_reducible exact Mem.head _ _ | apply Mem.tail)) rfl | exact Cell.per (by repeat (first | with_reducible exact Mem.head _ _ | apply Mem.tail)) rfl | exact Cell.per0 (by repeat (first | with_reducible exact Mem.head _ _ | apply Mem.tail)) rfl | exact Cell.pin (by repeat (first | with_reducible exact Mem.head _ _ | apply Mem.tail)) (by first | omega | decide | (simp at hg; omega) | (simp at hl hg; omega) | (simp at hg ⊢; omega)) rfl | exact Cell.pin0 (by repeat (first | with_reducible exact Mem.head _ _ | apply Mem.tail)) (by first | omega | decide | (simp at hg; omega) | (simp at hl hg; omega) | (simp at hg ⊢; omega)) rfl)))) rfl rfl ?_
  refine At.evg rfl rfl (fun hg => (ev_ianO (i := 0) T.un38 T.sz43 rfl rfl (by first | rfl | exact (hIf0 (by first | omega | decide | (simp at hg; omega) | (simp at hl hg; omega) | (simp at hg ⊢; omega))).1 | exact (hIf1 (by first | omega | decide | (simp at hg; omega) | (simp at hl hg; omega) | (simp at hg ⊢; omega))).1 | exact (hIf2 (by first | omega | decide | (simp at hg; omega) | (simp at hl hg; omega) | (simp at hg ⊢; omega))).1) (by first | omega | decide | (simp at hg; omega) | (simp at hl hg; omega) | (simp at hg ⊢; omega)))) rfl rfl ?_
  refine At.evg rfl rfl (fun hg => (ev_fa T.fa43_1 rfl)) rfl rfl ?_
  refine At.evg rfl rfl (fun hg => (ev_load T.ld9 rfl (by (first | exact Cell.blk (by repeat (first | with_reducible exact Mem.head _ _ | apply Mem.tail)) rfl | exact Cell.blk0 (by repeat (first | with_reducible exact Mem.head _ _ | apply Mem.tail)) rfl | exact Cell.per (by repeat (first | with_reducible exact Mem.head _ _ | apply Mem.tail)) rfl | exact Cell.per0 (by repeat (first | with_reducible exact Mem.head _ _ | apply Mem.tail)) rfl | exact Cell.pin (by repeat (first | with_reducible exact Mem.head _ _ | apply Mem.tail)) (by first | omega | decide | (simp at hg; omega) | (simp at hl hg; omega) | (simp at hg ⊢; omega)) rfl | exact Cell.pin0 (by repeat (first | with_reducible exact Mem.head _ _ | apply Mem.tail)) (by first | omega | decide | (simp at hg; omega) | (simp at hl hg; omega) | (simp at hg ⊢; omega)) rfl)))) rfl rfl ?_
  refine At.evg rfl rfl (fun hg => (ev_eqs rfl rfl)) rfl rfl ?_
  refine At.ev (ev_pickG rfl rfl rfl rfl) rfl ?_
  refine At.ev (ev_move rfl) rfl ?_
  refine At.evg rfl rfl (fun hg => (ev_move rfl)) rfl rfl ?_
  refine At.evg rfl rfl (fun hg => (ev_ianO (i := 1) T.un35 T.sz41 rfl rfl (by first | rfl | exact (hIf0 (by first | omega | decide | (simp at hg; omega) | (simp at hl hg; omega) | (simp at hg ⊢; omega))).1 | exact (hIf1 (by first | omega | decide | (simp at hg; omega) | (simp at hl hg; omega) | (simp at hg ⊢; omega))).1 | exact (hIf2 (by first | omega | decide | (simp at hg; omega) | (simp at hl hg; omega) | (simp at hg ⊢; omega))).1) (by first | omega | decide | (simp at hg; omega) | (simp at hl hg; omega) | (simp at hg ⊢; omega)))) rfl rfl ?_
  refine At.evg rfl rfl (fun hg => (ev_fa T.fa41_3 rfl)) rfl rfl ?_
  refine At.evg rfl rfl (fun hg => (ev_load T.ld39 rfl (by (first | exact Cell.blk (by repeat (first | with_reducible exact Mem.head _ _ | apply Mem.tail)) rfl | exact Cell.blk0 (by repeat (first | with_reducible exact Mem.head _ _ | apply Mem.tail)) rfl | exact Cell.per (by repeat (first | with_reducible exact Mem.head _ _ | apply Mem.tail)) rfl | exact Cell.per0 (by repeat (first | with_reducible exact Mem.head _ _ | apply Mem.tail)) rfl | exact Cell.pin (by repeat (first | with_reducible exact Mem.head _ _ | apply Mem.tail)) (by first | omega | decide | (simp at hg; omega) | (simp at hl hg; omega) | (simp at hg ⊢; omega)) rfl | exact Cell.pin0 (by repeat (first | with_reducible exact Mem.head _ _ | apply Mem.tail)) (by first | omega | decide | (simp at hg; omega) | (simp at hl hg; omega) | (simp at hg ⊢; omega)) rfl)))) rfl rfl ?_
  refine At.evg rfl rfl (fun hg => (ev_lenl T.un39 rfl)) rfl rfl ?_
  refine At.evg rfl rfl (fun hg => (ev_eqi rfl rfl)) rfl rfl ?_
  refine At.ev (ev_pickG rfl rfl rfl rfl) rfl ?_
  refine At.ev (ev_move rfl) rfl ?_
  refine At.evg rfl rfl (fun hg => (ev_move rfl)) rfl rfl ?_
  refine At.evg rfl rfl (fun hg => (ev_ianO (i := 1) T.un35 T.sz41 rfl rfl (by first | rfl | exact (hIf0 (by first | omega | decide | (simp at hg; omega) | (simp at hl hg; omega) | (simp at hg ⊢; omega))).1 | exact (hIf1 (by first | omega | decide | (simp at hg; omega) | (simp at hl hg; omega) | (simp at hg ⊢; omega))).1 | exact (hIf2 (by first | omega | decide | (simp at hg; omega) | (simp at hl hg; omega) | (simp at hg ⊢; omega))).1) (by first | omega | decide | (simp at hg; omega) | (simp at hl hg; omega) | (simp at hg ⊢; omega)))) rfl rfl ?_
  refine At.evg rfl rfl (fun hg => (ev_fa T.fa41_3 rfl)) rfl rfl ?_
  refine At.evg rfl rfl (fun hg => (ev_load T.ld39 rfl (by (first | exact Cell.blk (by repeat (first | with_reducible exact Mem.head _ _ | apply Mem.tail)) rfl | exact Cell.blk0 (by repeat (first | with_reducible exact Mem.head _ _ | apply Mem.tail)) rfl | exact Cell.per (by repeat (first | with_reducible exact Mem.head _ _ | apply Mem.tail)) rfl | exact Cell.per0 (by repeat (first | with_reducible exact Mem.head _ _ | apply Mem.tail)) rfl | exact Cell.pin (by repeat (first | with_reducible exact Mem.head _ _ | apply Mem.tail)) (by first | omega | decide | (simp at hg; omega) | (simp at hl hg; omega) | (simp at hg ⊢; omega)) rfl | exact Cell.pin0 (by repeat (first | with_reducible exact Mem.head _ _ | apply Mem.tail)) (by first | omega | decide | (simp at hg; omega) | (simp at hl hg; omega) | (simp at hg ⊢; omega)) rfl)))) rfl rfl ?_
  refine At.evg rfl rfl (fun hg => (ev_ianO (i := 0) T.un39 T.sz45 rfl rfl (by first | rfl | exact (hIf0 (by first | omega | decide | (simp at hg; omega) | (simp at hl hg; omega) | (simp at hg ⊢; omega))).1 | exact (hIf1 (by first | omega | decide | (simp at hg; omega) | (simp at hl hg; omega) | (simp at hg ⊢; omega))).1 | exact (hIf2 (by first | omega | decide | (simp at hg; omega) | (simp at hl hg; omega) | (simp at hg ⊢; omega))).1) (by first | omega | decide | (simp at hg; omega) | (simp at hl hg; omega) | (simp at hg ⊢; omega)))) rfl rfl ?_
  refine At.evg rfl rfl (fun hg => (ev_fa T.fa45_1 rfl)) rfl rfl ?_
  refine At.evg rfl rfl (fun hg => (ev_load T.ld4 rfl (by (first | exact Cell.blk (by repeat (first | with_reducible exact Mem.head _ _ | apply Mem.tail)) rfl | exact Cell.blk0 (by repeat (first | with_reducible exact Mem.head _ _ | apply Mem.tail)) rfl | exact Cell.per (by repeat (first | with_reducible exact Mem.head _ _ | apply Mem.tail)) rfl | exact Cell.per0 (by repeat (first | with_reducible exact Mem.head _ _ | apply Mem.tail)) rfl | exact Cell.pin (by repeat (first | with_reducible exact Mem.head _ _ | apply Mem.tail)) (by first | omega | decide | (simp at hg; omega) | (simp at hl hg; omega) | (simp at hg ⊢; omega)) rfl | exact Cell.pin0 (by repeat (first | with_reducible exact Mem.head _ _ | apply Mem.tail)) (by first | omega | decide | (simp at hg; omega) | (simp at hl hg; omega) | (simp at hg ⊢; omega)) rfl)))) rfl rfl ?_
  refine At.ev (ev_pickG rfl rfl rfl rfl) rfl ?_
  refine At.ev (ev_assign rfl) rfl ?_
  refine At.nil ?_
  refine At.thenN ?_
  refine At.retC ?_
  refine At.ret (rs := [.tmp 0]) rfl (Res.tmp rfl Res.nil) ?_
  exact Imp.pur (by rfl) (Imp.nil _)

/-- repartee/reparteelaw40.ReplayParts -/
theorem law40_ReplayParts (ao bo : Option Addr) (c d : Nat) (a b : List Event) : Does Try.prog 3 [.slice ao a.length c, .slice bo b.length d] [per (rdSl ao a), per (rdSl bo b)] (fun v => Sx.pur (v = .bool true)) := by
  refine Does.enter Try.func3 rfl rfl ?_
  intro E
  refine At.seq ?_
  refine At.region ?_
  refine At.ev (ev_assign rfl) rfl ?_
  refine At.nil ?_
  refine At.thenN ?_
  refine At.seq ?_
  refine At.region ?_
  refine At.ev (ev_move rfl) rfl ?_
  refine At.call (goes_func cf4 rfl) (law30_Few ao c 10 a (by decide)) (by (repeat (first | exact Split.nil _ | (with_reducible apply Split.per; · repeat (first | with_reducible exact Mem.head _ _ | apply Mem.tail)) | (with_reducible apply Split.own; · repeat (first | with_reducible exact At1.head _ _ | apply At1.tail))))) rfl ?_
  intro v
  refine At.sl ?_
  rintro ao1 c1 rfl hc1
  refine At.ev (ev_move rfl) rfl ?_
  refine At.call (goes_func cf4 rfl) (law30_Few bo d 10 b (by decide)) (by (repeat (first | exact Split.nil _ | (with_reducible apply Split.per; · repeat (first | with_reducible exact Mem.head _ _ | apply Mem.tail)) | (with_reducible apply Split.own; · repeat (first | with_reducible exact At1.head _ _ | apply At1.tail))))) rfl ?_
  intro v
  refine At.sl ?_
  rintro ao2 c2 rfl hc2
  refine At.ev (ev_assign rfl) rfl ?_
  refine At.ev (ev_assign rfl) rfl ?_
  refine At.nil ?_
  refine At.thenN ?_
  refine At.seq ?_
  refine At.region ?_
  refine At.ev (ev_move rfl) rfl ?_
  refine At.ev (ev_move rfl) rfl ?_
  refine At.call (goes_func cf5 rfl) (replay_Apart _ _ _ _ _ _) (by (repeat (first | exact Split.nil _ | (with_reducible apply Split.per; · repeat (first | with_reducible exact Mem.head _ _ | apply Mem.tail)) | (with_reducible apply Split.own; · repeat (first | with_reducible exact At1.head _ _ | apply At1.tail))))) rfl ?_
  rintro _
  refine At.pur ?_
  rintro rfl
  refine At.ev (ev_move rfl) rfl ?_
  refine At.ev (ev_ext rfl rfl) rfl ?_
  refine At.ev (ev_ext rfl rfl) rfl ?_
  refine At.ev (ev_assign rfl) rfl ?_
  refine At.ev (ev_assign rfl) rfl ?_
  refine At.nil ?_
  refine At.thenN ?_
  refine At.seq ?_
  refine At.region ?_
  refine At.ev (ev_move rfl) rfl ?_
  refine At.ev (ev_move rfl) rfl ?_
  refine At.call (goes_func cf6 rfl) (ref40_Apart _ _ _ _ _ _) (by (repeat (first | exact Split.nil _ | (with_reducible apply Split.per; · repeat (first | with_reducible exact Mem.head _ _ | apply Mem.tail)) | (with_reducible apply Split.own; · repeat (first | with_reducible exact At1.head _ _ | apply At1.tail))))) rfl ?_
  rintro _
  refine At.pur ?_
  rintro rfl
  refine At.ev (ev_assign rfl) rfl ?_
  refine At.nil ?_
  refine At.thenN ?_
  refine At.seq ?_
  refine At.region ?_
  refine At.ev (ev_move rfl) rfl ?_
  refine At.ev (ev_move rfl) rfl ?_
  refine At.ev (ev_geq rfl rfl) rfl ?_
  refine At.ev (ev_eq rfl rfl (EQ.bool T.un4) rfl) rfl ?_
  refine At.ev (ev_move rfl) rfl ?_
  refine At.evg rfl rfl (fun hg => (ev_move rfl)) rfl rfl ?_
  refine At.evg rfl rfl (fun hg => (ev_move rfl)) rfl rfl ?_
  refine At.evG rfl (Lv.nest rfl (Lv.base rfl)) (fun hl hg => (ev_move rfl)) rfl rfl ?_
  refine At.evG rfl (Lv.nest rfl (Lv.base rfl)) (fun hl hg => (ev_move rfl)) rfl rfl ?_
  refine At.evG rfl (Lv.nest rfl (Lv.base rfl)) (fun hl hg => (ev_eqi rfl rfl)) rfl rfl ?_
  refine At.evg rfl rfl (fun hg => (ev_pickG rfl rfl rfl rfl)) rfl rfl ?_
  refine At.evg rfl rfl (fun hg => (ev_move rfl)) rfl rfl ?_
  refine At.evG rfl (Lv.nest rfl (Lv.base rfl)) (fun hl hg => (ev_move rfl)) rfl rfl ?_
  refine At.evG rfl (Lv.nest rfl (Lv.base rfl)) (fun hl hg => (ev_not rfl)) rfl rfl ?_
  refine At.evG rfl (Lv.nest rfl (Lv.base rfl)) (fun hl hg => (ev_move rfl)) rfl rfl ?_
  refine At.evG rfl (Lv.nest rfl (Lv.nest rfl (Lv.base rfl))) (fun hl hg => (ev_move rfl)) rfl rfl ?_
  refine At.evG rfl (Lv.nest rfl (Lv.nest rfl (Lv.base rfl))) (fun hl hg => (ev_eqi rfl rfl)) rfl rfl ?_
  refine At.evG rfl (Lv.nest rfl (Lv.base rfl)) (fun hl hg => (ev_pickG rfl rfl rfl rfl)) rfl rfl ?_
  refine At.evg rfl rfl (fun hg => (ev_pickG rfl rfl rfl rfl)) rfl rfl ?_
  refine At.ev (ev_pickG rfl rfl rfl rfl) rfl ?_
  refine At.ev (ev_move rfl) rfl ?_
  refine At.evg rfl rfl (fun hg => (ev_move rfl)) rfl rfl ?_
  refine At.evg rfl rfl (fun hg => (ev_move rfl)) rfl rfl ?_
  refine At.evg rfl rfl (fun hg => (ev_move rfl)) rfl rfl ?_
  refine At.callg rfl rfl (fun hg => goes_func cf7 rfl) (fun hg => (Qc.of (ref29_Same _ _ _ _ _ _) (.per (by (repeat (first | with_reducible exact Mem.head _ _ | apply Mem.tail))) (.per (by (repeat (first | with_reducible exact Mem.head _ _ | apply Mem.tail))) (.nil _))) (fun v E w h => ⟨h.purE.1, h.purE.2⟩))) rfl rfl ?_
  refine At.evg rfl rfl (fun hg => (ev_ne rfl rfl (EQ.bool T.un4) rfl)) rfl rfl ?_
  refine At.ev (ev_pickG rfl rfl rfl rfl) rfl ?_
  refine At.ev (ev_move rfl) rfl ?_
  refine At.callg rfl rfl (fun hg => goes_func cf8 rfl) (fun hg => (Qc.pure law40_lives)) rfl rfl ?_
  refine At.ev (ev_pickG rfl rfl rfl rfl) rfl ?_
  refine At.ev (ev_assign rfl) rfl ?_
  refine At.nil ?_
  refine At.thenN ?_
  refine At.retC ?_
  refine At.ret (rs := [.tmp 4]) rfl (Res.tmp rfl Res.nil) ?_
  refine Imp.pur ?_ (Imp.nil _)
  unfold apartE apartR
  rcases hp : partAt (fewE a 10) (fewE b 10) with _ | k
  · have := partAt_eq.1 hp
    simp [this, retv]
  · have hne : fewE a 10 ≠ fewE b 10 := fun e => by rw [partAt_eq.2 e] at hp; cases hp
    simp [hne, retv]

end Go.Proofs.Ytcgjkdfgemjidaa
