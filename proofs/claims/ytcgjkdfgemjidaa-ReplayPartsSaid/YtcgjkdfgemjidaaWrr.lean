import Derived.Test.YtcgjkdfgemjidaaWrq
set_option linter.unusedVariables false
set_option linter.unusedSimpArgs false
namespace Go.Proofs.Ytcgjkdfgemjidaa
open Go Go.Sx Go.Proofs
set_option maxRecDepth 100000

theorem At.rndC {E : En} {N : Nat} {K : Kl} {Hs m1 m2 m3 m4 : List Asn} {G : Act → World → Prop} {b : Nat} {v1 v2 v3 : Value} {c1 c2 c3 : List Value} (r : Round)
    (h0 : At1 Hs (blk b [.int .i64 r.ticks, v1, v2, v3, .int .i64 r.drain, .bool r.abort] 41) m1) (h1 : At1 m1 (own v1 3 1 r.opens.length c1) m2) (h2 : At1 m2 (own v2 43 3 r.offers.length c2) m3) (h3 : At1 m3 (own v3 45 4 r.reports.length c3) m4)
    (p1 : Mem (Sx.per (relLP r.opens c1)) m2) (p2 : Mem (Sx.per (relLP r.offers c2)) m3) (p3 : Mem (Sx.per (relLP r.reports c3)) m4) (k : At E N K (rnd b r :: m4) G) : At E N K Hs G :=
  At.weak (Imp.ex ((v1, v2, v3), c1, c2, c3) (Imp.stars (Imp.one h0 (Imp.one h1 (Imp.per p1 (Imp.one h2 (Imp.per p2 (Imp.one h3 (Imp.per p3 (Imp.refl _))))))))) ) k
theorem At.rndO {E : En} {N : Nat} {K : Kl} {Hs m : List Asn} {G : Act → World → Prop} {b : Nat} {r : Round} (h0 : At1 Hs (rnd b r) m)
    (k : ∀ v1 v2 v3 c1 c2 c3, At E N K (blk b [.int .i64 r.ticks, v1, v2, v3, .int .i64 r.drain, .bool r.abort] 41 :: own v1 3 1 r.opens.length c1 :: Sx.per (relLP r.opens c1) :: own v2 43 3 r.offers.length c2 :: Sx.per (relLP r.offers c2) :: own v3 45 4 r.reports.length c3 :: Sx.per (relLP r.reports c3) :: m) G) : At E N K Hs G :=
  At.front h0 (At.ex fun ⟨⟨v1, v2, v3⟩, c1, c2, c3⟩ => At.stars (k v1 v2 v3 c1 c2 c3))
/-- The recorder: who is live it keeps in a map. -/
def rcd (c : Nat) (was : Int) : Asn := ex fun p : Nat × List (Int × Value) => star (blk c [.int .i64 was, .map (some p.1)] 49) (mp p.1 p.2)
theorem tLeft_b {a n : Int} (h : i64 a) (k : i64 n) : i64 (tLeft a n) := by
  have := tOwn_b h; have := tOwn_b k; unfold tLeft never i64; split
  · omega
  · split <;> omega

/-- (*repartee/replay.recorder).round -/
theorem replay_round0 (c : Nat) (was : Int) (ao : Option Addr) (c0 : Nat) (l : List Event) (hwas : i64 was) (hl : 0 < l.length) (hb : l.length ≤ 1000000) (hc : l.length ≤ c0) (hnd : ∀ x ∈ l, ¬ x.kind = 5 ∧ ¬ x.kind = 7) : Does Try.prog 13 [.pointer (some ⟨c, 0, none⟩), .slice ao l.length c0] [rcd c was, Sx.per (rdSl ao l)] (fun v => star (ag v (round0 was l)) (rcd c (l[0]'hl).tick)) := by
  refine Does.enter Try.func13 rfl rfl ?_
  intro E
  refine At.lenb (α := Event) (xs := l) (by repeat (first | with_reducible exact Mem.head _ _ | apply Mem.tail)) ?_
  unfold big
  intro hll
  refine At.get (α := Event) (by repeat (first | with_reducible exact Mem.head _ _ | apply Mem.tail)) 0 hl 12 rfl ?_
  intro ade e cs eq he
  cases eq
  refine openEvent (x := e) (by repeat (first | with_reducible exact Mem.head _ _ | apply Mem.tail)) ?_
  intro hoe eq
  subst eq
  have hte : i64 e.tick := hoe.2.2.2.1
  refine At.seq ?_
  refine At.region ?_
  refine At.ch (ch_alloc T.zv41 _) rfl ?_
  rintro _ _ ⟨b0, rfl, rfl⟩
  refine At.nil ?_
  refine At.thenN ?_
  refine At.seq ?_
  refine At.region ?_
  refine At.ev (ev_move rfl) rfl ?_
  refine At.ev (ev_ian (i := 0) T.un22 T.sz33 rfl rfl (by omega)) rfl ?_
  refine At.ev (ev_fa T.fa33_3 rfl) rfl ?_
  refine At.ev (ev_load T.ld2 rfl (by (first | exact Cell.blk (by repeat (first | with_reducible exact Mem.head _ _ | apply Mem.tail)) rfl | exact Cell.blk0 (by repeat (first | with_reducible exact Mem.head _ _ | apply Mem.tail)) rfl | exact Cell.per (by repeat (first | with_reducible exact Mem.head _ _ | apply Mem.tail)) rfl | exact Cell.per0 (by repeat (first | with_reducible exact Mem.head _ _ | apply Mem.tail)) rfl | exact Cell.pin (by repeat (first | with_reducible exact Mem.head _ _ | apply Mem.tail)) (by first | omega | decide | (simp at hg; omega) | (simp at hl hg; omega) | (simp at hg ⊢; omega)) rfl | exact Cell.pin0 (by repeat (first | with_reducible exact Mem.head _ _ | apply Mem.tail)) (by first | omega | decide | (simp at hg; omega) | (simp at hl hg; omega) | (simp at hg ⊢; omega)) rfl))) rfl ?_
  refine At.ev (ev_assign rfl) rfl ?_
  refine At.ev (ev_assign rfl) rfl ?_
  refine At.nil ?_
  refine At.thenN ?_
  refine At.seq ?_
  refine At.region ?_
  refine At.front (p := rcd c was) (by repeat (first | with_reducible exact At1.head _ _ | apply At1.tail)) (At.ex ?_)
  rintro ⟨mb, m⟩
  refine At.star ?_
  dsimp only
  refine At.ev (ev_move rfl) rfl ?_
  refine At.ev (ev_move rfl) rfl ?_
  refine At.ev (ev_nil rfl) rfl ?_
  refine At.ev (ev_fa T.fa49_0 rfl) rfl ?_
  refine At.ev (ev_load T.ld2 rfl (by (first | exact Cell.blk (by repeat (first | with_reducible exact Mem.head _ _ | apply Mem.tail)) rfl | exact Cell.blk0 (by repeat (first | with_reducible exact Mem.head _ _ | apply Mem.tail)) rfl | exact Cell.per (by repeat (first | with_reducible exact Mem.head _ _ | apply Mem.tail)) rfl | exact Cell.per0 (by repeat (first | with_reducible exact Mem.head _ _ | apply Mem.tail)) rfl | exact Cell.pin (by repeat (first | with_reducible exact Mem.head _ _ | apply Mem.tail)) (by first | omega | decide | (simp at hg; omega) | (simp at hl hg; omega) | (simp at hg ⊢; omega)) rfl | exact Cell.pin0 (by repeat (first | with_reducible exact Mem.head _ _ | apply Mem.tail)) (by first | omega | decide | (simp at hg; omega) | (simp at hl hg; omega) | (simp at hg ⊢; omega)) rfl))) rfl ?_
  refine At.callq (goes_func cf14 rfl) (Qc.pure (tick_Left _ _ (by assumption) (by assumption))) rfl ?_
  skip
  refine At.ev (ev_build T.pl41 rfl ⟨rfl, trivial⟩ ⟨rfl, by decide, trivial⟩) rfl ?_
  refine At.ch (ch_alloc T.zv41 _) rfl ?_
  rintro _ _ ⟨b, rfl, rfl⟩
  refine At.ch0 (ch_storeA (n := 6) T.sz41 rfl rfl rfl (by exact ⟨rfl, rfl, rfl, rfl, rfl, rfl, trivial⟩) (by repeat (first | with_reducible exact At1.head _ _ | apply At1.tail)) rfl (by rfl) _) ?_
  rintro _ _ rfl
  refine At.nil ?_
  refine At.thenN ?_
  refine At.seq ?_
  refine At.region ?_
  have hti := tLeft_b hoe.2.2.2.1 hwas
  refine At.norm (b := b) [.int .i64 (tLeft e.tick was), .slice none 0 0, .slice none 0 0, .slice none 0 0, .int .i64 0, .bool false] (by repeat (first | with_reducible exact At1.head _ _ | apply At1.tail)) (by rfl) ?_
  refine At.ev (ev_move rfl) rfl ?_
  refine At.ev (ev_move rfl) rfl ?_
  refine At.ev (ev_nil rfl) rfl ?_
  refine At.ev (ev_fa T.fa49_0 rfl) rfl ?_
  refine At.ch0 (ch_store1 T.sz2 rfl rfl (add_lit _ _ _) rfl rfl (by repeat (first | with_reducible exact At1.head _ _ | apply At1.tail)) (by rfl) _) ?_
  rintro _ _ rfl
  refine At.nil ?_
  refine At.norm (b := c) [.int .i64 e.tick, .map (some mb)] (by repeat (first | with_reducible exact At1.head _ _ | apply At1.tail)) (by rfl) ?_
  refine At.thenN ?_
  refine At.seq ?_
  refine At.seq ?_
  refine At.region ?_
  refine At.ev (ev_move rfl) rfl ?_
  refine At.ev (ev_slsl (l := 1) (h := l.length) (n' := ((l.take l.length).drop 1).length) (c' := c0 - 1) T.un22 T.sz33 rfl rfl rfl (by omega) (Or.inl rfl) (by simp) rfl) rfl ?_
  refine At.part (α := Event) (ao := some ade) (xs := l) c0 1 l.length 12 rfl (by repeat (first | with_reducible exact Mem.head _ _ | apply Mem.tail)) hc (by omega) ?_
  obtain ⟨ao1, ha1⟩ : ∃ ao1, ao1 = slAt (some ade) c0 1 12 := ⟨_, rfl⟩
  rw [← ha1]
  obtain ⟨xs, hxs⟩ : ∃ xs, xs = (l.take l.length).drop 1 := ⟨_, rfl⟩
  rw [← hxs]
  refine At.ev (ev_lenl T.un22 rfl) rfl ?_
  refine At.ev (ev_move rfl) rfl ?_
  refine At.nil ?_
  refine At.thenN ?_
  refine At.block ?_
  have hxl : xs.length = l.length - 1 := by rw [hxs]; simp
  obtain ⟨r0, hr0⟩ : ∃ r0 : Round, r0 = { ticks := tLeft e.tick was, opens := [], offers := [], reports := [], drain := 0, abort := false } := ⟨_, rfl⟩
  refine At.ownNew Int 3 1 ?_
  refine At.ownNew Offer 43 3 ?_
  refine At.ownNew Report 45 4 ?_
  refine At.rndC (b := b) { ticks := tLeft e.tick was, opens := [], offers := [], reports := [], drain := 0, abort := false } (by repeat (first | with_reducible exact At1.head _ _ | apply At1.tail)) (by repeat (first | with_reducible exact At1.head _ _ | apply At1.tail)) (by repeat (first | with_reducible exact At1.head _ _ | apply At1.tail)) (by repeat (first | with_reducible exact At1.head _ _ | apply At1.tail)) (by repeat (first | with_reducible exact Mem.head _ _ | apply Mem.tail)) (by repeat (first | with_reducible exact Mem.head _ _ | apply Mem.tail)) (by repeat (first | with_reducible exact Mem.head _ _ | apply Mem.tail)) ?_
  rw [← hr0]
  refine At.loop (ι := Nat × List (Int × Value)) (fun i => xs.length - i.1) (fun i => [(0, .val (.pointer (some ⟨c, 0, none⟩))), (1, .val (.slice (some ade) l.length c0)), (4, .val (.pointer (some ⟨b0, 0, none⟩))), (5, .val (.int .i64 e.tick)), (7, .val (.pointer (some ⟨b, 0, none⟩))), (26, .val (.slice ao1 xs.length (c0 - 1))), (27, .val (.int .i64 xs.length)), (28, .val (.int .i64 i.1))])
    (fun i => [Sx.pur (i.1 ≤ xs.length), rnd b ((xs.take i.1).foldl roundStep0 r0), blk c [.int .i64 e.tick, .map (some mb)] 49, mp mb i.2, blk b0 [.int .i64 0, .slice none 0 0, .slice none 0 0, .slice none 0 0, .int .i64 0, .bool false] 41, Sx.per (rdSl (some ade) l), Sx.per (rdSl ao1 xs)])
    (0, m) ⟨rfl, rfl, rfl, rfl, rfl, rfl, rfl, rfl, trivial⟩ (Imp.pur (by simp) (by rw [show (xs.take (0, m).1).foldl roundStep0 r0 = r0 from rfl]; exact Imp.one (by repeat (first | with_reducible exact At1.head _ _ | apply At1.tail)) (Imp.one (by repeat (first | with_reducible exact At1.head _ _ | apply At1.tail)) (Imp.one (by repeat (first | with_reducible exact At1.head _ _ | apply At1.tail)) (Imp.one (by repeat (first | with_reducible exact At1.head _ _ | apply At1.tail)) (Imp.per (by repeat (first | with_reducible exact Mem.head _ _ | apply Mem.tail)) (Imp.per (by repeat (first | with_reducible exact Mem.head _ _ | apply Mem.tail)) (Imp.nil _)))))))) ?_
  rintro ⟨k, mm⟩
  refine At.pur ?_
  intro hk
  dsimp only at hk
  obtain ⟨r, hr⟩ : ∃ r, r = (xs.take k).foldl roundStep0 r0 := ⟨_, rfl⟩
  dsimp only
  rw [← hr]
  have hfb := fold0_b (xs.take k) r0
  rw [← hr] at hfb
  have hl0 : r0.opens.length = 0 ∧ r0.offers.length = 0 ∧ r0.reports.length = 0 := by rw [hr0]; exact ⟨rfl, rfl, rfl⟩
  have hrok : r.ok := ⟨by rw [hfb.2.2.2.1, hr0]; exact hti, by rw [hfb.2.2.2.2, hr0]; exact i64_lit 0 (by decide)⟩
  have hlt' : (xs.take k).length ≤ k := by simp; omega
  refine At.seq ?_
  refine At.region ?_
  refine At.ev (ev_lss rfl rfl) rfl ?_
  refine At.nil ?_
  refine At.thenN ?_
  refine At.seq ?_
  refine At.condD rfl ?_ ?_
  · intro h0
    refine At.get (α := Event) (xs := xs) (by repeat (first | with_reducible exact Mem.head _ _ | apply Mem.tail)) k (by omega) 12 rfl ?_
    intro adx x cs eq hx
    cases eq
    refine openEvent (x := x) (by repeat (first | with_reducible exact Mem.head _ _ | apply Mem.tail)) ?_
    intro hox eq
    subst eq
    have hndx := hnd x (by have := List.mem_of_getElem? hx; rw [hxs] at this; exact List.mem_of_mem_take (List.mem_of_mem_drop this))
    have hne : ¬ x.kind = 5 := hndx.1
    refine At.get (α := Event) (xs := l) (by repeat (first | with_reducible exact Mem.head _ _ | apply Mem.tail)) k (by omega) 12 rfl ?_
    intro ady y cs eq hy
    cases eq
    refine openEvent (x := y) (by repeat (first | with_reducible exact Mem.head _ _ | apply Mem.tail)) ?_
    intro hoy eq
    subst eq
    refine At.rndO (b := b) (by repeat (first | with_reducible exact At1.head _ _ | apply At1.tail)) ?_
    intro v1 v2 v3 c1 c2 c3
    refine At.skip ?_
    refine At.thenN ?_
    refine At.seq ?_
    refine At.block ?_
    refine At.seq ?_
    refine At.region ?_
    refine At.ev (ev_move rfl) rfl ?_
    refine At.ev (ev_ian T.un22 T.sz33 rfl rfl (by omega)) rfl ?_
    refine At.ev (ev_loadA T.ld33 rfl rfl (by (first | exact Cells.blk0 (by repeat (first | with_reducible exact Mem.head _ _ | apply Mem.tail)) | exact Cells.per0 (by repeat (first | with_reducible exact Mem.head _ _ | apply Mem.tail)) | exact Cells.pin0 (by repeat (first | with_reducible exact Mem.head _ _ | apply Mem.tail)) (by first | omega | decide | (simp at hg; omega) | (simp at hl hg; omega) | (simp at hg ⊢; omega))))) rfl ?_
    refine At.ch (ch_alloc T.zv33 _) rfl ?_
    rintro _ _ ⟨bx, rfl, rfl⟩
    refine At.ev (ev_assign rfl) rfl ?_
    refine At.ch0 (ch_storeA (n := 12) T.sz33 rfl rfl rfl (by exact ⟨rfl, rfl, rfl, rfl, rfl, rfl, rfl, rfl, rfl, rfl, rfl, rfl, trivial⟩) (by repeat (first | with_reducible exact At1.head _ _ | apply At1.tail)) rfl (by rfl) _) ?_
    rintro _ _ rfl
    refine At.nil ?_
    refine At.thenN ?_
    refine At.seq ?_
    refine At.seq ?_
    refine At.region ?_
    refine At.norm (b := bx) x.cs (by repeat (first | with_reducible exact At1.head _ _ | apply At1.tail)) (by rfl) ?_
    refine At.ev (ev_fa T.fa33_0 rfl) rfl ?_
    refine At.ev (ev_load T.ld3 rfl (by (first | exact Cell.blk (by repeat (first | with_reducible exact Mem.head _ _ | apply Mem.tail)) rfl | exact Cell.blk0 (by repeat (first | with_reducible exact Mem.head _ _ | apply Mem.tail)) rfl | exact Cell.per (by repeat (first | with_reducible exact Mem.head _ _ | apply Mem.tail)) rfl | exact Cell.per0 (by repeat (first | with_reducible exact Mem.head _ _ | apply Mem.tail)) rfl | exact Cell.pin (by repeat (first | with_reducible exact Mem.head _ _ | apply Mem.tail)) (by first | omega | decide | (simp at hg; omega) | (simp at hl hg; omega) | (simp at hg ⊢; omega)) rfl | exact Cell.pin0 (by repeat (first | with_reducible exact Mem.head _ _ | apply Mem.tail)) (by first | omega | decide | (simp at hg; omega) | (simp at hl hg; omega) | (simp at hg ⊢; omega)) rfl))) rfl ?_
    refine At.nil ?_
    refine At.thenN ?_
    refine At.block ?_
    refine At.seq ?_
    refine At.region ?_
    refine At.ev (ev_eqi rfl rfl) rfl ?_
    refine At.ev (ev_assign rfl) rfl ?_
    refine At.nil ?_
    refine At.thenN ?_
    refine At.cond rfl ?_ ?_
    · intro h1
      simp only [decide_eq_true_eq, decide_eq_false_iff_not, Bool.not_eq_true', Bool.not_eq_false', Bool.cond_false_right, Bool.cond_true_left, Bool.and_eq_true, Bool.or_eq_true, Bool.and_eq_false_iff, Bool.or_eq_false_iff, Bool.not_true, Bool.not_false] at h1
      refine At.seq ?_
      refine At.drawH (.q0 0 (.q0 1 (.q0 2 (.q1 3 (.q0 4 (.q1 5 (.br 6 (.nil) (.stop)))))))) (fun j => !([6] : List Nat).contains j) mixed (by kernel_rfl) (by kernel_rfl) (NoP.thn (NoP.blk (NoP.thn (NoP.blk (NoP.thn (NoP.thn (NoP.blk (NoP.thn NoP.body)))))))) ?_
      refine At.c0 rfl (ev_move rfl) rfl ?_
      refine At.c0 rfl (ev_nil rfl) rfl ?_
      refine At.c0 rfl (ev_fa T.fa49_1 rfl) rfl ?_
      refine At.c1 rfl (Imp.refl _) (ev_load T.ld47 rfl (by (first | exact Cell.blk (by repeat (first | with_reducible exact Mem.head _ _ | apply Mem.tail)) rfl | exact Cell.blk0 (by repeat (first | with_reducible exact Mem.head _ _ | apply Mem.tail)) rfl | exact Cell.per (by repeat (first | with_reducible exact Mem.head _ _ | apply Mem.tail)) rfl | exact Cell.per0 (by repeat (first | with_reducible exact Mem.head _ _ | apply Mem.tail)) rfl | exact Cell.pin (by repeat (first | with_reducible exact Mem.head _ _ | apply Mem.tail)) (by first | omega | decide | (simp at hg; omega) | (simp at hl hg; omega) | (simp at hg ⊢; omega)) rfl | exact Cell.pin0 (by repeat (first | with_reducible exact Mem.head _ _ | apply Mem.tail)) (by first | omega | decide | (simp at hg; omega) | (simp at hl hg; omega) | (simp at hg ⊢; omega)) rfl))) rfl ?_
      refine At.c0 rfl (ev_fa T.fa33_1 rfl) rfl ?_
      refine At.c1 rfl (Imp.refl _) (ev_load T.ld3 rfl (by (first | exact Cell.blk (by repeat (first | with_reducible exact Mem.head _ _ | apply Mem.tail)) rfl | exact Cell.blk0 (by repeat (first | with_reducible exact Mem.head _ _ | apply Mem.tail)) rfl | exact Cell.per (by repeat (first | with_reducible exact Mem.head _ _ | apply Mem.tail)) rfl | exact Cell.per0 (by repeat (first | with_reducible exact Mem.head _ _ | apply Mem.tail)) rfl | exact Cell.pin (by repeat (first | with_reducible exact Mem.head _ _ | apply Mem.tail)) (by first | omega | decide | (simp at hg; omega) | (simp at hl hg; omega) | (simp at hg ⊢; omega)) rfl | exact Cell.pin0 (by repeat (first | with_reducible exact Mem.head _ _ | apply Mem.tail)) (by first | omega | decide | (simp at hg; omega) | (simp at hl hg; omega) | (simp at hg ⊢; omega)) rfl))) rfl ?_
      refine At.c2 rfl ?_ ?_
      · intro w0
        refine At.ch0 (ch_mapUpdate T.un47 T.un3 rfl rfl rfl (by repeat (first | with_reducible exact At1.head _ _ | apply At1.tail)) _) ?_
        rintro _ _ rfl
        refine At.nil ?_
        refine At.cn (fun h => absurd h (by decide)) ?_
        refine At.cnil ?_
        refine At.thenN ?_
        refine At.region ?_
        refine At.ev (ev_fa T.fa41_1 rfl) rfl ?_
        refine At.ev (ev_load T.ld37 rfl (by (first | exact Cell.blk (by repeat (first | with_reducible exact Mem.head _ _ | apply Mem.tail)) rfl | exact Cell.blk0 (by repeat (first | with_reducible exact Mem.head _ _ | apply Mem.tail)) rfl | exact Cell.per (by repeat (first | with_reducible exact Mem.head _ _ | apply Mem.tail)) rfl | exact Cell.per0 (by repeat (first | with_reducible exact Mem.head _ _ | apply Mem.tail)) rfl | exact Cell.pin (by repeat (first | with_reducible exact Mem.head _ _ | apply Mem.tail)) (by first | omega | decide | (simp at hg; omega) | (simp at hl hg; omega) | (simp at hg ⊢; omega)) rfl | exact Cell.pin0 (by repeat (first | with_reducible exact Mem.head _ _ | apply Mem.tail)) (by first | omega | decide | (simp at hg; omega) | (simp at hl hg; omega) | (simp at hg ⊢; omega)) rfl))) rfl ?_
        refine At.ev (ev_fa T.fa33_2 rfl) rfl ?_
        refine At.ev (ev_load T.ld3 rfl (by (first | exact Cell.blk (by repeat (first | with_reducible exact Mem.head _ _ | apply Mem.tail)) rfl | exact Cell.blk0 (by repeat (first | with_reducible exact Mem.head _ _ | apply Mem.tail)) rfl | exact Cell.per (by repeat (first | with_reducible exact Mem.head _ _ | apply Mem.tail)) rfl | exact Cell.per0 (by repeat (first | with_reducible exact Mem.head _ _ | apply Mem.tail)) rfl | exact Cell.pin (by repeat (first | with_reducible exact Mem.head _ _ | apply Mem.tail)) (by first | omega | decide | (simp at hg; omega) | (simp at hl hg; omega) | (simp at hg ⊢; omega)) rfl | exact Cell.pin0 (by repeat (first | with_reducible exact Mem.head _ _ | apply Mem.tail)) (by first | omega | decide | (simp at hg; omega) | (simp at hl hg; omega) | (simp at hg ⊢; omega)) rfl))) rfl ?_
        refine At.ch (ch_bslice T.un37 T.sz3 T.zv3 rfl rfl rfl (by exact ⟨rfl, by decide, trivial⟩) _) rfl ?_
        rintro _ _ ⟨bo, rfl, rfl⟩
        refine At.norm (b := bo) [.int .i64 x.n] (by repeat (first | with_reducible exact At1.head _ _ | apply At1.tail)) (by rfl) ?_
        refine At.ch (ch_append T.ti37 rfl rfl (by repeat (first | with_reducible exact At1.head _ _ | apply At1.tail)) (src_blk T.un37 (by repeat (first | with_reducible exact Mem.head _ _ | apply Mem.tail)) (by exact ⟨rfl, trivial⟩) rfl) (by omega) (by unfold maxLen; omega) _) rfl ?_
        rintro v1n _ rfl
        refine At.snoc (xs := r.opens) x.n (fun R => (⟨rfl, hox.2.2.1⟩ : Rep.rel R x.n [.int .i64 x.n])) (by repeat (first | with_reducible exact Mem.head _ _ | apply Mem.tail)) ?_
        rw [show r.opens.length + 1 = (r.opens ++ [x.n]).length by simp]
        refine At.ownV (t := 3) (by repeat (first | with_reducible exact Mem.head _ _ | apply Mem.tail)) ?_
        intro ao10 ca10 e10 _ _
        subst e10
        refine At.ev (ev_fa T.fa41_1 rfl) rfl ?_
        refine At.ch0 (ch_store1 T.sz37 rfl rfl (add_lit _ _ _) rfl rfl (by repeat (first | with_reducible exact At1.head _ _ | apply At1.tail)) (by rfl) _) ?_
        rintro _ _ rfl
        refine At.nil ?_
        refine At.norm (b := b) [.int .i64 r.ticks, (Value.slice ao10 (r.opens ++ [x.n]).length ca10), v2, v3, .int .i64 r.drain, .bool r.abort] (by repeat (first | with_reducible exact At1.head _ _ | apply At1.tail)) (by rfl) ?_
        refine At.blkN ?_
        refine At.thenN ?_
        refine At.rndC (b := b) ({ r with opens := r.opens ++ [x.n] }) (by repeat (first | with_reducible exact At1.head _ _ | apply At1.tail)) (by repeat (first | with_reducible exact At1.head _ _ | apply At1.tail)) (by repeat (first | with_reducible exact At1.head _ _ | apply At1.tail)) (by repeat (first | with_reducible exact At1.head _ _ | apply At1.tail)) (by repeat (first | with_reducible exact Mem.head _ _ | apply Mem.tail)) (by repeat (first | with_reducible exact Mem.head _ _ | apply Mem.tail)) (by repeat (first | with_reducible exact Mem.head _ _ | apply Mem.tail)) ?_
        obtain ⟨r2, hr2⟩ : ∃ r2 : Round, r2 = { r with opens := r.opens ++ [x.n] } := ⟨_, rfl⟩
        rw [← hr2]
        have hb2 : r2.offers.length ≤ 1000000 := by rw [hr2]; first | omega | (dsimp only; omega)
        have hb3 : r2.reports.length ≤ 1000000 := by rw [hr2]; first | omega | (dsimp only; omega)
        have hst : roundStep0 r x = r2.peer0 x := by rw [hr2, roundStep0]; simp [h1]
        refine At.drawH (.q1 0 (.q0 1 (.q0 2 (.q0 3 (.q1 4 (.br 5 (.nil) (.stop))))))) (fun j => !([5] : List Nat).contains j) mixed (by kernel_rfl) (by kernel_rfl) (NoP.blk (NoP.thn (NoP.thn (NoP.blk (NoP.thn NoP.body))))) ?_
        refine At.c1 rfl (Imp.refl _) (ev_loadA T.ld33 rfl rfl (by (first | exact Cells.blk0 (by repeat (first | with_reducible exact Mem.head _ _ | apply Mem.tail)) | exact Cells.per0 (by repeat (first | with_reducible exact Mem.head _ _ | apply Mem.tail)) | exact Cells.pin0 (by repeat (first | with_reducible exact Mem.head _ _ | apply Mem.tail)) (by first | omega | decide | (simp at hg; omega) | (simp at hl hg; omega) | (simp at hg ⊢; omega))))) rfl ?_
        refine At.c0 rfl (ev_move rfl) rfl ?_
        refine At.c0 rfl (ev_move rfl) rfl ?_
        refine At.c0 rfl (ev_ian T.un22 T.sz33 rfl rfl (by omega)) rfl ?_
        refine At.c1 rfl (Imp.refl _) (ev_loadA T.ld33 rfl rfl (by (first | exact Cells.blk0 (by repeat (first | with_reducible exact Mem.head _ _ | apply Mem.tail)) | exact Cells.per0 (by repeat (first | with_reducible exact Mem.head _ _ | apply Mem.tail)) | exact Cells.pin0 (by repeat (first | with_reducible exact Mem.head _ _ | apply Mem.tail)) (by first | omega | decide | (simp at hg; omega) | (simp at hl hg; omega) | (simp at hg ⊢; omega))))) rfl ?_
        refine At.c2 rfl ?_ ?_
        · intro w0
          refine At.call (goes_func cf16 rfl) (replay_peer0 b r2 x y hox hoy hne hb2 hb3) (by exact Split.own (At1.head _ _) (Split.nil _)) rfl ?_
          rintro _
          refine At.nil ?_
          refine At.cn (fun h => absurd h (by decide)) ?_
          refine At.cnil ?_
          refine At.blkN ?_
          refine At.thenN ?_
          refine At.region ?_
          refine At.ev (ev_add rfl rfl (by omega)) rfl ?_
          refine At.ev (ev_move rfl) rfl ?_
          refine At.nil ?_
          refine At.thenN ?_
          refine At.again (k + 1, _) (by simp only; omega) ⟨rfl, rfl, rfl, rfl, rfl, rfl, rfl, rfl, trivial⟩ (Imp.pur (by simp only; omega) (by rw [roundStep0_snoc r0 hx, ← hr, hst]; exact Imp.one (by repeat (first | with_reducible exact At1.head _ _ | apply At1.tail)) (Imp.one (by repeat (first | with_reducible exact At1.head _ _ | apply At1.tail)) (Imp.one (by repeat (first | with_reducible exact At1.head _ _ | apply At1.tail)) (Imp.one (by repeat (first | with_reducible exact At1.head _ _ | apply At1.tail)) (Imp.per (by repeat (first | with_reducible exact Mem.head _ _ | apply Mem.tail)) (Imp.per (by repeat (first | with_reducible exact Mem.head _ _ | apply Mem.tail)) (Imp.nil _))))))))
        exact At.cstop
      exact At.cstop
    · intro h1
      simp only [decide_eq_true_eq, decide_eq_false_iff_not, Bool.not_eq_true', Bool.not_eq_false', Bool.cond_false_right, Bool.cond_true_left, Bool.and_eq_true, Bool.or_eq_true, Bool.and_eq_false_iff, Bool.or_eq_false_iff, Bool.not_true, Bool.not_false] at h1
      refine At.seq ?_
      refine At.region ?_
      refine At.ev (ev_eqi rfl rfl) rfl ?_
      refine At.ev (ev_assign rfl) rfl ?_
      refine At.nil ?_
      refine At.thenN ?_
      refine At.cond rfl ?_ ?_
      · intro h2
        simp only [decide_eq_true_eq, decide_eq_false_iff_not, Bool.not_eq_true', Bool.not_eq_false', Bool.cond_false_right, Bool.cond_true_left, Bool.and_eq_true, Bool.or_eq_true, Bool.and_eq_false_iff, Bool.or_eq_false_iff, Bool.not_true, Bool.not_false] at h2
        refine At.region ?_
        refine At.ev (ev_fa T.fa41_1 rfl) rfl ?_
        refine At.ev (ev_load T.ld37 rfl (by (first | exact Cell.blk (by repeat (first | with_reducible exact Mem.head _ _ | apply Mem.tail)) rfl | exact Cell.blk0 (by repeat (first | with_reducible exact Mem.head _ _ | apply Mem.tail)) rfl | exact Cell.per (by repeat (first | with_reducible exact Mem.head _ _ | apply Mem.tail)) rfl | exact Cell.per0 (by repeat (first | with_reducible exact Mem.head _ _ | apply Mem.tail)) rfl | exact Cell.pin (by repeat (first | with_reducible exact Mem.head _ _ | apply Mem.tail)) (by first | omega | decide | (simp at hg; omega) | (simp at hl hg; omega) | (simp at hg ⊢; omega)) rfl | exact Cell.pin0 (by repeat (first | with_reducible exact Mem.head _ _ | apply Mem.tail)) (by first | omega | decide | (simp at hg; omega) | (simp at hl hg; omega) | (simp at hg ⊢; omega)) rfl))) rfl ?_
        refine At.ev (ev_fa T.fa33_2 rfl) rfl ?_
        refine At.ev (ev_load T.ld3 rfl (by (first | exact Cell.blk (by repeat (first | with_reducible exact Mem.head _ _ | apply Mem.tail)) rfl | exact Cell.blk0 (by repeat (first | with_reducible exact Mem.head _ _ | apply Mem.tail)) rfl | exact Cell.per (by repeat (first | with_reducible exact Mem.head _ _ | apply Mem.tail)) rfl | exact Cell.per0 (by repeat (first | with_reducible exact Mem.head _ _ | apply Mem.tail)) rfl | exact Cell.pin (by repeat (first | with_reducible exact Mem.head _ _ | apply Mem.tail)) (by first | omega | decide | (simp at hg; omega) | (simp at hl hg; omega) | (simp at hg ⊢; omega)) rfl | exact Cell.pin0 (by repeat (first | with_reducible exact Mem.head _ _ | apply Mem.tail)) (by first | omega | decide | (simp at hg; omega) | (simp at hl hg; omega) | (simp at hg ⊢; omega)) rfl))) rfl ?_
        refine At.ch (ch_bslice T.un37 T.sz3 T.zv3 rfl rfl rfl (by exact ⟨rfl, by decide, trivial⟩) _) rfl ?_
        rintro _ _ ⟨bo, rfl, rfl⟩
        refine At.norm (b := bo) [.int .i64 x.n] (by repeat (first | with_reducible exact At1.head _ _ | apply At1.tail)) (by rfl) ?_
        refine At.ch (ch_append T.ti37 rfl rfl (by repeat (first | with_reducible exact At1.head _ _ | apply At1.tail)) (src_blk T.un37 (by repeat (first | with_reducible exact Mem.head _ _ | apply Mem.tail)) (by exact ⟨rfl, trivial⟩) rfl) (by omega) (by unfold maxLen; omega) _) rfl ?_
        rintro v1n _ rfl
        refine At.snoc (xs := r.opens) x.n (fun R => (⟨rfl, hox.2.2.1⟩ : Rep.rel R x.n [.int .i64 x.n])) (by repeat (first | with_reducible exact Mem.head _ _ | apply Mem.tail)) ?_
        rw [show r.opens.length + 1 = (r.opens ++ [x.n]).length by simp]
        refine At.ownV (t := 3) (by repeat (first | with_reducible exact Mem.head _ _ | apply Mem.tail)) ?_
        intro ao12 ca12 e12 _ _
        subst e12
        refine At.ev (ev_fa T.fa41_1 rfl) rfl ?_
        refine At.ch0 (ch_store1 T.sz37 rfl rfl (add_lit _ _ _) rfl rfl (by repeat (first | with_reducible exact At1.head _ _ | apply At1.tail)) (by rfl) _) ?_
        rintro _ _ rfl
        refine At.nil ?_
        refine At.norm (b := b) [.int .i64 r.ticks, (Value.slice ao12 (r.opens ++ [x.n]).length ca12), v2, v3, .int .i64 r.drain, .bool r.abort] (by repeat (first | with_reducible exact At1.head _ _ | apply At1.tail)) (by rfl) ?_
        refine At.blkN ?_
        refine At.thenN ?_
        refine At.rndC (b := b) ({ r with opens := r.opens ++ [x.n] }) (by repeat (first | with_reducible exact At1.head _ _ | apply At1.tail)) (by repeat (first | with_reducible exact At1.head _ _ | apply At1.tail)) (by repeat (first | with_reducible exact At1.head _ _ | apply At1.tail)) (by repeat (first | with_reducible exact At1.head _ _ | apply At1.tail)) (by repeat (first | with_reducible exact Mem.head _ _ | apply Mem.tail)) (by repeat (first | with_reducible exact Mem.head _ _ | apply Mem.tail)) (by repeat (first | with_reducible exact Mem.head _ _ | apply Mem.tail)) ?_
        obtain ⟨r2, hr2⟩ : ∃ r2 : Round, r2 = { r with opens := r.opens ++ [x.n] } := ⟨_, rfl⟩
        rw [← hr2]
        have hb2 : r2.offers.length ≤ 1000000 := by rw [hr2]; first | omega | (dsimp only; omega)
        have hb3 : r2.reports.length ≤ 1000000 := by rw [hr2]; first | omega | (dsimp only; omega)
        have hst : roundStep0 r x = r2.peer0 x := by rw [hr2, roundStep0]; simp [h1, h2]
        refine At.drawH (.q1 0 (.q0 1 (.q0 2 (.q0 3 (.q1 4 (.br 5 (.nil) (.stop))))))) (fun j => !([5] : List Nat).contains j) mixed (by kernel_rfl) (by kernel_rfl) (NoP.blk (NoP.thn (NoP.thn (NoP.blk (NoP.thn NoP.body))))) ?_
        refine At.c1 rfl (Imp.refl _) (ev_loadA T.ld33 rfl rfl (by (first | exact Cells.blk0 (by repeat (first | with_reducible exact Mem.head _ _ | apply Mem.tail)) | exact Cells.per0 (by repeat (first | with_reducible exact Mem.head _ _ | apply Mem.tail)) | exact Cells.pin0 (by repeat (first | with_reducible exact Mem.head _ _ | apply Mem.tail)) (by first | omega | decide | (simp at hg; omega) | (simp at hl hg; omega) | (simp at hg ⊢; omega))))) rfl ?_
        refine At.c0 rfl (ev_move rfl) rfl ?_
        refine At.c0 rfl (ev_move rfl) rfl ?_
        refine At.c0 rfl (ev_ian T.un22 T.sz33 rfl rfl (by omega)) rfl ?_
        refine At.c1 rfl (Imp.refl _) (ev_loadA T.ld33 rfl rfl (by (first | exact Cells.blk0 (by repeat (first | with_reducible exact Mem.head _ _ | apply Mem.tail)) | exact Cells.per0 (by repeat (first | with_reducible exact Mem.head _ _ | apply Mem.tail)) | exact Cells.pin0 (by repeat (first | with_reducible exact Mem.head _ _ | apply Mem.tail)) (by first | omega | decide | (simp at hg; omega) | (simp at hl hg; omega) | (simp at hg ⊢; omega))))) rfl ?_
        refine At.c2 rfl ?_ ?_
        · intro w0
          refine At.call (goes_func cf16 rfl) (replay_peer0 b r2 x y hox hoy hne hb2 hb3) (by exact Split.own (At1.head _ _) (Split.nil _)) rfl ?_
          rintro _
          refine At.nil ?_
          refine At.cn (fun h => absurd h (by decide)) ?_
          refine At.cnil ?_
          refine At.blkN ?_
          refine At.thenN ?_
          refine At.region ?_
          refine At.ev (ev_add rfl rfl (by omega)) rfl ?_
          refine At.ev (ev_move rfl) rfl ?_
          refine At.nil ?_
          refine At.thenN ?_
          refine At.again (k + 1, _) (by simp only; omega) ⟨rfl, rfl, rfl, rfl, rfl, rfl, rfl, rfl, trivial⟩ (Imp.pur (by simp only; omega) (by rw [roundStep0_snoc r0 hx, ← hr, hst]; exact Imp.one (by repeat (first | with_reducible exact At1.head _ _ | apply At1.tail)) (Imp.one (by repeat (first | with_reducible exact At1.head _ _ | apply At1.tail)) (Imp.one (by repeat (first | with_reducible exact At1.head _ _ | apply At1.tail)) (Imp.one (by repeat (first | with_reducible exact At1.head _ _ | apply At1.tail)) (Imp.per (by repeat (first | with_reducible exact Mem.head _ _ | apply Mem.tail)) (Imp.per (by repeat (first | with_reducible exact Mem.head _ _ | apply Mem.tail)) (Imp.nil _))))))))
        exact At.cstop
      · intro h2
        simp only [decide_eq_true_eq, decide_eq_false_iff_not, Bool.not_eq_true', Bool.not_eq_false', Bool.cond_false_right, Bool.cond_true_left, Bool.and_eq_true, Bool.or_eq_true, Bool.and_eq_false_iff, Bool.or_eq_false_iff, Bool.not_true, Bool.not_false] at h2
        refine At.seq ?_
        refine At.region ?_
        refine At.ev (ev_eqi rfl rfl) rfl ?_
        refine At.ev (ev_assign rfl) rfl ?_
        refine At.nil ?_
        refine At.thenN ?_
        refine At.cond rfl ?_ ?_
        · intro h3
          simp only [decide_eq_true_eq, decide_eq_false_iff_not, Bool.not_eq_true', Bool.not_eq_false', Bool.cond_false_right, Bool.cond_true_left, Bool.and_eq_true, Bool.or_eq_true, Bool.and_eq_false_iff, Bool.or_eq_false_iff, Bool.not_true, Bool.not_false] at h3
          exact absurd h3 hndx.2
        · intro h3
          simp only [decide_eq_true_eq, decide_eq_false_iff_not, Bool.not_eq_true', Bool.not_eq_false', Bool.cond_false_right, Bool.cond_true_left, Bool.and_eq_true, Bool.or_eq_true, Bool.and_eq_false_iff, Bool.or_eq_false_iff, Bool.not_true, Bool.not_false] at h3
          refine At.seq ?_
          refine At.region ?_
          refine At.ev (ev_eqi rfl rfl) rfl ?_
          refine At.ev (ev_assign rfl) rfl ?_
          refine At.nil ?_
          refine At.thenN ?_
          refine At.cond rfl ?_ ?_
          · intro h5
            simp only [decide_eq_true_eq, decide_eq_false_iff_not, Bool.not_eq_true', Bool.not_eq_false', Bool.cond_false_right, Bool.cond_true_left, Bool.and_eq_true, Bool.or_eq_true, Bool.and_eq_false_iff, Bool.or_eq_false_iff, Bool.not_true, Bool.not_false] at h5
            refine At.seq ?_
            refine At.region ?_
            refine At.ev (ev_fa T.fa33_6 rfl) rfl ?_
            refine At.ev (ev_fa2 T.fa31_5 rfl) rfl ?_
            refine At.ev (ev_load T.ld3 rfl (by (first | exact Cell.blk (by repeat (first | with_reducible exact Mem.head _ _ | apply Mem.tail)) rfl | exact Cell.blk0 (by repeat (first | with_reducible exact Mem.head _ _ | apply Mem.tail)) rfl | exact Cell.per (by repeat (first | with_reducible exact Mem.head _ _ | apply Mem.tail)) rfl | exact Cell.per0 (by repeat (first | with_reducible exact Mem.head _ _ | apply Mem.tail)) rfl | exact Cell.pin (by repeat (first | with_reducible exact Mem.head _ _ | apply Mem.tail)) (by first | omega | decide | (simp at hg; omega) | (simp at hl hg; omega) | (simp at hg ⊢; omega)) rfl | exact Cell.pin0 (by repeat (first | with_reducible exact Mem.head _ _ | apply Mem.tail)) (by first | omega | decide | (simp at hg; omega) | (simp at hl hg; omega) | (simp at hg ⊢; omega)) rfl))) rfl ?_
            refine At.ev (ev_nei rfl rfl) rfl ?_
            refine At.nil ?_
            refine At.thenN ?_
            refine At.condDn rfl ?_ ?_
            · intro h6
              refine At.drawH (.q0 0 (.q0 1 (.q0 2 (.q1 3 (.q0 4 (.q1 5 (.br 6 (.nil) (.stop)))))))) (fun j => !([6] : List Nat).contains j) mixed (by kernel_rfl) (by kernel_rfl) (NoP.blk (NoP.thn (NoP.blk (NoP.thn (NoP.thn (NoP.blk (NoP.thn NoP.body))))))) ?_
              refine At.c0 rfl (ev_move rfl) rfl ?_
              refine At.c0 rfl (ev_nil rfl) rfl ?_
              refine At.c0 rfl (ev_fa T.fa49_1 rfl) rfl ?_
              refine At.c1 rfl (Imp.refl _) (ev_load T.ld47 rfl (by (first | exact Cell.blk (by repeat (first | with_reducible exact Mem.head _ _ | apply Mem.tail)) rfl | exact Cell.blk0 (by repeat (first | with_reducible exact Mem.head _ _ | apply Mem.tail)) rfl | exact Cell.per (by repeat (first | with_reducible exact Mem.head _ _ | apply Mem.tail)) rfl | exact Cell.per0 (by repeat (first | with_reducible exact Mem.head _ _ | apply Mem.tail)) rfl | exact Cell.pin (by repeat (first | with_reducible exact Mem.head _ _ | apply Mem.tail)) (by first | omega | decide | (simp at hg; omega) | (simp at hl hg; omega) | (simp at hg ⊢; omega)) rfl | exact Cell.pin0 (by repeat (first | with_reducible exact Mem.head _ _ | apply Mem.tail)) (by first | omega | decide | (simp at hg; omega) | (simp at hl hg; omega) | (simp at hg ⊢; omega)) rfl))) rfl ?_
              refine At.c0 rfl (ev_fa T.fa33_1 rfl) rfl ?_
              refine At.c1 rfl (Imp.refl _) (ev_load T.ld3 rfl (by (first | exact Cell.blk (by repeat (first | with_reducible exact Mem.head _ _ | apply Mem.tail)) rfl | exact Cell.blk0 (by repeat (first | with_reducible exact Mem.head _ _ | apply Mem.tail)) rfl | exact Cell.per (by repeat (first | with_reducible exact Mem.head _ _ | apply Mem.tail)) rfl | exact Cell.per0 (by repeat (first | with_reducible exact Mem.head _ _ | apply Mem.tail)) rfl | exact Cell.pin (by repeat (first | with_reducible exact Mem.head _ _ | apply Mem.tail)) (by first | omega | decide | (simp at hg; omega) | (simp at hl hg; omega) | (simp at hg ⊢; omega)) rfl | exact Cell.pin0 (by repeat (first | with_reducible exact Mem.head _ _ | apply Mem.tail)) (by first | omega | decide | (simp at hg; omega) | (simp at hl hg; omega) | (simp at hg ⊢; omega)) rfl))) rfl ?_
              refine At.c2 rfl ?_ ?_
              · intro w0
                refine At.ch0 (ch_delete T.un47 T.un3 rfl rfl (by repeat (first | with_reducible exact At1.head _ _ | apply At1.tail)) _) ?_
                rintro _ _ rfl
                refine At.nil ?_
                refine At.cn (fun h => absurd h (by decide)) ?_
                refine At.cnil ?_
                refine At.blkN ?_
                refine At.thenN ?_
                refine At.rndC (b := b) (r) (by repeat (first | with_reducible exact At1.head _ _ | apply At1.tail)) (by repeat (first | with_reducible exact At1.head _ _ | apply At1.tail)) (by repeat (first | with_reducible exact At1.head _ _ | apply At1.tail)) (by repeat (first | with_reducible exact At1.head _ _ | apply At1.tail)) (by repeat (first | with_reducible exact Mem.head _ _ | apply Mem.tail)) (by repeat (first | with_reducible exact Mem.head _ _ | apply Mem.tail)) (by repeat (first | with_reducible exact Mem.head _ _ | apply Mem.tail)) ?_
                obtain ⟨r2, hr2⟩ : ∃ r2 : Round, r2 = r := ⟨_, rfl⟩
                rw [← hr2]
                have hb2 : r2.offers.length ≤ 1000000 := by rw [hr2]; first | omega | (dsimp only; omega)
                have hb3 : r2.reports.length ≤ 1000000 := by rw [hr2]; first | omega | (dsimp only; omega)
                have hst : roundStep0 r x = r2.peer0 x := by rw [hr2, roundStep0]; simp [h1, h2]
                refine At.drawH (.q1 0 (.q0 1 (.q0 2 (.q0 3 (.q1 4 (.br 5 (.nil) (.stop))))))) (fun j => !([5] : List Nat).contains j) mixed (by kernel_rfl) (by kernel_rfl) (NoP.blk (NoP.thn (NoP.thn (NoP.blk (NoP.thn NoP.body))))) ?_
                refine At.c1 rfl (Imp.refl _) (ev_loadA T.ld33 rfl rfl (by (first | exact Cells.blk0 (by repeat (first | with_reducible exact Mem.head _ _ | apply Mem.tail)) | exact Cells.per0 (by repeat (first | with_reducible exact Mem.head _ _ | apply Mem.tail)) | exact Cells.pin0 (by repeat (first | with_reducible exact Mem.head _ _ | apply Mem.tail)) (by first | omega | decide | (simp at hg; omega) | (simp at hl hg; omega) | (simp at hg ⊢; omega))))) rfl ?_
                refine At.c0 rfl (ev_move rfl) rfl ?_
                refine At.c0 rfl (ev_move rfl) rfl ?_
                refine At.c0 rfl (ev_ian T.un22 T.sz33 rfl rfl (by omega)) rfl ?_
                refine At.c1 rfl (Imp.refl _) (ev_loadA T.ld33 rfl rfl (by (first | exact Cells.blk0 (by repeat (first | with_reducible exact Mem.head _ _ | apply Mem.tail)) | exact Cells.per0 (by repeat (first | with_reducible exact Mem.head _ _ | apply Mem.tail)) | exact Cells.pin0 (by repeat (first | with_reducible exact Mem.head _ _ | apply Mem.tail)) (by first | omega | decide | (simp at hg; omega) | (simp at hl hg; omega) | (simp at hg ⊢; omega))))) rfl ?_
                refine At.c2 rfl ?_ ?_
                · intro w0
                  refine At.call (goes_func cf16 rfl) (replay_peer0 b r2 x y hox hoy hne hb2 hb3) (by exact Split.own (At1.head _ _) (Split.nil _)) rfl ?_
                  rintro _
                  refine At.nil ?_
                  refine At.cn (fun h => absurd h (by decide)) ?_
                  refine At.cnil ?_
                  refine At.blkN ?_
                  refine At.thenN ?_
                  refine At.region ?_
                  refine At.ev (ev_add rfl rfl (by omega)) rfl ?_
                  refine At.ev (ev_move rfl) rfl ?_
                  refine At.nil ?_
                  refine At.thenN ?_
                  refine At.again (k + 1, _) (by simp only; omega) ⟨rfl, rfl, rfl, rfl, rfl, rfl, rfl, rfl, trivial⟩ (Imp.pur (by simp only; omega) (by rw [roundStep0_snoc r0 hx, ← hr, hst]; exact Imp.one (by repeat (first | with_reducible exact At1.head _ _ | apply At1.tail)) (Imp.one (by repeat (first | with_reducible exact At1.head _ _ | apply At1.tail)) (Imp.one (by repeat (first | with_reducible exact At1.head _ _ | apply At1.tail)) (Imp.one (by repeat (first | with_reducible exact At1.head _ _ | apply At1.tail)) (Imp.per (by repeat (first | with_reducible exact Mem.head _ _ | apply Mem.tail)) (Imp.per (by repeat (first | with_reducible exact Mem.head _ _ | apply Mem.tail)) (Imp.nil _))))))))
                exact At.cstop
              exact At.cstop
            · intro h6
              refine At.skip ?_
              refine At.blkN ?_
              refine At.thenN ?_
              refine At.rndC (b := b) (r) (by repeat (first | with_reducible exact At1.head _ _ | apply At1.tail)) (by repeat (first | with_reducible exact At1.head _ _ | apply At1.tail)) (by repeat (first | with_reducible exact At1.head _ _ | apply At1.tail)) (by repeat (first | with_reducible exact At1.head _ _ | apply At1.tail)) (by repeat (first | with_reducible exact Mem.head _ _ | apply Mem.tail)) (by repeat (first | with_reducible exact Mem.head _ _ | apply Mem.tail)) (by repeat (first | with_reducible exact Mem.head _ _ | apply Mem.tail)) ?_
              obtain ⟨r2, hr2⟩ : ∃ r2 : Round, r2 = r := ⟨_, rfl⟩
              rw [← hr2]
              have hb2 : r2.offers.length ≤ 1000000 := by rw [hr2]; first | omega | (dsimp only; omega)
              have hb3 : r2.reports.length ≤ 1000000 := by rw [hr2]; first | omega | (dsimp only; omega)
              have hst : roundStep0 r x = r2.peer0 x := by rw [hr2, roundStep0]; simp [h1, h2]
              refine At.drawH (.q1 0 (.q0 1 (.q0 2 (.q0 3 (.q1 4 (.br 5 (.nil) (.stop))))))) (fun j => !([5] : List Nat).contains j) mixed (by kernel_rfl) (by kernel_rfl) (NoP.blk (NoP.thn (NoP.thn (NoP.blk (NoP.thn NoP.body))))) ?_
              refine At.c1 rfl (Imp.refl _) (ev_loadA T.ld33 rfl rfl (by (first | exact Cells.blk0 (by repeat (first | with_reducible exact Mem.head _ _ | apply Mem.tail)) | exact Cells.per0 (by repeat (first | with_reducible exact Mem.head _ _ | apply Mem.tail)) | exact Cells.pin0 (by repeat (first | with_reducible exact Mem.head _ _ | apply Mem.tail)) (by first | omega | decide | (simp at hg; omega) | (simp at hl hg; omega) | (simp at hg ⊢; omega))))) rfl ?_
              refine At.c0 rfl (ev_move rfl) rfl ?_
              refine At.c0 rfl (ev_move rfl) rfl ?_
              refine At.c0 rfl (ev_ian T.un22 T.sz33 rfl rfl (by omega)) rfl ?_
              refine At.c1 rfl (Imp.refl _) (ev_loadA T.ld33 rfl rfl (by (first | exact Cells.blk0 (by repeat (first | with_reducible exact Mem.head _ _ | apply Mem.tail)) | exact Cells.per0 (by repeat (first | with_reducible exact Mem.head _ _ | apply Mem.tail)) | exact Cells.pin0 (by repeat (first | with_reducible exact Mem.head _ _ | apply Mem.tail)) (by first | omega | decide | (simp at hg; omega) | (simp at hl hg; omega) | (simp at hg ⊢; omega))))) rfl ?_
              refine At.c2 rfl ?_ ?_
              · intro w0
                refine At.call (goes_func cf16 rfl) (replay_peer0 b r2 x y hox hoy hne hb2 hb3) (by exact Split.own (At1.head _ _) (Split.nil _)) rfl ?_
                rintro _
                refine At.nil ?_
                refine At.cn (fun h => absurd h (by decide)) ?_
                refine At.cnil ?_
                refine At.blkN ?_
                refine At.thenN ?_
                refine At.region ?_
                refine At.ev (ev_add rfl rfl (by omega)) rfl ?_
                refine At.ev (ev_move rfl) rfl ?_
                refine At.nil ?_
                refine At.thenN ?_
                refine At.again (k + 1, _) (by simp only; omega) ⟨rfl, rfl, rfl, rfl, rfl, rfl, rfl, rfl, trivial⟩ (Imp.pur (by simp only; omega) (by rw [roundStep0_snoc r0 hx, ← hr, hst]; exact Imp.one (by repeat (first | with_reducible exact At1.head _ _ | apply At1.tail)) (Imp.one (by repeat (first | with_reducible exact At1.head _ _ | apply At1.tail)) (Imp.one (by repeat (first | with_reducible exact At1.head _ _ | apply At1.tail)) (Imp.one (by repeat (first | with_reducible exact At1.head _ _ | apply At1.tail)) (Imp.per (by repeat (first | with_reducible exact Mem.head _ _ | apply Mem.tail)) (Imp.per (by repeat (first | with_reducible exact Mem.head _ _ | apply Mem.tail)) (Imp.nil _))))))))
              exact At.cstop
          · intro h5
            simp only [decide_eq_true_eq, decide_eq_false_iff_not, Bool.not_eq_true', Bool.not_eq_false', Bool.cond_false_right, Bool.cond_true_left, Bool.and_eq_true, Bool.or_eq_true, Bool.and_eq_false_iff, Bool.or_eq_false_iff, Bool.not_true, Bool.not_false] at h5
            refine At.skip ?_
            refine At.blkN ?_
            refine At.thenN ?_
            refine At.rndC (b := b) (r) (by repeat (first | with_reducible exact At1.head _ _ | apply At1.tail)) (by repeat (first | with_reducible exact At1.head _ _ | apply At1.tail)) (by repeat (first | with_reducible exact At1.head _ _ | apply At1.tail)) (by repeat (first | with_reducible exact At1.head _ _ | apply At1.tail)) (by repeat (first | with_reducible exact Mem.head _ _ | apply Mem.tail)) (by repeat (first | with_reducible exact Mem.head _ _ | apply Mem.tail)) (by repeat (first | with_reducible exact Mem.head _ _ | apply Mem.tail)) ?_
            obtain ⟨r2, hr2⟩ : ∃ r2 : Round, r2 = r := ⟨_, rfl⟩
            rw [← hr2]
            have hb2 : r2.offers.length ≤ 1000000 := by rw [hr2]; first | omega | (dsimp only; omega)
            have hb3 : r2.reports.length ≤ 1000000 := by rw [hr2]; first | omega | (dsimp only; omega)
            have hst : roundStep0 r x = r2.peer0 x := by rw [hr2, roundStep0]; simp [h1, h2]
            refine At.drawH (.q1 0 (.q0 1 (.q0 2 (.q0 3 (.q1 4 (.br 5 (.nil) (.stop))))))) (fun j => !([5] : List Nat).contains j) mixed (by kernel_rfl) (by kernel_rfl) (NoP.blk (NoP.thn (NoP.thn (NoP.blk (NoP.thn NoP.body))))) ?_
            refine At.c1 rfl (Imp.refl _) (ev_loadA T.ld33 rfl rfl (by (first | exact Cells.blk0 (by repeat (first | with_reducible exact Mem.head _ _ | apply Mem.tail)) | exact Cells.per0 (by repeat (first | with_reducible exact Mem.head _ _ | apply Mem.tail)) | exact Cells.pin0 (by repeat (first | with_reducible exact Mem.head _ _ | apply Mem.tail)) (by first | omega | decide | (simp at hg; omega) | (simp at hl hg; omega) | (simp at hg ⊢; omega))))) rfl ?_
            refine At.c0 rfl (ev_move rfl) rfl ?_
            refine At.c0 rfl (ev_move rfl) rfl ?_
            refine At.c0 rfl (ev_ian T.un22 T.sz33 rfl rfl (by omega)) rfl ?_
            refine At.c1 rfl (Imp.refl _) (ev_loadA T.ld33 rfl rfl (by (first | exact Cells.blk0 (by repeat (first | with_reducible exact Mem.head _ _ | apply Mem.tail)) | exact Cells.per0 (by repeat (first | with_reducible exact Mem.head _ _ | apply Mem.tail)) | exact Cells.pin0 (by repeat (first | with_reducible exact Mem.head _ _ | apply Mem.tail)) (by first | omega | decide | (simp at hg; omega) | (simp at hl hg; omega) | (simp at hg ⊢; omega))))) rfl ?_
            refine At.c2 rfl ?_ ?_
            · intro w0
              refine At.call (goes_func cf16 rfl) (replay_peer0 b r2 x y hox hoy hne hb2 hb3) (by exact Split.own (At1.head _ _) (Split.nil _)) rfl ?_
              rintro _
              refine At.nil ?_
              refine At.cn (fun h => absurd h (by decide)) ?_
              refine At.cnil ?_
              refine At.blkN ?_
              refine At.thenN ?_
              refine At.region ?_
              refine At.ev (ev_add rfl rfl (by omega)) rfl ?_
              refine At.ev (ev_move rfl) rfl ?_
              refine At.nil ?_
              refine At.thenN ?_
              refine At.again (k + 1, _) (by simp only; omega) ⟨rfl, rfl, rfl, rfl, rfl, rfl, rfl, rfl, trivial⟩ (Imp.pur (by simp only; omega) (by rw [roundStep0_snoc r0 hx, ← hr, hst]; exact Imp.one (by repeat (first | with_reducible exact At1.head _ _ | apply At1.tail)) (Imp.one (by repeat (first | with_reducible exact At1.head _ _ | apply At1.tail)) (Imp.one (by repeat (first | with_reducible exact At1.head _ _ | apply At1.tail)) (Imp.one (by repeat (first | with_reducible exact At1.head _ _ | apply At1.tail)) (Imp.per (by repeat (first | with_reducible exact Mem.head _ _ | apply Mem.tail)) (Imp.per (by repeat (first | with_reducible exact Mem.head _ _ | apply Mem.tail)) (Imp.nil _))))))))
            exact At.cstop
  · intro h0
    refine At.rndO (b := b) (by repeat (first | with_reducible exact At1.head _ _ | apply At1.tail)) ?_
    intro v1 v2 v3 c1 c2 c3
    refine At.sealE (sz := 1) r.opens rfl (by repeat (first | with_reducible exact At1.head _ _ | apply At1.tail)) (by repeat (first | with_reducible exact Mem.head _ _ | apply Mem.tail)) rfl ?_
    rintro a1 d1 rfl l1 _
    refine At.sealE (sz := 3) r.offers rfl (by repeat (first | with_reducible exact At1.head _ _ | apply At1.tail)) (by repeat (first | with_reducible exact Mem.head _ _ | apply Mem.tail)) rfl ?_
    rintro a2 d2 rfl l2 _
    refine At.sealE (sz := 4) r.reports rfl (by repeat (first | with_reducible exact At1.head _ _ | apply At1.tail)) (by repeat (first | with_reducible exact Mem.head _ _ | apply Mem.tail)) rfl ?_
    rintro a3 d3 rfl l3 _
    refine At.exit ?_
    refine At.thenX ?_
    refine At.thenX ?_
    refine At.blkX ?_
    refine At.thenN ?_
    refine At.seq ?_
    refine At.region ?_
    refine At.ev (ev_loadA T.ld41 rfl rfl (by (first | exact Cells.blk0 (by repeat (first | with_reducible exact Mem.head _ _ | apply Mem.tail)) | exact Cells.per0 (by repeat (first | with_reducible exact Mem.head _ _ | apply Mem.tail)) | exact Cells.pin0 (by repeat (first | with_reducible exact Mem.head _ _ | apply Mem.tail)) (by first | omega | decide | (simp at hg; omega) | (simp at hl hg; omega) | (simp at hg ⊢; omega))))) rfl ?_
    refine At.ch0 (ch_storeA (n := 6) T.sz41 rfl rfl rfl (by exact ⟨rfl, rfl, rfl, rfl, rfl, rfl, trivial⟩) (by repeat (first | with_reducible exact At1.head _ _ | apply At1.tail)) rfl (by rfl) _) ?_
    rintro _ _ rfl
    refine At.nil ?_
    refine At.norm (b := b0) (r.cs a1 d1 a2 d2 a3 d3) (by repeat (first | with_reducible exact At1.head _ _ | apply At1.tail)) (by rfl) ?_
    refine At.perAll [rdSl a1 r.opens, rdSl a2 r.offers, rdSl a3 r.reports] (relP r (r.cs a1 d1 a2 d2 a3 d3)) (by intro φ hφ; simp only [List.mem_cons, List.not_mem_nil, or_false] at hφ; rcases hφ with rfl | rfl | rfl <;> repeat (first | with_reducible exact Mem.head _ _ | apply Mem.tail)) (fun R h => Round.rel hrok l1 (h _ (by simp)) l2 (h _ (by simp)) l3 (h _ (by simp))) ?_
    have h0e : l[0]'hl = e := by simpa [List.getElem?_eq_getElem hl] using he
    have hl2 : round0 was l = r := by
      rw [show l = e :: xs by rw [hxs, List.take_length]; cases l with | nil => simp at hl | cons y t => simp at he; simp [he]]
      rw [round0, ← hr0, hr, List.take_of_length_le (by omega)]
    refine At.thenN ?_
    refine At.retC ?_
    refine At.ret (rs := [.cell 4 41]) rfl (Res.cell rfl (load_whole T.ld41 rfl (by repeat (first | with_reducible exact Mem.head _ _ | apply Mem.tail))) Res.nil) ?_
    rw [hl2, h0e]
    exact Imp.star (Imp.ag (by repeat (first | with_reducible exact Mem.head _ _ | apply Mem.tail)) (Imp.ex (mb, mm) (Imp.star (Imp.one (by repeat (first | with_reducible exact At1.head _ _ | apply At1.tail)) (Imp.one (by repeat (first | with_reducible exact At1.head _ _ | apply At1.tail)) (Imp.nil _))))))

end Go.Proofs.Ytcgjkdfgemjidaa
