import Derived.Test.YtcgjkdfgemjidaaWrr
set_option linter.unusedVariables false
set_option linter.unusedSimpArgs false
namespace Go.Proofs.Ytcgjkdfgemjidaa
open Go Go.Sx Go.Proofs
set_option maxRecDepth 100000

/-- repartee/replay.rounds -/
theorem replay_rounds0 (ao : Option Addr) (c0 : Nat) (l : List Event) (hb : l.length ≤ 1000000) (hnd : ∀ x ∈ l, x.ok ∧ ¬ x.kind = 5 ∧ ¬ x.kind = 7) : Does Try.prog 11 [.slice ao l.length c0] [per (rdSl ao l)] (fun v => sl v (rounds0 (projRounds l))) := by
  refine Does.enter Try.func11 rfl rfl ?_
  intro E
  refine At.seq ?_
  refine At.region ?_
  refine At.ev (ev_assign rfl) rfl ?_
  refine At.nil ?_
  refine At.thenN ?_
  refine At.seq ?_
  refine At.region ?_
  refine At.ev (ev_assign rfl) rfl ?_
  refine At.nil ?_
  refine At.thenN ?_
  refine At.seq ?_
  refine At.region ?_
  refine At.ch (ch_makeMap _) rfl ?_
  rintro _ _ ⟨mb, rfl, rfl⟩
  refine At.ev (ev_build T.pl49 rfl ⟨rfl, trivial⟩ ⟨rfl, by decide, trivial⟩) rfl ?_
  refine At.ch (ch_boxA rfl _) rfl ?_
  rintro _ _ ⟨c, rfl, rfl⟩
  refine At.ev (ev_assign rfl) rfl ?_
  refine At.nil ?_
  refine At.norm (b := c) [.int .i64 0, .map (some mb)] (by repeat (first | with_reducible exact At1.head _ _ | apply At1.tail)) (by rfl) ?_
  refine At.front (p := blk c [.int .i64 0, .map (some mb)] 49) (by repeat (first | with_reducible exact At1.head _ _ | apply At1.tail)) (At.weak (Imp.frontL (p := mp mb []) (by repeat (first | with_reducible exact At1.head _ _ | apply At1.tail)) (fun E w h => h)) ?_)
  refine At.weak (Hs' := rcd c 0 :: Sx.per (rdSl ao l) :: []) (Imp.ex (mb, []) (Imp.star (Imp.one (by repeat (first | with_reducible exact At1.head _ _ | apply At1.tail)) (Imp.one (by repeat (first | with_reducible exact At1.head _ _ | apply At1.tail)) (Imp.per (by repeat (first | with_reducible exact Mem.head _ _ | apply Mem.tail)) (Imp.nil _)))))) ?_
  refine At.thenN ?_
  refine At.seq ?_
  refine At.seq ?_
  refine At.region ?_
  refine At.ev (ev_move rfl) rfl ?_
  refine At.call (goes_func cf12 rfl) (proj_Rounds _ _ _ (by assumption)) (by (repeat (first | exact Split.nil _ | (with_reducible apply Split.per; · repeat (first | with_reducible exact Mem.head _ _ | apply Mem.tail)) | (with_reducible apply Split.own; · repeat (first | with_reducible exact At1.head _ _ | apply At1.tail))))) rfl ?_
  intro v
  refine At.sl ?_
  rintro ao1 c1 rfl hc1
  refine At.ev (ev_lenl T.un50 rfl) rfl ?_
  refine At.ev (ev_move rfl) rfl ?_
  refine At.nil ?_
  refine At.thenN ?_
  refine At.block ?_
  obtain ⟨rs, hrs⟩ : ∃ rs, rs = projRounds l := ⟨_, rfl⟩
  rw [← hrs] at hc1 ⊢
  obtain ⟨hrl, hrq⟩ := projRounds_ok (Q := fun x => x.ok ∧ ¬ x.kind = 5 ∧ ¬ x.kind = 7) l hnd
  rw [← hrs] at hrl hrq
  refine At.ownNew Round 41 6 ?_
  refine At.loop (ι := Nat × Value × List Value) (fun i => rs.length - i.1) (fun i => [(3, .val i.2.1), (4, .val (.pointer (some ⟨c, 0, none⟩))), (11, .val (.slice ao1 rs.length c1)), (12, .val (.int .i64 rs.length)), (13, .val (.int .i64 i.1))])
    (fun i => [Sx.pur (i.1 ≤ rs.length ∧ i64 ((rs.take i.1).foldl rsStep ([], 0)).2), own i.2.1 41 6 ((rs.take i.1).foldl rsStep ([], 0)).1.length i.2.2, Sx.per (relLP ((rs.take i.1).foldl rsStep ([], 0)).1 i.2.2), rcd c ((rs.take i.1).foldl rsStep ([], 0)).2, Sx.per (rdSl ao1 rs)])
    (0, .slice none 0 0, []) ⟨rfl, rfl, rfl, rfl, rfl, trivial⟩ (Imp.pur ⟨by simp, i64_lit 0 (by decide)⟩ (by have e0 : (rs.take 0).foldl rsStep ([], 0) = ([], 0) := rfl; dsimp only; rw [e0]; exact Imp.one (by repeat (first | with_reducible exact At1.head _ _ | apply At1.tail)) (Imp.per (by repeat (first | with_reducible exact Mem.head _ _ | apply Mem.tail)) (Imp.one (by repeat (first | with_reducible exact At1.head _ _ | apply At1.tail)) (Imp.per (by repeat (first | with_reducible exact Mem.head _ _ | apply Mem.tail)) (Imp.nil _)))))) ?_
  rintro ⟨k, v, cs⟩
  refine At.pur ?_
  dsimp only
  rintro ⟨hk, hwas⟩
  obtain ⟨st, hst⟩ : ∃ st, st = (rs.take k).foldl rsStep ([], 0) := ⟨_, rfl⟩
  rw [← hst] at hwas ⊢
  have hsl : st.1.length = k := by rw [hst, rs_len]; simp; omega
  refine At.seq ?_
  refine At.region ?_
  refine At.ev (ev_lss rfl rfl) rfl ?_
  refine At.nil ?_
  refine At.thenN ?_
  refine At.seq ?_
  refine At.condD rfl ?_ ?_
  · intro h0
    refine At.get (α := List Event) (by repeat (first | with_reducible exact Mem.head _ _ | apply Mem.tail)) k (by omega) 1 rfl ?_
    intro adx x cx eq hx
    cases eq
    refine openList (xs := x) (by repeat (first | with_reducible exact Mem.head _ _ | apply Mem.tail)) ?_
    rintro aox cox rfl hcox
    obtain ⟨hxne, hxl, hxq⟩ := hrq x (List.mem_of_getElem? hx)
    have hxp : 0 < x.length := List.length_pos_iff.2 hxne
    refine At.skip ?_
    refine At.thenN ?_
    refine At.seq ?_
    refine At.block ?_
    refine At.seq ?_
    refine At.region ?_
    refine At.ev (ev_ian T.un50 T.sz22 rfl rfl (by omega)) rfl ?_
    refine At.ev (ev_load T.ld22 rfl (by (first | exact Cell.blk (by repeat (first | with_reducible exact Mem.head _ _ | apply Mem.tail)) rfl | exact Cell.blk0 (by repeat (first | with_reducible exact Mem.head _ _ | apply Mem.tail)) rfl | exact Cell.per (by repeat (first | with_reducible exact Mem.head _ _ | apply Mem.tail)) rfl | exact Cell.per0 (by repeat (first | with_reducible exact Mem.head _ _ | apply Mem.tail)) rfl | exact Cell.pin (by repeat (first | with_reducible exact Mem.head _ _ | apply Mem.tail)) (by first | omega | decide | (simp at hg; omega) | (simp at hl hg; omega) | (simp at hg ⊢; omega)) rfl | exact Cell.pin0 (by repeat (first | with_reducible exact Mem.head _ _ | apply Mem.tail)) (by first | omega | decide | (simp at hg; omega) | (simp at hl hg; omega) | (simp at hg ⊢; omega)) rfl))) rfl ?_
    refine At.ev (ev_assign rfl) rfl ?_
    refine At.nil ?_
    refine At.thenN ?_
    refine At.region ?_
    refine At.ev (ev_move rfl) rfl ?_
    refine At.ev (ev_move rfl) rfl ?_
    refine At.ev (ev_move rfl) rfl ?_
    refine At.call (goes_func cf13 rfl) (replay_round0 c st.2 aox cox x hwas hxp (by omega) hcox (fun y hy => (hxq y hy).2)) (by (repeat (first | exact Split.nil _ | (with_reducible apply Split.per; · repeat (first | with_reducible exact Mem.head _ _ | apply Mem.tail)) | (with_reducible apply Split.own; · repeat (first | with_reducible exact At1.head _ _ | apply At1.tail))))) rfl ?_
    intro vr
    refine At.star ?_
    refine At.ag ?_
    rintro cr rfl
    refine openRound (x := round0 st.2 x) (by repeat (first | with_reducible exact Mem.head _ _ | apply Mem.tail)) ?_
    intro hrok a1 d1 a2 d2 a3 d3 l1 l2 l3 eq
    subst eq
    refine At.ch (ch_bslice T.un35 T.sz41 T.zv41 rfl rfl rfl (by exact ⟨rfl, by decide, trivial⟩) _) rfl ?_
    rintro _ _ ⟨bl, rfl, rfl⟩
    refine At.norm (b := bl) ((round0 st.2 x).cs a1 d1 a2 d2 a3 d3) (by repeat (first | with_reducible exact At1.head _ _ | apply At1.tail)) (by rfl) ?_
    refine At.ch (ch_append T.ti35 rfl rfl (by repeat (first | with_reducible exact At1.head _ _ | apply At1.tail)) (src_blk T.un35 (by repeat (first | with_reducible exact Mem.head _ _ | apply Mem.tail)) (by exact ⟨rfl, rfl, rfl, rfl, rfl, rfl, trivial⟩) rfl) (by omega) (by unfold maxLen; omega) _) rfl ?_
    rintro v2 _ rfl
    refine At.snocP (xs := st.1) (round0 st.2 x) (by repeat (first | with_reducible exact Mem.head _ _ | apply Mem.tail)) (by repeat (first | with_reducible exact Mem.head _ _ | apply Mem.tail)) ?_
    rw [show st.1.length + 1 = (rsStep st x).1.length by simp [rsStep]]
    rw [show st.1 ++ [round0 st.2 x] = (rsStep st x).1 from rfl]
    have hhd : (x[0]'hxp).tick = (rsStep st x).2 := by cases x with | nil => simp at hxp | cons y t => rfl
    rw [hhd]
    have hwn : i64 (rsStep st x).2 := by rw [← hhd]; exact (hxq _ (List.getElem_mem hxp)).1.2.2.2.1
    refine At.ev (ev_assign rfl) rfl ?_
    refine At.nil ?_
    refine At.blkN ?_
    refine At.thenN ?_
    refine At.region ?_
    refine At.ev (ev_add rfl rfl (by omega)) rfl ?_
    refine At.ev (ev_move rfl) rfl ?_
    refine At.nil ?_
    refine At.thenN ?_
    refine At.again (k + 1, v2, cs ++ (round0 st.2 x).cs a1 d1 a2 d2 a3 d3) (by simp only; omega) ⟨rfl, rfl, rfl, rfl, rfl, trivial⟩ (by dsimp only; rw [rs_snoc hx, ← hst]; exact Imp.pur ⟨by omega, hwn⟩ (Imp.one (by repeat (first | with_reducible exact At1.head _ _ | apply At1.tail)) (Imp.per (by repeat (first | with_reducible exact Mem.head _ _ | apply Mem.tail)) (Imp.one (by repeat (first | with_reducible exact At1.head _ _ | apply At1.tail)) (Imp.per (by repeat (first | with_reducible exact Mem.head _ _ | apply Mem.tail)) (Imp.nil _))))))
  · intro h0
    have hall : k = rs.length := by omega
    have hfin : rounds0 rs = st.1 := by rw [rounds0, hst, List.take_of_length_le (by omega)]
    rw [hfin]
    refine At.sealE (sz := 6) st.1 rfl (by repeat (first | with_reducible exact At1.head _ _ | apply At1.tail)) (by repeat (first | with_reducible exact Mem.head _ _ | apply Mem.tail)) rfl ?_
    rintro ao2 c2 rfl hc2 _
    refine At.exit ?_
    refine At.thenX ?_
    refine At.thenX ?_
    refine At.blkX ?_
    refine At.thenN ?_
    refine At.seq ?_
    refine At.region ?_
    refine At.ev (ev_move rfl) rfl ?_
    refine At.ev (ev_assign rfl) rfl ?_
    refine At.nil ?_
    refine At.thenN ?_
    refine At.retC ?_
    refine At.ret (rs := [.tmp 2]) rfl (Res.tmp rfl Res.nil) ?_
    exact Imp.sl (by repeat (first | with_reducible exact Mem.head _ _ | apply Mem.tail)) (by assumption) (Imp.nil _)

/-- repartee/replay.Rounds -/
theorem replay_Rounds0 (ao : Option Addr) (c0 : Nat) (l : List Event) (hb : l.length ≤ 1000000) (hnd : ∀ x ∈ l, x.ok ∧ ¬ x.kind = 5 ∧ ¬ x.kind = 7) : Does Try.prog 10 [.slice ao l.length c0] [per (rdSl ao l)] (fun v => sl v (rounds0 (projRounds l))) := by
  refine Does.enter Try.func10 rfl rfl ?_
  intro E
  refine At.seq ?_
  refine At.region ?_
  refine At.ev (ev_assign rfl) rfl ?_
  refine At.nil ?_
  refine At.thenN ?_
  refine At.seq ?_
  refine At.region ?_
  refine At.ev (ev_move rfl) rfl ?_
  refine At.call (goes_func cf11 rfl) (replay_rounds0 _ _ _ (by assumption) (by assumption)) (by (repeat (first | exact Split.nil _ | (with_reducible apply Split.per; · repeat (first | with_reducible exact Mem.head _ _ | apply Mem.tail)) | (with_reducible apply Split.own; · repeat (first | with_reducible exact At1.head _ _ | apply At1.tail))))) rfl ?_
  intro v
  refine At.sl ?_
  rintro ao1 c1 rfl hc1
  refine At.ev (ev_assign rfl) rfl ?_
  refine At.nil ?_
  refine At.thenN ?_
  refine At.retC ?_
  refine At.ret (rs := [.tmp 2]) rfl (Res.tmp rfl Res.nil) ?_
  exact Imp.sl (by repeat (first | with_reducible exact Mem.head _ _ | apply Mem.tail)) (by assumption) (Imp.nil _)

end Go.Proofs.Ytcgjkdfgemjidaa
