import Derived.Test.YtebjpeonbfhdhaaGreatWf
set_option linter.unusedVariables false
set_option linter.unusedSimpArgs false
namespace Go.Proofs.YtebjpeonbfhdhaaGreat
open Go Go.Sx Go.Proofs
set_option maxRecDepth 100000
set_option maxHeartbeats 2000000

theorem At.ownZ2 {E : En} {N : Nat} {K : Kl} {Hs m : List Asn} {G : Act → World → Prop} (α : Type) [Rep α] {b t : Nat} (sz : Nat) (hm : At1 Hs (blk b [] t) m) (h : At E N K (own (.slice (some ⟨b, 0, none⟩) ([] : List α).length 0) t sz ([] : List α).length [] :: Sx.per (relLP ([] : List α) []) :: m) G) : At E N K Hs G :=
  At.own0 sz hm (At.perI (φ := relLP ([] : List α) []) (fun R => rfl) (At.weak (fun E w hs => Imp.one (.tail (.head _ _)) (Imp.refl _) E w hs) h))
attribute [local irreducible] Go.Sx.opsW Go.Sx.cW Go.Code.wp Go.Sx.At

/-- repartee/reparteeref07.Parse -/
theorem r07_Parse (p : ByteArray) (hs : p.size ≤ big) : Does Tryz.prog 211 [.string p] [] (fun v => itemsA v (gParse p)) := by
  refine Does.enter Tryz.func211 rfl rfl ?_
  intro E
  have hbig : big = 9223372036854775807 := rfl
  have hs' := hs
  unfold big at hs'
  refine At.seq ?_
  refine At.region ?_
  refine At.ev (ev_assign rfl) rfl ?_
  refine At.ev (ev_assign rfl) rfl ?_
  refine At.ev (ev_assign rfl) rfl ?_
  refine At.nil ?_
  refine At.thenN ?_
  refine At.seq ?_
  refine At.region ?_
  refine At.bsl [] T.un223 T.sz251 T.zv251 rfl ?_
  intro bo
  refine At.ownZ2 Item 5 (by repeat (first | with_reducible exact At1.head _ _ | apply At1.tail)) ?_
  refine At.ev (ev_assign rfl) rfl ?_
  refine At.ev (ev_assign rfl) rfl ?_
  refine At.nil ?_
  refine At.thenN ?_
  refine At.seq ?_
  refine At.block ?_
  refine At.loopF6 [(2, 10), (12, 83)] (fun (n : Nat) (a : Int) (out : List Item) (ao : Option Addr) (c : Nat) (cs : List Value) => n) (fun (n : Nat) (a : Int) (out : List Item) (ao : Option Addr) (c : Nat) (cs : List Value) => gLoop p n ⟨a, out⟩ = gParse p ∧ 0 ≤ a ∧ a ≤ p.size ∧ p.size - a < n ∧ out.length ≤ 60) (fun (n : Nat) (a : Int) (out : List Item) (ao : Option Addr) (c : Nat) (cs : List Value) => [(5, .val (.slice ao out.length c)), (6, .val (.int .i64 a))]) (fun (n : Nat) (a : Int) (out : List Item) (ao : Option Addr) (c : Nat) (cs : List Value) => [own (.slice ao out.length c) 251 5 out.length cs, per (relLP out cs)]) (p.size + 1) (0) ([]) (_) (_) ([]) (⟨rfl, by omega, by omega, by omega, by simp⟩) ⟨rfl, rfl, trivial⟩ ?_
  intro n a out ao c cs hk
  refine At.cat2 ?_
  obtain ⟨hk1, hk2, hk3, hk4, hk5⟩ := hk
  refine At.seq ?_
  refine At.seq ?_
  refine At.region ?_
  refine At.ev (ev_move rfl) rfl ?_
  refine At.ev (ev_move rfl) rfl ?_
  refine At.ev (ev_lens T.un9 rfl) rfl ?_
  refine At.ev (ev_lss rfl rfl) rfl ?_
  refine At.nil ?_
  refine At.thenN ?_
  refine At.condD rfl ?_ ?_
  · intro h0
    obtain ⟨m, rfl⟩ : ∃ m, n = m + 1 := ⟨n - 1, by omega⟩
    rw [gLoop] at hk1
    simp only at hk1
    rw [if_pos h0] at hk1
    have hq1 := bSub_size p a hk2 hk3
    have hq2 : (bSub p a p.size).size ≤ big := by omega
    have hb0 := bt_sub p a 0 hk2 (by omega) (by omega)
    rw [Int.add_zero] at hb0
    have hbr := bt_range p a
    refine At.skip ?_
    refine At.thenN ?_
    refine At.block ?_
    refine At.seq ?_
    refine At.seq ?_
    refine At.region ?_
    refine At.ev (ev_move rfl) rfl ?_
    refine At.ev (ev_lenl T.un223 rfl) rfl ?_
    refine At.ev (ev_eqi rfl rfl) rfl ?_
    refine At.nil ?_
    refine At.thenN ?_
    refine At.condD rfl ?_ ?_
    · intro h1
      rw [if_pos (by omega)] at hk1
      refine At.seq ?_
      refine At.region ?_
      refine At.ev (ev_move rfl) rfl ?_
      refine At.ev (ev_assign rfl) rfl ?_
      refine At.ev (ev_assign rfl) rfl ?_
      refine At.ev (ev_assign rfl) rfl ?_
      refine At.nil ?_
      refine At.thenN ?_
      refine At.retC ?_
      refine At.thenR ?_
      refine At.blkR ?_
      refine At.thenR ?_
      refine At.blkR ?_
      refine At.thenR ?_
      refine At.ret (rs := [.tmp 2, .tmp 3, .tmp 4]) rfl (Res.tmp rfl (Res.tmp rfl (Res.tmp rfl Res.nil))) ?_
      rw [← hk1]; exact Imp.items0 rfl
    · intro h1
      rw [if_neg (by omega)] at hk1
      refine At.skip ?_
      refine At.thenN ?_
      refine At.seq ?_
      refine At.region ?_
      refine At.ev (ev_move rfl) rfl ?_
      refine At.ev (ev_move rfl) rfl ?_
      refine At.ev (ev_ix T.un9 rfl rfl (by omega) (by omega)) rfl ?_
      refine At.ev (ev_assign rfl) rfl ?_
      refine At.nil ?_
      refine At.thenN ?_
      refine At.seq ?_
      refine At.seq ?_
      refine At.region ?_
      refine At.ev (ev_move rfl) rfl ?_
      refine At.ev (ev_eqi rfl rfl) rfl ?_
      refine At.nil ?_
      refine At.thenN ?_
      refine At.condD rfl ?_ ?_
      · intro h2
        have hq : itemP (bSub p a p.size) = (⟨false, SetD.none⟩, 0, 2) := by unfold itemP; rw [hb0]; rw [if_neg (by omega), if_neg (by omega), if_neg (by omega), if_pos h2]
        rw [hq] at hk1
        simp only at hk1
        rw [if_pos (by simp), Int.add_zero] at hk1
        refine At.seq ?_
        refine At.region ?_
        refine At.ev (ev_move rfl) rfl ?_
        refine At.ev (ev_assign rfl) rfl ?_
        refine At.ev (ev_assign rfl) rfl ?_
        refine At.ev (ev_assign rfl) rfl ?_
        refine At.nil ?_
        refine At.thenN ?_
        refine At.retC ?_
        refine At.thenR ?_
        refine At.blkR ?_
        refine At.thenR ?_
        refine At.blkR ?_
        refine At.thenR ?_
        refine At.ret (rs := [.tmp 2, .tmp 3, .tmp 4]) rfl (Res.tmp rfl (Res.tmp rfl (Res.tmp rfl Res.nil))) ?_
        rw [← hk1]; exact Imp.items0 rfl
      · intro h2
        refine At.skip ?_
        refine At.thenN ?_
        refine At.seq ?_
        refine At.seq ?_
        refine At.region ?_
        refine At.ev (ev_move rfl) rfl ?_
        refine At.ev (ev_eqi rfl rfl) rfl ?_
        refine At.nil ?_
        refine At.thenN ?_
        refine At.condD rfl ?_ ?_
        · intro h3
          obtain ⟨r, hr⟩ : ∃ r, r = rdEnd (bSub p a p.size) := ⟨_, rfl⟩
          have hrb := rdEnd_b (bSub p a p.size)
          have hq : itemP (bSub p a p.size) = (⟨false, r.1⟩, r.2.1, r.2.2) := by unfold itemP; rw [hb0]; rw [hr, if_neg (by omega), if_neg (by omega), if_pos h3]
          rw [hq] at hk1
          simp only at hk1
          rw [← hr] at hrb
          refine At.seq ?_
          refine At.region ?_
          refine At.ev (ev_move rfl) rfl ?_
          refine At.ev (ev_move rfl) rfl ?_
          refine At.ev (ev_cutI (i := a) (j := p.size) T.un9 rfl rfl rfl (by omega) (by omega) (by omega)) rfl ?_
          refine At.callq (goes_func cf224 rfl) (Qc.pure (r06_Read (bSub p a p.size) hq2)) rfl ?_
          rw [← hr]
          refine At.ev (ev_move rfl) rfl ?_
          refine At.ev (ev_ext rfl rfl) rfl ?_
          refine At.ev (ev_ext rfl rfl) rfl ?_
          refine At.ev (ev_ext rfl rfl) rfl ?_
          refine At.new T.zv249 ?_
          intro bs
          refine At.stA T.sz249 rfl rfl rfl ?_ (cs' := r.1.cs)
          refine At.ev (ev_assign rfl) rfl ?_
          refine At.ev (ev_assign rfl) rfl ?_
          refine At.nil ?_
          refine At.thenN ?_
          refine At.seq ?_
          refine At.region ?_
          refine At.ev (ev_move rfl) rfl ?_
          refine At.ev (ev_move rfl) rfl ?_
          refine At.ev (ev_add rfl rfl (by omega)) rfl ?_
          refine At.ev (ev_assign rfl) rfl ?_
          refine At.nil ?_
          refine At.thenN ?_
          refine At.seq ?_
          refine At.seq ?_
          refine At.region ?_
          refine At.ev (ev_move rfl) rfl ?_
          refine At.ev (ev_nei rfl rfl) rfl ?_
          refine At.nil ?_
          refine At.thenN ?_
          refine At.condDn rfl ?_ ?_
          · intro h4
            rw [if_pos h4] at hk1
            refine At.seq ?_
            refine At.region ?_
            refine At.ev (ev_move rfl) rfl ?_
            refine At.ev (ev_move rfl) rfl ?_
            refine At.ev (ev_assign rfl) rfl ?_
            refine At.ev (ev_assign rfl) rfl ?_
            refine At.ev (ev_assign rfl) rfl ?_
            refine At.nil ?_
            refine At.thenN ?_
            refine At.retC ?_
            refine At.thenR ?_
            refine At.thenR ?_
            refine At.blkR ?_
            refine At.thenR ?_
            refine At.blkR ?_
            refine At.thenR ?_
            refine At.ret (rs := [.tmp 2, .tmp 3, .tmp 4]) rfl (Res.tmp rfl (Res.tmp rfl (Res.tmp rfl Res.nil))) ?_
            rw [← hk1]; exact Imp.items0 rfl
          · intro h4
            rw [if_neg (by simp [h4])] at hk1
            have hr0 := hrb.2.2.1 h4
            refine At.skip ?_
            refine At.thenN ?_
            refine At.seq ?_
            refine At.region ?_
            refine At.ev (ev_move rfl) rfl ?_
            refine At.ev (ldA T.ld249 rfl) rfl ?_
            refine At.ev (ev_build T.pl251 rfl ⟨rfl, trivial⟩ ⟨rfl, by decide, trivial⟩) rfl ?_
            refine At.bsl (⟨false, r.1⟩ : Item).cs T.un223 T.sz251 T.zv251 rfl ?_
            intro be13
            refine At.app2 T.ti223 T.un223 rfl rfl ?_ (h1 := (Item.ones _))
            intro ao2 c2 hcc2 hmc2
            refine At.ev (ev_assign rfl) rfl ?_
            refine At.nil ?_
            refine At.thenN ?_
            refine At.exit ?_
            refine At.thenX ?_
            refine At.blkX ?_
            refine At.thenN ?_
            refine At.snoc (xs := out) ((⟨false, r.1⟩ : Item)) (fun R => Item.rel) (by repeat (first | with_reducible exact Mem.head _ _ | apply Mem.tail)) ?_
            rw [show out.length + 1 = (out ++ [(⟨false, r.1⟩ : Item)]).length by simp]
            refine At.againF6 (m) (a + r.2.1) (out ++ [⟨false, r.1⟩]) (ao2) (c2) (cs ++ (⟨false, r.1⟩ : Item).cs) (by omega) (⟨hk1, by omega, by omega, by omega, by simp only [List.length_append, List.length_cons, List.length_nil]; omega⟩) ⟨rfl, rfl, trivial⟩
        · intro h3
          refine At.skip ?_
          refine At.thenN ?_
          refine At.seq ?_
          refine At.region ?_
          refine At.ev (ev_move rfl) rfl ?_
          refine At.ev (ev_add rfl rfl (by omega)) rfl ?_
          refine At.ev (ev_assign rfl) rfl ?_
          refine At.nil ?_
          refine At.thenN ?_
          refine At.seq ?_
          refine At.seq ?_
          refine At.region ?_
          refine At.ev (ev_move rfl) rfl ?_
          refine At.ev (ev_eqi rfl rfl) rfl ?_
          refine At.nil ?_
          refine At.thenN ?_
          refine At.condD rfl ?_ ?_
          · intro h5
            have hq : itemP (bSub p a p.size) = (⟨true, SetD.none⟩, 1, 0) := by unfold itemP; rw [hb0]; rw [if_pos h5]
            rw [hq] at hk1
            simp only at hk1
            rw [if_neg (by simp)] at hk1
            
            refine At.seq ?_
            refine At.region ?_
            refine At.ev (ev_move rfl) rfl ?_
            refine At.ev (ev_build T.pl251 rfl ⟨rfl, trivial⟩ ⟨rfl, by decide, trivial⟩) rfl ?_
            refine At.bsl (⟨true, SetD.none⟩ : Item).cs T.un223 T.sz251 T.zv251 rfl ?_
            intro be16
            refine At.app2 T.ti223 T.un223 rfl rfl ?_ (h1 := (Item.ones _))
            intro ao2 c2 hcc2 hmc2
            refine At.ev (ev_assign rfl) rfl ?_
            refine At.nil ?_
            refine At.thenN ?_
            refine At.exit ?_
            refine At.thenX ?_
            refine At.blkX ?_
            refine At.thenN ?_
            refine At.snoc (xs := out) ((⟨true, SetD.none⟩ : Item)) (fun R => Item.rel) (by repeat (first | with_reducible exact Mem.head _ _ | apply Mem.tail)) ?_
            rw [show out.length + 1 = (out ++ [(⟨true, SetD.none⟩ : Item)]).length by simp]
            refine At.againF6 (m) (a + 1) (out ++ [⟨true, SetD.none⟩]) (ao2) (c2) (cs ++ (⟨true, SetD.none⟩ : Item).cs) (by omega) (⟨hk1, by omega, by omega, by omega, by simp only [List.length_append, List.length_cons, List.length_nil]; omega⟩) ⟨rfl, rfl, trivial⟩
          · intro h5
            refine At.skip ?_
            refine At.thenN ?_
            refine At.seq ?_
            refine At.seq ?_
            refine At.region ?_
            refine At.ev (ev_move rfl) rfl ?_
            refine At.ev (ev_eqi rfl rfl) rfl ?_
            refine At.nil ?_
            refine At.thenN ?_
            refine At.condD rfl ?_ ?_
            · intro h6
              have hq : itemP (bSub p a p.size) = (⟨false, spanS 0 255⟩, 1, 0) := by unfold itemP; rw [hb0]; rw [if_neg (by omega), if_pos h6]
              rw [hq] at hk1
              simp only at hk1
              rw [if_neg (by simp)] at hk1
              
              refine At.seq ?_
              refine At.region ?_
              refine At.ev (ev_move rfl) rfl ?_
              refine At.callq (goes_func cf225 rfl) (Qc.pure (r06_Span _ _ (by omega) (by omega) (by omega))) rfl ?_
              refine At.ev (ev_build T.pl251 rfl ⟨rfl, trivial⟩ ⟨rfl, by decide, trivial⟩) rfl ?_
              refine At.bsl (⟨false, spanS 0 255⟩ : Item).cs T.un223 T.sz251 T.zv251 rfl ?_
              intro be18
              refine At.app2 T.ti223 T.un223 rfl rfl ?_ (h1 := (Item.ones _))
              intro ao2 c2 hcc2 hmc2
              refine At.ev (ev_assign rfl) rfl ?_
              refine At.nil ?_
              refine At.thenN ?_
              refine At.exit ?_
              refine At.thenX ?_
              refine At.blkX ?_
              refine At.thenN ?_
              refine At.snoc (xs := out) ((⟨false, spanS 0 255⟩ : Item)) (fun R => Item.rel) (by repeat (first | with_reducible exact Mem.head _ _ | apply Mem.tail)) ?_
              rw [show out.length + 1 = (out ++ [(⟨false, spanS 0 255⟩ : Item)]).length by simp]
              refine At.againF6 (m) (a + 1) (out ++ [⟨false, spanS 0 255⟩]) (ao2) (c2) (cs ++ (⟨false, spanS 0 255⟩ : Item).cs) (by omega) (⟨hk1, by omega, by omega, by omega, by simp only [List.length_append, List.length_cons, List.length_nil]; omega⟩) ⟨rfl, rfl, trivial⟩
            · intro h6
              refine At.skip ?_
              refine At.thenN ?_
              refine At.seq ?_
              refine At.seq ?_
              refine At.region ?_
              refine At.ev (ev_move rfl) rfl ?_
              refine At.ev (ev_eqi rfl rfl) rfl ?_
              refine At.nil ?_
              refine At.thenN ?_
              refine At.joinQ2 [(2, 4), (6, 7), (65, 74)] (fun (b : Int) (a2 : Int) => gLoop p m ⟨a2, out ++ [⟨false, spanS b b⟩]⟩ = gParse p ∧ a < a2 ∧ a2 ≤ p.size ∧ 0 ≤ b ∧ b ≤ 255) (fun (b : Int) (a2 : Int) => [(7, .val (.int .u8 b)), (6, .val (.int .i64 a2))]) (fun (b : Int) (a2 : Int) => []) [] ?_ ?_
              · skip
                refine At.condD rfl ?_ ?_
                · intro h7
                  refine At.seq ?_
                  refine At.seq ?_
                  refine At.region ?_
                  refine At.ev (ev_move rfl) rfl ?_
                  refine At.ev (ev_move rfl) rfl ?_
                  refine At.ev (ev_lens T.un9 rfl) rfl ?_
                  refine At.ev (ev_eqi rfl rfl) rfl ?_
                  refine At.nil ?_
                  refine At.thenN ?_
                  refine At.condD rfl ?_ ?_
                  · intro h8
                    have hq : itemP (bSub p a p.size) = (⟨false, SetD.none⟩, 1, 3) := by unfold itemP; rw [hb0]; rw [if_neg (by omega), if_neg (by omega), if_neg (by omega), if_neg (by omega), if_pos h7, if_pos (by omega)]
                    rw [hq] at hk1
                    simp only at hk1
                    rw [if_pos (by simp)] at hk1
                    refine At.seq ?_
                    refine At.region ?_
                    refine At.ev (ev_move rfl) rfl ?_
                    refine At.ev (ev_assign rfl) rfl ?_
                    refine At.ev (ev_assign rfl) rfl ?_
                    refine At.ev (ev_assign rfl) rfl ?_
                    refine At.nil ?_
                    refine At.thenN ?_
                    refine At.retC ?_
                    refine At.thenR ?_
                    refine At.thenR ?_
                    refine At.thenR ?_
                    refine At.blkR ?_
                    refine At.thenR ?_
                    refine At.blkR ?_
                    refine At.thenR ?_
                    refine At.ret (rs := [.tmp 2, .tmp 3, .tmp 4]) rfl (Res.tmp rfl (Res.tmp rfl (Res.tmp rfl Res.nil))) ?_
                    rw [← hk1]; exact Imp.items0 rfl
                  · intro h8
                    have hb1 := bt_sub p a 1 hk2 (by omega) (by omega)
                    have hbr1 := bt_range p (a + 1)
                    have hq : itemP (bSub p a p.size) = (⟨false, spanS (bt p (a + 1)) (bt p (a + 1))⟩, 2, 0) := by unfold itemP; rw [hb0]; rw [if_neg (by omega), if_neg (by omega), if_neg (by omega), if_neg (by omega), if_pos h7, if_neg (by omega), hb1]
                    rw [hq] at hk1
                    simp only at hk1
                    rw [if_neg (by simp)] at hk1
                    
                    refine At.skip ?_
                    refine At.thenN ?_
                    refine At.seq ?_
                    refine At.region ?_
                    refine At.ev (ev_move rfl) rfl ?_
                    refine At.ev (ev_move rfl) rfl ?_
                    refine At.ev (ev_ix T.un9 rfl rfl (by omega) (by omega)) rfl ?_
                    refine At.ev (ev_assign rfl) rfl ?_
                    refine At.nil ?_
                    refine At.thenN ?_
                    refine At.region ?_
                    refine At.ev (ev_move rfl) rfl ?_
                    refine At.ev (ev_add rfl rfl (by omega)) rfl ?_
                    refine At.ev (ev_assign rfl) rfl ?_
                    refine At.nil ?_
                    refine At.thenN ?_
                    refine At.meet2 (bt p (a + 1)) (a + 1 + 1) (⟨by rw [show a + 1 + 1 = a + 2 by omega]; exact hk1, by omega, by omega, by omega, by omega⟩) ⟨rfl, rfl, trivial⟩
                · intro h7
                  refine At.skip ?_
                  refine At.thenN ?_
                  have hq : itemP (bSub p a p.size) = (⟨false, spanS (bt p a) (bt p a)⟩, 1, 0) := by unfold itemP; rw [hb0]; rw [if_neg (by omega), if_neg (by omega), if_neg (by omega), if_neg (by omega), if_neg (by omega)]
                  rw [hq] at hk1
                  simp only at hk1
                  rw [if_neg (by simp)] at hk1
                  
                  refine At.meet2 (bt p a) (a + 1) (⟨hk1, by omega, by omega, by omega, by omega⟩) ⟨rfl, rfl, trivial⟩
              intro b a2 hj
              refine At.cat0 ?_
              obtain ⟨hj1, hj2, hj3, hj4, hj5⟩ := hj
              refine At.thenN ?_
              refine At.region ?_
              refine At.ev (ev_move rfl) rfl ?_
              refine At.ev (ev_move rfl) rfl ?_
              refine At.ev (ev_conv ⟨_, T.un5⟩ T.un3 rfl (IntWalk.i64_in _ (by omega))) rfl ?_
              refine At.ev (ev_move rfl) rfl ?_
              refine At.ev (ev_conv ⟨_, T.un5⟩ T.un3 rfl (IntWalk.i64_in _ (by omega))) rfl ?_
              refine At.callq (goes_func cf225 rfl) (Qc.pure (r06_Span _ _ (by omega) (by omega) (by omega))) rfl ?_
              refine At.ev (ev_build T.pl251 rfl ⟨rfl, trivial⟩ ⟨rfl, by decide, trivial⟩) rfl ?_
              refine At.bsl (⟨false, spanS b b⟩ : Item).cs T.un223 T.sz251 T.zv251 rfl ?_
              intro be24
              refine At.app2 T.ti223 T.un223 rfl rfl ?_ (h1 := (Item.ones _))
              intro ao2 c2 hcc2 hmc2
              refine At.ev (ev_assign rfl) rfl ?_
              refine At.nil ?_
              refine At.blkN ?_
              refine At.thenN ?_
              refine At.snoc (xs := out) ((⟨false, spanS b b⟩ : Item)) (fun R => Item.rel) (by repeat (first | with_reducible exact Mem.head _ _ | apply Mem.tail)) ?_
              rw [show out.length + 1 = (out ++ [(⟨false, spanS b b⟩ : Item)]).length by simp]
              refine At.againF6 (m) (a2) (out ++ [⟨false, spanS b b⟩]) (ao2) (c2) (cs ++ (⟨false, spanS b b⟩ : Item).cs) (by omega) (⟨hj1, by omega, by omega, by omega, by simp only [List.length_append, List.length_cons, List.length_nil]; omega⟩) ⟨rfl, rfl, trivial⟩
  · intro h0
    have hr : gParse p = (out, 0, 0) := by
      rw [← hk1]; cases n with
      | zero => rfl
      | succ n => rw [gLoop]; simp only; rw [if_neg h0]
    refine At.sealS out rfl ?_
    intro hc2 _
    refine At.exit ?_
    refine At.thenX ?_
    refine At.thenX ?_
    refine At.blkX ?_
    refine At.thenN ?_
    refine At.seq ?_
    refine At.region ?_
    refine At.ev (ev_move rfl) rfl ?_
    refine At.ev (ev_assign rfl) rfl ?_
    refine At.ev (ev_assign rfl) rfl ?_
    refine At.ev (ev_assign rfl) rfl ?_
    refine At.nil ?_
    refine At.thenN ?_
    refine At.retC ?_
    refine At.ret (rs := [.tmp 2, .tmp 3, .tmp 4]) rfl (Res.tmp rfl (Res.tmp rfl (Res.tmp rfl Res.nil))) ?_
    rw [hr]; exact Imp.items (e := (out, 0, 0)) (by repeat (first | with_reducible exact Mem.head _ _ | apply Mem.tail)) hc2 rfl

end Go.Proofs.YtebjpeonbfhdhaaGreat
