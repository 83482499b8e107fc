/- Rows that the call owns: looks, stores, parts, clear, make. -/
import Derived.Test.YtebjpeonbfhdhaaGreatSx13
import Derived.Laws.MakeOwn
set_option linter.unusedSimpArgs false
set_option linter.unusedVariables false
namespace Go.Sx
open Go
section
variable {P : Program} {E : En} {N : Nat} {K : Kl} {g : Option (Nat × Bool)} {Hs : List Asn} {ty : TypeId} {Q : Exit → Act → World → Prop} {ops : Array Oper} {rest : List Oper} {pos : String} {af : Array Edge} {G : Act → World → Prop}
theorem own_blk {ao : Option Addr} {n c t sz : Nat} {cs : List Value} {l : List Asn} {w : World} (hn : 0 < n) (h : St E (own (.slice ao n c) t sz n cs :: l) w) : ∃ b sp, ao = some ⟨b, 0, none⟩ ∧ cs.length = n * sz ∧ (cs ++ sp).length = c * sz ∧ n ≤ c ∧ c ≤ maxLen ∧ St E (blk b (cs ++ sp) t :: l) w := by
  obtain ⟨o, h⟩ := h.exE
  cases o with
  | none => obtain ⟨⟨_, h0, _⟩, _⟩ := h.purE; omega
  | some q =>
    obtain ⟨b, cap, sp⟩ := q
    obtain ⟨⟨e, h1, h2, h3, h4⟩, h5⟩ := h.starE.purE
    cases e
    exact ⟨b, sp, rfl, h1, h2, h3, h4, h5⟩
theorem At.ownAd {ao : Option Addr} {n c t sz : Nat} {cs : List Value} (hm : Mem (own (.slice ao n c) t sz n cs) Hs := by repeat (first | with_reducible exact Go.Sx.Mem.head _ _ | apply Go.Sx.Mem.tail)) (hn : 0 < n) (h : ∀ b, ao = some ⟨b, 0, none⟩ → n ≤ c → At E N K Hs G) : At E N K Hs G := fun a w hk hs => by
  obtain ⟨m, hm1⟩ := hm.at1
  obtain ⟨b, _, e, _, _, hc, _⟩ := own_blk hn (hs.front hm1)
  exact h b e hc a w hk hs
theorem Cell.own {b n c t sz k : Nat} {cs : List Value} {v : Value} (hm : Mem (Sx.own (.slice (some ⟨b, 0, none⟩) n c) t sz n cs) Hs) (hk : cs[k]? = some v) : Cell Hs ((⟨b, 0, none⟩ : Addr).add k) v := fun E w hs => by
  obtain ⟨m, hm1⟩ := hm.at1
  obtain ⟨o, h⟩ := (hs.front hm1).exE
  cases o with
  | none => obtain ⟨⟨e, _⟩, _⟩ := h.purE; cases e
  | some q =>
    obtain ⟨b', cap, sp⟩ := q
    obtain ⟨⟨e, h1, h2, h3, h4⟩, h5⟩ := h.starE.purE
    cases e
    rw [add_lit, Nat.zero_add, cell_pt (h5.pt (.head _ _)), List.getElem?_append_left (List.getElem?_eq_some_iff.1 hk).1]
    exact hk
/-- A store into such a row. -/
theorem At.stO {x y : Operand} {t t' : TypeId} {ad : Addr} {b k n c sz : Nat} {cs cs' : List Value} {v : Value} {m : List Asn} (hz : SZ P t 1) (hx : opv K none x = some (.pointer (some ad))) (hy : opv K none y = some v)
    (had : ad = (⟨b, 0, none⟩ : Addr).add k) (hm : At1 Hs (own (.slice (some ⟨b, 0, none⟩) n c) t' sz n cs) m := by repeat (first | with_reducible exact Go.Sx.At1.head _ _ | apply Go.Sx.At1.tail)) (hk : k < cs.length) (he : cs.set k v = cs') (h : At E N K (own (.slice (some ⟨b, 0, none⟩) n c) t' sz n cs' :: m) (opsW P ops Q rest)) (hv : v.cells = #[v] := by rfl) (h1 : v.oneCell' = true := by rfl) :
    At E N K Hs (opsW P ops Q (⟨none, .store t x y, ty, pos, af, none⟩ :: rest)) := by
  refine At.front hm (At.ex fun o => ?_)
  cases o with
  | none => exact At.pur fun ⟨e, _⟩ => by cases e
  | some q =>
    obtain ⟨b', cap, sp⟩ := q
    refine At.star (At.pur fun ⟨e, e1, e2, e3, e4⟩ => ?_)
    cases e
    subst he
    refine At.st1 (k := 0 + k) hz hx hy (had.trans (add_lit _ _ _)) (At.weak (Hs' := own (.slice (some ⟨b, 0, none⟩) n c) t' sz n (cs.set k v) :: m) ?_ h) (.head _ _) hv h1 (by simp; omega) (cs' := cs.set k v ++ sp) (by rw [Nat.zero_add, List.set_append_left _ _ hk])
    exact Imp.own_new (by simpa using e1) (by simpa using e2) e3 e4
/-- The first elements of such a row. -/
theorem Imp.ownTake {ao : Option Addr} {n c t sz : Nat} {cs : List Value} {l : List Asn} (j : Nat) (hj : j ≤ n) : Imp (own (.slice ao n c) t sz n cs :: l) (own (.slice ao j c) t sz j (cs.take (j * sz)) :: l) := fun E w h => by
  obtain ⟨o, h⟩ := h.exE
  cases o with
  | none =>
    obtain ⟨⟨e, h0, rfl⟩, h2⟩ := h.purE
    cases e
    obtain rfl : j = 0 := by omega
    simpa using Imp.own_nil t sz E w h2
  | some q =>
    obtain ⟨b', cap, sp⟩ := q
    obtain ⟨⟨e, e1, e2, e3, e4⟩, h2⟩ := h.starE.purE
    cases e
    have hjs : j * sz ≤ cs.length := by rw [e1]; exact Nat.mul_le_mul_right _ hj
    have := Imp.own_new (l := l) (b := b') (n := j) (cap := c) (sz := sz) (cs := cs.take (j * sz)) (sp := cs.drop (j * sz) ++ sp) (t := t) (by simp [hjs]) (by rw [← List.append_assoc, List.take_append_drop]; exact e2) (by omega) e4
    rw [← List.append_assoc, List.take_append_drop] at this
    exact this E w h2
theorem At.ownTake {ao : Option Addr} {n c t sz : Nat} {cs : List Value} {m : List Asn} (hm : At1 Hs (own (.slice ao n c) t sz n cs) m := by repeat (first | with_reducible exact Go.Sx.At1.head _ _ | apply Go.Sx.At1.tail)) (j : Nat) (hj : j ≤ n) (cs' : List Value) (he : cs.take (j * sz) = cs') (h : At E N K (own (.slice ao j c) t sz j cs' :: m) G) : At E N K Hs G := by
  subst he
  exact At.front hm (At.weak (Imp.ownTake j hj) h)
theorem ev_slO {x o : Operand} {t e t' n c sz j : Nat} {ao : Option Addr} {cs : List Value} (hu : UN P t (.slice e)) (hz : SZ P e sz) (hx : opv K g x = some (.slice ao n c)) (hh : opv K g o = some (.int .i64 (j : Int))) (hj : j ≤ n) (hm : Mem (Sx.own (.slice ao n c) t' sz n cs) Hs := by repeat (first | with_reducible exact Go.Sx.Mem.head _ _ | apply Go.Sx.Mem.tail)) :
    Ev P E N K g Hs (.slice t x none (some o) none) ty (.slice ao j c) := fun a w hk hg hs d pos af gd => by
  obtain ⟨m, hm1⟩ := hm.at1
  obtain ⟨q, h⟩ := (hs.front hm1).exE
  have hc : j ≤ c := by
    cases q with
    | none => obtain ⟨⟨e, h0, _⟩, _⟩ := h.purE; cases e; omega
    | some q => obtain ⟨b', cap, sp⟩ := q; obtain ⟨⟨e, _, _, h3, _⟩, _⟩ := h.starE.purE; cases e; omega
  have h1 := ev_slsl (P := P) (E := E) (N := N) (Hs := Hs) (ty := ty) (lo := none) (hi := some o) (l := 0) (h := j) (n' := j) (c' := c) hu hz hx rfl hh (Nat.zero_le _) (Or.inr hc) rfl rfl a w hk hg hs d pos af gd
  have e1 : slAt ao c 0 sz = ao := by
    unfold slAt
    split
    · rfl
    · cases q with
      | none => obtain ⟨⟨e, _, _⟩, _⟩ := h.purE; cases e; rfl
      | some q => obtain ⟨b', cap, sp⟩ := q; obtain ⟨⟨e, _⟩, _⟩ := h.starE.purE; cases e; simp [Addr.add]
  rwa [e1] at h1
theorem slAt_ne {b c i : Nat} (h : i < c) : slAt (some ⟨b, 0, none⟩) c i 1 = some ((⟨b, 0, none⟩ : Addr).add (i * 1)) := by
  unfold slAt; rw [if_neg (by omega)]; rfl
theorem Cell.own2 {b n c t sz i k : Nat} {cs : List Value} {v : Value} (hm : Mem (Sx.own (.slice (some ⟨b, 0, none⟩) n c) t sz n cs) Hs) (hk : cs[i + k]? = some v) : Cell Hs (((⟨b, 0, none⟩ : Addr).add (i * 1)).add (k * 1)) v := by
  rw [Nat.mul_one, Nat.mul_one, add_lit, add_lit, Nat.zero_add, ← Nat.zero_add (i + k), ← add_lit]
  exact Cell.own hm hk
/-- What is appended: a row of the call's own. -/
theorem src_own {l : List Asn} {tx e' sz m t : Nat} {v : Value} {cs : List Value} (hu : UN P tx (.slice e')) (hm : Mem (Sx.own v t sz m cs) l) (h1 : ones cs) : ∀ E w, St E l w → Src P sz tx v m cs w := fun E w hs => by
  obtain ⟨mm, hm1⟩ := hm.at1
  obtain ⟨o, h⟩ := (hs.front hm1).exE
  cases o with
  | none => obtain ⟨⟨rfl, rfl, rfl⟩, _⟩ := h.purE; exact Src.ofNil w hu 0
  | some q =>
    obtain ⟨b', cap, sp⟩ := q
    obtain ⟨⟨rfl, e1, _, _, _⟩, h2⟩ := h.starE.purE
    refine Src.ofSlice w hu _ m cap cs e1 (fun j u hj => ?_) (ones_mem h1)
    rw [add_lit, Nat.zero_add, cell_pt (h2.pt (.head _ _)), List.getElem?_append_left (List.getElem?_eq_some_iff.1 hj).1]
    exact hj
theorem At.appS {x y : Operand} {t tx e sz by' n m d : Nat} {v u : Value} {cs news : List Value} {mm : List Asn} (ht : TI P t e sz by') (hx : opv K none x = some v) (hy : opv K none y = some u) (hsrc : ∀ E w, St E Hs w → Src P sz tx u m news w)
    (h : ∀ ao c, n + m ≤ c → c ≤ maxLen → At E N ((d, .val (.slice ao (n + m) c)) :: K) (own (.slice ao (n + m) c) e sz (n + m) (cs ++ news) :: mm) (opsW P ops Q rest)) (hm : At1 Hs (own v e sz n cs) mm := by repeat (first | with_reducible exact Go.Sx.At1.head _ _ | apply Go.Sx.At1.tail)) (hr : (n + m) * by' ≤ 140737488355328 := by omega) (h63 : n + m ≤ maxLen := by (unfold Go.maxLen; omega)) (hd : Nat.blt d N = true := by rfl) :
    At E N K Hs (opsW P ops Q (⟨some d, .call { callee := .builtin .append, args := #[x, y], argTypes := #[t, tx] }, ty, pos, af, none⟩ :: rest)) := by
  refine At.ch (ch_append ht hx hy hm hsrc hr h63 _) hd fun v' Hs' e1 => ?_
  subst e1
  refine At.ownV (.head _ _) fun ao c e h1 h2 => ?_
  subst e; exact h ao c h1 h2
/-- An element type of one cell, whose zero value is z. -/
structure MK (P : Program) (t e by' : Nat) (z : Value) : Prop where
  un : P.underlying t = some (.slice e)
  info : ∃ i, P.info? e = some i ∧ i.size = 1 ∧ i.bytes = by' ∧ i.zero = some z
  one : z.cells = #[z]
  o1 : z.oneCell' = true
theorem MK.of {t e by' : Nat} {z : Value} (hu : P.underlying t = some (.slice e)) (h : (P.info? e).map (fun i => (i.size, i.bytes, i.zero)) = some (1, by', some z)) (hz : z.cells = #[z]) (h1 : z.oneCell' = true) : MK P t e by' z := by
  refine ⟨hu, ?_, hz, h1⟩
  cases hi : P.info? e with
  | none => simp [hi] at h
  | some i => simp [hi] at h; exact ⟨i, rfl, h.1, h.2.1, h.2.2⟩
theorem made_one (z : Value) (hz : z.cells = #[z]) (n : Nat) : (madeCells z.cells n) = (List.replicate n z).toArray := by
  rw [hz]
  apply Array.ext
  · simp [madeCells]
  · intro i h1 h2
    simp [madeCells, Nat.mod_one]
theorem At.mk {x : Operand} {t e by' d : Nat} {z : Value} {n : Nat} (hk : MK P t e by' z) (hx : opv K none x = some (.int .i64 (n : Int))) (hb : by' * n ≤ 281474976710656) (h63 : n ≤ 9223372036854775807)
    (h : ∀ b, At E N ((d, .val (.slice (some ⟨b, 0, none⟩) n n)) :: K) (blk b (List.replicate n z) e :: Hs) (opsW P ops Q rest)) (hd : Nat.blt d N = true := by rfl) :
    At E N K Hs (opsW P ops Q (⟨some d, .makeSlice t x x, ty, pos, af, none⟩ :: rest)) := by
  obtain ⟨i, hi, hs1, hby, hz⟩ := hk.info
  refine At.ch (R := fun v Hs' => ∃ b, v = .slice (some ⟨b, 0, none⟩) n n ∧ Hs' = blk b (List.replicate n z) e :: Hs) (fun a w hkn hs pos af gd => ?_) hd fun v Hs' ⟨b, e1, e2⟩ => by subst e1; subst e2; exact h b
  have hb' : (i.bytes : Int) * (n : Int) ≤ 281474976710656 := by
    rw [hby]; have : ((by' * n : Nat) : Int) ≤ 281474976710656 := by omega
    rwa [Int.natCast_mul] at this
  have hr := run_make (P := P) w t e i z hk.un hi hz .i64 .i64 n n (by omega) (Int.le_refl _) hb' (by omega)
  rw [Int.toNat_natCast, hs1, Nat.mul_one, made_one z hk.one] at hr
  refine ⟨_, _, _, ⟨w.heap.size, rfl, rfl⟩, hs.alloc (.cells (List.replicate n z).toArray e (0, 0)), .inl ?_⟩
  simp only [execOp, opv_eval hkn (Gd.none a) hx, Sem.run_bind, hr, Result.andThen_ok, Sem.run_pure]
  rfl
/-- clear, of the elements from i on. -/
theorem At.clearO {x : Operand} {t e by' b n c i : Nat} {z : Value} {cs cs' : List Value} {m : List Asn} (hk : MK P t e by' z) (hx : opv K none x = some (.slice (slAt (some ⟨b, 0, none⟩) c i 1) (n - i) (c - i))) (hi : i ≤ n) (he : cs.take i ++ List.replicate (n - i) z = cs')
    (h : At E N K (own (.slice (some ⟨b, 0, none⟩) n c) e 1 n cs' :: m) (opsW P ops Q rest)) (hm : At1 Hs (own (.slice (some ⟨b, 0, none⟩) n c) e 1 n cs) m := by repeat (first | with_reducible exact Go.Sx.At1.head _ _ | apply Go.Sx.At1.tail)) :
    At E N K Hs (opsW P ops Q (⟨none, .call { callee := .builtin .clear, args := #[x], argTypes := #[t] }, ty, pos, af, none⟩ :: rest)) := by
  subst he
  refine At.ch0 (R := fun _ Hs' => Hs' = own (.slice (some ⟨b, 0, none⟩) n c) e 1 n (cs.take i ++ List.replicate (n - i) z) :: m) (fun a w hkn hs pos af gd => ?_) fun v Hs' e1 => by subst e1; exact h
  obtain ⟨q, h5⟩ := (hs.front hm).exE
  cases q with
  | none => obtain ⟨⟨e, _⟩, _⟩ := h5.purE; cases e
  | some q =>
    obtain ⟨b', cap, sp⟩ := q
    obtain ⟨⟨e0, e1, e2, e3, e4⟩, h6⟩ := h5.starE.purE
    cases e0
    rw [Nat.mul_one] at e1 e2
    have hbk : w.heap[b]? = some (.cells (cs ++ sp).toArray e (0, 0)) := h6.pt (.head _ _)
    have ev : (#[x].map a.eval) = #[.slice (slAt (some ⟨b, 0, none⟩) c i 1) (n - i) (c - i)] := by simp [opv_eval hkn (Gd.none a) hx]
    by_cases hni : n - i = 0
    · have hin : i = n := by omega
      refine ⟨.tuple #[], w, _, rfl, ?_, .inl ?_⟩
      · have e7 : cs.take i ++ List.replicate (n - i) z = cs := by rw [hni, List.replicate_zero, List.append_nil, List.take_of_length_le (by omega)]
        rw [e7]
        exact Imp.own_new (by omega) (by omega) e3 e4 E w h6
      · simp only [execOp, resolve, Sem.run_bind, Sem.run_pure, Result.andThen_ok, invoke, builtin]
        rw [ev, hni]
        have : (Builtin.clear_ #[t] ty #[.slice (slAt (some ⟨b, 0, none⟩) c i 1) 0 (c - i)]).run P w = .ok (.tuple #[]) w := by
          cases slAt (some ⟨b, 0, none⟩) c i 1 <;> simp [Builtin.clear_, run_underlying hk.un]
        rw [this]; rfl
    · have hne : c ≠ i := by omega
      have hsl : slAt (some ⟨b, 0, none⟩) c i 1 = some ⟨b, i, none⟩ := by
        unfold slAt; rw [if_neg hne]; simp [add_lit]
      obtain ⟨info, hi1, hi2, hi3, hi4⟩ := hk.info
      have hzc : (Builtin.zeroCells z.cells (n - i)).toList = List.replicate (n - i) z := by
        rw [hk.one]
        simp [Builtin.zeroCells]
        apply List.ext_getElem
        · simp
        · intro j h1 h2
          simp [Nat.mod_one]
      have hst := run_storeCells_at P b i e (List.replicate (n - i) z) 0 (cs ++ sp).toArray w hbk (by simp; omega) (by intro v hv; rw [List.eq_of_mem_replicate hv]; exact hk.o1)
      simp only [Nat.add_zero] at hst
      obtain ⟨k, hk'⟩ : ∃ k, n - i = k + 1 := ⟨n - i - 1, by omega⟩
      refine ⟨.tuple #[], w.setRow b (splice (cs ++ sp) i (List.replicate (n - i) z)).toArray, _, rfl, ?_, .inl ?_⟩
      · have h7 := h6.setBlk (cs' := splice (cs ++ sp) i (List.replicate (n - i) z)) (.head _ _)
        have e8 : splice (cs ++ sp) i (List.replicate (n - i) z) = (cs.take i ++ List.replicate (n - i) z) ++ sp := by
          unfold splice
          rw [List.take_append_of_le_length (by omega), List.length_replicate, show i + (n - i) = cs.length by omega, List.drop_left]
        rw [e8] at h7 ⊢
        exact Imp.own_new (by simp; omega) (by simp at e2 ⊢; omega) e3 e4 E _ h7
      · simp only [execOp, resolve, Sem.run_bind, Sem.run_pure, Result.andThen_ok, invoke, builtin]
        rw [ev, hsl]
        have hzv : (zeroValue e).run P w = .ok z w := by simp [zeroValue, typeInfo, hi1, hi4]
        have : (Builtin.clear_ #[t] ty #[.slice (some ⟨b, i, none⟩) (n - i) (c - i)]).run P w = .ok (.tuple #[]) (w.setRow b (splice (cs ++ sp) i (List.replicate (n - i) z)).toArray) := by
          rw [hk'] at hzc hst ⊢
          simp only [Builtin.clear_, List.getElem?_toArray, List.getElem?_cons_zero, Sem.run_bind, run_underlying hk.un, Result.andThen_ok, hzv, hzc, hst, splice, Sem.run_pure]
        rw [this]; rfl
end
end Go.Sx
