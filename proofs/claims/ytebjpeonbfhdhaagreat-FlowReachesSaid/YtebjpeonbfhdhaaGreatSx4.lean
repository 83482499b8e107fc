/- Rules for operations that turn the heap; rows that the program owns; rows that stay. -/
import Derived.Test.YtebjpeonbfhdhaaGreatSx3
set_option linter.unusedSimpArgs false
set_option linter.unusedVariables false
namespace Go.Sx
open Go

def one (v : Value) : Prop := v.oneCell' = true
def ones : List Value → Prop
  | [] => True
  | v :: l => v.oneCell' = true ∧ ones l
theorem ones_mem {l : List Value} (h : ones l) : ∀ v ∈ l, v.oneCell' = true := by
  induction l with
  | nil => intro v hv; cases hv
  | cons u l ih =>
    intro v hv
    rcases List.mem_cons.1 hv with rfl | hv
    · exact h.1
    · exact ih h.2 v hv
theorem ones_of {l : List Value} (h : ∀ v ∈ l, v.oneCell' = true) : ones l := by
  induction l with
  | nil => trivial
  | cons u l ih => exact ⟨h u (List.mem_cons_self ..), ih (fun v hv => h v (List.mem_cons_of_mem _ hv))⟩
/-- Cells k .. of a row turned. -/
def splice (cs : List Value) (k : Nat) (vs : List Value) : List Value := cs.take k ++ vs ++ cs.drop (k + vs.length)
theorem splice_len {cs vs : List Value} {k : Nat} (h : k + vs.length ≤ cs.length) : (splice cs k vs).length = cs.length := by
  unfold splice; simp; omega

section
variable {P : Program} {E : En} {N : Nat} {K : Kl} {g : Option (Nat × Bool)} {Hs : List Asn} {ty : TypeId} {Q : Exit → Act → World → Prop} {ops : Array Oper} {rest : List Oper} {pos : String} {af : Array Edge}

theorem St.blkE {w : World} {b : Nat} {cs : List Value} {t : TypeId} (h : St E Hs w) (hm : Mem (blk b cs t) Hs) : w.heap[b]? = some (.cells cs.toArray t (0, 0)) := h.pt hm
theorem St.setBlk {m : List Asn} {w : World} {b : Nat} {cs cs' : List Value} {t : TypeId} (h : St E Hs w) (hm : At1 Hs (blk b cs t) m) : St E (blk b cs' t :: m) (w.setRow b cs'.toArray) := by
  have hb : w.heap[b]? = some (.cells cs.toArray t (0, 0)) := by
    have := (h.front hm).pt (.head _ _); exact this
  refine h.set (o' := .cells cs'.toArray t (0, 0)) hm (fun n hn => setRow_other w b n _ hn) (setRow_heap w b _ _ t _ hb) rfl rfl rfl

/-- The operation turns the heap, and yields v. -/
def Ch (P : Program) (E : En) (N : Nat) (K : Kl) (Hs : List Asn) (op : Op) (t : TypeId) (d : Option Nat) (R : Value → List Asn → Prop) : Prop :=
  ∀ a w, Kn N K a → St E Hs w → ∀ pos af gd, ∃ v w' Hs', R v Hs' ∧ St E Hs' w' ∧
    (((execOp a.eval ⟨d, op, t, pos, af, gd⟩).run P w = .ok (.value v) w') ∨ ((execOp a.eval ⟨d, op, t, pos, af, gd⟩).run P w = .ok .skip w' ∧ v = undef))
theorem At.ch {d : Nat} {op : Op} {R : Value → List Asn → Prop} (hc : Ch P E N K Hs op ty (some d) R) (hd : Nat.blt d N = true)
    (h : ∀ v Hs', R v Hs' → At E N ((d, .val v) :: K) Hs' (opsW P ops Q rest)) : At E N K Hs (opsW P ops Q (⟨some d, op, ty, pos, af, none⟩ :: rest)) := fun a w hk hs => by
  obtain ⟨v, w', Hs', hr, hst, he⟩ := hc a w hk hs pos af none
  rcases he with he | ⟨he, rfl⟩ <;>
    (simp only [opsW, Region.wanted, if_true, Oper.wp, he, Oper.upon]
     exact h _ Hs' hr _ w' (hk.put hd _) hst)
theorem At.ch0 {op : Op} {R : Value → List Asn → Prop} (hc : Ch P E N K Hs op ty none R)
    (h : ∀ v Hs', R v Hs' → At E N K Hs' (opsW P ops Q rest)) : At E N K Hs (opsW P ops Q (⟨none, op, ty, pos, af, none⟩ :: rest)) := fun a w hk hs => by
  obtain ⟨v, w', Hs', hr, hst, he⟩ := hc a w hk hs pos af none
  rcases he with he | ⟨he, rfl⟩ <;>
    (simp only [opsW, Region.wanted, if_true, Oper.wp, he, Oper.upon]
     exact h _ Hs' hr _ w' hk hst)

/-! ### Stores -/
theorem run_storeVar {w : World} {b k : Nat} {t t' n : Nat} {cs vs : List Value} {v : Value} (hz : SZ P t n) (hb : w.heap[b]? = some (.cells cs.toArray t' (0, 0))) (hv : v.cells = vs.toArray) (hn : vs.length = n) (h1 : ones vs) (hk : k + n ≤ cs.length) :
    (storeVar t ⟨b, k, none⟩ v).run P w = .ok () (w.setRow b (splice cs k vs).toArray) := by
  have hst := run_storeCells_at P b k t' vs 0 cs.toArray w hb (by simpa [hn] using hk) (ones_mem h1)
  simp only [Nat.add_zero] at hst
  have hsz : ¬ (v.cells.size ≠ n) := by simp [hv, hn]
  have e : v.cells.toList = vs := by rw [hv]
  simp only [storeVar, Sem.run_bind, hz w, Result.andThen_ok, if_neg hsz, e, hst, Sem.run_pure]
  rfl
/-- A store of one cell or more into an owned block. -/
theorem ch_store {x y : Operand} {t t' : TypeId} {ad : Addr} {b k n : Nat} {cs vs : List Value} {v : Value} {m : List Asn} (hz : SZ P t n) (hx : opv K none x = some (.pointer (some ad))) (hy : opv K none y = some v)
    (had : ad = ⟨b, k, none⟩) (hv : v.cells = vs.toArray) (h1 : ones vs) (hm : At1 Hs (blk b cs t') m) (hn : Nat.beq vs.length n = true) (hk : k + n ≤ cs.length) (d : Option Nat) :
    Ch P E N K Hs (.store t x y) ty d (fun _ Hs' => Hs' = blk b (splice cs k vs) t' :: m) := fun a w hkn hs pos af gd => by
  subst had
  have hb : w.heap[b]? = some (.cells cs.toArray t' (0, 0)) := (hs.front hm).pt (.head _ _)
  have hr := run_storeVar (P := P) hz hb hv (beq_t.1 hn) h1 hk
  refine ⟨undef, _, _, rfl, hs.setBlk (cs' := splice cs k vs) hm, .inr ⟨?_, rfl⟩⟩
  simp only [execOp, opv_eval hkn (Gd.none a) hx, opv_eval hkn (Gd.none a) hy, Sem.run_bind, Instr.storeAt, Instr.sureAddr, Sem.run_pure, Result.andThen_ok, hr]

/-! ### New blocks -/
theorem ch_alloc {t : TypeId} {z : List Value} (hz : ZV P t z) (d : Option Nat) : Ch P E N K Hs (.alloc t) ty d (fun v Hs' => ∃ b, v = .pointer (some ⟨b, 0, none⟩) ∧ Hs' = blk b z t :: Hs) := fun a w hkn hs pos af gd => by
  obtain ⟨u, hu, hc⟩ := hz w
  refine ⟨_, _, _, ⟨w.heap.size, rfl, rfl⟩, hs.alloc (.cells z.toArray t (0, 0)), .inl ?_⟩
  simp only [execOp, Sem.run_bind, Instr.alloc, hu, Result.andThen_ok, newVar, newRow, run_newObj, Sem.run_pure, hc]
theorem ch_box {x : Operand} {t : TypeId} {v : Value} {vs : List Value} (hx : opv K none x = some v) (hv : v.cells = vs.toArray) (d : Option Nat) : Ch P E N K Hs (.box t x) ty d (fun v Hs' => ∃ b, v = .pointer (some ⟨b, 0, none⟩) ∧ Hs' = blk b vs t :: Hs) := fun a w hkn hs pos af gd => by
  refine ⟨_, _, _, ⟨w.heap.size, rfl, rfl⟩, hs.alloc (.cells vs.toArray t (0, 0)), .inl ?_⟩
  simp only [execOp, opv_eval hkn (Gd.none a) hx, Sem.run_bind, Instr.box, newVar, newRow, run_newObj, Sem.run_pure, Result.andThen_ok, hv]

theorem ch_boxA {x : Operand} {t : TypeId} {vs : List Value} (hx : opv K none x = some (.agg vs.toArray)) (d : Option Nat) : Ch P E N K Hs (.box t x) ty d (fun v Hs' => ∃ b, v = .pointer (some ⟨b, 0, none⟩) ∧ Hs' = blk b vs t :: Hs) := ch_box hx rfl d
theorem ch_box1 {x : Operand} {t : TypeId} {v : Value} (hx : opv K none x = some v) (hv : v.cells = #[v]) (d : Option Nat) : Ch P E N K Hs (.box t x) ty d (fun u Hs' => ∃ b, u = .pointer (some ⟨b, 0, none⟩) ∧ Hs' = blk b [v] t :: Hs) := ch_box (vs := [v]) hx hv d
theorem ch_storeA {x y : Operand} {t t' : TypeId} {ad : Addr} {b k n : Nat} {cs vs : List Value} {m : List Asn} (hz : SZ P t n) (hx : opv K none x = some (.pointer (some ad))) (hy : opv K none y = some (.agg vs.toArray))
    (had : ad = ⟨b, k, none⟩) (h1 : ones vs) (hm : At1 Hs (blk b cs t') m) (hn : Nat.beq vs.length n = true) (hk : Nat.ble (k + n) cs.length = true) (d : Option Nat) :
    Ch P E N K Hs (.store t x y) ty d (fun _ Hs' => Hs' = blk b (splice cs k vs) t' :: m) := ch_store hz hx hy had rfl h1 hm hn (Nat.le_of_ble_eq_true hk) d
theorem ch_store1p {x y : Operand} {t t' : TypeId} {ad : Addr} {b k : Nat} {cs : List Value} {v : Value} {m : List Asn} (hz : SZ P t 1) (hx : opv K none x = some (.pointer (some ad))) (hy : opv K none y = some v)
    (had : ad = ⟨b, k, none⟩) (hv : v.cells = #[v]) (h1 : v.oneCell' = true) (hm : At1 Hs (blk b cs t') m) (hk : k < cs.length) (d : Option Nat) :
    Ch P E N K Hs (.store t x y) ty d (fun _ Hs' => Hs' = blk b (cs.set k v) t' :: m) := by
  have := ch_store (P := P) (E := E) (N := N) (ty := ty) hz hx hy had (vs := [v]) hv ⟨h1, trivial⟩ hm rfl (by omega) d
  have e : splice cs k [v] = cs.set k v := by
    unfold splice
    rw [List.set_eq_take_append_cons_drop]
    simp [hk]
  rwa [e] at this
theorem ch_store1 {x y : Operand} {t t' : TypeId} {ad : Addr} {b k : Nat} {cs : List Value} {v : Value} {m : List Asn} (hz : SZ P t 1) (hx : opv K none x = some (.pointer (some ad))) (hy : opv K none y = some v)
    (had : ad = ⟨b, k, none⟩) (hv : v.cells = #[v]) (h1 : v.oneCell' = true) (hm : At1 Hs (blk b cs t') m) (hk : Nat.blt k cs.length = true) (d : Option Nat) :
    Ch P E N K Hs (.store t x y) ty d (fun _ Hs' => Hs' = blk b (cs.set k v) t' :: m) := ch_store1p hz hx hy had hv h1 hm (by simpa [Nat.blt_eq] using hk) d
/-- A block's cells, told otherwise. -/
theorem At.norm {G : Act → World → Prop} {b t : Nat} {cs : List Value} (cs' : List Value) {m : List Asn} (hm : At1 Hs (blk b cs t) m) (he : cs = cs') (h : At E N K (blk b cs' t :: m) G) : At E N K Hs G := by
  subst he; exact At.front hm h

/-! ### Rows that the call owns -/
/-- v is a slice of n elements of sz cells each; they lie at the head of a row of its own (or there is none yet). -/
def own (v : Value) (t : TypeId) (sz n : Nat) (cs : List Value) : Asn :=
  ex fun o : Option (Nat × Nat × List Value) => match o with
    | none => pur (v = .slice none 0 0 ∧ n = 0 ∧ cs = [])
    | some (b, cap, sp) => star (pur (v = .slice (some ⟨b, 0, none⟩) n cap ∧ cs.length = n * sz ∧ (cs ++ sp).length = cap * sz ∧ n ≤ cap ∧ cap ≤ maxLen)) (blk b (cs ++ sp) t)
theorem Imp.own_nil {l : List Asn} (t : TypeId) (sz : Nat) : Imp l (own (.slice none 0 0) t sz 0 [] :: l) := Imp.ex none (Imp.pur ⟨rfl, rfl, rfl⟩ (Imp.refl _))
theorem Imp.own_new {l : List Asn} {b n cap sz : Nat} {cs sp : List Value} {t : TypeId} (h1 : cs.length = n * sz) (h2 : (cs ++ sp).length = cap * sz) (h3 : n ≤ cap) (h4 : cap ≤ maxLen) :
    Imp (blk b (cs ++ sp) t :: l) (own (.slice (some ⟨b, 0, none⟩) n cap) t sz n cs :: l) :=
  Imp.ex (some (b, cap, sp)) (Imp.star (Imp.pur ⟨rfl, h1, h2, h3, h4⟩ (Imp.refl _)))

structure TI (P : Program) (t e sz by' : Nat) : Prop where
  un : P.underlying t = some (.slice e)
  info : ∃ i z, P.info? e = some i ∧ i.size = sz ∧ i.bytes = by' ∧ i.zero = some z ∧ z.cells.size = sz
  pos : 0 < sz

theorem TI.of {t e sz by' : Nat} {v : Value} (hu : P.underlying t = some (.slice e)) (h : (P.info? e).map (fun i => (i.size, i.bytes, i.zero)) = some (sz, by', some v)) (hz : v.cells.size = sz) (hp : 0 < sz) : TI P t e sz by' := by
  refine ⟨hu, ?_, hp⟩
  cases hi : P.info? e with
  | none => simp [hi] at h
  | some i =>
    simp [hi] at h
    exact ⟨i, v, rfl, h.1, h.2.1, h.2.2, hz⟩
theorem grown_le {w : World} {need old : Nat} {e : TypeId} (h : need ≤ maxLen) : grownCap w need old e ≤ maxLen := grownCap_le_maxLen w need old e h

/-- append onto a row of the call's own; what is appended is read as cells. -/
theorem run_append_sx {w : World} {l : List Asn} {t tx tr e sz by' : Nat} {v x : Value} {n m : Nat} {cs news : List Value} (ht : TI P t e sz by') (hs : St E (own v e sz n cs :: l) w)
    (hsrc : Src P sz tx x m news w) (hb : (n + m) * by' ≤ 140737488355328) (h63 : n + m ≤ maxLen) :
    ∃ v' w', (Builtin.append_ #[t, tx] tr #[v, x]).run P w = .ok v' w' ∧ St E (own v' e sz (n + m) (cs ++ news) :: l) w' := by
  obtain ⟨i, z, hi, hisz, hiby, hz, hzs⟩ := ht.info
  have hu := ht.un
  subst hisz
  subst hiby
  have hsmall : ((n + m : Nat) : Int) ≤ 9223372036854775807 := by simp only [maxLen] at h63; omega
  have hnl := hsrc.newsLen
  obtain ⟨o, hs⟩ := hs.exE
  cases o with
  | none =>
    obtain ⟨⟨rfl, rfl, rfl⟩, hs2⟩ := hs.purE
    clear hs
    have hs := hs2
    by_cases hm : m = 0
    · subst hm
      have hn : news = [] := List.eq_nil_of_length_eq_zero (by simpa using hnl)
      subst hn
      refine ⟨.slice none 0 0, w, ?_, Imp.own_nil e i.size E w hs⟩
      rcases hsrc.kind with ⟨e', hk⟩ | hk <;> simp [Builtin.append_, run_underlying hu, run_underlying hk, sizeOf, typeInfo, hi, hsrc.len, hsrc.cells]
    · have hr := run_append_grow_src (P := P) w t tx tr e i z hu hi hz none 0 0 [] (by simp [Builtin.firstCells]) x m news hsrc (by omega) (by simpa using hsmall) (growslice_fits (by omega) hb)
      refine ⟨_, _, hr, ?_⟩
      have h2 := (hs.drawn).alloc (.cells ((([] : List Value) ++ news) ++ (Builtin.zeroCells z.cells (grownCap w (0 + m) 0 e - (0 + m))).toList).toArray e (0, 0))
      have hge := grownCap_ge w (0 + m) 0 e
      have h3 : St E (blk w.heap.size (([] ++ news) ++ (Builtin.zeroCells z.cells (grownCap w (0 + m) 0 e - (0 + m))).toList) e :: l) (w.drew.alloc (.cells (([] ++ news).toArray ++ Builtin.zeroCells z.cells (grownCap w (0 + m) 0 e - (0 + m))) e)) := by
        have e1 : (([] ++ news).toArray ++ Builtin.zeroCells z.cells (grownCap w (0 + m) 0 e - (0 + m))) = ((([] : List Value) ++ news) ++ (Builtin.zeroCells z.cells (grownCap w (0 + m) 0 e - (0 + m))).toList).toArray := by
          apply Array.ext'; simp
        rw [e1]; exact h2
      refine Imp.own_new (n := 0 + m) (cap := grownCap w (0 + m) 0 e) ?_ ?_ hge (grown_le h63) E _ h3
      · simpa using hnl
      · simp only [List.length_append, Array.length_toList, size_zeroCells, hzs, hnl, List.nil_append]
        rw [← Nat.add_mul]; congr 1; omega
  | some q =>
    obtain ⟨b, cap, sp⟩ := q
    obtain ⟨⟨rfl, hcl, hal, hnc, hcm⟩, hs2⟩ := hs.starE.purE
    clear hs
    have hs := hs2
    have hbk : w.heap[b]? = some (.cells (cs ++ sp).toArray e (0, 0)) := hs.pt (.head _ _)
    by_cases hroom : n + m ≤ cap
    · have hfit : n * i.size + news.length ≤ (cs ++ sp).length := by rw [hal, hnl, ← Nat.add_mul]; exact Nat.mul_le_mul_right _ hroom
      have hcell : ∀ j, j < news.length → (w.cell? ⟨b, 0 + n * i.size + j, none⟩).isSome = true := fun j hj => by
        rw [cell_pt hbk, List.getElem?_eq_getElem (by omega)]; rfl
      have hfro : ∀ j, j < news.length → w.frozen? ⟨b, 0 + n * i.size + j, none⟩ = false := fun j hj => by simp [World.frozen?, hbk]
      have hst := run_storeCells_at P b (n * i.size) e news 0 (cs ++ sp).toArray w hbk (by simpa using hfit) hsrc.one
      have hr : (Builtin.append_ #[t, tx] tr #[.slice (some ⟨b, 0, none⟩) n cap, x]).run P w = .ok (.slice (some ⟨b, 0, none⟩) (n + m) cap) (w.setRow b (splice (cs ++ sp) (n * i.size) news).toArray) := by
        simp only [Nat.add_zero] at hst
        rcases hsrc.kind with ⟨e', hk⟩ | hk <;> simp [Builtin.append_, run_underlying hu, run_underlying hk, sizeOf, typeInfo, hi, hsrc.len, hroom, hsrc.cells, Addr.add_lit, hst, splice]
      refine ⟨_, _, hr, ?_⟩
      have h2 := hs.setBlk (cs' := splice (cs ++ sp) (n * i.size) news) (.head _ _)
      have e1 : splice (cs ++ sp) (n * i.size) news = (cs ++ news) ++ sp.drop news.length := by
        unfold splice
        rw [← hcl, List.take_left' rfl, List.drop_append, List.drop_of_length_le (by omega), List.nil_append]
        congr 2; omega
      rw [e1] at h2
      refine Imp.own_new (n := n + m) (cap := cap) ?_ ?_ hroom hcm E _ (by rw [e1]; exact h2)
      · simp only [List.length_append, hcl, hnl, Nat.add_mul]
      · have := splice_len (cs := cs ++ sp) (k := n * i.size) (vs := news) hfit
        rw [e1] at this; rw [this, hal]
    · have hold : (Builtin.firstCells i.size n (.slice (some ⟨b, 0, none⟩) n cap)).run P w.drew = .ok cs.toArray w.drew :=
        run_firstCells_some w.drew i.size n ⟨b, 0, none⟩ n cap cs hcl (fun j u hj => by
          rw [add_lit, Nat.zero_add]
          have : w.drew.cell? ⟨b, j, none⟩ = w.cell? ⟨b, j, none⟩ := rfl
          rw [this, cell_pt hbk, List.getElem?_append_left (by
            rcases Nat.lt_or_ge j cs.length with h | h
            · exact h
            · rw [List.getElem?_eq_none h] at hj; cases hj)]
          exact hj)
      have hr := run_append_grow_src (P := P) w t tx tr e i z hu hi hz (some ⟨b, 0, none⟩) n cap cs hold x m news hsrc (by omega) hsmall (growslice_fits (by omega) hb)
      refine ⟨_, _, hr, ?_⟩
      have hge := grownCap_ge w (n + m) cap e
      have h2 := ((hs.drop).drawn).alloc (.cells ((cs ++ news) ++ (Builtin.zeroCells z.cells (grownCap w (n + m) cap e - (n + m))).toList).toArray e (0, 0))
      have h3 : St E (blk w.heap.size ((cs ++ news) ++ (Builtin.zeroCells z.cells (grownCap w (n + m) cap e - (n + m))).toList) e :: l) (w.drew.alloc (.cells ((cs ++ news).toArray ++ Builtin.zeroCells z.cells (grownCap w (n + m) cap e - (n + m))) e)) := by
        have e1 : ((cs ++ news).toArray ++ Builtin.zeroCells z.cells (grownCap w (n + m) cap e - (n + m))) = ((cs ++ news) ++ (Builtin.zeroCells z.cells (grownCap w (n + m) cap e - (n + m))).toList).toArray := by
          apply Array.ext'; simp
        rw [e1]; exact h2
      refine Imp.own_new (n := n + m) (cap := grownCap w (n + m) cap e) ?_ ?_ hge (grown_le h63) E _ h3
      · simp only [List.length_append, hcl, hnl, Nat.add_mul]
      · simp only [List.length_append, Array.length_toList, size_zeroCells, hzs, hnl, hcl]
        rw [← Nat.add_mul, ← Nat.add_mul]; congr 1; omega
end
end Go.Sx
