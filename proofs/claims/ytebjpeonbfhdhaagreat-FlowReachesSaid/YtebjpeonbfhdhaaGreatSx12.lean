/- Short forms of the rules: what a state has is found by a tactic. -/
import Derived.Test.YtebjpeonbfhdhaaGreatSx11
set_option linter.unusedSimpArgs false
set_option linter.unusedVariables false
namespace Go.Sx
open Go
section
variable {P : Program} {E : En} {N : Nat} {K : Kl} {g : Option (Nat × Bool)} {Hs : List Asn} {ty : TypeId} {Q : Exit → Act → World → Prop} {ops : Array Oper} {rest : List Oper} {pos : String} {af : Array Edge} {G : Act → World → Prop}

/-! ### Single operations -/
theorem ld {x : Operand} {t : TypeId} {ad : Addr} {v : Value} (hl : LD1 P t) (h : opv K g x = some (.pointer (some ad))) (hc : Cell Hs ad v := by first | exact Go.Sx.Cell.blk (by repeat (first | with_reducible exact Go.Sx.Mem.head _ _ | apply Go.Sx.Mem.tail)) rfl | exact Go.Sx.Cell.blk0 (by repeat (first | with_reducible exact Go.Sx.Mem.head _ _ | apply Go.Sx.Mem.tail)) rfl | exact Go.Sx.Cell.per (by repeat (first | with_reducible exact Go.Sx.Mem.head _ _ | apply Go.Sx.Mem.tail)) rfl | exact Go.Sx.Cell.per0 (by repeat (first | with_reducible exact Go.Sx.Mem.head _ _ | apply Go.Sx.Mem.tail)) rfl | exact Go.Sx.Cell.pin (by repeat (first | with_reducible exact Go.Sx.Mem.head _ _ | apply Go.Sx.Mem.tail)) (by first | omega | decide | (simp at hg; omega) | (simp at hl hg; omega) | (simp at hg ⊢; omega)) rfl | exact Go.Sx.Cell.pin0 (by repeat (first | with_reducible exact Go.Sx.Mem.head _ _ | apply Go.Sx.Mem.tail)) (by first | omega | decide | (simp at hg; omega) | (simp at hl hg; omega) | (simp at hg ⊢; omega)) rfl) : Ev P E N K g Hs (.load t x) ty v := ev_load hl h hc
theorem ldA {x : Operand} {t : TypeId} {ad : Addr} {n : Nat} {cs : List Value} (hl : LDA P t n) (h : opv K g x = some (.pointer (some ad))) (hc : Cells Hs ad cs := by first | exact Go.Sx.Cells.blk0 (by repeat (first | with_reducible exact Go.Sx.Mem.head _ _ | apply Go.Sx.Mem.tail)) | exact Go.Sx.Cells.per0 (by repeat (first | with_reducible exact Go.Sx.Mem.head _ _ | apply Go.Sx.Mem.tail)) | exact Go.Sx.Cells.pin0 (by repeat (first | with_reducible exact Go.Sx.Mem.head _ _ | apply Go.Sx.Mem.tail)) (by first | omega | decide | (simp at hg; omega) | (simp at hl hg; omega) | (simp at hg ⊢; omega)) | exact Go.Sx.Cells.blk _ (by repeat (first | with_reducible exact Go.Sx.Mem.head _ _ | apply Go.Sx.Mem.tail)) | exact Go.Sx.Cells.per _ (by repeat (first | with_reducible exact Go.Sx.Mem.head _ _ | apply Go.Sx.Mem.tail))) (hn : cs.length = n := by rfl) : Ev P E N K g Hs (.load t x) ty (.agg cs.toArray) := ev_loadA hl h hn hc
theorem At.st1 {x y : Operand} {t t' : TypeId} {ad : Addr} {b k : Nat} {cs cs' : List Value} {v : Value} {m : List Asn} (hz : SZ P t 1) (hx : opv K none x = some (.pointer (some ad))) (hy : opv K none y = some v)
    (had : ad = ⟨b, k, none⟩) (h : At E N K (blk b cs' t' :: m) (opsW P ops Q rest)) (hm : At1 Hs (blk b cs t') m := by repeat (first | with_reducible exact Go.Sx.At1.head _ _ | apply Go.Sx.At1.tail)) (hv : v.cells = #[v] := by rfl) (h1 : v.oneCell' = true := by rfl) (hk : k < cs.length := by first | exact of_decide_eq_true rfl | (simp; omega)) (he : cs.set k v = cs' := by first | (simp only [Nat.zero_add, List.set_cons_zero, List.set_cons_succ]; rfl) | rfl) :
    At E N K Hs (opsW P ops Q (⟨none, .store t x y, ty, pos, af, none⟩ :: rest)) := by
  subst he
  refine At.ch0 (ch_store1p hz hx hy had hv h1 hm hk none) ?_
  rintro _ _ rfl; exact h
theorem At.stA {x y : Operand} {t t' : TypeId} {ad : Addr} {b k n : Nat} {cs cs' vs : List Value} {m : List Asn} (hz : SZ P t n) (hx : opv K none x = some (.pointer (some ad))) (hy : opv K none y = some (.agg vs.toArray))
    (had : ad = ⟨b, k, none⟩) (h : At E N K (blk b cs' t' :: m) (opsW P ops Q rest)) (hm : At1 Hs (blk b cs t') m := by repeat (first | with_reducible exact Go.Sx.At1.head _ _ | apply Go.Sx.At1.tail)) (h1 : ones vs := by first | exact True.intro | exact ⟨rfl, trivial⟩ | with_reducible exact Go.Sx.SetD.ones _ | repeat' constructor) (hn : Nat.beq vs.length n = true := by rfl) (hk : k + n ≤ cs.length := by first | exact of_decide_eq_true rfl | (simp; omega)) (he : splice cs k vs = cs' := by rfl) :
    At E N K Hs (opsW P ops Q (⟨none, .store t x y, ty, pos, af, none⟩ :: rest)) := by
  subst he
  refine At.ch0 (ch_store hz hx hy had rfl h1 hm hn hk none) ?_
  rintro _ _ rfl; exact h
theorem At.new {t : TypeId} {z : List Value} {d : Nat} (hz : ZV P t z) (h : ∀ b, At E N ((d, .val (.pointer (some ⟨b, 0, none⟩))) :: K) (blk b z t :: Hs) (opsW P ops Q rest)) (hd : Nat.blt d N = true := by rfl) :
    At E N K Hs (opsW P ops Q (⟨some d, .alloc t, ty, pos, af, none⟩ :: rest)) :=
  At.ch (ch_alloc hz _) hd fun v Hs' ⟨b, e1, e2⟩ => by subst e1; subst e2; exact h b
theorem At.boxA {x : Operand} {t : TypeId} {vs : List Value} {d : Nat} (hx : opv K none x = some (.agg vs.toArray)) (h : ∀ b, At E N ((d, .val (.pointer (some ⟨b, 0, none⟩))) :: K) (blk b vs t :: Hs) (opsW P ops Q rest)) (hd : Nat.blt d N = true := by rfl) :
    At E N K Hs (opsW P ops Q (⟨some d, .box t x, ty, pos, af, none⟩ :: rest)) :=
  At.ch (ch_boxA hx _) hd fun v Hs' ⟨b, e1, e2⟩ => by subst e1; subst e2; exact h b
theorem At.box1 {x : Operand} {t : TypeId} {v : Value} {d : Nat} (hx : opv K none x = some v) (hv : v.cells = #[v]) (h : ∀ b, At E N ((d, .val (.pointer (some ⟨b, 0, none⟩))) :: K) (blk b [v] t :: Hs) (opsW P ops Q rest)) (hd : Nat.blt d N = true := by rfl) :
    At E N K Hs (opsW P ops Q (⟨some d, .box t x, ty, pos, af, none⟩ :: rest)) :=
  At.ch (ch_box1 hx hv _) hd fun v Hs' ⟨b, e1, e2⟩ => by subst e1; subst e2; exact h b
theorem At.map0 {t : TypeId} {d : Nat} (h : ∀ b, At E N ((d, .val (.map (some b))) :: K) (mp b [] :: Hs) (opsW P ops Q rest)) (hd : Nat.blt d N = true := by rfl) :
    At E N K Hs (opsW P ops Q (⟨some d, .makeMap t none, ty, pos, af, none⟩ :: rest)) :=
  At.ch (ch_makeMap _) hd fun v Hs' ⟨b, e1, e2⟩ => by subst e1; subst e2; exact h b
theorem At.bsl {t e sz n d : Nat} {z : List Value} {ps : List (Nat × Operand)} {vs : List (Nat × Value)} (cs : List Value) (hu : UN P t (.slice e)) (hs : SZ P e sz) (hz : ZV P e z) (ho : opvp K none ps = some vs)
    (h : ∀ b, At E N ((d, .val (.slice (some ⟨b, 0, none⟩) n n)) :: K) (blk b cs e :: Hs) (opsW P ops Q rest)) (hb : bok (fun i => (i * sz, sz)) (n * sz) vs := by repeat' (first | exact True.intro | exact rfl | exact of_decide_eq_true rfl | constructor)) (he : bld (fun i => (i * sz, sz)) ((List.range (n * sz)).map (fun i => z.getD (i % sz) (.bool false))) vs = cs := by rfl) (hn : Nat.ble (n * sz) 1000 = true := by rfl) (hzl : Nat.beq z.length sz = true := by rfl) (hd : Nat.blt d N = true := by rfl) :
    At E N K Hs (opsW P ops Q (⟨some d, .buildSlice t n ps.toArray, ty, pos, af, none⟩ :: rest)) := by
  subst he
  exact At.ch (ch_bslice hu hs hz hn hzl ho hb _) hd fun v Hs' ⟨b, e1, e2⟩ => by subst e1; subst e2; exact h b
/-- append of elements in a block. -/
theorem At.app {x y : Operand} {t tx e e' sz by' n m b c d : Nat} {v : Value} {cs news : List Value} {t' : TypeId} {mm : List Asn} (ht : TI P t e sz by') (hu : UN P tx (.slice e')) (hx : opv K none x = some v) (hy : opv K none y = some (.slice (some ⟨b, 0, none⟩) m c))
    (h : ∀ v', At E N ((d, .val v') :: K) (own v' e sz (n + m) (cs ++ news) :: mm) (opsW P ops Q rest)) (hm : At1 Hs (own v e sz n cs) mm := by repeat (first | with_reducible exact Go.Sx.At1.head _ _ | apply Go.Sx.At1.tail)) (hb : Mem (blk b news t') Hs := by repeat (first | with_reducible exact Go.Sx.Mem.head _ _ | apply Go.Sx.Mem.tail)) (h1 : ones news := by first | exact True.intro | exact ⟨rfl, trivial⟩ | with_reducible exact Go.Sx.SetD.ones _ | repeat' constructor) (hl : Nat.beq news.length (m * sz) = true := by rfl) (hr : (n + m) * by' ≤ 140737488355328 := by omega) (h63 : n + m ≤ maxLen := by (unfold Go.maxLen; omega)) (hd : Nat.blt d N = true := by rfl) :
    At E N K Hs (opsW P ops Q (⟨some d, .call { callee := .builtin .append, args := #[x, y], argTypes := #[t, tx] }, ty, pos, af, none⟩ :: rest)) :=
  At.ch (ch_append ht hx hy hm (src_blk hu hb h1 hl) hr h63 _) hd fun v' Hs' e1 => by subst e1; exact h v'
theorem At.ownZ (α : Type) [Rep α] (t sz : Nat) (h : At E N K (own (.slice none ([] : List α).length 0) t sz ([] : List α).length [] :: Sx.per (relLP ([] : List α) []) :: Hs) G) : At E N K Hs G := At.ownNew α t sz h
theorem At.app2 {x y : Operand} {t tx e e' sz by' n m b c d : Nat} {v : Value} {cs news : List Value} {t' : TypeId} {mm : List Asn} (ht : TI P t e sz by') (hu : UN P tx (.slice e')) (hx : opv K none x = some v) (hy : opv K none y = some (.slice (some ⟨b, 0, none⟩) m c))
    (h : ∀ ao c, n + m ≤ c → c ≤ maxLen → At E N ((d, .val (.slice ao (n + m) c)) :: K) (own (.slice ao (n + m) c) e sz (n + m) (cs ++ news) :: mm) (opsW P ops Q rest)) (hm : At1 Hs (own v e sz n cs) mm := by repeat (first | with_reducible exact Go.Sx.At1.head _ _ | apply Go.Sx.At1.tail)) (hb : Mem (blk b news t') Hs := by repeat (first | with_reducible exact Go.Sx.Mem.head _ _ | apply Go.Sx.Mem.tail)) (h1 : ones news := by first | exact True.intro | exact ⟨rfl, trivial⟩ | with_reducible exact Go.Sx.SetD.ones _ | repeat' constructor) (hl : Nat.beq news.length (m * sz) = true := by rfl) (hr : (n + m) * by' ≤ 140737488355328 := by omega) (h63 : n + m ≤ maxLen := by (unfold Go.maxLen; omega)) (hd : Nat.blt d N = true := by rfl) :
    At E N K Hs (opsW P ops Q (⟨some d, .call { callee := .builtin .append, args := #[x, y], argTypes := #[t, tx] }, ty, pos, af, none⟩ :: rest)) := by
  refine At.app ht hu hx hy (fun v' => ?_) hm hb h1 hl hr h63 hd
  refine At.ownV (.head _ _) fun ao c e h1 h2 => ?_
  subst e; exact h ao c h1 h2
theorem At.sealS {α : Type} [Rep α] {ao : Option Addr} {t n sz c : Nat} {cs : List Value} (xs : List α) {m : List Asn} (hn : n = xs.length) (h : n ≤ c → c ≤ maxLen → At E N K (Sx.per (rdSl ao xs) :: m) G) (hm : At1 Hs (own (.slice ao n c) t sz n cs) m := by repeat (first | with_reducible exact Go.Sx.At1.head _ _ | apply Go.Sx.At1.tail)) (hx : Mem (Sx.per (relLP xs cs)) m := by repeat (first | with_reducible exact Go.Sx.Mem.head _ _ | apply Go.Sx.Mem.tail)) (hsz : sz = Rep.sz α := by rfl) : At E N K Hs G := by
  refine At.sealE xs hsz hm hx hn fun ao' c' e h1 h2 => ?_
  cases hn
  cases e
  exact h h1 h2
/-- Data whose cells are known. -/
theorem At.toRel {α : Type} [Rep α] (x : α) (cs : List Value) (φs : List Per) (hx : ∀ R, (∀ φ ∈ φs, φ.holds R) → Rep.rel R x cs) (h : At E N K (Sx.per (relP x cs) :: Hs) G) (hm : ∀ φ ∈ φs, Mem (Sx.per φ) Hs := by (intro φ hφ; simp only [List.mem_cons, List.not_mem_nil, or_false] at hφ; first | (subst hφ; (repeat (first | with_reducible exact Go.Sx.Mem.head _ _ | apply Go.Sx.Mem.tail))) | (rcases hφ with rfl | rfl <;> (repeat (first | with_reducible exact Go.Sx.Mem.head _ _ | apply Go.Sx.Mem.tail))) | (rcases hφ with rfl | rfl | rfl <;> (repeat (first | with_reducible exact Go.Sx.Mem.head _ _ | apply Go.Sx.Mem.tail))))) : At E N K Hs G := At.perAll φs (relP x cs) hm hx h
/-- A call: what it asks for is found. -/
theorem At.do {d : Nat} {op : Op} {t : TypeId} {f : FuncId} {vs : List Value} {pre m : List Asn} {post : Value → Asn}
    (hg : Goes P K N none op t f vs) (hc : Does P f vs pre post) (h : ∀ v, At E N ((d, .val v) :: K) (post v :: m) (opsW P ops Q rest)) (hs : Split Hs pre m := by repeat (first | exact Go.Sx.Split.nil _ | (with_reducible apply Go.Sx.Split.per; · repeat (first | with_reducible exact Go.Sx.Mem.head _ _ | apply Go.Sx.Mem.tail)) | (with_reducible apply Go.Sx.Split.own; · repeat (first | with_reducible exact Go.Sx.At1.head _ _ | apply Go.Sx.At1.tail)))) (hd : Nat.blt d N = true := by rfl) :
    At E N K Hs (opsW P ops Q (⟨some d, op, t, pos, af, none⟩ :: rest)) := At.call hg hc hs hd h
theorem At.do0 {op : Op} {t : TypeId} {f : FuncId} {vs : List Value} {pre m : List Asn} {post : Value → Asn}
    (hg : Goes P K N none op t f vs) (hc : Does P f vs pre post) (h : ∀ v, At E N K (post v :: m) (opsW P ops Q rest)) (hs : Split Hs pre m := by repeat (first | exact Go.Sx.Split.nil _ | (with_reducible apply Go.Sx.Split.per; · repeat (first | with_reducible exact Go.Sx.Mem.head _ _ | apply Go.Sx.Mem.tail)) | (with_reducible apply Go.Sx.Split.own; · repeat (first | with_reducible exact Go.Sx.At1.head _ _ | apply Go.Sx.At1.tail)))) :
    At E N K Hs (opsW P ops Q (⟨none, op, t, pos, af, none⟩ :: rest)) := At.call0 hg hc hs h
/-- One that only looks. -/
theorem Qc.look {f : FuncId} {vs : List Value} {r : Value} {pre m : List Asn} {post : Value → Asn} (hc : Does P f vs pre post) (hb : ∀ v, Imp (post v :: m) (Sx.pur (v = r) :: Hs)) (hs : Split Hs pre m := by repeat (first | exact Go.Sx.Split.nil _ | (with_reducible apply Go.Sx.Split.per; · repeat (first | with_reducible exact Go.Sx.Mem.head _ _ | apply Go.Sx.Mem.tail)) | (with_reducible apply Go.Sx.Split.own; · repeat (first | with_reducible exact Go.Sx.At1.head _ _ | apply Go.Sx.At1.tail)))) : Qc P Hs f vs r :=
  Qc.of hc hs fun v E w h => (hb v E w h).purE
theorem Qc.own {f : FuncId} {vs : List Value} {r : Value} {p : Asn} {m : List Asn} (hc : Does P f vs [p] (fun v => Sx.star (Sx.pur (v = r)) p)) (hm : At1 Hs p m := by repeat (first | with_reducible exact Go.Sx.At1.head _ _ | apply Go.Sx.At1.tail)) : Qc P Hs f vs r := Qc.one hc hm
theorem Qc.stay {f : FuncId} {vs : List Value} {r : Value} {φ : Per} (hc : Does P f vs [Sx.per φ] (fun v => Sx.pur (v = r))) (hm : Mem (Sx.per φ) Hs := by repeat (first | with_reducible exact Go.Sx.Mem.head _ _ | apply Go.Sx.Mem.tail)) : Qc P Hs f vs r := Qc.per hc hm
theorem Qc.stay2 {f : FuncId} {vs : List Value} {r : Value} {φ ψ : Per} (hc : Does P f vs [Sx.per φ, Sx.per ψ] (fun v => Sx.pur (v = r))) (hm : Mem (Sx.per φ) Hs := by repeat (first | with_reducible exact Go.Sx.Mem.head _ _ | apply Go.Sx.Mem.tail)) (hm2 : Mem (Sx.per ψ) Hs := by repeat (first | with_reducible exact Go.Sx.Mem.head _ _ | apply Go.Sx.Mem.tail)) : Qc P Hs f vs r := Qc.of hc (.per hm (.per hm2 (.nil _))) fun _ _ _ h => h.purE
/-- A call of what a slot holds. -/
theorem goes_tmp {N : Nat} {f : FuncId} {x : Operand} {args : List Operand} {ts : Array TypeId} {t : TypeId} {vs : List Value}
    (hf : ∀ args w, (callFunc f args).run P w = .ok (.enter f args) w) (hx : opv K g x = some (.func (.func f) #[] #[])) (ha : opvs K g args = some vs) :
    Goes P K N g (.call { callee := .value x, args := args.toArray, argTypes := ts }) t f vs := fun a w hk hg d pos af gd => by
  have e := opvs_eval hk hg args vs ha
  have e2 : args.toArray.map a.eval = vs.toArray := by rw [List.map_toArray, e]
  have e3 := opv_eval hk hg hx
  have : (execOp a.eval ⟨d, .call { callee := .value x, args := args.toArray, argTypes := ts }, t, pos, af, gd⟩).run P w = (callFunc f ((#[] ++ vs.toArray) ++ #[])).run P w := by
    simp only [execOp, resolve, e2, e3]
    rfl
  rw [this, hf]
  simp

/-! ### Loops: what the loop doesn't turn stays known -/
def kel (j : Nat) : List (Nat × Nat) → Bool
  | [] => false
  | (a, b) :: l => match Nat.ble a j, Nat.ble j b with
    | true, true => true
    | _, _ => kel j l
theorem kel_cons (i j : Nat) (S : List (Nat × Nat)) : kel i ((j, j) :: S) = false ↔ i ≠ j ∧ kel i S = false := by
  have h1 : ∀ a b : Nat, Nat.ble a b = decide (a ≤ b) := fun a b => by
    rw [Bool.eq_iff_iff, Nat.ble_eq]; simp
  have key : kel i ((j, j) :: S) = ((Nat.ble j i && Nat.ble i j) || kel i S) := by
    show (match Nat.ble j i, Nat.ble i j with | true, true => true | _, _ => kel i S) = _
    cases Nat.ble j i <;> cases Nat.ble i j <;> simp
  rw [key, h1, h1]
  simp only [Bool.or_eq_false_iff, Bool.and_eq_false_iff, decide_eq_false_iff_not]
  constructor
  · rintro ⟨h, k⟩; exact ⟨by omega, k⟩
  · rintro ⟨h, k⟩; exact ⟨by omega, k⟩
/-- What is known of the slots that are not in S. -/
def kdrop (S : List (Nat × Nat)) : Kl → Kl
  | [] => []
  | (j, e) :: K => match kel j S with
    | true => kdrop S K
    | false => match e with
      | .val v => (j, .val v) :: kdrop ((j, j) :: S) K
      | .gd .. => kdrop ((j, j) :: S) K
theorem kel_ne {i j : Nat} {S : List (Nat × Nat)} (h : kel j S = true) (k : kel i S = false) : j ≠ i := fun e => by subst e; rw [h] at k; cases k
theorem kdrop_fv : ∀ (K : Kl) (S : List (Nat × Nat)) (p : Nat × KV), p ∈ kdrop S K → ∃ v, p.2 = .val v ∧ fv K p.1 = some v ∧ kel p.1 S = false := by
  intro K
  induction K with
  | nil => intro S p h; cases h
  | cons q K ih =>
    obtain ⟨j, e⟩ := q
    intro S p h
    unfold kdrop at h
    cases hj : kel j S with
    | true =>
      rw [hj] at h
      obtain ⟨v, h1, h2, h3⟩ := ih S p h
      exact ⟨v, h1, by unfold fv; rw [beq_f.2 (kel_ne hj h3)]; exact h2, h3⟩
    | false =>
      rw [hj] at h
      cases e with
      | val u =>
        rcases List.mem_cons.1 h with rfl | h
        · exact ⟨u, rfl, by simp [fv], hj⟩
        · obtain ⟨v, h1, h2, h3⟩ := ih ((j, j) :: S) p h
          rw [kel_cons] at h3
          exact ⟨v, h1, by unfold fv; rw [beq_f.2 (Ne.symm h3.1)]; exact h2, h3.2⟩
      | gd s b u =>
        obtain ⟨v, h1, h2, h3⟩ := ih ((j, j) :: S) p h
        rw [kel_cons] at h3
        exact ⟨v, h1, by unfold fv; rw [beq_f.2 (Ne.symm h3.1)]; exact h2, h3.2⟩
theorem ksub_of : ∀ {K K' : Kl}, (∀ p ∈ K', ∃ v, p.2 = .val v ∧ fv K p.1 = some v) → ksub K K' := by
  intro K K'
  induction K' with
  | nil => intro _; trivial
  | cons q l ih =>
    obtain ⟨j, e⟩ := q
    intro h
    obtain ⟨v, h1, h2⟩ := h _ (List.mem_cons_self ..)
    simp only at h1 h2
    subst h1
    exact ⟨h2, ih fun p hp => h p (List.mem_cons_of_mem _ hp)⟩
theorem ksub_mem : ∀ {K K' : Kl}, ksub K K' → ∀ p ∈ K', ∃ v, p.2 = .val v ∧ fv K p.1 = some v := by
  intro K K'
  induction K' with
  | nil => intro _ p hp; cases hp
  | cons q l ih =>
    obtain ⟨j, e⟩ := q
    cases e with
    | gd => intro h; exact h.elim
    | val v =>
      intro h p hp
      rcases List.mem_cons.1 hp with rfl | hp
      · exact ⟨v, rfl, h.1⟩
      · exact ih h.2 p hp
theorem kdrop_fv_eq : ∀ (K : Kl) (S : List (Nat × Nat)) (i : Nat), kel i S = false → Sx.fv (kdrop S K) i = Sx.fv K i := by
  intro K
  induction K with
  | nil => intro S i _; rfl
  | cons q K ih =>
    obtain ⟨j, e⟩ := q
    intro S i hi
    unfold kdrop
    by_cases hji : j = i
    · subst hji
      rw [hi]
      cases e with
      | val u => simp [Sx.fv]
      | gd s b u =>
        simp only
        have hn : ∀ (K : Kl) (S : List (Nat × Nat)), kel j S = true → Sx.fv (kdrop S K) j = none := by
          intro K
          induction K with
          | nil => intro S _; rfl
          | cons p K ih2 =>
            obtain ⟨l, e⟩ := p
            intro S hS
            unfold kdrop
            cases hl : kel l S with
            | true => exact ih2 S hS
            | false =>
              have hne : l ≠ j := fun e => by subst e; rw [hS] at hl; cases hl
              have hS2 : kel j ((l, l) :: S) = true := by
                cases hh : kel j ((l, l) :: S) with
                | true => rfl
                | false => rw [kel_cons] at hh; rw [hh.2] at hS; cases hS
              cases e with
              | val u => simp only [Sx.fv, beq_f.2 hne]; exact ih2 _ hS2
              | gd => exact ih2 _ hS2
        have hself : kel j ((j, j) :: S) = true := by
          cases hh : kel j ((j, j) :: S) with
          | true => rfl
          | false => rw [kel_cons] at hh; exact absurd rfl hh.1
        rw [hn K _ hself]
        simp [Sx.fv]
    · conv => rhs; unfold Sx.fv
      rw [beq_f.2 hji]
      simp only
      cases hk : kel j S with
      | true => exact ih S i hi
      | false =>
        have hi' : kel i ((j, j) :: S) = false := (kel_cons i j S).2 ⟨Ne.symm hji, hi⟩
        cases e with
        | val u => simp only [Sx.fv, beq_f.2 hji]; exact ih _ i hi'
        | gd => exact ih _ i hi'
def kin (S4 S : List (Nat × Nat)) : Bool := S4.all fun p => S.any fun q => Nat.ble q.1 p.1 && Nat.ble p.2 q.2
theorem kel_iff {j : Nat} {S : List (Nat × Nat)} : kel j S = true ↔ ∃ q ∈ S, q.1 ≤ j ∧ j ≤ q.2 := by
  induction S with
  | nil => simp [kel]
  | cons q S ih =>
    obtain ⟨a, b⟩ := q
    have key : kel j ((a, b) :: S) = ((Nat.ble a j && Nat.ble j b) || kel j S) := by
      show (match Nat.ble a j, Nat.ble j b with | true, true => true | _, _ => kel j S) = _
      cases Nat.ble a j <;> cases Nat.ble j b <;> simp
    rw [key]
    simp only [Bool.or_eq_true, Bool.and_eq_true, Nat.ble_eq, ih, List.mem_cons, exists_eq_or_imp]
theorem kin_kel {S4 S : List (Nat × Nat)} (h : kin S4 S = true) {i : Nat} (hi : kel i S = false) : kel i S4 = false := by
  cases hh : kel i S4 with
  | false => rfl
  | true =>
    obtain ⟨p, hp, h1, h2⟩ := kel_iff.1 hh
    simp only [kin, List.all_eq_true, List.any_eq_true, Bool.and_eq_true, Nat.ble_eq] at h
    obtain ⟨q, hq, h3, h4⟩ := h p hp
    have : kel i S = true := kel_iff.2 ⟨q, hq, Nat.le_trans h3 h1, Nat.le_trans h2 h4⟩
    rw [this] at hi; cases hi
/-- K is D with more in front of it, all of S. -/
inductive Kext (S : List (Nat × Nat)) (D : Kl) : Kl → Prop
  | base : Kext S D D
  | cons {j : Nat} {e : KV} {K : Kl} (h : kel j S = true) (k : Kext S D K) : Kext S D ((j, e) :: K)
  | drop {S4 : List (Nat × Nat)} {K : Kl} (h : kin S4 S = true) (k : Kext S D K) : Kext S D (kdrop S4 K)
theorem Kext.fv {S : List (Nat × Nat)} {D K : Kl} (h : Kext S D K) : ∀ i, kel i S = false → Sx.fv K i = Sx.fv D i := by
  induction h with
  | base => intro i _; rfl
  | cons h _ ih =>
    rename_i j e K _
    intro i hi
    rw [← ih i hi]
    conv => lhs; unfold Sx.fv
    rw [beq_f.2 (kel_ne h hi)]
  | drop h _ ih =>
    intro i hi
    rw [← ih i hi]
    exact kdrop_fv_eq _ _ i (kin_kel h hi)
theorem kdrop_self {S : List (Nat × Nat)} {K : Kl} (p : Nat × KV) (h : p ∈ kdrop S K) : ∃ v, p.2 = .val v ∧ Sx.fv (kdrop S K) p.1 = some v ∧ kel p.1 S = false := by
  have key : ∀ (K : Kl) (S : List (Nat × Nat)) (i : Nat), kel i S = false → (∀ v, Sx.fv K i = some v → Sx.fv (kdrop S K) i = some v) := by
    intro K
    induction K with
    | nil => intro S i _ v h; cases h
    | cons q K ih =>
      obtain ⟨j, e⟩ := q
      intro S i hi v h
      unfold kdrop
      unfold Sx.fv at h
      by_cases hji : j = i
      · subst hji
        rw [hi]
        rw [beq_t.2 rfl] at h
        cases e with
        | val u => simpa [Sx.fv] using h
        | gd => simp at h
      · rw [beq_f.2 hji] at h
        simp only at h
        cases hk : kel j S with
        | true => exact ih S i hi v h
        | false =>
          have hi' : kel i ((j, j) :: S) = false := (kel_cons i j S).2 ⟨Ne.symm hji, hi⟩
          cases e with
          | val u => simp only [Sx.fv, beq_f.2 hji]; exact ih _ i hi' v h
          | gd => exact ih _ i hi' v h
  obtain ⟨v, h1, h2, h3⟩ := kdrop_fv K S p h
  exact ⟨v, h1, key K S p.1 h3 v h2, h3⟩
theorem ksub_app {K A B : Kl} (h : ksub K A) (k : ksub K B) : ksub K (A ++ B) :=
  ksub_of fun p hp => by exact (List.mem_append.1 hp).elim (ksub_mem h p) (ksub_mem k p)

def kall (S : List (Nat × Nat)) : Kl → Bool
  | [] => true
  | (j, _) :: K => match kel j S with
    | true => kall S K
    | false => false
theorem kall_mem {S : List (Nat × Nat)} : ∀ {l : Kl}, kall S l = true → ∀ p ∈ l, kel p.1 S = true := by
  intro l
  induction l with
  | nil => intro _ p hp; cases hp
  | cons q l ih =>
    obtain ⟨j, e⟩ := q
    intro h p hp
    unfold kall at h
    cases hk : kel j S with
    | false => rw [hk] at h; cases h
    | true =>
      rw [hk] at h
      rcases List.mem_cons.1 hp with rfl | hp
      · exact hk
      · exact ih h p hp
/-- What was known stays known of the slots that are not in S. -/
theorem ksub_drop {S : List (Nat × Nat)} {K0 K : Kl} (h : Kext S K0 K) : ksub K (kdrop S K0) :=
  ksub_of fun p hp => by
    obtain ⟨v, h1, h2, h3⟩ := kdrop_fv K0 S p hp
    exact ⟨v, h1, by rw [h.fv _ h3]; exact h2⟩
theorem ksub_ext {S : List (Nat × Nat)} {K0 K kk : Kl} (hE : Kext S (kk ++ kdrop S K0) K) (hS : ∀ p ∈ kk, kel p.1 S = true) : ksub K (kdrop S K0) := ksub_of fun p hp => by
  obtain ⟨v, h1, h2, h3⟩ := kdrop_self p hp
  refine ⟨v, h1, ?_⟩
  rw [hE.fv _ h3]
  have : ∀ (l : Kl), (∀ q ∈ l, kel q.1 S = true) → Sx.fv (l ++ kdrop S K0) p.1 = Sx.fv (kdrop S K0) p.1 := by
    intro l
    induction l with
    | nil => intro _; rfl
    | cons q l ih =>
      obtain ⟨j, e⟩ := q
      intro hl
      have hne : j ≠ p.1 := kel_ne (hl (j, e) (List.mem_cons_self ..)) h3
      show Sx.fv ((j, e) :: (l ++ kdrop S K0)) p.1 = _
      conv => lhs; unfold Sx.fv
      rw [beq_f.2 hne]
      exact ih fun q hq => hl q (List.mem_cons_of_mem _ hq)
  rw [this _ hS]; exact h2
theorem imp_back {Hs H R R' : List Asn} (hH : Split Hs H R') (hR : Imp R' R) : Imp Hs (H ++ R) := fun E w hs =>
  Imp.comm _ _ E w (hR.frame H E w (Imp.comm _ _ E w (hH.imp E w hs)))

def AgainF1 (E : En) (N : Nat) {A0 : Type} (S : List (Nat × Nat)) (K0 : Kl) (R : List Asn) (m : A0 → Nat) (φ : A0 → Prop) (km : A0 → Kl) (Hi : A0 → List Asn) (a0 : A0) (a : Act) (w : World) : Prop :=
  ∃ (b0 : A0), m b0 < m a0 ∧ φ b0 ∧ Kn N (km b0 ++ kdrop S K0) a ∧ St E (Hi b0 ++ R) w
theorem At.loopF1 {A0 : Type} (S : List (Nat × Nat)) (m : A0 → Nat) (φ : A0 → Prop) (km : A0 → Kl) (Hi : A0 → List Asn) {R : List Asn} {c : Code} (a0 : A0) (h0 : φ a0) (hK : ksub K (km a0))
    (round : ∀ a0, φ a0 → At E N (km a0 ++ kdrop S K) (Hi a0 ++ R) (c.wp P (Exit.then (AgainF1 E N S K R m φ km Hi a0) Q))) (hH : Split Hs (Hi a0) R := by repeat (first | exact Go.Sx.Split.nil _ | (with_reducible apply Go.Sx.Split.per; · repeat (first | with_reducible exact Go.Sx.Mem.head _ _ | apply Go.Sx.Mem.tail)) | (with_reducible apply Go.Sx.Split.own; · repeat (first | with_reducible exact Go.Sx.At1.head _ _ | apply Go.Sx.At1.tail)))) : At E N K Hs ((Code.loop c).wp P Q) := by
  refine At.loop (ι := { i : A0 // φ i }) (fun i => m i.1) (fun i => km i.1 ++ kdrop S K) (fun i => Hi i.1 ++ R) ⟨a0, h0⟩ (ksub_app hK (ksub_of fun p hp => ?_)) hH.imp ?_
  · obtain ⟨v, h1, h2, _⟩ := kdrop_fv K S p hp; exact ⟨v, h1, h2⟩
  · rintro ⟨a0, hi⟩ a w hk hs
    refine wp_mono (round a0 hi a w hk hs) ?_
    intro e a' w' hq
    cases e with
    | normal => obtain ⟨b0, h1, h2, h3, h4⟩ := hq; exact ⟨⟨b0, h2⟩, h1, h3, h4⟩
    | exit id => exact hq
    | goto l => exact hq
    | ret => exact hq
    | panic ch => exact hq
    | outgrown => exact hq
theorem At.againF1 {A0 : Type} {S : List (Nat × Nat)} {K0 : Kl} {R R' : List Asn} {m : A0 → Nat} {φ : A0 → Prop} {km : A0 → Kl} {Hi : A0 → List Asn} {a0 : A0} (b0 : A0) (hm : m b0 < m a0) (hφ : φ b0) (hK : ksub K (km b0))
    (hH : Split Hs (Hi b0) R' := by repeat (first | exact Go.Sx.Split.nil _ | (with_reducible apply Go.Sx.Split.per; · repeat (first | with_reducible exact Go.Sx.Mem.head _ _ | apply Go.Sx.Mem.tail)) | (with_reducible apply Go.Sx.Split.own; · repeat (first | with_reducible exact Go.Sx.At1.head _ _ | apply Go.Sx.At1.tail)))) (hR : Imp R' R := by repeat (first | exact Go.Sx.Imp.nil _ | (with_reducible apply Go.Sx.Imp.per; · repeat (first | with_reducible exact Go.Sx.Mem.head _ _ | apply Go.Sx.Mem.tail)) | (with_reducible apply Go.Sx.Imp.one; · repeat (first | with_reducible exact Go.Sx.At1.head _ _ | apply Go.Sx.At1.tail)))) (hE : Kext S (km a0 ++ kdrop S K0) K := by repeat (first | exact Go.Sx.Kext.base | refine Go.Sx.Kext.drop rfl ?_ | refine Go.Sx.Kext.cons rfl ?_)) (hS : kall S (km a0) = true := by rfl) :
    At E N K Hs (AgainF1 E N S K0 R m φ km Hi a0) := fun a w hk hs =>
  ⟨b0, hm, hφ, hk.sub (ksub_app hK (ksub_ext hE (kall_mem hS))), imp_back hH hR E w hs⟩
def Meet1 (E : En) (N : Nat) {A0 : Type} (S : List (Nat × Nat)) (K0 : Kl) (R : List Asn) (φ : A0 → Prop) (km : A0 → Kl) (Hi : A0 → List Asn) (a : Act) (w : World) : Prop := ∃ (a0 : A0), φ a0 ∧ Kn N (km a0 ++ kdrop S K0) a ∧ St E (Hi a0 ++ R) w
theorem At.joinQ1 {A0 : Type} (S : List (Nat × Nat)) (φ : A0 → Prop) (km : A0 → Kl) (Hi : A0 → List Asn) {R : List Asn} (ps : List Asn) {x : Code}
    (hx : At E N K Hs (x.wp P (Exit.then (Meet1 E N S K R φ km Hi) Q)))
    (hy : ∀ a0, φ a0 → At E N (km a0 ++ kdrop S K) (Hi a0 ++ R) (Q .normal)) (hH : Split Hs ps R := by repeat (first | exact Go.Sx.Split.nil _ | (with_reducible apply Go.Sx.Split.per; · repeat (first | with_reducible exact Go.Sx.Mem.head _ _ | apply Go.Sx.Mem.tail)) | (with_reducible apply Go.Sx.Split.own; · repeat (first | with_reducible exact Go.Sx.At1.head _ _ | apply Go.Sx.At1.tail)))) : At E N K Hs (x.wp P Q) := fun a w hk hs => by
  refine wp_mono (hx a w hk hs) ?_
  intro e a' w' hq
  cases e with
  | normal => obtain ⟨a0, h1, h2, h3⟩ := hq; exact hy a0 h1 a' w' h2 h3
  | exit id => exact hq
  | goto l => exact hq
  | ret => exact hq
  | panic ch => exact hq
  | outgrown => exact hq
theorem At.meet1 {A0 : Type} {S : List (Nat × Nat)} {K0 : Kl} {R R' : List Asn} {φ : A0 → Prop} {km : A0 → Kl} {Hi : A0 → List Asn} (a0 : A0) (hφ : φ a0) (hK : ksub K (km a0))
    (hH : Split Hs (Hi a0) R' := by repeat (first | exact Go.Sx.Split.nil _ | (with_reducible apply Go.Sx.Split.per; · repeat (first | with_reducible exact Go.Sx.Mem.head _ _ | apply Go.Sx.Mem.tail)) | (with_reducible apply Go.Sx.Split.own; · repeat (first | with_reducible exact Go.Sx.At1.head _ _ | apply Go.Sx.At1.tail)))) (hR : Imp R' R := by repeat (first | exact Go.Sx.Imp.nil _ | (with_reducible apply Go.Sx.Imp.per; · repeat (first | with_reducible exact Go.Sx.Mem.head _ _ | apply Go.Sx.Mem.tail)) | (with_reducible apply Go.Sx.Imp.one; · repeat (first | with_reducible exact Go.Sx.At1.head _ _ | apply Go.Sx.At1.tail)))) (hE : Kext S K0 K := by repeat (first | exact Go.Sx.Kext.base | refine Go.Sx.Kext.drop rfl ?_ | refine Go.Sx.Kext.cons rfl ?_)) :
    At E N K Hs (Meet1 E N S K0 R φ km Hi) := fun a w hk hs =>
  ⟨a0, hφ, hk.sub (ksub_app hK (ksub_drop hE)), imp_back hH hR E w hs⟩

def AgainF2 (E : En) (N : Nat) {A0 A1 : Type} (S : List (Nat × Nat)) (K0 : Kl) (R : List Asn) (m : A0 → A1 → Nat) (φ : A0 → A1 → Prop) (km : A0 → A1 → Kl) (Hi : A0 → A1 → List Asn) (a0 : A0) (a1 : A1) (a : Act) (w : World) : Prop :=
  ∃ (b0 : A0) (b1 : A1), m b0 b1 < m a0 a1 ∧ φ b0 b1 ∧ Kn N (km b0 b1 ++ kdrop S K0) a ∧ St E (Hi b0 b1 ++ R) w
theorem At.loopF2 {A0 A1 : Type} (S : List (Nat × Nat)) (m : A0 → A1 → Nat) (φ : A0 → A1 → Prop) (km : A0 → A1 → Kl) (Hi : A0 → A1 → List Asn) {R : List Asn} {c : Code} (a0 : A0) (a1 : A1) (h0 : φ a0 a1) (hK : ksub K (km a0 a1))
    (round : ∀ a0 a1, φ a0 a1 → At E N (km a0 a1 ++ kdrop S K) (Hi a0 a1 ++ R) (c.wp P (Exit.then (AgainF2 E N S K R m φ km Hi a0 a1) Q))) (hH : Split Hs (Hi a0 a1) R := by repeat (first | exact Go.Sx.Split.nil _ | (with_reducible apply Go.Sx.Split.per; · repeat (first | with_reducible exact Go.Sx.Mem.head _ _ | apply Go.Sx.Mem.tail)) | (with_reducible apply Go.Sx.Split.own; · repeat (first | with_reducible exact Go.Sx.At1.head _ _ | apply Go.Sx.At1.tail)))) : At E N K Hs ((Code.loop c).wp P Q) := by
  refine At.loop (ι := { i : A0 × A1 // φ i.1 i.2 }) (fun i => m i.1.1 i.1.2) (fun i => km i.1.1 i.1.2 ++ kdrop S K) (fun i => Hi i.1.1 i.1.2 ++ R) ⟨(a0, a1), h0⟩ (ksub_app hK (ksub_of fun p hp => ?_)) hH.imp ?_
  · obtain ⟨v, h1, h2, _⟩ := kdrop_fv K S p hp; exact ⟨v, h1, h2⟩
  · rintro ⟨⟨a0, a1⟩, hi⟩ a w hk hs
    refine wp_mono (round a0 a1 hi a w hk hs) ?_
    intro e a' w' hq
    cases e with
    | normal => obtain ⟨b0, b1, h1, h2, h3, h4⟩ := hq; exact ⟨⟨(b0, b1), h2⟩, h1, h3, h4⟩
    | exit id => exact hq
    | goto l => exact hq
    | ret => exact hq
    | panic ch => exact hq
    | outgrown => exact hq
theorem At.againF2 {A0 A1 : Type} {S : List (Nat × Nat)} {K0 : Kl} {R R' : List Asn} {m : A0 → A1 → Nat} {φ : A0 → A1 → Prop} {km : A0 → A1 → Kl} {Hi : A0 → A1 → List Asn} {a0 : A0} {a1 : A1} (b0 : A0) (b1 : A1) (hm : m b0 b1 < m a0 a1) (hφ : φ b0 b1) (hK : ksub K (km b0 b1))
    (hH : Split Hs (Hi b0 b1) R' := by repeat (first | exact Go.Sx.Split.nil _ | (with_reducible apply Go.Sx.Split.per; · repeat (first | with_reducible exact Go.Sx.Mem.head _ _ | apply Go.Sx.Mem.tail)) | (with_reducible apply Go.Sx.Split.own; · repeat (first | with_reducible exact Go.Sx.At1.head _ _ | apply Go.Sx.At1.tail)))) (hR : Imp R' R := by repeat (first | exact Go.Sx.Imp.nil _ | (with_reducible apply Go.Sx.Imp.per; · repeat (first | with_reducible exact Go.Sx.Mem.head _ _ | apply Go.Sx.Mem.tail)) | (with_reducible apply Go.Sx.Imp.one; · repeat (first | with_reducible exact Go.Sx.At1.head _ _ | apply Go.Sx.At1.tail)))) (hE : Kext S (km a0 a1 ++ kdrop S K0) K := by repeat (first | exact Go.Sx.Kext.base | refine Go.Sx.Kext.drop rfl ?_ | refine Go.Sx.Kext.cons rfl ?_)) (hS : kall S (km a0 a1) = true := by rfl) :
    At E N K Hs (AgainF2 E N S K0 R m φ km Hi a0 a1) := fun a w hk hs =>
  ⟨b0, b1, hm, hφ, hk.sub (ksub_app hK (ksub_ext hE (kall_mem hS))), imp_back hH hR E w hs⟩
def Meet2 (E : En) (N : Nat) {A0 A1 : Type} (S : List (Nat × Nat)) (K0 : Kl) (R : List Asn) (φ : A0 → A1 → Prop) (km : A0 → A1 → Kl) (Hi : A0 → A1 → List Asn) (a : Act) (w : World) : Prop := ∃ (a0 : A0) (a1 : A1), φ a0 a1 ∧ Kn N (km a0 a1 ++ kdrop S K0) a ∧ St E (Hi a0 a1 ++ R) w
theorem At.joinQ2 {A0 A1 : Type} (S : List (Nat × Nat)) (φ : A0 → A1 → Prop) (km : A0 → A1 → Kl) (Hi : A0 → A1 → List Asn) {R : List Asn} (ps : List Asn) {x : Code}
    (hx : At E N K Hs (x.wp P (Exit.then (Meet2 E N S K R φ km Hi) Q)))
    (hy : ∀ a0 a1, φ a0 a1 → At E N (km a0 a1 ++ kdrop S K) (Hi a0 a1 ++ R) (Q .normal)) (hH : Split Hs ps R := by repeat (first | exact Go.Sx.Split.nil _ | (with_reducible apply Go.Sx.Split.per; · repeat (first | with_reducible exact Go.Sx.Mem.head _ _ | apply Go.Sx.Mem.tail)) | (with_reducible apply Go.Sx.Split.own; · repeat (first | with_reducible exact Go.Sx.At1.head _ _ | apply Go.Sx.At1.tail)))) : At E N K Hs (x.wp P Q) := fun a w hk hs => by
  refine wp_mono (hx a w hk hs) ?_
  intro e a' w' hq
  cases e with
  | normal => obtain ⟨a0, a1, h1, h2, h3⟩ := hq; exact hy a0 a1 h1 a' w' h2 h3
  | exit id => exact hq
  | goto l => exact hq
  | ret => exact hq
  | panic ch => exact hq
  | outgrown => exact hq
theorem At.meet2 {A0 A1 : Type} {S : List (Nat × Nat)} {K0 : Kl} {R R' : List Asn} {φ : A0 → A1 → Prop} {km : A0 → A1 → Kl} {Hi : A0 → A1 → List Asn} (a0 : A0) (a1 : A1) (hφ : φ a0 a1) (hK : ksub K (km a0 a1))
    (hH : Split Hs (Hi a0 a1) R' := by repeat (first | exact Go.Sx.Split.nil _ | (with_reducible apply Go.Sx.Split.per; · repeat (first | with_reducible exact Go.Sx.Mem.head _ _ | apply Go.Sx.Mem.tail)) | (with_reducible apply Go.Sx.Split.own; · repeat (first | with_reducible exact Go.Sx.At1.head _ _ | apply Go.Sx.At1.tail)))) (hR : Imp R' R := by repeat (first | exact Go.Sx.Imp.nil _ | (with_reducible apply Go.Sx.Imp.per; · repeat (first | with_reducible exact Go.Sx.Mem.head _ _ | apply Go.Sx.Mem.tail)) | (with_reducible apply Go.Sx.Imp.one; · repeat (first | with_reducible exact Go.Sx.At1.head _ _ | apply Go.Sx.At1.tail)))) (hE : Kext S K0 K := by repeat (first | exact Go.Sx.Kext.base | refine Go.Sx.Kext.drop rfl ?_ | refine Go.Sx.Kext.cons rfl ?_)) :
    At E N K Hs (Meet2 E N S K0 R φ km Hi) := fun a w hk hs =>
  ⟨a0, a1, hφ, hk.sub (ksub_app hK (ksub_drop hE)), imp_back hH hR E w hs⟩

def AgainF3 (E : En) (N : Nat) {A0 A1 A2 : Type} (S : List (Nat × Nat)) (K0 : Kl) (R : List Asn) (m : A0 → A1 → A2 → Nat) (φ : A0 → A1 → A2 → Prop) (km : A0 → A1 → A2 → Kl) (Hi : A0 → A1 → A2 → List Asn) (a0 : A0) (a1 : A1) (a2 : A2) (a : Act) (w : World) : Prop :=
  ∃ (b0 : A0) (b1 : A1) (b2 : A2), m b0 b1 b2 < m a0 a1 a2 ∧ φ b0 b1 b2 ∧ Kn N (km b0 b1 b2 ++ kdrop S K0) a ∧ St E (Hi b0 b1 b2 ++ R) w
theorem At.loopF3 {A0 A1 A2 : Type} (S : List (Nat × Nat)) (m : A0 → A1 → A2 → Nat) (φ : A0 → A1 → A2 → Prop) (km : A0 → A1 → A2 → Kl) (Hi : A0 → A1 → A2 → List Asn) {R : List Asn} {c : Code} (a0 : A0) (a1 : A1) (a2 : A2) (h0 : φ a0 a1 a2) (hK : ksub K (km a0 a1 a2))
    (round : ∀ a0 a1 a2, φ a0 a1 a2 → At E N (km a0 a1 a2 ++ kdrop S K) (Hi a0 a1 a2 ++ R) (c.wp P (Exit.then (AgainF3 E N S K R m φ km Hi a0 a1 a2) Q))) (hH : Split Hs (Hi a0 a1 a2) R := by repeat (first | exact Go.Sx.Split.nil _ | (with_reducible apply Go.Sx.Split.per; · repeat (first | with_reducible exact Go.Sx.Mem.head _ _ | apply Go.Sx.Mem.tail)) | (with_reducible apply Go.Sx.Split.own; · repeat (first | with_reducible exact Go.Sx.At1.head _ _ | apply Go.Sx.At1.tail)))) : At E N K Hs ((Code.loop c).wp P Q) := by
  refine At.loop (ι := { i : A0 × A1 × A2 // φ i.1 i.2.1 i.2.2 }) (fun i => m i.1.1 i.1.2.1 i.1.2.2) (fun i => km i.1.1 i.1.2.1 i.1.2.2 ++ kdrop S K) (fun i => Hi i.1.1 i.1.2.1 i.1.2.2 ++ R) ⟨(a0, a1, a2), h0⟩ (ksub_app hK (ksub_of fun p hp => ?_)) hH.imp ?_
  · obtain ⟨v, h1, h2, _⟩ := kdrop_fv K S p hp; exact ⟨v, h1, h2⟩
  · rintro ⟨⟨a0, a1, a2⟩, hi⟩ a w hk hs
    refine wp_mono (round a0 a1 a2 hi a w hk hs) ?_
    intro e a' w' hq
    cases e with
    | normal => obtain ⟨b0, b1, b2, h1, h2, h3, h4⟩ := hq; exact ⟨⟨(b0, b1, b2), h2⟩, h1, h3, h4⟩
    | exit id => exact hq
    | goto l => exact hq
    | ret => exact hq
    | panic ch => exact hq
    | outgrown => exact hq
theorem At.againF3 {A0 A1 A2 : Type} {S : List (Nat × Nat)} {K0 : Kl} {R R' : List Asn} {m : A0 → A1 → A2 → Nat} {φ : A0 → A1 → A2 → Prop} {km : A0 → A1 → A2 → Kl} {Hi : A0 → A1 → A2 → List Asn} {a0 : A0} {a1 : A1} {a2 : A2} (b0 : A0) (b1 : A1) (b2 : A2) (hm : m b0 b1 b2 < m a0 a1 a2) (hφ : φ b0 b1 b2) (hK : ksub K (km b0 b1 b2))
    (hH : Split Hs (Hi b0 b1 b2) R' := by repeat (first | exact Go.Sx.Split.nil _ | (with_reducible apply Go.Sx.Split.per; · repeat (first | with_reducible exact Go.Sx.Mem.head _ _ | apply Go.Sx.Mem.tail)) | (with_reducible apply Go.Sx.Split.own; · repeat (first | with_reducible exact Go.Sx.At1.head _ _ | apply Go.Sx.At1.tail)))) (hR : Imp R' R := by repeat (first | exact Go.Sx.Imp.nil _ | (with_reducible apply Go.Sx.Imp.per; · repeat (first | with_reducible exact Go.Sx.Mem.head _ _ | apply Go.Sx.Mem.tail)) | (with_reducible apply Go.Sx.Imp.one; · repeat (first | with_reducible exact Go.Sx.At1.head _ _ | apply Go.Sx.At1.tail)))) (hE : Kext S (km a0 a1 a2 ++ kdrop S K0) K := by repeat (first | exact Go.Sx.Kext.base | refine Go.Sx.Kext.drop rfl ?_ | refine Go.Sx.Kext.cons rfl ?_)) (hS : kall S (km a0 a1 a2) = true := by rfl) :
    At E N K Hs (AgainF3 E N S K0 R m φ km Hi a0 a1 a2) := fun a w hk hs =>
  ⟨b0, b1, b2, hm, hφ, hk.sub (ksub_app hK (ksub_ext hE (kall_mem hS))), imp_back hH hR E w hs⟩
def Meet3 (E : En) (N : Nat) {A0 A1 A2 : Type} (S : List (Nat × Nat)) (K0 : Kl) (R : List Asn) (φ : A0 → A1 → A2 → Prop) (km : A0 → A1 → A2 → Kl) (Hi : A0 → A1 → A2 → List Asn) (a : Act) (w : World) : Prop := ∃ (a0 : A0) (a1 : A1) (a2 : A2), φ a0 a1 a2 ∧ Kn N (km a0 a1 a2 ++ kdrop S K0) a ∧ St E (Hi a0 a1 a2 ++ R) w
theorem At.joinQ3 {A0 A1 A2 : Type} (S : List (Nat × Nat)) (φ : A0 → A1 → A2 → Prop) (km : A0 → A1 → A2 → Kl) (Hi : A0 → A1 → A2 → List Asn) {R : List Asn} (ps : List Asn) {x : Code}
    (hx : At E N K Hs (x.wp P (Exit.then (Meet3 E N S K R φ km Hi) Q)))
    (hy : ∀ a0 a1 a2, φ a0 a1 a2 → At E N (km a0 a1 a2 ++ kdrop S K) (Hi a0 a1 a2 ++ R) (Q .normal)) (hH : Split Hs ps R := by repeat (first | exact Go.Sx.Split.nil _ | (with_reducible apply Go.Sx.Split.per; · repeat (first | with_reducible exact Go.Sx.Mem.head _ _ | apply Go.Sx.Mem.tail)) | (with_reducible apply Go.Sx.Split.own; · repeat (first | with_reducible exact Go.Sx.At1.head _ _ | apply Go.Sx.At1.tail)))) : At E N K Hs (x.wp P Q) := fun a w hk hs => by
  refine wp_mono (hx a w hk hs) ?_
  intro e a' w' hq
  cases e with
  | normal => obtain ⟨a0, a1, a2, h1, h2, h3⟩ := hq; exact hy a0 a1 a2 h1 a' w' h2 h3
  | exit id => exact hq
  | goto l => exact hq
  | ret => exact hq
  | panic ch => exact hq
  | outgrown => exact hq
theorem At.meet3 {A0 A1 A2 : Type} {S : List (Nat × Nat)} {K0 : Kl} {R R' : List Asn} {φ : A0 → A1 → A2 → Prop} {km : A0 → A1 → A2 → Kl} {Hi : A0 → A1 → A2 → List Asn} (a0 : A0) (a1 : A1) (a2 : A2) (hφ : φ a0 a1 a2) (hK : ksub K (km a0 a1 a2))
    (hH : Split Hs (Hi a0 a1 a2) R' := by repeat (first | exact Go.Sx.Split.nil _ | (with_reducible apply Go.Sx.Split.per; · repeat (first | with_reducible exact Go.Sx.Mem.head _ _ | apply Go.Sx.Mem.tail)) | (with_reducible apply Go.Sx.Split.own; · repeat (first | with_reducible exact Go.Sx.At1.head _ _ | apply Go.Sx.At1.tail)))) (hR : Imp R' R := by repeat (first | exact Go.Sx.Imp.nil _ | (with_reducible apply Go.Sx.Imp.per; · repeat (first | with_reducible exact Go.Sx.Mem.head _ _ | apply Go.Sx.Mem.tail)) | (with_reducible apply Go.Sx.Imp.one; · repeat (first | with_reducible exact Go.Sx.At1.head _ _ | apply Go.Sx.At1.tail)))) (hE : Kext S K0 K := by repeat (first | exact Go.Sx.Kext.base | refine Go.Sx.Kext.drop rfl ?_ | refine Go.Sx.Kext.cons rfl ?_)) :
    At E N K Hs (Meet3 E N S K0 R φ km Hi) := fun a w hk hs =>
  ⟨a0, a1, a2, hφ, hk.sub (ksub_app hK (ksub_drop hE)), imp_back hH hR E w hs⟩

def AgainF4 (E : En) (N : Nat) {A0 A1 A2 A3 : Type} (S : List (Nat × Nat)) (K0 : Kl) (R : List Asn) (m : A0 → A1 → A2 → A3 → Nat) (φ : A0 → A1 → A2 → A3 → Prop) (km : A0 → A1 → A2 → A3 → Kl) (Hi : A0 → A1 → A2 → A3 → List Asn) (a0 : A0) (a1 : A1) (a2 : A2) (a3 : A3) (a : Act) (w : World) : Prop :=
  ∃ (b0 : A0) (b1 : A1) (b2 : A2) (b3 : A3), m b0 b1 b2 b3 < m a0 a1 a2 a3 ∧ φ b0 b1 b2 b3 ∧ Kn N (km b0 b1 b2 b3 ++ kdrop S K0) a ∧ St E (Hi b0 b1 b2 b3 ++ R) w
theorem At.loopF4 {A0 A1 A2 A3 : Type} (S : List (Nat × Nat)) (m : A0 → A1 → A2 → A3 → Nat) (φ : A0 → A1 → A2 → A3 → Prop) (km : A0 → A1 → A2 → A3 → Kl) (Hi : A0 → A1 → A2 → A3 → List Asn) {R : List Asn} {c : Code} (a0 : A0) (a1 : A1) (a2 : A2) (a3 : A3) (h0 : φ a0 a1 a2 a3) (hK : ksub K (km a0 a1 a2 a3))
    (round : ∀ a0 a1 a2 a3, φ a0 a1 a2 a3 → At E N (km a0 a1 a2 a3 ++ kdrop S K) (Hi a0 a1 a2 a3 ++ R) (c.wp P (Exit.then (AgainF4 E N S K R m φ km Hi a0 a1 a2 a3) Q))) (hH : Split Hs (Hi a0 a1 a2 a3) R := by repeat (first | exact Go.Sx.Split.nil _ | (with_reducible apply Go.Sx.Split.per; · repeat (first | with_reducible exact Go.Sx.Mem.head _ _ | apply Go.Sx.Mem.tail)) | (with_reducible apply Go.Sx.Split.own; · repeat (first | with_reducible exact Go.Sx.At1.head _ _ | apply Go.Sx.At1.tail)))) : At E N K Hs ((Code.loop c).wp P Q) := by
  refine At.loop (ι := { i : A0 × A1 × A2 × A3 // φ i.1 i.2.1 i.2.2.1 i.2.2.2 }) (fun i => m i.1.1 i.1.2.1 i.1.2.2.1 i.1.2.2.2) (fun i => km i.1.1 i.1.2.1 i.1.2.2.1 i.1.2.2.2 ++ kdrop S K) (fun i => Hi i.1.1 i.1.2.1 i.1.2.2.1 i.1.2.2.2 ++ R) ⟨(a0, a1, a2, a3), h0⟩ (ksub_app hK (ksub_of fun p hp => ?_)) hH.imp ?_
  · obtain ⟨v, h1, h2, _⟩ := kdrop_fv K S p hp; exact ⟨v, h1, h2⟩
  · rintro ⟨⟨a0, a1, a2, a3⟩, hi⟩ a w hk hs
    refine wp_mono (round a0 a1 a2 a3 hi a w hk hs) ?_
    intro e a' w' hq
    cases e with
    | normal => obtain ⟨b0, b1, b2, b3, h1, h2, h3, h4⟩ := hq; exact ⟨⟨(b0, b1, b2, b3), h2⟩, h1, h3, h4⟩
    | exit id => exact hq
    | goto l => exact hq
    | ret => exact hq
    | panic ch => exact hq
    | outgrown => exact hq
theorem At.againF4 {A0 A1 A2 A3 : Type} {S : List (Nat × Nat)} {K0 : Kl} {R R' : List Asn} {m : A0 → A1 → A2 → A3 → Nat} {φ : A0 → A1 → A2 → A3 → Prop} {km : A0 → A1 → A2 → A3 → Kl} {Hi : A0 → A1 → A2 → A3 → List Asn} {a0 : A0} {a1 : A1} {a2 : A2} {a3 : A3} (b0 : A0) (b1 : A1) (b2 : A2) (b3 : A3) (hm : m b0 b1 b2 b3 < m a0 a1 a2 a3) (hφ : φ b0 b1 b2 b3) (hK : ksub K (km b0 b1 b2 b3))
    (hH : Split Hs (Hi b0 b1 b2 b3) R' := by repeat (first | exact Go.Sx.Split.nil _ | (with_reducible apply Go.Sx.Split.per; · repeat (first | with_reducible exact Go.Sx.Mem.head _ _ | apply Go.Sx.Mem.tail)) | (with_reducible apply Go.Sx.Split.own; · repeat (first | with_reducible exact Go.Sx.At1.head _ _ | apply Go.Sx.At1.tail)))) (hR : Imp R' R := by repeat (first | exact Go.Sx.Imp.nil _ | (with_reducible apply Go.Sx.Imp.per; · repeat (first | with_reducible exact Go.Sx.Mem.head _ _ | apply Go.Sx.Mem.tail)) | (with_reducible apply Go.Sx.Imp.one; · repeat (first | with_reducible exact Go.Sx.At1.head _ _ | apply Go.Sx.At1.tail)))) (hE : Kext S (km a0 a1 a2 a3 ++ kdrop S K0) K := by repeat (first | exact Go.Sx.Kext.base | refine Go.Sx.Kext.drop rfl ?_ | refine Go.Sx.Kext.cons rfl ?_)) (hS : kall S (km a0 a1 a2 a3) = true := by rfl) :
    At E N K Hs (AgainF4 E N S K0 R m φ km Hi a0 a1 a2 a3) := fun a w hk hs =>
  ⟨b0, b1, b2, b3, hm, hφ, hk.sub (ksub_app hK (ksub_ext hE (kall_mem hS))), imp_back hH hR E w hs⟩
def Meet4 (E : En) (N : Nat) {A0 A1 A2 A3 : Type} (S : List (Nat × Nat)) (K0 : Kl) (R : List Asn) (φ : A0 → A1 → A2 → A3 → Prop) (km : A0 → A1 → A2 → A3 → Kl) (Hi : A0 → A1 → A2 → A3 → List Asn) (a : Act) (w : World) : Prop := ∃ (a0 : A0) (a1 : A1) (a2 : A2) (a3 : A3), φ a0 a1 a2 a3 ∧ Kn N (km a0 a1 a2 a3 ++ kdrop S K0) a ∧ St E (Hi a0 a1 a2 a3 ++ R) w
theorem At.joinQ4 {A0 A1 A2 A3 : Type} (S : List (Nat × Nat)) (φ : A0 → A1 → A2 → A3 → Prop) (km : A0 → A1 → A2 → A3 → Kl) (Hi : A0 → A1 → A2 → A3 → List Asn) {R : List Asn} (ps : List Asn) {x : Code}
    (hx : At E N K Hs (x.wp P (Exit.then (Meet4 E N S K R φ km Hi) Q)))
    (hy : ∀ a0 a1 a2 a3, φ a0 a1 a2 a3 → At E N (km a0 a1 a2 a3 ++ kdrop S K) (Hi a0 a1 a2 a3 ++ R) (Q .normal)) (hH : Split Hs ps R := by repeat (first | exact Go.Sx.Split.nil _ | (with_reducible apply Go.Sx.Split.per; · repeat (first | with_reducible exact Go.Sx.Mem.head _ _ | apply Go.Sx.Mem.tail)) | (with_reducible apply Go.Sx.Split.own; · repeat (first | with_reducible exact Go.Sx.At1.head _ _ | apply Go.Sx.At1.tail)))) : At E N K Hs (x.wp P Q) := fun a w hk hs => by
  refine wp_mono (hx a w hk hs) ?_
  intro e a' w' hq
  cases e with
  | normal => obtain ⟨a0, a1, a2, a3, h1, h2, h3⟩ := hq; exact hy a0 a1 a2 a3 h1 a' w' h2 h3
  | exit id => exact hq
  | goto l => exact hq
  | ret => exact hq
  | panic ch => exact hq
  | outgrown => exact hq
theorem At.meet4 {A0 A1 A2 A3 : Type} {S : List (Nat × Nat)} {K0 : Kl} {R R' : List Asn} {φ : A0 → A1 → A2 → A3 → Prop} {km : A0 → A1 → A2 → A3 → Kl} {Hi : A0 → A1 → A2 → A3 → List Asn} (a0 : A0) (a1 : A1) (a2 : A2) (a3 : A3) (hφ : φ a0 a1 a2 a3) (hK : ksub K (km a0 a1 a2 a3))
    (hH : Split Hs (Hi a0 a1 a2 a3) R' := by repeat (first | exact Go.Sx.Split.nil _ | (with_reducible apply Go.Sx.Split.per; · repeat (first | with_reducible exact Go.Sx.Mem.head _ _ | apply Go.Sx.Mem.tail)) | (with_reducible apply Go.Sx.Split.own; · repeat (first | with_reducible exact Go.Sx.At1.head _ _ | apply Go.Sx.At1.tail)))) (hR : Imp R' R := by repeat (first | exact Go.Sx.Imp.nil _ | (with_reducible apply Go.Sx.Imp.per; · repeat (first | with_reducible exact Go.Sx.Mem.head _ _ | apply Go.Sx.Mem.tail)) | (with_reducible apply Go.Sx.Imp.one; · repeat (first | with_reducible exact Go.Sx.At1.head _ _ | apply Go.Sx.At1.tail)))) (hE : Kext S K0 K := by repeat (first | exact Go.Sx.Kext.base | refine Go.Sx.Kext.drop rfl ?_ | refine Go.Sx.Kext.cons rfl ?_)) :
    At E N K Hs (Meet4 E N S K0 R φ km Hi) := fun a w hk hs =>
  ⟨a0, a1, a2, a3, hφ, hk.sub (ksub_app hK (ksub_drop hE)), imp_back hH hR E w hs⟩

def AgainF5 (E : En) (N : Nat) {A0 A1 A2 A3 A4 : Type} (S : List (Nat × Nat)) (K0 : Kl) (R : List Asn) (m : A0 → A1 → A2 → A3 → A4 → Nat) (φ : A0 → A1 → A2 → A3 → A4 → Prop) (km : A0 → A1 → A2 → A3 → A4 → Kl) (Hi : A0 → A1 → A2 → A3 → A4 → List Asn) (a0 : A0) (a1 : A1) (a2 : A2) (a3 : A3) (a4 : A4) (a : Act) (w : World) : Prop :=
  ∃ (b0 : A0) (b1 : A1) (b2 : A2) (b3 : A3) (b4 : A4), m b0 b1 b2 b3 b4 < m a0 a1 a2 a3 a4 ∧ φ b0 b1 b2 b3 b4 ∧ Kn N (km b0 b1 b2 b3 b4 ++ kdrop S K0) a ∧ St E (Hi b0 b1 b2 b3 b4 ++ R) w
theorem At.loopF5 {A0 A1 A2 A3 A4 : Type} (S : List (Nat × Nat)) (m : A0 → A1 → A2 → A3 → A4 → Nat) (φ : A0 → A1 → A2 → A3 → A4 → Prop) (km : A0 → A1 → A2 → A3 → A4 → Kl) (Hi : A0 → A1 → A2 → A3 → A4 → List Asn) {R : List Asn} {c : Code} (a0 : A0) (a1 : A1) (a2 : A2) (a3 : A3) (a4 : A4) (h0 : φ a0 a1 a2 a3 a4) (hK : ksub K (km a0 a1 a2 a3 a4))
    (round : ∀ a0 a1 a2 a3 a4, φ a0 a1 a2 a3 a4 → At E N (km a0 a1 a2 a3 a4 ++ kdrop S K) (Hi a0 a1 a2 a3 a4 ++ R) (c.wp P (Exit.then (AgainF5 E N S K R m φ km Hi a0 a1 a2 a3 a4) Q))) (hH : Split Hs (Hi a0 a1 a2 a3 a4) R := by repeat (first | exact Go.Sx.Split.nil _ | (with_reducible apply Go.Sx.Split.per; · repeat (first | with_reducible exact Go.Sx.Mem.head _ _ | apply Go.Sx.Mem.tail)) | (with_reducible apply Go.Sx.Split.own; · repeat (first | with_reducible exact Go.Sx.At1.head _ _ | apply Go.Sx.At1.tail)))) : At E N K Hs ((Code.loop c).wp P Q) := by
  refine At.loop (ι := { i : A0 × A1 × A2 × A3 × A4 // φ i.1 i.2.1 i.2.2.1 i.2.2.2.1 i.2.2.2.2 }) (fun i => m i.1.1 i.1.2.1 i.1.2.2.1 i.1.2.2.2.1 i.1.2.2.2.2) (fun i => km i.1.1 i.1.2.1 i.1.2.2.1 i.1.2.2.2.1 i.1.2.2.2.2 ++ kdrop S K) (fun i => Hi i.1.1 i.1.2.1 i.1.2.2.1 i.1.2.2.2.1 i.1.2.2.2.2 ++ R) ⟨(a0, a1, a2, a3, a4), h0⟩ (ksub_app hK (ksub_of fun p hp => ?_)) hH.imp ?_
  · obtain ⟨v, h1, h2, _⟩ := kdrop_fv K S p hp; exact ⟨v, h1, h2⟩
  · rintro ⟨⟨a0, a1, a2, a3, a4⟩, hi⟩ a w hk hs
    refine wp_mono (round a0 a1 a2 a3 a4 hi a w hk hs) ?_
    intro e a' w' hq
    cases e with
    | normal => obtain ⟨b0, b1, b2, b3, b4, h1, h2, h3, h4⟩ := hq; exact ⟨⟨(b0, b1, b2, b3, b4), h2⟩, h1, h3, h4⟩
    | exit id => exact hq
    | goto l => exact hq
    | ret => exact hq
    | panic ch => exact hq
    | outgrown => exact hq
theorem At.againF5 {A0 A1 A2 A3 A4 : Type} {S : List (Nat × Nat)} {K0 : Kl} {R R' : List Asn} {m : A0 → A1 → A2 → A3 → A4 → Nat} {φ : A0 → A1 → A2 → A3 → A4 → Prop} {km : A0 → A1 → A2 → A3 → A4 → Kl} {Hi : A0 → A1 → A2 → A3 → A4 → List Asn} {a0 : A0} {a1 : A1} {a2 : A2} {a3 : A3} {a4 : A4} (b0 : A0) (b1 : A1) (b2 : A2) (b3 : A3) (b4 : A4) (hm : m b0 b1 b2 b3 b4 < m a0 a1 a2 a3 a4) (hφ : φ b0 b1 b2 b3 b4) (hK : ksub K (km b0 b1 b2 b3 b4))
    (hH : Split Hs (Hi b0 b1 b2 b3 b4) R' := by repeat (first | exact Go.Sx.Split.nil _ | (with_reducible apply Go.Sx.Split.per; · repeat (first | with_reducible exact Go.Sx.Mem.head _ _ | apply Go.Sx.Mem.tail)) | (with_reducible apply Go.Sx.Split.own; · repeat (first | with_reducible exact Go.Sx.At1.head _ _ | apply Go.Sx.At1.tail)))) (hR : Imp R' R := by repeat (first | exact Go.Sx.Imp.nil _ | (with_reducible apply Go.Sx.Imp.per; · repeat (first | with_reducible exact Go.Sx.Mem.head _ _ | apply Go.Sx.Mem.tail)) | (with_reducible apply Go.Sx.Imp.one; · repeat (first | with_reducible exact Go.Sx.At1.head _ _ | apply Go.Sx.At1.tail)))) (hE : Kext S (km a0 a1 a2 a3 a4 ++ kdrop S K0) K := by repeat (first | exact Go.Sx.Kext.base | refine Go.Sx.Kext.drop rfl ?_ | refine Go.Sx.Kext.cons rfl ?_)) (hS : kall S (km a0 a1 a2 a3 a4) = true := by rfl) :
    At E N K Hs (AgainF5 E N S K0 R m φ km Hi a0 a1 a2 a3 a4) := fun a w hk hs =>
  ⟨b0, b1, b2, b3, b4, hm, hφ, hk.sub (ksub_app hK (ksub_ext hE (kall_mem hS))), imp_back hH hR E w hs⟩
def Meet5 (E : En) (N : Nat) {A0 A1 A2 A3 A4 : Type} (S : List (Nat × Nat)) (K0 : Kl) (R : List Asn) (φ : A0 → A1 → A2 → A3 → A4 → Prop) (km : A0 → A1 → A2 → A3 → A4 → Kl) (Hi : A0 → A1 → A2 → A3 → A4 → List Asn) (a : Act) (w : World) : Prop := ∃ (a0 : A0) (a1 : A1) (a2 : A2) (a3 : A3) (a4 : A4), φ a0 a1 a2 a3 a4 ∧ Kn N (km a0 a1 a2 a3 a4 ++ kdrop S K0) a ∧ St E (Hi a0 a1 a2 a3 a4 ++ R) w
theorem At.joinQ5 {A0 A1 A2 A3 A4 : Type} (S : List (Nat × Nat)) (φ : A0 → A1 → A2 → A3 → A4 → Prop) (km : A0 → A1 → A2 → A3 → A4 → Kl) (Hi : A0 → A1 → A2 → A3 → A4 → List Asn) {R : List Asn} (ps : List Asn) {x : Code}
    (hx : At E N K Hs (x.wp P (Exit.then (Meet5 E N S K R φ km Hi) Q)))
    (hy : ∀ a0 a1 a2 a3 a4, φ a0 a1 a2 a3 a4 → At E N (km a0 a1 a2 a3 a4 ++ kdrop S K) (Hi a0 a1 a2 a3 a4 ++ R) (Q .normal)) (hH : Split Hs ps R := by repeat (first | exact Go.Sx.Split.nil _ | (with_reducible apply Go.Sx.Split.per; · repeat (first | with_reducible exact Go.Sx.Mem.head _ _ | apply Go.Sx.Mem.tail)) | (with_reducible apply Go.Sx.Split.own; · repeat (first | with_reducible exact Go.Sx.At1.head _ _ | apply Go.Sx.At1.tail)))) : At E N K Hs (x.wp P Q) := fun a w hk hs => by
  refine wp_mono (hx a w hk hs) ?_
  intro e a' w' hq
  cases e with
  | normal => obtain ⟨a0, a1, a2, a3, a4, h1, h2, h3⟩ := hq; exact hy a0 a1 a2 a3 a4 h1 a' w' h2 h3
  | exit id => exact hq
  | goto l => exact hq
  | ret => exact hq
  | panic ch => exact hq
  | outgrown => exact hq
theorem At.meet5 {A0 A1 A2 A3 A4 : Type} {S : List (Nat × Nat)} {K0 : Kl} {R R' : List Asn} {φ : A0 → A1 → A2 → A3 → A4 → Prop} {km : A0 → A1 → A2 → A3 → A4 → Kl} {Hi : A0 → A1 → A2 → A3 → A4 → List Asn} (a0 : A0) (a1 : A1) (a2 : A2) (a3 : A3) (a4 : A4) (hφ : φ a0 a1 a2 a3 a4) (hK : ksub K (km a0 a1 a2 a3 a4))
    (hH : Split Hs (Hi a0 a1 a2 a3 a4) R' := by repeat (first | exact Go.Sx.Split.nil _ | (with_reducible apply Go.Sx.Split.per; · repeat (first | with_reducible exact Go.Sx.Mem.head _ _ | apply Go.Sx.Mem.tail)) | (with_reducible apply Go.Sx.Split.own; · repeat (first | with_reducible exact Go.Sx.At1.head _ _ | apply Go.Sx.At1.tail)))) (hR : Imp R' R := by repeat (first | exact Go.Sx.Imp.nil _ | (with_reducible apply Go.Sx.Imp.per; · repeat (first | with_reducible exact Go.Sx.Mem.head _ _ | apply Go.Sx.Mem.tail)) | (with_reducible apply Go.Sx.Imp.one; · repeat (first | with_reducible exact Go.Sx.At1.head _ _ | apply Go.Sx.At1.tail)))) (hE : Kext S K0 K := by repeat (first | exact Go.Sx.Kext.base | refine Go.Sx.Kext.drop rfl ?_ | refine Go.Sx.Kext.cons rfl ?_)) :
    At E N K Hs (Meet5 E N S K0 R φ km Hi) := fun a w hk hs =>
  ⟨a0, a1, a2, a3, a4, hφ, hk.sub (ksub_app hK (ksub_drop hE)), imp_back hH hR E w hs⟩

def AgainF6 (E : En) (N : Nat) {A0 A1 A2 A3 A4 A5 : Type} (S : List (Nat × Nat)) (K0 : Kl) (R : List Asn) (m : A0 → A1 → A2 → A3 → A4 → A5 → Nat) (φ : A0 → A1 → A2 → A3 → A4 → A5 → Prop) (km : A0 → A1 → A2 → A3 → A4 → A5 → Kl) (Hi : A0 → A1 → A2 → A3 → A4 → A5 → List Asn) (a0 : A0) (a1 : A1) (a2 : A2) (a3 : A3) (a4 : A4) (a5 : A5) (a : Act) (w : World) : Prop :=
  ∃ (b0 : A0) (b1 : A1) (b2 : A2) (b3 : A3) (b4 : A4) (b5 : A5), m b0 b1 b2 b3 b4 b5 < m a0 a1 a2 a3 a4 a5 ∧ φ b0 b1 b2 b3 b4 b5 ∧ Kn N (km b0 b1 b2 b3 b4 b5 ++ kdrop S K0) a ∧ St E (Hi b0 b1 b2 b3 b4 b5 ++ R) w
theorem At.loopF6 {A0 A1 A2 A3 A4 A5 : Type} (S : List (Nat × Nat)) (m : A0 → A1 → A2 → A3 → A4 → A5 → Nat) (φ : A0 → A1 → A2 → A3 → A4 → A5 → Prop) (km : A0 → A1 → A2 → A3 → A4 → A5 → Kl) (Hi : A0 → A1 → A2 → A3 → A4 → A5 → List Asn) {R : List Asn} {c : Code} (a0 : A0) (a1 : A1) (a2 : A2) (a3 : A3) (a4 : A4) (a5 : A5) (h0 : φ a0 a1 a2 a3 a4 a5) (hK : ksub K (km a0 a1 a2 a3 a4 a5))
    (round : ∀ a0 a1 a2 a3 a4 a5, φ a0 a1 a2 a3 a4 a5 → At E N (km a0 a1 a2 a3 a4 a5 ++ kdrop S K) (Hi a0 a1 a2 a3 a4 a5 ++ R) (c.wp P (Exit.then (AgainF6 E N S K R m φ km Hi a0 a1 a2 a3 a4 a5) Q))) (hH : Split Hs (Hi a0 a1 a2 a3 a4 a5) R := by repeat (first | exact Go.Sx.Split.nil _ | (with_reducible apply Go.Sx.Split.per; · repeat (first | with_reducible exact Go.Sx.Mem.head _ _ | apply Go.Sx.Mem.tail)) | (with_reducible apply Go.Sx.Split.own; · repeat (first | with_reducible exact Go.Sx.At1.head _ _ | apply Go.Sx.At1.tail)))) : At E N K Hs ((Code.loop c).wp P Q) := by
  refine At.loop (ι := { i : A0 × A1 × A2 × A3 × A4 × A5 // φ i.1 i.2.1 i.2.2.1 i.2.2.2.1 i.2.2.2.2.1 i.2.2.2.2.2 }) (fun i => m i.1.1 i.1.2.1 i.1.2.2.1 i.1.2.2.2.1 i.1.2.2.2.2.1 i.1.2.2.2.2.2) (fun i => km i.1.1 i.1.2.1 i.1.2.2.1 i.1.2.2.2.1 i.1.2.2.2.2.1 i.1.2.2.2.2.2 ++ kdrop S K) (fun i => Hi i.1.1 i.1.2.1 i.1.2.2.1 i.1.2.2.2.1 i.1.2.2.2.2.1 i.1.2.2.2.2.2 ++ R) ⟨(a0, a1, a2, a3, a4, a5), h0⟩ (ksub_app hK (ksub_of fun p hp => ?_)) hH.imp ?_
  · obtain ⟨v, h1, h2, _⟩ := kdrop_fv K S p hp; exact ⟨v, h1, h2⟩
  · rintro ⟨⟨a0, a1, a2, a3, a4, a5⟩, hi⟩ a w hk hs
    refine wp_mono (round a0 a1 a2 a3 a4 a5 hi a w hk hs) ?_
    intro e a' w' hq
    cases e with
    | normal => obtain ⟨b0, b1, b2, b3, b4, b5, h1, h2, h3, h4⟩ := hq; exact ⟨⟨(b0, b1, b2, b3, b4, b5), h2⟩, h1, h3, h4⟩
    | exit id => exact hq
    | goto l => exact hq
    | ret => exact hq
    | panic ch => exact hq
    | outgrown => exact hq
theorem At.againF6 {A0 A1 A2 A3 A4 A5 : Type} {S : List (Nat × Nat)} {K0 : Kl} {R R' : List Asn} {m : A0 → A1 → A2 → A3 → A4 → A5 → Nat} {φ : A0 → A1 → A2 → A3 → A4 → A5 → Prop} {km : A0 → A1 → A2 → A3 → A4 → A5 → Kl} {Hi : A0 → A1 → A2 → A3 → A4 → A5 → List Asn} {a0 : A0} {a1 : A1} {a2 : A2} {a3 : A3} {a4 : A4} {a5 : A5} (b0 : A0) (b1 : A1) (b2 : A2) (b3 : A3) (b4 : A4) (b5 : A5) (hm : m b0 b1 b2 b3 b4 b5 < m a0 a1 a2 a3 a4 a5) (hφ : φ b0 b1 b2 b3 b4 b5) (hK : ksub K (km b0 b1 b2 b3 b4 b5))
    (hH : Split Hs (Hi b0 b1 b2 b3 b4 b5) R' := by repeat (first | exact Go.Sx.Split.nil _ | (with_reducible apply Go.Sx.Split.per; · repeat (first | with_reducible exact Go.Sx.Mem.head _ _ | apply Go.Sx.Mem.tail)) | (with_reducible apply Go.Sx.Split.own; · repeat (first | with_reducible exact Go.Sx.At1.head _ _ | apply Go.Sx.At1.tail)))) (hR : Imp R' R := by repeat (first | exact Go.Sx.Imp.nil _ | (with_reducible apply Go.Sx.Imp.per; · repeat (first | with_reducible exact Go.Sx.Mem.head _ _ | apply Go.Sx.Mem.tail)) | (with_reducible apply Go.Sx.Imp.one; · repeat (first | with_reducible exact Go.Sx.At1.head _ _ | apply Go.Sx.At1.tail)))) (hE : Kext S (km a0 a1 a2 a3 a4 a5 ++ kdrop S K0) K := by repeat (first | exact Go.Sx.Kext.base | refine Go.Sx.Kext.drop rfl ?_ | refine Go.Sx.Kext.cons rfl ?_)) (hS : kall S (km a0 a1 a2 a3 a4 a5) = true := by rfl) :
    At E N K Hs (AgainF6 E N S K0 R m φ km Hi a0 a1 a2 a3 a4 a5) := fun a w hk hs =>
  ⟨b0, b1, b2, b3, b4, b5, hm, hφ, hk.sub (ksub_app hK (ksub_ext hE (kall_mem hS))), imp_back hH hR E w hs⟩
def Meet6 (E : En) (N : Nat) {A0 A1 A2 A3 A4 A5 : Type} (S : List (Nat × Nat)) (K0 : Kl) (R : List Asn) (φ : A0 → A1 → A2 → A3 → A4 → A5 → Prop) (km : A0 → A1 → A2 → A3 → A4 → A5 → Kl) (Hi : A0 → A1 → A2 → A3 → A4 → A5 → List Asn) (a : Act) (w : World) : Prop := ∃ (a0 : A0) (a1 : A1) (a2 : A2) (a3 : A3) (a4 : A4) (a5 : A5), φ a0 a1 a2 a3 a4 a5 ∧ Kn N (km a0 a1 a2 a3 a4 a5 ++ kdrop S K0) a ∧ St E (Hi a0 a1 a2 a3 a4 a5 ++ R) w
theorem At.joinQ6 {A0 A1 A2 A3 A4 A5 : Type} (S : List (Nat × Nat)) (φ : A0 → A1 → A2 → A3 → A4 → A5 → Prop) (km : A0 → A1 → A2 → A3 → A4 → A5 → Kl) (Hi : A0 → A1 → A2 → A3 → A4 → A5 → List Asn) {R : List Asn} (ps : List Asn) {x : Code}
    (hx : At E N K Hs (x.wp P (Exit.then (Meet6 E N S K R φ km Hi) Q)))
    (hy : ∀ a0 a1 a2 a3 a4 a5, φ a0 a1 a2 a3 a4 a5 → At E N (km a0 a1 a2 a3 a4 a5 ++ kdrop S K) (Hi a0 a1 a2 a3 a4 a5 ++ R) (Q .normal)) (hH : Split Hs ps R := by repeat (first | exact Go.Sx.Split.nil _ | (with_reducible apply Go.Sx.Split.per; · repeat (first | with_reducible exact Go.Sx.Mem.head _ _ | apply Go.Sx.Mem.tail)) | (with_reducible apply Go.Sx.Split.own; · repeat (first | with_reducible exact Go.Sx.At1.head _ _ | apply Go.Sx.At1.tail)))) : At E N K Hs (x.wp P Q) := fun a w hk hs => by
  refine wp_mono (hx a w hk hs) ?_
  intro e a' w' hq
  cases e with
  | normal => obtain ⟨a0, a1, a2, a3, a4, a5, h1, h2, h3⟩ := hq; exact hy a0 a1 a2 a3 a4 a5 h1 a' w' h2 h3
  | exit id => exact hq
  | goto l => exact hq
  | ret => exact hq
  | panic ch => exact hq
  | outgrown => exact hq
theorem At.meet6 {A0 A1 A2 A3 A4 A5 : Type} {S : List (Nat × Nat)} {K0 : Kl} {R R' : List Asn} {φ : A0 → A1 → A2 → A3 → A4 → A5 → Prop} {km : A0 → A1 → A2 → A3 → A4 → A5 → Kl} {Hi : A0 → A1 → A2 → A3 → A4 → A5 → List Asn} (a0 : A0) (a1 : A1) (a2 : A2) (a3 : A3) (a4 : A4) (a5 : A5) (hφ : φ a0 a1 a2 a3 a4 a5) (hK : ksub K (km a0 a1 a2 a3 a4 a5))
    (hH : Split Hs (Hi a0 a1 a2 a3 a4 a5) R' := by repeat (first | exact Go.Sx.Split.nil _ | (with_reducible apply Go.Sx.Split.per; · repeat (first | with_reducible exact Go.Sx.Mem.head _ _ | apply Go.Sx.Mem.tail)) | (with_reducible apply Go.Sx.Split.own; · repeat (first | with_reducible exact Go.Sx.At1.head _ _ | apply Go.Sx.At1.tail)))) (hR : Imp R' R := by repeat (first | exact Go.Sx.Imp.nil _ | (with_reducible apply Go.Sx.Imp.per; · repeat (first | with_reducible exact Go.Sx.Mem.head _ _ | apply Go.Sx.Mem.tail)) | (with_reducible apply Go.Sx.Imp.one; · repeat (first | with_reducible exact Go.Sx.At1.head _ _ | apply Go.Sx.At1.tail)))) (hE : Kext S K0 K := by repeat (first | exact Go.Sx.Kext.base | refine Go.Sx.Kext.drop rfl ?_ | refine Go.Sx.Kext.cons rfl ?_)) :
    At E N K Hs (Meet6 E N S K0 R φ km Hi) := fun a w hk hs =>
  ⟨a0, a1, a2, a3, a4, a5, hφ, hk.sub (ksub_app hK (ksub_drop hE)), imp_back hH hR E w hs⟩

/-! Lists of assertions, laid out. -/
theorem At.cat0 {l : List Asn} (h : At E N K l G) : At E N K ([] ++ l) G := h
theorem At.cat1 {a : Asn} {l : List Asn} (h : At E N K (a :: l) G) : At E N K ([a] ++ l) G := h
theorem At.cat2 {a b : Asn} {l : List Asn} (h : At E N K (a :: b :: l) G) : At E N K ([a, b] ++ l) G := h
theorem At.cat3 {a b c : Asn} {l : List Asn} (h : At E N K (a :: b :: c :: l) G) : At E N K ([a, b, c] ++ l) G := h
theorem At.cat4 {a b c d : Asn} {l : List Asn} (h : At E N K (a :: b :: c :: d :: l) G) : At E N K ([a, b, c, d] ++ l) G := h
theorem At.cat5 {a b c d e : Asn} {l : List Asn} (h : At E N K (a :: b :: c :: d :: e :: l) G) : At E N K ([a, b, c, d, e] ++ l) G := h
theorem At.cat6 {a b c d e f : Asn} {l : List Asn} (h : At E N K (a :: b :: c :: d :: e :: f :: l) G) : At E N K ([a, b, c, d, e, f] ++ l) G := h
theorem At.cat7 {a b c d e f g : Asn} {l : List Asn} (h : At E N K (a :: b :: c :: d :: e :: f :: g :: l) G) : At E N K ([a, b, c, d, e, f, g] ++ l) G := h
theorem At.cat8 {a b c d e f g k : Asn} {l : List Asn} (h : At E N K (a :: b :: c :: d :: e :: f :: g :: k :: l) G) : At E N K ([a, b, c, d, e, f, g, k] ++ l) G := h

end
end Go.Sx
