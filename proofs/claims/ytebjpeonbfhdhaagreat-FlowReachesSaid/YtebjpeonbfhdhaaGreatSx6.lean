/- Regions whose order is open: one order serves, where what is only read may be taken first. -/
import Derived.Test.YtebjpeonbfhdhaaGreatSx5
set_option linter.unusedSimpArgs false
set_option linter.unusedVariables false
namespace Go.Sx
open Go

section
variable {P : Program} {ops : Array Oper} {Q : Exit → Act → World → Prop} {S0 S : World → Prop} {nS : Nat → Bool}

/-- Whatever comes up; behind each operation S0 holds, and S, where it is wanted. -/
def wpN (P : Program) (ops : Array Oper) (Q : Exit → Act → World → Prop) (S0 S : World → Prop) (nS : Nat → Bool) : Nat → Array Bool → Act → World → Prop
  | 0, listed, a, w => Region.ready .any ops listed = [] ∧ Q .normal a w
  | f + 1, listed, a, w => (Region.ready .any ops listed = [] → Q .normal a w) ∧
    ∀ i ∈ Region.ready .any ops listed, wpOp P ops Q i (fun a' w' => S0 w' ∧ (nS i = true → S w → S w') ∧ wpN P ops Q S0 S nS f (listed.setIfInBounds i true) a' w') a w
theorem wpAny_of_wpN : ∀ (f : Nat) (listed : Array Bool) (a : Act) (w : World), wpN P ops Q S0 S nS f listed a w → wpAny P .any ops Q f listed a w
  | 0, _, _, _, h => h
  | f + 1, _, _, _, h => ⟨h.1, fun i hi => wpOp_mono (fun a' w' k => wpAny_of_wpN f _ a' w' k.2.2) (h.2 i hi)⟩
/-- What B names waits till i has been. -/
def Blk (ops : Array Oper) (i : Nat) (listed : Array Bool) (B : Nat → Bool) : Prop :=
  ∀ j, B j = true → listed.getD j true = false ∧ ∀ oj, ops[j]? = some oj → ∃ e ∈ oj.after, Region.binds .any e = true ∧ (e.on = i ∨ B e.on = true)
/-- An operation that may come up now is taken first: it yields v in each world that T allows; T holds now, and goes on holding till it comes up. -/
theorem wpN_first {T : World → Prop} {i : Nat} {oi : Oper} {v : Value} (hi : ops[i]? = some oi) (hsel : ∀ (j : Nat) (o : Oper) cs b, ops[j]? = some o → o.op ≠ .select cs b)
    (hQ : ∀ c a w, Q (.panic c) (a.put oi.dst v) w → Q (.panic c) a w) :
    ∀ (f : Nat) (listed : Array Bool) (a : Act) (w : World),
      (∀ j oj, ops[j]? = some oj → j ≠ i → listed.getD j true = false → (∀ e ∈ oj.after, Region.binds .any e = true → e.on ≠ i) → oi.apart ops oj = true) →
      ((∀ w, S0 w → T w) ∨ ((∀ w, T w ↔ S w) ∧ ∃ B : Nat → Bool, Blk ops i listed B ∧ ∀ j oj, ops[j]? = some oj → j ≠ i → listed.getD j true = false → nS j = true ∨ B j = true)) →
      i ∈ Region.ready .any ops listed → YieldsIf P ops T oi v a → T w → S0 w →
      wpN P ops Q S0 S nS f (listed.setIfInBounds i true) (a.put oi.dst v) w → wpN P ops Q S0 S nS (f + 1) listed a w := by
  intro f
  induction f with
  | zero =>
    intro listed a w _ _ hr hy hT h0 H
    refine ⟨fun h => (by rw [h] at hr; cases hr), fun j hj => ?_⟩
    by_cases hji : j = i
    · subst hji; exact hy.wpOp hi hT ⟨h0, fun _ h => h, H⟩
    · have := ready_mono hj hji
      rw [H.1] at this
      cases this
  | succ f ih =>
    intro listed a w hfree hkeep hr hy hT h0 H
    refine ⟨fun h => (by rw [h] at hr; cases hr), fun j hj => ?_⟩
    by_cases hji : j = i
    · subst hji; exact hy.wpOp hi hT ⟨h0, fun _ h => h, H⟩
    · have h1 := H.2 j (ready_mono hj hji)
      obtain ⟨hjun, oj, hoj, hall⟩ := mem_ready.1 hj
      have hnot : ∀ e ∈ oj.after, Region.binds .any e = true → e.on ≠ i := fun e he hb heq => by
        have h1 := hall e he hb
        have h0 := (mem_ready.1 hr).1
        rw [heq] at h1
        rcases Nat.lt_or_ge i listed.size with h' | h'
        · simp [h'] at h0 h1; rw [h0] at h1; cases h1
        · simp [Array.getElem?_eq_none h'] at h1
      have h2 := wpOp_putIf hoj (hfree j oj hoj hji hjun hnot) (fun cs b => hsel i oi cs b hi) (fun cs b => hsel j oj cs b hoj) hQ hy h1
      have unl : ∀ k, (listed.setIfInBounds j true).getD k true = false → listed.getD k true = false := fun k hun => by
        by_cases hjk : j = k
        · subst hjk; exact hjun
        · rw [getD_set_ne true hjk] at hun; exact hun
      have hnB : ∀ B, Blk ops i listed B → B j = false := fun B hB => by
        cases hb : B j with
        | false => rfl
        | true =>
          obtain ⟨_, h⟩ := hB j hb
          obtain ⟨e, he, hbi, h⟩ := h oj hoj
          rcases h with h | h
          · exact absurd h (hnot e he hbi)
          · have h1 := hall e he hbi
            have h0 := (hB e.on h).1
            rcases Nat.lt_or_ge e.on listed.size with h' | h'
            · simp [h'] at h0 h1; rw [h0] at h1; cases h1
            · simp [Array.getElem?_eq_none h'] at h1
      have hkeep' : ((∀ w, S0 w → T w) ∨ ((∀ w, T w ↔ S w) ∧ ∃ B : Nat → Bool, Blk ops i (listed.setIfInBounds j true) B ∧ ∀ k ok, ops[k]? = some ok → k ≠ i → (listed.setIfInBounds j true).getD k true = false → nS k = true ∨ B k = true)) :=
        hkeep.imp id fun ⟨x, B, hB, y⟩ => ⟨x, B, fun k hk => by
          have hjk : j ≠ k := fun e => by subst e; rw [hnB B hB] at hk; cases hk
          refine ⟨?_, (hB k hk).2⟩
          rw [getD_set_ne true hjk]; exact (hB k hk).1, fun k ok hk hki hun => y k ok hk hki (unl k hun)⟩
      refine wpOp_mono (fun a' w' h3 => ?_) h2
      obtain ⟨hy', hS0', hS', hw'⟩ := h3
      have hT' : T w' := by
        rcases hkeep with hk | ⟨hk, hk2⟩
        · exact hk w' hS0'
        · obtain ⟨B, hB, hk2⟩ := hk2
          rcases hk2 j oj hoj hji hjun with h | h
          · exact (hk w').2 (hS' h ((hk w).1 hT))
          · rw [hnB B hB] at h; cases h
      refine ⟨hS0', hS', ih (listed.setIfInBounds j true) a' w' (fun k ok hk hki hun hno => hfree k ok hk hki (unl k hun) hno) hkeep' (ready_mono hr (Ne.symm hji)) hy' hT' hS0' ?_⟩
      rw [Array.setIfInBounds_comm _ _ hji]
      exact hw'

/-- The order that is walked. q0: an operation that needs nothing of the heap; q1: one that looks at it; br: one of those that turn it, what comes behind it, and the others that might come up in its place. -/
inductive Ord where
  | nil
  | stop
  | q0 (i : Nat) (r : Ord)
  | q1 (i : Nat) (r : Ord)
  | br (i : Nat) (r : Ord) (n : Ord)
def Ord.heads : Ord → List Nat
  | .br i _ n => i :: n.heads
  | _ => []
def Ord.len : Ord → Nat
  | .nil | .stop => 0
  | .q0 _ r | .q1 _ r | .br _ r _ => r.len + 1
/-- A guess at what waits for i. -/
def bls (ops : Array Oper) (i : Nat) (listed : Array Bool) : List Bool :=
  (List.range ops.size).foldl (fun acc j => acc ++ [!(listed.getD j true) && !(j == i) && match ops[j]? with
    | some oj => oj.after.any (fun e => Region.binds .any e && (e.on == i || acc.getD e.on false))
    | none => false]) []
def blOk (ops : Array Oper) (nS : Nat → Bool) (i : Nat) (listed : Array Bool) (l : List Bool) : Bool :=
  ((List.range l.length).all fun j => !(l.getD j false) || (!(listed.getD j true) && match ops[j]? with
    | some oj => oj.after.any (fun e => Region.binds .any e && (e.on == i || l.getD e.on false))
    | none => true)) &&
  ((List.range ops.size).all fun j => j == i || listed.getD j true || nS j || l.getD j false)
theorem blOk_spec {i : Nat} {listed : Array Bool} {l : List Bool} (h : blOk ops nS i listed l = true) :
    ∃ B : Nat → Bool, Blk ops i listed B ∧ ∀ j oj, ops[j]? = some oj → j ≠ i → listed.getD j true = false → nS j = true ∨ B j = true := by
  simp only [blOk, Bool.and_eq_true, List.all_eq_true, List.mem_range] at h
  obtain ⟨h1, h2⟩ := h
  refine ⟨fun j => l.getD j false, fun j hj => ?_, fun j oj hj hji hun => ?_⟩
  · have hlt : j < l.length := by
      rcases Nat.lt_or_ge j l.length with h | h
      · exact h
      · simp [List.getD_eq_getElem?_getD, List.getElem?_eq_none h] at hj
    have := h1 j hlt
    simp only [hj, Bool.not_true, Bool.false_or, Bool.and_eq_true, Bool.not_eq_true'] at this
    refine ⟨this.1, fun oj hoj => ?_⟩
    have h3 := this.2
    simp only [hoj, Array.any_eq_true, Bool.and_eq_true, Bool.or_eq_true, beq_iff_eq] at h3
    obtain ⟨n, hn, hb1, hb2⟩ := h3
    exact ⟨oj.after[n], Array.getElem_mem hn, hb1, hb2⟩
  · have := h2 j (Array.getElem?_eq_some_iff.1 hj).1
    simpa [hji, hun] using this
def cOk (ops : Array Oper) (nS : Nat → Bool) : Bool → Nat → Ord → Array Bool → Bool
  | _, f, .nil, listed => Nat.beq f 0 && (Region.ready .any ops listed).isEmpty
  | b, _, .stop, _ => b
  | _, f, .q0 i r, listed => (Region.ready .any ops listed).contains i && Region.free .any ops listed i && Nat.ble 1 f && cOk ops nS false (f - 1) r (listed.setIfInBounds i true)
  | _, f, .q1 i r, listed => (Region.ready .any ops listed).contains i && Region.free .any ops listed i && Nat.ble 1 f &&
      blOk ops nS i listed (bls ops i listed) && cOk ops nS false (f - 1) r (listed.setIfInBounds i true)
  | b, f, .br i r n, listed => (b || Region.ready .any ops listed == i :: n.heads) && Nat.ble 1 f && cOk ops nS false (f - 1) r (listed.setIfInBounds i true) && cOk ops nS true f n listed
def cW (P : Program) (ops : Array Oper) (Q : Exit → Act → World → Prop) (S0 S : World → Prop) (nS : Nat → Bool) : Ord → Act → World → Prop
  | .nil, a, w => Q .normal a w
  | .stop, _, _ => True
  | .q0 i r, a, w => S0 w ∧ ∃ o v, ops[i]? = some o ∧ YieldsIf P ops S0 o v a ∧ cW P ops Q S0 S nS r (a.put o.dst v) w
  | .q1 i r, a, w => S0 w ∧ S w ∧ ∃ o v, ops[i]? = some o ∧ YieldsIf P ops S o v a ∧ cW P ops Q S0 S nS r (a.put o.dst v) w
  | .br i r n, a, w => wpOp P ops Q i (fun a' w' => S0 w' ∧ (nS i = true → S w → S w') ∧ cW P ops Q S0 S nS r a' w') a w ∧ cW P ops Q S0 S nS n a w
/-- Panics lead nowhere that hangs on a slot. -/
def NoP (Q : Exit → Act → World → Prop) : Prop := ∀ c a d v w, Q (.panic c) (a.put d v) w → Q (.panic c) a w
theorem wpN_of_cW (hs : Region.noSelect ops = true) (hQ : NoP Q) : ∀ (l : Ord) (b : Bool) (f : Nat) (listed : Array Bool) (a : Act) (w : World), cOk ops nS b f l listed = true → cW P ops Q S0 S nS l a w →
    (b = false → wpN P ops Q S0 S nS f listed a w) ∧ (b = true → l.heads = l.heads ∧ ∀ i ∈ l.heads, 1 ≤ f ∧ wpOp P ops Q i (fun a' w' => S0 w' ∧ (nS i = true → S w → S w') ∧ wpN P ops Q S0 S nS (f - 1) (listed.setIfInBounds i true) a' w') a w) := by
  have hsel := Region.noSelect_spec hs
  intro l
  induction l with
  | nil =>
    intro b f listed a w hc h
    simp only [cOk, Bool.and_eq_true, List.isEmpty_iff, beq_t] at hc
    obtain ⟨rfl, hc⟩ := hc
    exact ⟨fun _ => ⟨hc, h⟩, fun _ => ⟨rfl, fun i hi => by simp [Ord.heads] at hi⟩⟩
  | stop =>
    intro b f listed a w hc h
    simp only [cOk] at hc
    exact ⟨fun e => (by rw [hc] at e; cases e), fun _ => ⟨rfl, fun i hi => by simp [Ord.heads] at hi⟩⟩
  | q0 i r ih =>
    intro b f listed a w hc h
    simp only [cOk, Bool.and_eq_true] at hc
    obtain ⟨⟨⟨h1, h2⟩, h3⟩, h4⟩ := hc
    obtain ⟨h0, o, v, hi, hy, hw⟩ := h
    have h3 := Nat.le_of_ble_eq_true h3
    obtain ⟨f', rfl⟩ : ∃ f', f = f' + 1 := ⟨f - 1, by omega⟩
    refine ⟨fun _ => ?_, fun _ => ⟨rfl, fun i hi => by simp [Ord.heads] at hi⟩⟩
    exact wpN_first (T := S0) hi hsel (fun c a w => hQ c a o.dst v w) _ listed a w (Region.free_spec hi h2) (.inl fun _ h => h) (by simpa using h1) hy h0 h0 ((ih _ _ _ _ _ h4 hw).1 rfl)
  | q1 i r ih =>
    intro b f listed a w hc h
    simp only [cOk, Bool.and_eq_true] at hc
    obtain ⟨⟨⟨⟨h1, h2⟩, h3⟩, h5⟩, h4⟩ := hc
    obtain ⟨h0, hS, o, v, hi, hy, hw⟩ := h
    have h3 := Nat.le_of_ble_eq_true h3
    obtain ⟨f', rfl⟩ : ∃ f', f = f' + 1 := ⟨f - 1, by omega⟩
    refine ⟨fun _ => ?_, fun _ => ⟨rfl, fun i hi => by simp [Ord.heads] at hi⟩⟩
    refine wpN_first (T := S) hi hsel (fun c a w => hQ c a o.dst v w) _ listed a w (Region.free_spec hi h2) (.inr ⟨fun _ => Iff.rfl, blOk_spec h5⟩) (by simpa using h1) hy hS h0 ((ih _ _ _ _ _ h4 hw).1 rfl)
  | br i r n ihr ihn =>
    intro b f listed a w hc h
    simp only [cOk, Bool.and_eq_true] at hc
    obtain ⟨⟨⟨h1, h2⟩, h3⟩, h4⟩ := hc
    obtain ⟨k1, k2⟩ := h
    have h2 := Nat.le_of_ble_eq_true h2
    have hall : ∀ j ∈ (Ord.br i r n).heads, 1 ≤ f ∧ wpOp P ops Q j (fun a' w' => S0 w' ∧ (nS j = true → S w → S w') ∧ wpN P ops Q S0 S nS (f - 1) (listed.setIfInBounds j true) a' w') a w := by
      intro j hj
      simp only [Ord.heads, List.mem_cons] at hj
      rcases hj with rfl | hj
      · exact ⟨h2, wpOp_mono (fun a' w' k => ⟨k.1, k.2.1, (ihr _ _ _ _ _ h3 k.2.2).1 rfl⟩) k1⟩
      · exact ((ihn _ _ _ _ _ h4 k2).2 rfl).2 j hj
    refine ⟨fun e => ?_, fun _ => ⟨rfl, hall⟩⟩
    subst e
    simp only [Bool.false_or, beq_iff_eq] at h1
    obtain ⟨f', rfl⟩ : ∃ f', f = f' + 1 := ⟨f - 1, by omega⟩
    refine ⟨fun h0 => (by rw [h1] at h0; cases h0), fun j hj => ?_⟩
    rw [h1] at hj
    exact (hall j (by simpa [Ord.heads] using hj)).2
end

section
variable {P : Program} {E : En} {N : Nat} {K : Kl} {Hs HsS : List Asn} {Q : Exit → Act → World → Prop} {ops : Array Oper} {nS : Nat → Bool} {r : Ord}
theorem At.draw {i : Nat} {l : List Oper} (ord : Ord) (nS : Nat → Bool) (HsS : List Asn) (hm : P.follows .mixedOrders = true) (hs : Region.noSelect l.toArray = true) (hc : cOk l.toArray nS false l.length ord (Array.replicate l.length false) = true) (hQ : NoP Q)
    (h : At E N K Hs (cW P l.toArray Q (St E []) (St E HsS) nS ord)) : At E N K Hs ((Code.region i l.toArray true).wp P Q) := fun a w hk hst => by
  refine wp_region_any hm ?_
  have h1 := h a _ hk hst.drawn
  have h2 := wpAny_of_wpN _ _ _ _ ((wpN_of_cW hs hQ ord _ _ (Array.replicate l.length false) a _ hc h1).1 rfl)
  simpa using h2
theorem At.drawH {i : Nat} {l : List Oper} (ord : Ord) (nS : Nat → Bool) (hm : P.follows .mixedOrders = true) (hs : Region.noSelect l.toArray = true) (hc : cOk l.toArray nS false l.length ord (Array.replicate l.length false) = true) (hQ : NoP Q)
    (h : At E N K Hs (cW P l.toArray Q (St E []) (St E Hs) nS ord)) : At E N K Hs ((Code.region i l.toArray true).wp P Q) := At.draw ord nS Hs hm hs hc hQ h
theorem At.c0 {i d : Nat} {op : Op} {t : TypeId} {pos : String} {af : Array Edge} {v : Value} (hi : ops[i]? = some ⟨some d, op, t, pos, af, none⟩) (hv : Ev P E N K none [] op t v) (hd : Nat.blt d N = true)
    (h : At E N ((d, .val v) :: K) Hs (cW P ops Q (St E []) (St E HsS) nS r)) : At E N K Hs (cW P ops Q (St E []) (St E HsS) nS (.q0 i r)) := fun a w hk hst =>
  ⟨Imp.nil Hs E w hst, _, v, hi, .inl ⟨rfl, fun w' hw' => hv a w' hk (Gd.none a) hw' _ _ _ _⟩, h _ w (hk.put hd v) hst⟩
theorem At.c1 {i d : Nat} {op : Op} {t : TypeId} {pos : String} {af : Array Edge} {v : Value} (hi : ops[i]? = some ⟨some d, op, t, pos, af, none⟩) (hS : Imp Hs HsS) (hv : Ev P E N K none HsS op t v) (hd : Nat.blt d N = true)
    (h : At E N ((d, .val v) :: K) Hs (cW P ops Q (St E []) (St E HsS) nS r)) : At E N K Hs (cW P ops Q (St E []) (St E HsS) nS (.q1 i r)) := fun a w hk hst =>
  ⟨Imp.nil Hs E w hst, hS E w hst, _, v, hi, .inl ⟨rfl, fun w' hw' => hv a w' hk (Gd.none a) hw' _ _ _ _⟩, h _ w (hk.put hd v) hst⟩
theorem yieldsIf_guard {T : World → Prop} {o : Oper} {a : Act} {s j d : Nat} {b p : Bool} {v : Value} (hg : o.guard = some (j, b)) (hd : o.dst = some d) (hk : Kn N K a) (hj : (ops[j]?).bind (·.dst) = some s) (hp : fv K s = some (.bool p)) (hlt : Nat.blt d N = true) (hds : Nat.beq d s = false)
    (hv : p = b → Gd (some (s, b)) a → ∀ w, T w → (execOp a.eval o).run P w = .ok (.value v) w) : ∃ u, YieldsIf P ops T o u a ∧ Kn N ((d, .gd s b v) :: K) (a.put o.dst u) := by
  have hsl := hk.v s _ hp
  have hy := yielded_slot hj hsl
  by_cases e : p = b
  · subst e
    have hgd : Gd (some (s, p)) a := by intro s' b' h; cases h; exact hsl
    refine ⟨v, .inl ⟨by simp [Region.wanted, hg, hy], hv rfl hgd⟩, by rw [hd]; exact hk.putg hlt hds (.inl ⟨hsl, rfl⟩)⟩
  · refine ⟨undef, .inr ⟨by simpa [Region.wanted, hg, hy] using e, rfl⟩, by rw [hd]; exact hk.putg hlt hds (.inr ⟨fun h' => e (by rw [hsl] at h'; injection h'), rfl⟩)⟩
theorem At.c0g {i d s j : Nat} {b p : Bool} {op : Op} {t : TypeId} {pos : String} {af : Array Edge} {v : Value} (hi : ops[i]? = some ⟨some d, op, t, pos, af, some (j, b)⟩) (hj : (ops[j]?).bind (·.dst) = some s) (hp : fv K s = some (.bool p))
    (hv : p = b → Ev P E N K (some (s, b)) [] op t v) (hd : Nat.blt d N = true) (hds : Nat.beq d s = false)
    (h : At E N ((d, .gd s b v) :: K) Hs (cW P ops Q (St E []) (St E HsS) nS r)) : At E N K Hs (cW P ops Q (St E []) (St E HsS) nS (.q0 i r)) := fun a w hk hst => by
  obtain ⟨u, hy, hk'⟩ := yieldsIf_guard (P := P) (T := St E []) (v := v) (o := ⟨some d, op, t, pos, af, some (j, b)⟩) rfl rfl hk hj hp hd hds (fun e hg w hw => hv e a w hk hg hw _ _ _ _)
  exact ⟨Imp.nil Hs E w hst, _, u, hi, hy, h _ w hk' hst⟩
theorem At.c1g {i d s j : Nat} {b p : Bool} {op : Op} {t : TypeId} {pos : String} {af : Array Edge} {v : Value} (hi : ops[i]? = some ⟨some d, op, t, pos, af, some (j, b)⟩) (hS : Imp Hs HsS) (hj : (ops[j]?).bind (·.dst) = some s) (hp : fv K s = some (.bool p))
    (hv : p = b → Ev P E N K (some (s, b)) HsS op t v) (hd : Nat.blt d N = true) (hds : Nat.beq d s = false)
    (h : At E N ((d, .gd s b v) :: K) Hs (cW P ops Q (St E []) (St E HsS) nS r)) : At E N K Hs (cW P ops Q (St E []) (St E HsS) nS (.q1 i r)) := fun a w hk hst => by
  obtain ⟨u, hy, hk'⟩ := yieldsIf_guard (P := P) (T := St E HsS) (v := v) (o := ⟨some d, op, t, pos, af, some (j, b)⟩) rfl rfl hk hj hp hd hds (fun e hg w hw => hv e a w hk hg hw _ _ _ _)
  exact ⟨Imp.nil Hs E w hst, hS E w hst, _, u, hi, hy, h _ w hk' hst⟩
/-- One that turns the heap: it is walked as the only one of a region, with what follows behind it. -/
def cN (E : En) (HsS : List Asn) (b : Bool) (w0 : World) (G : Act → World → Prop) : Act → World → Prop := fun a w => St E [] w ∧ (b = true → St E HsS w0 → St E HsS w) ∧ G a w
theorem At.c2 {i : Nat} {o : Oper} {n : Ord} (hi : ops[i]? = some o)
    (h : ∀ w0, At E N K Hs (opsW P ops (fun e => match e with | .normal => cN E HsS (nS i) w0 (cW P ops Q (St E []) (St E HsS) nS r) | e => Q e) [o]))
    (hn : At E N K Hs (cW P ops Q (St E []) (St E HsS) nS n)) : At E N K Hs (cW P ops Q (St E []) (St E HsS) nS (.br i r n)) := fun a w hk hst => by
  refine ⟨?_, hn a w hk hst⟩
  have := h w a w hk hst
  show wpOp P ops Q i _ a w
  unfold wpOp
  simp only [hi]
  simp only [opsW] at this
  split
  · rename_i hw
    rw [if_pos hw] at this
    refine .inl ?_
    generalize hr : (execOp a.eval o).run P w = res at *
    unfold Oper.wp at this ⊢
    rw [hr] at this ⊢
    cases res with
    | ok n w' =>
      cases n <;> simp only [Oper.upon] at this ⊢ <;>
        first
          | exact this
          | exact Calls.mono this (fun e w'' he => by cases e <;> first | exact he | exact he)
    | halt x w' => cases x <;> simp only [Oper.upon] at this ⊢ <;> exact this
  · rename_i hw
    rw [if_neg hw] at this
    exact this
theorem At.cstop : At E N K Hs (cW P ops Q (St E []) (St E HsS) nS .stop) := fun _ _ _ _ => trivial
theorem At.cn {b : Bool} {w0 : World} {G : Act → World → Prop} (hS : b = true → Imp Hs HsS) (h : At E N K Hs G) : At E N K Hs (cN E HsS b w0 G) := fun a w hk hst =>
  ⟨Imp.nil Hs E w hst, fun e _ => hS e E w hst, h a w hk hst⟩
theorem At.cnil (h : At E N K Hs (Q .normal)) : At E N K Hs (cW P ops Q (St E []) (St E HsS) nS .nil) := h
theorem NoP.body {fn : Func} {post : Value → Asn} : NoP (bodyPost P fn (Fin post E)) := fun c a d v w h => by
  obtain ⟨_, v, e, _⟩ := h
  cases e
theorem NoP.thn {G : Act → World → Prop} (h : NoP Q) : NoP (Exit.then G Q) := fun c a d v w k => h c a d v w k
theorem NoP.blk {i : Nat} (h : NoP Q) : NoP (Exit.inBlock i Q) := fun c a d v w k => h c a d v w k
end
end Go.Sx
