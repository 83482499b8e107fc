/- Guards within guards; slices of slices; structs held against each other. -/
import Derived.Test.YtebjpeonbfhdhaaGreatSx8
set_option linter.unusedSimpArgs false
set_option linter.unusedVariables false
namespace Go.Sx
open Go

/-- The guard's slot s: whether something lies there at all (l), and what (p). -/
inductive Lv (K : Kl) : Nat → Bool → Bool → Prop
  | base {s : Nat} {p : Bool} (h : fv K s = some (.bool p)) : Lv K s true p
  | nest {s s' : Nat} {b' p p' l' : Bool} (h : fd K s = some (s', b', .bool p)) (k : Lv K s' l' p') : Lv K s (l' && (p' == b')) p
theorem Lv.slot {N : Nat} {K : Kl} {a : Act} (hk : Kn N K a) {s : Nat} {l p : Bool} (h : Lv K s l p) : (l = true ∧ slot a s = .bool p) ∨ (l = false ∧ slot a s = undef) := by
  induction h with
  | base h => exact .inl ⟨rfl, hk.v _ _ h⟩
  | nest h k ih =>
    rename_i s s' b' p p' l'
    have hd := hk.d _ _ _ _ h
    rcases ih with ⟨e, h1⟩ | ⟨e, h1⟩
    · subst e
      by_cases e2 : p' = b'
      · subst e2
        rcases hd with ⟨_, h2⟩ | ⟨h2, _⟩
        · exact .inl ⟨by simp, h2⟩
        · exact absurd h1 h2
      · rcases hd with ⟨h2, _⟩ | ⟨_, h2⟩
        · rw [h1] at h2; injection h2 with h2; exact absurd h2 e2
        · exact .inr ⟨by simpa using e2, h2⟩
    · subst e
      rcases hd with ⟨h2, _⟩ | ⟨_, h2⟩
      · rw [h1] at h2; simp [undef] at h2
      · exact .inr ⟨by simp, h2⟩
theorem yielded_undef {ops : Array Oper} {a : Act} {j s : Nat} (hj : (ops[j]?).bind (·.dst) = some s) (h : slot a s = undef) : yielded ops a.tmps j = none := by
  unfold yielded
  rw [hj]
  simp only [Option.bind_some]
  cases hc : a.tmps[s]? with
  | none => rfl
  | some v =>
    unfold slot at h
    simp only [Array.getD_eq_getD_getElem?, hc, Option.getD_some] at h
    subst h; rfl

section
variable {P : Program} {E : En} {N : Nat} {K : Kl} {g : Option (Nat × Bool)} {Hs : List Asn} {ty : TypeId} {Q : Exit → Act → World → Prop} {ops : Array Oper} {rest : List Oper} {pos : String} {af : Array Edge} {G : Act → World → Prop}

/-- The guard holds just where the slot does. -/
theorem wantedL {a : Act} {o : Oper} {j s : Nat} {b l p : Bool} (hk : Kn N K a) (ho : o.guard = some (j, b)) (hj : (ops[j]?).bind (·.dst) = some s) (hl : Lv K s l p) :
    (l = true ∧ p = b ∧ slot a s = .bool b ∧ Region.wanted o (yielded ops a.tmps) = true) ∨ ((l = false ∨ p ≠ b) ∧ slot a s ≠ .bool b ∧ Region.wanted o (yielded ops a.tmps) = false) := by
  rcases hl.slot hk with ⟨h1, h2⟩ | ⟨h1, h2⟩
  · have hy := yielded_slot hj h2
    by_cases e : p = b
    · subst e; exact .inl ⟨h1, rfl, h2, by simp [Region.wanted, ho, hy]⟩
    · exact .inr ⟨.inr e, fun h => e (by rw [h2] at h; injection h), by simpa [Region.wanted, ho, hy] using e⟩
  · have hy := yielded_undef hj h2
    exact .inr ⟨.inl h1, by rw [h2]; simp [undef], by simp [Region.wanted, ho, hy]⟩
theorem At.evG {d s j : Nat} {b l p : Bool} {op : Op} {t : TypeId} {v : Value}
    (hj : (ops[j]?).bind (·.dst) = some s) (hl : Lv K s l p) (hv : l = true → p = b → Ev P E N K (some (s, b)) Hs op t v) (hd : Nat.blt d N = true) (hds : Nat.beq d s = false)
    (h : At E N ((d, .gd s b v) :: K) Hs (opsW P ops Q rest)) : At E N K Hs (opsW P ops Q (⟨some d, op, t, pos, af, some (j, b)⟩ :: rest)) := fun a w hk hs => by
  rcases wantedL (o := ⟨some d, op, t, pos, af, some (j, b)⟩) hk rfl hj hl with ⟨h1, h2, h3, h4⟩ | ⟨_, h3, h4⟩
  · simp only [opsW, h4, if_true]
    have hg : Gd (some (s, b)) a := by intro s' b' h; cases h; exact h3
    have hr := hv h1 h2 a w hk hg hs (some d) pos af (some (j, b))
    simp only [Oper.wp, hr, Oper.upon]
    exact h _ w (hk.putg hd hds (.inl ⟨h3, rfl⟩)) hs
  · simp only [opsW, h4, Bool.false_eq_true, if_false]
    exact h _ w (hk.putg hd hds (.inr ⟨h3, rfl⟩)) hs
theorem At.callG {d s j : Nat} {b l p : Bool} {op : Op} {t : TypeId} {f : FuncId} {vs : List Value} {r : Value}
    (hj : (ops[j]?).bind (·.dst) = some s) (hl : Lv K s l p) (hg : l = true → p = b → Goes P K N (some (s, b)) op t f vs) (hc : l = true → p = b → Qc P Hs f vs r) (hd : Nat.blt d N = true) (hds : Nat.beq d s = false)
    (h : At E N ((d, .gd s b r) :: K) Hs (opsW P ops Q rest)) : At E N K Hs (opsW P ops Q (⟨some d, op, t, pos, af, some (j, b)⟩ :: rest)) := fun a w hk hst => by
  rcases wantedL (o := ⟨some d, op, t, pos, af, some (j, b)⟩) hk rfl hj hl with ⟨h1, h2, h3, h4⟩ | ⟨_, h3, h4⟩
  · simp only [opsW, h4, if_true]
    have hgd : Gd (some (s, b)) a := by intro s' b' h; cases h; exact h3
    have hr := hg h1 h2 a w hk hgd (some d) pos af (some (j, b))
    simp only [Oper.wp, hr, Oper.upon]
    refine (hc h1 h2 E w hst).mono ?_
    rintro e w' ⟨rfl, hv⟩
    exact h _ w' (hk.putg hd hds (.inl ⟨h3, rfl⟩)) hv
  · simp only [opsW, h4, Bool.false_eq_true, if_false]
    exact h _ w (hk.putg hd hds (.inr ⟨h3, rfl⟩)) hst
theorem yieldsIf_guardL {T : World → Prop} {o : Oper} {a : Act} {s j d : Nat} {b l p : Bool} {v : Value} (hg : o.guard = some (j, b)) (hd : o.dst = some d) (hk : Kn N K a) (hj : (ops[j]?).bind (·.dst) = some s) (hl : Lv K s l p) (hlt : Nat.blt d N = true) (hds : Nat.beq d s = false)
    (hv : l = true → p = b → Gd (some (s, b)) a → ∀ w, T w → (execOp a.eval o).run P w = .ok (.value v) w) : ∃ u, YieldsIf P ops T o u a ∧ Kn N ((d, .gd s b v) :: K) (a.put o.dst u) := by
  rcases wantedL (o := o) hk hg hj hl with ⟨h1, h2, h3, h4⟩ | ⟨_, h3, h4⟩
  · have hgd : Gd (some (s, b)) a := by intro s' b' h; cases h; exact h3
    exact ⟨v, .inl ⟨h4, hv h1 h2 hgd⟩, by rw [hd]; exact hk.putg hlt hds (.inl ⟨h3, rfl⟩)⟩
  · exact ⟨undef, .inr ⟨h4, rfl⟩, by rw [hd]; exact hk.putg hlt hds (.inr ⟨h3, rfl⟩)⟩
variable {HsS : List Asn} {nS : Nat → Bool} {r : Ord}
theorem At.c0G {i d s j : Nat} {b l p : Bool} {op : Op} {t : TypeId} {v : Value} (hi : ops[i]? = some ⟨some d, op, t, pos, af, some (j, b)⟩) (hj : (ops[j]?).bind (·.dst) = some s) (hl : Lv K s l p)
    (hv : l = true → p = b → Ev P E N K (some (s, b)) [] op t v) (hd : Nat.blt d N = true) (hds : Nat.beq d s = false)
    (h : At E N ((d, .gd s b v) :: K) Hs (cW P ops Q (St E []) (St E HsS) nS r)) : At E N K Hs (cW P ops Q (St E []) (St E HsS) nS (.q0 i r)) := fun a w hk hst => by
  obtain ⟨u, hy, hk'⟩ := yieldsIf_guardL (P := P) (T := St E []) (v := v) (o := ⟨some d, op, t, pos, af, some (j, b)⟩) rfl rfl hk hj hl hd hds (fun e1 e hg w hw => hv e1 e a w hk hg hw _ _ _ _)
  exact ⟨Imp.nil Hs E w hst, _, u, hi, hy, h _ w hk' hst⟩
theorem At.c1G {i d s j : Nat} {b l p : Bool} {op : Op} {t : TypeId} {v : Value} (hi : ops[i]? = some ⟨some d, op, t, pos, af, some (j, b)⟩) (hS : Imp Hs HsS) (hj : (ops[j]?).bind (·.dst) = some s) (hl : Lv K s l p)
    (hv : l = true → p = b → Ev P E N K (some (s, b)) HsS op t v) (hd : Nat.blt d N = true) (hds : Nat.beq d s = false)
    (h : At E N ((d, .gd s b v) :: K) Hs (cW P ops Q (St E []) (St E HsS) nS r)) : At E N K Hs (cW P ops Q (St E []) (St E HsS) nS (.q1 i r)) := fun a w hk hst => by
  obtain ⟨u, hy, hk'⟩ := yieldsIf_guardL (P := P) (T := St E HsS) (v := v) (o := ⟨some d, op, t, pos, af, some (j, b)⟩) rfl rfl hk hj hl hd hds (fun e1 e hg w hw => hv e1 e a w hk hg hw _ _ _ _)
  exact ⟨Imp.nil Hs E w hst, hS E w hst, _, u, hi, hy, h _ w hk' hst⟩
/-- A choice under a guard. -/
theorem ev_pickG {c x y : Operand} {cs : Nat} {p q r : Bool} (hc : opv K g c = some (.bool p)) (hcs : c = .tmp cs) (ha : opv K (some (cs, true)) x = some (.bool q)) (hb : opv K (some (cs, false)) y = some (.bool r)) :
    Ev P E N K g Hs (.pick c x y) ty (.bool (bif p then q else r)) := fun ac w hk hg _ d pos af gd => by
  have e1 := opv_eval hk hg hc
  have hsl : slot ac cs = .bool p := by subst hcs; exact e1
  have : (asBool (Value.bool p)).run P w = .ok p w := rfl
  simp only [execOp, e1, Sem.run_bind, this, Result.andThen_ok, Sem.run_pure]
  cases p with
  | true =>
    have := opv_eval (g := some (cs, true)) hk (by intro s b h; cases h; exact hsl) ha
    simp [this]
  | false =>
    have := opv_eval (g := some (cs, false)) hk (by intro s b h; cases h; exact hsl) hb
    simp [this]

/-! ### Slices of slices -/
def slAt (ao : Option Addr) (c l sz : Nat) : Option Addr := if c = l then ao else ao.map (·.add (l * sz))
theorem ev_slsl {x : Operand} {t e sz l h n c n' c' : Nat} {ao : Option Addr} {lo hi : Option Operand} (hu : UN P t (.slice e)) (hz : SZ P e sz) (hx : opv K g x = some (.slice ao n c))
    (hl : match lo with | none => l = 0 | some o => opv K g o = some (.int .i64 l)) (hh : match hi with | none => h = n | some o => opv K g o = some (.int .i64 h)) (h1 : l ≤ h) (h2 : hi = none ∨ h ≤ c) (hn : n' = h - l) (hc : c' = c - l) :
    Ev P E N K g Hs (.slice t x lo hi none) ty (.slice (slAt ao c l sz) n' c') := fun a w hk hg _ d pos af gd => by
  subst hn hc
  have key : ∀ (lv hv : Option Value), (match lv with | none => l = 0 | some v => v = .int .i64 l) → (match hv with | none => h = n | some v => v = .int .i64 h ∧ h ≤ c) →
      (Instr.sliceAt t (.slice ao n c) lv hv none).run P w = .ok (.slice (slAt ao c l sz) (h - l) (c - l)) w := by
    intro lv hv a1 a2
    simp only [Instr.sliceAt, Sem.run_bind, hu.run, Result.andThen_ok, Instr.slice]
    cases lv <;> cases hv <;> simp only at a1 a2
    · subst a1 a2
      simp [Instr.sliceBounds, hz w, slAt]
    · subst a1; obtain ⟨rfl, a2⟩ := a2
      simp [Instr.sliceBounds, Instr.sliceBound, asIntOf, hz w, slAt, a2]
    · subst a1 a2
      simp [Instr.sliceBounds, Instr.sliceBound, asIntOf, hz w, slAt, h1]
    · subst a1; obtain ⟨rfl, a2⟩ := a2
      simp [Instr.sliceBounds, Instr.sliceBound, asIntOf, hz w, slAt, h1, a2]
  have := key (lo.map a.eval) (hi.map a.eval) (by
    cases lo with
    | none => exact hl
    | some o => exact opv_eval hk hg hl) (by
    cases hi with
    | none => exact hh
    | some o => exact ⟨opv_eval hk hg hh, by simpa using h2⟩)
  simp only [execOp, opv_eval hk hg hx, Sem.run_bind, Option.map_none, this]; rfl
variable {α : Type} [Rep α]
theorem rdSl_part {R : Hp} {ao : Option Addr} {xs : List α} {c l h : Nat} (k : (rdSl ao xs).holds R) (hc : xs.length ≤ c) (hh : h ≤ xs.length) : (rdSl (slAt ao c l (Rep.sz α)) ((xs.take h).drop l)).holds R := by
  refine ⟨by simp; have := k.1; omega, fun hp => ?_⟩
  simp at hp
  obtain ⟨ad, rfl, k2⟩ := k.2 (by omega)
  have hne : ¬ (c = l) := by omega
  refine ⟨ad.add (l * Rep.sz α), by simp [slAt, hne], fun i x hx => ?_⟩
  have hx' : xs[l + i]? = some x := by
    rw [List.getElem?_drop] at hx
    rw [List.getElem?_take] at hx
    split at hx
    · exact hx
    · cases hx
  obtain ⟨cs, h1, h2⟩ := k2 (l + i) x hx'
  refine ⟨cs, h1, ?_⟩
  have hsp : ad.spot = none := by
    obtain ⟨x0, hx0⟩ : ∃ x, xs[0]? = some x := ⟨xs[0]'(by omega), by simp⟩
    obtain ⟨_, _, hs, _⟩ := k2 0 x0 hx0
    simpa [Addr.add] using hs
  rw [add_add ad hsp, ← Nat.add_mul]
  exact h2
theorem At.part {ao : Option Addr} {xs : List α} (c l h : Nat) (n : Nat) (hn : n = Rep.sz α) (hm : Mem (per (rdSl ao xs)) Hs) (hc : xs.length ≤ c) (hh : h ≤ xs.length)
    (k : At E N K (per (rdSl (slAt ao c l n) ((xs.take h).drop l)) :: Hs) G) : At E N K Hs G := fun a w hk hs => by
  subst hn
  exact k a w hk (hs.perMap hm fun R hR => rdSl_part hR hc hh)

/-! ### Structs held against each other -/
def EQk (P : Program) (k : Nat) (t : TypeId) (u v : Value) (r : Bool) : Prop := ∀ d w, (Op.equalIn (d + k) t u v).run P w = .ok r w
theorem EQ.up {t : TypeId} {u v : Value} {r : Bool} (h : EQ P t u v r) (k : Nat) : EQk P (k + 1) t u v r := fun d w => by
  have := h (d + k) w; rwa [Nat.add_assoc] at this
theorem EQk.up {t k : Nat} {u v : Value} {r : Bool} (h : EQk P k t u v r) : EQk P (k + 1) t u v r := fun d w => by
  have := h (d + 1) w; rwa [Nat.add_assoc, Nat.add_comm 1 k] at this
def PA (P : Program) (t : TypeId) (cs : List Value) (off : Nat) (u : Value) : Prop := ∀ w, (part t cs.toArray off).run P w = .ok u w
theorem PA.one {t off : Nat} {d : TypeDesc} {cs : List Value} {v : Value} (h : UN P t d) (hd : d.isRow = false) (hc : cs[off]? = some v) : PA P t cs off v := fun w => by
  have hagg : (isAgg t).run P w = .ok false w := by
    unfold isAgg
    rw [Sem.run_bind, h.run]
    cases d <;> simp_all
  simp [part, Sem.run_bind, hagg, hc]
theorem PA.agg {t off n : Nat} {d : TypeDesc} {cs : List Value} (vs : List Value) (h : UN P t d) (hd : d.isRow = true) (hs : SZ P t n) (hv : (cs.drop off).take n = vs) : PA P t cs off (.agg vs.toArray) := fun w => by
  have hagg : (isAgg t).run P w = .ok true w := by
    unfold isAgg
    rw [Sem.run_bind, h.run]
    cases d <;> simp_all
  subst hv
  have e : cs.toArray.extract off (off + n) = ((cs.drop off).take n).toArray := by
    apply Array.ext'; simp [List.extract_eq_take_drop]
  simp [part, Sem.run_bind, hagg, hs w, e]
inductive FQ (P : Program) (k : Nat) (xs ys : List Value) : List Field → Bool → Prop
  | nil : FQ P k xs ys [] true
  | cons {f : Field} {fs : List Field} {u v : Value} {b r : Bool} (hn : f.name ≠ "_") (hu : PA P f.type xs f.offset u) (hv : PA P f.type ys f.offset v) (h : EQk P k f.type u v b) (hr : FQ P k xs ys fs r) : FQ P k xs ys (f :: fs) (b && r)
theorem EQk.struct {t k : Nat} {fs : Array Field} {xs ys : List Value} {r : Bool} (hu : UN P t (.struct fs)) (hst : P.stoodInHeld t = false) (h : FQ P k xs ys fs.toList r) : EQk P (k + 1) t (.agg xs.toArray) (.agg ys.toArray) r := fun d w => by
  rw [← Nat.add_assoc]
  simp only [Op.equalIn, Sem.run_bind, hu.run, Result.andThen_ok]
  have hp : (program : Sem Program).run P w = .ok P w := rfl
  simp only [hp, Result.andThen_ok, hst, Bool.false_eq_true, if_false]
  obtain ⟨l, rfl⟩ : ∃ l : List Field, fs = l.toArray := ⟨fs.toList, by simp⟩
  simp only [List.forIn_toArray] at h ⊢
  clear hu
  rw [Sem.run_bind]
  have key : ∀ (l : List Field) (r : Bool), FQ P k xs ys l r → (forIn l ((none, ()) : Option Bool × Unit) (fun f __s => if f.name ≠ "_" then do
                let a ← part f.type xs.toArray f.offset
                let b ← part f.type ys.toArray f.offset
                let e ← Op.equalIn (d + k) f.type a b
                if (!e) = true then pure (ForInStep.done (some false, ()))
                  else pure (ForInStep.yield (none, ()))
              else pure (ForInStep.yield (none, ())) : Field → Option Bool × Unit → Sem (ForInStep (Option Bool × Unit)))).run P w = .ok (if r then (none, ()) else (some false, ())) w := by
    intro l r h
    induction h with
    | nil => rfl
    | cons hn hu hv hq hr ih =>
      rename_i f fs u v b r
      rw [List.forIn_cons]
      simp only [ne_eq, hn, not_false_eq_true, if_true, Sem.run_bind, hu w, hv w, hq d w, Result.andThen_ok]
      cases b
      · simp
      · simp only [Bool.not_true, Bool.false_eq_true, if_false, Sem.run_pure, Result.andThen_ok, Bool.true_and]
        exact ih
  have h0 := key l r h
  rw [h0]
  cases r <;> rfl
theorem ev_eqS {k : Nat} {x y : Operand} {t t' : TypeId} {us vs : List Value} {b : Bool} (hx : opv K g x = some (.agg us.toArray)) (hy : opv K g y = some (.agg vs.toArray)) (hq : EQk P k t (.agg us.toArray) (.agg vs.toArray) b) (hk : Nat.ble k 10000 = true) (hg : P.eqGuardType P.depth t = false) : Ev P E N K g Hs (.binOp .eql t x y t') ty (.bool b) := ev_bin hx hy fun w => by
  have := hq (10000 - k) w
  rw [Nat.sub_add_cancel (Nat.le_of_ble_eq_true hk)] at this
  have h2 : (Op.equal t (.agg us.toArray) (.agg vs.toArray)).run P w = .ok b w := this
  simp [eqGuard, binOp, h2, hg, Sem.run_bind]
theorem ev_neS {k : Nat} {x y : Operand} {t t' : TypeId} {us vs : List Value} {b : Bool} (hx : opv K g x = some (.agg us.toArray)) (hy : opv K g y = some (.agg vs.toArray)) (hq : EQk P k t (.agg us.toArray) (.agg vs.toArray) b) (hk : Nat.ble k 10000 = true) (hg : P.eqGuardType P.depth t = false) : Ev P E N K g Hs (.binOp .neq t x y t') ty (.bool (!b)) := ev_bin hx hy fun w => by
  have := hq (10000 - k) w
  rw [Nat.sub_add_cancel (Nat.le_of_ble_eq_true hk)] at this
  have h2 : (Op.equal t (.agg us.toArray) (.agg vs.toArray)).run P w = .ok b w := this
  simp [eqGuard, binOp, h2, hg, Sem.run_bind]
end
end Go.Sx
