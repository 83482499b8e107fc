/- Maps with int64 keys. -/
import Derived.Test.YtebjpeonbfhdhaaGreatSx7
import Derived.MapKept
set_option linter.unusedSimpArgs false
set_option linter.unusedVariables false
namespace Go.Sx
open Go Go.MapKept

def mfind : List (Int × Value) → Int → Option (Nat × Value)
  | [], _ => none
  | (j, v) :: m, k => if k = j then some (0, v) else (mfind m k).map (fun p => (p.1 + 1, p.2))
def mget (m : List (Int × Value)) (k : Int) : Option Value := (mfind m k).map (·.2)
def mset : List (Int × Value) → Int → Value → List (Int × Value)
  | [], k, v => [(k, v)]
  | (j, u) :: m, k, v => if k = j then (j, v) :: m else (j, u) :: mset m k v
def mdel : List (Int × Value) → Int → List (Int × Value)
  | [], _ => []
  | (j, u) :: m, k => if k = j then m else (j, u) :: mdel m k
theorem mset_none {m : List (Int × Value)} {k : Int} (h : mfind m k = none) (v : Value) : mset m k v = m ++ [(k, v)] := by
  induction m with
  | nil => rfl
  | cons p m ih =>
    obtain ⟨j, u⟩ := p
    by_cases e : k = j
    · simp [mfind, e] at h
    · simp [mfind, e] at h; simp [mset, e, ih h]
theorem mset_some {m : List (Int × Value)} {k : Int} {i : Nat} {u : Value} (h : mfind m k = some (i, u)) (v : Value) : mset m k v = m.set i (k, v) ∧ m[i]? = some (k, u) := by
  induction m generalizing i with
  | nil => simp [mfind] at h
  | cons p m ih =>
    obtain ⟨j, u'⟩ := p
    by_cases e : k = j
    · subst e; simp [mfind] at h; obtain ⟨rfl, rfl⟩ := h; simp [mset]
    · simp [mfind, e] at h
      obtain ⟨a, h1, rfl⟩ := h
      have := ih h1
      simp [mset, e, this.1, this.2]
theorem mdel_none {m : List (Int × Value)} {k : Int} (h : mfind m k = none) : mdel m k = m := by
  induction m with
  | nil => rfl
  | cons p m ih =>
    obtain ⟨j, u⟩ := p
    by_cases e : k = j
    · simp [mfind, e] at h
    · simp [mfind, e] at h; simp [mdel, e, ih h]
theorem mdel_some {m : List (Int × Value)} {k : Int} {i : Nat} {u : Value} (h : mfind m k = some (i, u)) : mdel m k = m.eraseIdx i := by
  induction m generalizing i with
  | nil => simp [mfind] at h
  | cons p m ih =>
    obtain ⟨j, u'⟩ := p
    by_cases e : k = j
    · subst e; simp [mfind] at h; obtain ⟨rfl, rfl⟩ := h; simp [mdel]
    · simp [mfind, e] at h
      obtain ⟨a, h1, rfl⟩ := h
      simp [mdel, e, ih h1]

def ents (l : List MapEntry) (m : List (Int × Value)) : Prop := l.map (fun e => (e.key, e.val)) = m.map (fun q => (Value.int .i64 q.1, q.2))
/-- The map's object: its entries, in the order in which they came. -/
def mp (b : Nat) (m : List (Int × Value)) : Asn := ex fun p : List MapEntry × Nat => star (pur (ents p.1 m)) (pt b (.map p.1.toArray p.2))
theorem Imp.mp {b : Nat} {m : List (Int × Value)} {es : List MapEntry} {c : Nat} {l : List Asn} (h : ents es m) : Imp (pt b (.map es.toArray c) :: l) (Sx.mp b m :: l) :=
  Imp.ex (es, c) (Imp.star (Imp.pur h (Imp.refl _)))

theorem findNow_ents {l : List MapEntry} {m : List (Int × Value)} (h : ents l m) (k : Int) (kk : IntKind) : ∀ i, Instr.findNow (.int kk) (.int .i64 k) l i = some ((mfind m k).map fun p => (i + p.1, p.2)) := by
  induction l generalizing m with
  | nil =>
    intro i
    cases m with
    | nil => rfl
    | cons => simp [ents] at h
  | cons e l ih =>
    intro i
    cases m with
    | nil => simp [ents] at h
    | cons q m =>
      obtain ⟨j, v⟩ := q
      simp only [ents, List.map_cons, List.cons.injEq, Prod.mk.injEq] at h
      obtain ⟨⟨h1, h2⟩, h3⟩ := h
      by_cases hk : k = j
      · subst hk
        simp [Instr.findNow, Instr.sameNow, h1, mfind, h2]
      · simp only [Instr.findNow, Instr.sameNow, h1, if_true, mfind, if_neg hk]
        have : (k == j) = false := by simpa using hk
        simp only [this]
        rw [ih h3 (i + 1)]
        cases mfind m k with
        | none => rfl
        | some p => simp; omega
theorem ents_at {l : List MapEntry} {m : List (Int × Value)} (h : ents l m) (i : Nat) : (l[i]?).map (fun e => (e.key, e.val)) = (m[i]?).map (fun q => (Value.int .i64 q.1, q.2)) := by
  have := congrArg (fun x => x[i]?) h
  simpa using this

section
variable {P : Program} {E : En} {N : Nat} {K : Kl} {g : Option (Nat × Bool)} {Hs : List Asn} {ty : TypeId} {Q : Exit → Act → World → Prop} {ops : Array Oper} {rest : List Oper} {pos : String} {af : Array Edge} {G : Act → World → Prop}

theorem ch_makeMap {t : TypeId} (d : Option Nat) : Ch P E N K Hs (.makeMap t none) ty d (fun v Hs' => ∃ b, v = .map (some b) ∧ Hs' = mp b [] :: Hs) := fun a w hkn hs pos af gd => by
  refine ⟨_, _, _, ⟨w.heap.size, rfl, rfl⟩, Imp.mp (m := []) (es := []) (c := 0) rfl E _ (hs.alloc (.map #[] 0)), .inl ?_⟩
  simp only [execOp, Sem.run_bind, Instr.makeMap, run_newObj, Sem.run_pure, Result.andThen_ok, Option.map_none]
theorem ents_set {l : List MapEntry} {m : List (Int × Value)} (h : ents l m) {i : Nat} {k : Int} {u v : Value} (hi : m[i]? = some (k, u)) :
    ents (l.toArray.modify i fun e => { e with key := .int .i64 k, val := v }).toList (m.set i (k, v)) := by
  refine List.ext_getElem? fun j => ?_
  simp only [List.getElem?_map, Array.getElem?_toList, Array.getElem?_modify, List.getElem?_toArray, List.getElem?_set]
  have hj := ents_at h j
  by_cases e : i = j
  · subst e
    rw [hi] at hj
    have hlt : i < m.length := (List.getElem?_eq_some_iff.1 hi).1
    cases hl : l[i]? with
    | none => simp [hl] at hj
    | some x => simp [hlt]
  · simp only [if_neg e]; simpa using hj
theorem setObjSt {l : List Asn} {w : World} {b : Nat} {o o' : Obj} (h : St E (pt b o :: l) w) : St E (pt b o' :: l) { w with heap := w.heap.setIfInBounds b o' } := by
  have hb := h.pt (.head _ _)
  have hlt : b < w.heap.size := (Array.getElem?_eq_some_iff.1 hb).1
  exact h.set (.head _ _) (fun n hn => by simp [Ne.symm hn]) (by simp [hlt]) rfl rfl rfl
theorem run_mapUpdate {mt kt et b : Nat} {w : World} {l : List Asn} {k : Int} {v : Value} {m : List (Int × Value)} (hu : UN P mt (.map kt et)) (hk : UN P kt (.int .i64)) (hs : St E (mp b m :: l) w) :
    ∃ w', (Instr.mapUpdate mt (.map (some b)) (.int .i64 k) v).run P w = .ok () w' ∧ St E (mp b (mset m k v) :: l) w' := by
  obtain ⟨⟨es, c⟩, hs⟩ := hs.exE
  obtain ⟨he, hs⟩ := hs.starE.purE
  have hb := hs.pt (.head _ _)
  have hch : (Instr.checkKey false 10000 kt (.int .i64 k)).run P w = .ok () w := run_checkKey (n := 9999) hk (by simp [IsKey]) false
  have hf := run_findKey (P := P) (w := w) (kt := kt) hk (findNow_ents he k .i64 0)
  cases hm : mfind m k with
  | none =>
    rw [hm] at hf
    simp only [Option.map_none] at hf
    have h2 := setObjSt (o' := .map (es ++ [({ key := .int .i64 k, val := v, born := c } : MapEntry)]).toArray (c + 1)) hs
    refine ⟨_, ?_, Imp.mp (m := mset m k v) ?_ E _ h2⟩
    rotate_left
    · rw [mset_none hm]
      simp only [ents, List.map_append, List.map_cons, List.map_nil]
      rw [show es.map (fun e => (e.key, e.val)) = _ from he]
    · simp only [Instr.mapUpdate, Sem.run_bind, hu.run, Result.andThen_ok, MapKept.run_getObj_map hb, hch, hf, run_setObj_map _ hb]
      simp
  | some p =>
    obtain ⟨i, u⟩ := p
    rw [hm] at hf
    simp only [Option.map_some, Nat.zero_add] at hf
    obtain ⟨e1, e2⟩ := mset_some hm v
    have hei := ents_at he i
    rw [e2] at hei
    obtain ⟨x, hx⟩ : ∃ x, es[i]? = some x := by
      cases hq : es[i]? with
      | none => simp [hq] at hei
      | some x => exact ⟨x, rfl⟩
    have hxk : x.key = .int .i64 k := by rw [hx] at hei; simp at hei; exact hei.1
    have h2 := setObjSt (o' := .map (es.toArray.modify i fun e => { e with key := .int .i64 k, val := v }) c) hs
    have h3 : St E (pt b (.map (es.toArray.modify i fun e => { e with key := .int .i64 k, val := v }).toList.toArray c) :: l) _ := h2
    refine ⟨_, ?_, Imp.mp (m := mset m k v) ?_ E _ h3⟩
    rotate_left
    · rw [e1]
      exact ents_set he e2
    · have hsb : Instr.sameBits 10000 (.int .i64 k) (.int .i64 k) = true := by simp [Instr.sameBits]
      have hst : (Instr.keyThatStays (.int .i64 k) (.int .i64 k)).run P w = .ok (.int .i64 k) w := by
        simp only [Instr.keyThatStays, hsb, if_true]; rfl
      have e3 : ((es.toArray[i]?).map (·.key)).getD (.int .i64 k) = .int .i64 k := by simp [hx, hxk]
      simp only [Instr.mapUpdate, Sem.run_bind, hu.run, Result.andThen_ok, MapKept.run_getObj_map hb, hch, hf, e3, hst, run_setObj_map _ hb]
theorem ch_mapUpdate {mt kt et b : Nat} {x y z : Operand} {k : Int} {v : Value} {m : List (Int × Value)} {mm : List Asn} (hu : UN P mt (.map kt et)) (hk : UN P kt (.int .i64))
    (hx : opv K none x = some (.map (some b))) (hy : opv K none y = some (.int .i64 k)) (hz : opv K none z = some v) (hm : At1 Hs (mp b m) mm) (d : Option Nat) :
    Ch P E N K Hs (.mapUpdate mt x y z) ty d (fun _ Hs' => Hs' = mp b (mset m k v) :: mm) := fun a w hkn hs pos af gd => by
  obtain ⟨w', hr, hst⟩ := run_mapUpdate (P := P) hu hk (hs.front hm) (k := k) (v := v)
  refine ⟨undef, w', _, rfl, hst, .inr ⟨?_, rfl⟩⟩
  simp only [execOp, opv_eval hkn (Gd.none a) hx, opv_eval hkn (Gd.none a) hy, opv_eval hkn (Gd.none a) hz, Sem.run_bind, hr, Result.andThen_ok]
  rfl
theorem map_erase {α β : Type} (f : α → β) : ∀ (l : List α) (i : Nat), (l.eraseIdx i).map f = (l.map f).eraseIdx i
  | [], _ => by simp
  | x :: l, 0 => by simp
  | x :: l, i + 1 => by simp [map_erase f l i]
theorem run_delete {mt kt et tk b : Nat} {w : World} {l : List Asn} {k : Int} {m : List (Int × Value)} (hu : UN P mt (.map kt et)) (hk : UN P kt (.int .i64)) (hs : St E (mp b m :: l) w) :
    ∃ w', (Builtin.delete_ #[mt, tk] ty #[.map (some b), .int .i64 k]).run P w = .ok (.tuple #[]) w' ∧ St E (mp b (mdel m k) :: l) w' := by
  obtain ⟨⟨es, c⟩, hs⟩ := hs.exE
  obtain ⟨he, hs⟩ := hs.starE.purE
  have hb := hs.pt (.head _ _)
  have hch : (Instr.checkKey es.toArray.isEmpty 10000 kt (.int .i64 k)).run P w = .ok () w := run_checkKey (n := 9999) hk (by simp [IsKey]) _
  have hf := run_findKey (P := P) (w := w) (kt := kt) hk (findNow_ents he k .i64 0)
  cases hm : mfind m k with
  | none =>
    rw [hm] at hf
    simp only [Option.map_none] at hf
    have h2 := setObjSt (o' := .map es.toArray c) hs
    refine ⟨_, ?_, Imp.mp (m := mdel m k) ?_ E _ h2⟩
    rotate_left
    · rw [mdel_none hm]; exact he
    · simp only [Builtin.delete_, List.getElem?_toArray, List.getElem?_cons_zero, List.getElem?_cons_succ, Sem.run_bind, hu.run, Result.andThen_ok, MapKept.run_getObj_map hb, hch, hf, run_setObj_map _ hb, Sem.run_pure]
  | some p =>
    obtain ⟨i, u⟩ := p
    rw [hm] at hf
    simp only [Option.map_some, Nat.zero_add] at hf
    have h2 := setObjSt (o' := .map (es.eraseIdx i).toArray c) hs
    refine ⟨_, ?_, Imp.mp (m := mdel m k) ?_ E _ h2⟩
    rotate_left
    · rw [mdel_some hm]
      unfold ents at he ⊢
      rw [map_erase, map_erase, he]
    · simp only [Builtin.delete_, List.getElem?_toArray, List.getElem?_cons_zero, List.getElem?_cons_succ, Sem.run_bind, hu.run, Result.andThen_ok, MapKept.run_getObj_map hb, hch, hf, run_setObj_map _ hb, Sem.run_pure]
      simp
theorem ch_delete {mt kt et tk b : Nat} {x y : Operand} {k : Int} {m : List (Int × Value)} {mm : List Asn} (hu : UN P mt (.map kt et)) (hk : UN P kt (.int .i64))
    (hx : opv K none x = some (.map (some b))) (hy : opv K none y = some (.int .i64 k)) (hm : At1 Hs (mp b m) mm) (d : Option Nat) :
    Ch P E N K Hs (.call { callee := .builtin .delete, args := #[x, y], argTypes := #[mt, tk] }) ty d (fun _ Hs' => Hs' = mp b (mdel m k) :: mm) := fun a w hkn hs pos af gd => by
  obtain ⟨w', hr, hst⟩ := run_delete (P := P) (ty := ty) (tk := tk) hu hk (hs.front hm) (k := k)
  refine ⟨.tuple #[], w', _, rfl, hst, .inl ?_⟩
  have e1 : (#[x, y].map a.eval) = #[.map (some b), .int .i64 k] := by simp [opv_eval hkn (Gd.none a) hx, opv_eval hkn (Gd.none a) hy]
  simp only [execOp, resolve, Sem.run_bind, Sem.run_pure, Result.andThen_ok, invoke, builtin]
  rw [e1, hr]; rfl
theorem ents_len {l : List MapEntry} {m : List (Int × Value)} (h : ents l m) : l.length = m.length := by
  have := congrArg List.length h; simpa using this
theorem ev_lenm {t kt et b : Nat} {x : Operand} {m : List (Int × Value)} (hu : UN P t (.map kt et)) (hx : opv K g x = some (.map (some b))) (hm : Mem (mp b m) Hs) :
    Ev P E N K g Hs (.call { callee := .builtin .len, args := #[x], argTypes := #[t] }) ty (.int .i64 m.length) := fun a w hk hg hst d pos af gd => by
  obtain ⟨mm, hm1⟩ := hm.at1
  obtain ⟨⟨es, c⟩, hs⟩ := (hst.front hm1).exE
  obtain ⟨he, hs⟩ := hs.starE.purE
  have hb := hs.pt (.head _ _)
  have e1 : (#[x].map a.eval) = #[.map (some b)] := by simp [opv_eval hk hg hx]
  simp only [execOp, resolve, Sem.run_bind, Sem.run_pure, Result.andThen_ok, invoke, builtin]
  rw [e1]
  have : (Builtin.len_ #[t] ty #[.map (some b)]).run P w = .ok (.int .i64 m.length) w := by
    have e2 := ents_len he
    simp only at e2
    simp [Builtin.len_, Sem.run_bind, hu.run, MapKept.run_getObj_map hb, goInt, e2]
  rw [this]; rfl
theorem ev_lookup {t kt et b : Nat} {x y : Operand} {k : Int} {m : List (Int × Value)} {zv : Value} (hu : UN P t (.map kt et)) (hk : UN P kt (.int .i64)) (hz : ∀ w, (zeroValue et).run P w = .ok zv w)
    (hx : opv K g x = some (.map (some b))) (hy : opv K g y = some (.int .i64 k)) (hm : Mem (mp b m) Hs) :
    Ev P E N K g Hs (.lookup t x y true) ty (.tuple #[(mget m k).getD zv, .bool (mget m k).isSome]) := fun a w hkn hg hst d pos af gd => by
  obtain ⟨mm, hm1⟩ := hm.at1
  obtain ⟨⟨es, c⟩, hs⟩ := (hst.front hm1).exE
  obtain ⟨he, hs⟩ := hs.starE.purE
  have hb := hs.pt (.head _ _)
  have hch : (Instr.checkKey es.toArray.isEmpty 10000 kt (.int .i64 k)).run P w = .ok () w := run_checkKey (n := 9999) hk (by simp [IsKey]) _
  have hf := run_findKey (P := P) (w := w) (kt := kt) hk (findNow_ents he k .i64 0)
  have : (Instr.lookup t (.map (some b)) (.int .i64 k) true).run P w = .ok (.tuple #[(mget m k).getD zv, .bool (mget m k).isSome]) w := by
    unfold mget
    cases hm : mfind m k with
    | none =>
      rw [hm] at hf
      simp only [Option.map_none] at hf
      simp only [Instr.lookup, Sem.run_bind, hu.run, Result.andThen_ok, MapKept.run_getObj_map hb, hch, hf, Sem.run_pure, hz w]
      simp
    | some p =>
      rw [hm] at hf
      simp only [Option.map_some, Nat.zero_add] at hf
      simp only [Instr.lookup, Sem.run_bind, hu.run, Result.andThen_ok, MapKept.run_getObj_map hb, hch, hf, Sem.run_pure]
      simp
  simp only [execOp, opv_eval hkn hg hx, opv_eval hkn hg hy, Sem.run_bind, this]; rfl
end
end Go.Sx
