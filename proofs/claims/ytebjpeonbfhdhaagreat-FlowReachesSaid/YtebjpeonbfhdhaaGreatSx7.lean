/- Literals of structs, arrays and slices; made slices; copies. -/
import Derived.Test.YtebjpeonbfhdhaaGreatSx6
set_option linter.unusedSimpArgs false
set_option linter.unusedVariables false
namespace Go.Sx
open Go

/-- Parts laid into a row, one behind the other. -/
def bld (place : Nat → Nat × Nat) : List Value → List (Nat × Value) → List Value
  | z, [] => z
  | z, (i, v) :: r => bld place (splice z (place i).1 v.cells.toList) r
def bok (place : Nat → Nat × Nat) (n : Nat) : List (Nat × Value) → Prop
  | [] => True
  | (i, v) :: r => v.cells.toList.length = (place i).2 ∧ (place i).1 + (place i).2 ≤ n ∧ bok place n r

theorem fold_splice (off : Nat) (vs : List Value) : ∀ (k : Nat) (cells : Array Value), off + k + vs.length ≤ cells.size →
    (vs.zipIdx k).foldl (fun cs (c, j) => cs.setIfInBounds (off + j) c) cells = (splice cells.toList (off + k) vs).toArray := by
  induction vs with
  | nil => intro k cells _; simp [splice]
  | cons v vs ih =>
    intro k cells h
    rw [List.zipIdx_cons, List.foldl_cons, ih (k + 1) _ (by simp at h ⊢; omega)]
    have := list_seg_step cells.toList (off + k) v vs (by simp at h ⊢; omega)
    apply congrArg List.toArray
    simp only [splice, Array.toList_setIfInBounds, List.length_cons]
    rw [← Nat.add_assoc off k 1, this]
    try rfl
theorem fill_bld {place : Nat → Nat × Nat} {pl : Nat → Option (Nat × Nat)} : ∀ (parts : List (Nat × Value)) (z : List Value), bok place z.length parts → (∀ p ∈ parts, pl p.1 = some (place p.1)) →
    Instr.fill pl z.toArray parts = some (bld place z parts).toArray := by
  intro parts
  induction parts with
  | nil => intro z _ _; rfl
  | cons p r ih =>
    obtain ⟨i, v⟩ := p
    intro z ⟨h1, h2, h3⟩ hp
    have e := hp (i, v) (List.mem_cons_self ..)
    simp only at e
    have hsz : v.cells.size = (place i).2 := by rw [← h1]; simp
    have hn : ¬ (v.cells.size ≠ (place i).2 ∨ (place i).1 + v.cells.size > z.toArray.size) := by
      rw [hsz]; simp; omega
    simp only [Instr.fill, e]
    simp only [ne_eq, gt_iff_lt] at hn
    rw [if_neg (by simpa using hn)]
    have hf : v.cells.zipIdx.foldl (fun cs (c, j) => cs.setIfInBounds ((place i).1 + j) c) z.toArray = (splice z (place i).1 v.cells.toList).toArray := by
      have := fold_splice (place i).1 v.cells.toList 0 z.toArray (by simp; omega)
      rw [← Array.foldl_toList, Array.toList_zipIdx]
      simpa using this
    rw [hf]
    have hl : (splice z (place i).1 v.cells.toList).length = z.length := splice_len (by rw [h1]; exact h2)
    exact ih _ (by rw [hl]; exact h3) (fun q hq => hp q (List.mem_cons_of_mem _ hq))

/-- A struct's fields: where they lie, and how wide they are. -/
structure PL (P : Program) (t : TypeId) (z : List Value) (pl : List (Nat × Nat)) : Prop where
  zero : ZV P t z
  run : ∀ w, ∃ fs, (underlying t).run P w = .ok (.struct fs) w ∧ (fs.mapM (fun f => do pure (f.offset, ← sizeOf f.type)) : Sem (Array (Nat × Nat))).run P w = .ok pl.toArray w
theorem PL.of {P : Program} {t : TypeId} {z : List Value} {pl : List (Nat × Nat)} {fs : Array Field} (hz : ZV P t z) (hu : P.underlying t = some (.struct fs)) (hp : fs.toList.mapM (fun f => (P.info? f.type).map fun i => (f.offset, i.size)) = some pl) : PL P t z pl :=
  ⟨hz, fun w => ⟨fs, run_underlying hu w, by
    rw [Array.mapM_eq_mapM_toList]
    have := run_places (P := P) w _ _ hp
    simp [this]⟩⟩
def plAt (pl : List (Nat × Nat)) (i : Nat) : Nat × Nat := pl.getD i (0, 0)

def opvp (K : Kl) (g : Option (Nat × Bool)) : List (Nat × Operand) → Option (List (Nat × Value))
  | [] => some []
  | (i, x) :: l => match opv K g x, opvp K g l with
    | some v, some vs => some ((i, v) :: vs)
    | _, _ => none
section
variable {P : Program} {E : En} {N : Nat} {K : Kl} {g : Option (Nat × Bool)} {Hs : List Asn} {ty : TypeId} {Q : Exit → Act → World → Prop} {ops : Array Oper} {rest : List Oper} {pos : String} {af : Array Edge} {G : Act → World → Prop}
theorem opvp_eval {a : Act} (hk : Kn N K a) (hg : Gd g a) : ∀ (l : List (Nat × Operand)) (vs : List (Nat × Value)), opvp K g l = some vs → l.map (fun (i, x) => (i, a.eval x)) = vs := by
  intro l
  induction l with
  | nil => intro vs h; simpa [opvp] using h
  | cons p l ih =>
    obtain ⟨i, x⟩ := p
    intro vs h
    simp only [opvp] at h
    split at h
    · rename_i v us hv hus
      cases h
      have := ih us hus
      simp only [List.map_cons, opv_eval hk hg hv, this]
    · cases h
def plOk (pl : List (Nat × Nat)) : List (Nat × Value) → Prop
  | [] => True
  | (i, _) :: r => Nat.blt i pl.length = true ∧ plOk pl r
theorem ev_build {t : TypeId} {z : List Value} {pl : List (Nat × Nat)} {ps : List (Nat × Operand)} {vs : List (Nat × Value)} (hp : PL P t z pl) (ho : opvp K g ps = some vs) (h1 : plOk pl vs) (h2 : bok (plAt pl) z.length vs) :
    Ev P E N K g Hs (.build t ps.toArray) ty (.agg (bld (plAt pl) z vs).toArray) := fun a w hk hg _ d pos af gd => by
  obtain ⟨zv, hz, hzc⟩ := hp.zero w
  obtain ⟨fs, hu, hr⟩ := hp.run w
  have e := opvp_eval hk hg ps vs ho
  have hin : ∀ p ∈ vs, pl.toArray[p.1]? = some (plAt pl p.1) := by
    clear e h2 ho
    induction vs with
    | nil => intro p hp; cases hp
    | cons q r ih =>
      obtain ⟨i, v⟩ := q
      intro p hp
      rcases List.mem_cons.1 hp with rfl | hp
      · have := h1.1
        simp [Nat.blt_eq] at this
        simp [plAt, this]
      · exact ih h1.2 p hp
  have hf := fill_bld (place := plAt pl) (pl := fun i => pl.toArray[i]?) vs z h2 hin
  have : (Instr.build t (ps.toArray.map (fun (i, x) => (i, a.eval x)))).run P w = .ok (.agg (bld (plAt pl) z vs).toArray) w := by
    have e2 : (ps.toArray.map (fun (i, x) => (i, a.eval x))).toList = vs := by rw [← e]; simp
    simp only [Instr.build, Sem.run_bind, hz, hu, Result.andThen_ok, hzc]
    rw [hr]
    simp only [Result.andThen_ok, e2, hf]
    rfl
  simp only [execOp, Sem.run_bind, this]; rfl
/-- A slice's literal: a block of its own. -/
theorem ch_bslice {t e sz n : Nat} {z : List Value} {ps : List (Nat × Operand)} {vs : List (Nat × Value)} (hu : UN P t (.slice e)) (hs : SZ P e sz) (hz : ZV P e z) (hn : Nat.ble (n * sz) 1000 = true) (hzl : Nat.beq z.length sz = true) (ho : opvp K none ps = some vs)
    (hb : bok (fun i => (i * sz, sz)) (n * sz) vs) (d : Option Nat) :
    Ch P E N K Hs (.buildSlice t n ps.toArray) ty d (fun v Hs' => ∃ b, v = .slice (some ⟨b, 0, none⟩) n n ∧ Hs' = blk b (bld (fun i => (i * sz, sz)) ((List.range (n * sz)).map (fun i => z.getD (i % sz) (.bool false))) vs) e :: Hs) := fun a w hk hst pos af gd => by
  have hle := Nat.le_of_ble_eq_true hn
  rw [beq_t] at hzl
  obtain ⟨zv, hzr, hzc⟩ := hz w
  have ev := opvp_eval hk (Gd.none a) ps vs ho
  have e2 : (ps.toArray.map (fun (i, x) => (i, a.eval x))).toList = vs := by rw [← ev]; simp
  have hlim : ¬ (n * sz > 2 ^ 24) := by omega
  refine ⟨_, _, _, ⟨w.heap.size, rfl, rfl⟩, hst.alloc (.cells (bld (fun i => (i * sz, sz)) ((List.range (n * sz)).map (fun i => z.getD (i % sz) (.bool false))) vs).toArray e (0, 0)), .inl ?_⟩
  have hrow : (Array.range (n * sz)).map (fun i => (if n * sz = 0 then #[] else z.toArray)[i % (if n * sz = 0 then (#[] : Array Value) else z.toArray).size]!) = ((List.range (n * sz)).map (fun i => z.getD (i % sz) (.bool false))).toArray := by
    apply Array.ext'
    simp only [Array.toList_map, Array.toList_range]
    apply List.map_congr_left
    intro i hi
    have hpos : n * sz ≠ 0 := by
      have := List.mem_range.1 hi; omega
    rw [if_neg hpos]
    have hsz : 0 < sz := by
      rcases Nat.eq_zero_or_pos sz with h | h
      · subst h; simp at hpos
      · exact h
    have hlt : i % sz < z.length := by rw [hzl]; exact Nat.mod_lt _ hsz
    simp only [List.size_toArray, hzl]
    rw [getElem!_pos _ _ (by simpa using hlt)]
    simp [List.getD_eq_getElem?_getD, hlt]
  have hfill := fill_bld (place := fun i => (i * sz, sz)) (pl := fun i => some (i * sz, sz)) vs ((List.range (n * sz)).map (fun i => z.getD (i % sz) (.bool false))) (by simpa using hb) (fun _ _ => rfl)
  have hr : (Instr.buildSlice t n (ps.toArray.map (fun (i, x) => (i, a.eval x)))).run P w = .ok (.slice (some ⟨w.heap.size, 0, none⟩) n n) { w with heap := w.heap.push (.cells (bld (fun i => (i * sz, sz)) ((List.range (n * sz)).map (fun i => z.getD (i % sz) (.bool false))) vs).toArray e (0, 0)) } := by
    simp only [Instr.buildSlice, Sem.run_bind, hu.run, hs w, Result.andThen_ok, if_neg hlim, e2]
    by_cases h0 : n * sz = 0
    · rw [if_pos h0]
      rw [if_pos h0] at hrow
      simp only [Sem.run_bind, Sem.run_pure, Result.andThen_ok]
      rw [hrow, hfill]
      simp only [Sem.run_bind, newRow, run_newObj, Result.andThen_ok, Sem.run_pure]
    · rw [if_neg h0]
      rw [if_neg h0] at hrow
      simp only [Sem.run_bind, hzr, Sem.run_pure, Result.andThen_ok, hzc]
      rw [hrow, hfill]
      simp only [Sem.run_bind, newRow, run_newObj, Result.andThen_ok, Sem.run_pure]
  simp only [execOp, Sem.run_bind, hr, Result.andThen_ok, Sem.run_pure]
end
end Go.Sx
