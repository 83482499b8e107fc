/- Rules for single operations: what each yields, or how it turns the heap. -/
import Derived.Test.YtebjpeonbfhdhaaGreatSx2
import Derived.Deep.AppendSrc
import Derived.Deep.MidRow
import Derived.IntWalk
set_option linter.unusedSimpArgs false
set_option linter.unusedVariables false
namespace Go.Sx
open Go

/-- A block of cells, none of them frozen. -/
def blk (b : Nat) (cs : List Value) (t : TypeId) : Asn := pt b (.cells cs.toArray t (0, 0))

/-- The cell at an address. -/
def Cell (Hs : List Asn) (ad : Addr) (v : Value) : Prop := ∀ E w, St E Hs w → w.cell? ad = some v
def Cells (Hs : List Asn) (ad : Addr) (cs : List Value) : Prop := ∀ E w, St E Hs w → ∀ j v, cs[j]? = some v → w.cell? (ad.add j) = some v

theorem cell_pt {w : World} {b : Nat} {cs : List Value} {t : TypeId} {fr : Nat × Nat} (h : w.heap[b]? = some (.cells cs.toArray t fr)) (k : Nat) : w.cell? ⟨b, k, none⟩ = cs[k]? := by
  simp [World.cell?, h]
theorem add_lit (b o k : Nat) : (⟨b, o, none⟩ : Addr).add k = ⟨b, o + k, none⟩ := Addr.add_mid b o k
theorem add_add (ad : Addr) (hs : ad.spot = none) (i j : Nat) : (ad.add i).add j = ad.add (i + j) := by
  obtain ⟨b, o, s⟩ := ad
  simp only at hs
  subst hs
  rw [add_lit, add_lit, add_lit, Nat.add_assoc]
theorem Cell.blk {Hs : List Asn} {b k : Nat} {cs : List Value} {t : TypeId} {v : Value} (hm : Mem (blk b cs t) Hs) (hk : cs[k]? = some v) : Cell Hs ((⟨b, 0, none⟩ : Addr).add k) v := fun E w hs => by
  rw [add_lit, Nat.zero_add, cell_pt (hs.pt hm)]; exact hk
theorem Cell.blk0 {Hs : List Asn} {b : Nat} {cs : List Value} {t : TypeId} {v : Value} (hm : Mem (Sx.blk b cs t) Hs) (hk : cs[0]? = some v) : Cell Hs ⟨b, 0, none⟩ v := fun E w hs => by
  rw [cell_pt (hs.pt hm)]; exact hk
theorem Cell.blkAt {Hs : List Asn} {b k : Nat} {cs : List Value} {t : TypeId} {v : Value} (hm : Mem (Sx.blk b cs t) Hs) (hk : cs[k]? = some v) : Cell Hs ⟨b, k, none⟩ v := fun E w hs => by
  rw [cell_pt (hs.pt hm)]; exact hk
theorem Cells.blk {Hs : List Asn} {b k : Nat} {cs : List Value} {t : TypeId} (n : Nat) (hm : Mem (Sx.blk b cs t) Hs) : Cells Hs ((⟨b, 0, none⟩ : Addr).add k) ((cs.drop k).take n) := fun E w hs j v hj => by
  rw [add_lit, add_lit, Nat.zero_add, cell_pt (hs.pt hm)]
  rw [List.getElem?_take] at hj
  split at hj
  · rw [List.getElem?_drop] at hj; exact hj
  · cases hj
theorem Cells.blk0 {Hs : List Asn} {b : Nat} {cs : List Value} {t : TypeId} (hm : Mem (Sx.blk b cs t) Hs) : Cells Hs ⟨b, 0, none⟩ cs := fun E w hs j v hj => by
  rw [add_lit, Nat.zero_add, cell_pt (hs.pt hm)]; exact hj

/-- Memory that stays: these cells lie from an address on. -/
def cellsP (ad : Addr) (cs : List Value) : Per := ⟨fun R => ad.spot = none ∧ ∃ (bs : Array Value) (t : TypeId × (Nat × Nat)), R ad.block = some (.cells bs t.1 t.2) ∧ ∀ j v, cs[j]? = some v → bs[ad.off + j]? = some v,
  fun R R' hR ⟨hs, bs, t, h, k⟩ => ⟨hs, bs, t, hR _ _ h, k⟩⟩
theorem cellsP_cell {w : World} {ad : Addr} {cs : List Value} (h : (cellsP ad cs).holds (wh w)) (j : Nat) (v : Value) (hj : cs[j]? = some v) : w.cell? (ad.add j) = some v := by
  obtain ⟨hs, bs, t, hb, k⟩ := h
  obtain ⟨b, o, s⟩ := ad
  simp only at hs
  subst hs
  rw [add_lit]
  have hb' : w.heap[b]? = some (.cells bs t.1 t.2) := hb
  simp [World.cell?, hb', k j v hj]
theorem Cell.per {Hs : List Asn} {ad : Addr} {cs : List Value} {k : Nat} {v : Value} (hm : Mem (Sx.per (cellsP ad cs)) Hs) (hk : cs[k]? = some v) : Cell Hs (ad.add k) v := fun E w hs => cellsP_cell (hs.per hm) k v hk
theorem Cell.per0 {Hs : List Asn} {ad : Addr} {cs : List Value} {v : Value} (hm : Mem (Sx.per (cellsP ad cs)) Hs) (hk : cs[0]? = some v) : Cell Hs ad v := fun E w hs => by
  have := cellsP_cell (hs.per hm) 0 v hk
  simpa [Addr.add] using this
theorem Cells.per {Hs : List Asn} {ad : Addr} {cs : List Value} {k : Nat} (n : Nat) (hm : Mem (Sx.per (cellsP ad cs)) Hs) : Cells Hs (ad.add k) ((cs.drop k).take n) := fun E w hs j v hj => by
  have h := hs.per hm
  rw [add_add ad h.1]
  rw [List.getElem?_take] at hj
  split at hj
  · rw [List.getElem?_drop] at hj; exact cellsP_cell h (k + j) v hj
  · cases hj
theorem Cells.per0 {Hs : List Asn} {ad : Addr} {cs : List Value} (hm : Mem (Sx.per (cellsP ad cs)) Hs) : Cells Hs ad cs := fun E w hs j v hj => cellsP_cell (hs.per hm) j v hj

/-! ### What the program's types say, a fact a type -/
def FA (P : Program) (s f off : Nat) : Prop := ∀ w ad, (Instr.fieldAt s (.pointer (some ad)) f).run P w = .ok (.pointer (some (ad.add off))) w
def LD1 (P : Program) (t : TypeId) : Prop := ∀ w ad v, w.cell? ad = some v → (loadVar t ad).run P w = .ok v w
def LDA (P : Program) (t n : Nat) : Prop := ∀ w ad (cs : List Value), cs.length = n → (∀ j v, cs[j]? = some v → w.cell? (ad.add j) = some v) → (loadVar t ad).run P w = .ok (.agg cs.toArray) w
def SZ (P : Program) (t n : Nat) : Prop := ∀ w, (sizeOf t).run P w = .ok n w
def ZV (P : Program) (t : Nat) (z : List Value) : Prop := ∀ w, ∃ v, (zeroValue t).run P w = .ok v w ∧ v.cells = z.toArray
def UN (P : Program) (t : Nat) (d : TypeDesc) : Prop := P.underlying t = some d

theorem SZ.of {P : Program} {t n : Nat} (h : (P.info? t).map (·.size) = some n) : SZ P t n := fun w => by
  cases hi : P.info? t with
  | none => simp [hi] at h
  | some i => simp [hi] at h; simp [sizeOf, typeInfo, hi, h]
theorem ZV.of {P : Program} {t : Nat} {v : Value} {z : List Value} (h : (P.info? t).bind (·.zero) = some v) (hz : v.cells = z.toArray) : ZV P t z := fun w => by
  cases hi : P.info? t with
  | none => simp [hi] at h
  | some i =>
    simp [hi] at h
    exact ⟨v, by simp [zeroValue, typeInfo, hi, h], hz⟩
theorem UN.run {P : Program} {t : Nat} {d : TypeDesc} (h : UN P t d) (w : World) : (underlying t).run P w = .ok d w := run_underlying h w
theorem LD1.of {P : Program} {t : Nat} {d : TypeDesc} (h : UN P t d) (hd : d.isRow = false) : LD1 P t := fun w ad v hc => by
  have hagg : (isAgg t).run P w = .ok false w := by
    unfold isAgg
    rw [Sem.run_bind, h.run]
    cases d <;> simp_all
  simp [loadVar, Sem.run_bind, hagg, run_load, hc]
theorem LDA.of {P : Program} {t n : Nat} {d : TypeDesc} (h : UN P t d) (hd : d.isRow = true) (hs : SZ P t n) : LDA P t n := fun w ad cs hl hc => by
  have hagg : (isAgg t).run P w = .ok true w := by
    unfold isAgg
    rw [Sem.run_bind, h.run]
    cases d <;> simp_all
  have hl' : (loadCells ad cs.length).run P w = .ok cs.toArray w := run_loadCells_list (P := P) w ad cs hc
  rw [hl] at hl'
  simp [loadVar, Sem.run_bind, hagg, hs w, hl']

section
variable {P : Program} {E : En} {N : Nat} {K : Kl} {g : Option (Nat × Bool)} {Hs : List Asn} {ty : TypeId}

theorem ev_move {x : Operand} {v : Value} (h : opv K g x = some v) : Ev P E N K g Hs (.move x) ty v := fun a w hk hg _ d pos af gd => by
  simp only [execOp, opv_eval hk hg h]; rfl
theorem ev_assign {x : Operand} {v : Value} (h : opv K g x = some v) : Ev P E N K g Hs (.assign x) ty v := fun a w hk hg _ d pos af gd => by
  simp only [execOp, opv_eval hk hg h]; rfl
theorem ev_nil {x : Operand} {ad : Addr} (h : opv K g x = some (.pointer (some ad))) : Ev P E N K g Hs (.nilCheck x) ty (.pointer (some ad)) := fun a w hk hg _ d pos af gd => by
  simp only [execOp, opv_eval hk hg h]; rfl
theorem ev_fa {x : Operand} {ad : Addr} {s f off : Nat} (hf : FA P s f off) (h : opv K g x = some (.pointer (some ad))) : Ev P E N K g Hs (.fieldAddr s x f) ty (.pointer (some (ad.add off))) := fun a w hk hg _ d pos af gd => by
  simp only [execOp, opv_eval hk hg h, Sem.run_bind, hf w ad, Result.andThen_ok]; rfl
/-- A field of a field. -/
theorem ev_fa2 {x : Operand} {b o : Nat} {s f off k : Nat} (hf : FA P s f off) (h : opv K g x = some (.pointer (some ((⟨b, o, none⟩ : Addr).add k)))) : Ev P E N K g Hs (.fieldAddr s x f) ty (.pointer (some ((⟨b, o, none⟩ : Addr).add (k + off)))) := fun a w hk hg hs d pos af gd => by
  have := ev_fa (P := P) (E := E) (N := N) (Hs := Hs) (ty := ty) hf h a w hk hg hs d pos af gd
  rw [add_add _ rfl] at this; exact this
theorem ev_load {x : Operand} {t : TypeId} {ad : Addr} {v : Value} (hl : LD1 P t) (h : opv K g x = some (.pointer (some ad))) (hc : Cell Hs ad v) : Ev P E N K g Hs (.load t x) ty v := fun a w hk hg hs d pos af gd => by
  simp only [execOp, opv_eval hk hg h, Sem.run_bind]
  have : (Instr.loadAt t (.pointer (some ad))).run P w = .ok v w := by
    simp only [Instr.loadAt, Instr.sureAddr, Sem.run_bind, Sem.run_pure, Result.andThen_ok, hl w ad v (hc E w hs)]
  rw [this]; rfl
theorem ev_loadA {x : Operand} {t : TypeId} {ad : Addr} {n : Nat} {cs : List Value} (hl : LDA P t n) (h : opv K g x = some (.pointer (some ad))) (hn : cs.length = n) (hc : Cells Hs ad cs) : Ev P E N K g Hs (.load t x) ty (.agg cs.toArray) := fun a w hk hg hs d pos af gd => by
  simp only [execOp, opv_eval hk hg h, Sem.run_bind]
  have : (Instr.loadAt t (.pointer (some ad))).run P w = .ok (.agg cs.toArray) w := by
    simp only [Instr.loadAt, Instr.sureAddr, Sem.run_bind, Sem.run_pure, Result.andThen_ok, hl w ad cs hn (hc E w hs)]
  rw [this]; rfl
/-- A load of an aggregate in a block of its own. -/
theorem load_whole {t n b : Nat} {cs : List Value} {t' : TypeId} (hl : LDA P t n) (hn : cs.length = n) (hm : Mem (Sx.blk b cs t') Hs) : ∀ E w, St E Hs w → (loadVar t ⟨b, 0, none⟩).run P w = .ok (.agg cs.toArray) w := fun E w hs =>
  hl w _ cs hn (Cells.blk0 hm E w hs)
theorem ev_ext {x : Operand} {vs : List Value} {i : Nat} {v : Value} (h : opv K g x = some (.tuple vs.toArray)) (hi : vs[i]? = some v) : Ev P E N K g Hs (.extract x i) ty v := fun a w hk hg _ d pos af gd => by
  have : vs.toArray[i]? = some v := by simpa using hi
  simp only [execOp, opv_eval hk hg h, Instr.extract, this]; rfl
theorem ev_not {x : Operand} {t : TypeId} {p : Bool} (h : opv K g x = some (.bool p)) : Ev P E N K g Hs (.unOp .not t x) ty (.bool (!p)) := fun a w hk hg _ d pos af gd => by
  simp only [execOp, opv_eval hk hg h]; rfl

/-! whole numbers -/
variable {x y : Operand} {t t' : TypeId} {k k' : IntKind} {i j : Int}
theorem ev_bin {op : BinOp} {u v r : Value} (hx : opv K g x = some u) (hy : opv K g y = some v) (hr : ∀ w, ((do eqGuard op t x y u v; binOp op t u v) : Sem Value).run P w = .ok r w) : Ev P E N K g Hs (.binOp op t x y t') ty r := fun a w hk hg _ d pos af gd => by
  simp only [execOp, opv_eval hk hg hx, opv_eval hk hg hy, Sem.run_bind]
  have := hr w
  simp only [Sem.run_bind] at this
  rw [this]; rfl
theorem ev_addw (hx : opv K g x = some (.int k i)) (hy : opv K g y = some (.int k j)) : Ev P E N K g Hs (.binOp .add t x y t') ty (.int k (k.wrap (i + j))) := ev_bin hx hy fun w => by simp [eqGuard, binOp, Op.intArith]
theorem ev_subw (hx : opv K g x = some (.int k i)) (hy : opv K g y = some (.int k j)) : Ev P E N K g Hs (.binOp .sub t x y t') ty (.int k (k.wrap (i - j))) := ev_bin hx hy fun w => by simp [eqGuard, binOp, Op.intArith]
theorem ev_mulw (hx : opv K g x = some (.int k i)) (hy : opv K g y = some (.int k j)) : Ev P E N K g Hs (.binOp .mul t x y t') ty (.int k (k.wrap (i * j))) := ev_bin hx hy fun w => by simp [eqGuard, binOp, Op.intArith]
theorem ev_add (hx : opv K g x = some (.int .i64 i)) (hy : opv K g y = some (.int .i64 j)) (hb : -9223372036854775808 ≤ i + j ∧ i + j ≤ 9223372036854775807) : Ev P E N K g Hs (.binOp .add t x y t') ty (.int .i64 (i + j)) := by
  have := ev_addw (P := P) (E := E) (N := N) (Hs := Hs) (t := t) (t' := t') (ty := ty) hx hy
  rwa [IntWalk.i64_in _ hb] at this
theorem ev_sub (hx : opv K g x = some (.int .i64 i)) (hy : opv K g y = some (.int .i64 j)) (hb : -9223372036854775808 ≤ i - j ∧ i - j ≤ 9223372036854775807) : Ev P E N K g Hs (.binOp .sub t x y t') ty (.int .i64 (i - j)) := by
  have := ev_subw (P := P) (E := E) (N := N) (Hs := Hs) (t := t) (t' := t') (ty := ty) hx hy
  rwa [IntWalk.i64_in _ hb] at this
theorem ev_mul (hx : opv K g x = some (.int .i64 i)) (hy : opv K g y = some (.int .i64 j)) (hb : -9223372036854775808 ≤ i * j ∧ i * j ≤ 9223372036854775807) : Ev P E N K g Hs (.binOp .mul t x y t') ty (.int .i64 (i * j)) := by
  have := ev_mulw (P := P) (E := E) (N := N) (Hs := Hs) (t := t) (t' := t') (ty := ty) hx hy
  rwa [IntWalk.i64_in _ hb] at this
theorem ev_quo (hx : opv K g x = some (.int .i64 i)) (hy : opv K g y = some (.int .i64 j)) (h0 : 0 ≤ i) (h1 : i ≤ 9223372036854775807) (h2 : 1 ≤ j) : Ev P E N K g Hs (.binOp .quo t x y t') ty (.int .i64 (i / j)) := ev_bin hx hy fun w => by
  have hj : j ≠ 0 := by omega
  simp [eqGuard, binOp, Op.intDiv, hj, IntWalk.i64_quo i j ⟨h0, h1, h2⟩]
theorem ev_rem (hx : opv K g x = some (.int .i64 i)) (hy : opv K g y = some (.int .i64 j)) (h0 : 0 ≤ i) (h2 : 1 ≤ j) : Ev P E N K g Hs (.binOp .rem t x y t') ty (.int .i64 (i % j)) := ev_bin hx hy fun w => by
  have hj : j ≠ 0 := by omega
  simp [eqGuard, binOp, Op.intDiv, hj, IntWalk.rem_in i j h0]
theorem ev_lss (hx : opv K g x = some (.int k i)) (hy : opv K g y = some (.int k j)) : Ev P E N K g Hs (.binOp .lss t x y t') ty (.bool (decide (i < j))) := ev_bin hx hy fun w => by simp [eqGuard, binOp, Op.intCmp]
theorem ev_leq (hx : opv K g x = some (.int k i)) (hy : opv K g y = some (.int k j)) : Ev P E N K g Hs (.binOp .leq t x y t') ty (.bool (decide (i ≤ j))) := ev_bin hx hy fun w => by simp [eqGuard, binOp, Op.intCmp]
theorem ev_gtr (hx : opv K g x = some (.int k i)) (hy : opv K g y = some (.int k j)) : Ev P E N K g Hs (.binOp .gtr t x y t') ty (.bool (decide (j < i))) := ev_bin hx hy fun w => by simp [eqGuard, binOp, Op.intCmp]
theorem ev_geq (hx : opv K g x = some (.int k i)) (hy : opv K g y = some (.int k j)) : Ev P E N K g Hs (.binOp .geq t x y t') ty (.bool (decide (j ≤ i))) := ev_bin hx hy fun w => by simp [eqGuard, binOp, Op.intCmp]
theorem ev_eqi (hx : opv K g x = some (.int k i)) (hy : opv K g y = some (.int k j)) : Ev P E N K g Hs (.binOp .eql t x y t') ty (.bool (decide (i = j))) := ev_bin hx hy fun w => by simp [eqGuard, binOp, Op.intCmp]; rfl
theorem ev_nei (hx : opv K g x = some (.int k i)) (hy : opv K g y = some (.int k j)) : Ev P E N K g Hs (.binOp .neq t x y t') ty (.bool (!decide (i = j))) := ev_bin hx hy fun w => by simp [eqGuard, binOp, Op.intCmp, bne]; rfl
/-! strings -/
theorem str_eq (s r : ByteArray) : (s.toList == r.toList) = decide (s = r) := by
  rw [Bool.eq_iff_iff]
  simp only [beq_iff_eq, decide_eq_true_eq]
  constructor
  · intro h
    rw [ByteArray.toList_eq, ByteArray.toList_eq] at h
    cases s; cases r
    simp only [ByteArray.mk.injEq]
    exact Array.toList_inj.1 h
  · rintro rfl; rfl
variable {s r : ByteArray}
theorem ev_eqs (hx : opv K g x = some (.string s)) (hy : opv K g y = some (.string r)) : Ev P E N K g Hs (.binOp .eql t x y t') ty (.bool (decide (s = r))) := ev_bin hx hy fun w => by
  simp only [eqGuard, binOp, Op.stringOp, str_eq]; rfl
theorem ev_nes (hx : opv K g x = some (.string s)) (hy : opv K g y = some (.string r)) : Ev P E N K g Hs (.binOp .neq t x y t') ty (.bool (!decide (s = r))) := ev_bin hx hy fun w => by
  simp only [eqGuard, binOp, Op.stringOp, str_eq]; rfl
theorem ev_cat (hx : opv K g x = some (.string s)) (hy : opv K g y = some (.string r)) (hb : s.size + r.size ≤ 9223372036854775807) : Ev P E N K g Hs (.binOp .add t x y t') ty (.string (s ++ r)) := ev_bin hx hy fun w => by
  have : ¬ (((s.size + r.size : Nat) : Int) > IntKind.i64.max) := by
    have : IntKind.i64.max = 9223372036854775807 := by decide
    omega
  simp only [eqGuard, binOp, Op.stringOp, if_neg this]; rfl
theorem ba_beq (s r : ByteArray) : ((s == r) = true) ↔ s = r := by
  have e : (s == r) = (s.data == r.data) := by
    cases s; cases r; rfl
  rw [e, beq_iff_eq]
  cases s; cases r; simp
/-- Two values of a type, held against each other by '=='. -/
def EQ (P : Program) (t : TypeId) (u v : Value) (r : Bool) : Prop := ∀ d w, (Op.equalIn (d + 1) t u v).run P w = .ok r w
theorem EQ.run {u v : Value} {b : Bool} (h : EQ P t u v b) (w : World) : (Op.equal t u v).run P w = .ok b w := h 9999 w
theorem EQ.bool {p q : Bool} (hu : UN P t .bool) : EQ P t (.bool p) (.bool q) (p == q) := fun d w => by
  simp [Op.equalIn, Sem.run_bind, hu.run]
theorem EQ.int (hu : UN P t (.int k')) : EQ P t (.int k i) (.int k j) (decide (i = j)) := fun d w => by
  simp [Op.equalIn, Sem.run_bind, hu.run]; rfl
theorem EQ.str (hu : UN P t .string) : EQ P t (.string s) (.string r) (decide (s = r)) := fun d w => by
  simp [Op.equalIn, Sem.run_bind, hu.run]
  rw [Bool.eq_iff_iff, ba_beq]; simp
theorem EQ.ptr {p : Option Addr} {e : TypeId} (hu : UN P t (.pointer e)) : EQ P t (.pointer p) (.pointer none) p.isNone := fun d w => by
  cases p <;> simp [Op.equalIn, Sem.run_bind, hu.run]
theorem EQ.sl {p : Option Addr} {n c : Nat} {e : TypeId} (hu : UN P t (.slice e)) : EQ P t (.slice p n c) (.slice none 0 0) p.isNone := fun d w => by
  cases p <;> simp [Op.equalIn, Sem.run_bind, hu.run]
theorem EQ.mp {p : Option Nat} {e e' : TypeId} (hu : UN P t (.map e e')) : EQ P t (.map p) (.map none) p.isNone := fun d w => by
  cases p <;> simp [Op.equalIn, Sem.run_bind, hu.run]
/-- Values that are compared by their type's rule, and are no aggregates. -/
def plainEq : Value → Bool
  | .int .. | .string _ | .float .. | .complex .. | .agg _ | .nilIface | .iface .. => false
  | _ => true
theorem ev_eq {u v : Value} {b : Bool} (hx : opv K g x = some u) (hy : opv K g y = some v) (hq : EQ P t u v b) (hp : plainEq u = true) : Ev P E N K g Hs (.binOp .eql t x y t') ty (.bool b) := ev_bin hx hy fun w => by
  have := hq.run w
  cases u <;> simp [plainEq] at hp <;> simp [eqGuard, binOp, this]
theorem ev_ne {u v : Value} {b : Bool} (hx : opv K g x = some u) (hy : opv K g y = some v) (hq : EQ P t u v b) (hp : plainEq u = true) : Ev P E N K g Hs (.binOp .neq t x y t') ty (.bool (!b)) := ev_bin hx hy fun w => by
  have := hq.run w
  cases u <;> simp [plainEq] at hp <;> simp [eqGuard, binOp, this]
/-- Structs and arrays. -/
theorem ev_eqA {us vs : Array Value} {b : Bool} (hx : opv K g x = some (.agg us)) (hy : opv K g y = some (.agg vs)) (hq : EQ P t (.agg us) (.agg vs) b) (hg : P.eqGuardType P.depth t = false) : Ev P E N K g Hs (.binOp .eql t x y t') ty (.bool b) := ev_bin hx hy fun w => by
  have := hq.run w
  simp [eqGuard, binOp, this, hg, Sem.run_bind]
theorem ev_neA {us vs : Array Value} {b : Bool} (hx : opv K g x = some (.agg us)) (hy : opv K g y = some (.agg vs)) (hq : EQ P t (.agg us) (.agg vs) b) (hg : P.eqGuardType P.depth t = false) : Ev P E N K g Hs (.binOp .neq t x y t') ty (.bool (!b)) := ev_bin hx hy fun w => by
  have := hq.run w
  simp [eqGuard, binOp, this, hg, Sem.run_bind]

/-! conversions between whole numbers -/
theorem ev_convw {src dst : TypeId} (hs : ∃ d, UN P src d) (hd : UN P dst (.int k')) (hx : opv K g x = some (.int k i)) : Ev P E N K g Hs (.convert src dst x) ty (.int k' (k'.wrap i)) := fun a w hk hg _ d pos af gd => by
  obtain ⟨d0, hs⟩ := hs
  have : (convert src dst (.int k i)).run P w = .ok (.int k' (k'.wrap i)) w := by
    simp only [convert, Sem.run_bind, hs.run, hd.run, Result.andThen_ok]
    cases d0 <;> simp [Conv.intToInt]
  simp only [execOp, opv_eval hk hg hx, Sem.run_bind, this]; rfl

/-! built-in functions that only reckon -/
theorem ev_builtin {b : Builtin} {args : List Operand} {ts : Array TypeId} {vs : List Value} {r : Value} (ha : opvs K g args = some vs)
    (hr : ∀ w cs, (builtin b ts ty cs vs.toArray).run P w = .ok (.value r) w) : Ev P E N K g Hs (.call { callee := .builtin b, args := args.toArray, argTypes := ts }) ty r := fun a w hk hg _ d pos af gd => by
  have e := opvs_eval hk hg args vs ha
  have e2 : args.toArray.map a.eval = vs.toArray := by rw [List.map_toArray, e]
  simp only [execOp, resolve, e2, Sem.run_bind, Sem.run_pure, Result.andThen_ok, invoke]
  exact hr w _
theorem ev_lens (hu : UN P t .string) (hx : opv K g x = some (.string s)) : Ev P E N K g Hs (.call { callee := .builtin .len, args := #[x], argTypes := #[t] }) ty (.int .i64 s.size) :=
  ev_builtin (args := [x]) (vs := [.string s]) (by simp [opvs, hx]) fun w cs => by
    simp [builtin, Builtin.len_, Sem.run_bind, hu.run, goInt]
theorem ev_lenl {e : TypeId} {ad : Option Addr} {n c : Nat} (hu : UN P t (.slice e)) (hx : opv K g x = some (.slice ad n c)) : Ev P E N K g Hs (.call { callee := .builtin .len, args := #[x], argTypes := #[t] }) ty (.int .i64 n) :=
  ev_builtin (args := [x]) (vs := [.slice ad n c]) (by simp [opvs, hx]) fun w cs => by
    simp [builtin, Builtin.len_, Sem.run_bind, hu.run, goInt]
theorem ev_min (hx : opv K g x = some (.int k i)) (hy : opv K g y = some (.int k j)) : Ev P E N K g Hs (.call { callee := .builtin .min, args := #[x, y], argTypes := #[t, t'] }) ty (.int k (min i j)) :=
  ev_builtin (args := [x, y]) (vs := [.int k i, .int k j]) (by simp [opvs, hx, hy]) fun w cs => by
    have : (if j < i then j else i) = min i j := by omega
    simp [builtin, Builtin.min_, Builtin.min2, this]
theorem ev_max (hx : opv K g x = some (.int k i)) (hy : opv K g y = some (.int k j)) : Ev P E N K g Hs (.call { callee := .builtin .max, args := #[x, y], argTypes := #[t, t'] }) ty (.int k (max i j)) :=
  ev_builtin (args := [x, y]) (vs := [.int k i, .int k j]) (by simp [opvs, hx, hy]) fun w cs => by
    have : (if i < j then j else i) = max i j := by omega
    have h2 : (if j > i then j else i) = max i j := by omega
    simp [builtin, Builtin.max_, Builtin.max2, this, h2]

/-! strings: a byte, a part -/
/-- Byte i of a string. -/
def bt (s : ByteArray) (i : Int) : Int := ((s.data[i.toNat]?).getD 0).toNat
theorem bt_range (s : ByteArray) (i : Int) : 0 ≤ bt s i ∧ bt s i ≤ 255 := by
  unfold bt
  have := ((s.data[i.toNat]?).getD 0).toNat_lt
  omega
theorem ev_ix (hu : UN P t .string) (hx : opv K g x = some (.string s)) (hy : opv K g y = some (.int k i)) (h0 : 0 ≤ i) (h1 : i < s.size) : Ev P E N K g Hs (.index t x y) ty (.int .u8 (bt s i)) := fun a w hk hg _ d pos af gd => by
  have h2 : i.toNat < s.size := by omega
  have : (Instr.index t (.string s) (.int k i)).run P w = .ok (.int .u8 (bt s i)) w := by
    have e : s[i.toNat]? = some s[i.toNat] := getElem?_pos s i.toNat h2
    have e2 : (s[i.toNat].toNat : Int) = bt s i := by
      unfold bt
      have : s.data[i.toNat]? = some s[i.toNat] := by
        rw [Array.getElem?_eq_getElem (by exact h2)]; rfl
      simp [this]
    simp [Instr.index, Sem.run_bind, asIntOf, hu.run, h0, e, e2]
  simp only [execOp, opv_eval hk hg hx, opv_eval hk hg hy, Sem.run_bind, this]; rfl
theorem ev_cut {lo hi : Option Operand} {l h : Nat} (hu : UN P t .string) (hx : opv K g x = some (.string s))
    (hl : match lo with | none => l = 0 | some o => opv K g o = some (.int .i64 l)) (hh : match hi with | none => h = s.size | some o => opv K g o = some (.int .i64 h)) (h1 : l ≤ h) (h2 : h ≤ s.size) :
    Ev P E N K g Hs (.slice t x lo hi none) ty (.string (s.extract l h)) := fun a w hk hg _ d pos af gd => by
  have e1 : (Instr.slice t (.string s) (lo.map a.eval) (hi.map a.eval) none).run P w = .ok (.string (s.extract l h)) w := by
    cases lo <;> cases hi <;> simp only at hl hh
    · subst hl hh
      simp [Instr.slice, Sem.run_bind, hu.run, Instr.sliceBounds]
    · subst hl
      have := opv_eval hk hg hh
      simp [Instr.slice, Sem.run_bind, hu.run, Instr.sliceBounds, this, Instr.sliceBound, asIntOf, h2]
    · subst hh
      have := opv_eval hk hg hl
      simp [Instr.slice, Sem.run_bind, hu.run, Instr.sliceBounds, this, Instr.sliceBound, asIntOf, h1]
    · have e3 := opv_eval hk hg hl
      have e4 := opv_eval hk hg hh
      simp [Instr.slice, Sem.run_bind, hu.run, Instr.sliceBounds, e3, e4, Instr.sliceBound, asIntOf, h1, h2]
  have e2 : (Instr.sliceAt t (.string s) (lo.map a.eval) (hi.map a.eval) none).run P w = .ok (.string (s.extract l h)) w := by
    simp only [Instr.sliceAt, Sem.run_bind, hu.run, Result.andThen_ok]
    exact e1
  simp only [execOp, opv_eval hk hg hx, Sem.run_bind, Option.map_none, e2]; rfl

/-! a choice between two -/
theorem ev_pick {c a b : Operand} {cs : Nat} {p q r : Bool} (hc : opv K none c = some (.bool p)) (hcs : c = .tmp cs) (ha : opv K (some (cs, true)) a = some (.bool q)) (hb : opv K (some (cs, false)) b = some (.bool r)) :
    Ev P E N K none Hs (.pick c a b) ty (.bool (bif p then q else r)) := fun ac w hk hg _ d pos af gd => by
  have e1 := opv_eval hk hg hc
  have hsl : slot ac cs = .bool p := by subst hcs; exact e1
  have : (asBool (Value.bool p)).run P w = .ok p w := rfl
  simp only [execOp, e1, Sem.run_bind, this, Result.andThen_ok, Sem.run_pure]
  cases p with
  | true =>
    have := opv_eval (g := some (cs, true)) hk (by intro s b h; cases h; exact hsl) ha
    simp [this]
  | false =>
    have := opv_eval (g := some (cs, false)) hk (by intro s b h; cases h; exact hsl) hb
    simp [this]
end
end Go.Sx
