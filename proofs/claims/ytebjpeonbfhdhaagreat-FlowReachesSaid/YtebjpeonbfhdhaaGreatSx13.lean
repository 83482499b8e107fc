/- Words of 64 bits, bytes, arrays of four words. -/
import Derived.Test.YtebjpeonbfhdhaaGreatSx12
set_option linter.unusedSimpArgs false
set_option linter.unusedVariables false
namespace Go.Sx
open Go
abbrev W64 := BitVec 64
def uv (x : W64) : Value := .int .u64 (x.toNat : Int)
theorem uv_of (x : W64) : BitVec.ofInt 64 (x.toNat : Int) = x := by
  rw [BitVec.ofInt_natCast]; simp
theorem uv_in (x : W64) : IntKind.u64.wrap (x.toNat : Int) = x.toNat := IntWalk.u64_in _ (by have := x.isLt; omega)
theorem uv_wrap (n : Nat) : IntKind.u64.wrap (n : Int) = ((n % 18446744073709551616 : Nat) : Int) := by rw [IntKind.wrap_u64]; omega
section
variable {P : Program} {E : En} {N : Nat} {K : Kl} {g : Option (Nat × Bool)} {Hs : List Asn} {ty : TypeId} {Q : Exit → Act → World → Prop} {ops : Array Oper} {rest : List Oper} {pos : String} {af : Array Edge} {G : Act → World → Prop}
variable {x y : Operand} {t t' : TypeId} {a b : W64} {i j : Int} {k : IntKind}
theorem ev_or64 (hx : opv K g x = some (uv a)) (hy : opv K g y = some (uv b)) : Ev P E N K g Hs (.binOp .or t x y t') ty (uv (a ||| b)) := ev_bin hx hy fun w => by
  have e : BitVec.ofInt IntKind.u64.bits (a.toNat : Int) = a := uv_of a
  have e2 : BitVec.ofInt IntKind.u64.bits (b.toNat : Int) = b := uv_of b
  simp only [uv, eqGuard, binOp, Op.intBits, e, e2]
  have := uv_in (a ||| b)
  simp [Sem.run_bind]
  exact this
theorem ev_and64 (hx : opv K g x = some (uv a)) (hy : opv K g y = some (uv b)) : Ev P E N K g Hs (.binOp .and t x y t') ty (uv (a &&& b)) := ev_bin hx hy fun w => by
  have e : BitVec.ofInt IntKind.u64.bits (a.toNat : Int) = a := uv_of a
  have e2 : BitVec.ofInt IntKind.u64.bits (b.toNat : Int) = b := uv_of b
  simp only [uv, eqGuard, binOp, Op.intBits, e, e2]
  have := uv_in (a &&& b)
  simp [Sem.run_bind]
  exact this
theorem ev_not64 (hx : opv K g x = some (uv a)) : Ev P E N K g Hs (.unOp .xor t x) ty (uv (~~~ a)) := fun ac w hk hg _ d pos af gd => by
  have e2 : BitVec.ofInt IntKind.u64.bits (a.toNat : Int) = a := uv_of a
  have e1 : BitVec.ofInt IntKind.u64.bits IntKind.u64.max = BitVec.allOnes 64 := by show BitVec.ofInt 64 _ = _; decide
  have h : (Op.unary .xor (uv a)).run P w = .ok (uv (~~~ a)) w := by
    have hs : IntKind.u64.signed = false := rfl
    simp only [uv, Op.unary, Op.intBits, hs, Bool.false_eq_true, if_false, e1, e2]
    have h3 : BitVec.allOnes 64 ^^^ a = ~~~ a := by rw [BitVec.allOnes_xor]
    have := uv_in (~~~ a)
    rw [← h3] at this ⊢
    exact congrArg (fun z => Result.ok (Value.int .u64 z) w) this
  simp only [execOp, opv_eval hk hg hx, Sem.run_bind, h]; rfl
theorem ev_shl64 (hx : opv K g x = some (uv a)) (hy : opv K g y = some (.int k i)) (h0 : 0 ≤ i) (h1 : i < 64) : Ev P E N K g Hs (.binOp .shl t x y t') ty (uv (a <<< i.toNat)) := ev_bin hx hy fun w => by
  have hm : min i.toNat IntKind.u64.bits = i.toNat := by have : IntKind.u64.bits = 64 := rfl; omega
  have e : ((a.toNat : Int) * 2 ^ i.toNat) = ((a.toNat * 2 ^ i.toNat : Nat) : Int) := by push_cast; rfl
  have e3 : IntKind.u64.wrap ((a.toNat : Int) * 2 ^ i.toNat) = ((a <<< i.toNat).toNat : Int) := by
    rw [e, uv_wrap, BitVec.toNat_shiftLeft, Nat.shiftLeft_eq]
  simp only [uv, eqGuard, binOp, Op.shift, if_neg (by omega : ¬ i < 0), hm, e3]
  simp
theorem ev_shr64 (hx : opv K g x = some (uv a)) (hy : opv K g y = some (.int k i)) (h0 : 0 ≤ i) (h1 : i < 64) : Ev P E N K g Hs (.binOp .shr t x y t') ty (uv (a >>> i.toNat)) := ev_bin hx hy fun w => by
  have hm : min i.toNat IntKind.u64.bits = i.toNat := by have : IntKind.u64.bits = 64 := rfl; omega
  have e3 : (a.toNat : Int).fdiv (2 ^ i.toNat) = ((a >>> i.toNat).toNat : Int) := by
    rw [BitVec.toNat_ushiftRight, Nat.shiftRight_eq_div_pow, Int.fdiv_eq_ediv_of_nonneg _ (by exact_mod_cast Nat.zero_le _)]
    push_cast; rfl
  simp only [uv, eqGuard, binOp, Op.shift, if_neg (by omega : ¬ i < 0), hm, e3]
  simp
theorem ev_add64 (hx : opv K g x = some (uv a)) (hy : opv K g y = some (uv b)) : Ev P E N K g Hs (.binOp .add t x y t') ty (uv (a + b)) := by
  have := ev_addw (P := P) (E := E) (N := N) (Hs := Hs) (t := t) (t' := t') (ty := ty) hx hy
  have e : IntKind.u64.wrap ((a.toNat : Int) + b.toNat) = ((a + b).toNat : Int) := by
    rw [show (a.toNat : Int) + b.toNat = ((a.toNat + b.toNat : Nat) : Int) by push_cast; rfl, uv_wrap, BitVec.toNat_add]
  rw [e] at this; exact this
theorem ev_sub64 (hx : opv K g x = some (uv a)) (hy : opv K g y = some (uv b)) : Ev P E N K g Hs (.binOp .sub t x y t') ty (uv (a - b)) := by
  have := ev_subw (P := P) (E := E) (N := N) (Hs := Hs) (t := t) (t' := t') (ty := ty) hx hy
  have e : IntKind.u64.wrap ((a.toNat : Int) - b.toNat) = ((a - b).toNat : Int) := by
    have h1 := a.isLt; have h2 := b.isLt
    rw [IntKind.wrap_u64, BitVec.toNat_sub]; omega
  rw [e] at this; exact this
theorem ev_mul64 (hx : opv K g x = some (uv a)) (hy : opv K g y = some (uv b)) : Ev P E N K g Hs (.binOp .mul t x y t') ty (uv (a * b)) := by
  have := ev_mulw (P := P) (E := E) (N := N) (Hs := Hs) (t := t) (t' := t') (ty := ty) hx hy
  have e : IntKind.u64.wrap ((a.toNat : Int) * b.toNat) = ((a * b).toNat : Int) := by
    rw [show (a.toNat : Int) * b.toNat = ((a.toNat * b.toNat : Nat) : Int) by push_cast; rfl, uv_wrap, BitVec.toNat_mul]
  rw [e] at this; exact this
theorem ev_quo64 (hx : opv K g x = some (uv a)) (hy : opv K g y = some (uv b)) (h : 0 < b.toNat) : Ev P E N K g Hs (.binOp .quo t x y t') ty (uv (a / b)) := ev_bin hx hy fun w => by
  have hj : (b.toNat : Int) ≠ 0 := by omega
  have := IntWalk.u64_quo a.toNat b.toNat ⟨by omega, by have := a.isLt; omega, by omega⟩
  have e : ((a / b).toNat : Int) = (a.toNat : Int) / b.toNat := by rw [BitVec.toNat_udiv]; push_cast; rfl
  have h3 : ((a / b).toNat : Int) = ((a.toNat : Int).tdiv b.toNat) := by rw [e, Int.tdiv_eq_ediv_of_nonneg (by omega)]
  rw [← e] at this
  have e4 : (binOp .quo t (uv a) (uv b)).run P w = .ok (uv (a / b)) w := by
    simp only [uv, binOp, Op.intDiv, if_neg hj, this]
    simp
  simp only [eqGuard, Sem.run_bind]
  simpa using e4
theorem ev_rem64 (hx : opv K g x = some (uv a)) (hy : opv K g y = some (uv b)) (h : 0 < b.toNat) : Ev P E N K g Hs (.binOp .rem t x y t') ty (uv (a % b)) := ev_bin hx hy fun w => by
  have hj : (b.toNat : Int) ≠ 0 := by omega
  have := IntWalk.rem_in a.toNat b.toNat (by omega)
  have e : ((a % b).toNat : Int) = (a.toNat : Int) % b.toNat := by rw [BitVec.toNat_umod]; push_cast; rfl
  rw [← e] at this
  have e4 : (binOp .rem t (uv a) (uv b)).run P w = .ok (uv (a % b)) w := by
    simp only [uv, binOp, Op.intDiv, if_neg hj, this]
    simp
  simp only [eqGuard, Sem.run_bind]
  simpa using e4
theorem uv_inj {a b : W64} : ((a.toNat : Int) = b.toNat) ↔ a = b := by
  rw [Int.natCast_inj, ← BitVec.toNat_eq]
theorem ev_eq64 (hx : opv K g x = some (uv a)) (hy : opv K g y = some (uv b)) : Ev P E N K g Hs (.binOp .eql t x y t') ty (.bool (decide (a = b))) := by
  have := ev_eqi (P := P) (E := E) (N := N) (Hs := Hs) (t := t) (t' := t') (ty := ty) hx hy
  rwa [decide_eq_decide.2 uv_inj] at this
theorem ev_ne64 (hx : opv K g x = some (uv a)) (hy : opv K g y = some (uv b)) : Ev P E N K g Hs (.binOp .neq t x y t') ty (.bool (!decide (a = b))) := by
  have := ev_nei (P := P) (E := E) (N := N) (Hs := Hs) (t := t) (t' := t') (ty := ty) hx hy
  rwa [decide_eq_decide.2 uv_inj] at this
/-- Numbers that are not below 0, of any kind that holds them. -/
theorem ev_quo8 (hx : opv K g x = some (.int .u8 i)) (hy : opv K g y = some (.int .u8 j)) (h0 : 0 ≤ i) (h1 : i ≤ 255) (h2 : 1 ≤ j) : Ev P E N K g Hs (.binOp .quo t x y t') ty (.int .u8 (i / j)) := ev_bin hx hy fun w => by
  have hj : j ≠ 0 := by omega
  simp [eqGuard, binOp, Op.intDiv, hj, IntWalk.u8_quo i j ⟨h0, h1, h2⟩]
theorem ev_rem8 (hx : opv K g x = some (.int .u8 i)) (hy : opv K g y = some (.int .u8 j)) (h0 : 0 ≤ i) (h2 : 1 ≤ j) : Ev P E N K g Hs (.binOp .rem t x y t') ty (.int .u8 (i % j)) := ev_bin hx hy fun w => by
  have hj : j ≠ 0 := by omega
  simp [eqGuard, binOp, Op.intDiv, hj, IntWalk.rem_in i j h0]
theorem ev_conv {src dst : TypeId} {k' : IntKind} (hs : ∃ d, UN P src d) (hd : UN P dst (.int k')) (hx : opv K g x = some (.int k i)) (h : k'.wrap i = i) : Ev P E N K g Hs (.convert src dst x) ty (.int k' i) := by
  have := ev_convw (P := P) (E := E) (N := N) (Hs := Hs) (ty := ty) hs hd hx
  rwa [h] at this
end

section
variable {P : Program} {E : En} {N : Nat} {K : Kl} {g : Option (Nat × Bool)} {Hs : List Asn} {ty : TypeId}
/-- A part of a string, its ends told as numbers. -/
theorem ev_cutI {x : Operand} {t : TypeId} {s : ByteArray} {lo hi : Option Operand} {i j : Int} (hu : UN P t .string) (hx : opv K g x = some (.string s))
    (hl : match lo with | none => i = 0 | some o => opv K g o = some (.int .i64 i)) (hh : match hi with | none => j = s.size | some o => opv K g o = some (.int .i64 j)) (h0 : 0 ≤ i) (h1 : i ≤ j) (h2 : j ≤ s.size) :
    Ev P E N K g Hs (.slice t x lo hi none) ty (.string (s.extract i.toNat j.toNat)) :=
  ev_cut (l := i.toNat) (h := j.toNat) hu hx (by cases lo with | none => simp only at hl ⊢; omega | some o => simp only at hl ⊢; rw [hl, Int.toNat_of_nonneg h0]) (by cases hi with | none => simp only at hh ⊢; omega | some o => simp only at hh ⊢; rw [hh, Int.toNat_of_nonneg (by omega)]) (by omega) (by omega)
/-- An array's literal without parts. -/
theorem ev_buildA0 {t n e sz : Nat} {z : List Value} (hz : ZV P t z) (hu : UN P t (.array n e)) (hs : SZ P e sz) : Ev P E N K g Hs (.build t #[]) ty (.agg z.toArray) := fun a w hk hg _ d pos af gd => by
  obtain ⟨zv, hzr, hzc⟩ := hz w
  have : (Instr.build t #[]).run P w = .ok (.agg z.toArray) w := by
    simp only [Instr.build, Sem.run_bind, hzr, hu.run, hs w, Result.andThen_ok, Instr.fill, hzc]
    rfl
  simp only [execOp, Sem.run_bind]
  simp [this]
end
/-! ### Sets of bytes: four words -/
structure SetD where
  w0 : W64
  w1 : W64
  w2 : W64
  w3 : W64
  deriving DecidableEq, Inhabited
namespace SetD
def none : SetD := ⟨0#64, 0#64, 0#64, 0#64⟩
def cs (s : SetD) : List Value := [uv s.w0, uv s.w1, uv s.w2, uv s.w3]
def get (s : SetD) : Nat → W64
  | 0 => s.w0
  | 1 => s.w1
  | 2 => s.w2
  | _ => s.w3
def put (s : SetD) : Nat → W64 → SetD
  | 0, x => { s with w0 := x }
  | 1, x => { s with w1 := x }
  | 2, x => { s with w2 := x }
  | _, x => { s with w3 := x }
theorem ones (s : SetD) : Sx.ones s.cs := ⟨rfl, rfl, rfl, rfl, trivial⟩
theorem cs_get (s : SetD) {i : Nat} (h : i < 4) : s.cs[i]? = some (uv (s.get i)) := by
  match i, h with
  | 0, _ => rfl
  | 1, _ => rfl
  | 2, _ => rfl
  | 3, _ => rfl
theorem cs_put (s : SetD) {i : Nat} (h : i < 4) (x : W64) : s.cs.set i (uv x) = (s.put i x).cs := by
  match i, h with
  | 0, _ => rfl
  | 1, _ => rfl
  | 2, _ => rfl
  | 3, _ => rfl
theorem get_put (s : SetD) (i j : Nat) (hi : i < 4) (hj : j < 4) (x : W64) : (s.put i x).get j = if i = j then x else s.get j := by
  match i, hi, j, hj with
  | 0, _, 0, _ | 0, _, 1, _ | 0, _, 2, _ | 0, _, 3, _ | 1, _, 0, _ | 1, _, 1, _ | 1, _, 2, _ | 1, _, 3, _ | 2, _, 0, _ | 2, _, 1, _ | 2, _, 2, _ | 2, _, 3, _ | 3, _, 0, _ | 3, _, 1, _ | 3, _, 2, _ | 3, _, 3, _ => rfl
theorem ext_get {s t : SetD} (h : ∀ i < 4, s.get i = t.get i) : s = t := by
  have h0 := h 0 (by omega); have h1 := h 1 (by omega); have h2 := h 2 (by omega); have h3 := h 3 (by omega)
  cases s; cases t
  simp only [get] at h0 h1 h2 h3
  simp [h0, h1, h2, h3]
/-- Whether byte b is in a set. -/
def has (s : SetD) (b : Int) : Bool := (s.get (b / 64).toNat).getLsbD (b % 64).toNat
def with_ (s : SetD) (b : Int) : SetD := s.put (b / 64).toNat (s.get (b / 64).toNat ||| 1#64 <<< (b % 64).toNat)
def or (s t : SetD) : SetD := ⟨s.w0 ||| t.w0, s.w1 ||| t.w1, s.w2 ||| t.w2, s.w3 ||| t.w3⟩
def not (s : SetD) : SetD := ⟨~~~ s.w0, ~~~ s.w1, ~~~ s.w2, ~~~ s.w3⟩
theorem has_eq (s : SetD) (b : Int) : decide ((s.get (b / 64).toNat >>> (b % 64).toNat) &&& 1#64 = 1#64) = s.has b := by
  unfold has
  generalize s.get (b / 64).toNat = x
  generalize (b % 64).toNat = k
  rw [Bool.eq_iff_iff, decide_eq_true_eq]
  constructor
  · intro h
    have := congrArg (fun z => z.getLsbD 0) h
    simpa using this
  · intro h
    refine BitVec.eq_of_getLsbD_eq fun j hj => ?_
    rw [BitVec.getLsbD_and, BitVec.getLsbD_ushiftRight, BitVec.getLsbD_one]
    by_cases e : j = 0
    · subst e; simp [h]
    · simp [e]
theorem ext_has {s t : SetD} (h : ∀ b : Int, 0 ≤ b → b ≤ 255 → s.has b = t.has b) : s = t := by
  refine ext_get fun i hi => BitVec.eq_of_getLsbD_eq fun j hj => ?_
  have := h (64 * i + j) (by omega) (by omega)
  unfold has at this
  rwa [show ((64 * (i : Int) + j) / 64).toNat = i by omega, show ((64 * (i : Int) + j) % 64).toNat = j by omega] at this
theorem bit1 (i j : Nat) (hi : i < 64) (hj : j < 64) : (1#64 <<< i).getLsbD j = decide (i = j) := by
  rw [BitVec.getLsbD_shiftLeft]
  by_cases e : i = j
  · subst e; simp [hi]
  · rcases Nat.lt_or_gt_of_ne e with h | h
    · have h2 : ¬ (j < i) := by omega
      have : j - i ≠ 0 := by omega
      simp [h2, e, BitVec.getLsbD_one, this]
    · simp [h, e]
theorem has_with (s : SetD) (b c : Int) (hb : 0 ≤ b) (hb2 : b ≤ 255) (hc : 0 ≤ c) (hc2 : c ≤ 255) : (s.with_ b).has c = (s.has c || decide (b = c)) := by
  unfold has with_
  rw [get_put _ _ _ (by omega) (by omega)]
  by_cases e : (b / 64).toNat = (c / 64).toNat
  · rw [if_pos e, BitVec.getLsbD_or, bit1 _ _ (by omega) (by omega), e]
    congr 1
    rw [decide_eq_decide]; omega
  · rw [if_neg e]
    have : b ≠ c := fun h => e (by rw [h])
    simp [this]
theorem get_or (s t : SetD) (i : Nat) : (s.or t).get i = s.get i ||| t.get i := by
  unfold get or; match i with | 0 => rfl | 1 => rfl | 2 => rfl | _ + 3 => rfl
theorem get_not (s : SetD) (i : Nat) : s.not.get i = ~~~ s.get i := by
  unfold get not; match i with | 0 => rfl | 1 => rfl | 2 => rfl | _ + 3 => rfl
theorem has_or (s t : SetD) (b : Int) : (s.or t).has b = (s.has b || t.has b) := by simp [has, get_or]
theorem has_not (s : SetD) (b : Int) (h0 : 0 ≤ b) : s.not.has b = !s.has b := by
  unfold has; rw [get_not, BitVec.getLsbD_not]
  have : (b % 64).toNat < 64 := by omega
  simp [this]
theorem has_none (b : Int) : none.has b = false := by
  unfold has none get; split <;> simp
end SetD
theorem SetD.eq_iff (s t : SetD) : decide (s = t) = (decide (s.w0 = t.w0) && (decide (s.w1 = t.w1) && (decide (s.w2 = t.w2) && decide (s.w3 = t.w3)))) := by
  rw [Bool.eq_iff_iff]
  cases s; cases t
  simp
theorem EQk.arr4 {P : Program} {t e : Nat} (s u : SetD) (hu : UN P t (.array 4 e)) (he : UN P e (.int .u64)) (hz : SZ P e 1) : EQk P 2 t (.agg s.cs.toArray) (.agg u.cs.toArray) (decide (s = u)) := fun d w => by
  rw [show d + 2 = (d + 1) + 1 from rfl]
  have hq : ∀ (a b : W64), (Op.equalIn (d + 1) e (uv a) (uv b)).run P w = .ok (decide (a = b)) w := fun a b => by
    have := EQ.int (P := P) (t := e) (k := .u64) (k' := .u64) (i := (a.toNat : Int)) (j := (b.toNat : Int)) he d w
    rw [decide_eq_decide.2 uv_inj] at this; exact this
  generalize d + 1 = m at hq ⊢
  simp only [Op.equalIn, Sem.run_bind, hu.run, Result.andThen_ok, hz w]
  have hp : ∀ (x : SetD) (i : Nat) (h : i < 4), (part e x.cs.toArray (i * 1)).run P w = .ok (uv (x.get i)) w := fun x i h =>
    PA.one (P := P) (off := i * 1) he rfl (by rw [Nat.mul_one]; exact x.cs_get h) w
  rw [Std.Legacy.Range.forIn_eq_forIn_range']
  simp only [Std.Legacy.Range.size, Nat.sub_zero, Nat.add_sub_cancel, Nat.div_one, List.range'_succ, List.range'_zero, List.forIn_cons, List.forIn_nil]
  have q0 := hq s.w0 u.w0
  have q1 := hq s.w1 u.w1
  have q2 := hq s.w2 u.w2
  have q3 := hq s.w3 u.w3
  have s0 := hp s 0 (by omega)
  have s1 := hp s (0 + 1) (by omega)
  have s2 := hp s (0 + 1 + 1) (by omega)
  have s3 := hp s (0 + 1 + 1 + 1) (by omega)
  have u0 := hp u 0 (by omega)
  have u1 := hp u (0 + 1) (by omega)
  have u2 := hp u (0 + 1 + 1) (by omega)
  have u3 := hp u (0 + 1 + 1 + 1) (by omega)
  simp only [SetD.get] at s0 s1 s2 s3 u0 u1 u2 u3
  rw [SetD.eq_iff]
  generalize decide (s.w0 = u.w0) = p0 at q0 ⊢
  generalize decide (s.w1 = u.w1) = p1 at q1 ⊢
  generalize decide (s.w2 = u.w2) = p2 at q2 ⊢
  generalize decide (s.w3 = u.w3) = p3 at q3 ⊢
  cases p0
  · simp only [Sem.run_bind, s0, u0, q0, Result.andThen_ok, Bool.not_false, if_true, Sem.run_pure, Bool.false_and]
  · cases p1
    · simp only [Sem.run_bind, s0, u0, q0, s1, u1, q1, Result.andThen_ok, Bool.not_true, Bool.not_false, if_true, Bool.false_eq_true, if_false, Sem.run_pure, Bool.false_and, Bool.true_and]
    · cases p2
      · simp only [Sem.run_bind, s0, u0, q0, s1, u1, q1, s2, u2, q2, Result.andThen_ok, Bool.not_true, Bool.not_false, if_true, Bool.false_eq_true, if_false, Sem.run_pure, Bool.false_and, Bool.true_and]
      · cases p3 <;> simp only [Sem.run_bind, s0, u0, q0, s1, u1, q1, s2, u2, q2, s3, u3, q3, Result.andThen_ok, Bool.not_true, Bool.not_false, if_true, Bool.false_eq_true, if_false, Sem.run_pure, Bool.false_and, Bool.true_and]
section
variable {P : Program} {E : En} {N : Nat} {K : Kl} {g : Option (Nat × Bool)} {Hs : List Asn} {ty : TypeId} {Q : Exit → Act → World → Prop} {ops : Array Oper} {rest : List Oper} {pos : String} {af : Array Edge} {G : Act → World → Prop}
theorem Cell.set4 {s : SetD} {b t : Nat} {i : Nat} (hm : Mem (Sx.blk b s.cs t) Hs) (hi : i < 4) : Cell Hs ((⟨b, 0, none⟩ : Addr).add (i * 1)) (uv (s.get i)) := by
  rw [Nat.mul_one]; exact Cell.blk hm (s.cs_get hi)
/-- A store into an array of four words. -/
theorem At.st4 {x y : Operand} {t t' : TypeId} {ad : Addr} {b k : Nat} {s : SetD} {u : W64} {m : List Asn} (hz : SZ P t 1) (hx : opv K none x = some (.pointer (some ad))) (hy : opv K none y = some (uv u))
    (had : ad = (⟨b, 0, none⟩ : Addr).add (k * 1)) (hk : k < 4) (h : At E N K (blk b (s.put k u).cs t' :: m) (opsW P ops Q rest)) (hm : At1 Hs (blk b s.cs t') m := by repeat (first | with_reducible exact Go.Sx.At1.head _ _ | apply Go.Sx.At1.tail)) :
    At E N K Hs (opsW P ops Q (⟨none, .store t x y, ty, pos, af, none⟩ :: rest)) := by
  rw [Nat.mul_one, add_lit, Nat.zero_add] at had
  exact At.st1 hz hx hy had h hm rfl rfl hk (s.cs_put hk u)
end
end Go.Sx
