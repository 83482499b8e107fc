/- Scripts: what is cut, what is wrong of them; plain functions. -/
import Derived.Test.YtebjpeonbfhdhaaGreatSp2
namespace Go.Proofs.YtebjpeonbfhdhaaGreat
open Go Go.Sx
def Arm.few (a : Arm) : Arm := ⟨bCut a.pattern 70, a.to⟩
def Op.few (o : Op) : Op := { o with text := bCut o.text 300, arms := (o.arms.take 10).map Arm.few }
def Prog.few (p : Prog) (m : Nat) : Prog := { p with name := bCut p.name 20, ops := (p.ops.take m).map Op.few }
theorem Arm.few_ok {x : Arm} (h : x.ok) : x.few.ok := ⟨Nat.le_trans (bCut_le _ _) h.1, h.2⟩
theorem Op.few_ok {x : Op} (h : x.ok) : x.few.ok := ⟨h.1, Nat.le_trans (bCut_le _ _) h.2.1, h.2.2.1, h.2.2.2.1, h.2.2.2.2.1, h.2.2.2.2.2⟩
theorem Prog.few_ok {x : Prog} {m : Nat} (h : x.ok) : (x.few m).ok := ⟨Nat.le_trans (bCut_le _ _) h.1, h.2.1, h.2.2⟩
theorem map_snoc {α β : Type} (f : α → β) {l : List α} {k : Nat} {x : α} (h : l[k]? = some x) : (l.take (k + 1)).map f = (l.take k).map f ++ [f x] := by
  rw [List.take_add_one, List.map_append, h]; rfl
theorem map_all {α β : Type} (f : α → β) {l : List α} {m k : Nat} (h : k ≤ l.length) (hm : k ≤ m) (h2 : l.length ≤ k ∨ m ≤ k) : (l.take k).map f = (l.take m).map f := by
  rcases h2 with h2 | h2
  · rw [List.take_of_length_le h2, List.take_of_length_le (by omega)]
  · rw [show k = m by omega]
theorem map_len {α β : Type} (f : α → β) {l : List α} {k : Nat} (h : k ≤ l.length) : ((l.take k).map f).length = k := by simp; omega

theorem size_zero (s : ByteArray) : s.size = 0 ↔ s = ⟨#[]⟩ := by
  constructor
  · intro h
    cases s with | mk d => simp only [ByteArray.size] at h; simp [Array.eq_empty_of_size_eq_zero h]
  · rintro rfl; rfl
/-! ### Setups -/
def inB (n most : Int) : Bool := decide (1 ≤ n ∧ n ≤ most)
def Setup.good (s : Setup) : Bool := decide ((1 ≤ s.live ∧ s.live ≤ 1024) ∧ (1 ≤ s.ring ∧ s.ring ≤ 4096) ∧ (1 ≤ s.win ∧ s.win ≤ 4096) ∧ (1 ≤ s.out ∧ s.out ≤ 4096) ∧ (1 ≤ s.quantum ∧ s.quantum ≤ 1000000) ∧ (1 ≤ s.visits ∧ s.visits ≤ 64))

/-! ### Names -/
def nameB (b : Int) : Bool := decide ((97 ≤ b ∧ b ≤ 122) ∨ (48 ≤ b ∧ b ≤ 57))
def allB (f : Int → Bool) (s : ByteArray) (n : Nat) : Bool := (List.range n).all fun i => f (bt s i)
theorem allB_succ (f : Int → Bool) (s : ByteArray) (n : Nat) : allB f s (n + 1) = (allB f s n && f (bt s n)) := by
  simp [allB, List.range_succ]
theorem allB_false {f : Int → Bool} {s : ByteArray} {k n : Nat} (hk : k < n) (h : f (bt s k) = false) : allB f s n = false := by
  simp only [allB, List.all_eq_false, List.mem_range]
  exact ⟨k, hk, by simp [h]⟩
/-- A name: 1 to 16 letters and digits, a letter first. -/
def isName (s : ByteArray) : Bool := decide (0 < s.size ∧ s.size ≤ 16 ∧ 97 ≤ bt s 0) && allB nameB s s.size

/-! ### Errors of the first that has one -/
def errOf {α : Type} (f : α → Int) : List α → Int
  | [] => 0
  | x :: l => if f x ≠ 0 then f x else errOf f l
theorem errOf_append {α : Type} (f : α → Int) (l m : List α) : errOf f (l ++ m) = if errOf f l ≠ 0 then errOf f l else errOf f m := by
  induction l with
  | nil => simp [errOf]
  | cons x l ih =>
    by_cases h : f x = 0
    · simp [errOf, h, ih]
    · simp [errOf, h]
theorem errOf_snoc {α : Type} {f : α → Int} {l : List α} {k : Nat} {x : α} (h : l[k]? = some x) (h0 : errOf f (l.take k) = 0) : errOf f (l.take (k + 1)) = f x := by
  rw [List.take_add_one, errOf_append, h0, h]
  show (if f x ≠ 0 then f x else 0) = f x
  split
  · rfl
  · rename_i hn; simp at hn; exact hn.symm
theorem errOf_hit {α : Type} {f : α → Int} {l : List α} {k : Nat} {x : α} (h : l[k]? = some x) (h0 : errOf f (l.take k) = 0) (hx : f x ≠ 0) : errOf f l = f x := by
  have e : l = l.take (k + 1) ++ l.drop (k + 1) := (List.take_append_drop _ _).symm
  rw [e, errOf_append, errOf_snoc h h0, if_pos hx]
theorem errOf_i64 {α : Type} {f : α → Int} {l : List α} (h : ∀ x ∈ l, i64 (f x)) : i64 (errOf f l) := by
  induction l with
  | nil => exact i64_lit 0 (by decide)
  | cons x l ih =>
    unfold errOf; split
    · exact h x (List.mem_cons_self ..)
    · exact ih fun y hy => h y (List.mem_cons_of_mem _ hy)

/-! ### Ops -/
def Prog.comes (p : Prog) (to : Int) : Bool := decide (0 ≤ to ∧ to ≤ p.ops.length)
def Op.bareB (o : Op) : Bool := !decide ((o.kind ≠ 1 ∧ o.text ≠ ⟨#[]⟩) ∨ (o.kind ≠ 2 ∧ o.kind ≠ 4 ∧ o.n ≠ 0) ∨ (o.kind ≠ 3 ∧ o.to ≠ 0) ∨ (o.kind ≠ 2 ∧ (o.arms ≠ [] ∨ o.onTimeout ≠ 0 ∨ o.onEof ≠ 0)))
/-- What is wrong of an arm; pe: of a pattern. -/
def armErr (pe : ByteArray → Int) (p : Prog) (a : Arm) : Int :=
  if 64 < a.pattern.size then 4 else if pe a.pattern ≠ 0 then pe a.pattern else if p.comes a.to = true then 0 else 13
def expErr (pe : ByteArray → Int) (p : Prog) (o : Op) : Int :=
  if o.n ≠ never ∧ (o.n < 0 ∨ 1000000000000 < o.n) then 12 else if 8 < o.arms.length then 4
  else if errOf (armErr pe p) o.arms ≠ 0 then errOf (armErr pe p) o.arms
  else if (o.onTimeout ≠ -1 ∧ p.comes o.onTimeout = false) ∨ (o.onEof ≠ -1 ∧ p.comes o.onEof = false) then 13 else 0
def opErr (pe : ByteArray → Int) (p : Prog) (o : Op) : Int :=
  if o.kind < 1 ∨ 6 < o.kind then 11 else if o.bareB = false then 2
  else if o.kind = 1 ∧ o.text = ⟨#[]⟩ then 9 else if o.kind = 1 ∧ 256 < o.text.size then 4
  else if o.kind = 2 then expErr pe p o
  else if o.kind = 3 ∧ p.comes o.to = false then 13
  else if o.kind = 4 ∧ (o.n < 0 ∨ 1000000000000 < o.n) then 12 else 0
def wrongE (pe : ByteArray → Int) (p : Prog) : Int :=
  if isName p.name = false then 10
  else if (p.deadline ≠ never ∧ (p.deadline < 1 ∨ 1000000000000 < p.deadline)) ∨ p.jumps < 0 ∨ 1000 < p.jumps then 12
  else if 200 < p.ops.length then 4 else errOf (opErr pe p) p.ops
def goodP (pe : ByteArray → Int) (p : Prog) : Bool := decide (wrongE pe p = 0)
end Go.Proofs.YtebjpeonbfhdhaaGreat
