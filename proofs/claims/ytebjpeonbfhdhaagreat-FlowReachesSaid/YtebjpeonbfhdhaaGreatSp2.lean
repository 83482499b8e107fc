/- Events: what is cut, where two lists part. -/
import Derived.Test.YtebjpeonbfhdhaaGreatSp1
namespace Go.Proofs.YtebjpeonbfhdhaaGreat
open Go Go.Sx
def bCut (s : ByteArray) (most : Nat) : ByteArray := if most < s.size then s.extract 0 most else s
theorem bCut_le (s : ByteArray) (most : Nat) : (bCut s most).size ≤ s.size := by
  unfold bCut; split
  · rw [ByteArray.size_extract]; omega
  · exact Nat.le_refl _
def Event.few (x : Event) : Event := { x with bytes := bCut x.bytes 24 }
theorem Event.few_ok {x : Event} (h : x.ok) : x.few.ok := by
  unfold Event.ok Event.few at *
  have := bCut_le x.bytes 24
  simp only
  refine ⟨?_, ?_, ?_, ?_, ?_, ?_, ?_, ?_, ?_, ?_, ?_, ?_⟩ <;> first | exact h.1 | exact h.2.1 | exact h.2.2.1 | exact h.2.2.2.1 | exact Nat.le_trans this h.2.2.2.2.1 | exact h.2.2.2.2.2.1 | exact h.2.2.2.2.2.2.1 | exact h.2.2.2.2.2.2.2.1 | exact h.2.2.2.2.2.2.2.2.1 | exact h.2.2.2.2.2.2.2.2.2.1 | exact h.2.2.2.2.2.2.2.2.2.2.1 | exact h.2.2.2.2.2.2.2.2.2.2.2
def fewE (l : List Event) (m : Nat) : List Event := (l.take m).map Event.few
theorem fewE_snoc {l : List Event} {k : Nat} {x : Event} (h : l[k]? = some x) : fewE l (k + 1) = fewE l k ++ [x.few] := by
  unfold fewE; rw [List.take_add_one, List.map_append, h]; rfl
theorem fewE_len (l : List Event) (m : Nat) : (fewE l m).length = min m l.length := by simp [fewE]
theorem fewE_all {l : List Event} {m k : Nat} (h : k ≤ l.length) (hm : k ≤ m) (h2 : l.length ≤ k ∨ m ≤ k) : fewE l k = fewE l m := by
  unfold fewE
  rcases h2 with h2 | h2
  · rw [List.take_of_length_le h2, List.take_of_length_le (by omega)]
  · rw [show k = m by omega]
/-- Where two lists part. -/
def partAt {α : Type} [DecidableEq α] : List α → List α → Option Nat
  | [], [] => none
  | x :: a, y :: b => if x = y then (partAt a b).map (· + 1) else some 0
  | _, _ => some 0
section
variable {α : Type} [DecidableEq α]
theorem partAt_at : ∀ {a b : List α} {i : Nat} {x y : α}, a.take i = b.take i → a[i]? = some x → b[i]? = some y → x ≠ y → partAt a b = some i
  | [], _, _, _, _, _, h, _, _ => by simp at h
  | _ :: _, [], _, _, _, _, _, h, _ => by simp at h
  | u :: a, v :: b, 0, x, y, _, h1, h2, h3 => by simp at h1 h2; subst h1 h2; simp [partAt, h3]
  | u :: a, v :: b, i + 1, x, y, h, h1, h2, h3 => by
    simp at h h1 h2
    simp [partAt, h.1, partAt_at h.2 h1 h2 h3]
theorem partAt_eq : ∀ {a b : List α}, partAt a b = none ↔ a = b
  | [], [] => by simp [partAt]
  | [], _ :: _ => by simp [partAt]
  | _ :: _, [] => by simp [partAt]
  | u :: a, v :: b => by
    by_cases e : u = v
    · simp [partAt, e, partAt_eq (a := a) (b := b)]
    · simp [partAt, e]
theorem partAt_end : ∀ {a b : List α} {i : Nat}, a.take i = b.take i → i = min a.length b.length → a.length ≠ b.length → partAt a b = some i
  | [], [], _, _, _, h => by simp at h
  | [], _ :: _, i, _, h, _ => by simp at h; simp [partAt, h]
  | _ :: _, [], i, _, h, _ => by simp at h; simp [partAt, h]
  | u :: a, v :: b, 0, _, h, _ => by simp at h
  | u :: a, v :: b, i + 1, h, h1, h2 => by
    simp at h h1 h2
    have : i = min a.length b.length := by omega
    simp [partAt, h.1, partAt_end h.2 this h2]
end
theorem take_snoc_eq {α : Type} {a b : List α} {i : Nat} {x y : α} (h : a.take i = b.take i) (h1 : a[i]? = some x) (h2 : b[i]? = some y) (e : x = y) : a.take (i + 1) = b.take (i + 1) := by
  rw [List.take_add_one, List.take_add_one, h, h1, h2, e]
def apartE (a b : List Event) : Int × Bool := match partAt a b with
  | none => (0, false)
  | some k => (k, true)
def apartR (a b : List Event) : Int := match partAt a b with
  | none => -1
  | some k => k
end Go.Proofs.YtebjpeonbfhdhaaGreat
