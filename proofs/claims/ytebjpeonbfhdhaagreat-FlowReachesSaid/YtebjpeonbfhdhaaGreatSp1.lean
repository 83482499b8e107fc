/- What the small layers reckon, as plain functions. -/
import Derived.Test.YtebjpeonbfhdhaaGreatData
namespace Go.Proofs.YtebjpeonbfhdhaaGreat
open Go Go.Sx
abbrev never : Int := 9223372036854775807
def tOwn (t : Int) : Int := max t 0
def tAdd (t d : Int) : Int := if never - tOwn d ≤ tOwn t then never else tOwn t + tOwn d
def tDue (a n : Int) : Bool := bif !decide (a = never) then decide (tOwn a ≤ tOwn n) else false
def tLeft (a n : Int) : Int := if tOwn a = never then never else if tOwn a ≤ tOwn n then 0 else tOwn a - tOwn n
def dBehind (now n : Int) : Int := if n = never then never else tAdd now n
theorem tOwn_b {t : Int} (h : i64 t) : 0 ≤ tOwn t ∧ tOwn t ≤ 9223372036854775807 := by unfold tOwn; unfold i64 at h; omega
theorem i64_lit (n : Int) (h : -9223372036854775808 ≤ n ∧ n ≤ 9223372036854775807) : i64 n := h
theorem tAdd_b {t d : Int} (h : i64 t) (k : i64 d) : 0 ≤ tAdd t d ∧ tAdd t d ≤ 9223372036854775807 := by
  have := tOwn_b h; have := tOwn_b k; unfold tAdd never; split <;> omega
def tLeast (l : List Int) : Int := l.foldl (fun o t => min o (tOwn t)) never
theorem tLeast_snoc {l : List Int} {k : Nat} {x : Int} (h : l[k]? = some x) : tLeast (l.take (k + 1)) = min (tLeast (l.take k)) (tOwn x) := by
  unfold tLeast
  rw [List.take_add_one, List.foldl_append, h]; rfl
theorem tLeast_b (l : List Int) : 0 ≤ tLeast l ∧ tLeast l ≤ never := by
  have : ∀ (l : List Int) (o : Int), 0 ≤ o → o ≤ never → 0 ≤ l.foldl (fun o t => min o (tOwn t)) o ∧ l.foldl (fun o t => min o (tOwn t)) o ≤ never := by
    intro l
    induction l with
    | nil => intro o h0 h1; exact ⟨h0, h1⟩
    | cons x l ih => intro o h0 h1; exact ih _ (by simp only [tOwn]; omega) (by simp only [tOwn]; omega)
  exact this l never (by decide) (by decide)
def Due.begin (now last : Int) : Due := ⟨never, dBehind now last, never⟩
def Due.wait (d : Due) (now n : Int) : Due := { d with till := dBehind now n }
def Due.rest (d : Due) : Due := { d with till := never }
def Due.cuts (d : Due) (a : Int) : Due := { d with cut := tLeast [d.cut, a] }
def Due.first (d : Due) : Int := tLeast [d.till, d.limit, d.cut]
def Due.over (d : Due) (now : Int) : Int × Bool :=
  if tOwn d.limit ≤ tOwn d.cut ∧ tDue (tOwn d.limit) now = true then (3, true) else if tOwn d.cut < tOwn d.limit ∧ tDue (tOwn d.cut) now = true then (5, true) else (0, false)
def Due.woken (d : Due) (now : Int) : Bool := tDue d.till now
theorem dBehind_b {now n : Int} (h : i64 now) (k : i64 n) : i64 (dBehind now n) := by
  have := tAdd_b h k; have hn : never = 9223372036854775807 := rfl; unfold dBehind i64; split <;> omega
end Go.Proofs.YtebjpeonbfhdhaaGreat
