/- What the document tells of a pattern's text. -/
import Derived.Test.YtebjpeonbfhdhaaGreatSp8
namespace Go.Proofs.YtebjpeonbfhdhaaGreat
open Go Go.Sx
def leastI (l : List Item) : Nat := (l.filter fun x => !x.run).length
theorem leastI_snoc {l : List Item} {k : Nat} {x : Item} (h : l[k]? = some x) : leastI (l.take (k + 1)) = leastI (l.take k) + (if x.run = true then 0 else 1) := by
  unfold leastI
  rw [List.take_add_one, h, List.filter_append, List.length_append]
  congr 1
  cases hx : x.run <;> simp [List.filter, hx]
theorem leastI_le (l : List Item) : leastI l ≤ l.length := List.length_filter_le _ _
theorem leastI_zero (l : List Item) : leastI l = 0 ↔ l.all (·.run) = true := by
  unfold leastI
  rw [List.length_eq_zero_iff, List.filter_eq_nil_iff]
  simp
def chkR (p : ByteArray) : List Item × Int × Int := if (gParse p).2.2 = 0 ∧ (gParse p).1.all (·.run) = true then ([], 0, 9) else gParse p
theorem chkR_e (p : ByteArray) : (chkR p).2.2 = patErr p := by
  unfold chkR patErr
  by_cases h : (gParse p).2.2 = 0
  · by_cases h2 : (gParse p).1.all (·.run) = true
    · rw [if_pos ⟨h, h2⟩, if_neg (by simp [h]), if_pos h2]
    · rw [if_neg (fun x => h2 x.2), if_neg (by simp [h]), if_neg h2, h]
  · rw [if_neg (fun x => h x.1), if_pos h]
end Go.Proofs.YtebjpeonbfhdhaaGreat
