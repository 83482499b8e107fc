/- Which ops a script may reach; whether it may come back to one. -/
import Derived.Test.YtebjpeonbfhdhaaGreatSp13
namespace Go.Proofs.YtebjpeonbfhdhaaGreat
open Go Go.Sx
theorem walkF_len (p : Prog) : ∀ (n : Nat) (seen : List Bool) (st : List Int), (walkF p n seen st).length = seen.length := by
  intro n
  induction n with
  | zero => intro _ _; rfl
  | succ n ih =>
    intro seen st
    unfold walkF
    split
    · rfl
    · split
      · exact ih _ _
      · rw [ih]; simp
theorem walkP_len (p : Prog) (l : List Int) : (walkP p l).length = p.ops.length + 1 := by
  unfold walkP; rw [walkF_len]; simp
theorem bools_getD {l : List Bool} {k : Nat} (h : k < l.length) : (bools l)[k]? = some (.bool (l.getD k false)) := by
  simp [bools, List.getD_eq_getElem?_getD, h]
def reachK (w : List Bool) (k : Nat) : List Int := ((List.range k).filter fun k => w.getD k false).map fun (k : Nat) => (k : Int)
theorem reachK_t {w : List Bool} {k : Nat} (h : w.getD k false = true) : reachK w k ++ [(k : Int)] = reachK w (k + 1) := by
  unfold reachK; rw [List.range_succ, List.filter_append, List.map_append, show List.filter (fun k => w.getD k false) [k] = [k] by simp only [List.filter, h]]; rfl
theorem reachK_f {w : List Bool} {k : Nat} (h : w.getD k false = false) : reachK w k = reachK w (k + 1) := by
  unfold reachK; rw [List.range_succ, List.filter_append, List.map_append, show List.filter (fun k => w.getD k false) [k] = [] by simp only [List.filter, h]]; simp
theorem reachK_len (w : List Bool) (k : Nat) : (reachK w k).length ≤ k := by
  unfold reachK; rw [List.length_map]; have := List.length_filter_le (fun k => w.getD k false) (List.range k); simpa using this
theorem reachP_good {p : Prog} (h : goodP patErr p = true) : reachP p = reachK (walkP p [0]) (p.ops.length + 1) := by unfold reachP; rw [if_pos h]; rfl
def loopK (p : Prog) (k : Nat) : Bool := (walkP p [0]).getD k false && (walkP p (nextP p k)).getD k false
theorem loopsP_good {p : Prog} (h : goodP patErr p = true) {b : Bool} (hb : b = true ↔ ∃ k < p.ops.length + 1, loopK p k = true) : loopsP p = b := by
  rw [Bool.eq_iff_iff, hb]; unfold loopsP
  rw [h, Bool.true_and, List.any_eq_true]
  simp [loopK]
theorem zero_range (p : Prog) : ∀ z ∈ ([0] : List Int), 0 ≤ z ∧ z ≤ p.ops.length := by
  intro z hz; simp at hz; omega
theorem nextP_ops (p : Prog) : nextP p (p.ops.length : Int) = [] := by unfold nextP; rw [if_pos (by omega)]
end Go.Proofs.YtebjpeonbfhdhaaGreat
