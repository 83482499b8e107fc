/- Where a script may go. -/
import Derived.Test.YtebjpeonbfhdhaaGreatSp12
namespace Go.Proofs.YtebjpeonbfhdhaaGreat
open Go Go.Sx
def nextRaw (o : Op) (a : Int) : List Int :=
  if o.kind = 1 ∨ o.kind = 4 then [a + 1] else if o.kind = 3 then [o.to] else if o.kind = 2 then o.arms.map (·.to) ++ [o.onTimeout, o.onEof] else []
def nonneg (l : List Int) : List Int := l.filter fun x => !decide (x < 0)
def nextP (p : Prog) (a : Int) : List Int := if a < 0 ∨ p.ops.length ≤ a then [] else compI (isort (nonneg (nextRaw (p.ops.getD a.toNat default) a)))
theorem compI_mem (l : List Int) (z : Int) : z ∈ compI l ↔ z ∈ l := by
  fun_induction compI l with
  | case1 => simp
  | case2 => simp
  | case3 x l ih => rw [ih]; simp
  | case4 x y l h ih => rw [List.mem_cons, ih, List.mem_cons]; simp
theorem nextP_mem {p : Prog} {a z : Int} (h0 : 0 ≤ a) (h1 : a < p.ops.length) : z ∈ nextP p a ↔ z ∈ nextRaw (p.ops.getD a.toNat default) a ∧ 0 ≤ z := by
  unfold nextP
  rw [if_neg (by omega), compI_mem, isort_mem, nonneg, List.mem_filter]
  simp
theorem opErr_next {pe : ByteArray → Int} {p : Prog} {o : Op} (h : opErr pe p o = 0) : (o.kind = 2 → o.arms.length ≤ 8) ∧ ∀ (a : Int), 0 ≤ a → a < p.ops.length → ∀ z ∈ nextRaw o a, 0 ≤ z → z ≤ p.ops.length := by
  unfold opErr at h
  split at h
  · simp at h
  · split at h
    · simp at h
    · split at h
      · simp at h
      · split at h
        · simp at h
        · split at h
          · rename_i hk
            unfold expErr at h
            split at h
            · simp at h
            · split at h
              · simp at h
              · rename_i h8
                split at h
                · rename_i h9; exact absurd h h9
                · rename_i h9
                  have h9 : errOf (armErr pe p) o.arms = 0 := by simpa using h9
                  split at h
                  · simp at h
                  · rename_i h10
                    refine ⟨fun _ => by omega, fun a h0 h1 z hz hz0 => ?_⟩
                    unfold nextRaw at hz
                    rw [if_neg (by omega), if_neg (by omega), if_pos hk] at hz
                    rcases List.mem_append.1 hz with hz | hz
                    · obtain ⟨m, hm, rfl⟩ := List.mem_map.1 hz
                      have := errOf_zero h9 m hm
                      unfold armErr at this
                      split at this
                      · simp at this
                      · split at this
                        · rename_i h11; exact absurd this h11
                        · split at this
                          · rename_i h12; simp [Prog.comes] at h12; omega
                          · simp at this
                    · simp only [not_or, not_and] at h10
                      simp only [List.mem_cons, List.not_mem_nil, or_false] at hz
                      rcases hz with rfl | rfl
                      · have := h10.1 (by omega); simp [Prog.comes] at this; omega
                      · have := h10.2 (by omega); simp [Prog.comes] at this; omega
          · rename_i hk2
            refine ⟨fun hk => absurd hk hk2, fun a h0 h1 z hz hz0 => ?_⟩
            unfold nextRaw at hz
            split at hz
            · simp at hz; omega
            · split at hz
              · rename_i hk3
                split at h
                · simp at h
                · rename_i h12
                  simp only [not_and] at h12
                  have := h12 hk3
                  simp [Prog.comes] at this
                  simp at hz; omega
              · first | (cases hz; done) | (rw [if_neg hk2] at hz; cases hz)
theorem getD_mem {l : List Op} {i : Nat} (h : i < l.length) : l.getD i default ∈ l := by
  simp [List.getD_eq_getElem?_getD, h]
theorem nextP_range {p : Prog} (hg : goodP patErr p = true) (a : Int) : ∀ z ∈ nextP p a, 0 ≤ z ∧ z ≤ p.ops.length := by
  intro z hz
  by_cases h : a < 0 ∨ p.ops.length ≤ a
  · unfold nextP at hz; rw [if_pos h] at hz; cases hz
  · have h1 := (nextP_mem (p := p) (a := a) (by omega) (by omega)).1 hz
    have ho := (goodP_ops hg).2.2.2 _ (getD_mem (l := p.ops) (i := a.toNat) (by omega))
    exact ⟨h1.2, (opErr_next ho).2 a (by omega) (by omega) z h1.1 h1.2⟩
theorem nextRaw_len {pe : ByteArray → Int} {p : Prog} {o : Op} (h : opErr pe p o = 0) (a : Int) : (nextRaw o a).length ≤ 10 := by
  have := (opErr_next h).1
  unfold nextRaw
  split
  · simp
  · split
    · simp
    · split
      · rename_i hk; have := this hk; simp; omega
      · simp
theorem nextP_len {p : Prog} (hg : goodP patErr p = true) (a : Int) : (nextP p a).length ≤ 10 := by
  unfold nextP
  split
  · simp
  · have ho := (goodP_ops hg).2.2.2 _ (getD_mem (l := p.ops) (i := a.toNat) (by omega))
    have h1 := compI_len (isort (nonneg (nextRaw (p.ops.getD a.toNat default) a)))
    rw [isort_len] at h1
    have h2 : (nonneg (nextRaw (p.ops.getD a.toNat default) a)).length ≤ (nextRaw (p.ops.getD a.toNat default) a).length := List.length_filter_le _ _
    have h3 := nextRaw_len ho a
    omega
/-! walks -/
def bools (l : List Bool) : List Value := l.map Value.bool
theorem bools_at {l : List Bool} {i : Nat} {x : Bool} (h : l[i]? = some x) : (bools l)[i]? = some (.bool x) := by simp [bools, h]
theorem bools_set (l : List Bool) (i : Nat) (x : Bool) : (bools l).set i (.bool x) = bools (l.set i x) := by simp [bools, List.map_set]
theorem bools_len (l : List Bool) : (bools l).length = l.length := by simp [bools]
def walkF (p : Prog) : Nat → List Bool → List Int → List Bool
  | 0, seen, _ => seen
  | n + 1, seen, st => match st.getLast? with
    | none => seen
    | some a => if seen.getD a.toNat false = true then walkF p n seen st.dropLast else walkF p n (seen.set a.toNat true) (st.dropLast ++ nextP p a)
def unseen (l : List Bool) : Nat := (l.filter fun b => !b).length
theorem unseen_set {l : List Bool} {i : Nat} (h : l[i]? = some false) : unseen (l.set i true) + 1 = unseen l := by
  induction l generalizing i with
  | nil => simp at h
  | cons b l ih =>
    cases i with
    | zero => simp at h; subst h; simp [unseen]
    | succ i =>
      have := ih (i := i) (by simpa using h)
      unfold unseen at this ⊢
      cases b <;> simp at this ⊢ <;> omega
theorem unseen_le (l : List Bool) : unseen l ≤ l.length := List.length_filter_le _ _
def walkP (p : Prog) (l : List Int) : List Bool := walkF p (12 * (p.ops.length + 1) + l.length + 1) (List.replicate (p.ops.length + 1) false) l
def reachP (p : Prog) : List Int := if goodP patErr p = true then ((List.range (p.ops.length + 1)).filter fun k => (walkP p [0]).getD k false).map fun (k : Nat) => (k : Int) else []
def loopsP (p : Prog) : Bool := goodP patErr p && (List.range (p.ops.length + 1)).any fun (k : Nat) => (walkP p [0]).getD k false && (walkP p (nextP p k)).getD k false
end Go.Proofs.YtebjpeonbfhdhaaGreat
