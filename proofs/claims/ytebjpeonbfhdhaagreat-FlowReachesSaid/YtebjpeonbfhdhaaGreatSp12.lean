/- Numbers that are left out; facts for the walks. -/
import Derived.Test.YtebjpeonbfhdhaaGreatSp11
namespace Go.Proofs.YtebjpeonbfhdhaaGreat
open Go Go.Sx
theorem idxF_none {f : Int → Bool} {l : List Int} (h : idxF f l = -1) : l.filter (fun x => !f x) = l := by
  have := idxF_any f l
  rw [h] at this
  rw [List.filter_eq_self]
  intro x hx
  have h2 : l.any f = false := by rw [← this]; rfl
  rw [List.any_eq_false] at h2
  simpa using h2 x hx
theorem idxF_some {f : Int → Bool} {l : List Int} (h : ¬ idxF f l = -1) : ∃ i : Nat, idxF f l = i ∧ i < l.length ∧ l.take i = (l.take (i + 1)).filter (fun x => !f x) := by
  induction l with
  | nil => simp [idxF] at h
  | cons x l ih =>
    by_cases hx : f x = true
    · exact ⟨0, by simp [idxF, hx], by simp, by simp [hx]⟩
    · have hx' : f x = false := by simpa using hx
      have h2 : ¬ idxF f l = -1 := by
        intro h3; apply h; simp [idxF, hx', h3]
      obtain ⟨i, h4, h5, h6⟩ := ih h2
      refine ⟨i + 1, ?_, by simp; omega, ?_⟩
      · simp only [idxF, hx', h4]; simp; omega
      · rw [List.take_succ_cons, List.take_succ_cons, List.filter_cons_of_pos (by simp [hx']), ← h6]
theorem del_keep {f : Int → Bool} {l s : List Int} {i j : Nat} {x : Int} (hx : l[j]? = some x) (hf : f x = false) (h : s.take i = (l.take j).filter (fun x => !f x)) (hi : i < s.length) : (s.set i x).take (i + 1) = (l.take (j + 1)).filter (fun x => !f x) := by
  have e : (l.take (j + 1)).filter (fun x => !f x) = s.take i ++ [x] := by rw [List.take_add_one, hx, List.filter_append, ← h]; simp [hf]
  rw [e, List.take_add_one, List.take_set_of_le (Nat.le_refl _), List.getElem?_set_self hi]
  rfl
theorem del_skip {f : Int → Bool} {l s : List Int} {i j : Nat} {x : Int} (hx : l[j]? = some x) (hf : f x = true) (h : s.take i = (l.take j).filter (fun x => !f x)) : s.take i = (l.take (j + 1)).filter (fun x => !f x) := by
  rw [List.take_add_one, hx, List.filter_append, ← h]
  simp [hf]
theorem drop_more {l s : List Int} {j : Nat} (h : s.drop j = l.drop j) : s.drop (j + 1) = l.drop (j + 1) := by
  rw [← List.drop_drop, ← List.drop_drop, h]
theorem del_drop {l s : List Int} {i j : Nat} {x : Int} (h : s.drop j = l.drop j) (hi : i < j + 1) : (s.set i x).drop (j + 1) = l.drop (j + 1) := by
  rw [List.drop_set_of_lt hi]; exact drop_more h
theorem bt_wrap (s : ByteArray) (i : Int) : IntKind.i64.wrap (bt s i) = bt s i := IntWalk.i64_in _ (by have := bt_range s i; omega)
theorem bt_add0 (s : ByteArray) (i : Int) : -9223372036854775808 ≤ 0 + bt s i ∧ 0 + bt s i ≤ 9223372036854775807 := by have := bt_range s i; omega
theorem bt_add1 (s : ByteArray) (i : Int) : 0 ≤ 0 + bt s i ∧ 0 + bt s i ≤ 255 := by have := bt_range s i; omega
theorem compI_short {l : List Int} (h : l.length < 2) : compI l = l := by
  match l, h with
  | [], _ => rfl
  | [x], _ => rfl
theorem take_two {l : List Int} {m : Nat} {u w : Int} (hm : 1 ≤ m) (hu : l[m]? = some u) (hw : l[m - 1]? = some w) : l.take (m + 1) = l.take (m - 1) ++ [w, u] ∧ l.take m = l.take (m - 1) ++ [w] := by
  have h1 : l.take m = l.take (m - 1) ++ [w] := by
    have := List.take_add_one (l := l) (i := m - 1)
    rw [show m - 1 + 1 = m by omega, hw] at this; exact this
  refine ⟨?_, h1⟩
  rw [List.take_add_one, hu, h1]; simp
theorem compI_step {l : List Int} {m : Nat} {u w : Int} (hm : 1 ≤ m) (hu : l[m]? = some u) (hw : l[m - 1]? = some w) : compI (l.take (m + 1)) = if u = w then compI (l.take m) else compI (l.take m) ++ [u] := by
  obtain ⟨h1, h2⟩ := take_two hm hu hw
  rw [h1, h2, compI_snoc]
theorem compI_dup {l : List Int} {k : Nat} {x y : Int} (hk : 1 ≤ k) (hd : ∀ i x y, i + 1 < k → l[i]? = some x → l[i + 1]? = some y → x ≠ y) (hx : l[k]? = some x) (hy : l[k - 1]? = some y) (h : x = y) : compI (l.take (k + 1)) = l.take k := by
  rw [compI_step hk hx hy, if_pos h]
  refine compI_id fun i a b ha hb => ?_
  rw [List.getElem?_take] at ha hb
  split at hb
  · rename_i hlt
    rw [if_pos (by omega)] at ha
    exact hd i a b hlt ha hb
  · cases hb
theorem isort_1 (l : List Int) : isort (l.take 1) ++ l.drop 1 = l := by
  cases l with
  | nil => rfl
  | cons x l => simp [isort, insI]
theorem drop_cons {l : List Int} {i : Nat} {x : Int} (h : l[i]? = some x) : l.drop i = x :: l.drop (i + 1) := by
  obtain ⟨hi, h2⟩ := List.getElem?_eq_some_iff.1 h
  rw [List.drop_eq_getElem_cons hi, h2]
theorem mid_x (A T : List Int) (x : Int) : (A ++ x :: T)[A.length]? = some x := by simp
theorem mid_pre (A T : List Int) (y : Int) : ((A ++ [y]) ++ T)[A.length]? = some y := by simp
theorem mid_last (A T : List Int) (h : 0 < A.length) : (A ++ T)[A.length - 1]? = some (A.getLastD 0) := by
  rcases List.eq_nil_or_concat A with e | ⟨A2, y, e⟩
  · subst e; simp at h
  · subst e; simp
theorem swap1 (A B : List Int) (x y : Int) : (((A ++ [y]) ++ x :: B).set (A ++ [y]).length y).set A.length x = A ++ x :: (y :: B) := by
  simp [List.set_append]
theorem swap2 (A B : List Int) (x y : Int) : (((A ++ [y]) ++ x :: B).set A.length x).set (A ++ [y]).length y = A ++ x :: (y :: B) := by
  simp [List.set_append]
end Go.Proofs.YtebjpeonbfhdhaaGreat
