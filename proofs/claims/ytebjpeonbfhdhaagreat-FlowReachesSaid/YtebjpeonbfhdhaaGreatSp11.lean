/- Lists of numbers: what is kept, put in order, without doubles. -/
import Derived.Test.YtebjpeonbfhdhaaGreatSp10
import Derived.Test.YtebjpeonbfhdhaaGreatSx14
namespace Go.Proofs.YtebjpeonbfhdhaaGreat
open Go Go.Sx
def ints (l : List Int) : List Value := l.map fun n => .int .i64 n
theorem ints_len (l : List Int) : (ints l).length = l.length := by simp [ints]
theorem ints_at {l : List Int} {i : Nat} {x : Int} (h : l[i]? = some x) : (ints l)[i]? = some (.int .i64 x) := by simp [ints, h]
theorem ints_set (l : List Int) (i : Nat) (x : Int) : (ints l).set i (.int .i64 x) = ints (l.set i x) := by simp [ints, List.map_set]
theorem ints_ones (l : List Int) : ones (ints l) := ones_of fun v hv => by
  simp [ints] at hv; obtain ⟨n, _, rfl⟩ := hv; rfl
theorem ints_append (l m : List Int) : ints (l ++ m) = ints l ++ ints m := by simp [ints]
/-! insertion -/
def insI (x : Int) : List Int → List Int
  | [] => [x]
  | y :: l => if x < y then x :: y :: l else y :: insI x l
def isort (l : List Int) : List Int := l.foldl (fun acc x => insI x acc) []
def Rises (l : List Int) : Prop := l.Pairwise (· ≤ ·)
theorem insI_mem (x z : Int) (l : List Int) : z ∈ insI x l ↔ z = x ∨ z ∈ l := by
  induction l with
  | nil => simp [insI]
  | cons y l ih =>
    unfold insI
    split
    · simp
    · simp only [List.mem_cons, ih]
      constructor
      · rintro (h | h | h) <;> simp [h]
      · rintro (h | h | h) <;> simp [h]
theorem insI_len (x : Int) (l : List Int) : (insI x l).length = l.length + 1 := by
  induction l with
  | nil => rfl
  | cons y l ih => unfold insI; split <;> simp [ih]
theorem insI_rises (x : Int) {l : List Int} (h : Rises l) : Rises (insI x l) := by
  induction l with
  | nil => simp [insI, Rises]
  | cons y l ih =>
    unfold Rises at h ih ⊢
    rw [List.pairwise_cons] at h
    unfold insI
    split
    · rename_i hxy
      rw [List.pairwise_cons, List.pairwise_cons]
      refine ⟨fun z hz => ?_, h⟩
      rcases List.mem_cons.1 hz with rfl | hz
      · omega
      · have := h.1 z hz; omega
    · rename_i hxy
      rw [List.pairwise_cons]
      refine ⟨fun z hz => ?_, ih h.2⟩
      rcases (insI_mem x z l).1 hz with rfl | hz
      · omega
      · exact h.1 z hz
theorem isort_snoc (l : List Int) (x : Int) : isort (l ++ [x]) = insI x (isort l) := by simp [isort]
theorem isort_rises (l : List Int) : Rises (isort l) := by
  unfold isort
  have : ∀ (l acc : List Int), Rises acc → Rises (l.foldl (fun acc x => insI x acc) acc) := by
    intro l
    induction l with
    | nil => intro acc h; exact h
    | cons x l ih => intro acc h; exact ih _ (insI_rises x h)
  exact this l [] (by simp [Rises])
theorem isort_len (l : List Int) : (isort l).length = l.length := by
  unfold isort
  have : ∀ (l acc : List Int), (l.foldl (fun acc x => insI x acc) acc).length = acc.length + l.length := by
    intro l
    induction l with
    | nil => intro acc; simp
    | cons x l ih => intro acc; simp only [List.foldl_cons, ih, insI_len, List.length_cons]; omega
  simpa using this l []
theorem isort_mem (l : List Int) (z : Int) : z ∈ isort l ↔ z ∈ l := by
  unfold isort
  have : ∀ (l acc : List Int), z ∈ (l.foldl (fun acc x => insI x acc) acc) ↔ z ∈ acc ∨ z ∈ l := by
    intro l
    induction l with
    | nil => intro acc; simp
    | cons x l ih =>
      intro acc
      simp only [List.foldl_cons, ih, insI_mem, List.mem_cons]
      constructor
      · rintro ((h | h) | h) <;> simp [h]
      · rintro (h | h | h) <;> simp [h]
  simpa using this l []
theorem insI_mid {A B : List Int} {x : Int} (hA : ∀ y ∈ A, y ≤ x) (hB : ∀ y ∈ B, x < y) : insI x (A ++ B) = A ++ x :: B := by
  induction A with
  | nil =>
    cases B with
    | nil => rfl
    | cons y B => simp [insI, hB y (by simp)]
  | cons y A ih =>
    have h1 := hA y (by simp)
    simp only [List.cons_append, insI]
    rw [if_neg (by omega), ih fun z hz => hA z (by simp [hz])]
theorem rises_last {A B : List Int} {y x : Int} (h : Rises ((A ++ [y]) ++ B)) (hy : y ≤ x) : ∀ z ∈ A ++ [y], z ≤ x := by
  intro z hz
  unfold Rises at h
  rw [List.pairwise_append, List.pairwise_append] at h
  rcases List.mem_append.1 hz with hz | hz
  · have := h.1.2.2 z hz y (by simp); omega
  · simp at hz; omega
/-! doubles side by side -/
def compI : List Int → List Int
  | [] => []
  | [x] => [x]
  | x :: y :: l => if x = y then compI (y :: l) else x :: compI (y :: l)
theorem compI_snoc (l : List Int) (x y : Int) : compI (l ++ [x, y]) = if y = x then compI (l ++ [x]) else compI (l ++ [x]) ++ [y] := by
  induction l with
  | nil =>
    by_cases h : y = x
    · subst h; simp [compI]
    · have : ¬ x = y := fun e => h e.symm
      simp [compI, h, this]
  | cons z l ih =>
    cases l with
    | nil =>
      simp only [List.nil_append, List.cons_append] at ih ⊢
      by_cases hz : z = x
      · simp only [compI, if_pos hz]; exact ih
      · by_cases h : y = x
        · subst h; simp [compI, hz]
        · have : ¬ x = y := fun e => h e.symm
          simp [compI, hz, h, this]
    | cons w l =>
      simp only [List.cons_append] at ih ⊢
      by_cases hz : z = w
      · simp only [compI, if_pos hz]; exact ih
      · simp only [compI, if_neg hz, ih]
        split <;> simp
theorem compI_len (l : List Int) : (compI l).length ≤ l.length := by
  fun_induction compI l with
  | case1 => simp
  | case2 => simp
  | case3 x l ih => simp only [List.length_cons] at ih ⊢; omega
  | case4 x y l h ih => simp only [List.length_cons] at ih ⊢; omega
theorem compI_id {l : List Int} (h : ∀ i x y, l[i]? = some x → l[i + 1]? = some y → x ≠ y) : compI l = l := by
  induction l with
  | nil => rfl
  | cons x l ih =>
    cases l with
    | nil => rfl
    | cons y l =>
      have h0 := h 0 x y rfl rfl
      simp only [compI, if_neg h0]
      rw [ih fun i a b ha hb => h (i + 1) a b (by simpa using ha) (by simpa using hb)]
end Go.Proofs.YtebjpeonbfhdhaaGreat
