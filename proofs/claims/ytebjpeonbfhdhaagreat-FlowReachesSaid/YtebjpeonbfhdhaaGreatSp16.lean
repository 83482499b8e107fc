/- Two ways to reckon where a script may go. -/
import Derived.Test.YtebjpeonbfhdhaaGreatSp14
namespace Go.Proofs.YtebjpeonbfhdhaaGreat
open Go Go.Sx
def Inc (l : List Int) : Prop := l.Pairwise (· < ·)
theorem Inc.ext : ∀ {l m : List Int}, Inc l → Inc m → (∀ z, z ∈ l ↔ z ∈ m) → l = m := by
  intro l
  induction l with
  | nil =>
    intro m _ _ h
    cases m with
    | nil => rfl
    | cons y m => exact absurd ((h y).2 (by simp)) (by simp)
  | cons x l ih =>
    intro m hl hm h
    cases m with
    | nil => exact absurd ((h x).1 (by simp)) (by simp)
    | cons y m =>
      unfold Inc at hl hm
      rw [List.pairwise_cons] at hl hm
      have hxy : x = y := by
        have h1 := (h x).1 (by simp)
        have h2 := (h y).2 (by simp)
        rcases List.mem_cons.1 h1 with e | h1
        · exact e
        · rcases List.mem_cons.1 h2 with e | h2
          · exact e.symm
          · have := hm.1 x h1; have := hl.1 y h2; omega
      subst hxy
      rw [ih hl.2 hm.2 fun z => ?_]
      have hz := h z
      simp only [List.mem_cons] at hz
      constructor
      · intro hzl
        rcases hz.1 (.inr hzl) with e | e
        · have := hl.1 z hzl; omega
        · exact e
      · intro hzm
        rcases hz.2 (.inr hzm) with e | e
        · have := hm.1 z hzm; omega
        · exact e
theorem Inc.len {n : Nat} : ∀ {l : List Int} {lo : Int}, Inc l → (∀ z ∈ l, lo ≤ z ∧ z ≤ n) → 0 ≤ lo → lo ≤ n + 1 → (l.length : Int) + lo ≤ n + 1 := by
  intro l
  induction l with
  | nil => intro lo _ _ _ h; simpa using h
  | cons x l ih =>
    intro lo hl hr h0 _
    unfold Inc at hl
    rw [List.pairwise_cons] at hl
    have hx := hr x (by simp)
    have := ih (lo := x + 1) hl.2 (fun z hz => ⟨by have := hl.1 z hz; omega, (hr z (by simp [hz])).2⟩) (by omega) (by omega)
    simp only [List.length_cons]; omega
theorem Inc.len0 {n : Nat} {l : List Int} (h : Inc l) (hr : ∀ z ∈ l, 0 ≤ z ∧ z ≤ n) : l.length ≤ n + 1 := by
  have := Inc.len (n := n) (lo := 0) h hr (by omega) (by omega); omega
def insU (n : Int) : List Int → List Int
  | [] => [n]
  | x :: l => if x < n then x :: insU n l else if x = n then x :: l else n :: x :: l
theorem insU_mem (n z : Int) (l : List Int) : z ∈ insU n l ↔ z = n ∨ z ∈ l := by
  induction l with
  | nil => simp [insU]
  | cons x l ih =>
    unfold insU
    split
    · simp only [List.mem_cons, ih]
      constructor
      · rintro (h | h | h) <;> simp [h]
      · rintro (h | h | h) <;> simp [h]
    · split
      · rename_i e; subst e; simp
      · simp
theorem insU_inc (n : Int) {l : List Int} (h : Inc l) : Inc (insU n l) := by
  induction l with
  | nil => simp [insU, Inc]
  | cons x l ih =>
    unfold Inc at h ih ⊢
    rw [List.pairwise_cons] at h
    unfold insU
    split
    · rw [List.pairwise_cons]
      refine ⟨fun z hz => ?_, ih h.2⟩
      rcases (insU_mem n z l).1 hz with rfl | hz
      · omega
      · exact h.1 z hz
    · split
      · rw [List.pairwise_cons]; exact h
      · rw [List.pairwise_cons, List.pairwise_cons]
        refine ⟨fun z hz => ?_, h⟩
        rcases List.mem_cons.1 hz with rfl | hz
        · omega
        · have := h.1 z hz; omega
theorem insU_at {n : Int} : ∀ {l : List Int} {k : Nat}, (∀ x ∈ l.take k, x < n) → k ≤ l.length → (∀ x, l[k]? = some x → n ≤ x) → insU n l = if l[k]? = some n then l else l.take k ++ ([n] ++ l.drop k) := by
  intro l
  induction l with
  | nil => intro k _ hk _; obtain rfl : k = 0 := by simpa using hk
           rfl
  | cons x l ih =>
    intro k h1 hk h2
    cases k with
    | zero =>
      have hx := h2 x (by simp)
      unfold insU
      rw [if_neg (by omega)]
      by_cases e : x = n
      · subst e; simp
      · rw [if_neg e, if_neg (by simp [e])]; simp
    | succ k =>
      have hx := h1 x (by simp)
      unfold insU
      rw [if_pos hx, ih (k := k) (fun y hy => h1 y (by simp [hy])) (by simpa using hk) (fun y hy => h2 y (by simpa using hy))]
      simp only [List.getElem?_cons_succ, List.take_succ_cons, List.drop_succ_cons]
      split <;> simp
def addI (l : List Int) (n : Int) : List Int := if n < 0 then l else insU n l
theorem addI_mem (l : List Int) (n z : Int) : z ∈ addI l n ↔ z ∈ l ∨ (z = n ∧ 0 ≤ z) := by
  unfold addI
  split
  · constructor
    · exact .inl
    · rintro (h | ⟨h, h2⟩)
      · exact h
      · omega
  · rw [insU_mem]
    constructor
    · rintro (h | h)
      · exact .inr ⟨h, by omega⟩
      · exact .inl h
    · rintro (h | h)
      · exact .inr h
      · exact .inl h.1
theorem addI_inc {l : List Int} (n : Int) (h : Inc l) : Inc (addI l n) := by
  unfold addI; split
  · exact h
  · exact insU_inc n h
theorem addI_len (l : List Int) (n : Int) : (addI l n).length ≤ l.length + 1 := by
  unfold addI; split
  · omega
  · induction l with
    | nil => simp [insU]
    | cons x l ih =>
      unfold insU; split
      · simp; omega
      · split <;> simp
theorem addI_ge {l : List Int} {n : Int} (hl : ∀ z ∈ l, i64 z) (hn : i64 n) : ∀ z ∈ addI l n, i64 z := by
  intro z hz
  rcases (addI_mem l n z).1 hz with h | h
  · exact hl z h
  · rw [h.1]; exact hn
def addAll (l xs : List Int) : List Int := xs.foldl addI l
theorem addAll_snoc (l xs : List Int) (x : Int) : addAll l (xs ++ [x]) = addI (addAll l xs) x := by simp [addAll]
theorem addAll_append (l xs ys : List Int) : addAll l (xs ++ ys) = addAll (addAll l xs) ys := by simp [addAll]
theorem addAll_mem (l xs : List Int) (z : Int) : z ∈ addAll l xs ↔ z ∈ l ∨ (z ∈ xs ∧ 0 ≤ z) := by
  unfold addAll
  induction xs generalizing l with
  | nil => simp
  | cons x xs ih =>
    simp only [List.foldl_cons, ih, addI_mem, List.mem_cons]
    constructor
    · rintro ((h | h) | h)
      · exact .inl h
      · exact .inr ⟨.inl h.1, h.2⟩
      · exact .inr ⟨.inr h.1, h.2⟩
    · rintro (h | ⟨h | h, h2⟩)
      · exact .inl (.inl h)
      · exact .inl (.inr ⟨h, h2⟩)
      · exact .inr ⟨h, h2⟩
theorem addAll_inc {l : List Int} (xs : List Int) (h : Inc l) : Inc (addAll l xs) := by
  unfold addAll
  induction xs generalizing l with
  | nil => exact h
  | cons x xs ih => exact ih (addI_inc x h)
theorem addAll_len (l xs : List Int) : (addAll l xs).length ≤ l.length + xs.length := by
  unfold addAll
  induction xs generalizing l with
  | nil => simp
  | cons x xs ih => have := ih (addI l x); have := addI_len l x; simp only [List.foldl_cons, List.length_cons]; omega
theorem compI_inc : ∀ {l : List Int}, Rises l → Inc (compI l) := by
  intro l
  fun_induction compI l with
  | case1 => intro _; simp [Inc]
  | case2 => intro _; simp [Inc]
  | case3 x l ih => intro h; unfold Rises at h; exact ih (List.pairwise_cons.1 h).2
  | case4 x y l hxy ih =>
    intro h
    unfold Rises at h
    rw [List.pairwise_cons] at h
    have h2 := List.pairwise_cons.1 h.2
    unfold Inc at ih ⊢
    rw [List.pairwise_cons]
    refine ⟨fun z hz => ?_, ih h.2⟩
    rw [compI_mem] at hz
    have hy := h.1 y (by simp)
    rcases List.mem_cons.1 hz with rfl | hz
    · omega
    · have := h2.1 z hz; omega
theorem nextP_inc (p : Prog) (a : Int) : Inc (nextP p a) := by
  unfold nextP; split
  · simp [Inc]
  · exact compI_inc (isort_rises _)
/-- The numbers in the order in which the second way adds them. -/
def nextB (o : Op) (a : Int) : List Int := if o.kind = 1 ∨ o.kind = 4 then [a + 1] else if o.kind = 3 then [o.to] else if o.kind = 2 then [o.onTimeout, o.onEof] else []
theorem opErr_arms {pe : ByteArray → Int} {p : Prog} {o : Op} (h : opErr pe p o = 0) (hk : o.kind ≠ 2) : o.arms = [] := by
  unfold opErr at h
  split at h
  · simp at h
  · split at h
    · simp at h
    · rename_i hb
      simp [Op.bareB] at hb
      exact (hb.2.2.2 hk).1
theorem next_two {p : Prog} (hg : goodP patErr p = true) {k : Nat} {o : Op} (ho : p.ops[k]? = some o) : addAll (addAll [] (nextB o k)) (o.arms.map (·.to)) = nextP p k := by
  have hlt : k < p.ops.length := (List.getElem?_eq_some_iff.1 ho).1
  refine Inc.ext (addAll_inc _ (addAll_inc _ (by simp [Inc]))) (nextP_inc p k) fun z => ?_
  rw [addAll_mem, addAll_mem, nextP_mem (by omega) (by omega)]
  have hgd : p.ops.getD (k : Int).toNat default = o := by simp [List.getD_eq_getElem?_getD, ho]
  rw [hgd]
  have hoe := (goodP_ops hg).2.2.2 o (List.mem_of_getElem? ho)
  by_cases h2 : o.kind = 2
  · have e1 : nextB o k = [o.onTimeout, o.onEof] := by unfold nextB; rw [if_neg (by omega), if_neg (by omega), if_pos h2]
    have e2 : nextRaw o k = o.arms.map (·.to) ++ [o.onTimeout, o.onEof] := by unfold nextRaw; rw [if_neg (by omega), if_neg (by omega), if_pos h2]
    rw [e1, e2, List.mem_append]
    constructor
    · rintro ((h | h) | h)
      · cases h
      · exact ⟨.inr h.1, h.2⟩
      · exact ⟨.inl h.1, h.2⟩
    · rintro ⟨h | h, h3⟩
      · exact .inr ⟨h, h3⟩
      · exact .inl (.inr ⟨h, h3⟩)
  · have e0 := opErr_arms hoe h2
    have e1 : nextRaw o k = nextB o k := by
      unfold nextRaw nextB; rw [if_neg h2, if_neg h2]
    rw [e0, e1]
    constructor
    · rintro ((h | h) | h)
      · cases h
      · exact h
      · simp at h
    · rintro h; exact .inl (.inr h)
def nextG (p : Prog) (a : Int) : List Int := if goodP patErr p = true then nextP p a else []
theorem nextG_good {p : Prog} (h : goodP patErr p = true) (a : Int) : nextG p a = nextP p a := if_pos h
/-! reach -/
inductive Clo (p : Prog) (l : List Int) : Int → Prop
  | base {z : Int} (h : z ∈ l) : Clo p l z
  | step {a z : Int} (h : Clo p l a) (hz : z ∈ nextP p a) : Clo p l z
theorem walkF_clo {p : Prog} {l : List Int} (hg : goodP patErr p = true) : ∀ (n : Nat) (seen : List Bool) (st : List Int), 12 * unseen seen + st.length < n → seen.length = p.ops.length + 1 → (∀ z ∈ st, 0 ≤ z ∧ z ≤ p.ops.length) →
    (∀ k : Nat, seen.getD k false = true → Clo p l k) → (∀ z ∈ st, Clo p l z) →
    (∀ k : Nat, seen.getD k false = true → ∀ z ∈ nextP p k, z ∈ st ∨ seen.getD z.toNat false = true) → (∀ z ∈ l, z ∈ st ∨ seen.getD z.toNat false = true) →
    (∀ k : Nat, (walkF p n seen st).getD k false = true → Clo p l k) ∧ (∀ k : Nat, (walkF p n seen st).getD k false = true → ∀ z ∈ nextP p k, (walkF p n seen st).getD z.toNat false = true) ∧ (∀ z ∈ l, (walkF p n seen st).getD z.toNat false = true) := by
  intro n
  induction n with
  | zero => intro _ _ h; omega
  | succ n ih =>
    intro seen st hn hl hst h1 h2 h3 h4
    unfold walkF
    cases hlast : st.getLast? with
    | none =>
      have : st = [] := by simpa using hlast
      subst this
      exact ⟨h1, fun k hk z hz => by simpa using h3 k hk z hz, fun z hz => by simpa using h4 z hz⟩
    | some a =>
      obtain ⟨st2, rfl⟩ : ∃ st2, st = st2 ++ [a] := by
        rcases List.eq_nil_or_concat st with e | ⟨st2, b, e⟩
        · subst e; simp at hlast
        · rw [List.concat_eq_append] at e
          subst e; simp at hlast; subst hlast; exact ⟨st2, rfl⟩
      have hra := hst a (by simp)
      have hr2 : ∀ z ∈ st2, 0 ≤ z ∧ z ≤ p.ops.length := fun z hz => hst z (by simp [hz])
      have hc2 : ∀ z ∈ st2, Clo p l z := fun z hz => h2 z (by simp [hz])
      have ea : ((a.toNat : Nat) : Int) = a := by omega
      have hlen : (st2 ++ [a]).length = st2.length + 1 := by simp
      simp only [List.dropLast_concat]
      by_cases hs : seen.getD a.toNat false = true
      · rw [if_pos hs]
        refine ih seen st2 (by omega) hl hr2 h1 hc2 (fun k hk z hz => ?_) fun z hz => ?_
        · rcases h3 k hk z hz with h | h
          · rcases List.mem_append.1 h with h | h
            · exact .inl h
            · simp at h; subst h; exact .inr hs
          · exact .inr h
        · rcases h4 z hz with h | h
          · rcases List.mem_append.1 h with h | h
            · exact .inl h
            · simp at h; subst h; exact .inr hs
          · exact .inr h
      · rw [if_neg hs]
        have hlt : a.toNat < seen.length := by omega
        have hsa : seen[a.toNat]? = some false := by
          rw [List.getElem?_eq_getElem hlt]
          congr 1
          have : seen.getD a.toNat false = seen[a.toNat] := by simp [List.getD_eq_getElem?_getD, hlt]
          rw [this] at hs; simpa using hs
        have hu := unseen_set hsa
        have hnl := nextP_len hg a
        have hget : ∀ k : Nat, (seen.set a.toNat true).getD k false = true ↔ k = a.toNat ∨ seen.getD k false = true := by
          intro k
          simp only [List.getD_eq_getElem?_getD, List.getElem?_set]
          by_cases e : a.toNat = k
          · subst e; simp [hlt]
          · simp [e, Ne.symm e]
        refine ih (seen.set a.toNat true) (st2 ++ nextP p a) (by simp only [List.length_append]; omega) (by simpa using hl) ?_ ?_ ?_ ?_ ?_
        · intro z hz
          rcases List.mem_append.1 hz with h | h
          · exact hr2 z h
          · exact nextP_range hg a z h
        · intro k hk
          rcases (hget k).1 hk with e | h
          · subst e; rw [ea]; exact h2 a (by simp)
          · exact h1 k h
        · intro z hz
          rcases List.mem_append.1 hz with h | h
          · exact hc2 z h
          · exact .step (h2 a (by simp)) h
        · intro k hk z hz
          rcases (hget k).1 hk with e | h
          · subst e; rw [ea] at hz; exact .inl (by simp [hz])
          · rcases h3 k h z hz with h | h
            · rcases List.mem_append.1 h with h | h
              · exact .inl (by simp [h])
              · simp at h; subst h; exact .inr ((hget _).2 (.inl rfl))
            · exact .inr ((hget _).2 (.inr h))
        · intro z hz
          rcases h4 z hz with h | h
          · rcases List.mem_append.1 h with h | h
            · exact .inl (by simp [h])
            · simp at h; subst h; exact .inr ((hget _).2 (.inl rfl))
          · exact .inr ((hget _).2 (.inr h))
theorem clo_range {p : Prog} {l : List Int} (hg : goodP patErr p = true) (hl : ∀ z ∈ l, 0 ≤ z ∧ z ≤ p.ops.length) {z : Int} (h : Clo p l z) : 0 ≤ z ∧ z ≤ p.ops.length := by
  cases h with
  | base h => exact hl z h
  | step _ h => exact nextP_range hg _ z h
theorem walkP_iff {p : Prog} {l : List Int} (hg : goodP patErr p = true) (hl : ∀ z ∈ l, 0 ≤ z ∧ z ≤ p.ops.length) (k : Nat) : (walkP p l).getD k false = true ↔ Clo p l k := by
  have hrep : ∀ k : Nat, (List.replicate (p.ops.length + 1) false).getD k false = true → False := by
    intro k h
    simp only [List.getD_eq_getElem?_getD, List.getElem?_replicate] at h
    split at h <;> simp at h
  have h := walkF_clo (l := l) hg (12 * (p.ops.length + 1) + l.length + 1) (List.replicate (p.ops.length + 1) false) l (by have := unseen_le (List.replicate (p.ops.length + 1) false); simp at this; omega) (by simp) hl
    (fun k hk => (hrep k hk).elim) (fun z hz => .base hz) (fun k hk => (hrep k hk).elim) (fun z hz => .inl hz)
  constructor
  · exact h.1 k
  · intro hc
    have key : ∀ z : Int, Clo p l z → (walkP p l).getD z.toNat false = true := by
      intro z hz
      induction hz with
      | base hz => exact h.2.2 _ hz
      | step ha hz ih =>
        rename_i a z
        refine h.2.1 a.toNat ih z ?_
        have := clo_range hg hl ha
        rw [show ((a.toNat : Nat) : Int) = a by omega]; exact hz
    simpa using key k hc
def roundP (p : Prog) (l : List Int) : List Int := addAll l (l.flatMap (nextP p))
def fromP (p : Prog) : Nat → List Int → List Int
  | 0, l => l
  | n + 1, l => roundP p (fromP p n l)
theorem fromP_inc {p : Prog} {l : List Int} (h : Inc l) : ∀ n, Inc (fromP p n l)
  | 0 => h
  | n + 1 => addAll_inc _ (fromP_inc h n)
theorem roundP_mem (p : Prog) (l : List Int) (hg : goodP patErr p = true) (z : Int) : z ∈ roundP p l ↔ z ∈ l ∨ ∃ a ∈ l, z ∈ nextP p a := by
  unfold roundP
  rw [addAll_mem, List.mem_flatMap]
  constructor
  · rintro (h | ⟨h, _⟩)
    · exact .inl h
    · exact .inr h
  · rintro (h | ⟨a, ha, h⟩)
    · exact .inl h
    · exact .inr ⟨⟨a, ha, h⟩, (nextP_range hg a z h).1⟩
theorem fromP_clo {p : Prog} {l : List Int} (hg : goodP patErr p = true) : ∀ (n : Nat) (z : Int), z ∈ fromP p n l → Clo p l z
  | 0, _, h => .base h
  | n + 1, z, h => by
    rcases (roundP_mem p _ hg z).1 h with h | ⟨a, ha, h⟩
    · exact fromP_clo hg n z h
    · exact .step (fromP_clo hg n a ha) h
theorem fromP_range {p : Prog} {l : List Int} (hg : goodP patErr p = true) (hl : ∀ z ∈ l, 0 ≤ z ∧ z ≤ p.ops.length) (n : Nat) : ∀ z ∈ fromP p n l, 0 ≤ z ∧ z ≤ p.ops.length := fun z hz => clo_range hg hl (fromP_clo hg n z hz)
theorem inc_sub_len : ∀ {l m : List Int}, Inc l → Inc m → (∀ z ∈ l, z ∈ m) → l.length ≤ m.length ∧ (l.length = m.length → l = m) := by
  intro l
  induction l with
  | nil => intro m _ _ _; exact ⟨by simp, fun h => (List.eq_nil_of_length_eq_zero (by simpa using h.symm)).symm⟩
  | cons x l ih =>
    intro m hl hm h
    unfold Inc at hl
    rw [List.pairwise_cons] at hl
    induction m with
    | nil => exact absurd (h x (by simp)) (by simp)
    | cons y m ihm =>
      have hm' := hm
      unfold Inc at hm'
      rw [List.pairwise_cons] at hm'
      by_cases e : x = y
      · subst e
        have := ih hl.2 hm'.2 fun z hz => by
          rcases List.mem_cons.1 (h z (by simp [hz])) with e | e
          · have := hl.1 z hz; omega
          · exact e
        simp only [List.length_cons]
        exact ⟨by omega, fun hh => by rw [this.2 (by omega)]⟩
      · have hx : x ∈ m := by
          rcases List.mem_cons.1 (h x (by simp)) with e2 | e2
          · exact absurd e2 e
          · exact e2
        have hyx := hm'.1 x hx
        have := ihm hm'.2 fun z hz => by
          rcases List.mem_cons.1 (h z hz) with e2 | e2
          · subst e2
            rcases List.mem_cons.1 hz with e3 | e3
            · omega
            · have := hl.1 z e3; omega
          · exact e2
        simp only [List.length_cons] at this ⊢
        exact ⟨by omega, fun hh => by omega⟩
theorem fromP_grow {p : Prog} {l : List Int} (hg : goodP patErr p = true) (hi : Inc l) : ∀ n, (fromP p (n + 1) l = fromP p n l) ∨ l.length + n < (fromP p (n + 1) l).length := by
  intro n
  have hsub : ∀ n, (fromP p n l).length ≤ (fromP p (n + 1) l).length ∧ ((fromP p n l).length = (fromP p (n + 1) l).length → fromP p n l = fromP p (n + 1) l) := fun n =>
    inc_sub_len (fromP_inc hi n) (fromP_inc hi (n + 1)) fun z hz => (roundP_mem p _ hg z).2 (.inl hz)
  induction n with
  | zero =>
    have := hsub 0
    simp only [Nat.zero_add] at this
    by_cases e : (fromP p 0 l).length = (fromP p 1 l).length
    · exact .inl (this.2 e).symm
    · right
      have e2 : (fromP p 0 l).length = l.length := rfl
      show l.length + 0 < (fromP p 1 l).length
      omega
  | succ n ih =>
    have h2 := hsub (n + 1)
    by_cases e : (fromP p (n + 1) l).length = (fromP p (n + 1 + 1) l).length
    · exact .inl (h2.2 e).symm
    · rcases ih with h | h
      · left
        show roundP p (fromP p (n + 1) l) = fromP p (n + 1) l
        rw [h]; exact h
      · right; omega
theorem fromP_iff {p : Prog} {l : List Int} (hg : goodP patErr p = true) (hl : ∀ z ∈ l, 0 ≤ z ∧ z ≤ p.ops.length) (hi : Inc l) (z : Int) : z ∈ fromP p (p.ops.length + 1) l ↔ Clo p l z := by
  constructor
  · exact fromP_clo hg _ z
  · have hst : fromP p (p.ops.length + 1 + 1) l = fromP p (p.ops.length + 1) l := by
      rcases fromP_grow hg hi (p.ops.length + 1) with h | h
      · exact h
      · have := Inc.len0 (fromP_inc hi _) (fromP_range hg hl (p.ops.length + 1 + 1)); omega
    intro hc
    induction hc with
    | base h =>
      rename_i z
      have : ∀ n, z ∈ fromP p n l := by
        intro n
        induction n with
        | zero => exact h
        | succ n ih => exact (roundP_mem p _ hg z).2 (.inl ih)
      exact this _
    | step _ hz ih => rw [← hst]; exact (roundP_mem p _ hg _).2 (.inr ⟨_, ih, hz⟩)
theorem reachK_inc (w : List Bool) (k : Nat) : Inc (reachK w k) := by
  unfold reachK Inc
  rw [List.pairwise_map]
  refine List.Pairwise.imp (fun h => by omega) ((List.pairwise_lt_range (n := k)).filter _)
theorem reachK_mem (w : List Bool) (k : Nat) (z : Int) : z ∈ reachK w k ↔ 0 ≤ z ∧ z < k ∧ w.getD z.toNat false = true := by
  unfold reachK
  simp only [List.mem_map, List.mem_filter, List.mem_range]
  constructor
  · rintro ⟨j, ⟨h1, h2⟩, rfl⟩; exact ⟨by omega, by omega, by simpa using h2⟩
  · rintro ⟨h1, h2, h3⟩; exact ⟨z.toNat, ⟨by omega, h3⟩, by omega⟩
theorem inc_one (n : Int) : Inc [n] := by simp [Inc]
def reachR (p : Prog) : List Int := if goodP patErr p = true then fromP p (p.ops.length + 1) [0] else []
theorem reach_two (p : Prog) : reachR p = reachP p := by
  unfold reachR
  split
  · rename_i hg
    rw [reachP_good hg]
    refine Inc.ext (fromP_inc (inc_one 0) _) (reachK_inc _ _) fun z => ?_
    rw [fromP_iff hg (zero_range p) (inc_one 0), reachK_mem]
    constructor
    · intro h
      have hr := clo_range hg (zero_range p) h
      exact ⟨hr.1, by omega, (walkP_iff hg (zero_range p) z.toNat).2 (by rw [show ((z.toNat : Nat) : Int) = z by omega]; exact h)⟩
    · rintro ⟨h1, _, h3⟩
      have := (walkP_iff hg (zero_range p) z.toNat).1 h3
      rwa [show ((z.toNat : Nat) : Int) = z by omega] at this
  · rename_i hg
    unfold reachP; rw [if_neg hg]
/-- The second way's loops: an op that is reached, and reached from behind itself. -/
theorem loops_two {p : Prog} {b : Bool} (hb : b = true ↔ ∃ z ∈ reachR p, z ∈ fromP p (p.ops.length + 1) (nextP p z)) : b = loopsP p := by
  by_cases hg : goodP patErr p = true
  · refine (loopsP_good hg ?_).symm
    rw [hb]
    have e : reachR p = fromP p (p.ops.length + 1) [0] := if_pos hg
    rw [e]
    have hw : ∀ k : Nat, loopK p k = true ↔ Clo p [0] k ∧ Clo p (nextP p k) k := by
      intro k
      unfold loopK
      rw [Bool.and_eq_true, walkP_iff hg (zero_range p), walkP_iff hg (nextP_range hg k)]
    constructor
    · rintro ⟨z, h1, h2⟩
      have c1 := fromP_clo hg _ z h1
      have c2 := fromP_clo hg _ z h2
      have hr := clo_range hg (zero_range p) c1
      refine ⟨z.toNat, by omega, (hw _).2 ?_⟩
      rw [show ((z.toNat : Nat) : Int) = z by omega]; exact ⟨c1, c2⟩
    · rintro ⟨k, _, h⟩
      obtain ⟨c1, c2⟩ := (hw k).1 h
      exact ⟨k, (fromP_iff hg (zero_range p) (inc_one 0) _).2 c1, (fromP_iff hg (nextP_range hg k) (nextP_inc p k) _).2 c2⟩
  · have h1 : loopsP p = false := by unfold loopsP; simp [hg]
    rw [h1, ← Bool.not_eq_true, hb]
    rintro ⟨z, h, _⟩
    unfold reachR at h; rw [if_neg hg] at h; cases h
end Go.Proofs.YtebjpeonbfhdhaaGreat
namespace Go.Proofs.YtebjpeonbfhdhaaGreat
open Go Go.Sx
theorem nextB_parts (o : Op) (a : Int) : addAll (addAll (addAll [] (if o.kind = 1 ∨ o.kind = 4 then [a + 1] else [])) (if o.kind = 3 then [o.to] else [])) (if o.kind = 2 then [o.onTimeout, o.onEof] else []) = addAll [] (nextB o a) := by
  unfold nextB
  by_cases h1 : o.kind = 1 ∨ o.kind = 4
  · rw [if_pos h1, if_pos h1, if_neg (by omega), if_neg (by omega)]; rfl
  · rw [if_neg h1, if_neg h1]
    by_cases h3 : o.kind = 3
    · rw [if_pos h3, if_pos h3, if_neg (by omega)]; rfl
    · rw [if_neg h3, if_neg h3]
      rfl
theorem addAll_rng {l xs : List Int} {n : Nat} (h1 : ∀ z ∈ l, 0 ≤ z ∧ z ≤ n) (h2 : ∀ z ∈ xs, 0 ≤ z ∧ z ≤ n) : ∀ z ∈ addAll l xs, 0 ≤ z ∧ z ≤ n := by
  intro z hz
  rcases (addAll_mem l xs z).1 hz with h | h
  · exact h1 z h
  · exact h2 z h.1
theorem flat_rng {p : Prog} (hg : goodP patErr p = true) (l : List Int) : ∀ z ∈ l.flatMap (nextP p), 0 ≤ z ∧ z ≤ p.ops.length := by
  intro z hz
  obtain ⟨a, _, h⟩ := List.mem_flatMap.1 hz
  exact nextP_range hg a z h
theorem addAll_step {l m : List Int} {k : Nat} {x : Int} (hx : m[k]? = some x) : addI (addAll l (m.take k)) x = addAll l (m.take (k + 1)) := by
  rw [List.take_add_one, hx]; exact (addAll_snoc _ _ _).symm
theorem flat_step {p : Prog} {l : List Int} {k : Nat} {x : Int} (hx : l[k]? = some x) : addAll (addAll l ((l.take k).flatMap (nextP p))) (nextP p x) = addAll l ((l.take (k + 1)).flatMap (nextP p)) := by
  rw [List.take_add_one, hx, ← addAll_append]
  simp
theorem reachR_good {p : Prog} {z : Int} (h : z ∈ reachR p) : goodP patErr p = true := by
  by_cases hg : goodP patErr p = true
  · exact hg
  · unfold reachR at h; rw [if_neg hg] at h; cases h
end Go.Proofs.YtebjpeonbfhdhaaGreat
namespace Go.Proofs.YtebjpeonbfhdhaaGreat
open Go Go.Sx
theorem nextG_i64 (p : Prog) (a : Int) : ∀ z ∈ nextG p a, i64 z := by
  intro z hz
  unfold nextG at hz
  split at hz
  · rename_i hg
    have := nextP_range hg a z hz
    have := (goodP_ops hg).1
    unfold i64; omega
  · cases hz
theorem reachP_i64 (p : Prog) : ∀ z ∈ reachP p, i64 z := by
  intro z hz
  by_cases hg : goodP patErr p = true
  · rw [reachP_good hg] at hz
    have := (reachK_mem _ _ _).1 hz
    have := (goodP_ops hg).1
    unfold i64; omega
  · unfold reachP at hz; rw [if_neg hg] at hz; cases hz
end Go.Proofs.YtebjpeonbfhdhaaGreat
