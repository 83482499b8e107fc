/- How many steps a script's ops have. -/
import Derived.Test.YtebjpeonbfhdhaaGreatSp9
namespace Go.Proofs.YtebjpeonbfhdhaaGreat
open Go Go.Sx
def sumF {α : Type} (f : α → Int) : List α → Int
  | [] => 0
  | x :: l => f x + sumF f l
theorem sumF_append {α : Type} (f : α → Int) (l m : List α) : sumF f (l ++ m) = sumF f l + sumF f m := by
  induction l with
  | nil => simp [sumF]
  | cons x l ih => simp [sumF, ih]; omega
theorem sumF_snoc {α : Type} {f : α → Int} {l : List α} {k : Nat} {x : α} (h : l[k]? = some x) : sumF f (l.take (k + 1)) = sumF f (l.take k) + f x := by
  rw [List.take_add_one, sumF_append, h]; simp [sumF]
theorem sumF_bound {α : Type} {f : α → Int} {B : Int} : ∀ {l : List α}, (∀ x ∈ l, 0 ≤ f x ∧ f x ≤ B) → 0 ≤ sumF f l ∧ sumF f l ≤ B * l.length := by
  intro l
  induction l with
  | nil => intro _; simp [sumF]
  | cons x l ih =>
    intro h
    have h1 := h x (List.mem_cons_self ..)
    have h2 := ih fun y hy => h y (List.mem_cons_of_mem _ hy)
    simp only [sumF, List.length_cons]
    have : B * ((l.length + 1 : Nat) : Int) = B * l.length + B := by push_cast; rw [Int.mul_add, Int.mul_one]
    omega
theorem sumF_congr {α : Type} {f g : α → Int} : ∀ {l : List α}, (∀ x ∈ l, f x = g x) → sumF f l = sumF g l := by
  intro l
  induction l with
  | nil => intro _; rfl
  | cons x l ih =>
    intro h
    simp only [sumF, h x (List.mem_cons_self ..), ih fun y hy => h y (List.mem_cons_of_mem _ hy)]
theorem sumF_one {α : Type} (g : α → Int) (l : List α) : sumF (fun x => 1 + g x) l = l.length + sumF g l := by
  induction l with
  | nil => rfl
  | cons x l ih => simp only [sumF, ih, List.length_cons]; push_cast; omega
theorem errOf_zero {α : Type} {f : α → Int} : ∀ {l : List α}, errOf f l = 0 → ∀ x ∈ l, f x = 0 := by
  intro l
  induction l with
  | nil => intro _ x hx; cases hx
  | cons y l ih =>
    intro h x hx
    unfold errOf at h
    by_cases hy : f y = 0
    · rw [if_neg (by simp [hy])] at h
      rcases List.mem_cons.1 hx with rfl | hx
      · exact hy
      · exact ih h x hx
    · rw [if_pos hy] at h; exact absurd h hy
theorem opErr_text {pe : ByteArray → Int} {p : Prog} {o : Op} (h : opErr pe p o = 0) : (o.kind = 1 → o.text.size ≤ 256) ∧ (o.kind ≠ 1 → o.text.size = 0) := by
  unfold opErr at h
  split at h
  · simp at h
  · split at h
    · simp at h
    · rename_i hb
      split at h
      · simp at h
      · split at h
        · simp at h
        · rename_i h3
          refine ⟨fun hk => by omega, fun hk => ?_⟩
          simp [Op.bareB] at hb
          rcases hb.1 with h1 | h1
          · exact absurd h1 hk
          · rw [h1]; rfl
theorem goodP_ops {pe : ByteArray → Int} {p : Prog} (h : goodP pe p = true) : p.ops.length ≤ 200 ∧ 0 ≤ p.jumps ∧ p.jumps ≤ 1000 ∧ ∀ o ∈ p.ops, opErr pe p o = 0 := by
  unfold goodP at h
  have h := of_decide_eq_true h
  unfold wrongE at h
  split at h
  · simp at h
  · split at h
    · simp at h
    · split at h
      · simp at h
      · rename_i h1 h2 h3
        exact ⟨by omega, by omega, by omega, errOf_zero h⟩
def ceilQ (n o : Int) : Int := (n + o - 1) / o
theorem ceilQ_lt {n o j : Int} (ho : 1 ≤ o) : j < ceilQ n o ↔ 0 < n - j * o := by
  unfold ceilQ
  rw [show (j < (n + o - 1) / o) ↔ (j + 1 ≤ (n + o - 1) / o) from Int.lt_iff_add_one_le, Int.le_ediv_iff_mul_le (by omega), Int.add_mul, Int.one_mul]
  omega
theorem ceilQ_b {n o : Int} (hn : 0 ≤ n) (ho : 1 ≤ o) : 0 ≤ ceilQ n o ∧ ceilQ n o ≤ n := by
  constructor
  · exact Int.ediv_nonneg (by omega) (by omega)
  · by_cases h : ceilQ n o ≤ n
    · exact h
    · have := (ceilQ_lt (n := n) (o := o) (j := n) ho).1 (by omega)
      have h2 : n * 1 ≤ n * o := Int.mul_le_mul_of_nonneg_left ho hn
      omega
def opSteps (s : Setup) (o : Op) : Int := 1 + (if o.kind = 1 then ceilQ o.text.size s.out else 0)
def stepsP (s : Setup) (p : Prog) : Int := if s.good = true ∧ goodP patErr p = true then 1 + sumF (opSteps s) p.ops else 0
def stepsR (s : Setup) (p : Prog) : Int := if s.good = true ∧ goodP patErr p = true then 1 + p.ops.length + sumF (fun o => ceilQ o.text.size s.out) p.ops else 0
theorem Setup.good_out {s : Setup} (h : s.good = true) : 1 ≤ s.out ∧ s.out ≤ 4096 := by
  simp [Setup.good] at h; omega
theorem opSteps_b {s : Setup} {p : Prog} (hs : s.good = true) {o : Op} (h : opErr patErr p o = 0) : 0 ≤ opSteps s o ∧ opSteps s o ≤ 257 := by
  have ho := Setup.good_out hs
  have ht := opErr_text h
  have hc := ceilQ_b (n := o.text.size) (o := s.out) (by omega) ho.1
  unfold opSteps
  split
  · rename_i hk; have := ht.1 hk; omega
  · omega
theorem steps_eq (s : Setup) (p : Prog) : stepsP s p = stepsR s p := by
  unfold stepsP stepsR
  split
  · rename_i h
    have hg := (goodP_ops h.2).2.2.2
    rw [Int.add_assoc, ← sumF_one]
    congr 1
    refine sumF_congr fun o ho => ?_
    have ht := opErr_text (hg o ho)
    unfold opSteps
    by_cases hk : o.kind = 1
    · rw [if_pos hk]
    · rw [if_neg hk, ht.2 hk]
      have := Setup.good_out h.1
      have h0 : ceilQ ((0 : Nat) : Int) s.out = 0 := by
        have := ceilQ_b (n := ((0 : Nat) : Int)) (o := s.out) (by omega) (by omega)
        omega
      rw [h0]
  · rfl
theorem stepsP_b (s : Setup) (p : Prog) : 0 ≤ stepsP s p ∧ stepsP s p ≤ 60000 := by
  unfold stepsP
  split
  · rename_i h
    have hg := goodP_ops h.2
    have := sumF_bound (f := opSteps s) (B := 257) (l := p.ops) fun o ho => opSteps_b h.1 (hg.2.2.2 o ho)
    omega
  · omega
def mostP (s : Setup) (p : Prog) : Int := if stepsP s p = 0 then 0 else 2 * stepsP s p * (p.jumps + 1)
def s6 (s : Setup) (k : Nat) : Int := [s.live, s.ring, s.win, s.out, s.quantum, s.visits].getD k 0
def m6 (k : Nat) : Int := ([1024, 4096, 4096, 4096, 1000000, 64] : List Int).getD k 0
theorem good_iff6 (s : Setup) : s.good = true ↔ ∀ k < 6, 1 ≤ s6 s k ∧ s6 s k ≤ m6 k := by
  constructor
  · intro h k hk
    simp [Setup.good] at h
    match k, hk with
    | 0, _ | 1, _ | 2, _ | 3, _ | 4, _ | 5, _ => simp [s6, m6]; omega
  · intro h
    have h0 := h 0 (by omega); have h1 := h 1 (by omega); have h2 := h 2 (by omega); have h3 := h 3 (by omega); have h4 := h 4 (by omega); have h5 := h 5 (by omega)
    simp [s6, m6] at h0 h1 h2 h3 h4 h5
    simp [Setup.good]; omega
end Go.Proofs.YtebjpeonbfhdhaaGreat
