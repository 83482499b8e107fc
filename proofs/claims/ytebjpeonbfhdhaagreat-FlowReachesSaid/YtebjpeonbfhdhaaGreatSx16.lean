/- Rows of numbers that stay: parts of them appended. -/
import Derived.Test.YtebjpeonbfhdhaaGreatSx15
set_option linter.unusedSimpArgs false
set_option linter.unusedVariables false
namespace Go.Proofs.YtebjpeonbfhdhaaGreat
open Go Go.Sx
section
variable {P : Program} {E : En} {N : Nat} {K : Kl} {Hs : List Asn} {G : Act → World → Prop}
theorem rd_i64 {R : Hp} {ao : Option Addr} {xs : List Int} (h : (rdSl ao xs).holds R) : ∀ z ∈ xs, i64 z := by
  intro z hz
  obtain ⟨i, hi⟩ := List.getElem?_of_mem hz
  have hlt : i < xs.length := (List.getElem?_eq_some_iff.1 hi).1
  obtain ⟨ad, _, h2⟩ := h.2 (by omega)
  obtain ⟨cs, h3, _⟩ := h2 i z hi
  exact h3.2
theorem At.i64s {ao : Option Addr} {xs : List Int} (hm : Mem (Sx.per (rdSl ao xs)) Hs) (h : (∀ z ∈ xs, i64 z) → At E N K Hs G) : At E N K Hs G := fun a w hk hs =>
  h (rd_i64 (hs.per hm)) a w hk hs
theorem src_rd {l : List Asn} {tx e' : Nat} {ao ao' : Option Addr} {xs : List Int} {k m c : Nat} (hu : UN P tx (.slice e')) (hm : Mem (Sx.per (rdSl ao xs)) l) (hk : k + m ≤ xs.length) (ha : 0 < m → ∀ ad, ao = some ad → ao' = some (ad.add k)) :
    ∀ E w, St E l w → Src P 1 tx (.slice ao' m c) m (ints ((xs.drop k).take m)) w := fun E w hs => by
  have hr := hs.per hm
  have hlen : (ints ((xs.drop k).take m)).length = m * 1 := by rw [ints_len]; simp; omega
  cases ao' with
  | none =>
    rcases Nat.eq_zero_or_pos m with rfl | h0
    · rw [List.take_zero]; exact Src.ofNil w hu c
    · obtain ⟨ad, e, _⟩ := hr.2 (by omega)
      cases ha h0 ad e
  | some ad' =>
    refine Src.ofSlice w hu ad' m c _ hlen (fun j u hj => ?_) (ones_mem (ints_ones _))
    have hjm : j < m := by have := (List.getElem?_eq_some_iff.1 hj).1; omega
    obtain ⟨ad, e, h2⟩ := hr.2 (by omega)
    have e2 := ha (by omega) ad e
    cases e2
    obtain ⟨x, hx⟩ : ∃ x, xs[k + j]? = some x := ⟨_, List.getElem?_eq_getElem (by omega)⟩
    obtain ⟨cs, ⟨rfl, _⟩, h4⟩ := h2 (k + j) x hx
    have hx2 : ((xs.drop k).take m)[j]? = some x := by rw [List.getElem?_take_of_lt hjm, List.getElem?_drop]; exact hx
    rw [ints_at hx2] at hj
    cases hj
    have := cellsP_cell h4 0 _ rfl
    rw [show Rep.sz Int = 1 from rfl, Nat.mul_one] at this
    have ea : (ad.add k).add j = ad.add (k + j) := by
      unfold Addr.add
      by_cases h1 : j = 0 <;> by_cases h2 : k = 0 <;> simp [h1, h2, Nat.add_assoc]
    have e0 : (ad.add (k + j)).add 0 = ad.add (k + j) := by
      generalize ad.add (k + j) = q; simp [Addr.add]
    rw [ea, ← e0]; exact this
theorem slAt_rd {ao : Option Addr} {c k n m : Nat} (hc : n ≤ c) (hm : k + m ≤ n) : 0 < m → ∀ ad, ao = some ad → slAt ao c k 1 = some (ad.add k) := fun h0 ad e => by
  subst e; unfold slAt; rw [if_neg (by omega)]; simp
end
end Go.Proofs.YtebjpeonbfhdhaaGreat
