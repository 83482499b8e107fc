/- Sets of bytes as texts; items of patterns. -/
import Derived.Test.YtebjpeonbfhdhaaGreatSp4
import Derived.Test.YtebjpeonbfhdhaaGreatSx13
namespace Go.Proofs.YtebjpeonbfhdhaaGreat
open Go Go.Sx
/-- The set of the bytes from a on, n of them. -/
def spanN (a : Int) : Nat → SetD
  | 0 => SetD.none
  | n + 1 => (spanN a n).with_ (a + n)
def spanS (a b : Int) : SetD := spanN a (b + 1 - a).toNat
theorem has_spanN (a c : Int) (n : Nat) (ha : 0 ≤ a) (hn : a + n ≤ 256) (hc : 0 ≤ c) (hc2 : c ≤ 255) : (spanN a n).has c = decide (a ≤ c ∧ c < a + n) := by
  induction n with
  | zero => rw [spanN, SetD.has_none]; symm; simp <;> omega
  | succ n ih =>
    rw [spanN, SetD.has_with _ _ _ (by omega) (by omega) hc hc2, ih (by omega)]
    rw [Bool.eq_iff_iff]; simp; omega
theorem has_span (a b c : Int) (ha : 0 ≤ a) (hb : b ≤ 255) (hc : 0 ≤ c) (hc2 : c ≤ 255) : (spanS a b).has c = decide (a ≤ c ∧ c ≤ b) := by
  unfold spanS
  by_cases h : b < a
  · rw [show (b + 1 - a).toNat = 0 by omega, spanN, SetD.has_none]; symm; simp; omega
  · rw [has_spanN _ _ _ ha (by omega) hc hc2, decide_eq_decide]; omega
/-! ### The reader: at a place, and what is wrong -/
def rdIs (s : ByteArray) (a b : Int) : Bool := decide (a < s.size ∧ bt s a = b)
def rdStop (s : ByteArray) (a : Int) : Int × Int := if s.size ≤ a then (s.size, 3) else (a, 2)
def rdSign (s : ByteArray) (a bad : Int) : Int × Int × Int :=
  if rdIs s a 37 = true then (if s.size ≤ a + 1 then (0, rdStop s (a + 1)) else (bt s (a + 1), a + 1 + 1, bad))
  else if s.size ≤ a ∨ rdIs s a 93 = true ∨ rdIs s a 45 = true then (0, rdStop s a) else (bt s a, a + 1, bad)
def rdPart (s : ByteArray) (a bad : Int) : SetD × Int × Int :=
  let f := rdSign s a bad
  if f.2.2 ≠ 0 ∨ rdIs s f.2.1 45 = false then (spanS f.1 f.1, f.2)
  else let t := rdSign s (f.2.1 + 1) f.2.2
    if t.2.2 = 0 ∧ t.1 < f.1 then (spanS f.1 t.1, t.2.1 - 1, 12) else (spanS f.1 t.1, t.2)
structure RdSt where
  out : SetD
  at_ : Int
  bad : Int
def RdSt.on (s : ByteArray) (x : RdSt) : Bool := decide (x.bad = 0) && !rdIs s x.at_ 93
def RdSt.next (s : ByteArray) (x : RdSt) : RdSt := let p := rdPart s x.at_ x.bad; ⟨x.out.or p.1, p.2.1, p.2.2⟩
def rdLoop (s : ByteArray) : Nat → RdSt → RdSt
  | 0, x => x
  | n + 1, x => if x.on s = true then rdLoop s n (x.next s) else x
def rdFrom (s : ByteArray) (a : Int) : RdSt := let p := rdPart s a 0; rdLoop s (s.size + 1) ⟨p.1, p.2.1, p.2.2⟩
/-- The set of a text: itself, how many bytes, what is wrong. -/
def rdWhole (s : ByteArray) : SetD × Int × Int :=
  if rdIs s 0 91 = false then (SetD.none, rdStop s 0)
  else
    let x := rdFrom s (if rdIs s 1 94 = true then 2 else 1)
    if x.bad ≠ 0 then (SetD.none, x.at_, x.bad) else (if rdIs s 1 94 = true then x.out.not else x.out, x.at_ + 1, 0)
/-- What the reader tells at its end. -/
def rdEnd (s : ByteArray) : SetD × Int × Int :=
  if rdIs s 0 91 = false then (SetD.none, rdStop s 0)
  else
    let x := rdFrom s (if rdIs s 1 94 = true then 2 else 1)
    if x.bad ≠ 0 then (SetD.none, x.at_, x.bad) else (if rdIs s 1 94 = true then x.out.not else x.out, x.at_ + 1, x.bad)
def orN (s t : SetD) : Nat → SetD
  | 0 => s
  | k + 1 => (orN s t k).put k ((orN s t k).get k ||| t.get k)
theorem orN_4 (s t : SetD) : orN s t 4 = s.or t := rfl
def notN (s : SetD) : Nat → SetD
  | 0 => s
  | k + 1 => (notN s k).put k (~~~ (notN s k).get k)
theorem notN_4 (s : SetD) : notN s 4 = s.not := rfl
theorem rdIs_lt {s : ByteArray} {a b : Int} (h : rdIs s a b = true) : a < s.size := by
  simp [rdIs] at h; exact h.1
theorem rdSign_b (s : ByteArray) (a bad : Int) (h0 : 0 ≤ a) (ha : a ≤ s.size) : 0 ≤ (rdSign s a bad).1 ∧ (rdSign s a bad).1 ≤ 255 ∧ a ≤ (rdSign s a bad).2.1 ∧ (rdSign s a bad).2.1 ≤ s.size ∧ ((rdSign s a bad).2.2 = 0 → a < (rdSign s a bad).2.1) ∧ ((rdSign s a bad).2.2 = bad ∨ (rdSign s a bad).2.2 = 2 ∨ (rdSign s a bad).2.2 = 3) := by
  unfold rdSign
  have h1 := bt_range s a
  have h2 := bt_range s (a + 1)
  split
  · rename_i h
    have := rdIs_lt h
    split
    · unfold rdStop; split
      · refine ⟨by simp, by simp, by simp; omega, by simp, by simp, .inr (.inr rfl)⟩
      · omega
    · refine ⟨h2.1, h2.2, by simp only; omega, by simp only; omega, fun _ => by simp only; omega, .inl rfl⟩
  · split
    · unfold rdStop; split
      · refine ⟨by simp, by simp, by simp; omega, by simp, by simp, .inr (.inr rfl)⟩
      · refine ⟨by simp, by simp, by simp, ha, by simp, .inr (.inl rfl)⟩
    · refine ⟨h1.1, h1.2, by simp only; omega, by simp only; omega, fun _ => by simp only; omega, .inl rfl⟩
theorem rdPart_b (s : ByteArray) (a bad : Int) (h0 : 0 ≤ a) (ha : a ≤ s.size) : a ≤ (rdPart s a bad).2.1 ∧ (rdPart s a bad).2.1 ≤ s.size ∧ ((rdPart s a bad).2.2 = 0 → a < (rdPart s a bad).2.1) ∧ ((rdPart s a bad).2.2 = bad ∨ (rdPart s a bad).2.2 = 2 ∨ (rdPart s a bad).2.2 = 3 ∨ (rdPart s a bad).2.2 = 12) := by
  obtain ⟨_, _, h3, h4, h5, h6⟩ := rdSign_b s a bad h0 ha
  unfold rdPart
  simp only
  split
  · exact ⟨h3, h4, h5, by rcases h6 with h | h | h <;> simp [h]⟩
  · rename_i h
    simp only [not_or, Bool.not_eq_false] at h
    have hl := rdIs_lt h.2
    obtain ⟨_, _, k3, k4, k5, k6⟩ := rdSign_b s ((rdSign s a bad).2.1 + 1) (rdSign s a bad).2.2 (by omega) (by omega)
    split
    · rename_i h7
      have := k5 h7.1
      refine ⟨by simp only; omega, by simp only; omega, by simp, by simp⟩
    · refine ⟨by simp only; omega, k4, fun _ => by simp only; omega, ?_⟩
      rcases k6 with h | h | h
      · rw [h]; rcases h6 with h | h | h <;> simp [h]
      · simp [h]
      · simp [h]
def RdSt.ok (s : ByteArray) (x : RdSt) : Prop := 0 ≤ x.at_ ∧ x.at_ ≤ s.size ∧ (x.bad = 0 ∨ x.bad = 2 ∨ x.bad = 3 ∨ x.bad = 12)
theorem RdSt.next_ok {s : ByteArray} {x : RdSt} (h : x.ok s) (hon : x.on s = true) : (x.next s).ok s ∧ ((x.next s).bad = 0 → x.at_ < (x.next s).at_) := by
  have hb := rdPart_b s x.at_ x.bad h.1 h.2.1
  have h0 : x.bad = 0 := by simp [RdSt.on] at hon; exact hon.1
  have h4 := hb.2.2.2
  rw [h0] at hb h4
  simp only [RdSt.next, RdSt.ok, h0]
  have := h.1
  exact ⟨⟨by omega, hb.2.1, h4⟩, hb.2.2.1⟩
theorem rdLoop_ok (s : ByteArray) (n : Nat) : ∀ (x : RdSt), x.ok s → (rdLoop s n x).ok s := by
  induction n with
  | zero => intro x h; exact h
  | succ n ih =>
    intro x h
    unfold rdLoop
    split
    · rename_i hon; exact ih _ (RdSt.next_ok h hon).1
    · exact h
theorem rdFrom_ok (s : ByteArray) (a : Int) (h0 : 0 ≤ a) (ha : a ≤ s.size) : (rdFrom s a).ok s := by
  have hb := rdPart_b s a 0 h0 ha
  exact rdLoop_ok s _ _ ⟨by simp only; omega, hb.2.1, by simp only; omega⟩
/-! ### Items -/
structure Item where
  run : Bool
  set : SetD
  deriving DecidableEq, Inhabited
def Item.cs (x : Item) : List Value := [.bool x.run, uv x.set.w0, uv x.set.w1, uv x.set.w2, uv x.set.w3]
instance repItem : Rep Item where
  sz := 5
  pos := by decide
  rel := fun _ x cs => cs = x.cs
  len := by rintro _ _ _ rfl; rfl
  mono := fun _ h => h
  ones := by rintro _ _ _ rfl; exact ⟨rfl, rfl, rfl, rfl, rfl, trivial⟩
theorem openItem {E : En} {N : Nat} {K : Kl} {Hs : List Asn} {G : Act → World → Prop} {x : Item} {cs : List Value} (hm : Mem (per (relP x cs)) Hs) (h : True → cs = x.cs → At E N K (Hs) G) : At E N K Hs G := fun a w hk hs => by
  have e : cs = x.cs := hs.per hm
  exact h trivial e a w hk hs
instance : Flat Item := ⟨fun _ => True, Item.cs, fun h => ⟨trivial, h⟩⟩
theorem Item.ones (x : Item) : ones x.cs := ⟨rfl, rfl, rfl, rfl, rfl, trivial⟩
theorem Item.rel {R : Hp} {x : Item} : Rep.rel R x (x.cs) := rfl
end Go.Proofs.YtebjpeonbfhdhaaGreat
