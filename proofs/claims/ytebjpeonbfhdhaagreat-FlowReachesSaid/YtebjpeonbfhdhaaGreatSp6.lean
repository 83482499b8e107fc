/- Patterns as texts: items, what is wrong; their tables. -/
import Derived.Test.YtebjpeonbfhdhaaGreatSp5
namespace Go.Proofs.YtebjpeonbfhdhaaGreat
open Go Go.Sx
theorem rdEnd_none {s : ByteArray} (h : (rdEnd s).2.2 ≠ 0) : (rdEnd s).1 = SetD.none := by
  unfold rdEnd at h ⊢
  by_cases h0 : rdIs s 0 91 = false
  · rw [if_pos h0]
  · rw [if_neg h0] at h ⊢
    simp only at h ⊢
    by_cases hb : (rdFrom s (if rdIs s 1 94 = true then 2 else 1)).bad ≠ 0
    · rw [if_pos hb]
    · rw [if_neg hb] at h; exact absurd h hb
theorem rdEnd_b (s : ByteArray) : 0 ≤ (rdEnd s).2.1 ∧ (rdEnd s).2.1 ≤ s.size ∧ ((rdEnd s).2.2 = 0 → 0 < (rdEnd s).2.1) ∧ ((rdEnd s).2.2 = 0 ∨ (rdEnd s).2.2 = 2 ∨ (rdEnd s).2.2 = 3 ∨ (rdEnd s).2.2 = 12) := by
  unfold rdEnd
  split
  · rename_i h; unfold rdStop; split
    · simp
    · simp
  · rename_i h
    have hlt := rdIs_lt (by simpa using h : rdIs s 0 91 = true)
    have ha : (if rdIs s 1 94 = true then 2 else 1 : Int) ≤ s.size ∧ 0 ≤ (if rdIs s 1 94 = true then 2 else 1 : Int) := by
      split
      · rename_i h1; have := rdIs_lt h1; omega
      · omega
    have hok := rdFrom_ok s _ ha.2 ha.1
    simp only
    obtain ⟨x, hx⟩ : ∃ x, x = rdFrom s (if rdIs s 1 94 = true then 2 else 1) := ⟨_, rfl⟩
    have hmore : x.bad = 0 → x.at_ < s.size := by
      intro hb
      have key : ∀ (n : Nat) (y : RdSt), y.ok s → (y.bad = 0 → s.size - y.at_ < n) → (rdLoop s n y).bad = 0 → (rdLoop s n y).at_ < s.size := by
        intro n
        induction n with
        | zero => intro y hy h0 h1; have := h0 h1; have := hy.2.1; simp only [rdLoop] at *; omega
        | succ n ih =>
          intro y hy h0 h1
          unfold rdLoop at h1 ⊢
          split
          · rename_i hon
            rw [if_pos hon] at h1
            have hn := RdSt.next_ok hy hon
            have h00 : y.bad = 0 := by simp [RdSt.on] at hon; exact hon.1
            have := h0 h00
            exact ih _ hn.1 (fun h => by have := hn.2 h; omega) h1
          · rename_i hon
            rw [if_neg hon] at h1
            simp only [RdSt.on, h1] at hon
            simp at hon
            exact rdIs_lt hon
      rw [hx] at hb ⊢
      refine key _ _ ?_ ?_ hb
      · have hb := rdPart_b s _ 0 ha.2 ha.1
        exact ⟨by simp only; omega, hb.2.1, by simp only; omega⟩
      · have hb := rdPart_b s _ 0 ha.2 ha.1
        intro _; simp only; omega
    rw [← hx] at hok ⊢
    obtain ⟨h0, h1, h2⟩ := hok
    split
    · rename_i h3; exact ⟨h0, h1, fun h => absurd h h3, h2⟩
    · rename_i h3
      have h3 : x.bad = 0 := by simpa using h3
      have := hmore h3
      exact ⟨by simp only; omega, by simp only; omega, fun _ => by simp only; omega, .inl h3⟩
/-- The item with which a text begins. -/
def itemP (p : ByteArray) : Item × Int × Int :=
  if bt p 0 = 42 then (⟨true, SetD.none⟩, 1, 0)
  else if bt p 0 = 63 then (⟨false, spanS 0 255⟩, 1, 0)
  else if bt p 0 = 91 then (⟨false, (rdEnd p).1⟩, (rdEnd p).2.1, (rdEnd p).2.2)
  else if bt p 0 = 93 then (⟨false, SetD.none⟩, 0, 2)
  else if bt p 0 = 37 then (if (p.size : Int) = 1 then (⟨false, SetD.none⟩, 1, 3) else (⟨false, spanS (bt p 1) (bt p 1)⟩, 2, 0))
  else (⟨false, spanS (bt p 0) (bt p 0)⟩, 1, 0)
theorem itemP_b (p : ByteArray) (h : 0 < p.size) : 0 ≤ (itemP p).2.1 ∧ (itemP p).2.1 ≤ p.size ∧ ((itemP p).2.2 = 0 → 0 < (itemP p).2.1) ∧ ((itemP p).1.run = true → (itemP p).1.set = SetD.none) ∧ 0 ≤ (itemP p).2.2 ∧ (itemP p).2.2 ≤ 12 := by
  have hb := rdEnd_b p
  unfold itemP
  repeat' split
  all_goals simp
  all_goals omega
def bSub (s : ByteArray) (i j : Int) : ByteArray := s.extract i.toNat j.toNat
theorem bSub_size (s : ByteArray) (i : Int) (h0 : 0 ≤ i) (h : i ≤ s.size) : ((bSub s i s.size).size : Int) = s.size - i := by
  unfold bSub; rw [ByteArray.size_extract]; simp; omega
structure GSt where
  at_ : Int
  out : List Item
def gLoop (p : ByteArray) : Nat → GSt → List Item × Int × Int
  | 0, x => (x.out, 0, 0)
  | n + 1, x =>
    if x.at_ < p.size then
      if x.out.length = 60 then ([], x.at_, 4)
      else
        let r := itemP (bSub p x.at_ p.size)
        if r.2.2 ≠ 0 then ([], x.at_ + r.2.1, r.2.2) else gLoop p n ⟨x.at_ + r.2.1, x.out ++ [r.1]⟩
    else (x.out, 0, 0)
def gParse (p : ByteArray) : List Item × Int × Int := gLoop p (p.size + 1) ⟨0, []⟩
def goodI (l : List Item) : Bool := decide (l.length ≤ 60) && !l.any fun x => x.run && !decide (x.set = SetD.none)
theorem gLoop_good (p : ByteArray) (n : Nat) : ∀ (x : GSt), 0 ≤ x.at_ → goodI x.out = true → goodI (gLoop p n x).1 = true ∧ 0 ≤ (gLoop p n x).2.2 ∧ (gLoop p n x).2.2 ≤ 12 := by
  induction n with
  | zero => intro x _ h; exact ⟨h, by simp [gLoop]⟩
  | succ n ih =>
    intro x h0 h
    unfold gLoop
    split
    · rename_i hlt
      split
      · exact ⟨rfl, by simp⟩
      · rename_i h60
        have hsz := bSub_size p x.at_ h0 (by omega)
        have hb := itemP_b (bSub p x.at_ p.size) (by omega)
        simp only
        split
        · exact ⟨rfl, hb.2.2.2.2⟩
        · refine ih _ (by simp only; omega) ?_
          simp only [goodI, Bool.and_eq_true, decide_eq_true_eq, Bool.not_eq_true', List.length_append, List.length_cons, List.length_nil, List.any_append, List.any_cons, List.any_nil, Bool.or_false, Bool.or_eq_false_iff] at h ⊢
          refine ⟨by omega, h.2, ?_⟩
          cases hr : (itemP (bSub p x.at_ p.size)).1.run with
          | false => simp
          | true => simp [hb.2.2.2.1 hr]
    · exact ⟨h, by simp⟩
theorem gParse_good (p : ByteArray) : goodI (gParse p).1 = true := (gLoop_good p _ ⟨0, []⟩ (by simp) rfl).1
theorem gParse_e (p : ByteArray) : 0 ≤ (gParse p).2.2 ∧ (gParse p).2.2 ≤ 12 := (gLoop_good p _ ⟨0, []⟩ (by simp) rfl).2
/-- What is wrong of a pattern's text. -/
def patErr (p : ByteArray) : Int := if (gParse p).2.2 ≠ 0 then (gParse p).2.2 else if (gParse p).1.all (·.run) = true then 9 else 0
theorem patErr_b (p : ByteArray) : 0 ≤ patErr p ∧ patErr p ≤ 12 := by
  have := gParse_e p
  unfold patErr; split
  · exact this
  · split <;> omega
/-! ### The first of which something is so -/
def idxF {α : Type} (f : α → Bool) : List α → Int
  | [] => -1
  | x :: l => if f x = true then 0 else if idxF f l < 0 then -1 else idxF f l + 1
theorem idxF_any {α : Type} (f : α → Bool) (l : List α) : decide (0 ≤ idxF f l) = l.any f := by
  induction l with
  | nil => rfl
  | cons x l ih =>
    unfold idxF
    rw [List.any_cons, ← ih]
    split
    · rename_i h; simp [h]
    · rename_i h
      simp only [Bool.not_eq_true] at h
      rw [h, Bool.false_or, decide_eq_decide]
      split <;> omega
theorem idxF_hit {α : Type} {f : α → Bool} {l : List α} {k : Nat} {x : α} (h : (l.take k).any f = false) (hx : l[k]? = some x) (hf : f x = true) : idxF f l = k := by
  induction l generalizing k with
  | nil => simp at hx
  | cons y l ih =>
    cases k with
    | zero => simp at hx; subst hx; simp [idxF, hf]
    | succ k =>
      simp only [List.take_succ_cons, List.any_cons, Bool.or_eq_false_iff] at h
      have := ih h.2 (by simpa using hx)
      simp only [idxF, h.1, this]
      simp; omega
theorem idxF_miss {α : Type} {f : α → Bool} {l : List α} (h : l.any f = false) : idxF f l = -1 := by
  induction l with
  | nil => rfl
  | cons y l ih =>
    simp only [List.any_cons, Bool.or_eq_false_iff] at h
    simp [idxF, h.1, ih h.2]
theorem any_snoc {α : Type} {f : α → Bool} {l : List α} {k : Nat} {x : α} (h : (l.take k).any f = false) (hx : l[k]? = some x) (hf : f x = false) : (l.take (k + 1)).any f = false := by
  rw [List.take_add_one, List.any_append, h, hx]; simp [hf]
/-! ### Tables: as bits, which items are runs, and which sets have each byte -/
def tabR (l : List Item) : Nat → W64
  | 0 => 0#64
  | k + 1 => if (l.getD k default).run = true then tabR l k ||| 1#64 <<< k else tabR l k
def tabH (l : List Item) (b : Nat) : Nat → W64
  | 0 => 0#64
  | k + 1 => if (l.getD k default).set.has b = true then tabH l b k ||| 1#64 <<< k else tabH l b k
def tabC (n : Int) (r : W64) (f : Nat → W64) : List Value := .int .i64 n :: uv r :: (List.range 256).map fun b => uv (f b)
def tabCs (l : List Item) : List Value := tabC l.length (tabR l l.length) fun b => tabH l b l.length
def tabO (o : Option Addr) (l : List Item) : Per := ⟨fun R => ∀ ad, o = some ad → (cellsP ad (tabCs l)).holds R, fun _ _ hR h ad e => (cellsP ad _).mono _ _ hR (h ad e)⟩
theorem tabH_step {l : List Item} {k j : Nat} {x : Item} (hx : l.getD k default = x) (h : x.set.has j = true) :
    (fun c => if c = j then (if j < j then tabH l j (k + 1) else tabH l j k) ||| 1#64 <<< (k : Int).toNat else if c < j then tabH l c (k + 1) else tabH l c k) = fun c => if c < j + 1 then tabH l c (k + 1) else tabH l c k := by
  funext c
  by_cases e : c = j
  · subst e
    rw [if_pos rfl, if_neg (by omega), if_pos (by omega), tabH, hx, if_pos h]; rfl
  · rw [if_neg e]
    by_cases h2 : c < j
    · rw [if_pos h2, if_pos (by omega)]
    · rw [if_neg h2, if_neg (by omega)]
theorem tabH_keep {l : List Item} {k j : Nat} {x : Item} (hx : l.getD k default = x) (h : x.set.has j = false) :
    (fun c => if c < j then tabH l c (k + 1) else tabH l c k) = fun c => if c < j + 1 then tabH l c (k + 1) else tabH l c k := by
  funext c
  by_cases e : c = j
  · subst e
    rw [if_neg (by omega), if_pos (by omega), tabH, hx, if_neg (by simp [h])]
  · by_cases h2 : c < j
    · rw [if_pos h2, if_pos (by omega)]
    · rw [if_neg h2, if_neg (by omega)]
theorem tabC_congr {n : Int} {r : W64} {f g : Nat → W64} (h : ∀ b < 256, f b = g b) : tabC n r f = tabC n r g := by
  unfold tabC
  congr 2
  exact List.map_congr_left fun b hb => by rw [h b (List.mem_range.1 hb)]
theorem tabC_at (n : Int) (r : W64) (f : Nat → W64) {b : Nat} (h : b < 256) : (tabC n r f)[2 + b]? = some (uv (f b)) := by
  rw [Nat.add_comm]
  simp [tabC, h]
theorem tabC_set (n : Int) (r : W64) (f : Nat → W64) {b : Nat} (h : b < 256) (x : W64) : (tabC n r f).set (2 + b) (uv x) = tabC n r fun c => if c = b then x else f c := by
  rw [Nat.add_comm]
  simp only [tabC, List.set_cons_succ]
  congr 2
  refine List.ext_getElem? fun i => ?_
  rw [List.getElem?_set]
  by_cases e : b = i
  · subst e; simp [h]
  · simp only [if_neg e, List.getElem?_map]
    cases hi : (List.range 256)[i]? with
    | none => rfl
    | some v =>
      have : v = i := by
        have h2 := List.getElem?_eq_some_iff.1 hi
        obtain ⟨_, h3⟩ := h2; simpa using h3.symm
      subst this
      simp [Ne.symm e]
end Go.Proofs.YtebjpeonbfhdhaaGreat
