/- A small separation logic over the model's worlds: assertions, what a world meets, framing. -/
import Derived.Calls
import Derived.OrdersHeld
import Derived.Below
namespace Go.Sx
open Go

/-- A part of a heap. -/
abbrev Hp := Nat → Option Obj
def Hle (a b : Hp) : Prop := ∀ n o, a n = some o → b n = some o
def Hdj (a b : Hp) : Prop := ∀ n, a n = none ∨ b n = none
def Hun (a b : Hp) : Hp := fun n => match a n with
  | some o => some o
  | none => b n
def He : Hp := fun _ => none

theorem Hle.refl (a : Hp) : Hle a a := fun _ _ h => h
theorem Hle.trans {a b c : Hp} (h : Hle a b) (k : Hle b c) : Hle a c := fun n o x => k n o (h n o x)
theorem Hdj.symm {a b : Hp} (h : Hdj a b) : Hdj b a := fun n => (h n).symm
theorem Hun_left {a b : Hp} {n : Nat} {o : Obj} (h : a n = some o) : Hun a b n = some o := by simp [Hun, h]
theorem Hun_right {a b : Hp} (hd : Hdj a b) {n : Nat} {o : Obj} (h : b n = some o) : Hun a b n = some o := by
  rcases hd n with h0 | h0
  · simp [Hun, h0, h]
  · rw [h] at h0; cases h0
theorem Hun_comm {a b : Hp} (hd : Hdj a b) : Hun a b = Hun b a := by
  funext n
  rcases hd n with h | h
  · cases hb : b n <;> simp [Hun, h, hb]
  · cases ha : a n <;> simp [Hun, h, ha]
theorem Hun_assoc (a b c : Hp) : Hun (Hun a b) c = Hun a (Hun b c) := by
  funext n
  cases ha : a n <;> cases hb : b n <;> simp [Hun, ha, hb]
theorem Hun_none {a b : Hp} {n : Nat} : Hun a b n = none ↔ a n = none ∧ b n = none := by
  cases ha : a n <;> simp [Hun, ha]
theorem Hdj_un_left {a b c : Hp} : Hdj (Hun a b) c ↔ Hdj a c ∧ Hdj b c := by
  constructor
  · intro h
    refine ⟨fun n => ?_, fun n => ?_⟩ <;> rcases h n with h0 | h0
    · exact .inl (Hun_none.1 h0).1
    · exact .inr h0
    · exact .inl (Hun_none.1 h0).2
    · exact .inr h0
  · rintro ⟨h, k⟩ n
    rcases h n with h0 | h0
    · rcases k n with k0 | k0
      · exact .inl (Hun_none.2 ⟨h0, k0⟩)
      · exact .inr k0
    · exact .inr h0
theorem Hdj_un_right {a b c : Hp} : Hdj c (Hun a b) ↔ Hdj c a ∧ Hdj c b :=
  ⟨fun h => ⟨((Hdj_un_left.1 h.symm).1).symm, ((Hdj_un_left.1 h.symm).2).symm⟩, fun h => (Hdj_un_left.2 ⟨h.1.symm, h.2.symm⟩).symm⟩
theorem Hun_He (a : Hp) : Hun a He = a := by
  funext n; cases ha : a n <;> simp [Hun, ha, He]
theorem He_Hun (a : Hp) : Hun He a = a := by
  funext n; simp [Hun, He]
theorem Hdj_He (a : Hp) : Hdj a He := fun _ => .inr rfl
theorem Hle_un_left {a b : Hp} : Hle a (Hun a b) := fun _ _ h => Hun_left h
theorem Hle_un {a b c : Hp} (h : Hle a c) (k : Hle b c) : Hle (Hun a b) c := by
  intro n o hn
  unfold Hun at hn
  split at hn
  · rename_i o' ho; cases hn; exact h n _ ho
  · exact k n o hn
theorem Hle_un_right {a b : Hp} (hd : Hdj a b) : Hle b (Hun a b) := fun _ _ h => Hun_right hd h

/-- An assertion: of the part of the heap that is never written any more, and of the part that is owned. -/
structure Asn where
  sat : Hp → Hp → Prop
  mono : ∀ R R' h, Hle R R' → sat R h → sat R' h

def emp : Asn := ⟨fun _ h => h = He, fun _ _ _ _ h => h⟩
def star (p q : Asn) : Asn := ⟨fun R h => ∃ a b, p.sat R a ∧ q.sat R b ∧ Hdj a b ∧ h = Hun a b,
  fun _ _ _ hR ⟨a, b, hp, hq, hd, e⟩ => ⟨a, b, p.mono _ _ _ hR hp, q.mono _ _ _ hR hq, hd, e⟩⟩
def pt (b : Nat) (o : Obj) : Asn := ⟨fun _ h => h = fun n => if n = b then some o else none, fun _ _ _ _ h => h⟩
def pur (φ : Prop) : Asn := ⟨fun _ h => φ ∧ h = He, fun _ _ _ _ h => h⟩
/-- A fact on memory that is never written any more. -/
structure Per where
  holds : Hp → Prop
  mono : ∀ R R', Hle R R' → holds R → holds R'
def per (φ : Per) : Asn := ⟨fun R h => φ.holds R ∧ h = He, fun _ _ _ hR h => ⟨φ.mono _ _ hR h.1, h.2⟩⟩
def ex {α : Type} (f : α → Asn) : Asn := ⟨fun R h => ∃ x, (f x).sat R h, fun _ _ _ hR ⟨x, hx⟩ => ⟨x, (f x).mono _ _ _ hR hx⟩⟩
def stars : List Asn → Asn
  | [] => emp
  | p :: l => star p (stars l)

/-- p says no less than q. -/
def Ent (p q : Asn) : Prop := ∀ R h, p.sat R h → q.sat R h
theorem Ent.refl (p : Asn) : Ent p p := fun _ _ h => h
theorem Ent.trans {p q r : Asn} (h : Ent p q) (k : Ent q r) : Ent p r := fun R x y => k R x (h R x y)
theorem Ent.star {p q p' q' : Asn} (h : Ent p p') (k : Ent q q') : Ent (star p q) (star p' q') :=
  fun R _ ⟨a, b, ha, hb, hd, e⟩ => ⟨a, b, h R a ha, k R b hb, hd, e⟩
theorem Ent.star_comm (p q : Asn) : Ent (Sx.star p q) (Sx.star q p) :=
  fun _ _ ⟨a, b, ha, hb, hd, e⟩ => ⟨b, a, hb, ha, hd.symm, e.trans (Hun_comm hd)⟩
theorem Ent.star_assoc (p q r : Asn) : Ent (Sx.star (Sx.star p q) r) (Sx.star p (Sx.star q r)) := by
  rintro R h ⟨ab, c, ⟨a, b, ha, hb, hd, rfl⟩, hc, hd2, rfl⟩
  have := Hdj_un_left.1 hd2
  exact ⟨a, Hun b c, ha, ⟨b, c, hb, hc, this.2, rfl⟩, Hdj_un_right.2 ⟨hd, this.1⟩, Hun_assoc _ _ _⟩
theorem Ent.star_assoc' (p q r : Asn) : Ent (Sx.star p (Sx.star q r)) (Sx.star (Sx.star p q) r) := by
  rintro R h ⟨a, bc, ha, ⟨b, c, hb, hc, hd, rfl⟩, hd2, rfl⟩
  have := Hdj_un_right.1 hd2
  exact ⟨Hun a b, c, ⟨a, b, ha, hb, this.1, rfl⟩, hc, Hdj_un_left.2 ⟨this.2, hd⟩, (Hun_assoc _ _ _).symm⟩
theorem Ent.emp_star (p : Asn) : Ent (Sx.star emp p) p := by
  rintro R h ⟨a, b, rfl, hb, _, rfl⟩; rw [He_Hun]; exact hb
theorem Ent.star_emp (p : Asn) : Ent p (Sx.star emp p) := fun _ h hp => ⟨He, h, rfl, hp, (Hdj_He h).symm, (He_Hun h).symm⟩
theorem Ent.swap (p q r : Asn) : Ent (Sx.star p (Sx.star q r)) (Sx.star q (Sx.star p r)) :=
  (Ent.star_assoc' _ _ _).trans ((Ent.star (Ent.star_comm _ _) (Ent.refl _)).trans (Ent.star_assoc _ _ _))

theorem stars_append (l m : List Asn) : Ent (stars (l ++ m)) (star (stars l) (stars m)) := by
  induction l with
  | nil => exact Ent.star_emp _
  | cons p l ih => exact (Ent.star (Ent.refl p) ih).trans (Ent.star_assoc' _ _ _)
theorem stars_append' (l m : List Asn) : Ent (star (stars l) (stars m)) (stars (l ++ m)) := by
  induction l with
  | nil => exact Ent.emp_star _
  | cons p l ih => exact (Ent.star_assoc _ _ _).trans (Ent.star (Ent.refl p) ih)

/-- Hs is p, and elsewhere what 'rest' has; the place of p is kept in 'put'. -/
inductive At1 : List Asn → Asn → List Asn → Prop
  | head (p : Asn) (l : List Asn) : At1 (p :: l) p l
  | tail {p q : Asn} {l m : List Asn} (h : At1 l p m) : At1 (q :: l) p (q :: m)
theorem At1.out {l m : List Asn} {p : Asn} (h : At1 l p m) : Ent (stars l) (star p (stars m)) := by
  induction h with
  | head p l => exact Ent.refl _
  | tail h ih => exact (Ent.star (Ent.refl _) ih).trans (Ent.swap _ _ _)
theorem At1.back {l m : List Asn} {p : Asn} (h : At1 l p m) : Ent (star p (stars m)) (stars l) := by
  induction h with
  | head p l => exact Ent.refl _
  | tail h ih => exact (Ent.swap _ _ _).trans (Ent.star (Ent.refl _) ih)

/-- What surrounds the run: the frame that nobody touches, the outer world's parts that stay. -/
structure En where
  F : Asn
  os : Os
  tape : Nat → Question → Nat
  out : Array (Nat × ByteArray)

def wh (w : World) : Hp := fun n => w.heap[n]?

def St (E : En) (Hs : List Asn) (w : World) : Prop :=
  (w.os = E.os ∧ w.tape = E.tape ∧ w.output = E.out) ∧
  ∃ R h, (star (stars Hs) E.F).sat R h ∧ Hle h (wh w) ∧ Hle R (wh w) ∧ Hdj R h

theorem St.ent {E : En} {Hs Hs' : List Asn} {w : World} (h : St E Hs w) (k : Ent (stars Hs) (stars Hs')) : St E Hs' w :=
  let ⟨ho, R, x, hs, h1, h2, h3⟩ := h
  ⟨ho, R, x, (Ent.star k (Ent.refl _)) R x hs, h1, h2, h3⟩
/-- What 'rest' says goes into the frame. -/
def En.with (E : En) (rest : List Asn) : En := { E with F := star (stars rest) E.F }
theorem St.frame {E : En} {Hs rest : List Asn} {w : World} (h : St E (Hs ++ rest) w) : St (E.with rest) Hs w :=
  let ⟨ho, R, x, hs, h1, h2, h3⟩ := h
  ⟨ho, R, x, ((Ent.star (stars_append _ _) (Ent.refl _)).trans (Ent.star_assoc _ _ _)) R x hs, h1, h2, h3⟩
theorem St.unframe {E : En} {Hs rest : List Asn} {w : World} (h : St (E.with rest) Hs w) : St E (Hs ++ rest) w :=
  let ⟨ho, R, x, hs, h1, h2, h3⟩ := h
  ⟨ho, R, x, ((Ent.star_assoc' _ _ _).trans (Ent.star (stars_append' _ _) (Ent.refl _))) R x hs, h1, h2, h3⟩
/-- What is owned may be let go. -/
theorem St.drop {E : En} {p : Asn} {Hs : List Asn} {w : World} (h : St E (p :: Hs) w) : St E Hs w := by
  obtain ⟨ho, R, x, ⟨a, b, ⟨c, d, hc, hd, hdj, rfl⟩, hb, hdj2, rfl⟩, h1, h2, h3⟩ := h
  have e1 := Hdj_un_left.1 hdj2
  have e2 := Hdj_un_right.1 h3
  have e3 := Hdj_un_right.1 e2.1
  refine ⟨ho, R, Hun d b, ⟨d, b, hd, hb, e1.2, rfl⟩, ?_, h2, Hdj_un_right.2 ⟨e3.2, e2.2⟩⟩
  refine Hle_un (fun n o hn => h1 n o (Hun_left (Hun_right hdj hn))) (fun n o hn => h1 n o (Hun_right hdj2 hn))

/-- A world that has the same heap, and the same outer world, but for draws. -/
theorem St.same {E : En} {Hs : List Asn} {w w' : World} (h : St E Hs w) (e1 : w'.heap = w.heap) (e2 : w'.os = w.os) (e3 : w'.tape = w.tape) (e4 : w'.output = w.output) : St E Hs w' := by
  obtain ⟨⟨o1, o2, o3⟩, R, x, hs, h1, h2, h3⟩ := h
  refine ⟨⟨e2.trans o1, e3.trans o2, e4.trans o3⟩, R, x, hs, ?_, ?_, h3⟩
  · intro n o hn; have := h1 n o hn; simpa [wh, e1] using this
  · intro n o hn; have := h2 n o hn; simpa [wh, e1] using this
theorem St.drawn {E : En} {Hs : List Asn} {w : World} (h : St E Hs w) : St E Hs { w with drawn := w.drawn + 1 } := h.same rfl rfl rfl rfl

/-! ### What a state tells -/
/-- p stands in the list. -/
inductive Mem : Asn → List Asn → Prop
  | head (p : Asn) (l : List Asn) : Mem p (p :: l)
  | tail {p : Asn} (q : Asn) {l : List Asn} (h : Mem p l) : Mem p (q :: l)
theorem Mem.at1 {p : Asn} {l : List Asn} (h : Mem p l) : ∃ m, At1 l p m := by
  induction h with
  | head l => exact ⟨l, .head _ _⟩
  | tail q _ ih => obtain ⟨m, hm⟩ := ih; exact ⟨q :: m, hm.tail⟩

theorem St.sat1 {E : En} {Hs : List Asn} {w : World} {p : Asn} (h : St E Hs w) (hm : Mem p Hs) : ∃ R x, p.sat R x ∧ Hle R (wh w) ∧ Hle x (wh w) := by
  obtain ⟨m, hm⟩ := hm.at1
  obtain ⟨_, R, x, ⟨a, b, ha, _, hd, rfl⟩, h1, h2, _⟩ := h
  obtain ⟨c, d, hc, hd', hdj, rfl⟩ := hm.out R a ha
  exact ⟨R, c, hc, h2, fun n o hn => h1 n o (Hun_left (Hun_left hn))⟩
theorem St.pt {E : En} {Hs : List Asn} {w : World} {b : Nat} {o : Obj} (h : St E Hs w) (hm : Mem (pt b o) Hs) : w.heap[b]? = some o := by
  obtain ⟨R, x, rfl, _, hx⟩ := h.sat1 hm
  exact hx b o (by simp)
theorem St.per {E : En} {Hs : List Asn} {w : World} {φ : Per} (h : St E Hs w) (hm : Mem (per φ) Hs) : φ.holds (wh w) := by
  obtain ⟨R, x, hx, hR, _⟩ := h.sat1 hm
  exact φ.mono _ _ hR hx.1
theorem St.pur {E : En} {Hs : List Asn} {w : World} {φ : Prop} (h : St E Hs w) (hm : Mem (pur φ) Hs) : φ := by
  obtain ⟨R, x, hx, _⟩ := h.sat1 hm
  exact hx.1

/-! ### How a state goes on -/
theorem wh_push (w : World) (o : Obj) : ∀ n x, wh w n = some x → (w.heap.push o)[n]? = some x := by
  intro n x hn
  have hlt : n < w.heap.size := (Array.getElem?_eq_some_iff.1 hn).1
  rw [Array.getElem?_push, if_neg (by omega)]; exact hn
/-- A new block. -/
theorem St.alloc {E : En} {Hs : List Asn} {w : World} (h : St E Hs w) (o : Obj) : St E (Sx.pt w.heap.size o :: Hs) { w with heap := w.heap.push o } := by
  obtain ⟨ho, R, x, hs, h1, h2, h3⟩ := h
  obtain ⟨a, b, ha, hb, hd, rfl⟩ := hs
  have hn : ∀ (y : Hp), Hle y (wh w) → y w.heap.size = none := by
    intro y hy
    cases e : y w.heap.size with
    | none => rfl
    | some z => have := hy _ _ e; simp [wh] at this
  have hna := hn _ (Hle.trans Hle_un_left h1)
  have hnb := hn _ (Hle.trans (Hle_un_right hd) h1)
  let p : Hp := fun n => if n = w.heap.size then some o else none
  have dpa : Hdj p a := fun n => by
    by_cases e : n = w.heap.size
    · exact .inr (e ▸ hna)
    · exact .inl (by simp [p, e])
  have dpb : Hdj p b := fun n => by
    by_cases e : n = w.heap.size
    · exact .inr (e ▸ hnb)
    · exact .inl (by simp [p, e])
  refine ⟨ho, R, Hun (Hun p a) b, ⟨Hun p a, b, ⟨p, a, rfl, ha, dpa, rfl⟩, hb, Hdj_un_left.2 ⟨dpb, hd⟩, rfl⟩, ?_, fun n y hn => wh_push w o n y (h2 n y hn), ?_⟩
  · have hp : Hle p (wh { w with heap := w.heap.push o }) := by
      intro n y hy
      by_cases e : n = w.heap.size
      · subst e; simp [p] at hy; subst hy; simp [wh]
      · simp [p, e] at hy
    refine Hle_un (Hle_un hp (fun n y hn => wh_push w o n y (h1 n y (Hun_left hn)))) (fun n y hn => wh_push w o n y (h1 n y (Hun_right hd hn)))
  · have e2 := Hdj_un_right.1 h3
    refine Hdj_un_right.2 ⟨Hdj_un_right.2 ⟨fun n => ?_, e2.1⟩, e2.2⟩
    by_cases e : n = w.heap.size
    · exact .inl (e ▸ hn _ h2)
    · exact .inr (by simp [p, e])
/-- The content of an owned block turns. -/
theorem St.set {E : En} {Hs m : List Asn} {w w' : World} {b : Nat} {o o' : Obj} (h : St E Hs w) (hm : At1 Hs (Sx.pt b o) m)
    (e1 : ∀ n, n ≠ b → w'.heap[n]? = w.heap[n]?) (e0 : w'.heap[b]? = some o') (e2 : w'.os = w.os) (e3 : w'.tape = w.tape) (e4 : w'.output = w.output) :
    St E (Sx.pt b o' :: m) w' := by
  obtain ⟨⟨o1, o2, o3⟩, R, x, ⟨a, c, ha, hc, hd, rfl⟩, h1, h2, h3⟩ := h
  obtain ⟨p, q, rfl, hq, hdj, rfl⟩ := hm.out R a ha
  have e1' := Hdj_un_left.1 hd
  have e2' := Hdj_un_right.1 h3
  have e3' := Hdj_un_right.1 e2'.1
  have nb : ∀ (y : Hp), Hdj (fun n => if n = b then some o else none) y → y b = none := fun y hy => by
    rcases hy b with h0 | h0
    · simp at h0
    · exact h0
  let p' : Hp := fun n => if n = b then some o' else none
  have dj' : ∀ (y : Hp), y b = none → Hdj p' y := fun y hy n => by
    by_cases e : n = b
    · exact .inr (e ▸ hy)
    · exact .inl (by simp [p', e])
  have keep : ∀ (y : Hp), y b = none → Hle y (wh w) → Hle y (wh w') := fun y hy hle n z hn => by
    have hne : n ≠ b := fun e => by rw [e, hy] at hn; cases hn
    have := hle n z hn
    simp only [wh] at this ⊢
    rw [e1 n hne]; exact this
  refine ⟨⟨e2.trans o1, e3.trans o2, e4.trans o3⟩, R, Hun (Hun p' q) c, ⟨Hun p' q, c, ⟨p', q, rfl, hq, dj' q (nb q hdj), rfl⟩, hc, Hdj_un_left.2 ⟨dj' c (nb c e1'.1), e1'.2⟩, rfl⟩, ?_, keep R (nb R e3'.1.symm) h2, ?_⟩
  · refine Hle_un (Hle_un ?_ (keep q (nb q hdj) ?_)) (keep c (nb c e1'.1) ?_)
    · intro n z hn
      by_cases e : n = b
      · subst e; simp [p'] at hn; subst hn; exact e0
      · simp [p', e] at hn
    · exact fun n z hn => h1 n z (Hun_left (Hun_right hdj hn))
    · exact fun n z hn => h1 n z (Hun_right hd hn)
  · exact Hdj_un_right.2 ⟨Hdj_un_right.2 ⟨(dj' R (nb R e3'.1.symm)).symm, e3'.2⟩, e2'.2⟩
/-- What is owned is never written any more: a fact on it goes among the facts that stay. -/
theorem St.harden {E : En} {p : Asn} {Hs : List Asn} {w : World} {φ : Per} (h : St E (p :: Hs) w) (hφ : ∀ R x R', p.sat R x → Hle R R' → Hle x R' → φ.holds R') : St E (Sx.per φ :: Hs) w := by
  obtain ⟨ho, R, x, ⟨a, b, ⟨c, d, hc, hd, hdj, rfl⟩, hb, hdj2, rfl⟩, h1, h2, h3⟩ := h
  have e1 := Hdj_un_left.1 hdj2
  have e2 := Hdj_un_right.1 h3
  have e3 := Hdj_un_right.1 e2.1
  have hle : Hle R (Hun R c) := Hle_un_left
  refine ⟨ho, Hun R c, Hun d b, ⟨d, b, ⟨He, d, ⟨hφ R c _ hc hle (Hle_un_right e3.1), rfl⟩, (stars Hs).mono _ _ _ hle hd, (Hdj_He d).symm, (He_Hun d).symm⟩, E.F.mono _ _ _ hle hb, e1.2, rfl⟩, ?_, ?_, ?_⟩
  · exact Hle_un (fun n o hn => h1 n o (Hun_left (Hun_right hdj hn))) (fun n o hn => h1 n o (Hun_right hdj2 hn))
  · exact Hle_un h2 (fun n o hn => h1 n o (Hun_left (Hun_left hn)))
  · exact Hdj_un_left.2 ⟨Hdj_un_right.2 ⟨e3.2, e2.2⟩, Hdj_un_right.2 ⟨hdj, e1.1⟩⟩

/-! ### Entailments on lists -/
theorem ent_ex_left {α : Type} {f : α → Asn} {l : List Asn} {q : Asn} (h : ∀ x, Ent (stars (f x :: l)) q) : Ent (stars (ex f :: l)) q := by
  rintro R y ⟨a, b, ⟨x, hx⟩, hb, hd, rfl⟩
  exact h x R _ ⟨a, b, hx, hb, hd, rfl⟩
theorem ent_pur_left {φ : Prop} {l : List Asn} {q : Asn} (h : φ → Ent (stars l) q) : Ent (stars (pur φ :: l)) q := by
  rintro R y ⟨a, b, ⟨hφ, rfl⟩, hb, hd, rfl⟩
  rw [He_Hun]
  exact h hφ R _ hb
theorem ent_star_left {p q : Asn} {l : List Asn} {r : Asn} (h : Ent (stars (p :: q :: l)) r) : Ent (stars (star p q :: l)) r :=
  (Ent.star_assoc _ _ _).trans h
theorem St.exE {E : En} {α : Type} {f : α → Asn} {l : List Asn} {w : World} (h : St E (ex f :: l) w) : ∃ x, St E (f x :: l) w := by
  obtain ⟨ho, R, x, ⟨a, b, ⟨c, d, ⟨y, hy⟩, hd, hdj, rfl⟩, hb, hdj2, rfl⟩, h1, h2, h3⟩ := h
  exact ⟨y, ho, R, _, ⟨_, b, ⟨c, d, hy, hd, hdj, rfl⟩, hb, hdj2, rfl⟩, h1, h2, h3⟩
theorem St.exI {E : En} {α : Type} {f : α → Asn} {l : List Asn} {w : World} (x : α) (h : St E (f x :: l) w) : St E (ex f :: l) w :=
  h.ent (Ent.star (fun _ _ k => ⟨x, k⟩) (Ent.refl _))
theorem St.purE {E : En} {φ : Prop} {l : List Asn} {w : World} (h : St E (Sx.pur φ :: l) w) : φ ∧ St E l w := ⟨h.pur (.head _ _), h.drop⟩
theorem St.purI {E : En} {φ : Prop} {l : List Asn} {w : World} (hφ : φ) (h : St E l w) : St E (Sx.pur φ :: l) w :=
  h.ent (fun _ x k => ⟨He, x, ⟨hφ, rfl⟩, k, (Hdj_He x).symm, (He_Hun x).symm⟩)
theorem St.starE {E : En} {p q : Asn} {l : List Asn} {w : World} (h : St E (star p q :: l) w) : St E (p :: q :: l) w := h.ent (Ent.star_assoc _ _ _)
theorem St.starI {E : En} {p q : Asn} {l : List Asn} {w : World} (h : St E (p :: q :: l) w) : St E (star p q :: l) w := h.ent (Ent.star_assoc' _ _ _)
theorem St.empE {E : En} {l : List Asn} {w : World} (h : St E (emp :: l) w) : St E l w := h.ent (Ent.emp_star _)
theorem St.empI {E : En} {l : List Asn} {w : World} (h : St E l w) : St E (emp :: l) w := h.ent (Ent.star_emp _)
theorem St.starsE {E : En} {m l : List Asn} {w : World} (h : St E (stars m :: l) w) : St E (m ++ l) w := h.ent (stars_append' m l)
theorem St.starsI {E : En} {m l : List Asn} {w : World} (h : St E (m ++ l) w) : St E (stars m :: l) w := h.ent (stars_append m l)
theorem St.front {E : En} {p : Asn} {l m : List Asn} {w : World} (h : St E l w) (hm : At1 l p m) : St E (p :: m) w := h.ent hm.out
theorem St.back {E : En} {p : Asn} {l m : List Asn} {w : World} (h : St E (p :: m) w) (hm : At1 l p m) : St E l w := h.ent hm.back
/-- A fact that stays may be told twice. -/
theorem St.perDup {E : En} {φ : Per} {l : List Asn} {w : World} (h : St E l w) (hm : Mem (Sx.per φ) l) : St E (Sx.per φ :: l) w := by
  obtain ⟨m, hm⟩ := hm.at1
  refine h.ent (fun R x k => ?_)
  obtain ⟨a, b, ⟨ha, rfl⟩, hb, hd, rfl⟩ := hm.out R x k
  exact ⟨He, _, ⟨ha, rfl⟩, k, (Hdj_He _).symm, (He_Hun _).symm⟩
theorem St.perMap {E : En} {φ ψ : Per} {l : List Asn} {w : World} (h : St E l w) (hm : Mem (Sx.per φ) l) (k : ∀ R, φ.holds R → ψ.holds R) : St E (Sx.per ψ :: l) w :=
  (h.perDup hm).ent (Ent.star (fun R _ hx => ⟨k R hx.1, hx.2⟩) (Ent.refl _))

end Go.Sx
