/- Data that stay: how values read as data; rows of them; what a row tells, what becomes of a row that is owned. -/
import Derived.Test.YtebjpeonbfhdhaaGreatSx4
set_option linter.unusedSimpArgs false
set_option linter.unusedVariables false
namespace Go.Sx
open Go

/-- A type of data, as cells. -/
class Rep (α : Type) where
  sz : Nat
  pos : 0 < sz
  rel : Hp → α → List Value → Prop
  len : ∀ {R x cs}, rel R x cs → cs.length = sz
  mono : ∀ {R R' x cs}, Hle R R' → rel R x cs → rel R' x cs
  ones : ∀ {R x cs}, rel R x cs → ones cs

def i64 (n : Int) : Prop := -9223372036854775808 ≤ n ∧ n ≤ 9223372036854775807
def big : Nat := 9223372036854775807
/-- A number of another kind. -/
def uk (k : IntKind) (n : Int) : Prop := 0 ≤ n ∧ n ≤ (match k with | .u8 => 255 | _ => 18446744073709551615)

instance repInt : Rep Int where
  sz := 1
  pos := by decide
  rel := fun _ n cs => cs = [.int .i64 n] ∧ i64 n
  len := by rintro _ _ _ ⟨rfl, _⟩; rfl
  mono := fun _ h => h
  ones := by rintro _ _ _ ⟨rfl, _⟩; exact ⟨rfl, trivial⟩
instance repBool : Rep Bool where
  sz := 1
  pos := by decide
  rel := fun _ n cs => cs = [.bool n]
  len := by rintro _ _ _ rfl; rfl
  mono := fun _ h => h
  ones := by rintro _ _ _ rfl; exact ⟨rfl, trivial⟩
instance repStr : Rep ByteArray where
  sz := 1
  pos := by decide
  rel := fun _ s cs => cs = [.string s] ∧ s.size ≤ big
  len := by rintro _ _ _ ⟨rfl, _⟩; rfl
  mono := fun _ h => h
  ones := by rintro _ _ _ ⟨rfl, _⟩; exact ⟨rfl, trivial⟩

def relP {α : Type} [Rep α] (x : α) (cs : List Value) : Per := ⟨fun R => Rep.rel R x cs, fun _ _ hR h => Rep.mono hR h⟩
/-- The row that a slice leads to. -/
def rdSl {α : Type} [Rep α] (ao : Option Addr) (xs : List α) : Per :=
  ⟨fun R => xs.length ≤ big ∧ (0 < xs.length → ∃ ad, ao = some ad ∧ ∀ i x, xs[i]? = some x → ∃ cs, Rep.rel R x cs ∧ (cellsP (ad.add (i * Rep.sz α)) cs).holds R),
   fun _ _ hR ⟨h0, h⟩ => ⟨h0, fun hp => let ⟨ad, e, k⟩ := h hp; ⟨ad, e, fun i x hx => let ⟨cs, h1, h2⟩ := k i x hx; ⟨cs, Rep.mono hR h1, (cellsP _ cs).mono _ _ hR h2⟩⟩⟩⟩
instance repList {α : Type} [Rep α] : Rep (List α) where
  sz := 1
  pos := by decide
  rel := fun R xs cs => ∃ ao c, cs = [.slice ao xs.length c] ∧ xs.length ≤ c ∧ (rdSl ao xs).holds R
  len := by rintro _ _ _ ⟨_, _, rfl, _⟩; rfl
  mono := fun hR ⟨ao, c, e, l, h⟩ => ⟨ao, c, e, l, (rdSl ao _).mono _ _ hR h⟩
  ones := by rintro _ _ _ ⟨_, _, rfl, _⟩; exact ⟨rfl, trivial⟩

/-- What a list of data is, cell behind cell. -/
def relL {α : Type} [Rep α] (R : Hp) : List α → List Value → Prop
  | [], cs => cs = []
  | x :: xs, cs => ∃ c1 c2, cs = c1 ++ c2 ∧ Rep.rel R x c1 ∧ relL R xs c2
def relLP {α : Type} [Rep α] (xs : List α) (cs : List Value) : Per := ⟨fun R => relL R xs cs, by
  intro R R' hR h
  induction xs generalizing cs with
  | nil => exact h
  | cons x xs ih => obtain ⟨c1, c2, e, h1, h2⟩ := h; exact ⟨c1, c2, e, Rep.mono hR h1, ih c2 h2⟩⟩
section
variable {α : Type} [Rep α] {R R' : Hp}
theorem relL_len {xs : List α} {cs : List Value} (h : relL R xs cs) : cs.length = xs.length * Rep.sz α := by
  induction xs generalizing cs with
  | nil => simp [relL] at h; simp [h]
  | cons x xs ih =>
    obtain ⟨c1, c2, rfl, h1, h2⟩ := h
    simp [Rep.len h1, ih h2, Nat.add_mul, Nat.add_comm]
theorem relL_ones {xs : List α} {cs : List Value} (h : relL R xs cs) : ones cs := by
  induction xs generalizing cs with
  | nil => simp [relL] at h; subst h; trivial
  | cons x xs ih =>
    obtain ⟨c1, c2, rfl, h1, h2⟩ := h
    refine ones_of fun v hv => ?_
    rcases List.mem_append.1 hv with hv | hv
    · exact ones_mem (Rep.ones h1) v hv
    · exact ones_mem (ih h2) v hv
theorem relL_append {xs ys : List α} {cs ds : List Value} (h : relL R xs cs) (k : relL R ys ds) : relL R (xs ++ ys) (cs ++ ds) := by
  induction xs generalizing cs with
  | nil => simp [relL] at h; subst h; exact k
  | cons x xs ih =>
    obtain ⟨c1, c2, rfl, h1, h2⟩ := h
    exact ⟨c1, c2 ++ ds, by rw [List.append_assoc], h1, ih h2⟩
theorem relL_one {x : α} {cs : List Value} (h : Rep.rel R x cs) : relL R [x] cs := ⟨cs, [], by simp, h, rfl⟩
theorem relL_at {xs : List α} {cs : List Value} (h : relL R xs cs) : ∀ i x, xs[i]? = some x → ∃ ds, Rep.rel R x ds ∧ ∀ j v, ds[j]? = some v → cs[i * Rep.sz α + j]? = some v := by
  induction xs generalizing cs with
  | nil => intro i x hx; simp at hx
  | cons y xs ih =>
    obtain ⟨c1, c2, rfl, h1, h2⟩ := h
    intro i x hx
    cases i with
    | zero =>
      simp at hx; subst hx
      refine ⟨c1, h1, fun j v hj => ?_⟩
      have : j < c1.length := by
        rcases Nat.lt_or_ge j c1.length with h | h
        · exact h
        · rw [List.getElem?_eq_none h] at hj; cases hj
      rw [Nat.zero_mul, Nat.zero_add, List.getElem?_append_left this]; exact hj
    | succ i =>
      obtain ⟨ds, h3, h4⟩ := ih h2 i x (by simpa using hx)
      refine ⟨ds, h3, fun j v hj => ?_⟩
      have := h4 j v hj
      rw [List.getElem?_append_right (by rw [Rep.len h1, Nat.add_mul]; omega), Rep.len h1]
      rw [show (i + 1) * Rep.sz α + j - Rep.sz α = i * Rep.sz α + j by rw [Nat.add_mul]; omega]
      exact this
/-- Elements from k on, so many. -/
theorem relL_part {xs : List α} {cs : List Value} (h : relL R xs cs) (k n : Nat) : relL R ((xs.drop k).take n) ((cs.drop (k * Rep.sz α)).take (n * Rep.sz α)) := by
  induction xs generalizing cs k n with
  | nil => simp [relL] at h; subst h; simp [relL]
  | cons x xs ih =>
    obtain ⟨c1, c2, rfl, h1, h2⟩ := h
    cases k with
    | zero =>
      cases n with
      | zero => simp [relL]
      | succ n =>
        have := ih h2 0 n
        simp only [Nat.zero_mul, List.drop_zero] at this
        rw [Nat.zero_mul, List.drop_zero, List.drop_zero, List.take_succ_cons]
        refine ⟨c1, c2.take (n * Rep.sz α), ?_, h1, this⟩
        rw [List.take_append, List.take_of_length_le (by rw [Rep.len h1, Nat.add_mul]; omega), Rep.len h1]
        congr 2
        rw [Nat.add_mul]; omega
    | succ k =>
      have := ih h2 k n
      rw [List.drop_succ_cons]
      rw [show (c1 ++ c2).drop ((k + 1) * Rep.sz α) = c2.drop (k * Rep.sz α) by
        rw [List.drop_append, Rep.len h1, List.drop_of_length_le (by rw [Rep.len h1, Nat.add_mul]; omega), List.nil_append]
        congr 1
        rw [Nat.add_mul]; omega]
      exact this
/-- A row's cells, out of a row that stays. -/
theorem rdSl_cells {ao : Option Addr} {xs : List α} (h : (rdSl ao xs).holds R) (hp : 0 < xs.length) : ∃ ad, ao = some ad ∧ ∃ cs, relL R xs cs ∧ (cellsP ad cs).holds R := by
  obtain ⟨hb, h'⟩ := h
  obtain ⟨ad, e0, h⟩ := h' hp
  clear h'
  refine ⟨ad, e0, ?_⟩
  -- all elements lie in one block
  obtain ⟨x0, hx0⟩ : ∃ x, xs[0]? = some x := ⟨xs[0], by simp [hp]⟩
  obtain ⟨_, _, hs, bs, t, hbs, _⟩ := h 0 x0 hx0
  have hsp : ad.spot = none := by
    rw [Nat.zero_mul] at hs
    simpa [Addr.add] using hs
  obtain ⟨b, o, s⟩ := ad
  simp only at hsp
  subst hsp
  have hbs' : R b = some (.cells bs t.1 t.2) := by simpa [add_lit] using hbs
  have key : ∀ (ys : List α) (k : Nat), (∀ i x, ys[i]? = some x → xs[k + i]? = some x) → ∃ cs, relL R ys cs ∧ ∀ j v, cs[j]? = some v → bs[o + k * Rep.sz α + j]? = some v := by
    intro ys
    induction ys with
    | nil => intro k _; exact ⟨[], rfl, fun j v hj => by simp at hj⟩
    | cons y ys ih =>
      intro k hk
      obtain ⟨cs, h1, h2⟩ := ih (k + 1) (fun i x hx => by
        have := hk (i + 1) x (by simpa using hx)
        rwa [show k + 1 + i = k + (i + 1) by omega])
      obtain ⟨c1, h3, hs1, bs1, t1, hb1, h4⟩ := h k y (by simpa using hk 0 y rfl)
      rw [add_lit] at hb1 h4
      have e : bs1 = bs := by
        have : some (Obj.cells bs1 t1.1 t1.2) = some (Obj.cells bs t.1 t.2) := hb1.symm.trans hbs'
        injection this with this; injection this
      subst e
      refine ⟨c1 ++ cs, ⟨c1, cs, rfl, h3, h1⟩, fun j v hj => ?_⟩
      rcases Nat.lt_or_ge j c1.length with hlt | hge
      · rw [List.getElem?_append_left hlt] at hj; exact h4 j v hj
      · rw [List.getElem?_append_right hge, Rep.len h3] at hj
        have := h2 _ v hj
        rw [Rep.len h3] at hge
        rw [show o + k * Rep.sz α + j = o + (k + 1) * Rep.sz α + (j - Rep.sz α) by rw [Nat.add_mul]; omega]
        exact this
  obtain ⟨cs, h1, h2⟩ := key xs 0 (fun i x hx => by rwa [Nat.zero_add])
  refine ⟨cs, h1, rfl, bs, t, hbs', fun j v hj => ?_⟩
  have := h2 j v hj
  simpa using this
/-- A row that stays, out of its cells. -/
theorem rdSl_of {ad : Addr} {xs : List α} {cs : List Value} (h : relL R xs cs) (k : (cellsP ad cs).holds R) (hb : xs.length ≤ big) : (rdSl (some ad) xs).holds R := by
  refine ⟨hb, fun _ => ⟨ad, rfl, fun i x hx => ?_⟩⟩
  obtain ⟨ds, h1, h2⟩ := relL_at h i x hx
  obtain ⟨hs, bs, t, hbs, hc⟩ := k
  obtain ⟨b, o, s⟩ := ad
  simp only at hs
  subst hs
  refine ⟨ds, h1, by rw [add_lit], bs, t, by rw [add_lit]; exact hbs, fun j v hj => ?_⟩
  rw [add_lit]
  have := hc _ v (h2 j v hj)
  simpa [Nat.add_assoc] using this
theorem rdSl_nil (ao : Option Addr) : (rdSl ao ([] : List α)).holds R := ⟨by simp, fun h => by simp at h⟩
end

section
variable {P : Program} {E : En} {N : Nat} {K : Kl} {g : Option (Nat × Bool)} {Hs : List Asn} {ty : TypeId} {Q : Exit → Act → World → Prop} {ops : Array Oper} {rest : List Oper} {pos : String} {af : Array Edge} {G : Act → World → Prop}
variable {α : Type} [Rep α]

/-- Where a row has an element its slice has an address. -/
theorem At.slSome {ao : Option Addr} {xs : List α} (hm : Mem (per (rdSl ao xs)) Hs) (hp : 0 < xs.length) (h : ∀ ad, ao = some ad → At E N K Hs G) : At E N K Hs G := fun a w hk hs => by
  obtain ⟨_, k⟩ := hs.per hm
  obtain ⟨ad, e, _⟩ := k hp
  exact h ad e a w hk hs
theorem At.lenb {ao : Option Addr} {xs : List α} (hm : Mem (per (rdSl ao xs)) Hs) (h : xs.length ≤ big → At E N K Hs G) : At E N K Hs G := fun a w hk hs => h (hs.per hm).1 a w hk hs
/-- Element i of a row that stays, laid open. -/
theorem At.elem {ad : Addr} {xs : List α} (i : Nat) (hm : Mem (per (rdSl (some ad) xs)) Hs) (x : α) (hx : xs[i]? = some x) (h : ∀ cs, At E N K (per (relP x cs) :: per (cellsP (ad.add (i * Rep.sz α)) cs) :: Hs) G) : At E N K Hs G := fun a w hk hs => by
  obtain ⟨ho, R, y, hsat, h1, h2, h3⟩ := hs
  obtain ⟨p, q, hp, hq, hd, rfl⟩ := hsat
  obtain ⟨m, hm1⟩ := hm.at1
  obtain ⟨c, d, hc, hd', hdj, rfl⟩ := hm1.out R p hp
  have hR : (rdSl (some ad) xs).holds R := hc.1
  have hpos : 0 < xs.length := by
    have := (List.getElem?_eq_some_iff.1 hx).1; omega
  obtain ⟨ad', e, k⟩ := hR.2 hpos
  cases e
  obtain ⟨cs, k1, k2⟩ := k i x hx
  refine h cs a w hk ⟨ho, R, _, ⟨_, q, ⟨He, _, ⟨k1, rfl⟩, ⟨He, _, ⟨k2, rfl⟩, hp, (Hdj_He _).symm, (He_Hun _).symm⟩, (Hdj_He _).symm, (He_Hun _).symm⟩, hq, hd, rfl⟩, h1, h2, h3⟩
/-- What data tell of their cells. -/
theorem At.rel {x : α} {cs : List Value} (hm : Mem (per (relP x cs)) Hs) {S : Hp → Prop} (hS : ∀ R, Rep.rel R x cs → S R) (φ : Per) (hφ : ∀ R, S R → φ.holds R) (h : At E N K (per φ :: Hs) G) : At E N K Hs G := fun a w hk hs =>
  h a w hk (hs.perMap hm fun R hR => hφ R (hS R hR))
/-- Data are told: what they say, one existence after the other. -/
theorem At.per_ex {β : Type} {φ : Per} {f : β → Per} {l : List Asn} (hφ : ∀ R, φ.holds R → ∃ x, (f x).holds R) (h : ∀ x, At E N K (per (f x) :: l) G) : At E N K (per φ :: l) G := fun a w hk hs => by
  obtain ⟨ho, R, y, hsat, h1, h2, h3⟩ := hs
  obtain ⟨p, q, ⟨c, d, ⟨hc, rfl⟩, hd', hdj, rfl⟩, hq, hd, rfl⟩ := hsat
  obtain ⟨x, hx⟩ := hφ R hc
  exact h x a w hk ⟨ho, R, _, ⟨_, q, ⟨He, d, ⟨hx, rfl⟩, hd', hdj, rfl⟩, hq, hd, rfl⟩, h1, h2, h3⟩
theorem At.per_pur {φ : Per} {ψ : Prop} {l : List Asn} (hφ : ∀ R, φ.holds R → ψ) (h : ψ → At E N K (per φ :: l) G) : At E N K (per φ :: l) G := fun a w hk hs => h (hφ _ (hs.per (.head _ _))) a w hk hs
theorem At.per_and {φ ψ χ : Per} {l : List Asn} (hφ : ∀ R, φ.holds R → ψ.holds R ∧ χ.holds R) (h : At E N K (per ψ :: per χ :: per φ :: l) G) : At E N K (per φ :: l) G := fun a w hk hs =>
  h a w hk ((hs.perMap (.head _ _) fun R hR => (hφ R hR).2).perMap (.tail _ (.head _ _)) fun R hR => (hφ R hR).1)

/-- Element i of a row that stays. -/
theorem At.get {ao : Option Addr} {xs : List α} (hm : Mem (per (rdSl ao xs)) Hs) (i : Nat) (hi : i < xs.length) (n : Nat) (hn : n = Rep.sz α)
    (h : ∀ ad x cs, ao = Option.some ad → xs[i]? = Option.some x → At E N K (per (relP x cs) :: per (cellsP (ad.add (i * n)) cs) :: Hs) G) : At E N K Hs G := by
  subst hn
  refine At.slSome hm (by omega) fun ad e => ?_
  subst e
  exact At.elem i hm xs[i] (by simp [hi]) fun cs => h ad _ cs rfl (by simp [hi])
theorem openInt {x : Int} {cs : List Value} (hm : Mem (per (relP x cs)) Hs) (h : i64 x → cs = [.int .i64 x] → At E N K Hs G) : At E N K Hs G := fun a w hk hs => by
  obtain ⟨e, k⟩ := hs.per hm
  exact h k e a w hk hs
theorem openBool {x : Bool} {cs : List Value} (hm : Mem (per (relP x cs)) Hs) (h : cs = [.bool x] → At E N K Hs G) : At E N K Hs G := fun a w hk hs => h (hs.per hm) a w hk hs
theorem openStr {x : ByteArray} {cs : List Value} (hm : Mem (per (relP x cs)) Hs) (h : x.size ≤ big → cs = [.string x] → At E N K Hs G) : At E N K Hs G := fun a w hk hs => by
  obtain ⟨e, k⟩ := hs.per hm
  exact h k e a w hk hs
/-- A fact that stays, and hangs on nothing. -/
theorem At.perI {φ : Per} (hφ : ∀ R, φ.holds R) (h : At E N K (Sx.per φ :: Hs) G) : At E N K Hs G := fun a w hk hs => h a w hk (hs.ent (fun R x k => ⟨He, x, ⟨hφ R, rfl⟩, k, (Hdj_He x).symm, (He_Hun x).symm⟩))
/-- A block that is never written any more, as a row. -/
theorem At.sealB {b t : Nat} {cs : List Value} (xs : List α) {m : List Asn} (hm : At1 Hs (blk b cs t) m) (hx : Mem (per (relLP xs cs)) m) (hb : xs.length ≤ big)
    (h : At E N K (per (rdSl (Option.some ⟨b, 0, none⟩) xs) :: m) G) : At E N K Hs G := fun a w hk hs => by
  have h2 := (hs.front hm).harden (φ := cellsP ⟨b, 0, none⟩ cs) (by
    rintro R x R' rfl _ hx
    refine ⟨rfl, cs.toArray, (t, (0, 0)), hx b _ (by simp), fun j v hj => ?_⟩
    simpa using hj)
  refine h a w hk ?_
  obtain ⟨ho, R, y, ⟨p, q, ⟨c, d, ⟨hc, rfl⟩, hd', hdj, rfl⟩, hq, hd, rfl⟩, k1, k2, k3⟩ := h2
  obtain ⟨m2, hm2⟩ := hx.at1
  obtain ⟨c', d', hc', _⟩ := hm2.out R d hd'
  exact ⟨ho, R, _, ⟨_, q, ⟨He, d, ⟨rdSl_of hc'.1 hc hb, rfl⟩, hd', hdj, rfl⟩, hq, hd, rfl⟩, k1, k2, k3⟩
/-- Facts that follow from one that stays. -/
inductive Tells (E : En) (N : Nat) (K : Kl) (Hs : List Asn) (G : Act → World → Prop) (R : Hp) : Prop
  | intro {l : List Per} (h : ∀ φ ∈ l, φ.holds R) (k : At E N K (l.map Sx.per ++ Hs) G) : Tells E N K Hs G R
theorem At.tell {φ : Per} (hm : Mem (Sx.per φ) Hs) (h : ∀ R, φ.holds R → Tells E N K Hs G R) : At E N K Hs G := fun a w hk hs => by
  obtain ⟨ho, R, y, hsat, h1, h2, h3⟩ := hs
  obtain ⟨p, q, hp, hq, hd, rfl⟩ := hsat
  obtain ⟨m, hm1⟩ := hm.at1
  obtain ⟨c, d, hc, hd', hdj, e0⟩ := hm1.out R p hp
  obtain ⟨hl, k⟩ := h R hc.1
  rename_i l
  refine k a w hk ⟨ho, R, _, ⟨p, q, ?_, hq, hd, rfl⟩, h1, h2, h3⟩
  clear k
  induction l with
  | nil => exact hp
  | cons ψ l ih => exact ⟨He, p, ⟨hl ψ (List.mem_cons_self ..), rfl⟩, ih (fun φ hφ => hl φ (List.mem_cons_of_mem _ hφ)), (Hdj_He p).symm, (He_Hun p).symm⟩
/-- A place in a row. -/
theorem ev_ia {x y : Operand} {t e sz n c : Nat} {k : IntKind} {ad : Addr} {i : Int} (hu : UN P t (.slice e)) (hz : SZ P e sz) (hx : opv K g x = some (.slice (some ad) n c)) (hy : opv K g y = some (.int k i)) (h0 : 0 ≤ i) (h1 : i < n) :
    Ev P E N K g Hs (.indexAddr t x y) ty (.pointer (some (ad.add (i.toNat * sz)))) := fun a w hk hg _ d pos af gd => by
  have : (Instr.indexAt t (.slice (some ad) n c) (.int k i)).run P w = .ok (.pointer (some (ad.add (i.toNat * sz)))) w := by
    simp [Instr.indexAt, Sem.run_bind, asIntOf, hu.run, h0, h1, hz w]
  simp only [execOp, opv_eval hk hg hx, opv_eval hk hg hy, Sem.run_bind, this]; rfl
theorem ev_ian {x y : Operand} {t e sz n c : Nat} {k : IntKind} {ad : Addr} {i : Nat} (hu : UN P t (.slice e)) (hz : SZ P e sz) (hx : opv K g x = some (.slice (some ad) n c)) (hy : opv K g y = some (.int k i)) (h1 : i < n) :
    Ev P E N K g Hs (.indexAddr t x y) ty (.pointer (some (ad.add (i * sz)))) := by
  have := ev_ia (P := P) (E := E) (N := N) (Hs := Hs) (ty := ty) hu hz hx hy (by omega) (by omega)
  rwa [Int.toNat_natCast] at this
/-- A place in an array. -/
theorem ev_iaa {x y : Operand} {t e sz n : Nat} {k : IntKind} {ad : Addr} {i : Int} (hu : UN P t (.array n e)) (hz : SZ P e sz) (hx : opv K g x = some (.pointer (some ad))) (hy : opv K g y = some (.int k i)) (h0 : 0 ≤ i) (h1 : i < n) :
    Ev P E N K g Hs (.indexAddr t x y) ty (.pointer (some (ad.add (i.toNat * sz)))) := fun a w hk hg _ d pos af gd => by
  have : (Instr.indexAt t (.pointer (some ad)) (.int k i)).run P w = .ok (.pointer (some (ad.add (i.toNat * sz)))) w := by
    simp [Instr.indexAt, Sem.run_bind, asIntOf, hu.run, h0, h1, hz w, Instr.sureAddr]
  simp only [execOp, opv_eval hk hg hx, opv_eval hk hg hy, Sem.run_bind, this]; rfl

/-! ### append, at the operation -/
theorem ch_append {x y : Operand} {t tx e sz by' n m : Nat} {v u : Value} {cs news : List Value} {mm : List Asn} (ht : TI P t e sz by') (hx : opv K none x = some v) (hy : opv K none y = some u) (hm : At1 Hs (own v e sz n cs) mm)
    (hsrc : ∀ E w, St E Hs w → Src P sz tx u m news w) (hb : (n + m) * by' ≤ 140737488355328) (h63 : n + m ≤ maxLen) (d : Option Nat) :
    Ch P E N K Hs (.call { callee := .builtin .append, args := #[x, y], argTypes := #[t, tx] }) ty d (fun v' Hs' => Hs' = own v' e sz (n + m) (cs ++ news) :: mm) := fun a w hk hs pos af gd => by
  obtain ⟨v', w', hr, hst⟩ := run_append_sx (P := P) (tr := ty) ht (hs.front hm) (hsrc E w hs) hb h63
  refine ⟨v', w', _, rfl, hst, .inl ?_⟩
  simp only [execOp, resolve, Sem.run_bind, Sem.run_pure, Result.andThen_ok, invoke, builtin]
  have e1 : (#[x, y].map a.eval) = #[v, u] := by simp [opv_eval hk (Gd.none a) hx, opv_eval hk (Gd.none a) hy]
  rw [e1, hr]; rfl
/-- What is appended: a row in an owned block. -/
theorem src_blk {l : List Asn} {tx e' sz b n c : Nat} {cs : List Value} {t' : TypeId} (hu : UN P tx (.slice e')) (hm : Mem (blk b cs t') l) (h1 : ones cs) (hl : Nat.beq cs.length (n * sz) = true) :
    ∀ E w, St E l w → Src P sz tx (.slice (some ⟨b, 0, none⟩) n c) n cs w := fun E w hs =>
  Src.ofSlice w hu _ n c cs (beq_t.1 hl) (Cells.blk0 hm E w hs) (ones_mem h1)
theorem src_per {l : List Asn} {tx e' sz n c : Nat} {ad : Addr} {cs : List Value} (hu : UN P tx (.slice e')) (hm : Mem (per (cellsP ad cs)) l) (h1 : ones cs) (hl : cs.length = n * sz) :
    ∀ E w, St E l w → Src P sz tx (.slice (some ad) n c) n cs w := fun E w hs =>
  Src.ofSlice w hu _ n c cs hl (Cells.per0 hm E w hs) (ones_mem h1)
theorem src_str {l : List Asn} {tx : Nat} {s : ByteArray} (hu : UN P tx .string) : ∀ E w, St E l w → Src P 1 tx (.string s) s.size (byteCells s) w := fun E w hs => Src.ofString w hu s

/-- An owned row is never written any more. -/
theorem imp_seal {v : Value} {t n : Nat} {cs : List Value} {xs : List α} {l : List Asn} (hn : n = xs.length) :
    Imp (own v t (Rep.sz α) n cs :: per (relLP xs cs) :: l) (ex (fun p : Option Addr × Nat => star (pur (v = .slice p.1 xs.length p.2 ∧ xs.length ≤ p.2 ∧ p.2 ≤ maxLen)) (stars (per (rdSl p.1 xs) :: l)))  :: []) := fun E w h => by
  subst hn
  obtain ⟨o, h⟩ := h.exE
  cases o with
  | none =>
    obtain ⟨⟨rfl, h0, rfl⟩, h1⟩ := h.purE
    have hx : xs = [] := List.eq_nil_of_length_eq_zero h0
    subst hx
    refine Imp.ex (none, 0) (Imp.star (Imp.pur ⟨rfl, by simp, by simp⟩ ?_)) E w (h1.perMap (.head _ _) (ψ := rdSl none ([] : List α)) (fun R _ => rdSl_nil none))
    exact Imp.stars (Imp.one (.head _ _) (fun E w h => by rw [show l.append [] = l from List.append_nil l]; exact h.drop))
  | some q =>
    obtain ⟨b, cap, sp⟩ := q
    obtain ⟨⟨rfl, hcl, hal, hnc, hcm⟩, h1⟩ := h.starE.purE
    -- first the row's cells, then what they say
    have h2 := h1.harden (φ := cellsP ⟨b, 0, none⟩ cs) (by
      rintro R x R' rfl _ hx
      refine ⟨rfl, (cs ++ sp).toArray, (t, (0, 0)), hx b _ (by simp), fun j v hj => ?_⟩
      have hlt : j < cs.length := by
        rcases Nat.lt_or_ge j cs.length with h | h
        · exact h
        · rw [List.getElem?_eq_none h] at hj; cases hj
      simp only [Nat.zero_add, List.getElem?_toArray]
      rw [List.getElem?_append_left hlt]; exact hj)
    have h3 : St E (per (rdSl (some ⟨b, 0, none⟩) xs) :: l) w := by
      obtain ⟨ho, R, y, ⟨p, q, ⟨c, d, ⟨hc, rfl⟩, ⟨c', d', ⟨hc', rfl⟩, hd', hdj', rfl⟩, hdj, rfl⟩, hq, hd, rfl⟩, k1, k2, k3⟩ := h2
      refine ⟨ho, R, _, ⟨_, q, ⟨He, _, ⟨rdSl_of hc' hc ?_, rfl⟩, hd', hdj', rfl⟩, hq, ?_, rfl⟩, ?_, k2, ?_⟩
      · simp only [maxLen] at hcm; simp only [big]; omega
      · rw [He_Hun] at hd ⊢; rw [He_Hun] at hd; exact hd
      · rw [He_Hun, He_Hun] at k1; rw [He_Hun]; exact k1
      · rw [He_Hun, He_Hun] at k3; rw [He_Hun]; exact k3
    refine Imp.ex (some ⟨b, 0, none⟩, cap) (Imp.star (Imp.pur ⟨rfl, hnc, hcm⟩ ?_)) E w h3
    exact Imp.stars (Imp.one (.head _ _) (fun E w h => by rw [show l.append [] = l from List.append_nil l]; exact h))
theorem At.harden {v : Value} {t n : Nat} {cs : List Value} (xs : List α) {m : List Asn} (hm : At1 Hs (own v t (Rep.sz α) n cs) m) (hx : Mem (per (relLP xs cs)) m) (hn : n = xs.length)
    (h : ∀ ao c, v = .slice ao xs.length c → xs.length ≤ c → c ≤ maxLen → At E N K (per (rdSl ao xs) :: m) G) : At E N K Hs G := fun a w hk hs => by
  obtain ⟨m2, hm2⟩ := hx.at1
  have h1 := hs.front hm
  have h2 : St E (own v t (Rep.sz α) n cs :: per (relLP xs cs) :: m) w := by
    have := h1.perDup (.tail _ hx)
    exact Imp.one (.tail (.head _ _)) (Imp.refl _) E w this
  obtain ⟨p, h3⟩ := (imp_seal hn E w h2).exE
  obtain ⟨⟨e, e1, e2⟩, h4⟩ := h3.starE.purE
  have h5 := h4.starsE
  rw [List.append_nil] at h5
  exact h p.1 p.2 e e1 e2 a w hk h5
/-- The row that a slice of an owned row's cells leads to: nothing is written, the facts on the cells come with it. -/
theorem At.relLP_nil (h : At E N K (per (relLP ([] : List α) []) :: Hs) G) : At E N K Hs G := fun a w hk hs => h a w hk (hs.ent (fun R x k => ⟨He, x, ⟨rfl, rfl⟩, k, (Hdj_He x).symm, (He_Hun x).symm⟩))
theorem At.relLP_snoc {xs : List α} {cs c : List Value} {x : α} (hm : Mem (per (relLP xs cs)) Hs) (hc : Mem (per (relP x c)) Hs) (h : At E N K (per (relLP (xs ++ [x]) (cs ++ c)) :: Hs) G) : At E N K Hs G := fun a w hk hs => by
  refine h a w hk ?_
  obtain ⟨ho, R, y, ⟨p, q, hp, hq, hd, rfl⟩, k1, k2, k3⟩ := hs
  obtain ⟨m, hm1⟩ := hm.at1
  obtain ⟨m', hc1⟩ := hc.at1
  obtain ⟨c1, d1, ⟨r1, _⟩, _⟩ := hm1.out R p hp
  obtain ⟨c2, d2, ⟨r2, _⟩, _⟩ := hc1.out R p hp
  exact ⟨ho, R, _, ⟨_, q, ⟨He, p, ⟨relL_append r1 (relL_one r2), rfl⟩, hp, (Hdj_He p).symm, (He_Hun p).symm⟩, hq, hd, rfl⟩, k1, k2, k3⟩
end
end Go.Sx
