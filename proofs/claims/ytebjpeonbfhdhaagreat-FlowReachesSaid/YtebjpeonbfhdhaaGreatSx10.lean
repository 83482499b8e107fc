/- Owned rows: begin, one more element, end; slices as results. -/
import Derived.Test.YtebjpeonbfhdhaaGreatSx9
set_option linter.unusedSimpArgs false
set_option linter.unusedVariables false
namespace Go.Sx
open Go
/-- v is a slice whose row stays. -/
def sl {α : Type} [Rep α] (v : Value) (xs : List α) : Asn := ex fun p : Option Addr × Nat => star (pur (v = .slice p.1 xs.length p.2 ∧ xs.length ≤ p.2)) (per (rdSl p.1 xs))
section
variable {P : Program} {E : En} {N : Nat} {K : Kl} {g : Option (Nat × Bool)} {Hs : List Asn} {ty : TypeId} {Q : Exit → Act → World → Prop} {ops : Array Oper} {rest : List Oper} {pos : String} {af : Array Edge} {G : Act → World → Prop}
variable {α : Type} [Rep α]
theorem At.sl {v : Value} {xs : List α} {l : List Asn} (h : ∀ ao c, v = .slice ao xs.length c → xs.length ≤ c → At E N K (Sx.per (rdSl ao xs) :: l) G) : At E N K (Sx.sl v xs :: l) G :=
  At.ex fun ⟨ao, c⟩ => At.star (At.pur fun ⟨e, hc⟩ => h ao c e hc)
theorem Imp.sl {ao : Option Addr} {c : Nat} {xs : List α} {l n : List Asn} (hm : Mem (Sx.per (rdSl ao xs)) l) (hc : xs.length ≤ c) (k : Imp l n) : Imp l (Sx.sl (.slice ao xs.length c) xs :: n) :=
  Imp.ex (ao, c) (Imp.star (Imp.pur ⟨rfl, hc⟩ (Imp.per hm k)))
theorem At.own0 {b t : Nat} {m : List Asn} (sz : Nat) (hm : At1 Hs (blk b [] t) m) (h : At E N K (own (.slice (some ⟨b, 0, none⟩) 0 0) t sz 0 [] :: m) G) : At E N K Hs G :=
  At.front hm (At.weak (Imp.own_new (cs := []) (sp := []) (by simp) (by simp) (by simp) (by simp)) h)
theorem At.ownNil {t : Nat} (sz : Nat) (h : At E N K (own (.slice none 0 0) t sz 0 [] :: Hs) G) : At E N K Hs G := At.weak (Imp.own_nil t sz) h
/-- A row without elements. -/
theorem At.ownNew (α : Type) [Rep α] (t sz : Nat) (h : At E N K (own (.slice none 0 0) t sz ([] : List α).length [] :: per (relLP ([] : List α) []) :: Hs) G) : At E N K Hs G :=
  At.perI (φ := relLP ([] : List α) []) (fun R => rfl) (At.weak (Imp.own_nil t sz) h)
/-- A block that was laid by a literal, as an owned row. -/
theorem At.ownB {b t n : Nat} {cs : List Value} {m : List Asn} (sz : Nat) (hm : At1 Hs (blk b cs t) m) (hl : Nat.beq cs.length (n * sz) = true) (hn : Nat.ble n 1000 = true) (h : At E N K (own (.slice (some ⟨b, 0, none⟩) n n) t sz n cs :: m) G) : At E N K Hs G :=
  At.front hm (At.weak (Hs' := own (.slice (some ⟨b, 0, none⟩) n n) t sz n cs :: m) (by
    have := Imp.own_new (l := m) (b := b) (n := n) (cap := n) (sz := sz) (cs := cs) (sp := []) (t := t) (beq_t.1 hl) (by simpa using beq_t.1 hl) (Nat.le_refl _) (by have := Nat.le_of_ble_eq_true hn; simp only [maxLen]; omega)
    rwa [List.append_nil] at this) h)
/-- One element more is known of a row's cells. -/
theorem At.snoc {xs : List α} {cs c : List Value} (x : α) (hx : ∀ R, Rep.rel R x c) (hm : Mem (per (relLP xs cs)) Hs) (h : At E N K (per (relLP (xs ++ [x]) (cs ++ c)) :: Hs) G) : At E N K Hs G :=
  At.perI (φ := relP x c) hx (At.relLP_snoc (.tail _ hm) (.head _ _) (At.weak (fun E w hs => Imp.frontL (.tail (.head _ _)) (fun E w h => h.drop) E w hs) h))
theorem At.snocP {xs : List α} {cs c : List Value} (x : α) (hc : Mem (per (relP x c)) Hs) (hm : Mem (per (relLP xs cs)) Hs) (h : At E N K (per (relLP (xs ++ [x]) (cs ++ c)) :: Hs) G) : At E N K Hs G := At.relLP_snoc hm hc h
theorem At.sealE {v : Value} {t n sz : Nat} {cs : List Value} (xs : List α) {m : List Asn} (hsz : sz = Rep.sz α) (hm : At1 Hs (own v t sz n cs) m) (hx : Mem (per (relLP xs cs)) m) (hn : n = xs.length)
    (h : ∀ ao c, v = .slice ao xs.length c → xs.length ≤ c → c ≤ maxLen → At E N K (per (rdSl ao xs) :: m) G) : At E N K Hs G := by
  subst hsz; exact At.harden xs hm hx hn h
/-- An owned row that has an element, laid open. -/
theorem At.ownO {v : Value} {t sz n : Nat} {cs : List Value} {m : List Asn} (hm : At1 Hs (own v t sz n cs) m) (hn : 0 < n)
    (h : ∀ b cap sp, v = .slice (some ⟨b, 0, none⟩) n cap → cs.length = n * sz → (cs ++ sp).length = cap * sz → n ≤ cap → cap ≤ maxLen → At E N K (blk b (cs ++ sp) t :: m) G) : At E N K Hs G := by
  refine At.front hm (At.ex fun o => ?_)
  cases o with
  | none => exact At.pur fun ⟨_, h0, _⟩ => by omega
  | some q => obtain ⟨b, cap, sp⟩ := q; exact At.star (At.pur fun ⟨e, h1, h2, h3, h4⟩ => h b cap sp e h1 h2 h3 h4)
theorem At.ownC {b t sz n cap : Nat} {cs sp : List Value} {m : List Asn} (hm : At1 Hs (blk b (cs ++ sp) t) m) (h1 : cs.length = n * sz) (h2 : (cs ++ sp).length = cap * sz) (h3 : n ≤ cap) (h4 : cap ≤ maxLen)
    (h : At E N K (own (.slice (some ⟨b, 0, none⟩) n cap) t sz n cs :: m) G) : At E N K Hs G := At.front hm (At.weak (Imp.own_new h1 h2 h3 h4) h)
theorem own_val {v : Value} {t sz n : Nat} {cs : List Value} (hm : Mem (own v t sz n cs) Hs) {w : World} (hs : St E Hs w) : ∃ ao c, v = .slice ao n c ∧ n ≤ c ∧ c ≤ maxLen := by
  obtain ⟨m, hm1⟩ := hm.at1
  obtain ⟨o, h⟩ := (hs.front hm1).exE
  cases o with
  | none => obtain ⟨⟨rfl, rfl, rfl⟩, _⟩ := h.purE; exact ⟨none, 0, rfl, by simp, by simp⟩
  | some q => obtain ⟨b, cap, sp⟩ := q; obtain ⟨⟨rfl, _, _, h3, h4⟩, _⟩ := h.starE.purE; exact ⟨_, _, rfl, h3, h4⟩
theorem ev_lenO {v : Value} {x : Operand} {t e t' sz n : Nat} {cs : List Value} (hu : UN P t (.slice e)) (hx : opv K g x = some v) (hm : Mem (own v t' sz n cs) Hs) :
    Ev P E N K g Hs (.call { callee := .builtin .len, args := #[x], argTypes := #[t] }) ty (.int .i64 n) := fun a w hk hg hs d pos af gd => by
  obtain ⟨ao, c, rfl, _⟩ := own_val hm hs
  exact ev_lenl (P := P) (E := E) (N := N) (Hs := Hs) (ty := ty) hu hx a w hk hg hs d pos af gd
theorem At.ownV {v : Value} {t sz n : Nat} {cs : List Value} (hm : Mem (own v t sz n cs) Hs) (h : ∀ ao c, v = .slice ao n c → n ≤ c → c ≤ maxLen → At E N K Hs G) : At E N K Hs G := fun a w hk hs => by
  obtain ⟨ao, c, e, h1, h2⟩ := own_val hm hs
  exact h ao c e h1 h2 a w hk hs
/-- A fact out of several that stay. -/
theorem At.perAll (φs : List Per) (ψ : Per) (hm : ∀ φ ∈ φs, Mem (per φ) Hs) (hψ : ∀ R, (∀ φ ∈ φs, φ.holds R) → ψ.holds R) (h : At E N K (per ψ :: Hs) G) : At E N K Hs G := fun a w hk hs => by
  refine h a w hk ?_
  obtain ⟨ho, R, y, ⟨p, q, hp, hq, hd, rfl⟩, k1, k2, k3⟩ := hs
  refine ⟨ho, R, _, ⟨_, q, ⟨He, p, ⟨hψ R fun φ hφ => ?_, rfl⟩, hp, (Hdj_He p).symm, (He_Hun p).symm⟩, hq, hd, rfl⟩, k1, k2, k3⟩
  obtain ⟨m, hm1⟩ := (hm φ hφ).at1
  obtain ⟨_, _, ⟨r1, _⟩, _⟩ := hm1.out R p hp
  exact r1
/-- v is an aggregate that reads as x. -/
def ag {α : Type} [Rep α] (v : Value) (x : α) : Asn := ex fun cs : List Value => star (pur (v = .agg cs.toArray)) (per (relP x cs))
theorem At.ag {v : Value} {x : α} {l : List Asn} (h : ∀ cs, v = .agg cs.toArray → At E N K (Sx.per (relP x cs) :: l) G) : At E N K (Sx.ag v x :: l) G :=
  At.ex fun cs => At.star (At.pur fun e => h cs e)
theorem Imp.ag {x : α} {cs : List Value} {l n : List Asn} (hm : Mem (Sx.per (relP x cs)) l) (k : Imp l n) : Imp l (Sx.ag (.agg cs.toArray) x :: n) :=
  Imp.ex cs (Imp.star (Imp.pur rfl (Imp.per hm k)))
/-- A row that stays, as a value of a row of rows. -/
theorem At.relList {ao : Option Addr} {c : Nat} {xs : List α} (hm : Mem (per (rdSl ao xs)) Hs) (hc : xs.length ≤ c) (h : At E N K (per (relP xs [.slice ao xs.length c]) :: Hs) G) : At E N K Hs G := fun a w hk hs =>
  h a w hk (hs.perMap hm fun R hR => ⟨ao, c, rfl, hc, hR⟩)
theorem openList {xs : List α} {cs : List Value} (hm : Mem (per (relP xs cs)) Hs) (h : ∀ ao c, cs = [.slice ao xs.length c] → xs.length ≤ c → At E N K (per (rdSl ao xs) :: Hs) G) : At E N K Hs G :=
  At.tell hm fun R hR => by
    obtain ⟨ao, c, e, hc, hr⟩ := hR
    exact .intro (l := [rdSl ao xs]) (by intro φ hφ; simp at hφ; subst hφ; exact hr) (h ao c e hc)
end
end Go.Sx
