/- Facts that hold where a guard does: an element of a row that may lack. -/
import Derived.Test.YtebjpeonbfhdhaaGreatSx10
set_option linter.unusedSimpArgs false
set_option linter.unusedVariables false
namespace Go.Sx
open Go
/-- A fact that stays, if p. -/
def pin (p : Prop) (φ : Per) : Per := ⟨fun R => p → φ.holds R, fun _ _ hR h hp => φ.mono _ _ hR (h hp)⟩
/-- Data without slices: their cells are reckoned. -/
class Flat (α : Type) [Rep α] where
  ok : α → Prop
  cs : α → List Value
  eq : ∀ {R : Hp} {x : α} {l : List Value}, Rep.rel R x l → ok x ∧ l = cs x
instance : Flat Int := ⟨i64, fun n => [.int .i64 n], fun h => ⟨h.2, h.1⟩⟩
instance : Flat Bool := ⟨fun _ => True, fun n => [.bool n], fun h => ⟨trivial, h⟩⟩
instance : Flat ByteArray := ⟨fun s => s.size ≤ big, fun s => [.string s], fun h => ⟨h.2, h.1⟩⟩
section
variable {P : Program} {E : En} {N : Nat} {K : Kl} {g : Option (Nat × Bool)} {Hs : List Asn} {ty : TypeId} {Q : Exit → Act → World → Prop} {ops : Array Oper} {rest : List Oper} {pos : String} {af : Array Edge} {G : Act → World → Prop}
theorem Cell.pin {p : Prop} {ad : Addr} {cs : List Value} {k : Nat} {v : Value} (hm : Mem (Sx.per (Sx.pin p (cellsP ad cs))) Hs) (hp : p) (hk : cs[k]? = some v) : Cell Hs (ad.add k) v := fun E w hs => cellsP_cell (hs.per hm hp) k v hk
theorem Cell.pin0 {p : Prop} {ad : Addr} {cs : List Value} {v : Value} (hm : Mem (Sx.per (Sx.pin p (cellsP ad cs))) Hs) (hp : p) (hk : cs[0]? = some v) : Cell Hs ad v := fun E w hs => by
  have := cellsP_cell (hs.per hm hp) 0 v hk
  simpa [Addr.add] using this
theorem Cells.pin0 {p : Prop} {ad : Addr} {cs : List Value} (hm : Mem (Sx.per (Sx.pin p (cellsP ad cs))) Hs) (hp : p) : Cells Hs ad cs := fun E w hs j v hj => cellsP_cell (hs.per hm hp) j v hj
variable {α : Type} [Rep α] [Flat α] [Inhabited α]
theorem At.getIf {ao : Option Addr} {xs : List α} (hm : Mem (Sx.per (rdSl ao xs)) Hs) (i : Nat) (n : Nat) (hn : n = Rep.sz α)
    (h : ∀ (ad : Addr) (x : α), (i < xs.length → ao = some ad ∧ xs[i]? = some x ∧ Flat.ok x) → At E N K (Sx.per (pin (i < xs.length) (cellsP (ad.add (i * n)) (Flat.cs x))) :: Hs) G) : At E N K Hs G := by
  by_cases hi : i < xs.length
  · refine At.get hm i hi n hn ?_
    intro ad x cs e hx
    refine At.have (φ := Flat.ok x ∧ cs = Flat.cs x) (fun w hs => Flat.eq (hs.per (.head _ _))) ?_
    rintro ⟨ho, rfl⟩
    refine At.drop ?_
    refine At.weak (Hs' := Sx.per (pin (i < xs.length) (cellsP (ad.add (i * n)) (Flat.cs x))) :: Hs) (fun E w hs => hs.ent (Ent.star (fun R y hy => ⟨fun _ => hy.1, hy.2⟩) (Ent.refl _))) ?_
    exact h ad x fun _ => ⟨e, hx, ho⟩
  · exact At.perI (fun R hp => absurd hp hi) (h ⟨0, 0, none⟩ default fun hp => absurd hp hi)
/-- A place in a row, whose address is known elsewhere. -/
theorem ev_ianO {x y : Operand} {t e sz n c : Nat} {k : IntKind} {ao : Option Addr} {ad : Addr} {i : Nat} (hu : UN P t (.slice e)) (hz : SZ P e sz) (hx : opv K g x = some (.slice ao n c)) (hy : opv K g y = some (.int k i)) (ha : ao = some ad) (h1 : i < n) :
    Ev P E N K g Hs (.indexAddr t x y) ty (.pointer (some (ad.add (i * sz)))) := by
  subst ha; exact ev_ian hu hz hx hy h1
end
end Go.Sx
