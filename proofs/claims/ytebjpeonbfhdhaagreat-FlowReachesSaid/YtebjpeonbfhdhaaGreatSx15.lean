/- Guards that are known. -/
import Derived.Test.YtebjpeonbfhdhaaGreatSxM
import Derived.Test.YtebjpeonbfhdhaaGreatSp13
set_option linter.unusedSimpArgs false
set_option linter.unusedVariables false
namespace Go.Sx
open Go
section
variable {P : Program} {E : En} {N : Nat} {K : Kl} {g : Option (Nat × Bool)} {Hs : List Asn} {ty : TypeId} {Q : Exit → Act → World → Prop} {ops : Array Oper} {rest : List Oper} {pos : String} {af : Array Edge} {G : Act → World → Prop}
/-- Where a guard is known to hold, its slot's value is known. -/
theorem Kn.known {N : Nat} {K : Kl} {a : Act} (h : Kn N K a) {i : Nat} {v : Value} (hv : slot a i = v) : Kn N ((i, .val v) :: K) a := by
  refine ⟨h.defers, h.size, fun j y hy => ?_, fun s b j y hy hs => ?_, fun j s b y hy => ?_⟩
  · unfold fv at hy
    split at hy
    · rename_i e; rw [beq_t] at e; subst e; simp at hy; rw [hv, hy]
    · exact h.v j y hy
  · unfold fg at hy
    split at hy
    · rename_i e; rw [beq_t] at e; subst e; simp at hy; rw [hv, hy]
    · split at hy
      · exact h.v j y hy
      · exact h.g s b j y hy hs
  · unfold fd at hy
    split at hy
    · simp at hy
    · split at hy
      · cases hy
      · rename_i e
        split at hy
        · cases hy
        · cases hy; exact h.d j _ _ _ e
theorem At.ungd {s : Nat} {b : Bool} {i : Nat} {v : Value} (hs : fv K s = some (.bool b)) (hf : fg s b K i = some v) (h : At E N ((i, .val v) :: K) Hs G) : At E N K Hs G := fun a w hk hst =>
  h a w (hk.known (hk.g s b i v hf (hk.v s _ hs))) hst
theorem ev_pickT {c x y : Operand} {cs : Nat} {v : Value} (hc : opv K g c = some (.bool true)) (hcs : c = .tmp cs) (ha : opv K (some (cs, true)) x = some v) : Ev P E N K g Hs (.pick c x y) ty v := fun ac w hk hg _ d pos af gd => by
  have e1 := opv_eval hk hg hc
  have hsl : slot ac cs = .bool true := by subst hcs; exact e1
  have : (asBool (Value.bool true)).run P w = .ok true w := rfl
  have e2 : ac.eval x = v := opv_eval hk (fun s b h => by cases h; exact hsl) ha
  simp only [execOp, e1, Sem.run_bind, this, Result.andThen_ok, Sem.run_pure]
  simp [e2]
theorem ev_pickF {c x y : Operand} {cs : Nat} {v : Value} (hc : opv K g c = some (.bool false)) (hcs : c = .tmp cs) (ha : opv K (some (cs, false)) y = some v) : Ev P E N K g Hs (.pick c x y) ty v := fun ac w hk hg _ d pos af gd => by
  have e1 := opv_eval hk hg hc
  have hsl : slot ac cs = .bool false := by subst hcs; exact e1
  have : (asBool (Value.bool false)).run P w = .ok false w := rfl
  have e2 : ac.eval y = v := opv_eval hk (fun s b h => by cases h; exact hsl) ha
  simp only [execOp, e1, Sem.run_bind, this, Result.andThen_ok, Sem.run_pure]
  simp [e2]
theorem Qc.cast {f : FuncId} {vs : List Value} {r r' : Value} (h : Qc P Hs f vs r) (e : r = r') : Qc P Hs f vs r' := e ▸ h
end
end Go.Sx
namespace Go.Proofs.YtebjpeonbfhdhaaGreat
open Go Go.Sx
theorem relL_ints {R : Hp} : ∀ {l : List Int}, (∀ z ∈ l, i64 z) → relL R l (ints l)
  | [], _ => rfl
  | x :: l, h => ⟨[.int .i64 x], ints l, rfl, ⟨rfl, h x (List.mem_cons_self ..)⟩, relL_ints fun z hz => h z (List.mem_cons_of_mem _ hz)⟩
section
variable {E : En} {N : Nat} {K : Kl} {G : Act → World → Prop}
/-- A row of numbers stays from here on. -/
theorem At.sealI {ao : Option Addr} {t c n : Nat} {Hs m : List Asn} (l : List Int) (hn : n = l.length) (hi : ∀ z ∈ l, i64 z) (h : n ≤ c → c ≤ maxLen → At E N K (Sx.per (rdSl ao l) :: m) G) (hm : At1 Hs (own (.slice ao n c) t 1 n (ints l)) m := by repeat (first | with_reducible exact Go.Sx.At1.head _ _ | apply Go.Sx.At1.tail)) : At E N K Hs G := by
  refine At.perI (φ := relLP l (ints l)) (fun R => relL_ints hi) ?_
  refine At.sealS (xs := l) hn (fun h1 h2 => ?_) (hm := At1.tail hm) (hx := .head _ _)
  refine At.weak (Hs' := Sx.per (rdSl ao l) :: m) ?_ (h h1 h2)
  exact Imp.one (.head _ _) (fun E w h => h.drop)
end
end Go.Proofs.YtebjpeonbfhdhaaGreat
