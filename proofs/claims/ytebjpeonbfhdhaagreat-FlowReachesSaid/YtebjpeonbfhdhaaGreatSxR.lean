/- From a row's readings to data that stay. -/
import Derived.Test.YtebjpeonbfhdhaaGreatSx11
import Derived.ProofKit
import Derived.Deep.Slices
set_option linter.unusedSimpArgs false
set_option linter.unusedVariables false
namespace Go.Sx
open Go Go.ChangeShapes Go.WideShapes Go.ChangeAt Go.RowKit Go.Deep
/-- What a reading of type t finds reads as data. -/
def Opens (P : Program) (t : TypeId) (α : Type) [Rep α] : Prop :=
  P.cellsOf t = Rep.sz α ∧ ∀ (H : Type) (enc : TypeId × Value → H) (w : World) (base : Nat) (spare : Nat → Bool) (held : Bool) (fuel : Nat) (cs : List Value) (y : DataW H × List MemPlace), DataW.trod enc P w base spare held fuel t cs = some y → ∃ x : α, Rep.rel (wh w) x cs
section
variable {P : Program} {t e : TypeId}
theorem Opens.int (hu : P.underlying t = some (.int .i64)) (hc : P.cellsOf t = 1) : Opens P t Int := ⟨hc, fun H enc w base spare held fuel cs y h => by
  obtain ⟨n, rfl, _, hw⟩ := DataW.trod_int hu h
  simp only [Lit.wf, Bool.and_eq_true, decide_eq_true_eq] at hw
  have h1 : IntKind.i64.min = -9223372036854775808 := by decide
  have h2 : IntKind.i64.max = 9223372036854775807 := by decide
  exact ⟨n, rfl, by unfold i64; omega⟩⟩
theorem Opens.bool (hu : P.underlying t = some .bool) (hc : P.cellsOf t = 1) : Opens P t Bool := ⟨hc, fun H enc w base spare held fuel cs y h => by
  obtain ⟨b, rfl, _⟩ := DataW.trod_bool hu h; exact ⟨b, rfl⟩⟩
theorem Opens.str (hu : P.underlying t = some .string) (hc : P.cellsOf t = 1) : Opens P t ByteArray := ⟨hc, fun H enc w base spare held fuel cs y h => by
  obtain ⟨s, rfl, _, hs⟩ := DataW.trod_string hu h
  exact ⟨s, rfl, by simp only [maxLen] at hs; simp only [big]; omega⟩⟩
theorem Opens.slice {α : Type} [Rep α] (he : Opens P e α) (hu : P.underlying t = some (.slice e)) (hc : P.cellsOf t = 1) : Opens P t (List α) := ⟨hc, fun H enc w base spare held fuel cs y h => by
  rcases open_slice hu h with ⟨rfl, _⟩ | ⟨a, len, cap, m, n, D, Pl, rfl, _, hl, hm, hmm, _, hall⟩
  · exact ⟨[], none, 0, rfl, by simp, rdSl_nil none⟩
  · have hle : len ≤ m := by subst hmm; split <;> omega
    have key : ∀ i, i < len → ∃ (x : α) (c : List Value), Rep.rel (wh w) x c ∧ (cellsP (a.add (i * Rep.sz α)) c).holds (wh w) := fun i hi => by
      obtain ⟨c, h1, h2⟩ := hall i (by omega)
      obtain ⟨x, hx⟩ := he.2 H enc w base spare held n c _ h2
      rw [he.1] at h1
      obtain ⟨_, hlen, hcell⟩ := World.cells?_some h1
      have hp := Rep.pos (α := α)
      have h0 := hcell 0 hp
      obtain ⟨v0, hv0⟩ : ∃ v, c[0]? = some v := ⟨c[0]'(by omega), by simp⟩
      rw [hv0] at h0
      have hspa : (a.add (i * Rep.sz α)).spot = none := by
        have := World.cell?_spot h0
        simpa [Addr.add] using this
      have hb : ∃ (bs : Array Value) (tt : TypeId × (Nat × Nat)), wh w (a.add (i * Rep.sz α)).block = some (.cells bs tt.1 tt.2) := by
        have e0 : (a.add (i * Rep.sz α)).add 0 = a.add (i * Rep.sz α) := by simp [Addr.add]
        rw [e0] at h0
        unfold World.cell? at h0
        split at h0
        · rename_i bs t1 t2 hq; exact ⟨bs, (t1, t2), hq⟩
        · cases h0
      obtain ⟨bs, tt, hb⟩ := hb
      refine ⟨x, c, hx, hspa, bs, tt, hb, fun j v hj => ?_⟩
      have hjl : j < Rep.sz α := by
        rw [← hlen]; exact (List.getElem?_eq_some_iff.1 hj).1
      have h3 := hcell j hjl
      rw [hj] at h3
      revert h3 hb hspa
      generalize a.add (i * Rep.sz α) = q
      intro hspa hb h3
      obtain ⟨b', o', s'⟩ := q
      simp only at hspa
      subst hspa
      rw [add_lit] at h3
      have hb' : w.heap[b']? = some (.cells bs tt.1 tt.2) := hb
      simpa [World.cell?, hb'] using h3
    have kk : ∀ k, k ≤ len → ∃ xs : List α, xs.length = k ∧ ∀ i x, xs[i]? = some x → ∃ c, Rep.rel (wh w) x c ∧ (cellsP (a.add (i * Rep.sz α)) c).holds (wh w) := by
      intro k
      induction k with
      | zero => intro _; exact ⟨[], rfl, fun i x h => by simp at h⟩
      | succ k ih =>
        intro hk
        obtain ⟨xs, h1, h2⟩ := ih (by omega)
        obtain ⟨x, c, h3, h4⟩ := key k (by omega)
        refine ⟨xs ++ [x], by simp [h1], fun i z hz => ?_⟩
        rcases Nat.lt_or_ge i xs.length with hi | hi
        · rw [List.getElem?_append_left hi] at hz; exact h2 i z hz
        · rw [List.getElem?_append_right hi] at hz
          have e : i = k := by
            have := (List.getElem?_eq_some_iff.1 hz).1
            simp at this; omega
          subst e
          rw [h1, Nat.sub_self] at hz
          simp at hz; subst hz
          exact ⟨c, h3, h4⟩
    obtain ⟨xs, h1, h2⟩ := kk len (Nat.le_refl _)
    subst h1
    exact ⟨xs, some a, cap, rfl, hl, by simp only [maxLen] at hm; simp only [big]; omega, fun _ => ⟨a, rfl, h2⟩⟩⟩
end
/-- The surroundings of a row's call: all that lies there stays. -/
def EnOf (W : World) : En := { F := ⟨fun R h => Hle (wh W) R ∧ h = He, fun _ _ _ hR h => ⟨h.1.trans hR, h.2⟩⟩, os := W.os, tape := W.tape, out := W.output }
theorem St.start {W : World} : ∀ (φs : List Per), (∀ φ ∈ φs, φ.holds (wh W)) → St (EnOf W) (φs.map Sx.per) W := by
  intro φs h
  refine ⟨⟨rfl, rfl, rfl⟩, wh W, He, ?_, (fun n o hn => by cases hn), Hle.refl _, Hdj_He _⟩
  refine ⟨He, He, ?_, ⟨Hle.refl _, rfl⟩, Hdj_He _, (He_Hun _).symm⟩
  induction φs with
  | nil => rfl
  | cons φ l ih => exact ⟨He, He, ⟨h φ (List.mem_cons_self ..), rfl⟩, ih (fun ψ hψ => h ψ (List.mem_cons_of_mem _ hψ)), Hdj_He _, (He_Hun _).symm⟩
theorem St.below {W W' : World} {Hs : List Asn} (h : St (EnOf W) Hs W') : Below W.heap.size W W' := by
  obtain ⟨⟨o1, o2, o3⟩, R, x, ⟨a, b, _, ⟨hR, _⟩, _, _⟩, _, h2, _⟩ := h
  have key : ∀ k, k < W.heap.size → W'.heap[k]? = W.heap[k]? := fun k hk => by
    have e : wh W k = some W.heap[k] := by simp [wh, hk]
    have := h2 k _ (hR k _ e)
    simp only [wh] at this
    rw [this]; simp [hk]
  refine ⟨o1, o2, o3, ?_, key⟩
  rcases Nat.eq_zero_or_pos W.heap.size with h0 | h0
  · omega
  · have h1 := key (W.heap.size - 1) (by omega)
    have h2 : W.heap[W.heap.size - 1]? = some (W.heap[W.heap.size - 1]'(by omega)) := Array.getElem?_eq_getElem (by omega)
    rw [h2] at h1
    have := (Array.getElem?_eq_some_iff.1 h1).1
    omega
/-- A law's call, from the worlds that a row allows. -/
theorem Does.row {P : Program} {f : FuncId} {args : List Value} {φs : List Per} {post : Value → Asn} {W : World} (hd : Does P f args (φs.map Sx.per) post) (hφ : ∀ φ ∈ φs, φ.holds (wh W)) :
    Calls P f args.toArray W fun e W' => ∃ v, e = .returned v ∧ Below W.heap.size W W' ∧ St (EnOf W) [post v] W' :=
  (hd (EnOf W) W (St.start φs hφ)).mono fun e W' ⟨v, hv, hs⟩ => ⟨v, hv, hs.below, hs⟩
theorem Does.rowTrue {P : Program} {f : FuncId} {args : List Value} {φs : List Per} {W : World} (hd : Does P f args (φs.map Sx.per) (fun v => Sx.pur (v = .bool true))) (hφ : ∀ φ ∈ φs, φ.holds (wh W)) :
    Calls P f args.toArray W fun e W' => e = .returned (.bool true) ∧ Below W.heap.size W W' :=
  (hd.row hφ).mono fun e W' ⟨v, hv, hb, hs⟩ => by obtain ⟨rfl, _⟩ := hs.purE; exact ⟨hv, hb⟩
end Go.Sx
