/- Rounds out of events. -/
import Derived.Test.YtcgjkdfgemjidaaSp2
namespace Go.Proofs.Ytcgjkdfgemjidaa
open Go Go.Sx
def prStep : List (List Event) × Option (List Event) → Event → List (List Event) × Option (List Event)
  | (d, none), x => if x.kind = 1 then (d, some [x]) else (d, none)
  | (d, some c), x => if x.kind = 1 then (d ++ [c], some [x]) else (d, some (c ++ [x]))
def prR (l : List Event) : List (List Event) × Option (List Event) := l.foldl prStep ([], none)
theorem prR_snoc {l : List Event} {k : Nat} {x : Event} (h : l[k]? = some x) : prR (l.take (k + 1)) = prStep (prR (l.take k)) x := by
  unfold prR; rw [List.take_add_one, List.foldl_append, h]; rfl
def projRounds (l : List Event) : List (List Event) := match prR l with
  | (d, none) => d
  | (d, some c) => d ++ [c]
theorem set_mid {α : Type} (a b : List α) (u v : α) (k : Nat) (h : k = a.length) : ((a ++ [u]) ++ b).set k v = (a ++ [v]) ++ b := by
  subst h; simp
theorem get_mid {α : Type} (a b : List α) (u : α) (k : Nat) (h : k = a.length) : ((a ++ [u]) ++ b)[k]? = some u := by
  subst h; simp
end Go.Proofs.Ytcgjkdfgemjidaa
namespace Go.Proofs.Ytcgjkdfgemjidaa
open Go Go.Sx
/-- What a peer's event says, where no peer ends. -/
def Round.peer0 (r : Round) (x : Event) : Round :=
  if x.kind = 4 then { r with offers := r.offers ++ [⟨x.id, x.bytes, false⟩], reports := r.reports ++ [⟨x.id, true, false, 0⟩] }
  else if x.kind = 6 then { r with reports := r.reports ++ [⟨x.id, false, true, x.n⟩] } else r
def roundStep0 (r : Round) (x : Event) : Round := ((if x.kind = 2 ∨ x.kind = 3 then { r with opens := r.opens ++ [x.n] } else r) : Round).peer0 x
def round0 (was : Int) (l : List Event) : Round := match l with
  | [] => default
  | e :: t => t.foldl roundStep0 { ticks := tLeft e.tick was, opens := [], offers := [], reports := [], drain := 0, abort := false }
theorem roundStep0_snoc {l : List Event} {k : Nat} {x : Event} (r : Round) (h : l[k]? = some x) : (l.take (k + 1)).foldl roundStep0 r = roundStep0 ((l.take k).foldl roundStep0 r) x := by
  rw [List.take_add_one, List.foldl_append, h]; rfl
theorem peer0_b (r : Round) (x : Event) : (r.peer0 x).offers.length ≤ r.offers.length + 1 ∧ (r.peer0 x).reports.length ≤ r.reports.length + 1 ∧ (r.peer0 x).opens = r.opens ∧ (r.peer0 x).ticks = r.ticks ∧ (r.peer0 x).drain = r.drain := by
  unfold Round.peer0; split
  · simp
  · split <;> simp
theorem roundStep0_b (r : Round) (x : Event) : (roundStep0 r x).offers.length ≤ r.offers.length + 1 ∧ (roundStep0 r x).reports.length ≤ r.reports.length + 1 ∧ (roundStep0 r x).opens.length ≤ r.opens.length + 1 ∧ (roundStep0 r x).ticks = r.ticks ∧ (roundStep0 r x).drain = r.drain := by
  have h := peer0_b ((if x.kind = 2 ∨ x.kind = 3 then { r with opens := r.opens ++ [x.n] } else r) : Round) x
  unfold roundStep0
  split at h <;> simp_all
theorem fold0_b : ∀ (l : List Event) (r : Round), (l.foldl roundStep0 r).offers.length ≤ r.offers.length + l.length ∧ (l.foldl roundStep0 r).reports.length ≤ r.reports.length + l.length ∧ (l.foldl roundStep0 r).opens.length ≤ r.opens.length + l.length ∧ (l.foldl roundStep0 r).ticks = r.ticks ∧ (l.foldl roundStep0 r).drain = r.drain
  | [], r => by simp
  | x :: l, r => by
    have h1 := roundStep0_b r x
    have h2 := fold0_b l (roundStep0 r x)
    simp only [List.foldl_cons, List.length_cons]
    refine ⟨by omega, by omega, by omega, by rw [h2.2.2.2.1, h1.2.2.2.1], by rw [h2.2.2.2.2, h1.2.2.2.2]⟩
def rsStep (s : List Round × Int) (r : List Event) : List Round × Int := (s.1 ++ [round0 s.2 r], (r.head?.map (·.tick)).getD s.2)
def rounds0 (rs : List (List Event)) : List Round := (rs.foldl rsStep ([], 0)).1
theorem rs_snoc {rs : List (List Event)} {k : Nat} {r : List Event} (h : rs[k]? = some r) : (rs.take (k + 1)).foldl rsStep ([], 0) = rsStep ((rs.take k).foldl rsStep ([], 0)) r := by
  rw [List.take_add_one, List.foldl_append, h]; rfl
theorem rs_len (rs : List (List Event)) : ∀ s, (rs.foldl rsStep s).1.length = s.1.length + rs.length := by
  induction rs with
  | nil => intro s; simp
  | cons r rs ih => intro s; rw [List.foldl_cons, ih]; simp [rsStep]; omega
def prOk (Q : Event → Prop) (n : Nat) (s : List (List Event) × Option (List Event)) : Prop := s.1.length + s.2.toList.length ≤ n ∧ ∀ r ∈ s.1 ++ s.2.toList, r ≠ [] ∧ r.length ≤ n ∧ ∀ x ∈ r, Q x
theorem prStep_ok {Q : Event → Prop} {n : Nat} {s : List (List Event) × Option (List Event)} {x : Event} (h : prOk Q n s) (hx : Q x) : prOk Q (n + 1) (prStep s x) := by
  obtain ⟨d, c⟩ := s
  obtain ⟨h1, h2⟩ := h
  cases c with
  | none =>
    simp only [prStep]
    split
    · refine ⟨by simp at h1 ⊢; omega, fun r hr => ?_⟩
      simp at hr
      rcases hr with hr | rfl
      · have := h2 r (by simp [hr]); exact ⟨this.1, by omega, this.2.2⟩
      · simp [hx]
    · exact ⟨by simp at h1 ⊢; omega, fun r hr => by have := h2 r hr; exact ⟨this.1, by omega, this.2.2⟩⟩
  | some c =>
    have hc := h2 c (by simp)
    simp only [prStep]
    split
    · refine ⟨by simp at h1 ⊢; omega, fun r hr => ?_⟩
      simp at hr
      rcases hr with hr | rfl | rfl
      · have := h2 r (by simp [hr]); exact ⟨this.1, by omega, this.2.2⟩
      · exact ⟨hc.1, by omega, hc.2.2⟩
      · simp [hx]
    · refine ⟨by simp at h1 ⊢; omega, fun r hr => ?_⟩
      simp at hr
      rcases hr with hr | rfl
      · have := h2 r (by simp [hr]); exact ⟨this.1, by omega, this.2.2⟩
      · refine ⟨by simp, by simp; omega, fun y hy => ?_⟩
        simp at hy
        rcases hy with hy | rfl
        · exact hc.2.2 y hy
        · exact hx
theorem prR_ok {Q : Event → Prop} (l : List Event) (hQ : ∀ x ∈ l, Q x) : ∀ (s : List (List Event) × Option (List Event)) (n : Nat), prOk Q n s → prOk Q (n + l.length) (l.foldl prStep s) := by
  induction l with
  | nil => intro s n h; exact h
  | cons x l ih =>
    intro s n h
    have := ih (fun y hy => hQ y (List.mem_cons_of_mem _ hy)) _ _ (prStep_ok h (hQ x (List.mem_cons_self ..)))
    rw [List.length_cons, show n + (l.length + 1) = n + 1 + l.length by omega]
    exact this
theorem projRounds_ok {Q : Event → Prop} (l : List Event) (hQ : ∀ x ∈ l, Q x) : (projRounds l).length ≤ l.length ∧ ∀ r ∈ projRounds l, r ≠ [] ∧ r.length ≤ l.length ∧ ∀ x ∈ r, Q x := by
  have h := prR_ok l hQ ([], none) 0 ⟨by simp, by simp⟩
  rw [Nat.zero_add] at h
  unfold projRounds prR
  revert h
  generalize l.foldl prStep ([], none) = p
  intro h
  obtain ⟨d, c⟩ := p
  cases c with
  | none => exact ⟨by simpa using h.1, fun r hr => h.2 r (by simpa using hr)⟩
  | some c => exact ⟨by simpa using h.1, fun r hr => h.2 r (by simpa using hr)⟩
def ev1 : Event := ⟨1, 0, 0, 3, ⟨#[]⟩, 0, ⟨0, 0, 0, 0, 0, 0⟩⟩
def ev2 : Event := ⟨2, 0, 0, 0, ⟨#[]⟩, 0, ⟨0, 0, 0, 0, 0, 0⟩⟩
def ev3 : Event := ⟨1, 0, 0, 5, ⟨#[]⟩, 0, ⟨0, 0, 0, 0, 0, 0⟩⟩
def ev4 : Event := ⟨4, 0, 2, 0, ⟨#[111, 107]⟩, 0, ⟨0, 0, 0, 0, 0, 0⟩⟩
def evs : List Event := [ev1, ev2, ev3, ev4]
theorem ev_ok : ev1.ok ∧ ev2.ok ∧ ev3.ok ∧ ev4.ok := by unfold Event.ok i64 big; (repeat' apply And.intro) <;> decide
def rd1 : Round := ⟨3, [0], [], [], 0, false⟩
def rd2 : Round := ⟨2, [], [⟨0, ⟨#[111, 107]⟩, false⟩], [⟨0, true, false, 0⟩], 0, false⟩
theorem evs_rounds : rounds0 (projRounds evs) = [rd1, rd2] := by decide
theorem evs_ok : ∀ x ∈ evs, x.ok ∧ ¬ x.kind = 5 ∧ ¬ x.kind = 7 := by
  intro x hx
  simp only [evs, List.mem_cons, List.not_mem_nil, or_false] at hx
  rcases hx with rfl | rfl | rfl | rfl
  · exact ⟨ev_ok.1, by decide, by decide⟩
  · exact ⟨ev_ok.2.1, by decide, by decide⟩
  · exact ⟨ev_ok.2.2.1, by decide, by decide⟩
  · exact ⟨ev_ok.2.2.2, by decide, by decide⟩
theorem evs_rel (R : Hp) : relL R evs (ev1.cs ++ ev2.cs ++ ev3.cs ++ ev4.cs) :=
  ⟨ev1.cs, _, by rw [List.append_assoc, List.append_assoc], Event.rel ev_ok.1, ev2.cs, _, rfl, Event.rel ev_ok.2.1, ev3.cs, _, rfl, Event.rel ev_ok.2.2.1, ev4.cs, [], by simp, Event.rel ev_ok.2.2.2, rfl⟩
end Go.Proofs.Ytcgjkdfgemjidaa
