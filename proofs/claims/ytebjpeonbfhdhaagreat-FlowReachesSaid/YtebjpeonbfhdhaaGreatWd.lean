import Derived.Test.YtebjpeonbfhdhaaGreatWc
set_option linter.unusedVariables false
set_option linter.unusedSimpArgs false
namespace Go.Proofs.YtebjpeonbfhdhaaGreat
open Go Go.Sx Go.Proofs
set_option maxRecDepth 100000

theorem Imp.slNil {α : Type} [Rep α] {l n : List Asn} (k : Imp l n) : Imp l (Sx.sl (.slice none 0 0) ([] : List α) :: n) :=
  Imp.ex ((none, 0) : Option Addr × Nat) (Imp.star (Imp.pur ⟨rfl, by simp⟩ (fun E w h => (k E w h).ent (fun R x q => ⟨He, x, ⟨rdSl_nil none, rfl⟩, q, (Hdj_He x).symm, (He_Hun x).symm⟩))))
/-- Items, a place, an error. -/
def itemsA (v : Value) (e : List Item × Int × Int) : Asn := ex fun v0 => star (pur (v = .tuple #[v0, .int .i64 e.2.1, .int .i64 e.2.2])) (sl v0 e.1)
theorem Imp.items0 {l : List Asn} {v : Value} {a b : Int} (h : v = .tuple #[.slice none 0 0, .int .i64 a, .int .i64 b]) : Imp l [itemsA v ([], a, b)] := Imp.ex (.slice none 0 0) (Imp.star (Imp.pur h (Imp.slNil (Imp.nil _))))
theorem Imp.items {l : List Asn} {v : Value} {ao : Option Addr} {c : Nat} {e : List Item × Int × Int} (hm : Mem (per (rdSl ao e.1)) l) (hc : e.1.length ≤ c) (h : v = .tuple #[.slice ao e.1.length c, .int .i64 e.2.1, .int .i64 e.2.2]) : Imp l [itemsA v e] := Imp.ex (.slice ao e.1.length c) (Imp.star (Imp.pur h (Imp.sl hm hc (Imp.nil _))))
def tabErr (l : List Item) : Int := if goodI l = false then 2 else if l.all (·.run) = true then 9 else 0
/-- A table, or none, and an error. -/
def tabA (v : Value) (l : List Item) : Asn := ex fun o : Option Addr => star (pur (v = .tuple #[.pointer o, .int .i64 (tabErr l)] ∧ (tabErr l = 0 → o.isSome = true))) (per (tabO o l))
section
variable {P : Program} {E : En} {N : Nat} {K : Kl} {g : Option (Nat × Bool)} {Hs : List Asn} {ty : TypeId} {Q : Exit → Act → World → Prop} {ops : Array Oper} {rest : List Oper} {pos : String} {af : Array Edge} {G : Act → World → Prop}
theorem Imp.tab0 {l : List Asn} {v : Value} {ls : List Item} (h : v = .tuple #[.pointer none, .int .i64 (tabErr ls)]) (he : tabErr ls ≠ 0) : Imp l [tabA v ls] :=
  Imp.ex none (Imp.star (Imp.pur ⟨h, fun h0 => absurd h0 he⟩ (fun E w k => (Imp.nil l E w k).ent (fun R x q => ⟨He, x, ⟨(fun _ e => nomatch e), rfl⟩, q, (Hdj_He x).symm, (He_Hun x).symm⟩))))
theorem Imp.tab1 {l : List Asn} {v : Value} {ls : List Item} {ad : Addr} (hm : Mem (per (cellsP ad (tabCs ls))) l) (h : v = .tuple #[.pointer (some ad), .int .i64 (tabErr ls)]) : Imp l [tabA v ls] :=
  Imp.ex (some ad) (Imp.star (Imp.pur ⟨h, fun _ => rfl⟩ (fun E w k => Imp.one (.head _ _) (Imp.nil _) E w (k.perMap hm (ψ := tabO (some ad) ls) (fun R hR ad' e => by cases e; exact hR)))))
/-- What compile tells: a table, or none; a place; an error. -/
def compA (v : Value) (p : ByteArray) : Asn := ex fun q : Option Addr × Int => star (pur (v = .tuple #[.pointer q.1, .int .i64 q.2, .int .i64 (patErr p)] ∧ (patErr p = 0 → q.1.isSome = true))) (per (tabO q.1 (gParse p).1))
theorem Imp.comp0 {l : List Asn} {v : Value} {p : ByteArray} {a : Int} (h : v = .tuple #[.pointer none, .int .i64 a, .int .i64 (patErr p)]) (he : patErr p ≠ 0) : Imp l [compA v p] :=
  Imp.ex ((none, a) : Option Addr × Int) (Imp.star (Imp.pur ⟨h, fun h0 => absurd h0 he⟩ (fun E w k => (Imp.nil l E w k).ent (fun R x q => ⟨He, x, ⟨(fun _ e => nomatch e), rfl⟩, q, (Hdj_He x).symm, (He_Hun x).symm⟩))))
theorem Cell.tab {n : Int} {r : W64} {f : Nat → W64} {b t j : Nat} (hm : Mem (blk b (tabC n r f) t) Hs) (hj : j < 256) : Cell Hs (((⟨b, 0, none⟩ : Addr).add 2).add (j * 1)) (uv (f j)) := by
  rw [Nat.mul_one, add_lit, add_lit, Nat.zero_add, ← Nat.zero_add (2 + j), ← add_lit]
  exact Cell.blk hm (tabC_at n r f hj)
theorem At.stTab {x y : Operand} {t t' : TypeId} {ad : Addr} {b j : Nat} {n : Int} {r u : W64} {f : Nat → W64} {m : List Asn} (f' : Nat → W64) (hz : SZ P t 1) (hx : opv K none x = some (.pointer (some ad))) (hy : opv K none y = some (uv u))
    (had : ad = ((⟨b, 0, none⟩ : Addr).add 2).add (j * 1)) (hj : j < 256) (hm : At1 Hs (blk b (tabC n r f) t') m) (hf : (fun c => if c = j then u else f c) = f') (h : At E N K (blk b (tabC n r f') t' :: m) (opsW P ops Q rest)) :
    At E N K Hs (opsW P ops Q (⟨none, .store t x y, ty, pos, af, none⟩ :: rest)) := by
  rw [Nat.mul_one, add_lit, add_lit, Nat.zero_add] at had
  subst hf
  exact At.st1 hz hx hy had h hm rfl rfl (by simp [tabC]; omega) (tabC_set n r f hj u)
/-- A block that stays: its cells. -/
theorem At.hardenB {b t : Nat} {cs : List Value} {m : List Asn} (hm : At1 Hs (blk b cs t) m) (h : At E N K (per (cellsP ⟨b, 0, none⟩ cs) :: m) G) : At E N K Hs G := fun a w hk hs =>
  h a w hk ((hs.front hm).harden (φ := cellsP ⟨b, 0, none⟩ cs) (by
    rintro R x R' rfl _ hx
    refine ⟨rfl, cs.toArray, (t, (0, 0)), hx b _ (by simp), fun j v hj => ?_⟩
    simpa using hj))
end
attribute [local irreducible] Go.Sx.opsW Go.Sx.cW Go.Code.wp Go.Sx.At

/-- repartee/glob.Parse -/
theorem glob_Parse (p : ByteArray) (hs : p.size ≤ big) : Does Tryz.prog 208 [.string p] [] (fun v => itemsA v (gParse p)) := by
  refine Does.enter Tryz.func208 rfl rfl ?_
  intro E
  have hbig : big = 9223372036854775807 := rfl
  have hs' := hs
  unfold big at hs'
  refine At.seq ?_
  refine At.region ?_
  refine At.ev (ev_assign rfl) rfl ?_
  refine At.ev (ev_assign rfl) rfl ?_
  refine At.ev (ev_assign rfl) rfl ?_
  refine At.nil ?_
  refine At.thenN ?_
  refine At.seq ?_
  refine At.region ?_
  refine At.ev (ev_assign rfl) rfl ?_
  refine At.nil ?_
  refine At.thenN ?_
  refine At.seq ?_
  refine At.seq ?_
  refine At.region ?_
  refine At.ev (ev_assign rfl) rfl ?_
  refine At.nil ?_
  refine At.thenN ?_
  refine At.block ?_
  refine At.ownZ Item 251 5 ?_
  refine At.loopF6 [(2, 38)] (fun (n : Nat) (a : Int) (out : List Item) (ao : Option Addr) (c : Nat) (cs : List Value) => n) (fun (n : Nat) (a : Int) (out : List Item) (ao : Option Addr) (c : Nat) (cs : List Value) => gLoop p n ⟨a, out⟩ = gParse p ∧ 0 ≤ a ∧ a ≤ p.size ∧ p.size - a < n ∧ out.length ≤ 60) (fun (n : Nat) (a : Int) (out : List Item) (ao : Option Addr) (c : Nat) (cs : List Value) => [(5, .val (.slice ao out.length c)), (6, .val (.int .i64 a))]) (fun (n : Nat) (a : Int) (out : List Item) (ao : Option Addr) (c : Nat) (cs : List Value) => [own (.slice ao out.length c) 251 5 out.length cs, per (relLP out cs)]) (p.size + 1) (0) ([]) (none) (0) ([]) (⟨rfl, by omega, by omega, by omega, by simp⟩) ⟨rfl, rfl, trivial⟩ ?_
  intro n a out ao c cs hk
  refine At.cat2 ?_
  obtain ⟨hk1, hk2, hk3, hk4, hk5⟩ := hk
  refine At.seq ?_
  refine At.seq ?_
  refine At.region ?_
  refine At.ev (ev_move rfl) rfl ?_
  refine At.ev (ev_move rfl) rfl ?_
  refine At.ev (ev_lens T.un9 rfl) rfl ?_
  refine At.ev (ev_lss rfl rfl) rfl ?_
  refine At.nil ?_
  refine At.thenN ?_
  refine At.condD rfl ?_ ?_
  · intro h0
    obtain ⟨m, rfl⟩ : ∃ m, n = m + 1 := ⟨n - 1, by omega⟩
    rw [gLoop] at hk1
    simp only at hk1
    rw [if_pos h0] at hk1
    have hq1 := bSub_size p a hk2 hk3
    have hq2 : (bSub p a p.size).size ≤ big := by omega
    have hq3 := itemP_b (bSub p a p.size) (by omega)
    obtain ⟨q, hq⟩ : ∃ q, q = itemP (bSub p a p.size) := ⟨_, rfl⟩
    rw [← hq] at hk1 hq3
    refine At.skip ?_
    refine At.thenN ?_
    refine At.block ?_
    refine At.seq ?_
    refine At.seq ?_
    refine At.region ?_
    refine At.ev (ev_move rfl) rfl ?_
    refine At.ev (ev_lenl T.un223 rfl) rfl ?_
    refine At.ev (ev_eqi rfl rfl) rfl ?_
    refine At.nil ?_
    refine At.thenN ?_
    refine At.condD rfl ?_ ?_
    · intro h1
      rw [if_pos (by omega)] at hk1
      refine At.seq ?_
      refine At.region ?_
      refine At.ev (ev_move rfl) rfl ?_
      refine At.ev (ev_assign rfl) rfl ?_
      refine At.ev (ev_assign rfl) rfl ?_
      refine At.ev (ev_assign rfl) rfl ?_
      refine At.nil ?_
      refine At.thenN ?_
      refine At.retC ?_
      refine At.thenR ?_
      refine At.blkR ?_
      refine At.thenR ?_
      refine At.blkR ?_
      refine At.thenR ?_
      refine At.ret (rs := [.tmp 2, .tmp 3, .tmp 4]) rfl (Res.tmp rfl (Res.tmp rfl (Res.tmp rfl Res.nil))) ?_
      rw [← hk1]; exact Imp.items0 rfl
    · intro h1
      rw [if_neg (by omega)] at hk1
      refine At.skip ?_
      refine At.thenN ?_
      refine At.seq ?_
      refine At.region ?_
      refine At.ev (ev_move rfl) rfl ?_
      refine At.ev (ev_move rfl) rfl ?_
      refine At.ev (ev_cutI (i := a) (j := p.size) T.un9 rfl rfl rfl (by omega) (by omega) (by omega)) rfl ?_
      refine At.callq (goes_func cf219 rfl) (Qc.pure (glob_item (bSub p a p.size) hq2 (by omega))) rfl ?_
      rw [← hq]
      refine At.ev (ev_move rfl) rfl ?_
      refine At.ev (ev_ext rfl rfl) rfl ?_
      refine At.ev (ev_ext rfl rfl) rfl ?_
      refine At.ev (ev_ext rfl rfl) rfl ?_
      refine At.new T.zv251 ?_
      intro bi
      refine At.stA T.sz251 rfl rfl rfl ?_ (h1 := (Item.ones _)) (cs' := q.1.cs)
      refine At.ev (ev_assign rfl) rfl ?_
      refine At.ev (ev_assign rfl) rfl ?_
      refine At.nil ?_
      refine At.thenN ?_
      refine At.seq ?_
      refine At.seq ?_
      refine At.region ?_
      refine At.ev (ev_move rfl) rfl ?_
      refine At.ev (ev_nei rfl rfl) rfl ?_
      refine At.nil ?_
      refine At.thenN ?_
      refine At.condDn rfl ?_ ?_
      · intro h2
        rw [if_pos h2] at hk1
        refine At.seq ?_
        refine At.region ?_
        refine At.ev (ev_move rfl) rfl ?_
        refine At.ev (ev_move rfl) rfl ?_
        refine At.ev (ev_add rfl rfl (by omega)) rfl ?_
        refine At.ev (ev_move rfl) rfl ?_
        refine At.ev (ev_assign rfl) rfl ?_
        refine At.ev (ev_assign rfl) rfl ?_
        refine At.ev (ev_assign rfl) rfl ?_
        refine At.nil ?_
        refine At.thenN ?_
        refine At.retC ?_
        refine At.thenR ?_
        refine At.blkR ?_
        refine At.thenR ?_
        refine At.blkR ?_
        refine At.thenR ?_
        refine At.ret (rs := [.tmp 2, .tmp 3, .tmp 4]) rfl (Res.tmp rfl (Res.tmp rfl (Res.tmp rfl Res.nil))) ?_
        rw [← hk1]; exact Imp.items0 rfl
      · intro h2
        rw [if_neg (by simp [h2])] at hk1
        have h2' : q.2.2 = 0 := h2
        have hq4 := hq3.2.2.1 h2'
        refine At.skip ?_
        refine At.thenN ?_
        refine At.region ?_
        refine At.ev (ev_move rfl) rfl ?_
        refine At.ev (ldA T.ld251 rfl) rfl ?_
        refine At.bsl q.1.cs T.un223 T.sz251 T.zv251 rfl ?_
        intro be
        refine At.app2 T.ti223 T.un223 rfl rfl ?_ (h1 := (Item.ones _))
        intro ao2 c2 hcc2 hmc2
        refine At.ev (ev_move rfl) rfl ?_
        refine At.ev (ev_move rfl) rfl ?_
        refine At.ev (ev_add rfl rfl (by omega)) rfl ?_
        refine At.ev (ev_assign rfl) rfl ?_
        refine At.ev (ev_assign rfl) rfl ?_
        refine At.nil ?_
        refine At.blkN ?_
        refine At.thenN ?_
        refine At.snoc (xs := out) q.1 (fun R => Item.rel) (by repeat (first | with_reducible exact Mem.head _ _ | apply Mem.tail)) ?_
        rw [show out.length + 1 = (out ++ [q.1]).length by simp]
        refine At.againF6 (m) (a + q.2.1) (out ++ [q.1]) (ao2) (c2) (cs ++ q.1.cs) (by omega) (⟨hk1, by omega, by omega, by omega, by simp only [List.length_append, List.length_cons, List.length_nil]; omega⟩) ⟨rfl, rfl, trivial⟩
  · intro h0
    have hr : gParse p = (out, 0, 0) := by
      rw [← hk1]; cases n with
      | zero => rfl
      | succ n => rw [gLoop]; simp only; rw [if_neg h0]
    refine At.sealS out rfl ?_
    intro hc2 _
    refine At.exit ?_
    refine At.thenX ?_
    refine At.thenX ?_
    refine At.blkX ?_
    refine At.thenN ?_
    refine At.seq ?_
    refine At.region ?_
    refine At.ev (ev_move rfl) rfl ?_
    refine At.ev (ev_assign rfl) rfl ?_
    refine At.ev (ev_assign rfl) rfl ?_
    refine At.ev (ev_assign rfl) rfl ?_
    refine At.nil ?_
    refine At.thenN ?_
    refine At.retC ?_
    refine At.ret (rs := [.tmp 2, .tmp 3, .tmp 4]) rfl (Res.tmp rfl (Res.tmp rfl (Res.tmp rfl Res.nil))) ?_
    rw [hr]; exact Imp.items (e := (out, 0, 0)) (by repeat (first | with_reducible exact Mem.head _ _ | apply Mem.tail)) hc2 rfl

/-- repartee/table.Compile -/
theorem table_Compile (ao : Option Addr) (c : Nat) (l : List Item) : Does Tryz.prog 209 [.slice ao l.length c] [per (rdSl ao l)] (fun v => tabA v l) := by
  refine Does.enter Tryz.func209 rfl rfl ?_
  intro E
  refine At.lenb (α := Item) (xs := l) (by repeat (first | with_reducible exact Mem.head _ _ | apply Mem.tail)) ?_
  unfold big
  intro hll
  refine At.seq ?_
  refine At.region ?_
  refine At.ev (ev_assign rfl) rfl ?_
  refine At.ev (ev_assign rfl) rfl ?_
  refine At.nil ?_
  refine At.thenN ?_
  refine At.seq ?_
  refine At.block ?_
  refine At.seq ?_
  refine At.region ?_
  refine At.ev (ev_move rfl) rfl ?_
  refine At.callq (goes_func cf220 rfl) (Qc.stay (glob_Good _ _ _)) rfl ?_
  refine At.ev (ev_not rfl) rfl ?_
  refine At.ev (ev_assign rfl) rfl ?_
  refine At.nil ?_
  refine At.thenN ?_
  refine At.cond rfl ?_ ?_
  · intro h0
    try simp only [decide_eq_true_eq, decide_eq_false_iff_not, Bool.not_eq_true', Bool.not_eq_false', Bool.cond_false_right, Bool.cond_true_left, Bool.and_eq_true, Bool.or_eq_true, Bool.and_eq_false_iff, Bool.or_eq_false_iff, Bool.not_true, Bool.not_false] at h0
    have hr : tabErr l = 2 := by unfold tabErr; rw [if_pos h0]
    refine At.seq ?_
    refine At.region ?_
    refine At.ev (ev_assign rfl) rfl ?_
    refine At.ev (ev_assign rfl) rfl ?_
    refine At.nil ?_
    refine At.thenN ?_
    refine At.retC ?_
    refine At.blkR ?_
    refine At.thenR ?_
    refine At.ret (rs := [.tmp 2, .tmp 3]) rfl (Res.tmp rfl (Res.tmp rfl Res.nil)) ?_
    exact Imp.tab0 (by rw [hr]; rfl) (by rw [hr]; decide)
  · intro h0
    try simp only [decide_eq_true_eq, decide_eq_false_iff_not, Bool.not_eq_true', Bool.not_eq_false', Bool.cond_false_right, Bool.cond_true_left, Bool.and_eq_true, Bool.or_eq_true, Bool.and_eq_false_iff, Bool.or_eq_false_iff, Bool.not_true, Bool.not_false] at h0
    refine At.seq ?_
    refine At.region ?_
    refine At.ev (ev_move rfl) rfl ?_
    refine At.callq (goes_func cf221 rfl) (Qc.stay (lang_Empty _ _ _)) rfl ?_
    refine At.ev (ev_assign rfl) rfl ?_
    refine At.nil ?_
    refine At.thenN ?_
    refine At.cond rfl ?_ ?_
    · intro h1
      try simp only [decide_eq_true_eq, decide_eq_false_iff_not, Bool.not_eq_true', Bool.not_eq_false', Bool.cond_false_right, Bool.cond_true_left, Bool.and_eq_true, Bool.or_eq_true, Bool.and_eq_false_iff, Bool.or_eq_false_iff, Bool.not_true, Bool.not_false] at h1
      have hr : tabErr l = 9 := by unfold tabErr; rw [if_neg (by simp [h0]), if_pos h1]
      refine At.seq ?_
      refine At.region ?_
      refine At.ev (ev_assign rfl) rfl ?_
      refine At.ev (ev_assign rfl) rfl ?_
      refine At.nil ?_
      refine At.thenN ?_
      refine At.retC ?_
      refine At.blkR ?_
      refine At.thenR ?_
      refine At.ret (rs := [.tmp 2, .tmp 3]) rfl (Res.tmp rfl (Res.tmp rfl Res.nil)) ?_
      exact Imp.tab0 (by rw [hr]; rfl) (by rw [hr]; decide)
    · intro h1
      try simp only [decide_eq_true_eq, decide_eq_false_iff_not, Bool.not_eq_true', Bool.not_eq_false', Bool.cond_false_right, Bool.cond_true_left, Bool.and_eq_true, Bool.or_eq_true, Bool.and_eq_false_iff, Bool.or_eq_false_iff, Bool.not_true, Bool.not_false] at h1
      have hr : tabErr l = 0 := by unfold tabErr; rw [if_neg (by simp [h0]), if_neg (by simp [h1])]
      have h60 : l.length ≤ 60 := by simp [goodI] at h0; exact h0.1
      refine At.skip ?_
      refine At.blkN ?_
      refine At.thenN ?_
      refine At.seq ?_
      refine At.region ?_
      refine At.ev (ev_move rfl) rfl ?_
      refine At.ev (ev_lenl T.un223 rfl) rfl ?_
      refine At.ev (ev_build T.pl257 rfl ⟨rfl, trivial⟩ ⟨rfl, by decide, trivial⟩) rfl ?_
      refine At.boxA rfl ?_
      intro bt
      refine At.norm (b := bt) (tabC l.length (tabR l 0) (fun b => tabH l b 0)) (by repeat (first | with_reducible exact At1.head _ _ | apply At1.tail)) (by rfl) ?_
      refine At.ev (ev_assign rfl) rfl ?_
      refine At.nil ?_
      refine At.thenN ?_
      refine At.seq ?_
      refine At.seq ?_
      refine At.region ?_
      refine At.ev (ev_move rfl) rfl ?_
      refine At.ev (ev_lenl T.un223 rfl) rfl ?_
      refine At.ev (ev_move rfl) rfl ?_
      refine At.nil ?_
      refine At.thenN ?_
      refine At.block ?_
      refine At.loopF1 [(5, 8), (22, 60)] (fun (k : Nat) => l.length - k) (fun (k : Nat) => k ≤ l.length) (fun (k : Nat) => [(22, .val (.int .i64 k))]) (fun (k : Nat) => [blk bt (tabC l.length (tabR l k) (fun b => tabH l b k)) 257]) (0) (by omega) ⟨rfl, trivial⟩ ?_
      intro k hk
      refine At.cat1 ?_
      refine At.seq ?_
      refine At.region ?_
      refine At.ev (ev_lss rfl rfl) rfl ?_
      refine At.nil ?_
      refine At.thenN ?_
      refine At.seq ?_
      refine At.condD rfl ?_ ?_
      · intro h2
        have hlt : k < l.length := by omega
        refine At.get (α := Item) (xs := l) (by repeat (first | with_reducible exact Mem.head _ _ | apply Mem.tail)) k hlt 5 rfl ?_
        intro adx x csx eq hx
        cases eq
        refine openItem (x := x) (by repeat (first | with_reducible exact Mem.head _ _ | apply Mem.tail)) ?_
        intro hox  eq
        subst eq
        have hgx : l.getD k default = x := by simp [List.getD_eq_getElem?_getD, hx]
        refine At.skip ?_
        refine At.thenN ?_
        refine At.seq ?_
        refine At.block ?_
        refine At.seq ?_
        refine At.region ?_
        refine At.ev (ev_move rfl) rfl ?_
        refine At.ev (ev_ian T.un223 T.sz251 rfl rfl (by omega)) rfl ?_
        refine At.ev (ldA T.ld251 rfl) rfl ?_
        refine At.new T.zv251 ?_
        intro bx
        refine At.ev (ev_assign rfl) rfl ?_
        refine At.stA T.sz251 rfl rfl rfl ?_ (cs' := x.cs)
        refine At.nil ?_
        refine At.thenN ?_
        refine At.seq ?_
        refine At.region ?_
        refine At.ev (ev_move rfl) rfl ?_
        refine At.ev (ev_conv ⟨_, T.un3⟩ T.un189 rfl (IntWalk.u64_in _ (by omega))) rfl ?_
        refine At.ev (ev_shl64 (a := 1#64) (i := k) rfl rfl (by omega) (by omega)) rfl ?_
        refine At.ev (ev_assign rfl) rfl ?_
        refine At.nil ?_
        refine At.thenN ?_
        refine At.seq ?_
        refine At.seq ?_
        refine At.region ?_
        refine At.ev (ev_fa T.fa251_0 rfl) rfl ?_
        refine At.ev (ld T.ld4 rfl) rfl ?_
        refine At.nil ?_
        refine At.thenN ?_
        refine At.joinQ1 [(32, 39)] (fun (u : Unit) => True) (fun (u : Unit) => []) (fun (u : Unit) => [blk bt (tabC l.length (tabR l (k + 1)) (fun b => tabH l b k)) 257]) [blk bt (tabC l.length (tabR l k) (fun b => tabH l b k)) 257] ?_ ?_
        · skip
          refine At.cond rfl ?_ ?_
          · intro h3
            try simp only [decide_eq_true_eq, decide_eq_false_iff_not, Bool.not_eq_true', Bool.not_eq_false', Bool.cond_false_right, Bool.cond_true_left, Bool.and_eq_true, Bool.or_eq_true, Bool.and_eq_false_iff, Bool.or_eq_false_iff, Bool.not_true, Bool.not_false] at h3
            refine At.region ?_
            refine At.ev (ev_move rfl) rfl ?_
            refine At.ev (ev_nil rfl) rfl ?_
            refine At.ev (ev_fa T.fa257_1 rfl) rfl ?_
            refine At.ev (ld T.ld212 rfl) rfl ?_
            refine At.ev (ev_move rfl) rfl ?_
            refine At.ev (ev_or64 rfl rfl) rfl ?_
            refine At.ev (ev_nil rfl) rfl ?_
            refine At.ev (ev_fa T.fa257_1 rfl) rfl ?_
            refine At.st1 T.sz212 rfl rfl (add_lit _ _ _) ?_ (cs' := tabC l.length (tabR l k ||| 1#64 <<< k) (fun b => tabH l b k))
            refine At.nil ?_
            refine At.thenN ?_
            have hrk : tabR l k ||| 1#64 <<< k = tabR l (k + 1) := by rw [tabR, hgx, if_pos h3]
            rw [hrk]
            refine At.meet1 (()) (trivial) trivial
          · intro h3
            try simp only [decide_eq_true_eq, decide_eq_false_iff_not, Bool.not_eq_true', Bool.not_eq_false', Bool.cond_false_right, Bool.cond_true_left, Bool.and_eq_true, Bool.or_eq_true, Bool.and_eq_false_iff, Bool.or_eq_false_iff, Bool.not_true, Bool.not_false] at h3
            refine At.skip ?_
            refine At.thenN ?_
            have hrk : tabR l k = tabR l (k + 1) := by rw [tabR, hgx, if_neg (by simp [h3])]
            rw [hrk]
            refine At.meet1 (()) (trivial) trivial
        intro u hj
        refine At.cat1 ?_
        refine At.thenN ?_
        refine At.seq ?_
        refine At.region ?_
        refine At.ev (ev_move rfl) rfl ?_
        refine At.nil ?_
        refine At.thenN ?_
        refine At.block ?_
        refine At.norm (b := bt) (tabC l.length (tabR l (k + 1)) (fun b => if b < 0 then tabH l b (k + 1) else tabH l b k)) (by repeat (first | with_reducible exact At1.head _ _ | apply At1.tail)) (by simp) ?_
        refine At.loopF1 [(8, 8), (40, 59)] (fun (j : Nat) => 256 - j) (fun (j : Nat) => j ≤ 256) (fun (j : Nat) => [(40, .val (.int .i64 j))]) (fun (j : Nat) => [blk bt (tabC l.length (tabR l (k + 1)) (fun b => if b < j then tabH l b (k + 1) else tabH l b k)) 257]) (0) (by omega) ⟨rfl, trivial⟩ ?_
        intro j hj
        refine At.cat1 ?_
        refine At.seq ?_
        refine At.region ?_
        refine At.ev (ev_lss rfl rfl) rfl ?_
        refine At.nil ?_
        refine At.thenN ?_
        refine At.seq ?_
        refine At.condD rfl ?_ ?_
        · intro h4
          refine At.skip ?_
          refine At.thenN ?_
          refine At.seq ?_
          refine At.block ?_
          refine At.seq ?_
          refine At.region ?_
          refine At.ev (ev_move rfl) rfl ?_
          refine At.ev (ev_assign rfl) rfl ?_
          refine At.nil ?_
          refine At.thenN ?_
          refine At.seq ?_
          refine At.region ?_
          refine At.ev (ev_fa T.fa251_1 rfl) rfl ?_
          refine At.ev (ldA (cs := x.set.cs) T.ld249 rfl (hc := Cells.blk (b := bx) (cs := x.cs) (t := 251) (k := 1) 4 (by repeat (first | with_reducible exact Mem.head _ _ | apply Mem.tail)))) rfl ?_
          refine At.ev (ev_move rfl) rfl ?_
          refine At.ev (ev_conv ⟨_, T.un3⟩ T.un5 rfl (IntWalk.u8_in _ (by omega))) rfl ?_
          refine At.callq (goes_func cf222 rfl) (Qc.pure (class_Has _ _ (by omega) (by omega))) rfl ?_
          refine At.nil ?_
          refine At.thenN ?_
          refine At.joinQ1 [(48, 58)] (fun (u : Unit) => True) (fun (u : Unit) => []) (fun (u : Unit) => [blk bt (tabC l.length (tabR l (k + 1)) (fun b => if b < j + 1 then tabH l b (k + 1) else tabH l b k)) 257]) [blk bt (tabC l.length (tabR l (k + 1)) (fun b => if b < j then tabH l b (k + 1) else tabH l b k)) 257] ?_ ?_
          · skip
            refine At.cond rfl ?_ ?_
            · intro h5
              try simp only [decide_eq_true_eq, decide_eq_false_iff_not, Bool.not_eq_true', Bool.not_eq_false', Bool.cond_false_right, Bool.cond_true_left, Bool.and_eq_true, Bool.or_eq_true, Bool.and_eq_false_iff, Bool.or_eq_false_iff, Bool.not_true, Bool.not_false] at h5
              refine At.drawH (.q0 0 (.q0 1 (.q0 2 (.q0 3 (.q0 4 (.q1 5 (.q0 6 (.q0 7 (.q0 8 (.q0 9 (.q0 10 (.br 11 (.nil) (.stop))))))))))))) (fun j => !([11] : List Nat).contains j) mixed (by kernel_rfl) (by kernel_rfl) (NoP.thn (NoP.blk (NoP.thn (NoP.thn (NoP.blk (NoP.blk (NoP.thn (NoP.thn (NoP.blk (NoP.thn NoP.body)))))))))) ?_
              refine At.c0 rfl (ev_move rfl) rfl ?_
              refine At.c0 rfl (ev_move rfl) rfl ?_
              refine At.c0 rfl (ev_nil rfl) rfl ?_
              refine At.c0 rfl (ev_fa T.fa257_2 rfl) rfl ?_
              refine At.c0 rfl (ev_iaa (n := 256) (i := j) T.un255 T.sz212 rfl rfl (by omega) (by omega)) rfl ?_
              refine At.c1 rfl (Imp.refl _) (ld T.ld212 rfl (hc := Cell.tab (f := fun b => if b < j then tabH l b (k + 1) else tabH l b k) (j := j) (by repeat (first | with_reducible exact Mem.head _ _ | apply Mem.tail)) (by omega))) rfl ?_
              refine At.c0 rfl (ev_move rfl) rfl ?_
              refine At.c0 rfl (ev_or64 rfl rfl) rfl ?_
              refine At.c0 rfl (ev_nil rfl) rfl ?_
              refine At.c0 rfl (ev_fa T.fa257_2 rfl) rfl ?_
              refine At.c0 rfl (ev_iaa (n := 256) (i := j) T.un255 T.sz212 rfl rfl (by omega) (by omega)) rfl ?_
              refine At.c2 rfl ?_ ?_
              · intro w0
                refine At.stTab (j := j) (f := fun b => if b < j then tabH l b (k + 1) else tabH l b k) (fun b => if b < j + 1 then tabH l b (k + 1) else tabH l b k) T.sz212 rfl rfl rfl (by omega) (by repeat (first | with_reducible exact At1.head _ _ | apply At1.tail)) (tabH_step hgx h5) ?_
                refine At.nil ?_
                refine At.cn (fun h => absurd h (by decide)) ?_
                refine At.cnil ?_
                refine At.thenN ?_
                refine At.meet1 (()) (trivial) trivial
              exact At.cstop
            · intro h5
              try simp only [decide_eq_true_eq, decide_eq_false_iff_not, Bool.not_eq_true', Bool.not_eq_false', Bool.cond_false_right, Bool.cond_true_left, Bool.and_eq_true, Bool.or_eq_true, Bool.and_eq_false_iff, Bool.or_eq_false_iff, Bool.not_true, Bool.not_false] at h5
              refine At.skip ?_
              refine At.thenN ?_
              rw [tabH_keep hgx h5]
              refine At.meet1 (()) (trivial) trivial
          intro u hj
          refine At.cat1 ?_
          refine At.blkN ?_
          refine At.thenN ?_
          refine At.region ?_
          refine At.ev (ev_add rfl rfl (by omega)) rfl ?_
          refine At.ev (ev_move rfl) rfl ?_
          refine At.nil ?_
          refine At.thenN ?_
          refine At.againF1 (j + 1) (by omega) (by omega) ⟨rfl, trivial⟩
        · intro h4
          refine At.norm (b := bt) (tabC l.length (tabR l (k + 1)) (fun b => tabH l b (k + 1))) (by repeat (first | with_reducible exact At1.head _ _ | apply At1.tail)) (tabC_congr (fun b hb => if_pos (by omega))) ?_
          refine At.exit ?_
          refine At.thenX ?_
          refine At.thenX ?_
          refine At.blkX ?_
          refine At.blkN ?_
          refine At.thenN ?_
          refine At.region ?_
          refine At.ev (ev_add rfl rfl (by omega)) rfl ?_
          refine At.ev (ev_move rfl) rfl ?_
          refine At.nil ?_
          refine At.thenN ?_
          refine At.againF1 (k + 1) (by omega) (by omega) ⟨rfl, trivial⟩
      · intro h2
        obtain rfl : k = l.length := by omega
        refine At.norm (b := bt) (tabCs l) (by repeat (first | with_reducible exact At1.head _ _ | apply At1.tail)) (by rfl) ?_
        refine At.hardenB (b := bt) (by repeat (first | with_reducible exact At1.head _ _ | apply At1.tail)) ?_
        refine At.exit ?_
        refine At.thenX ?_
        refine At.thenX ?_
        refine At.blkX ?_
        refine At.thenN ?_
        refine At.seq ?_
        refine At.region ?_
        refine At.ev (ev_move rfl) rfl ?_
        refine At.ev (ev_assign rfl) rfl ?_
        refine At.ev (ev_assign rfl) rfl ?_
        refine At.nil ?_
        refine At.thenN ?_
        refine At.retC ?_
        refine At.ret (rs := [.tmp 2, .tmp 3]) rfl (Res.tmp rfl (Res.tmp rfl Res.nil)) ?_
        exact Imp.tab1 (ls := l) (ad := ⟨bt, 0, none⟩) (by repeat (first | with_reducible exact Mem.head _ _ | apply Mem.tail)) (by rw [hr]; rfl)

/-- repartee/arms.compile -/
theorem arms_compile (p : ByteArray) (hs : p.size ≤ big) : Does Tryz.prog 192 [.string p] [] (fun v => compA v p) := by
  refine Does.enter Tryz.func192 rfl rfl ?_
  intro E
  refine At.seq ?_
  refine At.region ?_
  refine At.ev (ev_assign rfl) rfl ?_
  refine At.ev (ev_assign rfl) rfl ?_
  refine At.ev (ev_assign rfl) rfl ?_
  refine At.nil ?_
  refine At.thenN ?_
  refine At.seq ?_
  refine At.region ?_
  refine At.ev (ev_move rfl) rfl ?_
  refine At.do (goes_func cf208 rfl) (glob_Parse _ (by assumption)) ?_
  intro _
  refine At.ex ?_
  intro v0
  refine At.star ?_
  refine At.pur ?_
  rintro rfl
  refine At.sl ?_
  intro ao c e hc
  subst e
  refine At.ev (ev_move rfl) rfl ?_
  refine At.ev (ev_ext rfl rfl) rfl ?_
  refine At.ev (ev_ext rfl rfl) rfl ?_
  refine At.ev (ev_ext rfl rfl) rfl ?_
  refine At.ev (ev_assign rfl) rfl ?_
  refine At.ev (ev_assign rfl) rfl ?_
  refine At.ev (ev_assign rfl) rfl ?_
  refine At.nil ?_
  refine At.thenN ?_
  refine At.seq ?_
  refine At.seq ?_
  refine At.region ?_
  refine At.ev (ev_move rfl) rfl ?_
  refine At.ev (ev_nei rfl rfl) rfl ?_
  refine At.nil ?_
  refine At.thenN ?_
  refine At.condDn rfl ?_ ?_
  · intro h0
    have hr : patErr p = (gParse p).2.2 := by unfold patErr; rw [if_pos h0]
    refine At.seq ?_
    refine At.region ?_
    refine At.ev (ev_move rfl) rfl ?_
    refine At.ev (ev_move rfl) rfl ?_
    refine At.ev (ev_assign rfl) rfl ?_
    refine At.ev (ev_assign rfl) rfl ?_
    refine At.ev (ev_assign rfl) rfl ?_
    refine At.nil ?_
    refine At.thenN ?_
    refine At.retC ?_
    refine At.thenR ?_
    refine At.ret (rs := [.tmp 2, .tmp 3, .tmp 4]) rfl (Res.tmp rfl (Res.tmp rfl (Res.tmp rfl Res.nil))) ?_
    exact Imp.comp0 (a := (gParse p).2.1) (by rw [hr]; rfl) (by rw [hr]; exact h0)
  · intro h0
    have hg := gParse_good p
    have hr : tabErr (gParse p).1 = patErr p := by unfold tabErr patErr; rw [if_neg (by simp [hg] : ¬ goodI (gParse p).1 = false), if_neg (by simp [h0] : ¬ (gParse p).2.2 ≠ 0)]
    refine At.skip ?_
    refine At.thenN ?_
    refine At.seq ?_
    refine At.region ?_
    refine At.ev (ev_move rfl) rfl ?_
    refine At.do (goes_func cf209 rfl) (table_Compile ao c (gParse p).1) ?_
    intro _
    refine At.ex ?_
    intro o
    refine At.star ?_
    refine At.pur ?_
    rintro ⟨rfl, ho⟩
    refine At.ev (ev_move rfl) rfl ?_
    refine At.ev (ev_ext rfl rfl) rfl ?_
    refine At.ev (ev_ext rfl rfl) rfl ?_
    refine At.ev (ev_assign rfl) rfl ?_
    refine At.ev (ev_assign rfl) rfl ?_
    refine At.nil ?_
    refine At.thenN ?_
    refine At.seq ?_
    refine At.region ?_
    refine At.ev (ev_move rfl) rfl ?_
    refine At.ev (ev_move rfl) rfl ?_
    refine At.ev (ev_assign rfl) rfl ?_
    refine At.ev (ev_assign rfl) rfl ?_
    refine At.ev (ev_assign rfl) rfl ?_
    refine At.nil ?_
    refine At.thenN ?_
    refine At.retC ?_
    refine At.ret (rs := [.tmp 2, .tmp 3, .tmp 4]) rfl (Res.tmp rfl (Res.tmp rfl (Res.tmp rfl Res.nil))) ?_
    rw [hr] at ho ⊢
    exact Imp.ex (o, 0) (Imp.star (Imp.pur ⟨rfl, ho⟩ (Imp.per (by repeat (first | with_reducible exact Mem.head _ _ | apply Mem.tail)) (Imp.nil _))))

/-- repartee/arms.Check -/
theorem arms_Check (p : ByteArray) (hs : p.size ≤ big) : Does Tryz.prog 216 [.string p] [] (fun v => ex fun a : Int => pur (v = .tuple #[.int .i64 a, .int .i64 (patErr p)])) := by
  refine Does.enter Tryz.func216 rfl rfl ?_
  intro E
  refine At.seq ?_
  refine At.region ?_
  refine At.ev (ev_assign rfl) rfl ?_
  refine At.ev (ev_assign rfl) rfl ?_
  refine At.nil ?_
  refine At.thenN ?_
  refine At.seq ?_
  refine At.region ?_
  refine At.ev (ev_move rfl) rfl ?_
  refine At.do (goes_func cf192 rfl) (arms_compile _ (by assumption)) ?_
  intro _
  refine At.ex ?_
  rintro ⟨o, a⟩
  refine At.star ?_
  refine At.pur ?_
  rintro ⟨rfl, ho⟩
  refine At.ev (ev_move rfl) rfl ?_
  refine At.ev (ev_ext rfl rfl) rfl ?_
  refine At.ev (ev_ext rfl rfl) rfl ?_
  refine At.ev (ev_ext rfl rfl) rfl ?_
  refine At.ev (ev_assign rfl) rfl ?_
  refine At.ev (ev_assign rfl) rfl ?_
  refine At.ev (ev_assign rfl) rfl ?_
  refine At.nil ?_
  refine At.thenN ?_
  refine At.seq ?_
  refine At.region ?_
  refine At.ev (ev_move rfl) rfl ?_
  refine At.ev (ev_move rfl) rfl ?_
  refine At.ev (ev_assign rfl) rfl ?_
  refine At.ev (ev_assign rfl) rfl ?_
  refine At.nil ?_
  refine At.thenN ?_
  refine At.retC ?_
  refine At.ret (rs := [.tmp 2, .tmp 3]) rfl (Res.tmp rfl (Res.tmp rfl Res.nil)) ?_
  exact Imp.ex a (Imp.pur rfl (Imp.nil _))

end Go.Proofs.YtebjpeonbfhdhaaGreat
