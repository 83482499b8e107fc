/- Go's plain data as Lean structures, and their cells. Printed by a program. -/
import Derived.Test.YtebjpeonbfhdhaaGreatSx11
set_option linter.unusedVariables false
namespace Go.Proofs.YtebjpeonbfhdhaaGreat
open Go Go.Sx

structure Setup where
  live : Int
  ring : Int
  win : Int
  out : Int
  quantum : Int
  visits : Int
  deriving DecidableEq, Inhabited
def Setup.ok (x : Setup) : Prop := i64 x.live ∧ i64 x.ring ∧ i64 x.win ∧ i64 x.out ∧ i64 x.quantum ∧ i64 x.visits
def Setup.cs (x : Setup) : List Value := [.int .i64 x.live, .int .i64 x.ring, .int .i64 x.win, .int .i64 x.out, .int .i64 x.quantum, .int .i64 x.visits]
instance repSetup : Rep Setup where
  sz := 6
  pos := by decide
  rel := fun R x cs => x.ok ∧ cs = x.cs
  len := by rintro _ _ _ ⟨_, rfl⟩; rfl
  mono := fun _ h => h
  ones := by rintro _ _ _ ⟨_, rfl⟩; exact ⟨rfl, rfl, rfl, rfl, rfl, rfl, trivial⟩
theorem openSetup {E : En} {N : Nat} {K : Kl} {Hs : List Asn} {G : Act → World → Prop} {x : Setup} {cs : List Value} (hm : Mem (per (relP x cs)) Hs) (h : x.ok → cs = x.cs → At E N K (Hs) G) : At E N K Hs G := fun a w hk hs => by
  obtain ⟨h0, rfl⟩ := hs.per hm
  exact h h0 rfl a w hk hs
instance : Flat Setup := ⟨Setup.ok, Setup.cs, fun h => h⟩
theorem Setup.rel {R : Hp} {x : Setup} (h : x.ok) : Rep.rel R x (x.cs) := ⟨h, rfl⟩

structure Arm where
  pattern : ByteArray
  to : Int
  deriving DecidableEq, Inhabited
def Arm.ok (x : Arm) : Prop := x.pattern.size ≤ big ∧ i64 x.to
def Arm.cs (x : Arm) : List Value := [.string x.pattern, .int .i64 x.to]
instance repArm : Rep Arm where
  sz := 2
  pos := by decide
  rel := fun R x cs => x.ok ∧ cs = x.cs
  len := by rintro _ _ _ ⟨_, rfl⟩; rfl
  mono := fun _ h => h
  ones := by rintro _ _ _ ⟨_, rfl⟩; exact ⟨rfl, rfl, trivial⟩
theorem openArm {E : En} {N : Nat} {K : Kl} {Hs : List Asn} {G : Act → World → Prop} {x : Arm} {cs : List Value} (hm : Mem (per (relP x cs)) Hs) (h : x.ok → cs = x.cs → At E N K (Hs) G) : At E N K Hs G := fun a w hk hs => by
  obtain ⟨h0, rfl⟩ := hs.per hm
  exact h h0 rfl a w hk hs
instance : Flat Arm := ⟨Arm.ok, Arm.cs, fun h => h⟩
theorem Arm.rel {R : Hp} {x : Arm} (h : x.ok) : Rep.rel R x (x.cs) := ⟨h, rfl⟩

structure Op where
  kind : Int
  text : ByteArray
  n : Int
  to : Int
  arms : (List Arm)
  onTimeout : Int
  onEof : Int
  deriving DecidableEq, Inhabited
def Op.ok (x : Op) : Prop := i64 x.kind ∧ x.text.size ≤ big ∧ i64 x.n ∧ i64 x.to ∧ i64 x.onTimeout ∧ i64 x.onEof
def Op.cs (x : Op) (a4 : Option Addr) (c4 : Nat) : List Value := [.int .i64 x.kind, .string x.text, .int .i64 x.n, .int .i64 x.to, .slice a4 x.arms.length c4, .int .i64 x.onTimeout, .int .i64 x.onEof]
instance repOp : Rep Op where
  sz := 7
  pos := by decide
  rel := fun R x cs => x.ok ∧ ∃ (a4 : Option Addr) (c4 : Nat), cs = x.cs a4 c4 ∧ x.arms.length ≤ c4 ∧ (rdSl a4 x.arms).holds R
  len := by rintro _ _ _ ⟨_, _, _, rfl, _, _⟩; rfl
  mono := fun hR ⟨h0, a4, c4, e, l4, h4⟩ => ⟨h0, a4, c4, e, l4, (rdSl a4 _).mono _ _ hR h4⟩
  ones := by rintro _ _ _ ⟨_, _, _, rfl, _, _⟩; exact ⟨rfl, rfl, rfl, rfl, rfl, rfl, rfl, trivial⟩
theorem openOp {E : En} {N : Nat} {K : Kl} {Hs : List Asn} {G : Act → World → Prop} {x : Op} {cs : List Value} (hm : Mem (per (relP x cs)) Hs) (h : x.ok → ∀ (a4 : Option Addr) (c4 : Nat), x.arms.length ≤ c4 → cs = x.cs a4 c4 → At E N K (per (rdSl a4 x.arms) :: Hs) G) : At E N K Hs G :=
  At.tell hm fun R hR => by
    obtain ⟨h0, a4, c4, e, l4, h4⟩ := hR
    exact .intro (l := [rdSl a4 x.arms]) (by intro φ hφ; simp at hφ; rcases hφ with rfl <;> assumption) (h h0 a4 c4 l4 e)
theorem Op.rel {R : Hp} {x : Op} {a4 : Option Addr} {c4 : Nat} (h : x.ok) (l4 : x.arms.length ≤ c4) (h4 : (rdSl a4 x.arms).holds R) : Rep.rel R x (x.cs a4 c4) := ⟨h, _, _, rfl, l4, h4⟩

structure Prog where
  name : ByteArray
  deadline : Int
  jumps : Int
  ops : (List Op)
  deriving DecidableEq, Inhabited
def Prog.ok (x : Prog) : Prop := x.name.size ≤ big ∧ i64 x.deadline ∧ i64 x.jumps
def Prog.cs (x : Prog) (a3 : Option Addr) (c3 : Nat) : List Value := [.string x.name, .int .i64 x.deadline, .int .i64 x.jumps, .slice a3 x.ops.length c3]
instance repProg : Rep Prog where
  sz := 4
  pos := by decide
  rel := fun R x cs => x.ok ∧ ∃ (a3 : Option Addr) (c3 : Nat), cs = x.cs a3 c3 ∧ x.ops.length ≤ c3 ∧ (rdSl a3 x.ops).holds R
  len := by rintro _ _ _ ⟨_, _, _, rfl, _, _⟩; rfl
  mono := fun hR ⟨h0, a3, c3, e, l3, h3⟩ => ⟨h0, a3, c3, e, l3, (rdSl a3 _).mono _ _ hR h3⟩
  ones := by rintro _ _ _ ⟨_, _, _, rfl, _, _⟩; exact ⟨rfl, rfl, rfl, rfl, trivial⟩
theorem openProg {E : En} {N : Nat} {K : Kl} {Hs : List Asn} {G : Act → World → Prop} {x : Prog} {cs : List Value} (hm : Mem (per (relP x cs)) Hs) (h : x.ok → ∀ (a3 : Option Addr) (c3 : Nat), x.ops.length ≤ c3 → cs = x.cs a3 c3 → At E N K (per (rdSl a3 x.ops) :: Hs) G) : At E N K Hs G :=
  At.tell hm fun R hR => by
    obtain ⟨h0, a3, c3, e, l3, h3⟩ := hR
    exact .intro (l := [rdSl a3 x.ops]) (by intro φ hφ; simp at hφ; rcases hφ with rfl <;> assumption) (h h0 a3 c3 l3 e)
theorem Prog.rel {R : Hp} {x : Prog} {a3 : Option Addr} {c3 : Nat} (h : x.ok) (l3 : x.ops.length ≤ c3) (h3 : (rdSl a3 x.ops).holds R) : Rep.rel R x (x.cs a3 c3) := ⟨h, _, _, rfl, l3, h3⟩

structure Input where
  kind : Int
  bytes : ByteArray
  n : Int
  tick : Int
  deriving DecidableEq, Inhabited
def Input.ok (x : Input) : Prop := i64 x.kind ∧ x.bytes.size ≤ big ∧ i64 x.n ∧ i64 x.tick
def Input.cs (x : Input) : List Value := [.int .i64 x.kind, .string x.bytes, .int .i64 x.n, .int .i64 x.tick]
instance repInput : Rep Input where
  sz := 4
  pos := by decide
  rel := fun R x cs => x.ok ∧ cs = x.cs
  len := by rintro _ _ _ ⟨_, rfl⟩; rfl
  mono := fun _ h => h
  ones := by rintro _ _ _ ⟨_, rfl⟩; exact ⟨rfl, rfl, rfl, rfl, trivial⟩
theorem openInput {E : En} {N : Nat} {K : Kl} {Hs : List Asn} {G : Act → World → Prop} {x : Input} {cs : List Value} (hm : Mem (per (relP x cs)) Hs) (h : x.ok → cs = x.cs → At E N K (Hs) G) : At E N K Hs G := fun a w hk hs => by
  obtain ⟨h0, rfl⟩ := hs.per hm
  exact h h0 rfl a w hk hs
instance : Flat Input := ⟨Input.ok, Input.cs, fun h => h⟩
theorem Input.rel {R : Hp} {x : Input} (h : x.ok) : Rep.rel R x (x.cs) := ⟨h, rfl⟩

structure Play where
  s : Setup
  p : Prog
  now : Int
  inp : (List Input)
  ask : Int
  deriving DecidableEq, Inhabited
def Play.ok (x : Play) : Prop := i64 x.s.live ∧ i64 x.s.ring ∧ i64 x.s.win ∧ i64 x.s.out ∧ i64 x.s.quantum ∧ i64 x.s.visits ∧ x.p.name.size ≤ big ∧ i64 x.p.deadline ∧ i64 x.p.jumps ∧ i64 x.now ∧ i64 x.ask
def Play.cs (x : Play) (a9 : Option Addr) (c9 : Nat) (a11 : Option Addr) (c11 : Nat) : List Value := [.int .i64 x.s.live, .int .i64 x.s.ring, .int .i64 x.s.win, .int .i64 x.s.out, .int .i64 x.s.quantum, .int .i64 x.s.visits, .string x.p.name, .int .i64 x.p.deadline, .int .i64 x.p.jumps, .slice a9 x.p.ops.length c9, .int .i64 x.now, .slice a11 x.inp.length c11, .int .i64 x.ask]
instance repPlay : Rep Play where
  sz := 13
  pos := by decide
  rel := fun R x cs => x.ok ∧ ∃ (a9 : Option Addr) (c9 : Nat), ∃ (a11 : Option Addr) (c11 : Nat), cs = x.cs a9 c9 a11 c11 ∧ x.p.ops.length ≤ c9 ∧ (rdSl a9 x.p.ops).holds R ∧ x.inp.length ≤ c11 ∧ (rdSl a11 x.inp).holds R
  len := by rintro _ _ _ ⟨_, _, _, _, _, rfl, _, _, _, _⟩; rfl
  mono := fun hR ⟨h0, a9, c9, a11, c11, e, l9, h9, l11, h11⟩ => ⟨h0, a9, c9, a11, c11, e, l9, (rdSl a9 _).mono _ _ hR h9, l11, (rdSl a11 _).mono _ _ hR h11⟩
  ones := by rintro _ _ _ ⟨_, _, _, _, _, rfl, _, _, _, _⟩; exact ⟨rfl, rfl, rfl, rfl, rfl, rfl, rfl, rfl, rfl, rfl, rfl, rfl, rfl, trivial⟩
theorem openPlay {E : En} {N : Nat} {K : Kl} {Hs : List Asn} {G : Act → World → Prop} {x : Play} {cs : List Value} (hm : Mem (per (relP x cs)) Hs) (h : x.ok → ∀ (a9 : Option Addr) (c9 : Nat), ∀ (a11 : Option Addr) (c11 : Nat), x.p.ops.length ≤ c9 → x.inp.length ≤ c11 → cs = x.cs a9 c9 a11 c11 → At E N K (per (rdSl a9 x.p.ops) :: per (rdSl a11 x.inp) :: Hs) G) : At E N K Hs G :=
  At.tell hm fun R hR => by
    obtain ⟨h0, a9, c9, a11, c11, e, l9, h9, l11, h11⟩ := hR
    exact .intro (l := [rdSl a9 x.p.ops, rdSl a11 x.inp]) (by intro φ hφ; simp at hφ; rcases hφ with rfl | rfl <;> assumption) (h h0 a9 c9 a11 c11 l9 l11 e)
theorem Play.rel {R : Hp} {x : Play} {a9 : Option Addr} {c9 : Nat} {a11 : Option Addr} {c11 : Nat} (h : x.ok) (l9 : x.p.ops.length ≤ c9) (h9 : (rdSl a9 x.p.ops).holds R) (l11 : x.inp.length ≤ c11) (h11 : (rdSl a11 x.inp).holds R) : Rep.rel R x (x.cs a9 c9 a11 c11) := ⟨h, _, _, _, _, rfl, l9, h9, l11, h11⟩

structure Step where
  tick : Int
  at_ : Int
  what : Int
  arm : Int
  n : Int
  status : Int
  deriving DecidableEq, Inhabited
def Step.ok (x : Step) : Prop := i64 x.tick ∧ i64 x.at_ ∧ i64 x.what ∧ i64 x.arm ∧ i64 x.n ∧ i64 x.status
def Step.cs (x : Step) : List Value := [.int .i64 x.tick, .int .i64 x.at_, .int .i64 x.what, .int .i64 x.arm, .int .i64 x.n, .int .i64 x.status]
instance repStep : Rep Step where
  sz := 6
  pos := by decide
  rel := fun R x cs => x.ok ∧ cs = x.cs
  len := by rintro _ _ _ ⟨_, rfl⟩; rfl
  mono := fun _ h => h
  ones := by rintro _ _ _ ⟨_, rfl⟩; exact ⟨rfl, rfl, rfl, rfl, rfl, rfl, trivial⟩
theorem openStep {E : En} {N : Nat} {K : Kl} {Hs : List Asn} {G : Act → World → Prop} {x : Step} {cs : List Value} (hm : Mem (per (relP x cs)) Hs) (h : x.ok → cs = x.cs → At E N K (Hs) G) : At E N K Hs G := fun a w hk hs => by
  obtain ⟨h0, rfl⟩ := hs.per hm
  exact h h0 rfl a w hk hs
instance : Flat Step := ⟨Step.ok, Step.cs, fun h => h⟩
theorem Step.rel {R : Hp} {x : Step} (h : x.ok) : Rep.rel R x (x.cs) := ⟨h, rfl⟩

structure Due where
  till : Int
  limit : Int
  cut : Int
  deriving DecidableEq, Inhabited
def Due.ok (x : Due) : Prop := i64 x.till ∧ i64 x.limit ∧ i64 x.cut
def Due.cs (x : Due) : List Value := [.int .i64 x.till, .int .i64 x.limit, .int .i64 x.cut]
instance repDue : Rep Due where
  sz := 3
  pos := by decide
  rel := fun R x cs => x.ok ∧ cs = x.cs
  len := by rintro _ _ _ ⟨_, rfl⟩; rfl
  mono := fun _ h => h
  ones := by rintro _ _ _ ⟨_, rfl⟩; exact ⟨rfl, rfl, rfl, trivial⟩
theorem openDue {E : En} {N : Nat} {K : Kl} {Hs : List Asn} {G : Act → World → Prop} {x : Due} {cs : List Value} (hm : Mem (per (relP x cs)) Hs) (h : x.ok → cs = x.cs → At E N K (Hs) G) : At E N K Hs G := fun a w hk hs => by
  obtain ⟨h0, rfl⟩ := hs.per hm
  exact h h0 rfl a w hk hs
instance : Flat Due := ⟨Due.ok, Due.cs, fun h => h⟩
theorem Due.rel {R : Hp} {x : Due} (h : x.ok) : Rep.rel R x (x.cs) := ⟨h, rfl⟩

structure Found where
  hit : Bool
  full : Bool
  arm : Int
  gone : Int
  read : Int
  deriving DecidableEq, Inhabited
def Found.ok (x : Found) : Prop := i64 x.arm ∧ i64 x.gone ∧ i64 x.read
def Found.cs (x : Found) : List Value := [.bool x.hit, .bool x.full, .int .i64 x.arm, .int .i64 x.gone, .int .i64 x.read]
instance repFound : Rep Found where
  sz := 5
  pos := by decide
  rel := fun R x cs => x.ok ∧ cs = x.cs
  len := by rintro _ _ _ ⟨_, rfl⟩; rfl
  mono := fun _ h => h
  ones := by rintro _ _ _ ⟨_, rfl⟩; exact ⟨rfl, rfl, rfl, rfl, rfl, trivial⟩
theorem openFound {E : En} {N : Nat} {K : Kl} {Hs : List Asn} {G : Act → World → Prop} {x : Found} {cs : List Value} (hm : Mem (per (relP x cs)) Hs) (h : x.ok → cs = x.cs → At E N K (Hs) G) : At E N K Hs G := fun a w hk hs => by
  obtain ⟨h0, rfl⟩ := hs.per hm
  exact h h0 rfl a w hk hs
instance : Flat Found := ⟨Found.ok, Found.cs, fun h => h⟩
theorem Found.rel {R : Hp} {x : Found} (h : x.ok) : Rep.rel R x (x.cs) := ⟨h, rfl⟩

structure Out where
  n : Int
  bytes : ByteArray
  step : Step
  did : Bool
  deriving DecidableEq, Inhabited
def Out.ok (x : Out) : Prop := i64 x.n ∧ x.bytes.size ≤ big ∧ i64 x.step.tick ∧ i64 x.step.at_ ∧ i64 x.step.what ∧ i64 x.step.arm ∧ i64 x.step.n ∧ i64 x.step.status
def Out.cs (x : Out) : List Value := [.int .i64 x.n, .string x.bytes, .int .i64 x.step.tick, .int .i64 x.step.at_, .int .i64 x.step.what, .int .i64 x.step.arm, .int .i64 x.step.n, .int .i64 x.step.status, .bool x.did]
instance repOut : Rep Out where
  sz := 9
  pos := by decide
  rel := fun R x cs => x.ok ∧ cs = x.cs
  len := by rintro _ _ _ ⟨_, rfl⟩; rfl
  mono := fun _ h => h
  ones := by rintro _ _ _ ⟨_, rfl⟩; exact ⟨rfl, rfl, rfl, rfl, rfl, rfl, rfl, rfl, rfl, trivial⟩
theorem openOut {E : En} {N : Nat} {K : Kl} {Hs : List Asn} {G : Act → World → Prop} {x : Out} {cs : List Value} (hm : Mem (per (relP x cs)) Hs) (h : x.ok → cs = x.cs → At E N K (Hs) G) : At E N K Hs G := fun a w hk hs => by
  obtain ⟨h0, rfl⟩ := hs.per hm
  exact h h0 rfl a w hk hs
instance : Flat Out := ⟨Out.ok, Out.cs, fun h => h⟩
theorem Out.rel {R : Hp} {x : Out} (h : x.ok) : Rep.rel R x (x.cs) := ⟨h, rfl⟩

structure Offer where
  id : Int
  bytes : ByteArray
  eof : Bool
  deriving DecidableEq, Inhabited
def Offer.ok (x : Offer) : Prop := i64 x.id ∧ x.bytes.size ≤ big
def Offer.cs (x : Offer) : List Value := [.int .i64 x.id, .string x.bytes, .bool x.eof]
instance repOffer : Rep Offer where
  sz := 3
  pos := by decide
  rel := fun R x cs => x.ok ∧ cs = x.cs
  len := by rintro _ _ _ ⟨_, rfl⟩; rfl
  mono := fun _ h => h
  ones := by rintro _ _ _ ⟨_, rfl⟩; exact ⟨rfl, rfl, rfl, trivial⟩
theorem openOffer {E : En} {N : Nat} {K : Kl} {Hs : List Asn} {G : Act → World → Prop} {x : Offer} {cs : List Value} (hm : Mem (per (relP x cs)) Hs) (h : x.ok → cs = x.cs → At E N K (Hs) G) : At E N K Hs G := fun a w hk hs => by
  obtain ⟨h0, rfl⟩ := hs.per hm
  exact h h0 rfl a w hk hs
instance : Flat Offer := ⟨Offer.ok, Offer.cs, fun h => h⟩
theorem Offer.rel {R : Hp} {x : Offer} (h : x.ok) : Rep.rel R x (x.cs) := ⟨h, rfl⟩

structure Report where
  id : Int
  read : Bool
  write : Bool
  accept : Int
  deriving DecidableEq, Inhabited
def Report.ok (x : Report) : Prop := i64 x.id ∧ i64 x.accept
def Report.cs (x : Report) : List Value := [.int .i64 x.id, .bool x.read, .bool x.write, .int .i64 x.accept]
instance repReport : Rep Report where
  sz := 4
  pos := by decide
  rel := fun R x cs => x.ok ∧ cs = x.cs
  len := by rintro _ _ _ ⟨_, rfl⟩; rfl
  mono := fun _ h => h
  ones := by rintro _ _ _ ⟨_, rfl⟩; exact ⟨rfl, rfl, rfl, rfl, trivial⟩
theorem openReport {E : En} {N : Nat} {K : Kl} {Hs : List Asn} {G : Act → World → Prop} {x : Report} {cs : List Value} (hm : Mem (per (relP x cs)) Hs) (h : x.ok → cs = x.cs → At E N K (Hs) G) : At E N K Hs G := fun a w hk hs => by
  obtain ⟨h0, rfl⟩ := hs.per hm
  exact h h0 rfl a w hk hs
instance : Flat Report := ⟨Report.ok, Report.cs, fun h => h⟩
theorem Report.rel {R : Hp} {x : Report} (h : x.ok) : Rep.rel R x (x.cs) := ⟨h, rfl⟩

structure Round where
  ticks : Int
  opens : (List Int)
  offers : (List Offer)
  reports : (List Report)
  drain : Int
  abort : Bool
  deriving DecidableEq, Inhabited
def Round.ok (x : Round) : Prop := i64 x.ticks ∧ i64 x.drain
def Round.cs (x : Round) (a1 : Option Addr) (c1 : Nat) (a2 : Option Addr) (c2 : Nat) (a3 : Option Addr) (c3 : Nat) : List Value := [.int .i64 x.ticks, .slice a1 x.opens.length c1, .slice a2 x.offers.length c2, .slice a3 x.reports.length c3, .int .i64 x.drain, .bool x.abort]
instance repRound : Rep Round where
  sz := 6
  pos := by decide
  rel := fun R x cs => x.ok ∧ ∃ (a1 : Option Addr) (c1 : Nat), ∃ (a2 : Option Addr) (c2 : Nat), ∃ (a3 : Option Addr) (c3 : Nat), cs = x.cs a1 c1 a2 c2 a3 c3 ∧ x.opens.length ≤ c1 ∧ (rdSl a1 x.opens).holds R ∧ x.offers.length ≤ c2 ∧ (rdSl a2 x.offers).holds R ∧ x.reports.length ≤ c3 ∧ (rdSl a3 x.reports).holds R
  len := by rintro _ _ _ ⟨_, _, _, _, _, _, _, rfl, _, _, _, _, _, _⟩; rfl
  mono := fun hR ⟨h0, a1, c1, a2, c2, a3, c3, e, l1, h1, l2, h2, l3, h3⟩ => ⟨h0, a1, c1, a2, c2, a3, c3, e, l1, (rdSl a1 _).mono _ _ hR h1, l2, (rdSl a2 _).mono _ _ hR h2, l3, (rdSl a3 _).mono _ _ hR h3⟩
  ones := by rintro _ _ _ ⟨_, _, _, _, _, _, _, rfl, _, _, _, _, _, _⟩; exact ⟨rfl, rfl, rfl, rfl, rfl, rfl, trivial⟩
theorem openRound {E : En} {N : Nat} {K : Kl} {Hs : List Asn} {G : Act → World → Prop} {x : Round} {cs : List Value} (hm : Mem (per (relP x cs)) Hs) (h : x.ok → ∀ (a1 : Option Addr) (c1 : Nat), ∀ (a2 : Option Addr) (c2 : Nat), ∀ (a3 : Option Addr) (c3 : Nat), x.opens.length ≤ c1 → x.offers.length ≤ c2 → x.reports.length ≤ c3 → cs = x.cs a1 c1 a2 c2 a3 c3 → At E N K (per (rdSl a1 x.opens) :: per (rdSl a2 x.offers) :: per (rdSl a3 x.reports) :: Hs) G) : At E N K Hs G :=
  At.tell hm fun R hR => by
    obtain ⟨h0, a1, c1, a2, c2, a3, c3, e, l1, h1, l2, h2, l3, h3⟩ := hR
    exact .intro (l := [rdSl a1 x.opens, rdSl a2 x.offers, rdSl a3 x.reports]) (by intro φ hφ; simp at hφ; rcases hφ with rfl | rfl | rfl <;> assumption) (h h0 a1 c1 a2 c2 a3 c3 l1 l2 l3 e)
theorem Round.rel {R : Hp} {x : Round} {a1 : Option Addr} {c1 : Nat} {a2 : Option Addr} {c2 : Nat} {a3 : Option Addr} {c3 : Nat} (h : x.ok) (l1 : x.opens.length ≤ c1) (h1 : (rdSl a1 x.opens).holds R) (l2 : x.offers.length ≤ c2) (h2 : (rdSl a2 x.offers).holds R) (l3 : x.reports.length ≤ c3) (h3 : (rdSl a3 x.reports).holds R) : Rep.rel R x (x.cs a1 c1 a2 c2 a3 c3) := ⟨h, _, _, _, _, _, _, rfl, l1, h1, l2, h2, l3, h3⟩

structure WorldD where
  s : Setup
  scripts : (List Prog)
  rounds : (List Round)
  deriving DecidableEq, Inhabited
def WorldD.ok (x : WorldD) : Prop := i64 x.s.live ∧ i64 x.s.ring ∧ i64 x.s.win ∧ i64 x.s.out ∧ i64 x.s.quantum ∧ i64 x.s.visits
def WorldD.cs (x : WorldD) (a6 : Option Addr) (c6 : Nat) (a7 : Option Addr) (c7 : Nat) : List Value := [.int .i64 x.s.live, .int .i64 x.s.ring, .int .i64 x.s.win, .int .i64 x.s.out, .int .i64 x.s.quantum, .int .i64 x.s.visits, .slice a6 x.scripts.length c6, .slice a7 x.rounds.length c7]
instance repWorldD : Rep WorldD where
  sz := 8
  pos := by decide
  rel := fun R x cs => x.ok ∧ ∃ (a6 : Option Addr) (c6 : Nat), ∃ (a7 : Option Addr) (c7 : Nat), cs = x.cs a6 c6 a7 c7 ∧ x.scripts.length ≤ c6 ∧ (rdSl a6 x.scripts).holds R ∧ x.rounds.length ≤ c7 ∧ (rdSl a7 x.rounds).holds R
  len := by rintro _ _ _ ⟨_, _, _, _, _, rfl, _, _, _, _⟩; rfl
  mono := fun hR ⟨h0, a6, c6, a7, c7, e, l6, h6, l7, h7⟩ => ⟨h0, a6, c6, a7, c7, e, l6, (rdSl a6 _).mono _ _ hR h6, l7, (rdSl a7 _).mono _ _ hR h7⟩
  ones := by rintro _ _ _ ⟨_, _, _, _, _, rfl, _, _, _, _⟩; exact ⟨rfl, rfl, rfl, rfl, rfl, rfl, rfl, rfl, trivial⟩
theorem openWorldD {E : En} {N : Nat} {K : Kl} {Hs : List Asn} {G : Act → World → Prop} {x : WorldD} {cs : List Value} (hm : Mem (per (relP x cs)) Hs) (h : x.ok → ∀ (a6 : Option Addr) (c6 : Nat), ∀ (a7 : Option Addr) (c7 : Nat), x.scripts.length ≤ c6 → x.rounds.length ≤ c7 → cs = x.cs a6 c6 a7 c7 → At E N K (per (rdSl a6 x.scripts) :: per (rdSl a7 x.rounds) :: Hs) G) : At E N K Hs G :=
  At.tell hm fun R hR => by
    obtain ⟨h0, a6, c6, a7, c7, e, l6, h6, l7, h7⟩ := hR
    exact .intro (l := [rdSl a6 x.scripts, rdSl a7 x.rounds]) (by intro φ hφ; simp at hφ; rcases hφ with rfl | rfl <;> assumption) (h h0 a6 c6 a7 c7 l6 l7 e)
theorem WorldD.rel {R : Hp} {x : WorldD} {a6 : Option Addr} {c6 : Nat} {a7 : Option Addr} {c7 : Nat} (h : x.ok) (l6 : x.scripts.length ≤ c6) (h6 : (rdSl a6 x.scripts).holds R) (l7 : x.rounds.length ≤ c7) (h7 : (rdSl a7 x.rounds).holds R) : Rep.rel R x (x.cs a6 c6 a7 c7) := ⟨h, _, _, _, _, rfl, l6, h6, l7, h7⟩

structure Event where
  kind : Int
  id : Int
  n : Int
  tick : Int
  bytes : ByteArray
  err : Int
  step : Step
  deriving DecidableEq, Inhabited
def Event.ok (x : Event) : Prop := i64 x.kind ∧ i64 x.id ∧ i64 x.n ∧ i64 x.tick ∧ x.bytes.size ≤ big ∧ i64 x.err ∧ i64 x.step.tick ∧ i64 x.step.at_ ∧ i64 x.step.what ∧ i64 x.step.arm ∧ i64 x.step.n ∧ i64 x.step.status
def Event.cs (x : Event) : List Value := [.int .i64 x.kind, .int .i64 x.id, .int .i64 x.n, .int .i64 x.tick, .string x.bytes, .int .i64 x.err, .int .i64 x.step.tick, .int .i64 x.step.at_, .int .i64 x.step.what, .int .i64 x.step.arm, .int .i64 x.step.n, .int .i64 x.step.status]
instance repEvent : Rep Event where
  sz := 12
  pos := by decide
  rel := fun R x cs => x.ok ∧ cs = x.cs
  len := by rintro _ _ _ ⟨_, rfl⟩; rfl
  mono := fun _ h => h
  ones := by rintro _ _ _ ⟨_, rfl⟩; exact ⟨rfl, rfl, rfl, rfl, rfl, rfl, rfl, rfl, rfl, rfl, rfl, rfl, trivial⟩
theorem openEvent {E : En} {N : Nat} {K : Kl} {Hs : List Asn} {G : Act → World → Prop} {x : Event} {cs : List Value} (hm : Mem (per (relP x cs)) Hs) (h : x.ok → cs = x.cs → At E N K (Hs) G) : At E N K Hs G := fun a w hk hs => by
  obtain ⟨h0, rfl⟩ := hs.per hm
  exact h h0 rfl a w hk hs
instance : Flat Event := ⟨Event.ok, Event.cs, fun h => h⟩
theorem Event.rel {R : Hp} {x : Event} (h : x.ok) : Rep.rel R x (x.cs) := ⟨h, rfl⟩

structure Entry where
  at_ : Int
  id : Int
  deriving DecidableEq, Inhabited
def Entry.ok (x : Entry) : Prop := i64 x.at_ ∧ i64 x.id
def Entry.cs (x : Entry) : List Value := [.int .i64 x.at_, .int .i64 x.id]
instance repEntry : Rep Entry where
  sz := 2
  pos := by decide
  rel := fun R x cs => x.ok ∧ cs = x.cs
  len := by rintro _ _ _ ⟨_, rfl⟩; rfl
  mono := fun _ h => h
  ones := by rintro _ _ _ ⟨_, rfl⟩; exact ⟨rfl, rfl, trivial⟩
theorem openEntry {E : En} {N : Nat} {K : Kl} {Hs : List Asn} {G : Act → World → Prop} {x : Entry} {cs : List Value} (hm : Mem (per (relP x cs)) Hs) (h : x.ok → cs = x.cs → At E N K (Hs) G) : At E N K Hs G := fun a w hk hs => by
  obtain ⟨h0, rfl⟩ := hs.per hm
  exact h h0 rfl a w hk hs
instance : Flat Entry := ⟨Entry.ok, Entry.cs, fun h => h⟩
theorem Entry.rel {R : Hp} {x : Entry} (h : x.ok) : Rep.rel R x (x.cs) := ⟨h, rfl⟩

structure One where
  id : Int
  slot : Int
  deriving DecidableEq, Inhabited
def One.ok (x : One) : Prop := i64 x.id ∧ i64 x.slot
def One.cs (x : One) : List Value := [.int .i64 x.id, .int .i64 x.slot]
instance repOne : Rep One where
  sz := 2
  pos := by decide
  rel := fun R x cs => x.ok ∧ cs = x.cs
  len := by rintro _ _ _ ⟨_, rfl⟩; rfl
  mono := fun _ h => h
  ones := by rintro _ _ _ ⟨_, rfl⟩; exact ⟨rfl, rfl, trivial⟩
theorem openOne {E : En} {N : Nat} {K : Kl} {Hs : List Asn} {G : Act → World → Prop} {x : One} {cs : List Value} (hm : Mem (per (relP x cs)) Hs) (h : x.ok → cs = x.cs → At E N K (Hs) G) : At E N K Hs G := fun a w hk hs => by
  obtain ⟨h0, rfl⟩ := hs.per hm
  exact h h0 rfl a w hk hs
instance : Flat One := ⟨One.ok, One.cs, fun h => h⟩
theorem One.rel {R : Hp} {x : One} (h : x.ok) : Rep.rel R x (x.cs) := ⟨h, rfl⟩

structure PendD where
  done : ByteArray
  out : ByteArray
  rest : ByteArray
  most : Int
  tries : Int
  deriving DecidableEq, Inhabited
def PendD.ok (x : PendD) : Prop := x.done.size ≤ big ∧ x.out.size ≤ big ∧ x.rest.size ≤ big ∧ i64 x.most ∧ i64 x.tries
def PendD.cs (x : PendD) : List Value := [.string x.done, .string x.out, .string x.rest, .int .i64 x.most, .int .i64 x.tries]
instance repPendD : Rep PendD where
  sz := 5
  pos := by decide
  rel := fun R x cs => x.ok ∧ cs = x.cs
  len := by rintro _ _ _ ⟨_, rfl⟩; rfl
  mono := fun _ h => h
  ones := by rintro _ _ _ ⟨_, rfl⟩; exact ⟨rfl, rfl, rfl, rfl, rfl, trivial⟩
theorem openPendD {E : En} {N : Nat} {K : Kl} {Hs : List Asn} {G : Act → World → Prop} {x : PendD} {cs : List Value} (hm : Mem (per (relP x cs)) Hs) (h : x.ok → cs = x.cs → At E N K (Hs) G) : At E N K Hs G := fun a w hk hs => by
  obtain ⟨h0, rfl⟩ := hs.per hm
  exact h h0 rfl a w hk hs
instance : Flat PendD := ⟨PendD.ok, PendD.cs, fun h => h⟩
theorem PendD.rel {R : Hp} {x : PendD} (h : x.ok) : Rep.rel R x (x.cs) := ⟨h, rfl⟩

end Go.Proofs.YtebjpeonbfhdhaaGreat
