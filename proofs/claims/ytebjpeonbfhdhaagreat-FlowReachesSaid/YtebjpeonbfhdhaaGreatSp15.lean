/- A script that is written out; scripts cut twice; what FlowCounts reckons. -/
import Derived.Test.YtebjpeonbfhdhaaGreatSp14
import Derived.Test.YtebjpeonbfhdhaaGreatSx15
namespace Go.Sx
open Go
theorem Ev.cast {P : Program} {E : En} {N : Nat} {K : Kl} {g : Option (Nat × Bool)} {Hs : List Asn} {op : Op} {ty : TypeId} {v v' : Value} (h : Ev P E N K g Hs op ty v) (e : v = v') : Ev P E N K g Hs op ty v' := e ▸ h
end Go.Sx
namespace Go.Proofs.YtebjpeonbfhdhaaGreat
open Go Go.Sx
def lpo : List Op := [⟨3, ⟨#[]⟩, 0, 2, [], 0, 0⟩, ⟨5, ⟨#[]⟩, 0, 0, [], 0, 0⟩, ⟨1, ⟨#[97, 98, 99, 100]⟩, 0, 0, [], 0, 0⟩]
def lp : Prog := ⟨⟨#[97]⟩, 9, 0, lpo⟩
def lpc : List Value := [.int .i64 3, .string ⟨#[]⟩, .int .i64 0, .int .i64 2, .slice none 0 0, .int .i64 0, .int .i64 0, .int .i64 5, .string ⟨#[]⟩, .int .i64 0, .int .i64 0, .slice none 0 0, .int .i64 0, .int .i64 0, .int .i64 1, .string ⟨#[97, 98, 99, 100]⟩, .int .i64 0, .int .i64 0, .slice none 0 0, .int .i64 0, .int .i64 0]
theorem lp_rel (R : Hp) : relL R lpo lpc := by
  refine ⟨[.int .i64 3, .string ⟨#[]⟩, .int .i64 0, .int .i64 2, .slice none 0 0, .int .i64 0, .int .i64 0], _, rfl, ?_, [.int .i64 5, .string ⟨#[]⟩, .int .i64 0, .int .i64 0, .slice none 0 0, .int .i64 0, .int .i64 0], _, rfl, ?_, [.int .i64 1, .string ⟨#[97, 98, 99, 100]⟩, .int .i64 0, .int .i64 0, .slice none 0 0, .int .i64 0, .int .i64 0], [], rfl, ?_, rfl⟩ <;>
  exact ⟨⟨⟨by decide, by decide⟩, by decide, ⟨by decide, by decide⟩, ⟨by decide, by decide⟩, ⟨by decide, by decide⟩, ⟨by decide, by decide⟩⟩, none, 0, rfl, by decide, ⟨by decide, fun h => absurd h (by decide)⟩⟩
theorem lp_ok : lp.ok := ⟨by decide, ⟨by decide, by decide⟩, ⟨by decide, by decide⟩⟩
theorem lp_good : goodP patErr lp = true := by decide +kernel
theorem lp_reach : reachP lp = [0, 2, 3] := by rw [reachP_good lp_good]; decide +kernel
theorem lp_loops : loopsP lp = false := by unfold loopsP; rw [lp_good]; decide +kernel
def usual : Setup := ⟨4, 8, 16, 3, 5, 1⟩
theorem lp_steps : stepsP usual lp = 6 := by unfold stepsP; rw [if_pos ⟨by decide +kernel, lp_good⟩]; decide +kernel
theorem lp_most : mostP usual lp = 12 := by unfold mostP; rw [lp_steps]; decide +kernel
theorem bCut_two (s : ByteArray) (m : Nat) : bCut (bCut s m) m = bCut s m := by
  have h : (bCut s m).size ≤ m := by
    unfold bCut; split
    · rw [ByteArray.size_extract]; omega
    · omega
  generalize bCut s m = u at h ⊢
  unfold bCut; rw [if_neg (by omega)]
theorem Arm.few_few (a : Arm) : a.few.few = a.few := by unfold Arm.few; simp [bCut_two]
theorem Op.few_few (o : Op) : o.few.few = o.few := by
  unfold Op.few; simp only [bCut_two, List.map_take, List.map_map, List.take_take, Nat.min_self]
  congr 1
  rw [show Arm.few ∘ Arm.few = Arm.few from funext Arm.few_few]
theorem Prog.few_few (p : Prog) (m : Nat) : (p.few m).few m = p.few m := by
  unfold Prog.few; simp only [bCut_two, List.map_take, List.map_map, List.take_take, Nat.min_self]
  congr 1
  rw [show Op.few ∘ Op.few = Op.few from funext Op.few_few]
theorem flow_sum (s : Setup) (p : Prog) : mostP s p = IntKind.i64.wrap (IntKind.i64.wrap (2 * stepsR s p * IntKind.i64.wrap (p.jumps + 1)) * (if 0 < stepsR s p then 1 else 0)) := by
  have hb := stepsP_b s p
  rw [steps_eq] at hb
  unfold mostP
  rw [steps_eq]
  by_cases h : stepsR s p = 0
  · rw [if_pos h, h]; simp; decide
  · rw [if_neg h, if_pos (by omega), Int.mul_one]
    have hg : goodP patErr p = true := by
      cases hh : goodP patErr p with
      | true => rfl
      | false => exact absurd (by unfold stepsR; rw [if_neg (by simp [hh])]) h
    obtain ⟨_, hg2, hg3, _⟩ := goodP_ops hg
    have hmul : 0 ≤ 2 * stepsR s p * (p.jumps + 1) ∧ 2 * stepsR s p * (p.jumps + 1) ≤ 120000 * 1001 := ⟨Int.mul_nonneg (by omega) (by omega), Int.mul_le_mul (by omega) (by omega) (by omega) (by omega)⟩
    rw [IntWalk.i64_in (p.jumps + 1) (by omega), IntWalk.i64_in (2 * stepsR s p * (p.jumps + 1)) (by omega), IntWalk.i64_in _ (by omega)]
end Go.Proofs.YtebjpeonbfhdhaaGreat
