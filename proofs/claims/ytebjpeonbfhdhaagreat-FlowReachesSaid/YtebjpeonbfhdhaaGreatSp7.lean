/- Ops with the fields alone that their kinds have. -/
import Derived.Test.YtebjpeonbfhdhaaGreatSp6
namespace Go.Proofs.YtebjpeonbfhdhaaGreat
open Go Go.Sx
def Op.bareO (o : Op) : Op :=
  if o.kind = 1 then { kind := o.kind, text := o.text, n := 0, to := 0, arms := [], onTimeout := 0, onEof := 0 }
  else if o.kind = 2 then { kind := o.kind, text := ⟨#[]⟩, n := o.n, to := 0, arms := o.arms, onTimeout := o.onTimeout, onEof := o.onEof }
  else if o.kind = 3 then { kind := o.kind, text := ⟨#[]⟩, n := 0, to := o.to, arms := [], onTimeout := 0, onEof := 0 }
  else if o.kind = 4 then { kind := o.kind, text := ⟨#[]⟩, n := o.n, to := 0, arms := [], onTimeout := 0, onEof := 0 }
  else { kind := o.kind, text := ⟨#[]⟩, n := 0, to := 0, arms := [], onTimeout := 0, onEof := 0 }
theorem Op.bareO_ok {o : Op} (h : o.ok) : o.bareO.ok := by
  have z : i64 0 := i64_lit 0 (by decide)
  have e : (⟨#[]⟩ : ByteArray).size ≤ big := Nat.zero_le _
  unfold Op.bareO
  obtain ⟨h1, h2, h3, h4, h5, h6⟩ := h
  split
  · exact ⟨h1, h2, z, z, z, z⟩
  · split
    · exact ⟨h1, e, h3, z, h5, h6⟩
    · split
      · exact ⟨h1, e, z, h4, z, z⟩
      · split
        · exact ⟨h1, e, h3, z, z, z⟩
        · exact ⟨h1, e, z, z, z, z⟩
theorem Op.bareB_eq (o : Op) : decide (o = o.bareO) = o.bareB := by
  rw [Bool.eq_iff_iff, decide_eq_true_eq]
  obtain ⟨kind, text, n, to, arms, ot, oe⟩ := o
  by_cases h1 : kind = 1
  · simp [Op.bareO, Op.bareB, h1]; try (constructor <;> rintro ⟨a, b, c, d, e⟩ <;> simp_all)
  · by_cases h2 : kind = 2
    · simp [Op.bareO, Op.bareB, h2]; try (constructor <;> rintro ⟨a, b⟩ <;> simp_all)
    · by_cases h3 : kind = 3
      · simp [Op.bareO, Op.bareB, h3]; try (constructor <;> rintro ⟨a, b, c, d, e⟩ <;> simp_all)
      · by_cases h4 : kind = 4
        · simp [Op.bareO, Op.bareB, h4]; try (constructor <;> rintro ⟨a, b, c, d, e⟩ <;> simp_all)
        · simp [Op.bareO, Op.bareB, h1, h2, h3, h4]; try (constructor <;> rintro ⟨a, b, c, d, e, f⟩ <;> simp_all)
def toAt (o : Op) (k : Nat) : Int := if k = 0 then o.onTimeout else o.onEof
def toBad (p : Prog) (t : Int) : Prop := t ≠ -1 ∧ p.comes t = false
end Go.Proofs.YtebjpeonbfhdhaaGreat
