/- The reader of bytes (wire.In): what each of its calls takes. -/
import Derived.Test.YtgkhedmjkahclaaGreatDoorTy
import Derived.Test.YtgkhedmjkahclaaGreatDoorTbits
/- In.Int. -/
/- A text cut. -/
namespace Go.Proofs.YtgkhedmjkahclaaGreatDoor.TL
open Go
set_option linter.unusedVariables false
set_option linter.unusedSimpArgs false

/-- A reader: the bytes left, the error. -/
structure In where
  l : List UInt8
  e : Int

abbrev inB (i : In) : Blk := ⟨0, [.v (.string (bs i.l)), .v (.int .i64 i.e)]⟩

def In.fail (i : In) (x : Int) : In := if i.e = 0 ∧ x ≠ 0 then ⟨[], x⟩ else i
def In.raw (i : In) (n : Int) : In × List UInt8 :=
  if i.e ≠ 0 ∨ n ≤ 0 then (i, []) else if (i.l.length : Int) < n then (⟨[], 1⟩, []) else (⟨i.l.drop n.toNat, i.e⟩, i.l.take n.toNat)
def numL : List UInt8 → Nat → Nat → In × Nat
  | [], _, _ => (⟨[], 1⟩, 0)
  | c :: l, k, a => if c.toNat = 0 ∧ 0 < k ∨ k = 9 ∧ 1 < c.toNat then (⟨[], 2⟩, 0) else if c.toNat < 128 then (⟨l, 0⟩, a + c.toNat % 128 * 2 ^ (7 * k)) else numL l (k + 1) (a + c.toNat % 128 * 2 ^ (7 * k))
def In.num (i : In) : In × Nat := if i.e ≠ 0 then (i, 0) else numL i.l 0 0
def In.count (i : In) (most : Int) : In × Int := if max most 0 < (i.num.2 : Int) then (i.num.1.fail 3, 0) else (i.num.1, i.num.2)
def In.int (i : In) : In × Int := (i.num.1, unzig i.num.2)
def In.str (i : In) (most : Int) : In × List UInt8 := (i.count most).1.raw (i.count most).2
def In.fin (i : In) : In := if i.l ≠ [] then i.fail 2 else i

theorem bs_nil : bs [] = { data := #[] } := rfl

theorem numL_err : ∀ (l : List UInt8) (k a : Nat), (numL l k a).1.e = 0 ∨ (numL l k a).1.l = [] := by
  intro l
  induction l with
  | nil => intro k a; exact .inr rfl
  | cons c l ih =>
    intro k a
    simp only [numL]
    split
    · exact .inr rfl
    · split
      · exact .inl rfl
      · exact ih _ _

theorem raw1 (b : UInt8) (l : List UInt8) : In.raw ⟨b :: l, 0⟩ 1 = (⟨l, 0⟩, [b]) := by
  have : ¬ ((l.length : Int) + 1 < 1) := by omega
  simp [In.raw, this]
theorem raw1_nil : In.raw ⟨[], 0⟩ 1 = (⟨[], 1⟩, []) := by simp [In.raw]

theorem numL_lt : ∀ (l : List UInt8) (k a : Nat), k ≤ 9 → a < 2 ^ (7 * k) → (numL l k a).2 < 2 ^ 64 := by
  intro l
  induction l with
  | nil => intro k a _ _; simp [numL]
  | cons b l ih =>
    intro k a hk ha
    have hbn : b.toNat < 256 := b.toNat_lt
    simp only [numL]
    split
    · simp
    · rename_i hok
      split
      · rename_i h1
        by_cases h9 : k = 9
        · subst h9
          simp only [Nat.reduceMul] at ha ⊢
          have : b.toNat ≤ 1 := by omega
          omega
        · have h56 : 2 ^ (7 * k) ≤ 2 ^ 56 := Nat.pow_le_pow_right (by decide) (by omega)
          have := Nat.mul_le_mul (show b.toNat % 128 ≤ 127 by omega) h56
          simp only
          omega
      · rename_i h1
        have hk9 : k ≠ 9 := by omega
        refine ih _ _ (by omega) ?_
        have : 2 ^ (7 * (k + 1)) = 2 ^ (7 * k) * 128 := by rw [show 7 * (k + 1) = 7 * k + 7 by omega, Nat.pow_add]
        rw [this]
        have := Nat.mul_le_mul_right (2 ^ (7 * k)) (show b.toNat % 128 ≤ 127 by omega)
        omega
theorem In.num_lt (i : In) : i.num.2 < 2 ^ 64 := by
  unfold In.num
  split
  · simp
  · exact numL_lt _ _ _ (by omega) (by simp)

end Go.Proofs.YtgkhedmjkahclaaGreatDoor.TL

namespace Go.Proofs.YtgkhedmjkahclaaGreatDoor.TL
open Go
set_option linter.unusedVariables false
set_option linter.unusedSimpArgs false

end Go.Proofs.YtgkhedmjkahclaaGreatDoor.TL

namespace Go.Proofs.YtgkhedmjkahclaaGreatDoor.TL
open Go
set_option linter.unusedVariables false
set_option linter.unusedSimpArgs false

end Go.Proofs.YtgkhedmjkahclaaGreatDoor.TL

