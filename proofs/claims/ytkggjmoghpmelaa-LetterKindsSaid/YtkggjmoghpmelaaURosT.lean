/- A roster's bytes. -/
import Derived.Test.YtkggjmoghpmelaaURosR
import Derived.Test.YtkggjmoghpmelaaUR2
namespace Go.Proofs.Ytkggjmoghpmelaa.TL
open Go
set_option linter.unusedVariables false
set_option linter.unusedSimpArgs false

def md (s k : Nat) : Nat := s % 2 ^ k
def pw (k : Nat) : Nat := 2 ^ k
theorem md_0 (s : Nat) : md s 0 = 0 := by simp [md, Nat.mod_one]
theorem pw_0 : pw 0 = 1 := rfl
theorem pw_succ (k : Nat) : pw (k + 1) = pw k * 2 := Nat.pow_succ 2 k
theorem pw_le {k : Nat} (h : k ≤ 32) : pw k ≤ 4294967296 := Nat.pow_le_pow_right (n := 2) (by decide) h
theorem md_le (s k : Nat) : md s k ≤ s := Nat.mod_le _ _
theorem md_32 {s : Nat} (h : s < 2 ^ 32) : md s 32 = s := Nat.mod_eq_of_lt h
theorem md_succ (s k : Nat) : md s (k + 1) = if s.testBit k then md s k + pw k else md s k := by
  unfold md pw
  rw [Nat.pow_succ, Nat.mod_mul, Nat.testBit_eq_decide_div_mod_eq]
  by_cases h : s / 2 ^ k % 2 = 1
  · simp [h]
  · have : s / 2 ^ k % 2 = 0 := by omega
    simp [this]

theorem has_nat1 {r : Ros} {i : Nat} (hi : i < 32) : ((i : Int) ∈ r.all 32) ↔ r.s.testBit i = true := by
  rw [mem_all]
  have : (i : Int) < 32 := by omega
  simp [Ros.has, this]
def Ros.bytes (r : Ros) : List UInt8 := nb r.s ++ nb r.e.toNat
end Go.Proofs.Ytkggjmoghpmelaa.TL
