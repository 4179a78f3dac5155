/- Sets of numbers below 32 as bits: plain laws. -/
import Derived.Test.YtkggjmoghpmelaaTbits
namespace Go.Proofs.Ytkggjmoghpmelaa.TL
open Go
set_option linter.unusedVariables false
set_option linter.unusedSimpArgs false

theorem u32_id {n : Int} (h0 : 0 ≤ n) (h : n < 4294967296) : IntKind.u32.wrap n = n := by rw [IntKind.wrap_u32]; omega
theorem u32_or {a b : Nat} (ha : a < 2 ^ 32) (hb : b < 2 ^ 32) : bits .or .u32 (a : Int) (b : Int) = ((a ||| b : Nat) : Int) := by
  have key : (BitVec.ofInt 32 (a : Int) ||| BitVec.ofInt 32 (b : Int)).toNat = a ||| b := by
    rw [ofInt_nat, ofInt_nat, BitVec.toNat_or, BitVec.toNat_ofNat, BitVec.toNat_ofNat, Nat.mod_eq_of_lt ha, Nat.mod_eq_of_lt hb]
  show IntKind.u32.wrap ((BitVec.ofInt 32 (a : Int) ||| BitVec.ofInt 32 (b : Int)).toNat : Nat) = _
  rw [key]
  have := Nat.or_lt_two_pow ha hb
  exact u32_id (by omega) (by omega)
theorem u32_xor {a b : Nat} (ha : a < 2 ^ 32) (hb : b < 2 ^ 32) : bits .xor .u32 (a : Int) (b : Int) = ((a ^^^ b : Nat) : Int) := by
  have key : (BitVec.ofInt 32 (a : Int) ^^^ BitVec.ofInt 32 (b : Int)).toNat = a ^^^ b := by
    rw [ofInt_nat, ofInt_nat, BitVec.toNat_xor, BitVec.toNat_ofNat, BitVec.toNat_ofNat, Nat.mod_eq_of_lt ha, Nat.mod_eq_of_lt hb]
  show IntKind.u32.wrap ((BitVec.ofInt 32 (a : Int) ^^^ BitVec.ofInt 32 (b : Int)).toNat : Nat) = _
  rw [key]
  have := Nat.xor_lt_two_pow ha hb
  exact u32_id (by omega) (by omega)
theorem u32_and1 (n : Nat) (h : n < 2 ^ 32) : bits .and .u32 (n : Int) 1 = ((n % 2 : Nat) : Int) := by
  have h1 : (BitVec.ofInt 32 1).toNat = 2 ^ 1 - 1 := by decide
  have key : (BitVec.ofInt 32 (n : Int) &&& BitVec.ofInt 32 1).toNat = n % 2 ^ 1 := by
    rw [BitVec.toNat_and, h1, ofInt_nat, BitVec.toNat_ofNat, Nat.mod_eq_of_lt h, Nat.and_two_pow_sub_one_eq_mod]
  show IntKind.u32.wrap ((BitVec.ofInt 32 (n : Int) &&& BitVec.ofInt 32 1).toNat : Nat) = _
  rw [key]
  exact u32_id (by omega) (by omega)
theorem u32_and255 (n : Nat) (h : n < 2 ^ 32) : bits .and .u32 (n : Int) 255 = ((n % 256 : Nat) : Int) := by
  have h1 : (BitVec.ofInt 32 255).toNat = 2 ^ 8 - 1 := by decide
  have key : (BitVec.ofInt 32 (n : Int) &&& BitVec.ofInt 32 255).toNat = n % 2 ^ 8 := by
    rw [BitVec.toNat_and, h1, ofInt_nat, BitVec.toNat_ofNat, Nat.mod_eq_of_lt h, Nat.and_two_pow_sub_one_eq_mod]
  show IntKind.u32.wrap ((BitVec.ofInt 32 (n : Int) &&& BitVec.ofInt 32 255).toNat : Nat) = _
  rw [key]
  exact u32_id (by omega) (by omega)
/-- A bit, by shifting. -/
theorem u32_shr (n p : Nat) (hp : p < 32) : (n : Int).fdiv (2 ^ min p IntKind.u32.bits) = ((n / 2 ^ p : Nat) : Int) := by
  rw [show IntKind.u32.bits = 32 from rfl, Nat.min_eq_left (by omega), Int.fdiv_eq_ediv_of_nonneg _ (Int.pow_nonneg (by decide))]
  simp
theorem u32_bit (n p : Nat) (hp : p < 32) (h : n < 2 ^ 32) : bits .and .u32 ((n : Int).fdiv (2 ^ min p IntKind.u32.bits)) 1 = if n.testBit p then 1 else 0 := by
  have := Nat.div_le_self n (2 ^ p)
  rw [u32_shr n p hp, u32_and1 _ (by omega), Nat.testBit_eq_decide_div_mod_eq]
  by_cases h1 : n / 2 ^ p % 2 = 1
  · simp [h1]
  · have : n / 2 ^ p % 2 = 0 := by omega
    simp [this]
theorem u32_one (p : Nat) (hp : p < 32) : IntKind.u32.wrap (1 * 2 ^ min p IntKind.u32.bits) = ((2 ^ p : Nat) : Int) := by
  rw [show IntKind.u32.bits = 32 from rfl, Nat.min_eq_left (by omega), Int.one_mul]
  have : 2 ^ p ≤ 2 ^ 31 := Nat.pow_le_pow_right (by decide) (by omega)
  have e : (2 : Int) ^ p = ((2 ^ p : Nat) : Int) := by simp
  have h2 : 2 ^ p < 4294967296 := Nat.lt_of_le_of_lt this (by decide)
  rw [e]
  exact u32_id (Int.natCast_nonneg _) (Int.ofNat_lt.2 h2)
theorem pow_lt32 {p : Nat} (hp : p < 32) : 2 ^ p < 2 ^ 32 := Nat.pow_lt_pow_right (by decide) hp
end Go.Proofs.Ytkggjmoghpmelaa.TL
