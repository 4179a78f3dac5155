/- Plain facts on numbers of so many bits. No program is named here. -/
import Derived.Test.YtnkdkajllmopaaaGreatTD
import Derived.Laws.BitsLemmas
namespace Go.Proofs.YtnkdkajllmopaaaGreat.TL
open Go
set_option linter.unusedVariables false
set_option linter.unusedSimpArgs false

theorem u64_id {n : Int} (h0 : 0 ≤ n) (h : n < 18446744073709551616) : IntKind.u64.wrap n = n := by rw [IntKind.wrap_u64]; omega
theorem i64_id {n : Int} (h0 : -9223372036854775808 ≤ n) (h : n ≤ 9223372036854775807) : IntKind.i64.wrap n = n := by rw [IntKind.wrap_i64]; omega
theorem u8_id {n : Int} (h0 : 0 ≤ n) (h : n < 256) : IntKind.u8.wrap n = n := by rw [IntKind.wrap_u8]; omega

theorem ofInt_nat (k : Nat) (n : Nat) : BitVec.ofInt k (n : Int) = BitVec.ofNat k n := by
  apply BitVec.eq_of_toNat_eq
  simp [BitVec.toNat_ofInt]

theorem u8_and127 (n : Nat) : bits .and .u8 (n : Int) 127 = ((n % 128 : Nat) : Int) := by
  have h127 : (BitVec.ofInt 8 127).toNat = 2 ^ 7 - 1 := by decide
  have key : (BitVec.ofInt 8 (n : Int) &&& BitVec.ofInt 8 127).toNat = (n % 256) % 2 ^ 7 := by
    rw [BitVec.toNat_and, h127, ofInt_nat, BitVec.toNat_ofNat, Nat.and_two_pow_sub_one_eq_mod]
  show IntKind.u8.wrap ((BitVec.ofInt 8 (n : Int) &&& BitVec.ofInt 8 127).toNat : Nat) = _
  rw [key, IntKind.wrap_u8]
  omega

theorem u64_or (a b s : Nat) (ha : a < 2 ^ s) (h : a + b * 2 ^ s < 2 ^ 64) : bits .or .u64 (a : Int) ((b * 2 ^ s : Nat) : Int) = ((a + b * 2 ^ s : Nat) : Int) := by
  have h1 : a ||| b * 2 ^ s = a + b * 2 ^ s := by
    have := Nat.two_pow_add_eq_or_of_lt ha b
    rw [Nat.mul_comm b, Nat.add_comm, this, Nat.or_comm]
  have key : (BitVec.ofInt 64 (a : Int) ||| BitVec.ofInt 64 ((b * 2 ^ s : Nat) : Int)).toNat = a + b * 2 ^ s := by
    rw [ofInt_nat, ofInt_nat, BitVec.toNat_or, BitVec.toNat_ofNat, BitVec.toNat_ofNat, Nat.mod_eq_of_lt (by omega), Nat.mod_eq_of_lt (by omega), h1]
  show IntKind.u64.wrap ((BitVec.ofInt 64 (a : Int) ||| BitVec.ofInt 64 ((b * 2 ^ s : Nat) : Int)).toNat : Nat) = _
  rw [key]
  exact u64_id (by omega) (by omega)

theorem u64_and1 (n : Nat) (h : n < 2 ^ 64) : bits .and .u64 (n : Int) 1 = ((n % 2 : Nat) : Int) := by
  have h1 : (BitVec.ofInt 64 1).toNat = 2 ^ 1 - 1 := by decide
  have key : (BitVec.ofInt 64 (n : Int) &&& BitVec.ofInt 64 1).toNat = n % 2 ^ 1 := by
    rw [BitVec.toNat_and, h1, ofInt_nat, BitVec.toNat_ofNat, Nat.mod_eq_of_lt h, Nat.and_two_pow_sub_one_eq_mod]
  show IntKind.u64.wrap ((BitVec.ofInt 64 (n : Int) &&& BitVec.ofInt 64 1).toNat : Nat) = _
  rw [key]
  exact u64_id (by omega) (by omega)

theorem i64_xor0 (n : Nat) (h : n < 2 ^ 63) : bits .xor .i64 (n : Int) 0 = (n : Int) := by
  have key : (BitVec.ofInt 64 (n : Int) ^^^ BitVec.ofInt 64 0).toNat = n := by
    rw [ofInt_nat]
    simp
    omega
  show IntKind.i64.wrap ((BitVec.ofInt 64 (n : Int) ^^^ BitVec.ofInt 64 0).toNat : Nat) = _
  rw [key]
  exact i64_id (by omega) (by omega)

theorem i64_xorm1 (n : Nat) (h : n < 2 ^ 63) : bits .xor .i64 (n : Int) (-1) = -(n : Int) - 1 := by
  have key : (BitVec.ofInt 64 (n : Int) ^^^ BitVec.ofInt 64 (-1)).toNat = 2 ^ 64 - 1 - n := by
    have e1 : BitVec.ofInt 64 (-1) = BitVec.allOnes 64 := by decide
    rw [e1, BitVec.xor_allOnes, ofInt_nat, BitVec.toNat_not, BitVec.toNat_ofNat, Nat.mod_eq_of_lt (by omega)]
  show IntKind.i64.wrap ((BitVec.ofInt 64 (n : Int) ^^^ BitVec.ofInt 64 (-1)).toNat : Nat) = _
  rw [key, IntKind.wrap_i64]
  omega

/-- A number turned into a whole one: halved, or what halved is one too many, turned. -/
def unzig (n : Nat) : Int := if n % 2 = 0 then (n / 2 : Nat) else -(n / 2 : Nat) - 1
theorem unzig_bits (n : Nat) (h : n < 2 ^ 64) : bits .xor .i64 (IntKind.i64.wrap ((n : Int).fdiv (2 ^ min 1 IntKind.u64.bits))) (IntKind.i64.wrap (-IntKind.i64.wrap (bits .and .u64 (n : Int) 1))) = unzig n := by
  have hm : min 1 IntKind.u64.bits = 1 := by decide
  have hd : (n : Int).fdiv (2 ^ 1) = ((n / 2 : Nat) : Int) := by
    rw [Int.fdiv_eq_ediv_of_nonneg _ (by decide)]
    omega
  rw [hm, hd, u64_and1 n h, i64_id (n := ((n / 2 : Nat) : Int)) (by omega) (by omega), i64_id (n := ((n % 2 : Nat) : Int)) (by omega) (by omega), i64_id (by omega) (by omega)]
  unfold unzig
  split
  · rename_i h2
    rw [h2]
    exact i64_xor0 _ (by omega)
  · have h2 : n % 2 = 1 := by omega
    rw [h2]
    exact i64_xorm1 _ (by omega)

end Go.Proofs.YtnkdkajllmopaaaGreat.TL
