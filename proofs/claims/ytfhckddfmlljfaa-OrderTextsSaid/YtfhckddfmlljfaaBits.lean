/- Plain facts on numbers in seven-bit pieces and on the doubled whole numbers. No program is named here. -/
import Derived.WalkKit
import Derived.Lib.VarintBits
import Derived.Lib.Zigzag
namespace Go.Proofs.Ytfhckddfmlljfaa
open Go.RowKit

/-- One more piece above: 'n | uint64(c&127) << (7*k)'. -/
theorem or_num (n c : Int) (k : Nat) (hk : k ≤ 9) (hn0 : 0 ≤ n) (hn : n < 128 ^ k) (hc0 : 0 ≤ c) (hc : c ≤ 255) (h9 : k = 9 → c ≤ 1) :
    bits .or .u64 n (IntKind.u64.wrap (IntKind.u64.wrap (bits .and .u8 c 127) * 2 ^ (7 * k))) = n + c % 128 * 128 ^ k := by
  rw [u8_and127 c hc0 (by omega)]
  have hm0 : 0 ≤ c % 128 := by omega
  have hm1 : c % 128 < 128 := by omega
  rw [IntWalk.u64_in _ ⟨hm0, by omega⟩]
  rcases (by omega : k = 0 ∨ k = 1 ∨ k = 2 ∨ k = 3 ∨ k = 4 ∨ k = 5 ∨ k = 6 ∨ k = 7 ∨ k = 8 ∨ k = 9) with rfl | rfl | rfl | rfl | rfl | rfl | rfl | rfl | rfl | rfl
  · rw [IntWalk.u64_in _ ⟨by omega, by omega⟩]
    simp only [Nat.mul_zero, Int.pow_zero, Int.mul_one] at *
    exact u64_orv0 n (c % 128) hn0 hn hm0 (by omega) (by omega)
  · rw [IntWalk.u64_in _ ⟨by omega, by omega⟩]; exact u64_orv7 n (c % 128 * 2 ^ (7 * 1)) hn0 (by simpa using hn) (by omega) (by omega) (by omega)
  · rw [IntWalk.u64_in _ ⟨by omega, by omega⟩]; exact u64_orv14 n (c % 128 * 2 ^ (7 * 2)) hn0 (by simpa using hn) (by omega) (by omega) (by omega)
  · rw [IntWalk.u64_in _ ⟨by omega, by omega⟩]; exact u64_orv21 n (c % 128 * 2 ^ (7 * 3)) hn0 (by simpa using hn) (by omega) (by omega) (by omega)
  · rw [IntWalk.u64_in _ ⟨by omega, by omega⟩]; exact u64_orv28 n (c % 128 * 2 ^ (7 * 4)) hn0 (by simpa using hn) (by omega) (by omega) (by omega)
  · rw [IntWalk.u64_in _ ⟨by omega, by omega⟩]; exact u64_orv35 n (c % 128 * 2 ^ (7 * 5)) hn0 (by simpa using hn) (by omega) (by omega) (by omega)
  · rw [IntWalk.u64_in _ ⟨by omega, by omega⟩]; exact u64_orv42 n (c % 128 * 2 ^ (7 * 6)) hn0 (by simpa using hn) (by omega) (by omega) (by omega)
  · rw [IntWalk.u64_in _ ⟨by omega, by omega⟩]; exact u64_orv49 n (c % 128 * 2 ^ (7 * 7)) hn0 (by simpa using hn) (by omega) (by omega) (by omega)
  · rw [IntWalk.u64_in _ ⟨by omega, by omega⟩]; exact u64_orv56 n (c % 128 * 2 ^ (7 * 8)) hn0 (by simpa using hn) (by omega) (by omega) (by omega)
  · have hc9 := h9 rfl
    rw [IntWalk.u64_in _ ⟨by omega, by omega⟩]; exact u64_orv63 n (c % 128 * 2 ^ (7 * 9)) hn0 (by simpa using hn) (by omega) (by omega) (by omega)

theorem pow128 (k : Nat) (h : k ≤ 9) : (128 : Int) ^ k ≤ 9223372036854775808 := by
  rcases (by omega : k = 0 ∨ k = 1 ∨ k = 2 ∨ k = 3 ∨ k = 4 ∨ k = 5 ∨ k = 6 ∨ k = 7 ∨ k = 8 ∨ k = 9) with rfl | rfl | rfl | rfl | rfl | rfl | rfl | rfl | rfl | rfl <;> decide
theorem num_lt (n c : Int) (k : Nat) (hn : n < 128 ^ k) (hc : c % 128 < 128) : n + c % 128 * 128 ^ k < 128 ^ (k + 1) := by
  have h : (0 : Int) < 128 ^ k := Int.pow_pos (by decide)
  rw [Int.pow_succ]
  generalize (128 : Int) ^ k = x at *
  have h1 : c % 128 * x ≤ 127 * x := Int.mul_le_mul_of_nonneg_right (by omega) (by omega)
  omega
theorem num_nonneg (n c : Int) (k : Nat) (hn : 0 ≤ n) : 0 ≤ n + c % 128 * 128 ^ k := by
  have h : (0 : Int) < 128 ^ k := Int.pow_pos (by decide)
  have h1 : 0 ≤ c % 128 * 128 ^ k := Int.mul_nonneg (by omega) (by omega)
  omega
end Go.Proofs.Ytfhckddfmlljfaa
