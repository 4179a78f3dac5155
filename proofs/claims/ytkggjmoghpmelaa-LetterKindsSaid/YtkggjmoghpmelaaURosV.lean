/- The law's Is: a roster is the document's. -/
import Derived.Test.YtkggjmoghpmelaaURosS
namespace Go.Proofs.Ytkggjmoghpmelaa.TL
open Go
set_option linter.unusedVariables false
set_option linter.unusedSimpArgs false

/-- How many zeros below the lowest one of 32 bits. -/
def tz (n : Nat) : Nat := ((List.range 32).takeWhile fun p => !n.testBit p).length
theorem takeWhile_range (f : Nat → Bool) : ∀ (m : Nat), let k := ((List.range m).takeWhile f).length; k ≤ m ∧ (∀ i, i < k → f i = true) ∧ (k < m → f k = false)
  | 0 => by simp
  | m + 1 => by
    have ih := takeWhile_range f m
    simp only at ih ⊢
    rw [List.range_succ, List.takeWhile_append]
    by_cases h : (List.takeWhile f (List.range m)).length = (List.range m).length
    · rw [if_pos h]
      rw [List.length_range] at h
      rw [h] at ih
      cases hm : f m with
      | true =>
        simp [List.takeWhile_cons, hm]
        intro i hi
        by_cases him : i = m
        · subst him; exact hm
        · exact ih.2.1 i (by omega)
      | false =>
        simp [List.takeWhile_cons, hm]
        exact ih.2.1
    · rw [if_neg h]
      rw [List.length_range] at h
      exact ⟨by omega, ih.2.1, fun _ => ih.2.2 (by omega)⟩
theorem tz_le (n : Nat) : tz n ≤ 32 := (takeWhile_range _ 32).1
theorem tz_low {n i : Nat} (h : i < tz n) : n.testBit i = false := by simpa using (takeWhile_range (fun p => !n.testBit p) 32).2.1 i h
theorem tz_at {n : Nat} (h : tz n < 32) : n.testBit (tz n) = true := by
  have := (takeWhile_range (fun p => !n.testBit p) 32).2.2 h
  simpa [tz] using this
theorem tz_lt {n : Nat} (h0 : n ≠ 0) (h : n < 2 ^ 32) : tz n < 32 := by
  rcases Nat.lt_or_ge (tz n) 32 with hh | hh
  · exact hh
  · exact absurd (Nat.eq_of_testBit_eq fun i => by
      rw [Nat.zero_testBit]
      by_cases hi : i < 32
      · exact tz_low (by omega)
      · exact Nat.testBit_lt_two_pow (Nat.lt_of_lt_of_le h (Nat.pow_le_pow_right (by decide) (by omega)))) h0
theorem low_bv (n : Nat) (h0 : n ≠ 0) (h : n < 2 ^ 32) : (BitVec.ofNat 32 n &&& -(BitVec.ofNat 32 n)).toNat = 2 ^ tz n := by
  have hlt := tz_lt h0 h
  refine Nat.eq_of_testBit_eq fun i => ?_
  rw [BitVec.testBit_toNat, BitVec.getLsbD_and, BitVec.getLsbD_neg, Nat.testBit_two_pow]
  by_cases hi : i < 32
  · have hj : ∀ j, j < 32 → (BitVec.ofNat 32 n).getLsbD j = n.testBit j := fun j hj => by rw [BitVec.getLsbD_ofNat]; simp [hj]
    rw [hj i hi]
    by_cases h1 : tz n = i
    · subst h1
      have hno : ¬ ∃ j, j < tz n ∧ (BitVec.ofNat 32 n).getLsbD j = true := fun ⟨j, hj1, hj2⟩ => by
        rw [hj j (by omega), tz_low hj1] at hj2; cases hj2
      simp [tz_at hlt, hi, hno]
    · rcases Nat.lt_or_ge i (tz n) with h2 | h2
      · simp [tz_low h2, h1]
      · have hex : ∃ j, j < i ∧ (BitVec.ofNat 32 n).getLsbD j = true := ⟨tz n, by omega, by rw [hj _ hlt]; exact tz_at hlt⟩
        simp [h1, hi, hex]
  · have : ¬ tz n = i := by omega
    have h2 : (BitVec.ofNat 32 n).getLsbD i = false := BitVec.getLsbD_of_ge _ _ (by omega)
    simp [this, h2]
theorem u32_low (n : Nat) (h0 : n ≠ 0) (h : n < 2 ^ 32) : bits .and .u32 (n : Int) (IntKind.u32.wrap (-(n : Int))) = ((2 ^ tz n : Nat) : Int) := by
  have e : BitVec.ofInt 32 (IntKind.u32.wrap (-(n : Int))) = -(BitVec.ofNat 32 n) := by
    rw [IntKind.wrap_u32]
    rw [← ofInt_nat, ← BitVec.ofInt_neg]
    refine BitVec.eq_of_toInt_eq ?_
    rw [BitVec.toInt_ofInt, BitVec.toInt_ofInt]
    exact Int.emod_bmod (-(n : Int)) (2 ^ 32)
  show IntKind.u32.wrap ((BitVec.ofInt 32 (n : Int) &&& BitVec.ofInt 32 (IntKind.u32.wrap (-(n : Int)))).toNat : Nat) = _
  rw [e, ofInt_nat, low_bv n h0 h]
  have := pow_lt32 (tz_lt h0 h)
  generalize 2 ^ tz n = m at this ⊢
  exact u32_id (by omega) (by omega)
def dbi (k : Nat) : Nat := ((2 ^ k * 125613361) % 2 ^ 32) / 2 ^ 27
theorem dbi_eq : ∀ k, k < 32 → (IntKind.u32.wrap (((2 ^ k : Nat) : Int) * 125613361)).fdiv (2 ^ min 27 IntKind.u32.bits) = ((dbi k : Nat) : Int) := by decide +kernel

theorem tz_0 : tz 0 = 32 := by decide +kernel
theorem dbi_lt : ∀ k, k < 32 → dbi k < 32 := by decide +kernel
def dbt : List Int := [0, 1, 28, 2, 29, 14, 24, 3, 30, 22, 20, 15, 25, 17, 4, 8, 31, 27, 13, 23, 21, 19, 16, 7, 26, 12, 18, 6, 11, 5, 10, 9]
theorem dbt_nat : ∀ k, k < 32 → dbt[dbi k]? = some (k : Int) := by decide +kernel
theorem dbt_at (k : Nat) (h : k < 32) : (dbt.map fun n => TV.v (.int .u8 n))[dbi k]? = some (TV.v (.int .u8 (k : Int))) := by
  rw [List.getElem?_map, dbt_nat k h]; rfl

theorem u32_not (s : Nat) (h : s < 2 ^ 32) : bits .xor .u32 (if IntKind.u32.signed = true then -1 else IntKind.u32.max) (s : Int) = ((2 ^ 32 - 1 - s : Nat) : Int) := by
  have e : (if IntKind.u32.signed = true then (-1 : Int) else IntKind.u32.max) = ((2 ^ 32 - 1 : Nat) : Int) := by decide
  rw [e, u32_xor (by decide) h]
  congr 1
  have := BitVec.toNat_not (x := BitVec.ofNat 32 s)
  rw [BitVec.toNat_ofNat, Nat.mod_eq_of_lt h] at this
  rw [← this, BitVec.not_def, BitVec.toNat_xor, BitVec.toNat_allOnes, BitVec.toNat_ofNat, Nat.mod_eq_of_lt h]
def Ros.free (r : Ros) : Nat := tz (2 ^ 32 - 1 - r.s)
theorem not_bit {s : Nat} (h : s < 2 ^ 32) (i : Nat) : (2 ^ 32 - 1 - s).testBit i = (decide (i < 32) && !s.testBit i) := by
  rw [show 2 ^ 32 - 1 - s = 2 ^ 32 - (s + 1) by omega]
  exact Nat.testBit_two_pow_sub_succ h i
theorem free_le (r : Ros) : r.free ≤ 32 := tz_le _
theorem free_low {r : Ros} (hs : r.s < 2 ^ 32) {i : Nat} (h : i < r.free) : r.s.testBit i = true := by
  have h1 := tz_low h
  have h2 := free_le r
  rw [not_bit hs] at h1
  have : i < 32 := by omega
  simpa [this] using h1
theorem free_at {r : Ros} (hs : r.s < 2 ^ 32) (h : r.free < 32) : r.s.testBit r.free = false := by
  have h1 := tz_at h
  rw [not_bit hs] at h1
  have h2 : (decide (tz (2 ^ 32 - 1 - r.s) < 32)) = true := decide_eq_true h
  simp only [h2, Bool.true_and, Bool.not_eq_true'] at h1
  exact h1
theorem free_len {r : Ros} (hs : r.s < 2 ^ 32) : (r.len < 32) ↔ (r.free < 32) := by
  constructor
  · intro h
    rcases Nat.lt_or_ge r.free 32 with hh | hh
    · exact hh
    · have : r.len = 32 := by
        unfold Ros.len pop32
        rw [List.filter_eq_self.2 fun i hi => free_low hs (by have := List.mem_range.1 hi; omega)]
        simp
      omega
  · intro h
    have h1 : ((List.range 32).filter fun p => r.s.testBit p).length < (List.range 32).length := List.length_filter_lt_length_iff_exists.2 ⟨r.free, by simpa using h, by simp [free_at hs h]⟩
    simpa [Ros.len, pop32] using h1
theorem dec_all {r : Ros} (p : Int) : decide (p ∈ r.all 32) = r.has p := by
  by_cases h : r.has p = true
  · simp [h, mem_all.2 h]
  · have : p ∉ r.all 32 := fun hh => h (mem_all.1 hh)
    simp [h, this]
theorem free_has {r : Ros} (hs : r.s < 2 ^ 32) {p : Int} (h0 : 0 ≤ p) (h : p < r.free) : r.has p = true := by
  have := free_le r
  have h1 := free_low hs (i := p.toNat) (by omega)
  have : p < 32 := by omega
  simp [Ros.has, h0, this, h1]
theorem free_no {r : Ros} (hs : r.s < 2 ^ 32) (h : r.free < 32) : r.has (r.free : Int) = false := by
  have h1 := free_at hs h
  simp [Ros.has, h1]

end Go.Proofs.Ytkggjmoghpmelaa.TL
