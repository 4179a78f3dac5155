/- The law's Is: a roster is the document's. -/
import Derived.Test.YtekmhdiajjfgfaaDoorURosS
namespace Go.Proofs.YtekmhdiajjfgfaaDoor.TL
open Go
set_option linter.unusedVariables false
set_option linter.unusedSimpArgs false

/-- How many zeros below the lowest one of 32 bits. -/
def tz (n : Nat) : Nat := ((List.range 32).takeWhile fun p => !n.testBit p).length
theorem takeWhile_range (f : Nat → Bool) : ∀ (m : Nat), let k := ((List.range m).takeWhile f).length; k ≤ m ∧ (∀ i, i < k → f i = true) ∧ (k < m → f k = false)
  | 0 => by simp
  | m + 1 => by
    have ih := takeWhile_range f m
    simp only at ih ⊢
    rw [List.range_succ, List.takeWhile_append]
    by_cases h : (List.takeWhile f (List.range m)).length = (List.range m).length
    · rw [if_pos h]
      rw [List.length_range] at h
      rw [h] at ih
      cases hm : f m with
      | true =>
        simp [List.takeWhile_cons, hm]
        intro i hi
        by_cases him : i = m
        · subst him; exact hm
        · exact ih.2.1 i (by omega)
      | false =>
        simp [List.takeWhile_cons, hm]
        exact ih.2.1
    · rw [if_neg h]
      rw [List.length_range] at h
      exact ⟨by omega, ih.2.1, fun _ => ih.2.2 (by omega)⟩
theorem tz_le (n : Nat) : tz n ≤ 32 := (takeWhile_range _ 32).1
theorem tz_low {n i : Nat} (h : i < tz n) : n.testBit i = false := by simpa using (takeWhile_range (fun p => !n.testBit p) 32).2.1 i h
theorem tz_at {n : Nat} (h : tz n < 32) : n.testBit (tz n) = true := by
  have := (takeWhile_range (fun p => !n.testBit p) 32).2.2 h
  simpa [tz] using this
theorem tz_lt {n : Nat} (h0 : n ≠ 0) (h : n < 2 ^ 32) : tz n < 32 := by
  rcases Nat.lt_or_ge (tz n) 32 with hh | hh
  · exact hh
  · exact absurd (Nat.eq_of_testBit_eq fun i => by
      rw [Nat.zero_testBit]
      by_cases hi : i < 32
      · exact tz_low (by omega)
      · exact Nat.testBit_lt_two_pow (Nat.lt_of_lt_of_le h (Nat.pow_le_pow_right (by decide) (by omega)))) h0
theorem low_bv (n : Nat) (h0 : n ≠ 0) (h : n < 2 ^ 32) : (BitVec.ofNat 32 n &&& -(BitVec.ofNat 32 n)).toNat = 2 ^ tz n := by
  have hlt := tz_lt h0 h
  refine Nat.eq_of_testBit_eq fun i => ?_
  rw [BitVec.testBit_toNat, BitVec.getLsbD_and, BitVec.getLsbD_neg, Nat.testBit_two_pow]
  by_cases hi : i < 32
  · have hj : ∀ j, j < 32 → (BitVec.ofNat 32 n).getLsbD j = n.testBit j := fun j hj => by rw [BitVec.getLsbD_ofNat]; simp [hj]
    rw [hj i hi]
    by_cases h1 : tz n = i
    · subst h1
      have hno : ¬ ∃ j, j < tz n ∧ (BitVec.ofNat 32 n).getLsbD j = true := fun ⟨j, hj1, hj2⟩ => by
        rw [hj j (by omega), tz_low hj1] at hj2; cases hj2
      simp [tz_at hlt, hi, hno]
    · rcases Nat.lt_or_ge i (tz n) with h2 | h2
      · simp [tz_low h2, h1]
      · have hex : ∃ j, j < i ∧ (BitVec.ofNat 32 n).getLsbD j = true := ⟨tz n, by omega, by rw [hj _ hlt]; exact tz_at hlt⟩
        simp [h1, hi, hex]
  · have : ¬ tz n = i := by omega
    have h2 : (BitVec.ofNat 32 n).getLsbD i = false := BitVec.getLsbD_of_ge _ _ (by omega)
    simp [this, h2]
theorem u32_low (n : Nat) (h0 : n ≠ 0) (h : n < 2 ^ 32) : bits .and .u32 (n : Int) (IntKind.u32.wrap (-(n : Int))) = ((2 ^ tz n : Nat) : Int) := by
  have e : BitVec.ofInt 32 (IntKind.u32.wrap (-(n : Int))) = -(BitVec.ofNat 32 n) := by
    rw [IntKind.wrap_u32]
    rw [← ofInt_nat, ← BitVec.ofInt_neg]
    refine BitVec.eq_of_toInt_eq ?_
    rw [BitVec.toInt_ofInt, BitVec.toInt_ofInt]
    exact Int.emod_bmod (-(n : Int)) (2 ^ 32)
  show IntKind.u32.wrap ((BitVec.ofInt 32 (n : Int) &&& BitVec.ofInt 32 (IntKind.u32.wrap (-(n : Int)))).toNat : Nat) = _
  rw [e, ofInt_nat, low_bv n h0 h]
  have := pow_lt32 (tz_lt h0 h)
  generalize 2 ^ tz n = m at this ⊢
  exact u32_id (by omega) (by omega)
def dbi (k : Nat) : Nat := ((2 ^ k * 125613361) % 2 ^ 32) / 2 ^ 27
theorem dbi_eq : ∀ k, k < 32 → (IntKind.u32.wrap (((2 ^ k : Nat) : Int) * 125613361)).fdiv (2 ^ min 27 IntKind.u32.bits) = ((dbi k : Nat) : Int) := by decide +kernel

theorem tz_0 : tz 0 = 32 := by decide +kernel
theorem dbi_lt : ∀ k, k < 32 → dbi k < 32 := by decide +kernel
def dbt : List Int := [0, 1, 28, 2, 29, 14, 24, 3, 30, 22, 20, 15, 25, 17, 4, 8, 31, 27, 13, 23, 21, 19, 16, 7, 26, 12, 18, 6, 11, 5, 10, 9]
theorem dbt_nat : ∀ k, k < 32 → dbt[dbi k]? = some (k : Int) := by decide +kernel
theorem dbt_at (k : Nat) (h : k < 32) : (dbt.map fun n => TV.v (.int .u8 n))[dbi k]? = some (TV.v (.int .u8 (k : Int))) := by
  rw [List.getElem?_map, dbt_nat k h]; rfl

set_option maxHeartbeats 2000000 in
set_option maxRecDepth 100000 in
theorem Tz_zero : callT Tryd.prog 52 [u32v 0] ⟨[], []⟩ (fun x h => x = i64c (tz 0) ∧ h = []) := by
  refine callT_of_body [0, 2, 4] [] Tryd.func52 rfl (by decide) (by kernel_rfl) rfl ?_
  simp [u32v, i64c, tz_0]
set_option maxHeartbeats 2000000 in
set_option maxRecDepth 100000 in
theorem Tz_at (n : Nat) (c r : Int) (d : Int) (h0 : ¬ n = 0) (hc : bits .and .u32 (n : Int) (IntKind.u32.wrap (-(n : Int))) = c) (hd : (IntKind.u32.wrap (c * 125613361)).fdiv (2 ^ min 27 IntKind.u32.bits) = d) (d0 : 0 ≤ d) (d1 : d < 32) (hr : (dbt.map fun n => TV.v (.int .u8 n))[d.toNat]? = some (TV.v (.int .u8 r))) (hr2 : IntKind.i64.wrap r = r) : callT Tryd.prog 52 [u32v n] ⟨[], []⟩ (fun x h => x = i64c r ∧ h = []) := by
  refine callT_of_body [0, 2, 4] [] Tryd.func52 rfl (by decide) (by kernel_rfl) rfl ?_
  have h0' : ¬ (n : Int) = 0 := by omega
  simp only [dbt, List.map] at hr
  simp [u32v, i64c, h0, h0', hc, hd]
  rw [hr]
  simp [hr2, d0, d1]
theorem Tz_T (n : Nat) (h : n < 2 ^ 32) : callT Tryd.prog 52 [u32v n] ⟨[], []⟩ (fun x h => x = i64c (tz n) ∧ h = []) := by
  by_cases h0 : n = 0
  · subst h0
    exact Tz_zero
  · have hk := tz_lt h0 h
    have hb := dbi_lt _ hk
    exact Tz_at n _ _ ((dbi (tz n) : Nat) : Int) h0 (u32_low n h0 h) (dbi_eq _ hk) (by omega) (by omega) (by rw [Int.toNat_natCast]; exact dbt_at _ hk) (i64_id (by omega) (by omega))
theorem u32_not (s : Nat) (h : s < 2 ^ 32) : bits .xor .u32 (if IntKind.u32.signed = true then -1 else IntKind.u32.max) (s : Int) = ((2 ^ 32 - 1 - s : Nat) : Int) := by
  have e : (if IntKind.u32.signed = true then (-1 : Int) else IntKind.u32.max) = ((2 ^ 32 - 1 : Nat) : Int) := by decide
  rw [e, u32_xor (by decide) h]
  congr 1
  have := BitVec.toNat_not (x := BitVec.ofNat 32 s)
  rw [BitVec.toNat_ofNat, Nat.mod_eq_of_lt h] at this
  rw [← this, BitVec.not_def, BitVec.toNat_xor, BitVec.toNat_allOnes, BitVec.toNat_ofNat, Nat.mod_eq_of_lt h]
def Ros.free (r : Ros) : Nat := tz (2 ^ 32 - 1 - r.s)
set_option maxHeartbeats 1000000 in
set_option maxRecDepth 100000 in
theorem RFree_T (r : Ros) (hs : r.s < 2 ^ 32) : callT Tryd.prog 39 [.agg r.cells] ⟨[], []⟩ (fun x h => x = .tup [i64c r.free, .v (.bool (decide (r.free < 32)))] ∧ h = []) := by
  refine callT_of_body [0, 1, 2, 3, 4] [] Tryd.func39 rfl (by decide) (by kernel_rfl) rfl ?_
  simp [Ros.cells, u32v, i64c]
  intro v
  rw [u32_not r.s hs]
  refine callT_eq [] (Tz_T (2 ^ 32 - 1 - r.s) (by omega)) ?_
  simp [u32v, i64c, Ros.free]
  by_cases hf : tz (4294967295 - r.s) < 32
  · have : ((tz (4294967295 - r.s) : Nat) : Int) < 32 := by omega
    simp [hf, this]
  · have : ¬ ((tz (4294967295 - r.s) : Nat) : Int) < 32 := by omega
    simp [hf, this]

theorem not_bit {s : Nat} (h : s < 2 ^ 32) (i : Nat) : (2 ^ 32 - 1 - s).testBit i = (decide (i < 32) && !s.testBit i) := by
  rw [show 2 ^ 32 - 1 - s = 2 ^ 32 - (s + 1) by omega]
  exact Nat.testBit_two_pow_sub_succ h i
theorem free_le (r : Ros) : r.free ≤ 32 := tz_le _
theorem free_low {r : Ros} (hs : r.s < 2 ^ 32) {i : Nat} (h : i < r.free) : r.s.testBit i = true := by
  have h1 := tz_low h
  have h2 := free_le r
  rw [not_bit hs] at h1
  have : i < 32 := by omega
  simpa [this] using h1
theorem free_at {r : Ros} (hs : r.s < 2 ^ 32) (h : r.free < 32) : r.s.testBit r.free = false := by
  have h1 := tz_at h
  rw [not_bit hs] at h1
  have h2 : (decide (tz (2 ^ 32 - 1 - r.s) < 32)) = true := decide_eq_true h
  simp only [h2, Bool.true_and, Bool.not_eq_true'] at h1
  exact h1
theorem free_len {r : Ros} (hs : r.s < 2 ^ 32) : (r.len < 32) ↔ (r.free < 32) := by
  constructor
  · intro h
    rcases Nat.lt_or_ge r.free 32 with hh | hh
    · exact hh
    · have : r.len = 32 := by
        unfold Ros.len pop32
        rw [List.filter_eq_self.2 fun i hi => free_low hs (by have := List.mem_range.1 hi; omega)]
        simp
      omega
  · intro h
    have h1 : ((List.range 32).filter fun p => r.s.testBit p).length < (List.range 32).length := List.length_filter_lt_length_iff_exists.2 ⟨r.free, by simpa using h, by simp [free_at hs h]⟩
    simpa [Ros.len, pop32] using h1
theorem dec_all {r : Ros} (p : Int) : decide (p ∈ r.all 32) = r.has p := by
  by_cases h : r.has p = true
  · simp [h, mem_all.2 h]
  · have : p ∉ r.all 32 := fun hh => h (mem_all.1 hh)
    simp [h, this]
theorem free_has {r : Ros} (hs : r.s < 2 ^ 32) {p : Int} (h0 : 0 ≤ p) (h : p < r.free) : r.has p = true := by
  have := free_le r
  have h1 := free_low hs (i := p.toNat) (by omega)
  have : p < 32 := by omega
  simp [Ros.has, h0, this, h1]
theorem free_no {r : Ros} (hs : r.s < 2 ^ 32) (h : r.free < 32) : r.has (r.free : Int) = false := by
  have h1 := free_at hs h
  simp [Ros.has, h1]

set_option maxHeartbeats 4000000 in
set_option maxRecDepth 100000 in
theorem Is_T (r : Ros) (hs : r.s < 2 ^ 32) : callT Tryd.prog 10 [.agg r.cells, rRos r] ⟨[], []⟩ (fun x h => x = i64c 0 ∧ h = []) := by
  refine callT_of_body [0, 1, 2, 3, 4, 5, 6, 7, 28, 35, 62, 84] [] Tryd.func10 rfl (by decide) (by kernel_rfl) rfl ?_
  have hal := r.all_len 32
  have hfl := free_le r
  have hae := all_length r
  simp [Ros.cells, u32v, i64c]
  intro v2 v3
  refine draw_g [0, 2, 3, 1, 4, 5, 6, 7, 9, 10, 11, 8, 12, 13, 14, 15, 17, 18, 16] 19 [(1, [0]), (4, [0, 1, 2, 3]), (8, [0, 1, 2, 3, 4, 5, 6, 7]), (16, [0, 1, 2, 3, 4, 5, 6, 7, 8, 9, 10, 11, 12, 13, 14, 15])] (by kernel_rfl) (by kernel_rfl) (by kernel_rfl) ?_
  simp
  refine callT_eq [] (RAll_T r hs) ?_
  simp [Ros.cells, u32v, i64c]
  refine callT_eq [] (Same_T (r.all 32) (r.all 32) (by omega)) ?_
  simp [Ros.cells, u32v, i64c]
  refine callT_eq [] (RLen_T r hs) ?_
  simp [Ros.cells, u32v, i64c, hae]
  refine callT_eq [] (REpoch_T r) ?_
  simp [Ros.cells, u32v, i64c, hae]
  refine callT_eq [] (RFree_T r hs) ?_
  simp [Ros.cells, u32v, i64c, hae]
  refine loopT_of (Nat × Nat) (fun x => x.1 ≤ 34) (fun x => ⟨[(2, .at 2 v2 0), (3, .at 3 v3 0), (5, .v (.int .i64 r.free)), (6, .v (.bool (decide (r.free < 32)))), (7, .v (.int .i64 ((x.1 : Int) - 1)))], [(2, v2, ⟨0, [.v (.int .u32 r.s), .v (.int .i64 r.e)]⟩), (3, v3, ⟨0, [.isl ((r.all 32).map i64c) (r.all 32).length, .v (.int .i64 r.e)]⟩)]⟩) (fun x => 34 - x.1) (0, 0) (by simp) (by simp) (by simp [i64c, hae]) ?_
  rintro ⟨k, z⟩ hk
  simp only at hk ⊢
  by_cases h1 : k < 34
  · have h1' : (k : Int) - 1 ≤ 32 := by omega
    have e1 : IntKind.i64.wrap (k : Int) = k := i64_id (by omega) (by omega)
    simp [h1', i64c, hae]
    refine draw_g [0, 1, 3, 4, 2, 5, 6, 7, 8, 9, 10, 11, 12, 13, 14, 15, 16, 17, 18, 19, 20] 21 [(2, [0, 1]), (5, [0, 1, 2, 3, 4])] (by kernel_rfl) (by kernel_rfl) (by kernel_rfl) ?_
    simp [i64c]
    refine callT_eq [] (RHas_T r ((k : Int) - 1) hs) ?_
    simp [Ros.cells, u32v, i64c]
    refine callT_eq [] (HasR_T (r.all 32) r.e ((k : Int) - 1) (by omega)) ?_
    by_cases g1 : r.free < 32
    · by_cases g2 : (1 : Int) ≤ k
      · by_cases g3 : (k : Int) - 1 < r.free
        · have hh := free_has hs (p := (k : Int) - 1) (by omega) g3
          simp [Ros.cells, u32v, i64c, hae, dec_all, g1, g2, g3]
          refine callT_eq [] (RHas_T r ((k : Int) - 1) hs) ?_
          simp [Ros.cells, u32v, i64c, hae, hh]
          exact SLx.again (k + 1, 0) (by simp only; omega) (by simp only; omega) (by simp [e1]) (by simp)
        · simp [Ros.cells, u32v, i64c, hae, dec_all, g1, g2, g3]
          exact SLx.again (k + 1, 0) (by simp only; omega) (by simp only; omega) (by simp [e1]) (by simp)
      · simp [Ros.cells, u32v, i64c, hae, dec_all, g1, g2]
        exact SLx.again (k + 1, 0) (by simp only; omega) (by simp only; omega) (by simp [e1]) (by simp)
    · simp [Ros.cells, u32v, i64c, hae, dec_all, g1]
      exact SLx.again (k + 1, 0) (by simp only; omega) (by simp only; omega) (by simp [e1]) (by simp)
  · have : k = 34 := by omega
    subst this
    have hll := free_len hs
    by_cases g1 : r.free < 32
    · have g2 : ((r.all 32).length : Int) < 32 := by rw [hae]; have := hll.2 g1; omega
      simp [i64c, g1, g2]
      refine callT_eq [] (RHas_T r (r.free : Int) hs) ?_
      simp [Ros.cells, u32v, i64c, hae, free_no hs g1]
    · have g2 : ¬ ((r.all 32).length : Int) < 32 := by rw [hae]; intro h; exact g1 (hll.1 (by omega))
      have g3 : r.free = 32 := by omega
      simp [i64c, g1, g2, g3]
end Go.Proofs.YtekmhdiajjfgfaaDoor.TL
