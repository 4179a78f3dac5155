/- The law's Is: a roster is the document's. -/
import Derived.Test.YtekmhdiajjfgfaaDoorURosF
namespace Go.Proofs.YtekmhdiajjfgfaaDoor.TL
open Go
set_option linter.unusedVariables false
set_option linter.unusedSimpArgs false

theorem not_bit {s : Nat} (h : s < 2 ^ 32) (i : Nat) : (2 ^ 32 - 1 - s).testBit i = (decide (i < 32) && !s.testBit i) := by
  rw [show 2 ^ 32 - 1 - s = 2 ^ 32 - (s + 1) by omega]
  exact Nat.testBit_two_pow_sub_succ h i
theorem free_le (r : Ros) : r.free ≤ 32 := tz_le _
theorem free_low {r : Ros} (hs : r.s < 2 ^ 32) {i : Nat} (h : i < r.free) : r.s.testBit i = true := by
  have h1 := tz_low h
  have h2 := free_le r
  rw [not_bit hs] at h1
  have : i < 32 := by omega
  simpa [this] using h1
theorem free_at {r : Ros} (hs : r.s < 2 ^ 32) (h : r.free < 32) : r.s.testBit r.free = false := by
  have h1 := tz_at h
  rw [not_bit hs] at h1
  have h2 : (decide (tz (2 ^ 32 - 1 - r.s) < 32)) = true := decide_eq_true h
  simp only [h2, Bool.true_and, Bool.not_eq_true'] at h1
  exact h1
theorem free_len {r : Ros} (hs : r.s < 2 ^ 32) : (r.len < 32) ↔ (r.free < 32) := by
  constructor
  · intro h
    rcases Nat.lt_or_ge r.free 32 with hh | hh
    · exact hh
    · have : r.len = 32 := by
        unfold Ros.len pop32
        rw [List.filter_eq_self.2 fun i hi => free_low hs (by have := List.mem_range.1 hi; omega)]
        simp
      omega
  · intro h
    have h1 : ((List.range 32).filter fun p => r.s.testBit p).length < (List.range 32).length := List.length_filter_lt_length_iff_exists.2 ⟨r.free, by simpa using h, by simp [free_at hs h]⟩
    simpa [Ros.len, pop32] using h1
theorem dec_all {r : Ros} (p : Int) : decide (p ∈ r.all 32) = r.has p := by
  by_cases h : r.has p = true
  · simp [h, mem_all.2 h]
  · have : p ∉ r.all 32 := fun hh => h (mem_all.1 hh)
    simp [h, this]
theorem free_has {r : Ros} (hs : r.s < 2 ^ 32) {p : Int} (h0 : 0 ≤ p) (h : p < r.free) : r.has p = true := by
  have := free_le r
  have h1 := free_low hs (i := p.toNat) (by omega)
  have : p < 32 := by omega
  simp [Ros.has, h0, this, h1]
theorem free_no {r : Ros} (hs : r.s < 2 ^ 32) (h : r.free < 32) : r.has (r.free : Int) = false := by
  have h1 := free_at hs h
  simp [Ros.has, h1]

set_option maxHeartbeats 4000000 in
set_option maxRecDepth 100000 in
theorem Is_T (r : Ros) (hs : r.s < 2 ^ 32) : callT Tryd.prog 10 [.agg r.cells, rRos r] ⟨[], []⟩ (fun x h => x = i64c 0 ∧ h = []) := by
  refine callT_of_body [0, 1, 2, 3, 4, 5, 6, 7, 28, 35, 62, 84] [] Tryd.func10 rfl (by decide) (by kernel_rfl) rfl ?_
  have hal := r.all_len 32
  have hfl := free_le r
  have hae := all_length r
  simp [Ros.cells, u32v, i64c]
  intro v2 v3
  refine draw_g [0, 2, 3, 1, 4, 5, 6, 7, 9, 10, 11, 8, 12, 13, 14, 15, 17, 18, 16] 19 [(1, [0]), (4, [0, 1, 2, 3]), (8, [0, 1, 2, 3, 4, 5, 6, 7]), (16, [0, 1, 2, 3, 4, 5, 6, 7, 8, 9, 10, 11, 12, 13, 14, 15])] (by kernel_rfl) (by kernel_rfl) (by kernel_rfl) ?_
  simp
  refine callT_eq [] (RAll_T r hs) ?_
  simp [Ros.cells, u32v, i64c]
  refine callT_eq [] (Same_T (r.all 32) (r.all 32) (by omega)) ?_
  simp [Ros.cells, u32v, i64c]
  refine callT_eq [] (RLen_T r hs) ?_
  simp [Ros.cells, u32v, i64c, hae]
  refine callT_eq [] (REpoch_T r) ?_
  simp [Ros.cells, u32v, i64c, hae]
  refine callT_eq [] (RFree_T r hs) ?_
  simp [Ros.cells, u32v, i64c, hae]
  refine loopT_of (Nat × Nat) (fun x => x.1 ≤ 34) (fun x => ⟨[(2, .at 2 v2 0), (3, .at 3 v3 0), (5, .v (.int .i64 r.free)), (6, .v (.bool (decide (r.free < 32)))), (7, .v (.int .i64 ((x.1 : Int) - 1)))], [(2, v2, ⟨0, [.v (.int .u32 r.s), .v (.int .i64 r.e)]⟩), (3, v3, ⟨0, [.isl ((r.all 32).map i64c) (r.all 32).length, .v (.int .i64 r.e)]⟩)]⟩) (fun x => 34 - x.1) (0, 0) (by simp) (by simp) (by simp [i64c, hae]) ?_
  rintro ⟨k, z⟩ hk
  simp only at hk ⊢
  by_cases h1 : k < 34
  · have h1' : (k : Int) - 1 ≤ 32 := by omega
    have e1 : IntKind.i64.wrap (k : Int) = k := i64_id (by omega) (by omega)
    simp [h1', i64c, hae]
    refine draw_g [0, 1, 3, 4, 2, 5, 6, 7, 8, 9, 10, 11, 12, 13, 14, 15, 16, 17, 18, 19, 20] 21 [(2, [0, 1]), (5, [0, 1, 2, 3, 4])] (by kernel_rfl) (by kernel_rfl) (by kernel_rfl) ?_
    simp [i64c]
    refine callT_eq [] (RHas_T r ((k : Int) - 1) hs) ?_
    simp [Ros.cells, u32v, i64c]
    refine callT_eq [] (HasR_T (r.all 32) r.e ((k : Int) - 1) (by omega)) ?_
    by_cases g1 : r.free < 32
    · by_cases g2 : (1 : Int) ≤ k
      · by_cases g3 : (k : Int) - 1 < r.free
        · have hh := free_has hs (p := (k : Int) - 1) (by omega) g3
          simp [Ros.cells, u32v, i64c, hae, dec_all, g1, g2, g3]
          refine callT_eq [] (RHas_T r ((k : Int) - 1) hs) ?_
          simp [Ros.cells, u32v, i64c, hae, hh]
          exact SLx.again (k + 1, 0) (by simp only; omega) (by simp only; omega) (by simp [e1]) (by simp)
        · simp [Ros.cells, u32v, i64c, hae, dec_all, g1, g2, g3]
          exact SLx.again (k + 1, 0) (by simp only; omega) (by simp only; omega) (by simp [e1]) (by simp)
      · simp [Ros.cells, u32v, i64c, hae, dec_all, g1, g2]
        exact SLx.again (k + 1, 0) (by simp only; omega) (by simp only; omega) (by simp [e1]) (by simp)
    · simp [Ros.cells, u32v, i64c, hae, dec_all, g1]
      exact SLx.again (k + 1, 0) (by simp only; omega) (by simp only; omega) (by simp [e1]) (by simp)
  · have : k = 34 := by omega
    subst this
    have hll := free_len hs
    by_cases g1 : r.free < 32
    · have g2 : ((r.all 32).length : Int) < 32 := by rw [hae]; have := hll.2 g1; omega
      simp [i64c, g1, g2]
      refine callT_eq [] (RHas_T r (r.free : Int) hs) ?_
      simp [Ros.cells, u32v, i64c, hae, free_no hs g1]
    · have g2 : ¬ ((r.all 32).length : Int) < 32 := by rw [hae]; intro h; exact g1 (hll.1 (by omega))
      have g3 : r.free = 32 := by omega
      simp [i64c, g1, g2, g3]
end Go.Proofs.YtekmhdiajjfgfaaDoor.TL
