/- The reference's units: read of bytes. -/
import Derived.Test.YtgkhedmjkahclaaGreatURead8
import Derived.Test.YtgkhedmjkahclaaGreatUUnit
namespace Go.Proofs.YtgkhedmjkahclaaGreat.TL
open Go
set_option linter.unusedVariables false
set_option linter.unusedSimpArgs false

set_option maxHeartbeats 1000000 in
set_option maxRecDepth 100000 in
theorem OneR_T (i : In) (last next : Int) (hl0 : 0 ≤ last) (hl1 : last ≤ 64 * 1099511627776) : callT Tryz.prog 102 [rIn i, i64v last, i64v next] ⟨[], []⟩ (fun r h => r = .tup [rIn (i.unit last next).1, .agg (i.unit last next).2.cells] ∧ h = []) := by
  refine callT_of_body [0, 1, 2, 3, 6, 7, 8, 9, 10, 11, 12, 23, 39, 49] [] Tryz.func102 rfl (by decide) (by kernel_rfl) rfl ?_
  have hcr := i.count_rng 1099511627776 (by decide)
  have e1 : IntKind.i64.wrap (i.count 1099511627776).2 = (i.count 1099511627776).2 := i64_id (by omega) (by omega)
  have e2 : IntKind.i64.wrap (last + (i.count 1099511627776).2) = last + (i.count 1099511627776).2 := i64_id (by omega) (by omega)
  simp [i64v]
  intro v1 v2 v3
  refine callT_eq [] (TakeCountR_T i 1099511627776 (by decide)) ?_
  simp [e1, e2]
  intro v9
  refine loopT_of (Nat × In × Un × Nat) (fun x => x.1 ≤ 5 ∧ In.flds (5 - x.1) x.1 x.2.1 x.2.2.1 = In.flds 5 0 (i.count 1099511627776).1 ⟨last + (i.count 1099511627776).2, 0, 0, 0, 0, 0⟩) (fun x => ⟨[(2, i64v next), (3, .at 3 v1 0), (6, .at 6 v2 0), (7, .at 7 v3 0), (8, .v (.int .i64 (i.count 1099511627776).2)), (9, .at 9 v9 0), (10, .v (.int .i64 x.1))], [(3, v1, ⟨0, [.v (.string (bs x.2.1.l)), .v (.int .i64 x.2.1.e)]⟩), (6, v2, ⟨0, [.v (.string (bs [])), .v (.int .i64 0)]⟩), (7, v3, ⟨0, [i64v 0, i64v 0, i64v 0, i64v 0, i64v 0, i64v 0]⟩), (9, v9, ⟨0, x.2.2.1.cells⟩)]⟩) (fun x => 5 - x.1) (0, (i.count 1099511627776).1, ⟨last + (i.count 1099511627776).2, 0, 0, 0, 0, 0⟩, 0) ⟨by simp, rfl⟩ (by simp [i64v]) (by simp [Un.cells, i64v]) ?_
  rintro ⟨k, i2, w, zz⟩ ⟨hk, hflds⟩
  simp only at hk hflds ⊢
  by_cases hk5 : k < 5
  · have hk5' : (k : Int) < 5 := by omega
    simp [hk5']
    refine callT_eq [] (TakeIntR_T i2) ?_
    have hset := setAt_cells w hk5 i2.int.2
    obtain ⟨L, hL⟩ := setAt_drop w hk5 i2.int.2
    simp only [i64v] at hset hL
    have hk6 : 1 + k + 1 ≤ 6 := by omega
    simp [cells_len, hk5', hset, hL, hk6]
    intro v11
    refine callT_eq [] (MayR_T k i2.int.2) ?_
    have e5 : IntKind.i64.wrap ((k : Int) + 1) = ((k + 1 : Nat) : Int) := by rw [i64_id (by omega) (by omega)]; rfl
    have hnext : In.flds (5 - (k + 1)) (k + 1) (i2.field k w).1 (i2.field k w).2 = In.flds (5 - k) k i2 w := by
      rw [show 5 - k = (5 - (k + 1)) + 1 by omega, In.flds]
    have hmr : mayR k i2.int.2 = mayF k i2.int.2 := mayR_eq (by omega)
    by_cases hm : mayF k i2.int.2 = true
    · simp [hmr, hm, i64v]
      refine SLx.again (k + 1, (i2.field k w).1, (i2.field k w).2, 0) ⟨by simp only; omega, hnext.trans hflds⟩ (by simp only; omega) (by simp [e5, i64v]) (by simp [In.field, hm, i64v])
    · rw [Bool.not_eq_true] at hm
      simp [hmr, hm, i64v]
      refine callT_eq [] (FailR_T i2.int.1 4) ?_
      simp
      refine SLx.again (k + 1, (i2.field k w).1, (i2.field k w).2, 0) ⟨by simp only; omega, hnext.trans hflds⟩ (by simp only; omega) (by simp [e5, i64v]) (by simp [In.field, hm, i64v])
  · have hk : k = 5 := by omega
    subst hk
    have hfl : In.flds 5 0 (i.count 1099511627776).1 ⟨last + (i.count 1099511627776).2, 0, 0, 0, 0, 0⟩ = (i2, w) := hflds.symm
    have hid : w.id = last + (i.count 1099511627776).2 := by
      have := unit_id i last next
      simp only [In.unit, hfl] at this
      exact this
    have hunit : i.unit last next = (if w.id = last ∨ next ≤ w.id then i2.fail 12 else i2, w) := by
      simp only [In.unit, hfl]
    have hw0 : w.cells = i64v w.id :: [i64v w.a, i64v w.b, i64v w.c, i64v w.d, i64v w.e] := rfl
    by_cases hbad : w.id = last ∨ next ≤ w.id
    · have hb0 : (i.count 1099511627776).2 = 0 ∨ next ≤ w.id := by omega
      by_cases hz : (i.count 1099511627776).2 = 0
      · simp [i64v, hw0, hz]
        refine callT_eq [] (FailR_T i2 12) ?_
        simp
        refine draw_g [0, 1, 2] 3 [(2, [0])] (by kernel_rfl) (by kernel_rfl) (by kernel_rfl) ?_
        simp [hunit, hbad, hw0, i64v]
      · have hle : next ≤ w.id := by omega
        simp [i64v, hw0, hz, hle]
        refine callT_eq [] (FailR_T i2 12) ?_
        simp
        refine draw_g [0, 1, 2] 3 [(2, [0])] (by kernel_rfl) (by kernel_rfl) (by kernel_rfl) ?_
        simp [hunit, hbad, hw0, i64v]
    · have hz : ¬ (i.count 1099511627776).2 = 0 := by omega
      have hle : ¬ next ≤ w.id := by omega
      simp [i64v, hw0, hz, hle]
      refine draw_g [0, 1, 2] 3 [(2, [0])] (by kernel_rfl) (by kernel_rfl) (by kernel_rfl) ?_
      simp [hunit, hbad, hw0, i64v]
end Go.Proofs.YtgkhedmjkahclaaGreat.TL
