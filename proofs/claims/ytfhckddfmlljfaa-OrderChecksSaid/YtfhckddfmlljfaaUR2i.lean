/- The reference's reader and writer of whole numbers. -/
import Derived.Test.YtfhckddfmlljfaaUR2b
namespace Go.Proofs.Ytfhckddfmlljfaa.TL
open Go
set_option linter.unusedVariables false
set_option linter.unusedSimpArgs false

set_option maxRecDepth 100000 in
theorem TakeIntR_T (i : In) : callT Try.prog 78 [rIn i] ⟨[], []⟩ (fun r h => r = .tup [rIn i.int.1, .v (.int .i64 i.int.2)] ∧ h = []) := by
  refine callT_of_body [0, 1, 2, 3, 4, 12] [] Try.func78 rfl (by decide) (by kernel_rfl) rfl ?_
  simp
  intro v1 v2
  refine callT_eq [] (TakeNumR_T i) ?_
  simp
  have hlt := i.num_lt
  generalize hm : i.num.2 = m at hlt
  have hmod : ((m : Nat) : Int).tmod 2 = ((m % 2 : Nat) : Int) := by rw [Int.tmod_eq_emod_of_nonneg (by omega)]; rfl
  have hdiv : (m : Int) / 2 = ((m / 2 : Nat) : Int) := rfl
  have e1 : IntKind.u64.wrap ((m / 2 : Nat) : Int) = ((m / 2 : Nat) : Int) := u64_id (by omega) (by omega)
  have e2 : IntKind.i64.wrap ((m / 2 : Nat) : Int) = ((m / 2 : Nat) : Int) := i64_id (by omega) (by omega)
  have e3 : IntKind.i64.wrap (-((m / 2 : Nat) : Int)) = -((m / 2 : Nat) : Int) := i64_id (by omega) (by omega)
  have e4 : IntKind.i64.wrap (-((m / 2 : Nat) : Int) - 1) = -((m / 2 : Nat) : Int) - 1 := i64_id (by omega) (by omega)
  rw [hmod, hdiv, e1, e2, e3, e4]
  refine ⟨fun h => ⟨⟨rfl, rfl⟩, ?_⟩, fun h => ⟨⟨rfl, rfl⟩, ?_⟩⟩
  · have hne : ¬ m % 2 = 0 := by omega
    simp only [In.int, hm, unzig, if_neg hne]
  · have heq : m % 2 = 0 := by omega
    simp only [In.int, hm, unzig, if_pos heq]

set_option maxRecDepth 100000 in
theorem IntR_T (n : Int) (h1 : -9223372036854775808 ≤ n) (h2 : n ≤ 9223372036854775807) : callT Try.prog 60 [.v (.int .i64 n)] ⟨[], []⟩ (fun r h => r = .v (.string (bs (nb (zig n)))) ∧ h = []) := by
  refine callT_of_body [0, 2, 4] [] Try.func60 rfl (by decide) (by kernel_rfl) rfl ?_
  have hz := zig_lt h1 h2
  simp
  refine ⟨fun h0 => ?_, fun h0 => ?_⟩
  · have e0 : IntKind.u64.wrap (2 * IntKind.u64.wrap n) = (zig n : Int) := by rw [u64_id (n := n) (by omega) (by omega), u64_id (by omega) (by omega), zig, if_pos h0]; omega
    rw [e0]
    refine callT_eq [] (NumR_T (zig n) hz) ?_
    simp
  · have e0 : IntKind.u64.wrap (IntKind.u64.wrap (2 * IntKind.u64.wrap (IntKind.i64.wrap (-IntKind.i64.wrap (n + 1)))) + 1) = (zig n : Int) := by
      rw [i64_id (n := n + 1) (by omega) (by omega), i64_id (n := -(n + 1)) (by omega) (by omega), u64_id (n := -(n + 1)) (by omega) (by omega), u64_id (n := 2 * -(n + 1)) (by omega) (by omega), u64_id (by omega) (by omega), zig, if_neg (by omega)]
      omega
    rw [e0]
    refine callT_eq [] (NumR_T (zig n) hz) ?_
    simp
end Go.Proofs.Ytfhckddfmlljfaa.TL
