/- A text cut. -/
import Derived.Test.YtekmhdiajjfgfaaDoorUIn
namespace Go.Proofs.YtekmhdiajjfgfaaDoor.TL
open Go
set_option linter.unusedVariables false
set_option linter.unusedSimpArgs false

set_option maxRecDepth 100000 in
theorem Cut_T (l : List UInt8) (n : Nat) (hn : n < 9223372036854775808) : callT Tryd.prog 22 [.v (.string (bs l)), .v (.int .i64 n)] ⟨[], []⟩ (fun r h => r = .v (.string (bs (l.take n))) ∧ h = []) := by
  refine callT_of_body [0, 1, 4, 8] [] Tryd.func22 rfl (by decide) (by kernel_rfl) rfl ?_
  by_cases h : n < l.length
  · simp [h]
    omega
  · have : List.take n l = l := List.take_of_length_le (by omega)
    simp [h, this]
end Go.Proofs.YtekmhdiajjfgfaaDoor.TL
