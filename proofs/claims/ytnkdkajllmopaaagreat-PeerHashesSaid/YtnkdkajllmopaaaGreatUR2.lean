/- The reference's reader and writer of bytes: what they do. -/
import Derived.Test.YtnkdkajllmopaaaGreatUOut
/- The reference's reader and writer of bytes, more. -/
/- The reference's reader and writer of whole numbers. -/
namespace Go.Proofs.YtnkdkajllmopaaaGreat.TL
open Go
set_option linter.unusedVariables false
set_option linter.unusedSimpArgs false

abbrev rIn (i : In) : TV := .agg [.v (.string (bs i.l)), .v (.int .i64 i.e)]

theorem pow128 (k : Nat) : (128 : Nat) ^ k = 2 ^ (7 * k) := by rw [show (128 : Nat) = 2 ^ 7 by decide, ← Nat.pow_mul]

end Go.Proofs.YtnkdkajllmopaaaGreat.TL

namespace Go.Proofs.YtnkdkajllmopaaaGreat.TL
open Go
set_option linter.unusedVariables false
set_option linter.unusedSimpArgs false

theorem AllB_one (c : UInt8) : AllB [bv c] := ⟨[c], rfl⟩
theorem nb_cell (n : Nat) : TV.v (.int .u8 (IntKind.u8.wrap (n : Int))) = bv (UInt8.ofNat n) := by
  rw [bv_u8, IntKind.wrap_u8]
  congr 2

end Go.Proofs.YtnkdkajllmopaaaGreat.TL

namespace Go.Proofs.YtnkdkajllmopaaaGreat.TL
open Go
set_option linter.unusedVariables false
set_option linter.unusedSimpArgs false

end Go.Proofs.YtnkdkajllmopaaaGreat.TL

