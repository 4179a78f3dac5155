/- What package variables hold for ever (none is read here). -/
import Derived.WalkKit
namespace Go.Proofs.YtnkdkajllmopaaaGreat.TL
open Go
def gvals : Nat → Option (List Value) := fun _ => none
@[simp] theorem gvals_eq (g : Nat) : gvals g = none := rfl
end Go.Proofs.YtnkdkajllmopaaaGreat.TL
