/-
  No cell of these rows narrows 'for every input' (looked for: loops, veiled, ifaces, maps, wideKeys, modest, calm, conditions, laid).
  DERIVED. THE GIVEN ROWS OF THIS SEAT. 4 by the template 'for every input the law returns true; each argument reads behind the call as it read before'; 0 by the template 'total and deterministic' (their statements: YtgkhedmjkahclaaTotals.lean).
  GIVEN WITH THE SEED: the statements are not yours to turn. If you find one false, say at which input.
  Laid BY PROGRAM, IN A SANDBOX (cutbox-rows.mjs): the forced cells as the released guide's own fill.sh prints them over the translation b66f00279009f3cb… (all of the seat's roots in one cut). By AI agents, Wed Nov 11 2026. No macro, syntax, notation, axiom, sorry.
-/
import Derived.Test.YtgkhedmjkahclaaChecked
import GoSem.Claim
import GoSem.ClaimJoined
import GoSem.ClaimMapViews
import Derived.JoinedTies
import Derived.KernelRfl
namespace Go.Proofs.Ytgkhedmjkahclaa
/- THE CELL 'sum', in the pinned program and in every row, IS THE sha256 OF THE DUMP (.gsa) THAT YtgkhedmjkahclaaProg.lean LOADS. Nothing in Lean hashes anything: it is a label: what it is worth is what the hold of that sum in a sandbox is worth. -/
noncomputable def Try.pinned : Pinned := { name := "ytgkhedmjkahclaa", sum := "b66f00279009f3cb721147b10bcff61b67befacde1ce7886da7dd9ba580604f0", checked := Try.checked }
namespace Rows
def none {H : Type} : Left H := { results := [], args := [] }

/-- 'cotillionlaw10.WorldChecks': WHATEVER THE INPUT: true; the input reads as it did. -/
def worldChecksSpec : ChangeSpec := { name := "worldChecks", fn := fun _ => fun
  | [d1, d2] => { results := [.lit (.bool true)], args := [d1, d2] }
  | _ => none }
def worldChecksRow : OpenClaim := { program := "ytgkhedmjkahclaa", sum := "b66f00279009f3cb721147b10bcff61b67befacde1ce7886da7dd9ba580604f0", func := "cotillion/cotillionlaw10.WorldChecks", spec := "worldChecks", unfollowed := true, recurses := true, apart := false }
def WorldChecksSaid : Prop := worldChecksRow.holds Try.pinned (OpenSpec.ofChange worldChecksSpec)

/-- ITS FALSE NEIGHBOUR: 'it returns false'. Refute it at one input. -/
def worldChecksWrong : ChangeSpec := { name := "worldChecks", fn := fun _ => fun
  | [d1, d2] => { results := [.lit (.bool false)], args := [d1, d2] }
  | _ => none }
def WorldChecksWrongFalsely : Prop := worldChecksRow.holds Try.pinned (OpenSpec.ofChange worldChecksWrong)

/-- 'cotillionlaw10.WorldOrders': WHATEVER THE INPUT: true; the input reads as it did. -/
def worldOrdersSpec : ChangeSpec := { name := "worldOrders", fn := fun _ => fun
  | [d1, d2, d3, d4] => { results := [.lit (.bool true)], args := [d1, d2, d3, d4] }
  | _ => none }
def worldOrdersRow : OpenClaim := { program := "ytgkhedmjkahclaa", sum := "b66f00279009f3cb721147b10bcff61b67befacde1ce7886da7dd9ba580604f0", func := "cotillion/cotillionlaw10.WorldOrders", spec := "worldOrders", unfollowed := true, recurses := true, apart := false }
def WorldOrdersSaid : Prop := worldOrdersRow.holds Try.pinned (OpenSpec.ofChange worldOrdersSpec)

/-- ITS FALSE NEIGHBOUR: 'it returns false'. Refute it at one input. -/
def worldOrdersWrong : ChangeSpec := { name := "worldOrders", fn := fun _ => fun
  | [d1, d2, d3, d4] => { results := [.lit (.bool false)], args := [d1, d2, d3, d4] }
  | _ => none }
def WorldOrdersWrongFalsely : Prop := worldOrdersRow.holds Try.pinned (OpenSpec.ofChange worldOrdersWrong)

/-- 'cotillionlaw22.FoldMay': WHATEVER THE INPUT: true; the input reads as it did. -/
def foldMaySpec : ChangeSpec := { name := "foldMay", fn := fun _ => fun
  | [d1, d2, d3, d4] => { results := [.lit (.bool true)], args := [d1, d2, d3, d4] }
  | _ => none }
def foldMayRow : OpenClaim := { program := "ytgkhedmjkahclaa", sum := "b66f00279009f3cb721147b10bcff61b67befacde1ce7886da7dd9ba580604f0", func := "cotillion/cotillionlaw22.FoldMay", spec := "foldMay", unfollowed := true, recurses := true, apart := false }
def FoldMaySaid : Prop := foldMayRow.holds Try.pinned (OpenSpec.ofChange foldMaySpec)

/-- ITS FALSE NEIGHBOUR: 'it returns false'. Refute it at one input. -/
def foldMayWrong : ChangeSpec := { name := "foldMay", fn := fun _ => fun
  | [d1, d2, d3, d4] => { results := [.lit (.bool false)], args := [d1, d2, d3, d4] }
  | _ => none }
def FoldMayWrongFalsely : Prop := foldMayRow.holds Try.pinned (OpenSpec.ofChange foldMayWrong)

/-- 'cotillionlaw10.WorldBack': WHATEVER THE INPUT: true; the input reads as it did. -/
def worldBackSpec : ChangeSpec := { name := "worldBack", fn := fun _ => fun
  | [d1, d2, d3, d4] => { results := [.lit (.bool true)], args := [d1, d2, d3, d4] }
  | _ => none }
def worldBackRow : OpenClaim := { program := "ytgkhedmjkahclaa", sum := "b66f00279009f3cb721147b10bcff61b67befacde1ce7886da7dd9ba580604f0", func := "cotillion/cotillionlaw10.WorldBack", spec := "worldBack", unfollowed := true, recurses := true, apart := false }
def WorldBackSaid : Prop := worldBackRow.holds Try.pinned (OpenSpec.ofChange worldBackSpec)

/-- ITS FALSE NEIGHBOUR: 'it returns false'. Refute it at one input. -/
def worldBackWrong : ChangeSpec := { name := "worldBack", fn := fun _ => fun
  | [d1, d2, d3, d4] => { results := [.lit (.bool false)], args := [d1, d2, d3, d4] }
  | _ => none }
def WorldBackWrongFalsely : Prop := worldBackRow.holds Try.pinned (OpenSpec.ofChange worldBackWrong)

/- THE SECOND FORM. 'bulk': how many values and letters a reading holds, each counted each time it is reached (what is shared counts as often as it is met; a slice's spare places count too). A statement '..UptoSaid' is the law's where the arguments, and the package variables that the reading takes, are together of bulk at most 1048576: NARROWER than '..Said'. Prove '..Said' where nothing that the law and all that it calls make is longer than what came in: it says more and counts as full. Else prove '..UptoSaid'. A law counts once. -/
mutual
def uptoBulk {H : Type} : DataW H → Nat
  | .lit (.string bytes) => bytes.length + 1
  | .lit _ => 1
  | .nil => 1
  | .ptr d => uptoBulk d + 1
  | .slice elems spare => uptoBulkAll elems + uptoBulkAll spare + 1
  | .agg parts => uptoBulkAll parts + 1
  | .iface _ d => uptoBulk d + 1
  | .map entries => uptoBulkEntries entries + 1
  | .held _ => 1
def uptoBulkAll {H : Type} : List (DataW H) → Nat
  | [] => 0
  | d :: r => uptoBulk d + uptoBulkAll r
def uptoBulkEntries {H : Type} : List (Lit × DataW H) → Nat
  | [] => 0
  | x :: r => uptoBulkEntry x + uptoBulkEntries r
def uptoBulkEntry {H : Type} : Lit × DataW H → Nat
  | (.string bytes, d) => bytes.length + uptoBulk d + 1
  | (_, d) => uptoBulk d + 1
 end
def uptoSmall : (H : Type) → List (DataW H) → Bool := fun _ ds => decide (uptoBulkAll ds ≤ 1048576)
def OpenSpec.upto (s : _root_.Go.ChangeSpec) : _root_.Go.OpenSpec := { _root_.Go.OpenSpec.ofChange s with cond := some uptoSmall }

/-- 'cotillionlaw10.WorldChecks', WHERE WHAT IT READS IS OF BULK AT MOST 1048576: true; the input reads as it did. -/
def worldChecksUptoRow : OpenClaim := { program := "ytgkhedmjkahclaa", sum := "b66f00279009f3cb721147b10bcff61b67befacde1ce7886da7dd9ba580604f0", func := "cotillion/cotillionlaw10.WorldChecks", spec := "worldChecks", unfollowed := true, recurses := true, apart := false, narrowed := true }
def WorldChecksUptoSaid : Prop := worldChecksUptoRow.holds Try.pinned (OpenSpec.upto worldChecksSpec)

/-- 'cotillionlaw10.WorldOrders', WHERE WHAT IT READS IS OF BULK AT MOST 1048576: true; the input reads as it did. -/
def worldOrdersUptoRow : OpenClaim := { program := "ytgkhedmjkahclaa", sum := "b66f00279009f3cb721147b10bcff61b67befacde1ce7886da7dd9ba580604f0", func := "cotillion/cotillionlaw10.WorldOrders", spec := "worldOrders", unfollowed := true, recurses := true, apart := false, narrowed := true }
def WorldOrdersUptoSaid : Prop := worldOrdersUptoRow.holds Try.pinned (OpenSpec.upto worldOrdersSpec)

/-- 'cotillionlaw22.FoldMay', WHERE WHAT IT READS IS OF BULK AT MOST 1048576: true; the input reads as it did. -/
def foldMayUptoRow : OpenClaim := { program := "ytgkhedmjkahclaa", sum := "b66f00279009f3cb721147b10bcff61b67befacde1ce7886da7dd9ba580604f0", func := "cotillion/cotillionlaw22.FoldMay", spec := "foldMay", unfollowed := true, recurses := true, apart := false, narrowed := true }
def FoldMayUptoSaid : Prop := foldMayUptoRow.holds Try.pinned (OpenSpec.upto foldMaySpec)

/-- 'cotillionlaw10.WorldBack', WHERE WHAT IT READS IS OF BULK AT MOST 1048576: true; the input reads as it did. -/
def worldBackUptoRow : OpenClaim := { program := "ytgkhedmjkahclaa", sum := "b66f00279009f3cb721147b10bcff61b67befacde1ce7886da7dd9ba580604f0", func := "cotillion/cotillionlaw10.WorldBack", spec := "worldBack", unfollowed := true, recurses := true, apart := false, narrowed := true }
def WorldBackUptoSaid : Prop := worldBackUptoRow.holds Try.pinned (OpenSpec.upto worldBackSpec)

end Rows
end Go.Proofs.Ytgkhedmjkahclaa
