/-
  No cell of these rows narrows 'for every input' (looked for: loops, veiled, ifaces, maps, wideKeys, modest, calm, conditions, laid).
  DERIVED. THE GIVEN ROWS OF THIS SEAT. 4 by the template 'for every input the law returns true; each argument reads behind the call as it read before'; 0 by the template 'total and deterministic' (their statements: YtkggjmoghpmelaaTotals.lean).
  GIVEN WITH THE SEED: the statements are not yours to turn. If you find one false, say at which input.
  Laid BY PROGRAM, IN A SANDBOX (cutbox-rows.mjs): the forced cells as the released guide's own fill.sh prints them over the translation 3b830e9ffbd87d78… (all of the seat's roots in one cut). By AI agents, Wed Nov 11 2026. No macro, syntax, notation, axiom, sorry.
-/
import Derived.Test.YtkggjmoghpmelaaChecked
import GoSem.Claim
import GoSem.ClaimJoined
import GoSem.ClaimMapViews
import Derived.JoinedTies
import Derived.KernelRfl
namespace Go.Proofs.Ytkggjmoghpmelaa
/- THE CELL 'sum', in the pinned program and in every row, IS THE sha256 OF THE DUMP (.gsa) THAT YtkggjmoghpmelaaProg.lean LOADS. Nothing in Lean hashes anything: it is a label: what it is worth is what the hold of that sum in a sandbox is worth. -/
noncomputable def Try.pinned : Pinned := { name := "ytkggjmoghpmelaa", sum := "3b830e9ffbd87d7874b443c4d924fdc041d470ebbd8f7f413bbd05a57807d4e3", checked := Try.checked }
namespace Rows
def none {H : Type} : Left H := { results := [], args := [] }

/-- 'cotillionlaw21.LetterReads': WHATEVER THE INPUT: true; the input reads as it did. -/
def letterReadsSpec : ChangeSpec := { name := "letterReads", fn := fun _ => fun
  | [d] => { results := [.lit (.bool true)], args := [d] }
  | _ => none }
def letterReadsRow : OpenClaim := { program := "ytkggjmoghpmelaa", sum := "3b830e9ffbd87d7874b443c4d924fdc041d470ebbd8f7f413bbd05a57807d4e3", func := "cotillion/cotillionlaw21.LetterReads", spec := "letterReads", unfollowed := true, recurses := true, apart := false }
def LetterReadsSaid : Prop := letterReadsRow.holds Try.pinned (OpenSpec.ofChange letterReadsSpec)

/-- ITS FALSE NEIGHBOUR: 'it returns false'. Refute it at one input. -/
def letterReadsWrong : ChangeSpec := { name := "letterReads", fn := fun _ => fun
  | [d] => { results := [.lit (.bool false)], args := [d] }
  | _ => none }
def LetterReadsWrongFalsely : Prop := letterReadsRow.holds Try.pinned (OpenSpec.ofChange letterReadsWrong)

/-- 'cotillionlaw21.LetterTexts': WHATEVER THE INPUT: true; the input reads as it did. -/
def letterTextsSpec : ChangeSpec := { name := "letterTexts", fn := fun _ => fun
  | [d] => { results := [.lit (.bool true)], args := [d] }
  | _ => none }
def letterTextsRow : OpenClaim := { program := "ytkggjmoghpmelaa", sum := "3b830e9ffbd87d7874b443c4d924fdc041d470ebbd8f7f413bbd05a57807d4e3", func := "cotillion/cotillionlaw21.LetterTexts", spec := "letterTexts", unfollowed := true, recurses := true, apart := false }
def LetterTextsSaid : Prop := letterTextsRow.holds Try.pinned (OpenSpec.ofChange letterTextsSpec)

/-- ITS FALSE NEIGHBOUR: 'it returns false'. Refute it at one input. -/
def letterTextsWrong : ChangeSpec := { name := "letterTexts", fn := fun _ => fun
  | [d] => { results := [.lit (.bool false)], args := [d] }
  | _ => none }
def LetterTextsWrongFalsely : Prop := letterTextsRow.holds Try.pinned (OpenSpec.ofChange letterTextsWrong)

/-- 'cotillionlaw21.LetterApart': WHATEVER THE INPUT: true; the input reads as it did. -/
def letterApartSpec : ChangeSpec := { name := "letterApart", fn := fun _ => fun
  | [d1, d2, d3] => { results := [.lit (.bool true)], args := [d1, d2, d3] }
  | _ => none }
def letterApartRow : OpenClaim := { program := "ytkggjmoghpmelaa", sum := "3b830e9ffbd87d7874b443c4d924fdc041d470ebbd8f7f413bbd05a57807d4e3", func := "cotillion/cotillionlaw21.LetterApart", spec := "letterApart", unfollowed := true, recurses := true, apart := false }
def LetterApartSaid : Prop := letterApartRow.holds Try.pinned (OpenSpec.ofChange letterApartSpec)

/-- ITS FALSE NEIGHBOUR: 'it returns false'. Refute it at one input. -/
def letterApartWrong : ChangeSpec := { name := "letterApart", fn := fun _ => fun
  | [d1, d2, d3] => { results := [.lit (.bool false)], args := [d1, d2, d3] }
  | _ => none }
def LetterApartWrongFalsely : Prop := letterApartRow.holds Try.pinned (OpenSpec.ofChange letterApartWrong)

/-- 'cotillionlaw21.LetterKinds': WHATEVER THE INPUT: true; the input reads as it did. -/
def letterKindsSpec : ChangeSpec := { name := "letterKinds", fn := fun _ => fun
  | [d1, d2] => { results := [.lit (.bool true)], args := [d1, d2] }
  | _ => none }
def letterKindsRow : OpenClaim := { program := "ytkggjmoghpmelaa", sum := "3b830e9ffbd87d7874b443c4d924fdc041d470ebbd8f7f413bbd05a57807d4e3", func := "cotillion/cotillionlaw21.LetterKinds", spec := "letterKinds", unfollowed := true, recurses := true, apart := false }
def LetterKindsSaid : Prop := letterKindsRow.holds Try.pinned (OpenSpec.ofChange letterKindsSpec)

/-- ITS FALSE NEIGHBOUR: 'it returns false'. Refute it at one input. -/
def letterKindsWrong : ChangeSpec := { name := "letterKinds", fn := fun _ => fun
  | [d1, d2] => { results := [.lit (.bool false)], args := [d1, d2] }
  | _ => none }
def LetterKindsWrongFalsely : Prop := letterKindsRow.holds Try.pinned (OpenSpec.ofChange letterKindsWrong)

/- THE SECOND FORM. 'bulk': how many values and letters a reading holds, each counted each time it is reached (what is shared counts as often as it is met; a slice's spare places count too). A statement '..UptoSaid' is the law's where the arguments, and the package variables that the reading takes, are together of bulk at most 1048576: NARROWER than '..Said'. Prove '..Said' where nothing that the law and all that it calls make is longer than what came in: it says more and counts as full. Else prove '..UptoSaid'. A law counts once. -/
mutual
def uptoBulk {H : Type} : DataW H → Nat
  | .lit (.string bytes) => bytes.length + 1
  | .lit _ => 1
  | .nil => 1
  | .ptr d => uptoBulk d + 1
  | .slice elems spare => uptoBulkAll elems + uptoBulkAll spare + 1
  | .agg parts => uptoBulkAll parts + 1
  | .iface _ d => uptoBulk d + 1
  | .map entries => uptoBulkEntries entries + 1
  | .held _ => 1
def uptoBulkAll {H : Type} : List (DataW H) → Nat
  | [] => 0
  | d :: r => uptoBulk d + uptoBulkAll r
def uptoBulkEntries {H : Type} : List (Lit × DataW H) → Nat
  | [] => 0
  | x :: r => uptoBulkEntry x + uptoBulkEntries r
def uptoBulkEntry {H : Type} : Lit × DataW H → Nat
  | (.string bytes, d) => bytes.length + uptoBulk d + 1
  | (_, d) => uptoBulk d + 1
 end
def uptoSmall : (H : Type) → List (DataW H) → Bool := fun _ ds => decide (uptoBulkAll ds ≤ 1048576)
def OpenSpec.upto (s : _root_.Go.ChangeSpec) : _root_.Go.OpenSpec := { _root_.Go.OpenSpec.ofChange s with cond := some uptoSmall }

/-- 'cotillionlaw21.LetterReads', WHERE WHAT IT READS IS OF BULK AT MOST 1048576: true; the input reads as it did. -/
def letterReadsUptoRow : OpenClaim := { program := "ytkggjmoghpmelaa", sum := "3b830e9ffbd87d7874b443c4d924fdc041d470ebbd8f7f413bbd05a57807d4e3", func := "cotillion/cotillionlaw21.LetterReads", spec := "letterReads", unfollowed := true, recurses := true, apart := false, narrowed := true }
def LetterReadsUptoSaid : Prop := letterReadsUptoRow.holds Try.pinned (OpenSpec.upto letterReadsSpec)

/-- 'cotillionlaw21.LetterTexts', WHERE WHAT IT READS IS OF BULK AT MOST 1048576: true; the input reads as it did. -/
def letterTextsUptoRow : OpenClaim := { program := "ytkggjmoghpmelaa", sum := "3b830e9ffbd87d7874b443c4d924fdc041d470ebbd8f7f413bbd05a57807d4e3", func := "cotillion/cotillionlaw21.LetterTexts", spec := "letterTexts", unfollowed := true, recurses := true, apart := false, narrowed := true }
def LetterTextsUptoSaid : Prop := letterTextsUptoRow.holds Try.pinned (OpenSpec.upto letterTextsSpec)

/-- 'cotillionlaw21.LetterApart', WHERE WHAT IT READS IS OF BULK AT MOST 1048576: true; the input reads as it did. -/
def letterApartUptoRow : OpenClaim := { program := "ytkggjmoghpmelaa", sum := "3b830e9ffbd87d7874b443c4d924fdc041d470ebbd8f7f413bbd05a57807d4e3", func := "cotillion/cotillionlaw21.LetterApart", spec := "letterApart", unfollowed := true, recurses := true, apart := false, narrowed := true }
def LetterApartUptoSaid : Prop := letterApartUptoRow.holds Try.pinned (OpenSpec.upto letterApartSpec)

/-- 'cotillionlaw21.LetterKinds', WHERE WHAT IT READS IS OF BULK AT MOST 1048576: true; the input reads as it did. -/
def letterKindsUptoRow : OpenClaim := { program := "ytkggjmoghpmelaa", sum := "3b830e9ffbd87d7874b443c4d924fdc041d470ebbd8f7f413bbd05a57807d4e3", func := "cotillion/cotillionlaw21.LetterKinds", spec := "letterKinds", unfollowed := true, recurses := true, apart := false, narrowed := true }
def LetterKindsUptoSaid : Prop := letterKindsUptoRow.holds Try.pinned (OpenSpec.upto letterKindsSpec)

end Rows
end Go.Proofs.Ytkggjmoghpmelaa
