/-
  No cell of these rows narrows 'for every input' (looked for: loops, veiled, ifaces, maps, wideKeys, modest, calm, conditions, laid).
  DERIVED. THE GIVEN ROWS OF THIS SEAT. 4 by the template 'for every input the law returns true; each argument reads behind the call as it read before'; 0 by the template 'total and deterministic' (their statements: YtgkhedmjkahclaaGreatTotals.lean).
  GIVEN WITH THE SEED: the statements are not yours to turn. If you find one false, say at which input.
  Laid BY PROGRAM, IN A SANDBOX (cutbox-rows.mjs): the forced cells as the released guide's own fill.sh prints them over the translation 71c14b0bed83d552… (all of the seat's roots in one cut). By AI agents, Wed Nov 11 2026. No macro, syntax, notation, axiom, sorry.
-/
import Derived.Test.YtgkhedmjkahclaaGreatChecked
import GoSem.Claim
import GoSem.ClaimJoined
import GoSem.ClaimMapViews
import Derived.JoinedTies
import Derived.KernelRfl
namespace Go.Proofs.YtgkhedmjkahclaaGreat
/- THE CELL 'sum', in the pinned program and in every row, IS THE sha256 OF THE DUMP (.gsa) THAT YtgkhedmjkahclaaGreatProg.lean LOADS. Nothing in Lean hashes anything: it is a label: what it is worth is what the hold of that sum in a sandbox is worth. -/
noncomputable def Tryz.pinned : Pinned := { name := "ytgkhedmjkahclaagreat", sum := "71c14b0bed83d552217d9b1dc66b1734be6f764e5e9426aa746dcba1c4726bd9", checked := Tryz.checked }
namespace Rows
def none {H : Type} : Left H := { results := [], args := [] }

/-- 'cotillionlaw10.WorldSame': WHATEVER THE INPUT: true; the input reads as it did. -/
def worldSameSpec : ChangeSpec := { name := "worldSame", fn := fun _ => fun
  | [d1, d2, d3] => { results := [.lit (.bool true)], args := [d1, d2, d3] }
  | _ => none }
def worldSameRow : OpenClaim := { program := "ytgkhedmjkahclaagreat", sum := "71c14b0bed83d552217d9b1dc66b1734be6f764e5e9426aa746dcba1c4726bd9", func := "cotillion/cotillionlaw10.WorldSame", spec := "worldSame", unfollowed := true, recurses := true, apart := false }
def WorldSameSaid : Prop := worldSameRow.holds Tryz.pinned (OpenSpec.ofChange worldSameSpec)

/-- ITS FALSE NEIGHBOUR: 'it returns false'. Refute it at one input. -/
def worldSameWrong : ChangeSpec := { name := "worldSame", fn := fun _ => fun
  | [d1, d2, d3] => { results := [.lit (.bool false)], args := [d1, d2, d3] }
  | _ => none }
def WorldSameWrongFalsely : Prop := worldSameRow.holds Tryz.pinned (OpenSpec.ofChange worldSameWrong)

/-- 'cotillionlaw10.WorldReads': WHATEVER THE INPUT: true; the input reads as it did. -/
def worldReadsSpec : ChangeSpec := { name := "worldReads", fn := fun _ => fun
  | [d] => { results := [.lit (.bool true)], args := [d] }
  | _ => none }
def worldReadsRow : OpenClaim := { program := "ytgkhedmjkahclaagreat", sum := "71c14b0bed83d552217d9b1dc66b1734be6f764e5e9426aa746dcba1c4726bd9", func := "cotillion/cotillionlaw10.WorldReads", spec := "worldReads", unfollowed := true, recurses := true, apart := false }
def WorldReadsSaid : Prop := worldReadsRow.holds Tryz.pinned (OpenSpec.ofChange worldReadsSpec)

/-- ITS FALSE NEIGHBOUR: 'it returns false'. Refute it at one input. -/
def worldReadsWrong : ChangeSpec := { name := "worldReads", fn := fun _ => fun
  | [d] => { results := [.lit (.bool false)], args := [d] }
  | _ => none }
def WorldReadsWrongFalsely : Prop := worldReadsRow.holds Tryz.pinned (OpenSpec.ofChange worldReadsWrong)

/-- 'cotillionlaw22.FoldBack': WHATEVER THE INPUT: true; the input reads as it did. -/
def foldBackSpec : ChangeSpec := { name := "foldBack", fn := fun _ => fun
  | [d1, d2, d3, d4] => { results := [.lit (.bool true)], args := [d1, d2, d3, d4] }
  | _ => none }
def foldBackRow : OpenClaim := { program := "ytgkhedmjkahclaagreat", sum := "71c14b0bed83d552217d9b1dc66b1734be6f764e5e9426aa746dcba1c4726bd9", func := "cotillion/cotillionlaw22.FoldBack", spec := "foldBack", unfollowed := true, recurses := true, apart := false }
def FoldBackSaid : Prop := foldBackRow.holds Tryz.pinned (OpenSpec.ofChange foldBackSpec)

/-- ITS FALSE NEIGHBOUR: 'it returns false'. Refute it at one input. -/
def foldBackWrong : ChangeSpec := { name := "foldBack", fn := fun _ => fun
  | [d1, d2, d3, d4] => { results := [.lit (.bool false)], args := [d1, d2, d3, d4] }
  | _ => none }
def FoldBackWrongFalsely : Prop := foldBackRow.holds Tryz.pinned (OpenSpec.ofChange foldBackWrong)

/-- 'cotillionlaw22.FoldSame': WHATEVER THE INPUT: true; the input reads as it did. -/
def foldSameSpec : ChangeSpec := { name := "foldSame", fn := fun _ => fun
  | [d1, d2, d3, d4] => { results := [.lit (.bool true)], args := [d1, d2, d3, d4] }
  | _ => none }
def foldSameRow : OpenClaim := { program := "ytgkhedmjkahclaagreat", sum := "71c14b0bed83d552217d9b1dc66b1734be6f764e5e9426aa746dcba1c4726bd9", func := "cotillion/cotillionlaw22.FoldSame", spec := "foldSame", unfollowed := true, recurses := true, apart := false }
def FoldSameSaid : Prop := foldSameRow.holds Tryz.pinned (OpenSpec.ofChange foldSameSpec)

/-- ITS FALSE NEIGHBOUR: 'it returns false'. Refute it at one input. -/
def foldSameWrong : ChangeSpec := { name := "foldSame", fn := fun _ => fun
  | [d1, d2, d3, d4] => { results := [.lit (.bool false)], args := [d1, d2, d3, d4] }
  | _ => none }
def FoldSameWrongFalsely : Prop := foldSameRow.holds Tryz.pinned (OpenSpec.ofChange foldSameWrong)

/- THE SECOND FORM. 'bulk': how many values and letters a reading holds, each counted each time it is reached (what is shared counts as often as it is met; a slice's spare places count too). A statement '..UptoSaid' is the law's where the arguments, and the package variables that the reading takes, are together of bulk at most 1048576: NARROWER than '..Said'. Prove '..Said' where nothing that the law and all that it calls make is longer than what came in: it says more and counts as full. Else prove '..UptoSaid'. A law counts once. -/
mutual
def uptoBulk {H : Type} : DataW H → Nat
  | .lit (.string bytes) => bytes.length + 1
  | .lit _ => 1
  | .nil => 1
  | .ptr d => uptoBulk d + 1
  | .slice elems spare => uptoBulkAll elems + uptoBulkAll spare + 1
  | .agg parts => uptoBulkAll parts + 1
  | .iface _ d => uptoBulk d + 1
  | .map entries => uptoBulkEntries entries + 1
  | .held _ => 1
def uptoBulkAll {H : Type} : List (DataW H) → Nat
  | [] => 0
  | d :: r => uptoBulk d + uptoBulkAll r
def uptoBulkEntries {H : Type} : List (Lit × DataW H) → Nat
  | [] => 0
  | x :: r => uptoBulkEntry x + uptoBulkEntries r
def uptoBulkEntry {H : Type} : Lit × DataW H → Nat
  | (.string bytes, d) => bytes.length + uptoBulk d + 1
  | (_, d) => uptoBulk d + 1
 end
def uptoSmall : (H : Type) → List (DataW H) → Bool := fun _ ds => decide (uptoBulkAll ds ≤ 1048576)
def OpenSpec.upto (s : _root_.Go.ChangeSpec) : _root_.Go.OpenSpec := { _root_.Go.OpenSpec.ofChange s with cond := some uptoSmall }

/-- 'cotillionlaw10.WorldSame', WHERE WHAT IT READS IS OF BULK AT MOST 1048576: true; the input reads as it did. -/
def worldSameUptoRow : OpenClaim := { program := "ytgkhedmjkahclaagreat", sum := "71c14b0bed83d552217d9b1dc66b1734be6f764e5e9426aa746dcba1c4726bd9", func := "cotillion/cotillionlaw10.WorldSame", spec := "worldSame", unfollowed := true, recurses := true, apart := false, narrowed := true }
def WorldSameUptoSaid : Prop := worldSameUptoRow.holds Tryz.pinned (OpenSpec.upto worldSameSpec)

/-- 'cotillionlaw10.WorldReads', WHERE WHAT IT READS IS OF BULK AT MOST 1048576: true; the input reads as it did. -/
def worldReadsUptoRow : OpenClaim := { program := "ytgkhedmjkahclaagreat", sum := "71c14b0bed83d552217d9b1dc66b1734be6f764e5e9426aa746dcba1c4726bd9", func := "cotillion/cotillionlaw10.WorldReads", spec := "worldReads", unfollowed := true, recurses := true, apart := false, narrowed := true }
def WorldReadsUptoSaid : Prop := worldReadsUptoRow.holds Tryz.pinned (OpenSpec.upto worldReadsSpec)

/-- 'cotillionlaw22.FoldBack', WHERE WHAT IT READS IS OF BULK AT MOST 1048576: true; the input reads as it did. -/
def foldBackUptoRow : OpenClaim := { program := "ytgkhedmjkahclaagreat", sum := "71c14b0bed83d552217d9b1dc66b1734be6f764e5e9426aa746dcba1c4726bd9", func := "cotillion/cotillionlaw22.FoldBack", spec := "foldBack", unfollowed := true, recurses := true, apart := false, narrowed := true }
def FoldBackUptoSaid : Prop := foldBackUptoRow.holds Tryz.pinned (OpenSpec.upto foldBackSpec)

/-- 'cotillionlaw22.FoldSame', WHERE WHAT IT READS IS OF BULK AT MOST 1048576: true; the input reads as it did. -/
def foldSameUptoRow : OpenClaim := { program := "ytgkhedmjkahclaagreat", sum := "71c14b0bed83d552217d9b1dc66b1734be6f764e5e9426aa746dcba1c4726bd9", func := "cotillion/cotillionlaw22.FoldSame", spec := "foldSame", unfollowed := true, recurses := true, apart := false, narrowed := true }
def FoldSameUptoSaid : Prop := foldSameUptoRow.holds Tryz.pinned (OpenSpec.upto foldSameSpec)

end Rows
end Go.Proofs.YtgkhedmjkahclaaGreat
