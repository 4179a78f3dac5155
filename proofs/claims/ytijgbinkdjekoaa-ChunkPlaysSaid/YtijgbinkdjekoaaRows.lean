/-
  No cell of these rows narrows 'for every input' (looked for: loops, veiled, ifaces, maps, wideKeys, modest, calm, conditions, laid).
  DERIVED. THE GIVEN ROWS OF THIS SEAT. 4 by the template 'for every input the law returns true; each argument reads behind the call as it read before'; 0 by the template 'total and deterministic' (their statements: YtijgbinkdjekoaaTotals.lean).
  GIVEN WITH THE SEED: the statements are not yours to turn. If you find one false, say at which input.
  Laid BY PROGRAM, IN A SANDBOX (cutbox-rows.mjs): the forced cells as the released guide's own fill.sh prints them over the translation 4c45837b43bd340f… (all of the seat's roots in one cut). By AI agents, Wed Nov 11 2026. No macro, syntax, notation, axiom, sorry.
-/
import Derived.Test.YtijgbinkdjekoaaChecked
import GoSem.Claim
import GoSem.ClaimJoined
import GoSem.ClaimMapViews
import Derived.JoinedTies
import Derived.KernelRfl
namespace Go.Proofs.Ytijgbinkdjekoaa
/- THE CELL 'sum', in the pinned program and in every row, IS THE sha256 OF THE DUMP (.gsa) THAT YtijgbinkdjekoaaProg.lean LOADS. Nothing in Lean hashes anything: it is a label: what it is worth is what the hold of that sum in a sandbox is worth. -/
noncomputable def Try.pinned : Pinned := { name := "ytijgbinkdjekoaa", sum := "4c45837b43bd340fbf15e3d98c5f68f96ba8fbb85b4f3da65346f5350b4f05d1", checked := Try.checked }
namespace Rows
def none {H : Type} : Left H := { results := [], args := [] }

/-- 'cotillionlaw11.ChunkNewer': WHATEVER THE INPUT: true; the input reads as it did. -/
def chunkNewerSpec : ChangeSpec := { name := "chunkNewer", fn := fun _ => fun
  | [d1, d2, d3, d4] => { results := [.lit (.bool true)], args := [d1, d2, d3, d4] }
  | _ => none }
def chunkNewerRow : OpenClaim := { program := "ytijgbinkdjekoaa", sum := "4c45837b43bd340fbf15e3d98c5f68f96ba8fbb85b4f3da65346f5350b4f05d1", func := "cotillion/cotillionlaw11.ChunkNewer", spec := "chunkNewer", apart := false }
def ChunkNewerSaid : Prop := chunkNewerRow.holds Try.pinned (OpenSpec.ofChange chunkNewerSpec)

/-- ITS FALSE NEIGHBOUR: 'it returns false'. Refute it at one input. -/
def chunkNewerWrong : ChangeSpec := { name := "chunkNewer", fn := fun _ => fun
  | [d1, d2, d3, d4] => { results := [.lit (.bool false)], args := [d1, d2, d3, d4] }
  | _ => none }
def ChunkNewerWrongFalsely : Prop := chunkNewerRow.holds Try.pinned (OpenSpec.ofChange chunkNewerWrong)

/-- 'cotillionlaw11.ChunkPlays': WHATEVER THE INPUT: true; the input reads as it did. -/
def chunkPlaysSpec : ChangeSpec := { name := "chunkPlays", fn := fun _ => fun
  | [d1, d2] => { results := [.lit (.bool true)], args := [d1, d2] }
  | _ => none }
def chunkPlaysRow : OpenClaim := { program := "ytijgbinkdjekoaa", sum := "4c45837b43bd340fbf15e3d98c5f68f96ba8fbb85b4f3da65346f5350b4f05d1", func := "cotillion/cotillionlaw11.ChunkPlays", spec := "chunkPlays", apart := false }
def ChunkPlaysSaid : Prop := chunkPlaysRow.holds Try.pinned (OpenSpec.ofChange chunkPlaysSpec)

/-- ITS FALSE NEIGHBOUR: 'it returns false'. Refute it at one input. -/
def chunkPlaysWrong : ChangeSpec := { name := "chunkPlays", fn := fun _ => fun
  | [d1, d2] => { results := [.lit (.bool false)], args := [d1, d2] }
  | _ => none }
def ChunkPlaysWrongFalsely : Prop := chunkPlaysRow.holds Try.pinned (OpenSpec.ofChange chunkPlaysWrong)

/-- 'cotillionlaw11.ChunkWhole': WHATEVER THE INPUT: true; the input reads as it did. -/
def chunkWholeSpec : ChangeSpec := { name := "chunkWhole", fn := fun _ => fun
  | [d1, d2, d3] => { results := [.lit (.bool true)], args := [d1, d2, d3] }
  | _ => none }
def chunkWholeRow : OpenClaim := { program := "ytijgbinkdjekoaa", sum := "4c45837b43bd340fbf15e3d98c5f68f96ba8fbb85b4f3da65346f5350b4f05d1", func := "cotillion/cotillionlaw11.ChunkWhole", spec := "chunkWhole", unfollowed := true, recurses := true, apart := false }
def ChunkWholeSaid : Prop := chunkWholeRow.holds Try.pinned (OpenSpec.ofChange chunkWholeSpec)

/-- ITS FALSE NEIGHBOUR: 'it returns false'. Refute it at one input. -/
def chunkWholeWrong : ChangeSpec := { name := "chunkWhole", fn := fun _ => fun
  | [d1, d2, d3] => { results := [.lit (.bool false)], args := [d1, d2, d3] }
  | _ => none }
def ChunkWholeWrongFalsely : Prop := chunkWholeRow.holds Try.pinned (OpenSpec.ofChange chunkWholeWrong)

/-- 'cotillionlaw11.ChunkTexts': WHATEVER THE INPUT: true; the input reads as it did. -/
def chunkTextsSpec : ChangeSpec := { name := "chunkTexts", fn := fun _ => fun
  | [d1, d2] => { results := [.lit (.bool true)], args := [d1, d2] }
  | _ => none }
def chunkTextsRow : OpenClaim := { program := "ytijgbinkdjekoaa", sum := "4c45837b43bd340fbf15e3d98c5f68f96ba8fbb85b4f3da65346f5350b4f05d1", func := "cotillion/cotillionlaw11.ChunkTexts", spec := "chunkTexts", apart := false }
def ChunkTextsSaid : Prop := chunkTextsRow.holds Try.pinned (OpenSpec.ofChange chunkTextsSpec)

/-- ITS FALSE NEIGHBOUR: 'it returns false'. Refute it at one input. -/
def chunkTextsWrong : ChangeSpec := { name := "chunkTexts", fn := fun _ => fun
  | [d1, d2] => { results := [.lit (.bool false)], args := [d1, d2] }
  | _ => none }
def ChunkTextsWrongFalsely : Prop := chunkTextsRow.holds Try.pinned (OpenSpec.ofChange chunkTextsWrong)

/- THE SECOND FORM. 'bulk': how many values and letters a reading holds, each counted each time it is reached (what is shared counts as often as it is met; a slice's spare places count too). A statement '..UptoSaid' is the law's where the arguments, and the package variables that the reading takes, are together of bulk at most 1048576: NARROWER than '..Said'. Prove '..Said' where nothing that the law and all that it calls make is longer than what came in: it says more and counts as full. Else prove '..UptoSaid'. A law counts once. -/
mutual
def uptoBulk {H : Type} : DataW H → Nat
  | .lit (.string bytes) => bytes.length + 1
  | .lit _ => 1
  | .nil => 1
  | .ptr d => uptoBulk d + 1
  | .slice elems spare => uptoBulkAll elems + uptoBulkAll spare + 1
  | .agg parts => uptoBulkAll parts + 1
  | .iface _ d => uptoBulk d + 1
  | .map entries => uptoBulkEntries entries + 1
  | .held _ => 1
def uptoBulkAll {H : Type} : List (DataW H) → Nat
  | [] => 0
  | d :: r => uptoBulk d + uptoBulkAll r
def uptoBulkEntries {H : Type} : List (Lit × DataW H) → Nat
  | [] => 0
  | x :: r => uptoBulkEntry x + uptoBulkEntries r
def uptoBulkEntry {H : Type} : Lit × DataW H → Nat
  | (.string bytes, d) => bytes.length + uptoBulk d + 1
  | (_, d) => uptoBulk d + 1
 end
def uptoSmall : (H : Type) → List (DataW H) → Bool := fun _ ds => decide (uptoBulkAll ds ≤ 1048576)
def OpenSpec.upto (s : _root_.Go.ChangeSpec) : _root_.Go.OpenSpec := { _root_.Go.OpenSpec.ofChange s with cond := some uptoSmall }

/-- 'cotillionlaw11.ChunkNewer', WHERE WHAT IT READS IS OF BULK AT MOST 1048576: true; the input reads as it did. -/
def chunkNewerUptoRow : OpenClaim := { program := "ytijgbinkdjekoaa", sum := "4c45837b43bd340fbf15e3d98c5f68f96ba8fbb85b4f3da65346f5350b4f05d1", func := "cotillion/cotillionlaw11.ChunkNewer", spec := "chunkNewer", apart := false, narrowed := true }
def ChunkNewerUptoSaid : Prop := chunkNewerUptoRow.holds Try.pinned (OpenSpec.upto chunkNewerSpec)

/-- 'cotillionlaw11.ChunkPlays', WHERE WHAT IT READS IS OF BULK AT MOST 1048576: true; the input reads as it did. -/
def chunkPlaysUptoRow : OpenClaim := { program := "ytijgbinkdjekoaa", sum := "4c45837b43bd340fbf15e3d98c5f68f96ba8fbb85b4f3da65346f5350b4f05d1", func := "cotillion/cotillionlaw11.ChunkPlays", spec := "chunkPlays", apart := false, narrowed := true }
def ChunkPlaysUptoSaid : Prop := chunkPlaysUptoRow.holds Try.pinned (OpenSpec.upto chunkPlaysSpec)

/-- 'cotillionlaw11.ChunkWhole', WHERE WHAT IT READS IS OF BULK AT MOST 1048576: true; the input reads as it did. -/
def chunkWholeUptoRow : OpenClaim := { program := "ytijgbinkdjekoaa", sum := "4c45837b43bd340fbf15e3d98c5f68f96ba8fbb85b4f3da65346f5350b4f05d1", func := "cotillion/cotillionlaw11.ChunkWhole", spec := "chunkWhole", unfollowed := true, recurses := true, apart := false, narrowed := true }
def ChunkWholeUptoSaid : Prop := chunkWholeUptoRow.holds Try.pinned (OpenSpec.upto chunkWholeSpec)

/-- 'cotillionlaw11.ChunkTexts', WHERE WHAT IT READS IS OF BULK AT MOST 1048576: true; the input reads as it did. -/
def chunkTextsUptoRow : OpenClaim := { program := "ytijgbinkdjekoaa", sum := "4c45837b43bd340fbf15e3d98c5f68f96ba8fbb85b4f3da65346f5350b4f05d1", func := "cotillion/cotillionlaw11.ChunkTexts", spec := "chunkTexts", apart := false, narrowed := true }
def ChunkTextsUptoSaid : Prop := chunkTextsUptoRow.holds Try.pinned (OpenSpec.upto chunkTextsSpec)

end Rows
end Go.Proofs.Ytijgbinkdjekoaa
