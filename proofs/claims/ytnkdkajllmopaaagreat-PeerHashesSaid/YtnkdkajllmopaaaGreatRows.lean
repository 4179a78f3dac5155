/-
  No cell of these rows narrows 'for every input' (looked for: loops, veiled, ifaces, maps, wideKeys, modest, calm, conditions, laid).
  DERIVED. THE GIVEN ROWS OF THIS SEAT. 4 by the template 'for every input the law returns true; each argument reads behind the call as it read before'; 0 by the template 'total and deterministic' (their statements: YtnkdkajllmopaaaGreatTotals.lean).
  GIVEN WITH THE SEED: the statements are not yours to turn. If you find one false, say at which input.
  Laid BY PROGRAM, IN A SANDBOX (cutbox-rows.mjs): the forced cells as the released guide's own fill.sh prints them over the translation ef29fb3bc85d7fa4… (all of the seat's roots in one cut). By AI agents, Wed Nov 11 2026. No macro, syntax, notation, axiom, sorry.
-/
import Derived.Test.YtnkdkajllmopaaaGreatChecked
import GoSem.Claim
import GoSem.ClaimJoined
import GoSem.ClaimMapViews
import Derived.JoinedTies
import Derived.KernelRfl
namespace Go.Proofs.YtnkdkajllmopaaaGreat
/- THE CELL 'sum', in the pinned program and in every row, IS THE sha256 OF THE DUMP (.gsa) THAT YtnkdkajllmopaaaGreatProg.lean LOADS. Nothing in Lean hashes anything: it is a label: what it is worth is what the hold of that sum in a sandbox is worth. -/
noncomputable def Tryz.pinned : Pinned := { name := "ytnkdkajllmopaaagreat", sum := "ef29fb3bc85d7fa4e9023b9ede04994848c615fc1ed911d4ab8e5ba30939e46d", checked := Tryz.checked }
namespace Rows
def none {H : Type} : Left H := { results := [], args := [] }

/-- 'cotillionlaw24.PeerHashes': WHATEVER THE INPUT: true; the input reads as it did. -/
def peerHashesSpec : ChangeSpec := { name := "peerHashes", fn := fun _ => fun
  | [d1, d2] => { results := [.lit (.bool true)], args := [d1, d2] }
  | _ => none }
def peerHashesRow : OpenClaim := { program := "ytnkdkajllmopaaagreat", sum := "ef29fb3bc85d7fa4e9023b9ede04994848c615fc1ed911d4ab8e5ba30939e46d", func := "cotillion/cotillionlaw24.PeerHashes", spec := "peerHashes", unfollowed := true, recurses := true, apart := false }
def PeerHashesSaid : Prop := peerHashesRow.holds Tryz.pinned (OpenSpec.ofChange peerHashesSpec)

/-- ITS FALSE NEIGHBOUR: 'it returns false'. Refute it at one input. -/
def peerHashesWrong : ChangeSpec := { name := "peerHashes", fn := fun _ => fun
  | [d1, d2] => { results := [.lit (.bool false)], args := [d1, d2] }
  | _ => none }
def PeerHashesWrongFalsely : Prop := peerHashesRow.holds Tryz.pinned (OpenSpec.ofChange peerHashesWrong)

/-- 'cotillionlaw24.PeerMay': WHATEVER THE INPUT: true; the input reads as it did. -/
def peerMaySpec : ChangeSpec := { name := "peerMay", fn := fun _ => fun
  | [d1, d2] => { results := [.lit (.bool true)], args := [d1, d2] }
  | _ => none }
def peerMayRow : OpenClaim := { program := "ytnkdkajllmopaaagreat", sum := "ef29fb3bc85d7fa4e9023b9ede04994848c615fc1ed911d4ab8e5ba30939e46d", func := "cotillion/cotillionlaw24.PeerMay", spec := "peerMay", unfollowed := true, recurses := true, apart := false }
def PeerMaySaid : Prop := peerMayRow.holds Tryz.pinned (OpenSpec.ofChange peerMaySpec)

/-- ITS FALSE NEIGHBOUR: 'it returns false'. Refute it at one input. -/
def peerMayWrong : ChangeSpec := { name := "peerMay", fn := fun _ => fun
  | [d1, d2] => { results := [.lit (.bool false)], args := [d1, d2] }
  | _ => none }
def PeerMayWrongFalsely : Prop := peerMayRow.holds Tryz.pinned (OpenSpec.ofChange peerMayWrong)

/-- 'cotillionlaw24.PeerGives': WHATEVER THE INPUT: true; the input reads as it did. -/
def peerGivesSpec : ChangeSpec := { name := "peerGives", fn := fun _ => fun
  | [d1, d2, d3] => { results := [.lit (.bool true)], args := [d1, d2, d3] }
  | _ => none }
def peerGivesRow : OpenClaim := { program := "ytnkdkajllmopaaagreat", sum := "ef29fb3bc85d7fa4e9023b9ede04994848c615fc1ed911d4ab8e5ba30939e46d", func := "cotillion/cotillionlaw24.PeerGives", spec := "peerGives", unfollowed := true, recurses := true, apart := false }
def PeerGivesSaid : Prop := peerGivesRow.holds Tryz.pinned (OpenSpec.ofChange peerGivesSpec)

/-- ITS FALSE NEIGHBOUR: 'it returns false'. Refute it at one input. -/
def peerGivesWrong : ChangeSpec := { name := "peerGives", fn := fun _ => fun
  | [d1, d2, d3] => { results := [.lit (.bool false)], args := [d1, d2, d3] }
  | _ => none }
def PeerGivesWrongFalsely : Prop := peerGivesRow.holds Tryz.pinned (OpenSpec.ofChange peerGivesWrong)

/-- 'cotillionlaw24.PeerEnters': WHATEVER THE INPUT: true; the input reads as it did. -/
def peerEntersSpec : ChangeSpec := { name := "peerEnters", fn := fun _ => fun
  | [d1, d2, d3, d4, d5] => { results := [.lit (.bool true)], args := [d1, d2, d3, d4, d5] }
  | _ => none }
def peerEntersRow : OpenClaim := { program := "ytnkdkajllmopaaagreat", sum := "ef29fb3bc85d7fa4e9023b9ede04994848c615fc1ed911d4ab8e5ba30939e46d", func := "cotillion/cotillionlaw24.PeerEnters", spec := "peerEnters", unfollowed := true, recurses := true, apart := false }
def PeerEntersSaid : Prop := peerEntersRow.holds Tryz.pinned (OpenSpec.ofChange peerEntersSpec)

/-- ITS FALSE NEIGHBOUR: 'it returns false'. Refute it at one input. -/
def peerEntersWrong : ChangeSpec := { name := "peerEnters", fn := fun _ => fun
  | [d1, d2, d3, d4, d5] => { results := [.lit (.bool false)], args := [d1, d2, d3, d4, d5] }
  | _ => none }
def PeerEntersWrongFalsely : Prop := peerEntersRow.holds Tryz.pinned (OpenSpec.ofChange peerEntersWrong)

/- THE SECOND FORM. 'bulk': how many values and letters a reading holds, each counted each time it is reached (what is shared counts as often as it is met; a slice's spare places count too). A statement '..UptoSaid' is the law's where the arguments, and the package variables that the reading takes, are together of bulk at most 1048576: NARROWER than '..Said'. Prove '..Said' where nothing that the law and all that it calls make is longer than what came in: it says more and counts as full. Else prove '..UptoSaid'. A law counts once. -/
mutual
def uptoBulk {H : Type} : DataW H → Nat
  | .lit (.string bytes) => bytes.length + 1
  | .lit _ => 1
  | .nil => 1
  | .ptr d => uptoBulk d + 1
  | .slice elems spare => uptoBulkAll elems + uptoBulkAll spare + 1
  | .agg parts => uptoBulkAll parts + 1
  | .iface _ d => uptoBulk d + 1
  | .map entries => uptoBulkEntries entries + 1
  | .held _ => 1
def uptoBulkAll {H : Type} : List (DataW H) → Nat
  | [] => 0
  | d :: r => uptoBulk d + uptoBulkAll r
def uptoBulkEntries {H : Type} : List (Lit × DataW H) → Nat
  | [] => 0
  | x :: r => uptoBulkEntry x + uptoBulkEntries r
def uptoBulkEntry {H : Type} : Lit × DataW H → Nat
  | (.string bytes, d) => bytes.length + uptoBulk d + 1
  | (_, d) => uptoBulk d + 1
 end
def uptoSmall : (H : Type) → List (DataW H) → Bool := fun _ ds => decide (uptoBulkAll ds ≤ 1048576)
def OpenSpec.upto (s : _root_.Go.ChangeSpec) : _root_.Go.OpenSpec := { _root_.Go.OpenSpec.ofChange s with cond := some uptoSmall }

/-- 'cotillionlaw24.PeerHashes', WHERE WHAT IT READS IS OF BULK AT MOST 1048576: true; the input reads as it did. -/
def peerHashesUptoRow : OpenClaim := { program := "ytnkdkajllmopaaagreat", sum := "ef29fb3bc85d7fa4e9023b9ede04994848c615fc1ed911d4ab8e5ba30939e46d", func := "cotillion/cotillionlaw24.PeerHashes", spec := "peerHashes", unfollowed := true, recurses := true, apart := false, narrowed := true }
def PeerHashesUptoSaid : Prop := peerHashesUptoRow.holds Tryz.pinned (OpenSpec.upto peerHashesSpec)

/-- 'cotillionlaw24.PeerMay', WHERE WHAT IT READS IS OF BULK AT MOST 1048576: true; the input reads as it did. -/
def peerMayUptoRow : OpenClaim := { program := "ytnkdkajllmopaaagreat", sum := "ef29fb3bc85d7fa4e9023b9ede04994848c615fc1ed911d4ab8e5ba30939e46d", func := "cotillion/cotillionlaw24.PeerMay", spec := "peerMay", unfollowed := true, recurses := true, apart := false, narrowed := true }
def PeerMayUptoSaid : Prop := peerMayUptoRow.holds Tryz.pinned (OpenSpec.upto peerMaySpec)

/-- 'cotillionlaw24.PeerGives', WHERE WHAT IT READS IS OF BULK AT MOST 1048576: true; the input reads as it did. -/
def peerGivesUptoRow : OpenClaim := { program := "ytnkdkajllmopaaagreat", sum := "ef29fb3bc85d7fa4e9023b9ede04994848c615fc1ed911d4ab8e5ba30939e46d", func := "cotillion/cotillionlaw24.PeerGives", spec := "peerGives", unfollowed := true, recurses := true, apart := false, narrowed := true }
def PeerGivesUptoSaid : Prop := peerGivesUptoRow.holds Tryz.pinned (OpenSpec.upto peerGivesSpec)

/-- 'cotillionlaw24.PeerEnters', WHERE WHAT IT READS IS OF BULK AT MOST 1048576: true; the input reads as it did. -/
def peerEntersUptoRow : OpenClaim := { program := "ytnkdkajllmopaaagreat", sum := "ef29fb3bc85d7fa4e9023b9ede04994848c615fc1ed911d4ab8e5ba30939e46d", func := "cotillion/cotillionlaw24.PeerEnters", spec := "peerEnters", unfollowed := true, recurses := true, apart := false, narrowed := true }
def PeerEntersUptoSaid : Prop := peerEntersUptoRow.holds Tryz.pinned (OpenSpec.upto peerEntersSpec)

end Rows
end Go.Proofs.YtnkdkajllmopaaaGreat
