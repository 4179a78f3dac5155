/-
  No cell of these rows narrows 'for every input' (looked for: loops, veiled, ifaces, maps, wideKeys, modest, calm, conditions, laid).
  DERIVED. THE GIVEN ROWS OF THIS SEAT. 9 by the template 'for every input the law returns true; each argument reads behind the call as it read before'; 0 by the template 'total and deterministic' (their statements: YtfhckddfmlljfaaTotals.lean).
  GIVEN WITH THE SEED: the statements are not yours to turn. If you find one false, say at which input.
  Laid BY PROGRAM, IN A SANDBOX (cutbox-rows.mjs): the forced cells as the released guide's own fill.sh prints them over the translation a29b21d7a022ebd9… (all of the seat's roots in one cut). By AI agents, Wed Nov 11 2026. No macro, syntax, notation, axiom, sorry.
-/
import Derived.Test.YtfhckddfmlljfaaChecked
import GoSem.Claim
import GoSem.ClaimJoined
import GoSem.ClaimMapViews
import Derived.JoinedTies
import Derived.KernelRfl
namespace Go.Proofs.Ytfhckddfmlljfaa
/- THE CELL 'sum', in the pinned program and in every row, IS THE sha256 OF THE DUMP (.gsa) THAT YtfhckddfmlljfaaProg.lean LOADS. Nothing in Lean hashes anything: it is a label: what it is worth is what the hold of that sum in a sandbox is worth. -/
noncomputable def Try.pinned : Pinned := { name := "ytfhckddfmlljfaa", sum := "a29b21d7a022ebd977f980be1ec8a03c6df0db93517e01f015d79542effd3e14", checked := Try.checked }
namespace Rows
def none {H : Type} : Left H := { results := [], args := [] }

/-- 'cotillionlaw08.UnitNumbers': WHATEVER THE INPUT: true; the input reads as it did. -/
def unitNumbersSpec : ChangeSpec := { name := "unitNumbers", fn := fun _ => fun
  | [d] => { results := [.lit (.bool true)], args := [d] }
  | _ => none }
def unitNumbersRow : OpenClaim := { program := "ytfhckddfmlljfaa", sum := "a29b21d7a022ebd977f980be1ec8a03c6df0db93517e01f015d79542effd3e14", func := "cotillion/cotillionlaw08.UnitNumbers", spec := "unitNumbers", unfollowed := true, recurses := true, apart := false }
def UnitNumbersSaid : Prop := unitNumbersRow.holds Try.pinned (OpenSpec.ofChange unitNumbersSpec)

/-- ITS FALSE NEIGHBOUR: 'it returns false'. Refute it at one input. -/
def unitNumbersWrong : ChangeSpec := { name := "unitNumbers", fn := fun _ => fun
  | [d] => { results := [.lit (.bool false)], args := [d] }
  | _ => none }
def UnitNumbersWrongFalsely : Prop := unitNumbersRow.holds Try.pinned (OpenSpec.ofChange unitNumbersWrong)

/-- 'cotillionlaw08.UnitSets': WHATEVER THE INPUT: true; the input reads as it did. -/
def unitSetsSpec : ChangeSpec := { name := "unitSets", fn := fun _ => fun
  | [d1, d2, d3, d4] => { results := [.lit (.bool true)], args := [d1, d2, d3, d4] }
  | _ => none }
def unitSetsRow : OpenClaim := { program := "ytfhckddfmlljfaa", sum := "a29b21d7a022ebd977f980be1ec8a03c6df0db93517e01f015d79542effd3e14", func := "cotillion/cotillionlaw08.UnitSets", spec := "unitSets", unfollowed := true, recurses := true, apart := false }
def UnitSetsSaid : Prop := unitSetsRow.holds Try.pinned (OpenSpec.ofChange unitSetsSpec)

/-- ITS FALSE NEIGHBOUR: 'it returns false'. Refute it at one input. -/
def unitSetsWrong : ChangeSpec := { name := "unitSets", fn := fun _ => fun
  | [d1, d2, d3, d4] => { results := [.lit (.bool false)], args := [d1, d2, d3, d4] }
  | _ => none }
def UnitSetsWrongFalsely : Prop := unitSetsRow.holds Try.pinned (OpenSpec.ofChange unitSetsWrong)

/-- 'cotillionlaw09.OrderOf': WHATEVER THE INPUT: true; the input reads as it did. -/
def orderOfSpec : ChangeSpec := { name := "orderOf", fn := fun _ => fun
  | [d] => { results := [.lit (.bool true)], args := [d] }
  | _ => none }
def orderOfRow : OpenClaim := { program := "ytfhckddfmlljfaa", sum := "a29b21d7a022ebd977f980be1ec8a03c6df0db93517e01f015d79542effd3e14", func := "cotillion/cotillionlaw09.OrderOf", spec := "orderOf", apart := false }
def OrderOfSaid : Prop := orderOfRow.holds Try.pinned (OpenSpec.ofChange orderOfSpec)

/-- ITS FALSE NEIGHBOUR: 'it returns false'. Refute it at one input. -/
def orderOfWrong : ChangeSpec := { name := "orderOf", fn := fun _ => fun
  | [d] => { results := [.lit (.bool false)], args := [d] }
  | _ => none }
def OrderOfWrongFalsely : Prop := orderOfRow.holds Try.pinned (OpenSpec.ofChange orderOfWrong)

/-- 'cotillionlaw09.OrderApart': WHATEVER THE INPUT: true; the input reads as it did. -/
def orderApartSpec : ChangeSpec := { name := "orderApart", fn := fun _ => fun
  | [d1, d2, d3] => { results := [.lit (.bool true)], args := [d1, d2, d3] }
  | _ => none }
def orderApartRow : OpenClaim := { program := "ytfhckddfmlljfaa", sum := "a29b21d7a022ebd977f980be1ec8a03c6df0db93517e01f015d79542effd3e14", func := "cotillion/cotillionlaw09.OrderApart", spec := "orderApart", apart := false }
def OrderApartSaid : Prop := orderApartRow.holds Try.pinned (OpenSpec.ofChange orderApartSpec)

/-- ITS FALSE NEIGHBOUR: 'it returns false'. Refute it at one input. -/
def orderApartWrong : ChangeSpec := { name := "orderApart", fn := fun _ => fun
  | [d1, d2, d3] => { results := [.lit (.bool false)], args := [d1, d2, d3] }
  | _ => none }
def OrderApartWrongFalsely : Prop := orderApartRow.holds Try.pinned (OpenSpec.ofChange orderApartWrong)

/-- 'cotillionlaw08.UnitPlays': WHATEVER THE INPUT: true; the input reads as it did. -/
def unitPlaysSpec : ChangeSpec := { name := "unitPlays", fn := fun _ => fun
  | [d] => { results := [.lit (.bool true)], args := [d] }
  | _ => none }
def unitPlaysRow : OpenClaim := { program := "ytfhckddfmlljfaa", sum := "a29b21d7a022ebd977f980be1ec8a03c6df0db93517e01f015d79542effd3e14", func := "cotillion/cotillionlaw08.UnitPlays", spec := "unitPlays", unfollowed := true, recurses := true, apart := false }
def UnitPlaysSaid : Prop := unitPlaysRow.holds Try.pinned (OpenSpec.ofChange unitPlaysSpec)

/-- ITS FALSE NEIGHBOUR: 'it returns false'. Refute it at one input. -/
def unitPlaysWrong : ChangeSpec := { name := "unitPlays", fn := fun _ => fun
  | [d] => { results := [.lit (.bool false)], args := [d] }
  | _ => none }
def UnitPlaysWrongFalsely : Prop := unitPlaysRow.holds Try.pinned (OpenSpec.ofChange unitPlaysWrong)

/-- 'cotillionlaw09.OrderTexts': WHATEVER THE INPUT: true; the input reads as it did. -/
def orderTextsSpec : ChangeSpec := { name := "orderTexts", fn := fun _ => fun
  | [d1, d2] => { results := [.lit (.bool true)], args := [d1, d2] }
  | _ => none }
def orderTextsRow : OpenClaim := { program := "ytfhckddfmlljfaa", sum := "a29b21d7a022ebd977f980be1ec8a03c6df0db93517e01f015d79542effd3e14", func := "cotillion/cotillionlaw09.OrderTexts", spec := "orderTexts", apart := false }
def OrderTextsSaid : Prop := orderTextsRow.holds Try.pinned (OpenSpec.ofChange orderTextsSpec)

/-- ITS FALSE NEIGHBOUR: 'it returns false'. Refute it at one input. -/
def orderTextsWrong : ChangeSpec := { name := "orderTexts", fn := fun _ => fun
  | [d1, d2] => { results := [.lit (.bool false)], args := [d1, d2] }
  | _ => none }
def OrderTextsWrongFalsely : Prop := orderTextsRow.holds Try.pinned (OpenSpec.ofChange orderTextsWrong)

/-- 'cotillionlaw08.UnitReads': WHATEVER THE INPUT: true; the input reads as it did. -/
def unitReadsSpec : ChangeSpec := { name := "unitReads", fn := fun _ => fun
  | [d] => { results := [.lit (.bool true)], args := [d] }
  | _ => none }
def unitReadsRow : OpenClaim := { program := "ytfhckddfmlljfaa", sum := "a29b21d7a022ebd977f980be1ec8a03c6df0db93517e01f015d79542effd3e14", func := "cotillion/cotillionlaw08.UnitReads", spec := "unitReads", unfollowed := true, recurses := true, apart := false }
def UnitReadsSaid : Prop := unitReadsRow.holds Try.pinned (OpenSpec.ofChange unitReadsSpec)

/-- ITS FALSE NEIGHBOUR: 'it returns false'. Refute it at one input. -/
def unitReadsWrong : ChangeSpec := { name := "unitReads", fn := fun _ => fun
  | [d] => { results := [.lit (.bool false)], args := [d] }
  | _ => none }
def UnitReadsWrongFalsely : Prop := unitReadsRow.holds Try.pinned (OpenSpec.ofChange unitReadsWrong)

/-- 'cotillionlaw08.UnitBack': WHATEVER THE INPUT: true; the input reads as it did. -/
def unitBackSpec : ChangeSpec := { name := "unitBack", fn := fun _ => fun
  | [d1, d2] => { results := [.lit (.bool true)], args := [d1, d2] }
  | _ => none }
def unitBackRow : OpenClaim := { program := "ytfhckddfmlljfaa", sum := "a29b21d7a022ebd977f980be1ec8a03c6df0db93517e01f015d79542effd3e14", func := "cotillion/cotillionlaw08.UnitBack", spec := "unitBack", unfollowed := true, recurses := true, apart := false }
def UnitBackSaid : Prop := unitBackRow.holds Try.pinned (OpenSpec.ofChange unitBackSpec)

/-- ITS FALSE NEIGHBOUR: 'it returns false'. Refute it at one input. -/
def unitBackWrong : ChangeSpec := { name := "unitBack", fn := fun _ => fun
  | [d1, d2] => { results := [.lit (.bool false)], args := [d1, d2] }
  | _ => none }
def UnitBackWrongFalsely : Prop := unitBackRow.holds Try.pinned (OpenSpec.ofChange unitBackWrong)

/-- 'cotillionlaw09.OrderChecks': WHATEVER THE INPUT: true; the input reads as it did. -/
def orderChecksSpec : ChangeSpec := { name := "orderChecks", fn := fun _ => fun
  | [d1, d2, d3] => { results := [.lit (.bool true)], args := [d1, d2, d3] }
  | _ => none }
def orderChecksRow : OpenClaim := { program := "ytfhckddfmlljfaa", sum := "a29b21d7a022ebd977f980be1ec8a03c6df0db93517e01f015d79542effd3e14", func := "cotillion/cotillionlaw09.OrderChecks", spec := "orderChecks", unfollowed := true, recurses := true, apart := false }
def OrderChecksSaid : Prop := orderChecksRow.holds Try.pinned (OpenSpec.ofChange orderChecksSpec)

/-- ITS FALSE NEIGHBOUR: 'it returns false'. Refute it at one input. -/
def orderChecksWrong : ChangeSpec := { name := "orderChecks", fn := fun _ => fun
  | [d1, d2, d3] => { results := [.lit (.bool false)], args := [d1, d2, d3] }
  | _ => none }
def OrderChecksWrongFalsely : Prop := orderChecksRow.holds Try.pinned (OpenSpec.ofChange orderChecksWrong)

/- THE SECOND FORM. 'bulk': how many values and letters a reading holds, each counted each time it is reached (what is shared counts as often as it is met; a slice's spare places count too). A statement '..UptoSaid' is the law's where the arguments, and the package variables that the reading takes, are together of bulk at most 1048576: NARROWER than '..Said'. Prove '..Said' where nothing that the law and all that it calls make is longer than what came in: it says more and counts as full. Else prove '..UptoSaid'. A law counts once. -/
mutual
def uptoBulk {H : Type} : DataW H → Nat
  | .lit (.string bytes) => bytes.length + 1
  | .lit _ => 1
  | .nil => 1
  | .ptr d => uptoBulk d + 1
  | .slice elems spare => uptoBulkAll elems + uptoBulkAll spare + 1
  | .agg parts => uptoBulkAll parts + 1
  | .iface _ d => uptoBulk d + 1
  | .map entries => uptoBulkEntries entries + 1
  | .held _ => 1
def uptoBulkAll {H : Type} : List (DataW H) → Nat
  | [] => 0
  | d :: r => uptoBulk d + uptoBulkAll r
def uptoBulkEntries {H : Type} : List (Lit × DataW H) → Nat
  | [] => 0
  | x :: r => uptoBulkEntry x + uptoBulkEntries r
def uptoBulkEntry {H : Type} : Lit × DataW H → Nat
  | (.string bytes, d) => bytes.length + uptoBulk d + 1
  | (_, d) => uptoBulk d + 1
 end
def uptoSmall : (H : Type) → List (DataW H) → Bool := fun _ ds => decide (uptoBulkAll ds ≤ 1048576)
def OpenSpec.upto (s : _root_.Go.ChangeSpec) : _root_.Go.OpenSpec := { _root_.Go.OpenSpec.ofChange s with cond := some uptoSmall }

/-- 'cotillionlaw08.UnitNumbers', WHERE WHAT IT READS IS OF BULK AT MOST 1048576: true; the input reads as it did. -/
def unitNumbersUptoRow : OpenClaim := { program := "ytfhckddfmlljfaa", sum := "a29b21d7a022ebd977f980be1ec8a03c6df0db93517e01f015d79542effd3e14", func := "cotillion/cotillionlaw08.UnitNumbers", spec := "unitNumbers", unfollowed := true, recurses := true, apart := false, narrowed := true }
def UnitNumbersUptoSaid : Prop := unitNumbersUptoRow.holds Try.pinned (OpenSpec.upto unitNumbersSpec)

/-- 'cotillionlaw08.UnitSets', WHERE WHAT IT READS IS OF BULK AT MOST 1048576: true; the input reads as it did. -/
def unitSetsUptoRow : OpenClaim := { program := "ytfhckddfmlljfaa", sum := "a29b21d7a022ebd977f980be1ec8a03c6df0db93517e01f015d79542effd3e14", func := "cotillion/cotillionlaw08.UnitSets", spec := "unitSets", unfollowed := true, recurses := true, apart := false, narrowed := true }
def UnitSetsUptoSaid : Prop := unitSetsUptoRow.holds Try.pinned (OpenSpec.upto unitSetsSpec)

/-- 'cotillionlaw09.OrderOf', WHERE WHAT IT READS IS OF BULK AT MOST 1048576: true; the input reads as it did. -/
def orderOfUptoRow : OpenClaim := { program := "ytfhckddfmlljfaa", sum := "a29b21d7a022ebd977f980be1ec8a03c6df0db93517e01f015d79542effd3e14", func := "cotillion/cotillionlaw09.OrderOf", spec := "orderOf", apart := false, narrowed := true }
def OrderOfUptoSaid : Prop := orderOfUptoRow.holds Try.pinned (OpenSpec.upto orderOfSpec)

/-- 'cotillionlaw09.OrderApart', WHERE WHAT IT READS IS OF BULK AT MOST 1048576: true; the input reads as it did. -/
def orderApartUptoRow : OpenClaim := { program := "ytfhckddfmlljfaa", sum := "a29b21d7a022ebd977f980be1ec8a03c6df0db93517e01f015d79542effd3e14", func := "cotillion/cotillionlaw09.OrderApart", spec := "orderApart", apart := false, narrowed := true }
def OrderApartUptoSaid : Prop := orderApartUptoRow.holds Try.pinned (OpenSpec.upto orderApartSpec)

/-- 'cotillionlaw08.UnitPlays', WHERE WHAT IT READS IS OF BULK AT MOST 1048576: true; the input reads as it did. -/
def unitPlaysUptoRow : OpenClaim := { program := "ytfhckddfmlljfaa", sum := "a29b21d7a022ebd977f980be1ec8a03c6df0db93517e01f015d79542effd3e14", func := "cotillion/cotillionlaw08.UnitPlays", spec := "unitPlays", unfollowed := true, recurses := true, apart := false, narrowed := true }
def UnitPlaysUptoSaid : Prop := unitPlaysUptoRow.holds Try.pinned (OpenSpec.upto unitPlaysSpec)

/-- 'cotillionlaw09.OrderTexts', WHERE WHAT IT READS IS OF BULK AT MOST 1048576: true; the input reads as it did. -/
def orderTextsUptoRow : OpenClaim := { program := "ytfhckddfmlljfaa", sum := "a29b21d7a022ebd977f980be1ec8a03c6df0db93517e01f015d79542effd3e14", func := "cotillion/cotillionlaw09.OrderTexts", spec := "orderTexts", apart := false, narrowed := true }
def OrderTextsUptoSaid : Prop := orderTextsUptoRow.holds Try.pinned (OpenSpec.upto orderTextsSpec)

/-- 'cotillionlaw08.UnitReads', WHERE WHAT IT READS IS OF BULK AT MOST 1048576: true; the input reads as it did. -/
def unitReadsUptoRow : OpenClaim := { program := "ytfhckddfmlljfaa", sum := "a29b21d7a022ebd977f980be1ec8a03c6df0db93517e01f015d79542effd3e14", func := "cotillion/cotillionlaw08.UnitReads", spec := "unitReads", unfollowed := true, recurses := true, apart := false, narrowed := true }
def UnitReadsUptoSaid : Prop := unitReadsUptoRow.holds Try.pinned (OpenSpec.upto unitReadsSpec)

/-- 'cotillionlaw08.UnitBack', WHERE WHAT IT READS IS OF BULK AT MOST 1048576: true; the input reads as it did. -/
def unitBackUptoRow : OpenClaim := { program := "ytfhckddfmlljfaa", sum := "a29b21d7a022ebd977f980be1ec8a03c6df0db93517e01f015d79542effd3e14", func := "cotillion/cotillionlaw08.UnitBack", spec := "unitBack", unfollowed := true, recurses := true, apart := false, narrowed := true }
def UnitBackUptoSaid : Prop := unitBackUptoRow.holds Try.pinned (OpenSpec.upto unitBackSpec)

/-- 'cotillionlaw09.OrderChecks', WHERE WHAT IT READS IS OF BULK AT MOST 1048576: true; the input reads as it did. -/
def orderChecksUptoRow : OpenClaim := { program := "ytfhckddfmlljfaa", sum := "a29b21d7a022ebd977f980be1ec8a03c6df0db93517e01f015d79542effd3e14", func := "cotillion/cotillionlaw09.OrderChecks", spec := "orderChecks", unfollowed := true, recurses := true, apart := false, narrowed := true }
def OrderChecksUptoSaid : Prop := orderChecksUptoRow.holds Try.pinned (OpenSpec.upto orderChecksSpec)

end Rows
end Go.Proofs.Ytfhckddfmlljfaa
