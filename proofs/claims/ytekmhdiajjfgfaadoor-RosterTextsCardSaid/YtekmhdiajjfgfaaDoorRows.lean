/-
  NARROWER THAN 'FOR EVERY INPUT', by the rows' own cells (each row's printed sentence says how): RosterPlays: laid · RosterRows: laid · RosterReads: laid · RosterTexts: laid.
  DERIVED. THE GIVEN ROWS OF THIS SEAT. 4 by the template 'for every input the law returns true; each argument reads behind the call as it read before'; 0 by the template 'total and deterministic' (their statements: YtekmhdiajjfgfaaDoorTotals.lean).
  GIVEN WITH THE SEED: the statements are not yours to turn. If you find one false, say at which input.
  Laid BY PROGRAM, IN A SANDBOX (cutbox-rows.mjs): the forced cells as the released guide's own fill.sh prints them over the translation 667b0dcc92e8852c… (all of the seat's roots in one cut). By AI agents, Wed Nov 11 2026. No macro, syntax, notation, axiom, sorry.
-/
import Derived.Test.YtekmhdiajjfgfaaDoorChecked
import GoSem.Claim
import GoSem.ClaimJoined
import GoSem.ClaimMapViews
import Derived.JoinedTies
import Derived.KernelRfl
namespace Go.Proofs.YtekmhdiajjfgfaaDoor
/- THE CELL 'sum', in the pinned program and in every row, IS THE sha256 OF THE DUMP (.gsa) THAT YtekmhdiajjfgfaaDoorProg.lean LOADS. Nothing in Lean hashes anything: it is a label: what it is worth is what the hold of that sum in a sandbox is worth. -/
noncomputable def Tryd.pinned : Pinned := { name := "ytekmhdiajjfgfaadoor", sum := "667b0dcc92e8852cb709c62ece60edaf6db88b3cf7d5cbfbf87bb5dd8273190e", checked := Tryd.checked }
namespace Rows
def none {H : Type} : Left H := { results := [], args := [] }

/- WHAT THE LISTED PACKAGE-LEVEL VARIABLES READ AS WHEN THE CALL BEGINS. Each datum BY PROGRAM (the guide's laid-datum.mjs) off the statement by which the dump's own 'gosem.cut.vars' lays the variable. In a bare row this is a premise. The card (YtekmhdiajjfgfaaDoorCards.lean) ties it to the program's text. -/
def laid_math_bits_deBruijn32tab {H : Type} : DataW H := .agg [.lit (.int .u8 0), .lit (.int .u8 1), .lit (.int .u8 28), .lit (.int .u8 2), .lit (.int .u8 29), .lit (.int .u8 14), .lit (.int .u8 24), .lit (.int .u8 3), .lit (.int .u8 30), .lit (.int .u8 22), .lit (.int .u8 20), .lit (.int .u8 15), .lit (.int .u8 25), .lit (.int .u8 17), .lit (.int .u8 4), .lit (.int .u8 8), .lit (.int .u8 31), .lit (.int .u8 27), .lit (.int .u8 13), .lit (.int .u8 23), .lit (.int .u8 21), .lit (.int .u8 19), .lit (.int .u8 16), .lit (.int .u8 7), .lit (.int .u8 26), .lit (.int .u8 12), .lit (.int .u8 18), .lit (.int .u8 6), .lit (.int .u8 11), .lit (.int .u8 5), .lit (.int .u8 10), .lit (.int .u8 9)]

/-- 'cotillionlaw18.RosterPlays': WHATEVER THE INPUT: true; the input reads as it did. -/
def rosterPlaysSpec : ChangeSpec := { name := "rosterPlays", fn := fun _ => fun
  | [d1, d2] => { results := [.lit (.bool true)], args := [d1, d2] }
  | _ => none }
def rosterPlaysRow : OpenClaim := { program := "ytekmhdiajjfgfaadoor", sum := "667b0dcc92e8852cb709c62ece60edaf6db88b3cf7d5cbfbf87bb5dd8273190e", func := "cotillion/cotillionlaw18.RosterPlays", spec := "rosterPlays", named := ["math/bits.deBruijn32tab"], apart := false, laid := [("math/bits.deBruijn32tab", laid_math_bits_deBruijn32tab)] }
def RosterPlaysSaid : Prop := rosterPlaysRow.holds Tryd.pinned (OpenSpec.ofChange rosterPlaysSpec)

/-- ITS FALSE NEIGHBOUR: 'it returns false'. Refute it at one input. -/
def rosterPlaysWrong : ChangeSpec := { name := "rosterPlays", fn := fun _ => fun
  | [d1, d2] => { results := [.lit (.bool false)], args := [d1, d2] }
  | _ => none }
def RosterPlaysWrongFalsely : Prop := rosterPlaysRow.holds Tryd.pinned (OpenSpec.ofChange rosterPlaysWrong)

/-- 'cotillionlaw18.RosterRows': WHATEVER THE INPUT: true; the input reads as it did. -/
def rosterRowsSpec : ChangeSpec := { name := "rosterRows", fn := fun _ => fun
  | [d1, d2] => { results := [.lit (.bool true)], args := [d1, d2] }
  | _ => none }
def rosterRowsRow : OpenClaim := { program := "ytekmhdiajjfgfaadoor", sum := "667b0dcc92e8852cb709c62ece60edaf6db88b3cf7d5cbfbf87bb5dd8273190e", func := "cotillion/cotillionlaw18.RosterRows", spec := "rosterRows", named := ["math/bits.deBruijn32tab"], apart := false, laid := [("math/bits.deBruijn32tab", laid_math_bits_deBruijn32tab)] }
def RosterRowsSaid : Prop := rosterRowsRow.holds Tryd.pinned (OpenSpec.ofChange rosterRowsSpec)

/-- ITS FALSE NEIGHBOUR: 'it returns false'. Refute it at one input. -/
def rosterRowsWrong : ChangeSpec := { name := "rosterRows", fn := fun _ => fun
  | [d1, d2] => { results := [.lit (.bool false)], args := [d1, d2] }
  | _ => none }
def RosterRowsWrongFalsely : Prop := rosterRowsRow.holds Tryd.pinned (OpenSpec.ofChange rosterRowsWrong)

/-- 'cotillionlaw18.RosterReads': WHATEVER THE INPUT: true; the input reads as it did. -/
def rosterReadsSpec : ChangeSpec := { name := "rosterReads", fn := fun _ => fun
  | [d] => { results := [.lit (.bool true)], args := [d] }
  | _ => none }
def rosterReadsRow : OpenClaim := { program := "ytekmhdiajjfgfaadoor", sum := "667b0dcc92e8852cb709c62ece60edaf6db88b3cf7d5cbfbf87bb5dd8273190e", func := "cotillion/cotillionlaw18.RosterReads", spec := "rosterReads", named := ["math/bits.deBruijn32tab"], apart := false, laid := [("math/bits.deBruijn32tab", laid_math_bits_deBruijn32tab)] }
def RosterReadsSaid : Prop := rosterReadsRow.holds Tryd.pinned (OpenSpec.ofChange rosterReadsSpec)

/-- ITS FALSE NEIGHBOUR: 'it returns false'. Refute it at one input. -/
def rosterReadsWrong : ChangeSpec := { name := "rosterReads", fn := fun _ => fun
  | [d] => { results := [.lit (.bool false)], args := [d] }
  | _ => none }
def RosterReadsWrongFalsely : Prop := rosterReadsRow.holds Tryd.pinned (OpenSpec.ofChange rosterReadsWrong)

/-- 'cotillionlaw18.RosterTexts': WHATEVER THE INPUT: true; the input reads as it did. -/
def rosterTextsSpec : ChangeSpec := { name := "rosterTexts", fn := fun _ => fun
  | [d1, d2] => { results := [.lit (.bool true)], args := [d1, d2] }
  | _ => none }
def rosterTextsRow : OpenClaim := { program := "ytekmhdiajjfgfaadoor", sum := "667b0dcc92e8852cb709c62ece60edaf6db88b3cf7d5cbfbf87bb5dd8273190e", func := "cotillion/cotillionlaw18.RosterTexts", spec := "rosterTexts", named := ["math/bits.deBruijn32tab"], apart := false, laid := [("math/bits.deBruijn32tab", laid_math_bits_deBruijn32tab)] }
def RosterTextsSaid : Prop := rosterTextsRow.holds Tryd.pinned (OpenSpec.ofChange rosterTextsSpec)

/-- ITS FALSE NEIGHBOUR: 'it returns false'. Refute it at one input. -/
def rosterTextsWrong : ChangeSpec := { name := "rosterTexts", fn := fun _ => fun
  | [d1, d2] => { results := [.lit (.bool false)], args := [d1, d2] }
  | _ => none }
def RosterTextsWrongFalsely : Prop := rosterTextsRow.holds Tryd.pinned (OpenSpec.ofChange rosterTextsWrong)

/- THE SECOND FORM. 'bulk': how many values and letters a reading holds, each counted each time it is reached (what is shared counts as often as it is met; a slice's spare places count too). A statement '..UptoSaid' is the law's where the arguments, and the package variables that the reading takes, are together of bulk at most 1048576: NARROWER than '..Said'. Prove '..Said' where nothing that the law and all that it calls make is longer than what came in: it says more and counts as full. Else prove '..UptoSaid'. A law counts once. -/
mutual
def uptoBulk {H : Type} : DataW H → Nat
  | .lit (.string bytes) => bytes.length + 1
  | .lit _ => 1
  | .nil => 1
  | .ptr d => uptoBulk d + 1
  | .slice elems spare => uptoBulkAll elems + uptoBulkAll spare + 1
  | .agg parts => uptoBulkAll parts + 1
  | .iface _ d => uptoBulk d + 1
  | .map entries => uptoBulkEntries entries + 1
  | .held _ => 1
def uptoBulkAll {H : Type} : List (DataW H) → Nat
  | [] => 0
  | d :: r => uptoBulk d + uptoBulkAll r
def uptoBulkEntries {H : Type} : List (Lit × DataW H) → Nat
  | [] => 0
  | x :: r => uptoBulkEntry x + uptoBulkEntries r
def uptoBulkEntry {H : Type} : Lit × DataW H → Nat
  | (.string bytes, d) => bytes.length + uptoBulk d + 1
  | (_, d) => uptoBulk d + 1
 end
def uptoSmall : (H : Type) → List (DataW H) → Bool := fun _ ds => decide (uptoBulkAll ds ≤ 1048576)
def OpenSpec.upto (s : _root_.Go.ChangeSpec) : _root_.Go.OpenSpec := { _root_.Go.OpenSpec.ofChange s with cond := some uptoSmall }

/-- 'cotillionlaw18.RosterPlays', WHERE WHAT IT READS IS OF BULK AT MOST 1048576: true; the input reads as it did. -/
def rosterPlaysUptoRow : OpenClaim := { program := "ytekmhdiajjfgfaadoor", sum := "667b0dcc92e8852cb709c62ece60edaf6db88b3cf7d5cbfbf87bb5dd8273190e", func := "cotillion/cotillionlaw18.RosterPlays", spec := "rosterPlays", named := ["math/bits.deBruijn32tab"], apart := false, laid := [("math/bits.deBruijn32tab", laid_math_bits_deBruijn32tab)], narrowed := true }
def RosterPlaysUptoSaid : Prop := rosterPlaysUptoRow.holds Tryd.pinned (OpenSpec.upto rosterPlaysSpec)

/-- 'cotillionlaw18.RosterRows', WHERE WHAT IT READS IS OF BULK AT MOST 1048576: true; the input reads as it did. -/
def rosterRowsUptoRow : OpenClaim := { program := "ytekmhdiajjfgfaadoor", sum := "667b0dcc92e8852cb709c62ece60edaf6db88b3cf7d5cbfbf87bb5dd8273190e", func := "cotillion/cotillionlaw18.RosterRows", spec := "rosterRows", named := ["math/bits.deBruijn32tab"], apart := false, laid := [("math/bits.deBruijn32tab", laid_math_bits_deBruijn32tab)], narrowed := true }
def RosterRowsUptoSaid : Prop := rosterRowsUptoRow.holds Tryd.pinned (OpenSpec.upto rosterRowsSpec)

/-- 'cotillionlaw18.RosterReads', WHERE WHAT IT READS IS OF BULK AT MOST 1048576: true; the input reads as it did. -/
def rosterReadsUptoRow : OpenClaim := { program := "ytekmhdiajjfgfaadoor", sum := "667b0dcc92e8852cb709c62ece60edaf6db88b3cf7d5cbfbf87bb5dd8273190e", func := "cotillion/cotillionlaw18.RosterReads", spec := "rosterReads", named := ["math/bits.deBruijn32tab"], apart := false, laid := [("math/bits.deBruijn32tab", laid_math_bits_deBruijn32tab)], narrowed := true }
def RosterReadsUptoSaid : Prop := rosterReadsUptoRow.holds Tryd.pinned (OpenSpec.upto rosterReadsSpec)

/-- 'cotillionlaw18.RosterTexts', WHERE WHAT IT READS IS OF BULK AT MOST 1048576: true; the input reads as it did. -/
def rosterTextsUptoRow : OpenClaim := { program := "ytekmhdiajjfgfaadoor", sum := "667b0dcc92e8852cb709c62ece60edaf6db88b3cf7d5cbfbf87bb5dd8273190e", func := "cotillion/cotillionlaw18.RosterTexts", spec := "rosterTexts", named := ["math/bits.deBruijn32tab"], apart := false, laid := [("math/bits.deBruijn32tab", laid_math_bits_deBruijn32tab)], narrowed := true }
def RosterTextsUptoSaid : Prop := rosterTextsUptoRow.holds Tryd.pinned (OpenSpec.upto rosterTextsSpec)

end Rows
end Go.Proofs.YtekmhdiajjfgfaaDoor
