/- What package variables hold for ever: the table of math/bits.TrailingZeros32 (variable 0 of seat r1's .D). -/
import Derived.WalkKit
namespace Go.Proofs.YtgkhedmjkahclaaGreatDoor.TL
open Go
def gvals : Nat → Option (List Value)
  | 0 => some ([0, 1, 28, 2, 29, 14, 24, 3, 30, 22, 20, 15, 25, 17, 4, 8, 31, 27, 13, 23, 21, 19, 16, 7, 26, 12, 18, 6, 11, 5, 10, 9].map fun n => .int .u8 n)
  | _ => none
attribute [simp] gvals
end Go.Proofs.YtgkhedmjkahclaaGreatDoor.TL
