/- The law's Same; slices.Equal of numbers; the roster's Same. -/
import Derived.Test.YtkggjmoghpmelaaURosR
namespace Go.Proofs.Ytkggjmoghpmelaa.TL
open Go
set_option linter.unusedVariables false
set_option linter.unusedSimpArgs false

theorem list_ext_lt {a b : List Int} (h : a.length = b.length) (hh : ∀ i (ha : i < a.length) (hb : i < b.length), i < b.length → a[i] = b[i]) : a = b :=
  List.ext_getElem h fun i h1 h2 => hh i h1 h2 h2

end Go.Proofs.Ytkggjmoghpmelaa.TL
