/- Written by a program for this claim (see NOTES.md of the claims' repo). Mirrors, as plain Lean functions, of Go functions that the law RosterBack reaches, and proofs that the calls come to what these say. No conditions. -/
import Derived.Test.YtekmhdiajjfgfaaQRosterBackx0
import Derived.Test.YtekmhdiajjfgfaaQRosterBackx1
import Derived.Test.YtekmhdiajjfgfaaQRosterBackx2
import Derived.Test.YtekmhdiajjfgfaaQRosterBackx3
import Derived.Test.YtekmhdiajjfgfaaQRosterBackx4
import Derived.Test.YtekmhdiajjfgfaaQRosterBackx5
import Derived.Test.YtekmhdiajjfgfaaQRosterBackx6
namespace Go.Proofs.Ytekmhdiajjfgfaa.QRosterBack
open Go.RowKit Go.Proofs.YtekmhdiajjfgfaaW.PrintWords Go.Proofs.YtekmhdiajjfgfaaW.PrintLast Go.Proofs.YtekmhdiajjfgfaaW.PrintMore
attribute [local go_sem] max2_int min2_int max_two min_two max_three min_three max_four min_four   -- for this text's walks alone
set_option linter.unusedVariables false
set_option linter.unusedSimpArgs false

end Go.Proofs.Ytekmhdiajjfgfaa.QRosterBack
