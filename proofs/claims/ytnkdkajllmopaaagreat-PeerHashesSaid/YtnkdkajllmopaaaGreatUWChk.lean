/- The law WorldChecks. -/
import Derived.Test.YtnkdkajllmopaaaGreatUWTxt
import Derived.Test.YtnkdkajllmopaaaGreatUOrd
import Derived.Test.YtnkdkajllmopaaaGreatURec
namespace Go.Proofs.YtnkdkajllmopaaaGreat.TL
open Go
set_option linter.unusedVariables false
set_option linter.unusedSimpArgs false

end Go.Proofs.YtnkdkajllmopaaaGreat.TL
