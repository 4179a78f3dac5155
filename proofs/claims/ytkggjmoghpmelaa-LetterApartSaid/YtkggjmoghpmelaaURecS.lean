/- The laws' Same: of batches; of records. -/
import Derived.Test.YtkggjmoghpmelaaURecT
import Derived.Test.YtkggjmoghpmelaaURosS
namespace Go.Proofs.Ytkggjmoghpmelaa.TL
open Go
set_option linter.unusedVariables false
set_option linter.unusedSimpArgs false

noncomputable instance : DecidableEq Ord := fun _ _ => Classical.propDecidable _
noncomputable instance : DecidableEq Chg := fun _ _ => Classical.propDecidable _
noncomputable instance : DecidableEq Ply := fun _ _ => Classical.propDecidable _
noncomputable instance : DecidableEq Rec := fun _ _ => Classical.propDecidable _
theorem ord_ext {a b : Ord} (h1 : a.k = b.k) (h2 : a.u = b.u) (h3 : a.a = b.a) (h4 : a.b = b.b) : a = b := by cases a; cases b; simp_all
theorem chg_ext {a b : Chg} (h1 : a.k = b.k) (h2 : a.p = b.p) (h3 : a.v = b.v) : a = b := by cases a; cases b; simp_all
theorem ply_ext {a b : Ply} (h1 : a.p = b.p) (h2 : a.b = b.b) : a = b := by cases a; cases b; simp_all
end Go.Proofs.Ytkggjmoghpmelaa.TL
