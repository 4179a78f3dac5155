/- The law's awake. -/
import Derived.Test.YtkggjmoghpmelaaURecC
import Derived.Test.YtkggjmoghpmelaaTD
namespace Go.Proofs.Ytkggjmoghpmelaa.TL
open Go
set_option linter.unusedVariables false
set_option linter.unusedSimpArgs false

abbrev rec3 : Rec := ⟨3, [], 0, 0, [⟨0, []⟩]⟩
theorem rec3_ok : rec3.ok := ⟨by decide, by decide, by decide, by simp, by decide, by simp; exact ⟨by decide, by simp, by decide⟩, by decide⟩
theorem rec3_bytes : rec3.bytes = [3, 0, 0, 0, 1, 0, 0] := by simp [Rec.bytes, chgB, plyB, Ply.bytes, batchB, obs, nb_lt]
theorem rec3_parse : rcParse [3, 0, 0, 0, 1, 0, 0] = (rec3, 0) := by kernel_rfl
theorem rec3_c3 : rec3.chk 3 ⟨1, 0⟩ = 0 := by
  have h1 : rec3.ros ⟨1, 0⟩ = (⟨1, 0⟩, 0) := by kernel_rfl
  have h2 : (Ros.mk 1 0).all 32 = [0] := by decide
  have h3 : wchk rec3.l = 0 := by decide
  simp only [Rec.chk, h1, h2, h3]
  simp [pls]
theorem rec3_c4 : rec3.chk 4 ⟨1, 0⟩ = 12 := by simp [Rec.chk]

end Go.Proofs.Ytkggjmoghpmelaa.TL
