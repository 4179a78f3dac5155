/- The law's awake. -/
import Derived.Test.YtmpmkedebjejgaaURecC
import Derived.Test.YtmpmkedebjejgaaTD
namespace Go.Proofs.Ytmpmkedebjejgaa.TL
open Go
set_option linter.unusedVariables false
set_option linter.unusedSimpArgs false

abbrev rec3 : Rec := ⟨3, [], 0, 0, [⟨0, []⟩]⟩
theorem rec3_ok : rec3.ok := ⟨by decide, by decide, by decide, by simp, by decide, by simp; exact ⟨by decide, by simp, by decide⟩, by decide⟩
theorem rec3_bytes : rec3.bytes = [3, 0, 0, 0, 1, 0, 0] := by simp [Rec.bytes, chgB, plyB, Ply.bytes, batchB, obs, nb_lt]
theorem rec3_parse : rcParse [3, 0, 0, 0, 1, 0, 0] = (rec3, 0) := by kernel_rfl
theorem rec3_c3 : rec3.chk 3 ⟨1, 0⟩ = 0 := by
  have h1 : rec3.ros ⟨1, 0⟩ = (⟨1, 0⟩, 0) := by kernel_rfl
  have h2 : (Ros.mk 1 0).all 32 = [0] := by decide
  have h3 : wchk rec3.l = 0 := by decide
  simp only [Rec.chk, h1, h2, h3]
  simp [pls]
theorem rec3_c4 : rec3.chk 4 ⟨1, 0⟩ = 12 := by simp [Rec.chk]

set_option maxHeartbeats 2000000 in
set_option maxRecDepth 100000 in
theorem Awk20_T : callT Try.prog 11 [] ⟨[], []⟩ (fun x h => x = .v (.bool true) ∧ h = []) := by
  refine callT_of_body [0, 1, 2, 3] [] Try.func11 rfl (by decide) (by kernel_rfl) rfl ?_
  simp
  intro v5 v1
  have hp := RcParse_T [3, 0, 0, 0, 1, 0, 0]
  rw [rec3_parse] at hp
  have ht := RcText_T rec3 rec3_ok
  rw [rec3_bytes] at ht
  have hof := ROf_T [0] (by decide)
  have h1 : setOf [0] = 1 := by decide
  rw [h1] at hof
  have hc3 := RcChk_T rec3 3 ⟨1, 0⟩ (by decide) (by simp) (by decide) (by decide) (by decide) (by decide) (by simp)
  rw [rec3_c3] at hc3
  have hc4 := RcChk_T rec3 4 ⟨1, 0⟩ (by decide) (by simp) (by decide) (by decide) (by decide) (by decide) (by simp)
  rw [rec3_c4] at hc4
  have hb : bs [3, 0, 0, 0, 1, 0, 0] = { data := #[3, 0, 0, 0, 1, 0, 0] } := rfl
  rw [hb] at hp ht
  refine callT_eq [] hp ?_
  simp [Rec.cells, Ply.cells, i64c]
  intro v2
  refine draw_pre (SLx.nz (SLx.frzH 5 rfl (SLx.done ?_)))
  simp
  refine draw_g [0, 1, 2, 3, 4, 5, 6, 7, 8, 9, 10, 11, 12, 13] 14 [(1, [0]), (6, [0, 1, 2, 3, 5]), (7, [0, 1, 2, 3, 4, 5, 6]), (13, [0, 1, 2, 3, 4, 5, 6, 7, 8, 9, 10, 12])] (by kernel_rfl) (by kernel_rfl) (by kernel_rfl) ?_
  simp
  refine callT_eq [] ht ?_
  simp [Rec.cells, Ply.cells, i64c]
  refine callT_eq [] hof ?_
  simp [Rec.cells, Ply.cells, Ros.cells, u32v, i64c]
  refine callT_eq [] hc3 ?_
  simp [Rec.cells, Ply.cells, Ros.cells, u32v, i64c]
  refine callT_eq [] hof ?_
  simp [Rec.cells, Ply.cells, Ros.cells, u32v, i64c]
  refine callT_eq [] hc4 ?_
  simp [Rec.cells, Ply.cells, Ros.cells, u32v, i64c]
end Go.Proofs.Ytmpmkedebjejgaa.TL
