/- Answers that the document fixes (layer 9). -/
import Derived.Test.YtfhckddfmlljfaaURead
namespace Go.Proofs.Ytfhckddfmlljfaa.TL
open Go
set_option linter.unusedVariables false
set_option linter.unusedSimpArgs false

theorem one_text : batchB [⟨1, 1, 2, -1⟩] = [1, 1, 1, 4, 1] := by
  have h1 : (IntKind.u64.wrap 1).toNat = 1 := by decide
  simp [batchB, obs, Ord.ob, zig, nb_lt, h1]
theorem one_parse : parseB [1, 1, 1, 4, 1] = ([⟨1, 1, 2, -1⟩], 0) := by kernel_rfl
theorem one_bs : bs [1, 1, 1, 4, 1] = ⟨#[1, 1, 1, 4, 1]⟩ := rfl

set_option maxRecDepth 100000 in
theorem Awk9_T : callT Try.prog 21 [] ⟨[], []⟩ (fun r h => r = .v (.bool true) ∧ h = []) := by
  refine callT_of_body [0, 1, 2, 3] [] Try.func21 rfl (by decide) (by kernel_rfl) rfl ?_
  simp
  intro v5
  refine callT_ex [(1000, 5), (8, 6)] (Of_T v5 [⟨1, 1, 2, -1⟩] (by decide)) ?_
  simp [Ord.cells, i64c]
  intro u
  have hp := Parse_T [1, 1, 1, 4, 1]
  rw [one_parse, one_bs] at hp
  refine callT_eq [] hp ?_
  simp [Ord.cells, i64c]
  refine draw_pre (SLx.frz 6 rfl (SLx.done ?_))
  simp
  refine draw_chain (fun _ : Unit => [(5, v5, ⟨4, [i64c 1, i64c 1, i64c 2, i64c (-1)]⟩)]) (fun _ => True) () trivial (by simp [i64c]) (by kernel_rfl) (by kernel_rfl) (by kernel_rfl) (by kernel_rfl) ?_
  simp
  have ht := Text_T [⟨1, 1, 2, -1⟩] (by simp [Ord.ok, i64ok]) (by decide)
  rw [one_text] at ht
  refine ⟨.v (.string (bs [1, 1, 1, 4, 1])), fun _ => True, ?_, sameL_go ?_⟩
  · refine callT_eq [] ht ?_
    simp [Ord.cells, i64c]
  · have hs : sl ⟨#[1, 1, 1, 4, 1]⟩ = [1, 1, 1, 4, 1] := rfl
    simp [hs]
    have hk := Check_T ⟨0, 0, 0, 0⟩
    have h7 : (Ord.mk 0 0 0 0).chk = 7 := by decide
    rw [h7] at hk
    refine ⟨i64c 7, fun _ => True, ?_, sameL_go ?_⟩
    · refine callT_eq [] hk ?_
      simp [Ord.cells, i64c]
    · simp [i64c]
end Go.Proofs.Ytfhckddfmlljfaa.TL
