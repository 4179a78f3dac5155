/- The law RecordReads, as the code runs. -/
import Derived.Test.YtmpmkedebjejgaaUAwk20
import Derived.Test.YtmpmkedebjejgaaURecR
import Derived.Test.YtmpmkedebjejgaaURecB
import Derived.Test.YtmpmkedebjejgaaUIn
namespace Go.Proofs.Ytmpmkedebjejgaa.TL
open Go
set_option linter.unusedVariables false
set_option linter.unusedSimpArgs false

set_option maxRecDepth 100000 in
theorem EndR_T (i : In) : callT Try.prog 10 [rIn i] ⟨[], []⟩ (fun r h => r = i64c i.fin.e ∧ h = []) := by
  refine callT_of_body [0, 1, 2, 10] [] Try.func10 rfl (by decide) (by kernel_rfl) rfl ?_
  obtain ⟨l, e⟩ := i
  by_cases he : e = 0
  · subst he
    cases l with
    | nil => simp [i64c, In.fin]
    | cons a l => simp [i64c, In.fin, In.fail]
  · cases l with
    | nil => simp [i64c, In.fin, he]
    | cons a l => simp [i64c, In.fin, In.fail, he]
theorem fin_ok {i : In} (h : i.fin.e = 0) : i.e = 0 ∧ i.l = [] := by
  unfold In.fin at h
  split at h
  · exact absurd h (In.fail_e (by decide))
  · rename_i hh; exact ⟨h, by simpa using hh⟩

set_option maxHeartbeats 4000000 in
set_option maxRecDepth 100000 in
theorem RecordReads_T (l0 : List UInt8) : callT Try.prog 3 [.v (.string (bs l0))] ⟨[], []⟩ (fun r h => r = .v (.bool true)) := by
  refine callT_of_body [0, 2, 3, 4, 5, 6, 7, 24] [] Try.func3 rfl (by decide) (by kernel_rfl) rfl ?_
  simp
  refine callT_eq [] (Cut_T l0 200 (by decide)) ?_
  simp
  generalize List.take 200 l0 = l
  refine callT_eq [] (RcParse_T l) ?_
  have hrr := RcReadR_T ⟨l, 0⟩
  have hend := EndR_T (In.mk l 0).rcd.1
  have hpar : rcParse l = if (In.mk l 0).rcd.1.fin.e ≠ 0 then (rec0, (In.mk l 0).rcd.1.fin.e) else ((In.mk l 0).rcd.2, 0) := rfl
  have hok : (In.mk l 0).rcd.1.fin.e = 0 → l = (In.mk l 0).rcd.2.bytes ∧ (In.mk l 0).rcd.2.rd := fun h => by
    obtain ⟨h1, h2⟩ := fin_ok h
    obtain ⟨h3, h4, h5⟩ := rcd_ok h1
    rw [h2, List.append_nil] at h4
    exact ⟨h4, h5⟩
  rw [hpar]
  generalize (In.mk l 0).rcd = q at hrr hend hok
  obtain ⟨i2, r⟩ := q
  simp only at hrr hend hok
  by_cases he : i2.fin.e = 0
  · obtain ⟨h1, h2⟩ := hok he
    have hsame := RcSame_T r r (by have := h2.cl; omega) (by have := h2.ll; omega) (fun c hc => by have := (h2.c c hc).l; omega) (fun c hc => by have := (h2.l c hc).l; omega)
    have htext := RcText_T r h2.ok
    rw [← h1] at htext
    simp [Rec.cells, i64c, he]
    intro v3
    refine callT_eq [] hrr ?_
    simp [Rec.cells, i64c, he]
    intro v5 v6
    refine callT_eq [] hend ?_
    simp [Rec.cells, i64c, he]
    refine callT_eq [] Awk20_T ?_
    simp [Rec.cells, i64c, he]
    refine callT_eq [] hsame ?_
    simp [Rec.cells, i64c, he]
    refine callT_eq [] htext ?_
    simp [Rec.cells, i64c, he]
  · have hsame := RcSame_T rec0 rec0 (by simp) (by simp) (by simp) (by simp)
    simp [Rec.cells, i64c, he]
    intro v3
    refine callT_eq [] hrr ?_
    simp [Rec.cells, i64c, he]
    intro v5 v6
    refine callT_eq [] hend ?_
    simp [Rec.cells, i64c, he]
    refine callT_eq [] Awk20_T ?_
    simp [Rec.cells, i64c, he]
    refine callT.pre (fn_of hsame) (CLx.nz (CLx.done ?_))
    simp
    refine callT_eq [] hsame ?_
    simp [Rec.cells, i64c, he]
end Go.Proofs.Ytmpmkedebjejgaa.TL
