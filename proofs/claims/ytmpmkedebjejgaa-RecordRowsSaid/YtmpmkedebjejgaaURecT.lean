/- Records: as a text, of a text. -/
import Derived.Test.YtmpmkedebjejgaaURecP
namespace Go.Proofs.Ytmpmkedebjejgaa.TL
open Go
set_option linter.unusedVariables false
set_option linter.unusedSimpArgs false

theorem VLx.nilTR {h : Heap} {S : TV → Heap → Prop} {a c d z : TV} (k : VLx (.tup [.agg [a, .isl [] 0, c, d, .isl [] 0], z]) h S) : VLx (.tup [.agg [a, .v (.slice none 0 0), c, d, .v (.slice none 0 0)], z]) h S := fun e E w v H hv => by
  refine k e E w v H ?_
  simp only [RV, RVl] at hv ⊢
  obtain ⟨zs, e1, e2, ⟨x0, x1, cs, h1, h2, ⟨y0, g0, k0⟩, ⟨y1, g1, k1⟩, ⟨y2, g2, k2⟩, ⟨y3, g3, k3⟩, ⟨y4, g4, k4⟩, h3⟩, e3⟩ := hv
  exact ⟨zs, e1, e2, ⟨x0, x1, cs, h1, h2, ⟨y0, g0, k0⟩, ⟨y1, g1, .inl ⟨trivial, trivial, k1⟩⟩, ⟨y2, g2, k2⟩, ⟨y3, g3, k3⟩, ⟨y4, g4, .inl ⟨trivial, trivial, k4⟩⟩, h3⟩, e3⟩

abbrev rec0 : Rec := ⟨0, [], 0, 0, []⟩
set_option maxHeartbeats 1000000 in
set_option maxRecDepth 100000 in
theorem RcText_T (r : Rec) (hr : r.ok) : callT Try.prog 13 [.agg r.cells] ⟨[], []⟩ (fun x h => x = .v (.string (bs r.bytes)) ∧ h = []) := by
  refine callT_of_body [0, 1, 2, 3] [] Try.func13 rfl (by decide) (by kernel_rfl) rfl ?_
  simp [Rec.cells, i64c]
  intro v1 v3
  refine callT.pre (fn_of (RcPut_T 0 0 [] r hr (by simp))) (CLx.nilCell 3 0 1001 1 (by decide) (by decide) rfl rfl fun u => CLx.done ?_)
  simp
  refine callT_ex [(1000, 3), (1001, 1001)] (RcPut_T v3 u [] r hr (by simp)) ?_
  simp [Rec.cells, i64c]
  intro u1
  refine callT_eq [(1000, 3), (1001, 1001)] (OutText_T v3 u1 r.bytes) ?_
  simp

def rcParse (l : List UInt8) : Rec × Int :=
  let p := (In.mk l 0).rcd
  if p.1.fin.e ≠ 0 then (rec0, p.1.fin.e) else (p.2, 0)
set_option maxHeartbeats 1000000 in
set_option maxRecDepth 100000 in
theorem RcParse_T (l : List UInt8) : callT Try.prog 8 [.v (.string (bs l))] ⟨[], []⟩ (fun x h => x = .tup [.agg (rcParse l).1.cells, i64c (rcParse l).2] ∧ h = []) := by
  refine callT.mono (K := fun x h => h = [] ∧ ((x = .tup [.agg (rcParse l).1.cells, i64c (rcParse l).2]) ∨ ((rcParse l).1 = rec0 ∧ x = .tup [.agg [i64c 0, .v (.slice none 0 0), i64c 0, i64c 0, .v (.slice none 0 0)], i64c (rcParse l).2]))) ?_ fun x h hh => ?_
  · refine callT_of_body [0, 2, 3, 4, 5, 6, 14] [] Try.func8 rfl (by decide) (by kernel_rfl) rfl ?_
    simp
    intro v2
    refine callT_ex [(5, 8)] (Open_T l) ?_
    simp
    intro v8
    refine callT_eq [(1000, 8)] (RcRead_T v8 ⟨l, 0⟩) ?_
    simp [Rec.cells, i64c]
    intro v5
    refine callT_eq [(1000, 8)] (End_T v8 (In.mk l 0).rcd.1) ?_
    by_cases he : (In.mk l 0).rcd.1.fin.e = 0
    · simp [he, rcParse, i64c]
    · simp [he, rcParse, i64c]
  · obtain ⟨rfl, rfl | ⟨h1, rfl⟩⟩ := hh
    · exact VLx.done ⟨rfl, rfl⟩
    · refine VLx.nilTR (VLx.done ⟨?_, rfl⟩)
      rw [h1]; rfl
end Go.Proofs.Ytmpmkedebjejgaa.TL
