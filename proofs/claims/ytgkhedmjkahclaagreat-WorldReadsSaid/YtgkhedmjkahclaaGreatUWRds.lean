/- The law WorldReads, walked. -/
import Derived.Test.YtgkhedmjkahclaaGreatURf10
namespace Go.Proofs.YtgkhedmjkahclaaGreat.TL
open Go
set_option linter.unusedVariables false
set_option linter.unusedSimpArgs false

set_option maxHeartbeats 4000000 in
set_option maxRecDepth 100000 in
theorem WorldReads_T (s0 : List UInt8) : callT Tryz.prog 4 [.v (.string (bs s0))] ⟨[], []⟩ (fun r h => r = .v (.bool true)) := by
  refine callT_of_body [0, 2, 3, 4, 5, 6, 33] [] Tryz.func4 rfl (by decide) (by kernel_rfl) rfl ?_
  have hCut := Cut_T s0 500 (by decide)
  obtain ⟨s, hs⟩ : ∃ s, s = s0.take 500 := ⟨_, rfl⟩
  rw [← hs] at hCut
  have hR10 := ReadR10_T s
  simp only [rWdC, i64v, i64c] at hR10
  simp
  refine callT_eq [] hCut ?_
  simp
  refine callT_eq [] Game_T ?_
  simp
  have hgl : gameI.length = 2 := rfl
  by_cases he : (In.wd ⟨s, 0⟩).1.e = 0
  · have hW := WRst_T gameI (by decide) chk_game s he
    obtain ⟨hb, hok, hR⟩ := wd_ok (i := ⟨s, 0⟩) he
    generalize hwd : (In.wd ⟨s, 0⟩).2 = W at hW hb hok hR hR10
    rw [he] at hR10
    simp only [i64c, hgl] at hW
    have hT := fun (V : Vs) (u : Nat) => WText_T V u gameI W _ hok (by decide) hR
    have hTR := TextR10_T W _ hok (by decide) hR
    simp only at hb
    rw [← hb] at hT hTR
    simp only [rWdC, i64v] at hTR
    refine callT_exa [(2001, 2001), (2002, 2002), (2003, 2003), (2004, 2004), (2005, 2005), (2006, 2006)] hW ?_
    simp [i64v, i64c, hgl]
    intro V u
    refine callT_eq [] hR10 ?_
    simp [i64v, i64c]
    intro v5
    refine callT_eq [] Awk10_T ?_
    simp [i64v]
    refine callT_eq [(2001, 2001), (2002, 2002), (2003, 2003), (2004, 2004), (2005, 2005), (2006, 2006)] (hT V u) ?_
    simp [i64v]
    refine ⟨hgl.symm, callT_eq [] hTR ?_⟩
    simp
  · have hW := WRst_no gameI (by decide) chk_game s he
    simp only [i64c, hgl] at hW
    refine callT_eq [] hW ?_
    simp [i64v, i64c]
    refine callT_eq [] hR10 ?_
    simp [i64v, i64c]
    intro v5
    refine callT_eq [] Awk10_T ?_
    simp [i64v, he]
end Go.Proofs.YtgkhedmjkahclaaGreat.TL
