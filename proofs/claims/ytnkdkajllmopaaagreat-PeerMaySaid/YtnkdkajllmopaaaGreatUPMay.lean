/- The law PeerMay, as the code runs. -/
import Derived.Test.YtnkdkajllmopaaaGreatUPe
namespace Go.Proofs.YtnkdkajllmopaaaGreat.TL
open Go
set_option linter.unusedVariables false
set_option linter.unusedSimpArgs false

set_option maxHeartbeats 4000000 in
set_option maxRecDepth 100000 in
theorem PeerMay_T (n me : Int) : callT Tryz.prog 4 [i64c n, i64c me] ⟨[], []⟩ (fun r h => r = .v (.bool true)) := by
  refine callT_of_body [0, 1, 4, 5, 6, 7, 8, 10, 11] [] Tryz.func4 rfl (by decide) (by kernel_rfl) rfl ?_
  have hG := Game22_T n
  have hpl := plsG_ok n
  have hc4 : fchk gameI (plsG n) 0 2 = 4 := by
    unfold fchk
    rw [if_neg (by rw [show chkV gameI = 0 by decide]; simp), if_pos (by decide)]
    decide
  have hNo := PBegin_no gameI (by decide) 7 (plsG n) (by omega) 0 2 (by rw [hc4]; decide) me
  rw [hc4] at hNo
  have hEn := PEnter_T gameI
  have hMe := fun x => EMe_T x gameI (-1) gth0 []
  have hSt := fun x => EStage_T x gameI (-1) gth0 []
  have hTu := fun x => ETurn_T x gameI (-1) gth0 []
  have hSn := fun x => ESnap_T x gameI (-1) gth0 []
  have hPo := fun x => EPoll_T x gameI (-1) gth0 []
  have hm7 := plsG_has n me
  simp only [bs_nil] at hSn
  by_cases hmay : 1 ≤ me ∧ me ≤ bits .and .i64 n 7
  · have hB := PBegin_T gameI (by decide) 7 (plsG n) (by omega) 2 2 hpl.1 me (by omega) (by rw [hm7]; exact decide_eq_true ⟨by omega, hmay.2⟩)
    have h1 := hmay.1
    have h2 := hmay.2
    simp only [fdGame, u64c, i64c, gth0] at hG hB hNo hMe hSt hTu hSn hPo
    simp only [gth0] at hEn
    simp [i64c, i64v, u32v, u64c]
    refine callT_eq [] hG ?_
    simp [i64c, i64v, u32v, u64c]
    intro v5
    refine callT_exa [(4000, 4000), (4002, 4002), (4003, 4003), (4005, 4005), (2000, 2000), (2001, 2001), (2002, 2002), (2003, 2003), (2004, 2004), (2005, 2005), (2006, 2006)] hB ?_
    simp [i64c, i64v, u32v, u64c]
    intro x
    simp [i64c, i64v, u32v, u64c, h1, h2]
    refine callT_eq [] hNo ?_
    simp [i64c, i64v, u32v, u64c, h1, h2]
    refine callT_exa [(4000, 4100), (4002, 4102), (4003, 4103), (4004, 4104), (4005, 4105)] hEn ?_
    simp [i64c, i64v, u32v, u64c, gth0, h1, h2]
    intro y
    refine callT_eq [] PAwk_T ?_
    simp [i64c, i64v, u32v, u64c, h1, h2]
    refine callT_eq [(4000, 4100), (4002, 4102), (4003, 4103), (4004, 4104), (4005, 4105)] (hMe y) ?_
    simp [i64c, i64v, u32v, u64c, h1, h2]
    refine callT_eq [(4000, 4100), (4002, 4102), (4003, 4103), (4004, 4104), (4005, 4105)] (hSt y) ?_
    simp [i64c, i64v, u32v, u64c, h1, h2]
    refine callT_eq [(4000, 4100), (4002, 4102), (4003, 4103), (4004, 4104), (4005, 4105)] (hTu y) ?_
    simp [i64c, i64v, u32v, u64c, h1, h2]
    refine callT_eq [(4000, 4100), (4002, 4102), (4003, 4103), (4004, 4104), (4005, 4105)] (hSn y) ?_
    simp [i64c, i64v, u32v, u64c, h1, h2]
    refine callT_eq [(4000, 4100), (4002, 4102), (4003, 4103), (4004, 4104), (4005, 4105)] (hPo y) ?_
    simp [i64c, i64v, u32v, u64c, h1, h2]
  · have hB := PBegin_13 gameI (by decide) 7 (plsG n) (by omega) 2 2 hpl.1 me (by rw [hm7]; by_cases h0 : me = 0; exact .inl h0; exact .inr (decide_eq_false (by omega)))
    simp only [fdGame, u64c, i64c, gth0] at hG hB hNo hMe hSt hTu hSn hPo
    simp only [gth0] at hEn
    simp [i64c, i64v, u32v, u64c]
    refine callT_eq [] hG ?_
    simp [i64c, i64v, u32v, u64c]
    intro v5
    refine callT_eq [] hB ?_
    by_cases h1 : 1 ≤ me
    · have h2 : ¬ me ≤ bits .and .i64 n 7 := fun h2 => hmay ⟨h1, h2⟩
      simp [i64c, i64v, u32v, u64c, h1, h2]
      refine callT_eq [] hNo ?_
      simp [i64c, i64v, u32v, u64c, h1, h2]
      refine callT_exa [(4000, 4100), (4002, 4102), (4003, 4103), (4004, 4104), (4005, 4105)] hEn ?_
      simp [i64c, i64v, u32v, u64c, gth0, h1, h2]
      intro y
      refine callT_eq [] PAwk_T ?_
      simp [i64c, i64v, u32v, u64c, h1, h2]
      refine callT_eq [(4000, 4100), (4002, 4102), (4003, 4103), (4004, 4104), (4005, 4105)] (hMe y) ?_
      simp [i64c, i64v, u32v, u64c, h1, h2]
      refine callT_eq [(4000, 4100), (4002, 4102), (4003, 4103), (4004, 4104), (4005, 4105)] (hSt y) ?_
      simp [i64c, i64v, u32v, u64c, h1, h2]
      refine callT_eq [(4000, 4100), (4002, 4102), (4003, 4103), (4004, 4104), (4005, 4105)] (hTu y) ?_
      simp [i64c, i64v, u32v, u64c, h1, h2]
      refine callT_eq [(4000, 4100), (4002, 4102), (4003, 4103), (4004, 4104), (4005, 4105)] (hSn y) ?_
      simp [i64c, i64v, u32v, u64c, h1, h2]
      refine callT_eq [(4000, 4100), (4002, 4102), (4003, 4103), (4004, 4104), (4005, 4105)] (hPo y) ?_
      simp [i64c, i64v, u32v, u64c, h1, h2]
    · simp [i64c, i64v, u32v, u64c, h1]
      refine callT_eq [] hNo ?_
      simp [i64c, i64v, u32v, u64c, h1]
      refine callT_exa [(4000, 4100), (4002, 4102), (4003, 4103), (4004, 4104), (4005, 4105)] hEn ?_
      simp [i64c, i64v, u32v, u64c, gth0, h1]
      intro y
      refine callT_eq [] PAwk_T ?_
      simp [i64c, i64v, u32v, u64c, h1]
      refine callT_eq [(4000, 4100), (4002, 4102), (4003, 4103), (4004, 4104), (4005, 4105)] (hMe y) ?_
      simp [i64c, i64v, u32v, u64c, h1]
      refine callT_eq [(4000, 4100), (4002, 4102), (4003, 4103), (4004, 4104), (4005, 4105)] (hSt y) ?_
      simp [i64c, i64v, u32v, u64c, h1]
      refine callT_eq [(4000, 4100), (4002, 4102), (4003, 4103), (4004, 4104), (4005, 4105)] (hTu y) ?_
      simp [i64c, i64v, u32v, u64c, h1]
      refine callT_eq [(4000, 4100), (4002, 4102), (4003, 4103), (4004, 4104), (4005, 4105)] (hSn y) ?_
      simp [i64c, i64v, u32v, u64c, h1]
      refine callT_eq [(4000, 4100), (4002, 4102), (4003, 4103), (4004, 4104), (4005, 4105)] (hPo y) ?_
      simp [i64c, i64v, u32v, u64c, h1]
end Go.Proofs.YtnkdkajllmopaaaGreat.TL
