/- The law WorldChecks. -/
import Derived.Test.YtgkhedmjkahclaaGreatDoorUWTxt
import Derived.Test.YtgkhedmjkahclaaGreatDoorUOrd
import Derived.Test.YtgkhedmjkahclaaGreatDoorURec
namespace Go.Proofs.YtgkhedmjkahclaaGreatDoor.TL
open Go
set_option linter.unusedVariables false
set_option linter.unusedSimpArgs false

set_option maxRecDepth 100000 in
theorem CkAllR_T (l : List Ord) : callT Tryz.prog 78 [.isl (rowC l) l.length] ⟨[], []⟩ (fun r h => r = i64c (batchChk l) ∧ h = []) := by
  refine callT_of_body [0, 2, 4, 7, 8, 9, 10, 11, 16] [] Tryz.func78 rfl (by decide) (by kernel_rfl) rfl ?_
  by_cases h8 : 8 < l.length
  · have : (8 : Int) < l.length := by omega
    simp [this, batchChk, h8, i64c]
  · have h8' : ¬ (8 : Int) < l.length := by omega
    simp [h8']
    refine loopT_of Nat (fun k => k ≤ l.length ∧ chkAll (l.drop k) = chkAll l) (fun k => ⟨[(8, .isl (rowC l) l.length), (9, .v (.int .i64 l.length)), (10, .v (.int .i64 k))], []⟩) (fun k => l.length - k) 0 (by simp) (by simp) (by simp) ?_
    rintro k ⟨hk, hr⟩
    by_cases h1 : k < l.length
    · simp [rowC_at h1, i64c, h1]
      intro v4
      refine callT_eq [] (CheckR_T l[k]) ?_
      rw [List.drop_eq_getElem_cons h1] at hr
      by_cases hc : l[k].chk = 0
      · simp [hc, Ord.cells, i64c]
        have e4 : IntKind.i64.wrap ((k : Int) + 1) = ((k + 1 : Nat) : Int) := by rw [i64_id (by omega) (by omega)]; rfl
        refine SLx.again (k + 1) ⟨by omega, by rw [← hr]; simp [chkAll, hc]⟩ (by omega) (by simp [e4]) (by simp)
      · simp [hc, Ord.cells, i64c, batchChk, h8]
        refine callT_eq [] (CheckR_T l[k]) ?_
        simp [i64c, Ord.cells]
        rw [← hr]; simp [chkAll, hc]
    · have e1 : k = l.length := by omega
      subst e1
      simp at hr
      simp [batchChk, h8, ← hr, chkAll, i64c]

set_option maxHeartbeats 4000000 in
set_option maxRecDepth 100000 in
theorem RChk10_T (l : List Ply) (hl : l.length ≤ 1000000) : callT Tryz.prog 60 [.isl (rowP l) l.length] ⟨[], []⟩ (fun x h => x = i64c (wchk l) ∧ h = []) := by
  refine callT_of_body [0, 2, 3, 4, 5, 6, 7, 8, 19, 32, 36] [] Tryz.func60 rfl (by decide) (by kernel_rfl) rfl ?_
  simp
  refine loopT_of Nat (fun k => k ≤ l.length ∧ wgo l (l.length - k) k = wchk l) (fun k => ⟨[(0, .isl (rowP l) l.length), (5, .isl (rowP l) l.length), (6, .v (.int .i64 l.length)), (7, .v (.int .i64 k))], []⟩) (fun k => l.length - k) 0 ⟨by simp, rfl⟩ (by simp) (by simp) ?_
  rintro k ⟨hk, hgo⟩
  by_cases h1 : k < l.length
  · have hat := rowP_at h1
    have hpk : plyAt l k = l[k] := by simp [plyAt, h1]
    have e1 : IntKind.i64.wrap ((k : Int) + 1) = ((k + 1 : Nat) : Int) := by rw [i64_id (by omega) (by omega)]; rfl
    rw [show l.length - k = l.length - (k + 1) + 1 by omega, wgo] at hgo
    have hB := CkAllR_T l[k].b
    simp only [i64c] at hB
    by_cases p1 : l[k].p < 0
    · have hc : plyChk l k = 13 := by simp [plyChk, hpk, p1]
      rw [hc] at hgo
      simp at hgo
      simp [h1, hat, i64c, p1, ← hgo]
    by_cases p2 : 31 < l[k].p
    · have p2' : 32 ≤ l[k].p := by omega
      have hc : plyChk l k = 13 := by simp [plyChk, hpk, p2']
      rw [hc] at hgo
      simp at hgo
      simp [h1, hat, i64c, p1, p2, ← hgo]
    have p2' : ¬ 32 ≤ l[k].p := by omega
    have again : batchChk l[k].b = plyChk l k → batchChk l[k].b = 0 → wgo l (l.length - (k + 1)) (k + 1) = wchk l := fun h h0 => by
      rw [← h, h0] at hgo
      simpa using hgo
    have last : batchChk l[k].b = plyChk l k → ¬ batchChk l[k].b = 0 → batchChk l[k].b = wchk l := fun h h0 => by
      rw [← h, if_pos h0] at hgo
      exact hgo
    by_cases k0 : k = 0
    · subst k0
      have hc : batchChk l[0].b = plyChk l 0 := by simp [plyChk, hpk, p1, p2']
      simp [h1, hat, i64c, p1, p2]
      intro v4
      refine draw_g [0, 1, 2, 3, 4, 5, 6, 7, 8, 9, 10] 11 [] (by kernel_rfl) (by kernel_rfl) (by kernel_rfl) ?_
      simp
      refine callT_eq [] hB ?_
      by_cases hz : batchChk l[0].b = 0
      · simp [hz, i64c]
        exact SLx.again 1 ⟨by omega, again hc hz⟩ (by omega) (by simp [show IntKind.i64.wrap 1 = 1 by decide]) (by simp)
      · simp [hz, i64c]
        refine callT_eq [] hB ?_
        simp
        exact last hc hz
    · have h2 : k - 1 < l.length := by omega
      have hat2 := rowP_at h2
      have hpk2 : plyAt l (k - 1) = l[k - 1] := by simp [plyAt, h2]
      have k0' : 0 < k := by omega
      have e2 : IntKind.i64.wrap ((k : Int) - 1) = ((k - 1 : Nat) : Int) := by rw [i64_id (by omega) (by omega)]; omega
      by_cases p3 : l[k].p ≤ l[k - 1].p
      · have hc : plyChk l k = 12 := by simp [plyChk, hpk, hpk2, p1, p2', p3, k0']
        rw [hc] at hgo
        simp at hgo
        simp [h1, hat, i64c, p1, p2]
        intro v4
        refine draw_g [0, 1, 2, 3, 4, 5, 6, 7, 8, 9, 10] 11 [] (by kernel_rfl) (by kernel_rfl) (by kernel_rfl) ?_
        simp [k0', e2, h2, hat2, i64c, p3, ← hgo]
      · have hc : batchChk l[k].b = plyChk l k := by simp [plyChk, hpk, hpk2, p1, p2', p3]
        simp [h1, hat, i64c, p1, p2]
        intro v4
        refine draw_g [0, 1, 2, 3, 4, 5, 6, 7, 8, 9, 10] 11 [] (by kernel_rfl) (by kernel_rfl) (by kernel_rfl) ?_
        simp [k0', e2, h2, hat2, i64c, p3]
        refine callT_eq [] hB ?_
        by_cases hz : batchChk l[k].b = 0
        · simp [hz, i64c]
          exact SLx.again (k + 1) ⟨by omega, again hc hz⟩ (by omega) (by simp [e1]) (by simp)
        · simp [hz, i64c]
          refine callT_eq [] hB ?_
          simp
          exact last hc hz
  · have : k = l.length := by omega
    subst this
    simp [wgo] at hgo
    simp [i64c, ← hgo]
end Go.Proofs.YtgkhedmjkahclaaGreatDoor.TL
