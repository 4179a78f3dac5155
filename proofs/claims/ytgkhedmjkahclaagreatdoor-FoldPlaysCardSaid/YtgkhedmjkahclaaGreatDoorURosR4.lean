/- The reference's roster: behind changes. -/
import Derived.Test.YtgkhedmjkahclaaGreatDoorURosR3
namespace Go.Proofs.YtgkhedmjkahclaaGreatDoor.TL
open Go
set_option linter.unusedVariables false
set_option linter.unusedSimpArgs false

abbrev rosC (r : Ros) : List TV := [.isl ((r.all 32).map i64c) (r.all 32).length, i64c r.e]
set_option maxHeartbeats 2000000 in
set_option maxRecDepth 100000 in
theorem WithR_T (r : Ros) (l : List Chg) (hs : r.s < 2 ^ 32) (hl : l.length ≤ 1000000) (hv : ∀ c ∈ l, c.v.length ≤ 1000000) (he : 0 ≤ r.e) (he2 : r.e ≤ 9223372036853775000) : callT Tryz.prog 61 [rRos r, .isl (rowG l) l.length] ⟨[], []⟩ (fun x h => x = .tup [rRos (r.goW r l).1, i64c (r.goW r l).2] ∧ h = []) := by
  refine callT_of_body [0, 1, 2, 4, 5, 6, 8, 10, 11, 12, 13, 19] [] Tryz.func61 rfl (by decide) (by kernel_rfl) rfl ?_
  simp [i64c]
  intro v2 v4 v6
  refine loopT_of (Nat × Ros × Nat) (fun x => x.1 ≤ l.length ∧ r.goW x.2.1 (l.drop x.1) = r.goW r l ∧ x.2.1.s < 2 ^ 32 ∧ x.2.1.e = r.e + x.1) (fun x => ⟨[(2, .at 2 v2 0), (4, .at 4 v4 0), (6, .at 6 v6 0), (10, .isl (rowG l) l.length), (11, .v (.int .i64 l.length)), (12, .v (.int .i64 x.1))], [(2, v2, ⟨0, rosC r⟩), (4, v4, ⟨0, [.v (.slice none 0 0), .v (.int .i64 0)]⟩), (6, v6, ⟨0, rosC x.2.1⟩)]⟩) (fun x => l.length - x.1) (0, r, 0) ⟨by simp, by simp, hs, by simp⟩ (by simp) (by simp [i64c]) ?_
  rintro ⟨k, w, z⟩ ⟨hk, hw, hws, hwe⟩
  simp only at hk hw hws hwe ⊢
  by_cases h1 : k < l.length
  · have hat := rowG_at h1
    have hvk := hv l[k] (List.getElem_mem h1)
    rw [List.drop_eq_getElem_cons h1] at hw
    have e1 : IntKind.i64.wrap ((k : Int) + 1) = ((k + 1 : Nat) : Int) := by rw [i64_id (by omega) (by omega)]; rfl
    simp [h1, hat, i64c]
    intro v8
    refine callT_eq [] (ChkR_T w l[k] hvk) ?_
    by_cases hc : w.chk l[k] = 0
    · simp [Chg.cells, i64c, hc]
      refine callT_eq [] (OneR_T w l[k] hws hc (by omega) (by omega)) ?_
      have hgo : r.goW (w.app l[k]) (l.drop (k + 1)) = r.goW r l := by rw [← hw, Ros.goW, if_neg (by simp [hc])]
      simp [Chg.cells, i64c]
      exact SLx.again (k + 1, w.app l[k], 0) ⟨by simp only; omega, hgo, app_lt hws hc, by simp only [Ros.app]; omega⟩ (by simp only; omega) (by simp [e1]) (by simp [i64c])
    · have hno : r.goW r l = (r, w.chk l[k]) := by rw [← hw, Ros.goW, if_pos hc]
      simp [Chg.cells, i64c, hc]
      refine draw_g [0, 1, 2, 3] 4 [(3, [1, 2])] (by kernel_rfl) (by kernel_rfl) (by kernel_rfl) ?_
      simp [i64c]
      refine callT_eq [] (ChkR_T w l[k] hvk) ?_
      simp [Chg.cells, i64c, hc, hno]
  · have : k = l.length := by omega
    subst this
    have hno : r.goW r l = (w, 0) := by rw [← hw]; simp [Ros.goW]
    simp [i64c, hno]
end Go.Proofs.YtgkhedmjkahclaaGreatDoor.TL
