/- The law RosterRows, as the code runs. -/
import Derived.Test.YtgkhedmjkahclaaGreatDoorURos
import Derived.Test.YtgkhedmjkahclaaGreatDoorURosR4
namespace Go.Proofs.YtgkhedmjkahclaaGreatDoor.TL
open Go
set_option linter.unusedVariables false
set_option linter.unusedSimpArgs false

theorem goW_lt {was : Ros} (hw : was.s < 2 ^ 32) : ∀ (l : List Chg) (r : Ros), r.s < 2 ^ 32 → (was.goW r l).1.s < 2 ^ 32
  | [], r, h => h
  | c :: l, r, h => by
    unfold Ros.goW
    split
    · exact hw
    · rename_i hc
      exact goW_lt hw l _ (app_lt h (by simpa using hc))
theorem goW_no {was : Ros} : ∀ (l : List Chg) (r : Ros), (was.goW r l).2 ≠ 0 → (was.goW r l).1 = was
  | [], r, h => absurd rfl h
  | c :: l, r, h => by
    unfold Ros.goW at h ⊢
    split
    · rfl
    · rename_i hc
      rw [if_neg hc] at h
      exact goW_no l _ h
theorem goW_e {was : Ros} : ∀ (l : List Chg) (r : Ros), (was.goW r l).2 = 0 → (was.goW r l).1.e = r.e + l.length
  | [], r, h => by simp [Ros.goW]
  | c :: l, r, h => by
    unfold Ros.goW at h ⊢
    split
    · rename_i hc
      rw [if_pos hc] at h
      exact absurd h hc
    · rename_i hc
      rw [if_neg hc] at h
      rw [goW_e l _ h]
      simp only [Ros.app, List.length_cons]
      omega
theorem go1_ok {R : Ros} {c : Chg} (h : R.chk c = 0) : R.goW R [c] = (R.app c, 0) := by
  rw [Ros.goW, if_neg (by simp [h])]; rfl
theorem go1_no {R : Ros} {c : Chg} (h : R.chk c ≠ 0) : R.goW R [c] = (R, R.chk c) := by
  rw [Ros.goW, if_pos h]
theorem few_v {l : List Chg} : ∀ c ∈ few l, c.v.length ≤ 34 := fun c hc => by
  obtain ⟨d, _, rfl⟩ := List.mem_map.1 hc
  simp [few1]
  omega

end Go.Proofs.YtgkhedmjkahclaaGreatDoor.TL
