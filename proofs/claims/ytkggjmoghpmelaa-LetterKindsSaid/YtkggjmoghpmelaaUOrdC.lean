/- Orders: the reference's check. -/
import Derived.Test.YtkggjmoghpmelaaUOrd
import Derived.Test.YtkggjmoghpmelaaUR2
namespace Go.Proofs.Ytkggjmoghpmelaa.TL
open Go
set_option linter.unusedVariables false
set_option linter.unusedSimpArgs false

def idR (n : Int) : Bool := decide (1 ≤ n) && decide (n < 1099511627776)
def placeR (n : Int) : Bool := decide (-1000 ≤ n) && decide (n ≤ 1000)
set_option maxRecDepth 100000 in
theorem IdR_T (n : Int) : callT Try.prog 81 [i64c n] ⟨[], []⟩ (fun r h => r = .v (.bool (idR n)) ∧ h = []) := by
  refine callT_of_body [0, 2] [] Try.func81 rfl (by decide) (by kernel_rfl) rfl ?_
  simp [i64c]
  rfl
set_option maxRecDepth 100000 in
theorem PlaceR_T (n : Int) : callT Try.prog 82 [i64c n] ⟨[], []⟩ (fun r h => r = .v (.bool (placeR n)) ∧ h = []) := by
  refine callT_of_body [0, 2] [] Try.func82 rfl (by decide) (by kernel_rfl) rfl ?_
  simp [i64c]
  rfl

def Ord.chkR (o : Ord) : Int :=
  if o.k = 1 then (if idR o.u = true ∧ placeR o.a = true ∧ placeR o.b = true then 0 else 4)
  else if o.k = 2 then (if idR o.u = true ∧ idR o.a = true ∧ o.b = 0 then 0 else 4)
  else if o.k = 3 then (if o.u = 0 ∧ 0 ≤ o.a ∧ o.a ≤ 255 ∧ placeR o.b = true then 0 else 4)
  else if o.k = 4 then (if idR o.u = true ∧ o.a = 0 ∧ o.b = 0 then 0 else 4) else 7
theorem chk_eq (o : Ord) : o.chkR = o.chk := by
  simp only [Ord.chkR, Ord.chk, idR, placeR, far, Bool.and_eq_true, Bool.or_eq_true, decide_eq_true_eq]
  repeat' split
  all_goals omega

set_option maxHeartbeats 1000000 in
set_option maxRecDepth 100000 in
theorem CheckR_1 (u a b : Int) : callT Try.prog 72 [.agg (Ord.mk 1 u a b).cells] ⟨[], []⟩ (fun r h => r = i64c (Ord.mk 1 u a b).chkR ∧ h = []) := by
  refine callT_of_body [0, 1, 2, 3, 5, 6, 21, 36, 56, 71] [] Try.func72 rfl (by decide) (by kernel_rfl) rfl ?_
  simp [Ord.cells, i64c]
  intro v
  refine callT_eq [] (IdR_T u) ?_
  by_cases h1 : idR u = true
  · simp [i64c, h1]
    refine callT_eq [] (PlaceR_T a) ?_
    by_cases h2 : placeR a = true
    · simp [i64c, h2]
      refine callT_eq [] (PlaceR_T b) ?_
      by_cases h3 : placeR b = true
      · simp [i64c, h1, h2, h3, Ord.chkR]
      · simp [i64c, h1, h2, h3, Ord.chkR]
    · simp [i64c, h1, h2, Ord.chkR]
  · simp [i64c, h1, Ord.chkR]
set_option maxHeartbeats 1000000 in
set_option maxRecDepth 100000 in
theorem CheckR_2 (u a b : Int) : callT Try.prog 72 [.agg (Ord.mk 2 u a b).cells] ⟨[], []⟩ (fun r h => r = i64c (Ord.mk 2 u a b).chkR ∧ h = []) := by
  refine callT_of_body [0, 1, 2, 3, 5, 6, 21, 36, 56, 71] [] Try.func72 rfl (by decide) (by kernel_rfl) rfl ?_
  simp [Ord.cells, i64c]
  intro v
  refine callT_eq [] (IdR_T u) ?_
  by_cases h1 : idR u = true
  · simp [i64c, h1]
    refine callT_eq [] (IdR_T a) ?_
    by_cases h2 : idR a = true
    · by_cases h3 : b = 0
      · simp [i64c, h1, h2, h3, Ord.chkR]
      · simp [i64c, h1, h2, h3, Ord.chkR]
    · simp [i64c, h1, h2, Ord.chkR]
  · simp [i64c, h1, Ord.chkR]
set_option maxHeartbeats 1000000 in
set_option maxRecDepth 100000 in
theorem CheckR_3 (u a b : Int) : callT Try.prog 72 [.agg (Ord.mk 3 u a b).cells] ⟨[], []⟩ (fun r h => r = i64c (Ord.mk 3 u a b).chkR ∧ h = []) := by
  refine callT_of_body [0, 1, 2, 3, 5, 6, 21, 36, 56, 71] [] Try.func72 rfl (by decide) (by kernel_rfl) rfl ?_
  by_cases h1 : u = 0
  · by_cases h2 : 0 ≤ a
    · by_cases h3 : a ≤ 255
      · simp [Ord.cells, i64c, h1, h2, h3]
        intro v
        refine callT_eq [] (PlaceR_T b) ?_
        by_cases h4 : placeR b = true
        · simp [i64c, h1, h2, h3, h4, Ord.chkR]
        · simp [i64c, h1, h2, h3, h4, Ord.chkR]
      · simp [Ord.cells, i64c, h1, h2, h3, Ord.chkR]
    · simp [Ord.cells, i64c, h1, h2, Ord.chkR]
  · simp [Ord.cells, i64c, h1, Ord.chkR]
set_option maxHeartbeats 1000000 in
set_option maxRecDepth 100000 in
theorem CheckR_4 (u a b : Int) : callT Try.prog 72 [.agg (Ord.mk 4 u a b).cells] ⟨[], []⟩ (fun r h => r = i64c (Ord.mk 4 u a b).chkR ∧ h = []) := by
  refine callT_of_body [0, 1, 2, 3, 5, 6, 21, 36, 56, 71] [] Try.func72 rfl (by decide) (by kernel_rfl) rfl ?_
  simp [Ord.cells, i64c]
  intro v
  refine callT_eq [] (IdR_T u) ?_
  by_cases h1 : idR u = true <;> by_cases h2 : a = 0 <;> by_cases h3 : b = 0 <;> simp [i64c, h1, h2, h3, Ord.chkR]
set_option maxHeartbeats 1000000 in
set_option maxRecDepth 100000 in
theorem CheckR_0 (k u a b : Int) (h1 : ¬ k = 1) (h2 : ¬ k = 2) (h3 : ¬ k = 3) (h4 : ¬ k = 4) : callT Try.prog 72 [.agg (Ord.mk k u a b).cells] ⟨[], []⟩ (fun r h => r = i64c (Ord.mk k u a b).chkR ∧ h = []) := by
  refine callT_of_body [0, 1, 2, 3, 5, 6, 21, 36, 56, 71] [] Try.func72 rfl (by decide) (by kernel_rfl) rfl ?_
  simp [Ord.cells, i64c, h1, h2, h3, h4, Ord.chkR]
theorem CheckR_T (o : Ord) : callT Try.prog 72 [.agg o.cells] ⟨[], []⟩ (fun r h => r = i64c o.chk ∧ h = []) := by
  rw [← chk_eq]
  obtain ⟨k, u, a, b⟩ := o
  by_cases h1 : k = 1
  · subst h1; exact CheckR_1 u a b
  by_cases h2 : k = 2
  · subst h2; exact CheckR_2 u a b
  by_cases h3 : k = 3
  · subst h3; exact CheckR_3 u a b
  by_cases h4 : k = 4
  · subst h4; exact CheckR_4 u a b
  exact CheckR_0 k u a b h1 h2 h3 h4

end Go.Proofs.Ytkggjmoghpmelaa.TL
