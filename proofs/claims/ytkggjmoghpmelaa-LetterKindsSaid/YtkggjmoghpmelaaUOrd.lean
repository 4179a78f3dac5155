/- Orders: what each of their functions does. -/
import Derived.Test.YtkggjmoghpmelaaUOut
namespace Go.Proofs.Ytkggjmoghpmelaa.TL
open Go
set_option linter.unusedVariables false
set_option linter.unusedSimpArgs false

structure Ord where
  k : Int
  u : Int
  a : Int
  b : Int

def Ord.cells (o : Ord) : List TV := [i64c o.k, i64c o.u, i64c o.a, i64c o.b]
def rowC (l : List Ord) : List TV := (l.map Ord.cells).flatten
def far (n : Int) : Bool := decide (n < -1000) || decide (1000 < n)
/-- The error's number. -/
def Ord.chk (o : Ord) : Int :=
  if o.k < 1 ∨ 4 < o.k then 7
  else if o.u < 0 ∨ 1099511627776 ≤ o.u ∨ ¬ (o.k = 3 ↔ o.u = 0) then 4
  else if o.k = 4 ∧ (o.a ≠ 0 ∨ o.b ≠ 0) ∨ o.k = 2 ∧ (o.a < 1 ∨ 1099511627776 ≤ o.a ∨ o.b ≠ 0) then 4
  else if o.k = 1 ∧ (far o.a ∨ far o.b) ∨ o.k = 3 ∧ (o.a < 0 ∨ 255 < o.a ∨ far o.b) then 4 else 0

set_option maxRecDepth 100000 in
theorem Far_T (n : Int) : callT Try.prog 79 [i64c n] ⟨[], []⟩ (fun r h => r = .v (.bool (far n)) ∧ h = []) := by
  refine callT_of_body [0, 2] [] Try.func79 rfl (by decide) (by kernel_rfl) rfl ?_
  simp [i64c]
  rfl

set_option maxRecDepth 100000 in
theorem Check_1 (u a b : Int) (u1 : 0 ≤ u) (u2 : u < 1099511627776) (u3 : ¬ u = 0) : callT Try.prog 65 [.agg (Ord.mk 1 u a b).cells] ⟨[], []⟩ (fun r h => r = i64c (Ord.mk 1 u a b).chk ∧ h = []) := by
  refine callT_of_body [0, 1, 2, 3, 12, 30, 62] [] Try.func65 rfl (by decide) (by kernel_rfl) rfl ?_
  simp [Ord.cells, i64c, u1, u2, u3]
  intro v
  refine ⟨fun h => by omega, ?_⟩
  refine callT_eq [] (Far_T a) ?_
  by_cases fa : far a = true
  · simp [i64c, fa, Ord.chk, u1, u2, u3]
  · simp [i64c, fa]
    refine callT_eq [] (Far_T b) ?_
    by_cases fb : far b = true <;> simp [i64c, fa, fb, Ord.chk, u1, u2, u3]

set_option maxRecDepth 100000 in
theorem Check_2 (u a b : Int) (u1 : 0 ≤ u) (u2 : u < 1099511627776) (u3 : ¬ u = 0) : callT Try.prog 65 [.agg (Ord.mk 2 u a b).cells] ⟨[], []⟩ (fun r h => r = i64c (Ord.mk 2 u a b).chk ∧ h = []) := by
  refine callT_of_body [0, 1, 2, 3, 12, 30, 62] [] Try.func65 rfl (by decide) (by kernel_rfl) rfl ?_
  simp [Ord.cells, i64c, u1, u2, u3]
  refine ⟨fun h => by omega, fun h => ?_, fun h1 h2 h3 => ?_⟩
  · have : ¬ (u < 0 ∨ 1099511627776 ≤ u) := by omega
    simp [Ord.chk, this, u3]; omega
  · simp [Ord.chk, u1, u2, u3]; omega

set_option maxRecDepth 100000 in
theorem Check_4 (u a b : Int) (u1 : 0 ≤ u) (u2 : u < 1099511627776) (u3 : ¬ u = 0) : callT Try.prog 65 [.agg (Ord.mk 4 u a b).cells] ⟨[], []⟩ (fun r h => r = i64c (Ord.mk 4 u a b).chk ∧ h = []) := by
  refine callT_of_body [0, 1, 2, 3, 12, 30, 62] [] Try.func65 rfl (by decide) (by kernel_rfl) rfl ?_
  have : ¬ (u < 0 ∨ 1099511627776 ≤ u) := by omega
  by_cases h1 : a = 0 <;> by_cases h2 : b = 0 <;> simp [Ord.cells, i64c, u1, u2, u3, h1, h2, Ord.chk, this]

set_option maxRecDepth 100000 in
theorem Check_3 (a b : Int) : callT Try.prog 65 [.agg (Ord.mk 3 0 a b).cells] ⟨[], []⟩ (fun r h => r = i64c (Ord.mk 3 0 a b).chk ∧ h = []) := by
  refine callT_of_body [0, 1, 2, 3, 12, 30, 62] [] Try.func65 rfl (by decide) (by kernel_rfl) rfl ?_
  by_cases h1 : a < 0
  · have h2 : ¬ 255 < a := by omega
    simp [Ord.cells, i64c, h1, h2, Ord.chk]
  · by_cases h2 : 255 < a
    · simp [Ord.cells, i64c, h1, h2, Ord.chk]
    · simp [Ord.cells, i64c, h1, h2]
      intro v
      refine callT_eq [] (Far_T b) ?_
      by_cases fb : far b = true <;> simp [i64c, fb, Ord.chk, h1, h2]

set_option maxRecDepth 100000 in
theorem Check_0 (k u a b : Int) (h0 : k < 1 ∨ 4 < k) : callT Try.prog 65 [.agg (Ord.mk k u a b).cells] ⟨[], []⟩ (fun r h => r = i64c (Ord.mk k u a b).chk ∧ h = []) := by
  refine callT_of_body [0, 1, 2, 3, 12, 30, 62] [] Try.func65 rfl (by decide) (by kernel_rfl) rfl ?_
  have : (decide (k < 1) || decide (4 < k)) = true := by simpa using h0
  simp [Ord.cells, i64c, this, Ord.chk, h0]

set_option maxRecDepth 100000 in
theorem Check_u (k u a b : Int) (hk : k = 1 ∨ k = 2 ∨ k = 3 ∨ k = 4) (hu : u < 0 ∨ 1099511627776 ≤ u ∨ ¬ (k = 3 ↔ u = 0)) : callT Try.prog 65 [.agg (Ord.mk k u a b).cells] ⟨[], []⟩ (fun r h => r = i64c (Ord.mk k u a b).chk ∧ h = []) := by
  refine callT_of_body [0, 1, 2, 3, 12, 30, 62] [] Try.func65 rfl (by decide) (by kernel_rfl) rfl ?_
  have h1 : (decide (u < 0) || decide (1099511627776 ≤ u) || !(decide (k = 3) == decide (u = 0))) = true := by
    simpa [or_assoc] using hu
  have h2 : (Ord.mk k u a b).chk = 4 := by
    have h3 : ¬ (k < 1 ∨ 4 < k) := by omega
    simp only [Ord.chk]
    rw [if_neg h3, if_pos hu]
  have h3 : (decide (k < 1) || decide (4 < k)) = false := by
    rw [Bool.or_eq_false_iff, decide_eq_false_iff_not, decide_eq_false_iff_not]; omega
  rw [h2]
  simp [Ord.cells, i64c, h1, h3]

theorem Check_T (o : Ord) : callT Try.prog 65 [.agg o.cells] ⟨[], []⟩ (fun r h => r = i64c o.chk ∧ h = []) := by
  obtain ⟨k, u, a, b⟩ := o
  by_cases h0 : k < 1 ∨ 4 < k
  · exact Check_0 k u a b h0
  · have hk : k = 1 ∨ k = 2 ∨ k = 3 ∨ k = 4 := by omega
    by_cases hu : u < 0 ∨ 1099511627776 ≤ u ∨ ¬ (k = 3 ↔ u = 0)
    · exact Check_u k u a b hk hu
    · have hu' : (k = 3 ↔ u = 0) := Classical.not_not.1 fun h => hu (.inr (.inr h))
      rcases hk with rfl | rfl | rfl | rfl
      · simp at hu'; exact Check_1 u a b (by omega) (by omega) hu'
      · simp at hu'; exact Check_2 u a b (by omega) (by omega) hu'
      · simp at hu'; subst hu'; exact Check_3 a b
      · simp at hu'; exact Check_4 u a b (by omega) (by omega) hu'
end Go.Proofs.Ytkggjmoghpmelaa.TL
