/- The reference's roster: Has, Of, Most. -/
import Derived.Test.YtkggjmoghpmelaaURos
namespace Go.Proofs.Ytkggjmoghpmelaa.TL
open Go
set_option linter.unusedVariables false
set_option linter.unusedSimpArgs false

theorem isl_at {l : List Int} {k : Nat} (h : k < l.length) : List.drop k (l.map i64c) = i64c l[k] :: List.drop (k + 1) (l.map i64c) := by
  rw [List.drop_eq_getElem_cons (by simpa using h)]; simp
abbrev rosL (l : List Int) (e : Int) : TV := .agg [.isl (l.map i64c) l.length, i64c e]
abbrev rRos (r : Ros) : TV := rosL (r.all 32) r.e
theorem mem_all {r : Ros} {p : Int} : p ∈ r.all 32 ↔ r.has p = true := by
  unfold Ros.all Ros.has
  simp only [List.mem_map, List.mem_filter, List.mem_range, Bool.and_eq_true, decide_eq_true_eq]
  constructor
  · rintro ⟨k, ⟨h1, h2⟩, rfl⟩
    exact ⟨Int.natCast_nonneg k, by simp; omega, by simpa using h2⟩
  · rintro ⟨h0, h1, h2⟩
    exact ⟨p.toNat, ⟨by omega, h2⟩, by simp; omega⟩
theorem all_length (r : Ros) : (r.all 32).length = r.len := by simp [Ros.all, Ros.len, pop32]

theorem setOf_bit (l : List Int) (k : Nat) (hk : k < 32) : (setOf l).testBit k = decide ((k : Int) ∈ l) := by
  have key : ∀ (l : List Int) (s : Nat), (l.foldl addP s).testBit k = (s.testBit k || decide ((k : Int) ∈ l)) := fun l => by
    induction l with
    | nil => intro s; simp
    | cons p l ih =>
      intro s
      rw [List.foldl_cons, ih]
      unfold addP
      by_cases hp : 0 ≤ p ∧ p < 32
      · rw [if_pos hp, Nat.testBit_or, Nat.testBit_two_pow]
        by_cases hkp : p.toNat = k
        · have : (k : Int) = p := by omega
          simp [hkp, this]
        · have : ¬ (k : Int) = p := by omega
          simp [hkp, this]
      · rw [if_neg hp]
        have : ¬ (k : Int) = p := by omega
        simp [this]
  simpa [setOf] using key l 0

end Go.Proofs.Ytkggjmoghpmelaa.TL
