/- Any batch that may be: may it be (both answers), its bytes (both), read again. -/
import Derived.Test.YtfhckddfmlljfaaReadGOrderTexts
import Derived.Test.YtfhckddfmlljfaaQOrderTextsx8
namespace Go.Proofs.Ytfhckddfmlljfaa.QOrderTexts
open Go.Proofs.Ytfhckddfmlljfaa Go.RowKit Go.Proofs.YtfhckddfmlljfaaW.PrintWords Go.Proofs.YtfhckddfmlljfaaW.PrintLast Go.Proofs.YtfhckddfmlljfaaW.PrintMore
set_option linter.unusedVariables false
set_option linter.unusedSimpArgs false

/-- An order that may be, as far as its bytes go. -/
def M (x : S44) : Prop := (1 ≤ x.f0 ∧ x.f0 ≤ 4) ∧ (0 ≤ x.f1 ∧ x.f1 < 1099511627776) ∧ (-1000 ≤ x.f2 ∧ x.f2 < 1099511627776) ∧ (-1000 ≤ x.f3 ∧ x.f3 ≤ 1000)
theorem far_is (a : Int) : order_far.f a = some (decide (a < -1000 ∨ a > 1000)) := by
  unfold order_far.f
  by_cases h : a < -1000
  · rw [if_pos h]; simp [h]
  · rw [if_neg h]; simp [h]
theorem place_is (a : Int) : cotillionref09_place.f a = some (decide (-1000 ≤ a ∧ a ≤ 1000)) := by
  unfold cotillionref09_place.f
  by_cases h : a ≥ -1000
  · rw [if_pos h]; simp; omega
  · rw [if_neg h]; simp; omega
theorem id_is (a : Int) : cotillionref09_id.f a = some (decide (1 ≤ a ∧ a < 1099511627776)) := by
  unfold cotillionref09_id.f
  by_cases h : a ≥ 1
  · rw [if_pos h]; simp; omega
  · rw [if_neg h]; simp; omega
/-- Both answers to one order, and what 0 says. -/
theorem check_both (k : Nat) (x : S44) : ∃ c, order_Order_Check.f (k + 6) x.f0 x.f1 x.f2 x.f3 = some c ∧ cotillionref09_Check.f x.f0 x.f1 x.f2 x.f3 = some c ∧ (c = 0 → M x) := by
  obtain ⟨a, b, c, d⟩ := x
  simp only [order_Order_Check.f, order_Order_Check.j0, order_Order_Check.j1, order_Order_Check.j2, order_Order_Check.j3, order_Order_Check.j4, far_is, cotillionref09_Check.f, place_is, id_is, Option.bind_some, M]
  rcases (by omega : a < 1 ∨ a = 1 ∨ a = 2 ∨ a = 3 ∨ a = 4 ∨ 4 < a) with h | rfl | rfl | rfl | rfl | h
  · exact ⟨7, by rw [if_pos h, if_pos trivial], by rw [if_neg (by omega), if_neg (by omega), if_neg (by omega), if_neg (by omega)], fun h => absurd h (by decide)⟩
  · by_cases hb : 1 ≤ b ∧ b < 1099511627776
    · have b0 : (b == 0) = false := by rw [beq_eq_false_iff_ne]; omega
      have b1 : ¬ b < 0 := by omega
      have b2 : ¬ b ≥ 1099511627776 := by omega
      by_cases hc : -1000 ≤ c ∧ c ≤ 1000
      · have f2 : ¬ (c < -1000 ∨ c > 1000) := by omega
        by_cases hd : -1000 ≤ d ∧ d ≤ 1000
        · have f3 : ¬ (d < -1000 ∨ d > 1000) := by omega
          exact ⟨0, by simp [b0, b1, b2, f2, f3], by simp [hb, hc, hd], fun _ => ⟨by decide, by omega, by omega, by omega⟩⟩
        · have f3 : (d < -1000 ∨ d > 1000) := by omega
          exact ⟨4, by simp [b0, b1, b2, f2, f3], by simp [hb, hc, hd], fun h => absurd h (by decide)⟩
      · have f2 : (c < -1000 ∨ c > 1000) := by omega
        exact ⟨4, by simp [b0, b1, b2, f2], by simp [hb, hc], fun h => absurd h (by decide)⟩
    · refine ⟨4, ?_, by simp [hb], fun h => absurd h (by decide)⟩
      by_cases b1 : b < 0
      · simp [b1]
      · by_cases b2 : b ≥ 1099511627776
        · simp [b1, b2]
        · have : b = 0 := by omega
          subst this; simp
  · by_cases hb : 1 ≤ b ∧ b < 1099511627776
    · have b0 : (b == 0) = false := by rw [beq_eq_false_iff_ne]; omega
      have b1 : ¬ b < 0 := by omega
      have b2 : ¬ b ≥ 1099511627776 := by omega
      by_cases hc : 1 ≤ c ∧ c < 1099511627776
      · have c1 : ¬ c < 1 := by omega
        have c2 : ¬ c ≥ 1099511627776 := by omega
        by_cases hd : d = 0
        · exact ⟨0, by simp [b0, b1, b2, c1, c2, hd], by simp [hb, hc, hd], fun _ => ⟨by decide, by omega, by omega, by omega⟩⟩
        · exact ⟨4, by simp [b0, b1, b2, c1, c2, hd], by simp [hb, hc, hd], fun h => absurd h (by decide)⟩
      · refine ⟨4, ?_, by simp [hb, hc], fun h => absurd h (by decide)⟩
        by_cases c1 : c < 1
        · simp [b0, b1, b2, c1]
        · have c2 : c ≥ 1099511627776 := by omega
          simp [b0, b1, b2, c1, c2]
    · refine ⟨4, ?_, by simp [hb], fun h => absurd h (by decide)⟩
      by_cases b1 : b < 0
      · simp [b1]
      · by_cases b2 : b ≥ 1099511627776
        · simp [b1, b2]
        · have : b = 0 := by omega
          subst this; simp
  · by_cases hb : b = 0
    · subst hb
      by_cases c1 : c < 0
      · exact ⟨4, by simp [c1], by simp [show ¬ c ≥ 0 by omega], fun h => absurd h (by decide)⟩
      · by_cases c2 : c > 255
        · exact ⟨4, by simp [c1, c2], by simp [show c ≥ 0 by omega, show ¬ c ≤ 255 by omega], fun h => absurd h (by decide)⟩
        · by_cases hd : -1000 ≤ d ∧ d ≤ 1000
          · have f3 : ¬ (d < -1000 ∨ d > 1000) := by omega
            exact ⟨0, by simp [c1, c2, f3], by simp [show c ≥ 0 by omega, show c ≤ 255 by omega, hd], fun _ => ⟨by decide, by decide, by omega, by omega⟩⟩
          · have f3 : (d < -1000 ∨ d > 1000) := by omega
            exact ⟨4, by simp [c1, c2, f3], by simp [show c ≥ 0 by omega, show c ≤ 255 by omega, hd], fun h => absurd h (by decide)⟩
    · refine ⟨4, ?_, by simp [hb], fun h => absurd h (by decide)⟩
      by_cases b1 : b < 0
      · simp [b1]
      · by_cases b2 : b ≥ 1099511627776
        · simp [b1, b2]
        · simp [b1, b2, hb]
  · by_cases hb : 1 ≤ b ∧ b < 1099511627776
    · have b0 : (b == 0) = false := by rw [beq_eq_false_iff_ne]; omega
      have b1 : ¬ b < 0 := by omega
      have b2 : ¬ b ≥ 1099511627776 := by omega
      by_cases hc : c = 0
      · by_cases hd : d = 0
        · exact ⟨0, by simp [b0, b1, b2, hc, hd], by simp [hb, hc, hd], fun _ => ⟨by decide, by omega, by omega, by omega⟩⟩
        · exact ⟨4, by simp [b0, b1, b2, hc, hd], by simp [hb, hc, hd], fun h => absurd h (by decide)⟩
      · exact ⟨4, by simp [b0, b1, b2, hc], by simp [hb, hc], fun h => absurd h (by decide)⟩
    · refine ⟨4, ?_, by simp [hb], fun h => absurd h (by decide)⟩
      by_cases b1 : b < 0
      · simp [b1]
      · by_cases b2 : b ≥ 1099511627776
        · simp [b1, b2]
        · have : b = 0 := by omega
          subst this; simp
  · exact ⟨7, by rw [if_neg (by omega), show decide (a > 4) = true from by simpa using h, if_pos rfl], by rw [if_neg (by omega), if_neg (by omega), if_neg (by omega), if_neg (by omega)], fun h => absurd h (by decide)⟩
end Go.Proofs.Ytfhckddfmlljfaa.QOrderTexts
