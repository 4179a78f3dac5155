/- Both answers to a batch. -/
import Derived.Test.YtfhckddfmlljfaaTexts9cOrderTexts
namespace Go.Proofs.Ytfhckddfmlljfaa.QOrderTexts
open Go.Proofs.Ytfhckddfmlljfaa Go.RowKit Go.Proofs.YtfhckddfmlljfaaW.PrintWords Go.Proofs.YtfhckddfmlljfaaW.PrintLast Go.Proofs.YtfhckddfmlljfaaW.PrintMore
set_option linter.unusedVariables false
set_option linter.unusedSimpArgs false
def tw (x : S44) : S77 := ⟨x.f0, x.f1, x.f2, x.f3⟩
theorem at44 (l : List S44) {i : Nat} (hi : i < l.length) : rd_T44 l (i : Int) = l[i] := by simp [rd_T44, List.getD_eq_getElem?_getD, hi]
theorem at77 (l : List S44) {i : Nat} (hi : i < l.length) : rd_T77 (l.map tw) (i : Int) = tw l[i] := by simp [rd_T77, List.getD_eq_getElem?_getD, hi]
/-- An order that may be. -/
def May (x : S44) : Prop := M x ∧ ∀ k, order_Order_Check.f (k + 6) x.f0 x.f1 x.f2 x.f3 = some 0
theorem check_any (x : S44) : ∃ c, (∀ k, order_Order_Check.f (k + 6) x.f0 x.f1 x.f2 x.f3 = some c) ∧ cotillionref09_Check.f x.f0 x.f1 x.f2 x.f3 = some c ∧ (c = 0 → May x) := by
  obtain ⟨c, _, h2, h3⟩ := check_both 0 x
  have h1 : ∀ k, order_Order_Check.f (k + 6) x.f0 x.f1 x.f2 x.f3 = some c := fun k => by
    obtain ⟨c', g1, g2, _⟩ := check_both k x
    rw [g1, ← g2, h2]
  exact ⟨c, h1, h2, fun h => ⟨h3 h, fun k => by rw [h1, h]⟩⟩
theorem batch_l0 (l : List S44) (hl : l.length ≤ 1000) : ∀ (d q i : Nat), i + d = l.length →
    ∃ c, order_Batch_Check.l0 (d + 7 + q) l l.length i = some c ∧ cotillionref09_CheckAll.l0 (d + 7 + q) (l.map tw) l.length i = some c ∧ (c = 0 → ∀ x ∈ l.drop i, May x)
  | 0, q, i, hd => by
    rw [show 0 + 7 + q = (6 + q) + 1 from by omega]
    refine ⟨0, ?_, ?_, fun _ x hx => by rw [List.drop_of_length_le (by omega)] at hx; cases hx⟩
    · rw [order_Batch_Check.l0, if_neg (by omega)]
    · rw [cotillionref09_CheckAll.l0, if_neg (by omega)]
  | d + 1, q, i, hd => by
    obtain ⟨c, h1, h2, h3⟩ := batch_l0 l hl d q (i + 1) (by omega)
    have hi : i < l.length := by omega
    obtain ⟨e, g1, g2, g3⟩ := check_any l[i]
    have hw : wrap64 ((i : Int) + 1) = ((i + 1 : Nat) : Int) := wrap_in (by omega) (by omega)
    have gk := g1 (d + 1 + q)
    rw [show d + 1 + q + 6 = d + 7 + q from by omega] at gk
    have ex : l.drop i = l[i] :: l.drop (i + 1) := List.drop_eq_getElem_cons hi
    rw [show d + 1 + 7 + q = (d + 7 + q) + 1 from by omega]
    by_cases he : e = 0
    · refine ⟨c, ?_, ?_, fun hc x hx => ?_⟩
      · rw [order_Batch_Check.l0, if_pos (by omega), if_pos (by omega), if_pos (by omega), at44 l hi, gk, Option.bind_some, if_pos he, hw, h1]
      · rw [cotillionref09_CheckAll.l0, if_pos (by omega), if_pos (by omega), if_pos (by simp; omega), at77 l hi]
        simp only [tw, g2, Option.bind_some]
        rw [if_pos he, hw, h2]
      · rw [ex] at hx
        rcases List.mem_cons.1 hx with rfl | hx
        · exact g3 he
        · exact h3 hc x hx
    · refine ⟨e, ?_, ?_, fun hc => absurd hc he⟩
      · rw [order_Batch_Check.l0, if_pos (by omega), if_pos (by omega), if_pos (by omega), at44 l hi, gk, Option.bind_some, if_neg he]
      · rw [cotillionref09_CheckAll.l0, if_pos (by omega), if_pos (by omega), if_pos (by simp; omega), at77 l hi]
        simp only [tw, g2, Option.bind_some]
        rw [if_neg he]
theorem batch_both (l : List S44) (hl : l.length ≤ 1000) (k : Nat) (hk : 1010 ≤ k) : ∃ c, order_Batch_Check.f k l = some c ∧ cotillionref09_CheckAll.f k (l.map tw) = some c ∧ (c = 0 → l.length ≤ 8 ∧ ∀ x ∈ l, May x) := by
  unfold order_Batch_Check.f cotillionref09_CheckAll.f
  rw [List.length_map]
  by_cases h8 : (l.length : Int) > 8
  · exact ⟨8, by rw [if_pos h8], by rw [if_pos h8], fun h => absurd h (by decide)⟩
  · obtain ⟨q, rfl⟩ : ∃ q, k = l.length + 7 + q := ⟨k - (l.length + 7), by omega⟩
    obtain ⟨c, h1, h2, h3⟩ := batch_l0 l hl l.length q 0 (by omega)
    exact ⟨c, by rw [if_neg h8]; exact h1, by rw [if_neg h8]; exact h2, fun h => ⟨by omega, by simpa using h3 h⟩⟩
end Go.Proofs.Ytfhckddfmlljfaa.QOrderTexts
