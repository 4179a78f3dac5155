/- The reference's roster: Most, Check. -/
/- The reference's roster: behind a change. -/
/- The reference's roster: behind changes. -/
/- The law RosterRows, as the code runs. -/
import Derived.Test.YtnkdkajllmopaaaGreatURos
namespace Go.Proofs.YtnkdkajllmopaaaGreat.TL
open Go
set_option linter.unusedVariables false
set_option linter.unusedSimpArgs false

end Go.Proofs.YtnkdkajllmopaaaGreat.TL
namespace Go.Proofs.YtnkdkajllmopaaaGreat.TL
open Go
set_option linter.unusedVariables false
set_option linter.unusedSimpArgs false

theorem has_nat {r : Ros} {i : Nat} (hi : i < 32) : ((i : Int) ∈ r.all 32) ↔ r.s.testBit i = true := by
  rw [mem_all]
  have : (i : Int) < 32 := by omega
  simp [Ros.has, this]
theorem set_add {r : Ros} {p : Int} (hs : r.s < 2 ^ 32) (h0 : 0 ≤ p) (h1 : p < 32) (hp : r.has p = false) : setOf (r.all 32 ++ [p]) = r.s ^^^ 2 ^ p.toNat := by
  have hb : r.s.testBit p.toNat = false := by simpa [Ros.has, h0, h1] using hp
  have hx : r.s ^^^ 2 ^ p.toNat < 2 ^ 32 := Nat.xor_lt_two_pow hs (pow_lt32 (by omega))
  refine Nat.eq_of_testBit_eq fun i => ?_
  by_cases hi : i < 32
  · rw [setOf_bit _ _ hi, Nat.testBit_xor, Nat.testBit_two_pow]
    by_cases hpi : p.toNat = i
    · have : (i : Int) = p := by omega
      subst hpi
      simp [hb, this]
    · have : ¬ (i : Int) = p := by omega
      simp only [List.mem_append, List.mem_singleton, this, or_false, hpi, decide_false, Bool.xor_false]
      by_cases hb2 : r.s.testBit i = true
      · simp [hb2, (has_nat hi).2 hb2]
      · have : ¬ (i : Int) ∈ r.all 32 := fun hh => hb2 ((has_nat hi).1 hh)
        simp [hb2, this]
  · have a1 : (setOf (r.all 32 ++ [p])).testBit i = false := Nat.testBit_lt_two_pow (Nat.lt_of_lt_of_le (setOf_lt _) (Nat.pow_le_pow_right (by decide) (by omega)))
    have a2 : (r.s ^^^ 2 ^ p.toNat).testBit i = false := Nat.testBit_lt_two_pow (Nat.lt_of_lt_of_le hx (Nat.pow_le_pow_right (by decide) (by omega)))
    rw [a1, a2]
theorem set_del {r : Ros} {c : Chg} (h0 : 0 ≤ c.p) (h1 : c.p < 32) (hp : r.has c.p = true) : (r.all 32).filter (fun x => decide (x ≠ c.p)) = (r.app c).all 32 := by
  have hb : r.s.testBit c.p.toNat = true := by simpa [Ros.has, h0, h1] using hp
  unfold Ros.all Ros.app
  rw [List.filter_map, List.filter_filter]
  congr 1
  refine List.filter_congr fun i hi => ?_
  simp only [Function.comp, Nat.testBit_xor, Nat.testBit_two_pow]
  by_cases hpi : c.p.toNat = i
  · have : (i : Int) = c.p := by omega
    subst hpi
    simp [hb]
    omega
  · have : ¬ (i : Int) = c.p := by omega
    simp [this, hpi]

@[simp] theorem AllC_i64c (l : List Int) : AllC (l.map i64c) := fun x hx => by
  obtain ⟨n, _, rfl⟩ := List.mem_map.1 hx
  rfl

def dropP (p : Int) (l : List Int) : List Int := l.filter fun x => decide (x ≠ p)
end Go.Proofs.YtnkdkajllmopaaaGreat.TL
namespace Go.Proofs.YtnkdkajllmopaaaGreat.TL
open Go
set_option linter.unusedVariables false
set_option linter.unusedSimpArgs false

abbrev rosC (r : Ros) : List TV := [.isl ((r.all 32).map i64c) (r.all 32).length, i64c r.e]
end Go.Proofs.YtnkdkajllmopaaaGreat.TL
namespace Go.Proofs.YtnkdkajllmopaaaGreat.TL
open Go
set_option linter.unusedVariables false
set_option linter.unusedSimpArgs false

theorem goW_lt {was : Ros} (hw : was.s < 2 ^ 32) : ∀ (l : List Chg) (r : Ros), r.s < 2 ^ 32 → (was.goW r l).1.s < 2 ^ 32
  | [], r, h => h
  | c :: l, r, h => by
    unfold Ros.goW
    split
    · exact hw
    · rename_i hc
      exact goW_lt hw l _ (app_lt h (by simpa using hc))
theorem goW_no {was : Ros} : ∀ (l : List Chg) (r : Ros), (was.goW r l).2 ≠ 0 → (was.goW r l).1 = was
  | [], r, h => absurd rfl h
  | c :: l, r, h => by
    unfold Ros.goW at h ⊢
    split
    · rfl
    · rename_i hc
      rw [if_neg hc] at h
      exact goW_no l _ h
theorem goW_e {was : Ros} : ∀ (l : List Chg) (r : Ros), (was.goW r l).2 = 0 → (was.goW r l).1.e = r.e + l.length
  | [], r, h => by simp [Ros.goW]
  | c :: l, r, h => by
    unfold Ros.goW at h ⊢
    split
    · rename_i hc
      rw [if_pos hc] at h
      exact absurd h hc
    · rename_i hc
      rw [if_neg hc] at h
      rw [goW_e l _ h]
      simp only [Ros.app, List.length_cons]
      omega
theorem go1_ok {R : Ros} {c : Chg} (h : R.chk c = 0) : R.goW R [c] = (R.app c, 0) := by
  rw [Ros.goW, if_neg (by simp [h])]; rfl
theorem go1_no {R : Ros} {c : Chg} (h : R.chk c ≠ 0) : R.goW R [c] = (R, R.chk c) := by
  rw [Ros.goW, if_pos h]
theorem few_v {l : List Chg} : ∀ c ∈ few l, c.v.length ≤ 34 := fun c hc => by
  obtain ⟨d, _, rfl⟩ := List.mem_map.1 hc
  simp [few1]
  omega

end Go.Proofs.YtnkdkajllmopaaaGreat.TL
