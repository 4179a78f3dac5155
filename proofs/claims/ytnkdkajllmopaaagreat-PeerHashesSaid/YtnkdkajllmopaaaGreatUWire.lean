/- Numbers in bytes, and back: plain laws. -/
import Derived.Test.YtnkdkajllmopaaaGreatUIn
import Derived.Test.YtnkdkajllmopaaaGreatUOut
namespace Go.Proofs.YtnkdkajllmopaaaGreat.TL
open Go
set_option linter.unusedVariables false
set_option linter.unusedSimpArgs false

theorem ofNat_toNat {n : Nat} (h : n < 256) : (UInt8.ofNat n).toNat = n := by simp; omega
theorem u8_ext {c : UInt8} {n : Nat} (h : c.toNat = n) : UInt8.ofNat n = c := by subst h; simp

/-- A number's bytes are read back. -/
theorem numL_nb (l : List UInt8) : ∀ (n k a : Nat), (k = 0 ∨ 1 ≤ n) → n * 2 ^ (7 * k) < 2 ^ 64 → numL (nb n ++ l) k a = (⟨l, 0⟩, a + n * 2 ^ (7 * k)) := fun n => by
  induction n using Nat.strongRecOn with
  | _ n ih =>
    intro k a hk hn
    have h9 : k = 9 → n ≤ 1 := fun h => by subst h; omega
    by_cases h : n < 128
    · rw [nb_lt h]
      have hc := ofNat_toNat (n := n) (by omega)
      simp only [List.cons_append, List.nil_append, numL, hc]
      rw [if_neg (by omega), if_pos h, Nat.mod_eq_of_lt h]
    · rw [nb_ge h]
      have hc := ofNat_toNat (n := n % 128 + 128) (by omega)
      simp only [List.cons_append, numL, hc]
      rw [if_neg (by omega), if_neg (by omega)]
      have e1 : (n % 128 + 128) % 128 = n % 128 := by omega
      have e2 : 2 ^ (7 * (k + 1)) = 2 ^ (7 * k) * 128 := by rw [show 7 * (k + 1) = 7 * k + 7 by omega, Nat.pow_add]
      have e3 : n / 128 * (2 ^ (7 * k) * 128) = n / 128 * 128 * 2 ^ (7 * k) := by rw [Nat.mul_comm (2 ^ (7 * k)) 128, Nat.mul_assoc]
      have e4 : n / 128 * 128 * 2 ^ (7 * k) ≤ n * 2 ^ (7 * k) := Nat.mul_le_mul_right _ (by omega)
      rw [e1, ih (n / 128) (by omega) (k + 1) _ (.inr (by omega)) (by rw [e2, e3]; omega), e2, e3]
      have e5 : n % 128 * 2 ^ (7 * k) + n / 128 * 128 * 2 ^ (7 * k) = n * 2 ^ (7 * k) := by rw [← Nat.add_mul]; congr 1; omega
      rw [Nat.add_assoc, e5]

/-- What was read is what is written. -/
theorem numL_ok : ∀ (l : List UInt8) (k a : Nat), (numL l k a).1.e = 0 → ∃ n, l = nb n ++ (numL l k a).1.l ∧ (numL l k a).2 = a + n * 2 ^ (7 * k) ∧ (0 < k → 1 ≤ n)
  | [], k, a, h => by simp [numL] at h
  | c :: l, k, a, h => by
    have hc := c.toNat_lt
    simp only [numL] at h ⊢
    split at h
    · cases h
    · rename_i h1
      rw [if_neg h1]
      split at h
      · rename_i h2
        rw [if_pos h2]
        refine ⟨c.toNat, ?_, by rw [Nat.mod_eq_of_lt h2], by omega⟩
        rw [nb_lt h2, u8_ext rfl]; rfl
      · rename_i h2
        rw [if_neg h2]
        obtain ⟨m, g1, g2, g3⟩ := numL_ok l (k + 1) _ h
        have hm := g3 (by omega)
        have e2 : 2 ^ (7 * (k + 1)) = 2 ^ (7 * k) * 128 := by rw [show 7 * (k + 1) = 7 * k + 7 by omega, Nat.pow_add]
        refine ⟨c.toNat % 128 + 128 * m, ?_, ?_, by omega⟩
        · rw [nb_ge (by omega), show (c.toNat % 128 + 128 * m) / 128 = m by omega, show (c.toNat % 128 + 128 * m) % 128 + 128 = c.toNat by omega, u8_ext rfl, List.cons_append, ← g1]
        · rw [g2, e2, Nat.add_mul, Nat.mul_comm 128 m, Nat.mul_assoc m 128, Nat.mul_comm 128]
          omega

theorem In.num_nb (l : List UInt8) {n : Nat} (h : n < 2 ^ 64) : In.num ⟨nb n ++ l, 0⟩ = (⟨l, 0⟩, n) := by
  have := numL_nb l n 0 0 (.inl rfl) (by simpa using h)
  simp only [In.num, ne_eq, not_true_eq_false, if_false]
  rw [this]; simp
theorem In.num_ok {i : In} (h : i.num.1.e = 0) : i.e = 0 ∧ i.l = nb i.num.2 ++ i.num.1.l := by
  unfold In.num at h ⊢
  split at h
  · rename_i h1; exact absurd h h1
  · rename_i h1
    rw [if_neg h1]
    obtain ⟨n, g1, g2, _⟩ := numL_ok i.l 0 0 h
    have : (numL i.l 0 0).2 = n := by rw [g2]; simp
    rw [this]
    exact ⟨by simpa using h1, g1⟩
theorem In.fail_e {i : In} {x : Int} (hx : x ≠ 0) : (i.fail x).e ≠ 0 := by
  unfold In.fail
  split
  · exact hx
  · rename_i h; exact fun hh => h ⟨hh, hx⟩
theorem In.count_nb (l : List UInt8) {n : Nat} {m : Int} (hm : m < 2 ^ 64) (h : (n : Int) ≤ m) : In.count ⟨nb n ++ l, 0⟩ m = ((⟨l, 0⟩ : In), (n : Int)) := by
  unfold In.count
  rw [In.num_nb l (by omega), if_neg (by simp only; omega)]
theorem In.count_ok {i : In} {m : Int} (h : (i.count m).1.e = 0) : i.e = 0 ∧ i.l = nb (i.count m).2.toNat ++ (i.count m).1.l := by
  unfold In.count at h ⊢
  split at h
  · exact absurd h (In.fail_e (by decide))
  · rename_i h1
    rw [if_neg h1]
    exact In.num_ok h
theorem zig_unzig (n : Nat) : zig (unzig n) = n := by unfold zig unzig; split <;> split <;> omega
theorem In.int_nb (l : List UInt8) {x : Int} (h : -9223372036854775808 ≤ x) (h' : x ≤ 9223372036854775807) : In.int ⟨nb (zig x) ++ l, 0⟩ = (⟨l, 0⟩, x) := by
  unfold In.int
  rw [In.num_nb l (zig_lt h h')]
  simp only [unzig_zig]
theorem In.int_ok {i : In} (h : i.int.1.e = 0) : i.e = 0 ∧ i.l = nb (zig i.int.2) ++ i.int.1.l := by
  unfold In.int at h ⊢
  simp only [zig_unzig]
  exact In.num_ok h
end Go.Proofs.YtnkdkajllmopaaaGreat.TL
