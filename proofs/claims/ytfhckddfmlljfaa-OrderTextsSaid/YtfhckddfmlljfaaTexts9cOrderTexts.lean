/- The reference's bytes of a batch. -/
import Derived.Test.YtfhckddfmlljfaaTexts9bOrderTexts
namespace Go.Proofs.Ytfhckddfmlljfaa.QOrderTexts
open Go.Proofs.Ytfhckddfmlljfaa Go.RowKit Go.Proofs.YtfhckddfmlljfaaW.PrintWords Go.Proofs.YtfhckddfmlljfaaW.PrintLast Go.Proofs.YtfhckddfmlljfaaW.PrintMore
set_option linter.unusedVariables false
set_option linter.unusedSimpArgs false
theorem son (c : Int) : strOfNums [c] = B [UInt8.ofNat c.toNat] := rfl
theorem refnum_l0 : ∀ (m F i : Nat) (n : Int) (p : List UInt8), n < 128 ^ m → 1 ≤ m → 0 ≤ n → i + m ≤ 10 → p.length + m ≤ 100000 → cotillionref02_Num.l0 (m + F) n (B p) i = some (B (p ++ nb n))
  | 0, _, _, _, _, _, h, _, _, _ => absurd h (by decide)
  | m + 1, F, i, n, p, hn, _, h0, hi, hp => by
    rw [show m + 1 + F = (m + F) + 1 from by omega]
    rw [cotillionref02_Num.l0]
    rw [if_pos (by omega)]
    by_cases hs : n > 127
    · have hm1 : 1 ≤ m := by
        rcases Nat.eq_zero_or_pos m with h | h
        · subst h; simp at hn; omega
        · exact h
      have hpm : (128 : Int) ^ (m + 1) = 128 ^ m * 128 := Int.pow_succ _ _
      have e1 : Int.tmod n 128 = n % 128 := Int.tmod_eq_emod_of_nonneg h0
      have e2 : Int.tdiv n 128 = n / 128 := Int.tdiv_eq_ediv_of_nonneg h0
      have hb : n < 18446744073709551616 ∨ True := .inr trivial
      rw [if_pos hs, e1, e2]
      simp only [Option.bind_some]
      rw [if_pos (by rw [son, B_size, B_size]; simp; omega), son, B_app]
      have k1 : 0 ≤ n / 128 := by omega
      have k2 : (i + 1) + m ≤ 10 := by omega
      have k3 : ∀ c : UInt8, (p ++ [c]).length + m ≤ 100000 := fun c => by simp; omega
      have k4 : 128 ≤ n := by omega
      have e3 : IntKind.u64.wrap (128 + n % 128) % 256 = n % 128 + 128 := by rw [IntKind.wrap_u64]; omega
      have hd : n / 128 < 128 ^ m := by rw [hpm] at hn; omega
      have e4 : IntKind.u64.wrap (n / 128) = n / 128 := by
        rw [IntKind.wrap_u64]
        have : (128 : Int) ^ m ≤ 128 ^ 9 := by
          rcases (by omega : m = 1 ∨ m = 2 ∨ m = 3 ∨ m = 4 ∨ m = 5 ∨ m = 6 ∨ m = 7 ∨ m = 8 ∨ m = 9) with rfl | rfl | rfl | rfl | rfl | rfl | rfl | rfl | rfl <;> decide
        rw [show (128 : Int) ^ 9 = 9223372036854775808 from by decide] at this
        omega
      have hw : wrap64 ((i : Int) + 1) = ((i + 1 : Nat) : Int) := wrap_in (by omega) (by omega)
      rw [e3, e4, hw, refnum_l0 m F (i + 1) (n / 128) _ hd hm1 k1 k2 (k3 _)]
      rw [nb_big (n := n) k4, List.append_assoc, List.singleton_append]
    · rw [if_neg hs]
      simp only [Option.bind_some]
      rw [if_pos (by rw [son, B_size, B_size]; simp; omega), son, B_app, nb_small h0 (by omega), show n % 256 = n from by omega]
theorem refnum (k : Nat) (hk : 10 ≤ k) {n : Int} (h0 : 0 ≤ n) (h : n < 18446744073709551616) : cotillionref02_Num.f k n = some (B (nb n)) := by
  obtain ⟨F, rfl⟩ : ∃ F, k = 10 + F := ⟨k - 10, by omega⟩
  have := refnum_l0 10 F 0 n [] (by rw [show (128 : Int) ^ 10 = 1180591620717411303424 from by decide]; omega) (by decide) h0 (by decide) (by simp)
  exact this
theorem refcount (k : Nat) (hk : 10 ≤ k) {n : Int} (h0 : 0 ≤ n) (h : n ≤ 9223372036854775807) : cotillionref02_Count.f k n = some (B (nb n)) := by
  unfold cotillionref02_Count.f
  have : IntKind.u64.wrap (mx n 0) = n := by unfold mx; split <;> rw [IntKind.wrap_u64] <;> omega
  rw [this, refnum k hk h0 (by omega)]; rfl
theorem refint (k : Nat) (hk : 10 ≤ k) {a : Int} (h0 : -4611686018427387904 ≤ a) (h : a < 4611686018427387904) : cotillionref02_Int.f k a = some (B (ib a)) := by
  have hz : 0 ≤ zz a ∧ zz a < 18446744073709551616 := by unfold zz; split <;> omega
  unfold cotillionref02_Int.f ib
  by_cases ha : a ≥ 0
  · have e : IntKind.u64.wrap (2 * IntKind.u64.wrap a) = zz a := by unfold zz; rw [if_neg (by omega), IntKind.wrap_u64, IntKind.wrap_u64]; omega
    rw [if_pos ha, e, refnum k hk hz.1 hz.2]; rfl
  · have e : IntKind.u64.wrap (IntKind.u64.wrap (2 * IntKind.u64.wrap (wrap64 (-(wrap64 (a + 1))))) + 1) = zz a := by
      rw [wrap_in (i := a + 1) (by omega) (by omega), wrap_in (by omega) (by omega)]
      unfold zz; rw [if_pos (by omega), IntKind.wrap_u64, IntKind.wrap_u64, IntKind.wrap_u64]; omega
    rw [if_neg ha, e, refnum k hk hz.1 hz.2]; rfl
end Go.Proofs.Ytfhckddfmlljfaa.QOrderTexts
