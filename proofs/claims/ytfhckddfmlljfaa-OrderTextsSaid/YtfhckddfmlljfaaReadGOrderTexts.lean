/- Reading any number's bytes: the plain law on the printed readers (after Read9). -/
import Derived.Test.YtfhckddfmlljfaaRead9OrderTexts
namespace Go.Proofs.Ytfhckddfmlljfaa.QOrderTexts
open Go.Proofs.Ytfhckddfmlljfaa Go.RowKit Go.Proofs.YtfhckddfmlljfaaW.PrintWords Go.Proofs.YtfhckddfmlljfaaW.PrintLast Go.Proofs.YtfhckddfmlljfaaW.PrintMore
set_option linter.unusedVariables false
set_option linter.unusedSimpArgs false
theorem piece_j (n c : Int) (j : Nat) (hj : j ≤ 9) (hn0 : 0 ≤ n) (hn : n < 128 ^ j) (h0 : 0 ≤ c) (h1 : c ≤ 255) (h9 : j = 9 → c ≤ 1) : Go.bits .or .u64 n (shl .u64 (IntKind.u64.wrap (Go.bits .and .u8 c 127)) ((7 * j : Nat) : Int)) = n + c % 128 * 128 ^ j := by
  have h := or_num n c j hj hn0 hn h0 h1 h9
  have e : shl .u64 (IntKind.u64.wrap (Go.bits .and .u8 c 127)) ((7 * j : Nat) : Int) = IntKind.u64.wrap (IntKind.u64.wrap (Go.bits .and .u8 c 127) * 2 ^ (7 * j)) := by
    unfold shl
    rw [Int.toNat_natCast, Nat.min_eq_left (by simp [IntKind.bits]; omega)]
  rw [e, h]
/-- One byte of a number. -/
theorem num_step (F : Nat) (acc : Int) (j : Nat) (hj : j ≤ 9) (ha0 : 0 ≤ acc) (ha : acc < 128 ^ j) (c : UInt8) (l : List UInt8) (hz : c.toNat = 0 → j = 0) (h9 : j = 9 → c.toNat ≤ 1) :
    wire_In_Num.l0 (F + 1 + 1 + 1) acc ((7 * j : Nat) : Int) (B (c :: l)) 0 = if (c.toNat : Int) < 128 then some (acc + (c.toNat : Int) % 128 * 128 ^ j, B l, 0) else wire_In_Num.l0 (F + 1) (acc + (c.toNat : Int) % 128 * 128 ^ j) ((7 * (j + 1) : Nat) : Int) (B l) 0 := by
  have hc1 := u8_lt c
  have hp := piece_j acc c.toNat j hj ha0 ha (by omega) (by omega) (fun h => by have := h9 h; omega)
  have hw : wrap64 (((7 * j : Nat) : Int) + 7) = ((7 * (j + 1) : Nat) : Int) := by rw [wrap_in (by omega) (by omega)]; omega
  rw [wire_In_Num.l0]
  simp only [raw_one, Option.bind_some, B_bt]
  rw [if_pos trivial, if_pos (by rw [B_size]; simp)]
  have j1 : wire_In_Num.j1 (F + 1 + 1) acc ((7 * j : Nat) : Int) (c.toNat : Int) false (B l) 0 = if (c.toNat : Int) < 128 then some (acc + (c.toNat : Int) % 128 * 128 ^ j, B l, 0) else wire_In_Num.l0 (F + 1) (acc + (c.toNat : Int) % 128 * 128 ^ j) ((7 * (j + 1) : Nat) : Int) (B l) 0 := by
    rw [wire_In_Num.j1, if_neg (by decide), if_pos (by omega), hp, hw]
  by_cases hc : (c.toNat : Int) = 0
  · have hj0 := hz (by omega)
    subst hj0
    rw [if_pos hc, if_neg (by decide), if_neg (by decide)]
    exact j1
  · rw [if_neg hc]
    by_cases h63 : ((7 * j : Nat) : Int) = 63
    · have hj9 : j = 9 := by omega
      have := h9 hj9
      rw [if_pos h63, show decide ((c.toNat : Int) > 1) = false from by simp; omega]
      exact j1
    · rw [if_neg h63]
      exact j1
theorem pow_pos128 (j : Nat) : (0 : Int) < 128 ^ j := Int.pow_pos (by decide)
/-- A number's bytes, from its j-th piece on. -/
theorem num_gen : ∀ (m j : Nat) (n acc : Int) (F : Nat) (l : List UInt8), n < 128 ^ m → 0 ≤ n → 0 ≤ acc → acc < 128 ^ j → j + m ≤ 10 → (n = 0 → j = 0) → (j + m = 10 → n < 2 * 128 ^ (9 - j)) → 1 ≤ m →
    wire_In_Num.l0 (2 * m + 3 + F) acc ((7 * j : Nat) : Int) (B (nb n ++ l)) 0 = some (acc + n * 128 ^ j, B l, 0)
  | 0, _, _, _, _, _, _, _, _, _, _, _, _, h => absurd h (by decide)
  | m + 1, j, n, acc, F, l, hn, h0, ha0, ha, hjm, hz, h10, _ => by
    obtain ⟨G, hG⟩ : ∃ G, 2 * m + 2 + F = G := ⟨_, rfl⟩
    rw [show 2 * (m + 1) + 3 + F = G + 1 + 1 + 1 from by omega]
    by_cases hs : n < 128
    · have e := nb_small h0 hs
      have ht : ((UInt8.ofNat n.toNat).toNat : Int) = n := by simp; omega
      rw [e, List.singleton_append, num_step G acc j (by omega) ha0 ha _ l (fun h => hz (by omega)) (fun h => by
        subst h
        have hm : m = 0 := by omega
        subst hm
        have := h10 rfl
        simp at this; omega)]
      rw [ht, if_pos hs, show n % 128 = n from by omega]
    · have e := nb_big (n := n) (by omega)
      have ht : ((UInt8.ofNat (n % 128 + 128).toNat).toNat : Int) = n % 128 + 128 := by simp; omega
      have hm1 : 1 ≤ m := by
        rcases Nat.eq_zero_or_pos m with h | h
        · subst h; simp at hn; omega
        · exact h
      rw [e, List.cons_append, num_step G acc j (by omega) ha0 ha _ (nb (n / 128) ++ l) (fun h => by omega) (fun h => by omega)]
      rw [ht, if_neg (by omega), show (n % 128 + 128) % 128 = n % 128 from by omega]
      have hp := pow_pos128 j
      have hps : (128 : Int) ^ (j + 1) = 128 ^ j * 128 := Int.pow_succ _ _
      have hpm : (128 : Int) ^ (m + 1) = 128 ^ m * 128 := Int.pow_succ _ _
      have ih := num_gen m (j + 1) (n / 128) (acc + n % 128 * 128 ^ j) F l (by rw [hpm] at hn; omega) (by omega) (by
        have := Int.mul_nonneg (show 0 ≤ n % 128 by omega) (Int.le_of_lt hp); omega) (by
        rw [hps]
        have : n % 128 * 128 ^ j ≤ 127 * 128 ^ j := Int.mul_le_mul_of_nonneg_right (by omega) (Int.le_of_lt hp)
        omega) (by omega) (fun h => by omega) (fun h => by
        have h1 := h10 (by omega)
        have e9 : 9 - j = (9 - (j + 1)) + 1 := by omega
        rw [e9, Int.pow_succ] at h1
        generalize (128 : Int) ^ (9 - (j + 1)) = z at h1 ⊢
        omega) hm1
      rw [show 2 * m + 3 + F = G + 1 from by omega] at ih
      rw [ih, hps]
      congr 2
      have hd : n = n / 128 * 128 + n % 128 := by omega
      generalize (128 : Int) ^ j = z
      have e2 : n / 128 * (z * 128) = n / 128 * 128 * z := by rw [Int.mul_comm z 128, ← Int.mul_assoc]
      have e3 : n * z = n / 128 * 128 * z + n % 128 * z := by rw [← Int.add_mul, ← hd]
      rw [e2, e3]; omega
theorem num_any (k : Nat) (hk : 23 ≤ k) {n : Int} (h0 : 0 ≤ n) (h : n < 18446744073709551616) (l : List UInt8) : wire_In_Num.f k (B (nb n ++ l)) 0 = some (n, B l, 0) := by
  obtain ⟨F, rfl⟩ : ∃ F, k = 2 * 10 + 3 + F := ⟨k - 23, by omega⟩
  have := num_gen 10 0 n 0 F l (by rw [show (128 : Int) ^ 10 = 1180591620717411303424 from by decide]; omega) h0 (by decide) (by decide) (by decide) (fun _ => rfl) (fun _ => by rw [show (128 : Int) ^ (9 - 0) = 9223372036854775808 from by decide]; omega) (by decide)
  unfold wire_In_Num.f
  have e : ((7 * 0 : Nat) : Int) = 0 := rfl
  rw [e] at this
  rw [this]; simp
end Go.Proofs.Ytfhckddfmlljfaa.QOrderTexts
