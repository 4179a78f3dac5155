/- The reference's reader and writer of bytes: what they do. -/
import Derived.Test.YtgkhedmjkahclaaGreatDoorUOut
/- The reference's reader and writer of bytes, more. -/
/- The reference's reader and writer of whole numbers. -/
namespace Go.Proofs.YtgkhedmjkahclaaGreatDoor.TL
open Go
set_option linter.unusedVariables false
set_option linter.unusedSimpArgs false

abbrev rIn (i : In) : TV := .agg [.v (.string (bs i.l)), .v (.int .i64 i.e)]

theorem pow128 (k : Nat) : (128 : Nat) ^ k = 2 ^ (7 * k) := by rw [show (128 : Nat) = 2 ^ 7 by decide, ← Nat.pow_mul]

end Go.Proofs.YtgkhedmjkahclaaGreatDoor.TL

namespace Go.Proofs.YtgkhedmjkahclaaGreatDoor.TL
open Go
set_option linter.unusedVariables false
set_option linter.unusedSimpArgs false

theorem AllB_one (c : UInt8) : AllB [bv c] := ⟨[c], rfl⟩
theorem nb_cell (n : Nat) : TV.v (.int .u8 (IntKind.u8.wrap (n : Int))) = bv (UInt8.ofNat n) := by
  rw [bv_u8, IntKind.wrap_u8]
  congr 2

set_option maxRecDepth 100000 in
theorem NumR_T (n : Nat) (hn : n < 2 ^ 64) : callT Tryz.prog 82 [.v (.int .u64 n)] ⟨[], []⟩ (fun r h => r = .v (.string (bs (nb n))) ∧ h = []) := by
  refine callT_of_body [0, 2, 3, 4, 10] [] Tryz.func82 rfl (by decide) (by kernel_rfl) rfl ?_
  simp
  refine loopT_of (List UInt8 × Nat × Nat) (fun x => x.1 ++ nb x.2.1 = nb n ∧ x.2.1 < 2 ^ (64 - 7 * x.2.2) ∧ x.2.2 ≤ 9) (fun x => ⟨[(0, .v (.int .u64 x.2.1)), (3, .v (.string (bs x.1))), (4, .v (.int .i64 x.2.2))], []⟩) (fun x => 9 - x.2.2) ([], n, 0) (by simp; exact hn) (by simp [bs_nil]) (by simp) ?_
  rintro ⟨l, m, i⟩ ⟨h1, h2, h3⟩
  simp only at h1 h2 h3 ⊢
  have hlen := congrArg List.length h1
  have hn10 := nb_len10 hn
  simp only [List.length_append] at hlen
  have h3' : (i : Int) < 10 := by omega
  have hm64 : m < 2 ^ 64 := Nat.lt_of_lt_of_le h2 (Nat.pow_le_pow_right (by decide) (by omega))
  by_cases h4 : m < 128
  · have h4' : ¬ (127 : Int) < m := by omega
    have e1 : bv (UInt8.ofNat m) = .v (.int .u8 (m : Int)) := by rw [bv_u8, Nat.mod_eq_of_lt (by omega)]
    have e2 : IntKind.u8.wrap (m : Int) = m := u8_id (by omega) (by omega)
    rw [nb_lt h4] at h1
    have hAB : AllB [TV.v (.int .u8 (m : Int))] := ⟨[UInt8.ofNat m], by simp [e1]⟩
    have hun : unbv (TV.v (.int .u8 (m : Int))) = UInt8.ofNat m := by simp [unbv]
    simp [h3', h4', e2, hAB, hun, ← h1]
    omega
  · have h4' : (127 : Int) < m := by omega
    have hi9 : i < 9 := by
      by_cases h : i < 9
      · exact h
      · have : i = 9 := by omega
        subst this
        simp at h2
        omega
    rw [nb_ge h4] at h1
    have hmod : ((m : Nat) : Int).tmod 128 = ((m % 128 : Nat) : Int) := by rw [Int.tmod_eq_emod_of_nonneg (by omega)]; rfl
    have e0 : IntKind.u8.wrap (IntKind.u64.wrap (128 + ((m : Nat) : Int).tmod 128)) = ((m % 128 + 128 : Nat) : Int) := by
      rw [hmod, u64_id (by omega) (by omega), u8_id (by omega) (by omega)]
      omega
    have e1 : TV.v (.int .u8 (IntKind.u8.wrap (IntKind.u64.wrap (128 + ((m : Nat) : Int).tmod 128)))) = bv (UInt8.ofNat (m % 128 + 128)) := by
      rw [e0, bv_u8, Nat.mod_eq_of_lt (a := m % 128 + 128) (by omega)]
    have e2 : IntKind.u64.wrap ((m : Int) / 128) = ((m / 128 : Nat) : Int) := by rw [u64_id (by omega) (by omega)]; rfl
    have e3 : IntKind.i64.wrap ((i : Int) + 1) = ((i + 1 : Nat) : Int) := by rw [i64_id (by omega) (by omega)]; rfl
    have hl9 : l.length ≤ 9223372036854775806 := by omega
    have hAB : AllB [TV.v (.int .u8 (((m % 128 + 128 : Nat) : Nat) : Int))] := ⟨[UInt8.ofNat (m % 128 + 128)], by rw [← e0, e1]; rfl⟩
    have hun : unbv (TV.v (.int .u8 (((m % 128 + 128 : Nat) : Nat) : Int))) = UInt8.ofNat (m % 128 + 128) := by simp only [unbv, Int.toNat_natCast]
    rw [← e0] at hAB hun
    simp [h3', h4', hAB, hun, hl9]
    intro v
    refine SLx.again (l ++ [UInt8.ofNat (m % 128 + 128)], m / 128, i + 1) ⟨by simpa using h1, ?_, by simp only; omega⟩ (by simp only; omega) (by simp [e2, e3]) (by simp)
    have : 2 ^ (64 - 7 * i) = 2 ^ (64 - 7 * (i + 1)) * 128 := by rw [show 64 - 7 * i = 64 - 7 * (i + 1) + 7 by omega, Nat.pow_add]
    simp only
    omega

set_option maxRecDepth 100000 in
theorem CountR_T (n : Int) (hn : n ≤ 9223372036854775807) : callT Tryz.prog 66 [.v (.int .i64 n)] ⟨[], []⟩ (fun r h => r = .v (.string (bs (nb n.toNat))) ∧ h = []) := by
  refine callT_of_body [0, 2] [] Tryz.func66 rfl (by decide) (by kernel_rfl) rfl ?_
  simp
  have e0 : IntKind.u64.wrap (max n 0) = (n.toNat : Int) := by rw [u64_id (by omega) (by omega)]; omega
  rw [e0]
  refine callT_eq [] (NumR_T n.toNat (by omega)) ?_
  simp
end Go.Proofs.YtgkhedmjkahclaaGreatDoor.TL

namespace Go.Proofs.YtgkhedmjkahclaaGreatDoor.TL
open Go
set_option linter.unusedVariables false
set_option linter.unusedSimpArgs false

end Go.Proofs.YtgkhedmjkahclaaGreatDoor.TL

