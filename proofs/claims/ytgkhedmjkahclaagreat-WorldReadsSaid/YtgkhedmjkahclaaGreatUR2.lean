/- The reference's reader and writer of bytes: what they do. -/
import Derived.Test.YtgkhedmjkahclaaGreatUOut
/- The reference's reader and writer of bytes, more. -/
/- The reference's reader and writer of whole numbers. -/
namespace Go.Proofs.YtgkhedmjkahclaaGreat.TL
open Go
set_option linter.unusedVariables false
set_option linter.unusedSimpArgs false

abbrev rIn (i : In) : TV := .agg [.v (.string (bs i.l)), .v (.int .i64 i.e)]

set_option maxRecDepth 100000 in
theorem FailR_T (i : In) (x : Int) : callT Tryz.prog 97 [rIn i, .v (.int .i64 x)] ⟨[], []⟩ (fun r h => r = rIn (i.fail x) ∧ h = []) := by
  refine callT_of_body [0, 1, 2, 4, 11] [] Tryz.func97 rfl (by decide) (by kernel_rfl) rfl ?_
  simp
  by_cases h1 : i.e = 0 <;> by_cases h2 : x = 0 <;> simp [In.fail, h1, h2, bs_nil]

set_option maxRecDepth 100000 in
theorem RawR_T (i : In) (n : Int) : callT Tryz.prog 98 [rIn i, .v (.int .i64 n)] ⟨[], []⟩ (fun r h => r = .tup [rIn (i.raw n).1, .v (.string (bs (i.raw n).2))] ∧ h = []) := by
  refine callT_of_body [0, 1, 2, 4, 5, 12, 18] [] Tryz.func98 rfl (by decide) (by kernel_rfl) rfl ?_
  simp
  intro v1 v2
  by_cases h1 : i.e = 0
  · by_cases h2 : n ≤ 0
    · have h2' : ¬ 0 < n := by omega
      simp [In.raw, h1, h2, h2', bs_nil]
    · have h2' : 0 < n := by omega
      by_cases h3 : (i.l.length : Int) < n
      · have h3' : ¬ n ≤ (i.l.length : Int) := by omega
        simp [In.raw, h1, h2, h2', h3, h3', bs_nil]
      · have h3' : n ≤ (i.l.length : Int) := by omega
        have e1 : ((i.l.length : Int) - n).toNat = i.l.length - n.toNat := by omega
        have e2 : List.take (i.l.length - n.toNat) (List.drop n.toNat i.l) = List.drop n.toNat i.l := List.take_of_length_le (by simp)
        simp [In.raw, h1, h2, h2', h3, h3', e1, e2]
        refine draw_st 9 [0, 1, 2, 3, 4] (by kernel_rfl) (by kernel_rfl) (by kernel_rfl) (by kernel_rfl) ?_
        simp [In.raw, h1, h2, h2', h3, h3', e1, e2]
        omega
  · simp [In.raw, h1, bs_nil]

theorem pow128 (k : Nat) : (128 : Nat) ^ k = 2 ^ (7 * k) := by rw [show (128 : Nat) = 2 ^ 7 by decide, ← Nat.pow_mul]

set_option maxRecDepth 100000 in
theorem PowR_T (k : Nat) (hk : k ≤ 9) : callT Tryz.prog 99 [.v (.int .i64 k)] ⟨[], []⟩ (fun r h => r = .v (.int .u64 ((2 ^ (7 * k) : Nat) : Int)) ∧ h = []) := by
  refine callT_of_body [0, 2, 3, 4, 7] [] Tryz.func99 rfl (by decide) (by kernel_rfl) rfl ?_
  simp
  refine loopT_of Nat (fun x => x ≤ k) (fun x => ⟨[(0, .v (.int .i64 k)), (3, .v (.int .u64 ((2 ^ (7 * x) : Nat) : Int))), (4, .v (.int .i64 x))], []⟩) (fun x => k - x) 0 (by simp) (by simp) (by simp) ?_
  intro x hx
  by_cases h1 : x < k
  · have e1 : IntKind.i64.wrap ((x : Int) + 1) = ((x + 1 : Nat) : Int) := by rw [i64_id (by omega) (by omega)]; rfl
    have hp : 2 ^ (7 * (x + 1)) = 2 ^ (7 * x) * 128 := by rw [show 7 * (x + 1) = 7 * x + 7 by omega, Nat.pow_add]
    have hp2 : 2 ^ (7 * (x + 1)) ≤ 2 ^ 63 := Nat.pow_le_pow_right (by decide) (by omega)
    have e2 : IntKind.u64.wrap (((2 ^ (7 * x) : Nat) : Int) * 128) = ((2 ^ (7 * (x + 1)) : Nat) : Int) := by rw [hp, u64_id (by omega) (by omega)]; simp
    simp [h1]
    exact SLx.again (x + 1) (by omega) (by omega) (by simpa [e1] using e2) (by simp)
  · have e1 : x = k := by omega
    subst e1
    simp

set_option maxRecDepth 100000 in
theorem TakeNumR_T (i : In) : callT Tryz.prog 51 [rIn i] ⟨[], []⟩ (fun r h => r = .tup [rIn i.num.1, .v (.int .u64 i.num.2)] ∧ h = []) := by
  refine callT_of_body [0, 1, 2, 3, 4, 5, 6, 7, 9, 20, 37, 50] [] Tryz.func51 rfl (by decide) (by kernel_rfl) rfl ?_
  simp
  intro v1 v2
  by_cases he : i.e = 0
  · refine loopT_of (List UInt8 × Nat × Nat) (fun x => x.2.1 ≤ 9 ∧ x.2.2 < 2 ^ (7 * x.2.1) ∧ i.num = numL x.1 x.2.1 x.2.2) (fun x => ⟨[(1, .at 1 v1 0), (2, .at 2 v2 0), (4, .v (.int .u64 x.2.2)), (5, .v (.int .i64 x.2.1))], [(1, v1, ⟨0, [.v (.string (bs x.1)), .v (.int .i64 0)]⟩), (2, v2, ⟨0, [.v (.string (bs [])), .v (.int .i64 0)]⟩)]⟩) (fun x => 9 - x.2.1) (i.l, 0, 0) (by simp [In.num, he]) (by simp) (by simp [he]) ?_
    rintro ⟨l, k, a⟩ ⟨hk, ha, hi⟩
    simp only at hk ha hi ⊢
    have hk11 : (k : Int) < 11 := by omega
    simp [hk11]
    refine callT_eq [] (RawR_T ⟨l, 0⟩ 1) ?_
    cases l with
    | nil => simp [raw1_nil, hi, numL, bs_nil]
    | cons b l =>
      simp [raw1]
      intro v
      refine ⟨fun hb => ?_, fun hb1 hb2 => ?_⟩
      · have hb' : b.toNat = 0 ∧ 0 < k ∨ k = 9 ∧ 1 < b.toNat := by omega
        simp [hi, numL, hb', bs_nil]
      · have hok : ¬ (b.toNat = 0 ∧ 0 < k ∨ k = 9 ∧ 1 < b.toNat) := by omega
        refine draw_last (by kernel_rfl) (by kernel_rfl) (by kernel_rfl) (by kernel_rfl) ?_
        simp
        refine ⟨.v (.int .u64 ((2 ^ (7 * k) : Nat) : Int)), callT_eq [] (PowR_T k hk) (by simp), sameH_go ?_⟩
        have hbn : b.toNat < 256 := b.toNat_lt
        have hp : 2 ^ (7 * k) ≤ 2 ^ 63 := Nat.pow_le_pow_right (by decide) (by omega)
        have hsm : b.toNat % 128 * 2 ^ (7 * k) < 2 ^ 64 := by
          by_cases h9 : k = 9
          · have := hb2 (by omega)
            subst h9
            simp only [Nat.reduceMul]
            omega
          · have : 2 ^ (7 * k) ≤ 2 ^ 56 := Nat.pow_le_pow_right (by decide) (by omega)
            have := Nat.mul_le_mul (show b.toNat % 128 ≤ 127 by omega) this
            omega
        have hsum : a + b.toNat % 128 * 2 ^ (7 * k) < 2 ^ 64 := by
          by_cases h9 : k = 9
          · have := hb2 (by omega)
            subst h9
            simp only [Nat.reduceMul] at ha ⊢
            omega
          · have h56 : 2 ^ (7 * k) ≤ 2 ^ 56 := Nat.pow_le_pow_right (by decide) (by omega)
            have := Nat.mul_le_mul (show b.toNat % 128 ≤ 127 by omega) h56
            omega
        have hmod : ((b.toNat : Nat) : Int).tmod 128 = ((b.toNat % 128 : Nat) : Int) := by rw [Int.tmod_eq_emod_of_nonneg (by omega)]; rfl
        have hval : IntKind.u64.wrap ((a : Int) + IntKind.u64.wrap (IntKind.u64.wrap (((b.toNat : Nat) : Int).tmod 128) * ((2 ^ (7 * k) : Nat) : Int))) = ((a + b.toNat % 128 * 2 ^ (7 * k) : Nat) : Int) := by
          rw [hmod, u64_id (n := ((b.toNat % 128 : Nat) : Int)) (by omega) (by omega)]
          have e1 : ((b.toNat % 128 : Nat) : Int) * ((2 ^ (7 * k) : Nat) : Int) = ((b.toNat % 128 * 2 ^ (7 * k) : Nat) : Int) := by simp
          have e2 := u64_id (n := ((b.toNat % 128 * 2 ^ (7 * k) : Nat) : Int)) (by omega) (by omega)
          have e3 : (a : Int) + ((b.toNat % 128 * 2 ^ (7 * k) : Nat) : Int) = ((a + b.toNat % 128 * 2 ^ (7 * k) : Nat) : Int) := by simp
          rw [e1, e2, e3]
          exact u64_id (by omega) (by omega)
        have hval2 : IntKind.u64.wrap ((a : Int) + IntKind.u64.wrap (IntKind.u64.wrap (((b.toNat : Nat) : Int).tmod 128) * (2 : Int) ^ (7 * k))) = ((a + b.toNat % 128 * 2 ^ (7 * k) : Nat) : Int) := by simpa using hval
        simp
        rw [hval2]
        refine ⟨fun h1 => ?_, fun h1 => ?_⟩
        · have h1' : b.toNat < 128 := by omega
          simp [hi, numL, hok, h1']
        · have h1' : ¬ b.toNat < 128 := by omega
          have hk9 : k ≠ 9 := fun h => by have := hb2 (by omega); omega
          have e2 : IntKind.i64.wrap ((k : Int) + 1) = ((k + 1 : Nat) : Int) := by rw [i64_id (by omega) (by omega)]; rfl
          refine SLx.again (l, k + 1, a + b.toNat % 128 * 2 ^ (7 * k)) ⟨by simp only; omega, ?_, by rw [hi]; simp [numL, hok, h1']⟩ (by simp only; omega) (by simp [e2]) (by simp)
          have : 2 ^ (7 * (k + 1)) = 2 ^ (7 * k) * 128 := by rw [show 7 * (k + 1) = 7 * k + 7 by omega, Nat.pow_add]
          simp only
          rw [this]
          have := Nat.mul_le_mul_right (2 ^ (7 * k)) (show b.toNat % 128 ≤ 127 by omega)
          omega
  · refine loopT_of Unit (fun _ => True) (fun x => ⟨[(1, .at 1 v1 0), (2, .at 2 v2 0), (4, .v (.int .u64 0)), (5, .v (.int .i64 0))], [(1, v1, ⟨0, [.v (.string (bs i.l)), .v (.int .i64 i.e)]⟩), (2, v2, ⟨0, [.v (.string (bs [])), .v (.int .i64 0)]⟩)]⟩) (fun _ => 0) () trivial (by simp) (by simp) fun x _ => ?_
    simp
    refine callT_eq [] (RawR_T i 1) ?_
    simp [In.raw, In.num, he, bs_nil]
end Go.Proofs.YtgkhedmjkahclaaGreat.TL

namespace Go.Proofs.YtgkhedmjkahclaaGreat.TL
open Go
set_option linter.unusedVariables false
set_option linter.unusedSimpArgs false

set_option maxRecDepth 100000 in
theorem TakeCountR_T (i : In) (m : Int) (hm : m ≤ 9223372036854775807) : callT Tryz.prog 50 [rIn i, .v (.int .i64 m)] ⟨[], []⟩ (fun r h => r = .tup [rIn (i.count m).1, .v (.int .i64 (i.count m).2)] ∧ h = []) := by
  refine callT_of_body [0, 1, 2, 4, 5, 6, 16] [] Tryz.func50 rfl (by decide) (by kernel_rfl) rfl ?_
  simp
  intro v1 v2
  refine callT_eq [] (TakeNumR_T i) ?_
  simp
  have e1 : IntKind.u64.wrap (max m 0) = max m 0 := u64_id (by omega) (by omega)
  rw [e1]
  refine ⟨fun h1 => ?_, fun h1 => ?_⟩
  · refine callT_eq [] (FailR_T i.num.1 3) ?_
    simp [In.count, h1]
  · have e2 : IntKind.i64.wrap (i.num.2 : Int) = i.num.2 := i64_id (by omega) (by omega)
    have h1' : ¬ max m 0 < (i.num.2 : Int) := by omega
    simp [In.count, h1', e2]

theorem AllB_one (c : UInt8) : AllB [bv c] := ⟨[c], rfl⟩
theorem nb_cell (n : Nat) : TV.v (.int .u8 (IntKind.u8.wrap (n : Int))) = bv (UInt8.ofNat n) := by
  rw [bv_u8, IntKind.wrap_u8]
  congr 2

set_option maxRecDepth 100000 in
theorem NumR_T (n : Nat) (hn : n < 2 ^ 64) : callT Tryz.prog 56 [.v (.int .u64 n)] ⟨[], []⟩ (fun r h => r = .v (.string (bs (nb n))) ∧ h = []) := by
  refine callT_of_body [0, 2, 3, 4, 10] [] Tryz.func56 rfl (by decide) (by kernel_rfl) rfl ?_
  simp
  refine loopT_of (List UInt8 × Nat × Nat) (fun x => x.1 ++ nb x.2.1 = nb n ∧ x.2.1 < 2 ^ (64 - 7 * x.2.2) ∧ x.2.2 ≤ 9) (fun x => ⟨[(0, .v (.int .u64 x.2.1)), (3, .v (.string (bs x.1))), (4, .v (.int .i64 x.2.2))], []⟩) (fun x => 9 - x.2.2) ([], n, 0) (by simp; exact hn) (by simp [bs_nil]) (by simp) ?_
  rintro ⟨l, m, i⟩ ⟨h1, h2, h3⟩
  simp only at h1 h2 h3 ⊢
  have hlen := congrArg List.length h1
  have hn10 := nb_len10 hn
  simp only [List.length_append] at hlen
  have h3' : (i : Int) < 10 := by omega
  have hm64 : m < 2 ^ 64 := Nat.lt_of_lt_of_le h2 (Nat.pow_le_pow_right (by decide) (by omega))
  by_cases h4 : m < 128
  · have h4' : ¬ (127 : Int) < m := by omega
    have e1 : bv (UInt8.ofNat m) = .v (.int .u8 (m : Int)) := by rw [bv_u8, Nat.mod_eq_of_lt (by omega)]
    have e2 : IntKind.u8.wrap (m : Int) = m := u8_id (by omega) (by omega)
    rw [nb_lt h4] at h1
    have hAB : AllB [TV.v (.int .u8 (m : Int))] := ⟨[UInt8.ofNat m], by simp [e1]⟩
    have hun : unbv (TV.v (.int .u8 (m : Int))) = UInt8.ofNat m := by simp [unbv]
    simp [h3', h4', e2, hAB, hun, ← h1]
    omega
  · have h4' : (127 : Int) < m := by omega
    have hi9 : i < 9 := by
      by_cases h : i < 9
      · exact h
      · have : i = 9 := by omega
        subst this
        simp at h2
        omega
    rw [nb_ge h4] at h1
    have hmod : ((m : Nat) : Int).tmod 128 = ((m % 128 : Nat) : Int) := by rw [Int.tmod_eq_emod_of_nonneg (by omega)]; rfl
    have e0 : IntKind.u8.wrap (IntKind.u64.wrap (128 + ((m : Nat) : Int).tmod 128)) = ((m % 128 + 128 : Nat) : Int) := by
      rw [hmod, u64_id (by omega) (by omega), u8_id (by omega) (by omega)]
      omega
    have e1 : TV.v (.int .u8 (IntKind.u8.wrap (IntKind.u64.wrap (128 + ((m : Nat) : Int).tmod 128)))) = bv (UInt8.ofNat (m % 128 + 128)) := by
      rw [e0, bv_u8, Nat.mod_eq_of_lt (a := m % 128 + 128) (by omega)]
    have e2 : IntKind.u64.wrap ((m : Int) / 128) = ((m / 128 : Nat) : Int) := by rw [u64_id (by omega) (by omega)]; rfl
    have e3 : IntKind.i64.wrap ((i : Int) + 1) = ((i + 1 : Nat) : Int) := by rw [i64_id (by omega) (by omega)]; rfl
    have hl9 : l.length ≤ 9223372036854775806 := by omega
    have hAB : AllB [TV.v (.int .u8 (((m % 128 + 128 : Nat) : Nat) : Int))] := ⟨[UInt8.ofNat (m % 128 + 128)], by rw [← e0, e1]; rfl⟩
    have hun : unbv (TV.v (.int .u8 (((m % 128 + 128 : Nat) : Nat) : Int))) = UInt8.ofNat (m % 128 + 128) := by simp only [unbv, Int.toNat_natCast]
    rw [← e0] at hAB hun
    simp [h3', h4', hAB, hun, hl9]
    intro v
    refine SLx.again (l ++ [UInt8.ofNat (m % 128 + 128)], m / 128, i + 1) ⟨by simpa using h1, ?_, by simp only; omega⟩ (by simp only; omega) (by simp [e2, e3]) (by simp)
    have : 2 ^ (64 - 7 * i) = 2 ^ (64 - 7 * (i + 1)) * 128 := by rw [show 64 - 7 * i = 64 - 7 * (i + 1) + 7 by omega, Nat.pow_add]
    simp only
    omega

set_option maxRecDepth 100000 in
theorem CountR_T (n : Int) (hn : n ≤ 9223372036854775807) : callT Tryz.prog 55 [.v (.int .i64 n)] ⟨[], []⟩ (fun r h => r = .v (.string (bs (nb n.toNat))) ∧ h = []) := by
  refine callT_of_body [0, 2] [] Tryz.func55 rfl (by decide) (by kernel_rfl) rfl ?_
  simp
  have e0 : IntKind.u64.wrap (max n 0) = (n.toNat : Int) := by rw [u64_id (by omega) (by omega)]; omega
  rw [e0]
  refine callT_eq [] (NumR_T n.toNat (by omega)) ?_
  simp
end Go.Proofs.YtgkhedmjkahclaaGreat.TL

namespace Go.Proofs.YtgkhedmjkahclaaGreat.TL
open Go
set_option linter.unusedVariables false
set_option linter.unusedSimpArgs false

set_option maxRecDepth 100000 in
theorem TakeIntR_T (i : In) : callT Tryz.prog 101 [rIn i] ⟨[], []⟩ (fun r h => r = .tup [rIn i.int.1, .v (.int .i64 i.int.2)] ∧ h = []) := by
  refine callT_of_body [0, 1, 2, 3, 4, 12] [] Tryz.func101 rfl (by decide) (by kernel_rfl) rfl ?_
  simp
  intro v1 v2
  refine callT_eq [] (TakeNumR_T i) ?_
  simp
  have hlt := i.num_lt
  generalize hm : i.num.2 = m at hlt
  have hmod : ((m : Nat) : Int).tmod 2 = ((m % 2 : Nat) : Int) := by rw [Int.tmod_eq_emod_of_nonneg (by omega)]; rfl
  have hdiv : (m : Int) / 2 = ((m / 2 : Nat) : Int) := rfl
  have e1 : IntKind.u64.wrap ((m / 2 : Nat) : Int) = ((m / 2 : Nat) : Int) := u64_id (by omega) (by omega)
  have e2 : IntKind.i64.wrap ((m / 2 : Nat) : Int) = ((m / 2 : Nat) : Int) := i64_id (by omega) (by omega)
  have e3 : IntKind.i64.wrap (-((m / 2 : Nat) : Int)) = -((m / 2 : Nat) : Int) := i64_id (by omega) (by omega)
  have e4 : IntKind.i64.wrap (-((m / 2 : Nat) : Int) - 1) = -((m / 2 : Nat) : Int) - 1 := i64_id (by omega) (by omega)
  rw [hmod, hdiv, e1, e2, e3, e4]
  refine ⟨fun h => ⟨⟨rfl, rfl⟩, ?_⟩, fun h => ⟨⟨rfl, rfl⟩, ?_⟩⟩
  · have hne : ¬ m % 2 = 0 := by omega
    simp only [In.int, hm, unzig, if_neg hne]
  · have heq : m % 2 = 0 := by omega
    simp only [In.int, hm, unzig, if_pos heq]

set_option maxRecDepth 100000 in
theorem IntR_T (n : Int) (h1 : -9223372036854775808 ≤ n) (h2 : n ≤ 9223372036854775807) : callT Tryz.prog 103 [.v (.int .i64 n)] ⟨[], []⟩ (fun r h => r = .v (.string (bs (nb (zig n)))) ∧ h = []) := by
  refine callT_of_body [0, 2, 4] [] Tryz.func103 rfl (by decide) (by kernel_rfl) rfl ?_
  have hz := zig_lt h1 h2
  simp
  refine ⟨fun h0 => ?_, fun h0 => ?_⟩
  · have e0 : IntKind.u64.wrap (2 * IntKind.u64.wrap n) = (zig n : Int) := by rw [u64_id (n := n) (by omega) (by omega), u64_id (by omega) (by omega), zig, if_pos h0]; omega
    rw [e0]
    refine callT_eq [] (NumR_T (zig n) hz) ?_
    simp
  · have e0 : IntKind.u64.wrap (IntKind.u64.wrap (2 * IntKind.u64.wrap (IntKind.i64.wrap (-IntKind.i64.wrap (n + 1)))) + 1) = (zig n : Int) := by
      rw [i64_id (n := n + 1) (by omega) (by omega), i64_id (n := -(n + 1)) (by omega) (by omega), u64_id (n := -(n + 1)) (by omega) (by omega), u64_id (n := 2 * -(n + 1)) (by omega) (by omega), u64_id (by omega) (by omega), zig, if_neg (by omega)]
      omega
    rw [e0]
    refine callT_eq [] (NumR_T (zig n) hz) ?_
    simp
end Go.Proofs.YtgkhedmjkahclaaGreat.TL

