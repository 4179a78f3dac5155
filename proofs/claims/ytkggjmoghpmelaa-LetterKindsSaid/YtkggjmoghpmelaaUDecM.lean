/- A parameter of type cotillionlaw21.Made, a number of 8 bits, opened. -/
import Derived.Test.YtkggjmoghpmelaaUDec
import Derived.Test.YtkggjmoghpmelaaUMake
namespace Go.Proofs.Ytkggjmoghpmelaa.TL
open Go Go.RowKit Go.Deep
set_option linter.unusedVariables false
set_option linter.unusedSimpArgs false

def shMk : Sh := .st [.int .i64, .int .i64, .int .i64, .bool, .int .u64, .sl (.st [.int .i64, .int .i64, .int .i64, .int .i64]), .sl (.int .i64), .sl (.st [.int .i64, .int .i64, .sl (.int .i64)]), .str]
theorem dec_mk {c : List TV} (h : ShV shMk c) : ∃ m : Mk, m.ok ∧ asT shMk c = .agg m.cells := by
  simp only [shMk, ShV, ShL] at h
  obtain ⟨_, _, rfl, ⟨n0, g0, rfl⟩, _, _, rfl, ⟨n1, g1, rfl⟩, _, _, rfl, ⟨n2, g2, rfl⟩, _, _, rfl, ⟨y, rfl⟩, _, _, rfl, ⟨q, gq, rfl⟩, x5, _, rfl, k5, x6, _, rfl, k6, x7, _, rfl, k7, x8, _, rfl, k8, rfl⟩ := h
  obtain ⟨l, _, hl⟩ := dec_ords (c := x5) (by simp only [ShV, ShL]; exact k5)
  obtain ⟨ps, _, hps⟩ := dec_ints (c := x6) (by simp only [ShV]; exact k6)
  obtain ⟨cs, hc, hcs⟩ := dec_chgs (c := x7) (by simp only [ShV, ShL]; exact k7)
  obtain ⟨s, h8, hs⟩ := dec_str (c := x8) (by simp only [ShV]; exact k8)
  obtain ⟨els5, _, _, rfl⟩ := k5
  obtain ⟨els6, _, _, rfl⟩ := k6
  obtain ⟨els7, _, _, rfl⟩ := k7
  obtain ⟨s8, _, rfl⟩ := k8
  simp only [asT, List.headD] at hl hps hcs hs
  simp only [Lit.wf, Bool.and_eq_true, decide_eq_true_eq] at gq
  rw [show IntKind.min .u64 = 0 by decide, show IntKind.max .u64 = 18446744073709551615 by decide] at gq
  refine ⟨⟨n0, n1, n2, y, q.toNat, l, ps, cs, s⟩, ⟨?_, ?_, ?_⟩, ?_⟩
  · simp only; omega
  · exact Nat.le_trans hc (by decide)
  · exact Nat.le_trans h8 (by decide)
  · simp [shMk, asT, Mk.cells, i64c, u64c, hl, hps, hcs, hs, Int.toNat_of_nonneg gq.1]
theorem dec_u8 {c : List TV} (h : ShV (.int .u8) c) : ∃ n : Nat, n ≤ 255 ∧ asT (.int .u8) c = .v (.int .u8 n) := by
  obtain ⟨n, h1, h2⟩ := dec_int h
  simp only [Lit.wf, Bool.and_eq_true, decide_eq_true_eq] at h1
  rw [show IntKind.min .u8 = 0 by decide, show IntKind.max .u8 = 255 by decide] at h1
  refine ⟨n.toNat, by omega, ?_⟩
  rw [h2, Int.toNat_of_nonneg h1.1]
end Go.Proofs.Ytkggjmoghpmelaa.TL
