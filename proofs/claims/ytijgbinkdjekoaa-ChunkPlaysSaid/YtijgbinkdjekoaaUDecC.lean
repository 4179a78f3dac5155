/- Parameters of chunk's laws, opened. -/
import Derived.Test.YtijgbinkdjekoaaTz
import Derived.Test.YtijgbinkdjekoaaUGatR
namespace Go.Proofs.Ytijgbinkdjekoaa.TL
open Go Go.RowKit Go.Deep
set_option linter.unusedVariables false
set_option linter.unusedSimpArgs false

theorem flat_i64 : ∀ l : List Int, (l.map fun n => [i64c n]).flatten = l.map i64c
  | [] => rfl
  | a :: l => by rw [List.map_cons, List.flatten_cons, flat_i64 l]; rfl
theorem dec_ints {c : List TV} (h : ShV (.sl (.int .i64)) c) : ∃ l : List Int, l.length ≤ 140737488351232 ∧ asT (.sl (.int .i64)) c = .isl (l.map i64c) l.length := by
  simp only [ShV] at h
  obtain ⟨els, h1, h2, rfl⟩ := h
  obtain ⟨l, _, rfl⟩ := els_map (p := fun _ : Int => True) (g := fun n => [i64c n]) (els := els) fun x hx => by
    obtain ⟨n, _, rfl⟩ := h1 x hx
    exact ⟨n, trivial, rfl⟩
  refine ⟨l, by simpa [lim] using h2, ?_⟩
  simp [asT, flat_i64 l]
theorem dec_i64 {c : List TV} (h : ShV (.int .i64) c) : ∃ n : Int, (-9223372036854775808 ≤ n ∧ n ≤ 9223372036854775807) ∧ asT (.int .i64) c = i64c n := by
  obtain ⟨n, h1, h2⟩ := dec_int h
  simp only [Lit.wf, Bool.and_eq_true, decide_eq_true_eq] at h1
  have k1 : IntKind.min .i64 = -9223372036854775808 := by decide
  have k2 : IntKind.max .i64 = 9223372036854775807 := by decide
  rw [k1, k2] at h1
  exact ⟨n, h1, h2⟩
def shPcs : Sh := .st [.int .i64, .int .i64, .int .u64, .int .i64, .str]
theorem u64_wf {q : Int} (gq : (Lit.int .u64 q).wf = true) : 0 ≤ q ∧ q ≤ 18446744073709551615 := by
  simp only [Lit.wf, Bool.and_eq_true, decide_eq_true_eq] at gq
  rw [show IntKind.min .u64 = 0 by decide, show IntKind.max .u64 = 18446744073709551615 by decide] at gq
  exact gq
theorem dec_pcsL {c : List TV} (h : ShL [.int .i64, .int .i64, .int .u64, .int .i64, .str] c) : ∃ p : Pcs, p.h < 2 ^ 64 ∧ p.s.length ≤ 140737488351232 ∧ c = p.cells := by
  simp only [ShL, ShV] at h
  obtain ⟨_, _, rfl, ⟨n0, g0, rfl⟩, _, _, rfl, ⟨n1, g1, rfl⟩, _, _, rfl, ⟨q, gq, rfl⟩, _, _, rfl, ⟨n3, g3, rfl⟩, x4, _, rfl, ⟨s, k4, rfl⟩, rfl⟩ := h
  have := u64_wf gq
  refine ⟨⟨n0, n1, q.toNat, n3, sl s⟩, by simp only; omega, by rw [← size_sl]; exact k4, ?_⟩
  simp [Pcs.cells, i64c, u64c, Int.toNat_of_nonneg this.1]
theorem dec_pcs {c : List TV} (h : ShV shPcs c) : ∃ p : Pcs, (p.h < 2 ^ 64 ∧ p.s.length ≤ 140737488351232) ∧ asT shPcs c = .agg p.cells := by
  simp only [shPcs, ShV] at h
  obtain ⟨p, h1, h2, rfl⟩ := dec_pcsL h
  exact ⟨p, ⟨h1, h2⟩, rfl⟩
theorem flat_strs : ∀ l : List (List UInt8), (l.map fun s => [TV.v (.string (bs s))]).flatten = strs l
  | [] => rfl
  | a :: l => by rw [List.map_cons, List.flatten_cons, flat_strs l]; rfl
theorem dec_strs {c : List TV} (h : ShV (.sl .str) c) : ∃ l : List (List UInt8), (l.length ≤ 140737488351232 ∧ ∀ s ∈ l, s.length ≤ 140737488351232) ∧ asT (.sl .str) c = .isl (strs l) l.length := by
  simp only [ShV] at h
  obtain ⟨els, h1, h2, rfl⟩ := h
  obtain ⟨l, hl, rfl⟩ := els_map (p := fun s : List UInt8 => s.length ≤ 140737488351232) (g := fun s => [TV.v (.string (bs s))]) (els := els) fun x hx => by
    obtain ⟨s, k1, rfl⟩ := h1 x hx
    exact ⟨sl s, by rw [← size_sl]; exact k1, by rw [bs_sl]⟩
  refine ⟨l, ⟨by simpa [lim] using h2, hl⟩, ?_⟩
  simp [asT, flat_strs l]
/-- A piece that comes. -/
structure CAct where
  k : Int
  w : Int
  n : Int
  p : Pcs
def CAct.cells (a : CAct) : List TV := [i64c a.k, i64c a.w, i64c a.n] ++ a.p.cells
def rowA (l : List CAct) : List TV := (l.map CAct.cells).flatten
def shAct : Sh := .sl (.st [.int .i64, .int .i64, .int .i64, shPcs])
theorem dec_cacts {c : List TV} (h : ShV shAct c) : ∃ l : List CAct, (l.length ≤ 140737488351232 ∧ ∀ a ∈ l, a.p.h < 2 ^ 64 ∧ a.p.s.length ≤ 140737488351232) ∧ asT shAct c = .isl (rowA l) l.length := by
  rw [shAct, ShV] at h
  obtain ⟨els, h1, h2, rfl⟩ := h
  obtain ⟨l, hl, rfl⟩ := els_map (p := fun a : CAct => a.p.h < 2 ^ 64 ∧ a.p.s.length ≤ 140737488351232) (g := CAct.cells) (els := els) fun x hx => by
    have h3 := h1 x hx
    simp only [ShV, ShL, shPcs] at h3
    obtain ⟨_, _, rfl, ⟨n0, _, rfl⟩, _, _, rfl, ⟨n1, _, rfl⟩, _, _, rfl, ⟨n2, _, rfl⟩, x3, _, rfl, k3, rfl⟩ := h3
    obtain ⟨p, p1, p2, rfl⟩ := dec_pcsL (c := x3) (by simp only [ShL, ShV]; exact k3)
    exact ⟨⟨n0, n1, n2, p⟩, ⟨p1, p2⟩, by simp [CAct.cells, i64c]⟩
  refine ⟨l, ⟨by simpa [lim] using h2, hl⟩, ?_⟩
  simp [shAct, asT, rowA]
end Go.Proofs.Ytijgbinkdjekoaa.TL
