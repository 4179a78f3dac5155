/- Parameters of type []cotillionlaw22.Step, opened. -/
import Derived.Test.YtnkdkajllmopaaaGreatUDec
import Derived.Test.YtnkdkajllmopaaaGreatUFSn
namespace Go.Proofs.YtnkdkajllmopaaaGreat.TL
open Go Go.RowKit Go.Deep
set_option linter.unusedVariables false
set_option linter.unusedSimpArgs false

abbrev shChg : Sh := .st [.int .i64, .int .i64, .sl (.int .i64)]
abbrev shOrd : Sh := .st [.int .i64, .int .i64, .int .i64, .int .i64]
abbrev shStp : Sh := .st [.sl shChg, .bool, .int .i64, .int .i64, .sl (.sl shOrd), .int .i64]
theorem dec_stp {c : List TV} (h : ShV shStp c) : ∃ x : Stp, (x.c.length ≤ maxLen ∧ x.c.length * 40 ≤ 140737488351232) ∧ c = x.cells := by
  rw [ShV] at h
  simp only [ShL] at h
  obtain ⟨x0, _, rfl, k0, x1, _, rfl, k1, x2, _, rfl, k2, x3, _, rfl, k3, x4, _, rfl, k4, x5, _, rfl, k5, rfl⟩ := h
  obtain ⟨cs, hc, hcs⟩ := dec_chgs k0
  obtain ⟨y, _, hy⟩ := dec_bool k1
  obtain ⟨a, _, ha⟩ := dec_i64 k2
  obtain ⟨b, _, hb⟩ := dec_i64 k3
  obtain ⟨l, _, hl⟩ := dec_ordss k4
  obtain ⟨t, _, ht⟩ := dec_i64 k5
  rw [ShV] at k0 k4
  simp only [ShV] at k1 k2 k3 k5
  obtain ⟨els0, _, hl0, rfl⟩ := k0
  obtain ⟨_, rfl⟩ := k1
  obtain ⟨_, _, rfl⟩ := k2
  obtain ⟨_, _, rfl⟩ := k3
  obtain ⟨_, _, _, rfl⟩ := k4
  obtain ⟨_, _, rfl⟩ := k5
  simp only [asT, List.headD] at hcs hy ha hb hl ht
  have hl1 : els0.length = cs.length := (TV.isl.inj hcs).2
  have hl2 : els0.length * 40 ≤ 140737488351232 := hl0.2
  refine ⟨⟨cs, y, a, b, l, t⟩, ⟨Nat.le_trans hc (by decide), by simp only; omega⟩, ?_⟩
  simp [Stp.cells, hcs, hy, ha, hb, hl, ht]
theorem dec_stps {c : List TV} (h : ShV (.sl shStp) c) : ∃ l : List Stp, (∀ x ∈ l, x.c.length ≤ maxLen ∧ x.c.length * 40 ≤ 140737488351232) ∧ asT (.sl shStp) c = .isl (rowS l) l.length := by
  rw [ShV] at h
  obtain ⟨els, h1, h2, rfl⟩ := h
  obtain ⟨l, hl, rfl⟩ := els_map (p := fun x : Stp => x.c.length ≤ maxLen ∧ x.c.length * 40 ≤ 140737488351232) (g := Stp.cells) (els := els) fun x hx => dec_stp (h1 x hx)
  exact ⟨l, hl, by simp [asT, rowS]⟩
end Go.Proofs.YtnkdkajllmopaaaGreat.TL
