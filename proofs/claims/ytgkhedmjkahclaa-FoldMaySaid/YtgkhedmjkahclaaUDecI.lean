/- Parameters of type code.Image, opened. -/
import Derived.Test.YtgkhedmjkahclaaUDec
import Derived.Test.YtgkhedmjkahclaaUVm
namespace Go.Proofs.Ytgkhedmjkahclaa.TL
open Go Go.RowKit Go.Deep
set_option linter.unusedVariables false
set_option linter.unusedSimpArgs false

theorem int_rng {k : IntKind} {n : Int} (h : (Lit.int k n).wf = true) : IntKind.min k ≤ n ∧ n ≤ IntKind.max k := by
  simpa only [Lit.wf, Bool.and_eq_true, decide_eq_true_eq] using h
theorem rng_i64 {n : Int} (h : (Lit.int .i64 n).wf = true) : -9223372036854775808 ≤ n ∧ n ≤ 9223372036854775807 := by
  have h1 := int_rng h
  rw [show IntKind.min .i64 = -9223372036854775808 by decide, show IntKind.max .i64 = 9223372036854775807 by decide] at h1
  exact h1
theorem rng_u8 {n : Int} (h : (Lit.int .u8 n).wf = true) : 0 ≤ n ∧ n ≤ 255 := by
  have h1 := int_rng h
  rw [show IntKind.min .u8 = 0 by decide, show IntKind.max .u8 = 255 by decide] at h1
  exact h1
abbrev shIns : Sh := .st [.int .u8, .int .i64]
abbrev shFn : Sh := .st [.int .i64, .int .i64, .sl shIns]
abbrev shImg : Sh := .st [.sl shFn]
structure Ins.rng (x : Ins) : Prop where
  o : 0 ≤ x.op ∧ x.op ≤ 255
  a : -9223372036854775808 ≤ x.arg ∧ x.arg ≤ 9223372036854775807
structure Fn.rng (f : Fn) : Prop where
  a : -9223372036854775808 ≤ f.args ∧ f.args ≤ 9223372036854775807
  l : -9223372036854775808 ≤ f.locs ∧ f.locs ≤ 9223372036854775807
  c : ∀ x ∈ f.code, x.rng
  n : f.code.length ≤ 140737488351232
theorem dec_inss {c : List TV} (h : ShV (.sl shIns) c) : ∃ l : List Ins, ((∀ x ∈ l, x.rng) ∧ l.length ≤ 140737488351232) ∧ asT (.sl shIns) c = .isl (rowIns l) l.length := by
  simp only [ShV] at h
  obtain ⟨els, h1, h2, rfl⟩ := h
  obtain ⟨l, hl, rfl⟩ := els_map (p := fun x : Ins => x.rng) (g := Ins.cells) (els := els) fun x hx => by
    have h3 := h1 x hx
    simp only [ShL] at h3
    obtain ⟨x1, y1, rfl, ⟨n1, k1, rfl⟩, x2, y2, rfl, ⟨n2, k2, rfl⟩, rfl⟩ := h3
    exact ⟨⟨n1, n2⟩, ⟨rng_u8 k1, rng_i64 k2⟩, by simp [Ins.cells, i64v]⟩
  refine ⟨l, ⟨hl, by simpa [lim] using h2⟩, ?_⟩
  simp [asT, rowIns]
theorem dec_fns {c : List TV} (h : ShV (.sl shFn) c) : ∃ l : List Fn, ((∀ f ∈ l, f.rng) ∧ l.length ≤ 140737488351232) ∧ asT (.sl shFn) c = .isl (rowFn l) l.length := by
  simp only [ShV] at h
  obtain ⟨els, h1, h2, rfl⟩ := h
  obtain ⟨l, hl, rfl⟩ := els_map (p := fun f : Fn => f.rng) (g := Fn.cells) (els := els) fun x hx => by
    have h3 := h1 x hx
    simp only [ShL] at h3
    obtain ⟨x1, y1, rfl, ⟨n1, k1, rfl⟩, x2, y2, rfl, ⟨n2, k2, rfl⟩, x3, y3, rfl, k3, rfl⟩ := h3
    obtain ⟨v, ⟨hv1, hv2⟩, hv⟩ := dec_inss (c := x3) (by simp only [ShV]; exact k3)
    obtain ⟨els3, _, _, rfl⟩ := k3
    simp only [asT, List.headD] at hv
    exact ⟨⟨n1, n2, v⟩, ⟨rng_i64 k1, rng_i64 k2, hv1, hv2⟩, by simp [Fn.cells, i64v, hv]⟩
  refine ⟨l, ⟨hl, by simpa [lim] using h2⟩, ?_⟩
  simp [asT, rowFn]
theorem dec_img {c : List TV} (h : ShV shImg c) : ∃ l : List Fn, ((∀ f ∈ l, f.rng) ∧ l.length ≤ 140737488351232) ∧ asT shImg c = .agg [.isl (rowFn l) l.length] := by
  simp only [ShV, ShL] at h
  obtain ⟨x1, y1, rfl, k1, rfl⟩ := h
  obtain ⟨l, hl, hv⟩ := dec_fns (c := x1) (by simp only [ShV]; exact k1)
  obtain ⟨els3, _, _, rfl⟩ := k1
  simp only [asT, List.headD] at hv
  exact ⟨l, hl, by simp [asT, hv]⟩
end Go.Proofs.Ytgkhedmjkahclaa.TL
