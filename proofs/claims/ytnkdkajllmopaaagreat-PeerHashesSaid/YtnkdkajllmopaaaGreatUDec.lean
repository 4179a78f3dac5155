/- Parameters of type []int, []roster.Change, []order.Order, and rows of such, opened. -/
import Derived.Test.YtnkdkajllmopaaaGreatTz
import Derived.Test.YtnkdkajllmopaaaGreatURec
namespace Go.Proofs.YtnkdkajllmopaaaGreat.TL
open Go Go.RowKit Go.Deep
set_option linter.unusedVariables false
set_option linter.unusedSimpArgs false

theorem flat_i64 : ∀ l : List Int, (l.map fun n => [i64c n]).flatten = l.map i64c
  | [] => rfl
  | a :: l => by rw [List.map_cons, List.flatten_cons, flat_i64 l]; rfl
theorem dec_ints {c : List TV} (h : ShV (.sl (.int .i64)) c) : ∃ l : List Int, l.length ≤ 140737488351232 ∧ asT (.sl (.int .i64)) c = .isl (l.map i64c) l.length := by
  simp only [ShV] at h
  obtain ⟨els, h1, h2, rfl⟩ := h
  obtain ⟨l, _, rfl⟩ := els_map (p := fun _ : Int => True) (g := fun n => [i64c n]) (els := els) fun x hx => by
    obtain ⟨n, _, rfl⟩ := h1 x hx
    exact ⟨n, trivial, rfl⟩
  refine ⟨l, by simpa [lim] using h2.1, ?_⟩
  simp [asT, flat_i64 l]
theorem dec_chgs {c : List TV} (h : ShV (.sl (.st [.int .i64, .int .i64, .sl (.int .i64)])) c) : ∃ l : List Chg, l.length ≤ 140737488351232 ∧ asT (.sl (.st [.int .i64, .int .i64, .sl (.int .i64)])) c = .isl (rowG l) l.length := by
  simp only [ShV] at h
  obtain ⟨els, h1, h2, rfl⟩ := h
  obtain ⟨l, _, rfl⟩ := els_map (p := fun _ : Chg => True) (g := Chg.cells) (els := els) fun x hx => by
    have h3 := h1 x hx
    simp only [ShL] at h3
    obtain ⟨x1, y1, rfl, ⟨n1, _, rfl⟩, x2, y2, rfl, ⟨n2, _, rfl⟩, x3, y3, rfl, k3, rfl⟩ := h3
    obtain ⟨v, _, hv⟩ := dec_ints (c := x3) (by simp only [ShV]; exact k3)
    obtain ⟨els3, _, _, rfl⟩ := k3
    simp only [asT, List.headD] at hv
    exact ⟨⟨n1, n2, v⟩, trivial, by simp [Chg.cells, i64c, hv]⟩
  refine ⟨l, by simpa [lim] using h2.1, ?_⟩
  simp [asT, rowG]
theorem dec_ords {c : List TV} (h : ShV (.sl (.st [.int .i64, .int .i64, .int .i64, .int .i64])) c) : ∃ l : List Ord, l.length ≤ 140737488351232 ∧ asT (.sl (.st [.int .i64, .int .i64, .int .i64, .int .i64])) c = .isl (rowC l) l.length := by
  simp only [ShV] at h
  obtain ⟨els, h1, h2, rfl⟩ := h
  obtain ⟨l, _, rfl⟩ := els_map (p := fun _ : Ord => True) (g := Ord.cells) (els := els) fun x hx => by
    have h3 := h1 x hx
    simp only [ShL] at h3
    obtain ⟨x1, y1, rfl, ⟨n1, _, rfl⟩, x2, y2, rfl, ⟨n2, _, rfl⟩, x3, y3, rfl, ⟨n3, _, rfl⟩, x4, y4, rfl, ⟨n4, _, rfl⟩, rfl⟩ := h3
    exact ⟨⟨n1, n2, n3, n4⟩, trivial, by simp [Ord.cells, i64c]⟩
  refine ⟨l, by simpa [lim] using h2.1, ?_⟩
  simp [asT, rowC]
theorem flat_rowB : ∀ L : List (List Ord), (L.map fun b => [TV.isl (rowC b) b.length]).flatten = rowB L
  | [] => rfl
  | a :: l => by rw [List.map_cons, List.flatten_cons, flat_rowB l]; rfl
theorem dec_ordss {c : List TV} (h : ShV (.sl (.sl (.st [.int .i64, .int .i64, .int .i64, .int .i64]))) c) : ∃ L : List (List Ord), L.length ≤ 140737488351232 ∧ asT (.sl (.sl (.st [.int .i64, .int .i64, .int .i64, .int .i64]))) c = .isl (rowB L) L.length := by
  rw [ShV] at h
  obtain ⟨els, h1, h2, rfl⟩ := h
  obtain ⟨l, _, rfl⟩ := els_map (p := fun _ : List Ord => True) (g := fun b => [TV.isl (rowC b) b.length]) (els := els) fun x hx => by
    have h3 := h1 x hx
    obtain ⟨b, _, hb⟩ := dec_ords h3
    rw [ShV] at h3
    obtain ⟨els3, _, _, rfl⟩ := h3
    simp only [asT, List.headD] at hb
    exact ⟨b, trivial, by rw [hb]⟩
  refine ⟨l, by simpa [lim] using h2.1, ?_⟩
  simp [asT, flat_rowB l]
def rowGG (L : List (List Chg)) : List TV := L.map fun b => .isl (rowG b) b.length
theorem flat_rowGG : ∀ L : List (List Chg), (L.map fun b => [TV.isl (rowG b) b.length]).flatten = rowGG L
  | [] => rfl
  | a :: l => by rw [List.map_cons, List.flatten_cons, flat_rowGG l]; rfl
theorem dec_chgss {c : List TV} (h : ShV (.sl (.sl (.st [.int .i64, .int .i64, .sl (.int .i64)]))) c) : ∃ L : List (List Chg), (L.length ≤ 140737488351232 ∧ ∀ l ∈ L, l.length ≤ 140737488351232) ∧ asT (.sl (.sl (.st [.int .i64, .int .i64, .sl (.int .i64)]))) c = .isl (rowGG L) L.length := by
  rw [ShV] at h
  obtain ⟨els, h1, h2, rfl⟩ := h
  obtain ⟨l, hl, rfl⟩ := els_map (p := fun l : List Chg => l.length ≤ 140737488351232) (g := fun b => [TV.isl (rowG b) b.length]) (els := els) fun x hx => by
    have h3 := h1 x hx
    obtain ⟨b, hbl, hb⟩ := dec_chgs h3
    rw [ShV] at h3
    obtain ⟨els3, _, _, rfl⟩ := h3
    simp only [asT, List.headD] at hb
    exact ⟨b, hbl, by rw [hb]⟩
  refine ⟨l, ⟨by simpa [lim] using h2.1, hl⟩, ?_⟩
  simp [asT, flat_rowGG l]
theorem dec_i64 {c : List TV} (h : ShV (.int .i64) c) : ∃ n : Int, (-9223372036854775808 ≤ n ∧ n ≤ 9223372036854775807) ∧ asT (.int .i64) c = i64c n := by
  obtain ⟨n, h1, h2⟩ := dec_int h
  simp only [Lit.wf, Bool.and_eq_true, decide_eq_true_eq] at h1
  have k1 : IntKind.min .i64 = -9223372036854775808 := by decide
  have k2 : IntKind.max .i64 = 9223372036854775807 := by decide
  rw [k1, k2] at h1
  exact ⟨n, h1, h2⟩
end Go.Proofs.YtnkdkajllmopaaaGreat.TL
