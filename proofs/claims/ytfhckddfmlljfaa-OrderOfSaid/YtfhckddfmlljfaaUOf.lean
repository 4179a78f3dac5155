/- The law OrderOf, as the code runs. -/
import Derived.Test.YtfhckddfmlljfaaUAwk9
namespace Go.Proofs.Ytfhckddfmlljfaa.TL
open Go
set_option linter.unusedVariables false
set_option linter.unusedSimpArgs false

theorem rowC_set {l : List Ord} {k : Nat} (h : k < l.length) (n : Int) : List.take (k * 4) (rowC l) ++ (.v (.int .i64 n)) :: List.drop (k * 4 + 1) (rowC l) = rowC (l.set k ⟨n, l[k].u, l[k].a, l[k].b⟩) := by
  rw [rowC_take, ← List.drop_drop, rowC_at h, List.set_eq_take_append_cons_drop, if_pos h]
  simp [Ord.cells, i64c]
theorem i64_ne (a : Int) : a ≠ IntKind.i64.wrap (a + 1) := by rw [IntKind.wrap_i64]; omega

set_option maxRecDepth 100000 in
theorem OrderOf_1 (l : List Ord) (hok : ∀ o ∈ l, o.ok) (h12 : l.length ≤ 12) : callT Try.prog 5 [.isl (rowC l) l.length] ⟨[], []⟩ (fun r h => r = .v (.bool true)) := by
  refine callT_of_body [0, 2, 3, 4, 7, 24, 26, 27, 28, 38, 55] [] Try.func5 rfl (by decide) (by kernel_rfl) rfl ?_
  have h12' : ¬ (12 : Int) < l.length := by omega
  have e1 : List.take (l.length * 4) (rowC l) = rowC l := List.take_of_length_le (by simp)
  simp [h12', e1]
  refine ⟨by omega, by omega, fun v => ?_⟩
  refine callT_ex [(1000, 10), (8, 14)] (Of_T v l (by omega)) ?_
  simp
  intro u
  refine callT_eq [] Awk9_T ?_
  have hmin : ((min 8 l.length : Nat) : Int) = min (l.length : Int) 8 := by omega
  simp [hmin]
  generalize hb : l.take 8 = b
  have hbl : b.length = min 8 l.length := by rw [← hb]; simp
  have hbl' : b.length ≤ l.length := by omega
  refine loopT_of (Nat × List Ord) (fun x => x.1 ≤ b.length ∧ x.2.length = l.length ∧ ∀ j (h1 : j < x.2.length) (h2 : j < b.length), x.1 ≤ j → x.2[j] = b[j]) (fun x => ⟨[(0, .sl 10 v 0 l.length), (3, .sl 14 u 0 b.length), (26, .v (.int .i64 b.length)), (27, .v (.int .i64 x.1))], [(10, v, ⟨4, rowC x.2⟩), (14, u, ⟨4, rowC b⟩)]⟩) (fun x => b.length - x.1) (0, l) ⟨by simp, rfl, fun j h1 h2 _ => by subst hb; simp⟩ (by simp [hbl, hmin]) (by simp) ?_
  rintro ⟨k, m⟩ ⟨hk, hml, hmb⟩
  simp only at hk hml hmb ⊢
  by_cases h1 : k < b.length
  · have hkm : k < m.length := by omega
    have hkl : k < l.length := by omega
    have heq := hmb k hkm h1 (Nat.le_refl _)
    simp [h1]
    refine draw_quiet (by kernel_rfl) (by kernel_rfl) (by kernel_rfl) ?_
    simp [h1, hkl, rowC_at h1, rowC_at hkm, heq, i64c]
    refine ⟨by omega, ?_⟩
    rw [rowC_set hkm]
    generalize hm2 : m.set k ⟨IntKind.i64.wrap (b[k].k + 1), m[k].u, m[k].a, m[k].b⟩ = m2
    have hm2l : m2.length = l.length := by rw [← hm2]; simpa using hml
    have hkm2 : k < m2.length := by omega
    have hm2k : m2[k] = ⟨IntKind.i64.wrap (b[k].k + 1), m[k].u, m[k].a, m[k].b⟩ := by subst hm2; simp
    have hne : ¬ b[k].k = IntKind.i64.wrap (b[k].k + 1) := i64_ne _
    refine draw_quiet (by kernel_rfl) (by kernel_rfl) (by kernel_rfl) ?_
    simp [h1, hkl, rowC_at h1, rowC_at hkm2, hm2k, i64c, hne]
    have e4 : IntKind.i64.wrap ((k : Int) + 1) = ((k + 1 : Nat) : Int) := by rw [i64_id (by omega) (by omega)]; rfl
    refine SLx.again (k + 1, m2) ⟨by simp only; omega, hm2l, fun j h3 h4 h5 => ?_⟩ (by simp only; omega) (by simp [e4]) (by simp)
    simp only at h3 h5 ⊢
    subst hm2
    rw [List.getElem_set_ne (by omega)]
    exact hmb j (by simpa using h3) h4 (by omega)
  · have hkb : k = b.length := by omega
    subst hkb
    simp

set_option maxRecDepth 100000 in
theorem OrderOf_2 (l : List Ord) (hok : ∀ o ∈ l, o.ok) (h12 : 12 < l.length) : callT Try.prog 5 [.isl (rowC l) l.length] ⟨[], []⟩ (fun r h => r = .v (.bool true)) := by
  refine callT_of_body [0, 2, 3, 4, 7, 24, 26, 27, 28, 38, 55] [] Try.func5 rfl (by decide) (by kernel_rfl) rfl ?_
  have h12' : (12 : Int) < l.length := by omega
  have e1 := rowC_take 12 l
  have e0 : List.take 48 (rowC (l.take 12)) = rowC (l.take 12) := List.take_of_length_le (by simp; omega)
  simp [h12', e1, e0]
  refine ⟨by omega, by omega, fun v => ?_⟩
  generalize hm : l.take 12 = lm
  have hlm : lm.length = 12 := by rw [← hm]; simp; omega
  refine callT_ex [(1000, 10), (8, 14)] (Of_T v lm (by omega)) ?_
  simp [hlm]
  intro u
  refine callT_eq [] Awk9_T ?_
  have hmin : ((min 8 12 : Nat) : Int) = min (12 : Int) 8 := by omega
  simp [show min (12 : Int) 8 = 8 from rfl]
  generalize hb : lm.take 8 = b
  have hbl : b.length = 8 := by rw [← hb]; simp; omega
  have hbl' : b.length ≤ 12 := by omega
  refine loopT_of (Nat × List Ord) (fun x => x.1 ≤ b.length ∧ x.2.length = 12 ∧ ∀ j (h1 : j < x.2.length) (h2 : j < b.length), x.1 ≤ j → x.2[j] = b[j]) (fun x => ⟨[(0, .sl 10 v 0 12), (3, .sl 14 u 0 b.length), (26, .v (.int .i64 b.length)), (27, .v (.int .i64 x.1))], [(10, v, ⟨4, rowC x.2⟩), (14, u, ⟨4, rowC b⟩)]⟩) (fun x => b.length - x.1) (0, lm) ⟨by simp, hlm, fun j h1 h2 _ => by subst hb; simp⟩ (by simp [hbl, hmin]) (by simp) ?_
  rintro ⟨k, m⟩ ⟨hk, hml, hmb⟩
  simp only at hk hml hmb ⊢
  by_cases h1 : k < b.length
  · have hkm : k < m.length := by omega
    have hkl : k < 12 := by omega
    have heq := hmb k hkm h1 (Nat.le_refl _)
    simp [h1]
    refine draw_quiet (by kernel_rfl) (by kernel_rfl) (by kernel_rfl) ?_
    simp [h1, hkl, rowC_at h1, rowC_at hkm, heq, i64c]
    refine ⟨by omega, by omega, ?_⟩
    rw [rowC_set hkm]
    generalize hm2 : m.set k ⟨IntKind.i64.wrap (b[k].k + 1), m[k].u, m[k].a, m[k].b⟩ = m2
    have hm2l : m2.length = 12 := by rw [← hm2]; simpa using hml
    have hkm2 : k < m2.length := by omega
    have hm2k : m2[k] = ⟨IntKind.i64.wrap (b[k].k + 1), m[k].u, m[k].a, m[k].b⟩ := by subst hm2; simp
    have hne : ¬ b[k].k = IntKind.i64.wrap (b[k].k + 1) := i64_ne _
    refine draw_quiet (by kernel_rfl) (by kernel_rfl) (by kernel_rfl) ?_
    simp [h1, hkl, rowC_at h1, rowC_at hkm2, hm2k, i64c, hne]
    refine ⟨by omega, ?_⟩
    have e4 : IntKind.i64.wrap ((k : Int) + 1) = ((k + 1 : Nat) : Int) := by rw [i64_id (by omega) (by omega)]; rfl
    refine SLx.again (k + 1, m2) ⟨by simp only; omega, hm2l, fun j h3 h4 h5 => ?_⟩ (by simp only; omega) (by simp [e4]) (by simp)
    simp only at h3 h5 ⊢
    subst hm2
    rw [List.getElem_set_ne (by omega)]
    exact hmb j (by simpa using h3) h4 (by omega)
  · have hkb : k = b.length := by omega
    subst hkb
    simp
theorem OrderOf_T (l : List Ord) (hok : ∀ o ∈ l, o.ok) : callT Try.prog 5 [.isl (rowC l) l.length] ⟨[], []⟩ (fun r h => r = .v (.bool true)) := by
  by_cases h : 12 < l.length
  · exact OrderOf_2 l hok h
  · exact OrderOf_1 l hok (by omega)
end Go.Proofs.Ytfhckddfmlljfaa.TL
