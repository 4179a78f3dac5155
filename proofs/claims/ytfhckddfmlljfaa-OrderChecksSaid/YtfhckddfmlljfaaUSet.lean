/- Units: one changes; all of them. -/
import Derived.Test.YtfhckddfmlljfaaUKill
namespace Go.Proofs.Ytfhckddfmlljfaa.TL
open Go
set_option linter.unusedVariables false
set_option linter.unusedSimpArgs false

/-- The nil slice as one that never changes. -/
theorem VLx.nil' {h : Heap} {S : TV → Heap → Prop} (k : S (.isl [] 0) h) : VLx (.v (.slice none 0 0)) h S := fun e E w v H hv => by
  simp only [RV] at hv
  exact ⟨_, h, E, k, Env.Le.refl E, H, by simp only [RV]; exact .inl ⟨trivial, trivial, hv⟩⟩

def Un.setF (u : Un) (f x : Int) : Un := if f = 2 then { u with c := x } else if f = 3 then { u with d := x } else { u with e := x }
def Tab.set (t : Tab) (id f x : Int) : Tab × Bool :=
  if found t.l id = false ∨ f < 2 ∨ 4 < f then (t, false) else if f = 4 ∧ x < 1 then (t.kill id, true) else if mayF f x = false then (t, false)
  else (⟨t.l.modify (pos t.l id) fun w => w.setF f x, t.next⟩, true)

theorem row_put {l : List Un} {p : Nat} (hp : p < l.length) (y : TV) (j : Nat) (g : Un → Un) (hj : j < 6) (hw : (g l[p]).cells = List.take j l[p].cells ++ y :: List.drop (j + 1) l[p].cells) :
    List.take (p * 6 + j) (rowU l) ++ y :: List.drop (p * 6 + j + 1) (rowU l) = rowU (l.modify p g) := by
  obtain ⟨A, x, B, rfl, rfl⟩ : ∃ A x B, l = A ++ x :: B ∧ p = A.length := ⟨l.take p, l[p], l.drop (p + 1), by rw [← List.drop_eq_getElem_cons hp, List.take_append_drop], by simp; omega⟩
  have hxl : x.cells.length = 6 := rfl
  have hx : (A ++ x :: B)[A.length] = x := by simp
  rw [hx] at hw
  have e1 : (A ++ x :: B).modify A.length g = A ++ g x :: B := by simp [List.modify_eq_take_cons_drop]
  rw [e1]
  simp only [rowU_append, rowU_cons, hw]
  have e2 : A.length * 6 = (rowU A).length := by simp
  rw [e2, Nat.add_assoc]
  simp only [List.take_length_add_append, List.drop_length_add_append, List.append_assoc]
  congr 1
  rw [List.take_append_of_le_length (by omega), List.drop_append_of_le_length (by omega)]
  simp

set_option maxRecDepth 100000 in
theorem Set_T (v u : Nat) (t : Tab) (id f x : Int) (ht : t.Ok) : callT Try.prog 19 [.at 1000 v 0, i64v id, i64v f, i64v x] ⟨[], tabH v u t⟩ (fun r h => ∃ u', r = .v (.bool (t.set id f x).2) ∧ h = tabH v u' (t.set id f x).1) := by
  refine callT_of_body [0, 1, 2, 3, 8, 9, 10, 17, 28, 38] [1000, 1001] Try.func19 rfl (by decide) (by kernel_rfl) rfl ?_
  simp
  refine callT_eq [(1000, 1000), (1001, 1001)] (Find_T v u t id ht) ?_
  by_cases hf : found t.l id = false
  · simp [i64v, hf, Tab.set]
  rw [Bool.not_eq_false] at hf
  by_cases h1 : f < 2
  · simp [i64v, hf, h1, Tab.set]
  by_cases h2 : 4 < f
  · simp [i64v, hf, h1, h2, Tab.set]
  have hp := found_lt hf
  by_cases h3 : f = 4 ∧ x < 1
  · obtain ⟨rfl, h3⟩ := h3
    simp [i64v, hf, h3]
    refine callT_ex [(1000, 1000), (1001, 1001)] (Kill_T v u t id ht) ?_
    simp [i64v, hf, h3, Tab.set]
  by_cases h4 : f = 4
  · subst h4
    have h3' : ¬ x < 1 := by omega
    simp [i64v, hf, h3']
    refine callT_eq [] (May_T 4 x) ?_
    by_cases h5 : mayF 4 x = false
    · simp [i64v, hf, h3', h5, Tab.set]
    rw [Bool.not_eq_false] at h5
    simp [i64v, hf, h3', h5, Tab.set, hp, rowU_at hp]
    exact ⟨by omega, row_put hp _ 5 (fun w => w.setF 4 x) (by decide) (by simp [Un.setF, Un.cells, i64v])⟩
  · have h6 : f = 2 ∨ f = 3 := by omega
    rcases h6 with rfl | rfl
    · simp [i64v, hf]
      refine callT_eq [] (May_T 2 x) ?_
      by_cases h5 : mayF 2 x = false
      · simp [i64v, hf, h5, Tab.set]
      rw [Bool.not_eq_false] at h5
      simp [i64v, hf, h5, Tab.set, hp, rowU_at hp]
      exact ⟨by omega, row_put hp _ 3 (fun w => w.setF 2 x) (by decide) (by simp [Un.setF, Un.cells, i64v])⟩
    · simp [i64v, hf]
      refine callT_eq [] (May_T 3 x) ?_
      by_cases h5 : mayF 3 x = false
      · simp [i64v, hf, h5, Tab.set]
      rw [Bool.not_eq_false] at h5
      simp [i64v, hf, h5, Tab.set, hp, rowU_at hp]
      exact ⟨by omega, row_put hp _ 4 (fun w => w.setF 3 x) (by decide) (by simp [Un.setF, Un.cells, i64v])⟩

/-- slices.Clone, of any row, read for good. -/
theorem CloneR_T (u : Nat) (l : List Un) (hl : l.length ≤ 1000000) :
    callT Try.prog 48 [.sl 1000 u 0 l.length] ⟨[], [(1000, u, ⟨6, rowU l⟩)]⟩ (fun r h => r = .isl (rowU l) l.length ∧ h = [(1000, u, ⟨6, rowU l⟩)]) := by
  refine callT.mono (K := fun r h => (l = [] ∧ r = .v (.slice none 0 0) ∧ h = [(1000, u, ⟨6, rowU l⟩)]) ∨ ∃ u', r = .sl 5 u' 0 l.length ∧ h = [(1000, u, ⟨6, rowU l⟩), (5, u', ⟨6, rowU l⟩)]) ?_ fun r h hh => ?_
  · refine callT_of_body [0, 2, 4] [1000, 5] Try.func48 rfl (by decide) (by kernel_rfl) rfl ?_
    have e1 : List.take (l.length * 6) (rowU l) = rowU l := List.take_of_length_le (by simp)
    simp [e1]
    omega
  · rcases hh with ⟨rfl, rfl, rfl⟩ | ⟨u', rfl, rfl⟩
    · exact VLx.nil' ⟨rfl, rfl⟩
    · refine VLx.frz 5 rfl (VLx.done ?_)
      have e1 : List.take (l.length * 6) (rowU l) = rowU l := List.take_of_length_le (by simp)
      simp [e1]

set_option maxRecDepth 100000 in
theorem All_T (v u : Nat) (t : Tab) (ht : t.Ok) : callT Try.prog 56 [.at 1000 v 0] ⟨[], tabH v u t⟩ (fun r h => r = .isl (rowU t.l) t.l.length ∧ h = tabH v u t) := by
  refine callT_of_body [0, 2] [1000, 1001] Try.func56 rfl (by decide) (by kernel_rfl) rfl ?_
  simp
  refine callT_eq [(1000, 1001)] (CloneR_T u t.l ht.len) ?_
  simp

theorem New1_T : callT Try.prog 13 [] ⟨[], []⟩ (fun r h => ∃ v u, r = .at 2 v 0 ∧ h = [(2, v, ⟨0, [.sl 1001 u 0 0, i64v 1]⟩), (1001, u, ⟨6, []⟩)]) := by
  refine callT.mono New_T fun r h hh => ?_
  obtain ⟨v, rfl, rfl⟩ := hh
  exact VLx.nilCell 2 0 1001 6 (by decide) (by decide) rfl rfl fun u => VLx.done ⟨v, u, rfl, by simp [setH, List.set]⟩
end Go.Proofs.Ytfhckddfmlljfaa.TL
