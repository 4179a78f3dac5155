/- Orders: may a player order them. -/
import Derived.Test.YtfhckddfmlljfaaUOrd
import Derived.Test.YtfhckddfmlljfaaUDoes8
namespace Go.Proofs.Ytfhckddfmlljfaa.TL
open Go
set_option linter.unusedVariables false
set_option linter.unusedSimpArgs false

def idR (n : Int) : Bool := decide (1 ≤ n) && decide (n < 1099511627776)
def placeR (n : Int) : Bool := decide (-1000 ≤ n) && decide (n ≤ 1000)
set_option maxRecDepth 100000 in
theorem IdR_T (n : Int) : callT Try.prog 71 [i64c n] ⟨[], []⟩ (fun r h => r = .v (.bool (idR n)) ∧ h = []) := by
  refine callT_of_body [0, 2] [] Try.func71 rfl (by decide) (by kernel_rfl) rfl ?_
  simp [i64c]
  rfl
set_option maxRecDepth 100000 in
theorem PlaceR_T (n : Int) : callT Try.prog 72 [i64c n] ⟨[], []⟩ (fun r h => r = .v (.bool (placeR n)) ∧ h = []) := by
  refine callT_of_body [0, 2] [] Try.func72 rfl (by decide) (by kernel_rfl) rfl ?_
  simp [i64c]
  rfl

def Ord.chkR (o : Ord) : Int :=
  if o.k = 1 then (if idR o.u = true ∧ placeR o.a = true ∧ placeR o.b = true then 0 else 4)
  else if o.k = 2 then (if idR o.u = true ∧ idR o.a = true ∧ o.b = 0 then 0 else 4)
  else if o.k = 3 then (if o.u = 0 ∧ 0 ≤ o.a ∧ o.a ≤ 255 ∧ placeR o.b = true then 0 else 4)
  else if o.k = 4 then (if idR o.u = true ∧ o.a = 0 ∧ o.b = 0 then 0 else 4) else 7
theorem chk_eq (o : Ord) : o.chkR = o.chk := by
  simp only [Ord.chkR, Ord.chk, idR, placeR, far, Bool.and_eq_true, Bool.or_eq_true, decide_eq_true_eq]
  repeat' split
  all_goals omega

set_option maxHeartbeats 1000000 in
set_option maxRecDepth 100000 in
theorem CheckR_1 (u a b : Int) : callT Try.prog 42 [.agg (Ord.mk 1 u a b).cells] ⟨[], []⟩ (fun r h => r = i64c (Ord.mk 1 u a b).chkR ∧ h = []) := by
  refine callT_of_body [0, 1, 2, 3, 5, 6, 21, 36, 56, 71] [] Try.func42 rfl (by decide) (by kernel_rfl) rfl ?_
  simp [Ord.cells, i64c]
  intro v
  refine callT_eq [] (IdR_T u) ?_
  by_cases h1 : idR u = true
  · simp [i64c, h1]
    refine callT_eq [] (PlaceR_T a) ?_
    by_cases h2 : placeR a = true
    · simp [i64c, h2]
      refine callT_eq [] (PlaceR_T b) ?_
      by_cases h3 : placeR b = true
      · simp [i64c, h1, h2, h3, Ord.chkR]
      · simp [i64c, h1, h2, h3, Ord.chkR]
    · simp [i64c, h1, h2, Ord.chkR]
  · simp [i64c, h1, Ord.chkR]
set_option maxHeartbeats 1000000 in
set_option maxRecDepth 100000 in
theorem CheckR_2 (u a b : Int) : callT Try.prog 42 [.agg (Ord.mk 2 u a b).cells] ⟨[], []⟩ (fun r h => r = i64c (Ord.mk 2 u a b).chkR ∧ h = []) := by
  refine callT_of_body [0, 1, 2, 3, 5, 6, 21, 36, 56, 71] [] Try.func42 rfl (by decide) (by kernel_rfl) rfl ?_
  simp [Ord.cells, i64c]
  intro v
  refine callT_eq [] (IdR_T u) ?_
  by_cases h1 : idR u = true
  · simp [i64c, h1]
    refine callT_eq [] (IdR_T a) ?_
    by_cases h2 : idR a = true
    · by_cases h3 : b = 0
      · simp [i64c, h1, h2, h3, Ord.chkR]
      · simp [i64c, h1, h2, h3, Ord.chkR]
    · simp [i64c, h1, h2, Ord.chkR]
  · simp [i64c, h1, Ord.chkR]
set_option maxHeartbeats 1000000 in
set_option maxRecDepth 100000 in
theorem CheckR_3 (u a b : Int) : callT Try.prog 42 [.agg (Ord.mk 3 u a b).cells] ⟨[], []⟩ (fun r h => r = i64c (Ord.mk 3 u a b).chkR ∧ h = []) := by
  refine callT_of_body [0, 1, 2, 3, 5, 6, 21, 36, 56, 71] [] Try.func42 rfl (by decide) (by kernel_rfl) rfl ?_
  by_cases h1 : u = 0
  · by_cases h2 : 0 ≤ a
    · by_cases h3 : a ≤ 255
      · simp [Ord.cells, i64c, h1, h2, h3]
        intro v
        refine callT_eq [] (PlaceR_T b) ?_
        by_cases h4 : placeR b = true
        · simp [i64c, h1, h2, h3, h4, Ord.chkR]
        · simp [i64c, h1, h2, h3, h4, Ord.chkR]
      · simp [Ord.cells, i64c, h1, h2, h3, Ord.chkR]
    · simp [Ord.cells, i64c, h1, h2, Ord.chkR]
  · simp [Ord.cells, i64c, h1, Ord.chkR]
set_option maxHeartbeats 1000000 in
set_option maxRecDepth 100000 in
theorem CheckR_4 (u a b : Int) : callT Try.prog 42 [.agg (Ord.mk 4 u a b).cells] ⟨[], []⟩ (fun r h => r = i64c (Ord.mk 4 u a b).chkR ∧ h = []) := by
  refine callT_of_body [0, 1, 2, 3, 5, 6, 21, 36, 56, 71] [] Try.func42 rfl (by decide) (by kernel_rfl) rfl ?_
  simp [Ord.cells, i64c]
  intro v
  refine callT_eq [] (IdR_T u) ?_
  by_cases h1 : idR u = true <;> by_cases h2 : a = 0 <;> by_cases h3 : b = 0 <;> simp [i64c, h1, h2, h3, Ord.chkR]
set_option maxHeartbeats 1000000 in
set_option maxRecDepth 100000 in
theorem CheckR_0 (k u a b : Int) (h1 : ¬ k = 1) (h2 : ¬ k = 2) (h3 : ¬ k = 3) (h4 : ¬ k = 4) : callT Try.prog 42 [.agg (Ord.mk k u a b).cells] ⟨[], []⟩ (fun r h => r = i64c (Ord.mk k u a b).chkR ∧ h = []) := by
  refine callT_of_body [0, 1, 2, 3, 5, 6, 21, 36, 56, 71] [] Try.func42 rfl (by decide) (by kernel_rfl) rfl ?_
  simp [Ord.cells, i64c, h1, h2, h3, h4, Ord.chkR]
theorem CheckR_T (o : Ord) : callT Try.prog 42 [.agg o.cells] ⟨[], []⟩ (fun r h => r = i64c o.chk ∧ h = []) := by
  rw [← chk_eq]
  obtain ⟨k, u, a, b⟩ := o
  by_cases h1 : k = 1
  · subst h1; exact CheckR_1 u a b
  by_cases h2 : k = 2
  · subst h2; exact CheckR_2 u a b
  by_cases h3 : k = 3
  · subst h3; exact CheckR_3 u a b
  by_cases h4 : k = 4
  · subst h4; exact CheckR_4 u a b
  exact CheckR_0 k u a b h1 h2 h3 h4

def Ord.valid (o : Ord) (t : Tab) (p : Int) : Int :=
  if o.chk ≠ 0 then o.chk else if o.k = 3 then 0 else if found t.l o.u = false then 9 else if (t.unit o.u).1.b ≠ p then 13 else
  if o.k ≠ 2 then 0 else if found t.l o.a = false then 9 else if (t.unit o.a).1.b = p then 13 else 0
theorem unit_found (t : Tab) (id : Int) : (t.unit id).2 = found t.l id := by
  unfold Tab.unit
  split
  · rename_i hh; exact hh.symm
  · rename_i hh; simpa using hh

set_option maxHeartbeats 1000000 in
set_option maxRecDepth 100000 in
theorem Valid_T (v u : Nat) (o : Ord) (t : Tab) (p : Int) (ht : t.WF) : callT Try.prog 43 [.agg o.cells, .at 1000 v 0, i64v p] ⟨[], tabH v u t⟩ (fun r h => r = i64v (o.valid t p) ∧ h = tabH v u t) := by
  refine callT_of_body [0, 1, 2, 3, 6, 7, 8, 9, 10, 14, 18, 26, 29, 37, 45, 48] [1000, 1001] Try.func43 rfl (by decide) (by kernel_rfl) rfl ?_
  have hcl : o.cells = [i64v o.k, i64v o.u, i64v o.a, i64v o.b] := rfl
  simp [hcl, i64v]
  intro v3
  refine callT_eq [] (Check_T o) ?_
  by_cases hc : o.chk = 0
  · by_cases h3 : o.k = 3
    · simp [hcl, i64v, i64c, hc, h3, Ord.valid]
    · simp [hcl, i64v, i64c, hc, h3]
      refine callT_eq [(1000, 1000), (1001, 1001)] (Unit_T v u t o.u ht.ok) ?_
      by_cases hf : found t.l o.u = true
      · by_cases hp : (t.unit o.u).1.b = p
        · by_cases h2 : o.k = 2
          · simp [i64v, Un.cells, unit_found, hf, hp, h2]
            intro v8
            refine callT_eq [(1000, 1000), (1001, 1001)] (Unit_T v u t o.a ht.ok) ?_
            by_cases hg : found t.l o.a = true
            · by_cases hq : (t.unit o.a).1.b = p
              · simp [i64v, Un.cells, unit_found, hc, h3, hf, hp, h2, hg, hq, Ord.valid]
              · simp [i64v, Un.cells, unit_found, hc, h3, hf, hp, h2, hg, hq, Ord.valid]
            · simp [i64v, Un.cells, unit_found, hc, h3, hf, hp, h2, hg, Ord.valid]
          · simp [i64v, Un.cells, unit_found, hc, h3, hf, hp, h2, Ord.valid]
        · simp [i64v, Un.cells, unit_found, hc, h3, hf, hp, Ord.valid]
      · simp [i64v, Un.cells, unit_found, hc, h3, hf, Ord.valid]
  · simp [hcl, i64v, i64c, hc, Ord.valid]

theorem unit_pos {t : Tab} {id : Int} (h : found t.l id = true) : (t.unit id).1 = t.l[pos t.l id]'(found_lt h) := by
  have := found_lt h
  simp [Tab.unit, h, this]

set_option maxHeartbeats 1000000 in
set_option maxRecDepth 100000 in
theorem ValidR_T (o : Ord) (t : Tab) (p : Int) (ht : t.WF) : callT Try.prog 44 [.agg o.cells, rTab t, i64v p] ⟨[], []⟩ (fun r h => r = i64v (o.valid t p) ∧ h = []) := by
  refine callT_of_body [0, 1, 2, 3, 4, 6, 7, 8, 16, 24, 33, 36, 42, 51] [] Try.func44 rfl (by decide) (by kernel_rfl) rfl ?_
  have hcl : o.cells = [i64v o.k, i64v o.u, i64v o.a, i64v o.b] := rfl
  have hf1 := findR_eq (id := o.u) ht.asc
  have hf2 := findR_eq (id := o.a) ht.asc
  simp [hcl, i64v]
  intro v3 v4
  refine callT_eq [] (CheckR_T o) ?_
  by_cases hc : o.chk = 0
  · by_cases h3 : o.k = 3
    · simp [hcl, i64v, i64c, hc, h3]
      refine callT_eq [] (CheckR_T o) ?_
      simp [hcl, i64v, i64c, hc, h3, Ord.valid]
    · simp [hcl, i64v, i64c, hc, h3]
      refine callT_eq [] (FindR_T t o.u ht.ok.len) ?_
      by_cases hf : found t.l o.u = true
      · rw [if_pos hf] at hf1
        have hn1 : ¬ ((pos t.l o.u : Int) < 0) := by omega
        have hlt := found_lt hf
        have hpo := unit_pos hf
        by_cases hp : (t.unit o.u).1.b = p
        · have hp' := hp
          rw [hpo] at hp'
          by_cases h2 : o.k = 2
          · simp [i64v, Un.cells, hf1, hn1, hlt, rowU_at hlt, hp', h2]
            refine callT_eq [] (FindR_T t o.a ht.ok.len) ?_
            by_cases hg : found t.l o.a = true
            · rw [if_pos hg] at hf2
              have hn2 : ¬ ((pos t.l o.a : Int) < 0) := by omega
              have hlt2 := found_lt hg
              have hpo2 := unit_pos hg
              by_cases hq : (t.unit o.a).1.b = p
              · have hq' := hq
                rw [hpo2] at hq'
                simp [i64v, Un.cells, hc, h3, hf, hp, h2, hg, hq, hf2, hn2, hlt2, rowU_at hlt2, hq', Ord.valid]
              · have hq' := hq
                rw [hpo2] at hq'
                simp [i64v, Un.cells, hc, h3, hf, hp, h2, hg, hq, hf2, hn2, hlt2, rowU_at hlt2, hq', Ord.valid]
            · rw [if_neg hg] at hf2
              simp [i64v, Un.cells, hc, h3, hf, hp, h2, hg, hf2, Ord.valid]
          · simp [i64v, Un.cells, hc, h3, hf, hp, h2, hf1, hn1, hlt, rowU_at hlt, hp', Ord.valid]
        · have hp' := hp
          rw [hpo] at hp'
          simp [i64v, Un.cells, hc, h3, hf, hp, hf1, hn1, hlt, rowU_at hlt, hp', Ord.valid]
      · rw [if_neg hf] at hf1
        simp [i64v, Un.cells, hc, h3, hf, hf1, Ord.valid]
  · simp [hcl, i64v, i64c, hc]
    refine callT_eq [] (CheckR_T o) ?_
    simp [hcl, i64v, i64c, hc, Ord.valid]
end Go.Proofs.Ytfhckddfmlljfaa.TL
