/- The reference's roster: Most, Check. -/
import Derived.Test.YtgkhedmjkahclaaGreatDoorURos
namespace Go.Proofs.YtgkhedmjkahclaaGreatDoor.TL
open Go
set_option linter.unusedVariables false
set_option linter.unusedSimpArgs false

set_option maxHeartbeats 2000000 in
set_option maxRecDepth 100000 in
theorem MostR_T (r : Ros) (no : Int) (l : List Int) (hl : l.length ≤ 1000000) : callT Tryz.prog 92 [rRos r, i64c no, .isl (l.map i64c) l.length] ⟨[], []⟩ (fun x h => x = .v (.bool (r.most no l)) ∧ h = []) := by
  have hal := r.all_len 32
  have hae := all_length r
  have hin : ∀ p : Int, decide (p ∈ r.all 32) = r.has p := fun p => by
    by_cases h : r.has p = true
    · simp [h, mem_all.2 h]
    · have : p ∉ r.all 32 := fun hh => h (mem_all.1 hh)
      simp [h, this]
  refine callT_of_body [0, 1, 2, 3, 6, 7, 8, 9, 10, 11, 12, 37] [] Tryz.func92 rfl (by decide) (by kernel_rfl) rfl ?_
  simp [i64c]
  intro v3
  refine loopT_of (Nat × Nat) (fun x => x.1 ≤ l.length ∧ ∀ i, i < x.1 → r.okAt no l i = true) (fun x => ⟨[(1, i64c no), (2, .isl (l.map i64c) l.length), (3, .at 3 v3 0), (9, .isl (l.map i64c) l.length), (10, .v (.int .i64 l.length)), (11, .v (.int .i64 x.1))], [(3, v3, ⟨0, [.isl ((r.all 32).map i64c) (r.all 32).length, i64c r.e]⟩)]⟩) (fun x => l.length - x.1) (0, 0) ⟨by simp, fun i hi => by simp at hi⟩ (by simp [i64c]) (by simp [i64c, u32v]) ?_
  rintro ⟨k, z⟩ ⟨hk, hok⟩
  simp only at hk hok ⊢
  by_cases h1 : k < l.length
  · have hat : List.drop k (l.map i64c) = i64c l[k] :: List.drop (k + 1) (l.map i64c) := by
      rw [List.drop_eq_getElem_cons (by simpa using h1)]; simp
    have hg : l.getD k 0 = l[k] := by simp [h1]
    have e1 : IntKind.i64.wrap ((k : Int) + 1) = ((k + 1 : Nat) : Int) := by rw [i64_id (by omega) (by omega)]; rfl
    simp [h1, hat, i64c, u32v]
    refine callT_eq [] (HasR_T (r.all 32) r.e l[k] (by omega)) ?_
    by_cases g1 : r.has l[k] = true
    · by_cases g2 : l[k] = no
      · have hno := most_no (r := r) (no := no) h1 (by simp only [Ros.okAt, hg]; simp [g2])
        simp [hin, i64c, g1, g2, hno]
      · by_cases g3 : k = 0
        · subst g3
          have hk0 : r.okAt no l 0 = true := by simp only [Ros.okAt, hg]; simp [g1, g2]
          simp [hin, i64c, g1, g2]
          have hk1 : ∀ i, i < 1 → r.okAt no l i = true := fun i hi => by
            rw [show i = 0 by omega]; exact hk0
          exact SLx.again (1, 0) ⟨by simp only; omega, hk1⟩ (by simp only; omega) (by simp [i64c, show IntKind.i64.wrap 1 = 1 by decide]) (by simp [u32v, i64c])
        · have e2 : IntKind.i64.wrap ((k : Int) - 1) = ((k - 1 : Nat) : Int) := by rw [i64_id (by omega) (by omega)]; omega
          have h2 : k - 1 < l.length := by omega
          have hat2 : List.drop (k - 1) (l.map i64c) = i64c l[k - 1] :: List.drop (k - 1 + 1) (l.map i64c) := by
            rw [List.drop_eq_getElem_cons (by simpa using h2)]; simp
          have hg2 : l.getD (k - 1) 0 = l[k - 1] := by simp [h2]
          have g3' : 0 < k := by omega
          by_cases g4 : l[k] ≤ l[k - 1]
          · have hno := most_no (r := r) (no := no) h1 (by
              have : ¬ l[k - 1] < l[k] := by omega
              simp only [Ros.okAt, hg, hg2]
              simp [g3, this])
            simp [hin, i64c, g1, g2, g3', e2, h2, hat2, g4, hno]
          · have hkk : r.okAt no l k = true := by
              have : l[k - 1] < l[k] := by omega
              simp only [Ros.okAt, hg, hg2]
              simp [g1, g2, this]
            simp [hin, i64c, g1, g2, g3', e2, h2, hat2, g4]
            exact SLx.again (k + 1, 0) ⟨by simp only; omega, fun i hi => by
              simp only at hi
              by_cases hik : i = k
              · subst hik; exact hkk
              · exact hok i (by omega)⟩ (by simp only; omega) (by simp [i64c, e1]) (by simp [u32v, i64c])
    · have hno := most_no (r := r) (no := no) h1 (by simp only [Ros.okAt, hg]; simp [g1])
      simp [hin, i64c, g1, hno]
  · have : k = l.length := by omega
    subst this
    have hall : ((List.range l.length).all fun i => r.okAt no l i) = true := by
      rw [List.all_eq_true]
      exact fun i hi => hok i (by simpa using hi)
    have hle := pop32_le r.s
    have e2 : IntKind.i64.wrap ((r.len : Int) / 2) = (r.len : Int) / 2 := i64_id (by omega) (by omega)
    simp [u32v, i64c, hae, e2, Ros.most, hall]
    omega
set_option maxHeartbeats 2000000 in
set_option maxRecDepth 100000 in
theorem ChkR_T (r : Ros) (c : Chg) (hl : c.v.length ≤ 1000000) : callT Tryz.prog 79 [rRos r, .agg c.cells] ⟨[], []⟩ (fun x h => x = i64c (r.chk c) ∧ h = []) := by
  have hal := r.all_len 32
  have hin : ∀ p : Int, decide (p ∈ r.all 32) = r.has p := fun p => by
    by_cases h : r.has p = true
    · simp [h, mem_all.2 h]
    · have : p ∉ r.all 32 := fun hh => h (mem_all.1 hh)
      simp [h, this]
  obtain ⟨k, p, v⟩ := c
  simp only at hl
  refine callT_of_body [0, 1, 2, 3, 4, 12, 41, 44, 48, 53, 65] [] Tryz.func79 rfl (by decide) (by kernel_rfl) rfl ?_
  by_cases k1 : k < 1
  · simp [Chg.cells, i64c, k1, Ros.chk]
  by_cases k2 : 3 < k
  · simp [Chg.cells, i64c, k1, k2, Ros.chk]
  by_cases p1 : p < 0
  · simp [Chg.cells, i64c, k1, k2, p1, Ros.chk]
  by_cases p2 : 32 ≤ p
  · simp [Chg.cells, i64c, k1, k2, p1, p2, show 31 < p by omega, Ros.chk]
  have hk : k = 1 ∨ k = 2 ∨ k = 3 := by omega
  have p2' : ¬ 31 < p := by omega
  rcases hk with rfl | rfl | rfl
  · by_cases p4 : v = []
    · simp [Chg.cells, i64c, p2', p1, p2, p4]
      intro v2 v3
      refine callT_eq [] (HasR_T (r.all 32) r.e p (by omega)) ?_
      by_cases h1 : r.has p = true
      · simp [hin, i64c, p1, p2, p4, h1, Ros.chk]
      · simp [hin, i64c, p1, p2, p4, h1, Ros.chk]
    · have p4' : 0 < v.length := List.length_pos_iff.2 p4
      simp [Chg.cells, i64c, p2', p1, p2, p4, p4', Ros.chk]
  · by_cases p3 : p = 0
    · simp [Chg.cells, i64c, p2', p3, Ros.chk]
    by_cases p4 : v = []
    · simp [Chg.cells, i64c, p2', p1, p2, p3, p4]
      intro v2 v3
      refine callT_eq [] (HasR_T (r.all 32) r.e p (by omega)) ?_
      by_cases h1 : r.has p = true
      · simp [hin, i64c, p1, p2, p3, p4, h1, Ros.chk]
      · simp [hin, i64c, p1, p2, p3, p4, h1, Ros.chk]
    · have p4' : 0 < v.length := List.length_pos_iff.2 p4
      simp [Chg.cells, i64c, p2', p1, p2, p3, p4, p4', Ros.chk]
  · by_cases p3 : p = 0
    · simp [Chg.cells, i64c, p2', p3, Ros.chk]
    simp [Chg.cells, i64c, p2', p1, p2, p3]
    intro v2 v3
    refine callT_eq [] (HasR_T (r.all 32) r.e p (by omega)) ?_
    by_cases h1 : r.has p = true
    · simp [hin, i64c, p1, p2, p3, h1]
      refine callT_eq [] (MostR_T r p v hl) ?_
      by_cases h2 : r.most p v = true
      · simp [hin, i64c, p1, p2, p3, h1, h2, Ros.chk]
      · simp [hin, i64c, p1, p2, p3, h1, h2, Ros.chk]
    · simp [hin, i64c, p1, p2, p3, h1, Ros.chk]
end Go.Proofs.YtgkhedmjkahclaaGreatDoor.TL
