/- The roster: may a change be; behind changes. -/
import Derived.Test.YtekmhdiajjfgfaaDoorURosM
namespace Go.Proofs.YtekmhdiajjfgfaaDoor.TL
open Go
set_option linter.unusedVariables false
set_option linter.unusedSimpArgs false

/-- A change. -/
structure Chg where
  k : Int
  p : Int
  v : List Int
def Chg.cells (c : Chg) : List TV := [i64c c.k, i64c c.p, .isl (c.v.map i64c) c.v.length]
def Ros.chk (r : Ros) (c : Chg) : Int :=
  if c.k < 1 ∨ 3 < c.k then 7
  else if c.p < 0 ∨ 32 ≤ c.p ∨ c.p = 0 ∧ c.k ≠ 1 ∨ c.k ≠ 3 ∧ 0 < c.v.length then 4
  else if c.k = 1 then (if r.has c.p = true then 10 else 0)
  else if r.has c.p = false then 13
  else if c.k = 3 ∧ r.most c.p c.v = false then 15 else 0

set_option maxHeartbeats 2000000 in
set_option maxRecDepth 100000 in
theorem RChk_T (r : Ros) (c : Chg) (hs : r.s < 2 ^ 32) (hl : c.v.length ≤ 1000000) : callT Tryd.prog 12 [.agg r.cells, .agg c.cells] ⟨[], []⟩ (fun x h => x = i64c (r.chk c) ∧ h = []) := by
  obtain ⟨k, p, v⟩ := c
  simp only at hl
  refine callT_of_body [0, 1, 2, 3, 4, 5, 14, 44, 54, 65] [] Tryd.func12 rfl (by decide) (by kernel_rfl) rfl ?_
  by_cases k1 : k < 1
  · simp [Ros.cells, Chg.cells, u32v, i64c, k1, Ros.chk]
  by_cases k2 : 3 < k
  · simp [Ros.cells, Chg.cells, u32v, i64c, k1, k2, Ros.chk]
  by_cases p1 : p < 0
  · simp [Ros.cells, Chg.cells, u32v, i64c, k1, k2, p1, Ros.chk]
  by_cases p2 : 32 ≤ p
  · simp [Ros.cells, Chg.cells, u32v, i64c, k1, k2, p1, p2, Ros.chk]
  have hk : k = 1 ∨ k = 2 ∨ k = 3 := by omega
  rcases hk with rfl | rfl | rfl
  · by_cases p4 : v = []
    · simp [Ros.cells, Chg.cells, u32v, i64c, p1, p2, p4]
      intro v2 v3
      refine callT_eq [] (RHas_T r p hs) ?_
      by_cases h1 : r.has p = true
      · simp [Ros.cells, u32v, i64c, p1, p2, p4, h1, Ros.chk]
      · simp [Ros.cells, u32v, i64c, p1, p2, p4, h1, Ros.chk]
    · have p4' : 0 < v.length := List.length_pos_iff.2 p4
      simp [Ros.cells, Chg.cells, u32v, i64c, p1, p2, p4, p4', Ros.chk]
  · by_cases p3 : p = 0
    · simp [Ros.cells, Chg.cells, u32v, i64c, p3, Ros.chk]
    by_cases p4 : v = []
    · simp [Ros.cells, Chg.cells, u32v, i64c, p1, p2, p3, p4]
      intro v2 v3
      refine callT_eq [] (RHas_T r p hs) ?_
      by_cases h1 : r.has p = true
      · simp [Ros.cells, u32v, i64c, p1, p2, p3, p4, h1, Ros.chk]
      · simp [Ros.cells, u32v, i64c, p1, p2, p3, p4, h1, Ros.chk]
    · have p4' : 0 < v.length := List.length_pos_iff.2 p4
      simp [Ros.cells, Chg.cells, u32v, i64c, p1, p2, p3, p4, p4', Ros.chk]
  · by_cases p3 : p = 0
    · simp [Ros.cells, Chg.cells, u32v, i64c, p3, Ros.chk]
    simp [Ros.cells, Chg.cells, u32v, i64c, p1, p2, p3]
    intro v2 v3
    refine callT_eq [] (RHas_T r p hs) ?_
    by_cases h1 : r.has p = true
    · simp [Ros.cells, u32v, i64c, p1, p2, p3, h1]
      refine callT_eq [] (RMost_T r p v hs hl) ?_
      by_cases h2 : r.most p v = true
      · simp [Ros.cells, u32v, i64c, p1, p2, p3, h1, h2, Ros.chk]
      · simp [Ros.cells, u32v, i64c, p1, p2, p3, h1, h2, Ros.chk]
    · simp [Ros.cells, u32v, i64c, p1, p2, p3, h1, Ros.chk]
end Go.Proofs.YtekmhdiajjfgfaaDoor.TL
