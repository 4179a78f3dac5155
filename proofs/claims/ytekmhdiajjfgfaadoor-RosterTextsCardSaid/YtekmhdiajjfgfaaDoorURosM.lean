/- The roster: votes, changes. -/
import Derived.Test.YtekmhdiajjfgfaaDoorURos
namespace Go.Proofs.YtekmhdiajjfgfaaDoor.TL
open Go
set_option linter.unusedVariables false
set_option linter.unusedSimpArgs false

def Ros.okAt (r : Ros) (no : Int) (l : List Int) (i : Nat) : Bool := r.has (l.getD i 0) && (!decide (l.getD i 0 = no) && (decide (i = 0) || decide (l.getD (i - 1) 0 < l.getD i 0)))
def Ros.most (r : Ros) (no : Int) (l : List Int) : Bool := ((List.range l.length).all fun i => r.okAt no l i) && decide (r.len < 2 * l.length)
theorem most_no {r : Ros} {no : Int} {l : List Int} {k : Nat} (hk : k < l.length) (h : r.okAt no l k = false) : r.most no l = false := by
  unfold Ros.most
  rw [Bool.and_eq_false_iff]
  left
  rw [List.all_eq_false]
  exact ⟨k, by simpa using hk, by simp [h]⟩

set_option maxHeartbeats 2000000 in
set_option maxRecDepth 100000 in
theorem RMost_T (r : Ros) (no : Int) (l : List Int) (hs : r.s < 2 ^ 32) (hl : l.length ≤ 1000000) : callT Tryd.prog 15 [.agg r.cells, i64c no, .isl (l.map i64c) l.length] ⟨[], []⟩ (fun x h => x = .v (.bool (r.most no l)) ∧ h = []) := by
  refine callT_of_body [0, 1, 2, 3, 6, 7, 8, 9, 10, 11, 12, 37] [] Tryd.func15 rfl (by decide) (by kernel_rfl) rfl ?_
  simp [Ros.cells, u32v, i64c]
  intro v3
  refine loopT_of (Nat × Nat) (fun x => x.1 ≤ l.length ∧ ∀ i, i < x.1 → r.okAt no l i = true) (fun x => ⟨[(1, i64c no), (2, .isl (l.map i64c) l.length), (3, .at 3 v3 0), (9, .isl (l.map i64c) l.length), (10, .v (.int .i64 l.length)), (11, .v (.int .i64 x.1))], [(3, v3, ⟨0, [u32v r.s, i64c r.e]⟩)]⟩) (fun x => l.length - x.1) (0, 0) ⟨by simp, fun i hi => by simp at hi⟩ (by simp [i64c]) (by simp [i64c, u32v]) ?_
  rintro ⟨k, z⟩ ⟨hk, hok⟩
  simp only at hk hok ⊢
  by_cases h1 : k < l.length
  · have hat : List.drop k (l.map i64c) = i64c l[k] :: List.drop (k + 1) (l.map i64c) := by
      rw [List.drop_eq_getElem_cons (by simpa using h1)]; simp
    have hg : l.getD k 0 = l[k] := by simp [h1]
    have e1 : IntKind.i64.wrap ((k : Int) + 1) = ((k + 1 : Nat) : Int) := by rw [i64_id (by omega) (by omega)]; rfl
    simp [h1, hat, i64c, u32v]
    refine callT_eq [] (RHas_T r l[k] hs) ?_
    by_cases g1 : r.has l[k] = true
    · by_cases g2 : l[k] = no
      · have hno := most_no (r := r) (no := no) h1 (by simp only [Ros.okAt, hg]; simp [g2])
        simp [Ros.cells, u32v, i64c, g1, g2, hno]
      · by_cases g3 : k = 0
        · subst g3
          have hk0 : r.okAt no l 0 = true := by simp only [Ros.okAt, hg]; simp [g1, g2]
          simp [Ros.cells, u32v, i64c, g1, g2]
          have hk1 : ∀ i, i < 1 → r.okAt no l i = true := fun i hi => by
            rw [show i = 0 by omega]; exact hk0
          exact SLx.again (1, 0) ⟨by simp only; omega, hk1⟩ (by simp only; omega) (by simp [i64c, show IntKind.i64.wrap 1 = 1 by decide]) (by simp [u32v, i64c])
        · have e2 : IntKind.i64.wrap ((k : Int) - 1) = ((k - 1 : Nat) : Int) := by rw [i64_id (by omega) (by omega)]; omega
          have h2 : k - 1 < l.length := by omega
          have hat2 : List.drop (k - 1) (l.map i64c) = i64c l[k - 1] :: List.drop (k - 1 + 1) (l.map i64c) := by
            rw [List.drop_eq_getElem_cons (by simpa using h2)]; simp
          have hg2 : l.getD (k - 1) 0 = l[k - 1] := by simp [h2]
          have g3' : 0 < k := by omega
          by_cases g4 : l[k] ≤ l[k - 1]
          · have hno := most_no (r := r) (no := no) h1 (by
              have : ¬ l[k - 1] < l[k] := by omega
              simp only [Ros.okAt, hg, hg2]
              simp [g3, this])
            simp [Ros.cells, u32v, i64c, g1, g2, g3', e2, h2, hat2, g4, hno]
          · have hkk : r.okAt no l k = true := by
              have : l[k - 1] < l[k] := by omega
              simp only [Ros.okAt, hg, hg2]
              simp [g1, g2, this]
            simp [Ros.cells, u32v, i64c, g1, g2, g3', e2, h2, hat2, g4]
            exact SLx.again (k + 1, 0) ⟨by simp only; omega, fun i hi => by
              simp only at hi
              by_cases hik : i = k
              · subst hik; exact hkk
              · exact hok i (by omega)⟩ (by simp only; omega) (by simp [i64c, e1]) (by simp [u32v, i64c])
    · have hno := most_no (r := r) (no := no) h1 (by simp only [Ros.okAt, hg]; simp [g1])
      simp [Ros.cells, u32v, i64c, g1, hno]
  · have : k = l.length := by omega
    subst this
    have hall : ((List.range l.length).all fun i => r.okAt no l i) = true := by
      rw [List.all_eq_true]
      exact fun i hi => hok i (by simpa using hi)
    have hle := pop32_le r.s
    have e2 : IntKind.i64.wrap (2 * (l.length : Int)) = 2 * (l.length : Int) := i64_id (by omega) (by omega)
    simp [u32v, i64c]
    refine callT_eq [] (RLen_T r hs) ?_
    simp [Ros.cells, u32v, i64c, e2, Ros.most, hall]
    omega
end Go.Proofs.YtekmhdiajjfgfaaDoor.TL
