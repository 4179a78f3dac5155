/- The reference's units: what its functions do. -/
import Derived.Test.YtfhckddfmlljfaaULaw8
import Derived.Test.YtfhckddfmlljfaaUR2i
namespace Go.Proofs.Ytfhckddfmlljfaa.TL
open Go
set_option linter.unusedVariables false
set_option linter.unusedSimpArgs false

def mayR (f x : Int) : Bool := if f < 2 then decide (0 ≤ x) && decide (x ≤ 255) else if f < 4 then decide (-1000 ≤ x) && decide (x ≤ 1000) else decide (1 ≤ x) && decide (x ≤ 1000)
theorem mayR_eq {f x : Int} (h : 0 ≤ f) : mayR f x = mayF f x := by
  unfold mayR mayF
  by_cases h1 : f < 2
  · rw [if_pos h1, if_pos (by omega : f = 0 ∨ f = 1)]
  · rw [if_neg h1, if_neg (by omega : ¬ (f = 0 ∨ f = 1))]
    by_cases h2 : f < 4
    · rw [if_pos h2, if_pos (by omega : f = 2 ∨ f = 3)]
    · rw [if_neg h2, if_neg (by omega : ¬ (f = 2 ∨ f = 3))]

set_option maxRecDepth 100000 in
theorem MayR_T (f x : Int) : callT Try.prog 75 [i64v f, i64v x] ⟨[], []⟩ (fun r h => r = .v (.bool (mayR f x)) ∧ h = []) := by
  refine callT_of_body [0, 1, 4, 6, 14] [] Try.func75 rfl (by decide) (by kernel_rfl) rfl ?_
  by_cases h1 : f < 2
  · by_cases h3 : 0 ≤ x <;> simp [i64v, h1, h3, mayR]
  · by_cases h2 : f < 4
    · by_cases h3 : -1000 ≤ x <;> simp [i64v, h1, h2, h3, mayR]
    · by_cases h3 : 1 ≤ x <;> simp [i64v, h1, h2, h3, mayR]

abbrev rTab (t : Tab) : TV := .agg [.isl (rowU t.l) t.l.length, i64v t.next]
/-- Where a number stands; -1. -/
def findR (l : List Un) (id : Int) : Int := match l.findIdx? (fun u => decide (u.id = id)) with | some k => k | none => -1

set_option maxRecDepth 100000 in
theorem FindR_T (t : Tab) (id : Int) (hl : t.l.length ≤ 1000000) : callT Try.prog 29 [rTab t, i64v id] ⟨[], []⟩ (fun r h => r = i64v (findR t.l id) ∧ h = []) := by
  refine callT_of_body [0, 1, 2, 4, 5, 6, 8, 9, 10, 11, 18] [] Try.func29 rfl (by decide) (by kernel_rfl) rfl ?_
  simp [i64v]
  intro v2
  refine loopT_of (Nat × Nat) (fun x => x.1 ≤ t.l.length ∧ ∀ k (h : k < t.l.length), k < x.1 → t.l[k].id ≠ id) (fun x => ⟨[(1, i64v id), (8, .isl (rowU t.l) t.l.length), (9, .v (.int .i64 t.l.length)), (10, .v (.int .i64 x.1))], []⟩) (fun x => t.l.length - x.1) (0, 0) ⟨by simp, fun k h hk => by simp at hk⟩ (by simp [i64v]) (by simp) ?_
  rintro ⟨i, w⟩ ⟨hi, hno⟩
  simp only at hi hno ⊢
  by_cases h1 : i < t.l.length
  · simp [h1, rowU_at h1, i64v]
    intro v6
    refine ⟨fun h2 => ?_, fun h2 => ?_⟩
    · have hn : t.l.findIdx? (fun u => decide (u.id = id)) = some i := by
        rw [List.findIdx?_eq_some_iff_getElem]
        exact ⟨h1, by simpa using h2, fun j hj => by have := hno j (by omega) hj; simpa using this⟩
      simp [findR, hn]
    · have e1 : IntKind.i64.wrap ((i : Int) + 1) = ((i + 1 : Nat) : Int) := by rw [i64_id (by omega) (by omega)]; rfl
      refine SLx.again (i + 1, 0) ⟨by simp only; omega, fun k hk hk2 => ?_⟩ (by simp only; omega) (by simp [e1, i64v]) (by simp)
      simp only at hk2
      by_cases hki : k = i
      · subst hki; exact h2
      · exact hno k hk (by omega)
  · have : i = t.l.length := by omega
    subst this
    have hn : t.l.findIdx? (fun u => decide (u.id = id)) = none := by
      rw [List.findIdx?_eq_none_iff]
      intro u hu
      obtain ⟨k, hk, rfl⟩ := List.getElem_of_mem hu
      have := hno k hk hk
      simpa using this
    simp [findR, hn, i64v]

theorem take6 (l : List Un) : List.take (l.length * 6) (rowU l) = rowU l := List.take_of_length_le (by simp)

set_option maxHeartbeats 1000000 in
set_option maxRecDepth 100000 in
theorem SpawnR_T (t : Tab) (a b c d : Int) (ht : t.Ok) (hn : 0 ≤ t.next) : callT Try.prog 53 [rTab t, i64v a, i64v b, i64v c, i64v d] ⟨[], []⟩ (fun r h => r = .tup [rTab (t.spawn a b c d).1, i64v (t.spawn a b c d).2] ∧ h = []) := by
  have hl := ht.len
  by_cases hs : t.canSpawn a b c d = true
  · unfold Tab.canSpawn at hs
    simp only [Bool.and_eq_true, decide_eq_true_eq] at hs
    obtain ⟨h0, h1, h2, h3, h4, h5⟩ := hs
    refine callT.mono (K := fun r h => ∃ v, r = .tup [.agg [.sl 51 v 0 (t.l.length + 1), i64v (t.next + 1)], i64v t.next] ∧ h = [(51, v, ⟨6, rowU (t.l ++ [⟨t.next, a, b, c, d, 1000⟩])⟩)]) ?_ fun r h hh => ?_
    · refine callT_of_body [0, 1, 2, 3, 4, 5, 10, 11, 12, 41] [51] Try.func53 rfl (by decide) (by kernel_rfl) rfl ?_
      have h0' : ¬ (64 : Int) ≤ t.l.length := by omega
      have h5' : ¬ 1099511627776 ≤ t.next := by omega
      simp [i64v]
      intro v1 v2
      simp [h0']
      refine callT_eq [] (MayR_T 0 a) ?_
      simp [i64v, mayR_eq, h1]
      refine callT_eq [] (MayR_T 1 b) ?_
      simp [i64v, mayR_eq, h2]
      refine callT_eq [] (MayR_T 2 c) ?_
      simp [i64v, mayR_eq, h3]
      refine callT_eq [] (MayR_T 3 d) ?_
      simp [i64v, mayR_eq, h4, h5']
      intro v3
      refine draw_g [1, 2, 4, 5, 7, 8, 9, 11, 12, 0, 3, 6, 10, 13] 14 [(0, []), (3, [0, 1, 2]), (6, [0, 1, 2, 3, 4, 5]), (13, [0, 1, 2, 3, 4, 5, 6, 7, 8, 9, 10])] (by kernel_rfl) (by kernel_rfl) (by kernel_rfl) ?_
      have e1 : IntKind.i64.wrap (t.next + 1) = t.next + 1 := i64_id (by omega) (by omega)
      simp [take6, e1, Un.cells, i64v]
      omega
    · obtain ⟨v, rfl, rfl⟩ := hh
      refine VLx.frz 51 rfl (VLx.done ?_)
      have e1 := take6 (t.l ++ [⟨t.next, a, b, c, d, 1000⟩])
      simp at e1
      simp [Tab.spawn, Tab.canSpawn, h0, h1, h2, h3, h4, h5, i64v, e1]
  · have hs2 : t.spawn a b c d = (t, 0) := by unfold Tab.spawn; rw [if_neg hs]
    rw [hs2]
    unfold Tab.canSpawn at hs
    simp only [Bool.and_eq_true, decide_eq_true_eq] at hs
    refine callT_of_body [0, 1, 2, 3, 4, 5, 10, 11, 12, 41] [] Try.func53 rfl (by decide) (by kernel_rfl) rfl ?_
    by_cases h0 : (64 : Int) ≤ t.l.length
    · simp [i64v, h0]
    have h0' : t.l.length < 64 := by omega
    simp [i64v]
    intro v1 v2
    simp [h0]
    refine callT_eq [] (MayR_T 0 a) ?_
    by_cases h1 : mayF 0 a = false
    · simp [i64v, mayR_eq, h1]
    rw [Bool.not_eq_false] at h1
    simp [i64v, mayR_eq, h1]
    refine callT_eq [] (MayR_T 1 b) ?_
    by_cases h2 : mayF 1 b = false
    · simp [i64v, mayR_eq, h2]
    rw [Bool.not_eq_false] at h2
    simp [i64v, mayR_eq, h2]
    refine callT_eq [] (MayR_T 2 c) ?_
    by_cases h3 : mayF 2 c = false
    · simp [i64v, mayR_eq, h3]
    rw [Bool.not_eq_false] at h3
    simp [i64v, mayR_eq, h3]
    refine callT_eq [] (MayR_T 3 d) ?_
    by_cases h4 : mayF 3 d = false
    · simp [i64v, mayR_eq, h4]
    rw [Bool.not_eq_false] at h4
    have h5 : 1099511627776 ≤ t.next := by
      by_cases h : t.next < 1099511627776
      · exact absurd ⟨h0', h1, h2, h3, h4, h⟩ hs
      · omega
    simp [i64v, mayR_eq, h4, h5]
end Go.Proofs.Ytfhckddfmlljfaa.TL
