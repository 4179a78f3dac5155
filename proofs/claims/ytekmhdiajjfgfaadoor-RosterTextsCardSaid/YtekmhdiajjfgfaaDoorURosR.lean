/- The reference's roster: Has, Of, Most. -/
import Derived.Test.YtekmhdiajjfgfaaDoorURosC
namespace Go.Proofs.YtekmhdiajjfgfaaDoor.TL
open Go
set_option linter.unusedVariables false
set_option linter.unusedSimpArgs false

theorem isl_at {l : List Int} {k : Nat} (h : k < l.length) : List.drop k (l.map i64c) = i64c l[k] :: List.drop (k + 1) (l.map i64c) := by
  rw [List.drop_eq_getElem_cons (by simpa using h)]; simp
abbrev rosL (l : List Int) (e : Int) : TV := .agg [.isl (l.map i64c) l.length, i64c e]
abbrev rRos (r : Ros) : TV := rosL (r.all 32) r.e
theorem mem_all {r : Ros} {p : Int} : p ∈ r.all 32 ↔ r.has p = true := by
  unfold Ros.all Ros.has
  simp only [List.mem_map, List.mem_filter, List.mem_range, Bool.and_eq_true, decide_eq_true_eq]
  constructor
  · rintro ⟨k, ⟨h1, h2⟩, rfl⟩
    exact ⟨Int.natCast_nonneg k, by simp; omega, by simpa using h2⟩
  · rintro ⟨h0, h1, h2⟩
    exact ⟨p.toNat, ⟨by omega, h2⟩, by simp; omega⟩
theorem all_length (r : Ros) : (r.all 32).length = r.len := by simp [Ros.all, Ros.len, pop32]

set_option maxHeartbeats 1000000 in
set_option maxRecDepth 100000 in
theorem HasR_T (l : List Int) (e p : Int) (hl : l.length ≤ 1000000) : callT Tryd.prog 37 [rosL l e, i64c p] ⟨[], []⟩ (fun x h => x = .v (.bool (decide (p ∈ l))) ∧ h = []) := by
  refine callT_of_body [0, 1, 2, 4, 6, 8, 9, 10, 11, 16] [] Tryd.func37 rfl (by decide) (by kernel_rfl) rfl ?_
  simp [i64c]
  intro v2
  refine loopT_of (Nat × Nat) (fun x => x.1 ≤ l.length ∧ ∀ i (h : i < l.length), i < x.1 → l[i] ≠ p) (fun x => ⟨[(1, i64c p), (8, .isl (l.map i64c) l.length), (9, .v (.int .i64 l.length)), (10, .v (.int .i64 x.1))], []⟩) (fun x => l.length - x.1) (0, 0) ⟨by simp, fun i h hi => by simp at hi⟩ (by simp [i64c]) (by simp) ?_
  rintro ⟨k, z⟩ ⟨hk, hno⟩
  simp only at hk hno ⊢
  by_cases h1 : k < l.length
  · have hat := isl_at h1
    have e1 : IntKind.i64.wrap ((k : Int) + 1) = ((k + 1 : Nat) : Int) := by rw [i64_id (by omega) (by omega)]; rfl
    by_cases g : l[k] = p
    · have hm : p ∈ l := g ▸ List.getElem_mem h1
      simp [h1, hat, i64c, g, hm]
    · simp [h1, hat, i64c, g]
      have hno2 : ∀ i (h : i < l.length), i < k + 1 → l[i] ≠ p := fun i h hi => by
        by_cases hik : i = k
        · subst hik; exact g
        · exact hno i h (by omega)
      exact SLx.again (k + 1, 0) ⟨by simp only; omega, hno2⟩ (by simp only; omega) (by simp [e1, i64c]) (by simp)
  · have : k = l.length := by omega
    subst this
    have hm : p ∉ l := fun hh => by
      obtain ⟨i, hi, rfl⟩ := List.getElem_of_mem hh
      exact hno i hi hi rfl
    simp [i64c, hm]

theorem setOf_bit (l : List Int) (k : Nat) (hk : k < 32) : (setOf l).testBit k = decide ((k : Int) ∈ l) := by
  have key : ∀ (l : List Int) (s : Nat), (l.foldl addP s).testBit k = (s.testBit k || decide ((k : Int) ∈ l)) := fun l => by
    induction l with
    | nil => intro s; simp
    | cons p l ih =>
      intro s
      rw [List.foldl_cons, ih]
      unfold addP
      by_cases hp : 0 ≤ p ∧ p < 32
      · rw [if_pos hp, Nat.testBit_or, Nat.testBit_two_pow]
        by_cases hkp : p.toNat = k
        · have : (k : Int) = p := by omega
          simp [hkp, this]
        · have : ¬ (k : Int) = p := by omega
          simp [hkp, this]
      · rw [if_neg hp]
        have : ¬ (k : Int) = p := by omega
        simp [this]
  simpa [setOf] using key l 0

set_option maxHeartbeats 1000000 in
set_option maxRecDepth 100000 in
theorem OfR_T (l : List Int) (hl : l.length ≤ 1000000) : callT Tryd.prog 9 [.isl (l.map i64c) l.length] ⟨[], []⟩ (fun x h => x = rRos ⟨setOf l, 0⟩ ∧ h = []) := by
  refine callT.mono (K := fun x h => ∃ u, x = .agg [.sl 1001 u 0 ((Ros.mk (setOf l) 0).all 32).length, i64c 0] ∧ h = [(1001, u, ⟨1, ((Ros.mk (setOf l) 0).all 32).map i64c⟩)]) ?_ fun x h hh => ?_
  · refine callT_of_body [0, 2, 3, 4, 7, 13] [1001] Tryd.func9 rfl (by decide) (by kernel_rfl) rfl ?_
    simp [i64c]
    intro v2 v3
    refine ⟨Nat × Nat, fun x => x.1 ≤ 32, fun x => ⟨[(0, .isl (l.map i64c) l.length), (2, .at 2 v2 0), (3, .at 3 v3 0), (4, .v (.int .i64 x.1))], [(2, v2, ⟨0, [.v (.slice none 0 0), .v (.int .i64 0)]⟩), (3, v3, ⟨0, [.sl 1001 x.2 0 ((Ros.mk (setOf l) 0).all x.1).length, .v (.int .i64 0)]⟩), (1001, x.2, ⟨1, ((Ros.mk (setOf l) 0).all x.1).map i64c⟩)]⟩, fun x => 32 - x.1, ?_, ?_⟩
    · refine SLx.nilCell 3 0 1001 1 (by decide) (by decide) rfl rfl fun u => SLx.fin _ ⟨(0, u), by simp, rfl⟩ (by simp) (by simp [Ros.all, setH])
    rintro ⟨k, u⟩ hk
    simp only at hk ⊢
    have hal := (Ros.mk (setOf l) 0).all_len k
    by_cases h1 : k < 32
    · have h1' : (k : Int) < 32 := by omega
      simp [h1']
      refine callT_eq [] (HasR_T l 0 k hl) ?_
      have hb := setOf_bit l k h1
      have hsu := (Ros.mk (setOf l) 0).all_succ k
      simp only [hb] at hsu
      have e1 : IntKind.i64.wrap ((k : Int) + 1) = ((k + 1 : Nat) : Int) := by rw [i64_id (by omega) (by omega)]; rfl
      by_cases hm : (k : Int) ∈ l
      · rw [if_pos (by simpa using hm)] at hsu
        simp [i64c, hm]
        intro v
        refine ⟨by omega, by omega, fun u2 => ?_⟩
        exact SLx.again (k + 1, u2) (by simp only; omega) (by simp only; omega) (by simp [e1]) (by simp [hsu, i64c])
      · rw [if_neg (by simpa using hm)] at hsu
        simp [i64c, hm]
        exact SLx.again (k + 1, u) (by simp only; omega) (by simp only; omega) (by simp [e1]) (by simp [hsu, i64c])
    · have : k = 32 := by omega
      subst this
      simp [i64c]
  · obtain ⟨u, rfl, rfl⟩ := hh
    refine VLx.frz 1001 rfl (VLx.done ?_)
    simp [i64c]
end Go.Proofs.YtekmhdiajjfgfaaDoor.TL
