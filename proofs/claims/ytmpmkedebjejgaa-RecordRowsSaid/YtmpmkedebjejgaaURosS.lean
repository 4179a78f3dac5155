/- The law's Same; slices.Equal of numbers; the roster's Same. -/
import Derived.Test.YtmpmkedebjejgaaURosR
namespace Go.Proofs.Ytmpmkedebjejgaa.TL
open Go
set_option linter.unusedVariables false
set_option linter.unusedSimpArgs false

theorem list_ext_lt {a b : List Int} (h : a.length = b.length) (hh : ∀ i (ha : i < a.length) (hb : i < b.length), i < b.length → a[i] = b[i]) : a = b :=
  List.ext_getElem h fun i h1 h2 => hh i h1 h2 h2

set_option maxHeartbeats 1000000 in
set_option maxRecDepth 100000 in
theorem Same_T (a b : List Int) (hb : b.length ≤ 1000000) : callT Try.prog 29 [.isl (a.map i64c) a.length, .isl (b.map i64c) b.length] ⟨[], []⟩ (fun x h => x = i64c (if a = b then 0 else -1) ∧ h = []) := by
  refine callT_of_body [0, 1, 4, 5, 10, 12, 13, 14, 24] [] Try.func29 rfl (by decide) (by kernel_rfl) rfl ?_
  by_cases hl : a.length = b.length
  · simp [i64c, hl]
    refine loopT_of (Nat × Nat) (fun x => x.1 ≤ b.length ∧ ∀ i (ha : i < a.length) (hb : i < b.length), i < x.1 → a[i] = b[i]) (fun x => ⟨[(0, .isl (a.map i64c) b.length), (1, .isl (b.map i64c) b.length), (12, .v (.int .i64 b.length)), (13, .v (.int .i64 x.1))], []⟩) (fun x => b.length - x.1) (0, 0) ⟨by simp, fun i _ _ hi => by simp at hi⟩ (by simp) (by simp) ?_
    rintro ⟨k, z⟩ ⟨hk, hok⟩
    simp only at hk hok ⊢
    by_cases h1 : k < b.length
    · have h2 : k < a.length := by omega
      have hle : b.length ≤ a.length := by omega
      have hat := isl_at h2
      have hat2 := isl_at h1
      have e1 : IntKind.i64.wrap ((k : Int) + 1) = ((k + 1 : Nat) : Int) := by rw [i64_id (by omega) (by omega)]; rfl
      simp [h1, i64c]
      refine draw_quiet (by kernel_rfl) (by kernel_rfl) (by kernel_rfl) ?_
      by_cases g : a[k] = b[k]
      · simp [h1, hat, hat2, i64c, g, hle]
        have hok2 : ∀ i (ha : i < a.length) (hb : i < b.length), i < k + 1 → a[i] = b[i] := fun i ha hb hi => by
          by_cases hik : i = k
          · subst hik; exact g
          · exact hok i ha hb (by omega)
        exact SLx.again (k + 1, 0) ⟨by simp only; omega, hok2⟩ (by simp only; omega) (by simp [e1]) (by simp)
      · have hne : ¬ a = b := fun h => g (by subst h; rfl)
        simp [h1, hat, hat2, i64c, g, hne, hle]
    · have hk2 : k = b.length := by omega
      subst hk2
      have heq : a = b := List.ext_getElem hl fun i ha hb => hok i ha hb hb
      simp [i64c, heq]
  · have hne : ¬ a = b := fun h => hl (by rw [h])
    have hl2 : ¬ (a.length : Int) = b.length := by omega
    simp [i64c, hl, hl2, hne]

set_option maxHeartbeats 1000000 in
set_option maxRecDepth 100000 in
theorem Equal_T (a b : List Int) (hb : a.length ≤ 1000000) : callT Try.prog 37 [.isl (a.map i64c) a.length, .isl (b.map i64c) b.length] ⟨[], []⟩ (fun x h => x = .v (.bool (decide (a = b))) ∧ h = []) := by
  refine callT_of_body [0, 1, 4, 5, 10, 12, 13, 14, 24] [] Try.func37 rfl (by decide) (by kernel_rfl) rfl ?_
  by_cases hl : a.length = b.length
  · simp [i64c, hl]
    refine loopT_of (Nat × Nat) (fun x => x.1 ≤ b.length ∧ ∀ i (ha : i < a.length) (hb : i < b.length), i < x.1 → a[i] = b[i]) (fun x => ⟨[(0, .isl (a.map i64c) b.length), (1, .isl (b.map i64c) b.length), (12, .v (.int .i64 b.length)), (13, .v (.int .i64 x.1))], []⟩) (fun x => b.length - x.1) (0, 0) ⟨by simp, fun i _ _ hi => by simp at hi⟩ (by simp) (by simp) ?_
    rintro ⟨k, z⟩ ⟨hk, hok⟩
    simp only at hk hok ⊢
    by_cases h1 : k < b.length
    · have h2 : k < a.length := by omega
      have hle : b.length ≤ a.length := by omega
      have hat := isl_at h2
      have hat2 := isl_at h1
      have e1 : IntKind.i64.wrap ((k : Int) + 1) = ((k + 1 : Nat) : Int) := by rw [i64_id (by omega) (by omega)]; rfl
      simp [h1, i64c]
      refine draw_quiet (by kernel_rfl) (by kernel_rfl) (by kernel_rfl) ?_
      by_cases g : a[k] = b[k]
      · simp [h1, hat, hat2, i64c, g, hle]
        have hok2 : ∀ i (ha : i < a.length) (hb : i < b.length), i < k + 1 → a[i] = b[i] := fun i ha hb hi => by
          by_cases hik : i = k
          · subst hik; exact g
          · exact hok i ha hb (by omega)
        exact SLx.again (k + 1, 0) ⟨by simp only; omega, hok2⟩ (by simp only; omega) (by simp [e1]) (by simp)
      · have hne : ¬ a = b := fun h => g (by subst h; rfl)
        simp [h1, hat, hat2, i64c, g, hne, hle]
    · have hk2 : k = b.length := by omega
      subst hk2
      have heq : a = b := List.ext_getElem hl fun i ha hb => hok i ha hb hb
      simp [i64c, heq]
  · have hne : ¬ a = b := fun h => hl (by rw [h])
    have hl2 : ¬ (a.length : Int) = b.length := by omega
    simp [i64c, hl, hl2, hne]

end Go.Proofs.Ytmpmkedebjejgaa.TL
