/- The law's Same; slices.Equal of numbers; the roster's Same. -/
import Derived.Test.YtekmhdiajjfgfaaDoorURosR
namespace Go.Proofs.YtekmhdiajjfgfaaDoor.TL
open Go
set_option linter.unusedVariables false
set_option linter.unusedSimpArgs false

theorem list_ext_lt {a b : List Int} (h : a.length = b.length) (hh : ∀ i (ha : i < a.length) (hb : i < b.length), i < b.length → a[i] = b[i]) : a = b :=
  List.ext_getElem h fun i h1 h2 => hh i h1 h2 h2

set_option maxHeartbeats 1000000 in
set_option maxRecDepth 100000 in
theorem Same_T (a b : List Int) (hb : b.length ≤ 1000000) : callT Tryd.prog 28 [.isl (a.map i64c) a.length, .isl (b.map i64c) b.length] ⟨[], []⟩ (fun x h => x = i64c (if a = b then 0 else -1) ∧ h = []) := by
  refine callT_of_body [0, 1, 4, 5, 10, 12, 13, 14, 24] [] Tryd.func28 rfl (by decide) (by kernel_rfl) rfl ?_
  by_cases hl : a.length = b.length
  · simp [i64c, hl]
    refine loopT_of (Nat × Nat) (fun x => x.1 ≤ b.length ∧ ∀ i (ha : i < a.length) (hb : i < b.length), i < x.1 → a[i] = b[i]) (fun x => ⟨[(0, .isl (a.map i64c) b.length), (1, .isl (b.map i64c) b.length), (12, .v (.int .i64 b.length)), (13, .v (.int .i64 x.1))], []⟩) (fun x => b.length - x.1) (0, 0) ⟨by simp, fun i _ _ hi => by simp at hi⟩ (by simp) (by simp) ?_
    rintro ⟨k, z⟩ ⟨hk, hok⟩
    simp only at hk hok ⊢
    by_cases h1 : k < b.length
    · have h2 : k < a.length := by omega
      have hle : b.length ≤ a.length := by omega
      have hat := isl_at h2
      have hat2 := isl_at h1
      have e1 : IntKind.i64.wrap ((k : Int) + 1) = ((k + 1 : Nat) : Int) := by rw [i64_id (by omega) (by omega)]; rfl
      simp [h1, i64c]
      refine draw_quiet (by kernel_rfl) (by kernel_rfl) (by kernel_rfl) ?_
      by_cases g : a[k] = b[k]
      · simp [h1, hat, hat2, i64c, g, hle]
        have hok2 : ∀ i (ha : i < a.length) (hb : i < b.length), i < k + 1 → a[i] = b[i] := fun i ha hb hi => by
          by_cases hik : i = k
          · subst hik; exact g
          · exact hok i ha hb (by omega)
        exact SLx.again (k + 1, 0) ⟨by simp only; omega, hok2⟩ (by simp only; omega) (by simp [e1]) (by simp)
      · have hne : ¬ a = b := fun h => g (by subst h; rfl)
        simp [h1, hat, hat2, i64c, g, hne, hle]
    · have hk2 : k = b.length := by omega
      subst hk2
      have heq : a = b := List.ext_getElem hl fun i ha hb => hok i ha hb hb
      simp [i64c, heq]
  · have hne : ¬ a = b := fun h => hl (by rw [h])
    have hl2 : ¬ (a.length : Int) = b.length := by omega
    simp [i64c, hl, hl2, hne]

set_option maxHeartbeats 1000000 in
set_option maxRecDepth 100000 in
theorem Equal_T (a b : List Int) (hb : a.length ≤ 1000000) : callT Tryd.prog 43 [.isl (a.map i64c) a.length, .isl (b.map i64c) b.length] ⟨[], []⟩ (fun x h => x = .v (.bool (decide (a = b))) ∧ h = []) := by
  refine callT_of_body [0, 1, 4, 5, 10, 12, 13, 14, 24] [] Tryd.func43 rfl (by decide) (by kernel_rfl) rfl ?_
  by_cases hl : a.length = b.length
  · simp [i64c, hl]
    refine loopT_of (Nat × Nat) (fun x => x.1 ≤ b.length ∧ ∀ i (ha : i < a.length) (hb : i < b.length), i < x.1 → a[i] = b[i]) (fun x => ⟨[(0, .isl (a.map i64c) b.length), (1, .isl (b.map i64c) b.length), (12, .v (.int .i64 b.length)), (13, .v (.int .i64 x.1))], []⟩) (fun x => b.length - x.1) (0, 0) ⟨by simp, fun i _ _ hi => by simp at hi⟩ (by simp) (by simp) ?_
    rintro ⟨k, z⟩ ⟨hk, hok⟩
    simp only at hk hok ⊢
    by_cases h1 : k < b.length
    · have h2 : k < a.length := by omega
      have hle : b.length ≤ a.length := by omega
      have hat := isl_at h2
      have hat2 := isl_at h1
      have e1 : IntKind.i64.wrap ((k : Int) + 1) = ((k + 1 : Nat) : Int) := by rw [i64_id (by omega) (by omega)]; rfl
      simp [h1, i64c]
      refine draw_quiet (by kernel_rfl) (by kernel_rfl) (by kernel_rfl) ?_
      by_cases g : a[k] = b[k]
      · simp [h1, hat, hat2, i64c, g, hle]
        have hok2 : ∀ i (ha : i < a.length) (hb : i < b.length), i < k + 1 → a[i] = b[i] := fun i ha hb hi => by
          by_cases hik : i = k
          · subst hik; exact g
          · exact hok i ha hb (by omega)
        exact SLx.again (k + 1, 0) ⟨by simp only; omega, hok2⟩ (by simp only; omega) (by simp [e1]) (by simp)
      · have hne : ¬ a = b := fun h => g (by subst h; rfl)
        simp [h1, hat, hat2, i64c, g, hne, hle]
    · have hk2 : k = b.length := by omega
      subst hk2
      have heq : a = b := List.ext_getElem hl fun i ha hb => hok i ha hb hb
      simp [i64c, heq]
  · have hne : ¬ a = b := fun h => hl (by rw [h])
    have hl2 : ¬ (a.length : Int) = b.length := by omega
    simp [i64c, hl, hl2, hne]

set_option maxHeartbeats 1000000 in
set_option maxRecDepth 100000 in
theorem RSame_T (r s : Ros) (hr : r.s < 2 ^ 32) (hs : s.s < 2 ^ 32) : callT Tryd.prog 19 [.agg r.cells, .agg s.cells] ⟨[], []⟩ (fun x h => x = .v (.bool (decide (r.s = s.s) && decide (r.e = s.e))) ∧ h = []) := by
  refine callT_of_body [0, 1, 2, 3, 4] [] Tryd.func19 rfl (by decide) (by kernel_rfl) rfl ?_
  simp [Ros.cells, u32v, i64c]
  intro v2 v3
  refine draw_g [0, 1, 2, 3, 4, 6, 5] 7 [(5, [0, 1, 2, 3, 4])] (by kernel_rfl) (by kernel_rfl) (by kernel_rfl) ?_
  have hal := r.all_len 32
  by_cases g1 : r.s = s.s
  · by_cases g2 : r.e = s.e
    · have hall : s.all 32 = r.all 32 := by simp [Ros.all, g1]
      simp [g1, g2]
      refine callT_eq [] (RAll_T r hr) ?_
      simp [Ros.cells, u32v, i64c, g1, g2]
      refine callT_eq [] (RAll_T s hs) ?_
      simp [Ros.cells, u32v, i64c, g1, g2, hall]
      refine callT_eq [] (Equal_T (r.all 32) (r.all 32) (by omega)) ?_
      simp [Ros.cells, u32v, i64c, g1, g2, hall]
    · simp [g1, g2]
  · have g1' : ¬ (r.s : Int) = s.s := by omega
    simp [g1, g1']
end Go.Proofs.YtekmhdiajjfgfaaDoor.TL
