/- The law RosterRows, as the code runs. -/
import Derived.Test.YtekmhdiajjfgfaaDoorURosX
import Derived.Test.YtekmhdiajjfgfaaDoorURosR4
namespace Go.Proofs.YtekmhdiajjfgfaaDoor.TL
open Go
set_option linter.unusedVariables false
set_option linter.unusedSimpArgs false

theorem goW_lt {was : Ros} (hw : was.s < 2 ^ 32) : ∀ (l : List Chg) (r : Ros), r.s < 2 ^ 32 → (was.goW r l).1.s < 2 ^ 32
  | [], r, h => h
  | c :: l, r, h => by
    unfold Ros.goW
    split
    · exact hw
    · rename_i hc
      exact goW_lt hw l _ (app_lt h (by simpa using hc))
theorem goW_no {was : Ros} : ∀ (l : List Chg) (r : Ros), (was.goW r l).2 ≠ 0 → (was.goW r l).1 = was
  | [], r, h => absurd rfl h
  | c :: l, r, h => by
    unfold Ros.goW at h ⊢
    split
    · rfl
    · rename_i hc
      rw [if_neg hc] at h
      exact goW_no l _ h
theorem goW_e {was : Ros} : ∀ (l : List Chg) (r : Ros), (was.goW r l).2 = 0 → (was.goW r l).1.e = r.e + l.length
  | [], r, h => by simp [Ros.goW]
  | c :: l, r, h => by
    unfold Ros.goW at h ⊢
    split
    · rename_i hc
      rw [if_pos hc] at h
      exact absurd h hc
    · rename_i hc
      rw [if_neg hc] at h
      rw [goW_e l _ h]
      simp only [Ros.app, List.length_cons]
      omega
theorem go1_ok {R : Ros} {c : Chg} (h : R.chk c = 0) : R.goW R [c] = (R.app c, 0) := by
  rw [Ros.goW, if_neg (by simp [h])]; rfl
theorem go1_no {R : Ros} {c : Chg} (h : R.chk c ≠ 0) : R.goW R [c] = (R, R.chk c) := by
  rw [Ros.goW, if_pos h]
theorem few_v {l : List Chg} : ∀ c ∈ few l, c.v.length ≤ 34 := fun c hc => by
  obtain ⟨d, _, rfl⟩ := List.mem_map.1 hc
  simp [few1]
  omega

set_option maxHeartbeats 4000000 in
set_option maxRecDepth 100000 in
theorem RosterRows_T (ps : List Int) (l : List Chg) (hl : l.length ≤ maxLen) : callT Tryd.prog 4 [.isl (ps.map i64c) ps.length, .isl (rowG l) l.length] ⟨[], []⟩ (fun x h => x = .v (.bool true)) := by
  refine callT_of_body [0, 1, 4, 5, 6, 7, 8, 9, 11, 14, 53] [] Tryd.func4 rfl (by decide) (by kernel_rfl) rfl ?_
  simp
  refine callT_eq [] Awk18_T ?_
  have hfl := few_length l
  have hfv := few_v (l := l)
  have hfew := Few_T l hl
  generalize hF : few l = F at hfl hfv hfew
  have hv : ∀ c ∈ F, c.v.length ≤ 1000000 := fun c hc => by have := hfv c hc; omega
  have hsuf : ∀ (m : List Int) (n : Nat), m.length = n → n ≤ 40 → callT Tryd.prog 8 [.isl (m.map i64c) n] ⟨[], []⟩ (fun x h => x = .agg (Ros.mk (setOf m) 0).cells ∧ h = []) ∧ callT Tryd.prog 9 [.isl (m.map i64c) n] ⟨[], []⟩ (fun x h => x = rRos ⟨setOf m, 0⟩ ∧ h = []) := fun m n h1 h2 => by
    subst h1
    exact ⟨ROf_T m (by omega), OfR_T m (by omega)⟩
  have hcases : (40 < ps.length ∧ 40 ≤ ps.length) ∨ (¬ 40 < ps.length) := by omega
  rcases hcases with ⟨hp, hp2⟩ | hp
  · have hp' : (40 : Int) < ps.length := by omega
    have hml : (ps.take 40).length = 40 := by simp; omega
    simp [hp', hp, hp2]
    rw [← List.map_take]
    generalize ps.take 40 = m at hml ⊢
    refine ⟨by omega, ?_⟩
    obtain ⟨hof, hofr⟩ := hsuf m 40 hml (by omega)
    refine callT_eq [] hfew ?_
    simp
    have hs := setOf_lt m
    generalize setOf m = S at hs hof hofr
    refine callT_eq [] hof ?_
    simp [Ros.cells, u32v, i64c]
    intro v5
    refine callT_eq [] (RWith_T ⟨S, 0⟩ F hs (by omega) hv (by simp only; omega) (by simp only; omega)) ?_
    have gl := goW_lt (was := ⟨S, 0⟩) hs F ⟨S, 0⟩ hs
    have gn := goW_no (was := ⟨S, 0⟩) F ⟨S, 0⟩
    have ge := goW_e (was := ⟨S, 0⟩) F ⟨S, 0⟩
    have gz : F = [] → ((Ros.mk S 0).goW ⟨S, 0⟩ F).1 = ⟨S, 0⟩ := fun h => by subst h; rfl
    have hrw := WithR_T ⟨S, 0⟩ F hs (by omega) hv (by simp only; omega) (by simp only; omega)
    generalize (Ros.mk S 0).goW ⟨S, 0⟩ F = G at gl gn ge gz hrw ⊢
    obtain ⟨R, e⟩ := G
    simp only at gl gn ge gz
    simp [Ros.cells, u32v, i64c]
    intro v6
    refine callT_eq [] hofr ?_
    simp [Ros.cells, u32v, i64c]
    refine callT_eq [] (Told_T F (by omega)) ?_
    simp [Ros.cells, u32v, i64c]
    refine callT_eq [] hrw ?_
    simp [Ros.cells, u32v, i64c]
    intro v8
    refine callT_eq [] (Is_T R gl) ?_
    by_cases h0 : e = 0
    · simp [Ros.cells, u32v, i64c, h0]
      refine callT_eq [] (REpoch_T R) ?_
      have hRe := ge h0
      simp at hRe
      simp [Ros.cells, u32v, i64c, h0, hRe]
      refine callT_eq [] (RSame_T R R gl gl) ?_
      simp [Ros.cells, u32v, i64c, h0, hRe]
      refine callT_eq [] (RSame_T R ⟨S, 0⟩ gl hs) ?_
      by_cases hF0 : F = []
      · have hR := gz hF0
        subst hR
        simp [Ros.cells, u32v, i64c, h0, hF0]
      · have hF1 : ¬ F.length = 0 := fun h => hF0 (List.length_eq_zero_iff.1 h)
        simp [Ros.cells, u32v, i64c, h0, hF0, hRe]
    · have hR := gn h0
      subst hR
      simp [Ros.cells, u32v, i64c, h0]
      refine callT_eq [] (RSame_T ⟨S, 0⟩ ⟨S, 0⟩ hs hs) ?_
      simp [Ros.cells, u32v, i64c, h0]
  · have hp' : ¬ (40 : Int) < ps.length := by omega
    simp [hp', hp]
    refine callT_eq [] hfew ?_
    simp
    obtain ⟨hof, hofr⟩ := hsuf ps ps.length rfl (by omega)
    generalize ps.length = n at hof hofr ⊢
    generalize hm : ps = m at hof hofr ⊢
    have hs := setOf_lt m
    generalize setOf m = S at hs hof hofr
    refine callT_eq [] hof ?_
    simp [Ros.cells, u32v, i64c]
    intro v5
    refine callT_eq [] (RWith_T ⟨S, 0⟩ F hs (by omega) hv (by simp only; omega) (by simp only; omega)) ?_
    have gl := goW_lt (was := ⟨S, 0⟩) hs F ⟨S, 0⟩ hs
    have gn := goW_no (was := ⟨S, 0⟩) F ⟨S, 0⟩
    have ge := goW_e (was := ⟨S, 0⟩) F ⟨S, 0⟩
    have gz : F = [] → ((Ros.mk S 0).goW ⟨S, 0⟩ F).1 = ⟨S, 0⟩ := fun h => by subst h; rfl
    have hrw := WithR_T ⟨S, 0⟩ F hs (by omega) hv (by simp only; omega) (by simp only; omega)
    generalize (Ros.mk S 0).goW ⟨S, 0⟩ F = G at gl gn ge gz hrw ⊢
    obtain ⟨R, e⟩ := G
    simp only at gl gn ge gz
    simp [Ros.cells, u32v, i64c]
    intro v6
    refine callT_eq [] hofr ?_
    simp [Ros.cells, u32v, i64c]
    refine callT_eq [] (Told_T F (by omega)) ?_
    simp [Ros.cells, u32v, i64c]
    refine callT_eq [] hrw ?_
    simp [Ros.cells, u32v, i64c]
    intro v8
    refine callT_eq [] (Is_T R gl) ?_
    by_cases h0 : e = 0
    · simp [Ros.cells, u32v, i64c, h0]
      refine callT_eq [] (REpoch_T R) ?_
      have hRe := ge h0
      simp at hRe
      simp [Ros.cells, u32v, i64c, h0, hRe]
      refine callT_eq [] (RSame_T R R gl gl) ?_
      simp [Ros.cells, u32v, i64c, h0, hRe]
      refine callT_eq [] (RSame_T R ⟨S, 0⟩ gl hs) ?_
      by_cases hF0 : F = []
      · have hR := gz hF0
        subst hR
        simp [Ros.cells, u32v, i64c, h0, hF0]
      · have hF1 : ¬ F.length = 0 := fun h => hF0 (List.length_eq_zero_iff.1 h)
        simp [Ros.cells, u32v, i64c, h0, hF0, hRe]
    · have hR := gn h0
      subst hR
      simp [Ros.cells, u32v, i64c, h0]
      refine callT_eq [] (RSame_T ⟨S, 0⟩ ⟨S, 0⟩ hs hs) ?_
      simp [Ros.cells, u32v, i64c, h0]
end Go.Proofs.YtekmhdiajjfgfaaDoor.TL
