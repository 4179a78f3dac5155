/- The law RosterPlays, as the code runs. -/
import Derived.Test.YtekmhdiajjfgfaaDoorURowsR
namespace Go.Proofs.YtekmhdiajjfgfaaDoor.TL
open Go
set_option linter.unusedVariables false
set_option linter.unusedSimpArgs false

theorem go1_ok {R : Ros} {c : Chg} (h : R.chk c = 0) : R.goW R [c] = (R.app c, 0) := by
  rw [Ros.goW, if_neg (by simp [h])]; rfl
theorem go1_no {R : Ros} {c : Chg} (h : R.chk c ≠ 0) : R.goW R [c] = (R, R.chk c) := by
  rw [Ros.goW, if_pos h]
theorem drop_ok {R : Ros} {c : Chg} (h : R.chk c = 0) (hk : c.k = 3) : R.len < 2 * c.v.length ∧ (R.app c).has c.p = false := by
  have hr := chk_rng h
  have h1 : R.has c.p = true ∧ R.most c.p c.v = true := by
    unfold Ros.chk at h
    split at h
    · cases h
    split at h
    · cases h
    split at h
    · omega
    split at h
    · cases h
    rename_i hh
    split at h
    · cases h
    rename_i hm
    refine ⟨by simpa using hh, ?_⟩
    cases hmm : R.most c.p c.v with
    | true => rfl
    | false => exact absurd ⟨hk, hmm⟩ hm
  obtain ⟨h1, h2⟩ := h1
  refine ⟨?_, ?_⟩
  · unfold Ros.most at h2
    simp only [Bool.and_eq_true, decide_eq_true_eq] at h2
    exact h2.2
  · have hb : R.s.testBit c.p.toNat = true := by simpa [Ros.has, hr.1, hr.2] using h1
    simp [Ros.has, Ros.app, Nat.testBit_xor, Nat.testBit_two_pow, hb]

set_option maxHeartbeats 8000000 in
set_option maxRecDepth 100000 in
theorem RosterPlays_T (ps : List Int) (l : List Chg) (hl : l.length ≤ maxLen) : callT Tryd.prog 3 [.isl (ps.map i64c) ps.length, .isl (rowG l) l.length] ⟨[], []⟩ (fun x h => x = .v (.bool true)) := by
  refine callT_of_body [0, 1, 4, 5, 6, 8, 9, 10, 11, 12, 13, 15, 18, 28, 30, 31, 32, 33, 81, 103] [] Tryd.func3 rfl (by decide) (by kernel_rfl) rfl ?_
  simp
  refine callT_eq [] Awk18_T ?_
  have hfl := few_length l
  have hfv := few_v (l := l)
  have hfew := Few_T l hl
  generalize hF : few l = F at hfl hfv hfew
  have hv : ∀ c ∈ F, c.v.length ≤ 1000000 := fun c hc => by have := hfv c hc; omega
  have hsuf : ∀ (m : List Int) (n : Nat), m.length = n → n ≤ 40 → callT Tryd.prog 8 [.isl (m.map i64c) n] ⟨[], []⟩ (fun x h => x = .agg (Ros.mk (setOf m) 0).cells ∧ h = []) ∧ callT Tryd.prog 9 [.isl (m.map i64c) n] ⟨[], []⟩ (fun x h => x = rRos ⟨setOf m, 0⟩ ∧ h = []) := fun m n h1 h2 => by
    subst h1
    exact ⟨ROf_T m (by omega), OfR_T m (by omega)⟩
  have hcases : (40 < ps.length ∧ 40 ≤ ps.length) ∨ (¬ 40 < ps.length) := by omega
  rcases hcases with ⟨hp, hp2⟩ | hp
  · have hp' : (40 : Int) < ps.length := by omega
    have hml : (ps.take 40).length = 40 := by simp; omega
    simp [hp', hp, hp2]
    rw [← List.map_take]
    generalize ps.take 40 = m at hml ⊢
    refine ⟨by omega, ?_⟩
    obtain ⟨hof, hofr⟩ := hsuf m 40 hml (by omega)
    have hs := setOf_lt m
    generalize setOf m = S at hs hof hofr
    refine callT_eq [] hof ?_
    simp [Ros.cells, u32v, i64c]
    refine callT_eq [] hofr ?_
    simp [Ros.cells, u32v, i64c]
    intro v5 v6
    refine callT_eq [] (Is_T ⟨S, 0⟩ hs) ?_
    simp [Ros.cells, u32v, i64c]
    refine callT_eq [] hfew ?_
    simp [Ros.cells, u32v, i64c]
    refine loopT_of (Nat × Ros) (fun x => x.1 ≤ F.length ∧ x.2.s < 2 ^ 32 ∧ 0 ≤ x.2.e ∧ x.2.e ≤ x.1) (fun x => ⟨[(5, .at 5 v5 0), (6, .at 6 v6 0), (30, .isl (rowG F) F.length), (31, .v (.int .i64 F.length)), (32, .v (.int .i64 x.1))], [(5, v5, ⟨0, [u32v x.2.s, i64c x.2.e]⟩), (6, v6, ⟨0, rosC x.2⟩)]⟩) (fun x => F.length - x.1) (0, ⟨S, 0⟩) ⟨by simp, hs, by simp, by simp⟩ (by simp) (by simp [u32v, i64c]) ?_
    rintro ⟨k, R⟩ ⟨hk, hR, he0, hek⟩
    simp only at hk hR he0 hek ⊢
    have hRl := pop32_le R.s
    by_cases h1 : k < F.length
    · have hat := rowG_at h1
      have hvk := hv F[k] (List.getElem_mem h1)
      have hvk2 := hfv F[k] (List.getElem_mem h1)
      have hgl := goW_lt (was := R) hR [F[k]] R hR
      generalize hcc : F[k] = c at hat hvk hvk2 hgl
      have e1 : IntKind.i64.wrap ((k : Int) + 1) = ((k + 1 : Nat) : Int) := by rw [i64_id (by omega) (by omega)]; rfl
      have hw := RWith_T R [c] hR (by simp) (by simpa using hvk) he0 (by omega)
      have hwr := WithR_T R [c] hR (by simp) (by simpa using hvk) he0 (by omega)
      simp [h1, hat, hcc, i64c, u32v]
      intro v8
      refine callT_eq [] (RChk_T R c hR hvk) ?_
      simp [Ros.cells, Chg.cells, u32v, i64c]
      intro v42
      refine callT.pre (fn_of hw) (CLx.frz 42 rfl (CLx.done ?_))
      simp
      refine callT_eq [] hw ?_
      simp [Ros.cells, Chg.cells, u32v, i64c]
      intro v10 v49
      refine callT.pre (fn_of hwr) (CLx.frz 49 rfl (CLx.done ?_))
      simp
      refine callT_eq [] hwr ?_
      simp [Ros.cells, Chg.cells, u32v, i64c]
      by_cases hc : R.chk c = 0
      · rw [go1_ok hc] at hgl ⊢
        simp only at hgl
        simp [Ros.cells, Chg.cells, u32v, i64c, hc]
        intro v12
        refine draw_g [0, 1, 2, 3, 4, 5, 6, 7, 8, 9, 10, 11, 12, 13, 14, 15, 16, 17, 18, 19, 21, 22, 23, 24, 25, 20] 26 [(11, [0, 1, 2, 3, 4, 5, 6, 7, 8, 9, 10]), (20, [0, 1, 2, 3, 4, 5, 6, 7, 8, 9, 10, 11, 12, 13, 14, 15, 16, 17, 18, 19])] (by kernel_rfl) (by kernel_rfl) (by kernel_rfl) ?_
        simp [Ros.cells, Chg.cells, u32v, i64c, hc]
        refine callT_eq [] (Is_T (R.app c) hgl) ?_
        simp [Ros.cells, Chg.cells, u32v, i64c, hc]
        refine callT_eq [] (RMost_T R c.p c.v hR hvk) ?_
        simp [Ros.cells, Chg.cells, u32v, i64c, hc]
        refine callT_eq [] (MostR_T R c.p c.v hvk) ?_
        by_cases hk3 : c.k = 3
        · obtain ⟨hd1, hd2⟩ := drop_ok hc hk3
          have e2 : IntKind.i64.wrap (2 * (c.v.length : Int)) = 2 * (c.v.length : Int) := i64_id (by omega) (by omega)
          have hd3 : ¬ 2 * (c.v.length : Int) ≤ R.len := by omega
          simp [Ros.cells, Chg.cells, u32v, i64c, hc, hk3]
          refine draw_g [0, 1, 2, 3, 4, 5, 6, 7, 8, 9, 10, 11, 12, 13, 14, 15, 16, 17, 18] 19 [(13, [0, 1, 2, 3, 4, 5, 6, 7, 12])] (by kernel_rfl) (by kernel_rfl) (by kernel_rfl) ?_
          simp [Ros.cells, Chg.cells, u32v, i64c, hc, hk3]
          refine callT_eq [] (RLen_T R hR) ?_
          simp [Ros.cells, Chg.cells, u32v, i64c, hc, hk3, e2, hd3]
          refine callT_eq [] (RHas_T (R.app c) c.p hgl) ?_
          simp [Ros.cells, Chg.cells, u32v, i64c, hc, hk3, e2, hd3, hd2]
          refine draw_g [0, 1, 2] 3 [(2, [0])] (by kernel_rfl) (by kernel_rfl) (by kernel_rfl) ?_
          simp [Ros.cells, Chg.cells, u32v, i64c]
          exact SLx.again (k + 1, R.app c) ⟨by simp only; omega, hgl, by simp only [Ros.app]; omega, by simp only [Ros.app]; omega⟩ (by simp only; omega) (by simp [e1]) (by simp [u32v, i64c])
        · simp [Ros.cells, Chg.cells, u32v, i64c, hc, hk3]
          refine draw_g [0, 1, 2, 3, 4, 5, 6, 7, 8, 9, 10, 11, 12, 13, 14, 15, 16, 17, 18] 19 [(13, [0, 1, 2, 3, 4, 5, 6, 7, 12])] (by kernel_rfl) (by kernel_rfl) (by kernel_rfl) ?_
          simp [Ros.cells, Chg.cells, u32v, i64c, hc, hk3]
          refine draw_g [0, 1, 2] 3 [(2, [0])] (by kernel_rfl) (by kernel_rfl) (by kernel_rfl) ?_
          simp [Ros.cells, Chg.cells, u32v, i64c]
          exact SLx.again (k + 1, R.app c) ⟨by simp only; omega, hgl, by simp only [Ros.app]; omega, by simp only [Ros.app]; omega⟩ (by simp only; omega) (by simp [e1]) (by simp [u32v, i64c])
      · rw [go1_no hc] at hgl ⊢
        simp only at hgl
        simp [Ros.cells, Chg.cells, u32v, i64c, hc]
        intro v12
        refine draw_g [0, 1, 2, 3, 4, 5, 6, 7, 8, 9, 10, 11, 12, 13, 14, 15, 16, 17, 18, 19, 21, 22, 23, 24, 25, 20] 26 [(11, [0, 1, 2, 3, 4, 5, 6, 7, 8, 9, 10]), (20, [0, 1, 2, 3, 4, 5, 6, 7, 8, 9, 10, 11, 12, 13, 14, 15, 16, 17, 18, 19])] (by kernel_rfl) (by kernel_rfl) (by kernel_rfl) ?_
        simp [Ros.cells, Chg.cells, u32v, i64c, hc]
        refine callT_eq [] (Is_T R hR) ?_
        simp [Ros.cells, Chg.cells, u32v, i64c, hc]
        refine callT_eq [] (RMost_T R c.p c.v hR hvk) ?_
        simp [Ros.cells, Chg.cells, u32v, i64c, hc]
        refine callT_eq [] (MostR_T R c.p c.v hvk) ?_
        by_cases hk3 : c.k = 3
        · simp [Ros.cells, Chg.cells, u32v, i64c, hc, hk3]
          refine draw_g [0, 1, 2, 3, 4, 5, 6, 7, 8, 9, 10, 11, 12, 13, 14, 15, 16, 17, 18] 19 [(13, [0, 1, 2, 3, 4, 5, 6, 7, 12])] (by kernel_rfl) (by kernel_rfl) (by kernel_rfl) ?_
          simp [Ros.cells, Chg.cells, u32v, i64c, hc, hk3]
          refine draw_g [0, 1, 2] 3 [(2, [0])] (by kernel_rfl) (by kernel_rfl) (by kernel_rfl) ?_
          simp [Ros.cells, Chg.cells, u32v, i64c]
          exact SLx.again (k + 1, R) ⟨by simp only; omega, hR, he0, by simp only; omega⟩ (by simp only; omega) (by simp [e1]) (by simp [u32v, i64c])
        · simp [Ros.cells, Chg.cells, u32v, i64c, hc, hk3]
          refine draw_g [0, 1, 2, 3, 4, 5, 6, 7, 8, 9, 10, 11, 12, 13, 14, 15, 16, 17, 18] 19 [(13, [0, 1, 2, 3, 4, 5, 6, 7, 12])] (by kernel_rfl) (by kernel_rfl) (by kernel_rfl) ?_
          simp [Ros.cells, Chg.cells, u32v, i64c, hc, hk3]
          refine draw_g [0, 1, 2] 3 [(2, [0])] (by kernel_rfl) (by kernel_rfl) (by kernel_rfl) ?_
          simp [Ros.cells, Chg.cells, u32v, i64c]
          exact SLx.again (k + 1, R) ⟨by simp only; omega, hR, he0, by simp only; omega⟩ (by simp only; omega) (by simp [e1]) (by simp [u32v, i64c])
    · have : k = F.length := by omega
      subst this
      simp [i64c, u32v]
      refine callT_eq [] (RSame_T R R hR hR) ?_
      simp [Ros.cells, u32v, i64c]
  · have hp' : ¬ (40 : Int) < ps.length := by omega
    simp [hp', hp]
    obtain ⟨hof, hofr⟩ := hsuf ps ps.length rfl (by omega)
    generalize ps.length = n at hof hofr ⊢
    generalize hm : ps = m at hof hofr ⊢
    have hs := setOf_lt m
    generalize setOf m = S at hs hof hofr
    refine callT_eq [] hof ?_
    simp [Ros.cells, u32v, i64c]
    refine callT_eq [] hofr ?_
    simp [Ros.cells, u32v, i64c]
    intro v5 v6
    refine callT_eq [] (Is_T ⟨S, 0⟩ hs) ?_
    simp [Ros.cells, u32v, i64c]
    refine callT_eq [] hfew ?_
    simp [Ros.cells, u32v, i64c]
    refine loopT_of (Nat × Ros) (fun x => x.1 ≤ F.length ∧ x.2.s < 2 ^ 32 ∧ 0 ≤ x.2.e ∧ x.2.e ≤ x.1) (fun x => ⟨[(5, .at 5 v5 0), (6, .at 6 v6 0), (30, .isl (rowG F) F.length), (31, .v (.int .i64 F.length)), (32, .v (.int .i64 x.1))], [(5, v5, ⟨0, [u32v x.2.s, i64c x.2.e]⟩), (6, v6, ⟨0, rosC x.2⟩)]⟩) (fun x => F.length - x.1) (0, ⟨S, 0⟩) ⟨by simp, hs, by simp, by simp⟩ (by simp) (by simp [u32v, i64c]) ?_
    rintro ⟨k, R⟩ ⟨hk, hR, he0, hek⟩
    simp only at hk hR he0 hek ⊢
    have hRl := pop32_le R.s
    by_cases h1 : k < F.length
    · have hat := rowG_at h1
      have hvk := hv F[k] (List.getElem_mem h1)
      have hvk2 := hfv F[k] (List.getElem_mem h1)
      have hgl := goW_lt (was := R) hR [F[k]] R hR
      generalize hcc : F[k] = c at hat hvk hvk2 hgl
      have e1 : IntKind.i64.wrap ((k : Int) + 1) = ((k + 1 : Nat) : Int) := by rw [i64_id (by omega) (by omega)]; rfl
      have hw := RWith_T R [c] hR (by simp) (by simpa using hvk) he0 (by omega)
      have hwr := WithR_T R [c] hR (by simp) (by simpa using hvk) he0 (by omega)
      simp [h1, hat, hcc, i64c, u32v]
      intro v8
      refine callT_eq [] (RChk_T R c hR hvk) ?_
      simp [Ros.cells, Chg.cells, u32v, i64c]
      intro v42
      refine callT.pre (fn_of hw) (CLx.frz 42 rfl (CLx.done ?_))
      simp
      refine callT_eq [] hw ?_
      simp [Ros.cells, Chg.cells, u32v, i64c]
      intro v10 v49
      refine callT.pre (fn_of hwr) (CLx.frz 49 rfl (CLx.done ?_))
      simp
      refine callT_eq [] hwr ?_
      simp [Ros.cells, Chg.cells, u32v, i64c]
      by_cases hc : R.chk c = 0
      · rw [go1_ok hc] at hgl ⊢
        simp only at hgl
        simp [Ros.cells, Chg.cells, u32v, i64c, hc]
        intro v12
        refine draw_g [0, 1, 2, 3, 4, 5, 6, 7, 8, 9, 10, 11, 12, 13, 14, 15, 16, 17, 18, 19, 21, 22, 23, 24, 25, 20] 26 [(11, [0, 1, 2, 3, 4, 5, 6, 7, 8, 9, 10]), (20, [0, 1, 2, 3, 4, 5, 6, 7, 8, 9, 10, 11, 12, 13, 14, 15, 16, 17, 18, 19])] (by kernel_rfl) (by kernel_rfl) (by kernel_rfl) ?_
        simp [Ros.cells, Chg.cells, u32v, i64c, hc]
        refine callT_eq [] (Is_T (R.app c) hgl) ?_
        simp [Ros.cells, Chg.cells, u32v, i64c, hc]
        refine callT_eq [] (RMost_T R c.p c.v hR hvk) ?_
        simp [Ros.cells, Chg.cells, u32v, i64c, hc]
        refine callT_eq [] (MostR_T R c.p c.v hvk) ?_
        by_cases hk3 : c.k = 3
        · obtain ⟨hd1, hd2⟩ := drop_ok hc hk3
          have e2 : IntKind.i64.wrap (2 * (c.v.length : Int)) = 2 * (c.v.length : Int) := i64_id (by omega) (by omega)
          have hd3 : ¬ 2 * (c.v.length : Int) ≤ R.len := by omega
          simp [Ros.cells, Chg.cells, u32v, i64c, hc, hk3]
          refine draw_g [0, 1, 2, 3, 4, 5, 6, 7, 8, 9, 10, 11, 12, 13, 14, 15, 16, 17, 18] 19 [(13, [0, 1, 2, 3, 4, 5, 6, 7, 12])] (by kernel_rfl) (by kernel_rfl) (by kernel_rfl) ?_
          simp [Ros.cells, Chg.cells, u32v, i64c, hc, hk3]
          refine callT_eq [] (RLen_T R hR) ?_
          simp [Ros.cells, Chg.cells, u32v, i64c, hc, hk3, e2, hd3]
          refine callT_eq [] (RHas_T (R.app c) c.p hgl) ?_
          simp [Ros.cells, Chg.cells, u32v, i64c, hc, hk3, e2, hd3, hd2]
          refine draw_g [0, 1, 2] 3 [(2, [0])] (by kernel_rfl) (by kernel_rfl) (by kernel_rfl) ?_
          simp [Ros.cells, Chg.cells, u32v, i64c]
          exact SLx.again (k + 1, R.app c) ⟨by simp only; omega, hgl, by simp only [Ros.app]; omega, by simp only [Ros.app]; omega⟩ (by simp only; omega) (by simp [e1]) (by simp [u32v, i64c])
        · simp [Ros.cells, Chg.cells, u32v, i64c, hc, hk3]
          refine draw_g [0, 1, 2, 3, 4, 5, 6, 7, 8, 9, 10, 11, 12, 13, 14, 15, 16, 17, 18] 19 [(13, [0, 1, 2, 3, 4, 5, 6, 7, 12])] (by kernel_rfl) (by kernel_rfl) (by kernel_rfl) ?_
          simp [Ros.cells, Chg.cells, u32v, i64c, hc, hk3]
          refine draw_g [0, 1, 2] 3 [(2, [0])] (by kernel_rfl) (by kernel_rfl) (by kernel_rfl) ?_
          simp [Ros.cells, Chg.cells, u32v, i64c]
          exact SLx.again (k + 1, R.app c) ⟨by simp only; omega, hgl, by simp only [Ros.app]; omega, by simp only [Ros.app]; omega⟩ (by simp only; omega) (by simp [e1]) (by simp [u32v, i64c])
      · rw [go1_no hc] at hgl ⊢
        simp only at hgl
        simp [Ros.cells, Chg.cells, u32v, i64c, hc]
        intro v12
        refine draw_g [0, 1, 2, 3, 4, 5, 6, 7, 8, 9, 10, 11, 12, 13, 14, 15, 16, 17, 18, 19, 21, 22, 23, 24, 25, 20] 26 [(11, [0, 1, 2, 3, 4, 5, 6, 7, 8, 9, 10]), (20, [0, 1, 2, 3, 4, 5, 6, 7, 8, 9, 10, 11, 12, 13, 14, 15, 16, 17, 18, 19])] (by kernel_rfl) (by kernel_rfl) (by kernel_rfl) ?_
        simp [Ros.cells, Chg.cells, u32v, i64c, hc]
        refine callT_eq [] (Is_T R hR) ?_
        simp [Ros.cells, Chg.cells, u32v, i64c, hc]
        refine callT_eq [] (RMost_T R c.p c.v hR hvk) ?_
        simp [Ros.cells, Chg.cells, u32v, i64c, hc]
        refine callT_eq [] (MostR_T R c.p c.v hvk) ?_
        by_cases hk3 : c.k = 3
        · simp [Ros.cells, Chg.cells, u32v, i64c, hc, hk3]
          refine draw_g [0, 1, 2, 3, 4, 5, 6, 7, 8, 9, 10, 11, 12, 13, 14, 15, 16, 17, 18] 19 [(13, [0, 1, 2, 3, 4, 5, 6, 7, 12])] (by kernel_rfl) (by kernel_rfl) (by kernel_rfl) ?_
          simp [Ros.cells, Chg.cells, u32v, i64c, hc, hk3]
          refine draw_g [0, 1, 2] 3 [(2, [0])] (by kernel_rfl) (by kernel_rfl) (by kernel_rfl) ?_
          simp [Ros.cells, Chg.cells, u32v, i64c]
          exact SLx.again (k + 1, R) ⟨by simp only; omega, hR, he0, by simp only; omega⟩ (by simp only; omega) (by simp [e1]) (by simp [u32v, i64c])
        · simp [Ros.cells, Chg.cells, u32v, i64c, hc, hk3]
          refine draw_g [0, 1, 2, 3, 4, 5, 6, 7, 8, 9, 10, 11, 12, 13, 14, 15, 16, 17, 18] 19 [(13, [0, 1, 2, 3, 4, 5, 6, 7, 12])] (by kernel_rfl) (by kernel_rfl) (by kernel_rfl) ?_
          simp [Ros.cells, Chg.cells, u32v, i64c, hc, hk3]
          refine draw_g [0, 1, 2] 3 [(2, [0])] (by kernel_rfl) (by kernel_rfl) (by kernel_rfl) ?_
          simp [Ros.cells, Chg.cells, u32v, i64c]
          exact SLx.again (k + 1, R) ⟨by simp only; omega, hR, he0, by simp only; omega⟩ (by simp only; omega) (by simp [e1]) (by simp [u32v, i64c])
    · have : k = F.length := by omega
      subst this
      simp [i64c, u32v]
      refine callT_eq [] (RSame_T R R hR hR) ?_
      simp [Ros.cells, u32v, i64c]
end Go.Proofs.YtekmhdiajjfgfaaDoor.TL
