/- The law RosterTexts, as the code runs. -/
import Derived.Test.YtekmhdiajjfgfaaDoorURosU
import Derived.Test.YtekmhdiajjfgfaaDoorURosI
import Derived.Test.YtekmhdiajjfgfaaDoorURosW
import Derived.Test.YtekmhdiajjfgfaaDoorUWire
import Derived.Test.YtekmhdiajjfgfaaDoorURowsR
namespace Go.Proofs.YtekmhdiajjfgfaaDoor.TL
open Go
set_option linter.unusedVariables false
set_option linter.unusedSimpArgs false

theorem vot_nb (rest : List UInt8) : ∀ (v pre : List Int), (∀ n ∈ v, 0 ≤ n ∧ n ≤ 31) → In.vot v.length ⟨nbs (v.map Int.toNat) ++ rest, 0⟩ pre = (⟨rest, 0⟩, pre ++ v)
  | [], pre, _ => by simp [In.vot]
  | n :: v, pre, h => by
    have hn := h n List.mem_cons_self
    have e1 : nbs ((n :: v).map Int.toNat) ++ rest = nb n.toNat ++ (nbs (v.map Int.toNat) ++ rest) := by simp [nbs]
    have e2 : ((n.toNat : Nat) : Int) = n := by omega
    have hc := In.count_nb (nbs (v.map Int.toNat) ++ rest) (n := n.toNat) (m := 31) (by decide) (by omega)
    rw [List.length_cons, In.vot, if_neg (by simp), e1, hc, e2, vot_nb rest v (pre ++ [n]) fun m hm => h m (List.mem_cons_of_mem _ hm)]
    simp
theorem okAt_rise {r : Ros} {no : Int} {l : List Int} (h : ∀ i, i < l.length → r.okAt no l i = true) : ∀ (i : Nat) (hi : i < l.length), (i : Int) ≤ l[i] ∧ l[i] < 32
  | 0, hi => by
    have h0 := h 0 hi
    simp only [Ros.okAt, Ros.has, Bool.and_eq_true, decide_eq_true_eq] at h0
    have hg : l.getD 0 0 = l[0] := by simp [hi]
    rw [hg] at h0
    exact ⟨by omega, h0.1.2.1⟩
  | i + 1, hi => by
    have h0 := h (i + 1) hi
    have ih := okAt_rise h i (by omega)
    have hg : l.getD (i + 1) 0 = l[i + 1] := by simp [hi]
    have hg2 : l.getD (i + 1 - 1) 0 = l[i] := by simp [show i < l.length by omega]
    simp only [Ros.okAt, Ros.has, hg, hg2, Bool.and_eq_true, Bool.or_eq_true, decide_eq_true_eq] at h0
    have h3 : l[i] < l[i + 1] := by
      rcases h0.2.2 with h4 | h4
      · omega
      · exact h4
    exact ⟨by omega, h0.1.2.1⟩
theorem chk_v {r : Ros} {c : Chg} (h : r.chk c = 0) : (1 ≤ c.k ∧ c.k ≤ 3) ∧ (∀ n ∈ c.v, 0 ≤ n ∧ n ≤ 31) ∧ c.v.length ≤ 32 := by
  unfold Ros.chk at h
  split at h
  · cases h
  rename_i h1
  split at h
  · cases h
  rename_i h2
  refine ⟨by omega, ?_⟩
  by_cases hk : c.k = 3
  · split at h
    · omega
    split at h
    · cases h
    split at h
    · cases h
    rename_i hm
    have hmm : r.most c.p c.v = true := by
      cases hx : r.most c.p c.v with
      | true => rfl
      | false => exact absurd ⟨hk, hx⟩ hm
    unfold Ros.most at hmm
    simp only [Bool.and_eq_true, List.all_eq_true, List.mem_range] at hmm
    have hr := okAt_rise hmm.1
    refine ⟨fun n hn => ?_, ?_⟩
    · obtain ⟨i, hi, rfl⟩ := List.getElem_of_mem hn
      have := hr i hi
      omega
    · rcases Nat.lt_or_ge 32 c.v.length with h5 | h5
      · have := hr 32 h5
        omega
      · exact h5
  · have : c.v = [] := List.length_eq_zero_iff.1 (by omega)
    rw [this]
    exact ⟨fun n hn => (by cases hn), Nat.zero_le _⟩
theorem chk_small {r : Ros} {c : Chg} (h : r.chk c = 0) : c.small := by
  have h1 := chk_v h
  have h2 := chk_rng h
  exact ⟨by omega, by omega, fun n hn => by have := h1.2.1 n hn; omega, by omega⟩
theorem chg_nb {r : Ros} {c : Chg} (h : r.chk c = 0) : In.chg ⟨c.bytes, 0⟩ = (⟨[], 0⟩, c) := by
  obtain ⟨h1, h2, h3⟩ := chk_v h
  have h4 := chk_rng h
  have e1 : c.bytes = nb c.k.toNat ++ (nb c.p.toNat ++ (nb c.v.length ++ (nbs (c.v.map Int.toNat) ++ []))) := by simp [Chg.bytes, nbs]
  have k1 := In.count_nb (nb c.p.toNat ++ (nb c.v.length ++ (nbs (c.v.map Int.toNat) ++ []))) (n := c.k.toNat) (m := 3) (by decide) (by omega)
  have k2 := In.count_nb (nb c.v.length ++ (nbs (c.v.map Int.toNat) ++ [])) (n := c.p.toNat) (m := 31) (by decide) (by omega)
  have k3 := In.count_nb (nbs (c.v.map Int.toNat) ++ []) (n := c.v.length) (m := 32) (by decide) (by omega)
  have k4 := vot_nb [] c.v [] h2
  have e2 : ((c.k.toNat : Nat) : Int) = c.k := by omega
  have e3 : ((c.p.toNat : Nat) : Int) = c.p := by omega
  unfold In.chg
  simp only [e1, k1, k2, k3, Int.toNat_natCast, k4, e2, e3]
  simp
theorem ros_nb {r : Ros} (hs : r.s < 2 ^ 32) (he : 0 ≤ r.e) (he2 : r.e ≤ 1099511627776) : In.ros ⟨r.bytes, 0⟩ = (⟨[], 0⟩, r) := by
  have e1 : r.bytes = nb r.s ++ (nb r.e.toNat ++ []) := by simp [Ros.bytes]
  have k1 := In.count_nb (nb r.e.toNat ++ []) (n := r.s) (m := 4294967295) (by decide) (by omega)
  have k2 := In.count_nb [] (n := r.e.toNat) (m := 1099511627776) (by decide) (by omega)
  have e2 : ((r.e.toNat : Nat) : Int) = r.e := by omega
  unfold In.ros
  simp only [e1, k1, k2, e2]
  simp

set_option maxHeartbeats 8000000 in
set_option maxRecDepth 100000 in
theorem RosterTexts_T (ps : List Int) (l : List Chg) (hl : l.length ≤ maxLen) : callT Tryd.prog 6 [.isl (ps.map i64c) ps.length, .isl (rowG l) l.length] ⟨[], []⟩ (fun x h => x = .v (.bool true)) := by
  refine callT_of_body [0, 1, 4, 5, 6, 8, 9, 10, 11, 12, 13, 14, 16, 19, 27, 28, 29, 30, 36, 73] [] Tryd.func6 rfl (by decide) (by kernel_rfl) rfl ?_
  simp
  refine callT_eq [] Awk18_T ?_
  have hfl := few_length l
  have hfv := few_v (l := l)
  have hfew := Few_T l hl
  generalize hF : few l = F at hfl hfv hfew
  have hv : ∀ c ∈ F, c.v.length ≤ 1000000 := fun c hc => by have := hfv c hc; omega
  have hsuf : ∀ (m : List Int) (n : Nat), m.length = n → n ≤ 40 → callT Tryd.prog 8 [.isl (m.map i64c) n] ⟨[], []⟩ (fun x h => x = .agg (Ros.mk (setOf m) 0).cells ∧ h = []) ∧ callT Tryd.prog 9 [.isl (m.map i64c) n] ⟨[], []⟩ (fun x h => x = rRos ⟨setOf m, 0⟩ ∧ h = []) := fun m n h1 h2 => by
    subst h1
    exact ⟨ROf_T m (by omega), OfR_T m (by omega)⟩
  have hcases : (40 < ps.length ∧ 40 ≤ ps.length) ∨ (¬ 40 < ps.length) := by omega
  rcases hcases with ⟨hp, hp2⟩ | hp
  · have hp' : (40 : Int) < ps.length := by omega
    have hml : (ps.take 40).length = 40 := by simp; omega
    simp [hp', hp, hp2]
    rw [← List.map_take]
    generalize ps.take 40 = m at hml ⊢
    refine ⟨by omega, ?_⟩
    obtain ⟨hof, hofr⟩ := hsuf m 40 hml (by omega)
    have hs := setOf_lt m
    generalize setOf m = S at hs hof hofr
    refine callT_eq [] hof ?_
    simp [Ros.cells, u32v, i64c]
    refine callT_eq [] hofr ?_
    simp [Ros.cells, u32v, i64c]
    intro v5 v6
    refine callT_eq [] hfew ?_
    simp [Ros.cells, u32v, i64c]
    refine loopT_of (Nat × Ros) (fun x => x.1 ≤ F.length ∧ x.2.s < 2 ^ 32 ∧ 0 ≤ x.2.e ∧ x.2.e ≤ x.1) (fun x => ⟨[(5, .at 5 v5 0), (6, .at 6 v6 0), (27, .isl (rowG F) F.length), (28, .v (.int .i64 F.length)), (29, .v (.int .i64 x.1))], [(5, v5, ⟨0, [u32v x.2.s, i64c x.2.e]⟩), (6, v6, ⟨0, rosC x.2⟩)]⟩) (fun x => F.length - x.1) (0, ⟨S, 0⟩) ⟨by simp, hs, by simp, by simp⟩ (by simp) (by simp [u32v, i64c]) ?_
    rintro ⟨k, R⟩ ⟨hk, hR, he0, hek⟩
    simp only at hk hR he0 hek ⊢
    by_cases h1 : k < F.length
    · have hat := rowG_at h1
      have hvk := hv F[k] (List.getElem_mem h1)
      have hvk2 := hfv F[k] (List.getElem_mem h1)
      have hgl := goW_lt (was := R) hR [F[k]] R hR
      generalize hcc : F[k] = c at hat hvk hvk2 hgl
      have e1 : IntKind.i64.wrap ((k : Int) + 1) = ((k + 1 : Nat) : Int) := by rw [i64_id (by omega) (by omega)]; rfl
      have hw := RWith_T R [c] hR (by simp) (by simpa using hvk) he0 (by omega)
      have hwr := WithR_T R [c] hR (by simp) (by simpa using hvk) he0 (by omega)
      simp [h1, hat, hcc, i64c, u32v]
      intro v8
      refine callT_eq [] (RChk_T R c hR hvk) ?_
      by_cases hc : R.chk c = 0
      · rw [go1_ok hc] at hgl hw hwr
        simp only at hgl
        have hsm := chk_small hc
        have hnb := chg_nb hc
        simp [Ros.cells, Chg.cells, u32v, i64c, hc]
        intro v9
        refine callT.pre (fn_of (CPut_T 0 0 [] c hsm (by simp))) (CLx.nilCell 9 0 1001 1 (by decide) (by decide) rfl rfl fun v1 => CLx.done ?_)
        simp
        refine callT_ex [(1000, 9), (1001, 1001)] (CPut_T v9 v1 [] c hsm (by simp)) ?_
        simp [Ros.cells, Chg.cells, u32v, i64c]
        intro u1
        refine callT_eq [(1000, 9), (1001, 1001)] (OutText_T v9 u1 c.bytes) ?_
        simp [Ros.cells, Chg.cells, u32v, i64c]
        refine callT_ex [(5, 40)] (Open_T c.bytes) ?_
        simp [Ros.cells, Chg.cells, u32v, i64c]
        intro v40
        have hrd := RdChg_T v40 ⟨c.bytes, 0⟩
        rw [hnb] at hrd
        simp only at hrd
        refine callT_eq [(1000, 40)] hrd ?_
        simp [Ros.cells, Chg.cells, u32v, i64c]
        intro v11
        refine draw_g [1, 0, 2, 3, 4, 5, 6, 7, 8, 9, 10, 11, 12, 13, 14, 15, 16, 17, 18, 19, 20, 21, 22, 23, 24, 25, 26, 27] 28 [(0, []), (2, [0, 1]), (6, [0, 1, 2, 3, 4, 5])] (by kernel_rfl) (by kernel_rfl) (by kernel_rfl) ?_
        simp [Ros.cells, Chg.cells, u32v, i64c]
        refine callT_eq [(1000, 9), (1001, 1001)] (OutText_T v9 u1 c.bytes) ?_
        simp [Ros.cells, Chg.cells, u32v, i64c]
        refine callT_eq [] (CTextR_T c hsm) ?_
        simp [Ros.cells, Chg.cells, u32v, i64c]
        refine callT_eq [(1000, 40)] (End_T v40 ⟨[], 0⟩) ?_
        simp [Ros.cells, Chg.cells, u32v, i64c, In.fin]
        refine callT_eq [] (Same_T c.v c.v (by omega)) ?_
        simp [Ros.cells, Chg.cells, u32v, i64c]
        intro v77
        refine callT.pre (fn_of hw) (CLx.frz 77 rfl (CLx.done ?_))
        simp
        refine callT_eq [] hw ?_
        simp [Ros.cells, Chg.cells, u32v, i64c]
        intro v84
        refine callT.pre (fn_of hwr) (CLx.frz 84 rfl (CLx.done ?_))
        simp
        refine callT_eq [] hwr ?_
        simp [Ros.cells, Chg.cells, u32v, i64c]
        exact SLx.again (k + 1, R.app c) ⟨by simp only; omega, hgl, by simp only [Ros.app]; omega, by simp only [Ros.app]; omega⟩ (by simp only; omega) (by simp [e1]) (by simp [u32v, i64c])
      · simp [Ros.cells, Chg.cells, u32v, i64c, hc]
        exact SLx.again (k + 1, R) ⟨by simp only; omega, hR, he0, by simp only; omega⟩ (by simp only; omega) (by simp [e1]) (by simp [u32v, i64c])
    · have : k = F.length := by omega
      subst this
      have hnb := ros_nb hR he0 (by omega)
      simp [i64c, u32v]
      intro v12
      refine callT.pre (fn_of (RPut_T 0 0 [] R hR he0 (by omega) (by simp))) (CLx.nilCell 12 0 1001 1 (by decide) (by decide) rfl rfl fun v1 => CLx.done ?_)
      simp
      refine callT_ex [(1000, 12), (1001, 1001)] (RPut_T v12 v1 [] R hR he0 (by omega) (by simp)) ?_
      simp [Ros.cells, Chg.cells, u32v, i64c]
      intro u1
      refine callT_eq [(1000, 12), (1001, 1001)] (OutText_T v12 u1 R.bytes) ?_
      simp [Ros.cells, Chg.cells, u32v, i64c]
      refine callT_ex [(5, 92)] (Open_T R.bytes) ?_
      simp [Ros.cells, Chg.cells, u32v, i64c]
      intro v92
      have hrd := RRead_T v92 ⟨R.bytes, 0⟩
      rw [hnb] at hrd
      simp only at hrd
      refine callT_eq [(1000, 92)] hrd ?_
      simp [Ros.cells, Chg.cells, u32v, i64c]
      intro v14
      refine draw_g [1, 0, 2, 3, 4, 5, 6, 7, 8, 9, 10, 11, 12, 13, 14, 15, 16] 17 [(0, []), (2, [0, 1]), (6, [0, 1, 2, 3, 4, 5]), (12, [0, 1, 2, 3, 4, 5, 6, 7, 8, 9, 10, 11])] (by kernel_rfl) (by kernel_rfl) (by kernel_rfl) ?_
      simp [Ros.cells, Chg.cells, u32v, i64c]
      refine callT_eq [(1000, 12), (1001, 1001)] (OutText_T v12 u1 R.bytes) ?_
      simp [Ros.cells, Chg.cells, u32v, i64c]
      refine callT_eq [] (RTextR_T R hR he0 (by omega)) ?_
      simp [Ros.cells, Chg.cells, u32v, i64c]
      refine callT_eq [(1000, 92)] (End_T v92 ⟨[], 0⟩) ?_
      simp [Ros.cells, Chg.cells, u32v, i64c, In.fin]
      refine callT_eq [] (RSame_T R R hR hR) ?_
      simp [Ros.cells, Chg.cells, u32v, i64c]
      refine callT_eq [] (Is_T R hR) ?_
      simp [Ros.cells, Chg.cells, u32v, i64c]
  · have hp' : ¬ (40 : Int) < ps.length := by omega
    simp [hp', hp]
    obtain ⟨hof, hofr⟩ := hsuf ps ps.length rfl (by omega)
    generalize ps.length = n at hof hofr ⊢
    generalize hm : ps = m at hof hofr ⊢
    have hs := setOf_lt m
    generalize setOf m = S at hs hof hofr
    refine callT_eq [] hof ?_
    simp [Ros.cells, u32v, i64c]
    refine callT_eq [] hofr ?_
    simp [Ros.cells, u32v, i64c]
    intro v5 v6
    refine callT_eq [] hfew ?_
    simp [Ros.cells, u32v, i64c]
    refine loopT_of (Nat × Ros) (fun x => x.1 ≤ F.length ∧ x.2.s < 2 ^ 32 ∧ 0 ≤ x.2.e ∧ x.2.e ≤ x.1) (fun x => ⟨[(5, .at 5 v5 0), (6, .at 6 v6 0), (27, .isl (rowG F) F.length), (28, .v (.int .i64 F.length)), (29, .v (.int .i64 x.1))], [(5, v5, ⟨0, [u32v x.2.s, i64c x.2.e]⟩), (6, v6, ⟨0, rosC x.2⟩)]⟩) (fun x => F.length - x.1) (0, ⟨S, 0⟩) ⟨by simp, hs, by simp, by simp⟩ (by simp) (by simp [u32v, i64c]) ?_
    rintro ⟨k, R⟩ ⟨hk, hR, he0, hek⟩
    simp only at hk hR he0 hek ⊢
    by_cases h1 : k < F.length
    · have hat := rowG_at h1
      have hvk := hv F[k] (List.getElem_mem h1)
      have hvk2 := hfv F[k] (List.getElem_mem h1)
      have hgl := goW_lt (was := R) hR [F[k]] R hR
      generalize hcc : F[k] = c at hat hvk hvk2 hgl
      have e1 : IntKind.i64.wrap ((k : Int) + 1) = ((k + 1 : Nat) : Int) := by rw [i64_id (by omega) (by omega)]; rfl
      have hw := RWith_T R [c] hR (by simp) (by simpa using hvk) he0 (by omega)
      have hwr := WithR_T R [c] hR (by simp) (by simpa using hvk) he0 (by omega)
      simp [h1, hat, hcc, i64c, u32v]
      intro v8
      refine callT_eq [] (RChk_T R c hR hvk) ?_
      by_cases hc : R.chk c = 0
      · rw [go1_ok hc] at hgl hw hwr
        simp only at hgl
        have hsm := chk_small hc
        have hnb := chg_nb hc
        simp [Ros.cells, Chg.cells, u32v, i64c, hc]
        intro v9
        refine callT.pre (fn_of (CPut_T 0 0 [] c hsm (by simp))) (CLx.nilCell 9 0 1001 1 (by decide) (by decide) rfl rfl fun v1 => CLx.done ?_)
        simp
        refine callT_ex [(1000, 9), (1001, 1001)] (CPut_T v9 v1 [] c hsm (by simp)) ?_
        simp [Ros.cells, Chg.cells, u32v, i64c]
        intro u1
        refine callT_eq [(1000, 9), (1001, 1001)] (OutText_T v9 u1 c.bytes) ?_
        simp [Ros.cells, Chg.cells, u32v, i64c]
        refine callT_ex [(5, 40)] (Open_T c.bytes) ?_
        simp [Ros.cells, Chg.cells, u32v, i64c]
        intro v40
        have hrd := RdChg_T v40 ⟨c.bytes, 0⟩
        rw [hnb] at hrd
        simp only at hrd
        refine callT_eq [(1000, 40)] hrd ?_
        simp [Ros.cells, Chg.cells, u32v, i64c]
        intro v11
        refine draw_g [1, 0, 2, 3, 4, 5, 6, 7, 8, 9, 10, 11, 12, 13, 14, 15, 16, 17, 18, 19, 20, 21, 22, 23, 24, 25, 26, 27] 28 [(0, []), (2, [0, 1]), (6, [0, 1, 2, 3, 4, 5])] (by kernel_rfl) (by kernel_rfl) (by kernel_rfl) ?_
        simp [Ros.cells, Chg.cells, u32v, i64c]
        refine callT_eq [(1000, 9), (1001, 1001)] (OutText_T v9 u1 c.bytes) ?_
        simp [Ros.cells, Chg.cells, u32v, i64c]
        refine callT_eq [] (CTextR_T c hsm) ?_
        simp [Ros.cells, Chg.cells, u32v, i64c]
        refine callT_eq [(1000, 40)] (End_T v40 ⟨[], 0⟩) ?_
        simp [Ros.cells, Chg.cells, u32v, i64c, In.fin]
        refine callT_eq [] (Same_T c.v c.v (by omega)) ?_
        simp [Ros.cells, Chg.cells, u32v, i64c]
        intro v77
        refine callT.pre (fn_of hw) (CLx.frz 77 rfl (CLx.done ?_))
        simp
        refine callT_eq [] hw ?_
        simp [Ros.cells, Chg.cells, u32v, i64c]
        intro v84
        refine callT.pre (fn_of hwr) (CLx.frz 84 rfl (CLx.done ?_))
        simp
        refine callT_eq [] hwr ?_
        simp [Ros.cells, Chg.cells, u32v, i64c]
        exact SLx.again (k + 1, R.app c) ⟨by simp only; omega, hgl, by simp only [Ros.app]; omega, by simp only [Ros.app]; omega⟩ (by simp only; omega) (by simp [e1]) (by simp [u32v, i64c])
      · simp [Ros.cells, Chg.cells, u32v, i64c, hc]
        exact SLx.again (k + 1, R) ⟨by simp only; omega, hR, he0, by simp only; omega⟩ (by simp only; omega) (by simp [e1]) (by simp [u32v, i64c])
    · have : k = F.length := by omega
      subst this
      have hnb := ros_nb hR he0 (by omega)
      simp [i64c, u32v]
      intro v12
      refine callT.pre (fn_of (RPut_T 0 0 [] R hR he0 (by omega) (by simp))) (CLx.nilCell 12 0 1001 1 (by decide) (by decide) rfl rfl fun v1 => CLx.done ?_)
      simp
      refine callT_ex [(1000, 12), (1001, 1001)] (RPut_T v12 v1 [] R hR he0 (by omega) (by simp)) ?_
      simp [Ros.cells, Chg.cells, u32v, i64c]
      intro u1
      refine callT_eq [(1000, 12), (1001, 1001)] (OutText_T v12 u1 R.bytes) ?_
      simp [Ros.cells, Chg.cells, u32v, i64c]
      refine callT_ex [(5, 92)] (Open_T R.bytes) ?_
      simp [Ros.cells, Chg.cells, u32v, i64c]
      intro v92
      have hrd := RRead_T v92 ⟨R.bytes, 0⟩
      rw [hnb] at hrd
      simp only at hrd
      refine callT_eq [(1000, 92)] hrd ?_
      simp [Ros.cells, Chg.cells, u32v, i64c]
      intro v14
      refine draw_g [1, 0, 2, 3, 4, 5, 6, 7, 8, 9, 10, 11, 12, 13, 14, 15, 16] 17 [(0, []), (2, [0, 1]), (6, [0, 1, 2, 3, 4, 5]), (12, [0, 1, 2, 3, 4, 5, 6, 7, 8, 9, 10, 11])] (by kernel_rfl) (by kernel_rfl) (by kernel_rfl) ?_
      simp [Ros.cells, Chg.cells, u32v, i64c]
      refine callT_eq [(1000, 12), (1001, 1001)] (OutText_T v12 u1 R.bytes) ?_
      simp [Ros.cells, Chg.cells, u32v, i64c]
      refine callT_eq [] (RTextR_T R hR he0 (by omega)) ?_
      simp [Ros.cells, Chg.cells, u32v, i64c]
      refine callT_eq [(1000, 92)] (End_T v92 ⟨[], 0⟩) ?_
      simp [Ros.cells, Chg.cells, u32v, i64c, In.fin]
      refine callT_eq [] (RSame_T R R hR hR) ?_
      simp [Ros.cells, Chg.cells, u32v, i64c]
      refine callT_eq [] (Is_T R hR) ?_
      simp [Ros.cells, Chg.cells, u32v, i64c]
end Go.Proofs.YtekmhdiajjfgfaaDoor.TL
