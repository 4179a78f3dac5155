/- The law ChunkTexts, as the code runs. -/
import Derived.Test.YtijgbinkdjekoaaUGatA
namespace Go.Proofs.Ytijgbinkdjekoaa.TL
open Go
set_option linter.unusedVariables false
set_option linter.unusedSimpArgs false

theorem Told11_T (p : Pcs) : callT Try.prog 17 [.agg p.cells] ⟨[], []⟩ (fun x h => x = .agg p.cells ∧ h = []) := by
  refine callT_of_body [0, 1, 2] [] Try.func17 rfl (by decide) (by kernel_rfl) rfl ?_
  simp [Pcs.cells, i64c, u64c]
set_option maxHeartbeats 8000000 in
set_option maxRecDepth 100000 in
theorem ChunkTexts_T (p : Pcs) (s : List UInt8) (hh : p.h < 2 ^ 64) : callT Try.prog 6 [.agg p.cells, .v (.string (bs s))] ⟨[], []⟩ (fun r h => r = .v (.bool true)) := by
  refine callT_of_body [0, 1, 2, 4, 5, 6, 7, 8, 9, 10, 11, 27, 30, 51] [] Try.func6 rfl (by decide) (by kernel_rfl) rfl ?_
  have hcut1 := Cut_T s 200 (by decide)
  have hcut2 := Cut_T p.s 120 (by decide)
  have hzl : (s.take 200).length ≤ 200 := by simp; omega
  generalize s.take 200 = z at hcut1 hzl
  have hql : (p.s.take 120).length ≤ 120 := by simp; omega
  obtain ⟨pt, pb, ph, pn, ps⟩ := p
  simp only at hh hcut2 hql
  generalize ps.take 120 = qs at hcut2 hql
  simp [Pcs.cells, i64c, u64c]
  intro v2
  refine callT_eq [] hcut1 ?_
  simp
  refine callT_eq [] hcut2 ?_
  simp
  obtain ⟨q, hq⟩ : ∃ q : Pcs, q = ⟨pt, pb, ph, pn, qs⟩ := ⟨_, rfl⟩
  have hck := PcChk_T q (by rw [hq]; simp only; omega)
  have hckR := PcChkR_T q (by rw [hq]; simp only; omega)
  have htd := Told11_T q
  have hwf : q.chk = 0 → q.wf := fun h => ⟨h, by rw [hq]; exact hh⟩
  have e1 : pt = q.t := by rw [hq]
  have e2 : pb = q.b := by rw [hq]
  have e3 : ph = q.h := by rw [hq]
  have e4 : pn = q.n := by rw [hq]
  have e5 : qs = q.s := by rw [hq]
  rw [e1, e2, e3, e4, e5]
  clear e1 e2 e3 e4 e5 hq
  have hrd := fun v => PcRead_T v ⟨z, 0⟩
  have hrdR := PcReadR_T ⟨z, 0⟩
  generalize In.pcs ⟨z, 0⟩ = X at hrd hrdR
  refine draw_g [0, 1, 2, 3, 5, 4] 6 [(0, []), (4, [0, 1, 2, 3])] (by kernel_rfl) (by kernel_rfl) (by kernel_rfl) ?_
  simp [Pcs.cells, i64c, u64c] at hck hckR htd ⊢
  refine callT_eq [] Awk11_T ?_
  simp
  refine callT_eq [] hck ?_
  simp
  refine callT_eq [] htd ?_
  simp
  refine callT_eq [] hckR ?_
  simp
  refine callT_eq [] hck ?_
  by_cases hc : q.chk = 0
  · simp [hc]
    intro v5
    have hpok := (hwf hc).ok
    have hpt := PcPut_T 0 0 [] q hpok (by simp)
    refine callT.pre (fn_of hpt) (CLx.nilCell 5 0 1001 1 (by decide) (by decide) rfl rfl fun u1 => CLx.done ?_)
    simp
    refine callT_ex [(1000, 5), (1001, 1001)] (PcPut_T v5 u1 [] q hpok (by simp)) ?_
    simp [Pcs.cells, i64c, u64c]
    intro u2
    have hot := OutText_T v5 u2 q.bytes
    refine callT_eq [(1000, 5), (1001, 1001)] hot ?_
    simp
    have hnb := pcs_nb [] (hwf hc)
    rw [List.append_nil] at hnb
    refine callT_ex [(5, 34)] (Open_T q.bytes) ?_
    simp
    intro v34
    have hrq := PcRead_T v34 ⟨q.bytes, 0⟩
    rw [hnb] at hrq
    refine callT_eq [(1000, 34)] hrq ?_
    simp [Pcs.cells, i64c, u64c]
    intro v7
    refine draw_g [1, 0, 2, 3, 4, 5, 6, 7] 8 [(0, []), (2, [0, 1]), (3, [0, 1, 2])] (by kernel_rfl) (by kernel_rfl) (by kernel_rfl) ?_
    simp
    refine callT_eq [(1000, 5), (1001, 1001)] hot ?_
    simp
    refine callT_eq [] htd ?_
    simp
    have htx := PcTextR_T q hpok
    simp [Pcs.cells, i64c, u64c] at htx
    refine callT_eq [] htx ?_
    simp
    refine callT_eq [(1000, 34)] (End_T v34 ⟨[], 0⟩) ?_
    simp [In.fin]
    refine callT_ex [(5, 53)] (Open_T z) ?_
    simp
    intro v53
    refine callT_eq [(1000, 53)] (hrd v53) ?_
    simp [Pcs.cells, i64c, u64c]
    intro v9
    refine callT_eq [] hrdR ?_
    simp [Pcs.cells, i64c, u64c]
    intro v10 v11
    refine draw_g [0, 2, 3, 1, 4, 5, 6, 8, 7, 9, 10, 11, 12, 14, 15, 16, 13] 17 [(1, [0]), (7, [0, 1, 2, 3, 4, 5, 6]), (13, [0, 1, 2, 3, 4, 5, 6, 7, 8, 9, 10, 11, 12])] (by kernel_rfl) (by kernel_rfl) (by kernel_rfl) ?_
    simp
    refine callT_eq [(1000, 53)] (Err_T v53 X.1) ?_
    simp [rIn]
    refine callT_eq [] (Told11_T X.2) ?_
    simp [Pcs.cells, i64c, u64c]
    refine callT_eq [(1000, 53)] (InLen_T v53 X.1) ?_
    simp
  · simp [hc]
    refine callT_ex [(5, 53)] (Open_T z) ?_
    simp
    intro v53
    refine callT_eq [(1000, 53)] (hrd v53) ?_
    simp [Pcs.cells, i64c, u64c]
    intro v9
    refine callT_eq [] hrdR ?_
    simp [Pcs.cells, i64c, u64c]
    intro v10 v11
    refine draw_g [0, 2, 3, 1, 4, 5, 6, 8, 7, 9, 10, 11, 12, 14, 15, 16, 13] 17 [(1, [0]), (7, [0, 1, 2, 3, 4, 5, 6]), (13, [0, 1, 2, 3, 4, 5, 6, 7, 8, 9, 10, 11, 12])] (by kernel_rfl) (by kernel_rfl) (by kernel_rfl) ?_
    simp
    refine callT_eq [(1000, 53)] (Err_T v53 X.1) ?_
    simp [rIn]
    refine callT_eq [] (Told11_T X.2) ?_
    simp [Pcs.cells, i64c, u64c]
    refine callT_eq [(1000, 53)] (InLen_T v53 X.1) ?_
    simp
end Go.Proofs.Ytijgbinkdjekoaa.TL
