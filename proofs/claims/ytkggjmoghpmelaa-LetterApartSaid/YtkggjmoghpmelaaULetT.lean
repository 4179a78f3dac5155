/- The law LetterTexts, as the code runs. -/
import Derived.Test.YtkggjmoghpmelaaUMake
namespace Go.Proofs.Ytkggjmoghpmelaa.TL
open Go
set_option linter.unusedVariables false
set_option linter.unusedSimpArgs false

theorem let_meth (x : Let) : methOf Try.prog x.ty "Kind" = some x.meth := by cases x <;> simp [Let.ty, Let.meth]
set_option maxHeartbeats 4000000 in
set_option maxRecDepth 100000 in
theorem LetterTexts_T (m : Mk) (hm : m.ok) : callT Try.prog 4 [.agg m.cells] ⟨[], []⟩ (fun r h => r = .v (.bool true)) := by
  refine callT_of_body [0, 1, 2, 3, 4, 5, 6, 7, 9, 45] [] Try.func4 rfl (by decide) (by kernel_rfl) rfl ?_
  have hmk := Make_T m hm
  have hw := mk_wf hm
  generalize mkLet m = x at hmk hw
  have hk := Kind_T x
  have ht := LetText_T x hw.rd
  have hp := LetParse_T x.bytes
  rw [letparse_nb hw] at hp
  have hf := FromHost_T x
  have hme := let_meth x
  have htv : x.tv = .ifc x.ty (.agg x.fl) := rfl
  have h0 := LetText0_T
  simp only [optTV, htv] at hp ht hf hmk
  generalize x.kind = K at hk hf
  simp [i64c] at hp ht hf hk hmk
  simp [Mk.cells, i64c, u64c] at hmk ⊢
  intro v1
  refine callT_eq [] Awk21_T ?_
  simp
  refine callT_eq [] hmk ?_
  simp
  refine callT_eq [] ht ?_
  simp
  refine callT_eq [] hp ?_
  simp [hme]
  refine callT_eq [] hk ?_
  simp [hme]
  refine callT_eq [] hk ?_
  simp
  refine callT_eq [] ht ?_
  simp
  refine callT_eq [] hf ?_
  simp [hme]
  refine callT_eq [] hk ?_
  by_cases h7 : 7 ≤ K
  · have h7' : (7 : Int) ≤ K := by omega
    simp [h7, h7']
    refine callT_eq [] h0 ?_
    simp
  · have h7' : ¬ (7 : Int) ≤ K := by omega
    simp [h7, h7']
    refine callT_eq [] h0 ?_
    simp
end Go.Proofs.Ytkggjmoghpmelaa.TL
